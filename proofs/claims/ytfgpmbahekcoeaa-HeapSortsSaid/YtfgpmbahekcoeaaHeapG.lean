/- The contracts of Get, Set, Drop, Pop, and of Push at a full heap. No condition. -/
import Derived.Test.YtfgpmbahekcoeaaHeapK
namespace Go.Proofs.Ytfgpmbahekcoeaa
open Go.RowKit
section
variable {J : World → Prop} {FJ : Nat → Prop} {A : Int → Prop} {fv : Value} {G : Nat → Prop} {bh : Nat} {L : List It} {next : Int} {w : World}
variable {lt : Int → Int → Bool} {fl : Nat} {caps : Array Value}
theorem HeapIs.toHp (h : HeapIs J FJ A fv G bh L next w) (h0 : 0 < L.length) : ∃ bi bm cap, Hp J A fv (.int .i64 next) bh bi bm L.length cap L w ∧ L.length ≤ cap ∧ cap ≤ maxLen ∧ G bi ∧ G bm := by
  obtain ⟨sv, bm, hH, hR, hM, gm, gs⟩ := h.ex
  obtain ⟨bi, cap, arr, rfl, hcl, hcm, hI, hs, hc⟩ := row_at hR (List.length_pos_iff.1 h0)
  exact ⟨bi, bm, cap, ⟨h.j, hH, ⟨arr, hI, hs, hc⟩, hM, h.all, rfl⟩, hcl, hcm, gs bi rfl, gm⟩
/-- The heap behind a step that keeps its blocks. -/
theorem HeapIs.ofHp (h : HeapIs J FJ A fv G bh L next w) {L' : List It} {n bi bm cap : Nat} {w' : World} (hp : Hp J A fv (.int .i64 next) bh bi bm n cap L' w') (hn : n ≤ cap) (hc : cap ≤ maxLen) (gi : G bi) (gm : G bm)
    (hl : n ≤ L.length) (hsz : w.heap.size ≤ w'.heap.size) (hs : ∀ i, i < n → 0 ≤ (itAt L' i).2 ∧ (itAt L' i).2 < next) : HeapIs J FJ A fv G bh L' next w' := by
  have hlen := hp.len
  subst hlen
  obtain ⟨arr, r1, r2, r3⟩ := hp.row
  refine ⟨⟨_, bm, hp.hH, ⟨flat_length _, .inr ⟨bi, cap, arr, rfl, Nat.zero_le _, r1, hn, hc, r2, take_of_cells2 r3 (by rw [r2]; omega)⟩⟩, hp.map, gm, ?_⟩, h.gh, fun b hb => Nat.lt_of_lt_of_le (h.bd b hb) hsz, h.nj, hp.j, hp.all, hs, Nat.le_trans hl h.len, h.nx⟩
  intro b hb; simp only [Value.ownBlock, Option.some.injEq] at hb; rw [← hb]; exact gi
variable (hL : LessOk Try.prog fv lt J FJ A fl caps)
include hL
theorem get_gone (h : HeapIs J FJ A fv G bh L next w) {hd : Int} (hg : ∀ i, i < L.length → (itAt L i).2 ≠ hd) :
    Calls Try.prog 70 #[.pointer (some ⟨bh, 0, none⟩), .int .i64 hd] w fun e w' => e = .returned (.tuple #[.int .i64 0, .bool false]) ∧ w = w' := by
  obtain ⟨sv, bm, hH, hR, ⟨f, hM, hP⟩, gm, gs⟩ := h.ex
  have c2 := cell_of hH 2
  simp at c2
  have hlk := run_lookup2 (P := Try.prog) Try.underlying71 Try.underlying3 hM (Try.zeroValue3 w) hd
  rw [hP.gone hd hg] at hlk
  simp only [Option.getD_none, Option.isSome_none] at hlk
  have HL := Lib.hid hL; have Hh := Lib.hid h
  clear hL h hH hR hM hP gm gs hg
  go_enter Try.func70, Try.ntmps70
  go_wp2_with fail
  refine (none_ok HL.out Hh.out).mono ?_
  rintro e w' ⟨rfl, rfl⟩
  go_wp2_with fail
  go_ret2
  exact ⟨rfl, rfl⟩
theorem get_there (h : HeapIs J FJ A fv G bh L next w) {i : Nat} (hi : i < L.length) :
    Calls Try.prog 70 #[.pointer (some ⟨bh, 0, none⟩), .int .i64 (itAt L i).2] w fun e w' => e = .returned (.tuple #[.int .i64 (itAt L i).1, .bool true]) ∧ w = w' := by
  obtain ⟨bi, bm, cap, hp, hcl, hcm, gi, gm⟩ := h.toHp (by omega)
  obtain ⟨f, hM, hP⟩ := hp.map
  obtain ⟨arr, r1, r2, r3⟩ := hp.row
  have c1 := cell_of hp.hH 1
  have c2 := cell_of hp.hH 2
  simp at c1 c2
  have hlk := run_lookup2 (P := Try.prog) Try.underlying71 Try.underlying3 hM (Try.zeroValue3 w) (itAt L i).2
  rw [hP.here i hi] at hlk
  simp only [Option.getD_some, Option.isSome_some] at hlk
  have d1 := (cell_of r1 (i * 2)).trans (r3 i hi).1
  have hi' : (i : Int) < (L.length : Int) := by omega
  have hlen := h.len
  obtain ⟨x, hx⟩ : ∃ x, x = itAt L i := ⟨_, rfl⟩
  rw [← hx] at hlk d1 ⊢
  have HL := Lib.hid hL; have Hh := Lib.hid h
  clear hL h hM hP gm gi hp r1 r2 r3 hcl hcm hx
  go_enter Try.func70, Try.ntmps70
  go_wp2_with fail
  refine (none_ok HL.out Hh.out).mono ?_
  rintro e w' ⟨rfl, rfl⟩
  go_wp2_with fail
  go_ret2
  exact ⟨rfl, rfl⟩
theorem drop_gone (h : HeapIs J FJ A fv G bh L next w) {hd : Int} (hg : ∀ i, i < L.length → (itAt L i).2 ≠ hd) :
    Calls Try.prog 28 #[.pointer (some ⟨bh, 0, none⟩), .int .i64 hd] w fun e w' => e = .returned (.bool false) ∧ w = w' := by
  obtain ⟨sv, bm, hH, hR, ⟨f, hM, hP⟩, gm, gs⟩ := h.ex
  have c2 := cell_of hH 2
  simp at c2
  have hlk := run_lookup2 (P := Try.prog) Try.underlying71 Try.underlying3 hM (Try.zeroValue3 w) hd
  rw [hP.gone hd hg] at hlk
  simp only [Option.getD_none, Option.isSome_none] at hlk
  have HL := Lib.hid hL; have Hh := Lib.hid h
  clear hL h hH hR hM hP gm gs hg
  go_enter Try.func28, Try.ntmps28
  go_wp2_with fail
  refine (none_ok HL.out Hh.out).mono ?_
  rintro e w' ⟨rfl, rfl⟩
  go_wp2_with fail
  go_ret
  exact ⟨rfl, rfl⟩
omit hL in
theorem takeF_sub {x : Nat} (hx : x < L.length) {p : It → Prop} (hp : ∀ i, i < L.length → p (itAt L i)) : ∀ i, i < L.length - 1 → p (itAt (takeF lt L x) i) := by
  have hq : ∀ i, i < L.length - 1 → p (itAt ((if x = L.length - 1 then L else swapL L x (L.length - 1)).take (L.length - 1)) i) := by
    intro i hi
    rw [itAt_take hi]
    split
    · exact hp i (by omega)
    · rw [itAt_swap hx (by omega)]
      split
      · exact hp x hx
      · split
        · exact hp _ (by omega)
        · exact hp i (by omega)
  have hl : ((if x = L.length - 1 then L else swapL L x (L.length - 1)).take (L.length - 1)).length = L.length - 1 := by
    split <;> simp [swapL_length]
  intro i hi
  unfold takeF
  dsimp only
  split
  · rename_i h1
    exact all_perm (settleF_perm lt (by rw [hl]; exact h1)) (by rw [hl]; exact hq) i (by rw [settleF_length lt (by rw [hl]; exact h1), hl]; exact hi)
  · exact hq i hi
theorem HeapIs.take (h : HeapIs J FJ A fv G bh L next w) {x : Nat} (hx : x < L.length) :
    Calls Try.prog 68 #[.pointer (some ⟨bh, 0, none⟩), .int .i64 x] w fun e w' => e = .returned (.agg #[.int .i64 (itAt L x).1, .int .i64 (itAt L x).2]) ∧ HeapIs J FJ A fv G bh (takeF lt L x) next w' ∧ Fr (fun b => FJ b ∨ G b) w w' := by
  obtain ⟨bi, bm, cap, hp, hcl, hcm, gi, gm⟩ := h.toHp (by omega)
  refine (hp.take hL (h.nj _ h.gh) (h.nj _ gi) (h.nj _ gm) h.len hcl hx).mono ?_
  rintro e w' ⟨rfl, h1, f1⟩
  refine ⟨rfl, h.ofHp h1 (by omega) hcm gi gm (by omega) f1.size (takeF_sub hx (p := fun y => 0 ≤ y.2 ∧ y.2 < next) h.hs), f1.mono ?_⟩
  rintro b _ (hb | rfl | rfl | rfl)
  · exact .inl hb
  · exact .inr h.gh
  · exact .inr gi
  · exact .inr gm
theorem drop_there (h : HeapIs J FJ A fv G bh L next w) {i : Nat} (hi : i < L.length) :
    Calls Try.prog 28 #[.pointer (some ⟨bh, 0, none⟩), .int .i64 (itAt L i).2] w fun e w' => e = .returned (.bool true) ∧ HeapIs J FJ A fv G bh (takeF lt L i) next w' ∧ Fr (fun b => FJ b ∨ G b) w w' := by
  obtain ⟨bi, bm, cap, hp, hcl, hcm, gi, gm⟩ := h.toHp (by omega)
  obtain ⟨f, hM, hP⟩ := hp.map
  have c2 := cell_of hp.hH 2
  simp at c2
  have hlk := run_lookup2 (P := Try.prog) Try.underlying71 Try.underlying3 hM (Try.zeroValue3 w) (itAt L i).2
  rw [hP.here i hi] at hlk
  simp only [Option.getD_some, Option.isSome_some] at hlk
  obtain ⟨x, hx⟩ : ∃ x, x = (itAt L i).2 := ⟨_, rfl⟩
  rw [← hx] at hlk ⊢
  have HL := Lib.hid hL; have Hh := Lib.hid h
  clear hL h hM hP gm gi hp hcl hcm hx
  go_enter Try.func28, Try.ntmps28
  go_wp2_with fail
  refine (none_ok HL.out Hh.out).mono ?_
  rintro e w' ⟨rfl, rfl⟩
  go_wp2_with fail
  refine (Hh.out.take HL.out hi).mono ?_
  rintro e1 w1 ⟨rfl, h1, f1⟩
  have H1 := Lib.hid h1; have F1 := Lib.hid f1; clear h1 f1
  go_wp2_with fail
  go_ret
  exact ⟨rfl, H1.out, F1.out⟩
theorem pop_none (h : HeapIs J FJ A fv G bh [] next w) :
    Calls Try.prog 25 #[.pointer (some ⟨bh, 0, none⟩)] w fun e w' => e = .returned (.tuple #[.int .i64 0, .int .i64 0, .bool false]) ∧ w = w' := by
  have HL := Lib.hid hL; have Hh := Lib.hid h
  clear hL h
  go_enter Try.func25, Try.ntmps25
  go_wp2_with fail
  refine (least_none HL.out Hh.out).mono ?_
  rintro e w' ⟨rfl, rfl⟩
  go_wp2_with fail
  go_ret3
  exact ⟨rfl, rfl⟩
theorem pop_some (h : HeapIs J FJ A fv G bh L next w) (h0 : 0 < L.length) :
    Calls Try.prog 25 #[.pointer (some ⟨bh, 0, none⟩)] w fun e w' => e = .returned (.tuple #[.int .i64 (itAt L 0).1, .int .i64 (itAt L 0).2, .bool true]) ∧ HeapIs J FJ A fv G bh (takeF lt L 0) next w' ∧ Fr (fun b => FJ b ∨ G b) w w' := by
  obtain ⟨x, hx⟩ : ∃ x, x = itAt L 0 := ⟨_, rfl⟩
  rw [← hx]
  have Hx := Lib.hid hx
  have HL := Lib.hid hL; have Hh := Lib.hid h
  clear hL h hx
  go_enter Try.func25, Try.ntmps25
  go_wp2_with fail
  refine (least_some HL.out Hh.out (List.length_pos_iff.1 h0)).mono ?_
  rintro e w1 ⟨rfl, f1⟩
  rw [← Hx.out]
  have H1 := Lib.hid (Hh.out.keepFr HL.out f1); have F1 := Lib.hid f1; clear f1
  go_wp2_with fail
  refine (H1.out.take HL.out (x := 0) h0).mono ?_
  rintro e1 w2 ⟨rfl, h2, f2⟩
  have H2 := Lib.hid h2; have F2 := Lib.hid f2; clear h2 f2
  go_wp2_with fail
  go_ret3
  exact ⟨rfl, H2.out, (F1.out.mono (fun _ _ h => h.elim)).trans F2.out (fun _ _ h => h)⟩
theorem push_full (h : HeapIs J FJ A fv G bh L next w) (hf : L.length = 65536) (v : Int) :
    Calls Try.prog 26 #[.pointer (some ⟨bh, 0, none⟩), .int .i64 v] w fun e w' => e = .returned (.tuple #[.int .i64 0, .int .i64 6]) ∧ w = w' := by
  obtain ⟨bi, bm, cap, hp, hcl, hcm, gi, gm⟩ := h.toHp (by omega)
  have c1 := cell_of hp.hH 1
  simp at c1
  have hge : decide (65536 ≤ L.length) = true := by simp; omega
  have hge' : decide ((65536 : Int) ≤ (L.length : Int)) = true := by simp; omega
  have HL := Lib.hid hL; have Hh := Lib.hid h
  clear hL h gm gi hp hcl hcm hf
  go_enter Try.func26, Try.ntmps26
  go_wp2_with fail
  refine (none_ok HL.out Hh.out).mono ?_
  rintro e w' ⟨rfl, rfl⟩
  go_wp2_with fail
  go_ret2
  exact ⟨rfl, rfl⟩
end
end Go.Proofs.Ytfgpmbahekcoeaa
