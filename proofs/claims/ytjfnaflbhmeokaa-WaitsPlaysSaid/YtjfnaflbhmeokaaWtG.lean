/- The contracts of Get, Set, Drop, Pop, and of Push at a full heap. No condition. -/
import Derived.Test.YtjfnaflbhmeokaaWtK
import Derived.Test.YtjfnaflbhmeokaaWtP
namespace Go.Proofs.Ytjfnaflbhmeokaa.Wt
open Go.RowKit
section
variable {J : World → Prop} {FJ : Nat → Prop} {A : Int → Prop} {fv : Value} {G : Nat → Prop} {bh : Nat} {L : List It} {next : Int} {w : World}
variable {lt : Int → Int → Bool} {fl : Nat} {caps : Array Value}
theorem HeapIs.toHp (h : HeapIs J FJ A fv G bh L next w) (h0 : 0 < L.length) : ∃ bi bm cap, Hp J A fv (.int .i64 next) bh bi bm L.length cap L w ∧ L.length ≤ cap ∧ cap ≤ maxLen ∧ G bi ∧ G bm := by
  obtain ⟨sv, bm, hH, hR, hM, gm, gs⟩ := h.ex
  obtain ⟨bi, cap, arr, rfl, hcl, hcm, hI, hs, hc⟩ := row_at hR (List.length_pos_iff.1 h0)
  exact ⟨bi, bm, cap, ⟨h.j, hH, ⟨arr, hI, hs, hc⟩, hM, h.all, rfl⟩, hcl, hcm, gs bi rfl, gm⟩
/-- The heap behind a step that keeps its blocks. -/
theorem HeapIs.ofHp (h : HeapIs J FJ A fv G bh L next w) {L' : List It} {n bi bm cap : Nat} {w' : World} (hp : Hp J A fv (.int .i64 next) bh bi bm n cap L' w') (hn : n ≤ cap) (hc : cap ≤ maxLen) (gi : G bi) (gm : G bm)
    (hl : n ≤ L.length) (hsz : w.heap.size ≤ w'.heap.size) (hs : ∀ i, i < n → 0 ≤ (itAt L' i).2 ∧ (itAt L' i).2 < next) : HeapIs J FJ A fv G bh L' next w' := by
  have hlen := hp.len
  subst hlen
  obtain ⟨arr, r1, r2, r3⟩ := hp.row
  refine ⟨⟨_, bm, hp.hH, ⟨flat_length _, .inr ⟨bi, cap, arr, rfl, Nat.zero_le _, r1, hn, hc, r2, take_of_cells5 r3 (by rw [r2]; omega)⟩⟩, hp.map, gm, ?_⟩, h.gh, fun b hb => Nat.lt_of_lt_of_le (h.bd b hb) hsz, h.nj, hp.j, hp.all, hs, Nat.le_trans hl h.len, h.nx⟩
  intro b hb; simp only [Value.ownBlock, Option.some.injEq] at hb; rw [← hb]; exact gi
variable (hL : LessOk Try.prog fv lt J FJ A fl caps)
include hL
theorem drop_gone (h : HeapIs J FJ A fv G bh L next w) {hd : Int} (hg : ∀ i, i < L.length → (itAt L i).2 ≠ hd) :
    Calls Try.prog 74 #[.pointer (some ⟨bh, 0, none⟩), .int .i64 hd] w fun e w' => e = .returned (.bool false) ∧ w = w' := by
  obtain ⟨sv, bm, hH, hR, ⟨f, hM, hP⟩, gm, gs⟩ := h.ex
  have c2 := cell_of hH 2
  simp at c2
  have hlk := run_lookup2 (P := Try.prog) Try.underlying115 Try.underlying3 hM (Try.zeroValue3 w) hd
  rw [hP.gone hd hg] at hlk
  simp only [Option.getD_none, Option.isSome_none] at hlk
  have HL := Lib.hid hL; have Hh := Lib.hid h
  clear hL h hH hR hM hP gm gs hg
  go_enter Try.func74, Try.ntmps74
  go_wp2_with fail
  refine (none_ok HL.out Hh.out).mono ?_
  rintro e w' ⟨rfl, rfl⟩
  go_wp2_with fail
  go_ret
  exact ⟨rfl, rfl⟩
omit hL in
theorem takeF_sub {x : Nat} (hx : x < L.length) {p : It → Prop} (hp : ∀ i, i < L.length → p (itAt L i)) : ∀ i, i < L.length - 1 → p (itAt (takeF lt L x) i) := by
  have hq : ∀ i, i < L.length - 1 → p (itAt ((if x = L.length - 1 then L else swapL L x (L.length - 1)).take (L.length - 1)) i) := by
    intro i hi
    rw [itAt_take hi]
    split
    · exact hp i (by omega)
    · rw [itAt_swap hx (by omega)]
      split
      · exact hp x hx
      · split
        · exact hp _ (by omega)
        · exact hp i (by omega)
  have hl : ((if x = L.length - 1 then L else swapL L x (L.length - 1)).take (L.length - 1)).length = L.length - 1 := by
    split <;> simp [swapL_length]
  intro i hi
  unfold takeF
  dsimp only
  split
  · rename_i h1
    exact all_perm (settleF_perm lt (by rw [hl]; exact h1)) (by rw [hl]; exact hq) i (by rw [settleF_length lt (by rw [hl]; exact h1), hl]; exact hi)
  · exact hq i hi
theorem HeapIs.take (h : HeapIs J FJ A fv G bh L next w) {x : Nat} (hx : x < L.length) :
    Calls Try.prog 107 #[.pointer (some ⟨bh, 0, none⟩), .int .i64 x] w fun e w' => e = .returned (.agg #[.int .u32 (wW (itAt L x).1), .int .i64 (wS (itAt L x).1), .int .i64 (wT (itAt L x).1), .int .i64 (wC (itAt L x).1), .int .i64 (itAt L x).2]) ∧ HeapIs J FJ A fv G bh (takeF lt L x) next w' ∧ Fr (fun b => FJ b ∨ G b) w w' := by
  obtain ⟨bi, bm, cap, hp, hcl, hcm, gi, gm⟩ := h.toHp (by omega)
  refine (hp.take hL (h.nj _ h.gh) (h.nj _ gi) (h.nj _ gm) h.len hcl hx).mono ?_
  rintro e w' ⟨rfl, h1, f1⟩
  refine ⟨rfl, h.ofHp h1 (by omega) hcm gi gm (by omega) f1.size (takeF_sub hx (p := fun y => 0 ≤ y.2 ∧ y.2 < next) h.hs), f1.mono ?_⟩
  rintro b _ (hb | rfl | rfl | rfl)
  · exact .inl hb
  · exact .inr h.gh
  · exact .inr gi
  · exact .inr gm
theorem drop_there (h : HeapIs J FJ A fv G bh L next w) {i : Nat} (hi : i < L.length) :
    Calls Try.prog 74 #[.pointer (some ⟨bh, 0, none⟩), .int .i64 (itAt L i).2] w fun e w' => e = .returned (.bool true) ∧ HeapIs J FJ A fv G bh (takeF lt L i) next w' ∧ Fr (fun b => FJ b ∨ G b) w w' := by
  obtain ⟨bi, bm, cap, hp, hcl, hcm, gi, gm⟩ := h.toHp (by omega)
  obtain ⟨f, hM, hP⟩ := hp.map
  have c2 := cell_of hp.hH 2
  simp at c2
  have hlk := run_lookup2 (P := Try.prog) Try.underlying115 Try.underlying3 hM (Try.zeroValue3 w) (itAt L i).2
  rw [hP.here i hi] at hlk
  simp only [Option.getD_some, Option.isSome_some] at hlk
  obtain ⟨x, hx⟩ : ∃ x, x = (itAt L i).2 := ⟨_, rfl⟩
  rw [← hx] at hlk ⊢
  have HL := Lib.hid hL; have Hh := Lib.hid h
  clear hL h hM hP gm gi hp hcl hcm hx
  go_enter Try.func74, Try.ntmps74
  go_wp2_with fail
  refine (none_ok HL.out Hh.out).mono ?_
  rintro e w' ⟨rfl, rfl⟩
  go_wp2_with fail
  refine (Hh.out.take HL.out hi).mono ?_
  rintro e1 w1 ⟨rfl, h1, f1⟩
  have H1 := Lib.hid h1; have F1 := Lib.hid f1; clear h1 f1
  go_wp2_with fail
  go_ret
  exact ⟨rfl, H1.out, F1.out⟩
set_option maxRecDepth 100000 in
theorem pop_none (h0 : HeapIs J FJ A fv G bh [] next w) :
    Calls Try.prog 79 #[.pointer (some ⟨bh, 0, none⟩)] w fun e w' => e = .returned (.tuple #[zeroW, .int .i64 0, .bool false]) ∧ Fr (fun _ => False) w w' := by
  have f0 : Fr (fun _ => False) w (w.alloc (.cells #[.int .u32 0, .int .i64 0, .int .i64 0, .int .i64 0] 32)) := Fr.alloc (Fr.refl _ _) _
  have h := HeapIs.keepFr hL h0 f0
  have gz : (w.alloc (.cells #[.int .u32 0, .int .i64 0, .int .i64 0, .int .i64 0] 32)).heap[w.heap.size]? = some (.cells #[.int .u32 0, .int .i64 0, .int .i64 0, .int .i64 0] 32 (0, 0)) := heap_alloc_at _ _
  have HL := Lib.hid hL; have Hh := Lib.hid h; have F0 := Lib.hid f0; have Gz := Lib.hid gz
  clear hL h h0 f0 gz
  go_enter Try.func79, Try.ntmps79
  go_upto_region 1 with fail
  generalize (w.alloc (.cells #[.int .u32 0, .int .i64 0, .int .i64 0, .int .i64 0] 32)) = W at *
  generalize hbz : w.heap.size = bz at *
  go_wp2_with fail
  refine (least_none HL.out Hh.out).mono ?_
  rintro e w1 ⟨rfl, f1⟩
  have g1 := f1.get Gz.out (fun h => h)
  have fA : Fr (fun _ => False) w1 (w1.alloc (.cells #[.int .u32 0, .int .i64 0, .int .i64 0, .int .i64 0] 32)) := Fr.alloc (Fr.refl _ _) _
  have g2 := fA.get g1 (fun h => h)
  have z0 := (cell_of g2 0).trans (show _ = some (Value.int .u32 0) from rfl)
  have z1 := (cell_of g2 1).trans (show _ = some (Value.int .i64 0) from rfl)
  have z2 := (cell_of g2 2).trans (show _ = some (Value.int .i64 0) from rfl)
  have z3 := (cell_of g2 3).trans (show _ = some (Value.int .i64 0) from rfl)
  have y0 := free_of g2 0
  have y1 := free_of g2 1
  have y2 := free_of g2 2
  have y3 := free_of g2 3
  have F1 := Lib.hid f1; have G2 := Lib.hid g2
  clear f1 g1 fA g2
  go_wp2_with fail
  have hfin := (setCell_blk (o := 3) (setCell_blk (o := 2) (setCell_blk (o := 1) (setCell_blk (o := 0) G2.out (.int .u32 0)) (.int .i64 0)) (.int .i64 0)) (.int .i64 0))
  have r1 := cell_of hfin 0
  have r2 := cell_of hfin 1
  have r3 := cell_of hfin 2
  have r4 := cell_of hfin 3
  simp at r1 r2 r3 r4
  refine bodyPost_ret (v := .tuple #[zeroW, .int .i64 0, .bool false]) ?_ rfl ⟨rfl, ?_⟩
  · simp [results, Try.results79, Try.f79, go_sem, r1, r2, r3, r4]
  · refine Fr.toNew (Fr.setCell (p := ⟨bz, 3, none⟩) (Fr.setCell (p := ⟨bz, 2, none⟩) (Fr.setCell (p := ⟨bz, 1, none⟩) (Fr.setCell (p := ⟨bz, 0, none⟩) (((F0.out.trans F1.out (fun _ _ h => h)).alloc _).mono (fun _ _ h => h.elim)) (fun _ => ?_) _) (fun _ => ?_) _) (fun _ => ?_) _) (fun _ => ?_) _)
    all_goals (rw [hbz]; exact Nat.le_refl _)
set_option maxRecDepth 100000 in
theorem pop_some (h0 : HeapIs J FJ A fv G bh L next w) (hl0 : 0 < L.length) :
    Calls Try.prog 79 #[.pointer (some ⟨bh, 0, none⟩)] w fun e w' => e = .returned (.tuple #[wtT (itAt L 0).1, .int .i64 (itAt L 0).2, .bool true]) ∧ HeapIs J FJ A fv G bh (takeF lt L 0) next w' ∧ Fr (fun b => FJ b ∨ G b) w w' := by
  have f0 : Fr (fun _ => False) w (w.alloc (.cells #[.int .u32 0, .int .i64 0, .int .i64 0, .int .i64 0] 32)) := Fr.alloc (Fr.refl _ _) _
  have h := HeapIs.keepFr hL h0 f0
  have gz : (w.alloc (.cells #[.int .u32 0, .int .i64 0, .int .i64 0, .int .i64 0] 32)).heap[w.heap.size]? = some (.cells #[.int .u32 0, .int .i64 0, .int .i64 0, .int .i64 0] 32 (0, 0)) := heap_alloc_at _ _
  obtain ⟨x, hx⟩ : ∃ x, x = itAt L 0 := ⟨_, rfl⟩
  rw [← hx]
  have hbG : ¬ G w.heap.size := fun hg => by have := h0.bd _ hg; omega
  have hbJ : ¬ FJ w.heap.size := fun hg => by have := hL.bound w _ h0.j hg; omega
  have HL := Lib.hid hL; have Hh := Lib.hid h; have F0 := Lib.hid f0; have Gz := Lib.hid gz; have Hx := Lib.hid hx; have HbG := Lib.hid hbG; have HbJ := Lib.hid hbJ; have Hw := Lib.hid (hL.bound w); have H0 := Lib.hid h0
  clear hL h h0 f0 gz hx hbG hbJ
  go_enter Try.func79, Try.ntmps79
  go_upto_region 1 with fail
  generalize (w.alloc (.cells #[.int .u32 0, .int .i64 0, .int .i64 0, .int .i64 0] 32)) = W at *
  generalize hbz : w.heap.size = bz at *
  go_wp2_with fail
  refine (least_some HL.out Hh.out (List.length_pos_iff.1 hl0)).mono ?_
  rintro e w1 ⟨rfl, f1⟩
  rw [← Hx.out]
  have F1 := Lib.hid f1
  clear f1
  obtain ⟨xv, xh⟩ := x
  dsimp only
  go_upto_if 14 with fail
  have fA : Fr (fun _ => False) W (w1.alloc (.cells #[.int .u32 (wW xv), .int .i64 (wS xv), .int .i64 (wT xv), .int .i64 (wC xv)] 32)) := Fr.alloc F1.out _
  have g5 : (w1.alloc (.cells #[.int .u32 (wW xv), .int .i64 (wS xv), .int .i64 (wT xv), .int .i64 (wC xv)] 32)).heap[w1.heap.size]? = some (.cells #[.int .u32 (wW xv), .int .i64 (wS xv), .int .i64 (wT xv), .int .i64 (wC xv)] 32 (0, 0)) := heap_alloc_at _ _
  have H1 := Lib.hid (HeapIs.keepFr HL.out Hh.out fA)
  have hb1 : bz < w1.heap.size := Nat.lt_of_lt_of_le (lt_of_block Gz.out) F1.out.size
  have g2 := fA.get Gz.out (fun h => h)
  have G5 := Lib.hid g5; have G2 := Lib.hid g2; have FA := Lib.hid fA
  clear fA g5 g2
  generalize (w1.alloc (.cells #[.int .u32 (wW xv), .int .i64 (wS xv), .int .i64 (wT xv), .int .i64 (wC xv)] 32)) = W1 at *
  generalize hb5 : w1.heap.size = b5 at *
  go_wp2_with fail
  refine (HeapIs.take HL.out H1.out hl0).mono ?_
  rintro e w2 ⟨rfl, h2, f2⟩
  have n5 : ¬ (FJ b5 ∨ G b5) := by
    have h9 := F1.out.size
    have h8 := lt_of_block Gz.out
    rintro (h | h)
    · have := HL.out.bound W b5 Hh.out.j h; omega
    · have := Hh.out.bd b5 h; omega
  have nz : ¬ (FJ bz ∨ G bz) := by
    rintro (h | h)
    · exact HbJ.out h
    · exact HbG.out h
  have g5 := f2.get G5.out n5
  have g2 := f2.get G2.out nz
  have x0 := (cell_of g5 0).trans (show _ = some (Value.int .u32 (wW xv)) from rfl)
  have x1 := (cell_of g5 1).trans (show _ = some (Value.int .i64 (wS xv)) from rfl)
  have x2 := (cell_of g5 2).trans (show _ = some (Value.int .i64 (wT xv)) from rfl)
  have x3 := (cell_of g5 3).trans (show _ = some (Value.int .i64 (wC xv)) from rfl)
  have z0 := (cell_of g2 0).trans (show _ = some (Value.int .u32 0) from rfl)
  have z1 := (cell_of g2 1).trans (show _ = some (Value.int .i64 0) from rfl)
  have z2 := (cell_of g2 2).trans (show _ = some (Value.int .i64 0) from rfl)
  have z3 := (cell_of g2 3).trans (show _ = some (Value.int .i64 0) from rfl)
  have y0 := free_of g2 0
  have y1 := free_of g2 1
  have y2 := free_of g2 2
  have y3 := free_of g2 3
  have H2 := Lib.hid h2; have F2 := Lib.hid f2; have G2' := Lib.hid g2; have N5 := Lib.hid n5; have Nz := Lib.hid nz
  clear h2 f2 g2 g5 n5 nz
  go_wp2_with fail
  have hfin := (setCell_blk (o := 3) (setCell_blk (o := 2) (setCell_blk (o := 1) (setCell_blk (o := 0) G2'.out (.int .u32 (wW xv))) (.int .i64 (wS xv))) (.int .i64 (wT xv))) (.int .i64 (wC xv)))
  have r1 := cell_of hfin 0
  have r2 := cell_of hfin 1
  have r3 := cell_of hfin 2
  have r4 := cell_of hfin 3
  simp at r1 r2 r3 r4
  have fz : Fr (fun b => b = bz) w2 ((((w2.setCell ⟨bz, 0, none⟩ (.int .u32 (wW xv))).setCell ⟨bz, 1, none⟩ (.int .i64 (wS xv))).setCell ⟨bz, 2, none⟩ (.int .i64 (wT xv))).setCell ⟨bz, 3, none⟩ (.int .i64 (wC xv))) := Fr.setCell (F := fun b => b = bz) (p := ⟨bz, 3, none⟩) (Fr.setCell (F := fun b => b = bz) (p := ⟨bz, 2, none⟩) (Fr.setCell (F := fun b => b = bz) (p := ⟨bz, 1, none⟩) (Fr.setCell (F := fun b => b = bz) (p := ⟨bz, 0, none⟩) (Fr.refl _ _) (fun _ => rfl) _) (fun _ => rfl) _) (fun _ => rfl) _) (fun _ => rfl) _
  refine bodyPost_ret (v := .tuple #[wtT xv, .int .i64 xh, .bool true]) ?_ rfl ⟨rfl, ?_, ?_⟩
  · simp [results, Try.results79, Try.f79, go_sem, r1, r2, r3, r4]
  · refine H2.out.fr fz (HL.out.keep _ _ H2.out.j (fz.mono (fun b _ e => by subst e; exact HbJ.out))) (fun b hb e => by subst e; exact HbG.out hb)
  · have f3 := ((F0.out.trans FA.out (fun _ _ h => h)).mono (G := fun b => FJ b ∨ G b) (fun _ _ h => h.elim)).trans F2.out (fun _ _ h => h)
    refine f3.trans (fz.mono (G := fun b => w.heap.size ≤ b) (fun b _ e => by omega)) ?_
    intro b hb h; omega
end
end Go.Proofs.Ytjfnaflbhmeokaa.Wt
