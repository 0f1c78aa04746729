/- The document's heap: Least, Pop. No condition. -/
import Derived.Test.YtfgpmbahekcoeaaRefD
import Derived.Test.YtfgpmbahekcoeaaOrd
namespace Go.Proofs.Ytfgpmbahekcoeaa
open Go.RowKit
/-- The least of the items 0 .. i. -/
def leastTo (lt : Int → Int → Bool) (R : List It) : Nat → It
  | 0 => itAt R 0
  | i + 1 => if lt (itAt R (i + 1)).2 (leastTo lt R i).2 then itAt R (i + 1) else leastTo lt R i
theorem leastTo_in (lt : Int → Int → Bool) (R : List It) : ∀ i, ∃ k, k ≤ i ∧ leastTo lt R i = itAt R k
  | 0 => ⟨0, by omega, rfl⟩
  | i + 1 => by
    obtain ⟨k, hk, e⟩ := leastTo_in lt R i
    unfold leastTo
    split
    · exact ⟨i + 1, by omega, rfl⟩
    · exact ⟨k, by omega, e⟩
section
variable {G : Nat → Prop} {rh : Nat} {kind next : Int} {R : List It} {w : World}
set_option maxRecDepth 100000 in
theorem rleast_none (h : RefIs G rh kind [] next w) : Calls Try.prog 72 #[.pointer (some ⟨rh, 0, none⟩)] w fun e w' => e = .returned (.tuple #[.int .i64 0, .int .i64 0, .bool false]) ∧ w = w' := by
  obtain ⟨a, c, c1⟩ := ref_len h
  simp only [List.length_nil] at c1
  have H := Lib.hid h
  clear h
  go_enter Try.func72, Try.ntmps72
  go_wp2_with fail
  go_ret3
  exact ⟨rfl, rfl⟩
set_option maxRecDepth 100000 in
set_option maxHeartbeats 400000 in
theorem rleast_some (h : RefIs G rh kind R next w) (h0 : R ≠ []) (hk0 : 0 ≤ kind) (hk7 : kind < 7) (hfit : ∀ i, i < R.length → Fits (itAt R i).2) :
    Calls Try.prog 72 #[.pointer (some ⟨rh, 0, none⟩)] w fun e w' => e = .returned (.tuple #[.int .i64 (leastTo (lessK kind) R (R.length - 1)).2, .int .i64 (leastTo (lessK kind) R (R.length - 1)).1, .bool true]) ∧ Fr (fun _ => False) w w' := by
  have hpos : 0 < R.length := List.length_pos_iff.2 h0
  obtain ⟨sv, h1, h2, h3⟩ := h.ex
  obtain ⟨bi, cap, cur, rfl, hcl, hcm, hI, hs, hc⟩ : ∃ bi cap arr, sv = .slice (some ⟨bi, 0, none⟩) R.length cap ∧ R.length ≤ cap ∧ cap ≤ maxLen ∧ w.heap[bi]? = some (.cells arr 65 (0, 0)) ∧ arr.size = cap * 2 ∧ Cells2 arr R := by
    rcases h2.2 with ⟨_, h1⟩ | ⟨g, cap, cur, rfl, _, h1, h2, h3, h4, h5⟩
    · omega
    · exact ⟨g, cap, cur, rfl, h2, h3, h1, h4, cells2_of_take h5⟩
  have c0 := cell_of h1 0
  have c1 := cell_of h1 1
  simp at c0 c1
  have d0 := (cell_of hI (0 * 2)).trans (hc 0 hpos).1
  have d1 := (cell_of hI (0 * 2 + 1)).trans (hc 0 hpos).2
  simp only [Nat.zero_mul, Nat.zero_add] at d0 d1
  have hpos' : (0 : Int) < (R.length : Int) := by omega
  have hne : ((R.length : Int) == 0) = false := by simp; omega
  have hlen := h.len
  have hrl := lt_of_block h1
  have hil := lt_of_block hI
  have Hpos := Lib.hid hpos; have H1 := Lib.hid h1; have HI := Lib.hid hI; have HC := Lib.hid hc; have Hlen := Lib.hid hlen; have Hfit := Lib.hid hfit; have Hrl := Lib.hid hrl; have Hil := Lib.hid hil; have Hk0 := Lib.hid hk0; have Hk7 := Lib.hid hk7
  clear h h1 h2 h3 hs hc hI hcl hcm hlen hfit hrl hil h0 hpos hk0 hk7
  go_enter Try.func72, Try.ntmps72
  go_upto_block 0 with fail
  go_cut [5, 6] (fun s5 s6 wx => s5 = .pointer (some ⟨w.heap.size, 0, none⟩) ∧ wx.heap[w.heap.size]? = some (.cells #[.int .i64 (leastTo (lessK kind) R (R.length - 1)).1, .int .i64 (leastTo (lessK kind) R (R.length - 1)).2] 65 (0, 0)) ∧ Fr (fun _ => False) w wx)
  case first =>
    go_wp2_with fail
    go_loopw [6] (fun s6 wr => ∃ (i : Nat) (x : It), x = leastTo (lessK kind) R i ∧ s6 = .int .i64 ((i : Int) + 1) ∧ i < R.length ∧ wr.heap[w.heap.size]? = some (.cells #[.int .i64 x.1, .int .i64 x.2] 65 (0, 0)) ∧ Fr (fun _ => False) w wr) (fun s6 _ => R.length - (intOf s6).toNat)
    case atStart =>
      refine ⟨0, _, rfl, by simp, Hpos.out, ?_, ?_⟩
      · simp only [heap_alloc_get]; simp [leastTo]
      · exact Fr.alloc (Fr.refl _ _) _
    case round =>
      obtain ⟨i, x, hxe, rfl, hi, hx, hf⟩ := hrel
      have Hxe := Lib.hid hxe; clear hxe
      have e0 := (hf.cell (o := 0) (s := none) Hrl.out (fun h => h)).trans c0
      have e1 := (hf.cell (o := 1) (s := none) Hrl.out (fun h => h)).trans c1
      have x0 := cell_of hx 0
      have x1 := cell_of hx 1
      have y0 := free_of hx 0
      have y1 := free_of hx 1
      simp at x0 x1
      have Hi := Lib.hid hi; have Hx := Lib.hid hx; have Hf := Lib.hid hf
      by_cases hlt : i + 1 < R.length
      · have g0 := ((hf.cell (o := (i + 1) * 2) (s := none) Hil.out (fun h => h)).trans (cell_of HI.out ((i + 1) * 2))).trans (HC.out (i + 1) hlt).1
        have g1 := ((hf.cell (o := (i + 1) * 2 + 1) (s := none) Hil.out (fun h => h)).trans (cell_of HI.out ((i + 1) * 2 + 1))).trans (HC.out (i + 1) hlt).2
        obtain ⟨j, hj⟩ : ∃ j, j = i + 1 := ⟨_, rfl⟩
        rw [← hj] at g0 g1 hlt
        have ej : ((i : Int) + 1) = (j : Int) := by omega
        rw [ej]
        have hl1 : (j : Int) < (R.length : Int) := by omega
        have hl0 : (0 : Int) ≤ (j : Int) := by omega
        have hl2 : (j : Int) ≤ 70000 := by have := Hlen.out; omega
        have Hj := Lib.hid hj; have Hlt := Lib.hid hlt
        clear hi hx hf hlt hj ej c0 c1 d0 d1
        obtain ⟨bl, hbl⟩ : ∃ bl, lessK kind (itAt R j).2 x.2 = bl := ⟨_, rfl⟩
        have hfj := Hfit.out j Hlt.out
        have hfx : Fits x.2 := by
          obtain ⟨k, hk, e⟩ := leastTo_in (lessK kind) R i
          rw [Hxe.out, e]; exact Hfit.out k (by have := Hi.out; omega)
        have hless := fun W => less_ok kind (itAt R j).2 x.2 Hk0.out Hk7.out hfj hfx W
        rw [hbl] at hless
        have Hless := Lib.hid hless; have Hbl := Lib.hid hbl; have Hfj := Lib.hid hfj; have Hfx := Lib.hid hfx
        clear hless hbl hfj hfx
        go_wp2_with fail
        refine wp_region_held_drew (S := (fun w' => w'.cell? ⟨rh, 0, none⟩ = some (.int .i64 kind) ∧ w'.cell? ⟨rh, 1, none⟩ = some (.slice (some ⟨bi, 0, none⟩) R.length cap) ∧ w'.cell? ⟨bi, j * 2 + 1, none⟩ = some (.int .i64 (itAt R j).2) ∧ w'.cell? ⟨w.heap.size, 1, none⟩ = some (.int .i64 x.2))) (by kernel_rfl) (by exact ⟨e0, e1, g1, x1⟩) (fun hHeld => ?_)
        refine wpAnyH_take (i := 0) (v := ?_) rfl (by kernel_rfl) (by kernel_rfl) (by kernel_rfl) (fun _ _ _ h => h) (Or.inl ⟨by rfl, ?_⟩) (by assumption) ?_
        rotate_left
        · intro w' hSw; (try dsimp only at hSw); go_simp; try with_reducible rfl
        try simp only [Act.put, List.getElem_toArray, List.getElem_cons_zero, List.getElem_cons_succ, List.setIfInBounds_toArray, List.set_cons_zero, List.set_cons_succ]
        refine wpAnyH_take (i := 1) (v := ?_) rfl (by kernel_rfl) (by kernel_rfl) (by kernel_rfl) (fun _ _ _ h => h) (Or.inl ⟨by rfl, ?_⟩) (by assumption) ?_
        rotate_left
        · intro w' hSw; (try dsimp only at hSw); go_simp; try with_reducible rfl
        try simp only [Act.put, List.getElem_toArray, List.getElem_cons_zero, List.getElem_cons_succ, List.setIfInBounds_toArray, List.set_cons_zero, List.set_cons_succ]
        refine wpAnyH_take (i := 2) (v := ?_) rfl (by kernel_rfl) (by kernel_rfl) (by kernel_rfl) (fun _ _ _ h => h) (Or.inl ⟨by rfl, ?_⟩) (by assumption) ?_
        rotate_left
        · intro w' hSw; (try dsimp only at hSw); go_simp; try with_reducible rfl
        try simp only [Act.put, List.getElem_toArray, List.getElem_cons_zero, List.getElem_cons_succ, List.setIfInBounds_toArray, List.set_cons_zero, List.set_cons_succ]
        refine wpAnyH_take (i := 3) (v := ?_) rfl (by kernel_rfl) (by kernel_rfl) (by kernel_rfl) (fun _ _ _ h => h) (Or.inl ⟨by rfl, ?_⟩) (by assumption) ?_
        rotate_left
        · intro w' hSw; (try dsimp only at hSw); go_simp; try with_reducible rfl
        try simp only [Act.put, List.getElem_toArray, List.getElem_cons_zero, List.getElem_cons_succ, List.setIfInBounds_toArray, List.set_cons_zero, List.set_cons_succ]
        refine wpAnyH_take (i := 4) (v := ?_) rfl (by kernel_rfl) (by kernel_rfl) (by kernel_rfl) (fun _ _ _ h => h) (Or.inl ⟨by rfl, ?_⟩) (by assumption) ?_
        rotate_left
        · intro w' hSw; (try dsimp only at hSw); go_simp; try with_reducible rfl
        try simp only [Act.put, List.getElem_toArray, List.getElem_cons_zero, List.getElem_cons_succ, List.setIfInBounds_toArray, List.set_cons_zero, List.set_cons_succ]
        refine wpAnyH_take (i := 5) (v := ?_) rfl (by kernel_rfl) (by kernel_rfl) (by kernel_rfl) (fun _ _ _ h => h) (Or.inl ⟨by rfl, ?_⟩) (by assumption) ?_
        rotate_left
        · intro w' hSw; (try dsimp only at hSw); go_simp; try with_reducible rfl
        try simp only [Act.put, List.getElem_toArray, List.getElem_cons_zero, List.getElem_cons_succ, List.setIfInBounds_toArray, List.set_cons_zero, List.set_cons_succ]
        refine wpAnyH_take (i := 6) (v := ?_) rfl (by kernel_rfl) (by kernel_rfl) (by kernel_rfl) (fun _ _ _ h => h) (Or.inl ⟨by rfl, ?_⟩) (by assumption) ?_
        rotate_left
        · intro w' hSw; (try dsimp only at hSw); go_simp; try with_reducible rfl
        try simp only [Act.put, List.getElem_toArray, List.getElem_cons_zero, List.getElem_cons_succ, List.setIfInBounds_toArray, List.set_cons_zero, List.set_cons_succ]
        refine wpAnyH_take (i := 7) (v := ?_) rfl (by kernel_rfl) (by kernel_rfl) (by kernel_rfl) (fun _ _ _ h => h) (Or.inl ⟨by rfl, ?_⟩) (by assumption) ?_
        rotate_left
        · intro w' hSw; (try dsimp only at hSw); go_simp; try with_reducible rfl
        try simp only [Act.put, List.getElem_toArray, List.getElem_cons_zero, List.getElem_cons_succ, List.setIfInBounds_toArray, List.set_cons_zero, List.set_cons_succ]
        refine wpAnyH_take (i := 8) (v := ?_) rfl (by kernel_rfl) (by kernel_rfl) (by kernel_rfl) (fun _ _ _ h => h) (Or.inl ⟨by rfl, ?_⟩) (by assumption) ?_
        rotate_left
        · intro w' hSw; (try dsimp only at hSw); go_simp; try with_reducible rfl
        try simp only [Act.put, List.getElem_toArray, List.getElem_cons_zero, List.getElem_cons_succ, List.setIfInBounds_toArray, List.set_cons_zero, List.set_cons_succ]
        refine wpAnyH_take (i := 9) (v := ?_) rfl (by kernel_rfl) (by kernel_rfl) (by kernel_rfl) (fun _ _ _ h => h) (Or.inl ⟨by rfl, ?_⟩) (by assumption) ?_
        rotate_left
        · intro w' hSw; (try dsimp only at hSw); go_simp; try with_reducible rfl
        try simp only [Act.put, List.getElem_toArray, List.getElem_cons_zero, List.getElem_cons_succ, List.setIfInBounds_toArray, List.set_cons_zero, List.set_cons_succ]
        refine wpAnyH_take (i := 10) (v := ?_) rfl (by kernel_rfl) (by kernel_rfl) (by kernel_rfl) (fun _ _ _ h => h) (Or.inl ⟨by rfl, ?_⟩) (by assumption) ?_
        rotate_left
        · intro w' hSw; (try dsimp only at hSw); go_simp; try with_reducible rfl
        try simp only [Act.put, List.getElem_toArray, List.getElem_cons_zero, List.getElem_cons_succ, List.setIfInBounds_toArray, List.set_cons_zero, List.set_cons_succ]
        refine wpAnyH_take (i := 11) (v := ?_) rfl (by kernel_rfl) (by kernel_rfl) (by kernel_rfl) (fun _ _ _ h => h) (Or.inl ⟨by rfl, ?_⟩) (by assumption) ?_
        rotate_left
        · intro w' hSw; (try dsimp only at hSw); go_simp; try with_reducible rfl
        try simp only [Act.put, List.getElem_toArray, List.getElem_cons_zero, List.getElem_cons_succ, List.setIfInBounds_toArray, List.set_cons_zero, List.set_cons_succ]
        refine wpAnyH_take (i := 12) (v := ?_) rfl (by kernel_rfl) (by kernel_rfl) (by kernel_rfl) (fun _ _ _ h => h) (Or.inl ⟨by rfl, ?_⟩) (by assumption) ?_
        rotate_left
        · intro w' hSw; (try dsimp only at hSw); go_simp; try with_reducible rfl
        try simp only [Act.put, List.getElem_toArray, List.getElem_cons_zero, List.getElem_cons_succ, List.setIfInBounds_toArray, List.set_cons_zero, List.set_cons_succ]
        refine wpAnyH_take (i := 13) (v := ?_) rfl (by kernel_rfl) (by kernel_rfl) (by kernel_rfl) (fun _ _ _ h => h) (Or.inl ⟨by rfl, ?_⟩) (by assumption) ?_
        rotate_left
        · intro w' hSw; (try dsimp only at hSw); go_simp; try with_reducible rfl
        try simp only [Act.put, List.getElem_toArray, List.getElem_cons_zero, List.getElem_cons_succ, List.setIfInBounds_toArray, List.set_cons_zero, List.set_cons_succ]
        refine wpAnyH_ready (rs := [14]) (by kernel_rfl) (by simp) ?_
        refine AllReadyH.cons rfl (fun K hK => ?_) AllReadyH.nil
        go_simp
        refine (Hless.out _).mono ?_; rintro e w1 ⟨rfl, rfl⟩
        try go_simp
        refine hK.out _ _ ?_ (fun hHeld => ?_)
        · (try dsimp only); first | exact hHeld | go_keep
        clear hK K
        try simp only [Act.put, List.getElem_toArray, List.getElem_cons_zero, List.getElem_cons_succ, List.setIfInBounds_toArray, List.set_cons_zero, List.set_cons_succ]
        refine wpAnyH_done (by kernel_rfl) ?_ _
        cases bl
        · go_wp2_with fail
          go_roundw
          case rel =>
            refine ⟨j, x, ?_, by simp, Hlt.out, Hx.out, Hf.out.drewN _⟩
            have := Hbl.out
            rw [Hj.out] at this ⊢
            rw [leastTo, ← Hxe.out, this]; rfl
          case measure => have := Hlt.out; have := Hj.out; simp [intOf]; omega
        · go_wp2_with fail
          go_roundw
          case rel =>
            refine ⟨j, itAt R j, ?_, rfl, Hlt.out, ?_, ?_⟩
            · have := Hbl.out
              rw [Hj.out] at this ⊢
              rw [leastTo, ← Hxe.out, this]; rfl
            · exact setCell_blk (o := 1) (setCell_blk (o := 0) Hx.out (.int .i64 (itAt R j).1)) (.int .i64 (itAt R j).2)
            · exact (Fr.setCell (p := ⟨w.heap.size, 1, none⟩) (Fr.setCell (p := ⟨w.heap.size, 0, none⟩) Hf.out (fun h => absurd h (Nat.lt_irrefl _)) _) (fun h => absurd h (Nat.lt_irrefl _)) _).drew
          case measure => have := Hlt.out; have := Hj.out; simp [intOf]; omega
      · have hl1 : ¬ ((i : Int) + 1 < (R.length : Int)) := by omega
        have hie : i = R.length - 1 := by omega
        have Hie := Lib.hid hie
        clear hi hx hf hlt hie c0 c1 d0 d1
        go_wp2_with fail
        go_meet
        exact ⟨rfl, by rw [← Hie.out, ← Hxe.out]; exact Hx.out, Hf.out⟩
  case rest =>
    obtain ⟨x, hxe⟩ : ∃ x, leastTo (lessK kind) R (R.length - 1) = x := ⟨_, rfl⟩
    rw [hxe] at hcut
    obtain ⟨rfl, hx, hf⟩ := hcut
    have Hxe := Lib.hid hxe; clear hxe
    have x0 := cell_of hx 0
    have x1 := cell_of hx 1
    simp at x0 x1
    have Hf := Lib.hid hf; clear hx hf c0 c1 d0 d1
    go_wp2_with fail
    go_quiet (fail)
    go_wp2_with fail
    go_ret3
    exact ⟨by simp only [Hxe.out]; rfl, Hf.out.drewN _⟩
end
end Go.Proofs.Ytfgpmbahekcoeaa
