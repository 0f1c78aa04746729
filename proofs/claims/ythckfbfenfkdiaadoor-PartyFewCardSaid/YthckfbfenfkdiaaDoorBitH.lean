/- A copy of a set; its iterators; its bytes; whether two are the same. No condition. -/
import Derived.Test.YthckfbfenfkdiaaDoorBitG
namespace Go.Proofs.YthckfbfenfkdiaaDoor.Bt
open Go.RowKit
theorem u64_one {L : List Nat} : ∀ u ∈ L.map u64v, u.oneCell' = true := by
  intro u hu
  obtain ⟨x, _, rfl⟩ := List.mem_map.1 hu
  rfl
theorem addr_add (g o j : Nat) : (⟨g, o, none⟩ : Addr).add j = ⟨g, o + j, none⟩ := by
  by_cases h0 : j = 0
  · subst h0; simp [Addr.add]
  · simp [Addr.add, h0]
set_option maxRecDepth 100000 in
theorem clone_ok {w : World} {sv : Value} {n : Nat} {L : List Nat} (hR : Row w 70 1 sv n (L.map u64v)) (hn : n ≤ 70000) :
    Calls Tryd.prog 47 #[sv] w fun e w' => ∃ a c, e = .returned (.slice a n c) ∧ Row w' 70 1 (.slice a n c) n (L.map u64v) ∧ Fr (fun _ => False) w w' ∧ (∀ b, (Value.slice a n c).ownBlock = some b → w.heap.size ≤ b) := by
  have q := fun w a n c => Lib.run_eql_slice_nil (P := Tryd.prog) w _ _ a n c 0 0 Tryd.underlying28
  rcases hR.2 with ⟨rfl, h0⟩ | ⟨g, cap, cur, rfl, hg, h1, h2, h3, h4, h5⟩
  · subst h0
    have HR := Lib.hid hR; clear hR
    go_enter Tryd.func47, Tryd.ntmps47
    go_wp2_with fail
    go_ret
    exact ⟨_, _, rfl, HR.out, Fr.refl _ _, by intro b hb; simp [Value.ownBlock] at hb⟩
  · obtain ⟨i0, hi, hz0, hz1, hz2⟩ := info_parts Tryd.infoU64
    have hlg : g < w.heap.size := (Array.getElem?_eq_some_iff.1 h1).1
    have hfr : Fr (fun _ => False) w (w.alloc (.cells #[] 70)) := Fr.alloc (Fr.refl _ _) _
    have hR1 : Row (w.alloc (.cells #[] 70)) 70 1 (.slice (some ⟨w.heap.size, 0, none⟩) 0 0) 0 [] :=
      ⟨rfl, .inr ⟨w.heap.size, 0, #[], rfl, Nat.zero_le _, (by simp only [heap_alloc_get]; simp), Nat.le_refl _, Nat.zero_le _, rfl, rfl⟩⟩
    obtain ⟨v', w3, hrun, hR3, hf3, ho3⟩ := run_append_fr (P := Tryd.prog) _ 28 28 70 i0 _ 1 8 Tryd.underlying28 hi hz0 hz1 hz2 rfl (by decide) _ _ _ hR1 ⟨g, 0, none⟩ n cap (L.map u64v) hR.1
      (by
        intro j u hu
        have hj : j < (L.map u64v).length := (List.getElem?_eq_some_iff.1 hu).1
        rw [hR.1] at hj
        have hb := hfr.get h1 (fun h => h)
        rw [← h5, List.getElem?_take, if_pos hj] at hu
        have := cell_of hb j
        rw [addr_add, Nat.zero_add, this]; simpa using hu)
      u64_one (by unfold maxLen; omega) (by omega)
    simp only [Nat.zero_add, List.nil_append] at hR3
    obtain ⟨a', c', rfl⟩ : ∃ a' c', v' = .slice a' n c' := by
      rcases hR3.2 with ⟨rfl, h0⟩ | ⟨g, cap, cur, rfl, _⟩
      · exact ⟨none, 0, by rw [h0]⟩
      · exact ⟨_, _, rfl⟩
    have HR3 := Lib.hid hR3; have Hf3 := Lib.hid hf3; have Ho3 := Lib.hid ho3; have Hfr := Lib.hid hfr
    have Hrun := Lib.hid hrun
    clear hR h1 h2 h3 h4 h5 hR3 hf3 ho3 hfr hR1 hi hz0 hz1 hz2 hrun
    go_enter Tryd.func47, Tryd.ntmps47
    go_wp2_with (at_builtin; refine wpList_append_run rfl _ _ _ rfl rfl rfl Hrun.out ?_)
    go_ret
    refine ⟨a', c', rfl, HR3.out, ?_, ?_⟩
    · refine Fr.trans Hfr.out Hf3.out ?_
      intro b hb e
      simp [Value.ownBlock] at e; omega
    · intro b hb
      rcases Ho3.out with h | h
      · rw [h] at hb; simp [Value.ownBlock] at hb; omega
      · rw [h] at hb; simp at hb; omega
/-- A set of a call's own. -/
structure NewSet (w w' : World) (bh : Nat) (v : Value) (B : List Bool) : Prop where
  at_ : SetAt w' bh v B
  new : w.heap.size ≤ bh
  newv : ∀ b, v.ownBlock = some b → w.heap.size ≤ b ∧ b ≠ bh
  fr : Fr (fun _ => False) w w'
theorem copy_end {w w1 w2 : World} {bh : Nat} {v sv : Value} {B : List Bool} (h : SetAt w bh v B) (hr : Row w1 70 1 sv (nw B.length) ((words B).map u64v)) (hf : Fr (fun _ => False) w.drew w1) (ho : ∀ b, sv.ownBlock = some b → w.drew.heap.size ≤ b) (e : w2 = w1.alloc (.cells #[.bool true, .int .i64 B.length, sv] 30)) :
    ∃ bh' v', Ending.returned (.pointer (some ⟨w1.heap.size, 0, none⟩)) = .returned (.pointer (some ⟨bh', 0, none⟩)) ∧ NewSet w w2 bh' v' B := by
  have fa : Fr (fun _ => False) w1 w2 := by rw [e]; exact Fr.alloc (Fr.refl _ _) _
  have hs := hf.size
  refine ⟨_, sv, rfl, ⟨⟨?_, Row.fr hr fa (fun _ _ h => h), h.small⟩, hs, ?_, ((Fr.drew (Fr.refl _ w)).trans hf (fun _ _ h => h)).trans fa (fun _ _ h => h)⟩⟩
  · rw [e, heap_alloc_get]; simp
  · intro b hb
    have := Row.lt hr hb
    exact ⟨ho b hb, by omega⟩
set_option maxRecDepth 100000 in
set_option maxHeartbeats 1000000 in
theorem copy_ok {w : World} {bh : Nat} {v : Value} {B : List Bool} (h : SetAt w bh v B) : Calls Tryd.prog 41 #[.pointer (some ⟨bh, 0, none⟩)] w fun e w' => ∃ bh' v', e = .returned (.pointer (some ⟨bh', 0, none⟩)) ∧ NewSet w w' bh' v' B := by
  have c1 := h.c1
  have c2 := h.c2
  have hb := h.lt
  have H := Lib.hid h
  have hsm := h.small
  have hnw : nw B.length ≤ 70000 := by unfold nw; omega
  have Hsm := Lib.hid hsm; have Hnw := Lib.hid hnw
  clear h hsm hnw
  go_enter Tryd.func41, Tryd.ntmps41
  go_wp2_with fail
  refine (there_ok H.out).mono ?_
  rintro e w1 ⟨rfl, rfl⟩
  go_upto_region 3 with fail
  refine wp_region_held_drew (S := fun w' => w'.cell? ⟨bh, 1, none⟩ = some (.int .i64 B.length) ∧ w'.cell? ⟨bh, 2, none⟩ = some v) (by kernel_rfl) (by exact ⟨c1, c2⟩) (fun hHeld => ?_)
  refine wpAnyH_take (i := 0) (v := ?_) rfl (by kernel_rfl) (by kernel_rfl) (by kernel_rfl) (fun _ _ _ h => h) (Or.inl ⟨by rfl, ?_⟩) (by assumption) ?_
  rotate_left
  · intro w' hSw; (try dsimp only at hSw); go_simp; try with_reducible rfl
  try simp only [Act.put, List.getElem_toArray, List.getElem_cons_zero, List.setIfInBounds_toArray, List.set_cons_zero, List.set_cons_succ]
  refine wpAnyH_take (i := 1) (v := ?_) rfl (by kernel_rfl) (by kernel_rfl) (by kernel_rfl) (fun _ _ _ h => h) (Or.inl ⟨by rfl, ?_⟩) (by assumption) ?_
  rotate_left
  · intro w' hSw; (try dsimp only at hSw); go_simp; try with_reducible rfl
  try simp only [Act.put, List.getElem_toArray, List.getElem_cons_zero, List.getElem_cons_succ, List.setIfInBounds_toArray, List.set_cons_zero, List.set_cons_succ]
  refine wpAnyH_take (i := 2) (v := ?_) rfl (by kernel_rfl) (by kernel_rfl) (by kernel_rfl) (fun _ _ _ h => h) (Or.inl ⟨by rfl, ?_⟩) (by assumption) ?_
  rotate_left
  · intro w' hSw; (try dsimp only at hSw); go_simp; try with_reducible rfl
  try simp only [Act.put, List.getElem_toArray, List.getElem_cons_zero, List.getElem_cons_succ, List.setIfInBounds_toArray, List.set_cons_zero, List.set_cons_succ]
  refine wpAnyH_take (i := 3) (v := ?_) rfl (by kernel_rfl) (by kernel_rfl) (by kernel_rfl) (fun _ _ _ h => h) (Or.inl ⟨by rfl, ?_⟩) (by assumption) ?_
  rotate_left
  · intro w' hSw; (try dsimp only at hSw); go_simp; try with_reducible rfl
  try simp only [Act.put, List.getElem_toArray, List.getElem_cons_zero, List.getElem_cons_succ, List.setIfInBounds_toArray, List.set_cons_zero, List.set_cons_succ]
  refine wpAnyH_take (i := 4) (v := ?_) rfl (by kernel_rfl) (by kernel_rfl) (by kernel_rfl) (fun _ _ _ h => h) (Or.inl ⟨by rfl, ?_⟩) (by assumption) ?_
  rotate_left
  · intro w' hSw; (try dsimp only at hSw); go_simp; try with_reducible rfl
  try simp only [Act.put, List.getElem_toArray, List.getElem_cons_zero, List.getElem_cons_succ, List.setIfInBounds_toArray, List.set_cons_zero, List.set_cons_succ]
  refine wpAnyH_take (i := 5) (v := ?_) rfl (by kernel_rfl) (by kernel_rfl) (by kernel_rfl) (fun _ _ _ h => h) (Or.inl ⟨by rfl, ?_⟩) (by assumption) ?_
  rotate_left
  · intro w' hSw; (try dsimp only at hSw); go_simp; try with_reducible rfl
  try simp only [Act.put, List.getElem_toArray, List.getElem_cons_zero, List.getElem_cons_succ, List.setIfInBounds_toArray, List.set_cons_zero, List.set_cons_succ]
  refine wpAnyH_take (i := 6) (v := ?_) rfl (by kernel_rfl) (by kernel_rfl) (by kernel_rfl) (fun _ _ _ h => h) (Or.inl ⟨by rfl, ?_⟩) (by assumption) ?_
  rotate_left
  · intro w' hSw; (try dsimp only at hSw); go_simp; try with_reducible rfl
  try simp only [Act.put, List.getElem_toArray, List.getElem_cons_zero, List.getElem_cons_succ, List.setIfInBounds_toArray, List.set_cons_zero, List.set_cons_succ]
  refine wpAnyH_take (i := 7) (v := ?_) rfl (by kernel_rfl) (by kernel_rfl) (by kernel_rfl) (fun _ _ _ h => h) (Or.inl ⟨by rfl, ?_⟩) (by assumption) ?_
  rotate_left
  · intro w' hSw; (try dsimp only at hSw); go_simp; try with_reducible rfl
  try simp only [Act.put, List.getElem_toArray, List.getElem_cons_zero, List.getElem_cons_succ, List.setIfInBounds_toArray, List.set_cons_zero, List.set_cons_succ]
  refine wpAnyH_ready (rs := [8]) (by kernel_rfl) (by simp) ?_
  refine AllReadyH.cons rfl (fun K hK => ?_) AllReadyH.nil
  go_simp
  refine (clone_ok (Row.fr H.out.row (Fr.drew (Fr.refl (fun _ => False) w)) (fun _ _ h => h)) Hnw.out).mono ?_
  rintro e w1 ⟨sa, sc, rfl, hr1, hf1, ho1⟩
  have Hr1 := Lib.hid hr1; have Hf1 := Lib.hid hf1; have Ho1 := Lib.hid ho1
  clear hr1 hf1 ho1
  try go_simp
  refine hK.out _ _ ?_ (fun hHeld => ?_)
  · (try dsimp only); exact ⟨(Hf1.out.cell (by exact hb) (fun h => h)).trans hHeld.1, (Hf1.out.cell (by exact hb) (fun h => h)).trans hHeld.2⟩
  clear hK K
  try simp only [Act.put, List.getElem_toArray, List.getElem_cons_zero, List.getElem_cons_succ, List.setIfInBounds_toArray, List.set_cons_zero, List.set_cons_succ]
  refine wpAnyH_take (i := 9) (v := ?_) rfl (by kernel_rfl) (by kernel_rfl) (by kernel_rfl) (fun _ _ _ h => h) (Or.inl ⟨by rfl, ?_⟩) (by assumption) ?_
  rotate_left
  · intro w' hSw; (try dsimp only at hSw); go_simp; try with_reducible rfl
  try simp only [Act.put, List.getElem_toArray, List.getElem_cons_zero, List.getElem_cons_succ, List.setIfInBounds_toArray, List.set_cons_zero, List.set_cons_succ]
  refine wpAnyH_ready (rs := [10]) (by kernel_rfl) (by simp) ?_
  refine AllReadyH.cons rfl (fun K hK => ?_) AllReadyH.nil
  go_simp
  skip
  try go_simp
  refine hK.out _ _ ?_ (fun hHeld => ?_)
  · (try dsimp only); first | exact hHeld | go_keep
  clear hK K
  try simp only [Act.put, List.getElem_toArray, List.getElem_cons_zero, List.getElem_cons_succ, List.setIfInBounds_toArray, List.set_cons_zero, List.set_cons_succ]
  refine wpAnyH_take (i := 11) (v := ?_) rfl (by kernel_rfl) (by kernel_rfl) (by kernel_rfl) (fun _ _ _ h => h) (Or.inl ⟨by rfl, ?_⟩) (by assumption) ?_
  rotate_left
  · intro w' hSw; (try dsimp only at hSw); go_simp; try with_reducible rfl
  try simp only [Act.put, List.getElem_toArray, List.getElem_cons_zero, List.getElem_cons_succ, List.setIfInBounds_toArray, List.set_cons_zero, List.set_cons_succ]
  refine wpAnyH_done (by kernel_rfl) ?_ _
  go_wp2_with fail
  go_ret
  exact copy_end H.out Hr1.out Hf1.out Ho1.out rfl
set_option maxRecDepth 100000 in
theorem copy_no {w : World} {p : Option Addr} (h : NoSet w p) : Calls Tryd.prog 41 #[.pointer p] w fun e w' => e = .returned (.pointer none) ∧ w = w' := by
  have H := Lib.hid h
  clear h
  go_enter Tryd.func41, Tryd.ntmps41
  go_wp2_with fail
  refine (there_no H.out).mono ?_
  rintro e w1 ⟨rfl, rfl⟩
  go_wp2_with fail
  go_ret
  exact ⟨rfl, rfl⟩
end Go.Proofs.YthckfbfenfkdiaaDoor.Bt
