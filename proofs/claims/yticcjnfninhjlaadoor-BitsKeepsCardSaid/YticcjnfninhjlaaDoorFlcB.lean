/- flatBytes' pieces: its marks, a list's element set. No condition. -/
import Derived.Test.YticcjnfninhjlaaDoorFlcA
import Derived.Test.YticcjnfninhjlaaDoorFlatC
namespace Go.Proofs.YticcjnfninhjlaaDoor
open Go.RowKit
theorem Tryd.infoFB : (Tryd.prog.info? 30).map (fun i => (i.zero, i.size, i.bytes)) = some (some (.slice none 0 0), 1, 24) := by kernel_rfl
theorem Tryd.infoFb : (Tryd.prog.info? 5).map (fun i => (i.zero, i.size, i.bytes)) = some (some (.int .u8 0), 1, 1) := by kernel_rfl
noncomputable def mkB (k i : Nat) : Int := if h : k ≤ 1000 ∧ i ≤ 1000000 then Classical.choose (markByte_ex h.1 h.2) else 0
theorem markByte_ok {k i : Nat} (hk : k ≤ 1000) (hi : i ≤ 1000000) (w : World) : Calls Tryd.prog 80 #[.int .i64 k, .int .i64 i] w fun e w' => e = .returned (.int .u8 (mkB k i)) ∧ w = w' := by
  have := Classical.choose_spec (markByte_ex hk hi) w
  unfold mkB
  rw [dif_pos ⟨hk, hi⟩]; exact this
noncomputable def mkv (k i : Nat) : Value := .int .u8 (mkB k i)
noncomputable def mkL (k m : Nat) : List Value := (List.range m).map (mkv k)
theorem mkL_length (k m : Nat) : (mkL k m).length = m := by simp [mkL]
theorem mkL_get {k m p : Nat} (h : p < m) : (mkL k m)[p]? = some (mkv k p) := by simp [mkL, h]
theorem mkL_succ (k m : Nat) : mkL k (m + 1) = mkL k m ++ [mkv k m] := by simp [mkL, List.range_succ]
/-- An element of a row of marks. -/
theorem fl_cell {w : World} {e : TypeId} {a : Option Addr} {n c k i : Nat} (h : Row w e 1 (.slice a n c) n (mkL k n)) (hi : i < n) : ∃ b, a = some ⟨b, 0, none⟩ ∧ w.cell? ⟨b, i, none⟩ = some (.int .u8 (mkB k i)) := by
  rcases h.2 with ⟨e1, e2⟩ | ⟨g, cap, cur, e1, _, k1, k2, k3, k4, k5⟩
  · omega
  · obtain ⟨rfl, -, rfl⟩ := Value.slice.inj e1
    refine ⟨g, rfl, ?_⟩
    have h1 : (cur.toList.take (n * 1))[i]? = some (mkv k i) := by rw [k5]; exact mkL_get hi
    rw [List.getElem?_take, if_pos (by omega), Array.getElem?_toList] at h1
    rw [cell_of k1 i]; exact h1
theorem mkL_add (k a : Nat) : ∀ b, ∃ ys, mkL k (a + b) = mkL k a ++ ys
  | 0 => ⟨[], by simp⟩
  | b + 1 => by
    obtain ⟨ys, h⟩ := mkL_add k a b
    exact ⟨ys ++ [mkv k (a + b)], by rw [← Nat.add_assoc, mkL_succ, h, List.append_assoc]⟩
theorem mkL_ext {k m : Nat} {l : List Value} (hl : l.length = m) (h : ∀ p, p < m → l[p]? = some (mkv k p)) : l = mkL k m := by
  apply List.ext_getElem?
  intro p
  by_cases hp : p < m
  · rw [h p hp, mkL_get hp]
  · rw [List.getElem?_eq_none (by omega), List.getElem?_eq_none (by rw [mkL_length]; omega)]
section
variable {w : World} {e : TypeId} {K lb gb : Nat} {lv gv : Nat → Value} {n m : Nat → Nat} {f g : Nat → List Value}
theorem Fl2.setl (h : Fl2 w e 1 K lb gb lv gv n m f g) (hg : ∀ j, j < K → (gv j).ownBlock = none) {k i : Nat} (hk : k < K) (hi : i < n k) :
    ∃ b c, lv k = .slice (some ⟨b, 0, none⟩) (n k) c ∧ (∃ x, w.cell? ⟨b, i, none⟩ = some x) ∧ w.frozen? ⟨b, i, none⟩ = false ∧ b ≠ lb ∧ b ≠ gb ∧ (lv k).ownBlock = some b ∧
      ∀ x, Fl2 (w.setCell ⟨b, i, none⟩ x) e 1 K lb gb lv gv n m (fun j => if j = k then (f k).set i x else f j) g := by
  have hr := h.lr k hk
  rcases hr.2 with ⟨_, h0⟩ | ⟨b, c, cur, e1, z0, k1, k2, k3, k4, k5⟩
  · omega
  · have ho : (lv k).ownBlock = some b := by rw [e1]; rfl
    have hne := h.hb k b hk (.inl ho)
    refine ⟨b, c, e1, ?_, free_of k1 i, hne.1, hne.2, ho, ?_⟩
    · refine ⟨_, (cell_of k1 i).trans (Array.getElem?_eq_getElem (by omega))⟩
    · intro x
      have fr : Fr (fun y => y = b) w (w.setCell ⟨b, i, none⟩ x) := Fr.setCell (F := fun y => y = b) (p := ⟨b, i, none⟩) (Fr.refl _ _) (fun _ => rfl) _
      refine ⟨fun j hj => (fr.cell h.lt.1 (fun e => hne.1 e.symm)).trans (h.lh j hj), ?_, ?_, h.ap, h.hb, fun j b' hj h1 h2 => (by rw [hg j hj] at h2; cases h2), ⟨Nat.lt_of_lt_of_le h.lt.1 fr.size, Nat.lt_of_lt_of_le h.lt.2 fr.size⟩⟩
      · intro j hj
        by_cases ej : j = k
        · subst ej
          simp only [if_pos]
          rw [e1]
          refine ⟨by rw [List.length_set]; exact hr.1, .inr ⟨b, c, _, rfl, Nat.zero_le _, setCell_blk (o := i) k1 x, k2, k3, by simpa using k4, ?_⟩⟩
          rw [← k5, Array.toList_setIfInBounds, List.take_set]
        · simp only [if_neg ej]
          exact Row.fr (h.lr j hj) fr (fun b' hb' eb => h.ap j k b hj hk ej (.inl (by rw [← eb]; exact hb')) (.inl ho))
      · intro j hj
        exact Row.fr (h.gr j hj) fr (fun b' hb' eb => by rw [hg j hj] at hb'; cases hb')
end
end Go.Proofs.YticcjnfninhjlaaDoor
