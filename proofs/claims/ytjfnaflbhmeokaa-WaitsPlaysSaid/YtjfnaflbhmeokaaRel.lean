/- A heap's items and the document's: the same, the document's by their handles. Plain Lean. No condition. -/
import Derived.Test.YtjfnaflbhmeokaaHeapO
namespace Go.Proofs.Ytjfnaflbhmeokaa
def sw (x : It) : It := (x.2, x.1)
theorem sw_sw (x : It) : sw (sw x) = x := rfl
/-- R holds L's items, turned, in the order of their handles. -/
structure Rel (L R : List It) : Prop where
  perm : (R.map sw).Perm L
  up : R.Pairwise fun x y => x.1 < y.1
def without (L : List It) (i : Nat) : List It := L.take i ++ L.drop (i + 1)
theorem split_at {L : List It} {i : Nat} (h : i < L.length) : L = L.take i ++ itAt L i :: L.drop (i + 1) := by
  rw [itAt_get h, ← List.drop_eq_getElem_cons h, List.take_append_drop]
theorem perm_without {L : List It} {i : Nat} (h : i < L.length) : (itAt L i :: without L i).Perm L := by
  have := split_at h
  refine (List.perm_middle.symm).trans ?_
  rw [← this]
theorem perm_set {L : List It} {i : Nat} (h : i < L.length) (x : It) : (x :: without L i).Perm (L.set i x) := by
  rw [List.set_eq_take_append_cons_drop, if_pos h]
  exact List.perm_middle.symm
theorem perm_take (lt : Int → Int → Bool) {L : List It} {n : Nat} (h : n < L.length) : (itAt L n :: takeF lt L n).Perm L := by
  obtain ⟨m, hm⟩ : ∃ m, L.length = m + 1 := ⟨L.length - 1, by omega⟩
  obtain ⟨L2, h2⟩ : ∃ L2, (if n = m then L else swapL L n m) = L2 := ⟨_, rfl⟩
  have hl2 : L2.length = m + 1 := by rw [← h2]; split <;> simp [swapL_length, hm]
  have hp2 : L2.Perm L := by
    rw [← h2]; split
    · exact List.Perm.refl _
    · exact swapL_perm h (by omega)
  have he : itAt L2 m = itAt L n := by
    rw [← h2]; split
    · rename_i e; rw [e]
    · rename_i e; rw [itAt_swap h (by omega), if_pos rfl]
  have hs := split_at (L := L2) (i := m) (by omega)
  rw [List.drop_eq_nil_of_le (by omega), he] at hs
  have hp : (itAt L n :: L2.take m).Perm L2 := by
    have := (List.perm_middle (a := itAt L n) (l₁ := L2.take m) (l₂ := [])).symm
    rw [List.append_nil] at this
    rw [← hs] at this
    exact this
  have hk : (takeF lt L n).Perm (L2.take m) := by
    unfold takeF
    dsimp only
    rw [hm, Nat.add_sub_cancel, h2]
    split
    · exact settleF_perm lt (by simp; omega)
    · exact List.Perm.refl _
  exact ((hk.cons _).trans hp).trans hp2
theorem Rel.nil : Rel [] [] := ⟨List.Perm.refl _, List.Pairwise.nil⟩
theorem Rel.len {L R : List It} (h : Rel L R) : R.length = L.length := by have := h.perm.length_eq; simpa using this
theorem Rel.lone {L R : List It} (h : Rel L R) {i j : Nat} (hi : i < R.length) (hj : j < R.length) (e : (itAt R i).1 = (itAt R j).1) : i = j := by
  have hp := List.pairwise_iff_getElem.1 h.up
  rw [itAt_get hi, itAt_get hj] at e
  rcases Nat.lt_trichotomy i j with h1 | h1 | h1
  · have := hp i j hi hj h1; omega
  · exact h1
  · have := hp j i hj hi h1; omega
theorem Rel.find {L R : List It} (h : Rel L R) {i : Nat} (hi : i < L.length) : ∃ k, k < R.length ∧ itAt R k = sw (itAt L i) := by
  have hm : itAt L i ∈ R.map sw := h.perm.symm.subset (itAt_mem hi)
  obtain ⟨x, hx, e⟩ := List.mem_map.1 hm
  obtain ⟨k, hk, rfl⟩ := List.getElem_of_mem hx
  exact ⟨k, hk, by rw [itAt_get hk, ← e, sw_sw]⟩
theorem Rel.back {L R : List It} (h : Rel L R) {k : Nat} (hk : k < R.length) : ∃ i, i < L.length ∧ itAt L i = sw (itAt R k) := by
  have hm : sw (itAt R k) ∈ L := h.perm.subset (List.mem_map.2 ⟨_, itAt_mem hk, rfl⟩)
  obtain ⟨i, hi, e⟩ := List.getElem_of_mem hm
  exact ⟨i, hi, by rw [itAt_get hi, e]⟩
theorem Rel.push {lt : Int → Int → Bool} {L R : List It} (h : Rel L R) {next : Int} (v : Int) (hx : ∀ i, i < L.length → (itAt L i).2 < next) : Rel (settleF lt (L ++ [(v, next)]) L.length) (R ++ [(next, v)]) := by
  refine ⟨?_, ?_⟩
  · rw [List.map_append]
    exact (h.perm.append (List.Perm.refl [(v, next)])).trans (settleF_perm lt (by simp)).symm
  · rw [List.pairwise_append]
    refine ⟨h.up, List.pairwise_singleton _ _, ?_⟩
    intro x hxx y hy
    simp at hy
    subst hy
    obtain ⟨k, hk, rfl⟩ := List.getElem_of_mem hxx
    obtain ⟨i, hi, e⟩ := h.back hk
    have := hx i hi
    rw [e, itAt_get hk] at this
    exact this
theorem Rel.set {lt : Int → Int → Bool} {L R : List It} (h : Rel L R) {i k : Nat} (hi : i < L.length) (hk : k < R.length) (e : itAt R k = sw (itAt L i)) (v : Int) :
    Rel (settleF lt (L.set i (v, (itAt L i).2)) i) (R.set k ((itAt R k).1, v)) := by
  refine ⟨?_, ?_⟩
  · have h1 := (perm_set hk ((itAt R k).1, v)).map sw
    have h2 := perm_set hi (v, (itAt L i).2)
    have h3 : ((without R k).map sw).Perm (without L i) := by
      have a := (perm_without hk).map sw
      have b := perm_without hi
      rw [List.map_cons, e, sw_sw] at a
      exact ((a.trans h.perm).trans b.symm).cons_inv
    refine (h1.symm.trans ?_).trans (settleF_perm lt (by simpa using hi)).symm
    refine List.Perm.trans ?_ h2
    rw [List.map_cons, e]
    exact h3.cons _
  · rw [List.pairwise_iff_getElem]
    intro a b ha hb hab
    have hp := List.pairwise_iff_getElem.1 h.up
    simp only [List.length_set] at ha hb
    have := hp a b ha hb hab
    simp only [List.getElem_set]
    have ek : (itAt R k).1 = R[k].1 := by rw [itAt_get hk]
    split <;> split
    · omega
    · rename_i e1 _; subst e1; simpa [itAt_get hk] using this
    · rename_i _ e1; subst e1; simpa [itAt_get hk] using this
    · exact this
theorem Rel.take {lt : Int → Int → Bool} {L R : List It} (h : Rel L R) {i k : Nat} (hi : i < L.length) (hk : k < R.length) (e : itAt R k = sw (itAt L i)) :
    Rel (takeF lt L i) (R.take k ++ R.drop (k + 1)) := by
  refine ⟨?_, ?_⟩
  · have a := (perm_without hk).map sw
    have b := perm_take lt hi
    rw [List.map_cons, e, sw_sw] at a
    exact ((a.trans h.perm).trans b.symm).cons_inv
  · refine h.up.sublist ?_
    conv => rhs; rw [split_at hk]
    exact (List.Sublist.refl _).append (List.sublist_cons_self _ _)
end Go.Proofs.Ytjfnaflbhmeokaa
