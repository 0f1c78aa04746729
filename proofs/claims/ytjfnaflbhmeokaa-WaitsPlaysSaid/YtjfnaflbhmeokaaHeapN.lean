/- What settling keeps: the items, each once. No condition. -/
import Derived.Test.YtjfnaflbhmeokaaHeapM
namespace Go.Proofs.Ytjfnaflbhmeokaa
theorem itAt_get {L : List It} {i : Nat} (h : i < L.length) : itAt L i = L[i] := by simp [itAt, h]
theorem itAt_mem {L : List It} {i : Nat} (h : i < L.length) : itAt L i ∈ L := by rw [itAt_get h]; exact List.getElem_mem h
theorem swapL_perm {L : List It} {i k : Nat} (hi : i < L.length) (hk : k < L.length) : (swapL L i k).Perm L := by
  have h := Array.swap_perm (xs := L.toArray) (i := i) (j := k) (by simpa using hi) (by simpa using hk)
  have h2 := h.toList
  have e : (L.toArray.swap i k (by simpa using hi) (by simpa using hk)).toList = swapL L i k := by
    unfold swapL
    rw [itAt_get hi, itAt_get hk]
    simp [Array.swap]
  rw [e] at h2
  simpa using h2
theorem upF_lt (lt : Int → Int → Bool) : ∀ (f : Nat) (L : List It) (n : Nat), n < L.length → (upF lt f L n).2 < L.length := by
  intro f
  induction f with
  | zero => intro L n h; exact h
  | succ f ih =>
    intro L n h
    simp only [upF]
    split
    · have := ih (swapL L n ((n - 1) / 2)) ((n - 1) / 2) (by rw [swapL_length]; omega)
      rw [swapL_length] at this; exact this
    · exact h
theorem upF_perm (lt : Int → Int → Bool) : ∀ (f : Nat) (L : List It) (n : Nat), n < L.length → ((upF lt f L n).1).Perm L := by
  intro f
  induction f with
  | zero => intro L n h; exact List.Perm.refl _
  | succ f ih =>
    intro L n h
    simp only [upF]
    split
    · exact (ih (swapL L n ((n - 1) / 2)) ((n - 1) / 2) (by rw [swapL_length]; omega)).trans (swapL_perm h (by omega))
    · exact List.Perm.refl _
theorem downF_perm (lt : Int → Int → Bool) : ∀ (f : Nat) (L : List It) (n : Nat), n < L.length → (downF lt f L n).Perm L := by
  intro f
  induction f with
  | zero => intro L n h; exact List.Perm.refl _
  | succ f ih =>
    intro L n h
    simp only [downF]
    split
    · exact List.Perm.refl _
    · have h2 := lstF_lt lt L n 2 h
      exact (ih (swapL L n (lstF lt L n 2)) (lstF lt L n 2) (by rw [swapL_length]; exact h2)).trans (swapL_perm h h2)
theorem settleF_perm (lt : Int → Int → Bool) {L : List It} {n : Nat} (h : n < L.length) : (settleF lt L n).Perm L := by
  unfold settleF
  have hp := upF_perm lt n L n h
  exact (downF_perm lt _ _ _ (by rw [hp.length_eq]; exact upF_lt lt n L n h)).trans hp
theorem settleF_length (lt : Int → Int → Bool) {L : List It} {n : Nat} (h : n < L.length) : (settleF lt L n).length = L.length := (settleF_perm lt h).length_eq
/-- What holds of all items holds of all of a heap that has the same. -/
theorem all_perm {L M : List It} (h : L.Perm M) {p : It → Prop} (hp : ∀ i, i < M.length → p (itAt M i)) : ∀ i, i < L.length → p (itAt L i) := by
  intro i hi
  have hm := h.mem_iff.1 (itAt_mem hi)
  obtain ⟨j, hj, e⟩ := List.getElem_of_mem hm
  have := hp j hj
  rwa [itAt_get hj, e] at this
theorem itAt_append_lt {L : List It} {x : It} {i : Nat} (h : i < L.length) : itAt (L ++ [x]) i = itAt L i := by
  simp [itAt, List.getElem?_append_left h]
theorem itAt_append_eq {L : List It} {x : It} : itAt (L ++ [x]) L.length = x := by simp [itAt]
theorem PlaceOf.push {f : Int → Option Int} {L : List It} (h : PlaceOf f L) {v x : Int} (hx : ∀ i, i < L.length → (itAt L i).2 ≠ x) :
    PlaceOf (fun j => if j = x then some (L.length : Int) else f j) (L ++ [(v, x)]) := by
  constructor
  · intro n hn
    simp only [List.length_append, List.length_cons, List.length_nil, Nat.zero_add] at hn
    by_cases h1 : n = L.length
    · subst h1; rw [itAt_append_eq]; simp
    · rw [itAt_append_lt (by omega), if_neg (hx n (by omega))]
      exact h.here n (by omega)
  · intro j hj
    have h1 := hj L.length (by simp)
    rw [itAt_append_eq] at h1
    rw [if_neg (fun e => h1 e.symm)]
    apply h.gone
    intro n hn
    have := hj n (by simp; omega)
    rwa [itAt_append_lt hn] at this
theorem all_append {L : List It} {x : It} {p : It → Prop} (hp : ∀ i, i < L.length → p (itAt L i)) (hx : p x) : ∀ i, i < (L ++ [x]).length → p (itAt (L ++ [x]) i) := by
  intro i hi
  simp only [List.length_append, List.length_cons, List.length_nil, Nat.zero_add] at hi
  by_cases h1 : i = L.length
  · subst h1; rw [itAt_append_eq]; exact hx
  · rw [itAt_append_lt (by omega)]; exact hp i (by omega)
/-- The items without the one at a place. -/
def takeF (lt : Int → Int → Bool) (L : List It) (at_ : Nat) : List It :=
  let last := L.length - 1
  let L2 := (if at_ = last then L else swapL L at_ last).take last
  if at_ < last then settleF lt L2 at_ else L2
theorem itAt_take {L : List It} {m i : Nat} (h : i < m) : itAt (L.take m) i = itAt L i := by simp [itAt, h]
theorem PlaceOf.pop {f : Int → Option Int} {L : List It} (h : PlaceOf f L) {m : Nat} (hm : L.length = m + 1) :
    PlaceOf (fun j => if j = (itAt L m).2 then none else f j) (L.take m) := by
  constructor
  · intro n hn
    have hn' : n < m := by simp at hn; omega
    rw [itAt_take hn', if_neg (fun e => by have := h.inj (by omega) (by omega) e; omega)]
    exact h.here n (by omega)
  · intro j hj
    by_cases e : j = (itAt L m).2
    · rw [if_pos e]
    · rw [if_neg e]
      apply h.gone
      intro n hn
      by_cases h1 : n = m
      · subst h1; exact fun e2 => e e2.symm
      · have := hj n (by simp; omega)
        rwa [itAt_take (by omega)] at this
theorem takeF_length (lt : Int → Int → Bool) {L : List It} {at_ : Nat} (h : at_ < L.length) : (takeF lt L at_).length = L.length - 1 := by
  have e : ((if at_ = L.length - 1 then L else swapL L at_ (L.length - 1)).take (L.length - 1)).length = L.length - 1 := by
    split <;> simp [swapL_length] <;> omega
  unfold takeF
  dsimp only
  split
  · rw [settleF_length lt (by rw [e]; assumption), e]
  · exact e
end Go.Proofs.Ytjfnaflbhmeokaa
