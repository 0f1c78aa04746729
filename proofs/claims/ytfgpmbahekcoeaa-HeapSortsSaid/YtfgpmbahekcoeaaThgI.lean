/- HeapSorts' books: which things there are, by their handles. Plain Lean. No condition. -/
import Derived.Test.YtfgpmbahekcoeaaThgL
import Derived.Test.YtfgpmbahekcoeaaRel
namespace Go.Proofs.Ytfgpmbahekcoeaa.Th
open Go.RowKit
/-- The heap's items L are those of V that T marks, each under its place. -/
structure Items (V : List Int) (T : List Bool) (L : List It) : Prop where
  len : T.length = V.length
  nd : (L.map Prod.snd).Nodup
  mem : ∀ x, x ∈ L ↔ ∃ j, j < V.length ∧ T.getD j false = true ∧ x = (V.getD j 0, (j : Int))
theorem Items.nil : Items [] [] [] := ⟨rfl, by simp, by simp⟩
theorem Items.there {V : List Int} {T : List Bool} {L : List It} (h : Items V T L) {j : Nat} (hj : j < V.length) (ht : T.getD j false = true) : ∃ i, i < L.length ∧ itAt L i = (V.getD j 0, (j : Int)) := by
  have hm := (h.mem (V.getD j 0, (j : Int))).2 ⟨j, hj, ht, rfl⟩
  obtain ⟨i, hi, e⟩ := List.getElem_of_mem hm
  exact ⟨i, hi, by rw [itAt_get hi, e]⟩
theorem Items.gone {V : List Int} {T : List Bool} {L : List It} (h : Items V T L) {j : Nat} (ht : T.getD j false = false) : ∀ i, i < L.length → (itAt L i).2 ≠ (j : Int) := by
  intro i hi e
  obtain ⟨k, hk, hT, ek⟩ := (h.mem _).1 (itAt_mem hi)
  rw [ek] at e
  have : k = j := by simp at e; omega
  rw [this, ht] at hT
  exact absurd hT (by simp)
theorem Items.at_ {V : List Int} {T : List Bool} {L : List It} (h : Items V T L) {i : Nat} (hi : i < L.length) : ∃ j, j < V.length ∧ T.getD j false = true ∧ itAt L i = (V.getD j 0, (j : Int)) := (h.mem _).1 (itAt_mem hi)
theorem Items.empty {V : List Int} {T : List Bool} (h : Items V T []) : ∀ j, j < V.length → T.getD j false = false := by
  intro j hj
  cases e : T.getD j false
  · rfl
  · have := (h.mem (V.getD j 0, (j : Int))).2 ⟨j, hj, e, rfl⟩
    simp at this
theorem perm_nd {L M : List It} (h : L.Perm M) (hn : (M.map Prod.snd).Nodup) : (L.map Prod.snd).Nodup := (h.map Prod.snd).nodup_iff.2 hn
theorem Items.push {lt : Int → Int → Bool} {V : List Int} {T : List Bool} {L : List It} (h : Items V T L) (v : Int) : Items (V ++ [v]) (T ++ [true]) (pushF lt L v (V.length : Int)) := by
  have hp : (pushF lt L v (V.length : Int)).Perm (L ++ [(v, (V.length : Int))]) := settleF_perm lt (by simp)
  have hl := h.len
  refine ⟨by simp [hl], perm_nd hp ?_, ?_⟩
  · rw [List.map_append, List.nodup_append]
    refine ⟨h.nd, by simp, ?_⟩
    intro a ha b hb
    obtain ⟨x, hx, rfl⟩ := List.mem_map.1 ha
    obtain ⟨j, hj, _, rfl⟩ := (h.mem x).1 hx
    simp at hb
    subst hb
    simp; omega
  · intro x
    rw [hp.mem_iff, List.mem_append, List.mem_singleton, h.mem]
    constructor
    · rintro (⟨j, hj, ht, rfl⟩ | rfl)
      · refine ⟨j, by simp; omega, ?_, ?_⟩
        · rw [List.getD_eq_getElem?_getD, List.getElem?_append_left (by omega), ← List.getD_eq_getElem?_getD]; exact ht
        · rw [List.getD_eq_getElem?_getD (l := V ++ [v]), List.getElem?_append_left hj, ← List.getD_eq_getElem?_getD]
      · refine ⟨V.length, by simp, ?_, ?_⟩
        · rw [← hl]; simp
        · simp
    · rintro ⟨j, hj, ht, rfl⟩
      simp at hj
      by_cases e : j = V.length
      · right
        subst e; simp
      · left
        have hj2 : j < V.length := by omega
        refine ⟨j, hj2, ?_, ?_⟩
        · rw [List.getD_eq_getElem?_getD, List.getElem?_append_left (by omega), ← List.getD_eq_getElem?_getD] at ht; exact ht
        · rw [List.getD_eq_getElem?_getD (l := V ++ [v]), List.getElem?_append_left hj2, ← List.getD_eq_getElem?_getD]
theorem getD_set_b (T : List Bool) (j k : Nat) (b : Bool) : (T.set j b).getD k false = if k = j ∧ j < T.length then b else T.getD k false := by
  simp only [List.getD_eq_getElem?_getD, List.getElem?_set]
  by_cases h : k = j
  · subst h
    by_cases h2 : k < T.length
    · simp [h2]
    · simp [h2]
  · rw [if_neg (fun e => h e.symm), if_neg (fun e => h e.1)]
theorem getD_set_i (V : List Int) (j k : Nat) (v : Int) : (V.set j v).getD k 0 = if k = j ∧ j < V.length then v else V.getD k 0 := by
  simp only [List.getD_eq_getElem?_getD, List.getElem?_set]
  by_cases h : k = j
  · subst h
    by_cases h2 : k < V.length
    · simp [h2]
    · simp [h2]
  · rw [if_neg (fun e => h e.symm), if_neg (fun e => h e.1)]
theorem Items.take {lt : Int → Int → Bool} {V : List Int} {T : List Bool} {L : List It} (h : Items V T L) {i j : Nat} (hi : i < L.length) (e : itAt L i = (V.getD j 0, (j : Int))) : Items V (T.set j false) (takeF lt L i) := by
  have hp := perm_take lt hi
  have hnd := perm_nd hp h.nd
  rw [List.map_cons, List.nodup_cons, e] at hnd
  refine ⟨by simp [h.len], hnd.2, ?_⟩
  intro x
  have hx : x ∈ L ↔ x = itAt L i ∨ x ∈ takeF lt L i := by rw [← hp.mem_iff, List.mem_cons]
  rw [h.mem, e] at hx
  constructor
  · intro hm
    obtain ⟨k, hk, hT, rfl⟩ := hx.2 (.inr hm)
    refine ⟨k, hk, ?_, rfl⟩
    rw [getD_set_b, if_neg]
    · exact hT
    · rintro ⟨rfl, _⟩
      exact hnd.1 (List.mem_map.2 ⟨_, hm, rfl⟩)
  · rintro ⟨k, hk, hT, rfl⟩
    rw [getD_set_b] at hT
    by_cases hkj : k = j ∧ j < T.length
    · rw [if_pos hkj] at hT; exact absurd hT (by simp)
    · rw [if_neg hkj] at hT
      rcases hx.1 ⟨k, hk, hT, rfl⟩ with h1 | h1
      · exfalso
        have : k = j := by have h4 := congrArg Prod.snd h1; simp at h4; omega
        exact hkj ⟨this, by have := h.len; omega⟩
      · exact h1
theorem Items.setThere {lt : Int → Int → Bool} {V : List Int} {T : List Bool} {L : List It} (h : Items V T L) {i j : Nat} (hj : j < V.length) (hi : i < L.length) (e : itAt L i = (V.getD j 0, (j : Int))) (ht : T.getD j false = true) (v : Int) : Items (V.set j v) T (setF lt L i v) := by
  have e2 : (itAt L i).2 = (j : Int) := by rw [e]
  have hp : (setF lt L i v).Perm (L.set i (v, (itAt L i).2)) := settleF_perm lt (by simpa using hi)
  have h1 := perm_without hi
  have h2 := perm_set hi (v, (itAt L i).2)
  have hp2 : (setF lt L i v).Perm ((v, (j : Int)) :: without L i) := by rw [e2] at hp h2; exact hp.trans h2.symm
  have hnd := perm_nd h1 h.nd
  rw [List.map_cons, List.nodup_cons, e] at hnd
  refine ⟨by simp [h.len], perm_nd hp2 ?_, ?_⟩
  · rw [List.map_cons, List.nodup_cons]; exact hnd
  · intro x
    have hxx : ∀ x : It, (∃ j, j < V.length ∧ T.getD j false = true ∧ x = (V.getD j 0, (j : Int))) ↔ x = (V.getD j 0, (j : Int)) ∨ x ∈ without L i := fun x => by rw [← h.mem, ← h1.mem_iff, List.mem_cons, e]
    have hx := hxx x
    rw [hp2.mem_iff, List.mem_cons]
    constructor
    · rintro (rfl | hm)
      · refine ⟨j, by simpa using hj, ht, ?_⟩
        rw [getD_set_i, if_pos ⟨rfl, hj⟩]
      · obtain ⟨k, hk, hT, rfl⟩ := hx.2 (.inr hm)
        refine ⟨k, by simpa using hk, hT, ?_⟩
        rw [getD_set_i, if_neg]
        rintro ⟨rfl, _⟩
        exact hnd.1 (List.mem_map.2 ⟨_, hm, rfl⟩)
    · rintro ⟨k, hk, hT, rfl⟩
      simp only [List.length_set] at hk
      by_cases hkj : k = j
      · left; rw [getD_set_i, if_pos ⟨hkj, hj⟩, hkj]
      · right
        rw [getD_set_i, if_neg (fun h => hkj h.1)]
        rcases (hxx (V.getD k 0, (k : Int))).1 ⟨k, hk, hT, rfl⟩ with h3 | h3
        · exfalso
          have : k = j := by have h4 := congrArg Prod.snd h3; simp at h4; omega
          exact hkj this
        · exact h3
theorem Items.setGone {V : List Int} {T : List Bool} {L : List It} (h : Items V T L) {j : Nat} (ht : T.getD j false = false) (v : Int) : Items (V.set j v) T L := by
  refine ⟨by simp [h.len], h.nd, ?_⟩
  intro x
  rw [h.mem]
  constructor
  · rintro ⟨k, hk, hT, rfl⟩
    refine ⟨k, by simpa using hk, hT, ?_⟩
    rw [getD_set_i, if_neg]
    rintro ⟨rfl, _⟩
    rw [ht] at hT; exact absurd hT (by simp)
  · rintro ⟨k, hk, hT, rfl⟩
    refine ⟨k, by simpa using hk, hT, ?_⟩
    rw [getD_set_i, if_neg]
    rintro ⟨rfl, _⟩
    rw [ht] at hT; exact absurd hT (by simp)
end Go.Proofs.Ytfgpmbahekcoeaa.Th
