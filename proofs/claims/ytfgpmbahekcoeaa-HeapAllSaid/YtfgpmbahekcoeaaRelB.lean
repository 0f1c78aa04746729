/- The document's least is the heap's first item; its order is the one by handles. Plain Lean. Condition: less is a strict weak order. -/
import Derived.Test.YtfgpmbahekcoeaaRel
import Derived.Test.YtfgpmbahekcoeaaRefF
import Derived.Test.YtfgpmbahekcoeaaAll
namespace Go.Proofs.Ytfgpmbahekcoeaa
theorem lessK_swo (k : Int) (h0 : 0 ≤ k) (h : k < 4) : Swo (lessK k) := by
  rcases (by omega : k = 0 ∨ k = 1 ∨ k = 2 ∨ k = 3) with rfl | rfl | rfl | rfl
  all_goals
    refine ⟨?_, ?_⟩
    · intro x y hx
      simp [lessK] at hx ⊢
      try omega
    · intro x y z hx
      simp [lessK] at hx ⊢
      try omega
theorem leastTo_first {lt : Int → Int → Bool} (hs : Swo lt) (R : List It) : ∀ i, ∃ k, k ≤ i ∧ leastTo lt R i = itAt R k ∧ (∀ j, j ≤ i → lt (itAt R j).2 (itAt R k).2 = false) ∧ ∀ j, j < k → lt (itAt R k).2 (itAt R j).2 = true
  | 0 => ⟨0, by omega, rfl, fun j hj => by
      have : j = 0 := by omega
      subst this
      cases h : lt (itAt R 0).2 (itAt R 0).2
      · rfl
      · have := hs.asymm _ _ h; rw [h] at this; exact this, fun j hj => by omega⟩
  | i + 1 => by
    obtain ⟨k, hk, e, h1, h2⟩ := leastTo_first hs R i
    cases hb : lt (itAt R (i + 1)).2 (itAt R k).2
    · refine ⟨k, by omega, by rw [leastTo, e, hb]; rfl, ?_, h2⟩
      intro j hj
      by_cases hj2 : j ≤ i
      · exact h1 j hj2
      · have : j = i + 1 := by omega
        subst this; exact hb
    · refine ⟨i + 1, by omega, by rw [leastTo, e, hb]; rfl, ?_, ?_⟩
      · intro j hj
        by_cases hj2 : j ≤ i
        · cases hc : lt (itAt R j).2 (itAt R (i + 1)).2
          · rfl
          · rcases hs.split (itAt R j).2 (itAt R k).2 (itAt R (i + 1)).2 hc with h | h
            · rw [h1 j hj2] at h; exact absurd h (by simp)
            · have := hs.asymm _ _ hb; rw [h] at this; exact this
        · have : j = i + 1 := by omega
          subst this
          cases h : lt (itAt R (i + 1)).2 (itAt R (i + 1)).2
          · rfl
          · have := hs.asymm _ _ h; rw [h] at this; exact this
      · intro j hj
        rcases hs.split (itAt R (i + 1)).2 (itAt R j).2 (itAt R k).2 hb with h | h
        · exact h
        · rw [h1 j (by omega)] at h; exact absurd h (by simp)
theorem Rel.least {lt : Int → Int → Bool} (hs : Swo lt) {L R : List It} (h : Rel L R) (hh : Heaped lt L) (h0 : 0 < L.length) : leastTo lt R (R.length - 1) = sw (itAt L 0) := by
  have hl := h.len
  obtain ⟨k, hk, e, h1, h2⟩ := leastTo_first hs R (R.length - 1)
  obtain ⟨q, hq, eq⟩ := h.find h0
  obtain ⟨i, hi, ei⟩ := h.back (k := k) (by omega)
  have hle := leI_iff.1 (heaped_least hs hh i hi)
  rw [ei] at hle
  have e0 : itAt L 0 = sw (itAt R q) := by rw [eq, sw_sw]
  rw [e0] at hle
  simp only [sw] at hle
  have hp := List.pairwise_iff_getElem.1 h.up
  rw [e]
  have : k = q := by
    rcases Nat.lt_trichotomy k q with hkq | hkq | hkq
    · have h3 := hp k q (by omega) hq hkq
      rw [← itAt_get, ← itAt_get] at h3
      rcases hle.2 with h4 | h4
      · rw [h1 q (by omega)] at h4; exact absurd h4 (by simp)
      · omega
    · exact hkq
    · have h3 := h2 q hkq
      rw [hle.1] at h3; exact absurd h3 (by simp)
  rw [this, eq]
theorem Rel.order {L R S : List It} (h : Rel L R) (hS : ByHandle L S) : S = R.map sw := by
  have hp : S.Perm (R.map sw) := hS.1.trans h.perm.symm
  have h2 : (R.map sw).Pairwise fun x y => x.2 ≤ y.2 := by
    rw [List.pairwise_map]
    exact h.up.imp (fun h => Int.le_of_lt h)
  refine List.Perm.eq_of_pairwise (le := fun x y => x.2 ≤ y.2) ?_ hS.2 h2 hp
  intro a b ha hb h3 h4
  obtain ⟨x, hx, rfl⟩ := List.mem_map.1 hb
  obtain ⟨y, hy, rfl⟩ := List.mem_map.1 (hp.subset ha)
  obtain ⟨i, hi, rfl⟩ := List.getElem_of_mem hx
  obtain ⟨j, hj, rfl⟩ := List.getElem_of_mem hy
  have : i = j := h.lone hi hj (by rw [itAt_get hi, itAt_get hj]; simp only [sw] at h3 h4; omega)
  subst this; rfl
end Go.Proofs.Ytfgpmbahekcoeaa
