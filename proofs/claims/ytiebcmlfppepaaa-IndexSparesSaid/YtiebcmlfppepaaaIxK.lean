/- The index layer, plain: what is sorted, what is laid anew, what is put. No condition. -/
import Derived.Test.YtiebcmlfppepaaaIxG
namespace Go.Proofs.Ytiebcmlfppepaaa.Ix
theorem ent_live (S : List Sl) : (S.filter live).map (·.2) = ent S := rfl
/-- The live slots by rising ids are the items. -/
theorem sorted_eq {S T : List Sl} {L : List (Nat × Int)} (M : Maps S L) (hp : T.Perm (S.filter live)) (hs : T.Pairwise fun x y => x.2.1 ≤ y.2.1) : T = L.map fun x => (1, x) := by
  have h1 : ∀ x ∈ T, x.1 = 1 := fun x hx => by
    have := (List.mem_filter.1 (hp.subset hx)).2
    simpa [live] using this
  have h2 : (T.map (·.2)).Perm L := by
    refine (hp.map _).trans ?_
    rw [ent_live]; exact M.perm.symm
  have hn : ((T.map (·.2)).map (·.1)).Nodup := by
    rw [(h2.map _).nodup_iff]
    rw [List.Nodup, List.pairwise_map]
    exact M.up.imp fun h => Nat.ne_of_lt h
  have h3 : (T.map (·.2)).Pairwise fun a b => a.1 < b.1 := by
    rw [List.pairwise_map]
    rw [List.map_map, List.Nodup, List.pairwise_map] at hn
    exact (hs.and hn).imp fun h => Nat.lt_of_le_of_ne h.1 h.2
  have h4 := up_eq h3 M.up h2
  rw [← h4, List.map_map]
  conv => lhs; rw [← List.map_id T]
  exact List.map_congr_left fun x hx => Prod.ext (h1 x hx) rfl
theorem ins_last {L : List (Nat × Int)} {id : Nat} (v : Int) (h : ∀ x ∈ L, x.1 < id) : ins L id v = L ++ [(id, v)] := by
  unfold ins
  rw [List.filter_eq_self.2 (fun x hx => by simpa using h x hx), List.filter_eq_nil_iff.2 (fun x hx => by have := h x hx; simp; omega)]
theorem take_up {L : List (Nat × Int)} (h : L.Pairwise fun a b => a.1 < b.1) {k : Nat} (hk : k < L.length) : ∀ x ∈ L.take k, x.1 < L[k].1 := by
  intro x hx
  obtain ⟨i, hi, rfl⟩ := List.mem_iff_getElem.1 hx
  rw [List.length_take] at hi
  rw [List.getElem_take]
  exact List.pairwise_iff_getElem.1 h i k (by omega) hk (by omega)
/-- Behind k items laid anew. -/
structure Anew (hm : Nat → Nat) (S : List Sl) (L : List (Nat × Int)) (N k : Nat) : Prop where
  len : S.length = N
  good : Good hm S
  maps : Maps S (L.take k)
  none : graves S = 0
theorem graves_nil (N : Nat) : graves (List.replicate N (0, 0, 0)) = 0 := by
  unfold graves
  rw [List.countP_replicate, if_neg (by simp)]
theorem Anew.start (hm : Nat → Nat) (L : List (Nat × Int)) (N : Nat) : Anew hm (List.replicate N (0, 0, 0)) L N 0 := ⟨List.length_replicate, Good.nil hm N, by rw [List.take_zero]; exact Maps.nil N, graves_nil N⟩
theorem Anew.not_there {hm : Nat → Nat} {S : List Sl} {L : List (Nat × Int)} {N k : Nat} (H : Anew hm S L N k) (hu : L.Pairwise fun a b => a.1 < b.1) (hk : k < L.length) {p : Nat} (hp : p < S.length) (hf : (slAt S p).1 = 1 ∧ (slAt S p).2.1 = L[k].1) : False := by
  have := (look_of H.maps.up).1 (H.maps.found hp hf)
  exact absurd (take_up hu hk _ this) (Nat.lt_irrefl _)
theorem Anew.more {hm : Nat → Nat} {S : List Sl} {L : List (Nat × Int)} {N k : Nat} (H : Anew hm S L N k) (hu : L.Pairwise fun a b => a.1 < b.1) (hk : k < L.length) {p : Nat} (hp : Place S (hm L[k].1) p) (ha : ∀ q, q < S.length → ¬ ((slAt S q).1 = 1 ∧ (slAt S q).2.1 = L[k].1)) : Anew hm (S.set p (1, L[k].1, L[k].2)) L N (k + 1) := by
  refine ⟨by rw [List.length_set]; exact H.len, H.good.put hp ha, ?_, ?_⟩
  · have := H.maps.put (v := L[k].2) hp.1 hp.2.1 ha
    rw [ins_last _ (take_up hu hk)] at this
    have e : L.take k ++ [(L[k].1, L[k].2)] = L.take (k + 1) := by rw [List.take_add_one, List.getElem?_eq_getElem hk]; rfl
    rwa [e] at this
  · have h := graves_set hp.1 (1, L[k].1, L[k].2)
    have h2 : (slAt S p).1 ≠ 2 := by
      intro e
      have hp' := H.none
      unfold graves at hp'
      rw [List.countP_eq_zero] at hp'
      have := hp' (slAt S p) (List.mem_of_getElem? (slAt_of hp.1))
      rw [e] at this; simp at this
    rw [if_neg h2, H.none, if_neg (by simp)] at h
    exact h
theorem Anew.gap {hm : Nat → Nat} {S : List Sl} {L : List (Nat × Int)} {N k : Nat} (H : Anew hm S L N k) (hk : k < N) : ∃ p, p < N ∧ (slAt S p).1 = 0 := by
  have := Ix.gap H.good.le2 (by rw [← H.maps.length, H.none, H.len, List.length_take]; omega)
  rwa [H.len] at this
theorem Anew.whole {hm : Nat → Nat} {S : List Sl} {L : List (Nat × Int)} {N : Nat} (H : Anew hm S L N L.length) : Maps S L := by
  have := H.maps
  rwa [List.take_length] at this
end Go.Proofs.Ytiebcmlfppepaaa.Ix
