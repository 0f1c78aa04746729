/- The index layer, plain: ids that are held beside an index. No condition. -/
import Derived.Test.YtiebcmlfppepaaaIxGa
namespace Go.Proofs.Ytiebcmlfppepaaa.Ix
theorem isSome_iff {L : List (Nat × Int)} {id : Nat} : (look L id).isSome = true ↔ ∃ x ∈ L, x.1 = id := by
  rw [look_some_iff, List.any_eq_true]
  constructor
  · rintro ⟨x, hx, e⟩; exact ⟨x, hx, by simpa using e⟩
  · rintro ⟨x, hx, e⟩; exact ⟨x, hx, by simpa using e⟩
theorem mem_ins_iff {L : List (Nat × Int)} {id : Nat} {v : Int} (hn : look L id = none) {x : Nat × Int} : x ∈ ins L id v ↔ x = (id, v) ∨ x ∈ L := by
  constructor
  · exact mem_ins
  · intro h
    unfold ins
    rcases h with rfl | h
    · simp
    · have := look_none.1 hn x h
      rcases Nat.lt_or_gt_of_ne this with c | c
      · exact List.mem_append_left _ (List.mem_filter.2 ⟨h, by simpa using c⟩)
      · exact List.mem_append_right _ (List.mem_cons_of_mem _ (List.mem_filter.2 ⟨h, by simpa using c⟩))
/-- H has the ids of L, each once. -/
structure Hold (L : List (Nat × Int)) (H : List Nat) : Prop where
  once : H.Nodup
  mem : ∀ id, id ∈ H ↔ (look L id).isSome = true
  len : H.length = L.length
theorem Hold.nil : Hold [] [] := ⟨List.nodup_nil, fun id => by simp [look], rfl⟩
theorem Hold.put {L : List (Nat × Int)} {H : List Nat} (h : Hold L H) {id : Nat} (hn : look L id = none) (v : Int) : Hold (ins L id v) (H ++ [id]) := by
  refine ⟨?_, fun j => ?_, by rw [List.length_append, ins_length v hn, h.len]; rfl⟩
  · rw [List.nodup_append]
    refine ⟨h.once, by simp, ?_⟩
    intro a ha b hb
    simp at hb
    subst hb
    rintro rfl
    have := (h.mem a).1 ha
    rw [hn] at this; simp at this
  · rw [List.mem_append, h.mem, isSome_iff, isSome_iff, List.mem_singleton]
    constructor
    · rintro (⟨x, hx, e⟩ | rfl)
      · exact ⟨x, (mem_ins_iff hn).2 (.inr hx), e⟩
      · exact ⟨(j, v), (mem_ins_iff hn).2 (.inl rfl), rfl⟩
    · rintro ⟨x, hx, rfl⟩
      rcases (mem_ins_iff hn).1 hx with rfl | hx
      · exact .inr rfl
      · exact .inl ⟨x, hx, rfl⟩
theorem Hold.there {L : List (Nat × Int)} {x : Nat} {T : List Nat} (h : Hold L (x :: T)) : (look L x).isSome = true := (h.mem x).1 (by simp)
theorem Hold.drop {L : List (Nat × Int)} {x : Nat} {T : List Nat} (h : Hold L (x :: T)) (hu : L.Pairwise fun a b => a.1 < b.1) : Hold (del L x) T := by
  obtain ⟨v, hv⟩ := Option.isSome_iff_exists.1 h.there
  have hl := del_length hu hv
  have hnd := List.nodup_cons.1 h.once
  refine ⟨hnd.2, fun j => ?_, by have := h.len; simp at this; omega⟩
  have hm := h.mem j
  rw [isSome_iff] at hm ⊢
  constructor
  · intro hj
    obtain ⟨y, hy, e⟩ := hm.1 (List.mem_cons_of_mem _ hj)
    refine ⟨y, List.mem_filter.2 ⟨hy, ?_⟩, e⟩
    simp
    rintro e2
    rw [e2] at e
    subst e
    exact hnd.1 hj
  · rintro ⟨y, hy, e⟩
    obtain ⟨h1, h2⟩ := List.mem_filter.1 hy
    have h2 : y.1 ≠ x := by simpa using h2
    rcases List.mem_cons.1 (hm.2 ⟨y, h1, e⟩) with rfl | hj
    · exact absurd e h2
    · exact hj
theorem up_ext : ∀ {A B : List (Nat × Int)}, A.Pairwise (fun a b => a.1 < b.1) → B.Pairwise (fun a b => a.1 < b.1) → (∀ x, x ∈ A ↔ x ∈ B) → A = B
  | [], [], _, _, _ => rfl
  | [], b :: B, _, _, h => absurd ((h b).2 (by simp)) (by simp)
  | a :: A, [], _, _, h => absurd ((h a).1 (by simp)) (by simp)
  | a :: A, b :: B, hA, hB, h => by
    obtain ⟨a1, a2⟩ := List.pairwise_cons.1 hA
    obtain ⟨b1, b2⟩ := List.pairwise_cons.1 hB
    have e : a = b := by
      rcases List.mem_cons.1 ((h a).1 (by simp)) with e | h1
      · exact e
      · rcases List.mem_cons.1 ((h b).2 (by simp)) with e | h2
        · exact e.symm
        · have := b1 a h1; have := a1 b h2; omega
    subst e
    congr 1
    refine up_ext a2 b2 fun x => ?_
    constructor
    · intro hx
      rcases List.mem_cons.1 ((h x).1 (List.mem_cons_of_mem _ hx)) with rfl | h1
      · exact absurd (a1 x hx) (Nat.lt_irrefl _)
      · exact h1
    · intro hx
      rcases List.mem_cons.1 ((h x).2 (List.mem_cons_of_mem _ hx)) with rfl | h1
      · exact absurd (b1 x hx) (Nat.lt_irrefl _)
      · exact h1
/-- What the second index has, down to k. -/
structure Again (L M : List (Nat × Int)) (H : List Nat) (k : Nat) : Prop where
  mem : ∀ x, x ∈ M ↔ x ∈ L ∧ x.1 ∈ H.drop k
  len : M.length = H.length - k
theorem Again.start (L : List (Nat × Int)) (H : List Nat) : Again L [] H H.length := ⟨fun x => by simp, by simp⟩
theorem Again.look_none {L M : List (Nat × Int)} {H : List Nat} {k : Nat} (h : Again L M H (k + 1)) (ho : H.Nodup) (hk : k < H.length) : look M (H.getD k 0) = none := by
  rw [Ix.look_none]
  intro x hx e
  have h1 := ((h.mem x).1 hx).2
  have hs : H.drop k = H.getD k 0 :: H.drop (k + 1) := by
    rw [List.drop_eq_getElem_cons hk]; simp [hk]
  have hd : (H.drop k).Nodup := ho.sublist (List.drop_sublist k H)
  rw [hs, List.nodup_cons] at hd
  rw [e] at h1
  exact hd.1 h1
theorem Again.more {L M : List (Nat × Int)} {H : List Nat} {k : Nat} (h : Again L M H (k + 1)) (ho : H.Nodup) (hk : k < H.length) (hu : L.Pairwise fun a b => a.1 < b.1) {v : Int} (hv : look L (H.getD k 0) = some v) : Again L (ins M (H.getD k 0) v) H k := by
  have hn := h.look_none ho hk
  have hs : H.drop k = H.getD k 0 :: H.drop (k + 1) := by
    rw [List.drop_eq_getElem_cons hk]; simp [hk]
  refine ⟨fun x => ?_, by rw [ins_length v hn, h.len]; omega⟩
  rw [mem_ins_iff hn, h.mem, hs, List.mem_cons]
  constructor
  · rintro (rfl | ⟨h1, h2⟩)
    · exact ⟨(look_of hu).1 hv, .inl rfl⟩
    · exact ⟨h1, .inr h2⟩
  · rintro ⟨h1, h2 | h2⟩
    · left
      have h3 : (x.1, x.2) ∈ L := h1
      have := (look_of hu).2 h3
      rw [h2, hv] at this
      exact Prod.ext h2 (Option.some.inj this).symm
    · exact .inr ⟨h1, h2⟩
theorem Again.whole {L M : List (Nat × Int)} {H : List Nat} (h : Again L M H 0) (hh : Hold L H) (hu : L.Pairwise fun a b => a.1 < b.1) (hm : M.Pairwise fun a b => a.1 < b.1) : M = L := by
  refine up_ext hm hu fun x => ?_
  rw [h.mem, List.drop_zero]
  constructor
  · exact fun h => h.1
  · exact fun hx => ⟨hx, (hh.mem x.1).2 (isSome_iff.2 ⟨x, hx, rfl⟩)⟩
end Go.Proofs.Ytiebcmlfppepaaa.Ix
