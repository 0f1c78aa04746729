/- The index layer, plain: what slots hold, as a list by rising ids. No condition. -/
import Derived.Test.YtiebcmlfppepaaaIxA
namespace Go.Proofs.Ytiebcmlfppepaaa.Ix
/-- The slots hold just these items, told by rising ids. -/
structure Maps (S : List Sl) (L : List (Nat × Int)) : Prop where
  up : L.Pairwise (fun a b => a.1 < b.1)
  perm : L.Perm (ent S)
def ins (L : List (Nat × Int)) (id : Nat) (v : Int) : List (Nat × Int) := L.filter (fun x => decide (x.1 < id)) ++ (id, v) :: L.filter (fun x => decide (id < x.1))
def upd (L : List (Nat × Int)) (id : Nat) (v : Int) : List (Nat × Int) := L.map (fun x => if x.1 = id then (id, v) else x)
def del (L : List (Nat × Int)) (id : Nat) : List (Nat × Int) := L.filter (fun x => decide (x.1 ≠ id))
def look (L : List (Nat × Int)) (id : Nat) : Option Int := (L.find? (fun x => x.1 == id)).map (·.2)
theorem mem_ent {S : List Sl} {x : Nat × Int} : x ∈ ent S ↔ ∃ p, p < S.length ∧ slAt S p = (1, x) := by
  unfold ent
  rw [List.mem_map]
  constructor
  · rintro ⟨y, hy, rfl⟩
    obtain ⟨hy1, hy2⟩ := List.mem_filter.1 hy
    obtain ⟨p, hp, rfl⟩ := List.mem_iff_getElem.1 hy1
    refine ⟨p, hp, ?_⟩
    have : slAt S p = S[p] := by simp [slAt, hp]
    rw [this]
    have h1 : (S[p]).1 = 1 := by simpa using hy2
    exact Prod.ext h1 rfl
  · rintro ⟨p, hp, e⟩
    refine ⟨S[p], List.mem_filter.2 ⟨List.getElem_mem hp, ?_⟩, ?_⟩
    · have : slAt S p = S[p] := by simp [slAt, hp]
      rw [← this, e]; rfl
    · have : slAt S p = S[p] := by simp [slAt, hp]
      rw [← this, e]
theorem set_split {S : List Sl} {p : Nat} (hp : p < S.length) (x : Sl) : S.set p x = S.take p ++ x :: S.drop (p + 1) := List.set_eq_take_append_cons_drop.trans (by rw [if_pos hp])
theorem self_split {S : List Sl} {p : Nat} (hp : p < S.length) : S = S.take p ++ slAt S p :: S.drop (p + 1) := by
  have : slAt S p = S[p] := by simp [slAt, hp]
  rw [this, ← List.drop_eq_getElem_cons hp, List.take_append_drop]
theorem ent_append (A B : List Sl) : ent (A ++ B) = ent A ++ ent B := by simp [ent]
theorem ent_cons_full (id : Nat) (v : Int) (B : List Sl) : ent ((1, id, v) :: B) = (id, v) :: ent B := by simp [ent]
theorem ent_cons_not {x : Sl} (hx : x.1 ≠ 1) (B : List Sl) : ent (x :: B) = ent B := by
  unfold ent; rw [List.filter_cons_of_neg (by simpa using hx)]
theorem ent_put {S : List Sl} {p id : Nat} {v : Int} (hp : p < S.length) (h : (slAt S p).1 ≠ 1) : (ent (S.set p (1, id, v))).Perm ((id, v) :: ent S) := by
  rw [set_split hp, ent_append, ent_cons_full]
  conv => rhs; rw [self_split hp, ent_append, ent_cons_not h]
  exact List.perm_middle
theorem up_filter_lt {L : List (Nat × Int)} (h : L.Pairwise fun a b => a.1 < b.1) (id : Nat) (v : Int) : (ins L id v).Pairwise fun a b => a.1 < b.1 := by
  unfold ins
  rw [List.pairwise_append]
  refine ⟨h.filter _, ?_, ?_⟩
  · rw [List.pairwise_cons]
    refine ⟨fun a ha => ?_, h.filter _⟩
    have := (List.mem_filter.1 ha).2
    simpa using this
  · intro a ha b hb
    have h1 : a.1 < id := by simpa using (List.mem_filter.1 ha).2
    rcases List.mem_cons.1 hb with rfl | hb
    · exact h1
    · have h2 : id < b.1 := by simpa using (List.mem_filter.1 hb).2
      omega
theorem split_perm (id : Nat) : ∀ (L : List (Nat × Int)), (∀ x ∈ L, x.1 ≠ id) → L.Perm (L.filter (fun x => decide (x.1 < id)) ++ L.filter (fun x => decide (id < x.1)))
  | [], _ => List.Perm.refl _
  | x :: L, h => by
    have ih := split_perm id L (fun y hy => h y (List.mem_cons_of_mem _ hy))
    have hx := h x (List.mem_cons_self ..)
    rcases Nat.lt_or_gt_of_ne hx with c | c
    · rw [List.filter_cons_of_pos (by simpa using c), List.filter_cons_of_neg (by simp; omega)]
      exact ih.cons x
    · rw [List.filter_cons_of_neg (by simp; omega), List.filter_cons_of_pos (by simpa using c)]
      exact (ih.cons x).trans List.perm_middle.symm
theorem Maps.no {S : List Sl} {L : List (Nat × Int)} (M : Maps S L) {id : Nat} (h : ∀ p, p < S.length → ¬ ((slAt S p).1 = 1 ∧ (slAt S p).2.1 = id)) : ∀ x ∈ L, x.1 ≠ id := by
  rintro x hx rfl
  obtain ⟨p, hp, e⟩ := mem_ent.1 (M.perm.subset hx)
  exact h p hp (by rw [e]; exact ⟨rfl, rfl⟩)
theorem Maps.put {S : List Sl} {L : List (Nat × Int)} (M : Maps S L) {p id : Nat} {v : Int} (hp : p < S.length) (h : (slAt S p).1 ≠ 1) (ha : ∀ q, q < S.length → ¬ ((slAt S q).1 = 1 ∧ (slAt S q).2.1 = id)) : Maps (S.set p (1, id, v)) (ins L id v) := by
  refine ⟨up_filter_lt M.up id v, ?_⟩
  refine List.Perm.trans ?_ (ent_put hp h).symm
  unfold ins
  refine List.perm_middle.trans ?_
  exact ((split_perm id L (M.no ha)).symm.trans M.perm).cons _
theorem map_set {S : List Sl} (hm : Nat → Nat) (G : Good hm S) {p id : Nat} (y : Sl) (hp : p < S.length) (hf : (slAt S p).1 = 1 ∧ (slAt S p).2.1 = id) : S.set p y = S.map fun x => if x.1 = 1 ∧ x.2.1 = id then y else x := by
  apply List.ext_getElem
  · simp
  · intro i h1 h2
    have hi : i < S.length := by simpa using h2
    have es : slAt S i = S[i] := by simp [slAt, hi]
    rw [List.getElem_set, List.getElem_map, ← es]
    by_cases c : p = i
    · subst c; rw [if_pos rfl, if_pos hf]
    · rw [if_neg c, if_neg]
      intro hc
      exact c (G.uniq p i hp hi hf.1 hc.1 (hf.2.trans hc.2.symm))
theorem ent_map_upd (id : Nat) (v : Int) : ∀ (S : List Sl), ent (S.map fun x => if x.1 = 1 ∧ x.2.1 = id then (1, id, v) else x) = upd (ent S) id v
  | [] => rfl
  | x :: S => by
    have ih := ent_map_upd id v S
    rw [List.map_cons]
    by_cases c : x.1 = 1
    · obtain ⟨a, i, u⟩ := x
      obtain rfl : a = 1 := c
      by_cases d : i = id
      · subst d
        rw [if_pos ⟨rfl, rfl⟩, ent_cons_full, ent_cons_full, ih]; simp [upd]
      · rw [if_neg (fun h => d h.2), ent_cons_full, ent_cons_full, ih]; simp [upd, d]
    · rw [if_neg (fun h => c h.1), ent_cons_not c, ent_cons_not c, ih]
theorem ent_map_del (id : Nat) : ∀ (S : List Sl), ent (S.map fun x => if x.1 = 1 ∧ x.2.1 = id then (2, 0, 0) else x) = del (ent S) id
  | [] => rfl
  | x :: S => by
    have ih := ent_map_del id S
    rw [List.map_cons]
    by_cases c : x.1 = 1
    · obtain ⟨a, i, u⟩ := x
      obtain rfl : a = 1 := c
      by_cases d : i = id
      · subst d
        rw [if_pos ⟨rfl, rfl⟩, ent_cons_full, ent_cons_not (by simp), ih]; simp [del]
      · rw [if_neg (fun h => d h.2), ent_cons_full, ent_cons_full, ih]; simp [del, d]
    · rw [if_neg (fun h => c h.1), ent_cons_not c, ent_cons_not c, ih]
theorem Maps.setv {hm : Nat → Nat} {S : List Sl} {L : List (Nat × Int)} (M : Maps S L) (G : Good hm S) {p id : Nat} {v : Int} (hp : p < S.length) (hf : (slAt S p).1 = 1 ∧ (slAt S p).2.1 = id) : Maps (S.set p (1, id, v)) (upd L id v) := by
  rw [map_set hm G (1, id, v) hp hf]
  refine ⟨?_, ?_⟩
  · unfold upd
    rw [List.pairwise_map]
    refine M.up.imp ?_
    intro a b hab
    have h1 : ∀ x : Nat × Int, (if x.1 = id then (id, v) else x).1 = x.1 := by
      intro x; by_cases c : x.1 = id
      · rw [if_pos c]; exact c.symm
      · rw [if_neg c]
    rw [h1, h1]; exact hab
  · rw [ent_map_upd]; exact M.perm.map _
theorem Maps.drop {hm : Nat → Nat} {S : List Sl} {L : List (Nat × Int)} (M : Maps S L) (G : Good hm S) {p id : Nat} (hp : p < S.length) (hf : (slAt S p).1 = 1 ∧ (slAt S p).2.1 = id) : Maps (S.set p (2, 0, 0)) (del L id) := by
  rw [map_set hm G (2, 0, 0) hp hf]
  refine ⟨M.up.filter _, ?_⟩
  rw [ent_map_del]; exact M.perm.filter _
theorem Maps.nil (N : Nat) : Maps (List.replicate N (0, 0, 0)) [] := by
  refine ⟨List.Pairwise.nil, ?_⟩
  have : ent (List.replicate N (0, 0, 0)) = [] := by
    unfold ent
    rw [List.filter_replicate]; simp
  rw [this]
/-- What is found of a held id. -/
theorem look_of {L : List (Nat × Int)} (h : L.Pairwise fun a b => a.1 < b.1) {id : Nat} {v : Int} : look L id = some v ↔ (id, v) ∈ L := by
  unfold look
  constructor
  · intro e
    rw [Option.map_eq_some_iff] at e
    obtain ⟨x, hx, rfl⟩ := e
    have h1 := List.find?_some hx
    have h2 := List.mem_of_find?_eq_some hx
    have : x.1 = id := by simpa using h1
    rw [← this]; exact h2
  · intro hm
    induction L with
    | nil => simp at hm
    | cons x L ih =>
      rw [List.pairwise_cons] at h
      by_cases c : x.1 = id
      · rw [List.find?_cons_of_pos (by simpa using c)]
        rcases List.mem_cons.1 hm with rfl | hm
        · rfl
        · have := h.1 _ hm; simp only at this; omega
      · rw [List.find?_cons_of_neg (by simpa using c)]
        rcases List.mem_cons.1 hm with rfl | hm
        · exact absurd rfl c
        · exact ih h.2 hm
theorem look_none {L : List (Nat × Int)} {id : Nat} : look L id = none ↔ ∀ x ∈ L, x.1 ≠ id := by
  unfold look
  rw [Option.map_eq_none_iff, List.find?_eq_none]
  simp
theorem Maps.found {S : List Sl} {L : List (Nat × Int)} (M : Maps S L) {p id : Nat} (hp : p < S.length) (hf : (slAt S p).1 = 1 ∧ (slAt S p).2.1 = id) : look L id = some (slAt S p).2.2 := by
  rw [look_of M.up]
  refine M.perm.symm.subset (mem_ent.2 ⟨p, hp, ?_⟩)
  obtain ⟨h1, rfl⟩ := hf
  exact Prod.ext h1 rfl
theorem Maps.absent {S : List Sl} {L : List (Nat × Int)} (M : Maps S L) {id : Nat} (h : ∀ p, p < S.length → ¬ ((slAt S p).1 = 1 ∧ (slAt S p).2.1 = id)) : look L id = none := look_none.2 (M.no h)
/-- Counts: what is full, what is a grave; there is an empty one. -/
def graves (S : List Sl) : Nat := S.countP fun x => x.1 == 2
theorem ent_length (S : List Sl) : (ent S).length = S.countP fun x => x.1 == 1 := by unfold ent; rw [List.length_map, List.countP_eq_length_filter]
theorem gap {S : List Sl} (h2 : ∀ x ∈ S, x.1 ≤ 2) (h : (ent S).length + graves S < S.length) : ∃ p, p < S.length ∧ (slAt S p).1 = 0 := by
  have hex : ∃ x ∈ S, x.1 = 0 := by
    rw [ent_length] at h
    unfold graves at h
    induction S with
    | nil => simp at h
    | cons x S ih =>
      rw [List.countP_cons, List.countP_cons, List.length_cons] at h
      by_cases c : x.1 = 0
      · exact ⟨x, List.mem_cons_self .., c⟩
      · have hx := h2 x (List.mem_cons_self ..)
        have : (if (x.1 == 1) = true then 1 else 0) + (if (x.1 == 2) = true then 1 else 0) = 1 := by
          rcases (by omega : x.1 = 1 ∨ x.1 = 2) with e | e <;> rw [e] <;> simp
        obtain ⟨y, hy, e⟩ := ih (fun y hy => h2 y (List.mem_cons_of_mem _ hy)) (by omega)
        exact ⟨y, List.mem_cons_of_mem _ hy, e⟩
  obtain ⟨x, hx, e⟩ := hex
  obtain ⟨p, hp, rfl⟩ := List.mem_iff_getElem.1 hx
  refine ⟨p, hp, ?_⟩
  have : slAt S p = S[p] := by simp [slAt, hp]
  rw [this]; exact e
theorem graves_set {S : List Sl} {p : Nat} (hp : p < S.length) (x : Sl) : graves (S.set p x) + (if (slAt S p).1 = 2 then 1 else 0) = graves S + (if x.1 = 2 then 1 else 0) := by
  unfold graves
  rw [set_split hp]
  conv => rhs; rw [self_split hp]
  rw [List.countP_append, List.countP_append, List.countP_cons, List.countP_cons]
  simp only [beq_iff_eq]
  omega
theorem graves_le (S : List Sl) : graves S ≤ S.length := List.countP_le_length
theorem ins_length {L : List (Nat × Int)} {id : Nat} (v : Int) (h : look L id = none) : (ins L id v).length = L.length + 1 := by
  have := (split_perm id L (look_none.1 h)).length_eq
  unfold ins
  simp only [List.length_append, List.length_cons] at this ⊢; omega
theorem upd_length (L : List (Nat × Int)) (id : Nat) (v : Int) : (upd L id v).length = L.length := by simp [upd]
theorem Maps.length {S : List Sl} {L : List (Nat × Int)} (M : Maps S L) : L.length = (ent S).length := M.perm.length_eq
theorem del_length {L : List (Nat × Int)} (h : L.Pairwise fun a b => a.1 < b.1) {id : Nat} {v : Int} (hl : look L id = some v) : (del L id).length + 1 = L.length := by
  rw [look_of h] at hl
  induction L with
  | nil => simp at hl
  | cons x L ih =>
    rw [List.pairwise_cons] at h
    unfold del
    by_cases c : x.1 = id
    · rw [List.filter_cons_of_neg (by simpa using c)]
      have : L.filter (fun x => decide (x.1 ≠ id)) = L := by
        rw [List.filter_eq_self]
        intro y hy
        have := h.1 y hy
        simp; omega
      rw [this]; rfl
    · rw [List.filter_cons_of_pos (by simpa using c)]
      rcases List.mem_cons.1 hl with rfl | hl
      · exact absurd rfl c
      · have := ih h.2 hl
        unfold del at this
        simp only [List.length_cons]; omega
/-- Two lists by rising ids that hold the same are the same. -/
theorem up_eq {A B : List (Nat × Int)} (hA : A.Pairwise fun a b => a.1 < b.1) (hB : B.Pairwise fun a b => a.1 < b.1) (h : A.Perm B) : A = B :=
  List.Perm.eq_of_pairwise (fun a b _ _ h1 h2 => by omega) hA hB h
end Go.Proofs.Ytiebcmlfppepaaa.Ix
