/- The document's index: what it is in memory; at. No condition. -/
import Derived.Test.YtoehdpfcnpdhnaaIxU
import Derived.Deep.Draws
namespace Go.Proofs.Ytoehdpfcnpdhnaa.Ix
open Go.RowKit
def cells2 (x : Nat × Int) : List Value := [.int .u32 (x.1 : Int), .int .i64 x.2]
def flat2 (L : List (Nat × Int)) : List Value := L.flatMap cells2
theorem flat2_cons (x : Nat × Int) (L : List (Nat × Int)) : flat2 (x :: L) = cells2 x ++ flat2 L := by simp [flat2]
theorem flat2_append (A B : List (Nat × Int)) : flat2 (A ++ B) = flat2 A ++ flat2 B := by simp [flat2]
theorem flat2_length (L : List (Nat × Int)) : (flat2 L).length = L.length * 2 := by
  induction L with
  | nil => rfl
  | cons x L ih => rw [flat2_cons, List.length_append, ih, List.length_cons]; show 2 + _ = _; omega
theorem flat2_get : ∀ (L : List (Nat × Int)) (p : Nat), p < L.length → (flat2 L)[p * 2]? = some (.int .u32 ((liAt L p).1 : Int)) ∧ (flat2 L)[p * 2 + 1]? = some (.int .i64 (liAt L p).2)
  | [], p, h => absurd h (Nat.not_lt_zero _)
  | x :: L, 0, _ => ⟨rfl, rfl⟩
  | x :: L, p + 1, h => by
    have := flat2_get L p (by simpa using h)
    have e : ∀ k, (flat2 (x :: L))[(p + 1) * 2 + k]? = (flat2 L)[p * 2 + k]? := by
      intro k
      rw [flat2_cons, List.getElem?_append_right (by show 2 ≤ _; omega)]
      congr 1
      show (p + 1) * 2 + k - 2 = _
      omega
    have e0 := e 0
    simp only [Nat.add_zero] at e0
    rw [e0, e 1]
    exact this
theorem flat2_take (R : List (Nat × Int)) (k : Nat) : flat2 (R.take k) = (flat2 R).take (k * 2) := by
  induction R generalizing k with
  | nil => simp [flat2]
  | cons x R ih =>
    cases k with
    | zero => rfl
    | succ k =>
      have e1 : (k + 1) * 2 = k * 2 + 1 + 1 := by omega
      rw [e1, List.take_succ_cons]
      show .int .u32 (x.1 : Int) :: .int .i64 x.2 :: flat2 (R.take k) = _
      rw [ih k]; rfl
theorem flat2_drop (R : List (Nat × Int)) (k : Nat) : flat2 (R.drop k) = (flat2 R).drop (k * 2) := by
  induction R generalizing k with
  | nil => simp [flat2]
  | cons x R ih =>
    cases k with
    | zero => rfl
    | succ k =>
      have e1 : (k + 1) * 2 = k * 2 + 1 + 1 := by omega
      rw [e1, List.drop_succ_cons]
      show flat2 (R.drop k) = _
      rw [ih k]; rfl
theorem flat2_one {L : List (Nat × Int)} : ∀ u ∈ flat2 L, u.oneCell' = true := by
  intro u hu
  obtain ⟨x, _, hx⟩ := List.mem_flatMap.1 hu
  simp only [cells2, List.mem_cons, List.not_mem_nil, or_false] at hx
  rcases hx with rfl | rfl <;> rfl
/-- The document's index in memory. -/
structure RefAt (w : World) (rh : Nat) (sv : Value) (L : List (Nat × Int)) (most : Nat) : Prop where
  head : w.heap[rh]? = some (.cells #[.int .i64 most, sv] 65 (0, 0))
  row : Row w 106 2 sv L.length (flat2 L)
  ne : ∀ b, sv.ownBlock = some b → b ≠ rh
  few : L.length ≤ 8192
def refP (rh : Nat) (sv : Value) (b : Nat) : Prop := b = rh ∨ sv.ownBlock = some b
section ref
variable {w w' : World} {rh : Nat} {sv : Value} {L : List (Nat × Int)} {most : Nat}
theorem RefAt.fr (h : RefAt w rh sv L most) {F : Nat → Prop} (f : Fr F w w') (hF : ∀ b, refP rh sv b → ¬ F b) : RefAt w' rh sv L most :=
  ⟨f.get h.head (hF rh (.inl rfl)), Row.fr h.row f (fun b hb => hF b (.inr hb)), h.ne, h.few⟩
theorem RefAt.lt (h : RefAt w rh sv L most) : ∀ b, refP rh sv b → b < w.heap.size := by
  rintro b (rfl | hb)
  · exact lt_of_block h.head
  · exact Row.lt h.row hb
theorem RefAt.c0 (h : RefAt w rh sv L most) : w.cell? ⟨rh, 0, none⟩ = some (.int .i64 most) := (cell_of h.head 0).trans rfl
theorem RefAt.c1 (h : RefAt w rh sv L most) : w.cell? ⟨rh, 1, none⟩ = some sv := (cell_of h.head 1).trans rfl
theorem RefAt.shape (h : RefAt w rh sv L most) : ∃ a c, sv = .slice a L.length c ∧ L.length ≤ c ∧ c ≤ maxLen := by
  rcases h.row.2 with ⟨rfl, h0⟩ | ⟨g, cap, cur, rfl, _, _, h1, h2, _⟩
  · exact ⟨none, 0, by rw [h0], by omega, Nat.zero_le _⟩
  · exact ⟨_, _, rfl, h1, h2⟩
theorem row2_cells {e : TypeId} {a : Option Addr} {n c : Nat} (h : Row w e 2 (.slice a n c) L.length (flat2 L)) {k : Nat} (hk : k < L.length) : ∃ g, a = some ⟨g, 0, none⟩ ∧ w.cell? ⟨g, k * 2, none⟩ = some (.int .u32 ((liAt L k).1 : Int)) ∧ w.cell? ⟨g, k * 2 + 1, none⟩ = some (.int .i64 (liAt L k).2) ∧ ∀ j, w.frozen? ⟨g, j, none⟩ = false := by
  rcases h.2 with ⟨e0, h0⟩ | ⟨g, cap, cur, e0, _, k1, k2, k3, k4, k5⟩
  · omega
  · obtain ⟨rfl, -, -⟩ := Value.slice.inj e0
    obtain ⟨f0, f1⟩ := flat2_get L k hk
    refine ⟨g, rfl, ?_, ?_, fun j => free_of k1 j⟩
    · rw [cell_of k1, ← f0, ← k5, List.getElem?_take, if_pos (by omega)]; simp
    · rw [cell_of k1, ← f1, ← k5, List.getElem?_take, if_pos (by omega)]; simp
end ref
/-- Behind k items that are less, none is. -/
structure CutK (L : List (Nat × Int)) (id k : Nat) : Prop where
  le : k ≤ L.length
  lo : ∀ j, j < k → (liAt L j).1 < id
  hi : ∀ j, k ≤ j → j < L.length → id ≤ (liAt L j).1
theorem CutK.there {L : List (Nat × Int)} {id k : Nat} (C : CutK L id k) (hu : L.Pairwise fun a b => a.1 < b.1) : (look L id).isSome = (decide (k < L.length) && ((liAt L k).1 == id)) := by
  rw [look_some_iff, Bool.eq_iff_iff, List.any_eq_true, Bool.and_eq_true, decide_eq_true_eq, beq_iff_eq]
  constructor
  · rintro ⟨x, hx, e⟩
    have e : x.1 = id := by simpa using e
    obtain ⟨j, hj, rfl⟩ := List.mem_iff_getElem.1 hx
    have ej : L[j] = liAt L j := by simp [liAt, hj]
    rw [ej] at e
    have h1 : k ≤ j := by
      refine Nat.le_of_not_lt fun h => ?_
      have := C.lo j h; omega
    have hk : k < L.length := by omega
    refine ⟨hk, ?_⟩
    have h2 := C.hi k (Nat.le_refl _) hk
    rcases Nat.lt_or_eq_of_le h1 with h | rfl
    · have := up_at hu h hj; omega
    · exact e
  · rintro ⟨hk, e⟩
    exact ⟨liAt L k, mem_at hk, by simpa using e⟩
theorem CutK.split {L : List (Nat × Int)} {id k : Nat} (C : CutK L id k) : L.filter (fun x => decide (x.1 < id)) = L.take k := by
  conv => lhs; rw [← List.take_append_drop k L]
  rw [List.filter_append, List.filter_eq_self.2, List.filter_eq_nil_iff.2, List.append_nil]
  · intro x hx
    obtain ⟨j, hj, rfl⟩ := List.mem_iff_getElem.1 hx
    rw [List.length_drop] at hj
    have := C.hi (k + j) (by omega) (by omega)
    have e : (L.drop k)[j] = liAt L (k + j) := by rw [List.getElem_drop]; simp [liAt, show k + j < L.length by omega]
    rw [e]; simp; omega
  · intro x hx
    obtain ⟨j, hj, rfl⟩ := List.mem_iff_getElem.1 hx
    rw [List.length_take] at hj
    have := C.lo j (by omega)
    have e : (L.take k)[j] = liAt L j := by rw [List.getElem_take]; simp [liAt, show j < L.length by omega]
    rw [e]; simpa using this
theorem CutK.splitR {L : List (Nat × Int)} {id k : Nat} (C : CutK L id k) (hn : look L id = none) : L.filter (fun x => decide (id < x.1)) = L.drop k := by
  conv => lhs; rw [← List.take_append_drop k L]
  rw [List.filter_append, List.filter_eq_nil_iff.2, List.filter_eq_self.2, List.nil_append]
  · intro x hx
    have hm := List.mem_of_mem_drop hx
    obtain ⟨j, hj, rfl⟩ := List.mem_iff_getElem.1 hx
    rw [List.length_drop] at hj
    have := C.hi (k + j) (by omega) (by omega)
    have e : (L.drop k)[j] = liAt L (k + j) := by rw [List.getElem_drop]; simp [liAt, show k + j < L.length by omega]
    have := look_none.1 hn _ hm
    rw [e] at this ⊢; simp; omega
  · intro x hx
    obtain ⟨j, hj, rfl⟩ := List.mem_iff_getElem.1 hx
    rw [List.length_take] at hj
    have := C.lo j (by omega)
    have e : (L.take k)[j] = liAt L j := by rw [List.getElem_take]; simp [liAt, show j < L.length by omega]
    rw [e]; simp; omega
theorem CutK.ins {L : List (Nat × Int)} {id k : Nat} (C : CutK L id k) (hn : look L id = none) (v : Int) : ins L id v = L.take k ++ (id, v) :: L.drop k := by
  unfold Ix.ins; rw [C.split, C.splitR hn]
theorem CutK.upd {L : List (Nat × Int)} {id k : Nat} (hu : L.Pairwise fun a b => a.1 < b.1) (hk : k < L.length) (e : (liAt L k).1 = id) (v : Int) : upd L id v = L.set k (id, v) := by
  apply List.ext_getElem
  · simp [Ix.upd]
  · intro i h1 h2
    have hi : i < L.length := by simpa [Ix.upd] using h1
    simp only [Ix.upd, List.getElem_map, List.getElem_set]
    have ei : L[i] = liAt L i := by simp [liAt, hi]
    rw [ei]
    by_cases c : k = i
    · subst c; rw [if_pos rfl, if_pos e]
    · rw [if_neg c, if_neg]
      intro e2
      rcases Nat.lt_or_gt_of_ne c with h | h
      · have := up_at hu h hi; omega
      · have := up_at hu h hk; omega
theorem CutK.del {L : List (Nat × Int)} {id k : Nat} (hu : L.Pairwise fun a b => a.1 < b.1) (hk : k < L.length) (e : (liAt L k).1 = id) : del L id = L.take k ++ L.drop (k + 1) := by
  have hs : L = L.take k ++ liAt L k :: L.drop (k + 1) := by
    have : liAt L k = L[k] := by simp [liAt, hk]
    rw [this, ← List.drop_eq_getElem_cons hk, List.take_append_drop]
  unfold Ix.del
  conv => lhs; rw [hs]
  rw [List.filter_append, List.filter_cons_of_neg (by rw [e]; simp)]
  congr 1
  · rw [List.filter_eq_self]
    intro x hx
    obtain ⟨j, hj, rfl⟩ := List.mem_iff_getElem.1 hx
    rw [List.length_take] at hj
    have := up_at hu (show j < k by omega) hk
    have e2 : (L.take k)[j] = liAt L j := by rw [List.getElem_take]; simp [liAt, show j < L.length by omega]
    rw [e2]; simp; omega
  · rw [List.filter_eq_self]
    intro x hx
    obtain ⟨j, hj, rfl⟩ := List.mem_iff_getElem.1 hx
    rw [List.length_drop] at hj
    have := up_at hu (show k < k + 1 + j by omega) (show k + 1 + j < L.length by omega)
    have e2 : (L.drop (k + 1))[j] = liAt L (k + 1 + j) := by rw [List.getElem_drop]; simp [liAt, show k + 1 + j < L.length by omega]
    rw [e2]; simp; omega
theorem half (s : Nat) (h : s ≤ 100000) : ∃ m : Nat, m = s / 2 ∧ wrap64 ((s : Int) / 2) = (m : Int) ∧ IntKind.i64.wrap ((s : Int) / 2) = (m : Int) ∧ (s : Int).tdiv 2 = (m : Int) ∧ (s : Int) / 2 = (m : Int) ∧ wrap64 (m : Int) = (m : Int) ∧ IntKind.i64.wrap (m : Int) = (m : Int) :=
  ⟨s / 2, rfl, by unfold wrap64; omega, by rw [IntKind.wrap_i64]; omega, by rw [Int.tdiv_eq_ediv_of_nonneg (by omega)]; omega, by omega, by unfold wrap64; omega, by rw [IntKind.wrap_i64]; omega⟩
end Go.Proofs.Ytoehdpfcnpdhnaa.Ix
