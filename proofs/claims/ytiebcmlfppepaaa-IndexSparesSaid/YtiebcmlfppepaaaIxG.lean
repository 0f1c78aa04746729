/- The index layer: DeleteFunc. No condition. -/
import Derived.Test.YtiebcmlfppepaaaIxF
namespace Go.Proofs.Ytiebcmlfppepaaa.Ix
open Go.RowKit
def live (x : Sl) : Bool := x.1 == 1
theorem gone_live (x : Sl) : gone x = !live x := rfl
theorem BufAt.take {w : World} {b : Nat} {A B : List Sl} (h : BufAt w b (A ++ B)) : BufAt w b A := by
  obtain ⟨r, h⟩ := h
  exact ⟨flat3 B ++ r, by rw [h, flat3_append, List.append_assoc]⟩
/-- Behind j slots: those that stay, what is done with, what is left. -/
def Shape (S T : List Sl) (i j : Nat) : Prop := ∃ mid, T = (S.take j).filter live ++ mid ++ S.drop j ∧ i = ((S.take j).filter live).length ∧ mid ≠ [] ∧ j ≤ S.length ∧ T.length = S.length
theorem take_succ_slAt {S : List Sl} {j : Nat} (hj : j < S.length) : S.take (j + 1) = S.take j ++ [slAt S j] := by
  rw [List.take_add_one, slAt_of hj]; rfl
theorem drop_slAt {S : List Sl} {j : Nat} (hj : j < S.length) : S.drop j = slAt S j :: S.drop (j + 1) := by
  have := slAt_of hj
  obtain ⟨h, e⟩ := List.getElem?_eq_some_iff.1 this
  rw [← e]; exact List.drop_eq_getElem_cons h
theorem Shape.len1 {S T : List Sl} {i j : Nat} (h : Shape S T i j) : i < j ∧ i < T.length := by
  obtain ⟨mid, rfl, rfl, hm, hj, hl⟩ := h
  have : 0 < mid.length := by cases mid with | nil => exact absurd rfl hm | cons => simp
  simp only [List.length_append, List.length_drop] at hl ⊢
  omega
theorem Shape.at_ {S T : List Sl} {i j : Nat} (h : Shape S T i j) (hj : j < S.length) : slAt T j = slAt S j := by
  obtain ⟨mid, rfl, rfl, hm, _, hl⟩ := h
  have hp : ((S.take j).filter live ++ mid).length = j := by
    simp only [List.length_append, List.length_drop] at hl ⊢
    omega
  have e : ((S.take j).filter live ++ mid ++ S.drop j)[j]? = some (slAt S j) := by
    rw [List.getElem?_append_right (by omega), hp, Nat.sub_self, drop_slAt hj]; rfl
  unfold slAt at e ⊢
  rw [List.getD_eq_getElem?_getD, e]; rfl
theorem Shape.skip {S T : List Sl} {i j : Nat} (h : Shape S T i j) (hj : j < S.length) (hx : live (slAt S j) = false) : Shape S T i (j + 1) := by
  obtain ⟨mid, rfl, rfl, hm, _, hl⟩ := h
  refine ⟨mid ++ [slAt S j], ?_, ?_, by simp, hj, hl⟩
  · rw [take_succ_slAt hj, List.filter_append, List.filter_cons_of_neg (by rw [hx]; simp), List.filter_nil, drop_slAt hj]; simp
  · rw [take_succ_slAt hj, List.filter_append, List.filter_cons_of_neg (by rw [hx]; simp), List.filter_nil]; simp
theorem Shape.keep {S T : List Sl} {i j : Nat} (h : Shape S T i j) (hj : j < S.length) (hx : live (slAt S j) = true) : Shape S (T.set i (slAt S j)) (i + 1) (j + 1) := by
  obtain ⟨mid, rfl, rfl, hm, _, hl⟩ := h
  cases mid with
  | nil => exact absurd rfl hm
  | cons m mid =>
    refine ⟨mid ++ [slAt S j], ?_, ?_, by simp, hj, by rw [List.length_set]; exact hl⟩
    · rw [take_succ_slAt hj, List.filter_append, List.filter_cons_of_pos hx, List.filter_nil, drop_slAt hj]; simp
    · rw [take_succ_slAt hj, List.filter_append, List.filter_cons_of_pos hx, List.filter_nil]; simp
theorem Shape.first {S : List Sl} {k : Nat} (hk : k < S.length) (h1 : gone (slAt S k) = true) (h2 : ∀ j, j < k → gone (slAt S j) = false) : Shape S S k (k + 1) := by
  have hf : (S.take k).filter live = S.take k := by
    rw [List.filter_eq_self]
    intro x hx
    obtain ⟨j, hj, rfl⟩ := List.mem_iff_getElem.1 hx
    rw [List.length_take] at hj
    have e : slAt S j = (S.take k)[j] := by rw [List.getElem_take]; simp [slAt, show j < S.length by omega]
    have := h2 j (by omega)
    rw [e, gone_live] at this
    simpa using this
  have hg : live (slAt S k) = false := by rw [gone_live] at h1; simpa using h1
  refine ⟨[slAt S k], ?_, ?_, by simp, hk, rfl⟩
  · rw [take_succ_slAt hk, List.filter_append, List.filter_cons_of_neg (by rw [hg]; simp), List.filter_nil, hf, List.append_nil, List.append_assoc, List.singleton_append, ← drop_slAt hk, List.take_append_drop]
  · rw [take_succ_slAt hk, List.filter_append, List.filter_cons_of_neg (by rw [hg]; simp), List.filter_nil, hf, List.append_nil, List.length_take]; omega
theorem Shape.done {S T : List Sl} {i : Nat} (h : Shape S T i S.length) : ∃ mid, T = S.filter live ++ mid ∧ i = (S.filter live).length ∧ mid.length = S.length - i ∧ i < S.length := by
  have hl := h.len1
  obtain ⟨mid, rfl, rfl, hm, _, hll⟩ := h
  simp only [List.take_length, List.drop_length, List.append_nil] at hl hll ⊢
  refine ⟨mid, rfl, by trivial, ?_, hl.1⟩
  rw [List.length_append] at hll; omega
theorem all_live {S : List Sl} (h : ∀ j, j < S.length → gone (slAt S j) = false) : S.filter live = S := by
  rw [List.filter_eq_self]
  intro x hx
  obtain ⟨j, hj, rfl⟩ := List.mem_iff_getElem.1 hx
  have e : slAt S j = S[j] := by simp [slAt, hj]
  have := h j hj
  rw [e, gone_live] at this
  simpa using this
theorem Try.infoSlot : (Try.prog.info? 86).map (fun i => (i.zero, i.size, i.bytes)) = some (some (.agg #[.int .u8 0, .int .u32 0, .int .i64 0]), 3, 16) := by kernel_rfl
/-- clear of slots. -/
theorem run_clear3 (w : World) (ty : TypeId) (b o n c : Nat) (hn : 0 < n) (hc : ∀ j, j < n * 3 → (w.cell? ⟨b, o + j, none⟩).isSome = true) (hf : ∀ j, j < n * 3 → w.frozen? ⟨b, o + j, none⟩ = false) :
    (Builtin.clear_ #[81] ty #[.slice (some ⟨b, o, none⟩) n c]).run Try.prog w = .ok (.tuple #[]) (w.setCells b o (flat3 (List.replicate n (0, 0, 0)))) := by
  have hz : (Builtin.zeroCells (Value.cells (.agg #[.int .u8 0, .int .u32 0, .int .i64 0])) n).toList = flat3 (List.replicate n (0, 0, 0)) := by
    apply List.ext_getElem?
    intro k
    by_cases hk : k < n * 3
    · have hl : k < (flat3 (List.replicate n ((0, 0, 0) : Sl))).length := by rw [flat3_length, List.length_replicate]; exact hk
      have hs : slAt (List.replicate n ((0, 0, 0) : Sl)) (k / 3) = (0, 0, 0) := by unfold slAt; rw [List.getD_eq_getElem?_getD, List.getElem?_replicate]; split <;> rfl
      obtain ⟨g0, g1, g2⟩ := flat3_get (List.replicate n ((0, 0, 0) : Sl)) (k / 3) (by rw [List.length_replicate]; omega)
      rw [hs] at g0 g1 g2
      have h3 : ∃ i, i < 3 ∧ k = k / 3 * 3 + i := ⟨k % 3, Nat.mod_lt _ (by decide), by omega⟩
      obtain ⟨i, hi, hki⟩ := h3
      have hm : k % 3 = i := by omega
      have hz : (Builtin.zeroCells (Value.cells (.agg #[.int .u8 0, .int .u32 0, .int .i64 0])) n).toList[k]? = (#[Value.int .u8 0, Value.int .u32 0, Value.int .i64 0] : Array Value)[i]? := by
        rw [Array.getElem?_toList]
        simp only [Builtin.zeroCells, Value.cells]
        rw [Array.getElem?_map, Array.getElem?_range, if_pos (by show k < n * 3; exact hk)]
        show some ((#[Value.int .u8 0, Value.int .u32 0, Value.int .i64 0] : Array Value)[k % 3]!) = _
        rw [hm]
        rcases (by omega : i = 0 ∨ i = 1 ∨ i = 2) with rfl | rfl | rfl <;> rfl
      rw [hz, hki]
      rcases (by omega : i = 0 ∨ i = 1 ∨ i = 2) with rfl | rfl | rfl
      · rw [Nat.add_zero, g0]; rfl
      · rw [g1]; rfl
      · rw [g2]; rfl
    · rw [List.getElem?_eq_none (by simp [Builtin.zeroCells, Value.cells]; omega), List.getElem?_eq_none (by rw [flat3_length, List.length_replicate]; omega)]
  have hst := run_storeCells_cells (P := Try.prog) b o (flat3 (List.replicate n (0, 0, 0))) 0 w (by intro j hj; rw [flat3_length, List.length_replicate] at hj; simpa using hc j hj) (by intro j hj; rw [flat3_length, List.length_replicate] at hj; simpa using hf j hj)
    (by
      intro v hv
      obtain ⟨x, hx, hv⟩ := List.mem_flatMap.1 hv
      simp only [cells3, List.mem_cons, List.not_mem_nil, or_false] at hv
      rcases hv with rfl | rfl | rfl <;> rfl)
  simp only [Nat.add_zero] at hst
  obtain ⟨m, rfl⟩ : ∃ m, n = m + 1 := ⟨n - 1, by omega⟩
  have hv := fun w => Try.zeroValue86 (w := w)
  simp [Builtin.clear_, run_underlying Try.underlying81, hv, hz, hst]
end Go.Proofs.Ytiebcmlfppepaaa.Ix
