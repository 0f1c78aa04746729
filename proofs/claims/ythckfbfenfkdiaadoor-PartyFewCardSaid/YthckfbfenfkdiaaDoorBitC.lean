/- The search word by word. No condition. -/
import Derived.Test.YthckfbfenfkdiaaDoorBitB
namespace Go.Proofs.YthckfbfenfkdiaaDoor.Bt
/-- How far the lowest bit lies. -/
def ctzN : Nat → Nat → Nat
  | 0, _ => 0
  | f + 1, x => if x % 2 = 1 then 0 else 1 + ctzN f (x / 2)
theorem ctzN_spec : ∀ (f x : Nat), 0 < x → x < 2 ^ f → ctzN f x < f ∧ x.testBit (ctzN f x) = true ∧ ∀ j, j < ctzN f x → x.testBit j = false
  | 0, x, h0, h => by simp at h; omega
  | f + 1, x, h0, h => by
    unfold ctzN
    split
    · rename_i h1
      refine ⟨by omega, by simp [Nat.testBit_zero, h1], fun j hj => by omega⟩
    · rename_i h1
      obtain ⟨a, b, c⟩ := ctzN_spec f (x / 2) (by omega) (by rw [Nat.pow_succ] at h; omega)
      refine ⟨by omega, by rw [Nat.add_comm, Nat.testBit_succ]; exact b, ?_⟩
      intro j hj
      cases j with
      | zero => simp [Nat.testBit_zero]; omega
      | succ j => rw [Nat.testBit_succ]; exact c j (by omega)
def maskOf (b : Bool) : Nat := if b then 0 else 18446744073709551615
theorem mask_bit (b : Bool) {j : Nat} (h : j < 64) : (maskOf b).testBit j = !b := by
  cases b
  · have e : maskOf false = 2 ^ 64 - 1 := rfl
    rw [e, Nat.testBit_two_pow_sub_one]; simp [h]
  · simp [maskOf]
/-- While the search is at word k, with w left of it. -/
structure Sk (B : List Bool) (b : Bool) (i k w : Nat) : Prop where
  lt : w < 2 ^ 64
  kk : k < nw B.length
  bit : ∀ j, j < 64 → w.testBit j = (decide (i ≤ 64 * k + j) && (B.getD (64 * k + j) false == b))
  no : ∀ p, i ≤ p → p < 64 * k → B.getD p false ≠ b
  ik : i < 64 * k + 64
theorem xor_bit (B : List Bool) (b : Bool) (k : Nat) {j : Nat} (h : j < 64) : (wd B k ^^^ maskOf b).testBit j = (B.getD (64 * k + j) false == b) := by
  rw [Nat.testBit_xor, wd_bit _ _ _ h, mask_bit b h]
  cases B.getD (64 * k + j) false <;> cases b <;> rfl
theorem mask_lt (b : Bool) : maskOf b < 2 ^ 64 := by cases b <;> decide
theorem xor_lt (B : List Bool) (b : Bool) (k : Nat) : wd B k ^^^ maskOf b < 2 ^ 64 := Nat.xor_lt_two_pow (wd_lt B k) (mask_lt b)
theorem Sk.start {B : List Bool} (b : Bool) {i : Nat} (hi : i < B.length) : Sk B b i (i / 64) ((wd B (i / 64) ^^^ maskOf b) / 2 ^ (i % 64) * 2 ^ (i % 64)) := by
  refine ⟨?_, nw_lt hi, ?_, fun p h1 h2 => by omega, by omega⟩
  · exact Nat.lt_of_le_of_lt (Nat.div_mul_le_self _ _) (xor_lt B b _)
  · intro j hj
    rw [Nat.testBit_mul_two_pow]
    by_cases h : i % 64 ≤ j
    · rw [← Nat.shiftRight_eq_div_pow, Nat.testBit_shiftRight]
      have e : i % 64 + (j - i % 64) = j := by omega
      rw [e, xor_bit B b _ hj]
      have : i ≤ 64 * (i / 64) + j := by omega
      simp [h, this]
    · have : ¬ i ≤ 64 * (i / 64) + j := by omega
      simp [h, this]
theorem Sk.next {B : List Bool} {b : Bool} {i k : Nat} (h : Sk B b i k 0) (hk : k + 1 < nw B.length) : Sk B b i (k + 1) (wd B (k + 1) ^^^ maskOf b) := by
  refine ⟨xor_lt B b _, hk, ?_, ?_, by have := h.ik; omega⟩
  · intro j hj
    have := h.ik
    have e : i ≤ 64 * (k + 1) + j := by omega
    rw [xor_bit B b _ hj]; simp [e]
  · intro p h1 h2
    by_cases h3 : p < 64 * k
    · exact h.no p h1 h3
    · have h4 := h.bit (p - 64 * k) (by omega)
      have e : 64 * k + (p - 64 * k) = p := by omega
      rw [e] at h4
      intro hc
      rw [hc] at h4; simp [h1] at h4
theorem Sk.ended {B : List Bool} {b : Bool} {i k : Nat} (h : Sk B b i k 0) (hk : k + 1 = nw B.length) : seekO b B i = none := by
  refine seekO_not (fun p h1 h2 => ?_)
  by_cases h3 : p < 64 * k
  · exact h.no p h1 h3
  · have hp : p < 64 * k + 64 := by unfold nw at hk; omega
    have h4 := h.bit (p - 64 * k) (by omega)
    have e : 64 * k + (p - 64 * k) = p := by omega
    rw [e] at h4
    intro hc
    rw [hc] at h4; simp [h1] at h4
theorem Sk.found {B : List Bool} {b : Bool} {i k w : Nat} (h : Sk B b i k w) (hw : w ≠ 0) : ctzN 64 w < 64 ∧ seekO b B i = if B.length ≤ 64 * k + ctzN 64 w then none else some (64 * k + ctzN 64 w) := by
  obtain ⟨c1, c2, c3⟩ := ctzN_spec 64 w (Nat.pos_of_ne_zero hw) h.lt
  refine ⟨c1, ?_⟩
  generalize ctzN 64 w = c at c1 c2 c3
  have h4 := h.bit c c1
  rw [c2] at h4
  have h5 : i ≤ 64 * k + c ∧ B.getD (64 * k + c) false = b := by
    by_cases a : i ≤ 64 * k + c
    · simp [a] at h4; exact ⟨a, h4⟩
    · simp [a] at h4
  have hno : ∀ j, i ≤ j → j < 64 * k + c → B.getD j false ≠ b := by
    intro p h1 h2
    by_cases h3 : p < 64 * k
    · exact h.no p h1 h3
    · have h4 := h.bit (p - 64 * k) (by omega)
      rw [c3 (p - 64 * k) (by omega)] at h4
      have e : 64 * k + (p - 64 * k) = p := by omega
      rw [e] at h4
      intro hc
      rw [hc] at h4; simp [h1] at h4
  split
  · rename_i hl
    exact seekO_not (fun j h1 h2 => hno j h1 (by omega))
  · rename_i hl
    exact seekO_is h5.1 (by omega) h5.2 hno
/-! How many. -/
def cnt (B : List Bool) : Nat := (B.filter id).length
theorem digs_num (f : Nat → Bool) : ∀ n, digs (num f n) n = (List.range n).map (fun j => if f j then 1 else 0) := by
  intro n
  have key : ∀ (n : Nat) (f : Nat → Bool), digs (num f n) n = (List.range n).map (fun j => if f j then 1 else 0) := by
    intro n
    induction n with
    | zero => intro f; rfl
    | succ n ih =>
      intro f
      have h0 : num f (n + 1) % 2 = if f 0 then 1 else 0 := by
        have := num_testBit f (n + 1) 0
        rw [Nat.testBit_zero] at this
        simp at this
        cases h : f 0 <;> simp [h] at this ⊢ <;> omega
      have h1 : num f (n + 1) / 2 = num (fun j => f (j + 1)) n := by
        apply Nat.eq_of_testBit_eq
        intro i
        rw [← Nat.testBit_succ, num_testBit, num_testBit]
        simp
      show (num f (n + 1) % 2) :: digs (num f (n + 1) / 2) n = _
      rw [h0, h1, ih, List.range_succ_eq_map]
      simp [Function.comp_def]
  exact key n f
theorem sum_bits (B : List Bool) : ((List.range B.length).map (fun j => if B.getD j false then 1 else 0)).sum = cnt B := by
  induction B with
  | nil => rfl
  | cons b B ih =>
    rw [List.length_cons, List.range_succ_eq_map]
    simp only [List.map_cons, List.sum_cons, List.map_map, Function.comp_def, List.getD_cons_zero, List.getD_cons_succ, ih]
    unfold cnt
    cases b <;> simp [Nat.add_comm]
theorem sum_past (B : List Bool) : ∀ d, ((List.range (B.length + d)).map (fun j => if B.getD j false then 1 else 0)).sum = cnt B
  | 0 => sum_bits B
  | d + 1 => by
    rw [← Nat.add_assoc, List.range_succ, List.map_append, List.sum_append, sum_past B d]
    simp
theorem pop_num (f : Nat → Bool) (n : Nat) : pop (num f n) n = ((List.range n).map (fun j => if f j then 1 else 0)).sum := by unfold pop; rw [digs_num]
theorem pop_wd (B : List Bool) (k : Nat) : pop (wd B k) 64 = ((List.range 64).map (fun j => if B.getD (64 * k + j) false then 1 else 0)).sum := pop_num _ 64
/-- What the words ahead of the k-th have. -/
theorem pop_words (B : List Bool) (k : Nat) : ((List.range k).map (fun q => pop (wd B q) 64)).sum = ((List.range (64 * k)).map (fun j => if B.getD j false then 1 else 0)).sum := by
  induction k with
  | zero => simp
  | succ k ih =>
    have e : 64 * (k + 1) = 64 * k + 64 := by omega
    rw [List.range_succ, List.map_append, List.sum_append, ih, e, List.range_add, List.map_append, List.sum_append, List.map_singleton, List.sum_singleton, pop_wd, List.map_map]
    rfl
theorem pop_all (B : List Bool) : ((words B).map (fun x => pop x 64)).sum = cnt B := by
  unfold words
  rw [List.map_map]
  have := pop_words B (nw B.length)
  simp only [Function.comp_def]
  rw [this]
  have e : 64 * nw B.length = B.length + (64 * nw B.length - B.length) := by unfold nw; omega
  rw [e]
  exact sum_past B _
end Go.Proofs.YthckfbfenfkdiaaDoor.Bt
