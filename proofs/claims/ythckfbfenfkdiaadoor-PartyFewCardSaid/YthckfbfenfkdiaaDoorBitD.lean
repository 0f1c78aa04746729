/- What the iterators go over; bytes. No condition. -/
import Derived.Test.YthckfbfenfkdiaaDoorBitC
namespace Go.Proofs.YthckfbfenfkdiaaDoor.Bt
/-- The numbers ahead of the i-th that are in it. -/
def allTo (B : List Bool) (i : Nat) : List Nat := (List.range i).filter (fun j => B.getD j false)
def allL (B : List Bool) : List Nat := allTo B B.length
theorem allTo_succ (B : List Bool) (i : Nat) : allTo B (i + 1) = if B.getD i false = true then allTo B i ++ [i] else allTo B i := by
  unfold allTo
  rw [List.range_succ, List.filter_append]
  cases h : B.getD i false
  · rw [List.filter_cons_of_neg (p := fun j => B.getD j false) (a := i) (by simpa using h)]; simp
  · rw [List.filter_cons_of_pos (p := fun j => B.getD j false) (a := i) h]; simp
theorem allTo_skip {B : List Bool} {i : Nat} : ∀ d, (∀ j, i ≤ j → j < i + d → B.getD j false ≠ true) → allTo B (i + d) = allTo B i
  | 0, _ => rfl
  | d + 1, h => by
    rw [← Nat.add_assoc, allTo_succ, if_neg (h (i + d) (by omega) (by omega)), allTo_skip d (fun j h1 h2 => h j h1 (by omega))]
theorem allTo_none {B : List Bool} {i : Nat} (hi : i ≤ B.length) (h : seekO true B i = none) : allL B = allTo B i := by
  have e : B.length = i + (B.length - i) := by omega
  unfold allL
  rw [e]
  exact allTo_skip _ (fun j h1 h2 => seekO_none h j h1 (by omega))
theorem allTo_some {B : List Bool} {i k : Nat} (h : seekO true B i = some k) : allTo B (k + 1) = allTo B i ++ [k] := by
  obtain ⟨a1, a2, a3, a4⟩ := seekO_some h
  rw [allTo_succ, if_pos a3]
  have e : k = i + (k - i) := by omega
  congr 1
  rw [e]
  exact allTo_skip _ (fun j h1 h2 => a4 j h1 (by omega))
theorem allTo_prefix (B : List Bool) {i k : Nat} (h : i ≤ k) : allTo B i <+: allTo B k := by
  unfold allTo
  have e : k = i + (k - i) := by omega
  rw [e, List.range_add, List.filter_append]
  exact List.prefix_append _ _
theorem allL_cnt (B : List Bool) : (allL B).length = cnt B := by
  have key : ∀ B : List Bool, ((List.range B.length).filter (fun j => B.getD j false)).length = cnt B := by
    intro B
    have h : ∀ (l : List Nat) (p : Nat → Bool), (l.filter p).length = (l.map (fun j => if p j then 1 else 0)).sum := by
      intro l p
      induction l with
      | nil => rfl
      | cons a l ih => cases h : p a <;> simp [h, ih]; omega
    rw [h]; exact sum_bits B
  exact key B
/-! The rows of numbers that are not in it. -/
def bump : List (Nat × Nat) → List (Nat × Nat)
  | [] => []
  | [(a, n)] => [(a, n + 1)]
  | x :: y :: r => x :: bump (y :: r)
theorem bump_append (X : List (Nat × Nat)) (a n : Nat) : bump (X ++ [(a, n)]) = X ++ [(a, n + 1)] := by
  induction X with
  | nil => rfl
  | cons x X ih =>
    cases X with
    | nil => rfl
    | cons y r => simp only [List.cons_append, bump] at ih ⊢; rw [ih]
/-- The gaps among the numbers below i. -/
def gapsTo (B : List Bool) : Nat → List (Nat × Nat)
  | 0 => []
  | i + 1 => if B.getD i false = true then gapsTo B i else if i = 0 ∨ B.getD (i - 1) false = true then gapsTo B i ++ [(i, 1)] else bump (gapsTo B i)
def gapsL (B : List Bool) : List (Nat × Nat) := gapsTo B B.length
theorem gapsTo_in {B : List Bool} {i : Nat} : ∀ d, (∀ j, i ≤ j → j < i + d → B.getD j false ≠ false) → gapsTo B (i + d) = gapsTo B i
  | 0, _ => rfl
  | d + 1, h => by
    have h1 : B.getD (i + d) false = true := by have := h (i + d) (by omega) (by omega); simpa using this
    rw [← Nat.add_assoc]
    show (if B.getD (i + d) false = true then gapsTo B (i + d) else _) = _
    rw [if_pos h1, gapsTo_in d (fun j h1 h2 => h j h1 (by omega))]
theorem gapsTo_out {B : List Bool} {i : Nat} (h0 : i = 0 ∨ B.getD (i - 1) false = true) : ∀ d, (∀ j, i ≤ j → j < i + (d + 1) → B.getD j false ≠ true) → gapsTo B (i + (d + 1)) = gapsTo B i ++ [(i, d + 1)]
  | 0, h => by
    have h1 := h i (by omega) (by omega)
    show (if B.getD i false = true then _ else if i = 0 ∨ B.getD (i - 1) false = true then gapsTo B i ++ [(i, 1)] else _) = _
    rw [if_neg h1, if_pos h0]
  | d + 1, h => by
    have h1 := h (i + (d + 1)) (by omega) (by omega)
    have h2 := h (i + d) (by omega) (by omega)
    have e : i + (d + 1) - 1 = i + d := by omega
    have h3 : ¬ (i + (d + 1) = 0 ∨ B.getD (i + (d + 1) - 1) false = true) := by rw [e]; intro hc; rcases hc with hc | hc; omega; exact h2 hc
    show (if B.getD (i + (d + 1)) false = true then _ else if i + (d + 1) = 0 ∨ B.getD (i + (d + 1) - 1) false = true then _ else bump (gapsTo B (i + (d + 1)))) = _
    rw [if_neg h1, if_neg h3, gapsTo_out h0 d (fun j h1 h2 => h j h1 (by omega)), bump_append]
/-- At a number behind which a gap may begin. -/
def Edge (B : List Bool) (i : Nat) : Prop := i = 0 ∨ B.getD i false = true
theorem edge_free {B : List Bool} {i a : Nat} (h : Edge B i) (hs : seekO false B i = some a) : gapsTo B a = gapsTo B i ∧ (a = 0 ∨ B.getD (a - 1) false = true) := by
  obtain ⟨a1, a2, a3, a4⟩ := seekO_some hs
  have e : a = i + (a - i) := by omega
  refine ⟨?_, ?_⟩
  · rw [e]; exact gapsTo_in _ (fun j h1 h2 => a4 j h1 (by omega))
  · by_cases h2 : a = 0
    · exact .inl h2
    · right
      by_cases h3 : a = i
      · rcases h with h | h
        · omega
        · rw [← h3, a3] at h; cases h
      · have := a4 (a - 1) (by omega) (by omega); simpa using this
theorem edge_end {B : List Bool} {i a e : Nat} (h : Edge B i) (hs : seekO false B i = some a) (he : seekO true B a = some e) : gapsTo B e = gapsTo B i ++ [(a, e - a)] ∧ Edge B e ∧ a < e ∧ e < B.length := by
  obtain ⟨g, h0⟩ := edge_free h hs
  obtain ⟨b1, b2, b3, b4⟩ := seekO_some he
  obtain ⟨_, _, a3, _⟩ := seekO_some hs
  have ne : a ≠ e := fun h => by rw [h, b3] at a3; cases a3
  have q : e = a + (e - a - 1 + 1) := by omega
  refine ⟨?_, .inr b3, by omega, b2⟩
  have := gapsTo_out h0 (e - a - 1) (fun j h1 h2 => b4 j h1 (by omega))
  rw [← q, g] at this
  rw [this]
  have : e - a - 1 + 1 = e - a := by omega
  rw [this]
theorem edge_last {B : List Bool} {i a : Nat} (h : Edge B i) (hs : seekO false B i = some a) (he : seekO true B a = none) : gapsL B = gapsTo B i ++ [(a, B.length - a)] := by
  obtain ⟨g, h0⟩ := edge_free h hs
  obtain ⟨_, a2, _, _⟩ := seekO_some hs
  have q : B.length = a + (B.length - a - 1 + 1) := by omega
  have := gapsTo_out h0 (B.length - a - 1) (fun j h1 h2 => seekO_none he j h1 (by omega))
  rw [← q, g] at this
  unfold gapsL
  rw [this]
  have : B.length - a - 1 + 1 = B.length - a := by omega
  rw [this]
theorem edge_none {B : List Bool} {i : Nat} (hi : i ≤ B.length) (hs : seekO false B i = none) : gapsL B = gapsTo B i := by
  have q : B.length = i + (B.length - i) := by omega
  unfold gapsL
  rw [q]
  exact gapsTo_in _ (fun j h1 h2 => seekO_none hs j h1 (by omega))
/-! Bytes. -/
def byt (B : List Bool) (k : Nat) : Nat := num (fun j => B.getD (8 * k + j) false) 8
def nb (n : Nat) : Nat := (n + 7) / 8
def bytes (B : List Bool) : List Nat := (List.range (nb B.length)).map (byt B)
theorem byt_lt (B : List Bool) (k : Nat) : byt B k < 256 := num_lt _ 8
theorem byt_wd (B : List Bool) (i : Nat) : wd B (i / 8) / 2 ^ (i % 8 * 8) % 256 = byt B i := by
  apply Nat.eq_of_testBit_eq
  intro j
  have e : (256 : Nat) = 2 ^ 8 := rfl
  rw [e, Nat.testBit_mod_two_pow, ← Nat.shiftRight_eq_div_pow, Nat.testBit_shiftRight]
  unfold byt
  rw [num_testBit]
  by_cases hj : j < 8
  · rw [wd_bit _ _ _ (by omega)]
    have e2 : 64 * (i / 8) + (i % 8 * 8 + j) = 8 * i + j := by omega
    rw [e2]
  · simp [hj]
/-- The bytes while the bits ahead of i are laid. -/
def bytTo (B : List Bool) (i k : Nat) : Nat := num (fun j => decide (8 * k + j < i) && B.getD (8 * k + j) false) 8
theorem bytTo_all (B : List Bool) (k : Nat) : bytTo B B.length k = byt B k := by
  apply num_congr
  intro j _
  by_cases h : 8 * k + j < B.length
  · simp [h]
  · simp [h]
theorem bytTo_zero (B : List Bool) (k : Nat) : bytTo B 0 k = 0 := by
  apply Nat.eq_of_testBit_eq
  intro i
  unfold bytTo
  rw [num_testBit]; simp
theorem bytTo_off (B : List Bool) {i : Nat} (h : B.getD i false = false) (k : Nat) : bytTo B (i + 1) k = bytTo B i k := by
  apply num_congr
  intro j _
  by_cases e : 8 * k + j = i
  · rw [e, h]; simp
  · have : (8 * k + j < i + 1) = (8 * k + j < i) := by apply propext; omega
    simp [this]
theorem bytTo_other (B : List Bool) {i k : Nat} (h : k ≠ i / 8) : bytTo B (i + 1) k = bytTo B i k := by
  apply num_congr
  intro j hj
  have : (8 * k + j < i + 1) = (8 * k + j < i) := by apply propext; omega
  simp [this]
theorem bytTo_on (B : List Bool) {i : Nat} (h : B.getD i false = true) : bytTo B (i + 1) (i / 8) = bytTo B i (i / 8) ||| 2 ^ (i % 8) := by
  apply Nat.eq_of_testBit_eq
  intro j
  unfold bytTo
  rw [Nat.testBit_or, Nat.testBit_two_pow, num_testBit, num_testBit]
  by_cases hj : j < 8
  · by_cases e : i % 8 = j
    · have e2 : 8 * (i / 8) + j = i := by omega
      rw [e2, h]; simp [hj, e]
    · have : (8 * (i / 8) + j < i + 1) = (8 * (i / 8) + j < i) := by apply propext; omega
      simp [hj, e, this]
  · have e : ¬ i % 8 = j := by omega
    simp [hj, e]
/-! Of. -/
/-- The bits that some bytes say. -/
def bitOf (bs : List Nat) (p : Nat) : Bool := (bs.getD (p / 8) 0).testBit (p % 8)
def setOf (n : Nat) (bs : List Nat) : List Bool := (List.range n).map (bitOf bs)
theorem setOf_length (n : Nat) (bs : List Nat) : (setOf n bs).length = n := by simp [setOf]
theorem setOf_get (n : Nat) (bs : List Nat) {p : Nat} (h : p < n) : (setOf n bs).getD p false = bitOf bs p := by
  simp [setOf, List.getD_eq_getElem?_getD, h]
/-- Word k while the bytes ahead of i are laid. -/
def ofTo (bs : List Nat) (i k : Nat) : Nat := num (fun j => decide (64 * k + j < 8 * i) && bitOf bs (64 * k + j)) 64
theorem ofTo_zero (bs : List Nat) (k : Nat) : ofTo bs 0 k = 0 := by
  apply Nat.eq_of_testBit_eq
  intro i
  unfold ofTo
  rw [num_testBit]; simp
theorem ofTo_other (bs : List Nat) {i k : Nat} (h : k ≠ i / 8) : ofTo bs (i + 1) k = ofTo bs i k := by
  apply num_congr
  intro j hj
  have : (64 * k + j < 8 * (i + 1)) = (64 * k + j < 8 * i) := by apply propext; omega
  simp [this]
theorem ofTo_on (bs : List Nat) {i : Nat} (hb : bs.getD i 0 < 256) : ofTo bs (i + 1) (i / 8) = ofTo bs i (i / 8) ||| bs.getD i 0 * 2 ^ (i % 8 * 8) := by
  apply Nat.eq_of_testBit_eq
  intro j
  unfold ofTo
  rw [Nat.testBit_or, Nat.testBit_mul_two_pow, num_testBit, num_testBit]
  by_cases hj : j < 64
  · by_cases h1 : i % 8 * 8 ≤ j
    · by_cases h2 : j < i % 8 * 8 + 8
      · have a1 : 64 * (i / 8) + j < 8 * (i + 1) := by omega
        have a2 : ¬ 64 * (i / 8) + j < 8 * i := by omega
        have a3 : (64 * (i / 8) + j) / 8 = i := by omega
        have a4 : (64 * (i / 8) + j) % 8 = j - i % 8 * 8 := by omega
        simp [hj, h1, a1, a2, bitOf, a3, a4]
      · have a1 : ¬ 64 * (i / 8) + j < 8 * (i + 1) := by omega
        have a2 : ¬ 64 * (i / 8) + j < 8 * i := by omega
        have a3 : (bs.getD i 0).testBit (j - i % 8 * 8) = false := Nat.testBit_lt_two_pow (Nat.lt_of_lt_of_le hb (by
          have : (256 : Nat) = 2 ^ 8 := rfl
          rw [this]; exact Nat.pow_le_pow_right (by decide) (by omega)))
        rw [a3]
        simp [a1, a2]
    · have : (64 * (i / 8) + j < 8 * (i + 1)) = (64 * (i / 8) + j < 8 * i) := by apply propext; omega
      simp [h1, this]
  · have h3 : (bs.getD i 0).testBit (j - i % 8 * 8) = false := Nat.testBit_lt_two_pow (Nat.lt_of_lt_of_le hb (by
      have : (256 : Nat) = 2 ^ 8 := rfl
      rw [this]; exact Nat.pow_le_pow_right (by decide) (by omega)))
    rw [h3]; simp [hj]
theorem ofTo_all {n : Nat} {bs : List Nat} (hl : bs.length = nb n) (hm : ∀ p, n ≤ p → p < 8 * bs.length → bitOf bs p = false) (k : Nat) : ofTo bs bs.length k = wd (setOf n bs) k := by
  apply num_congr
  intro j hj
  by_cases h : 64 * k + j < n
  · have : 64 * k + j < 8 * bs.length := by rw [hl]; unfold nb; omega
    rw [setOf_get n bs h]; simp [this]
  · rw [List.getD_eq_getElem?_getD, List.getElem?_eq_none (by rw [setOf_length]; omega)]
    by_cases h2 : 64 * k + j < 8 * bs.length
    · simp [h2, hm _ (by omega) h2]
    · simp [h2]
/-- The bits at the bound and above: what Of looks at. -/
theorem more_iff {n : Nat} {bs : List Nat} (hl : bs.length = nb n) (hb : ∀ b ∈ bs, b < 256) : (∀ p, n ≤ p → p < 8 * bs.length → bitOf bs p = false) ↔ (n % 8 = 0 ∨ bs.getD (bs.length - 1) 0 / 2 ^ (n % 8) = 0) := by
  have hnb : nb n = (n + 7) / 8 := rfl
  constructor
  · intro h
    by_cases h8 : n % 8 = 0
    · exact .inl h8
    · right
      apply Nat.eq_of_testBit_eq
      intro j
      rw [← Nat.shiftRight_eq_div_pow, Nat.testBit_shiftRight, Nat.zero_testBit]
      by_cases hj : n % 8 + j < 8
      · have := h (8 * (bs.length - 1) + (n % 8 + j)) (by omega) (by omega)
        unfold bitOf at this
        have e1 : (8 * (bs.length - 1) + (n % 8 + j)) / 8 = bs.length - 1 := by omega
        have e2 : (8 * (bs.length - 1) + (n % 8 + j)) % 8 = n % 8 + j := by omega
        rw [e1, e2] at this; exact this
      · have hlt : bs.getD (bs.length - 1) 0 < 256 := by
          rw [List.getD_eq_getElem?_getD, List.getElem?_eq_getElem (by omega)]
          exact hb _ (List.getElem_mem _)
        exact Nat.testBit_lt_two_pow (Nat.lt_of_lt_of_le hlt (by
          have : (256 : Nat) = 2 ^ 8 := rfl
          rw [this]; exact Nat.pow_le_pow_right (by decide) (by omega)))
  · rintro (h8 | h0) p h1 h2
    · omega
    · unfold bitOf
      have e1 : p / 8 = bs.length - 1 := by omega
      have e2 : p % 8 = n % 8 + (p % 8 - n % 8) := by omega
      rw [e1, e2, ← Nat.testBit_shiftRight, Nat.shiftRight_eq_div_pow, h0, Nat.zero_testBit]
theorem setOf_bytes (B : List Bool) : setOf B.length (bytes B) = B := by
  apply List.ext_getElem (setOf_length _ _)
  intro i h1 h2
  have h := setOf_get B.length (bytes B) h2
  have e : bitOf (bytes B) i = B.getD i false := by
    unfold bitOf bytes
    have hi : i / 8 < nb B.length := by unfold nb; omega
    rw [List.getD_eq_getElem?_getD, List.getElem?_map, List.getElem?_range hi]
    simp only [Option.map_some, Option.getD_some]
    unfold byt
    rw [num_testBit]
    have : 8 * (i / 8) + i % 8 = i := by omega
    rw [this]; simp [Nat.mod_lt]
  rw [e] at h
  simpa [List.getD_eq_getElem?_getD, h1, h2] using h
end Go.Proofs.YthckfbfenfkdiaaDoor.Bt
