/- Sets as rows of Bools, and the words they are kept in. No condition. -/
import Derived.Test.YthckfbfenfkdiaaDoorBitA
namespace Go.Proofs.YthckfbfenfkdiaaDoor.Bt
/-- Word k of a set. -/
def wd (B : List Bool) (k : Nat) : Nat := num (fun j => B.getD (64 * k + j) false) 64
/-- How many words. -/
def nw (n : Nat) : Nat := (n + 63) / 64
def words (B : List Bool) : List Nat := (List.range (nw B.length)).map (wd B)
theorem words_length (B : List Bool) : (words B).length = nw B.length := by simp [words]
theorem words_get (B : List Bool) {k : Nat} (h : k < nw B.length) : (words B)[k]? = some (wd B k) := by
  simp [words, h]
theorem wd_lt (B : List Bool) (k : Nat) : wd B k < 18446744073709551616 := num_lt _ 64
theorem wd_bit (B : List Bool) (k j : Nat) (h : j < 64) : (wd B k).testBit j = B.getD (64 * k + j) false := by
  unfold wd; rw [num_testBit]; simp [h]
theorem split64 (i : Nat) : 64 * (i / 64) + i % 64 = i := by omega
theorem nw_lt {n i : Nat} (h : i < n) : i / 64 < nw n := by unfold nw; omega
theorem wd_at (B : List Bool) (i : Nat) : wd B (i / 64) / 2 ^ (i % 64) % 2 = if B.getD i false then 1 else 0 := by
  have h := wd_bit B (i / 64) (i % 64) (Nat.mod_lt _ (by decide))
  rw [split64, Nat.testBit_eq_decide_div_mod_eq] at h
  rw [← h]
  by_cases h1 : wd B (i / 64) / 2 ^ (i % 64) % 2 = 1
  · simp [h1]
  · simp [h1]; omega
theorem getD_set_b (B : List Bool) (i j : Nat) (b : Bool) : (B.set i b).getD j false = if j = i ∧ i < B.length then b else B.getD j false := by
  simp only [List.getD_eq_getElem?_getD, List.getElem?_set]
  by_cases h : i = j
  · subst h
    by_cases h2 : i < B.length
    · simp [h2]
    · simp [h2]
  · rw [if_neg h, if_neg (fun e => h e.1.symm)]
theorem wd_put (B : List Bool) {i : Nat} (hi : i < B.length) : wd (B.set i true) (i / 64) = wd B (i / 64) ||| 2 ^ (i % 64) := by
  apply Nat.eq_of_testBit_eq
  intro j
  rw [Nat.testBit_or, Nat.testBit_two_pow]
  by_cases hj : j < 64
  · rw [wd_bit _ _ _ hj, wd_bit _ _ _ hj, getD_set_b]
    by_cases e : i % 64 = j
    · have : 64 * (i / 64) + j = i := by omega
      rw [if_pos ⟨this, hi⟩]; simp [e]
    · have : ¬ 64 * (i / 64) + j = i := by omega
      rw [if_neg (fun h => this h.1)]; simp [e]
  · have e : ¬ i % 64 = j := by omega
    unfold wd
    rw [num_testBit, num_testBit]; simp [hj, e]
theorem wd_drop (B : List Bool) {i : Nat} (hi : i < B.length) : wd (B.set i false) (i / 64) = wd B (i / 64) &&& (18446744073709551615 - 2 ^ (i % 64)) := by
  apply Nat.eq_of_testBit_eq
  intro j
  have hp : (2 : Nat) ^ (i % 64) < 2 ^ 64 := Nat.pow_lt_pow_right (by decide) (Nat.mod_lt _ (by decide))
  have e64 : (18446744073709551615 : Nat) - 2 ^ (i % 64) = 2 ^ 64 - (2 ^ (i % 64) + 1) := by omega
  rw [Nat.testBit_and, e64, Nat.testBit_two_pow_sub_succ hp, Nat.testBit_two_pow]
  by_cases hj : j < 64
  · rw [wd_bit _ _ _ hj, wd_bit _ _ _ hj, getD_set_b]
    by_cases e : i % 64 = j
    · have : 64 * (i / 64) + j = i := by omega
      rw [if_pos ⟨this, hi⟩]; simp [e]
    · have : ¬ 64 * (i / 64) + j = i := by omega
      rw [if_neg (fun h => this h.1)]; simp [e, hj]
  · unfold wd
    rw [num_testBit, num_testBit]; simp [hj]
theorem wd_other (B : List Bool) {i k : Nat} (b : Bool) (h : k ≠ i / 64) : wd (B.set i b) k = wd B k := by
  unfold wd
  apply num_congr
  intro j hj
  rw [getD_set_b, if_neg]
  intro e; omega
theorem words_set (B : List Bool) {i : Nat} (hi : i < B.length) (b : Bool) : words (B.set i b) = (words B).set (i / 64) (wd (B.set i b) (i / 64)) := by
  apply List.ext_getElem?
  intro k
  rw [List.getElem?_set]
  by_cases hk : k < nw B.length
  · rw [words_get _ (by simpa using hk)]
    by_cases e : i / 64 = k
    · subst e; simp [words_length, hk]
    · rw [if_neg e, words_get _ hk, wd_other _ _ (fun h => e h.symm)]
  · have h1 : (words (B.set i b))[k]? = none := List.getElem?_eq_none (by rw [words_length]; simp; omega)
    have h2 : (words B)[k]? = none := List.getElem?_eq_none (by rw [words_length]; omega)
    have : ¬ i / 64 = k := by have := nw_lt hi; omega
    rw [h1, if_neg this, h2]
theorem words_inj {B C : List Bool} (hl : B.length = C.length) (h : words B = words C) : B = C := by
  apply List.ext_getElem hl
  intro i h1 h2
  have a := words_get B (nw_lt h1)
  have b := words_get C (nw_lt h2)
  rw [h, b] at a
  have e := Option.some.inj a
  have w1 := wd_bit B (i / 64) (i % 64) (Nat.mod_lt _ (by decide))
  have w2 := wd_bit C (i / 64) (i % 64) (Nat.mod_lt _ (by decide))
  rw [e, w1, split64] at w2
  simpa [List.getD_eq_getElem?_getD, h1, h2] using w2
/-! The least from one on. -/
/-- The least k, i ≤ k < B.length, where B says b. -/
def seekN (b : Bool) (B : List Bool) (i : Nat) : Nat → Option Nat
  | 0 => none
  | f + 1 => if i < B.length then (if B.getD i false = b then some i else seekN b B (i + 1) f) else none
def seekO (b : Bool) (B : List Bool) (i : Nat) : Option Nat := seekN b B i (B.length - i + 1)
def seekI (b : Bool) (B : List Bool) (i : Int) : Int := match seekO b B i.toNat with
  | some k => k
  | none => -1
theorem seekN_some {b : Bool} {B : List Bool} : ∀ (f i k : Nat), seekN b B i f = some k → i ≤ k ∧ k < B.length ∧ B.getD k false = b ∧ ∀ j, i ≤ j → j < k → B.getD j false ≠ b
  | 0, i, k, h => by simp [seekN] at h
  | f + 1, i, k, h => by
    unfold seekN at h
    split at h
    · split at h
      · cases h; rename_i h1 h2; exact ⟨Nat.le_refl _, h1, h2, fun j h3 h4 => by omega⟩
      · rename_i h1 h2
        obtain ⟨a1, a2, a3, a4⟩ := seekN_some f (i + 1) k h
        refine ⟨by omega, a2, a3, fun j h3 h4 => ?_⟩
        by_cases e : j = i
        · subst e; exact h2
        · exact a4 j (by omega) h4
    · cases h
theorem seekN_none {b : Bool} {B : List Bool} : ∀ (f i : Nat), B.length < i + f → seekN b B i f = none → ∀ j, i ≤ j → j < B.length → B.getD j false ≠ b
  | 0, i, hf, h => fun j h1 h2 => by omega
  | f + 1, i, hf, h => by
    unfold seekN at h
    intro j h1 h2
    split at h
    · split at h
      · cases h
      · rename_i h3 h4
        by_cases e : j = i
        · subst e; exact h4
        · exact seekN_none f (i + 1) (by omega) h j (by omega) h2
    · omega
theorem seekO_some {b : Bool} {B : List Bool} {i k : Nat} (h : seekO b B i = some k) : i ≤ k ∧ k < B.length ∧ B.getD k false = b ∧ ∀ j, i ≤ j → j < k → B.getD j false ≠ b := seekN_some _ _ _ h
theorem seekO_none {b : Bool} {B : List Bool} {i : Nat} (h : seekO b B i = none) : ∀ j, i ≤ j → j < B.length → B.getD j false ≠ b := seekN_none _ _ (by omega) h
theorem seekO_is {b : Bool} {B : List Bool} {i k : Nat} (h1 : i ≤ k) (h2 : k < B.length) (h3 : B.getD k false = b) (h4 : ∀ j, i ≤ j → j < k → B.getD j false ≠ b) : seekO b B i = some k := by
  cases h : seekO b B i with
  | none => exact absurd h3 (seekO_none h k h1 h2)
  | some q =>
    obtain ⟨a1, a2, a3, a4⟩ := seekO_some h
    congr 1
    rcases Nat.lt_trichotomy q k with e | e | e
    · exact absurd a3 (h4 q a1 e)
    · exact e
    · exact absurd h3 (a4 k h1 e)
theorem seekO_not {b : Bool} {B : List Bool} {i : Nat} (h : ∀ j, i ≤ j → j < B.length → B.getD j false ≠ b) : seekO b B i = none := by
  cases e : seekO b B i with
  | none => rfl
  | some k => obtain ⟨a1, a2, a3, _⟩ := seekO_some e; exact absurd a3 (h k a1 a2)
theorem seekO_here {b : Bool} {B : List Bool} {i : Nat} (h1 : i < B.length) (h2 : B.getD i false = b) : seekO b B i = some i := seekO_is (Nat.le_refl _) h1 h2 (fun j h3 h4 => by omega)
theorem seekO_next {b : Bool} {B : List Bool} {i : Nat} (h2 : B.getD i false ≠ b) : seekO b B i = seekO b B (i + 1) := by
  cases e : seekO b B (i + 1) with
  | none =>
    refine seekO_not (fun j h3 h4 => ?_)
    by_cases e2 : j = i
    · subst e2; exact h2
    · exact seekO_none e j (by omega) h4
  | some k =>
    obtain ⟨a1, a2, a3, a4⟩ := seekO_some e
    refine seekO_is (by omega) a2 a3 (fun j h3 h4 => ?_)
    by_cases e2 : j = i
    · subst e2; exact h2
    · exact a4 j (by omega) h4
end Go.Proofs.YthckfbfenfkdiaaDoor.Bt
