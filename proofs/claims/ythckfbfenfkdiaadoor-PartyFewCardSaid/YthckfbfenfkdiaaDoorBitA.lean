/- Numbers as rows of bits. No condition. -/
namespace Go.Proofs.YthckfbfenfkdiaaDoor.Bt
/-- The number of which the bits below n are f's. -/
def num (f : Nat → Bool) : Nat → Nat
  | 0 => 0
  | n + 1 => num f n + (if f n then 2 ^ n else 0)
theorem num_lt (f : Nat → Bool) : ∀ n, num f n < 2 ^ n
  | 0 => by simp [num]
  | n + 1 => by
    have := num_lt f n
    unfold num
    rw [Nat.pow_succ]
    split <;> omega
theorem num_testBit (f : Nat → Bool) : ∀ n i, (num f n).testBit i = (decide (i < n) && f i)
  | 0, i => by simp [num]
  | n + 1, i => by
    have ih := num_testBit f n i
    have hl := num_lt f n
    unfold num
    split
    · rename_i hf
      have e : num f n + 2 ^ n = 2 ^ n * 1 + num f n := by omega
      rw [e, Nat.testBit_two_pow_mul_add _ hl]
      by_cases h : i < n
      · rw [if_pos h, ih]
        simp [h, Nat.lt_succ_of_lt h]
      · rw [if_neg h]
        by_cases h2 : i = n
        · subst h2; simp [hf]
        · have h3 : ¬ i < n + 1 := by omega
          have h4 : i - n ≠ 0 := by omega
          simp [h3]
          obtain ⟨k, hk⟩ := Nat.exists_eq_succ_of_ne_zero h4
          rw [hk]; simp [Nat.testBit_succ]
    · rename_i hf
      rw [Nat.add_zero, ih]
      by_cases h : i < n
      · simp [h, Nat.lt_succ_of_lt h]
      · by_cases h2 : i = n
        · subst h2; simp at hf; simp [hf]
        · have h3 : ¬ i < n + 1 := by omega
          simp [h, h3]
theorem num_congr {f g : Nat → Bool} {n : Nat} (h : ∀ i, i < n → f i = g i) : num f n = num g n := by
  apply Nat.eq_of_testBit_eq
  intro i
  rw [num_testBit, num_testBit]
  by_cases hi : i < n
  · simp [hi, h i hi]
  · simp [hi]
theorem eq_num {x n : Nat} (hx : x < 2 ^ n) : x = num x.testBit n := by
  apply Nat.eq_of_testBit_eq
  intro i
  rw [num_testBit]
  by_cases hi : i < n
  · simp [hi]
  · simp [hi]
    exact Nat.testBit_lt_two_pow (Nat.lt_of_lt_of_le hx (Nat.pow_le_pow_right (by decide) (by omega)))
theorem num_inj {f g : Nat → Bool} {n : Nat} (h : num f n = num g n) (i : Nat) (hi : i < n) : f i = g i := by
  have a := num_testBit f n i
  have b := num_testBit g n i
  rw [h, b] at a
  simpa [hi] using a.symm
/-! How many bits are set: the count by halves. -/
def val (k : Nat) : List Nat → Nat
  | [] => 0
  | d :: ds => 2 ^ k * val k ds + d
def pair : List Nat → List Nat
  | a :: b :: r => (a + b) :: pair r
  | l => l
def mask (k : Nat) : Nat → Nat
  | 0 => 0
  | n + 1 => 2 ^ (2 * k) * mask k n + (2 ^ k - 1)
theorem and_split {m a b x y : Nat} (ha : a < 2 ^ m) (hb : b < 2 ^ m) : (2 ^ m * x + a) &&& (2 ^ m * y + b) = 2 ^ m * (x &&& y) + (a &&& b) := by
  apply Nat.eq_of_testBit_eq
  intro i
  have hab : a &&& b < 2 ^ m := Nat.lt_of_le_of_lt Nat.and_le_left ha
  rw [Nat.testBit_and, Nat.testBit_two_pow_mul_add _ ha, Nat.testBit_two_pow_mul_add _ hb, Nat.testBit_two_pow_mul_add _ hab]
  split <;> simp [Nat.testBit_and]
theorem sum_pair : ∀ ds : List Nat, (pair ds).sum = ds.sum
  | [] => rfl
  | [_] => rfl
  | a :: b :: r => by simp [pair, sum_pair r]; omega
theorem pair_length : ∀ (n : Nat) (ds : List Nat), ds.length = 2 * n → (pair ds).length = n
  | 0, [], _ => rfl
  | n + 1, a :: b :: r, h => by simp [pair]; exact pair_length n r (by simp at h; omega)
  | n + 1, [], h => by simp at h
  | n + 1, [_], h => by simp at h; omega
  | 0, _ :: _, h => by simp at h
theorem pair_le {c : Nat} : ∀ (ds : List Nat), (∀ d ∈ ds, d ≤ c) → ∀ d ∈ pair ds, d ≤ 2 * c
  | [], _ => by simp [pair]
  | [a], h => by simp [pair] at h ⊢; omega
  | a :: b :: r, h => by
    intro d hd
    simp only [pair, List.mem_cons] at hd
    rcases hd with rfl | hd
    · have := h a (by simp); have := h b (by simp); omega
    · exact pair_le r (fun d hd => h d (by simp [hd])) d hd
theorem low_mask {k a R : Nat} (ha : a < 2 ^ k) : (2 ^ k * R + a) % 2 ^ k = a := by
  rw [Nat.mul_add_mod]; exact Nat.mod_eq_of_lt ha
/-- Of two fields the one behind is laid on the one ahead. -/
theorem halves1 (k : Nat) : ∀ (n : Nat) (ds : List Nat), ds.length = 2 * n → (∀ d ∈ ds, d < 2 ^ k) → (val k ds / 2 ^ k &&& mask k n) + (val k ds &&& mask k n) = val (2 * k) (pair ds)
  | 0, [], _, _ => by simp [val, mask, pair]
  | 0, _ :: _, h, _ => by simp at h
  | n + 1, [], h, _ => by simp at h
  | n + 1, [_], h, _ => by simp at h; omega
  | n + 1, a :: b :: r, h, hd => by
    have ih := halves1 k n r (by simp at h; omega) (fun d hm => hd d (by simp [hm]))
    have ha := hd a (by simp)
    have hb := hd b (by simp)
    have hp : 0 < 2 ^ k := Nat.two_pow_pos k
    have e2 : 2 ^ (2 * k) = 2 ^ k * 2 ^ k := by rw [Nat.two_mul, Nat.pow_add]
    have hM : 2 ^ k - 1 < 2 ^ (2 * k) := by rw [e2]; have := Nat.le_mul_of_pos_left (2 ^ k) hp; omega
    simp only [val, mask, pair]
    generalize hR : val k r = R at ih ⊢
    have q1 : (2 ^ k * (2 ^ k * R + b) + a) / 2 ^ k = 2 ^ k * R + b := by
      rw [Nat.mul_add_div hp, Nat.div_eq_of_lt ha]; rfl
    have sm : ∀ x y : Nat, x < 2 ^ k → y < 2 ^ k → 2 ^ k * x + y < 2 ^ (2 * k) := by
      intro x y hx hy
      rw [e2]
      have := Nat.mul_le_mul_left (2 ^ k) hx
      rw [Nat.mul_succ] at this
      omega
    have q2 : 2 ^ k * R + b = 2 ^ (2 * k) * (R / 2 ^ k) + (2 ^ k * (R % 2 ^ k) + b) := by
      have := Nat.div_add_mod R (2 ^ k)
      have h3 : 2 ^ k * R = 2 ^ k * (2 ^ k * (R / 2 ^ k) + R % 2 ^ k) := by rw [this]
      rw [Nat.mul_add, ← Nat.mul_assoc, ← e2] at h3
      omega
    have q3 : 2 ^ k * (2 ^ k * R + b) + a = 2 ^ (2 * k) * R + (2 ^ k * b + a) := by
      rw [Nat.mul_add, ← Nat.mul_assoc, ← e2]; omega
    rw [q1, q3, q2, and_split (sm _ _ (Nat.mod_lt _ hp) hb) hM, and_split (sm _ _ hb ha) hM, Nat.and_two_pow_sub_one_eq_mod, Nat.and_two_pow_sub_one_eq_mod, low_mask hb, low_mask ha, ← ih, Nat.mul_add]
    omega
/-- The same where the sum is masked, not what is added. -/
theorem halves2 (k : Nat) : ∀ (n : Nat) (ds : List Nat), ds.length = 2 * n → (∀ d ∈ ds, 2 * d < 2 ^ k) → (val k ds / 2 ^ k + val k ds) &&& mask k n = val (2 * k) (pair ds)
  | 0, [], _, _ => by simp [val, mask, pair]
  | 0, _ :: _, h, _ => by simp at h
  | n + 1, [], h, _ => by simp at h
  | n + 1, [_], h, _ => by simp at h; omega
  | n + 1, a :: b :: r, h, hd => by
    have ih := halves2 k n r (by simp at h; omega) (fun d hm => hd d (by simp [hm]))
    have ha := hd a (by simp)
    have hb := hd b (by simp)
    have hp : 0 < 2 ^ k := Nat.two_pow_pos k
    have e2 : 2 ^ (2 * k) = 2 ^ k * 2 ^ k := by rw [Nat.two_mul, Nat.pow_add]
    have hM : 2 ^ k - 1 < 2 ^ (2 * k) := by rw [e2]; have := Nat.le_mul_of_pos_left (2 ^ k) hp; omega
    have hrm : 2 * (val k r % 2 ^ k) < 2 ^ k := by
      cases r with
      | nil => simp [val]; exact hp
      | cons c r' =>
        have hc := hd c (by simp)
        simp only [val]
        rw [low_mask (by omega)]; exact hc
    simp only [val, mask, pair]
    generalize hR : val k r = R at ih hrm ⊢
    have q1 : (2 ^ k * (2 ^ k * R + b) + a) / 2 ^ k = 2 ^ k * R + b := by
      rw [Nat.mul_add_div hp, Nat.div_eq_of_lt (by omega)]; rfl
    have sm : ∀ x y : Nat, x < 2 ^ k → y < 2 ^ k → 2 ^ k * x + y < 2 ^ (2 * k) := by
      intro x y hx hy
      rw [e2]
      have := Nat.mul_le_mul_left (2 ^ k) hx
      rw [Nat.mul_succ] at this
      omega
    have q2 : 2 ^ k * R = 2 ^ (2 * k) * (R / 2 ^ k) + 2 ^ k * (R % 2 ^ k) := by
      have := Nat.div_add_mod R (2 ^ k)
      have h3 : 2 ^ k * R = 2 ^ k * (2 ^ k * (R / 2 ^ k) + R % 2 ^ k) := by rw [this]
      rw [Nat.mul_add, ← Nat.mul_assoc, ← e2] at h3
      exact h3
    have q3 : 2 ^ k * (2 ^ k * R + b) + a = 2 ^ (2 * k) * R + (2 ^ k * b + a) := by
      rw [Nat.mul_add, ← Nat.mul_assoc, ← e2]; omega
    have q4 : 2 ^ k * R + b + (2 ^ (2 * k) * R + (2 ^ k * b + a)) = 2 ^ (2 * k) * (R / 2 ^ k + R) + (2 ^ k * (R % 2 ^ k + b) + (a + b)) := by
      rw [Nat.mul_add (2 ^ (2 * k)), Nat.mul_add (2 ^ k)]; omega
    rw [q1, q3, q4, and_split (sm _ _ (by omega) (by omega)) hM, Nat.and_two_pow_sub_one_eq_mod, low_mask (by omega), ih]
/-- The digits of a number. -/
def digs (x : Nat) : Nat → List Nat
  | 0 => []
  | n + 1 => (x % 2) :: digs (x / 2) n
theorem digs_length : ∀ (n x : Nat), (digs x n).length = n
  | 0, _ => rfl
  | n + 1, x => by simp [digs, digs_length n]
theorem digs_le : ∀ (n x : Nat), ∀ d ∈ digs x n, d ≤ 1
  | 0, _ => by simp [digs]
  | n + 1, x => by
    intro d hd
    simp only [digs, List.mem_cons] at hd
    rcases hd with rfl | hd
    · omega
    · exact digs_le n _ d hd
theorem digs_val : ∀ (n x : Nat), x < 2 ^ n → val 1 (digs x n) = x
  | 0, x, h => by simp at h; simp [digs, val, h]
  | n + 1, x, h => by
    simp only [digs, val]
    rw [digs_val n (x / 2) (by rw [Nat.pow_succ] at h; omega)]
    omega
/-- How many of the bits below n are set. -/
def pop (x n : Nat) : Nat := (digs x n).sum
theorem last8 {e : List Nat} (hl : e.length = 8) (he : ∀ d ∈ e, d ≤ 8) :
    ∃ x1 x2 x3, val 8 e / 256 + val 8 e = x1 ∧ x1 / 65536 + x1 = x2 ∧ x2 / 4294967296 + x2 = x3 ∧ x1 < 18446744073709551616 ∧ x2 < 18446744073709551616 ∧ x3 < 18446744073709551616 ∧ x3 % 128 = e.sum := by
  match e, hl with
  | [e0, e1, e2, e3, e4, e5, e6, e7], _ =>
    have h0 := he e0 (by simp); have h1 := he e1 (by simp); have h2 := he e2 (by simp); have h3 := he e3 (by simp)
    have h4 := he e4 (by simp); have h5 := he e5 (by simp); have h6 := he e6 (by simp); have h7 := he e7 (by simp)
    refine ⟨_, _, _, rfl, rfl, rfl, ?_⟩
    simp only [val, List.sum_cons, List.sum_nil]
    have a0 : 2 ^ 8 * (2 ^ 8 * (2 ^ 8 * (2 ^ 8 * (2 ^ 8 * (2 ^ 8 * (2 ^ 8 * (2 ^ 8 * 0 + e7) + e6) + e5) + e4) + e3) + e2) + e1) + e0 = (e0) + 256 * (e1) + 65536 * (e2) + 16777216 * (e3) + 4294967296 * (e4) + 1099511627776 * (e5) + 281474976710656 * (e6) + 72057594037927936 * (e7) := by omega
    rw [a0]
    clear a0 he
    have a1 : ((e0) + 256 * (e1) + 65536 * (e2) + 16777216 * (e3) + 4294967296 * (e4) + 1099511627776 * (e5) + 281474976710656 * (e6) + 72057594037927936 * (e7)) / 256 + ((e0) + 256 * (e1) + 65536 * (e2) + 16777216 * (e3) + 4294967296 * (e4) + 1099511627776 * (e5) + 281474976710656 * (e6) + 72057594037927936 * (e7)) = (e0 + e1) + 256 * (e1 + e2) + 65536 * (e2 + e3) + 16777216 * (e3 + e4) + 4294967296 * (e4 + e5) + 1099511627776 * (e5 + e6) + 281474976710656 * (e6 + e7) + 72057594037927936 * (e7) := by omega
    have a2 : ((e0 + e1) + 256 * (e1 + e2) + 65536 * (e2 + e3) + 16777216 * (e3 + e4) + 4294967296 * (e4 + e5) + 1099511627776 * (e5 + e6) + 281474976710656 * (e6 + e7) + 72057594037927936 * (e7)) / 65536 + ((e0 + e1) + 256 * (e1 + e2) + 65536 * (e2 + e3) + 16777216 * (e3 + e4) + 4294967296 * (e4 + e5) + 1099511627776 * (e5 + e6) + 281474976710656 * (e6 + e7) + 72057594037927936 * (e7)) = (e0 + e1 + (e2 + e3)) + 256 * (e1 + e2 + (e3 + e4)) + 65536 * (e2 + e3 + (e4 + e5)) + 16777216 * (e3 + e4 + (e5 + e6)) + 4294967296 * (e4 + e5 + (e6 + e7)) + 1099511627776 * (e5 + e6 + (e7)) + 281474976710656 * (e6 + e7) + 72057594037927936 * (e7) := by omega
    have a3 : ((e0 + e1 + (e2 + e3)) + 256 * (e1 + e2 + (e3 + e4)) + 65536 * (e2 + e3 + (e4 + e5)) + 16777216 * (e3 + e4 + (e5 + e6)) + 4294967296 * (e4 + e5 + (e6 + e7)) + 1099511627776 * (e5 + e6 + (e7)) + 281474976710656 * (e6 + e7) + 72057594037927936 * (e7)) / 4294967296 + ((e0 + e1 + (e2 + e3)) + 256 * (e1 + e2 + (e3 + e4)) + 65536 * (e2 + e3 + (e4 + e5)) + 16777216 * (e3 + e4 + (e5 + e6)) + 4294967296 * (e4 + e5 + (e6 + e7)) + 1099511627776 * (e5 + e6 + (e7)) + 281474976710656 * (e6 + e7) + 72057594037927936 * (e7)) = (e0 + e1 + (e2 + e3) + (e4 + e5 + (e6 + e7))) + 256 * (e1 + e2 + (e3 + e4) + (e5 + e6 + (e7))) + 65536 * (e2 + e3 + (e4 + e5) + (e6 + e7)) + 16777216 * (e3 + e4 + (e5 + e6) + (e7)) + 4294967296 * (e4 + e5 + (e6 + e7)) + 1099511627776 * (e5 + e6 + (e7)) + 281474976710656 * (e6 + e7) + 72057594037927936 * (e7) := by omega
    rw [a1, a2, a3]
    clear a1 a2 a3
    refine ⟨by omega, by omega, by omega, by omega⟩
theorem ones (x : Nat) (hx : x < 2 ^ 64) : ∃ c1 c2 c3 x1 x2 x3,
    (x / 2 &&& 6148914691236517205) + (x &&& 6148914691236517205) = c1 ∧ (c1 / 4 &&& 3689348814741910323) + (c1 &&& 3689348814741910323) = c2 ∧ (c2 / 16 + c2) &&& 1085102592571150095 = c3 ∧
    c3 / 256 + c3 = x1 ∧ x1 / 65536 + x1 = x2 ∧ x2 / 4294967296 + x2 = x3 ∧ c1 < 18446744073709551616 ∧ c2 < 18446744073709551616 ∧ c2 / 16 + c2 < 18446744073709551616 ∧ c3 < 18446744073709551616 ∧ x1 < 18446744073709551616 ∧ x2 < 18446744073709551616 ∧ x3 < 18446744073709551616 ∧ x3 % 128 = pop x 64 := by
  have l0 := digs_length 64 x
  have d0 := digs_le 64 x
  have v0 := digs_val 64 x hx
  have s1 := halves1 1 32 _ l0 (fun d h => by have := d0 d h; omega)
  have l1 := pair_length 32 _ l0
  have d1 := pair_le _ d0
  have s2 := halves1 2 16 _ l1 (fun d h => by have := d1 d h; omega)
  have l2 := pair_length 16 _ l1
  have d2 := pair_le _ d1
  have s3 := halves2 4 8 _ l2 (fun d h => by have := d2 d h; omega)
  have l3 := pair_length 8 _ l2
  have d3 := pair_le _ d2
  obtain ⟨x1, x2, x3, e1, e2, e3, b1, b2, b3, e4⟩ := last8 l3 (fun d h => by have := d3 d h; omega)
  have m0 : mask 1 32 = 6148914691236517205 := by decide
  have m1 : mask 2 16 = 3689348814741910323 := by decide
  have m2 : mask 4 8 = 1085102592571150095 := by decide
  rw [v0, m0] at s1
  rw [m1] at s2
  rw [m2] at s3
  have p1 : (2 : Nat) ^ 1 = 2 := rfl
  have p2 : (2 : Nat) ^ 2 = 4 := rfl
  have p4 : (2 : Nat) ^ 4 = 16 := rfl
  have t1 : 2 * 1 = 2 := rfl
  have t2 : 2 * 2 = 4 := rfl
  have t4 : 2 * 4 = 8 := rfl
  rw [p1, t1] at s1
  rw [p2, t2] at s2
  rw [p4, t4] at s3
  have a1 : (x / 2 &&& 6148914691236517205) ≤ 6148914691236517205 := Nat.and_le_right
  have a2 : (x &&& 6148914691236517205) ≤ 6148914691236517205 := Nat.and_le_right
  generalize hc1 : val 2 (pair (digs x 64)) = c1 at *
  have a3 : (c1 / 4 &&& 3689348814741910323) ≤ 3689348814741910323 := Nat.and_le_right
  have a4 : (c1 &&& 3689348814741910323) ≤ 3689348814741910323 := Nat.and_le_right
  generalize hc2 : val 4 (pair (pair (digs x 64))) = c2 at *
  have a5 : ((c2 / 16 + c2) &&& 1085102592571150095) ≤ 1085102592571150095 := Nat.and_le_right
  refine ⟨c1, c2, _, x1, x2, x3, s1, s2, s3, e1, e2, e3, by omega, by omega, by omega, by omega, b1, b2, b3, ?_⟩
  rw [e4, sum_pair, sum_pair, sum_pair]; rfl
end Go.Proofs.YthckfbfenfkdiaaDoor.Bt
