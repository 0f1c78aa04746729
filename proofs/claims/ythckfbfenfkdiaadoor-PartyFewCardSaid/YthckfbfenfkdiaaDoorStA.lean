/- The stable sort of slices, plain: rotations, merges, blocks. No condition. -/
import Derived.Sort.LotA
namespace Go.Proofs.YthckfbfenfkdiaaDoor.St
open Go.Sort
/-- A run: where it begins, how many seats it has. -/
abbrev Sp := Nat × Nat
/-- By number, of like ones by place. -/
def lex (x y : Sp) : Bool := decide (x.2 < y.2) || (decide (x.2 = y.2) && decide (x.1 < y.1))
theorem lex_iff (x y : Sp) : lex x y = true ↔ (x.2 < y.2 ∨ (x.2 = y.2 ∧ x.1 < y.1)) := by simp [lex]
theorem lex_no (x y : Sp) : lex x y = false ↔ ¬ (x.2 < y.2 ∨ (x.2 = y.2 ∧ x.1 < y.1)) := by rw [← lex_iff]; simp
theorem swo_lex : SWO lex := by
  refine ⟨fun x => ?_, fun x y z h k => ?_, fun x y z h k => ?_⟩
  · rw [lex_no]; omega
  · rw [lex_iff] at h k ⊢; omega
  · rw [lex_no] at h k ⊢; omega
/-- So few seats. -/
def Ok (x : Sp) : Prop := x.2 ≤ 1000000
/-- All of them. -/
def AllOk (d : Array Sp) : Prop := ∀ p : Nat, Ok d[p]!
/-- Of a later one and an earlier one, both ask the same. -/
def Like (lt : Sp → Sp → Bool) : Prop := ∀ x y, Ok x → Ok y → x.1 < y.1 → lt y x = lex y x
theorem AllOk.swp {d : Array Sp} (h : AllOk d) {i j : Nat} (hi : i < d.size) (hj : j < d.size) : AllOk (swp d i j) := by
  intro p
  rw [swp_get d hi hj]
  split
  · exact h i
  · split
    · exact h j
    · exact h p
theorem permIn_get {a b : Nat} {d d' : Array Sp} (h : PermIn a b d d') (hb : b ≤ d.size) {i : Nat} (h1 : a ≤ i) (h2 : i < b) : ∃ k, a ≤ k ∧ k < b ∧ d'[i]! = d[k]! :=
  permIn_all d d' a b (fun x => ∃ k, a ≤ k ∧ k < b ∧ x = d[k]!) hb h (fun i h1 h2 => ⟨i, h1, h2, rfl⟩) i h1 h2
theorem AllOk.perm {a b : Nat} {d d' : Array Sp} (h : AllOk d) (k : PermIn a b d d') (hb : b ≤ d.size) : AllOk d' := by
  intro p
  by_cases hp : a ≤ p ∧ p < b
  · obtain ⟨x, _, _, e⟩ := permIn_get k hb hp.1 hp.2
    rw [e]; exact h x
  · rw [k.2.1 p (by omega)]; exact h p
/-- Places rise. -/
def Up (a b : Nat) (d : Array Sp) : Prop := ∀ p q, a ≤ p → p < q → q < b → d[p]!.1 < d[q]!.1
/-- Those of one part lie ahead of those of another one. -/
def Ahead (a m b : Nat) (d : Array Sp) : Prop := ∀ p q, a ≤ p → p < m → m ≤ q → q < b → d[p]!.1 < d[q]!.1
/-- None of the first part is more than one of the second. -/
def LeqP (a m b : Nat) (d : Array Sp) : Prop := ∀ p q, a ≤ p → p < m → m ≤ q → q < b → lex d[q]! d[p]! = false
theorem insInner_lex {cnt : Sp → Sp → Bool} (h0 : Like cnt) (a : Nat) : ∀ (j : Nat) (d : Array Sp), AllOk d → (∀ p, a ≤ p → p < j → d[p]!.1 < d[j]!.1) → j < d.size → insInner cnt a j d = insInner lex a j d
  | 0, d, _, _, _ => rfl
  | j + 1, d, hA, h, hj => by
    unfold insInner
    by_cases hja : j + 1 > a
    · have e : cnt d[j + 1]! d[j]! = lex d[j + 1]! d[j]! := h0 _ _ (hA _) (hA _) (h j (by omega) (by omega))
      rw [e]
      by_cases hl : lex d[j + 1]! d[j]! = true
      · rw [if_pos (by simp [hja, hl]), if_pos (by simp [hja, hl])]
        refine insInner_lex h0 a j _ (hA.swp hj (by omega)) ?_ (by rw [size_swp]; omega)
        intro p hp hpj
        rw [swp_right _ _ _ (by omega), swp_other _ _ _ _ (by omega) (by omega)]
        exact h p hp (by omega)
      · rw [if_neg (by simp [hl]), if_neg (by simp [hl])]
    · rw [if_neg (by simp; omega), if_neg (by simp; omega)]
theorem insOuter_lex {cnt : Sp → Sp → Bool} (h0 : Like cnt) (a b : Nat) : ∀ (n i : Nat) (d : Array Sp), AllOk d → b - i = n → a < i → b ≤ d.size → SortedIn lex a i d → (∀ p q, a ≤ p → p < q → i ≤ q → q < b → d[p]!.1 < d[q]!.1) → insOuter cnt a b i d = insOuter lex a b i d
  | 0, i, d, _, hn, _, _, _, _ => by
    rw [insOuter, if_neg (by omega)]
    conv => rhs; rw [insOuter, if_neg (show ¬ i < b by omega)]
  | n + 1, i, d, hA, hn, hai, hb, hs, h => by
    have hlt : i < b := by omega
    rw [insOuter, if_pos hlt]
    conv => rhs; rw [insOuter, if_pos hlt]
    rw [insInner_lex h0 a i d hA (fun p hp hpi => h p i hp hpi (Nat.le_refl _) hlt) (by omega)]
    have hspec := insInner_spec swo_lex swp_permIn permIn_refl permIn_trans a (i + 1) i (by omega) i d (by omega) (Nat.le_refl _) (by omega) ⟨fun p q hap hpq hqi _ hq => hs p q hap hpq (by omega), fun q h1 h2 => by omega⟩
    refine insOuter_lex h0 a b n (i + 1) _ (hA.perm hspec.1 (by omega)) (by omega) (by omega) (by rw [hspec.1.1]; exact hb) hspec.2 ?_
    intro p q hp hpq hiq hqb
    rw [hspec.1.2.1 q (by omega)]
    by_cases hpi : p < i + 1
    · obtain ⟨k, hk1, hk2, e⟩ := permIn_get hspec.1 (by omega) hp hpi
      rw [e]
      exact h k q hk1 (by omega) (by omega) hqb
    · rw [hspec.1.2.1 p (by omega)]
      exact h p q hp hpq (by omega) hqb
theorem ins_lex {cnt : Sp → Sp → Bool} (h0 : Like cnt) {a b : Nat} {d : Array Sp} (hA : AllOk d) (hab : a ≤ b) (hb : b ≤ d.size) (h : Up a b d) : insertionSort cnt d a b = insertionSort lex d a b := by
  unfold insertionSort
  by_cases e : a = b
  · subst e
    rw [insOuter, if_neg (by omega)]
    conv => rhs; rw [insOuter, if_neg (show ¬ a + 1 < a by omega)]
  · exact insOuter_lex h0 a b _ (a + 1) d hA rfl (by omega) hb (fun i j h1 h2 h3 => by omega) (fun p q h1 h2 h3 h4 => h p q h1 h2 h4)
theorem ins_ok {cnt : Sp → Sp → Bool} (h0 : Like cnt) {a b : Nat} {d : Array Sp} (hA : AllOk d) (hab : a ≤ b) (hb : b ≤ d.size) (h : Up a b d) : PermIn a b d (insertionSort cnt d a b) ∧ SortedIn lex a b (insertionSort cnt d a b) := by
  rw [ins_lex h0 hA hab hb h]
  exact insertionSort_holds swo_lex d a b hab hb
/-! ### Rotations -/
/-- The parts [a, m) and [m, b) have changed places. -/
structure Ro (a m b : Nat) (d d' : Array Sp) : Prop where
  size : d'.size = d.size
  get : ∀ x, d'[x]! = if a ≤ x ∧ x < b then (if x < a + (b - m) then d[x - a + m]! else d[x - (b - m)]!) else d[x]!
theorem range_get (d d' : Array Sp) (a n s : Nat) (h : ∀ x, a ≤ x → x < a + n → d'[x]! = d[x - a + s]!) : (List.range' a n).map (fun i => d'[i]!) = (List.range' s n).map (fun i => d[i]!) := by
  apply List.ext_getElem (by simp)
  intro k h1 h2
  simp only [List.length_map, List.length_range'] at h1
  simp only [List.getElem_map, List.getElem_range', Nat.one_mul]
  rw [h _ (by omega) (by omega)]
  congr 1; omega
theorem Ro.perm {a m b : Nat} {d d' : Array Sp} (h : Ro a m b d d') (h1 : a ≤ m) (h2 : m ≤ b) (hb : b ≤ d.size) : PermIn a b d d' := by
  refine ⟨h.size, fun i hi => ?_, ?_⟩
  · rw [h.get, if_neg (by omega)]
  · rw [extract_toList _ _ _ (by rw [h.size]; exact hb), extract_toList _ _ _ hb]
    have e1 : List.range' a (b - a) = List.range' a (b - m) ++ List.range' (a + (b - m)) (m - a) := by
      rw [List.range'_append_1]; congr 1; omega
    have e2 : List.range' a (b - a) = List.range' a (m - a) ++ List.range' m (b - m) := by
      have : m = a + (m - a) := by omega
      conv => rhs; arg 2; rw [this]
      rw [List.range'_append_1]; congr 1; omega
    have g1 : (List.range' a (b - m)).map (fun i => d'[i]!) = (List.range' m (b - m)).map (fun i => d[i]!) := range_get d d' a (b - m) m (fun x hx1 hx2 => by rw [h.get, if_pos (by omega), if_pos (by omega)])
    have g2 : (List.range' (a + (b - m)) (m - a)).map (fun i => d'[i]!) = (List.range' a (m - a)).map (fun i => d[i]!) := range_get d d' _ (m - a) a (fun x hx1 hx2 => by
      rw [h.get, if_pos (by omega), if_neg (by omega)]; congr 1; omega)
    conv => lhs; rw [e1, List.map_append, g1, g2]
    conv => rhs; rw [e2, List.map_append]
    exact List.perm_append_comm
theorem Ro.none {a b : Nat} (d : Array Sp) (m : Nat) (h : a = m ∨ m = b) (h1 : a ≤ m) (h2 : m ≤ b) : Ro a m b d d := by
  refine ⟨rfl, fun x => ?_⟩
  split
  · rcases h with rfl | rfl
    · rw [if_pos (by omega)]; congr 1; omega
    · rw [if_neg (by omega)]; congr 1; omega
  · rfl
/-- What is left to be changed: the parts of i and of j about m. -/
def roF (f : Nat → Sp) (m i j x : Nat) : Sp := if m - i ≤ x ∧ x < m + j then (if x < m - i + j then f (x + i) else f (x - j)) else f x
/-- Two stretches of n have changed places. -/
structure SwR (a b n : Nat) (d d' : Array Sp) : Prop where
  size : d'.size = d.size
  get : ∀ x, d'[x]! = if a ≤ x ∧ x < a + n then d[x - a + b]! else if b ≤ x ∧ x < b + n then d[x - b + a]! else d[x]!
theorem SwR.zero (a b : Nat) (d : Array Sp) : SwR a b 0 d d := ⟨rfl, fun x => by rw [if_neg (by omega), if_neg (by omega)]⟩
theorem SwR.succ {a b n : Nat} {d d' : Array Sp} (h : SwR a b n d d') (hd : a + n < b ∨ b + n < a) (ha : a + n < d.size) (hb : b + n < d.size) : SwR a b (n + 1) d (swp d' (a + n) (b + n)) := by
  refine ⟨by rw [size_swp, h.size], fun x => ?_⟩
  have hs := h.size
  rw [swp_get d' (by omega) (by omega) x, h.get, h.get, h.get]
  by_cases h1 : x = b + n
  · subst h1
    rw [if_pos rfl, if_neg (by omega), if_neg (by omega), if_neg (by omega), if_pos (by omega)]
    congr 1; omega
  · rw [if_neg h1]
    by_cases h2 : x = a + n
    · subst h2
      rw [if_pos rfl, if_neg (by omega), if_neg (by omega), if_pos (by omega)]
      congr 1; omega
    · rw [if_neg h2]
      by_cases h3 : a ≤ x ∧ x < a + n
      · rw [if_pos h3, if_pos (by omega)]
      · rw [if_neg h3]
        by_cases h4 : b ≤ x ∧ x < b + n
        · rw [if_pos h4, if_neg (by omega), if_pos (by omega)]
        · rw [if_neg h4, if_neg (by omega), if_neg (by omega)]
theorem roF_big {d d' : Array Sp} {m i j : Nat} (h : SwR (m - i) m j d d') (hi : i ≤ m) (hij : j < i) (x : Nat) : roF (fun x => d'[x]!) m (i - j) j x = roF (fun x => d[x]!) m i j x := by
  unfold roF
  simp only [h.get]
  by_cases h1 : m - (i - j) ≤ x ∧ x < m + j
  · rw [if_pos h1, if_pos (show m - i ≤ x ∧ x < m + j by omega)]
    by_cases h2 : x < m - (i - j) + j
    · rw [if_pos h2, if_neg (show ¬ x < m - i + j by omega), if_neg (by omega), if_pos (by omega)]
      congr 1; omega
    · rw [if_neg h2, if_neg (show ¬ x < m - i + j by omega), if_neg (by omega), if_neg (by omega)]
  · rw [if_neg h1]
    by_cases h2 : m - i ≤ x ∧ x < m - i + j
    · rw [if_pos h2, if_pos (show m - i ≤ x ∧ x < m + j by omega), if_pos h2.2]
      congr 1; omega
    · rw [if_neg h2, if_neg (by omega), if_neg (by omega)]
theorem roF_small {d d' : Array Sp} {m i j : Nat} (h : SwR (m - i) (m + j - i) i d d') (hi : i ≤ m) (hij : i < j) (x : Nat) : roF (fun x => d'[x]!) m i (j - i) x = roF (fun x => d[x]!) m i j x := by
  unfold roF
  simp only [h.get]
  by_cases h1 : m - i ≤ x ∧ x < m + (j - i)
  · rw [if_pos h1, if_pos (show m - i ≤ x ∧ x < m + j by omega)]
    by_cases h2 : x < m - i + (j - i)
    · rw [if_pos h2, if_pos (show x < m - i + j by omega), if_neg (by omega), if_neg (by omega)]
    · rw [if_neg h2, if_pos (show x < m - i + j by omega), if_pos (by omega)]
      congr 1; omega
  · rw [if_neg h1]
    by_cases h2 : m + j - i ≤ x ∧ x < m + j - i + i
    · rw [if_neg (by omega), if_pos h2, if_pos (show m - i ≤ x ∧ x < m + j by omega), if_neg (by omega)]
      congr 1; omega
    · rw [if_neg (by omega), if_neg h2, if_neg (by omega)]
theorem roF_same {d d' : Array Sp} {m i : Nat} (h : SwR (m - i) m i d d') (hi : i ≤ m) (x : Nat) : d'[x]! = roF (fun x => d[x]!) m i i x := by
  unfold roF
  rw [h.get]
  by_cases h1 : m - i ≤ x ∧ x < m - i + i
  · rw [if_pos h1, if_pos (by omega), if_pos (by omega)]
    congr 1; omega
  · rw [if_neg h1]
    by_cases h2 : m ≤ x ∧ x < m + i
    · rw [if_pos h2, if_pos (by omega), if_neg (by omega)]
      congr 1; omega
    · rw [if_neg h2, if_neg (by omega)]
theorem Ro.of {a m b : Nat} {d d' : Array Sp} (h1 : a ≤ m) (h2 : m ≤ b) (hs : d'.size = d.size) (h : ∀ x, d'[x]! = roF (fun x => d[x]!) m (m - a) (b - m) x) : Ro a m b d d' := by
  refine ⟨hs, fun x => ?_⟩
  rw [h]
  unfold roF
  by_cases h3 : a ≤ x ∧ x < b
  · rw [if_pos h3, if_pos (by omega)]
    by_cases h4 : x < a + (b - m)
    · rw [if_pos h4, if_pos (by omega)]; congr 1; omega
    · rw [if_neg h4, if_neg (by omega)]
  · rw [if_neg h3, if_neg (by omega)]
/-- One moves up to its place, one exchange at a time. -/
theorem Ro.up {a k : Nat} {d d' : Array Sp} (h : Ro a (a + 1) (k + 1) d d') (hk : a ≤ k) (hs : k + 1 < d.size) : Ro a (a + 1) (k + 2) d (swp d' k (k + 1)) := by
  have hz := h.size
  refine ⟨by rw [size_swp, hz], fun x => ?_⟩
  rw [swp_get d' (by omega) (by omega) x, h.get, h.get, h.get]
  by_cases h1 : x = k + 1
  · subst h1
    rw [if_pos rfl, if_pos (by omega), if_neg (by omega), if_pos (by omega), if_neg (by omega)]
    congr 1; omega
  · rw [if_neg h1]
    by_cases h2 : x = k
    · subst h2
      rw [if_pos rfl, if_neg (by omega), if_pos (by omega), if_pos (by omega)]
      congr 1; omega
    · rw [if_neg h2]
      by_cases h3 : a ≤ x ∧ x < k + 1
      · rw [if_pos h3, if_pos (by omega), if_pos (by omega), if_pos (by omega)]
      · rw [if_neg h3, if_neg (by omega)]
/-- One moves down to its place. -/
theorem Ro.down {k m : Nat} {d d' : Array Sp} (h : Ro (k + 1) m (m + 1) d d') (hk : k + 1 ≤ m) (hs : m < d.size) : Ro k m (m + 1) d (swp d' (k + 1) k) := by
  have hz := h.size
  refine ⟨by rw [size_swp, hz], fun x => ?_⟩
  rw [swp_get d' (by omega) (by omega) x, h.get, h.get, h.get]
  by_cases h1 : x = k
  · subst h1
    rw [if_pos rfl, if_pos (by omega), if_pos (by omega), if_pos (by omega), if_pos (by omega)]
    congr 1; omega
  · rw [if_neg h1]
    by_cases h2 : x = k + 1
    · subst h2
      rw [if_pos rfl, if_neg (by omega), if_pos (by omega), if_neg (by omega)]
      congr 1; omega
    · rw [if_neg h2]
      by_cases h3 : k + 1 ≤ x ∧ x < m + 1
      · rw [if_pos h3, if_neg (by omega), if_pos (by omega), if_neg (by omega)]
      · rw [if_neg h3, if_neg (by omega)]
end Go.Proofs.YthckfbfenfkdiaaDoor.St
