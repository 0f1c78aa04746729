/- The numbers of a set and of its gaps are all numbers below the bound, plainly. No condition. -/
import Derived.Test.YtbfkmogibgchmaaDoorBitO
namespace Go.Proofs.YtbfkmogibgchmaaDoor.Bt
/-- Where the loop of BitsBack may stand. -/
def Spot (B : List Bool) (i : Nat) : Prop := i ≤ B.length ∧ (i = 0 ∨ B.getD (i - 1) false = true ∨ B.getD i false = true ∨ i = B.length)
theorem bump_fst : ∀ L : List (Nat × Nat), (bump L).map (·.1) = L.map (·.1)
  | [] => rfl
  | [_] => rfl
  | x :: y :: r => by simp only [bump, List.map_cons]; rw [bump_fst (y :: r)]; rfl
theorem gaps_start {B : List Bool} : ∀ i, ∀ a ∈ (gapsTo B i).map (·.1), a < i ∧ B.getD a false = false
  | 0 => by intro a h; simp [gapsTo] at h
  | i + 1 => by
    intro a h
    have ih := gaps_start (B := B) i a
    unfold gapsTo at h
    by_cases h1 : B.getD i false = true
    · rw [if_pos h1] at h
      have := ih h
      exact ⟨by omega, this.2⟩
    · rw [if_neg h1] at h
      by_cases h2 : i = 0 ∨ B.getD (i - 1) false = true
      · rw [if_pos h2, List.map_append, List.mem_append] at h
        rcases h with h | h
        · have := ih h
          exact ⟨by omega, this.2⟩
        · simp at h
          subst h
          exact ⟨by omega, by simpa using h1⟩
      · rw [if_neg h2, bump_fst] at h
        have := ih h
        exact ⟨by omega, this.2⟩
theorem gaps_at {B : List Bool} {j : Nat} {x : Nat × Nat} (h : (gapsL B)[j]? = some x) : x.1 < B.length ∧ B.getD x.1 false = false :=
  gaps_start _ _ (List.mem_map.2 ⟨x, List.mem_of_getElem? h, rfl⟩)
theorem getD_lt {B : List Bool} {i : Nat} (h : B.getD i false = true) : i < B.length := by
  apply Nat.lt_of_not_le
  intro hn
  rw [List.getD_eq_getElem?_getD, List.getElem?_eq_none hn] at h
  cases h
theorem gapsTo_one {B : List Bool} {i : Nat} (h : B.getD i false = true) : gapsTo B (i + 1) = gapsTo B i := by
  show (if B.getD i false = true then gapsTo B i else _) = _
  rw [if_pos h]
theorem spot_prefix {B : List Bool} {i : Nat} (h : Spot B i) : gapsTo B i <+: gapsL B := by
  obtain ⟨hi, h0 | h0 | h0 | h0⟩ := h
  · subst h0; exact List.nil_prefix
  · by_cases hz : i = 0
    · subst hz; exact List.nil_prefix
    · obtain ⟨k, rfl⟩ : ∃ k, i = k + 1 := ⟨i - 1, by omega⟩
      simp only [Nat.add_sub_cancel] at h0
      rw [gapsTo_one h0]
      exact edge_prefix _ k (Nat.le_refl _) (by omega) (.inr h0)
  · exact edge_prefix _ i (Nat.le_refl _) hi (.inr h0)
  · subst h0; exact List.prefix_refl _
theorem prefix_at {α : Type} {P L : List α} {x : α} (h : P ++ [x] <+: L) : L[P.length]? = some x := by
  obtain ⟨r, rfl⟩ := h
  simp
theorem spot_in {B : List Bool} {i : Nat} (h : Spot B i) (hb : B.getD i false = true) :
    (allL B)[(allTo B i).length]? = some i ∧ (∀ x, (gapsL B)[(gapsTo B i).length]? = some x → x.1 ≠ i) ∧ Spot B (i + 1) ∧ allTo B (i + 1) = allTo B i ++ [i] ∧ gapsTo B (i + 1) = gapsTo B i := by
  have hl := getD_lt hb
  have ha : allTo B (i + 1) = allTo B i ++ [i] := by rw [allTo_succ, if_pos hb]
  refine ⟨?_, ?_, ⟨by omega, .inr (.inl (by simpa using hb))⟩, ha, gapsTo_one hb⟩
  · apply prefix_at
    rw [← ha]
    exact allTo_prefix B (by omega)
  · intro x hx e
    have := (gaps_at hx).2
    rw [e, hb] at this; cases this
theorem all_rest (B : List Bool) {i : Nat} {j y : Nat} (hi : i ≤ B.length) (hj : (allTo B i).length ≤ j) (h : (allL B)[j]? = some y) : i ≤ y := by
  have e : allL B = allTo B i ++ ((List.range (B.length - i)).map (i + ·)).filter (fun j => B.getD j false) := by
    unfold allL allTo
    have e : B.length = i + (B.length - i) := by omega
    conv => lhs; rw [e, List.range_add, List.filter_append]
  rw [e, List.getElem?_append_right hj] at h
  have := List.mem_of_getElem? h
  simp only [List.mem_filter, List.mem_map] at this
  obtain ⟨⟨a, _, rfl⟩, _⟩ := this
  omega
theorem spot_out {B : List Bool} {i : Nat} (h : Spot B i) (hi : i < B.length) (hb : B.getD i false = false) : ∃ m, 1 ≤ m ∧ i + m ≤ B.length ∧ (gapsL B)[(gapsTo B i).length]? = some (i, m) ∧
    allTo B (i + m) = allTo B i ∧ gapsTo B (i + m) = gapsTo B i ++ [(i, m)] ∧ (∀ y, (allL B)[(allTo B i).length]? = some y → i + m ≤ y) ∧
    (∀ x, (gapsL B)[(gapsTo B i).length + 1]? = some x → x.1 ≠ i + m) ∧ Spot B (i + m) := by
  have h0 : i = 0 ∨ B.getD (i - 1) false = true := by
    obtain ⟨_, h | h | h | h⟩ := h
    · exact .inl h
    · exact .inr h
    · rw [hb] at h; cases h
    · omega
  have fin : ∀ m, 1 ≤ m → i + m ≤ B.length → (∀ j, i ≤ j → j < i + m → B.getD j false ≠ true) → (i + m = B.length ∨ B.getD (i + m) false = true) → ∃ m, 1 ≤ m ∧ i + m ≤ B.length ∧ (gapsL B)[(gapsTo B i).length]? = some (i, m) ∧
    allTo B (i + m) = allTo B i ∧ gapsTo B (i + m) = gapsTo B i ++ [(i, m)] ∧ (∀ y, (allL B)[(allTo B i).length]? = some y → i + m ≤ y) ∧
    (∀ x, (gapsL B)[(gapsTo B i).length + 1]? = some x → x.1 ≠ i + m) ∧ Spot B (i + m) := by
    intro m h1 h2 h3 h4
    have hsp : Spot B (i + m) := ⟨h2, by rcases h4 with h4 | h4; exact .inr (.inr (.inr h4)); exact .inr (.inr (.inl h4))⟩
    obtain ⟨d, rfl⟩ : ∃ d, m = d + 1 := ⟨m - 1, by omega⟩
    have hg := gapsTo_out h0 d h3
    have hall := allTo_skip (d + 1) h3
    refine ⟨d + 1, h1, h2, ?_, hall, hg, ?_, ?_, hsp⟩
    · apply prefix_at
      rw [← hg]; exact spot_prefix hsp
    · intro y hy
      exact all_rest B (i := i + (d + 1)) h2 (by rw [hall]; exact Nat.le_refl _) hy
    · intro x hx e
      have hx2 := gaps_at hx
      rw [e] at hx2
      rcases h4 with h4 | h4
      · omega
      · rw [h4] at hx2; cases hx2.2
  cases hs : seekO true B i with
  | none => exact fin (B.length - i) (by omega) (by omega) (fun j h1 h2 => seekO_none hs j h1 (by omega)) (.inl (by omega))
  | some e =>
    obtain ⟨b1, b2, b3, b4⟩ := seekO_some hs
    have ne : i ≠ e := fun h => by rw [h, b3] at hb; cases hb
    exact fin (e - i) (by omega) (by omega) (fun j h1 h2 => b4 j h1 (by omega)) (.inr (by rw [show i + (e - i) = e by omega]; exact b3))
theorem flatG_even : ∀ (L : List (Nat × Nat)) (j : Nat), (flatG L)[2 * j]? = (L[j]?).map fun x => ((x.1 : Nat) : Int)
  | [], j => by simp [flatG]
  | x :: L, 0 => by simp [flatG]
  | x :: L, j + 1 => by
    have := flatG_even L j
    have e : 2 * (j + 1) = 2 * j + 1 + 1 := by omega
    rw [e]
    simp only [flatG, List.flatMap_cons, List.cons_append, List.nil_append, List.getElem?_cons_succ] at this ⊢
    exact this
theorem flatG_odd : ∀ (L : List (Nat × Nat)) (j : Nat), (flatG L)[2 * j + 1]? = (L[j]?).map fun x => ((x.2 : Nat) : Int)
  | [], j => by simp [flatG]
  | x :: L, 0 => by simp [flatG]
  | x :: L, j + 1 => by
    have := flatG_odd L j
    have e : 2 * (j + 1) + 1 = 2 * j + 1 + 1 + 1 := by omega
    rw [e]
    simp only [flatG, List.flatMap_cons, List.cons_append, List.nil_append, List.getElem?_cons_succ] at this ⊢
    exact this
end Go.Proofs.YtbfkmogibgchmaaDoor.Bt
