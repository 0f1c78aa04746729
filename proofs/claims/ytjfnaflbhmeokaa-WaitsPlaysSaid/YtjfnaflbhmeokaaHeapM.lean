/- A heap of numbers, plainly: its items in a list, what the exchanges make of them. No condition. -/
import Derived.Test.YtjfnaflbhmeokaaLib
namespace Go.Proofs.Ytjfnaflbhmeokaa
abbrev It := Int × Int
def aheadB (lt : Int → Int → Bool) (xv xh yv yh : Int) : Bool := lt xv yv || (!lt yv xv && decide (xh < yh))
def itAt (L : List It) (i : Nat) : It := L.getD i (0, 0)
def aheadL (lt : Int → Int → Bool) (L : List It) (i k : Nat) : Bool := aheadB lt (itAt L i).1 (itAt L i).2 (itAt L k).1 (itAt L k).2
def swapL (L : List It) (i k : Nat) : List It := (L.set i (itAt L k)).set k (itAt L i)
theorem swapL_length (L : List It) (i k : Nat) : (swapL L i k).length = L.length := by simp [swapL]
/-- The way up. -/
def upF (lt : Int → Int → Bool) : Nat → List It → Nat → List It × Nat
  | 0, L, at_ => (L, at_)
  | fuel + 1, L, at_ => if at_ > 0 && aheadL lt L at_ ((at_ - 1) / 2) then upF lt fuel (swapL L at_ ((at_ - 1) / 2)) ((at_ - 1) / 2) else (L, at_)
/-- Which of the item at a place and the first j of its two children is ahead of the others. -/
def lstF (lt : Int → Int → Bool) (L : List It) (at_ : Nat) : Nat → Nat
  | 0 => at_
  | j + 1 => if 2 * at_ + 1 + j < L.length && aheadL lt L (2 * at_ + 1 + j) (lstF lt L at_ j) then 2 * at_ + 1 + j else lstF lt L at_ j
def downF (lt : Int → Int → Bool) : Nat → List It → Nat → List It
  | 0, L, _ => L
  | fuel + 1, L, at_ => if lstF lt L at_ 2 = at_ then L else downF lt fuel (swapL L at_ (lstF lt L at_ 2)) (lstF lt L at_ 2)
def settleF (lt : Int → Int → Bool) (L : List It) (at_ : Nat) : List It :=
  downF lt (L.length - (upF lt at_ L at_).2) (upF lt at_ L at_).1 (upF lt at_ L at_).2
theorem upF_stop {lt : Int → Int → Bool} {L : List It} {n : Nat} (h : (decide (n > 0) && aheadL lt L n ((n - 1) / 2)) = false) : upF lt n L n = (L, n) := by
  cases n with
  | zero => rfl
  | succ n => simp only [upF]; rw [if_neg (by rw [h]; simp)]
/-- More fuel than the place changes nothing. -/
theorem upF_fuel (lt : Int → Int → Bool) : ∀ (a b : Nat) (L : List It) (n : Nat), n ≤ a → n ≤ b → upF lt a L n = upF lt b L n := by
  intro a
  induction a with
  | zero =>
    intro b L n ha hb
    have : n = 0 := by omega
    subst this
    cases b <;> simp [upF]
  | succ a ih =>
    intro b L n ha hb
    cases b with
    | zero => have : n = 0 := by omega
              subst this; simp [upF]
    | succ b =>
      simp only [upF]
      split
      · rename_i h
        have : n > 0 := by simp at h; exact h.1
        exact ih b _ _ (by omega) (by omega)
      · rfl
theorem upF_go {lt : Int → Int → Bool} {L : List It} {n : Nat} (h0 : 0 < n) (h : aheadL lt L n ((n - 1) / 2) = true) : upF lt n L n = upF lt ((n - 1) / 2) (swapL L n ((n - 1) / 2)) ((n - 1) / 2) := by
  obtain ⟨m, rfl⟩ : ∃ m, n = m + 1 := ⟨n - 1, by omega⟩
  have e : upF lt (m + 1) L (m + 1) = upF lt m (swapL L (m + 1) ((m + 1 - 1) / 2)) ((m + 1 - 1) / 2) := by
    rw [upF, if_pos (by rw [h]; simp)]
  rw [e]
  exact upF_fuel lt _ _ _ _ (by omega) (by omega)
theorem downF_stop {lt : Int → Int → Bool} {L : List It} {n f : Nat} (h : lstF lt L n 2 = n) : downF lt f L n = L := by
  cases f with
  | zero => rfl
  | succ f => rw [downF, if_pos h]
theorem lstF_ge (lt : Int → Int → Bool) (L : List It) (n j : Nat) : n ≤ lstF lt L n j := by
  induction j with
  | zero => simp [lstF]
  | succ j ih => rw [lstF]; split <;> omega
theorem lstF_lt (lt : Int → Int → Bool) (L : List It) (n j : Nat) (hn : n < L.length) : lstF lt L n j < L.length := by
  induction j with
  | zero => simpa [lstF] using hn
  | succ j ih => rw [lstF]; split
                 · rename_i h; simp at h; exact h.1
                 · exact ih
theorem lstF_le (lt : Int → Int → Bool) (L : List It) (n j : Nat) : lstF lt L n j ≤ 2 * n + j := by
  induction j with
  | zero => simp [lstF]; omega
  | succ j ih => rw [lstF]; split <;> omega
theorem downF_fuel (lt : Int → Int → Bool) : ∀ (a b : Nat) (L : List It) (n : Nat), n < L.length → L.length - n ≤ a → L.length - n ≤ b → downF lt a L n = downF lt b L n := by
  intro a
  induction a with
  | zero => intro b L n h0 ha hb; omega
  | succ a ih =>
    intro b L n h0 ha hb
    cases b with
    | zero => omega
    | succ b =>
      simp only [downF]
      split
      · rfl
      · rename_i h
        have h1 := lstF_ge lt L n 2
        have h2 := lstF_lt lt L n 2 h0
        have h3 : n < lstF lt L n 2 := by omega
        exact ih b _ _ (by rw [swapL_length]; exact h2) (by rw [swapL_length]; omega) (by rw [swapL_length]; omega)
theorem downF_go {lt : Int → Int → Bool} {L : List It} {n : Nat} (h0 : n < L.length) (h : lstF lt L n 2 ≠ n) :
    downF lt (L.length - n) L n = downF lt ((swapL L n (lstF lt L n 2)).length - lstF lt L n 2) (swapL L n (lstF lt L n 2)) (lstF lt L n 2) := by
  obtain ⟨m, hm⟩ : ∃ m, L.length - n = m + 1 := ⟨L.length - n - 1, by omega⟩
  have h1 := lstF_ge lt L n 2
  have h2 := lstF_lt lt L n 2 h0
  rw [hm, downF, if_neg h]
  exact downF_fuel lt _ _ _ _ (by rw [swapL_length]; exact h2) (by rw [swapL_length]; omega) (by rw [swapL_length]; omega)
/-- The children at whose places nothing lies do not matter. -/
theorem lstF_past {lt : Int → Int → Bool} {L : List It} {n j : Nat} (h : L.length ≤ 2 * n + 1 + j) : lstF lt L n (j + 1) = lstF lt L n j := by
  rw [lstF, if_neg (by simp; omega)]
theorem lstF_step {lt : Int → Int → Bool} {L : List It} {n j : Nat} (h : 2 * n + 1 + j < L.length) : lstF lt L n (j + 1) = if aheadL lt L (2 * n + 1 + j) (lstF lt L n j) then 2 * n + 1 + j else lstF lt L n j := by
  rw [lstF]; simp [h]
/-- Row arr of cells has the items L. -/
def Cells2 (arr : Array Value) (L : List It) : Prop := ∀ i, i < L.length → arr[i * 2]? = some (.int .i64 (itAt L i).1) ∧ arr[i * 2 + 1]? = some (.int .i64 (itAt L i).2)
/-- f says where each handle's item lies. -/
structure PlaceOf (f : Int → Option Int) (L : List It) : Prop where
  here : ∀ n, n < L.length → f (itAt L n).2 = some (n : Int)
  gone : ∀ h, (∀ n, n < L.length → (itAt L n).2 ≠ h) → f h = none
theorem PlaceOf.inj {f : Int → Option Int} {L : List It} (h : PlaceOf f L) {n m : Nat} (hn : n < L.length) (hm : m < L.length) (e : (itAt L n).2 = (itAt L m).2) : n = m := by
  have h1 := h.here n hn
  rw [e, h.here m hm] at h1
  simp at h1; omega
theorem itAt_set (L : List It) (i n : Nat) (x : It) (hi : i < L.length) : itAt (L.set i x) n = if n = i then x else itAt L n := by
  unfold itAt
  simp only [List.getD_eq_getElem?_getD, List.getElem?_set]
  by_cases h : n = i
  · subst h; simp [hi]
  · rw [if_neg (fun e => h e.symm), if_neg h]
theorem itAt_swap {L : List It} {i k : Nat} (hi : i < L.length) (hk : k < L.length) (n : Nat) : itAt (swapL L i k) n = if n = k then itAt L i else if n = i then itAt L k else itAt L n := by
  unfold swapL
  rw [itAt_set _ _ _ _ (by simpa using hk), itAt_set _ _ _ _ hi]
theorem PlaceOf.swap {f : Int → Option Int} {L : List It} (h : PlaceOf f L) {i k : Nat} (hi : i < L.length) (hk : k < L.length) (hik : i ≠ k) :
    PlaceOf (fun j => if j = (itAt L i).2 then some (k : Int) else if j = (itAt L k).2 then some (i : Int) else f j) (swapL L i k) := by
  constructor
  · intro n hn
    rw [swapL_length] at hn
    rw [itAt_swap hi hk]
    by_cases h1 : n = k
    · subst h1; simp
    · rw [if_neg h1]
      by_cases h2 : n = i
      · subst h2
        rw [if_pos rfl]
        rw [if_neg (fun e => h1 (h.inj hk hi e).symm), if_pos rfl]
      · rw [if_neg h2]
        rw [if_neg (fun e => h2 (h.inj hn hi e)), if_neg (fun e => h1 (h.inj hn hk e))]
        exact h.here n hn
  · intro j hj
    have a1 := hj k (by rw [swapL_length]; exact hk)
    have a2 := hj i (by rw [swapL_length]; exact hi)
    rw [itAt_swap hi hk, if_pos rfl] at a1
    rw [itAt_swap hi hk, if_neg hik, if_pos rfl] at a2
    rw [if_neg (fun e => a1 e.symm), if_neg (fun e => a2 e.symm)]
    apply h.gone
    intro n hn
    have := hj n (by rw [swapL_length]; exact hn)
    rw [itAt_swap hi hk] at this
    by_cases h1 : n = k
    · subst h1; exact fun e => a2 e
    · by_cases h2 : n = i
      · subst h2; exact fun e => a1 e
      · rw [if_neg h1, if_neg h2] at this; exact this
end Go.Proofs.Ytjfnaflbhmeokaa
