/- The index layer, plain: the lists of IndexNumbers. No condition. -/
import Derived.Test.YtoehdpfcnpdhnaaIxU
namespace Go.Proofs.Ytoehdpfcnpdhnaa.Ix
def itN (j : Nat) : Nat × Int := (j * 65537, (j : Int))
/-- The items of those numbers below n that p lets stay. -/
def Lp (n : Nat) (p : Nat → Bool) : List (Nat × Int) := ((List.range n).filter p).map itN
theorem mem_Lp {n : Nat} {p : Nat → Bool} {x : Nat × Int} : x ∈ Lp n p ↔ ∃ j, j < n ∧ p j = true ∧ x = itN j := by
  unfold Lp
  rw [List.mem_map]
  constructor
  · rintro ⟨j, hj, rfl⟩
    obtain ⟨h1, h2⟩ := List.mem_filter.1 hj
    exact ⟨j, List.mem_range.1 h1, h2, rfl⟩
  · rintro ⟨j, h1, h2, rfl⟩
    exact ⟨j, List.mem_filter.2 ⟨List.mem_range.2 h1, h2⟩, rfl⟩
theorem Lp_up (n : Nat) (p : Nat → Bool) : (Lp n p).Pairwise fun a b => a.1 < b.1 := by
  unfold Lp
  rw [List.pairwise_map]
  refine (List.Pairwise.filter p List.pairwise_lt_range).imp ?_
  intro a b h
  show a * 65537 < b * 65537
  omega
theorem look_Lp {n : Nat} {p : Nat → Bool} {j : Nat} (h : j < n) (hp : p j = true) : look (Lp n p) (j * 65537) = some (j : Int) := by
  rw [look_of (Lp_up n p), mem_Lp]
  exact ⟨j, h, hp, rfl⟩
theorem look_Lp_none {n : Nat} {p : Nat → Bool} {id : Nat} (h : ∀ j, j < n → p j = true → j * 65537 ≠ id) : look (Lp n p) id = none := by
  rw [look_none]
  intro x hx
  obtain ⟨j, h1, h2, rfl⟩ := mem_Lp.1 hx
  exact h j h1 h2
def allT (_ : Nat) : Bool := true
theorem Lp_zero : Lp 0 allT = [] := rfl
theorem Lp_len (n : Nat) : (Lp n allT).length = n := by
  unfold Lp
  have e : (List.range n).filter allT = List.range n := List.filter_eq_self.2 (fun _ _ => rfl)
  rw [e, List.length_map, List.length_range]
theorem Lp_ins (n : Nat) : ins (Lp n allT) (n * 65537) (n : Int) = Lp (n + 1) allT := by
  rw [ins_last]
  · unfold Lp
    rw [List.range_succ, List.filter_append, List.map_append]; rfl
  · intro x hx
    obtain ⟨j, h1, _, rfl⟩ := mem_Lp.1 hx
    show j * 65537 < n * 65537
    omega
def stay (k : Nat) (j : Nat) : Bool := !(decide (j % 2 = 0) && decide (j < k))
theorem stay_zero : stay 0 = allT := by
  funext j; simp [stay, allT]
theorem stay_iff {k j : Nat} : stay k j = true ↔ (j % 2 = 1 ∨ k ≤ j) := by
  unfold stay
  by_cases c : j % 2 = 0 <;> by_cases d : j < k <;> simp [c, d] <;> omega
theorem Lp_del {n k : Nat} (hk : k % 2 = 0) : del (Lp n (stay k)) (k * 65537) = Lp n (stay (k + 2)) := by
  unfold del Lp
  rw [List.filter_map, List.filter_filter]
  congr 1
  apply List.filter_congr
  intro j _
  rw [Bool.eq_iff_iff, Bool.and_eq_true, stay_iff, stay_iff]
  constructor
  · rintro ⟨h1, h2⟩
    have h3 : j * 65537 ≠ k * 65537 := of_decide_eq_true h1
    omega
  · intro h
    exact ⟨decide_eq_true (show j * 65537 ≠ k * 65537 by omega), by omega⟩
theorem Lp_half : (Lp 4096 (stay 4096)).length = 2048 := by
  unfold Lp
  rw [List.length_map]
  decide +kernel
theorem putE_at {n : Nat} (h : n < 4096) : putE (Lp n allT) 4096 (n * 65537) = 0 := by
  unfold putE
  rw [look_Lp_none (fun j h1 _ => by omega), Lp_len, if_neg (by simp), if_neg (by omega)]
theorem putL_at {n : Nat} (h : n < 4096) : putL (Lp n allT) 4096 (n * 65537) (n : Int) = Lp (n + 1) allT := by
  unfold putL; rw [if_pos (putE_at h), Lp_ins]
theorem one_none (p : Nat → Bool) (n : Nat) : look (Lp n p) 1 = none := look_Lp_none (fun j _ _ => by omega)
theorem put_full : putE (Lp 4096 allT) 4096 1 = 6 := by
  unfold putE; rw [one_none, Lp_len, if_neg (by simp), if_pos rfl]
theorem put_there : putE (Lp 4096 allT) 4096 65537 = 7 := by
  unfold putE; rw [show look (Lp 4096 allT) 65537 = some 1 from look_Lp (j := 1) (by omega) rfl]; rfl
theorem put_again : putE (Lp 4096 (stay 4096)) 4096 1 = 0 := by
  unfold putE; rw [one_none, Lp_half, if_neg (by simp), if_neg (by omega)]
theorem look_odd {j : Nat} (h : j < 4096) : look (Lp 4096 (stay 4096)) (j * 65537) = if j % 2 = 1 then some (j : Int) else none := by
  by_cases c : j % 2 = 1
  · rw [if_pos c]; exact look_Lp h (by unfold stay; simp; omega)
  · rw [if_neg c]
    refine look_Lp_none (fun i h1 h2 e => ?_)
    obtain rfl : i = j := by omega
    unfold stay at h2
    simp at h2
    omega
end Go.Proofs.Ytoehdpfcnpdhnaa.Ix
