/- The contract of Pick. Conditions: x fits an int, n is from 1 to 2^40. -/
import Derived.Test.YthckfbfenfkdiaaDoorMore
import Derived.Test.YthckfbfenfkdiaaDoorProg
namespace Go.Proofs.YthckfbfenfkdiaaDoor
open Go.RowKit
theorem pick_ok (x n : Int) (w : World) (_hx : -9223372036854775808 ≤ x) (_hx2 : x ≤ 9223372036854775807) (hn : 1 ≤ n) (hn2 : n ≤ 1099511627776) :
    Calls Tryd.prog 14 #[.int .i64 x, .int .i64 n] w fun e w' => e = .returned (.int .i64 (x % n)) ∧ w = w' := by
  have e1 : ((n : Int) < 1) = False := by simp; omega
  by_cases h : 0 ≤ x
  · have ht : x.tmod n = x % n := Int.tmod_eq_emod_of_nonneg h
    have h0 := Int.emod_nonneg x (by omega : n ≠ 0)
    have h1 := Int.emod_lt_of_pos x (by omega : 0 < n)
    obtain ⟨y, hy⟩ : ∃ y, y = x % n := ⟨_, rfl⟩
    rw [← hy] at ht h0 h1 ⊢
    have hne : (n == 0) = false := by simp; omega
    clear hy
    go_enter Tryd.func14, Tryd.ntmps14
    go_wp2
    go_ret
    exact ⟨rfl, rfl⟩
  · have hb := Int.tmod_eq_emod (a := x) (b := n)
    have h0 := Int.emod_nonneg x (by omega : n ≠ 0)
    have h1 := Int.emod_lt_of_pos x (by omega : 0 < n)
    have hne : (n == 0) = false := by simp; omega
    by_cases hd : n ∣ x
    · have e2 : x % n = 0 := Int.emod_eq_zero_of_dvd hd
      have e3 : x.tmod n = 0 := by rw [hb, if_pos (.inr hd), e2]; rfl
      rw [e2]
      clear h0 h1 e2 hb h
      go_enter Tryd.func14, Tryd.ntmps14
      go_wp2
      go_ret
      exact ⟨rfl, rfl⟩
    · obtain ⟨y, hy⟩ : ∃ y, y = x % n := ⟨_, rfl⟩
      have e3 : x.tmod n = y - n := by rw [hb, if_neg (by rintro (h' | h') <;> contradiction), hy]; omega
      rw [← hy] at h0 h1 ⊢
      clear hy hb h hd
      go_enter Tryd.func14, Tryd.ntmps14
      go_wp2
      go_ret
      exact ⟨by go_num, rfl⟩
end Go.Proofs.YthckfbfenfkdiaaDoor
