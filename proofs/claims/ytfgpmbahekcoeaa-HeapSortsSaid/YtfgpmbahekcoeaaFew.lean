/- The contract of few. No condition. -/
import Derived.Test.YtfgpmbahekcoeaaArgs
import Derived.Test.YtfgpmbahekcoeaaProg
import Derived.Lib.Hide
namespace Go.Proofs.Ytfgpmbahekcoeaa
open Go.RowKit
/-- The first steps of a script. -/
theorem few_ok {v : Value} {K : Nat → Nat → Int} {n : Nat} (w w0 : World) (h : IntsAt w0 v 4 K n) :
    Calls Try.prog 17 #[v] w fun e w' => ∃ v', e = .returned v' ∧ IntsAt w0 v' 4 K (min n 300) ∧ w = w' := by
  obtain ⟨a, c, rfl, h1, h2, h3⟩ := id h
  have Hh := Lib.hid h
  have hc : n ≤ 9223372036854775807 := by unfold maxLen at h2; omega
  have hcc : (300 : Int) < (n : Int) → (300 : Int) ≤ (c : Int) := by omega
  clear h h3 h2
  by_cases hn : 300 < n
  · have hn' : (300 : Int) < (n : Int) := by omega
    have hc' : (300 : Int) ≤ (c : Int) := by omega
    clear hcc
    go_enter Try.func17, Try.ntmps17
    go_wp2
    go_ret
    exact ⟨_, rfl, by rw [Nat.min_eq_right (by omega)]; exact Hh.out.take (by omega), rfl⟩
  · have hn' : ¬ (300 : Int) < (n : Int) := by omega
    have Hn := Lib.hid hn
    clear hn
    go_enter Try.func17, Try.ntmps17
    go_wp2
    go_ret
    exact ⟨_, rfl, by rw [Nat.min_eq_left (by have := Hn.out; omega)]; exact Hh.out, rfl⟩
end Go.Proofs.Ytfgpmbahekcoeaa
