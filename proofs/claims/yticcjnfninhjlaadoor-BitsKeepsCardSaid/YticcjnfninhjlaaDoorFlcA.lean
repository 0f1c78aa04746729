/- The marks of bytes; flatBytes' first loop. No condition. -/
import Derived.Test.YticcjnfninhjlaaDoorFlatB
import Derived.Test.YticcjnfninhjlaaDoorMore
import Derived.Test.YticcjnfninhjlaaDoorProg
import Derived.Lib.Hide
import Derived.Laws.ShiftsVarLaws
namespace Go.Proofs.YticcjnfninhjlaaDoor
open Go.RowKit
set_option maxRecDepth 100000 in
theorem mark_ok {k i : Nat} (hk : k ≤ 1000) (hi : i ≤ 1000000) (w : World) : Calls Tryd.prog 78 #[.int .i64 k, .int .i64 i] w fun e w' => e = .returned (.int .i64 (1000003 * ((k : Int) + 7) + i)) ∧ w = w' := by
  have a1 : wrap64 ((k : Int) + 7) = (k : Int) + 7 := by unfold wrap64; omega
  have a2 : wrap64 (1000003 * ((k : Int) + 7)) = 1000003 * ((k : Int) + 7) := by unfold wrap64; omega
  have a3 : wrap64 (1000003 * ((k : Int) + 7) + i) = 1000003 * ((k : Int) + 7) + i := by unfold wrap64; omega
  go_enter Tryd.func78, Tryd.ntmps78
  go_wp2_with fail
  go_ret
  refine ⟨?_, rfl⟩
  first | rfl | (simp [a1, a2, a3]; done) | (rw [a1, a2, a3]) | skip
set_option maxRecDepth 100000 in
theorem markByte_ex {k i : Nat} (hk : k ≤ 1000) (hi : i ≤ 1000000) : ∃ x : Int, ∀ w : World, Calls Tryd.prog 80 #[.int .i64 k, .int .i64 i] w fun e w' => e = .returned (.int .u8 x) ∧ w = w' := by
  apply Exists.intro
  intro w
  have HM := Lib.hid (mark_ok hk hi)
  go_enter Tryd.func80, Tryd.ntmps80
  go_wp2_with fail
  refine (HM.out _).mono ?_
  rintro e w1 ⟨rfl, rfl⟩
  go_wp2_with fail
  go_ret
  exact ⟨rfl, rfl⟩
end Go.Proofs.YticcjnfninhjlaaDoor
