/- The kit's marks; bytes that are lent. Condition: sizes within the reach. -/
import Derived.Test.YtbfkmogibgchmaaDoorBofC
namespace Go.Proofs.YtbfkmogibgchmaaDoor.Bt
open Go.RowKit
def mkB (k i : Nat) : Nat := (1000003 * (k + 7) + i) * 11400714819323198485 % 18446744073709551616 / 72057594037927936
theorem mkB_lt (k i : Nat) : mkB k i < 256 := by unfold mkB; omega
set_option maxRecDepth 100000 in
theorem markByte_ok (w : World) (k i : Nat) (hk : k ≤ 1000) (hi : i ≤ 1000000000000000) : Calls Tryd.prog 48 #[.int .i64 k, .int .i64 i] w fun e w' => e = .returned (.int .u8 (mkB k i)) ∧ w = w' := by
  obtain ⟨q, hq⟩ : ∃ q, q = 1000003 * (k + 7) + i := ⟨_, rfl⟩
  have h1 : IntKind.i64.wrap (1000003 * ((k : Int) + 7) + (i : Int)) = (q : Int) := by rw [IntKind.wrap_i64]; omega
  have h1' : wrap64 (1000003 * ((k : Int) + 7) + (i : Int)) = (q : Int) := by unfold wrap64; omega
  have h1'' : (1000003 : Int) * ((k : Int) + 7) + (i : Int) = (q : Int) := by omega
  have h2 : IntKind.u64.wrap (q : Int) = (q : Int) := by rw [IntKind.wrap_u64]; omega
  obtain ⟨p, hp⟩ : ∃ p, p = q * 11400714819323198485 % 18446744073709551616 := ⟨_, rfl⟩
  have h3 : IntKind.u64.wrap ((q : Int) * 11400714819323198485) = (p : Int) := by rw [IntKind.wrap_u64]; omega
  have h4 : IntKind.u8.wrap ((p : Int) / 72057594037927936) = (mkB k i : Int) := by
    rw [IntKind.wrap_u8]; unfold mkB; rw [← hq, ← hp]; omega
  have k0 : (k : Int) ≤ 1000 := by omega
  have i0 : (i : Int) ≤ 1000000000000000 := by omega
  clear hq hp
  go_enter Tryd.func48, Tryd.ntmps48
  go_wp2
  go_ret
  exact ⟨rfl, rfl⟩
/-- What markByte tells, by some function. -/
structure MarksB (mk : Nat → Nat → Nat) : Prop where
  lt : ∀ k i, mk k i < 256
  ok : ∀ (w : World) (k i : Nat), k ≤ 1000 → i ≤ 1000000000000000 → Calls Tryd.prog 48 #[.int .i64 k, .int .i64 i] w fun e w' => e = .returned (.int .u8 (mk k i)) ∧ w = w'
theorem marksB : ∃ mk, MarksB mk := ⟨mkB, mkB_lt, markByte_ok⟩
end Go.Proofs.YtbfkmogibgchmaaDoor.Bt
