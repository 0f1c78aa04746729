/- The kit's looks at lists that lie apart, of no lists. No condition. -/
import Derived.Test.YticcjnfninhjlaaDoorBitP
namespace Go.Proofs.YticcjnfninhjlaaDoor.Bt
open Go.RowKit
theorem Tryd.info_flatLimbs : (Tryd.prog.info? 40).map (fun i => (i.zero, i.size, i.bytes)) = some (some (.slice none 0 0), 1, 24) := by kernel_rfl
set_option maxRecDepth 100000 in
set_option maxHeartbeats 1000000 in
theorem flatLimbs_nil (w : World) : Calls Tryd.prog 53 #[.slice none 0 0] w fun e w' => e = .returned (.bool true) ∧ Fr (fun _ => False) w w' := by
  obtain ⟨i0, hi, hz0, hz1, hz2⟩ := info_parts Tryd.info_flatLimbs
  have hmk := fun w0 => run_make (P := Tryd.prog) w0 75 40 i0 (.slice none 0 0) Tryd.underlying75 hi hz0 .i64 .i64 0 0 (by decide) (Int.le_refl _) (by simp) (by decide)
  simp only [Int.toNat_zero, Nat.zero_mul] at hmk
  clear hi hz0 hz1 hz2
  go_enter Tryd.func53, Tryd.ntmps53
  go_upto_block 0 with fail
  go_cut [3] (fun _ wx => Fr (fun _ => False) w wx)
  case first =>
    go_wp2_with fail
    go_loopw [3] (fun sv wr => sv = .int .i64 0 ∧ Fr (fun _ => False) w wr) (fun _ _ => 0)
    case atStart => exact ⟨rfl, by first | exact Fr.refl _ _ | exact HF.out | exact Fr.alloc HF.out _⟩
    case round =>
      obtain ⟨rfl, hfr⟩ := hrel
      have Hfr := Lib.hid hfr
      clear hfr
      go_wp2_with fail
      go_meet
      exact Hfr.out
  case rest =>
  have HF := Lib.hid hcut
  clear hcut
  go_upto_block 4 with fail
  go_cut [6] (fun _ wx => Fr (fun _ => False) w wx)
  case first =>
    go_wp2_with fail
    go_loopw [6] (fun sv wr => sv = .int .i64 0 ∧ Fr (fun _ => False) w wr) (fun _ _ => 0)
    case atStart => exact ⟨rfl, by first | exact Fr.refl _ _ | exact HF.out | exact Fr.alloc HF.out _⟩
    case round =>
      obtain ⟨rfl, hfr⟩ := hrel
      have Hfr := Lib.hid hfr
      clear hfr
      go_wp2_with fail
      go_meet
      exact Hfr.out
  case rest =>
  have HF := Lib.hid hcut
  clear hcut
  go_upto_block 8 with fail
  go_cut [9] (fun _ wx => Fr (fun _ => False) w wx)
  case first =>
    go_wp2_with fail
    go_loopw [9] (fun sv wr => sv = .int .i64 0 ∧ Fr (fun _ => False) w wr) (fun _ _ => 0)
    case atStart => exact ⟨rfl, by first | exact Fr.refl _ _ | exact HF.out | exact Fr.alloc HF.out _⟩
    case round =>
      obtain ⟨rfl, hfr⟩ := hrel
      have Hfr := Lib.hid hfr
      clear hfr
      go_wp2_with fail
      go_meet
      exact Hfr.out
  case rest =>
  have HF := Lib.hid hcut
  clear hcut
  go_upto_block 12 with fail
  go_cut [11] (fun _ wx => Fr (fun _ => False) w wx)
  case first =>
    go_wp2_with fail
    go_loopw [11] (fun sv wr => sv = .int .i64 0 ∧ Fr (fun _ => False) w wr) (fun _ _ => 0)
    case atStart => exact ⟨rfl, by first | exact Fr.refl _ _ | exact HF.out | exact Fr.alloc HF.out _⟩
    case round =>
      obtain ⟨rfl, hfr⟩ := hrel
      have Hfr := Lib.hid hfr
      clear hfr
      go_wp2_with fail
      go_meet
      exact Hfr.out
  case rest =>
  have HF := Lib.hid hcut
  clear hcut
  go_upto_block 16 with fail
  go_cut [14] (fun _ wx => Fr (fun _ => False) w wx)
  case first =>
    go_wp2_with fail
    go_loopw [14] (fun sv wr => sv = .int .i64 0 ∧ Fr (fun _ => False) w wr) (fun _ _ => 0)
    case atStart => exact ⟨rfl, by first | exact Fr.refl _ _ | exact HF.out | exact Fr.alloc HF.out _⟩
    case round =>
      obtain ⟨rfl, hfr⟩ := hrel
      have Hfr := Lib.hid hfr
      clear hfr
      go_wp2_with fail
      go_meet
      exact Hfr.out
  case rest =>
  have HF := Lib.hid hcut
  clear hcut
  go_wp2_with fail
  go_ret
  exact ⟨rfl, HF.out⟩
theorem Tryd.info_flatInts : (Tryd.prog.info? 22).map (fun i => (i.zero, i.size, i.bytes)) = some (some (.slice none 0 0), 1, 24) := by kernel_rfl
set_option maxRecDepth 100000 in
set_option maxHeartbeats 1000000 in
theorem flatInts_nil (w : World) : Calls Tryd.prog 54 #[.slice none 0 0] w fun e w' => e = .returned (.bool true) ∧ Fr (fun _ => False) w w' := by
  obtain ⟨i0, hi, hz0, hz1, hz2⟩ := info_parts Tryd.info_flatInts
  have hmk := fun w0 => run_make (P := Tryd.prog) w0 76 22 i0 (.slice none 0 0) Tryd.underlying76 hi hz0 .i64 .i64 0 0 (by decide) (Int.le_refl _) (by simp) (by decide)
  simp only [Int.toNat_zero, Nat.zero_mul] at hmk
  clear hi hz0 hz1 hz2
  go_enter Tryd.func54, Tryd.ntmps54
  go_upto_block 0 with fail
  go_cut [3] (fun _ wx => Fr (fun _ => False) w wx)
  case first =>
    go_wp2_with fail
    go_loopw [3] (fun sv wr => sv = .int .i64 0 ∧ Fr (fun _ => False) w wr) (fun _ _ => 0)
    case atStart => exact ⟨rfl, by first | exact Fr.refl _ _ | exact HF.out | exact Fr.alloc HF.out _⟩
    case round =>
      obtain ⟨rfl, hfr⟩ := hrel
      have Hfr := Lib.hid hfr
      clear hfr
      go_wp2_with fail
      go_meet
      exact Hfr.out
  case rest =>
  have HF := Lib.hid hcut
  clear hcut
  go_upto_block 4 with fail
  go_cut [6] (fun _ wx => Fr (fun _ => False) w wx)
  case first =>
    go_wp2_with fail
    go_loopw [6] (fun sv wr => sv = .int .i64 0 ∧ Fr (fun _ => False) w wr) (fun _ _ => 0)
    case atStart => exact ⟨rfl, by first | exact Fr.refl _ _ | exact HF.out | exact Fr.alloc HF.out _⟩
    case round =>
      obtain ⟨rfl, hfr⟩ := hrel
      have Hfr := Lib.hid hfr
      clear hfr
      go_wp2_with fail
      go_meet
      exact Hfr.out
  case rest =>
  have HF := Lib.hid hcut
  clear hcut
  go_upto_block 8 with fail
  go_cut [9] (fun _ wx => Fr (fun _ => False) w wx)
  case first =>
    go_wp2_with fail
    go_loopw [9] (fun sv wr => sv = .int .i64 0 ∧ Fr (fun _ => False) w wr) (fun _ _ => 0)
    case atStart => exact ⟨rfl, by first | exact Fr.refl _ _ | exact HF.out | exact Fr.alloc HF.out _⟩
    case round =>
      obtain ⟨rfl, hfr⟩ := hrel
      have Hfr := Lib.hid hfr
      clear hfr
      go_wp2_with fail
      go_meet
      exact Hfr.out
  case rest =>
  have HF := Lib.hid hcut
  clear hcut
  go_upto_block 12 with fail
  go_cut [11] (fun _ wx => Fr (fun _ => False) w wx)
  case first =>
    go_wp2_with fail
    go_loopw [11] (fun sv wr => sv = .int .i64 0 ∧ Fr (fun _ => False) w wr) (fun _ _ => 0)
    case atStart => exact ⟨rfl, by first | exact Fr.refl _ _ | exact HF.out | exact Fr.alloc HF.out _⟩
    case round =>
      obtain ⟨rfl, hfr⟩ := hrel
      have Hfr := Lib.hid hfr
      clear hfr
      go_wp2_with fail
      go_meet
      exact Hfr.out
  case rest =>
  have HF := Lib.hid hcut
  clear hcut
  go_upto_block 16 with fail
  go_cut [14] (fun _ wx => Fr (fun _ => False) w wx)
  case first =>
    go_wp2_with fail
    go_loopw [14] (fun sv wr => sv = .int .i64 0 ∧ Fr (fun _ => False) w wr) (fun _ _ => 0)
    case atStart => exact ⟨rfl, by first | exact Fr.refl _ _ | exact HF.out | exact Fr.alloc HF.out _⟩
    case round =>
      obtain ⟨rfl, hfr⟩ := hrel
      have Hfr := Lib.hid hfr
      clear hfr
      go_wp2_with fail
      go_meet
      exact Hfr.out
  case rest =>
  have HF := Lib.hid hcut
  clear hcut
  go_wp2_with fail
  go_ret
  exact ⟨rfl, HF.out⟩
theorem Tryd.info_flatLongs : (Tryd.prog.info? 140).map (fun i => (i.zero, i.size, i.bytes)) = some (some (.slice none 0 0), 1, 24) := by kernel_rfl
set_option maxRecDepth 100000 in
set_option maxHeartbeats 1000000 in
theorem flatLongs_nil (w : World) : Calls Tryd.prog 55 #[.slice none 0 0] w fun e w' => e = .returned (.bool true) ∧ Fr (fun _ => False) w w' := by
  obtain ⟨i0, hi, hz0, hz1, hz2⟩ := info_parts Tryd.info_flatLongs
  have hmk := fun w0 => run_make (P := Tryd.prog) w0 77 140 i0 (.slice none 0 0) Tryd.underlying77 hi hz0 .i64 .i64 0 0 (by decide) (Int.le_refl _) (by simp) (by decide)
  simp only [Int.toNat_zero, Nat.zero_mul] at hmk
  clear hi hz0 hz1 hz2
  go_enter Tryd.func55, Tryd.ntmps55
  go_upto_block 0 with fail
  go_cut [3] (fun _ wx => Fr (fun _ => False) w wx)
  case first =>
    go_wp2_with fail
    go_loopw [3] (fun sv wr => sv = .int .i64 0 ∧ Fr (fun _ => False) w wr) (fun _ _ => 0)
    case atStart => exact ⟨rfl, by first | exact Fr.refl _ _ | exact HF.out | exact Fr.alloc HF.out _⟩
    case round =>
      obtain ⟨rfl, hfr⟩ := hrel
      have Hfr := Lib.hid hfr
      clear hfr
      go_wp2_with fail
      go_meet
      exact Hfr.out
  case rest =>
  have HF := Lib.hid hcut
  clear hcut
  go_upto_block 4 with fail
  go_cut [6] (fun _ wx => Fr (fun _ => False) w wx)
  case first =>
    go_wp2_with fail
    go_loopw [6] (fun sv wr => sv = .int .i64 0 ∧ Fr (fun _ => False) w wr) (fun _ _ => 0)
    case atStart => exact ⟨rfl, by first | exact Fr.refl _ _ | exact HF.out | exact Fr.alloc HF.out _⟩
    case round =>
      obtain ⟨rfl, hfr⟩ := hrel
      have Hfr := Lib.hid hfr
      clear hfr
      go_wp2_with fail
      go_meet
      exact Hfr.out
  case rest =>
  have HF := Lib.hid hcut
  clear hcut
  go_upto_block 8 with fail
  go_cut [9] (fun _ wx => Fr (fun _ => False) w wx)
  case first =>
    go_wp2_with fail
    go_loopw [9] (fun sv wr => sv = .int .i64 0 ∧ Fr (fun _ => False) w wr) (fun _ _ => 0)
    case atStart => exact ⟨rfl, by first | exact Fr.refl _ _ | exact HF.out | exact Fr.alloc HF.out _⟩
    case round =>
      obtain ⟨rfl, hfr⟩ := hrel
      have Hfr := Lib.hid hfr
      clear hfr
      go_wp2_with fail
      go_meet
      exact Hfr.out
  case rest =>
  have HF := Lib.hid hcut
  clear hcut
  go_upto_block 12 with fail
  go_cut [11] (fun _ wx => Fr (fun _ => False) w wx)
  case first =>
    go_wp2_with fail
    go_loopw [11] (fun sv wr => sv = .int .i64 0 ∧ Fr (fun _ => False) w wr) (fun _ _ => 0)
    case atStart => exact ⟨rfl, by first | exact Fr.refl _ _ | exact HF.out | exact Fr.alloc HF.out _⟩
    case round =>
      obtain ⟨rfl, hfr⟩ := hrel
      have Hfr := Lib.hid hfr
      clear hfr
      go_wp2_with fail
      go_meet
      exact Hfr.out
  case rest =>
  have HF := Lib.hid hcut
  clear hcut
  go_upto_block 16 with fail
  go_cut [14] (fun _ wx => Fr (fun _ => False) w wx)
  case first =>
    go_wp2_with fail
    go_loopw [14] (fun sv wr => sv = .int .i64 0 ∧ Fr (fun _ => False) w wr) (fun _ _ => 0)
    case atStart => exact ⟨rfl, by first | exact Fr.refl _ _ | exact HF.out | exact Fr.alloc HF.out _⟩
    case round =>
      obtain ⟨rfl, hfr⟩ := hrel
      have Hfr := Lib.hid hfr
      clear hfr
      go_wp2_with fail
      go_meet
      exact Hfr.out
  case rest =>
  have HF := Lib.hid hcut
  clear hcut
  go_wp2_with fail
  go_ret
  exact ⟨rfl, HF.out⟩
theorem Tryd.info_flatTexts : (Tryd.prog.info? 141).map (fun i => (i.zero, i.size, i.bytes)) = some (some (.slice none 0 0), 1, 24) := by kernel_rfl
set_option maxRecDepth 100000 in
set_option maxHeartbeats 1000000 in
theorem flatTexts_nil (w : World) : Calls Tryd.prog 56 #[.slice none 0 0] w fun e w' => e = .returned (.bool true) ∧ Fr (fun _ => False) w w' := by
  obtain ⟨i0, hi, hz0, hz1, hz2⟩ := info_parts Tryd.info_flatTexts
  have hmk := fun w0 => run_make (P := Tryd.prog) w0 78 141 i0 (.slice none 0 0) Tryd.underlying78 hi hz0 .i64 .i64 0 0 (by decide) (Int.le_refl _) (by simp) (by decide)
  simp only [Int.toNat_zero, Nat.zero_mul] at hmk
  clear hi hz0 hz1 hz2
  go_enter Tryd.func56, Tryd.ntmps56
  go_upto_block 0 with fail
  go_cut [3] (fun _ wx => Fr (fun _ => False) w wx)
  case first =>
    go_wp2_with fail
    go_loopw [3] (fun sv wr => sv = .int .i64 0 ∧ Fr (fun _ => False) w wr) (fun _ _ => 0)
    case atStart => exact ⟨rfl, by first | exact Fr.refl _ _ | exact HF.out | exact Fr.alloc HF.out _⟩
    case round =>
      obtain ⟨rfl, hfr⟩ := hrel
      have Hfr := Lib.hid hfr
      clear hfr
      go_wp2_with fail
      go_meet
      exact Hfr.out
  case rest =>
  have HF := Lib.hid hcut
  clear hcut
  go_upto_block 4 with fail
  go_cut [6] (fun _ wx => Fr (fun _ => False) w wx)
  case first =>
    go_wp2_with fail
    go_loopw [6] (fun sv wr => sv = .int .i64 0 ∧ Fr (fun _ => False) w wr) (fun _ _ => 0)
    case atStart => exact ⟨rfl, by first | exact Fr.refl _ _ | exact HF.out | exact Fr.alloc HF.out _⟩
    case round =>
      obtain ⟨rfl, hfr⟩ := hrel
      have Hfr := Lib.hid hfr
      clear hfr
      go_wp2_with fail
      go_meet
      exact Hfr.out
  case rest =>
  have HF := Lib.hid hcut
  clear hcut
  go_upto_block 8 with fail
  go_cut [9] (fun _ wx => Fr (fun _ => False) w wx)
  case first =>
    go_wp2_with fail
    go_loopw [9] (fun sv wr => sv = .int .i64 0 ∧ Fr (fun _ => False) w wr) (fun _ _ => 0)
    case atStart => exact ⟨rfl, by first | exact Fr.refl _ _ | exact HF.out | exact Fr.alloc HF.out _⟩
    case round =>
      obtain ⟨rfl, hfr⟩ := hrel
      have Hfr := Lib.hid hfr
      clear hfr
      go_wp2_with fail
      go_meet
      exact Hfr.out
  case rest =>
  have HF := Lib.hid hcut
  clear hcut
  go_upto_block 12 with fail
  go_cut [11] (fun _ wx => Fr (fun _ => False) w wx)
  case first =>
    go_wp2_with fail
    go_loopw [11] (fun sv wr => sv = .int .i64 0 ∧ Fr (fun _ => False) w wr) (fun _ _ => 0)
    case atStart => exact ⟨rfl, by first | exact Fr.refl _ _ | exact HF.out | exact Fr.alloc HF.out _⟩
    case round =>
      obtain ⟨rfl, hfr⟩ := hrel
      have Hfr := Lib.hid hfr
      clear hfr
      go_wp2_with fail
      go_meet
      exact Hfr.out
  case rest =>
  have HF := Lib.hid hcut
  clear hcut
  go_upto_block 16 with fail
  go_cut [14] (fun _ wx => Fr (fun _ => False) w wx)
  case first =>
    go_wp2_with fail
    go_loopw [14] (fun sv wr => sv = .int .i64 0 ∧ Fr (fun _ => False) w wr) (fun _ _ => 0)
    case atStart => exact ⟨rfl, by first | exact Fr.refl _ _ | exact HF.out | exact Fr.alloc HF.out _⟩
    case round =>
      obtain ⟨rfl, hfr⟩ := hrel
      have Hfr := Lib.hid hfr
      clear hfr
      go_wp2_with fail
      go_meet
      exact Hfr.out
  case rest =>
  have HF := Lib.hid hcut
  clear hcut
  go_wp2_with fail
  go_ret
  exact ⟨rfl, HF.out⟩
theorem Tryd.info_flatReals : (Tryd.prog.info? 144).map (fun i => (i.zero, i.size, i.bytes)) = some (some (.slice none 0 0), 1, 24) := by kernel_rfl
set_option maxRecDepth 100000 in
set_option maxHeartbeats 1000000 in
theorem flatReals_nil (w : World) : Calls Tryd.prog 58 #[.slice none 0 0] w fun e w' => e = .returned (.bool true) ∧ Fr (fun _ => False) w w' := by
  obtain ⟨i0, hi, hz0, hz1, hz2⟩ := info_parts Tryd.info_flatReals
  have hmk := fun w0 => run_make (P := Tryd.prog) w0 79 144 i0 (.slice none 0 0) Tryd.underlying79 hi hz0 .i64 .i64 0 0 (by decide) (Int.le_refl _) (by simp) (by decide)
  simp only [Int.toNat_zero, Nat.zero_mul] at hmk
  clear hi hz0 hz1 hz2
  go_enter Tryd.func58, Tryd.ntmps58
  go_upto_block 0 with fail
  go_cut [3] (fun _ wx => Fr (fun _ => False) w wx)
  case first =>
    go_wp2_with fail
    go_loopw [3] (fun sv wr => sv = .int .i64 0 ∧ Fr (fun _ => False) w wr) (fun _ _ => 0)
    case atStart => exact ⟨rfl, by first | exact Fr.refl _ _ | exact HF.out | exact Fr.alloc HF.out _⟩
    case round =>
      obtain ⟨rfl, hfr⟩ := hrel
      have Hfr := Lib.hid hfr
      clear hfr
      go_wp2_with fail
      go_meet
      exact Hfr.out
  case rest =>
  have HF := Lib.hid hcut
  clear hcut
  go_upto_block 4 with fail
  go_cut [6] (fun _ wx => Fr (fun _ => False) w wx)
  case first =>
    go_wp2_with fail
    go_loopw [6] (fun sv wr => sv = .int .i64 0 ∧ Fr (fun _ => False) w wr) (fun _ _ => 0)
    case atStart => exact ⟨rfl, by first | exact Fr.refl _ _ | exact HF.out | exact Fr.alloc HF.out _⟩
    case round =>
      obtain ⟨rfl, hfr⟩ := hrel
      have Hfr := Lib.hid hfr
      clear hfr
      go_wp2_with fail
      go_meet
      exact Hfr.out
  case rest =>
  have HF := Lib.hid hcut
  clear hcut
  go_upto_block 8 with fail
  go_cut [9] (fun _ wx => Fr (fun _ => False) w wx)
  case first =>
    go_wp2_with fail
    go_loopw [9] (fun sv wr => sv = .int .i64 0 ∧ Fr (fun _ => False) w wr) (fun _ _ => 0)
    case atStart => exact ⟨rfl, by first | exact Fr.refl _ _ | exact HF.out | exact Fr.alloc HF.out _⟩
    case round =>
      obtain ⟨rfl, hfr⟩ := hrel
      have Hfr := Lib.hid hfr
      clear hfr
      go_wp2_with fail
      go_meet
      exact Hfr.out
  case rest =>
  have HF := Lib.hid hcut
  clear hcut
  go_upto_block 12 with fail
  go_cut [11] (fun _ wx => Fr (fun _ => False) w wx)
  case first =>
    go_wp2_with fail
    go_loopw [11] (fun sv wr => sv = .int .i64 0 ∧ Fr (fun _ => False) w wr) (fun _ _ => 0)
    case atStart => exact ⟨rfl, by first | exact Fr.refl _ _ | exact HF.out | exact Fr.alloc HF.out _⟩
    case round =>
      obtain ⟨rfl, hfr⟩ := hrel
      have Hfr := Lib.hid hfr
      clear hfr
      go_wp2_with fail
      go_meet
      exact Hfr.out
  case rest =>
  have HF := Lib.hid hcut
  clear hcut
  go_upto_block 16 with fail
  go_cut [14] (fun _ wx => Fr (fun _ => False) w wx)
  case first =>
    go_wp2_with fail
    go_loopw [14] (fun sv wr => sv = .int .i64 0 ∧ Fr (fun _ => False) w wr) (fun _ _ => 0)
    case atStart => exact ⟨rfl, by first | exact Fr.refl _ _ | exact HF.out | exact Fr.alloc HF.out _⟩
    case round =>
      obtain ⟨rfl, hfr⟩ := hrel
      have Hfr := Lib.hid hfr
      clear hfr
      go_wp2_with fail
      go_meet
      exact Hfr.out
  case rest =>
  have HF := Lib.hid hcut
  clear hcut
  go_wp2_with fail
  go_ret
  exact ⟨rfl, HF.out⟩
theorem Tryd.info_flatFates : (Tryd.prog.info? 146).map (fun i => (i.zero, i.size, i.bytes)) = some (some (.slice none 0 0), 1, 24) := by kernel_rfl
set_option maxRecDepth 100000 in
set_option maxHeartbeats 1000000 in
theorem flatFates_nil (w : World) : Calls Tryd.prog 59 #[.slice none 0 0] w fun e w' => e = .returned (.bool true) ∧ Fr (fun _ => False) w w' := by
  obtain ⟨i0, hi, hz0, hz1, hz2⟩ := info_parts Tryd.info_flatFates
  have hmk := fun w0 => run_make (P := Tryd.prog) w0 80 146 i0 (.slice none 0 0) Tryd.underlying80 hi hz0 .i64 .i64 0 0 (by decide) (Int.le_refl _) (by simp) (by decide)
  simp only [Int.toNat_zero, Nat.zero_mul] at hmk
  clear hi hz0 hz1 hz2
  go_enter Tryd.func59, Tryd.ntmps59
  go_upto_block 0 with fail
  go_cut [3] (fun _ wx => Fr (fun _ => False) w wx)
  case first =>
    go_wp2_with fail
    go_loopw [3] (fun sv wr => sv = .int .i64 0 ∧ Fr (fun _ => False) w wr) (fun _ _ => 0)
    case atStart => exact ⟨rfl, by first | exact Fr.refl _ _ | exact HF.out | exact Fr.alloc HF.out _⟩
    case round =>
      obtain ⟨rfl, hfr⟩ := hrel
      have Hfr := Lib.hid hfr
      clear hfr
      go_wp2_with fail
      go_meet
      exact Hfr.out
  case rest =>
  have HF := Lib.hid hcut
  clear hcut
  go_upto_block 4 with fail
  go_cut [6] (fun _ wx => Fr (fun _ => False) w wx)
  case first =>
    go_wp2_with fail
    go_loopw [6] (fun sv wr => sv = .int .i64 0 ∧ Fr (fun _ => False) w wr) (fun _ _ => 0)
    case atStart => exact ⟨rfl, by first | exact Fr.refl _ _ | exact HF.out | exact Fr.alloc HF.out _⟩
    case round =>
      obtain ⟨rfl, hfr⟩ := hrel
      have Hfr := Lib.hid hfr
      clear hfr
      go_wp2_with fail
      go_meet
      exact Hfr.out
  case rest =>
  have HF := Lib.hid hcut
  clear hcut
  go_upto_block 8 with fail
  go_cut [9] (fun _ wx => Fr (fun _ => False) w wx)
  case first =>
    go_wp2_with fail
    go_loopw [9] (fun sv wr => sv = .int .i64 0 ∧ Fr (fun _ => False) w wr) (fun _ _ => 0)
    case atStart => exact ⟨rfl, by first | exact Fr.refl _ _ | exact HF.out | exact Fr.alloc HF.out _⟩
    case round =>
      obtain ⟨rfl, hfr⟩ := hrel
      have Hfr := Lib.hid hfr
      clear hfr
      go_wp2_with fail
      go_meet
      exact Hfr.out
  case rest =>
  have HF := Lib.hid hcut
  clear hcut
  go_upto_block 12 with fail
  go_cut [11] (fun _ wx => Fr (fun _ => False) w wx)
  case first =>
    go_wp2_with fail
    go_loopw [11] (fun sv wr => sv = .int .i64 0 ∧ Fr (fun _ => False) w wr) (fun _ _ => 0)
    case atStart => exact ⟨rfl, by first | exact Fr.refl _ _ | exact HF.out | exact Fr.alloc HF.out _⟩
    case round =>
      obtain ⟨rfl, hfr⟩ := hrel
      have Hfr := Lib.hid hfr
      clear hfr
      go_wp2_with fail
      go_meet
      exact Hfr.out
  case rest =>
  have HF := Lib.hid hcut
  clear hcut
  go_upto_block 16 with fail
  go_cut [14] (fun _ wx => Fr (fun _ => False) w wx)
  case first =>
    go_wp2_with fail
    go_loopw [14] (fun sv wr => sv = .int .i64 0 ∧ Fr (fun _ => False) w wr) (fun _ _ => 0)
    case atStart => exact ⟨rfl, by first | exact Fr.refl _ _ | exact HF.out | exact Fr.alloc HF.out _⟩
    case round =>
      obtain ⟨rfl, hfr⟩ := hrel
      have Hfr := Lib.hid hfr
      clear hfr
      go_wp2_with fail
      go_meet
      exact Hfr.out
  case rest =>
  have HF := Lib.hid hcut
  clear hcut
  go_wp2_with fail
  go_ret
  exact ⟨rfl, HF.out⟩
theorem Tryd.info_flatSpans : (Tryd.prog.info? 44).map (fun i => (i.zero, i.size, i.bytes)) = some (some (.slice none 0 0), 1, 24) := by kernel_rfl
set_option maxRecDepth 100000 in
set_option maxHeartbeats 1000000 in
theorem flatSpans_nil (w : World) : Calls Tryd.prog 60 #[.slice none 0 0] w fun e w' => e = .returned (.bool true) ∧ Fr (fun _ => False) w w' := by
  obtain ⟨i0, hi, hz0, hz1, hz2⟩ := info_parts Tryd.info_flatSpans
  have hmk := fun w0 => run_make (P := Tryd.prog) w0 81 44 i0 (.slice none 0 0) Tryd.underlying81 hi hz0 .i64 .i64 0 0 (by decide) (Int.le_refl _) (by simp) (by decide)
  simp only [Int.toNat_zero, Nat.zero_mul] at hmk
  clear hi hz0 hz1 hz2
  go_enter Tryd.func60, Tryd.ntmps60
  go_upto_block 0 with fail
  go_cut [3] (fun _ wx => Fr (fun _ => False) w wx)
  case first =>
    go_wp2_with fail
    go_loopw [3] (fun sv wr => sv = .int .i64 0 ∧ Fr (fun _ => False) w wr) (fun _ _ => 0)
    case atStart => exact ⟨rfl, by first | exact Fr.refl _ _ | exact HF.out | exact Fr.alloc HF.out _⟩
    case round =>
      obtain ⟨rfl, hfr⟩ := hrel
      have Hfr := Lib.hid hfr
      clear hfr
      go_wp2_with fail
      go_meet
      exact Hfr.out
  case rest =>
  have HF := Lib.hid hcut
  clear hcut
  go_upto_block 4 with fail
  go_cut [6] (fun _ wx => Fr (fun _ => False) w wx)
  case first =>
    go_wp2_with fail
    go_loopw [6] (fun sv wr => sv = .int .i64 0 ∧ Fr (fun _ => False) w wr) (fun _ _ => 0)
    case atStart => exact ⟨rfl, by first | exact Fr.refl _ _ | exact HF.out | exact Fr.alloc HF.out _⟩
    case round =>
      obtain ⟨rfl, hfr⟩ := hrel
      have Hfr := Lib.hid hfr
      clear hfr
      go_wp2_with fail
      go_meet
      exact Hfr.out
  case rest =>
  have HF := Lib.hid hcut
  clear hcut
  go_upto_block 8 with fail
  go_cut [9] (fun _ wx => Fr (fun _ => False) w wx)
  case first =>
    go_wp2_with fail
    go_loopw [9] (fun sv wr => sv = .int .i64 0 ∧ Fr (fun _ => False) w wr) (fun _ _ => 0)
    case atStart => exact ⟨rfl, by first | exact Fr.refl _ _ | exact HF.out | exact Fr.alloc HF.out _⟩
    case round =>
      obtain ⟨rfl, hfr⟩ := hrel
      have Hfr := Lib.hid hfr
      clear hfr
      go_wp2_with fail
      go_meet
      exact Hfr.out
  case rest =>
  have HF := Lib.hid hcut
  clear hcut
  go_upto_block 12 with fail
  go_cut [11] (fun _ wx => Fr (fun _ => False) w wx)
  case first =>
    go_wp2_with fail
    go_loopw [11] (fun sv wr => sv = .int .i64 0 ∧ Fr (fun _ => False) w wr) (fun _ _ => 0)
    case atStart => exact ⟨rfl, by first | exact Fr.refl _ _ | exact HF.out | exact Fr.alloc HF.out _⟩
    case round =>
      obtain ⟨rfl, hfr⟩ := hrel
      have Hfr := Lib.hid hfr
      clear hfr
      go_wp2_with fail
      go_meet
      exact Hfr.out
  case rest =>
  have HF := Lib.hid hcut
  clear hcut
  go_upto_block 16 with fail
  go_cut [14] (fun _ wx => Fr (fun _ => False) w wx)
  case first =>
    go_wp2_with fail
    go_loopw [14] (fun sv wr => sv = .int .i64 0 ∧ Fr (fun _ => False) w wr) (fun _ _ => 0)
    case atStart => exact ⟨rfl, by first | exact Fr.refl _ _ | exact HF.out | exact Fr.alloc HF.out _⟩
    case round =>
      obtain ⟨rfl, hfr⟩ := hrel
      have Hfr := Lib.hid hfr
      clear hfr
      go_wp2_with fail
      go_meet
      exact Hfr.out
  case rest =>
  have HF := Lib.hid hcut
  clear hcut
  go_wp2_with fail
  go_ret
  exact ⟨rfl, HF.out⟩
theorem Tryd.info_flatFrames : (Tryd.prog.info? 152).map (fun i => (i.zero, i.size, i.bytes)) = some (some (.slice none 0 0), 1, 24) := by kernel_rfl
set_option maxRecDepth 100000 in
set_option maxHeartbeats 1000000 in
theorem flatFrames_nil (w : World) : Calls Tryd.prog 61 #[.slice none 0 0] w fun e w' => e = .returned (.bool true) ∧ Fr (fun _ => False) w w' := by
  obtain ⟨i0, hi, hz0, hz1, hz2⟩ := info_parts Tryd.info_flatFrames
  have hmk := fun w0 => run_make (P := Tryd.prog) w0 82 152 i0 (.slice none 0 0) Tryd.underlying82 hi hz0 .i64 .i64 0 0 (by decide) (Int.le_refl _) (by simp) (by decide)
  simp only [Int.toNat_zero, Nat.zero_mul] at hmk
  clear hi hz0 hz1 hz2
  go_enter Tryd.func61, Tryd.ntmps61
  go_upto_block 0 with fail
  go_cut [3] (fun _ wx => Fr (fun _ => False) w wx)
  case first =>
    go_wp2_with fail
    go_loopw [3] (fun sv wr => sv = .int .i64 0 ∧ Fr (fun _ => False) w wr) (fun _ _ => 0)
    case atStart => exact ⟨rfl, by first | exact Fr.refl _ _ | exact HF.out | exact Fr.alloc HF.out _⟩
    case round =>
      obtain ⟨rfl, hfr⟩ := hrel
      have Hfr := Lib.hid hfr
      clear hfr
      go_wp2_with fail
      go_meet
      exact Hfr.out
  case rest =>
  have HF := Lib.hid hcut
  clear hcut
  go_upto_block 4 with fail
  go_cut [6] (fun _ wx => Fr (fun _ => False) w wx)
  case first =>
    go_wp2_with fail
    go_loopw [6] (fun sv wr => sv = .int .i64 0 ∧ Fr (fun _ => False) w wr) (fun _ _ => 0)
    case atStart => exact ⟨rfl, by first | exact Fr.refl _ _ | exact HF.out | exact Fr.alloc HF.out _⟩
    case round =>
      obtain ⟨rfl, hfr⟩ := hrel
      have Hfr := Lib.hid hfr
      clear hfr
      go_wp2_with fail
      go_meet
      exact Hfr.out
  case rest =>
  have HF := Lib.hid hcut
  clear hcut
  go_upto_block 8 with fail
  go_cut [9] (fun _ wx => Fr (fun _ => False) w wx)
  case first =>
    go_wp2_with fail
    go_loopw [9] (fun sv wr => sv = .int .i64 0 ∧ Fr (fun _ => False) w wr) (fun _ _ => 0)
    case atStart => exact ⟨rfl, by first | exact Fr.refl _ _ | exact HF.out | exact Fr.alloc HF.out _⟩
    case round =>
      obtain ⟨rfl, hfr⟩ := hrel
      have Hfr := Lib.hid hfr
      clear hfr
      go_wp2_with fail
      go_meet
      exact Hfr.out
  case rest =>
  have HF := Lib.hid hcut
  clear hcut
  go_upto_block 12 with fail
  go_cut [11] (fun _ wx => Fr (fun _ => False) w wx)
  case first =>
    go_wp2_with fail
    go_loopw [11] (fun sv wr => sv = .int .i64 0 ∧ Fr (fun _ => False) w wr) (fun _ _ => 0)
    case atStart => exact ⟨rfl, by first | exact Fr.refl _ _ | exact HF.out | exact Fr.alloc HF.out _⟩
    case round =>
      obtain ⟨rfl, hfr⟩ := hrel
      have Hfr := Lib.hid hfr
      clear hfr
      go_wp2_with fail
      go_meet
      exact Hfr.out
  case rest =>
  have HF := Lib.hid hcut
  clear hcut
  go_upto_block 16 with fail
  go_cut [14] (fun _ wx => Fr (fun _ => False) w wx)
  case first =>
    go_wp2_with fail
    go_loopw [14] (fun sv wr => sv = .int .i64 0 ∧ Fr (fun _ => False) w wr) (fun _ _ => 0)
    case atStart => exact ⟨rfl, by first | exact Fr.refl _ _ | exact HF.out | exact Fr.alloc HF.out _⟩
    case round =>
      obtain ⟨rfl, hfr⟩ := hrel
      have Hfr := Lib.hid hfr
      clear hfr
      go_wp2_with fail
      go_meet
      exact Hfr.out
  case rest =>
  have HF := Lib.hid hcut
  clear hcut
  go_wp2_with fail
  go_ret
  exact ⟨rfl, HF.out⟩
theorem Tryd.info_flatCabins : (Tryd.prog.info? 157).map (fun i => (i.zero, i.size, i.bytes)) = some (some (.slice none 0 0), 1, 24) := by kernel_rfl
set_option maxRecDepth 100000 in
set_option maxHeartbeats 1000000 in
theorem flatCabins_nil (w : World) : Calls Tryd.prog 62 #[.slice none 0 0] w fun e w' => e = .returned (.bool true) ∧ Fr (fun _ => False) w w' := by
  obtain ⟨i0, hi, hz0, hz1, hz2⟩ := info_parts Tryd.info_flatCabins
  have hmk := fun w0 => run_make (P := Tryd.prog) w0 83 157 i0 (.slice none 0 0) Tryd.underlying83 hi hz0 .i64 .i64 0 0 (by decide) (Int.le_refl _) (by simp) (by decide)
  simp only [Int.toNat_zero, Nat.zero_mul] at hmk
  clear hi hz0 hz1 hz2
  go_enter Tryd.func62, Tryd.ntmps62
  go_upto_block 0 with fail
  go_cut [3] (fun _ wx => Fr (fun _ => False) w wx)
  case first =>
    go_wp2_with fail
    go_loopw [3] (fun sv wr => sv = .int .i64 0 ∧ Fr (fun _ => False) w wr) (fun _ _ => 0)
    case atStart => exact ⟨rfl, by first | exact Fr.refl _ _ | exact HF.out | exact Fr.alloc HF.out _⟩
    case round =>
      obtain ⟨rfl, hfr⟩ := hrel
      have Hfr := Lib.hid hfr
      clear hfr
      go_wp2_with fail
      go_meet
      exact Hfr.out
  case rest =>
  have HF := Lib.hid hcut
  clear hcut
  go_upto_block 4 with fail
  go_cut [6] (fun _ wx => Fr (fun _ => False) w wx)
  case first =>
    go_wp2_with fail
    go_loopw [6] (fun sv wr => sv = .int .i64 0 ∧ Fr (fun _ => False) w wr) (fun _ _ => 0)
    case atStart => exact ⟨rfl, by first | exact Fr.refl _ _ | exact HF.out | exact Fr.alloc HF.out _⟩
    case round =>
      obtain ⟨rfl, hfr⟩ := hrel
      have Hfr := Lib.hid hfr
      clear hfr
      go_wp2_with fail
      go_meet
      exact Hfr.out
  case rest =>
  have HF := Lib.hid hcut
  clear hcut
  go_upto_block 8 with fail
  go_cut [9] (fun _ wx => Fr (fun _ => False) w wx)
  case first =>
    go_wp2_with fail
    go_loopw [9] (fun sv wr => sv = .int .i64 0 ∧ Fr (fun _ => False) w wr) (fun _ _ => 0)
    case atStart => exact ⟨rfl, by first | exact Fr.refl _ _ | exact HF.out | exact Fr.alloc HF.out _⟩
    case round =>
      obtain ⟨rfl, hfr⟩ := hrel
      have Hfr := Lib.hid hfr
      clear hfr
      go_wp2_with fail
      go_meet
      exact Hfr.out
  case rest =>
  have HF := Lib.hid hcut
  clear hcut
  go_upto_block 12 with fail
  go_cut [11] (fun _ wx => Fr (fun _ => False) w wx)
  case first =>
    go_wp2_with fail
    go_loopw [11] (fun sv wr => sv = .int .i64 0 ∧ Fr (fun _ => False) w wr) (fun _ _ => 0)
    case atStart => exact ⟨rfl, by first | exact Fr.refl _ _ | exact HF.out | exact Fr.alloc HF.out _⟩
    case round =>
      obtain ⟨rfl, hfr⟩ := hrel
      have Hfr := Lib.hid hfr
      clear hfr
      go_wp2_with fail
      go_meet
      exact Hfr.out
  case rest =>
  have HF := Lib.hid hcut
  clear hcut
  go_upto_block 16 with fail
  go_cut [14] (fun _ wx => Fr (fun _ => False) w wx)
  case first =>
    go_wp2_with fail
    go_loopw [14] (fun sv wr => sv = .int .i64 0 ∧ Fr (fun _ => False) w wr) (fun _ _ => 0)
    case atStart => exact ⟨rfl, by first | exact Fr.refl _ _ | exact HF.out | exact Fr.alloc HF.out _⟩
    case round =>
      obtain ⟨rfl, hfr⟩ := hrel
      have Hfr := Lib.hid hfr
      clear hfr
      go_wp2_with fail
      go_meet
      exact Hfr.out
  case rest =>
  have HF := Lib.hid hcut
  clear hcut
  go_wp2_with fail
  go_ret
  exact ⟨rfl, HF.out⟩
theorem Tryd.info_flatRecords : (Tryd.prog.info? 160).map (fun i => (i.zero, i.size, i.bytes)) = some (some (.slice none 0 0), 1, 24) := by kernel_rfl
set_option maxRecDepth 100000 in
set_option maxHeartbeats 1000000 in
theorem flatRecords_nil (w : World) : Calls Tryd.prog 63 #[.slice none 0 0] w fun e w' => e = .returned (.bool true) ∧ Fr (fun _ => False) w w' := by
  obtain ⟨i0, hi, hz0, hz1, hz2⟩ := info_parts Tryd.info_flatRecords
  have hmk := fun w0 => run_make (P := Tryd.prog) w0 84 160 i0 (.slice none 0 0) Tryd.underlying84 hi hz0 .i64 .i64 0 0 (by decide) (Int.le_refl _) (by simp) (by decide)
  simp only [Int.toNat_zero, Nat.zero_mul] at hmk
  clear hi hz0 hz1 hz2
  go_enter Tryd.func63, Tryd.ntmps63
  go_upto_block 0 with fail
  go_cut [3] (fun _ wx => Fr (fun _ => False) w wx)
  case first =>
    go_wp2_with fail
    go_loopw [3] (fun sv wr => sv = .int .i64 0 ∧ Fr (fun _ => False) w wr) (fun _ _ => 0)
    case atStart => exact ⟨rfl, by first | exact Fr.refl _ _ | exact HF.out | exact Fr.alloc HF.out _⟩
    case round =>
      obtain ⟨rfl, hfr⟩ := hrel
      have Hfr := Lib.hid hfr
      clear hfr
      go_wp2_with fail
      go_meet
      exact Hfr.out
  case rest =>
  have HF := Lib.hid hcut
  clear hcut
  go_upto_block 4 with fail
  go_cut [6] (fun _ wx => Fr (fun _ => False) w wx)
  case first =>
    go_wp2_with fail
    go_loopw [6] (fun sv wr => sv = .int .i64 0 ∧ Fr (fun _ => False) w wr) (fun _ _ => 0)
    case atStart => exact ⟨rfl, by first | exact Fr.refl _ _ | exact HF.out | exact Fr.alloc HF.out _⟩
    case round =>
      obtain ⟨rfl, hfr⟩ := hrel
      have Hfr := Lib.hid hfr
      clear hfr
      go_wp2_with fail
      go_meet
      exact Hfr.out
  case rest =>
  have HF := Lib.hid hcut
  clear hcut
  go_upto_block 8 with fail
  go_cut [9] (fun _ wx => Fr (fun _ => False) w wx)
  case first =>
    go_wp2_with fail
    go_loopw [9] (fun sv wr => sv = .int .i64 0 ∧ Fr (fun _ => False) w wr) (fun _ _ => 0)
    case atStart => exact ⟨rfl, by first | exact Fr.refl _ _ | exact HF.out | exact Fr.alloc HF.out _⟩
    case round =>
      obtain ⟨rfl, hfr⟩ := hrel
      have Hfr := Lib.hid hfr
      clear hfr
      go_wp2_with fail
      go_meet
      exact Hfr.out
  case rest =>
  have HF := Lib.hid hcut
  clear hcut
  go_upto_block 12 with fail
  go_cut [11] (fun _ wx => Fr (fun _ => False) w wx)
  case first =>
    go_wp2_with fail
    go_loopw [11] (fun sv wr => sv = .int .i64 0 ∧ Fr (fun _ => False) w wr) (fun _ _ => 0)
    case atStart => exact ⟨rfl, by first | exact Fr.refl _ _ | exact HF.out | exact Fr.alloc HF.out _⟩
    case round =>
      obtain ⟨rfl, hfr⟩ := hrel
      have Hfr := Lib.hid hfr
      clear hfr
      go_wp2_with fail
      go_meet
      exact Hfr.out
  case rest =>
  have HF := Lib.hid hcut
  clear hcut
  go_upto_block 16 with fail
  go_cut [14] (fun _ wx => Fr (fun _ => False) w wx)
  case first =>
    go_wp2_with fail
    go_loopw [14] (fun sv wr => sv = .int .i64 0 ∧ Fr (fun _ => False) w wr) (fun _ _ => 0)
    case atStart => exact ⟨rfl, by first | exact Fr.refl _ _ | exact HF.out | exact Fr.alloc HF.out _⟩
    case round =>
      obtain ⟨rfl, hfr⟩ := hrel
      have Hfr := Lib.hid hfr
      clear hfr
      go_wp2_with fail
      go_meet
      exact Hfr.out
  case rest =>
  have HF := Lib.hid hcut
  clear hcut
  go_wp2_with fail
  go_ret
  exact ⟨rfl, HF.out⟩
theorem Tryd.info_flatBookings : (Tryd.prog.info? 166).map (fun i => (i.zero, i.size, i.bytes)) = some (some (.slice none 0 0), 1, 24) := by kernel_rfl
set_option maxRecDepth 100000 in
set_option maxHeartbeats 1000000 in
theorem flatBookings_nil (w : World) : Calls Tryd.prog 64 #[.slice none 0 0] w fun e w' => e = .returned (.bool true) ∧ Fr (fun _ => False) w w' := by
  obtain ⟨i0, hi, hz0, hz1, hz2⟩ := info_parts Tryd.info_flatBookings
  have hmk := fun w0 => run_make (P := Tryd.prog) w0 85 166 i0 (.slice none 0 0) Tryd.underlying85 hi hz0 .i64 .i64 0 0 (by decide) (Int.le_refl _) (by simp) (by decide)
  simp only [Int.toNat_zero, Nat.zero_mul] at hmk
  clear hi hz0 hz1 hz2
  go_enter Tryd.func64, Tryd.ntmps64
  go_upto_block 0 with fail
  go_cut [3] (fun _ wx => Fr (fun _ => False) w wx)
  case first =>
    go_wp2_with fail
    go_loopw [3] (fun sv wr => sv = .int .i64 0 ∧ Fr (fun _ => False) w wr) (fun _ _ => 0)
    case atStart => exact ⟨rfl, by first | exact Fr.refl _ _ | exact HF.out | exact Fr.alloc HF.out _⟩
    case round =>
      obtain ⟨rfl, hfr⟩ := hrel
      have Hfr := Lib.hid hfr
      clear hfr
      go_wp2_with fail
      go_meet
      exact Hfr.out
  case rest =>
  have HF := Lib.hid hcut
  clear hcut
  go_upto_block 4 with fail
  go_cut [6] (fun _ wx => Fr (fun _ => False) w wx)
  case first =>
    go_wp2_with fail
    go_loopw [6] (fun sv wr => sv = .int .i64 0 ∧ Fr (fun _ => False) w wr) (fun _ _ => 0)
    case atStart => exact ⟨rfl, by first | exact Fr.refl _ _ | exact HF.out | exact Fr.alloc HF.out _⟩
    case round =>
      obtain ⟨rfl, hfr⟩ := hrel
      have Hfr := Lib.hid hfr
      clear hfr
      go_wp2_with fail
      go_meet
      exact Hfr.out
  case rest =>
  have HF := Lib.hid hcut
  clear hcut
  go_upto_block 8 with fail
  go_cut [9] (fun _ wx => Fr (fun _ => False) w wx)
  case first =>
    go_wp2_with fail
    go_loopw [9] (fun sv wr => sv = .int .i64 0 ∧ Fr (fun _ => False) w wr) (fun _ _ => 0)
    case atStart => exact ⟨rfl, by first | exact Fr.refl _ _ | exact HF.out | exact Fr.alloc HF.out _⟩
    case round =>
      obtain ⟨rfl, hfr⟩ := hrel
      have Hfr := Lib.hid hfr
      clear hfr
      go_wp2_with fail
      go_meet
      exact Hfr.out
  case rest =>
  have HF := Lib.hid hcut
  clear hcut
  go_upto_block 12 with fail
  go_cut [11] (fun _ wx => Fr (fun _ => False) w wx)
  case first =>
    go_wp2_with fail
    go_loopw [11] (fun sv wr => sv = .int .i64 0 ∧ Fr (fun _ => False) w wr) (fun _ _ => 0)
    case atStart => exact ⟨rfl, by first | exact Fr.refl _ _ | exact HF.out | exact Fr.alloc HF.out _⟩
    case round =>
      obtain ⟨rfl, hfr⟩ := hrel
      have Hfr := Lib.hid hfr
      clear hfr
      go_wp2_with fail
      go_meet
      exact Hfr.out
  case rest =>
  have HF := Lib.hid hcut
  clear hcut
  go_upto_block 16 with fail
  go_cut [14] (fun _ wx => Fr (fun _ => False) w wx)
  case first =>
    go_wp2_with fail
    go_loopw [14] (fun sv wr => sv = .int .i64 0 ∧ Fr (fun _ => False) w wr) (fun _ _ => 0)
    case atStart => exact ⟨rfl, by first | exact Fr.refl _ _ | exact HF.out | exact Fr.alloc HF.out _⟩
    case round =>
      obtain ⟨rfl, hfr⟩ := hrel
      have Hfr := Lib.hid hfr
      clear hfr
      go_wp2_with fail
      go_meet
      exact Hfr.out
  case rest =>
  have HF := Lib.hid hcut
  clear hcut
  go_wp2_with fail
  go_ret
  exact ⟨rfl, HF.out⟩
theorem Tryd.info_flatRequests : (Tryd.prog.info? 170).map (fun i => (i.zero, i.size, i.bytes)) = some (some (.slice none 0 0), 1, 24) := by kernel_rfl
set_option maxRecDepth 100000 in
set_option maxHeartbeats 1000000 in
theorem flatRequests_nil (w : World) : Calls Tryd.prog 65 #[.slice none 0 0] w fun e w' => e = .returned (.bool true) ∧ Fr (fun _ => False) w w' := by
  obtain ⟨i0, hi, hz0, hz1, hz2⟩ := info_parts Tryd.info_flatRequests
  have hmk := fun w0 => run_make (P := Tryd.prog) w0 86 170 i0 (.slice none 0 0) Tryd.underlying86 hi hz0 .i64 .i64 0 0 (by decide) (Int.le_refl _) (by simp) (by decide)
  simp only [Int.toNat_zero, Nat.zero_mul] at hmk
  clear hi hz0 hz1 hz2
  go_enter Tryd.func65, Tryd.ntmps65
  go_upto_block 0 with fail
  go_cut [3] (fun _ wx => Fr (fun _ => False) w wx)
  case first =>
    go_wp2_with fail
    go_loopw [3] (fun sv wr => sv = .int .i64 0 ∧ Fr (fun _ => False) w wr) (fun _ _ => 0)
    case atStart => exact ⟨rfl, by first | exact Fr.refl _ _ | exact HF.out | exact Fr.alloc HF.out _⟩
    case round =>
      obtain ⟨rfl, hfr⟩ := hrel
      have Hfr := Lib.hid hfr
      clear hfr
      go_wp2_with fail
      go_meet
      exact Hfr.out
  case rest =>
  have HF := Lib.hid hcut
  clear hcut
  go_upto_block 4 with fail
  go_cut [6] (fun _ wx => Fr (fun _ => False) w wx)
  case first =>
    go_wp2_with fail
    go_loopw [6] (fun sv wr => sv = .int .i64 0 ∧ Fr (fun _ => False) w wr) (fun _ _ => 0)
    case atStart => exact ⟨rfl, by first | exact Fr.refl _ _ | exact HF.out | exact Fr.alloc HF.out _⟩
    case round =>
      obtain ⟨rfl, hfr⟩ := hrel
      have Hfr := Lib.hid hfr
      clear hfr
      go_wp2_with fail
      go_meet
      exact Hfr.out
  case rest =>
  have HF := Lib.hid hcut
  clear hcut
  go_upto_block 8 with fail
  go_cut [9] (fun _ wx => Fr (fun _ => False) w wx)
  case first =>
    go_wp2_with fail
    go_loopw [9] (fun sv wr => sv = .int .i64 0 ∧ Fr (fun _ => False) w wr) (fun _ _ => 0)
    case atStart => exact ⟨rfl, by first | exact Fr.refl _ _ | exact HF.out | exact Fr.alloc HF.out _⟩
    case round =>
      obtain ⟨rfl, hfr⟩ := hrel
      have Hfr := Lib.hid hfr
      clear hfr
      go_wp2_with fail
      go_meet
      exact Hfr.out
  case rest =>
  have HF := Lib.hid hcut
  clear hcut
  go_upto_block 12 with fail
  go_cut [11] (fun _ wx => Fr (fun _ => False) w wx)
  case first =>
    go_wp2_with fail
    go_loopw [11] (fun sv wr => sv = .int .i64 0 ∧ Fr (fun _ => False) w wr) (fun _ _ => 0)
    case atStart => exact ⟨rfl, by first | exact Fr.refl _ _ | exact HF.out | exact Fr.alloc HF.out _⟩
    case round =>
      obtain ⟨rfl, hfr⟩ := hrel
      have Hfr := Lib.hid hfr
      clear hfr
      go_wp2_with fail
      go_meet
      exact Hfr.out
  case rest =>
  have HF := Lib.hid hcut
  clear hcut
  go_upto_block 16 with fail
  go_cut [14] (fun _ wx => Fr (fun _ => False) w wx)
  case first =>
    go_wp2_with fail
    go_loopw [14] (fun sv wr => sv = .int .i64 0 ∧ Fr (fun _ => False) w wr) (fun _ _ => 0)
    case atStart => exact ⟨rfl, by first | exact Fr.refl _ _ | exact HF.out | exact Fr.alloc HF.out _⟩
    case round =>
      obtain ⟨rfl, hfr⟩ := hrel
      have Hfr := Lib.hid hfr
      clear hfr
      go_wp2_with fail
      go_meet
      exact Hfr.out
  case rest =>
  have HF := Lib.hid hcut
  clear hcut
  go_wp2_with fail
  go_ret
  exact ⟨rfl, HF.out⟩
theorem Tryd.info_flatReplies : (Tryd.prog.info? 175).map (fun i => (i.zero, i.size, i.bytes)) = some (some (.slice none 0 0), 1, 24) := by kernel_rfl
set_option maxRecDepth 100000 in
set_option maxHeartbeats 1000000 in
theorem flatReplies_nil (w : World) : Calls Tryd.prog 66 #[.slice none 0 0] w fun e w' => e = .returned (.bool true) ∧ Fr (fun _ => False) w w' := by
  obtain ⟨i0, hi, hz0, hz1, hz2⟩ := info_parts Tryd.info_flatReplies
  have hmk := fun w0 => run_make (P := Tryd.prog) w0 87 175 i0 (.slice none 0 0) Tryd.underlying87 hi hz0 .i64 .i64 0 0 (by decide) (Int.le_refl _) (by simp) (by decide)
  simp only [Int.toNat_zero, Nat.zero_mul] at hmk
  clear hi hz0 hz1 hz2
  go_enter Tryd.func66, Tryd.ntmps66
  go_upto_block 0 with fail
  go_cut [3] (fun _ wx => Fr (fun _ => False) w wx)
  case first =>
    go_wp2_with fail
    go_loopw [3] (fun sv wr => sv = .int .i64 0 ∧ Fr (fun _ => False) w wr) (fun _ _ => 0)
    case atStart => exact ⟨rfl, by first | exact Fr.refl _ _ | exact HF.out | exact Fr.alloc HF.out _⟩
    case round =>
      obtain ⟨rfl, hfr⟩ := hrel
      have Hfr := Lib.hid hfr
      clear hfr
      go_wp2_with fail
      go_meet
      exact Hfr.out
  case rest =>
  have HF := Lib.hid hcut
  clear hcut
  go_upto_block 4 with fail
  go_cut [6] (fun _ wx => Fr (fun _ => False) w wx)
  case first =>
    go_wp2_with fail
    go_loopw [6] (fun sv wr => sv = .int .i64 0 ∧ Fr (fun _ => False) w wr) (fun _ _ => 0)
    case atStart => exact ⟨rfl, by first | exact Fr.refl _ _ | exact HF.out | exact Fr.alloc HF.out _⟩
    case round =>
      obtain ⟨rfl, hfr⟩ := hrel
      have Hfr := Lib.hid hfr
      clear hfr
      go_wp2_with fail
      go_meet
      exact Hfr.out
  case rest =>
  have HF := Lib.hid hcut
  clear hcut
  go_upto_block 8 with fail
  go_cut [9] (fun _ wx => Fr (fun _ => False) w wx)
  case first =>
    go_wp2_with fail
    go_loopw [9] (fun sv wr => sv = .int .i64 0 ∧ Fr (fun _ => False) w wr) (fun _ _ => 0)
    case atStart => exact ⟨rfl, by first | exact Fr.refl _ _ | exact HF.out | exact Fr.alloc HF.out _⟩
    case round =>
      obtain ⟨rfl, hfr⟩ := hrel
      have Hfr := Lib.hid hfr
      clear hfr
      go_wp2_with fail
      go_meet
      exact Hfr.out
  case rest =>
  have HF := Lib.hid hcut
  clear hcut
  go_upto_block 12 with fail
  go_cut [11] (fun _ wx => Fr (fun _ => False) w wx)
  case first =>
    go_wp2_with fail
    go_loopw [11] (fun sv wr => sv = .int .i64 0 ∧ Fr (fun _ => False) w wr) (fun _ _ => 0)
    case atStart => exact ⟨rfl, by first | exact Fr.refl _ _ | exact HF.out | exact Fr.alloc HF.out _⟩
    case round =>
      obtain ⟨rfl, hfr⟩ := hrel
      have Hfr := Lib.hid hfr
      clear hfr
      go_wp2_with fail
      go_meet
      exact Hfr.out
  case rest =>
  have HF := Lib.hid hcut
  clear hcut
  go_upto_block 16 with fail
  go_cut [14] (fun _ wx => Fr (fun _ => False) w wx)
  case first =>
    go_wp2_with fail
    go_loopw [14] (fun sv wr => sv = .int .i64 0 ∧ Fr (fun _ => False) w wr) (fun _ _ => 0)
    case atStart => exact ⟨rfl, by first | exact Fr.refl _ _ | exact HF.out | exact Fr.alloc HF.out _⟩
    case round =>
      obtain ⟨rfl, hfr⟩ := hrel
      have Hfr := Lib.hid hfr
      clear hfr
      go_wp2_with fail
      go_meet
      exact Hfr.out
  case rest =>
  have HF := Lib.hid hcut
  clear hcut
  go_wp2_with fail
  go_ret
  exact ⟨rfl, HF.out⟩
theorem Tryd.info_flatFares : (Tryd.prog.info? 179).map (fun i => (i.zero, i.size, i.bytes)) = some (some (.slice none 0 0), 1, 24) := by kernel_rfl
set_option maxRecDepth 100000 in
set_option maxHeartbeats 1000000 in
theorem flatFares_nil (w : World) : Calls Tryd.prog 67 #[.slice none 0 0] w fun e w' => e = .returned (.bool true) ∧ Fr (fun _ => False) w w' := by
  obtain ⟨i0, hi, hz0, hz1, hz2⟩ := info_parts Tryd.info_flatFares
  have hmk := fun w0 => run_make (P := Tryd.prog) w0 88 179 i0 (.slice none 0 0) Tryd.underlying88 hi hz0 .i64 .i64 0 0 (by decide) (Int.le_refl _) (by simp) (by decide)
  simp only [Int.toNat_zero, Nat.zero_mul] at hmk
  clear hi hz0 hz1 hz2
  go_enter Tryd.func67, Tryd.ntmps67
  go_upto_block 0 with fail
  go_cut [3] (fun _ wx => Fr (fun _ => False) w wx)
  case first =>
    go_wp2_with fail
    go_loopw [3] (fun sv wr => sv = .int .i64 0 ∧ Fr (fun _ => False) w wr) (fun _ _ => 0)
    case atStart => exact ⟨rfl, by first | exact Fr.refl _ _ | exact HF.out | exact Fr.alloc HF.out _⟩
    case round =>
      obtain ⟨rfl, hfr⟩ := hrel
      have Hfr := Lib.hid hfr
      clear hfr
      go_wp2_with fail
      go_meet
      exact Hfr.out
  case rest =>
  have HF := Lib.hid hcut
  clear hcut
  go_upto_block 4 with fail
  go_cut [6] (fun _ wx => Fr (fun _ => False) w wx)
  case first =>
    go_wp2_with fail
    go_loopw [6] (fun sv wr => sv = .int .i64 0 ∧ Fr (fun _ => False) w wr) (fun _ _ => 0)
    case atStart => exact ⟨rfl, by first | exact Fr.refl _ _ | exact HF.out | exact Fr.alloc HF.out _⟩
    case round =>
      obtain ⟨rfl, hfr⟩ := hrel
      have Hfr := Lib.hid hfr
      clear hfr
      go_wp2_with fail
      go_meet
      exact Hfr.out
  case rest =>
  have HF := Lib.hid hcut
  clear hcut
  go_upto_block 8 with fail
  go_cut [9] (fun _ wx => Fr (fun _ => False) w wx)
  case first =>
    go_wp2_with fail
    go_loopw [9] (fun sv wr => sv = .int .i64 0 ∧ Fr (fun _ => False) w wr) (fun _ _ => 0)
    case atStart => exact ⟨rfl, by first | exact Fr.refl _ _ | exact HF.out | exact Fr.alloc HF.out _⟩
    case round =>
      obtain ⟨rfl, hfr⟩ := hrel
      have Hfr := Lib.hid hfr
      clear hfr
      go_wp2_with fail
      go_meet
      exact Hfr.out
  case rest =>
  have HF := Lib.hid hcut
  clear hcut
  go_upto_block 12 with fail
  go_cut [11] (fun _ wx => Fr (fun _ => False) w wx)
  case first =>
    go_wp2_with fail
    go_loopw [11] (fun sv wr => sv = .int .i64 0 ∧ Fr (fun _ => False) w wr) (fun _ _ => 0)
    case atStart => exact ⟨rfl, by first | exact Fr.refl _ _ | exact HF.out | exact Fr.alloc HF.out _⟩
    case round =>
      obtain ⟨rfl, hfr⟩ := hrel
      have Hfr := Lib.hid hfr
      clear hfr
      go_wp2_with fail
      go_meet
      exact Hfr.out
  case rest =>
  have HF := Lib.hid hcut
  clear hcut
  go_upto_block 16 with fail
  go_cut [14] (fun _ wx => Fr (fun _ => False) w wx)
  case first =>
    go_wp2_with fail
    go_loopw [14] (fun sv wr => sv = .int .i64 0 ∧ Fr (fun _ => False) w wr) (fun _ _ => 0)
    case atStart => exact ⟨rfl, by first | exact Fr.refl _ _ | exact HF.out | exact Fr.alloc HF.out _⟩
    case round =>
      obtain ⟨rfl, hfr⟩ := hrel
      have Hfr := Lib.hid hfr
      clear hfr
      go_wp2_with fail
      go_meet
      exact Hfr.out
  case rest =>
  have HF := Lib.hid hcut
  clear hcut
  go_wp2_with fail
  go_ret
  exact ⟨rfl, HF.out⟩
theorem Tryd.info_flatWaits : (Tryd.prog.info? 184).map (fun i => (i.zero, i.size, i.bytes)) = some (some (.slice none 0 0), 1, 24) := by kernel_rfl
set_option maxRecDepth 100000 in
set_option maxHeartbeats 1000000 in
theorem flatWaits_nil (w : World) : Calls Tryd.prog 68 #[.slice none 0 0] w fun e w' => e = .returned (.bool true) ∧ Fr (fun _ => False) w w' := by
  obtain ⟨i0, hi, hz0, hz1, hz2⟩ := info_parts Tryd.info_flatWaits
  have hmk := fun w0 => run_make (P := Tryd.prog) w0 89 184 i0 (.slice none 0 0) Tryd.underlying89 hi hz0 .i64 .i64 0 0 (by decide) (Int.le_refl _) (by simp) (by decide)
  simp only [Int.toNat_zero, Nat.zero_mul] at hmk
  clear hi hz0 hz1 hz2
  go_enter Tryd.func68, Tryd.ntmps68
  go_upto_block 0 with fail
  go_cut [3] (fun _ wx => Fr (fun _ => False) w wx)
  case first =>
    go_wp2_with fail
    go_loopw [3] (fun sv wr => sv = .int .i64 0 ∧ Fr (fun _ => False) w wr) (fun _ _ => 0)
    case atStart => exact ⟨rfl, by first | exact Fr.refl _ _ | exact HF.out | exact Fr.alloc HF.out _⟩
    case round =>
      obtain ⟨rfl, hfr⟩ := hrel
      have Hfr := Lib.hid hfr
      clear hfr
      go_wp2_with fail
      go_meet
      exact Hfr.out
  case rest =>
  have HF := Lib.hid hcut
  clear hcut
  go_upto_block 4 with fail
  go_cut [6] (fun _ wx => Fr (fun _ => False) w wx)
  case first =>
    go_wp2_with fail
    go_loopw [6] (fun sv wr => sv = .int .i64 0 ∧ Fr (fun _ => False) w wr) (fun _ _ => 0)
    case atStart => exact ⟨rfl, by first | exact Fr.refl _ _ | exact HF.out | exact Fr.alloc HF.out _⟩
    case round =>
      obtain ⟨rfl, hfr⟩ := hrel
      have Hfr := Lib.hid hfr
      clear hfr
      go_wp2_with fail
      go_meet
      exact Hfr.out
  case rest =>
  have HF := Lib.hid hcut
  clear hcut
  go_upto_block 8 with fail
  go_cut [9] (fun _ wx => Fr (fun _ => False) w wx)
  case first =>
    go_wp2_with fail
    go_loopw [9] (fun sv wr => sv = .int .i64 0 ∧ Fr (fun _ => False) w wr) (fun _ _ => 0)
    case atStart => exact ⟨rfl, by first | exact Fr.refl _ _ | exact HF.out | exact Fr.alloc HF.out _⟩
    case round =>
      obtain ⟨rfl, hfr⟩ := hrel
      have Hfr := Lib.hid hfr
      clear hfr
      go_wp2_with fail
      go_meet
      exact Hfr.out
  case rest =>
  have HF := Lib.hid hcut
  clear hcut
  go_upto_block 12 with fail
  go_cut [11] (fun _ wx => Fr (fun _ => False) w wx)
  case first =>
    go_wp2_with fail
    go_loopw [11] (fun sv wr => sv = .int .i64 0 ∧ Fr (fun _ => False) w wr) (fun _ _ => 0)
    case atStart => exact ⟨rfl, by first | exact Fr.refl _ _ | exact HF.out | exact Fr.alloc HF.out _⟩
    case round =>
      obtain ⟨rfl, hfr⟩ := hrel
      have Hfr := Lib.hid hfr
      clear hfr
      go_wp2_with fail
      go_meet
      exact Hfr.out
  case rest =>
  have HF := Lib.hid hcut
  clear hcut
  go_upto_block 16 with fail
  go_cut [14] (fun _ wx => Fr (fun _ => False) w wx)
  case first =>
    go_wp2_with fail
    go_loopw [14] (fun sv wr => sv = .int .i64 0 ∧ Fr (fun _ => False) w wr) (fun _ _ => 0)
    case atStart => exact ⟨rfl, by first | exact Fr.refl _ _ | exact HF.out | exact Fr.alloc HF.out _⟩
    case round =>
      obtain ⟨rfl, hfr⟩ := hrel
      have Hfr := Lib.hid hfr
      clear hfr
      go_wp2_with fail
      go_meet
      exact Hfr.out
  case rest =>
  have HF := Lib.hid hcut
  clear hcut
  go_wp2_with fail
  go_ret
  exact ⟨rfl, HF.out⟩
theorem Tryd.info_flatLines : (Tryd.prog.info? 188).map (fun i => (i.zero, i.size, i.bytes)) = some (some (.slice none 0 0), 1, 24) := by kernel_rfl
set_option maxRecDepth 100000 in
set_option maxHeartbeats 1000000 in
theorem flatLines_nil (w : World) : Calls Tryd.prog 69 #[.slice none 0 0] w fun e w' => e = .returned (.bool true) ∧ Fr (fun _ => False) w w' := by
  obtain ⟨i0, hi, hz0, hz1, hz2⟩ := info_parts Tryd.info_flatLines
  have hmk := fun w0 => run_make (P := Tryd.prog) w0 90 188 i0 (.slice none 0 0) Tryd.underlying90 hi hz0 .i64 .i64 0 0 (by decide) (Int.le_refl _) (by simp) (by decide)
  simp only [Int.toNat_zero, Nat.zero_mul] at hmk
  clear hi hz0 hz1 hz2
  go_enter Tryd.func69, Tryd.ntmps69
  go_upto_block 0 with fail
  go_cut [3] (fun _ wx => Fr (fun _ => False) w wx)
  case first =>
    go_wp2_with fail
    go_loopw [3] (fun sv wr => sv = .int .i64 0 ∧ Fr (fun _ => False) w wr) (fun _ _ => 0)
    case atStart => exact ⟨rfl, by first | exact Fr.refl _ _ | exact HF.out | exact Fr.alloc HF.out _⟩
    case round =>
      obtain ⟨rfl, hfr⟩ := hrel
      have Hfr := Lib.hid hfr
      clear hfr
      go_wp2_with fail
      go_meet
      exact Hfr.out
  case rest =>
  have HF := Lib.hid hcut
  clear hcut
  go_upto_block 4 with fail
  go_cut [6] (fun _ wx => Fr (fun _ => False) w wx)
  case first =>
    go_wp2_with fail
    go_loopw [6] (fun sv wr => sv = .int .i64 0 ∧ Fr (fun _ => False) w wr) (fun _ _ => 0)
    case atStart => exact ⟨rfl, by first | exact Fr.refl _ _ | exact HF.out | exact Fr.alloc HF.out _⟩
    case round =>
      obtain ⟨rfl, hfr⟩ := hrel
      have Hfr := Lib.hid hfr
      clear hfr
      go_wp2_with fail
      go_meet
      exact Hfr.out
  case rest =>
  have HF := Lib.hid hcut
  clear hcut
  go_upto_block 8 with fail
  go_cut [9] (fun _ wx => Fr (fun _ => False) w wx)
  case first =>
    go_wp2_with fail
    go_loopw [9] (fun sv wr => sv = .int .i64 0 ∧ Fr (fun _ => False) w wr) (fun _ _ => 0)
    case atStart => exact ⟨rfl, by first | exact Fr.refl _ _ | exact HF.out | exact Fr.alloc HF.out _⟩
    case round =>
      obtain ⟨rfl, hfr⟩ := hrel
      have Hfr := Lib.hid hfr
      clear hfr
      go_wp2_with fail
      go_meet
      exact Hfr.out
  case rest =>
  have HF := Lib.hid hcut
  clear hcut
  go_upto_block 12 with fail
  go_cut [11] (fun _ wx => Fr (fun _ => False) w wx)
  case first =>
    go_wp2_with fail
    go_loopw [11] (fun sv wr => sv = .int .i64 0 ∧ Fr (fun _ => False) w wr) (fun _ _ => 0)
    case atStart => exact ⟨rfl, by first | exact Fr.refl _ _ | exact HF.out | exact Fr.alloc HF.out _⟩
    case round =>
      obtain ⟨rfl, hfr⟩ := hrel
      have Hfr := Lib.hid hfr
      clear hfr
      go_wp2_with fail
      go_meet
      exact Hfr.out
  case rest =>
  have HF := Lib.hid hcut
  clear hcut
  go_upto_block 16 with fail
  go_cut [14] (fun _ wx => Fr (fun _ => False) w wx)
  case first =>
    go_wp2_with fail
    go_loopw [14] (fun sv wr => sv = .int .i64 0 ∧ Fr (fun _ => False) w wr) (fun _ _ => 0)
    case atStart => exact ⟨rfl, by first | exact Fr.refl _ _ | exact HF.out | exact Fr.alloc HF.out _⟩
    case round =>
      obtain ⟨rfl, hfr⟩ := hrel
      have Hfr := Lib.hid hfr
      clear hfr
      go_wp2_with fail
      go_meet
      exact Hfr.out
  case rest =>
  have HF := Lib.hid hcut
  clear hcut
  go_wp2_with fail
  go_ret
  exact ⟨rfl, HF.out⟩
theorem Tryd.info_flatTurns : (Tryd.prog.info? 192).map (fun i => (i.zero, i.size, i.bytes)) = some (some (.slice none 0 0), 1, 24) := by kernel_rfl
set_option maxRecDepth 100000 in
set_option maxHeartbeats 1000000 in
theorem flatTurns_nil (w : World) : Calls Tryd.prog 70 #[.slice none 0 0] w fun e w' => e = .returned (.bool true) ∧ Fr (fun _ => False) w w' := by
  obtain ⟨i0, hi, hz0, hz1, hz2⟩ := info_parts Tryd.info_flatTurns
  have hmk := fun w0 => run_make (P := Tryd.prog) w0 91 192 i0 (.slice none 0 0) Tryd.underlying91 hi hz0 .i64 .i64 0 0 (by decide) (Int.le_refl _) (by simp) (by decide)
  simp only [Int.toNat_zero, Nat.zero_mul] at hmk
  clear hi hz0 hz1 hz2
  go_enter Tryd.func70, Tryd.ntmps70
  go_upto_block 0 with fail
  go_cut [3] (fun _ wx => Fr (fun _ => False) w wx)
  case first =>
    go_wp2_with fail
    go_loopw [3] (fun sv wr => sv = .int .i64 0 ∧ Fr (fun _ => False) w wr) (fun _ _ => 0)
    case atStart => exact ⟨rfl, by first | exact Fr.refl _ _ | exact HF.out | exact Fr.alloc HF.out _⟩
    case round =>
      obtain ⟨rfl, hfr⟩ := hrel
      have Hfr := Lib.hid hfr
      clear hfr
      go_wp2_with fail
      go_meet
      exact Hfr.out
  case rest =>
  have HF := Lib.hid hcut
  clear hcut
  go_upto_block 4 with fail
  go_cut [6] (fun _ wx => Fr (fun _ => False) w wx)
  case first =>
    go_wp2_with fail
    go_loopw [6] (fun sv wr => sv = .int .i64 0 ∧ Fr (fun _ => False) w wr) (fun _ _ => 0)
    case atStart => exact ⟨rfl, by first | exact Fr.refl _ _ | exact HF.out | exact Fr.alloc HF.out _⟩
    case round =>
      obtain ⟨rfl, hfr⟩ := hrel
      have Hfr := Lib.hid hfr
      clear hfr
      go_wp2_with fail
      go_meet
      exact Hfr.out
  case rest =>
  have HF := Lib.hid hcut
  clear hcut
  go_upto_block 8 with fail
  go_cut [9] (fun _ wx => Fr (fun _ => False) w wx)
  case first =>
    go_wp2_with fail
    go_loopw [9] (fun sv wr => sv = .int .i64 0 ∧ Fr (fun _ => False) w wr) (fun _ _ => 0)
    case atStart => exact ⟨rfl, by first | exact Fr.refl _ _ | exact HF.out | exact Fr.alloc HF.out _⟩
    case round =>
      obtain ⟨rfl, hfr⟩ := hrel
      have Hfr := Lib.hid hfr
      clear hfr
      go_wp2_with fail
      go_meet
      exact Hfr.out
  case rest =>
  have HF := Lib.hid hcut
  clear hcut
  go_upto_block 12 with fail
  go_cut [11] (fun _ wx => Fr (fun _ => False) w wx)
  case first =>
    go_wp2_with fail
    go_loopw [11] (fun sv wr => sv = .int .i64 0 ∧ Fr (fun _ => False) w wr) (fun _ _ => 0)
    case atStart => exact ⟨rfl, by first | exact Fr.refl _ _ | exact HF.out | exact Fr.alloc HF.out _⟩
    case round =>
      obtain ⟨rfl, hfr⟩ := hrel
      have Hfr := Lib.hid hfr
      clear hfr
      go_wp2_with fail
      go_meet
      exact Hfr.out
  case rest =>
  have HF := Lib.hid hcut
  clear hcut
  go_upto_block 16 with fail
  go_cut [14] (fun _ wx => Fr (fun _ => False) w wx)
  case first =>
    go_wp2_with fail
    go_loopw [14] (fun sv wr => sv = .int .i64 0 ∧ Fr (fun _ => False) w wr) (fun _ _ => 0)
    case atStart => exact ⟨rfl, by first | exact Fr.refl _ _ | exact HF.out | exact Fr.alloc HF.out _⟩
    case round =>
      obtain ⟨rfl, hfr⟩ := hrel
      have Hfr := Lib.hid hfr
      clear hfr
      go_wp2_with fail
      go_meet
      exact Hfr.out
  case rest =>
  have HF := Lib.hid hcut
  clear hcut
  go_wp2_with fail
  go_ret
  exact ⟨rfl, HF.out⟩
theorem Tryd.info_flatCommands : (Tryd.prog.info? 196).map (fun i => (i.zero, i.size, i.bytes)) = some (some (.slice none 0 0), 1, 24) := by kernel_rfl
set_option maxRecDepth 100000 in
set_option maxHeartbeats 1000000 in
theorem flatCommands_nil (w : World) : Calls Tryd.prog 71 #[.slice none 0 0] w fun e w' => e = .returned (.bool true) ∧ Fr (fun _ => False) w w' := by
  obtain ⟨i0, hi, hz0, hz1, hz2⟩ := info_parts Tryd.info_flatCommands
  have hmk := fun w0 => run_make (P := Tryd.prog) w0 92 196 i0 (.slice none 0 0) Tryd.underlying92 hi hz0 .i64 .i64 0 0 (by decide) (Int.le_refl _) (by simp) (by decide)
  simp only [Int.toNat_zero, Nat.zero_mul] at hmk
  clear hi hz0 hz1 hz2
  go_enter Tryd.func71, Tryd.ntmps71
  go_upto_block 0 with fail
  go_cut [3] (fun _ wx => Fr (fun _ => False) w wx)
  case first =>
    go_wp2_with fail
    go_loopw [3] (fun sv wr => sv = .int .i64 0 ∧ Fr (fun _ => False) w wr) (fun _ _ => 0)
    case atStart => exact ⟨rfl, by first | exact Fr.refl _ _ | exact HF.out | exact Fr.alloc HF.out _⟩
    case round =>
      obtain ⟨rfl, hfr⟩ := hrel
      have Hfr := Lib.hid hfr
      clear hfr
      go_wp2_with fail
      go_meet
      exact Hfr.out
  case rest =>
  have HF := Lib.hid hcut
  clear hcut
  go_upto_block 4 with fail
  go_cut [6] (fun _ wx => Fr (fun _ => False) w wx)
  case first =>
    go_wp2_with fail
    go_loopw [6] (fun sv wr => sv = .int .i64 0 ∧ Fr (fun _ => False) w wr) (fun _ _ => 0)
    case atStart => exact ⟨rfl, by first | exact Fr.refl _ _ | exact HF.out | exact Fr.alloc HF.out _⟩
    case round =>
      obtain ⟨rfl, hfr⟩ := hrel
      have Hfr := Lib.hid hfr
      clear hfr
      go_wp2_with fail
      go_meet
      exact Hfr.out
  case rest =>
  have HF := Lib.hid hcut
  clear hcut
  go_upto_block 8 with fail
  go_cut [9] (fun _ wx => Fr (fun _ => False) w wx)
  case first =>
    go_wp2_with fail
    go_loopw [9] (fun sv wr => sv = .int .i64 0 ∧ Fr (fun _ => False) w wr) (fun _ _ => 0)
    case atStart => exact ⟨rfl, by first | exact Fr.refl _ _ | exact HF.out | exact Fr.alloc HF.out _⟩
    case round =>
      obtain ⟨rfl, hfr⟩ := hrel
      have Hfr := Lib.hid hfr
      clear hfr
      go_wp2_with fail
      go_meet
      exact Hfr.out
  case rest =>
  have HF := Lib.hid hcut
  clear hcut
  go_upto_block 12 with fail
  go_cut [11] (fun _ wx => Fr (fun _ => False) w wx)
  case first =>
    go_wp2_with fail
    go_loopw [11] (fun sv wr => sv = .int .i64 0 ∧ Fr (fun _ => False) w wr) (fun _ _ => 0)
    case atStart => exact ⟨rfl, by first | exact Fr.refl _ _ | exact HF.out | exact Fr.alloc HF.out _⟩
    case round =>
      obtain ⟨rfl, hfr⟩ := hrel
      have Hfr := Lib.hid hfr
      clear hfr
      go_wp2_with fail
      go_meet
      exact Hfr.out
  case rest =>
  have HF := Lib.hid hcut
  clear hcut
  go_upto_block 16 with fail
  go_cut [14] (fun _ wx => Fr (fun _ => False) w wx)
  case first =>
    go_wp2_with fail
    go_loopw [14] (fun sv wr => sv = .int .i64 0 ∧ Fr (fun _ => False) w wr) (fun _ _ => 0)
    case atStart => exact ⟨rfl, by first | exact Fr.refl _ _ | exact HF.out | exact Fr.alloc HF.out _⟩
    case round =>
      obtain ⟨rfl, hfr⟩ := hrel
      have Hfr := Lib.hid hfr
      clear hfr
      go_wp2_with fail
      go_meet
      exact Hfr.out
  case rest =>
  have HF := Lib.hid hcut
  clear hcut
  go_wp2_with fail
  go_ret
  exact ⟨rfl, HF.out⟩
end Go.Proofs.YticcjnfninhjlaaDoor.Bt
