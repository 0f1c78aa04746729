/- The document's Same. No condition. -/
import Derived.Test.YtbfkmogibgchmaaDoorBitZc
namespace Go.Proofs.YtbfkmogibgchmaaDoor.Bt
open Go.RowKit
theorem take_stepB {La Lb : List Bool} {i : Nat} (h : La.take i = Lb.take i) (ha : i < La.length) (hb : i < Lb.length) (e : La.getD i false = Lb.getD i false) : La.take (i + 1) = Lb.take (i + 1) := take_step' (d := false) h ha hb e
section
variable {w : World} {ra rb : Nat} {va vb : Value} {A B : List Bool}
set_option maxRecDepth 100000 in
set_option maxHeartbeats 2000000 in
theorem rsame_ok (ha : RefAt w ra va true A) (hb : RefAt w rb vb true B) : Calls Tryd.prog 37 #[.pointer (some ⟨ra, 0, none⟩), .pointer (some ⟨rb, 0, none⟩)] w fun e w' => e = .returned (.bool (decide (A = B))) ∧ Fr (fun _ => False) w w' := by
  have p0 := ha.c0; have p1 := ha.c1; have q0 := hb.c0; have q1 := hb.c1
  obtain ⟨aa, ca, rfl⟩ := ha.shape
  obtain ⟨ab, cb, rfl⟩ := hb.shape
  have hsm : (A.length : Int) ≤ 65536 := by have := ha.small; omega
  by_cases hl : A.length = B.length
  · have b0 : ((A.length : Int) != (B.length : Int)) = false := by simp; omega
    have b1 : ((A.length : Int) == (B.length : Int)) = true := by simp; omega
    have b1' : decide (A.length = B.length) = true := by simpa using hl
    have HA := Lib.hid ha; have HB := Lib.hid hb; have Hl := Lib.hid hl
    clear ha hb hl
    go_enter Tryd.func37, Tryd.ntmps37
    go_upto_region 1 with fail
    go_still (by kernel_rfl)
    go_upto_block 0 with fail
    go_cut [5] (fun _ wx => A = B ∧ Fr (fun _ => False) w wx)
    case first =>
      clear b0 b1 b1'
      go_wp2_with fail
      go_loopw [5] (fun s5 wr => ∃ i : Nat, i ≤ A.length ∧ s5 = .int .i64 i ∧ A.take i = B.take i ∧ Fr (fun _ => False) w wr) (fun s5 _ => A.length - (intOf s5).toNat)
      case atStart => exact ⟨0, Nat.zero_le _, rfl, by simp, Fr.drew (Fr.refl _ _)⟩
      case round =>
        obtain ⟨i, hi, rfl, htk, fr⟩ := hrel
        have HF := Lib.hid fr; have Htk := Lib.hid htk
        have HA1 := Lib.hid (HA.out.fr fr (fun h => h) (fun _ _ h => h)); have HB1 := Lib.hid (HB.out.fr fr (fun h => h) (fun _ _ h => h))
        have p1 := HA1.out.c1; have q1 := HB1.out.c1
        clear fr htk
        by_cases hlt : i < A.length
        · have hlt' : (i : Int) < (A.length : Int) := by omega
          have hltb : (i : Int) < (B.length : Int) := by have := Hl.out; omega
          obtain ⟨ga, rfl, k1⟩ := HA1.out.bit hlt
          obtain ⟨gb, rfl, k2⟩ := HB1.out.bit (i := i) (by have := Hl.out; omega)
          obtain ⟨xa, hxa⟩ : ∃ x, x = A.getD i false := ⟨_, rfl⟩
          obtain ⟨xb, hxb⟩ : ∃ x, x = B.getD i false := ⟨_, rfl⟩
          rw [← hxa] at k1; rw [← hxb] at k2
          have Hxa := Lib.hid hxa; have Hxb := Lib.hid hxb; have Hlt := Lib.hid hlt
          clear hxa hxb hlt
          go_wp2_with fail
          by_cases hx : xa = xb
          · have b3 : (xa == xb) = true := by simpa using hx
            have b4 : (xa != xb) = false := by simpa using hx
            have Hx := Lib.hid hx
            clear hx
            go_still (by kernel_rfl)
            go_wp2_with fail
            go_roundw
            case rel => exact ⟨i + 1, Hlt.out, by first | (simp; done) | go_num, take_stepB Htk.out Hlt.out (by have := Hl.out; have := Hlt.out; omega) (by rw [← Hxa.out, ← Hxb.out]; exact Hx.out), Fr.drew HF.out⟩
            case measure => have := Hlt.out; simp [intOf]; omega
          · have hne : A ≠ B := fun h => hx (by rw [Hxa.out, Hxb.out, h])
            have Hne := Lib.hid hne
            have b3 : (xa == xb) = false := by simpa using hx
            have b4 : (xa != xb) = true := by simpa using hx
            clear hx hne
            go_still (by kernel_rfl)
            go_wp2_with fail
            go_ret
            exact ⟨by rw [decide_eq_false Hne.out]; rfl, Fr.drew HF.out⟩
        · obtain rfl : i = A.length := by omega
          clear hlt
          go_wp2_with fail
          go_meet
          have := Htk.out
          rw [List.take_of_length_le (Nat.le_refl _), List.take_of_length_le (by rw [Hl.out]; exact Nat.le_refl _)] at this
          exact ⟨this, HF.out⟩
    case rest =>
    obtain ⟨heq, hfr⟩ := hcut
    go_wp2_with fail
    go_ret
    exact ⟨by rw [decide_eq_true heq]; rfl, hfr⟩
  · have b0 : ((A.length : Int) != (B.length : Int)) = true := by simp; omega
    have b1 : ((A.length : Int) == (B.length : Int)) = false := by simp; omega
    have b1' : decide (A.length = B.length) = false := by simpa using hl
    have hne : A ≠ B := fun h => hl (by rw [h])
    have Hne := Lib.hid hne
    clear ha hb hl hne
    go_enter Tryd.func37, Tryd.ntmps37
    go_upto_region 1 with fail
    go_still (by kernel_rfl)
    go_wp2_with fail
    go_ret
    exact ⟨by rw [decide_eq_false Hne.out]; rfl, Fr.drew (Fr.refl _ _)⟩
set_option maxRecDepth 100000 in
set_option maxHeartbeats 2000000 in
theorem rsame_no (ha : RefAt w ra va false A) (p : Option Addr) : Calls Tryd.prog 37 #[.pointer (some ⟨ra, 0, none⟩), .pointer p] w fun e w' => e = .returned (.bool false) ∧ Fr (fun _ => False) w w' := by
  have p0 := ha.c0
  clear ha
  go_enter Tryd.func37, Tryd.ntmps37
  go_upto_region 1 with fail
  refine wp_region_held_drew (S := fun w' => w'.cell? ⟨ra, 0, none⟩ = some (.bool false)) (by kernel_rfl) (by exact p0) (fun hHeld => ?_)
  refine wpAnyH_take (i := 0) (v := ?_) rfl (by kernel_rfl) (by kernel_rfl) (by kernel_rfl) (fun _ _ _ h => h) (Or.inl ⟨by rfl, ?_⟩) (by assumption) ?_
  rotate_left
  · intro w' hSw; (try dsimp only at hSw); go_simp; try with_reducible rfl
  try simp only [Act.put, List.getElem_toArray, List.getElem_cons_zero, List.getElem_cons_succ, List.setIfInBounds_toArray, List.set_cons_zero, List.set_cons_succ]
  refine wpAnyH_take (i := 1) (v := ?_) rfl (by kernel_rfl) (by kernel_rfl) (by kernel_rfl) (fun _ _ _ h => h) (Or.inl ⟨by rfl, ?_⟩) (by assumption) ?_
  rotate_left
  · intro w' hSw; (try dsimp only at hSw); go_simp; try with_reducible rfl
  try simp only [Act.put, List.getElem_toArray, List.getElem_cons_zero, List.getElem_cons_succ, List.setIfInBounds_toArray, List.set_cons_zero, List.set_cons_succ]
  refine wpAnyH_take (i := 2) (v := ?_) rfl (by kernel_rfl) (by kernel_rfl) (by kernel_rfl) (fun _ _ _ h => h) (Or.inl ⟨by rfl, ?_⟩) (by assumption) ?_
  rotate_left
  · intro w' hSw; (try dsimp only at hSw); go_simp; try with_reducible rfl
  try simp only [Act.put, List.getElem_toArray, List.getElem_cons_zero, List.getElem_cons_succ, List.setIfInBounds_toArray, List.set_cons_zero, List.set_cons_succ]
  refine wpAnyH_take (i := 3) (v := ?_) rfl (by kernel_rfl) (by kernel_rfl) (by kernel_rfl) (fun _ _ _ h => h) (Or.inl ⟨by rfl, ?_⟩) (by assumption) ?_
  rotate_left
  · intro w' hSw; (try dsimp only at hSw); go_simp; try with_reducible rfl
  try simp only [Act.put, List.getElem_toArray, List.getElem_cons_zero, List.getElem_cons_succ, List.setIfInBounds_toArray, List.set_cons_zero, List.set_cons_succ]
  refine wpAnyH_take (i := 4) (v := ?_) rfl (by kernel_rfl) (by kernel_rfl) (by kernel_rfl) (fun _ _ _ h => h) (Or.inl ⟨by rfl, ?_⟩) (by assumption) ?_
  rotate_left
  · intro w' hSw; (try dsimp only at hSw); go_simp; try with_reducible rfl
  try simp only [Act.put, List.getElem_toArray, List.getElem_cons_zero, List.getElem_cons_succ, List.setIfInBounds_toArray, List.set_cons_zero, List.set_cons_succ]
  refine wpAnyH_take (i := 5) (v := ?_) rfl (by kernel_rfl) (by kernel_rfl) (by kernel_rfl) (fun _ _ _ h => h) (Or.inl ⟨by rfl, ?_⟩) (by assumption) ?_
  rotate_left
  · intro w' hSw; (try dsimp only at hSw); go_simp; try with_reducible rfl
  try simp only [Act.put, List.getElem_toArray, List.getElem_cons_zero, List.getElem_cons_succ, List.setIfInBounds_toArray, List.set_cons_zero, List.set_cons_succ]
  refine wpAnyH_take (i := 6) (v := undef) rfl (by kernel_rfl) (by kernel_rfl) (by kernel_rfl) (fun _ _ _ h => h) (Or.inr ⟨rfl, rfl⟩) (by assumption) ?_
  try simp only [Act.put, List.getElem_toArray, List.getElem_cons_zero, List.getElem_cons_succ, List.setIfInBounds_toArray, List.set_cons_zero, List.set_cons_succ]
  refine wpAnyH_take (i := 7) (v := undef) rfl (by kernel_rfl) (by kernel_rfl) (by kernel_rfl) (fun _ _ _ h => h) (Or.inr ⟨rfl, rfl⟩) (by assumption) ?_
  try simp only [Act.put, List.getElem_toArray, List.getElem_cons_zero, List.getElem_cons_succ, List.setIfInBounds_toArray, List.set_cons_zero, List.set_cons_succ]
  refine wpAnyH_take (i := 8) (v := undef) rfl (by kernel_rfl) (by kernel_rfl) (by kernel_rfl) (fun _ _ _ h => h) (Or.inr ⟨rfl, rfl⟩) (by assumption) ?_
  try simp only [Act.put, List.getElem_toArray, List.getElem_cons_zero, List.getElem_cons_succ, List.setIfInBounds_toArray, List.set_cons_zero, List.set_cons_succ]
  refine wpAnyH_take (i := 9) (v := undef) rfl (by kernel_rfl) (by kernel_rfl) (by kernel_rfl) (fun _ _ _ h => h) (Or.inr ⟨rfl, rfl⟩) (by assumption) ?_
  try simp only [Act.put, List.getElem_toArray, List.getElem_cons_zero, List.getElem_cons_succ, List.setIfInBounds_toArray, List.set_cons_zero, List.set_cons_succ]
  refine wpAnyH_take (i := 10) (v := undef) rfl (by kernel_rfl) (by kernel_rfl) (by kernel_rfl) (fun _ _ _ h => h) (Or.inr ⟨rfl, rfl⟩) (by assumption) ?_
  try simp only [Act.put, List.getElem_toArray, List.getElem_cons_zero, List.getElem_cons_succ, List.setIfInBounds_toArray, List.set_cons_zero, List.set_cons_succ]
  refine wpAnyH_take (i := 11) (v := ?_) rfl (by kernel_rfl) (by kernel_rfl) (by kernel_rfl) (fun _ _ _ h => h) (Or.inl ⟨by rfl, ?_⟩) (by assumption) ?_
  rotate_left
  · intro w' hSw; (try dsimp only at hSw); go_simp; try with_reducible rfl
  try simp only [Act.put, List.getElem_toArray, List.getElem_cons_zero, List.getElem_cons_succ, List.setIfInBounds_toArray, List.set_cons_zero, List.set_cons_succ]
  refine wpAnyH_take (i := 12) (v := ?_) rfl (by kernel_rfl) (by kernel_rfl) (by kernel_rfl) (fun _ _ _ h => h) (Or.inl ⟨by rfl, ?_⟩) (by assumption) ?_
  rotate_left
  · intro w' hSw; (try dsimp only at hSw); go_simp; try with_reducible rfl
  try simp only [Act.put, List.getElem_toArray, List.getElem_cons_zero, List.getElem_cons_succ, List.setIfInBounds_toArray, List.set_cons_zero, List.set_cons_succ]
  refine wpAnyH_take (i := 13) (v := undef) rfl (by kernel_rfl) (by kernel_rfl) (by kernel_rfl) (fun _ _ _ h => h) (Or.inr ⟨rfl, rfl⟩) (by assumption) ?_
  try simp only [Act.put, List.getElem_toArray, List.getElem_cons_zero, List.getElem_cons_succ, List.setIfInBounds_toArray, List.set_cons_zero, List.set_cons_succ]
  refine wpAnyH_take (i := 14) (v := undef) rfl (by kernel_rfl) (by kernel_rfl) (by kernel_rfl) (fun _ _ _ h => h) (Or.inr ⟨rfl, rfl⟩) (by assumption) ?_
  try simp only [Act.put, List.getElem_toArray, List.getElem_cons_zero, List.getElem_cons_succ, List.setIfInBounds_toArray, List.set_cons_zero, List.set_cons_succ]
  refine wpAnyH_take (i := 15) (v := undef) rfl (by kernel_rfl) (by kernel_rfl) (by kernel_rfl) (fun _ _ _ h => h) (Or.inr ⟨rfl, rfl⟩) (by assumption) ?_
  try simp only [Act.put, List.getElem_toArray, List.getElem_cons_zero, List.getElem_cons_succ, List.setIfInBounds_toArray, List.set_cons_zero, List.set_cons_succ]
  refine wpAnyH_take (i := 16) (v := undef) rfl (by kernel_rfl) (by kernel_rfl) (by kernel_rfl) (fun _ _ _ h => h) (Or.inr ⟨rfl, rfl⟩) (by assumption) ?_
  try simp only [Act.put, List.getElem_toArray, List.getElem_cons_zero, List.getElem_cons_succ, List.setIfInBounds_toArray, List.set_cons_zero, List.set_cons_succ]
  refine wpAnyH_take (i := 17) (v := undef) rfl (by kernel_rfl) (by kernel_rfl) (by kernel_rfl) (fun _ _ _ h => h) (Or.inr ⟨rfl, rfl⟩) (by assumption) ?_
  try simp only [Act.put, List.getElem_toArray, List.getElem_cons_zero, List.getElem_cons_succ, List.setIfInBounds_toArray, List.set_cons_zero, List.set_cons_succ]
  refine wpAnyH_take (i := 18) (v := undef) rfl (by kernel_rfl) (by kernel_rfl) (by kernel_rfl) (fun _ _ _ h => h) (Or.inr ⟨rfl, rfl⟩) (by assumption) ?_
  try simp only [Act.put, List.getElem_toArray, List.getElem_cons_zero, List.getElem_cons_succ, List.setIfInBounds_toArray, List.set_cons_zero, List.set_cons_succ]
  refine wpAnyH_take (i := 19) (v := undef) rfl (by kernel_rfl) (by kernel_rfl) (by kernel_rfl) (fun _ _ _ h => h) (Or.inr ⟨rfl, rfl⟩) (by assumption) ?_
  try simp only [Act.put, List.getElem_toArray, List.getElem_cons_zero, List.getElem_cons_succ, List.setIfInBounds_toArray, List.set_cons_zero, List.set_cons_succ]
  refine wpAnyH_take (i := 20) (v := undef) rfl (by kernel_rfl) (by kernel_rfl) (by kernel_rfl) (fun _ _ _ h => h) (Or.inr ⟨rfl, rfl⟩) (by assumption) ?_
  try simp only [Act.put, List.getElem_toArray, List.getElem_cons_zero, List.getElem_cons_succ, List.setIfInBounds_toArray, List.set_cons_zero, List.set_cons_succ]
  refine wpAnyH_take (i := 21) (v := undef) rfl (by kernel_rfl) (by kernel_rfl) (by kernel_rfl) (fun _ _ _ h => h) (Or.inr ⟨rfl, rfl⟩) (by assumption) ?_
  try simp only [Act.put, List.getElem_toArray, List.getElem_cons_zero, List.getElem_cons_succ, List.setIfInBounds_toArray, List.set_cons_zero, List.set_cons_succ]
  refine wpAnyH_take (i := 22) (v := undef) rfl (by kernel_rfl) (by kernel_rfl) (by kernel_rfl) (fun _ _ _ h => h) (Or.inr ⟨rfl, rfl⟩) (by assumption) ?_
  try simp only [Act.put, List.getElem_toArray, List.getElem_cons_zero, List.getElem_cons_succ, List.setIfInBounds_toArray, List.set_cons_zero, List.set_cons_succ]
  refine wpAnyH_take (i := 23) (v := undef) rfl (by kernel_rfl) (by kernel_rfl) (by kernel_rfl) (fun _ _ _ h => h) (Or.inr ⟨rfl, rfl⟩) (by assumption) ?_
  try simp only [Act.put, List.getElem_toArray, List.getElem_cons_zero, List.getElem_cons_succ, List.setIfInBounds_toArray, List.set_cons_zero, List.set_cons_succ]
  refine wpAnyH_take (i := 24) (v := ?_) rfl (by kernel_rfl) (by kernel_rfl) (by kernel_rfl) (fun _ _ _ h => h) (Or.inl ⟨by rfl, ?_⟩) (by assumption) ?_
  rotate_left
  · intro w' hSw; (try dsimp only at hSw); go_simp; try with_reducible rfl
  try simp only [Act.put, List.getElem_toArray, List.getElem_cons_zero, List.getElem_cons_succ, List.setIfInBounds_toArray, List.set_cons_zero, List.set_cons_succ]
  refine wpAnyH_done (by kernel_rfl) ?_ _
  go_wp2_with fail
  go_ret
  exact ⟨rfl, Fr.drew (Fr.refl _ _)⟩
end
end Go.Proofs.YtbfkmogibgchmaaDoor.Bt
