/- BitsSeeks' walk. Condition: the table of math/bits. -/
import Derived.Test.YtbfkmogibgchmaaDoorBitP
import Derived.Test.YtbfkmogibgchmaaDoorArgi
import Derived.Test.YtbfkmogibgchmaaDoorPick
namespace Go.Proofs.YtbfkmogibgchmaaDoor.Bt
open Go.RowKit
theorem put_some {w : World} {bh : Nat} {v : Value} {B : List Bool} (h : SetAt w bh v B) (hne : v.ownBlock ≠ some bh) (i : Int) : Calls Tryd.prog 12 #[.pointer (some ⟨bh, 0, none⟩), .int .i64 i] w fun e w' => ∃ r C, e = .returned (.int .i64 r) ∧ C.length = B.length ∧ SetAt w' bh v C ∧ Fr (fun b => v.ownBlock = some b) w w' := by
  by_cases hi : 0 ≤ i ∧ i < (B.length : Int)
  · obtain ⟨j, rfl⟩ : ∃ j : Nat, i = (j : Int) := ⟨i.toNat, by omega⟩
    refine (put_in h hne (j := j) (by omega)).mono ?_
    rintro e w' ⟨rfl, h1, h2⟩
    exact ⟨0, _, rfl, by simp, h1, h2⟩
  · refine (put_out h (i := i) (by omega)).mono ?_
    rintro e w' ⟨rfl, rfl⟩
    exact ⟨2, B, rfl, rfl, h, Fr.refl _ _⟩
/-- What a search tells. -/
theorem seek_facts (b : Bool) (B : List Bool) (i : Int) : (seekI b B i = -1 ∧ ∀ k : Nat, i ≤ (k : Int) → k < B.length → B.getD k false ≠ b) ∨
    ∃ q : Nat, seekI b B i = (q : Int) ∧ i ≤ (q : Int) ∧ q < B.length ∧ B.getD q false = b ∧ ∀ k : Nat, i ≤ (k : Int) → k < B.length → B.getD k false = b → q ≤ k := by
  cases h : seekO b B i.toNat with
  | none => exact .inl ⟨seekI_none h, fun k h1 h2 => seekO_none h k (by omega) h2⟩
  | some q =>
    obtain ⟨a1, a2, a3, a4⟩ := seekO_some h
    refine .inr ⟨q, seekI_some h, by omega, a2, a3, fun k h1 h2 h3 => ?_⟩
    apply Nat.le_of_not_lt
    intro hlt
    exact a4 k (by omega) hlt h3
set_option maxRecDepth 100000 in
set_option maxHeartbeats 4000000 in
theorem seeks_walk (w : World) (hT : TabOk w) (n : Int) (hn : Fits n) {v1 : Value} {K1 : Nat → Nat → Int} {n1 : Nat} (h1 : IntsAt w v1 1 K1 n1) (i : Int) (hi : Fits i) :
    Calls Tryd.prog 4 #[.int .i64 n, v1, .int .i64 i] w fun e w' => e = .returned (.bool true) ∧ Fr (fun _ => False) w w' := by
  obtain ⟨a1, c1, rfl, hnc, hcm, hor⟩ := id h1
  have H1 := Lib.hid h1; have HT := Lib.hid hT
  have hn1 : (n1 : Int) ≤ 9223372036854775807 := by unfold maxLen at hcm; omega
  obtain ⟨m, hm, hm3⟩ : ∃ m : Nat, n % 3000 = (m : Int) ∧ m < 3000 := ⟨(n % 3000).toNat, by omega, by omega⟩
  have hpk := pick_ok n 3000 
  have Hpk := Lib.hid (fun w0 => pick_ok n 3000 w0 hn.1 hn.2 (by omega) (by omega))
  rw [hm] at Hpk
  clear h1 hT hor hcm hm hpk hnc
  go_enter Tryd.func4, Tryd.ntmps4
  go_wp2_with fail
  refine (awake_ok HT.out).mono ?_
  rintro e w1 ⟨rfl, f1⟩
  have F1 := Lib.hid f1; clear f1
  go_wp2_with fail
  refine (Hpk.out w1).mono ?_
  rintro e w2 ⟨rfl, rfl⟩
  go_wp2_with fail
  refine (new_ok w1 (n := (m : Int)) (by omega) (by omega)).mono ?_
  rintro e w3 ⟨bh, v, rfl, s1, s2, s3, s4⟩
  have N1 := Lib.hid (NewSet.mk (w := w1) s1 s2 s3 s4)
  clear s1 s2 s3 s4
  go_upto_block 0 with fail
  go_cut [9] (fun _ wx => ∃ B : List Bool, B.length = m ∧ NewSet w1 wx bh v B)
  case first =>
    go_wp2_with fail
    go_loopw [9] (fun s9 wr => ∃ (k : Nat) (B : List Bool), s9 = .int .i64 k ∧ k ≤ n1 ∧ B.length = m ∧ NewSet w1 wr bh v B) (fun s9 _ => n1 - (intOf s9).toNat)
    case atStart => exact ⟨0, _, rfl, Nat.zero_le _, by simp, N1.out⟩
    case round =>
      obtain ⟨k, B, rfl, hk, hB, hN⟩ := hrel
      have HB := Lib.hid hB; have HN := Lib.hid hN
      have hIv := H1.out.fr (F1.out.trans hN.fr (fun _ _ h => h)) (fun _ _ h => h) (by omega)
      clear hB hN
      by_cases hlt : k < n1
      · have hlt' : (k : Int) < (n1 : Int) := by omega
        obtain ⟨a', c', e1, _, _, hor⟩ := hIv
        simp only [Value.slice.injEq] at e1
        obtain ⟨rfl, _, rfl⟩ := e1
        obtain ⟨lb, lo, rfl, hcell⟩ := hor.resolve_left (by omega)
        have kx := (hcell k 0 hlt (by omega)).1
        obtain ⟨lf1, lf2⟩ := (hcell k 0 hlt (by omega)).2
        simp only [Nat.mul_one, Nat.add_zero] at kx
        obtain ⟨lx, hlx⟩ : ∃ x, x = K1 k 0 := ⟨_, rfl⟩
        rw [← hlx] at kx lf1 lf2
        have Hlt := Lib.hid hlt
        have k0 : (0 : Int) ≤ (k : Int) := by omega
        obtain ⟨mm, hmm⟩ : ∃ mm : Int, mm = max (m : Int) 1 := ⟨_, rfl⟩
        have hp := fun w0 => pick_ok lx mm w0 lf1 lf2 (by omega) (by omega)
        have HP := Lib.hid hp
        have HM := Lib.hid hmm
        clear hcell hlx hor hlt lf1 lf2 hp
        by_cases hm0 : 1 ≤ m
        · obtain rfl : mm = (m : Int) := by omega
          have hmi : (1 : Int) ≤ (m : Int) := by omega
          clear hmm
          go_wp2_with fail
          refine (HP.out wr).mono ?_
          rintro e w4 ⟨rfl, rfl⟩
          go_wp2_with fail
          refine (put_some HN.out.at_ HN.out.ne _).mono ?_
          rintro e w5 ⟨rr, C, rfl, hC, sC, fC⟩
          have Hnx := Lib.hid (HN.out.step sC fC)
          have HC := Lib.hid hC
          clear hC sC fC
          go_wp2_with fail
          go_roundw
          case rel => exact ⟨k + 1, C, by first | (simp; done) | go_num, Hlt.out, by rw [HC.out]; exact HB.out, Hnx.out⟩
          case measure => have := Hlt.out; simp [intOf]; omega
        · obtain rfl : mm = 1 := by omega
          have hmi : (m : Int) < 1 := by omega
          clear hmm hm0
          go_wp2_with fail
          refine (HP.out wr).mono ?_
          rintro e w4 ⟨rfl, rfl⟩
          go_wp2_with fail
          refine (put_some HN.out.at_ HN.out.ne _).mono ?_
          rintro e w5 ⟨rr, C, rfl, hC, sC, fC⟩
          have Hnx := Lib.hid (HN.out.step sC fC)
          have HC := Lib.hid hC
          clear hC sC fC
          go_wp2_with fail
          go_roundw
          case rel => exact ⟨k + 1, C, by first | (simp; done) | go_num, Hlt.out, by rw [HC.out]; exact HB.out, Hnx.out⟩
          case measure => have := Hlt.out; simp [intOf]; omega
      · obtain rfl : k = n1 := by omega
        clear hlt hIv
        go_wp2_with fail
        go_meet
        exact ⟨B, HB.out, HN.out⟩
  case rest =>
  obtain ⟨B, hB, hN⟩ := hcut
  have HN := Lib.hid hN
  have HT2 := Lib.hid (HT.out.fr (F1.out.trans hN.fr (fun _ _ h => h)) (fun h => h))
  clear hN N1 Hpk
  obtain ⟨nx, hnx⟩ : ∃ nx, nx = seekI true B i := ⟨_, rfl⟩
  obtain ⟨fx, hfx⟩ : ∃ fx, fx = seekI false B i := ⟨_, rfl⟩
  have hNX := seek_facts true B i
  have hFX := seek_facts false B i
  have NXC := Lib.hid (next_ok HT2.out HN.out.at_ i)
  have FXC := Lib.hid (free_ok HT2.out HN.out.at_ i)
  rw [← hnx] at hNX NXC
  rw [← hfx] at hFX FXC
  have HNX := Lib.hid hNX; have HFX := Lib.hid hFX
  have HB := Lib.hid hB
  clear hnx hfx hNX hFX hB
  go_wp2_with fail
  refine NXC.out.mono ?_
  rintro e w4 ⟨rfl, rfl⟩
  go_wp2_with fail
  refine FXC.out.mono ?_
  rintro e w4 ⟨rfl, rfl⟩
  go_upto_region 12 with fail
  go_cut [12] (fun s12 wx => s12 = .int .i64 (i.toNat : Nat) ∧ wc = wx)
  case first =>
    go_wp2_with fail
    all_goals go_meet
    all_goals refine ⟨?_, rfl⟩
    all_goals congr 1
    all_goals omega
  case rest =>
  obtain ⟨rfl, rfl⟩ := hcut
  have h2 : (m : Int) < 3000 := by omega
  go_upto_block 2 with fail
  go_cut [12] (fun _ wx => wc = wx)
  case first =>
    go_wp2_with fail
    go_loopw [12] (fun s12 wr => ∃ k : Nat, s12 = .int .i64 k ∧ i ≤ (k : Int) ∧ wc = wr) (fun s12 _ => m - (intOf s12).toNat)
    case atStart => exact ⟨i.toNat, rfl, by omega, rfl⟩
    case round =>
      obtain ⟨k, rfl, hik, rfl⟩ := hrel
      have Hik := Lib.hid hik
      by_cases hlt : k < m
      · have hlt' : (k : Int) < (m : Int) := by omega
        have HC := Lib.hid (has_ok HN.out.at_ (k : Int))
        cases hb : B.getD k false with
        | true =>
          have hq1 : decide (nx < i) = false ∧ decide ((k : Int) < nx) = false := by
            rcases HNX.out with ⟨_, h⟩ | ⟨q, h1, h2, h3, h4, h5⟩
            · exact absurd hb (h k hik (by rw [HB.out]; exact hlt))
            · have := h5 k hik (by rw [HB.out]; exact hlt) hb
              exact ⟨by simp; omega, by simp; omega⟩
          obtain ⟨g1, g2⟩ := hq1
          simp only [Int.toNat_natCast, hb, Int.natCast_nonneg, decide_true, Bool.and_self] at HC
          have Hlt := Lib.hid hlt
          clear hb hlt hik
          go_wp2_with fail
          refine HC.out.mono ?_
          rintro e w4 ⟨rfl, rfl⟩
          go_wp2_with fail
          refine HC.out.mono ?_
          rintro e w4 ⟨rfl, rfl⟩
          go_wp2_with fail
          go_roundw
          case rel => exact ⟨k + 1, by first | (simp; done) | go_num, by have := Hik.out; omega, trivial⟩
          case measure => have := Hlt.out; simp [intOf]; omega
        | false =>
          have hq1 : decide (fx < i) = false ∧ decide ((k : Int) < fx) = false := by
            rcases HFX.out with ⟨_, h⟩ | ⟨q, h1, h2, h3, h4, h5⟩
            · exact absurd hb (h k hik (by rw [HB.out]; exact hlt))
            · have := h5 k hik (by rw [HB.out]; exact hlt) hb
              exact ⟨by simp; omega, by simp; omega⟩
          obtain ⟨g1, g2⟩ := hq1
          simp only [Int.toNat_natCast, hb, Bool.and_false] at HC
          have Hlt := Lib.hid hlt
          clear hb hlt hik
          go_wp2_with fail
          refine HC.out.mono ?_
          rintro e w4 ⟨rfl, rfl⟩
          go_wp2_with fail
          refine HC.out.mono ?_
          rintro e w4 ⟨rfl, rfl⟩
          go_wp2_with fail
          go_roundw
          case rel => exact ⟨k + 1, by first | (simp; done) | go_num, by have := Hik.out; omega, trivial⟩
          case measure => have := Hlt.out; simp [intOf]; omega
      · have hlt' : ¬ (k : Int) < (m : Int) := by omega
        clear hlt hik
        go_wp2_with fail
        go_meet
        rfl
  case rest =>
  obtain rfl := hcut
  go_upto_region 17 with fail
  go_cut [13] (fun s13 wx => s13 = .bool true ∧ wc = wx)
  case first =>
    rcases HNX.out with ⟨rfl, _⟩ | ⟨q, rfl, h1, h3, h4, _⟩
    · go_wp2_with fail
      go_meet
      exact ⟨rfl, rfl⟩
    · have HC := Lib.hid (has_ok HN.out.at_ (q : Int))
      simp only [Int.toNat_natCast, h4, Int.natCast_nonneg, decide_true, Bool.and_self] at HC
      have hqm : (q : Int) < (m : Int) := by have := HB.out; omega
      have g0 : ((q : Int) == -1) = false := by first | (simp; done) | (simp; omega)
      have g1 : decide (i ≤ (q : Int)) = true := by simpa using h1
      clear h1 h3 h4
      go_wp2_with fail
      refine HC.out.mono ?_
      rintro e w4 ⟨rfl, rfl⟩
      go_wp2_with fail
      go_meet
      exact ⟨rfl, rfl⟩
  case rest =>
  obtain ⟨rfl, rfl⟩ := hcut
  have HF := Lib.hid (F1.out.trans HN.out.fr (fun _ _ h => h))
  rcases HFX.out with ⟨rfl, _⟩ | ⟨q, rfl, h1, h3, h4, _⟩
  · go_wp2_with fail
    go_ret
    exact ⟨rfl, HF.out⟩
  · have HC := Lib.hid (has_ok HN.out.at_ (q : Int))
    simp only [Int.toNat_natCast, h4, Bool.and_false] at HC
    have hqm : (q : Int) < (m : Int) := by have := HB.out; omega
    have g0 : ((q : Int) == -1) = false := by first | (simp; done) | (simp; omega)
    have g1 : decide (i ≤ (q : Int)) = true := by simpa using h1
    clear h1 h3 h4
    go_wp2_with fail
    refine HC.out.mono ?_
    rintro e w4 ⟨rfl, rfl⟩
    go_wp2_with fail
    go_ret
    exact ⟨rfl, HF.out⟩
end Go.Proofs.YtbfkmogibgchmaaDoor.Bt
