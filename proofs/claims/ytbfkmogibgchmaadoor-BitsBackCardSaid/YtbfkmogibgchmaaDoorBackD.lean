/- BitsBack's walk at the greatest bound. Condition: the table of math/bits. -/
import Derived.Test.YtbfkmogibgchmaaDoorBackB
namespace Go.Proofs.YtbfkmogibgchmaaDoor.Bt
open Go.RowKit Go.Shelf
set_option maxRecDepth 100000 in
set_option maxHeartbeats 8000000 in
theorem back_max (w : World) (hT : TabOk w) {m : Nat} (h6 : m ≤ 65536) (hmx : m = 65536) {a1 : Option Addr} {c1 : Nat} {K1 : Nat → Nat → Int} {n1 : Nat} (h1 : IntsAt w (.slice a1 n1 c1) 1 K1 n1) :
    Calls Tryd.prog 9 #[.int .i64 m, .slice a1 n1 c1] w fun e w' => e = .returned (.bool true) ∧ Fr (fun _ => False) w w' := by
  have hcm : n1 ≤ 9223372036854775807 := by obtain ⟨_, _, e, h2, h3, _⟩ := id h1; simp only [Value.slice.injEq] at e; obtain ⟨_, _, rfl⟩ := e; unfold maxLen at h3; omega
  have hn1 : (n1 : Int) ≤ 9223372036854775807 := by omega
  have H1 := Lib.hid h1; have HT := Lib.hid hT; have H6 := Lib.hid h6
  have Hmi := Lib.hid (show decide ((m : Int) < 65536) = false by simp; omega)
  have Hmi2 := Lib.hid (show decide (m < 65536) = false by simp; omega)
  have hmo : decide ((65536 : Int) < (m : Int)) = false := by simp; omega
  have hmo2 : decide (65536 < m) = false := by simp; omega
  clear h1 hT h6 hmx hcm
  go_enter Tryd.func9, Tryd.ntmps9
  go_wp2_with fail
  refine (awake_ok HT.out).mono ?_
  rintro e w1 ⟨rfl, f1⟩
  have F1 := Lib.hid f1; clear f1
  go_wp2_with fail
  refine (new_ok w1 (n := (m : Int)) (by omega) (by have := H6.out; omega)).mono ?_
  rintro e w2 ⟨bh, v, rfl, s1, s2, s3, s4⟩
  have N1 := Lib.hid (NewSet.mk (w := w1) s1 s2 s3 s4)
  clear s1 s2 s3 s4
  have hm0 : decide ((m : Int) < 0) = false := by simp
  go_upto_block 0 with fail
  clear hmo hmo2 hm0
  go_cut [7, 8, 9] (fun _ _ _ wx => ∃ B : List Bool, B.length = m ∧ NewSet w1 wx bh v B)
  case first =>
    go_wp2_with fail
    go_loopw [7, 8, 9] (fun s7 _ _ wr => ∃ (k : Nat) (B : List Bool), s7 = .int .i64 k ∧ k ≤ n1 ∧ B.length = m ∧ NewSet w1 wr bh v B) (fun s7 _ _ _ => n1 - (intOf s7).toNat)
    case atStart => exact ⟨0, _, rfl, Nat.zero_le _, by simp, N1.out⟩
    case round =>
      obtain ⟨k, B, rfl, hk, hB, hN⟩ := hrel
      have HB := Lib.hid hB; have HN := Lib.hid hN
      clear hB hN
      by_cases hlt : k < n1
      · have hlt' : (k : Int) < (n1 : Int) := by omega
        obtain ⟨lb, lo, rfl, kx, lf1, lf2⟩ := (H1.out.fr (F1.out.trans HN.out.fr (fun _ _ h => h)) (fun _ _ h => h) (by omega)).at1 hlt
        obtain ⟨lx, hlx⟩ : ∃ x, x = K1 k 0 := ⟨_, rfl⟩
        rw [← hlx] at kx lf1 lf2
        have Hlt := Lib.hid hlt; have Hlx := Lib.hid hlx
        have k0 : (0 : Int) ≤ (k : Int) := by omega
        clear hlx hlt
        by_cases hin : 0 ≤ lx ∧ lx < (m : Int)
        · obtain ⟨j, rfl⟩ : ∃ j : Nat, lx = (j : Int) := ⟨lx.toNat, by omega⟩
          have hj : j < m := by omega
          have hj2 : (j : Int) < (m : Int) := hin.2
          have HP := Lib.hid (put_in HN.out.at_ HN.out.ne (j := j) (by rw [HB.out]; exact hj))
          have HJ := Lib.hid hj
          clear hin hj lf1 lf2
          go_wp2_with fail
          refine HP.out.mono ?_
          rintro e w5 ⟨rfl, sC, fC⟩
          have Hnx := Lib.hid (HN.out.step sC fC)
          obtain ⟨lb', lo', e1, kx5, _, _⟩ := (H1.out.fr (F1.out.trans Hnx.out.fr (fun _ _ h => h)) (fun _ _ h => h) (by omega)).at1 Hlt.out
          simp only [Option.some.injEq, Addr.mk.injEq, and_true] at e1
          obtain ⟨rfl, rfl⟩ := e1
          rw [← Hlx.out] at kx5
          have HC := Lib.hid (has_ok Hnx.out.at_ (j : Int))
          rw [Int.toNat_natCast, getD_set_b, if_pos ⟨rfl, by rw [HB.out]; exact HJ.out⟩] at HC
          simp only [Int.natCast_nonneg, decide_true, Bool.and_self] at HC
          clear sC fC
          go_wp2_with fail
          refine HC.out.mono ?_
          rintro e w6 ⟨rfl, rfl⟩
          go_wp2_with fail
          go_roundw
          case rel => exact ⟨k + 1, _, by first | (simp; done) | go_num, Hlt.out, by rw [List.length_set]; exact HB.out, Hnx.out⟩
          case measure => have := Hlt.out; simp [intOf]; omega
        · have HP := Lib.hid (put_out HN.out.at_ (i := lx) (by rw [HB.out]; omega))
          have HC := Lib.hid (has_ok HN.out.at_ lx)
          have hf : (decide (0 ≤ lx) && B.getD lx.toNat false) = false := by
            by_cases h0 : 0 ≤ lx
            · rw [List.getD_eq_getElem?_getD, List.getElem?_eq_none (by have := HB.out; omega)]; simp
            · simp [h0]
          rw [hf] at HC
          obtain ⟨bq, hbq⟩ : ∃ b, decide (0 ≤ lx) = b := ⟨_, rfl⟩
          have hbm : bq = true → decide (lx < (m : Int)) = false := by intro h; subst h; simp at hbq; simp; omega
          have Hbm := Lib.hid hbm
          clear hin hf hbm
          cases bq with
          | true =>
            have hbm := Hbm.out rfl
            go_wp2_with fail
            refine HP.out.mono ?_
            rintro e w5 ⟨rfl, rfl⟩
            go_wp2_with fail
            refine HC.out.mono ?_
            rintro e w6 ⟨rfl, rfl⟩
            go_wp2_with fail
            go_roundw
            case rel => exact ⟨k + 1, B, by first | (simp; done) | go_num, Hlt.out, HB.out, HN.out⟩
            case measure => have := Hlt.out; simp [intOf]; omega
          | false =>
            go_wp2_with fail
            refine HP.out.mono ?_
            rintro e w5 ⟨rfl, rfl⟩
            go_wp2_with fail
            refine HC.out.mono ?_
            rintro e w6 ⟨rfl, rfl⟩
            go_wp2_with fail
            go_roundw
            case rel => exact ⟨k + 1, B, by first | (simp; done) | go_num, Hlt.out, HB.out, HN.out⟩
            case measure => have := Hlt.out; simp [intOf]; omega
      · obtain rfl : k = n1 := by omega
        clear hlt
        go_wp2_with fail
        go_meet
        exact ⟨B, HB.out, HN.out⟩
  case rest =>
  obtain ⟨B, hB, hN⟩ := hcut
  have HN := Lib.hid hN; have HB := Lib.hid hB
  clear hN N1 hB
  have hm6 : (m : Int) ≤ 65536 := by have := H6.out; omega
  go_wp2_with fail
  refine (bytes_ok HN.out.at_).mono ?_
  rintro e w3 ⟨a3, c3, rfl, r3, o3, f3⟩
  have N3 := Lib.hid (HN.out.keep f3); have R3 := Lib.hid r3
  clear r3 o3 f3
  go_wp2_with fail
  refine (back_of HB.out H6.out R3.out).mono ?_
  rintro e w4 ⟨th, tv, rfl, t4⟩
  have N4 := Lib.hid (N3.out.keep t4.fr); have T4 := Lib.hid t4
  clear t4
  go_wp2_with fail
  refine (same_ok N4.out.at_ T4.out.at_).mono ?_
  rintro e w5 ⟨rfl, f5⟩
  have N5 := Lib.hid (N4.out.keep f5); have T5 := Lib.hid (T4.out.keep f5)
  clear f5
  simp only [decide_true]
  go_wp2_with fail
  refine (same_ok T5.out.at_ N5.out.at_).mono ?_
  rintro e w6 ⟨rfl, f6⟩
  have N6 := Lib.hid (N5.out.keep f6); have T6 := Lib.hid (T5.out.keep f6)
  clear f6
  simp only [decide_true]
  have HTz := Lib.hid (HT.out.fr (F1.out.trans N6.out.fr (fun _ _ h => h)) (fun h => h))
  have Nz := N6; have Tz := T6
  have hmi := Hmi.out; have hmi2 := Hmi2.out
  go_wp2_with fail
  clear hmi hmi2
  refine (all_ok HTz.out Tz.out.at_).mono ?_
  rintro e wa ⟨cb5, bq5, vq5, rfl, hseq⟩
  have Hsq := Lib.hid hseq
  have Na := Lib.hid (Nz.out.keep hseq.fr); have Ta := Lib.hid (Tz.out.keep hseq.fr)
  clear hseq
  go_wp2_with fail
  refine (told_ok Hsq.out.seq).mono ?_
  rintro e wb ⟨sv5, rfl, r5, -, f5⟩
  have Nb := Lib.hid (Na.out.keep f5); have Tb := Lib.hid (Ta.out.keep f5); have Rb := Lib.hid r5
  have Fb := Lib.hid (Hsq.out.fr.trans f5 (fun _ _ h => h))
  clear f5 r5
  go_wp2_with fail
  refine (gaps_ok (HTz.out.fr Fb.out (fun h => h)) Tb.out.at_).mono ?_
  rintro e wc ⟨cb7, bq7, vq7, rfl, hseq⟩
  have Hsq7 := Lib.hid hseq
  have Nc := Lib.hid (Nb.out.keep hseq.fr); have Fc := Lib.hid (Fb.out.trans hseq.fr (fun _ _ h => h))
  clear hseq
  go_wp2_with fail
  refine (pairs_ok Hsq7.out.seq).mono ?_
  rintro e wd ⟨sv7, rfl, r7, -, f7⟩
  have Nd := Lib.hid (Nc.out.keep f7); have R7 := Lib.hid r7; have Fd := Lib.hid (Fc.out.trans f7 (fun _ _ h => h))
  have R5 := Lib.hid (Row.fr Rb.out (Hsq7.out.fr.trans f7 (fun _ _ h => h)) (fun _ _ h => h))
  clear f7 r7
  obtain ⟨ni, hni⟩ : ∃ ni, ni = (asInts (allL B)).length := ⟨_, rfl⟩
  obtain ⟨no, hno⟩ : ∃ no, no = (flatG (gapsL B)).length := ⟨_, rfl⟩
  have hni2 : ni = (allL B).length := by rw [hni]; simp [asInts]
  have hno2 : no = 2 * (gapsL B).length := by rw [hno, flatG_length]
  have hnic : ni = cnt B := by rw [hni2, allL_cnt]
  have hni6 : ni ≤ 65536 := by have := allTo_len B B.length; have h2 := HB.out; have h3 := H6.out; rw [hni2]; unfold allL; omega
  have hno6 : no ≤ 200000 := by have := gapsL_len B; have h2 := HB.out; have h3 := H6.out; rw [hno2]; omega
  rw [← hni] at R5
  rw [← hno] at R7
  obtain ⟨a5, c5, rfl⟩ : ∃ a c, sv5 = .slice a ni c := by obtain ⟨a, c, e, _⟩ := row_cell R5.out; exact ⟨a, c, e⟩
  obtain ⟨a7, c7, rfl⟩ : ∃ a c, sv7 = .slice a no c := by obtain ⟨a, c, e, _⟩ := row_cell R7.out; exact ⟨a, c, e⟩
  have HNI := Lib.hid hni2; have HNO := Lib.hid hno2; have HC := Lib.hid (count_ok Nd.out.at_)
  rw [← hnic] at HC
  clear hni hno hni2 hno2 hnic
  go_wp2_with fail
  refine HC.out.mono ?_
  rintro e we ⟨rfl, rfl⟩
  go_upto_block 4 with fail
  go_cut [19, 20, 21] (fun s19 s20 s21 wx => s19 = .int .i64 m ∧ s20 = .int .i64 ni ∧ s21 = .int .i64 no ∧ Fr (fun _ => False) wd wx)
  case first =>
    go_wp2_with fail
    go_loopw [19, 20, 21] (fun s19 s20 s21 wr => ∃ i k g : Nat, s19 = .int .i64 i ∧ s20 = .int .i64 k ∧ s21 = .int .i64 g ∧ Spot B i ∧ k = (allTo B i).length ∧ g = 2 * (gapsTo B i).length ∧ Fr (fun _ => False) wd wr) (fun s19 _ _ _ => m - (intOf s19).toNat)
    case atStart => exact ⟨0, 0, 0, rfl, rfl, rfl, ⟨Nat.zero_le _, .inl rfl⟩, rfl, rfl, Fr.refl _ _⟩
    case round =>
      obtain ⟨i, k, g, rfl, rfl, rfl, hsp, hk, hg, fr⟩ := hrel
      have him : i ≤ m := by have := hsp.1; have h2 := HB.out; omega
      have hki : k ≤ ni := by rw [hk, HNI.out]; exact (allTo_prefix B hsp.1).length_le
      have hgo : g ≤ no := by rw [hg, HNO.out]; have := (spot_prefix hsp).length_le; omega
      have i6 : (i : Int) ≤ 65536 := by have := H6.out; omega
      have k6 : (k : Int) ≤ 65536 := by omega
      have g6 : (g : Int) ≤ 200000 := by omega
      have Hsp := Lib.hid hsp; have Hk := Lib.hid hk; have Hg := Lib.hid hg; have Hfr := Lib.hid fr
      have HR5 := Lib.hid (Row.fr R5.out fr (fun _ _ h => h)); have HR7 := Lib.hid (Row.fr R7.out fr (fun _ _ h => h))
      clear hsp hk hg fr
      by_cases hlt : i < m
      · have hlt' : (i : Int) < (m : Int) := by omega
        have Hlt := Lib.hid hlt
        cases hb : B.getD i false with
        | true =>
          obtain ⟨e1, e2, e3, e4, e5⟩ := spot_in Hsp.out hb
          rw [← Hk.out] at e1
          obtain ⟨g5, rfl, ky, hkn⟩ := row_i64 HR5.out (asInts_get e1)
          have hkn' : (k : Int) < (ni : Int) := by omega
          have hkn1 : decide ((ni : Int) ≤ (k : Int)) = false := by simp; omega
          have hkn2 : decide (ni ≤ k) = false := by simp; omega
          have hb0 : ((i : Int) != (i : Int)) = false := by simp
          have hout : g < no → ∃ (g7 : Nat) (x : Nat), a7 = some ⟨g7, 0, none⟩ ∧ wr.cell? ⟨g7, g, none⟩ = some (.int .i64 (x : Int)) ∧ x ≠ i := by
            intro hgn
            have hj : (gapsTo B i).length < (gapsL B).length := by have h1 := Hg.out; have h2 := HNO.out; omega
            have hx : (gapsL B)[(gapsTo B i).length]? = some ((gapsL B)[(gapsTo B i).length]) := List.getElem?_eq_getElem hj
            have hf := flatG_even (gapsL B) (gapsTo B i).length
            rw [hx, ← Hg.out] at hf
            obtain ⟨g7, e7, kz, _⟩ := row_i64 HR7.out hf
            exact ⟨g7, _, e7, kz, e2 _ hx⟩
          have Hout := Lib.hid hout
          obtain ⟨ip, hip⟩ : ∃ ip, ip = i + 1 := ⟨_, rfl⟩
          obtain ⟨kq, hkq⟩ : ∃ kq, kq = k + 1 := ⟨_, rfl⟩
          have wi1 : IntKind.i64.wrap (ip : Int) = (ip : Int) := by rw [IntKind.wrap_i64]; omega
          have wi2 : (i : Int) + 1 = (ip : Int) := by omega
          have wi3 : wrap64 (ip : Int) = (ip : Int) := by unfold wrap64; omega
          have wk1 : IntKind.i64.wrap (kq : Int) = (kq : Int) := by rw [IntKind.wrap_i64]; omega
          have wk2 : (k : Int) + 1 = (kq : Int) := by omega
          have wk3 : wrap64 (kq : Int) = (kq : Int) := by unfold wrap64; omega
          rw [← hip] at e3 e4 e5
          have E3 := Lib.hid e3; have E4 := Lib.hid e4; have E5 := Lib.hid e5; have HIP := Lib.hid hip; have HKQ := Lib.hid hkq
          clear hb e1 e2 e3 e4 e5 hout him hki hgo hlt hkn hip hkq i6 k6 g6
          by_cases hgn : g < no
          · obtain ⟨g7, x, rfl, kz, hne⟩ := Hout.out hgn
            have hgn' : (g : Int) < (no : Int) := by omega
            have hbx : ((x : Int) == (i : Int)) = false := by simp; omega
            clear hgn hne
            go_wp2_with fail
            go_roundw
            case rel => exact ⟨ip, kq, g, rfl, rfl, rfl, E3.out, by rw [HKQ.out, E4.out, List.length_append, ← Hk.out]; rfl, by rw [E5.out]; exact Hg.out, Hfr.out⟩
            case measure => have := Hlt.out; have := HIP.out; simp [intOf]; omega
          · have hgn' : decide ((g : Int) < (no : Int)) = false := by simp; omega
            have hgn2 : decide (g < no) = false := by simp; omega
            clear hgn
            go_wp2_with fail
            go_roundw
            case rel => exact ⟨ip, kq, g, rfl, rfl, rfl, E3.out, by rw [HKQ.out, E4.out, List.length_append, ← Hk.out]; rfl, by rw [E5.out]; exact Hg.out, Hfr.out⟩
            case measure => have := Hlt.out; have := HIP.out; simp [intOf]; omega
        | false =>
          obtain ⟨mm, d1, d2, d3, d4, d5, d6, d7, d8⟩ := spot_out Hsp.out (by have := HB.out; omega) hb
          have hf := flatG_even (gapsL B) (gapsTo B i).length
          rw [d3, ← Hg.out] at hf
          have hf2 := flatG_odd (gapsL B) (gapsTo B i).length
          rw [d3, ← Hg.out] at hf2
          obtain ⟨g7, rfl, kz, hgn⟩ := row_i64 HR7.out hf
          obtain ⟨p, hp⟩ : ∃ p, p = g + 1 := ⟨_, rfl⟩
          rw [← hp] at hf2
          obtain ⟨g7', e7, kp, hpn⟩ := row_i64 HR7.out hf2
          obtain rfl : g7 = g7' := by simpa using e7
          simp only at kz kp
          have hgn' : (g : Int) < (no : Int) := by omega
          have hpn' : (p : Int) < (no : Int) := by omega
          have hp0 : (0 : Int) ≤ (p : Int) := by omega
          have hp2 : (g : Int) + 1 = (p : Int) := by omega
          obtain ⟨q, hq⟩ : ∃ q, q = i + mm := ⟨_, rfl⟩
          have hqm : q ≤ m := by have := HB.out; omega
          have hq2 : (i : Int) + (mm : Int) = (q : Int) := by omega
          obtain ⟨z, hz⟩ : ∃ z, z = g + 2 := ⟨_, rfl⟩
          have hz2 : (g : Int) + 2 = (z : Int) := by omega
          have hbi : ((i : Int) == (i : Int)) = true := by simp
          have hm1 : decide ((mm : Int) < 1) = false := by simp; omega
          have hm2 : decide (mm < 1) = false := by simp; omega
          rw [← hq] at d4 d5 d6 d7 d8
          have hin : k < ni → ∃ (g5 : Nat) (y : Nat), a5 = some ⟨g5, 0, none⟩ ∧ wr.cell? ⟨g5, k, none⟩ = some (.int .i64 (y : Int)) ∧ q ≤ y := by
            intro hkn
            have hj : k < (allL B).length := by have h2 := HNI.out; omega
            have hx : (allL B)[k]? = some ((allL B)[k]) := List.getElem?_eq_getElem hj
            obtain ⟨g5, e5, ky, _⟩ := row_i64 HR5.out (asInts_get hx)
            exact ⟨g5, _, e5, ky, d6 _ (by rw [← Hk.out]; exact hx)⟩
          have hout : z < no → ∃ x : Nat, wr.cell? ⟨g7, z, none⟩ = some (.int .i64 (x : Int)) ∧ x ≠ q := by
            intro hzn
            have hj : (gapsTo B i).length + 1 < (gapsL B).length := by have h1 := Hg.out; have h2 := HNO.out; omega
            have hx : (gapsL B)[(gapsTo B i).length + 1]? = some ((gapsL B)[(gapsTo B i).length + 1]) := List.getElem?_eq_getElem hj
            have hf := flatG_even (gapsL B) ((gapsTo B i).length + 1)
            rw [hx, show 2 * ((gapsTo B i).length + 1) = z by have h1 := Hg.out; omega] at hf
            obtain ⟨g7', e7, kz, _⟩ := row_i64 HR7.out hf
            obtain rfl : g7 = g7' := by simpa using e7
            exact ⟨_, kz, d7 _ hx⟩
          have Hin := Lib.hid hin; have Hout := Lib.hid hout; have D4 := Lib.hid d4; have D5 := Lib.hid d5; have D8 := Lib.hid d8; have Hz := Lib.hid hz; have HiQ := Lib.hid (show i < q ∧ q ≤ m by omega)
          have q6 : (q : Int) ≤ 65536 := by have := H6.out; omega
          have z6 : (z : Int) ≤ 300000 := by omega
          have hp1 : IntKind.i64.wrap (p : Int) = (p : Int) := by rw [IntKind.wrap_i64]; omega
          have hq1 : IntKind.i64.wrap (q : Int) = (q : Int) := by rw [IntKind.wrap_i64]; omega
          have hz1 : IntKind.i64.wrap (z : Int) = (z : Int) := by rw [IntKind.wrap_i64]; omega
          clear hb hf hf2 d1 d2 d3 d4 d5 d6 d7 d8 hin hout e7 hp hq hz him hki hgo hgn hpn hqm hlt
          go_wp2_with fail
          go_cut [205] (fun s205 wx => s205 = .bool false ∧ Fr (fun _ => False) wr wx)
          case first =>
            by_cases hkn : k < ni
            · obtain ⟨g5, y, rfl, ky, hqy⟩ := Hin.out hkn
              have hkn1 : (k : Int) < (ni : Int) := by omega
              have hyq1 : decide ((y : Int) < (q : Int)) = false := by simp; omega
              have hyq2 : decide (y < q) = false := by simp; omega
              clear hkn hqy
              refine wp_region_held_drew (S := fun w' => Fr (fun _ => False) wr w' ∧ w'.cell? ⟨g7, p, none⟩ = some (.int .i64 (mm : Int)) ∧ w'.cell? ⟨g5, k, none⟩ = some (.int .i64 (y : Int))) (by kernel_rfl) (by exact ⟨Fr.drew (Fr.refl _ _), kp, ky⟩) (fun hHeld => ?_)
              refine wpAnyH_take (i := 0) (v := ?_) rfl (by kernel_rfl) (by kernel_rfl) (by kernel_rfl) (fun _ _ _ h => h) (Or.inl ⟨by rfl, ?_⟩) (by assumption) ?_
              rotate_left
              · intro w' hSw; (try dsimp only at hSw); go_simp; try with_reducible rfl
              try simp only [Act.put, List.getElem_toArray, List.getElem_cons_zero, List.getElem_cons_succ, List.setIfInBounds_toArray, List.set_cons_zero, List.set_cons_succ]
              refine wpAnyH_take (i := 1) (v := ?_) rfl (by kernel_rfl) (by kernel_rfl) (by kernel_rfl) (fun _ _ _ h => h) (Or.inl ⟨by rfl, ?_⟩) (by assumption) ?_
              rotate_left
              · intro w' hSw; (try dsimp only at hSw); go_simp; try with_reducible rfl
              try simp only [Act.put, List.getElem_toArray, List.getElem_cons_zero, List.getElem_cons_succ, List.setIfInBounds_toArray, List.set_cons_zero, List.set_cons_succ]
              refine wpAnyH_take (i := 2) (v := ?_) rfl (by kernel_rfl) (by kernel_rfl) (by kernel_rfl) (fun _ _ _ h => h) (Or.inl ⟨by rfl, ?_⟩) (by assumption) ?_
              rotate_left
              · intro w' hSw; (try dsimp only at hSw); go_simp; try with_reducible rfl
              try simp only [Act.put, List.getElem_toArray, List.getElem_cons_zero, List.getElem_cons_succ, List.setIfInBounds_toArray, List.set_cons_zero, List.set_cons_succ]
              refine wpAnyH_take (i := 3) (v := ?_) rfl (by kernel_rfl) (by kernel_rfl) (by kernel_rfl) (fun _ _ _ h => h) (Or.inl ⟨by rfl, ?_⟩) (by assumption) ?_
              rotate_left
              · intro w' hSw; (try dsimp only at hSw); go_simp; try with_reducible rfl
              try simp only [Act.put, List.getElem_toArray, List.getElem_cons_zero, List.getElem_cons_succ, List.setIfInBounds_toArray, List.set_cons_zero, List.set_cons_succ]
              refine wpAnyH_take (i := 4) (v := ?_) rfl (by kernel_rfl) (by kernel_rfl) (by kernel_rfl) (fun _ _ _ h => h) (Or.inl ⟨by rfl, ?_⟩) (by assumption) ?_
              rotate_left
              · intro w' hSw; (try dsimp only at hSw); go_simp; try with_reducible rfl
              try simp only [Act.put, List.getElem_toArray, List.getElem_cons_zero, List.getElem_cons_succ, List.setIfInBounds_toArray, List.set_cons_zero, List.set_cons_succ]
              refine wpAnyH_take (i := 5) (v := ?_) rfl (by kernel_rfl) (by kernel_rfl) (by kernel_rfl) (fun _ _ _ h => h) (Or.inl ⟨by rfl, ?_⟩) (by assumption) ?_
              rotate_left
              · intro w' hSw; (try dsimp only at hSw); go_simp; try with_reducible rfl
              try simp only [Act.put, List.getElem_toArray, List.getElem_cons_zero, List.getElem_cons_succ, List.setIfInBounds_toArray, List.set_cons_zero, List.set_cons_succ]
              refine wpAnyH_take (i := 6) (v := ?_) rfl (by kernel_rfl) (by kernel_rfl) (by kernel_rfl) (fun _ _ _ h => h) (Or.inl ⟨by rfl, ?_⟩) (by assumption) ?_
              rotate_left
              · intro w' hSw; (try dsimp only at hSw); go_simp; try with_reducible rfl
              try simp only [Act.put, List.getElem_toArray, List.getElem_cons_zero, List.getElem_cons_succ, List.setIfInBounds_toArray, List.set_cons_zero, List.set_cons_succ]
              refine wpAnyH_take (i := 7) (v := ?_) rfl (by kernel_rfl) (by kernel_rfl) (by kernel_rfl) (fun _ _ _ h => h) (Or.inl ⟨by rfl, ?_⟩) (by assumption) ?_
              rotate_left
              · intro w' hSw; (try dsimp only at hSw); go_simp; try with_reducible rfl
              try simp only [Act.put, List.getElem_toArray, List.getElem_cons_zero, List.getElem_cons_succ, List.setIfInBounds_toArray, List.set_cons_zero, List.set_cons_succ]
              refine wpAnyH_take (i := 8) (v := ?_) rfl (by kernel_rfl) (by kernel_rfl) (by kernel_rfl) (fun _ _ _ h => h) (Or.inl ⟨by rfl, ?_⟩) (by assumption) ?_
              rotate_left
              · intro w' hSw; (try dsimp only at hSw); go_simp; try with_reducible rfl
              try simp only [Act.put, List.getElem_toArray, List.getElem_cons_zero, List.getElem_cons_succ, List.setIfInBounds_toArray, List.set_cons_zero, List.set_cons_succ]
              refine wpAnyH_take (i := 9) (v := ?_) rfl (by kernel_rfl) (by kernel_rfl) (by kernel_rfl) (fun _ _ _ h => h) (Or.inl ⟨by rfl, ?_⟩) (by assumption) ?_
              rotate_left
              · intro w' hSw; (try dsimp only at hSw); go_simp; try with_reducible rfl
              try simp only [Act.put, List.getElem_toArray, List.getElem_cons_zero, List.getElem_cons_succ, List.setIfInBounds_toArray, List.set_cons_zero, List.set_cons_succ]
              refine wpAnyH_take (i := 10) (v := ?_) rfl (by kernel_rfl) (by kernel_rfl) (by kernel_rfl) (fun _ _ _ h => h) (Or.inl ⟨by rfl, ?_⟩) (by assumption) ?_
              rotate_left
              · intro w' hSw; (try dsimp only at hSw); go_simp; try with_reducible rfl
              try simp only [Act.put, List.getElem_toArray, List.getElem_cons_zero, List.getElem_cons_succ, List.setIfInBounds_toArray, List.set_cons_zero, List.set_cons_succ]
              refine wpAnyH_take (i := 11) (v := ?_) rfl (by kernel_rfl) (by kernel_rfl) (by kernel_rfl) (fun _ _ _ h => h) (Or.inl ⟨by rfl, ?_⟩) (by assumption) ?_
              rotate_left
              · intro w' hSw; (try dsimp only at hSw); go_simp; try with_reducible rfl
              try simp only [Act.put, List.getElem_toArray, List.getElem_cons_zero, List.getElem_cons_succ, List.setIfInBounds_toArray, List.set_cons_zero, List.set_cons_succ]
              refine wpAnyH_take (i := 12) (v := ?_) rfl (by kernel_rfl) (by kernel_rfl) (by kernel_rfl) (fun _ _ _ h => h) (Or.inl ⟨by rfl, ?_⟩) (by assumption) ?_
              rotate_left
              · intro w' hSw; (try dsimp only at hSw); go_simp; try with_reducible rfl
              try simp only [Act.put, List.getElem_toArray, List.getElem_cons_zero, List.getElem_cons_succ, List.setIfInBounds_toArray, List.set_cons_zero, List.set_cons_succ]
              refine wpAnyH_take (i := 13) (v := ?_) rfl (by kernel_rfl) (by kernel_rfl) (by kernel_rfl) (fun _ _ _ h => h) (Or.inl ⟨by rfl, ?_⟩) (by assumption) ?_
              rotate_left
              · intro w' hSw; (try dsimp only at hSw); go_simp; try with_reducible rfl
              try simp only [Act.put, List.getElem_toArray, List.getElem_cons_zero, List.getElem_cons_succ, List.setIfInBounds_toArray, List.set_cons_zero, List.set_cons_succ]
              refine wpAnyH_take (i := 14) (v := ?_) rfl (by kernel_rfl) (by kernel_rfl) (by kernel_rfl) (fun _ _ _ h => h) (Or.inl ⟨by rfl, ?_⟩) (by assumption) ?_
              rotate_left
              · intro w' hSw; (try dsimp only at hSw); go_simp; try with_reducible rfl
              try simp only [Act.put, List.getElem_toArray, List.getElem_cons_zero, List.getElem_cons_succ, List.setIfInBounds_toArray, List.set_cons_zero, List.set_cons_succ]
              refine wpAnyH_take (i := 15) (v := ?_) rfl (by kernel_rfl) (by kernel_rfl) (by kernel_rfl) (fun _ _ _ h => h) (Or.inl ⟨by rfl, ?_⟩) (by assumption) ?_
              rotate_left
              · intro w' hSw; (try dsimp only at hSw); go_simp; try with_reducible rfl
              try simp only [Act.put, List.getElem_toArray, List.getElem_cons_zero, List.getElem_cons_succ, List.setIfInBounds_toArray, List.set_cons_zero, List.set_cons_succ]
              refine wpAnyH_take (i := 16) (v := ?_) rfl (by kernel_rfl) (by kernel_rfl) (by kernel_rfl) (fun _ _ _ h => h) (Or.inl ⟨by rfl, ?_⟩) (by assumption) ?_
              rotate_left
              · intro w' hSw; (try dsimp only at hSw); go_simp; try with_reducible rfl
              try simp only [Act.put, List.getElem_toArray, List.getElem_cons_zero, List.getElem_cons_succ, List.setIfInBounds_toArray, List.set_cons_zero, List.set_cons_succ]
              refine wpAnyH_take (i := 17) (v := ?_) rfl (by kernel_rfl) (by kernel_rfl) (by kernel_rfl) (fun _ _ _ h => h) (Or.inl ⟨by rfl, ?_⟩) (by assumption) ?_
              rotate_left
              · intro w' hSw; (try dsimp only at hSw); go_simp; try with_reducible rfl
              try simp only [Act.put, List.getElem_toArray, List.getElem_cons_zero, List.getElem_cons_succ, List.setIfInBounds_toArray, List.set_cons_zero, List.set_cons_succ]
              refine wpAnyH_take (i := 18) (v := ?_) rfl (by kernel_rfl) (by kernel_rfl) (by kernel_rfl) (fun _ _ _ h => h) (Or.inl ⟨by rfl, ?_⟩) (by assumption) ?_
              rotate_left
              · intro w' hSw; (try dsimp only at hSw); go_simp; try with_reducible rfl
              try simp only [Act.put, List.getElem_toArray, List.getElem_cons_zero, List.getElem_cons_succ, List.setIfInBounds_toArray, List.set_cons_zero, List.set_cons_succ]
              refine wpAnyH_take (i := 19) (v := ?_) rfl (by kernel_rfl) (by kernel_rfl) (by kernel_rfl) (fun _ _ _ h => h) (Or.inl ⟨by rfl, ?_⟩) (by assumption) ?_
              rotate_left
              · intro w' hSw; (try dsimp only at hSw); go_simp; try with_reducible rfl
              try simp only [Act.put, List.getElem_toArray, List.getElem_cons_zero, List.getElem_cons_succ, List.setIfInBounds_toArray, List.set_cons_zero, List.set_cons_succ]
              refine wpAnyH_take (i := 20) (v := ?_) rfl (by kernel_rfl) (by kernel_rfl) (by kernel_rfl) (fun _ _ _ h => h) (Or.inl ⟨by rfl, ?_⟩) (by assumption) ?_
              rotate_left
              · intro w' hSw; (try dsimp only at hSw); go_simp; try with_reducible rfl
              try simp only [Act.put, List.getElem_toArray, List.getElem_cons_zero, List.getElem_cons_succ, List.setIfInBounds_toArray, List.set_cons_zero, List.set_cons_succ]
              refine wpAnyH_take (i := 21) (v := ?_) rfl (by kernel_rfl) (by kernel_rfl) (by kernel_rfl) (fun _ _ _ h => h) (Or.inl ⟨by rfl, ?_⟩) (by assumption) ?_
              rotate_left
              · intro w' hSw; (try dsimp only at hSw); go_simp; try with_reducible rfl
              try simp only [Act.put, List.getElem_toArray, List.getElem_cons_zero, List.getElem_cons_succ, List.setIfInBounds_toArray, List.set_cons_zero, List.set_cons_succ]
              refine wpAnyH_take (i := 22) (v := ?_) rfl (by kernel_rfl) (by kernel_rfl) (by kernel_rfl) (fun _ _ _ h => h) (Or.inl ⟨by rfl, ?_⟩) (by assumption) ?_
              rotate_left
              · intro w' hSw; (try dsimp only at hSw); go_simp; try with_reducible rfl
              try simp only [Act.put, List.getElem_toArray, List.getElem_cons_zero, List.getElem_cons_succ, List.setIfInBounds_toArray, List.set_cons_zero, List.set_cons_succ]
              refine wpAnyH_take (i := 23) (v := ?_) rfl (by kernel_rfl) (by kernel_rfl) (by kernel_rfl) (fun _ _ _ h => h) (Or.inl ⟨by rfl, ?_⟩) (by assumption) ?_
              rotate_left
              · intro w' hSw; (try dsimp only at hSw); go_simp; try with_reducible rfl
              try simp only [Act.put, List.getElem_toArray, List.getElem_cons_zero, List.getElem_cons_succ, List.setIfInBounds_toArray, List.set_cons_zero, List.set_cons_succ]
              refine wpAnyH_take (i := 24) (v := ?_) rfl (by kernel_rfl) (by kernel_rfl) (by kernel_rfl) (fun _ _ _ h => h) (Or.inl ⟨by rfl, ?_⟩) (by assumption) ?_
              rotate_left
              · intro w' hSw; (try dsimp only at hSw); go_simp; try with_reducible rfl
              try simp only [Act.put, List.getElem_toArray, List.getElem_cons_zero, List.getElem_cons_succ, List.setIfInBounds_toArray, List.set_cons_zero, List.set_cons_succ]
              refine wpAnyH_take (i := 25) (v := ?_) rfl (by kernel_rfl) (by kernel_rfl) (by kernel_rfl) (fun _ _ _ h => h) (Or.inl ⟨by rfl, ?_⟩) (by assumption) ?_
              rotate_left
              · intro w' hSw; (try dsimp only at hSw); go_simp; try with_reducible rfl
              try simp only [Act.put, List.getElem_toArray, List.getElem_cons_zero, List.getElem_cons_succ, List.setIfInBounds_toArray, List.set_cons_zero, List.set_cons_succ]
              refine wpAnyH_done (by kernel_rfl) ?_ _
              go_wp2_with fail
              go_meet
              exact ⟨rfl, hHeld.1⟩
            · have hkn1 : decide ((k : Int) < (ni : Int)) = false := by simp; omega
              have hkn2 : decide (k < ni) = false := by simp; omega
              clear hkn
              refine wp_region_held_drew (S := fun w' => Fr (fun _ => False) wr w' ∧ w'.cell? ⟨g7, p, none⟩ = some (.int .i64 (mm : Int))) (by kernel_rfl) (by exact ⟨Fr.drew (Fr.refl _ _), kp⟩) (fun hHeld => ?_)
              refine wpAnyH_take (i := 0) (v := ?_) rfl (by kernel_rfl) (by kernel_rfl) (by kernel_rfl) (fun _ _ _ h => h) (Or.inl ⟨by rfl, ?_⟩) (by assumption) ?_
              rotate_left
              · intro w' hSw; (try dsimp only at hSw); go_simp; try with_reducible rfl
              try simp only [Act.put, List.getElem_toArray, List.getElem_cons_zero, List.getElem_cons_succ, List.setIfInBounds_toArray, List.set_cons_zero, List.set_cons_succ]
              refine wpAnyH_take (i := 1) (v := ?_) rfl (by kernel_rfl) (by kernel_rfl) (by kernel_rfl) (fun _ _ _ h => h) (Or.inl ⟨by rfl, ?_⟩) (by assumption) ?_
              rotate_left
              · intro w' hSw; (try dsimp only at hSw); go_simp; try with_reducible rfl
              try simp only [Act.put, List.getElem_toArray, List.getElem_cons_zero, List.getElem_cons_succ, List.setIfInBounds_toArray, List.set_cons_zero, List.set_cons_succ]
              refine wpAnyH_take (i := 2) (v := ?_) rfl (by kernel_rfl) (by kernel_rfl) (by kernel_rfl) (fun _ _ _ h => h) (Or.inl ⟨by rfl, ?_⟩) (by assumption) ?_
              rotate_left
              · intro w' hSw; (try dsimp only at hSw); go_simp; try with_reducible rfl
              try simp only [Act.put, List.getElem_toArray, List.getElem_cons_zero, List.getElem_cons_succ, List.setIfInBounds_toArray, List.set_cons_zero, List.set_cons_succ]
              refine wpAnyH_take (i := 3) (v := ?_) rfl (by kernel_rfl) (by kernel_rfl) (by kernel_rfl) (fun _ _ _ h => h) (Or.inl ⟨by rfl, ?_⟩) (by assumption) ?_
              rotate_left
              · intro w' hSw; (try dsimp only at hSw); go_simp; try with_reducible rfl
              try simp only [Act.put, List.getElem_toArray, List.getElem_cons_zero, List.getElem_cons_succ, List.setIfInBounds_toArray, List.set_cons_zero, List.set_cons_succ]
              refine wpAnyH_take (i := 4) (v := ?_) rfl (by kernel_rfl) (by kernel_rfl) (by kernel_rfl) (fun _ _ _ h => h) (Or.inl ⟨by rfl, ?_⟩) (by assumption) ?_
              rotate_left
              · intro w' hSw; (try dsimp only at hSw); go_simp; try with_reducible rfl
              try simp only [Act.put, List.getElem_toArray, List.getElem_cons_zero, List.getElem_cons_succ, List.setIfInBounds_toArray, List.set_cons_zero, List.set_cons_succ]
              refine wpAnyH_take (i := 5) (v := ?_) rfl (by kernel_rfl) (by kernel_rfl) (by kernel_rfl) (fun _ _ _ h => h) (Or.inl ⟨by rfl, ?_⟩) (by assumption) ?_
              rotate_left
              · intro w' hSw; (try dsimp only at hSw); go_simp; try with_reducible rfl
              try simp only [Act.put, List.getElem_toArray, List.getElem_cons_zero, List.getElem_cons_succ, List.setIfInBounds_toArray, List.set_cons_zero, List.set_cons_succ]
              refine wpAnyH_take (i := 6) (v := ?_) rfl (by kernel_rfl) (by kernel_rfl) (by kernel_rfl) (fun _ _ _ h => h) (Or.inl ⟨by rfl, ?_⟩) (by assumption) ?_
              rotate_left
              · intro w' hSw; (try dsimp only at hSw); go_simp; try with_reducible rfl
              try simp only [Act.put, List.getElem_toArray, List.getElem_cons_zero, List.getElem_cons_succ, List.setIfInBounds_toArray, List.set_cons_zero, List.set_cons_succ]
              refine wpAnyH_take (i := 7) (v := ?_) rfl (by kernel_rfl) (by kernel_rfl) (by kernel_rfl) (fun _ _ _ h => h) (Or.inl ⟨by rfl, ?_⟩) (by assumption) ?_
              rotate_left
              · intro w' hSw; (try dsimp only at hSw); go_simp; try with_reducible rfl
              try simp only [Act.put, List.getElem_toArray, List.getElem_cons_zero, List.getElem_cons_succ, List.setIfInBounds_toArray, List.set_cons_zero, List.set_cons_succ]
              refine wpAnyH_take (i := 8) (v := ?_) rfl (by kernel_rfl) (by kernel_rfl) (by kernel_rfl) (fun _ _ _ h => h) (Or.inl ⟨by rfl, ?_⟩) (by assumption) ?_
              rotate_left
              · intro w' hSw; (try dsimp only at hSw); go_simp; try with_reducible rfl
              try simp only [Act.put, List.getElem_toArray, List.getElem_cons_zero, List.getElem_cons_succ, List.setIfInBounds_toArray, List.set_cons_zero, List.set_cons_succ]
              refine wpAnyH_take (i := 9) (v := ?_) rfl (by kernel_rfl) (by kernel_rfl) (by kernel_rfl) (fun _ _ _ h => h) (Or.inl ⟨by rfl, ?_⟩) (by assumption) ?_
              rotate_left
              · intro w' hSw; (try dsimp only at hSw); go_simp; try with_reducible rfl
              try simp only [Act.put, List.getElem_toArray, List.getElem_cons_zero, List.getElem_cons_succ, List.setIfInBounds_toArray, List.set_cons_zero, List.set_cons_succ]
              refine wpAnyH_take (i := 10) (v := ?_) rfl (by kernel_rfl) (by kernel_rfl) (by kernel_rfl) (fun _ _ _ h => h) (Or.inl ⟨by rfl, ?_⟩) (by assumption) ?_
              rotate_left
              · intro w' hSw; (try dsimp only at hSw); go_simp; try with_reducible rfl
              try simp only [Act.put, List.getElem_toArray, List.getElem_cons_zero, List.getElem_cons_succ, List.setIfInBounds_toArray, List.set_cons_zero, List.set_cons_succ]
              refine wpAnyH_take (i := 11) (v := ?_) rfl (by kernel_rfl) (by kernel_rfl) (by kernel_rfl) (fun _ _ _ h => h) (Or.inl ⟨by rfl, ?_⟩) (by assumption) ?_
              rotate_left
              · intro w' hSw; (try dsimp only at hSw); go_simp; try with_reducible rfl
              try simp only [Act.put, List.getElem_toArray, List.getElem_cons_zero, List.getElem_cons_succ, List.setIfInBounds_toArray, List.set_cons_zero, List.set_cons_succ]
              refine wpAnyH_take (i := 12) (v := undef) rfl (by kernel_rfl) (by kernel_rfl) (by kernel_rfl) (fun _ _ _ h => h) (Or.inr ⟨rfl, rfl⟩) (by assumption) ?_
              try simp only [Act.put, List.getElem_toArray, List.getElem_cons_zero, List.getElem_cons_succ, List.setIfInBounds_toArray, List.set_cons_zero, List.set_cons_succ]
              refine wpAnyH_take (i := 13) (v := undef) rfl (by kernel_rfl) (by kernel_rfl) (by kernel_rfl) (fun _ _ _ h => h) (Or.inr ⟨rfl, rfl⟩) (by assumption) ?_
              try simp only [Act.put, List.getElem_toArray, List.getElem_cons_zero, List.getElem_cons_succ, List.setIfInBounds_toArray, List.set_cons_zero, List.set_cons_succ]
              refine wpAnyH_take (i := 14) (v := undef) rfl (by kernel_rfl) (by kernel_rfl) (by kernel_rfl) (fun _ _ _ h => h) (Or.inr ⟨rfl, rfl⟩) (by assumption) ?_
              try simp only [Act.put, List.getElem_toArray, List.getElem_cons_zero, List.getElem_cons_succ, List.setIfInBounds_toArray, List.set_cons_zero, List.set_cons_succ]
              refine wpAnyH_take (i := 15) (v := undef) rfl (by kernel_rfl) (by kernel_rfl) (by kernel_rfl) (fun _ _ _ h => h) (Or.inr ⟨rfl, rfl⟩) (by assumption) ?_
              try simp only [Act.put, List.getElem_toArray, List.getElem_cons_zero, List.getElem_cons_succ, List.setIfInBounds_toArray, List.set_cons_zero, List.set_cons_succ]
              refine wpAnyH_take (i := 16) (v := undef) rfl (by kernel_rfl) (by kernel_rfl) (by kernel_rfl) (fun _ _ _ h => h) (Or.inr ⟨rfl, rfl⟩) (by assumption) ?_
              try simp only [Act.put, List.getElem_toArray, List.getElem_cons_zero, List.getElem_cons_succ, List.setIfInBounds_toArray, List.set_cons_zero, List.set_cons_succ]
              refine wpAnyH_take (i := 17) (v := undef) rfl (by kernel_rfl) (by kernel_rfl) (by kernel_rfl) (fun _ _ _ h => h) (Or.inr ⟨rfl, rfl⟩) (by assumption) ?_
              try simp only [Act.put, List.getElem_toArray, List.getElem_cons_zero, List.getElem_cons_succ, List.setIfInBounds_toArray, List.set_cons_zero, List.set_cons_succ]
              refine wpAnyH_take (i := 18) (v := undef) rfl (by kernel_rfl) (by kernel_rfl) (by kernel_rfl) (fun _ _ _ h => h) (Or.inr ⟨rfl, rfl⟩) (by assumption) ?_
              try simp only [Act.put, List.getElem_toArray, List.getElem_cons_zero, List.getElem_cons_succ, List.setIfInBounds_toArray, List.set_cons_zero, List.set_cons_succ]
              refine wpAnyH_take (i := 19) (v := undef) rfl (by kernel_rfl) (by kernel_rfl) (by kernel_rfl) (fun _ _ _ h => h) (Or.inr ⟨rfl, rfl⟩) (by assumption) ?_
              try simp only [Act.put, List.getElem_toArray, List.getElem_cons_zero, List.getElem_cons_succ, List.setIfInBounds_toArray, List.set_cons_zero, List.set_cons_succ]
              refine wpAnyH_take (i := 20) (v := undef) rfl (by kernel_rfl) (by kernel_rfl) (by kernel_rfl) (fun _ _ _ h => h) (Or.inr ⟨rfl, rfl⟩) (by assumption) ?_
              try simp only [Act.put, List.getElem_toArray, List.getElem_cons_zero, List.getElem_cons_succ, List.setIfInBounds_toArray, List.set_cons_zero, List.set_cons_succ]
              refine wpAnyH_take (i := 21) (v := undef) rfl (by kernel_rfl) (by kernel_rfl) (by kernel_rfl) (fun _ _ _ h => h) (Or.inr ⟨rfl, rfl⟩) (by assumption) ?_
              try simp only [Act.put, List.getElem_toArray, List.getElem_cons_zero, List.getElem_cons_succ, List.setIfInBounds_toArray, List.set_cons_zero, List.set_cons_succ]
              refine wpAnyH_take (i := 22) (v := undef) rfl (by kernel_rfl) (by kernel_rfl) (by kernel_rfl) (fun _ _ _ h => h) (Or.inr ⟨rfl, rfl⟩) (by assumption) ?_
              try simp only [Act.put, List.getElem_toArray, List.getElem_cons_zero, List.getElem_cons_succ, List.setIfInBounds_toArray, List.set_cons_zero, List.set_cons_succ]
              refine wpAnyH_take (i := 23) (v := undef) rfl (by kernel_rfl) (by kernel_rfl) (by kernel_rfl) (fun _ _ _ h => h) (Or.inr ⟨rfl, rfl⟩) (by assumption) ?_
              try simp only [Act.put, List.getElem_toArray, List.getElem_cons_zero, List.getElem_cons_succ, List.setIfInBounds_toArray, List.set_cons_zero, List.set_cons_succ]
              refine wpAnyH_take (i := 24) (v := ?_) rfl (by kernel_rfl) (by kernel_rfl) (by kernel_rfl) (fun _ _ _ h => h) (Or.inl ⟨by rfl, ?_⟩) (by assumption) ?_
              rotate_left
              · intro w' hSw; (try dsimp only at hSw); go_simp; try with_reducible rfl
              try simp only [Act.put, List.getElem_toArray, List.getElem_cons_zero, List.getElem_cons_succ, List.setIfInBounds_toArray, List.set_cons_zero, List.set_cons_succ]
              refine wpAnyH_take (i := 25) (v := ?_) rfl (by kernel_rfl) (by kernel_rfl) (by kernel_rfl) (fun _ _ _ h => h) (Or.inl ⟨by rfl, ?_⟩) (by assumption) ?_
              rotate_left
              · intro w' hSw; (try dsimp only at hSw); go_simp; try with_reducible rfl
              try simp only [Act.put, List.getElem_toArray, List.getElem_cons_zero, List.getElem_cons_succ, List.setIfInBounds_toArray, List.set_cons_zero, List.set_cons_succ]
              refine wpAnyH_done (by kernel_rfl) ?_ _
              go_wp2_with fail
              go_meet
              exact ⟨rfl, hHeld.1⟩
          case rest =>
          obtain ⟨rfl, fx⟩ := hcut
          have kp2 := (fx.cell (World.block_lt_of_cell? _ _ kp) (fun h => h)).trans kp
          have kz2 := (fx.cell (World.block_lt_of_cell? _ _ kz) (fun h => h)).trans kz
          have Fx := Lib.hid fx
          clear kp kz fx
          by_cases hzn : z < no
          · obtain ⟨x, kx, hne⟩ := Hout.out hzn
            have kx2 := (Fx.out.cell (World.block_lt_of_cell? _ _ kx) (fun h => h)).trans kx
            have hzn' : (z : Int) < (no : Int) := by omega
            have hbx : ((x : Int) == (q : Int)) = false := by simp; omega
            clear kx hzn hne
            go_wp2_with fail
            go_roundw
            case rel => exact ⟨q, k, z, rfl, rfl, rfl, D8.out, by rw [D4.out]; exact Hk.out, by rw [D5.out, List.length_append]; have h1 := Hg.out; have h2 := Hz.out; simp; omega, Hfr.out.trans Fx.out (fun _ _ h => h)⟩
            case measure => have := HiQ.out; simp [intOf]; omega
          · have hzn' : decide ((z : Int) < (no : Int)) = false := by simp; omega
            have hzn2 : decide (z < no) = false := by simp; omega
            clear hzn
            go_wp2_with fail
            go_roundw
            case rel => exact ⟨q, k, z, rfl, rfl, rfl, D8.out, by rw [D4.out]; exact Hk.out, by rw [D5.out, List.length_append]; have h1 := Hg.out; have h2 := Hz.out; simp; omega, Hfr.out.trans Fx.out (fun _ _ h => h)⟩
            case measure => have := HiQ.out; simp [intOf]; omega
      · obtain rfl : i = m := by omega
        have hkk : k = ni := by rw [Hk.out, HNI.out]; unfold allL; rw [HB.out]
        have hgg : g = no := by rw [Hg.out, HNO.out]; unfold gapsL; rw [HB.out]
        subst hkk hgg
        clear hlt him hki hgo
        go_wp2_with fail
        go_meet
        exact ⟨rfl, rfl, rfl, Hfr.out⟩
  case rest =>
  obtain ⟨rfl, rfl, rfl, fz⟩ := hcut
  have Fz := Lib.hid (Nd.out.fr.trans fz (fun _ _ h => h)); have Fzz := Lib.hid (Fd.out.trans fz (fun _ _ h => h))
  clear fz
  have bm : ((m : Int) == (m : Int)) = true := by simp
  have bi : ((ni : Int) == (ni : Int)) = true := by simp
  have bo : ((no : Int) == (no : Int)) = true := by simp
  go_wp2_with fail
  go_ret
  exact ⟨rfl, F1.out.trans Fz.out (fun _ _ h => h)⟩
end Go.Proofs.YtbfkmogibgchmaaDoor.Bt
