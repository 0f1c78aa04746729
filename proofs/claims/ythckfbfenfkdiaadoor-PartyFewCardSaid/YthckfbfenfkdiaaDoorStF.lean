/- The stable sort of slices of runs: merging where one part is one run. No condition. -/
import Derived.Test.YthckfbfenfkdiaaDoorStE
namespace Go.Proofs.YthckfbfenfkdiaaDoor.St
open Go.RowKit Go.Sort
theorem cmp_at {d : Array Sp} (hA : AllOk d) (x y : Nat) (h : d[y]!.1 < d[x]!.1) : ∃ v : Int, (lex d[x]! d[y]! = decide (v < 0)) ∧ ∀ W, Calls Tryd.prog 26 #[.agg #[.int .i64 d[x]!.1, .int .i64 d[x]!.2], .agg #[.int .i64 d[y]!.1, .int .i64 d[y]!.2]] W fun e W' => e = .returned (.int .i64 v) ∧ Fr (fun _ => False) W W' := by
  refine ⟨cmpV d[x]! d[y]!, (like_cmp _ _ (hA _) (hA _) h).symm, fun W => ?_⟩
  refine (cmp_ok W d[x]! d[y]!).mono ?_
  rintro e w1 ⟨rfl, q, os, rfl⟩
  exact ⟨rfl, grow_fr _ _ _⟩
set_option maxRecDepth 100000 in
set_option maxHeartbeats 1000000 in
theorem sym_first {w : World} {b cap n : Nat} {d : Array Sp} (h : RA w b cap d) (hn : d.size = n) (hn1 : n ≤ 1000000) (hA : AllOk d) (a e : Nat) (h1 : a + 1 < e) (h2 : e ≤ n) (hT : Two a (a + 1) e d) :
    Calls Tryd.prog 50 #[.slice (some ⟨b, 0, none⟩) n cap, .int .i64 a, .int .i64 (a + 1 : Nat), .int .i64 e, .func (.func 26) #[] #[]] w fun r w' => r = .returned (.tuple #[]) ∧ ∃ d', Done a e d d' ∧ RA w' b cap d' ∧ Fr (fun k => k = b) w w' := by
  subst hn
  obtain ⟨m, hm⟩ : ∃ m, a + 1 = m := ⟨_, rfl⟩
  rw [hm] at h1 hT ⊢
  have q1 : (m : Int) - (a : Int) = 1 := by omega
  have HS := Lib.hid (Sr1.start hT)
  have HT := Lib.hid hT
  have HA := Lib.hid hA
  have H := Lib.hid h
  have HM := Lib.hid hm
  have hmn : m ≤ d.size := by omega
  have han : a < d.size := by omega
  have han' : (a : Int) < (d.size : Int) := by omega
  clear h hT hA hm
  go_enter Tryd.func50, Tryd.ntmps50
  go_wp2_with fail
  go_loopw [10, 11] (fun s10 s11 wr => ∃ (i j : Nat), s10 = .int .i64 i ∧ s11 = .int .i64 j ∧ Hid (Sr1 a m e i j d) ∧ Hid (RA wr b cap d) ∧ Hid (Fr (fun k => k = b) w wr)) (fun s10 s11 _ => (intOf s11).toNat - (intOf s10).toNat)
  case atStart => exact ⟨m, e, rfl, rfl, HS, H, Lib.hid (Fr.refl _ _)⟩
  case round =>
    clear q1
    obtain ⟨i, j, rfl, rfl, HSr, HR, HF⟩ := hrel
    have g1 := HSr.out.mi; have g2 := HSr.out.ij; have g3 := HSr.out.jb
    by_cases hlt : i < j
    · have hlt' : (i : Int) < (j : Int) := by omega
      obtain ⟨x, hx⟩ : ∃ x : Nat, (i + j) / 2 = x := ⟨_, rfl⟩
      have hx' : ((i : Int) + (j : Int)) / 2 = (x : Int) := by omega
      have hxi : i ≤ x := by omega
      have hxj : x < j := by omega
      have hxn : x < d.size := by omega
      have hxn' : (x : Int) < (d.size : Int) := by omega
      obtain ⟨v, hv, hC⟩ := cmp_at HA.out x a (HT.out.ahead a x (Nat.le_refl _) (by have := HM.out; omega) (by omega) (by omega))
      have f1 := HR.out.c0 hxn
      have f2 := HR.out.c1 hxn
      have f3 := HR.out.c0 han
      have f4 := HR.out.c1 han
      obtain ⟨X0, hX0⟩ : ∃ v, v = d[x]!.1 := ⟨_, rfl⟩
      obtain ⟨X1, hX1⟩ : ∃ v, v = d[x]!.2 := ⟨_, rfl⟩
      obtain ⟨Y0, hY0⟩ : ∃ v, v = d[a]!.1 := ⟨_, rfl⟩
      obtain ⟨Y1, hY1⟩ : ∃ v, v = d[a]!.2 := ⟨_, rfl⟩
      rw [← hX0] at f1 hC; rw [← hX1] at f2 hC; rw [← hY0] at f3 hC; rw [← hY1] at f4 hC
      have HC := Lib.hid hC; have HV := Lib.hid hv
      have hbw := HR.out.lt
      clear hX0 hX1 hY0 hY1 hC hv hx g1 g2 g3
      go_upto_region 5 with fail
      go_cut [50] (fun s50 wx => s50 = .bool (decide (v < 0)) ∧ Hid (Fr (fun _ => False) wr wx))
      case first =>
        go_upto_region 5 with fail
        go_region_held3 (fun w' => w'.cell? ⟨b, x * 2, none⟩ = some (.int .i64 X0) ∧ w'.cell? ⟨b, x * 2 + 1, none⟩ = some (.int .i64 X1) ∧ w'.cell? ⟨b, a * 2, none⟩ = some (.int .i64 Y0) ∧ w'.cell? ⟨b, a * 2 + 1, none⟩ = some (.int .i64 Y1))
          (first | (go_keep; done) | (refine ⟨?_, ?_, ?_, ?_⟩ <;> (first | exact (hf.cell hbw id).trans f1 | exact (hf.cell hbw id).trans f2 | exact (hf.cell hbw id).trans f3 | exact (hf.cell hbw id).trans f4)))
          (first | (go_at_call 26; refine (HC.out _).mono ?_; rintro r w1 ⟨rfl, hf⟩))
        go_wp2_with fail
        go_meet
        exact ⟨rfl, Lib.hid ((Fr.drew (Fr.refl _ _)).trans hf (fun _ _ h => h))⟩
      case rest =>
      obtain ⟨rfl, HF1⟩ := hcut
      clear f1 f2 f3 f4
      have HR1 := Lib.hid (HR.out.fr HF1.out (fun h => h))
      have HF2 := Lib.hid (HF.out.trans (HF1.out.mono (fun _ _ h => h.elim)) (fun _ _ (h : _ = b) => h))
      by_cases hvb : v < 0
      · have b1 : decide (v < 0) = true := by simpa using hvb
        have hl : lex d[x]! d[a]! = true := by rw [HV.out, b1]
        have HN := Lib.hid (HSr.out.more HT.out hxi hxj hl)
        clear hl
        go_wp2_with fail
        go_roundw
        case rel => exact ⟨x + 1, j, by go_num, rfl, HN, HR1, HF2⟩
        case measure => simp [intOf]; omega
      · have b1 : decide (v < 0) = false := by simpa using hvb
        have hl : lex d[x]! d[a]! = false := by rw [HV.out, b1]
        have HN := Lib.hid (HSr.out.less HT.out hxi hxj hl)
        clear hl
        go_wp2_with fail
        go_roundw
        case rel => exact ⟨i, x, rfl, rfl, HN, HR1, HF2⟩
        case measure => simp [intOf]; omega
    · have hlt' : ¬ (i : Int) < (j : Int) := by omega
      obtain rfl : i = j := by omega
      clear g2
      obtain ⟨t, ht⟩ : ∃ t : Nat, t + 1 = i := ⟨i - 1, by have := HM.out; omega⟩
      have ht' : (i : Int) - 1 = (t : Int) := by omega
      have hat : a ≤ t := by have := HM.out; omega
      have htn : t + 1 ≤ d.size := by omega
      have HI := Lib.hid ht
      have H0 : Hid (Ro a (a + 1) (a + 1) d d) := Lib.hid (Ro.none d (a + 1) (.inr rfl) (by omega) (Nat.le_refl _))
      clear ht hlt hlt' g1 g3
      go_wp2_with fail
      go_loopw [13] (fun s13 wx => ∃ (k : Nat) (dk : Array Sp), s13 = .int .i64 k ∧ a ≤ k ∧ k ≤ t ∧ Hid (Ro a (a + 1) (k + 1) d dk) ∧ Hid (RA wx b cap dk) ∧ Hid (Fr (fun k => k = b) w wx)) (fun s13 _ => t - (intOf s13).toNat)
      case atStart => exact ⟨a, d, rfl, Nat.le_refl _, hat, H0, HR, HF⟩
      case round =>
        clear HR HF
        obtain ⟨k, dk, rfl, hak, hkt, HO, HR, HF⟩ := hrel
        by_cases hlt : k < t
        · have hlt' : (k : Int) < (t : Int) := by omega
          have hz : dk.size = d.size := HO.out.size
          obtain ⟨y, hy⟩ : ∃ y : Nat, k + 1 = y := ⟨_, rfl⟩
          have hy' : (k : Int) + 1 = (y : Int) := by omega
          have hkn : k < d.size := by omega
          have hyn : y < d.size := by omega
          have hkn' : (k : Int) < (d.size : Int) := by omega
          have hyn' : (y : Int) < (d.size : Int) := by omega
          have hxy : k ≠ y := by omega
          have f1 := HR.out.c0 (i := k) (by omega)
          have f2 := HR.out.c1 (i := k) (by omega)
          have f3 := HR.out.c0 (i := y) (by omega)
          have f4 := HR.out.c1 (i := y) (by omega)
          have z1 := HR.out.fz (k * 2)
          have z2 := HR.out.fz (k * 2 + 1)
          have z3 := HR.out.fz (y * 2)
          have z4 := HR.out.fz (y * 2 + 1)
          have HN : Hid (Ro a (a + 1) (k + 2) d (swp dk k y) ∧ RA ((((wr.setCell ⟨b, k * 2, none⟩ (.int .i64 dk[y]!.1)).setCell ⟨b, k * 2 + 1, none⟩ (.int .i64 dk[y]!.2)).setCell ⟨b, y * 2, none⟩ (.int .i64 dk[k]!.1)).setCell ⟨b, y * 2 + 1, none⟩ (.int .i64 dk[k]!.2)) b cap (swp dk k y)) := by
            refine Lib.hid ⟨?_, HR.out.swp (by omega) (by omega) hxy⟩
            rw [← hy]
            exact HO.out.up hak (by omega)
          obtain ⟨X0, hX0⟩ : ∃ v, v = dk[k]!.1 := ⟨_, rfl⟩
          obtain ⟨X1, hX1⟩ : ∃ v, v = dk[k]!.2 := ⟨_, rfl⟩
          obtain ⟨Y0, hY0⟩ : ∃ v, v = dk[y]!.1 := ⟨_, rfl⟩
          obtain ⟨Y1, hY1⟩ : ∃ v, v = dk[y]!.2 := ⟨_, rfl⟩
          rw [← hX0] at f1 HN; rw [← hX1] at f2 HN; rw [← hY0] at f3 HN; rw [← hY1] at f4 HN
          have HY := Lib.hid hy
          clear hX0 hX1 hY0 hY1 hy hz
          go_upto_block 3 with fail
          go_cut [] (fun wy => ∃ d2, Hid (Ro a (a + 1) (k + 2) d d2) ∧ Hid (RA wy b cap d2) ∧ Hid (Fr (fun k => k = b) wr wy))
          case first =>
            go_upto_region 11 with fail
            go_region
            go_wp2_with fail
            go_meet
            refine ⟨_, Lib.hid HN.out.1, Lib.hid ?_, Lib.hid ?_⟩
            · exact HN.out.2.fr (Fr.drew (Fr.refl (fun _ => False) _)) (fun h => h)
            · exact Fr.drew (fr_four (F := fun k => k = b) rfl _ _ _ _ _ _ _ _)
          case rest =>
          obtain ⟨d2, HO2, HR2, HF2⟩ := hcut
          clear f1 f2 f3 f4 z1 z2 z3 z4
          go_wp2_with fail
          go_roundw
          case rel => exact ⟨k + 1, d2, by have := HY.out; go_num, by omega, by omega, HO2, HR2, Lib.hid (HF.out.trans HF2.out (fun _ _ h => h))⟩
          case measure => have := HY.out; simp [intOf]; omega
        · have hlt' : ¬ (k : Int) < (t : Int) := by omega
          obtain rfl : k = t := by omega
          go_wp2_with fail
          refine bodyPost_ret (v := .tuple #[]) (by simp [results, Tryd.f50, go_sem]) rfl ⟨rfl, dk, ?_, HR.out, HF.out⟩
          have h1 := HSr.out; have h2 := HT.out; have h3 := HO.out
          rw [← HM.out] at h1 h2
          rw [← HI.out] at h1
          exact h1.done h2 h3
end Go.Proofs.YthckfbfenfkdiaaDoor.St
