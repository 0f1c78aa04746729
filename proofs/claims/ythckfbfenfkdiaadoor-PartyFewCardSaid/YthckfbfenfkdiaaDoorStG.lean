/- The stable sort of slices of runs: merging where the second part is one run. No condition. -/
import Derived.Test.YthckfbfenfkdiaaDoorStF
namespace Go.Proofs.YthckfbfenfkdiaaDoor.St
open Go.RowKit Go.Sort
set_option maxRecDepth 100000 in
set_option maxHeartbeats 1000000 in
theorem sym_last {w : World} {b cap n : Nat} {d : Array Sp} (h : RA w b cap d) (hn : d.size = n) (hn1 : n ≤ 1000000) (hA : AllOk d) (a m : Nat) (h1 : a + 1 < m) (h2 : m + 1 ≤ n) (hT : Two a m (m + 1) d) :
    Calls Tryd.prog 50 #[.slice (some ⟨b, 0, none⟩) n cap, .int .i64 a, .int .i64 m, .int .i64 (m + 1 : Nat), .func (.func 26) #[] #[]] w fun r w' => r = .returned (.tuple #[]) ∧ ∃ d', Done a (m + 1) d d' ∧ RA w' b cap d' ∧ Fr (fun k => k = b) w w' := by
  subst hn
  obtain ⟨e, he⟩ : ∃ e, m + 1 = e := ⟨_, rfl⟩
  rw [he] at h2 hT ⊢
  have q0 : ((m : Int) - (a : Int) == 1) = false := by simp; omega
  have q1 : (e : Int) - (m : Int) = 1 := by omega
  have HS := Lib.hid (Sr2.start hT)
  have HT := Lib.hid hT
  have HA := Lib.hid hA
  have H := Lib.hid h
  have HM := Lib.hid he
  have hmn : m < d.size := by omega
  have hmn' : (m : Int) < (d.size : Int) := by omega
  clear h hT hA he
  go_enter Tryd.func50, Tryd.ntmps50
  go_wp2_with fail
  go_loopw [14, 15] (fun s10 s11 wr => ∃ (i j : Nat), s10 = .int .i64 i ∧ s11 = .int .i64 j ∧ Hid (Sr2 a m i j d) ∧ Hid (RA wr b cap d) ∧ Hid (Fr (fun k => k = b) w wr)) (fun s10 s11 _ => (intOf s11).toNat - (intOf s10).toNat)
  case atStart => exact ⟨a, m, rfl, rfl, HS, H, Lib.hid (Fr.refl _ _)⟩
  case round =>
    clear q0 q1
    obtain ⟨i, j, rfl, rfl, HSr, HR, HF⟩ := hrel
    have g1 := HSr.out.ai; have g2 := HSr.out.ij; have g3 := HSr.out.jm
    by_cases hlt : i < j
    · have hlt' : (i : Int) < (j : Int) := by omega
      obtain ⟨x, hx⟩ : ∃ x : Nat, (i + j) / 2 = x := ⟨_, rfl⟩
      have hx' : ((i : Int) + (j : Int)) / 2 = (x : Int) := by omega
      have hxi : i ≤ x := by omega
      have hxj : x < j := by omega
      have hxn : x < d.size := by omega
      have hxn' : (x : Int) < (d.size : Int) := by omega
      obtain ⟨v, hv, hC⟩ := cmp_at HA.out m x (HT.out.ahead x m (by omega) (by omega) (Nat.le_refl _) (by have := HM.out; omega))
      have f1 := HR.out.c0 hmn
      have f2 := HR.out.c1 hmn
      have f3 := HR.out.c0 hxn
      have f4 := HR.out.c1 hxn
      obtain ⟨X0, hX0⟩ : ∃ v, v = d[m]!.1 := ⟨_, rfl⟩
      obtain ⟨X1, hX1⟩ : ∃ v, v = d[m]!.2 := ⟨_, rfl⟩
      obtain ⟨Y0, hY0⟩ : ∃ v, v = d[x]!.1 := ⟨_, rfl⟩
      obtain ⟨Y1, hY1⟩ : ∃ v, v = d[x]!.2 := ⟨_, rfl⟩
      rw [← hX0] at f1 hC; rw [← hX1] at f2 hC; rw [← hY0] at f3 hC; rw [← hY1] at f4 hC
      have HC := Lib.hid hC; have HV := Lib.hid hv
      have hbw := HR.out.lt
      clear hX0 hX1 hY0 hY1 hC hv hx g1 g2 g3
      go_upto_region 17 with fail
      go_cut [103] (fun s50 wx => s50 = .bool (!decide (v < 0)) ∧ Hid (Fr (fun _ => False) wr wx))
      case first =>
        go_upto_region 17 with fail
        go_region_held3 (fun w' => w'.cell? ⟨b, m * 2, none⟩ = some (.int .i64 X0) ∧ w'.cell? ⟨b, m * 2 + 1, none⟩ = some (.int .i64 X1) ∧ w'.cell? ⟨b, x * 2, none⟩ = some (.int .i64 Y0) ∧ w'.cell? ⟨b, x * 2 + 1, none⟩ = some (.int .i64 Y1))
          (first | (go_keep; done) | (refine ⟨?_, ?_, ?_, ?_⟩ <;> (first | exact (hf.cell hbw id).trans f1 | exact (hf.cell hbw id).trans f2 | exact (hf.cell hbw id).trans f3 | exact (hf.cell hbw id).trans f4)))
          (first | (go_at_call 26; refine (HC.out _).mono ?_; rintro r w1 ⟨rfl, hf⟩))
        go_wp2_with fail
        go_meet
        exact ⟨rfl, Lib.hid ((Fr.drew (Fr.refl _ _)).trans hf (fun _ _ h => h))⟩
      case rest =>
      obtain ⟨rfl, HF1⟩ := hcut
      clear f1 f2 f3 f4
      have HR1 := Lib.hid (HR.out.fr HF1.out (fun h => h))
      have HF2 := Lib.hid (HF.out.trans (HF1.out.mono (fun _ _ h => h.elim)) (fun _ _ (h : _ = b) => h))
      obtain ⟨bq, hbq⟩ : ∃ bq, decide (v < 0) = bq := ⟨_, rfl⟩
      rw [hbq] at HV ⊢
      clear hbq
      cases bq
      · have hl : lex d[m]! d[x]! = false := HV.out
        have HN := Lib.hid (HSr.out.more HT.out hxi hxj hl)
        clear hl
        go_wp2_with fail
        go_roundw
        case rel => exact ⟨x + 1, j, by go_num, rfl, HN, HR1, HF2⟩
        case measure => simp [intOf]; omega
      · have hl : lex d[m]! d[x]! = true := HV.out
        have HN := Lib.hid (HSr.out.less HT.out hxi hxj hl)
        clear hl
        go_wp2_with fail
        go_roundw
        case rel => exact ⟨i, x, rfl, rfl, HN, HR1, HF2⟩
        case measure => simp [intOf]; omega
    · have hlt' : ¬ (i : Int) < (j : Int) := by omega
      obtain rfl : i = j := by omega
      clear g2
      have H0 : Hid (Ro m m (m + 1) d d) := Lib.hid (Ro.none d m (.inl rfl) (Nat.le_refl _) (by omega))
      clear hlt hlt' g1
      go_wp2_with fail
      go_loopw [17] (fun s13 wx => ∃ (k : Nat) (dk : Array Sp), s13 = .int .i64 k ∧ i ≤ k ∧ k ≤ m ∧ Hid (Ro k m (m + 1) d dk) ∧ Hid (RA wx b cap dk) ∧ Hid (Fr (fun k => k = b) w wx)) (fun s13 _ => (intOf s13).toNat)
      case atStart => exact ⟨m, d, rfl, g3, Nat.le_refl _, H0, HR, HF⟩
      case round =>
        clear HR HF
        obtain ⟨k, dk, rfl, hak, hkt, HO, HR, HF⟩ := hrel
        by_cases hlt : i < k
        · have hlt' : (i : Int) < (k : Int) := by omega
          have hz : dk.size = d.size := HO.out.size
          obtain ⟨y, hy⟩ : ∃ y : Nat, y + 1 = k := ⟨k - 1, by omega⟩
          have hy' : (k : Int) - 1 = (y : Int) := by omega
          have hkn : k < d.size := by omega
          have hyn : y < d.size := by omega
          have hkn' : (k : Int) < (d.size : Int) := by omega
          have hyn' : (y : Int) < (d.size : Int) := by omega
          have hxy : k ≠ y := by omega
          have f1 := HR.out.c0 (i := k) (by omega)
          have f2 := HR.out.c1 (i := k) (by omega)
          have f3 := HR.out.c0 (i := y) (by omega)
          have f4 := HR.out.c1 (i := y) (by omega)
          have z1 := HR.out.fz (k * 2)
          have z2 := HR.out.fz (k * 2 + 1)
          have z3 := HR.out.fz (y * 2)
          have z4 := HR.out.fz (y * 2 + 1)
          have HN : Hid (Ro y m (m + 1) d (swp dk k y) ∧ RA ((((wr.setCell ⟨b, k * 2, none⟩ (.int .i64 dk[y]!.1)).setCell ⟨b, k * 2 + 1, none⟩ (.int .i64 dk[y]!.2)).setCell ⟨b, y * 2, none⟩ (.int .i64 dk[k]!.1)).setCell ⟨b, y * 2 + 1, none⟩ (.int .i64 dk[k]!.2)) b cap (swp dk k y)) := by
            refine Lib.hid ⟨?_, HR.out.swp (by omega) (by omega) hxy⟩
            have h3 := HO.out
            rw [← hy] at h3 ⊢
            exact h3.down (by omega) (by omega)
          obtain ⟨X0, hX0⟩ : ∃ v, v = dk[k]!.1 := ⟨_, rfl⟩
          obtain ⟨X1, hX1⟩ : ∃ v, v = dk[k]!.2 := ⟨_, rfl⟩
          obtain ⟨Y0, hY0⟩ : ∃ v, v = dk[y]!.1 := ⟨_, rfl⟩
          obtain ⟨Y1, hY1⟩ : ∃ v, v = dk[y]!.2 := ⟨_, rfl⟩
          rw [← hX0] at f1 HN; rw [← hX1] at f2 HN; rw [← hY0] at f3 HN; rw [← hY1] at f4 HN
          have HY := Lib.hid hy
          clear hX0 hX1 hY0 hY1 hy hz
          go_upto_block 7 with fail
          go_cut [] (fun wy => ∃ d2, Hid (Ro y m (m + 1) d d2) ∧ Hid (RA wy b cap d2) ∧ Hid (Fr (fun k => k = b) wr wy))
          case first =>
            go_upto_region 23 with fail
            go_region
            go_wp2_with fail
            go_meet
            refine ⟨_, Lib.hid HN.out.1, Lib.hid ?_, Lib.hid ?_⟩
            · exact HN.out.2.fr (Fr.drew (Fr.refl (fun _ => False) _)) (fun h => h)
            · exact Fr.drew (fr_four (F := fun k => k = b) rfl _ _ _ _ _ _ _ _)
          case rest =>
          obtain ⟨d2, HO2, HR2, HF2⟩ := hcut
          clear f1 f2 f3 f4 z1 z2 z3 z4
          go_wp2_with fail
          go_roundw
          case rel => exact ⟨y, d2, rfl, by have := HY.out; omega, by omega, HO2, HR2, Lib.hid (HF.out.trans HF2.out (fun _ _ h => h))⟩
          case measure => have := HY.out; simp [intOf]; omega
        · have hlt' : ¬ (i : Int) < (k : Int) := by omega
          obtain rfl : k = i := by omega
          go_wp2_with fail
          refine bodyPost_ret (v := .tuple #[]) (by simp [results, Tryd.f50, go_sem]) rfl ⟨rfl, dk, ?_, HR.out, HF.out⟩
          have h2 := HT.out
          rw [← HM.out] at h2 ⊢
          exact HSr.out.done h2 HO.out
end Go.Proofs.YthckfbfenfkdiaaDoor.St
