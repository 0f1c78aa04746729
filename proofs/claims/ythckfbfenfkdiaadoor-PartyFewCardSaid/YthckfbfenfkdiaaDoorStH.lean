/- The stable sort of slices of runs: the symmetric merge as a whole. No condition. -/
import Derived.Test.YthckfbfenfkdiaaDoorStG
namespace Go.Proofs.YthckfbfenfkdiaaDoor.St
open Go.RowKit Go.Sort
theorem srR_of {a m e mid : Nat} (h1 : a < m) (h2 : m < e) (hmid : (a + e) / 2 = mid) : (mid < m → SrR a m e (mid + m - e) mid (mid + m) ∧ e ≤ mid + m) ∧ (¬ mid < m → SrR a m e a m (mid + m)) := by
  refine ⟨fun h => ⟨⟨by omega, by omega, by omega, by omega, by omega⟩, by omega⟩, fun h => ⟨by omega, by omega, by omega, by omega, by omega⟩⟩
/-- Where the search begins. -/
def SrP (a m e lo hi k : Nat) : Prop := SrR a m e lo hi k ∧ (lo = a ∨ k = e + lo) ∧ (hi = m ∨ k = m + hi)
set_option maxRecDepth 100000 in
set_option maxHeartbeats 2000000 in
theorem sym_gen {n cap b : Nat} (N : Nat)
    (IH : ∀ (w : World) (d : Array Sp), RA w b cap d → d.size = n → AllOk d → ∀ a m e : Nat, e ≤ a + N → a < m → m < e → e ≤ n → Two a m e d →
      Calls Tryd.prog 50 #[.slice (some ⟨b, 0, none⟩) n cap, .int .i64 a, .int .i64 m, .int .i64 e, .func (.func 26) #[] #[]] w fun r w' => r = .returned (.tuple #[]) ∧ ∃ d', Done a e d d' ∧ RA w' b cap d' ∧ Fr (fun k => k = b) w w')
    {w : World} {d : Array Sp} (h : RA w b cap d) (hn : d.size = n) (hn1 : n ≤ 1000000) (hA : AllOk d) (a m e : Nat) (hN : e ≤ a + N + 1) (h1 : a + 1 < m) (h2 : m + 1 < e) (h3 : e ≤ n) (hT : Two a m e d) :
    Calls Tryd.prog 50 #[.slice (some ⟨b, 0, none⟩) n cap, .int .i64 a, .int .i64 m, .int .i64 e, .func (.func 26) #[] #[]] w fun r w' => r = .returned (.tuple #[]) ∧ ∃ d', Done a e d d' ∧ RA w' b cap d' ∧ Fr (fun k => k = b) w w' := by
  subst hn
  obtain ⟨mid, hmid⟩ : ∃ mid, (a + e) / 2 = mid := ⟨_, rfl⟩
  have hmid' : ((a : Int) + (e : Int)) / 2 = (mid : Int) := by omega
  obtain ⟨hR1, hR2⟩ := srR_of (show a < m by omega) (show m < e by omega) hmid
  obtain ⟨k, hk⟩ : ∃ k, mid + m = k := ⟨_, rfl⟩
  have hk' : (mid : Int) + (m : Int) = (k : Int) := by omega
  obtain ⟨p, hp⟩ : ∃ p, k - 1 = p := ⟨_, rfl⟩
  have hp' : (k : Int) - 1 = (p : Int) := by omega
  rw [hk] at hR1 hR2
  have q0 : ((m : Int) - (a : Int) == 1) = false := by simp; omega
  have q1 : ((e : Int) - (m : Int) == 1) = false := by simp; omega
  have hae : (a : Int) + (e : Int) ≤ 4000000 := by omega
  have hmidb : mid < e := by omega
  have hmida : a < mid := by omega
  have HT := Lib.hid hT
  have HA := Lib.hid hA
  have H := Lib.hid h
  have HIH := Lib.hid IH
  have HK := Lib.hid hk
  have HP := Lib.hid hp
  have HMID := Lib.hid hmid
  have HR1 := Lib.hid hR1
  have HR2 := Lib.hid hR2
  clear h hT hA hk hp hmid hR1 hR2 IH
  go_enter Tryd.func50, Tryd.ntmps50
  obtain ⟨q, hq⟩ : ∃ q, decide (mid < m) = q := ⟨_, rfl⟩
  have hq1 : decide ((mid : Int) < (m : Int)) = q := by rw [← hq]; simp
  have HQ := Lib.hid hq
  go_upto_if 140 with fail
  clear hq hq1
  go_cut [20, 21] (fun s20 s21 wx => ∃ lo hi : Nat, s20 = .int .i64 lo ∧ s21 = .int .i64 hi ∧ Hid (SrP a m e lo hi k) ∧ w = wx)
  case first =>
   as_aux_lemma =>
    by_cases hmm : mid < m
    · obtain rfl : q = true := by rw [← HQ.out]; simpa using hmm
      obtain ⟨r1, r2⟩ := HR1.out hmm
      obtain ⟨lo, hlo⟩ : ∃ lo, k - e = lo := ⟨_, rfl⟩
      have hlo' : (k : Int) - (e : Int) = (lo : Int) := by omega
      have HH : Hid (SrP a m e lo mid k) := by
        refine Lib.hid ⟨?_, .inr (by omega), .inr (by have := HK.out; omega)⟩
        rw [← hlo]; exact r1
      clear r1 r2 hlo hmm
      go_wp2_with fail
      go_meet
      exact ⟨lo, mid, rfl, rfl, HH, rfl⟩
    · obtain rfl : q = false := by rw [← HQ.out]; simpa using hmm
      have HH : Hid (SrP a m e a m k) := Lib.hid ⟨HR2.out hmm, .inl rfl, .inl rfl⟩
      clear hmm
      go_wp2_with fail
      go_meet
      exact ⟨a, m, rfl, rfl, HH, rfl⟩
  case rest =>
  obtain ⟨lo, hi, rfl, rfl, HSR, rfl⟩ := hcut
  have l1 := HSR.out.1.alo; have l2 := HSR.out.1.him; have l3 := HSR.out.1.loh; have l4 := HSR.out.1.bn; have l5 := HSR.out.1.mn
  have HS0 : Hid (Sr lo hi k lo hi d) := Lib.hid (Sr.start l3)
  clear q0 q1
  go_upto_block 8 with fail
  go_cut [20, 21] (fun s20 s21 wx => ∃ s : Nat, s20 = .int .i64 s ∧ Hid (Sr lo hi k s s d) ∧ Hid (RA wx b cap d) ∧ Hid (Fr (fun k => k = b) w wx))
  case first =>
   as_aux_lemma =>
    go_wp2_with fail
    go_loopw [20, 21] (fun s20 s21 wr => ∃ (i j : Nat), s20 = .int .i64 i ∧ s21 = .int .i64 j ∧ Hid (Sr lo hi k i j d) ∧ Hid (RA wr b cap d) ∧ Hid (Fr (fun k => k = b) w wr)) (fun s20 s21 _ => (intOf s21).toNat - (intOf s20).toNat)
    case atStart => exact ⟨lo, hi, rfl, rfl, HS0, H, Lib.hid (Fr.refl _ _)⟩
    case round =>
      obtain ⟨i, j, rfl, rfl, HSr, HR, HF⟩ := hrel
      have g1 := HSr.out.ls; have g2 := HSr.out.sr; have g3 := HSr.out.rh
      by_cases hlt : i < j
      · have hlt' : (i : Int) < (j : Int) := by omega
        obtain ⟨x, hx⟩ : ∃ x : Nat, (i + j) / 2 = x := ⟨_, rfl⟩
        have hx' : ((i : Int) + (j : Int)) / 2 = (x : Int) := by omega
        have hxi : i ≤ x := by omega
        have hxj : x < j := by omega
        have hxn : x < d.size := by omega
        have hxn' : (x : Int) < (d.size : Int) := by omega
        obtain ⟨y, hy⟩ : ∃ y : Nat, k - 1 - x = y := ⟨_, rfl⟩
        have hy' : (p : Int) - (x : Int) = (y : Int) := by omega
        have hy2 : IntKind.i64.wrap (y : Int) = (y : Int) := by rw [IntKind.wrap_i64]; omega
        have hyn : y < d.size := by omega
        have hyn' : (y : Int) < (d.size : Int) := by omega
        obtain ⟨v, hv, hC⟩ := cmp_at HA.out y x (HT.out.ahead x y (by omega) (by omega) (by omega) (by omega))
        have f1 := HR.out.c0 hyn
        have f2 := HR.out.c1 hyn
        have f3 := HR.out.c0 hxn
        have f4 := HR.out.c1 hxn
        obtain ⟨X0, hX0⟩ : ∃ v, v = d[y]!.1 := ⟨_, rfl⟩
        obtain ⟨X1, hX1⟩ : ∃ v, v = d[y]!.2 := ⟨_, rfl⟩
        obtain ⟨Y0, hY0⟩ : ∃ v, v = d[x]!.1 := ⟨_, rfl⟩
        obtain ⟨Y1, hY1⟩ : ∃ v, v = d[x]!.2 := ⟨_, rfl⟩
        rw [← hX0] at f1 hC; rw [← hX1] at f2 hC; rw [← hY0] at f3 hC; rw [← hY1] at f4 hC
        have HC := Lib.hid hC; have HV := Lib.hid hv
        have HY := Lib.hid hy
        have hbw := HR.out.lt
        clear hX0 hX1 hY0 hY1 hC hv hx hy g1 g2 g3 l1 l2 l3 l4 l5
        go_upto_region 35 with fail
        go_cut [171] (fun s50 wx => s50 = .bool (!decide (v < 0)) ∧ Hid (Fr (fun _ => False) wr wx))
        case first =>
          go_upto_region 35 with fail
          go_region_held3 (fun w' => w'.cell? ⟨b, y * 2, none⟩ = some (.int .i64 X0) ∧ w'.cell? ⟨b, y * 2 + 1, none⟩ = some (.int .i64 X1) ∧ w'.cell? ⟨b, x * 2, none⟩ = some (.int .i64 Y0) ∧ w'.cell? ⟨b, x * 2 + 1, none⟩ = some (.int .i64 Y1))
            (first | (go_keep; done) | (refine ⟨?_, ?_, ?_, ?_⟩ <;> (first | exact (hf.cell hbw id).trans f1 | exact (hf.cell hbw id).trans f2 | exact (hf.cell hbw id).trans f3 | exact (hf.cell hbw id).trans f4)))
            (first | (go_at_call 26; refine (HC.out _).mono ?_; rintro r w1 ⟨rfl, hf⟩))
          go_wp2_with fail
          go_meet
          exact ⟨rfl, Lib.hid ((Fr.drew (Fr.refl _ _)).trans hf (fun _ _ h => h))⟩
        case rest =>
        obtain ⟨rfl, HF1⟩ := hcut
        clear f1 f2 f3 f4
        have HR1' := Lib.hid (HR.out.fr HF1.out (fun h => h))
        have HF2 := Lib.hid (HF.out.trans (HF1.out.mono (fun _ _ h => h.elim)) (fun _ _ (h : _ = b) => h))
        obtain ⟨bq, hbq⟩ : ∃ bq, decide (v < 0) = bq := ⟨_, rfl⟩
        rw [hbq] at HV ⊢
        clear hbq
        cases bq
        · have hl : lex d[k - 1 - x]! d[x]! = false := by rw [HY.out]; exact HV.out
          have HN := Lib.hid (HSr.out.more HT.out HSR.out.1 hxi hxj hl)
          clear hl
          go_wp2_with fail
          go_roundw
          case rel => exact ⟨x + 1, j, by go_num, rfl, HN, HR1', HF2⟩
          case measure => simp [intOf]; omega
        · have hl : lex d[k - 1 - x]! d[x]! = true := by rw [HY.out]; exact HV.out
          have HN := Lib.hid (HSr.out.less HT.out HSR.out.1 hxi hxj hl)
          clear hl
          go_wp2_with fail
          go_roundw
          case rel => exact ⟨i, x, rfl, rfl, HN, HR1', HF2⟩
          case measure => simp [intOf]; omega
      · have hlt' : ¬ (i : Int) < (j : Int) := by omega
        obtain rfl : i = j := by omega
        go_wp2_with fail
        go_meet
        exact ⟨i, rfl, HSr, HR, HF⟩
  case rest =>
  obtain ⟨s, rfl, HSr, HR, HF⟩ := hcut
  have hC := HSr.out.cut HT.out HSR.out.1 HSR.out.2.1 HSR.out.2.2
  have c1 := hC.as'; have c2 := hC.sm; have c3 := hC.me; have c4 := hC.eb
  obtain ⟨E, hE⟩ : ∃ E, k - s = E := ⟨_, rfl⟩
  rw [hE] at hC c3 c4
  have hE' : (k : Int) - (s : Int) = (E : Int) := by omega
  have hEm : s + (E - m) = mid := by have := HK.out; omega
  have hsm : s ≤ mid := by omega
  have hEm2 : mid ≤ E := by have := HK.out; omega
  have HC := Lib.hid hC
  have HEm := Lib.hid hEm
  clear hC l1 l2 l3 l4 l5 hE hEm
  obtain ⟨q39, hq39⟩ : ∃ q, decide (s < m ∧ m < E) = q := ⟨_, rfl⟩
  have Hq39 := Lib.hid hq39
  clear hq39
  go_upto_region 39 with fail
  go_cut [185] (fun s185 wx => s185 = .bool q39 ∧ wc = wx)
  case first =>
   as_aux_lemma =>
    by_cases t1 : s < m
    · have b1 : decide ((s : Int) < (m : Int)) = true := by simpa using t1
      have b1' : decide (s < m) = true := by simpa using t1
      by_cases t2 : m < E
      · have b2 : decide ((m : Int) < (E : Int)) = true := by simpa using t2
        have b2' : decide (m < E) = true := by simpa using t2
        obtain rfl : q39 = true := by rw [← Hq39.out]; simp [t1, t2]
        clear t1 t2
        go_wp2_with fail
        go_meet
        exact ⟨rfl, rfl⟩
      · have b2 : decide ((m : Int) < (E : Int)) = false := by simpa using t2
        have b2' : decide (m < E) = false := by simpa using t2
        obtain rfl : q39 = false := by rw [← Hq39.out]; simp [t2]
        clear t1 t2
        go_wp2_with fail
        go_meet
        exact ⟨rfl, rfl⟩
    · have b1 : decide ((s : Int) < (m : Int)) = false := by simpa using t1
      have b1' : decide (s < m) = false := by simpa using t1
      obtain rfl : q39 = false := by rw [← Hq39.out]; simp [t1]
      clear t1
      go_wp2_with fail
      go_meet
      exact ⟨rfl, rfl⟩
  case rest =>
  obtain ⟨rfl, rfl⟩ := hcut
  go_upto_if 185 with fail
  go_cut [] (fun wx => ∃ d1, Hid (Ro s m E d d1) ∧ Hid (RA wx b cap d1) ∧ Hid (Fr (fun k => k = b) w wx))
  case first =>
   as_aux_lemma =>
    by_cases t1 : s < m ∧ m < E
    · obtain rfl : q39 = true := by rw [← Hq39.out]; simpa using t1
      have hC := Lib.hid (rotate_ok 26 #[] HR.out rfl s m E t1.1 t1.2 (by omega))
      clear t1
      go_wp2_with fail
      refine hC.out.mono ?_
      rintro r w1 ⟨rfl, d1, hs, hr, hf⟩
      have HS1 := Lib.hid hs; have HR1' := Lib.hid hr; have HF1 := Lib.hid hf
      clear hs hr hf
      go_wp2_with fail
      go_meet
      exact ⟨d1, HS1, HR1', Lib.hid (HF.out.trans HF1.out (fun _ _ h => h))⟩
    · obtain rfl : q39 = false := by rw [← Hq39.out]; simpa using t1
      have H0 : Hid (Ro s m E d d) := Lib.hid (Ro.none d m (by omega) c2 c3)
      clear t1
      go_wp2_with fail
      go_meet
      exact ⟨d, H0, HR, HF⟩
  case rest =>
  obtain ⟨d1, HO, HR1', HF1⟩ := hcut
  have HL : Hid (Two a s mid d1) := by
    have := HC.out.left HT.out HO.out
    rw [HEm.out] at this; exact Lib.hid this
  have HRt : Hid (Two mid E e d1) := by
    have := HC.out.right HT.out HO.out
    rw [HEm.out] at this; exact Lib.hid this
  have hz1 : d1.size = d.size := HO.out.size
  have HZ1 := Lib.hid hz1
  have HA1 := Lib.hid (HA.out.perm (HO.out.perm c2 c3 (by omega)) (by omega))
  clear HR HF hz1
  obtain ⟨q41, hq41⟩ : ∃ q, decide (a < s ∧ s < mid) = q := ⟨_, rfl⟩
  have Hq41 := Lib.hid hq41
  clear hq41
  go_upto_region 41 with fail
  go_cut [199] (fun s199 wx => s199 = .bool q41 ∧ wc = wx)
  case first =>
   as_aux_lemma =>
    by_cases t1 : a < s
    · have b1 : decide ((a : Int) < (s : Int)) = true := by simpa using t1
      have b1' : decide (a < s) = true := by simpa using t1
      by_cases t2 : s < mid
      · have b2 : decide ((s : Int) < (mid : Int)) = true := by simpa using t2
        have b2' : decide (s < mid) = true := by simpa using t2
        obtain rfl : q41 = true := by rw [← Hq41.out]; simp [t1, t2]
        clear t1 t2
        go_wp2_with fail
        go_meet
        exact ⟨rfl, rfl⟩
      · have b2 : decide ((s : Int) < (mid : Int)) = false := by simpa using t2
        have b2' : decide (s < mid) = false := by simpa using t2
        obtain rfl : q41 = false := by rw [← Hq41.out]; simp [t2]
        clear t1 t2
        go_wp2_with fail
        go_meet
        exact ⟨rfl, rfl⟩
    · have b1 : decide ((a : Int) < (s : Int)) = false := by simpa using t1
      have b1' : decide (a < s) = false := by simpa using t1
      obtain rfl : q41 = false := by rw [← Hq41.out]; simp [t1]
      clear t1
      go_wp2_with fail
      go_meet
      exact ⟨rfl, rfl⟩
  case rest =>
  obtain ⟨rfl, rfl⟩ := hcut
  go_upto_if 199 with fail
  go_cut [] (fun wx => ∃ d2, Hid (Done a mid d1 d2) ∧ Hid (RA wx b cap d2) ∧ Hid (Fr (fun k => k = b) w wx))
  case first =>
   as_aux_lemma =>
    by_cases t1 : a < s ∧ s < mid
    · obtain rfl : q41 = true := by rw [← Hq41.out]; simpa using t1
      have hC := Lib.hid (HIH.out _ _ HR1'.out HZ1.out HA1.out a s mid (by omega) t1.1 t1.2 (by omega) HL.out)
      clear t1
      go_wp2_with fail
      refine hC.out.mono ?_
      rintro r w1 ⟨rfl, d2, hs, hr, hf⟩
      have HS1 := Lib.hid hs; have HR2' := Lib.hid hr; have HF2 := Lib.hid hf
      clear hs hr hf
      go_wp2_with fail
      go_meet
      exact ⟨d2, HS1, HR2', Lib.hid (HF1.out.trans HF2.out (fun _ _ h => h))⟩
    · obtain rfl : q41 = false := by rw [← Hq41.out]; simpa using t1
      have H0 : Hid (Done a mid d1 d1) := Lib.hid (HL.out.none (by omega))
      clear t1
      go_wp2_with fail
      go_meet
      exact ⟨d1, H0, HR1', HF1⟩
  case rest =>
  obtain ⟨d2, HD2, HR2', HF2⟩ := hcut
  have HRt2 : Hid (Two mid E e d2) := Lib.hid (HRt.out.out HD2.out.perm (.inr (Nat.le_refl _)))
  have hz2 : d2.size = d.size := HD2.out.perm.1.trans HZ1.out
  have HZ2 := Lib.hid hz2
  have HA2 := Lib.hid (HA1.out.perm HD2.out.perm (by have := HZ1.out; omega))
  clear HR1' HF1 hz2
  obtain ⟨q43, hq43⟩ : ∃ q, decide (mid < E ∧ E < e) = q := ⟨_, rfl⟩
  have Hq43 := Lib.hid hq43
  clear hq43
  go_upto_region 43 with fail
  go_cut [213] (fun s213 wx => s213 = .bool q43 ∧ wc = wx)
  case first =>
   as_aux_lemma =>
    by_cases t1 : mid < E
    · have b1 : decide ((mid : Int) < (E : Int)) = true := by simpa using t1
      have b1' : decide (mid < E) = true := by simpa using t1
      by_cases t2 : E < e
      · have b2 : decide ((E : Int) < (e : Int)) = true := by simpa using t2
        have b2' : decide (E < e) = true := by simpa using t2
        obtain rfl : q43 = true := by rw [← Hq43.out]; simp [t1, t2]
        clear t1 t2
        go_wp2_with fail
        go_meet
        exact ⟨rfl, rfl⟩
      · have b2 : decide ((E : Int) < (e : Int)) = false := by simpa using t2
        have b2' : decide (E < e) = false := by simpa using t2
        obtain rfl : q43 = false := by rw [← Hq43.out]; simp [t2]
        clear t1 t2
        go_wp2_with fail
        go_meet
        exact ⟨rfl, rfl⟩
    · have b1 : decide ((mid : Int) < (E : Int)) = false := by simpa using t1
      have b1' : decide (mid < E) = false := by simpa using t1
      obtain rfl : q43 = false := by rw [← Hq43.out]; simp [t1]
      clear t1
      go_wp2_with fail
      go_meet
      exact ⟨rfl, rfl⟩
  case rest =>
  obtain ⟨rfl, rfl⟩ := hcut
  go_upto_if 213 with fail
  by_cases t1 : mid < E ∧ E < e
  · obtain rfl : q43 = true := by rw [← Hq43.out]; simpa using t1
    have hC := Lib.hid (HIH.out _ _ HR2'.out HZ2.out HA2.out mid E e (by omega) t1.1 t1.2 (by omega) HRt2.out)
    clear t1
    go_wp2_with fail
    refine hC.out.mono ?_
    rintro r w1 ⟨rfl, d3, hs, hr, hf⟩
    have HS1 := Lib.hid hs; have HR3' := Lib.hid hr; have HF3 := Lib.hid hf
    clear hs hr hf
    go_wp2_with fail
    go_end0
    refine ⟨rfl, d3, HC.out.done HT.out HO.out (by rw [HEm.out]; exact HD2.out) (by rw [HEm.out]; exact HS1.out), HR3'.out, HF2.out.trans HF3.out (fun _ _ h => h)⟩
  · obtain rfl : q43 = false := by rw [← Hq43.out]; simpa using t1
    have H0 : Hid (Done mid e d2 d2) := Lib.hid (HRt2.out.none (by omega))
    clear t1
    go_wp2_with fail
    go_end0
    exact ⟨rfl, d2, HC.out.done HT.out HO.out (by rw [HEm.out]; exact HD2.out) (by rw [HEm.out]; exact H0.out), HR2'.out, HF2.out⟩
theorem sym_ok {n cap b : Nat} (hn1 : n ≤ 1000000) : ∀ (N : Nat) {w : World} {d : Array Sp}, RA w b cap d → d.size = n → AllOk d → ∀ a m e : Nat, e ≤ a + N → a < m → m < e → e ≤ n → Two a m e d →
      Calls Tryd.prog 50 #[.slice (some ⟨b, 0, none⟩) n cap, .int .i64 a, .int .i64 m, .int .i64 e, .func (.func 26) #[] #[]] w fun r w' => r = .returned (.tuple #[]) ∧ ∃ d', Done a e d d' ∧ RA w' b cap d' ∧ Fr (fun k => k = b) w w'
  | 0, w, d, _, _, _, a, m, e, h0, h1, h2, _, _ => by omega
  | N + 1, w, d, h, hn, hA, a, m, e, h0, h1, h2, h3, hT => by
    by_cases e1 : a + 1 = m
    · subst e1
      exact sym_first h hn hn1 hA a e h2 h3 hT
    · by_cases e2 : m + 1 = e
      · subst e2
        exact sym_last h hn hn1 hA a m (by omega) h3 hT
      · exact sym_gen N (fun w d => sym_ok hn1 N) h hn hn1 hA a m e (by omega) (by omega) (by omega) h3 hT
end Go.Proofs.YthckfbfenfkdiaaDoor.St
