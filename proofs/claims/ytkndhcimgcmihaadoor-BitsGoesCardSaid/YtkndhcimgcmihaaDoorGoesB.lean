/- BitsGoes' walk. Condition: the table of math/bits. -/
import Derived.Test.YtkndhcimgcmihaaDoorGoesA
namespace Go.Proofs.YtkndhcimgcmihaaDoor.Bt
open Go.RowKit Go.Shelf
attribute [local go_sem] Oper.semAt_some encG
theorem fr_undrew {F : Nat → Prop} {w w' : World} (h : Fr F w.drew w') : Fr F w w' := ⟨h.os, h.tape, h.output, h.size, h.blk⟩
theorem allL_le (B : List Bool) : (allL B).length ≤ B.length := by
  rw [allL_cnt]; exact List.length_filter_le _ _
theorem goF {p q : Nat} (h : q ≤ 1000) (h2 : p ≤ q) : wrap64 (q : Int) = (q : Int) ∧ IntKind.i64.wrap (q : Int) = (q : Int) ∧ (0 : Int) ≤ (p : Int) := by
  refine ⟨by unfold wrap64; omega, by rw [IntKind.wrap_i64]; omega, by omega⟩
set_option maxRecDepth 100000 in
set_option maxHeartbeats 8000000 in
theorem goes_walk (w : World) (hT : TabOk w) {v1 v2 : Value} {K1 K2 : Nat → Nat → Int} {n1 n2 : Nat} (h1 : IntsAt w v1 1 K1 n1) (h2 : IntsAt w v2 1 K2 n2) (left : Int) (_hl : Fits left) :
    Calls Tryd.prog 4 #[v1, v2, .int .i64 left] w fun e w' => e = .returned (.bool true) ∧ Fr (fun _ => False) w w' := by
  have hro : Fence.wide.round = none := rfl
  have h13 : 1 ≤ 3 := by omega
  obtain ⟨a1, c1, rfl, hnc, hcm, hor⟩ := id h1
  obtain ⟨a2, c2, rfl, hnc2, hcm2, hor2⟩ := id h2
  have hn1 : (n1 : Int) ≤ 9223372036854775807 := by unfold maxLen at hcm; omega
  have hn2 : (n2 : Int) ≤ 9223372036854775807 := by unfold maxLen at hcm2; omega
  obtain ⟨W, hW⟩ : ∃ W, W = w.alloc (.cells #[.int .i64 left] 3) := ⟨_, rfl⟩
  obtain ⟨b5, hb5⟩ : ∃ b, b = w.heap.size := ⟨_, rfl⟩
  have fA : Fr (fun _ => False) w W := by rw [hW]; exact Fr.alloc (Fr.refl _ _) _
  have k5 : W.heap[b5]? = some (.cells #[.int .i64 left] 3 (0, 0)) := by rw [hW, hb5, heap_alloc_get]; simp
  have HT := Lib.hid (hT.fr fA (fun h => h)); have H1 := Lib.hid (h1.fr fA (fun _ _ h => h) (by omega)); have H2 := Lib.hid (h2.fr fA (fun _ _ h => h) (by omega))
  have FA := Lib.hid fA; have K5 := Lib.hid k5
  clear hT h1 h2 hor hor2 hnc hnc2 hcm hcm2 fA k5
  refine (callsIn_wide (n := 3)).1 (callsIn_of_wp_marks Tryd.func4 rfl trivial ?_ hro)
  refine wpIn_wide.2 ?_
  simp only [Tryd.ntmps4, List.size_toArray, List.length_cons, List.length_nil, Nat.reduceAdd, Nat.reduceSub, Array.replicate_succ, Array.replicate_zero, List.push_toArray, List.append_toArray, List.nil_append, List.cons_append]
  go_upto_region 1 with fail
  rw [← hW, ← hb5]
  clear hW hb5
  go_wp2_with fail
  refine (awake_ok HT.out).mono ?_
  rintro e w1 ⟨rfl, f1⟩
  have F1 := Lib.hid f1; clear f1
  go_wp2_with fail
  refine (new_ok w1 (n := 300) (by omega) (by omega)).mono ?_
  rintro e w2 ⟨bh, v, rfl, s1, s2, s3, s4⟩
  have N2 := Lib.hid (NewSet.mk (w := w1) s1 s2 s3 s4)
  clear s1 s2 s3 s4
  obtain ⟨w3, hw3⟩ : ∃ w3, w3 = w2.alloc (.cells #[.pointer (some ⟨bh, 0, none⟩)] 24) := ⟨_, rfl⟩
  obtain ⟨b7, hb7⟩ : ∃ b, b = w2.heap.size := ⟨_, rfl⟩
  have fB : Fr (fun _ => False) w2 w3 := by rw [hw3]; exact Fr.alloc (Fr.refl _ _) _
  have k7 : w3.heap[b7]? = some (.cells #[.pointer (some ⟨bh, 0, none⟩)] 24 (0, 0)) := by rw [hw3, hb7, heap_alloc_get]; simp
  have N3 := Lib.hid (N2.out.keep fB); have K7 := Lib.hid k7
  have HV := Lib.hid (show w1.heap.size ≤ bh ∧ bh < b7 ∧ (∀ b, v.ownBlock = some b → w1.heap.size ≤ b ∧ b < b7 ∧ b ≠ bh) ∧ b5 < w1.heap.size from
    ⟨N2.out.new, by rw [hb7]; exact N2.out.at_.lt, fun b hb => ⟨(N2.out.newv b hb).1, by rw [hb7]; exact Row.lt N2.out.at_.row hb, (N2.out.newv b hb).2⟩, Nat.lt_of_lt_of_le (lt_of_block K5.out) F1.out.size⟩)
  have HB0 := Lib.hid (show (List.replicate (300 : Int).toNat false).length = 300 by simp)
  clear fB k7 N2
  go_upto_block 0 with fail
  rw [← hw3, ← hb7]
  clear hw3 hb7
  go_cut [9] from 34 to 47 (fun _ wx => ∃ B : List Bool, B.length = 300 ∧ NewSet w1 wx bh v B ∧ wx.heap[b7]? = some (.cells #[.pointer (some ⟨bh, 0, none⟩)] 24 (0, 0)))
  case first => as_aux_lemma =>
    go_wp2_with fail
    go_loopw [9] (fun s9 wr => ∃ (k : Nat) (B : List Bool), s9 = .int .i64 k ∧ k ≤ n1 ∧ B.length = 300 ∧ NewSet w1 wr bh v B ∧ wr.heap[b7]? = some (.cells #[.pointer (some ⟨bh, 0, none⟩)] 24 (0, 0))) (fun s9 _ => n1 - (intOf s9).toNat)
    case atStart => exact ⟨0, _, rfl, Nat.zero_le _, HB0.out, N3.out, K7.out⟩
    case round =>
      obtain ⟨k, B, rfl, hk, hB, hN, h7⟩ := hrel
      have HB := Lib.hid hB; have HN := Lib.hid hN; have HK7 := Lib.hid h7
      clear hB hN h7
      by_cases hlt : k < n1
      · have hlt' : (k : Int) < (n1 : Int) := by omega
        obtain ⟨lb, lo, rfl, kx0, lf1, lf2⟩ := ints_one H1.out hlt
        obtain ⟨lx, hlx⟩ : ∃ x, x = K1 k 0 := ⟨_, rfl⟩
        rw [← hlx] at kx0 lf1 lf2
        have hl0 := World.block_lt_of_cell? _ _ kx0
        have kx := ((F1.out.trans HN.out.fr (fun _ _ h => h)).cell hl0 (fun h => h)).trans kx0
        have lbr : lb < wr.drew.heap.size ∧ ¬ v.ownBlock = some lb := ⟨Nat.lt_of_lt_of_le hl0 (F1.out.trans HN.out.fr (fun _ _ h => h)).size, fun e => by have := HV.out.2.2.1 _ e; have := F1.out.size; simp only at hl0; omega⟩
        have l7 : b7 < wr.drew.heap.size ∧ ¬ v.ownBlock = some b7 := ⟨lt_of_block HK7.out, fun e => by have := HV.out.2.2.1 _ e; omega⟩
        have Hlt := Lib.hid hlt
        have k0 : (0 : Int) ≤ (k : Int) := by omega
        have HP := Lib.hid (fun w0 => pick_ok lx 300 w0 lf1 lf2 (by omega) (by omega))
        have c7 := (cell_of HK7.out 0).trans (show _ = some (Value.pointer (some ⟨bh, 0, none⟩)) from rfl)
        have HA := Lib.hid (HN.out.at_.fr (Fr.drew (Fr.refl (fun _ => False) _)) (fun h => h) (fun _ _ h => h))
        clear hlx hlt lf1 lf2 kx0 hl0
        go_upto_region 7 with fail
        go_region_held3 (fun w' => w'.cell? ⟨b7, 0, none⟩ = some (.pointer (some ⟨bh, 0, none⟩)) ∧ w'.cell? ⟨lb, lo + k, none⟩ = some (.int .i64 lx))
          (first | (go_keep; done) | exact ⟨c7, kx⟩ | exact ⟨(fC.cell l7.1 l7.2).trans c7, (fC.cell lbr.1 lbr.2).trans kx⟩)
          (first | (go_at_call 8; refine (HP.out _).mono ?_; rintro e w4 ⟨rfl, rfl⟩) | (go_at_call 7; refine (put_any HA.out HN.out.ne _).mono ?_; rintro e w5 ⟨rr, C, rfl, hC, sC, fC⟩))
        replace fC := fr_undrew fC
        have Hnx := Lib.hid (HN.out.step sC fC)
        have HC := Lib.hid hC; have K7' := Lib.hid (fC.get HK7.out (fun e => by have := HV.out.2.2.1 _ e; omega))
        clear hC sC fC c7 kx HA HP
        go_wp2_with fail
        go_roundw
        case rel => exact ⟨k + 1, C, by first | (simp; done) | go_num, Hlt.out, by rw [HC.out]; exact HB.out, Hnx.out, K7'.out⟩
        case measure => have := Hlt.out; simp [intOf]; omega
      · obtain rfl : k = n1 := by omega
        clear hlt
        go_wp2_with fail
        go_meet
        exact ⟨B, HB.out, HN.out, HK7.out⟩
  case rest =>
  obtain ⟨B, hB, hN, h7⟩ := hcut
  have HB := Lib.hid hB; have HN := Lib.hid hN; have HK7 := Lib.hid h7
  have hTd : TabOk wc.drew := (HT.out.fr (F1.out.trans hN.fr (fun _ _ h => h)) (fun h => h)).fr (Fr.drew (Fr.refl (fun _ => False) _)) (fun h => h)
  have hAt : SetAt wc.drew bh v B := hN.at_.fr (Fr.drew (Fr.refl (fun _ => False) _)) (fun h => h) (fun _ _ h => h)
  have HTd := Lib.hid hTd; have HAt := Lib.hid hAt
  have c7 := (cell_of h7 0).trans (show _ = some (Value.pointer (some ⟨bh, 0, none⟩)) from rfl)
  have lq : b7 < wc.drew.heap.size := lt_of_block h7
  have HLq := Lib.hid (show b7 < wc.heap.size from lt_of_block h7)
  clear N3 K7 HB0 hB hN h7 hTd hAt
  go_upto_region 8 with fail
  go_region_held3 (fun w' => w'.cell? ⟨b7, 0, none⟩ = some (.pointer (some ⟨bh, 0, none⟩)))
    (first | (go_keep; done) | exact (qG.fr.cell (Nat.lt_of_lt_of_le lq qA.fr.size) (fun h => h)).trans ((qA.fr.cell lq (fun h => h)).trans c7) | exact (qA.fr.cell lq (fun h => h)).trans c7 | exact (qC.fr.cell (Nat.lt_of_lt_of_le (Nat.lt_of_lt_of_le lq qA.fr.size) qG.fr.size) (fun h => h)).trans ((qG.fr.cell (Nat.lt_of_lt_of_le lq qA.fr.size) (fun h => h)).trans ((qA.fr.cell lq (fun h => h)).trans c7)))
    (first
      | (go_at_call 13; refine (all_ok HTd.out HAt.out).mono ?_; rintro e wA ⟨cA, hA, vA, rfl, qA⟩)
      | (go_at_call 14; refine (gaps_ok (HTd.out.fr qA.fr (fun h => h)) (HAt.out.fr qA.fr (fun h => h) (fun _ _ h => h))).mono ?_; rintro e wB ⟨cG, hG, vG, rfl, qG⟩)
      | (go_at_call 15; refine (copy_ok ((HAt.out.fr qA.fr (fun h => h) (fun _ _ h => h)).fr qG.fr (fun h => h) (fun _ _ h => h))).mono ?_; rintro e wC ⟨ch, cv, rfl, qC⟩))
  have fcA := fr_undrew qA.fr
  have fAC := qG.fr.trans qC.fr (fun _ _ h => h)
  have FC := Lib.hid (fcA.trans fAC (fun _ _ h => h))
  have SA := Lib.hid (qA.seq.fr fAC (fun _ _ h => h)); have SG := Lib.hid (qG.seq.fr qC.fr (fun _ _ h => h)); have CP := Lib.hid qC.at_
  have hnw : ∀ b, (seqP cA hA vA b ∨ seqP cG hG vG b ∨ b = ch ∨ cv.ownBlock = some b) → b = 0 ∨ wc.heap.size ≤ b := by
    have z1 : wc.heap.size ≤ wA.heap.size := fcA.size
    have z2 := qG.fr.size
    rintro b (e | e | e | e)
    · exact qA.new b e
    · exact (qG.new b e).imp id (fun h => by omega)
    · subst e; right; have := qC.new; omega
    · right; have := (qC.newv b e).1; omega
  have HNW := Lib.hid hnw
  clear qA qG qC fcA fAC hnw c7 lq HTd HAt
  go_wp2_with fail
  refine (told_ok SA.out).mono ?_
  rintro e wD ⟨s1, rfl, r1, o1, f1⟩
  obtain ⟨m13, hm13⟩ : ∃ m, m = (asInts (allL B)).length := ⟨_, rfl⟩
  obtain ⟨a13, c13, e13, -⟩ := row_cell r1
  rw [← hm13] at e13
  subst e13
  obtain ⟨wE, hwE⟩ : ∃ wE, wE = wD.alloc (.cells #[.slice a13 m13 c13] 22) := ⟨_, rfl⟩
  obtain ⟨b13, hb13⟩ : ∃ b, b = wD.heap.size := ⟨_, rfl⟩
  have fE : Fr (fun _ => False) wD wE := by rw [hwE]; exact Fr.alloc (Fr.refl _ _) _
  have k13 : wE.heap[b13]? = some (.cells #[.slice a13 m13 c13] 22 (0, 0)) := by rw [hwE, hb13, heap_alloc_get]; simp
  have F1' := Lib.hid f1; have FE := Lib.hid fE; have R1 := Lib.hid r1; have O1 := Lib.hid o1; have K13 := Lib.hid k13; have Hm13 := Lib.hid hm13
  have HB13 := Lib.hid (show wc.heap.size ≤ b13 by rw [hb13]; have := FC.out.size; have := f1.size; omega)
  clear f1 fE r1 o1 k13 hm13
  go_upto_region 10 with fail
  rw [← hwE, ← hb13]
  clear hwE hb13
  go_wp2_with fail
  refine (pairs_ok (SG.out.fr (F1'.out.trans FE.out (fun _ _ h => h)) (fun _ _ h => h))).mono ?_
  rintro e wG ⟨s2, rfl, r2, o2, f2⟩
  obtain ⟨m15, hm15⟩ : ∃ m, m = (flatG (gapsL B)).length := ⟨_, rfl⟩
  obtain ⟨a15, c15, e15, -⟩ := row_cell r2
  rw [← hm15] at e15
  subst e15
  obtain ⟨wH, hwH⟩ : ∃ wH, wH = wG.alloc (.cells #[.slice a15 m15 c15] 22) := ⟨_, rfl⟩
  obtain ⟨b15, hb15⟩ : ∃ b, b = wG.heap.size := ⟨_, rfl⟩
  obtain ⟨w9, hw9⟩ : ∃ w9, w9 = wH.alloc (.cells #[.int .i64 0] 3) := ⟨_, rfl⟩
  obtain ⟨b17, hb17⟩ : ∃ b, b = wG.heap.size + 1 := ⟨_, rfl⟩
  have hszH : wH.heap.size = b17 := by rw [hwH, hb17]; simp
  have fH : Fr (fun _ => False) wG wH := by rw [hwH]; exact Fr.alloc (Fr.refl _ _) _
  have f9 : Fr (fun _ => False) wH w9 := by rw [hw9]; exact Fr.alloc (Fr.refl _ _) _
  have k15 : wH.heap[b15]? = some (.cells #[.slice a15 m15 c15] 22 (0, 0)) := by rw [hwH, hb15, heap_alloc_get]; simp
  have k17 : w9.heap[b17]? = some (.cells #[.int .i64 0] 3 (0, 0)) := by rw [hw9, ← hszH, heap_alloc_get]; simp
  have fCH : Fr (fun _ => False) wC wH := ((F1'.out.trans FE.out (fun _ _ h => h)).trans f2 (fun _ _ h => h)).trans fH (fun _ _ h => h)
  have fcH : Fr (fun _ => False) wc wH := FC.out.trans fCH (fun _ _ h => h)
  have hGH : Goe b5 b7 b13 b15 cA hA vA cG hG vG ch cv (.slice a13 m13 c13) (.slice a15 m15 c15) left bh B wH :=
    ⟨fcH.get ((F1.out.trans HN.out.fr (fun _ _ h => h)).get K5.out (fun h => h)) (fun h => h), fcH.get HK7.out (fun h => h), (f2.trans fH (fun _ _ h => h)).get K13.out (fun h => h), k15,
     SA.out.fr fCH (fun _ _ h => h), SG.out.fr fCH (fun _ _ h => h), CP.out.fr fCH (fun h => h) (fun _ _ h => h),
     Row.fr R1.out ((FE.out.trans f2 (fun _ _ h => h)).trans fH (fun _ _ h => h)) (fun _ _ h => h), Row.fr r2 fH (fun _ _ h => h)⟩
  have hAp : ∀ b, goP b5 b7 b13 b15 cA hA vA cG hG vG ch cv (.slice a13 m13 c13) (.slice a15 m15 c15) b → ¬ (v.ownBlock = some b ∨ b = b17) := by
    intro b hb hF
    rcases hF with hF | hF
    · have hv := HV.out.2.2.1 b hF
      have h5 := HV.out.2.2.2
      have hq := HLq.out
      have h0 : 0 < w1.heap.size := by omega
      have zz := FC.out.size; have z1 := F1'.out.size; have z2 := FE.out.size; have z3 := HB13.out; have z4 := f2.size
      rcases hb with e | e | e | e | e | e | e | e | e | e
      · omega
      · omega
      · omega
      · omega
      · have := HNW.out b (.inl e); omega
      · have := HNW.out b (.inr (.inl e)); omega
      · have := HNW.out b (.inr (.inr (.inl e))); omega
      · have := HNW.out b (.inr (.inr (.inr e))); omega
      · have := O1.out b e; omega
      · have := o2 b e; omega
    · have := hGH.lt b hb; omega
  have hlb : b7 < b17 := by have := hGH.lt b7 (.inr (.inl rfl)); omega
  have HG := Lib.hid (hGH.keep f9); have HAp := Lib.hid hAp; have K17 := Lib.hid k17; have Hlb := Lib.hid hlb
  have HS9 := Lib.hid ((HN.out.at_.fr fcH (fun h => h) (fun _ _ h => h)).fr f9 (fun h => h) (fun _ _ h => h))
  have F09 := Lib.hid (((FA.out.trans (F1.out.trans HN.out.fr (fun _ _ h => h)) (fun _ _ h => h)).trans fcH (fun _ _ h => h)).trans f9 (fun _ _ h => h))
  have F19 := Lib.hid ((HN.out.fr.trans fcH (fun _ _ h => h)).trans f9 (fun _ _ h => h))
  have Hw0 := Lib.hid (show w.heap.size ≤ w1.heap.size from by have := FA.out.size; have := F1.out.size; omega)
  have L17 := Lib.hid (show b17 < w9.heap.size from lt_of_block k17)
  have N717 := Lib.hid (show b5 ≠ b17 ∧ b7 ≠ b17 ∧ b13 ≠ b17 ∧ b15 ≠ b17 from ⟨fun e => hAp _ (.inl rfl) (.inr e), fun e => hAp _ (.inr (.inl rfl)) (.inr e), fun e => hAp _ (.inr (.inr (.inl rfl))) (.inr e), fun e => hAp _ (.inr (.inr (.inr (.inl rfl)))) (.inr e)⟩)
  have Hm15 := Lib.hid hm15
  have HNe := Lib.hid HN.out.ne
  clear r2 o2 f2 fH f9 k15 k17 fCH fcH hGH hAp hlb hm15
  clear HN HK7 FC SA SG CP F1' FE R1 O1 K13 HB13 HNW HLq
  go_upto_block 2 with fail
  try rw [← hwH]
  try rw [← hw9]
  first | rw [← hb17] | rw [hszH]
  rw [← hb15]
  clear hwH hw9 hb15 hb17 hszH
  refine wp_cutD (fun ds' W' => ∃ D, ds' = [mark D] ∧ w9.heap.size ≤ D ∧ W'.heap[D]? = some (.deferred (some [])) ∧ (∃ q : Int, W'.heap[b17]? = some (.cells #[.int .i64 q] 3 (0, 0))) ∧ (∃ C : List Bool, C.length = 300 ∧ SetAt W' bh v C) ∧ Fr (fun b => v.ownBlock = some b ∨ b = b17) w9 W') ?rest ?first
  case first =>
    intro K' hK'
    go_wp2_with fail
    refine (wpIn_wide (n := 3)).1 ?_
    refine wpIn_rangeFunc_ownG hro h13 (gf := 27) (lb := #[.pointer (some ⟨cA, 0, none⟩)]) rfl trivial (enters_of Tryd.func27 (by kernel_rfl) rfl)
      (all_stops (3 - 1) (by omega) HG.out.sA) KeepsB.trans (keepsB_b (fun b hb => HG.out.lt b (.inr (.inr (.inr (.inr (.inl hb))))))) (Below.refl _ _) (fun _ => rfl)
      (fun pre W => W.heap[b17]? = some (.cells #[.int .i64 (pre.length : Int)] 3 (0, 0)) ∧ (∃ C : List Bool, C.length = 300 ∧ SetAt W bh v C) ∧ Fr (fun b => v.ownBlock = some b ∨ b = b17) w9 W)
      (fun c pre W => c = .exit 2 ∧ (∃ q : Int, W.heap[b17]? = some (.cells #[.int .i64 q] 3 (0, 0))) ∧ (∃ C : List Bool, C.length = 300 ∧ SetAt W bh v C) ∧ Fr (fun b => v.ownBlock = some b ∨ b = b17) w9 W)
      ?own ?ownx ⟨K17.out, ⟨B, HB.out, HS9.out⟩, Fr.refl _ _⟩ ?a1 ?assign ?body ?done ?stop
    case own =>
      rintro s A B' row ⟨g1, ⟨C, hC, sC⟩, g3⟩ hg hr
      have f := grownBy.fr hg
      have hno : ∀ b, b < w9.heap.size → ¬ (row = some b) := fun b hb e => by have := (hr b e).1; omega
      exact ⟨f.get g1 (hno _ L17.out), ⟨C, hC, sC.fr f (hno _ (by have := HV.out.2.1; have := Hlb.out; have := L17.out; omega)) (fun b hb => hno b (by have := HV.out.2.2.1 b hb; have := Hlb.out; have := L17.out; omega))⟩, g3.trans f (fun i hi e => absurd e (hno i hi))⟩
    case ownx =>
      rintro c s A B' row ⟨g0, ⟨q, g1⟩, ⟨C, hC, sC⟩, g3⟩ hg hr
      have f := grownBy.fr hg
      have hno : ∀ b, b < w9.heap.size → ¬ (row = some b) := fun b hb e => by have := (hr b e).1; omega
      exact ⟨g0, ⟨q, f.get g1 (hno _ L17.out)⟩, ⟨C, hC, sC.fr f (hno _ (by have := HV.out.2.1; have := Hlb.out; have := L17.out; omega)) (fun b hb => hno b (by have := HV.out.2.2.1 b hb; have := Hlb.out; have := L17.out; omega))⟩, g3.trans f (fun i hi e => absurd e (hno i hi))⟩
    case assign =>
      intro l x W' K hK
      gi_wp2
      exact hK
    case body =>
      rintro l pre x W' ⟨g1, ⟨C, hC, sC⟩, g3⟩ hlt
      have hg := HG.out.fr g3 HAp.out
      obtain ⟨y, hy⟩ : ∃ y, (asInts (allL B))[pre.length]? = some y := ⟨_, List.getElem?_eq_getElem (by simp [asInts]; exact hlt)⟩
      obtain ⟨p, hp⟩ : ∃ p, p = pre.length := ⟨_, rfl⟩
      have hp3 : p < 300 := by have h1 := allL_le B; have h2 := HB.out; omega
      have r1 := hg.r1
      rw [← Hm13.out] at r1
      rw [← hp] at g1 hy
      obtain ⟨g, rfl, ky, hym⟩ := row_i r1 hy
      have d5 := (cell_of hg.k5 0).trans (show _ = some (Value.int .i64 left) from rfl)
      have d7 := (cell_of hg.k7 0).trans (show _ = some (Value.pointer (some ⟨bh, 0, none⟩)) from rfl)
      have d13 := (cell_of hg.k13 0).trans (show _ = some (Value.slice (some ⟨g, 0, none⟩) m13 c13) from rfl)
      have d17 := (cell_of g1 0).trans (show _ = some (Value.int .i64 (p : Int)) from rfl)
      have z17 := free_of g1 0
      have hpm : (p : Int) < (m13 : Int) := by omega
      obtain ⟨q, hq⟩ : ∃ q, q = p + 1 := ⟨_, rfl⟩
      have e1 : (p : Int) + 1 = (q : Int) := by omega
      obtain ⟨e2, e3, p0⟩ := goF (p := p) (q := q) (by omega) (by omega)
      have q4 : (q : Int) < 400 := by omega
      have fS : Fr (fun b => b = b17) W' (W'.setCell ⟨b17, 0, none⟩ (.int .i64 (q : Int))) := Fr.setCell (F := fun b => b = b17) (p := ⟨b17, 0, none⟩) (Fr.refl _ _) (fun _ => rfl) _
      have gS : (W'.setCell ⟨b17, 0, none⟩ (.int .i64 (q : Int))).heap[b17]? = some (.cells #[.int .i64 (q : Int)] 3 (0, 0)) := setCell_blk (o := 0) g1 _
      have HP := Lib.hid (drop_any (sC.fr fS (fun e => by have := HV.out.2.1; have := Hlb.out; omega) (fun b hb e => by have := HV.out.2.2.1 b hb; have := Hlb.out; omega)) HNe.out (x : Int))
      obtain ⟨n5, n7, n13, n15⟩ := N717.out
      have Hq := Lib.hid (show ((pre ++ [x]).length : Int) = (q : Int) by rw [List.length_append, List.length_singleton]; omega)
      have G1 := Lib.hid g1; have HC := Lib.hid hC; have SC := Lib.hid sC; have G3 := Lib.hid g3; have FS := Lib.hid fS; have GS := Lib.hid gS
      clear g1 hC sC g3 hlt hg hy hp hp3 r1 hym hq fS gS
      by_cases hx : (x : Int) = y
      · have bk : ((x : Int) != y) = false := by simp [hx]
        by_cases hl : (p : Int) = left
        · have bl : ((p : Int) == left) = true := by simp [hl]
          clear hx hl
          gi_wp2_with fail
          exact ⟨⟨Nat.le_refl _, fun _ _ _ h _ => h⟩, rfl, ⟨_, G1.out⟩, ⟨C, HC.out, SC.out⟩, G3.out⟩
        · have bl : ((p : Int) == left) = false := by simp [hl]
          clear hx hl
          gi_wp2_with (refine ⟨trivial, ?_⟩; gi_at_call 18; refine (callsIn_wide.2 HP.out).mono ?_; rintro e w' ⟨rr, D, rfl, hD, sD, fD⟩)
          have fW : Fr (fun b => v.ownBlock = some b ∨ b = b17) W' w' := (FS.out.mono (fun b _ e => .inr e)).trans fD (fun b _ e => .inl e)
          exact ⟨⟨fW.size, fun k o hk ho _ => fW.get ho (fun e => by have := Hlb.out; have := L17.out; rcases e with e | e; (have := HV.out.2.2.1 k e; omega); omega)⟩, KeepsB.of_fr fW (fun b hb => HAp.out b (.inr (.inr (.inr (.inr (.inl hb)))))), by rw [Hq.out]; exact fD.get GS.out (fun e => by have := HV.out.2.2.1 _ e; have := Hlb.out; omega), ⟨D, by rw [hD]; exact HC.out, sD⟩, G3.out.trans fW (fun b _ e => e)⟩
      · have bk : ((x : Int) != y) = true := by simp [hx]
        clear hx
        gi_wp2_with fail
        exact ⟨⟨Nat.le_refl _, fun _ _ _ h _ => h⟩, rfl, ⟨_, G1.out⟩, ⟨C, HC.out, SC.out⟩, G3.out⟩
    case done =>
      rintro D ys W' hD rfl ⟨g1, g2, g3⟩ hK
      exact hK' _ _ ⟨D, rfl, hD, hK, ⟨_, g1⟩, g2, g3⟩
    case stop =>
      rintro D c pre W' hD hpre ⟨rfl, g1, g2, g3⟩ hK
      gi_wp2
      exact ⟨D, rfl, hD, hK, g1, g2, g3⟩
  case rest =>
  rintro ds' W10 ⟨D1, rfl, hD1, hDk1, ⟨q0, g17⟩, ⟨C0, hC0, sC0⟩, f10⟩
  have hg10 := HG.out.fr f10 HAp.out
  have d17 := (cell_of g17 0).trans (show _ = some (Value.int .i64 q0) from rfl)
  have z17 := free_of g17 0
  have fS : Fr (fun b => b = b17) W10 (W10.setCell ⟨b17, 0, none⟩ (.int .i64 0)) := Fr.setCell (F := fun b => b = b17) (p := ⟨b17, 0, none⟩) (Fr.refl _ _) (fun _ => rfl) _
  have gS : (W10.setCell ⟨b17, 0, none⟩ (.int .i64 0)).heap[b17]? = some (.cells #[.int .i64 0] 3 (0, 0)) := setCell_blk (o := 0) g17 _
  have hg11 := hg10.fr fS (fun b hb e => HAp.out b hb (.inr e))
  have s11 := sC0.fr fS (fun e => by have := HV.out.2.1; have := Hlb.out; omega) (fun b hb e => by have := HV.out.2.2.1 b hb; have := Hlb.out; omega)
  have HDS := Lib.hid (show b17 < D1 by have := L17.out; omega)
  have hd11 := fS.get hDk1 (fun e => by have := HDS.out; omega)
  have F10 := Lib.hid (f10.trans (fS.mono (G := (fun b => v.ownBlock = some b ∨ b = b17)) (fun b _ e => .inr e)) (fun b _ e => e))
  have HG11 := Lib.hid hg11; have S11 := Lib.hid s11; have GS11 := Lib.hid gS; have HD11 := Lib.hid hd11; have HC0 := Lib.hid hC0; have HD1 := Lib.hid hD1
  have L11 := Lib.hid (show w9.heap.size ≤ (W10.setCell ⟨b17, 0, none⟩ (.int .i64 0)).heap.size from by have h1 := f10.size; have h2 := fS.size; omega)
  clear hD1 hDk1 g17 hC0 sC0 f10 hg10 fS gS hg11 s11 hd11
  go_upto_block 4 with fail
  clear d17 z17
  generalize W10.setCell ⟨b17, 0, none⟩ (.int .i64 0) = W11 at *
  refine wp_cutD (fun ds' W' => ∃ D, ds' = [mark D, mark D1] ∧ W11.heap.size ≤ D ∧ W'.heap[D]? = some (.deferred (some [])) ∧ (∃ C : List Bool, C.length = 300 ∧ SetAt W' bh v C) ∧ Fr (fun b => v.ownBlock = some b ∨ b = b17) W11 W') ?rest2 ?first2
  case first2 =>
    intro K' hK'
    go_wp2_with fail
    refine (wpIn_wide (n := 3)).1 ?_
    refine wpIn_rangeFunc_ownG hro h13 (gf := 28) (lb := #[.pointer (some ⟨cG, 0, none⟩)]) rfl trivial (enters_of Tryd.func28 (by kernel_rfl) rfl)
      (gaps_stops (3 - 1) (by omega) HG11.out.sG) KeepsB.trans (keepsB_b (fun b hb => HG11.out.lt b (.inr (.inr (.inr (.inr (.inr (.inl hb)))))))) (Below.refl _ _) (fun _ => rfl)
      (fun pre W => W.heap[b17]? = some (.cells #[.int .i64 (2 * pre.length : Nat)] 3 (0, 0)) ∧ (∃ C : List Bool, C.length = 300 ∧ SetAt W bh v C) ∧ Fr (fun b => v.ownBlock = some b ∨ b = b17) W11 W)
      (fun c pre W => c = .exit 4 ∧ (∃ C : List Bool, C.length = 300 ∧ SetAt W bh v C) ∧ Fr (fun b => v.ownBlock = some b ∨ b = b17) W11 W)
      ?own2 ?ownx2 ⟨GS11.out, ⟨C0, HC0.out, S11.out⟩, Fr.refl _ _⟩ ?a12 ?assign2 ?body2 ?done2 ?stop2
    case own2 =>
      rintro s A B' row ⟨g1, ⟨C, hC, sC⟩, g3⟩ hg hr
      have f := grownBy.fr hg
      have hno : ∀ b, b < W11.heap.size → ¬ (row = some b) := fun b hb e => by have := (hr b e).1; omega
      exact ⟨f.get g1 (hno _ (by have := L11.out; have := L17.out; omega)), ⟨C, hC, sC.fr f (hno _ (by have := HV.out.2.1; have := Hlb.out; have := L17.out; have := L11.out; omega)) (fun b hb => hno b (by have := HV.out.2.2.1 b hb; have := Hlb.out; have := L17.out; have := L11.out; omega))⟩, g3.trans f (fun i hi e => absurd e (hno i hi))⟩
    case ownx2 =>
      rintro c s A B' row ⟨g0, ⟨C, hC, sC⟩, g3⟩ hg hr
      have f := grownBy.fr hg
      have hno : ∀ b, b < W11.heap.size → ¬ (row = some b) := fun b hb e => by have := (hr b e).1; omega
      exact ⟨g0, ⟨C, hC, sC.fr f (hno _ (by have := HV.out.2.1; have := Hlb.out; have := L17.out; have := L11.out; omega)) (fun b hb => hno b (by have := HV.out.2.2.1 b hb; have := Hlb.out; have := L17.out; have := L11.out; omega))⟩, g3.trans f (fun i hi e => absurd e (hno i hi))⟩
    case assign2 =>
      intro l x W' K hK
      gi_wp2
      exact hK
    case body2 =>
      rintro l pre x W' ⟨g1, ⟨C, hC, sC⟩, g3⟩ hlt
      have hg := HG11.out.fr g3 HAp.out
      obtain ⟨x1, x2⟩ := x
      have hfl := flatG_length (gapsL B)
      have hgl := gapsL_len B
      obtain ⟨p, hp⟩ : ∃ p, p = 2 * pre.length := ⟨_, rfl⟩
      obtain ⟨p1, hp1⟩ : ∃ p1, p1 = p + 1 := ⟨_, rfl⟩
      obtain ⟨q, hq⟩ : ∃ q, q = p + 2 := ⟨_, rfl⟩
      obtain ⟨y1, hy1⟩ : ∃ y, (flatG (gapsL B))[p]? = some y := ⟨_, List.getElem?_eq_getElem (by omega)⟩
      obtain ⟨y2, hy2⟩ : ∃ y, (flatG (gapsL B))[p1]? = some y := ⟨_, List.getElem?_eq_getElem (by omega)⟩
      have hp6 : q ≤ 1000 := by have := HB.out; omega
      have r2 := hg.r2
      rw [← Hm15.out] at r2
      rw [← hp] at g1
      obtain ⟨g, rfl, ky1, hym1⟩ := row_i r2 hy1
      obtain ⟨g', eg, ky2, hym2⟩ := row_i r2 hy2
      simp only [Option.some.injEq, Addr.mk.injEq, and_true] at eg
      subst eg
      have d7 := (cell_of hg.k7 0).trans (show _ = some (Value.pointer (some ⟨bh, 0, none⟩)) from rfl)
      have d15 := (cell_of hg.k15 0).trans (show _ = some (Value.slice (some ⟨g, 0, none⟩) m15 c15) from rfl)
      have d17 := (cell_of g1 0).trans (show _ = some (Value.int .i64 (p : Int)) from rfl)
      have z17 := free_of g1 0
      have hpm : (p : Int) < (m15 : Int) := by omega
      have hpm1 : (p1 : Int) < (m15 : Int) := by omega
      have e1 : (p : Int) + 1 = (p1 : Int) := by omega
      have e2 : (p : Int) + 2 = (q : Int) := by omega
      obtain ⟨e3, e4, p0⟩ := goF (p := p) (q := q) (by omega) (by omega)
      obtain ⟨e5, e6, p10⟩ := goF (p := p1) (q := p1) (by omega) (by omega)
      have fS : Fr (fun b => b = b17) W' (W'.setCell ⟨b17, 0, none⟩ (.int .i64 (q : Int))) := Fr.setCell (F := fun b => b = b17) (p := ⟨b17, 0, none⟩) (Fr.refl _ _) (fun _ => rfl) _
      have gS : (W'.setCell ⟨b17, 0, none⟩ (.int .i64 (q : Int))).heap[b17]? = some (.cells #[.int .i64 (q : Int)] 3 (0, 0)) := setCell_blk (o := 0) g1 _
      have HP := Lib.hid (put_any (sC.fr fS (fun e => by have := HV.out.2.1; have := Hlb.out; omega) (fun b hb e => by have := HV.out.2.2.1 b hb; have := Hlb.out; omega)) HNe.out (x1 : Int))
      obtain ⟨n5, n7, n13, n15⟩ := N717.out
      have Hq := Lib.hid (show 2 * (pre ++ [(x1, x2)]).length = q by rw [List.length_append, List.length_singleton]; omega)
      have HC := Lib.hid hC; have SC := Lib.hid sC; have G3 := Lib.hid g3; have FS := Lib.hid fS; have GS := Lib.hid gS
      clear g1 hC sC g3 hlt hg hy1 hy2 hp hp1 r2 hym1 hym2 hq fS gS hfl hgl hp6
      by_cases hx : (x1 : Int) = y1
      · have bk : ((x1 : Int) != y1) = false := by simp [hx]
        by_cases hl : (x2 : Int) = y2
        · have bl : ((x2 : Int) != y2) = false := by simp [hl]
          by_cases h2 : (20 : Int) < (p : Int)
          · clear hx hl
            gi_wp2_with fail
            exact ⟨⟨Nat.le_refl _, fun _ _ _ h _ => h⟩, rfl, ⟨C, HC.out, SC.out⟩, G3.out⟩
          · clear hx hl
            gi_wp2_with (refine ⟨trivial, ?_⟩; gi_at_call 7; refine (callsIn_wide.2 HP.out).mono ?_; rintro e w' ⟨rr, D, rfl, hD, sD, fD⟩)
            have fW : Fr (fun b => v.ownBlock = some b ∨ b = b17) W' w' := (FS.out.mono (fun b _ e => .inr e)).trans fD (fun b _ e => .inl e)
            exact ⟨⟨fW.size, fun k o hk ho _ => fW.get ho (fun e => by have := Hlb.out; have := L17.out; have := L11.out; rcases e with e | e; (have := HV.out.2.2.1 k e; omega); omega)⟩, KeepsB.of_fr fW (fun b hb => HAp.out b (.inr (.inr (.inr (.inr (.inr (.inl hb))))))), by rw [Hq.out]; exact fD.get GS.out (fun e => by have := HV.out.2.2.1 _ e; have := Hlb.out; omega), ⟨D, by rw [hD]; exact HC.out, sD⟩, G3.out.trans fW (fun b _ e => e)⟩
        · have bl : ((x2 : Int) != y2) = true := by simp [hl]
          clear hx hl
          gi_wp2_with fail
          exact ⟨⟨Nat.le_refl _, fun _ _ _ h _ => h⟩, rfl, ⟨C, HC.out, SC.out⟩, G3.out⟩
      · have bk : ((x1 : Int) != y1) = true := by simp [hx]
        clear hx
        gi_wp2_with fail
        exact ⟨⟨Nat.le_refl _, fun _ _ _ h _ => h⟩, rfl, ⟨C, HC.out, SC.out⟩, G3.out⟩
    case done2 =>
      rintro D ys W' hD rfl ⟨g1, g2, g3⟩ hK
      exact hK' _ _ ⟨D, rfl, hD, hK, g2, g3⟩
    case stop2 =>
      rintro D c pre W' hD hpre ⟨rfl, g2, g3⟩ hK
      gi_wp2
      exact ⟨D, rfl, hD, hK, g2, g3⟩
  case rest2 =>
  rintro ds' W12 ⟨D2, rfl, hD2, hDk2, ⟨C1, hC1, sC1⟩, f12⟩
  have HG12 := Lib.hid (HG11.out.fr f12 HAp.out)
  have HD12 := Lib.hid (f12.get HD11.out (fun e => by rcases e with e | e; (have := HV.out.2.2.1 _ e; have := Hlb.out; have := HDS.out; omega); (have := HDS.out; omega)))
  have HDk2 := Lib.hid hDk2; have HD2 := Lib.hid hD2; have HC1 := Lib.hid hC1; have SC1 := Lib.hid sC1; have F12 := Lib.hid f12
  have HDn := Lib.hid (show D1 ≠ D2 from fun e => by have := lt_of_block HD11.out; omega)
  have F912 := Lib.hid (F10.out.trans f12 (fun b _ e => e))
  clear hDk2 hD2 hC1 sC1 f12
  go_upto_block 6 with fail
  go_cut [21] from 110 to 127 (fun _ wx => Fr (fun b => v.ownBlock = some b) W12 wx)
  case first => as_aux_lemma =>
    go_wp2_with fail
    go_loopw [21] (fun s21 wr => ∃ (k : Nat) (C : List Bool), s21 = .int .i64 k ∧ k ≤ n2 ∧ k ≤ 1000 ∧ C.length = 300 ∧ SetAt wr bh v C ∧ Fr (fun b => v.ownBlock = some b) W12 wr) (fun s21 _ => n2 - (intOf s21).toNat)
    case atStart => exact ⟨0, _, rfl, Nat.zero_le _, by omega, HC1.out, SC1.out, Fr.refl _ _⟩
    case round =>
      obtain ⟨k, C, rfl, hk, hk2, hC, sC, fC0⟩ := hrel
      have HC := Lib.hid hC; have SC := Lib.hid sC; have FC0 := Lib.hid fC0; have Hk2 := Lib.hid hk2
      clear hC sC fC0
      by_cases hlt : k < n2
      · have hlt' : (k : Int) < (n2 : Int) := by omega
        by_cases h1k : k < 1000
        · have h1k' : (k : Int) < 1000 := by omega
          have hF9 : Fr (fun b => w1.heap.size ≤ b) w1 wr := ((F19.out.mono (G := fun b => w1.heap.size ≤ b) (fun _ _ h => h.elim)).trans F912.out (fun b _ e => by rcases e with e | e; (have := HV.out.2.2.1 b e; omega); (have := Hlb.out; have := HV.out; omega))).trans FC0.out (fun b _ e => by have := HV.out.2.2.1 b e; omega)
          obtain ⟨lb, lo, rfl, kx0, lf1, lf2⟩ := ints_one H2.out hlt
          obtain ⟨lx, hlx⟩ : ∃ x, x = K2 k 0 := ⟨_, rfl⟩
          rw [← hlx] at kx0 lf1 lf2
          have hl0 := World.block_lt_of_cell? _ _ kx0
          have kx := ((F1.out.trans hF9.toNew (fun _ _ h => h)).cell hl0 (fun h => h)).trans kx0
          have lbr : lb < wr.drew.heap.size ∧ ¬ v.ownBlock = some lb := ⟨Nat.lt_of_lt_of_le hl0 (F1.out.trans hF9.toNew (fun _ _ h => h)).size, fun e => by have := HV.out.2.2.1 _ e; have := F1.out.size; simp only at hl0; omega⟩
          have Hlt := Lib.hid hlt; have H1k := Lib.hid h1k
          have k0 : (0 : Int) ≤ (k : Int) := by omega
          have HP := Lib.hid (fun w0 => pick_ok lx 300 w0 lf1 lf2 (by omega) (by omega))
          have hgr := HG12.out.fr FC0.out (fun b hb e => HAp.out b hb (.inl e))
          have c7 := (cell_of hgr.k7 0).trans (show _ = some (Value.pointer (some ⟨bh, 0, none⟩)) from rfl)
          have l7 : b7 < wr.drew.heap.size ∧ ¬ v.ownBlock = some b7 := ⟨lt_of_block hgr.k7, fun e => by have := HV.out.2.2.1 _ e; omega⟩
          have HA := Lib.hid (SC.out.fr (Fr.drew (Fr.refl (fun _ => False) _)) (fun h => h) (fun _ _ h => h))
          clear hlx hlt lf1 lf2 hF9 hgr h1k hk hk2 kx0 hl0
          go_upto_region 28 with fail
          go_region_held3 (fun w' => w'.cell? ⟨b7, 0, none⟩ = some (.pointer (some ⟨bh, 0, none⟩)) ∧ w'.cell? ⟨lb, lo + k, none⟩ = some (.int .i64 lx))
            (first | (go_keep; done) | exact ⟨c7, kx⟩ | exact ⟨(fD.cell l7.1 l7.2).trans c7, (fD.cell lbr.1 lbr.2).trans kx⟩)
            (first | (go_at_call 8; refine (HP.out _).mono ?_; rintro e w4 ⟨rfl, rfl⟩) | (go_at_call 7; refine (put_any HA.out HNe.out _).mono ?_; rintro e w5 ⟨rr, D, rfl, hD, sD, fD⟩))
          replace fD := fr_undrew fD
          have HD := Lib.hid hD; have SD := Lib.hid sD; have FD := Lib.hid (FC0.out.trans fD (fun b _ e => e))
          clear hD sD fD c7 kx HA HP
          go_wp2_with fail
          go_roundw
          case rel => exact ⟨k + 1, D, by first | (simp; done) | go_num, Hlt.out, H1k.out, by rw [HD.out]; exact HC.out, SD.out, FD.out⟩
          case measure => have := Hlt.out; simp [intOf]; omega
        · have h1k' : ¬ (k : Int) < 1000 := by omega
          clear hlt h1k hk hk2
          go_wp2_with fail
          go_meet
          exact FC0.out
      · have hlt' : ¬ (k : Int) < (n2 : Int) := by omega
        clear hlt hk hk2
        go_wp2_with fail
        go_meet
        exact FC0.out
  case rest =>
  have HG13 := Lib.hid (HG12.out.fr hcut (fun b hb e => HAp.out b hb (.inl e)))
  have HD13 := Lib.hid (hcut.get HD12.out (fun e => by have := HV.out.2.2.1 _ e; have := Hlb.out; have := HDS.out; omega))
  have HDk13 := Lib.hid (hcut.get HDk2.out (fun e => by have := HV.out.2.2.1 _ e; have := Hlb.out; have := L17.out; have := L11.out; have := HD2.out; omega))
  have F913 := Lib.hid (F912.out.trans (hcut.mono (G := (fun b => v.ownBlock = some b ∨ b = b17)) (fun b _ e => .inl e)) (fun b _ e => e))
  clear hcut
  go_wp2_with fail
  refine (told_ok HG13.out.sA).mono ?_
  rintro e wt1 ⟨t1, rfl, rt1, -, ft1⟩
  have HG14 := Lib.hid (HG13.out.keep ft1); have RT1 := Lib.hid rt1; have FT1 := Lib.hid ft1
  clear rt1 ft1
  go_wp2_with fail
  refine (pairs_ok HG14.out.sG).mono ?_
  rintro e wt2 ⟨t2, rfl, rt2, -, ft2⟩
  have HG15 := Lib.hid (HG14.out.keep ft2); have RT1 := Lib.hid (Row.fr RT1.out ft2 (fun _ _ h => h)); have RT2 := Lib.hid rt2; have FT2 := Lib.hid (FT1.out.trans ft2 (fun _ _ h => h))
  clear rt2 ft2
  go_wp2_with fail
  refine (all_ok HG15.out.sA.tab HG15.out.cp).mono ?_
  rintro e wt3 ⟨cb5, bq5, vq5, rfl, hseq⟩
  have HSq := Lib.hid hseq.seq; have HG16 := Lib.hid (HG15.out.keep hseq.fr); have RT1 := Lib.hid (Row.fr RT1.out hseq.fr (fun _ _ h => h)); have RT2 := Lib.hid (Row.fr RT2.out hseq.fr (fun _ _ h => h)); have FT3 := Lib.hid (FT2.out.trans hseq.fr (fun _ _ h => h))
  clear hseq
  go_wp2_with fail
  refine (told_ok HSq.out).mono ?_
  rintro e wt4 ⟨t3, rfl, rt3, -, ft4⟩
  have hg17 := HG16.out.keep ft4
  have HG17 := Lib.hid hg17; have RT1 := Lib.hid (Row.fr RT1.out ft4 (fun _ _ h => h)); have RT2 := Lib.hid (Row.fr RT2.out ft4 (fun _ _ h => h)); have RT3 := Lib.hid rt3; have FT4 := Lib.hid (FT3.out.trans ft4 (fun _ _ h => h))
  have hla : (asInts (allL B)).length ≤ 1000000 := by have h1 := allL_le B; have h2 := HB.out; simp only [asInts, List.length_map]; omega
  have hlg : (flatG (gapsL B)).length ≤ 1000000 := by have h1 := gapsL_len B; have h2 := HB.out; rw [flatG_length]; omega
  have HLa := Lib.hid hla; have HLg := Lib.hid hlg
  have d13 := (cell_of hg17.k13 0).trans (show _ = some (Value.slice a13 m13 c13) from rfl)
  clear rt3 ft4 hg17 hla hlg
  go_wp2_with fail
  refine (sameInts_ok RT1.out HG17.out.r1 HLa.out HLa.out).mono ?_
  rintro e wt5 ⟨rfl, ft5⟩
  simp only [decide_true]
  have hg18 := HG17.out.keep ft5
  have HG18 := Lib.hid hg18; have RT2 := Lib.hid (Row.fr RT2.out ft5 (fun _ _ h => h)); have RT3 := Lib.hid (Row.fr RT3.out ft5 (fun _ _ h => h)); have FT5 := Lib.hid (FT4.out.trans ft5 (fun _ _ h => h))
  have d15 := (cell_of hg18.k15 0).trans (show _ = some (Value.slice a15 m15 c15) from rfl)
  clear ft5 hg18 d13
  go_wp2_with fail
  refine (sameInts_ok RT2.out HG18.out.r2 HLg.out HLg.out).mono ?_
  rintro e wt6 ⟨rfl, ft6⟩
  simp only [decide_true]
  have hg19 := HG18.out.keep ft6
  have HG19 := Lib.hid hg19; have RT3 := Lib.hid (Row.fr RT3.out ft6 (fun _ _ h => h)); have FT6 := Lib.hid (FT5.out.trans ft6 (fun _ _ h => h))
  have d13 := (cell_of hg19.k13 0).trans (show _ = some (Value.slice a13 m13 c13) from rfl)
  clear ft6 hg19 d15
  go_wp2_with fail
  refine (sameInts_ok RT3.out HG19.out.r1 HLa.out HLa.out).mono ?_
  rintro e wt7 ⟨rfl, ft7⟩
  simp only [decide_true]
  have FT7 := Lib.hid (FT6.out.trans ft7 (fun _ _ h => h))
  clear ft7 d13
  go_wp2_with fail
  refine leaves_marks [D2, D1] _ (((MarksOk.nil _).cons (FT7.out.get HD13.out (fun e => e)) (by simp)).cons (FT7.out.get HDk13.out (fun e => e)) (by simp; exact fun e => HDn.out e.symm)) ?_
  intro wl fl
  refine ⟨.bool true, ?_, rfl, ?_⟩
  · simp [results, Tryd.f4, go_sem]
  · have r1 := HDS.out; have d2 := HD2.out; have l11 := L11.out; have l17 := L17.out; have hl := Hlb.out; have hv := HV.out; have h0 := Hw0.out
    have t1 := (F09.out.mono (G := fun b => w.heap.size ≤ b) (fun _ _ h => h.elim)).trans F913.out (fun b _ e => by rcases e with e | e; (have := HV.out.2.2.1 b e; omega); omega)
    have t2 := (t1.trans FT7.out (fun _ _ h => h.elim)).trans fl (fun b _ e => by simp at e; omega)
    exact Fr.toNew t2
end Go.Proofs.YtkndhcimgcmihaaDoor.Bt
