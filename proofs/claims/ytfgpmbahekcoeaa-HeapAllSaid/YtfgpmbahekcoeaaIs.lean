/- The contract of is: both heaps tell the same. Condition: a small next handle. -/
import Derived.RangeFuncFrom
import Derived.RangeFuncWrites
import Derived.Sort.CutIn
import Derived.Test.YtfgpmbahekcoeaaIter
import Derived.Test.YtfgpmbahekcoeaaRound
import Derived.Test.YtfgpmbahekcoeaaTwoD
namespace Go.Proofs.Ytfgpmbahekcoeaa
open Go.RowKit Go.Shelf
attribute [local go_sem] Oper.semAt_some
section
variable {G : Nat → Prop} {bk bh rh : Nat} {k next : Int} {L R : List It} {w : World}
set_option maxRecDepth 100000 in
set_option maxHeartbeats 4000000 in
theorem is_ok (h : PairIs G bk bh rh k L R next w) (hx : next ≤ 1000000000) (n : Int) : Calls Try.prog 29 #[twoV bh rh k, .int .i64 n] w fun e w' => e = .returned (.bool true) ∧ Fr (fun _ => False) w w' := by
  have hro : Fence.wide.round = none := rfl
  have h1 : 1 ≤ 3 := by omega
  have f0 : Fr (fun _ => False) w ((w.alloc (.cells #[.pointer (some ⟨bh, 0, none⟩), .pointer (some ⟨rh, 0, none⟩), .bool (decide (k < 4))] 51)).alloc (.cells #[.bool false] 4)) := Fr.alloc (Fr.alloc (Fr.refl _ _) _) _
  have hB : ((w.alloc (.cells #[.pointer (some ⟨bh, 0, none⟩), .pointer (some ⟨rh, 0, none⟩), .bool (decide (k < 4))] 51)).alloc (.cells #[.bool false] 4)).heap[w.heap.size]? = some (.cells #[.pointer (some ⟨bh, 0, none⟩), .pointer (some ⟨rh, 0, none⟩), .bool (decide (k < 4))] 51 (0, 0)) := by
    simp only [heap_alloc_get, World.size_alloc]; simp
  have hC : ((w.alloc (.cells #[.pointer (some ⟨bh, 0, none⟩), .pointer (some ⟨rh, 0, none⟩), .bool (decide (k < 4))] 51)).alloc (.cells #[.bool false] 4)).heap[w.heap.size + 1]? = some (.cells #[.bool false] 4 (0, 0)) := by
    simp only [heap_alloc_get, World.size_alloc]; simp
  refine (callsIn_wide (n := 3)).1 (callsIn_of_wp_marks Try.func29 rfl trivial ?_ hro)
  refine wpIn_wide.2 ?_
  simp only [Try.ntmps29, List.size_toArray, List.length_cons, List.length_nil, Nat.reduceAdd, Nat.reduceSub, Array.replicate_succ, Array.replicate_zero, List.push_toArray, List.append_toArray, List.nil_append, List.cons_append]
  go_upto_region 1 with fail
  generalize ((w.alloc (.cells #[.pointer (some ⟨bh, 0, none⟩), .pointer (some ⟨rh, 0, none⟩), .bool (decide (k < 4))] 51)).alloc (.cells #[.bool false] 4)) = W at *
  obtain ⟨G1, G2, pp⟩ := h.parts f0
  have hR : RefIs G2 rh k R next W := pp.r
  obtain ⟨o, ho⟩ : ∃ o, decide (k < 4) = o := ⟨_, rfl⟩
  rw [ho] at hB
  have hlen := pp.p.rel.len
  obtain ⟨av, ab, hget⟩ := pp.get n
  obtain ⟨v, m, v2, m2, hleast⟩ := pp.least
  obtain ⟨ok, hok⟩ : ∃ ok, decide ((0 : Int) < (R.length : Int)) = ok := ⟨_, rfl⟩
  rw [hok] at hleast
  have hlc : ∀ w0, Fr (fun _ => False) W w0 → Calls Try.prog 54 #[.pointer (some ⟨bh, 0, none⟩)] w0 fun e w' => e = .returned (.int .i64 R.length) ∧ w' = w0 := fun w0 f => by
    rw [hlen]; exact (len_ok pp.less (pp.heapFr f)).mono fun _ _ h => ⟨h.1, h.2.symm⟩
  have hsv : ∀ w0, Fr (fun _ => False) W w0 → ∃ a c, w0.cell? ⟨rh, 1, none⟩ = some (.slice a R.length c) := fun w0 f => ref_len (pp.refStay f)
  have c0 := cell_of hB 0
  have c1 := cell_of hB 1
  have c2 := cell_of hB 2
  simp at c0 c1 c2
  have Ho := Lib.hid ho; have PP := Lib.hid pp; have HB := Lib.hid hB; have HC := Lib.hid hC; have F0 := Lib.hid f0; have Hlen := Lib.hid hlen; have Hget := Lib.hid hget; have Hleast := Lib.hid hleast; have Hlc := Lib.hid hlc; have Hsv := Lib.hid hsv; have HX := Lib.hid hx; have Hok := Lib.hid hok
  clear ho pp hB hC f0 hlen hget hleast hlc hsv hx h hR hok
  go_wp2_with fail
  refine (Hget.out.one _ (Fr.refl _ _)).mono ?_
  rintro e w1 ⟨rfl, rfl⟩
  go_wp2_with fail
  refine (Hget.out.two _ (Fr.refl _ _)).mono ?_
  rintro e w1 ⟨rfl, rfl⟩
  go_wp2_with fail
  refine (Hleast.out.one _ (Fr.refl _ _)).mono ?_
  rintro e w1 ⟨rfl, f1⟩
  have hb1 := f1.get HB.out (fun h => h)
  have d0 := cell_of hb1 0
  have d1 := cell_of hb1 1
  have d2 := cell_of hb1 2
  simp at d0 d1 d2
  obtain ⟨ra, rc, r1⟩ := Hsv.out _ f1
  have F1 := Lib.hid f1
  clear f1 hb1 c0 c1 c2
  go_upto_region 4 with fail
  have hok := Hok.out
  have hok2 : decide (0 < R.length) = ok := by rw [← hok]; simp
  go_quiet ((go_at_call 54; refine Calls.quiet_of_same (Hlc.out _ (F1.out.drewN _))))
  clear hok hok2
  go_wp2_with fail
  refine (Hleast.out.get _ (F1.out.drewN _)).mono ?_
  rintro e w2 ⟨rfl, rfl⟩
  go_upto_region 7 with fail
  go_cut [100] from 20 (fun s100 wx => s100 = .bool false ∧ wx = w1.drewN nq)
  case first =>
    cases ok with
    | true =>
      go_wp2_with fail
      go_meet
      exact ⟨rfl, rfl⟩
    | false =>
      obtain ⟨rfl, rfl⟩ := Hleast.out.no rfl
      go_wp2_with fail
      go_meet
      exact ⟨rfl, rfl⟩
  case rest =>
  obtain ⟨rfl, rfl⟩ := hcut
  go_wp2_with fail
  refine (Hleast.out.two _ (F1.out.drewN _)).mono ?_
  rintro e w2 ⟨rfl, f2⟩
  have hb1 := ((F1.out.drewN nq).trans f2 (fun _ _ h => h)).get HB.out (fun h => h)
  have d0 := cell_of hb1 0
  have d1 := cell_of hb1 1
  have d2 := cell_of hb1 2
  simp at d0 d1 d2
  have F2 := Lib.hid ((F1.out.drewN nq).trans f2 (fun _ _ h => h))
  clear f2 hb1
  go_upto_region 10 with fail
  go_cut [119] from 20 (fun s119 wx => s119 = .bool false ∧ wx = w2)
  case first =>
    cases o with
    | true =>
      obtain ⟨rfl, rfl⟩ := Hleast.out.ord (of_decide_eq_true Ho.out)
      go_wp2_with fail
      go_meet
      exact ⟨rfl, rfl⟩
    | false =>
      go_wp2_with fail
      go_meet
      exact ⟨rfl, rfl⟩
  case rest =>
  obtain ⟨rfl, rfl⟩ := hcut
  have f3 : Fr (fun _ => False) W (wc.alloc (.cells #[.int .i64 0] 3)) := F2.out.alloc _
  have hH3 := PP.out.heapFr f3
  have H3 := Lib.hid hH3
  have hcnt : (wc.alloc (.cells #[.int .i64 0] 3)).heap[wc.heap.size]? = some (.cells #[.int .i64 0] 3 (0, 0)) := heap_alloc_at _ _
  have hsz : w.heap.size + 2 ≤ wc.heap.size := by have := lt_of_block HC.out; have := F2.out.size; omega
  have hb3 := f3.get HB.out (fun h => h)
  have d0 := cell_of hb3 0
  simp only [List.getElem?_toArray, List.getElem?_cons_zero] at d0
  have F3 := Lib.hid f3; have Hcnt := Lib.hid hcnt; have Hsz := Lib.hid hsz
  clear f3 hH3 hcnt hsz hb3
  go_wp2_with fail
  refine (all_ok PP.out.less H3.out HX.out).mono ?_
  rintro e w3 ⟨B, sv, S, rfl, hB2, hbx, hS, hit, hsvn, f4⟩
  obtain rfl := PP.out.p.rel.order hS
  have F4 := Lib.hid f4; have HBX := Lib.hid hbx; have HIT := Lib.hid hit; have HSV := Lib.hid hsvn
  clear hS hB2 hbx hit hsvn f4
  go_wp2_with fail
  have hc4 := F4.out.get Hcnt.out (fun h => h)
  have hbi : wc.heap.size < w3.heap.size := lt_of_block hc4
  have FL := Lib.hid (F3.out.trans F4.out (fun _ _ h => h))
  have hlenS : ((R.map sw).length * 16 ≤ 140737488351232) := by have := PP.out.r.len; rw [List.length_map]; omega
  have HSV2 := Lib.hid (fun b (e : sv.ownBlock = some b) => (HSV.out b e).2)
  have hst := iter_stopsK Fence.wide (3 - 1) trivial hro (by omega) B w3.heap.size sv (R.map sw) hlenS w3 (lt_of_block HBX.out) (Nat.le_refl _) (Boxed.cell HBX.out) HIT.out (fun b => sv.ownBlock = some b) (fun _ h => h)
  refine (wpIn_wide (n := 3)).1 ?_
  refine wpIn_rangeFunc_ownF hro h1 (gf := 67) (lb := #[.pointer (some ⟨B, 0, none⟩)]) rfl trivial (enters_of Try.func67 (by kernel_rfl) rfl)
    hst KeepsB.trans (keepsB_b HSV2.out) (Below.refl _ _) (fun _ => rfl)
    (fun pre W' => (W'.heap[wc.heap.size]? = some (.cells #[.int .i64 pre.length] 3 (0, 0)) ∧ ∀ j, j < pre.length → itAt pre j = sw (itAt R j)) ∧ Fr (fun b => b = wc.heap.size) w3 W')
    (fun c pre W' => c = .ret ∧ ∃ ini last, pre = ini ++ [last] ∧ last ≠ sw (itAt R ini.length) ∧ ini.length < R.length)
    ?own ?ownx ⟨⟨hc4, by simp⟩, Fr.refl _ _⟩ ?a1 ?assign ?body ?done ?stop
  case own =>
    intro s A B' row hs hg hr
    have f := grownBy.fr hg
    refine ⟨⟨f.get hs.1.1 ?_, hs.1.2⟩, hs.2.trans f ?_⟩
    · intro e; have := (hr _ e).1; omega
    · intro i hi e; have := (hr _ e).1; omega
  case ownx =>
    intro c s A B' row hs _ _
    exact hs
  case assign =>
    intro l x W' K hK
    gi_wp2
    exact hK
  case body =>
    rintro l pre x W' ⟨⟨hcn, hpre⟩, hfr⟩ hlt
    have hi : pre.length < R.length := by simpa using hlt
    have fW : Fr (fun b => b = wc.heap.size) W W' := (nofr FL.out).trans hfr (fun _ _ h => h)
    have hbW := fW.get HB.out (fun e => by have := Hsz.out; omega)
    have hRW : RefIs G2 rh k R next W' := PP.out.r.fr fW (fun b hb e => by have := PP.out.r.bd b hb; have := F2.out.size; omega)
    obtain ⟨sv', hr1, hr2, _⟩ := hRW.ex
    obtain ⟨ra, rc, rfl, hcs⟩ := row_cells hr2
    obtain ⟨rg, rfl, g0, g1⟩ := hcs pre.length hi
    have e1 := cell_of hbW 1
    have e2 := cell_of hr1 1
    have e3 := cell_of hcn 0
    have e4 := free_of hcn 0
    have hcW := fW.get HC.out (fun e => by have := Hsz.out; omega)
    have e5 := cell_of hcW 0
    have e6 := free_of hcW 0
    simp at e1 e2 e3 e5
    have i1 : (pre.length : Int) < (R.length : Int) := by omega
    have i0 : (0 : Int) ≤ (pre.length : Int) := by omega
    have i2 : (pre.length : Int) ≤ 70000 := by have := PP.out.r.len; omega
    obtain ⟨yh, hyh⟩ : ∃ yh, (itAt R pre.length).1 = yh := ⟨_, rfl⟩
    obtain ⟨yv, hyv⟩ : ∃ yv, (itAt R pre.length).2 = yv := ⟨_, rfl⟩
    rw [hyh] at g0; rw [hyv] at g1
    have q1 : decide ((R.length : Int) ≤ (pre.length : Int)) = false := by simp; omega
    have q2 : decide (R.length ≤ pre.length) = false := by simp; omega
    generalize hpl : pre.length = pl at g0 g1 e3 e4 i0 i1 i2 q1 q2
    have Hpre := Lib.hid hpre; have Hcn := Lib.hid hcn; have Hfr := Lib.hid hfr; have Hi := Lib.hid hi; have Hyh := Lib.hid hyh; have Hyv := Lib.hid hyv; have Hpl := Lib.hid hpl
    clear hpre hcn hfr hi hlt fW hbW hcW hRW hr1 hr2 hcs hyh hyv hpl
    by_cases hb1 : yh = x.2
    · by_cases hb2 : yv = x.1
      · have b1 : (yh != x.2) = false := by simpa using hb1
        have b2 : (yv != x.1) = false := by simpa using hb2
        have HB1 := Lib.hid hb1; have HB2 := Lib.hid hb2; clear hb1 hb2
        gi_upto_region 16 with fail
        refine region_round_quiet (by kernel_rfl) (by kernel_rfl) (by kernel_rfl) ?lo ?_
        case lo => rintro ⟨_, _, h⟩; exact h
        repeat (go_big_quiet_step (fail))
        refine wpQuiet_nil ?_
        intro _ hw'
        obtain ⟨nq, hw''⟩ := hw'
        subst hw''
        gi_wp2
        refine ⟨⟨(KeepsOthers.setCell W' _ _).size, (KeepsOthers.setCell W' _ _).same⟩, ⟨(KeepsB.setCell (p := fun b => sv.ownBlock = some b) W' ?_ _).size, (KeepsB.setCell (p := fun b => sv.ownBlock = some b) W' ?_ _).blk⟩, ⟨?_, ?_⟩, ?_⟩
        · intro e; have h := (HSV.out _ e).1; simp at h; omega
        · intro e; have h := (HSV.out _ e).1; simp at h; omega
        · refine (setCell_blk (w := W'.drewN nq) (o := 0) Hcn.out _).trans ?_
          simp [Hpl.out]
        · intro j hj
          have hpl := Hpl.out
          by_cases hj2 : j < pre.length
          · rw [itAt_append_lt hj2]; exact Hpre.out j hj2
          · obtain rfl : j = pre.length := by simp at hj; omega
            rw [itAt_append_eq]
            have h1 := Hyh.out; have h2 := Hyv.out; have h3 := HB1.out; have h4 := HB2.out
            unfold sw
            rw [h1, h2, h3, h4]
        · exact (Hfr.out.drewN nq).setCell (p := ⟨wc.heap.size, 0, none⟩) (fun _ => rfl) _
      · have b1 : (yh != x.2) = false := by simpa using hb1
        have b2 : (yv != x.1) = true := by simpa using hb2
        have HB2 := Lib.hid hb2; clear hb1 hb2
        gi_upto_region 16 with fail
        refine region_round_quiet (by kernel_rfl) (by kernel_rfl) (by kernel_rfl) ?lo ?_
        case lo => rintro ⟨_, _, h⟩; exact h
        repeat (go_big_quiet_step (fail))
        refine wpQuiet_nil ?_
        intro _ hw'
        obtain ⟨nq, hw''⟩ := hw'
        subst hw''
        gi_wp2
        refine ⟨⟨(KeepsOthers.setCell W' _ _).size, (KeepsOthers.setCell W' _ _).same⟩, rfl, pre, x, rfl, ?_, Hi.out⟩
        intro e
        refine HB2.out ?_
        rw [e, ← Hyv.out]; rfl
    · have b1 : (yh != x.2) = true := by simpa using hb1
      have HB1 := Lib.hid hb1; clear hb1
      gi_upto_region 16 with fail
      refine region_round_quiet (by kernel_rfl) (by kernel_rfl) (by kernel_rfl) ?lo ?_
      case lo => rintro ⟨_, _, h⟩; exact h
      repeat (go_big_quiet_step (fail))
      refine wpQuiet_nil ?_
      intro _ hw'
      obtain ⟨nq, hw''⟩ := hw'
      subst hw''
      gi_wp2
      refine ⟨⟨(KeepsOthers.setCell W' _ _).size, (KeepsOthers.setCell W' _ _).same⟩, rfl, pre, x, rfl, ?_, Hi.out⟩
      intro e
      refine HB1.out ?_
      rw [e, ← Hyh.out]; rfl
  case done =>
    rintro D ys W' hD rfl ⟨⟨hcn, hpre⟩, hfr⟩ hK
    have fW : Fr (fun b => b = wc.heap.size) W W' := (nofr FL.out).trans hfr (fun _ _ h => h)
    have hbW := fW.get HB.out (fun e => by have := Hsz.out; omega)
    have hcW := fW.get HC.out (fun e => by have := Hsz.out; omega)
    have hRW : RefIs G2 rh k R next W' := PP.out.r.fr fW (fun b hb e => by have := PP.out.r.bd b hb; have := F2.out.size; omega)
    obtain ⟨ra, rc, e2⟩ := ref_len hRW
    have e1 := cell_of hbW 1
    have e3 := cell_of hcn 0
    have e5 := cell_of hcW 0
    have e6 := free_of hcW 0
    simp at e1 e3 e5
    have FW := Lib.hid fW; have HcW := Lib.hid hcW; have HK := Lib.hid hK; have HD := Lib.hid hD; have Hpre := Lib.hid hpre; have Hcn := Lib.hid hcn; have Hfr := Lib.hid hfr
    clear hpre hcn hfr fW hbW hcW hRW hK hD hlenS hst
    go_upto_region 19 with fail
    go_region
    go_wp2_with fail
    have hst2 := setCell_blk (o := 0) HcW.out (.bool true)
    have hK' : (W'.setCell ⟨w.heap.size + 1, 0, none⟩ (.bool true)).drew.heap[D]? = some (.deferred (some [])) := (KeepsOthers.setCell W' ⟨w.heap.size + 1, 0, none⟩ (.bool true)).same D _ HK.out rfl
    have hcc : (W'.setCell ⟨w.heap.size + 1, 0, none⟩ (.bool true)).drew.cell? ⟨w.heap.size + 1, 0, none⟩ = some (.bool true) := (cell_of hst2 0).trans (by simp)
    refine ⟨by simp, .inl ⟨_, _, rfl, run_takeDeferred hK', ?_⟩⟩
    have hc5 := cell_kept hcc (grownBy_putObj' _ D (.deferred none)) (fun r e => by cases e; exact ⟨_, hK', rfl⟩)
    refine ⟨.bool true, ?_, rfl, ?_⟩
    · simp [results, Try.f29, go_sem, hc5]
    · have f6 : Fr (fun b => w.heap.size ≤ b) W' ((W'.setCell ⟨w.heap.size + 1, 0, none⟩ (.bool true)).drew.putObj D (.deferred none)) :=
        ((Fr.refl _ W').setCell (p := ⟨w.heap.size + 1, 0, none⟩) (fun _ => by simp) _).drew.trans ((grownBy.fr (grownBy_putObj' _ D (.deferred none))).mono (G := fun b => w.heap.size ≤ b) (fun b _ e => by cases e; have := HD.out; have := Hsz.out; omega)) (fun _ _ h => h)
      refine Fr.toNew (((nofr F0.out).trans (FW.out.mono (G := fun b => w.heap.size ≤ b) (fun b _ e => by subst e; have := Hsz.out; omega)) (fun _ _ h => h)).trans f6 (fun _ _ h => h))
  case stop =>
    rintro D c pre W' hD hpre ⟨rfl, ini, last, rfl, hne, hlt⟩ hK
    exfalso
    obtain ⟨t, ht⟩ := hpre
    have h2 : (R.map sw)[ini.length]? = some last := by rw [← ht]; simp
    rw [List.getElem?_map, List.getElem?_eq_getElem hlt] at h2
    simp at h2
    exact hne (by rw [itAt_get hlt]; exact h2.symm)
end
end Go.Proofs.Ytfgpmbahekcoeaa
