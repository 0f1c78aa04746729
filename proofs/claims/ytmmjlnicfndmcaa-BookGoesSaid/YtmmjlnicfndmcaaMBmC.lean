/- Books: a cancel takes no new blocks. No condition. -/
import Derived.Test.YtmmjlnicfndmcaaM5
import Derived.Test.YtmmjlnicfndmcaaM4
namespace Go.Proofs.Ytmmjlnicfndmcaa.Bk
open Go.RowKit Go.Shelf
attribute [local go_sem] Oper.semAt_some
def AftC (p : Pt) (bb : Nat) (b' : Bk) (w w' : World) : Prop := ∃ p', BkP p' bb b'.next b' b'.L b'.L w' ∧ Fr (p.own bb) w w' ∧ ∀ y, p'.own bb y → p.own bb y
set_option maxRecDepth 100000 in
set_option maxHeartbeats 4000000 in
theorem cancel_ok {p : Pt} {bb : Nat} {b : Bk} {w : World} (h : BkP p bb b.next b b.L b.L w) {r : Rc} (hid : r.id < 4294967296) (k1 : r.kind = 3) :
    Calls Try.prog 14 #[.pointer (some ⟨bb, 0, none⟩), rcV r] w fun e w' => e = .returned (.int .i64 (appE b r : Nat)) ∧ AftC p bb (appB b r) w w' := by
  obtain ⟨W, hW⟩ : ∃ W, W = w.alloc (rcC r) := ⟨_, rfl⟩
  obtain ⟨z, hz⟩ : ∃ z, z = w.heap.size := ⟨_, rfl⟩
  have f0 : Fr (fun _ => False) w W := by rw [hW]; exact Fr.alloc (Fr.refl _ _) _
  have hg : W.heap[z]? = some (rcC r) := by rw [hW, hz]; exact heap_alloc_at _ _
  have hB := h.keep f0
  have z0 := (cell_of hg 0).trans (show _ = some (Value.int .i64 r.kind) from rfl)
  have z1 := (cell_of hg 1).trans (show _ = some (Value.int .u32 (r.id : Int)) from rfl)
  have z2 := (cell_of hg 2).trans (show _ = some (Value.int .i64 r.seat) from rfl)
  have z3 := (cell_of hg 3).trans (show _ = some (Value.int .i64 r.till) from rfl)
  have z4 := (cell_of hg 4).trans (show _ = some (Value.int .i64 r.clock) from rfl)
  have HT := Lib.hid (there_ok hB); have HB := Lib.hid hB; have F0 := Lib.hid f0; have H := Lib.hid h; have Hg := Lib.hid hg
  have HC := Lib.hid (fun w => check_ok (r := r) hid w)
  have HZ := Lib.hid (show w.heap.size ≤ z by omega); have Hid := Lib.hid hid
  have Fp := Lib.hid (f0.mono (fun _ _ h => h.elim) : Fr (p.own bb) w W)
  by_cases hr : recB r = true
  · have hap1 : appE b r = if r.kind = 1 then holdE b r else if r.kind = 5 then tickE b r.clock else match bFind b.L r.id with | none => 171 | some x => if r.kind = 4 then seatE b x r.seat else 0 := by
      unfold appE; rw [if_neg (by rw [hr]; simp)]; rfl
    have hap2 : appB b r = if r.kind = 1 then holdB b r else if r.kind = 5 then tickB b r.clock else match bFind b.L r.id with | none => b | some x => if r.kind = 2 then { b with L := bFirm b.L r.id } else if r.kind = 3 then { b with L := bDrop b.L r.id } else seatB b x r.seat := by
      unfold appB; rw [if_neg (by rw [hr]; simp)]; rfl
    have hkk := recB_kind hr
    rw [hr] at HC
    simp only [if_true] at HC
    have n1 : ¬ r.kind = 1 := by omega
    have n5 : ¬ r.kind = 5 := by omega
    rw [if_neg n1, if_neg n5] at hap1 hap2
    cases hfd : bFind b.L r.id with
    | none =>
      have HGet := Lib.hid (fun (w' : World) (f : Fr (fun _ => False) W w') => get_ok (hB.keep f) hid)
      rw [hfd] at HGet hap1 hap2
      rw [hap1, hap2]
      rw [k1] at z0
      have K1 := Lib.hid k1
      have Hsame := Lib.hid (fun (st : Nat) (w' : World) (h : BkP (p.steps st) bb b.next b b.L b.L w') (f : Fr (p.own bb) w w') => show AftC p bb b w w' from ⟨_, h, f, fun y hy => hy⟩)
      clear f0 hg hB h hid hr hap1 hap2 hkk k1 hfd
      go_enter Try.func14, Try.ntmps14
      go_upto_region 1 with fail
      rw [← hW, ← hz]
      clear hW hz
      go_wp2_with fail
      refine HT.out.mono ?_
      rintro e w1 ⟨rfl, rfl⟩
      go_wp2_with fail
      rw [← K1.out]
      refine (HC.out _).mono ?_
      rintro e w1 ⟨rfl, f1⟩
      have HG1 := Lib.hid (f1.get Hg.out (fun h => h)); have F1 := Lib.hid f1
      clear z0 z1 z2 z3 z4 f1
      have z0 := (cell_of HG1.out 0).trans (show _ = some (Value.int .i64 r.kind) from rfl)
      have z1 := (cell_of HG1.out 1).trans (show _ = some (Value.int .u32 (r.id : Int)) from rfl)
      have z2 := (cell_of HG1.out 2).trans (show _ = some (Value.int .i64 r.seat) from rfl)
      have z3 := (cell_of HG1.out 3).trans (show _ = some (Value.int .i64 r.till) from rfl)
      have z4 := (cell_of HG1.out 4).trans (show _ = some (Value.int .i64 r.clock) from rfl)
      rw [K1.out] at z0
      go_wp2_with fail
      refine (HGet.out _ F1.out).mono ?_
      rintro e w2 ⟨rfl, ⟨st, hb2⟩, f2⟩
      have Hfin := Lib.hid (Hsame.out st _ (hb2.keep (Fr.alloc (Fr.refl _ _) (.cells #[.int .u32 0, .int .i64 0, .int .i64 0] 44))) (((Fp.out.trans F1.out (fun _ _ h => h.elim)).trans f2 (fun y _ e => by rw [e]; exact Pt.ownI (.inl rfl))).trans (G := fun _ => False) (Fr.alloc (Fr.refl _ _) (.cells #[.int .u32 0, .int .i64 0, .int .i64 0] 44)) (fun _ _ h => h.elim)))
      clear hb2 f2 z0 z1 z2 z3 z4
      simp only [getE]
      go_wp2_with fail
      go_ret
      exact ⟨rfl, Hfin.out⟩
    | some x =>
      have HGet := Lib.hid (fun (w' : World) (f : Fr (fun _ => False) W w') => get_ok (hB.keep f) hid)
      rw [hfd] at HGet hap1 hap2
      have hap1' : appE b r = 0 := by rw [hap1]; simp [k1]
      have hap2' : appB b r = { b with L := bDrop b.L r.id } := by rw [hap2]; simp [k1]
      rw [hap1', hap2']
      rw [k1] at z0
      have K1 := Lib.hid k1
      obtain ⟨hxi, hxm⟩ := bFind_id hfd
      have Hxm := Lib.hid hxm; have Hxi := Lib.hid hxi
      have lz : p.ip < z := by have := h.idx.lt.1; rw [hz]; exact this
      clear f0 hg hB h hid hr hap1 hap2 hap1' hap2' hkk k1 hfd hxi hxm
      go_enter Try.func14, Try.ntmps14
      go_upto_region 1 with fail
      rw [← hW, ← hz]
      clear hW hz
      go_wp2_with fail
      refine HT.out.mono ?_
      rintro e w1 ⟨rfl, rfl⟩
      go_wp2_with fail
      rw [← K1.out]
      refine (HC.out _).mono ?_
      rintro e w1 ⟨rfl, f1⟩
      have HG1 := Lib.hid (f1.get Hg.out (fun h => h)); have F1 := Lib.hid f1
      clear z0 z1 z2 z3 z4 f1
      have z0 := (cell_of HG1.out 0).trans (show _ = some (Value.int .i64 r.kind) from rfl)
      have z1 := (cell_of HG1.out 1).trans (show _ = some (Value.int .u32 (r.id : Int)) from rfl)
      have z2 := (cell_of HG1.out 2).trans (show _ = some (Value.int .i64 r.seat) from rfl)
      have z3 := (cell_of HG1.out 3).trans (show _ = some (Value.int .i64 r.till) from rfl)
      have z4 := (cell_of HG1.out 4).trans (show _ = some (Value.int .i64 r.clock) from rfl)
      rw [K1.out] at z0
      go_wp2_with fail
      refine (HGet.out _ F1.out).mono ?_
      rintro e w2 ⟨rfl, ⟨st, hb2⟩, f2⟩
      obtain ⟨w3, hw3⟩ : ∃ w3, w3 = w2.alloc (.cells #[.int .u32 (x.1 : Int), .int .i64 x.2.1, .int .i64 x.2.2] 44) := ⟨_, rfl⟩
      obtain ⟨y, hy⟩ : ∃ y, y = w2.heap.size := ⟨_, rfl⟩
      have f3 : Fr (fun _ => False) w2 w3 := by rw [hw3]; exact Fr.alloc (Fr.refl _ _) _
      have hgy : w3.heap[y]? = some (.cells #[.int .u32 (x.1 : Int), .int .i64 x.2.1, .int .i64 x.2.2] 44 (0, 0)) := by rw [hw3, hy]; exact heap_alloc_at _ _
      obtain ⟨y0, y1, y2⟩ := box_bo hgy
      have hb3 := hb2.keep f3
      have g3 := (f2.trans f3 (fun _ _ h => h.elim)).get HG1.out (fun e => by omega)
      have FF := Lib.hid (((Fp.out.trans F1.out (fun _ _ h => h.elim)).trans f2 (fun y _ e => by rw [e]; exact Pt.ownI (.inl rfl))).trans f3 (fun _ _ h => h.elim))
      clear z0 z1 z2 z3 z4
      have z0 := (cell_of g3 0).trans (show _ = some (Value.int .i64 r.kind) from rfl)
      have z2 := (cell_of g3 2).trans (show _ = some (Value.int .i64 r.seat) from rfl)
      rw [K1.out] at z0
      have YN := Lib.hid (show ¬ (p.steps st).own bb y from fun e => by have := hb2.lt e; omega)
      have HB3 := Lib.hid hb3; have HGy := Lib.hid hgy
      clear hb2 f2 f3 hgy hb3 g3
      simp only [getE]
      go_upto_region 12 with fail
      rw [← hw3, ← hy]
      clear hw3 hy
      go_wp2_with fail
      refine (drop_ok HB3.out Hxm.out).mono ?_
      rintro e w4 ⟨rfl, p', hb4, f4, ho4⟩
      rw [Hxi.out] at hb4
      have Hfin := Lib.hid (show AftC p bb { b with L := bDrop b.L r.id } w w4 from ⟨p', hb4, FF.out.trans f4 (fun _ _ h => h), ho4⟩)
      clear hb4 f4 ho4 z0 z2 y0 y1 y2
      go_wp2_with fail
      go_ret
      exact ⟨rfl, Hfin.out⟩
  · have hr' : recB r = false := by simpa using hr
    have hap1 : appE b r = 160 := by unfold appE; rw [if_pos hr']
    have hap2 : appB b r = b := by unfold appB; rw [if_pos hr']
    rw [hap1, hap2]
    rw [hr'] at HC
    simp only [Bool.false_eq_true, if_false] at HC
    clear f0 hg hB h hid hr hr' hap1 hap2 k1
    go_enter Try.func14, Try.ntmps14
    go_upto_region 1 with fail
    rw [← hW, ← hz]
    clear hW hz
    go_wp2_with fail
    refine HT.out.mono ?_
    rintro e w1 ⟨rfl, rfl⟩
    go_wp2_with fail
    refine (HC.out _).mono ?_
    rintro e w1 ⟨rfl, f1⟩
    have Hfin := Lib.hid (show AftC p bb b w w1 from ⟨p, H.out.keep (F0.out.trans f1 (fun _ _ h => h)), (F0.out.trans f1 (fun _ _ h => h)).mono (fun _ _ h => h.elim), fun _ h => h⟩)
    clear f1 z0 z1 z2 z3 z4
    go_wp2_with fail
    go_ret
    exact ⟨rfl, Hfin.out⟩
end Go.Proofs.Ytmmjlnicfndmcaa.Bk
