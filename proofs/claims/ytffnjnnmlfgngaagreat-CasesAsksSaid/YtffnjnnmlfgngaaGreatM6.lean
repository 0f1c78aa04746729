/- Texts put together: The document's Reply; the law CasesReplies, The document's answer of layer 22: Decide, The document's answer of layer 22: Answer, The document's book as blocks that stay, The document's book: Copy, The walk of CasesDecides, The walk of CasesAsks, Arguments that are slices of structs, of numbers and . No condition. -/
import Derived.Lib.SmallJoins
import Derived.Test.YtffnjnnmlfgngaaGreatM1
import Derived.Test.YtffnjnnmlfgngaaGreatM2
import Derived.Test.YtffnjnnmlfgngaaGreatM3
import Derived.Test.YtffnjnnmlfgngaaGreatM4
import Derived.Test.YtffnjnnmlfgngaaGreatM5
namespace Go.Proofs.YtffnjnnmlfgngaaGreat.Cs
open Go.RowKit Go.Shelf Go.Proofs.YtffnjnnmlfgngaaGreat.Bk
attribute [local go_sem] Oper.semAt_some
set_option maxRecDepth 100000 in
set_option maxHeartbeats 4000000 in
theorem rreply_ok (q : Rq) (r : Rc) (w : World) : Calls Tryz.prog 69 #[rqV q, rcV r] w fun e w' => e = .returned (rpV (repOf q r)) ∧ Fr (fun _ => False) w w' := by
  obtain ⟨W1, hW1⟩ : ∃ W, W = w.alloc (rqC q) := ⟨_, rfl⟩
  obtain ⟨W2, hW2⟩ : ∃ W, W = W1.alloc (rcC r) := ⟨_, rfl⟩
  obtain ⟨W3, hW3⟩ : ∃ W, W = W2.alloc (.cells #[.int .u32 0, .int .i64 0, .int .i64 0, .int .u32 0, .int .i64 0, .int .i64 0, .int .i64 0] 71) := ⟨_, rfl⟩
  obtain ⟨W, hW⟩ : ∃ W, W = W3.alloc (.cells #[.int .u32 (q.tag : Int), .int .i64 q.kind, .int .i64 0, .int .u32 0, .int .i64 0, .int .i64 0, .int .i64 0] 71) := ⟨_, rfl⟩
  obtain ⟨z, hz⟩ : ∃ z, z = w.heap.size := ⟨_, rfl⟩
  have s1 : W1.heap.size = z + 1 := by rw [hW1, hz]; simp
  have s2 : W2.heap.size = z + 2 := by rw [hW2]; simp [s1]
  have s3 : W3.heap.size = z + 3 := by rw [hW3]; simp [s2]
  have a1 : Fr (fun _ => False) w W1 := by rw [hW1]; exact Fr.alloc (Fr.refl _ _) _
  have a2 : Fr (fun _ => False) W1 W2 := by rw [hW2]; exact Fr.alloc (Fr.refl _ _) _
  have a3 : Fr (fun _ => False) W2 W3 := by rw [hW3]; exact Fr.alloc (Fr.refl _ _) _
  have a4 : Fr (fun _ => False) W3 W := by rw [hW]; exact Fr.alloc (Fr.refl _ _) _
  have f0 : Fr (fun _ => False) w W := ((a1.trans a2 (fun _ _ h => h)).trans a3 (fun _ _ h => h)).trans a4 (fun _ _ h => h)
  have hg : W.heap[z]? = some (rqO q) := a4.get (a3.get (a2.get (show W1.heap[z]? = _ by rw [hW1, hz]; exact heap_alloc_at _ _) (fun h => h)) (fun h => h)) (fun h => h)
  have hg1 : W.heap[z + 1]? = some (rcC r) := a4.get (a3.get (show W2.heap[z + 1]? = _ by rw [hW2, ← s1]; exact heap_alloc_at _ _) (fun h => h)) (fun h => h)
  have hg2 : W.heap[z + 2]? = some (rpO rp0) := a4.get (show W3.heap[z + 2]? = _ by rw [hW3, ← s2]; exact heap_alloc_at _ _) (fun h => h)
  have hg3 : W.heap[z + 3]? = some (rpO ⟨q.tag, q.kind, 0, 0, 0, 0, 0⟩) := show W.heap[z + 3]? = _ by rw [hW, ← s3]; exact heap_alloc_at _ _
  have z0 := (cell_of hg 0).trans (show _ = some (Value.int .i64 q.kind) from rfl)
  have z1 := (cell_of hg 1).trans (show _ = some (Value.int .u32 (q.tag : Int)) from rfl)
  have z2 := (cell_of hg 2).trans (show _ = some (Value.int .u32 (q.id : Int)) from rfl)
  have z3 := (cell_of hg 3).trans (show _ = some (Value.int .i64 q.seat) from rfl)
  have z4 := (cell_of hg 4).trans (show _ = some (Value.int .i64 q.ttl) from rfl)
  have r0 := (cell_of hg1 0).trans (show _ = some (Value.int .i64 r.kind) from rfl)
  have r1 := (cell_of hg1 1).trans (show _ = some (Value.int .u32 (r.id : Int)) from rfl)
  have r2 := (cell_of hg1 2).trans (show _ = some (Value.int .i64 r.seat) from rfl)
  have r3 := (cell_of hg1 3).trans (show _ = some (Value.int .i64 r.till) from rfl)
  have r4 := (cell_of hg1 4).trans (show _ = some (Value.int .i64 r.clock) from rfl)
  obtain ⟨p0, p1, p2, p3, p4, p5, p6⟩ := rp_cells hg3
  obtain ⟨y0, y1, y2, y3, y4, y5, y6⟩ := rp_free hg3
  have HG2 := Lib.hid hg2; have HG3 := Lib.hid hg3; have F0 := Lib.hid f0; have Hz := Lib.hid (show w.heap.size ≤ z by omega)
  have HC := Lib.hid (fun (V : World) (fV : Fr (fun y => y = z + 3) W V) => (⟨fV, (cell_of (fV.get hg1 (by omega)) 1).trans rfl, (cell_of (fV.get hg1 (by omega)) 3).trans rfl⟩ : Fr (fun y => y = z + 3) W V ∧ V.cell? ⟨z + 1, 1, none⟩ = some (.int .u32 (r.id : Int)) ∧ V.cell? ⟨z + 1, 3, none⟩ = some (.int .i64 r.till)))
  simp only at p0 p1 p2 p3 p4 p5 p6
  have HS1 := Lib.hid s1; have HS2 := Lib.hid s2; have HS3 := Lib.hid s3
  have HW1 := Lib.hid hW1; have HW2 := Lib.hid hW2; have HW3 := Lib.hid hW3; have HW := Lib.hid hW; have HZ := Lib.hid hz
  clear hg hg1 hg2 hg3 f0 a1 a2 a3 a4 s1 s2 s3 hW1 hW2 hW3 hW hz
  go_enter Tryz.func69, Tryz.ntmps69
  go_upto_region 2 with fail
  rw [← HW1.out, ← HW2.out, ← HW3.out, ← HW.out, ← HZ.out]
  try rw [show z + 1 + 1 + 1 = z + 3 by omega, show z + 1 + 1 = z + 2 by omega]
  by_cases k1 : q.kind = 1
  · have b1 : (q.kind == 1) = true := by rw [k1]; rfl
    have b4 : (q.kind == 4) = false := by rw [k1]; rfl
    have b7 : (q.kind == 7) = false := by rw [k1]; rfl
    have HR := Lib.hid (show repOf q r = ⟨q.tag, q.kind, 0, r.id, 0, r.till, 0⟩ by unfold repOf; rw [if_pos k1])
    clear k1
    obtain ⟨W', hW'⟩ : ∃ V, V = (W.setCell ⟨z + 3, 3, none⟩ (.int .u32 (r.id : Int))).setCell ⟨z + 3, 5, none⟩ (.int .i64 r.till) := ⟨_, rfl⟩
    have hb : W'.heap[z + 3]? = some (rpO (repOf q r)) := by rw [HR.out, hW']; exact (setCell_blk (o := 5) (setCell_blk (o := 3) HG3.out _) _).trans rfl
    have hF : Fr (fun y => y = z + 3) W W' := by rw [hW']; exact Fr.setCell (F := fun y => y = z + 3) (p := ⟨z + 3, 5, none⟩) (Fr.setCell (F := fun y => y = z + 3) (p := ⟨z + 3, 3, none⟩) (Fr.refl _ _) (fun _ => rfl) _) (fun _ => rfl) _
    have HWx := Lib.hid hW'
    clear hW'
    go_upto_region 9 with fail
    rw [← HWx.out]
    obtain ⟨x, hx⟩ : ∃ x, x = repOf q r := ⟨_, rfl⟩
    have HX := Lib.hid hx
    rw [← hx] at hb
    have hb2 := hF.get HG2.out (by omega)
    have FF := Lib.hid (show Fr (fun _ => False) w (repW W' (z + 2) (x.tag : Int) x.kind x.err (x.id : Int) x.seat x.till x.count) from (((F0.out.mono (fun _ _ h => h.elim) : Fr (fun y => w.heap.size ≤ y) w W).trans hF (fun y _ e => by have := Hz.out; omega)).trans (repW_fr W' (z + 2) (x.tag : Int) x.kind x.err (x.id : Int) x.seat x.till x.count) (fun y _ e => by have := Hz.out; omega)).toNew)
    have HFin := Lib.hid (rp_cells (x := x) (repW_at hb2 (x.tag : Int) x.kind x.err (x.id : Int) x.seat x.till x.count))
    clear z0 z1 z2 z3 z4 r0 r1 r2 r3 r4 p0 p1 p2 p3 p4 p5 p6 y0 y1 y2 y3 y4 y5 y6 hF hx
    obtain ⟨p0, p1, p2, p3, p4, p5, p6⟩ := rp_cells hb
    obtain ⟨q0, q1, q2, q3, q4, q5, q6⟩ := rp_cells hb2
    obtain ⟨y0, y1, y2, y3, y4, y5, y6⟩ := rp_free hb2
    simp only [rp0] at q0 q1 q2 q3 q4 q5 q6
    clear hb hb2
    go_wp2_with fail
    refine bodyPost_ret (v := rpV x) ?_ rfl ⟨by rw [HX.out], FF.out⟩
    obtain ⟨e0, e1, e2, e3, e4, e5, e6⟩ := HFin.out
    simp [results, Tryz.f69, go_sem, e0, e1, e2, e3, e4, e5, e6]
  · by_cases k4 : q.kind = 4
    · have b1 : (q.kind == 1) = false := by rw [k4]; rfl
      have b4 : (q.kind == 4) = true := by rw [k4]; rfl
      have b7 : (q.kind == 7) = false := by rw [k4]; rfl
      have HR := Lib.hid (show repOf q r = ⟨q.tag, q.kind, 0, 0, r.seat, 0, 0⟩ by unfold repOf; rw [if_neg k1, if_pos k4])
      clear k1 k4
      obtain ⟨W', hW'⟩ : ∃ V, V = W.setCell ⟨z + 3, 4, none⟩ (.int .i64 r.seat) := ⟨_, rfl⟩
      have hb : W'.heap[z + 3]? = some (rpO (repOf q r)) := by rw [HR.out, hW']; exact (setCell_blk (o := 4) HG3.out _).trans rfl
      have hF : Fr (fun y => y = z + 3) W W' := by rw [hW']; exact Fr.setCell (F := fun y => y = z + 3) (p := ⟨z + 3, 4, none⟩) (Fr.refl _ _) (fun _ => rfl) _
      have HWx := Lib.hid hW'
      clear hW'
      go_upto_region 9 with fail
      rw [← HWx.out]
      obtain ⟨x, hx⟩ : ∃ x, x = repOf q r := ⟨_, rfl⟩
      have HX := Lib.hid hx
      rw [← hx] at hb
      have hb2 := hF.get HG2.out (by omega)
      have FF := Lib.hid (show Fr (fun _ => False) w (repW W' (z + 2) (x.tag : Int) x.kind x.err (x.id : Int) x.seat x.till x.count) from (((F0.out.mono (fun _ _ h => h.elim) : Fr (fun y => w.heap.size ≤ y) w W).trans hF (fun y _ e => by have := Hz.out; omega)).trans (repW_fr W' (z + 2) (x.tag : Int) x.kind x.err (x.id : Int) x.seat x.till x.count) (fun y _ e => by have := Hz.out; omega)).toNew)
      have HFin := Lib.hid (rp_cells (x := x) (repW_at hb2 (x.tag : Int) x.kind x.err (x.id : Int) x.seat x.till x.count))
      clear z0 z1 z2 z3 z4 r0 r1 r2 r3 r4 p0 p1 p2 p3 p4 p5 p6 y0 y1 y2 y3 y4 y5 y6 hF hx
      obtain ⟨p0, p1, p2, p3, p4, p5, p6⟩ := rp_cells hb
      obtain ⟨q0, q1, q2, q3, q4, q5, q6⟩ := rp_cells hb2
      obtain ⟨y0, y1, y2, y3, y4, y5, y6⟩ := rp_free hb2
      simp only [rp0] at q0 q1 q2 q3 q4 q5 q6
      clear hb hb2
      go_wp2_with fail
      refine bodyPost_ret (v := rpV x) ?_ rfl ⟨by rw [HX.out], FF.out⟩
      obtain ⟨e0, e1, e2, e3, e4, e5, e6⟩ := HFin.out
      simp [results, Tryz.f69, go_sem, e0, e1, e2, e3, e4, e5, e6]
    · by_cases k7 : q.kind = 7
      · have b1 : (q.kind == 1) = false := by rw [k7]; rfl
        have b4 : (q.kind == 4) = false := by rw [k7]; rfl
        have b7 : (q.kind == 7) = true := by rw [k7]; rfl
        have HR := Lib.hid (show repOf q r = ⟨q.tag, q.kind, 0, 0, 0, r.clock, 0⟩ by unfold repOf; rw [if_neg k1, if_neg k4, if_pos k7])
        clear k1 k4 k7
        obtain ⟨W', hW'⟩ : ∃ V, V = W.setCell ⟨z + 3, 5, none⟩ (.int .i64 r.clock) := ⟨_, rfl⟩
        have hb : W'.heap[z + 3]? = some (rpO (repOf q r)) := by rw [HR.out, hW']; exact (setCell_blk (o := 5) HG3.out _).trans rfl
        have hF : Fr (fun y => y = z + 3) W W' := by rw [hW']; exact Fr.setCell (F := fun y => y = z + 3) (p := ⟨z + 3, 5, none⟩) (Fr.refl _ _) (fun _ => rfl) _
        have HWx := Lib.hid hW'
        clear hW'
        go_upto_region 9 with fail
        rw [← HWx.out]
        obtain ⟨x, hx⟩ : ∃ x, x = repOf q r := ⟨_, rfl⟩
        have HX := Lib.hid hx
        rw [← hx] at hb
        have hb2 := hF.get HG2.out (by omega)
        have FF := Lib.hid (show Fr (fun _ => False) w (repW W' (z + 2) (x.tag : Int) x.kind x.err (x.id : Int) x.seat x.till x.count) from (((F0.out.mono (fun _ _ h => h.elim) : Fr (fun y => w.heap.size ≤ y) w W).trans hF (fun y _ e => by have := Hz.out; omega)).trans (repW_fr W' (z + 2) (x.tag : Int) x.kind x.err (x.id : Int) x.seat x.till x.count) (fun y _ e => by have := Hz.out; omega)).toNew)
        have HFin := Lib.hid (rp_cells (x := x) (repW_at hb2 (x.tag : Int) x.kind x.err (x.id : Int) x.seat x.till x.count))
        clear z0 z1 z2 z3 z4 r0 r1 r2 r3 r4 p0 p1 p2 p3 p4 p5 p6 y0 y1 y2 y3 y4 y5 y6 hF hx
        obtain ⟨p0, p1, p2, p3, p4, p5, p6⟩ := rp_cells hb
        obtain ⟨q0, q1, q2, q3, q4, q5, q6⟩ := rp_cells hb2
        obtain ⟨y0, y1, y2, y3, y4, y5, y6⟩ := rp_free hb2
        simp only [rp0] at q0 q1 q2 q3 q4 q5 q6
        clear hb hb2
        go_wp2_with fail
        refine bodyPost_ret (v := rpV x) ?_ rfl ⟨by rw [HX.out], FF.out⟩
        obtain ⟨e0, e1, e2, e3, e4, e5, e6⟩ := HFin.out
        simp [results, Tryz.f69, go_sem, e0, e1, e2, e3, e4, e5, e6]
      · have b1 : (q.kind == 1) = false := by simpa using k1
        have b4 : (q.kind == 4) = false := by simpa using k4
        have b7 : (q.kind == 7) = false := by simpa using k7
        have HR := Lib.hid (show repOf q r = ⟨q.tag, q.kind, 0, 0, 0, 0, 0⟩ by unfold repOf; rw [if_neg k1, if_neg k4, if_neg k7])
        clear k1 k4 k7
        obtain ⟨W', hW'⟩ : ∃ V, V = W := ⟨_, rfl⟩
        have hb : W'.heap[z + 3]? = some (rpO (repOf q r)) := by rw [HR.out, hW']; exact HG3.out
        have hF : Fr (fun y => y = z + 3) W W' := by rw [hW']; exact Fr.refl _ _
        have HWx := Lib.hid hW'
        clear hW'
        go_upto_region 9 with fail
        rw [← HWx.out]
        obtain ⟨x, hx⟩ : ∃ x, x = repOf q r := ⟨_, rfl⟩
        have HX := Lib.hid hx
        rw [← hx] at hb
        have hb2 := hF.get HG2.out (by omega)
        have FF := Lib.hid (show Fr (fun _ => False) w (repW W' (z + 2) (x.tag : Int) x.kind x.err (x.id : Int) x.seat x.till x.count) from (((F0.out.mono (fun _ _ h => h.elim) : Fr (fun y => w.heap.size ≤ y) w W).trans hF (fun y _ e => by have := Hz.out; omega)).trans (repW_fr W' (z + 2) (x.tag : Int) x.kind x.err (x.id : Int) x.seat x.till x.count) (fun y _ e => by have := Hz.out; omega)).toNew)
        have HFin := Lib.hid (rp_cells (x := x) (repW_at hb2 (x.tag : Int) x.kind x.err (x.id : Int) x.seat x.till x.count))
        clear z0 z1 z2 z3 z4 r0 r1 r2 r3 r4 p0 p1 p2 p3 p4 p5 p6 y0 y1 y2 y3 y4 y5 y6 hF hx
        obtain ⟨p0, p1, p2, p3, p4, p5, p6⟩ := rp_cells hb
        obtain ⟨q0, q1, q2, q3, q4, q5, q6⟩ := rp_cells hb2
        obtain ⟨y0, y1, y2, y3, y4, y5, y6⟩ := rp_free hb2
        simp only [rp0] at q0 q1 q2 q3 q4 q5 q6
        clear hb hb2
        go_wp2_with fail
        refine bodyPost_ret (v := rpV x) ?_ rfl ⟨by rw [HX.out], FF.out⟩
        obtain ⟨e0, e1, e2, e3, e4, e5, e6⟩ := HFin.out
        simp [results, Tryz.f69, go_sem, e0, e1, e2, e3, e4, e5, e6]
end Go.Proofs.YtffnjnnmlfgngaaGreat.Cs
namespace Go.Proofs.YtffnjnnmlfgngaaGreat.Cs
open Go.RowKit Go.Shelf Go.Proofs.YtffnjnnmlfgngaaGreat.Bk
attribute [local go_sem] Oper.semAt_some
theorem firstE_snoc (l : List Nat) (e : Nat) : firstE (l ++ [e]) = if firstE l = 0 then e else firstE l := by
 induction l with
 | nil => by_cases h : e = 0 <;> simp [firstE, h]
 | cons a l ih =>
  rw [List.cons_append]
  unfold firstE
  by_cases h : a = 0
  ·rw [if_pos h, if_pos h, ih]
  ·rw [if_neg h, if_neg h, if_neg h]
theorem refE_refP (b : Bk) (q : Rq) (room : Int) (hc : isCh q.kind = true) : (1 ≤ (recOf b q).kind ∧ (recOf b q).kind ≤ 5) ∧ refE b room q = if refP b q = 0 then eFits (recOf b q).kind room else refP b q := by
 have hk : q.kind = 1 ∨ q.kind = 2 ∨ q.kind = 3 ∨ q.kind = 4 ∨ q.kind = 7 := by unfold isCh at hc; simpa using hc
 unfold refE refP recOf
 rcases hk with hk | hk | hk | hk | hk <;> rw [hk]
 ·exact ⟨by simp, firstE_snoc [eSeat b q, eTtl q, eClock b q, eTaken b q, eFull b] (eFits 1 room)⟩
 ·exact ⟨by simp, firstE_snoc [eKnown b q] (eFits 2 room)⟩
 ·exact ⟨by simp, firstE_snoc [eKnown b q] (eFits 3 room)⟩
 ·exact ⟨by simp, firstE_snoc [eKnown b q, eSeat b q, eTaken b q] (eFits 4 room)⟩
 ·exact ⟨by simp, firstE_snoc [eTtl q, eClock b q] (eFits 5 room)⟩
set_option maxRecDepth 100000 in
set_option maxHeartbeats 8000000 in
theorem rsz_ok {k : Int} (h : 1 ≤ k ∧ k ≤ 5) (w : World) : Calls Tryz.prog 68 #[.int .i64 k] w fun e w' => e = .returned (.int .i64 (rSize k)) ∧ Fr (fun _ => False) w w' := by
 rcases (by omega : k = 1 ∨ k = 2 ∨ k = 3 ∨ k = 4 ∨ k = 5) with rfl | rfl | rfl | rfl | rfl
 ·go_enter Tryz.func68, Tryz.ntmps68
  go_wp2_with fail
  go_ret
  exact ⟨rfl, Fr.refl _ _⟩
 ·go_enter Tryz.func68, Tryz.ntmps68
  go_wp2_with fail
  go_ret
  exact ⟨rfl, Fr.refl _ _⟩
 ·go_enter Tryz.func68, Tryz.ntmps68
  go_wp2_with fail
  go_ret
  exact ⟨rfl, Fr.refl _ _⟩
 ·go_enter Tryz.func68, Tryz.ntmps68
  go_wp2_with fail
  go_ret
  exact ⟨rfl, Fr.refl _ _⟩
 ·go_enter Tryz.func68, Tryz.ntmps68
  go_wp2_with fail
  go_ret
  exact ⟨rfl, Fr.refl _ _⟩
set_option maxRecDepth 100000 in
set_option maxHeartbeats 8000000 in
theorem rdec_ok {w : World} {wb : Nat} {v : Value} {b : Bk} (h : RefAt w wb v b) (hraw : Raw b) (q : Rq) (room : Int) : Calls Tryz.prog 29 #[.pointer (some ⟨wb, 0, none⟩), .int .i64 room, rqV q] w fun e w' => e = .returned (decV (decD b room q)) ∧ Fr (fun _ => False) w w' := by
 obtain ⟨D, hD⟩ : ∃ D, D = decD b room q := ⟨_, rfl⟩
 rw [← hD]
 obtain ⟨ok, hok⟩ : ∃ x, x = rqOk q := ⟨_, rfl⟩
 obtain ⟨ch, hch⟩ : ∃ x, x = isCh q.kind := ⟨_, rfl⟩
 obtain ⟨W1, hW1⟩ : ∃ W, W = w.alloc (rqC q) := ⟨_, rfl⟩
 obtain ⟨W2, hW2⟩ : ∃ W, W = W1.alloc (.cells #[.int .i64 0, .int .u32 0, .int .i64 0, .int .i64 0, .int .i64 0] 46) := ⟨_, rfl⟩
 obtain ⟨W, hW⟩ : ∃ W, W = W2.alloc (.cells #[.int .u32 0, .int .i64 0, .int .i64 0, .int .u32 0, .int .i64 0, .int .i64 0, .int .i64 0] 71) := ⟨_, rfl⟩
 obtain ⟨z, hz⟩ : ∃ z, z = w.heap.size := ⟨_, rfl⟩
 have s1 : W1.heap.size = z + 1 := by rw [hW1, hz]; simp
 have s2 : W2.heap.size = z + 2 := by rw [hW2]; simp [s1]
 have s3 : W.heap.size = z + 3 := by rw [hW]; simp [s2]
 have a1 : Fr (fun _ => False) w W1 := by rw [hW1]; exact Fr.alloc (Fr.refl _ _) _
 have a2 : Fr (fun _ => False) W1 W2 := by rw [hW2]; exact Fr.alloc (Fr.refl _ _) _
 have a3 : Fr (fun _ => False) W2 W := by rw [hW]; exact Fr.alloc (Fr.refl _ _) _
 have f0 : Fr (fun _ => False) w W := (a1.trans a2 (fun _ _ h => h)).trans a3 (fun _ _ h => h)
 have hg : W.heap[z]? = some (rqO q) := a3.get (a2.get (show W1.heap[z]? = _ by rw [hW1, hz]; exact heap_alloc_at _ _) (fun h => h)) (fun h => h)
 have hg1 : W.heap[z + 1]? = some (.cells #[.int .i64 0, .int .u32 0, .int .i64 0, .int .i64 0, .int .i64 0] 46 (0, 0)) := a3.get (show W2.heap[z + 1]? = _ by rw [hW2, ← s1]; exact heap_alloc_at _ _) (fun h => h)
 have hg2 : W.heap[z + 2]? = some (rpO rp0) := show W.heap[z + 2]? = _ by rw [hW, ← s2]; exact heap_alloc_at _ _
 have HRf := Lib.hid h; have HRaw := Lib.hid hraw; have HD := Lib.hid hD; have HOk := Lib.hid hok; have HCh := Lib.hid hch
 have Hz := Lib.hid hz; have F0 := Lib.hid f0; have HG := Lib.hid (And.intro hg (And.intro hg1 hg2)); have Hs := Lib.hid s3
 have HW1 := Lib.hid hW1; have HW2 := Lib.hid hW2; have HW := Lib.hid hW
 have HCk := Lib.hid (fun (V : World) => show Calls Tryz.prog 64 #[rqV q] V fun e w' => e = .returned (.int .i64 (if ok = true then (0 : Nat) else (200 : Nat) : Nat)) ∧ Fr (fun _ => False) V w' by rw [hok]; exact rcheck_ok q V)
 have HCn := Lib.hid (fun (V : World) => show Calls Tryz.prog 65 #[.int .i64 q.kind] V fun e w' => e = .returned (.bool ch) ∧ V = w' by rw [hch]; exact rchanges_ok q.kind V)
 have q0 := (cell_of hg 0).trans (show _ = some (Value.int .i64 q.kind) from rfl)
 have q1 := (cell_of hg 1).trans (show _ = some (Value.int .u32 (q.tag : Int)) from rfl)
 have q2 := (cell_of hg 2).trans (show _ = some (Value.int .u32 (q.id : Int)) from rfl)
 have q3 := (cell_of hg 3).trans (show _ = some (Value.int .i64 q.seat) from rfl)
 have q4 := (cell_of hg 4).trans (show _ = some (Value.int .i64 q.ttl) from rfl)
 clear h hraw hD hok hch f0 hg hg1 hg2 a1 a2 a3 s1 s2 s3 hW1 hW2 hW hz
 go_enter Tryz.func29, Tryz.ntmps29
 go_upto_region 1 with fail
 rw [← HW1.out, ← HW2.out, ← HW.out, ← Hz.out]
 try rw [show z + 1 + 1 = z + 2 by omega]
 go_cut [20] (fun s wx => s = .bool (!(ok && ch)) ∧ Fr (fun _ => False) W wx)
 case first =>
  go_wp2_with fail
  refine (HCk.out _).mono ?_
  rintro e w1 ⟨rfl, f1⟩
  have F1 := Lib.hid f1; have hg1 := f1.get HG.out.1 (fun h => h)
  clear f1 q0 q1 q2 q3 q4
  have q0 := (cell_of hg1 0).trans (show _ = some (Value.int .i64 q.kind) from rfl)
  have q1 := (cell_of hg1 1).trans (show _ = some (Value.int .u32 (q.tag : Int)) from rfl)
  have q2 := (cell_of hg1 2).trans (show _ = some (Value.int .u32 (q.id : Int)) from rfl)
  have q3 := (cell_of hg1 3).trans (show _ = some (Value.int .i64 q.seat) from rfl)
  have q4 := (cell_of hg1 4).trans (show _ = some (Value.int .i64 q.ttl) from rfl)
  clear hg1
  cases ok with
  | false =>
   go_wp2_with fail
   go_meet
   exact ⟨rfl, F1.out⟩
  | true =>
   go_wp2_with fail
   refine (HCn.out _).mono ?_
   rintro e w2 ⟨rfl, rfl⟩
   cases ch with
   | false =>
    go_wp2_with fail
    go_meet
    exact ⟨rfl, F1.out⟩
   | true =>
    go_wp2_with fail
    go_meet
    exact ⟨rfl, F1.out⟩
 case rest =>
 obtain ⟨rfl, f1⟩ := hcut
 have F1 := Lib.hid (F0.out.trans f1 (fun _ _ h => h)); have HG1 := Lib.hid (And.intro (f1.get HG.out.1 (fun h => h)) (And.intro (f1.get HG.out.2.1 (fun h => h)) (f1.get HG.out.2.2 (fun h => h)))); have Hs1 := Lib.hid (show z + 3 ≤ wc.heap.size by rw [← Hs.out]; exact f1.size)
 clear f1 q0 q1 q2 q3 q4
 obtain ⟨gd, hgd⟩ : ∃ x, x = !(ok && ch) := ⟨_, rfl⟩
 rw [← hgd]
 have HGd := Lib.hid (show (!gd) = (rqOk q && isCh q.kind) by rw [hgd, HOk.out, HCh.out]; simp)
 clear hgd HCk HCn HOk HCh
 cases gd with
 | false =>
  obtain ⟨r, hr⟩ : ∃ r, r = recOf b q := ⟨_, rfl⟩
  obtain ⟨ev, hev⟩ : ∃ x, x = refP b q := ⟨_, rfl⟩
  have hch : isCh q.kind = true := by have := HGd.out; simp at this; exact this.2
  have hok : rqOk q = true := by have := HGd.out; simp at this; exact this.1
  obtain ⟨hk5, hE⟩ := refE_refP b q room hch
  rw [← hr, ← hev] at hE
  rw [← hr] at hk5
  obtain ⟨sz, hsz⟩ : ∃ s, s = rSize r.kind := ⟨_, rfl⟩
  have hs2 := rSize_le r.kind
  rw [← hsz] at hs2
  obtain ⟨nd, hnd⟩ : ∃ nd, nd = 22 + sz := ⟨_, rfl⟩
  obtain ⟨lk, hlk⟩ : ∃ x, x = decide (ev = 0 ∧ room < nd) := ⟨_, rfl⟩
  obtain ⟨fin, hfin⟩ : ∃ x, x = refE b room q := ⟨_, rfl⟩
  have HLk := Lib.hid hlk
  have HFin := Lib.hid (show fin = if lk = true then 220 else ev by
   rw [hfin, hE, hlk]
   unfold eFits
   rw [← hsz, ← hnd]
   by_cases g1 : ev = 0
   ·by_cases g2 : room < nd <;> simp [g1, g2]
   ·simp [g1])
  have HDv := Lib.hid (show D = if fin = 0 then ⟨r, repOf q r, true, 0⟩ else ⟨rc0, ⟨q.tag, q.kind, (fin : Nat), 0, 0, 0, 0⟩, false, 0⟩ by
   rw [HD.out, hfin, hr]
   unfold decD
   rw [if_neg (by rw [hok, hch]; simp)])
  have HRec := Lib.hid (fun (V : World) (f : Fr (fun _ => False) w V) => show Calls Tryz.prog 66 #[.pointer (some ⟨wb, 0, none⟩), rqV q] V fun e w' => e = .returned (rcV r) ∧ Fr (fun _ => False) V w' by rw [hr]; exact rrec_ok (HRf.out.keep f) q)
  have HRef := Lib.hid (fun (V : World) (f : Fr (fun _ => False) w V) => show Calls Tryz.prog 67 #[.pointer (some ⟨wb, 0, none⟩), rqV q] V fun e w' => e = .returned (.int .i64 (ev : Nat)) ∧ Fr (fun _ => False) V w' by rw [hev]; exact rref_ok (HRf.out.keep f) HRaw.out q hok hch)
  have HSz := Lib.hid (fun (V : World) => show Calls Tryz.prog 68 #[.int .i64 r.kind] V fun e w' => e = .returned (.int .i64 sz) ∧ Fr (fun _ => False) V w' by rw [hsz]; exact rsz_ok hk5 V)
  have n1 : 22 + sz = nd := hnd.symm
  have n2 : wrap64 nd = nd := by clear n1 hlk hE hr hev hfin; unfold wrap64; omega
  clear hr hev hch hok hk5 hE hsz hs2 hnd hlk hfin
  have hg1 := HG1.out.1
  have q0 := (cell_of hg1 0).trans (show _ = some (Value.int .i64 q.kind) from rfl)
  have q1 := (cell_of hg1 1).trans (show _ = some (Value.int .u32 (q.tag : Int)) from rfl)
  have q2 := (cell_of hg1 2).trans (show _ = some (Value.int .u32 (q.id : Int)) from rfl)
  have q3 := (cell_of hg1 3).trans (show _ = some (Value.int .i64 q.seat) from rfl)
  have q4 := (cell_of hg1 4).trans (show _ = some (Value.int .i64 q.ttl) from rfl)
  clear hg1
  go_wp2_with fail
  refine (HRec.out _ F1.out).mono ?_
  rintro e w3 ⟨rfl, f3⟩
  have F3 := Lib.hid (F1.out.trans f3 (fun _ _ h => h))
  obtain ⟨W4, hW4⟩ : ∃ W, W = w3.alloc (rcC r) := ⟨_, rfl⟩
  obtain ⟨y, hy⟩ : ∃ y, y = w3.heap.size := ⟨_, rfl⟩
  have f4 : Fr (fun _ => False) w3 W4 := by rw [hW4]; exact Fr.alloc (Fr.refl _ _) _
  have f14 := f3.trans f4 (fun _ _ h => h)
  have hgy : W4.heap[y]? = some (rcC r) := by rw [hW4, hy]; exact heap_alloc_at _ _
  have F4 := Lib.hid (F1.out.trans f14 (fun _ _ h => h))
  have HG4 := Lib.hid (And.intro (f14.get HG1.out.1 (fun h => h)) (And.intro (f14.get HG1.out.2.1 (fun h => h)) (And.intro (f14.get HG1.out.2.2 (fun h => h)) hgy)))
  have HY := Lib.hid (show z + 3 ≤ y by rw [hy]; exact Nat.le_trans Hs1.out f3.size)
  clear f3 f4 f14 hgy q0 q1 q2 q3 q4
  go_upto_region 4 with fail
  rw [← hW4, ← hy]
  clear hW4 hy
  have hg4 := HG4.out.1
  have q0 := (cell_of hg4 0).trans (show _ = some (Value.int .i64 q.kind) from rfl)
  have q1 := (cell_of hg4 1).trans (show _ = some (Value.int .u32 (q.tag : Int)) from rfl)
  have q2 := (cell_of hg4 2).trans (show _ = some (Value.int .u32 (q.id : Int)) from rfl)
  have q3 := (cell_of hg4 3).trans (show _ = some (Value.int .i64 q.seat) from rfl)
  have q4 := (cell_of hg4 4).trans (show _ = some (Value.int .i64 q.ttl) from rfl)
  clear hg4
  go_wp2_with fail
  refine (HRef.out _ F4.out).mono ?_
  rintro e w5 ⟨rfl, f5⟩
  have F5 := Lib.hid (F4.out.trans f5 (fun _ _ h => h))
  have HG5 := Lib.hid (And.intro (f5.get HG4.out.1 (fun h => h)) (And.intro (f5.get HG4.out.2.1 (fun h => h)) (And.intro (f5.get HG4.out.2.2.1 (fun h => h)) (f5.get HG4.out.2.2.2 (fun h => h)))))
  clear f5 q0 q1 q2 q3 q4
  have k0 := (cell_of HG5.out.2.2.2 0).trans (show _ = some (Value.int .i64 r.kind) from rfl)
  go_upto_region 5 with fail
  go_cut [38] (fun s wx => s = .bool lk ∧ Fr (fun _ => False) w5 wx)
  case first =>
   by_cases g1 : ev = 0
   ·have b1 : ((ev : Int) == 0) = true := by rw [g1]; rfl
    by_cases g2 : room < nd
    ·have b2 : decide (room < nd) = true := decide_eq_true g2
     have E9 := Lib.hid (show lk = true by rw [HLk.out]; exact decide_eq_true ⟨g1, g2⟩)
     clear g1 g2
     go_wp2_with fail
     refine (HSz.out _).mono ?_
     rintro e w6 ⟨rfl, f6⟩
     have F6 := Lib.hid f6
     clear f6
     go_wp2_with fail
     go_meet
     exact ⟨by rw [E9.out], F6.out⟩
    ·have b2 : decide (room < nd) = false := decide_eq_false g2
     have E9 := Lib.hid (show lk = false by rw [HLk.out]; exact decide_eq_false (fun e => g2 e.2))
     clear g1 g2
     go_wp2_with fail
     refine (HSz.out _).mono ?_
     rintro e w6 ⟨rfl, f6⟩
     have F6 := Lib.hid f6
     clear f6
     go_wp2_with fail
     go_meet
     exact ⟨by rw [E9.out], F6.out⟩
   ·have b1 : ((ev : Int) == 0) = false := by simpa using g1
    have E9 := Lib.hid (show lk = false by rw [HLk.out]; exact decide_eq_false (fun e => g1 e.1))
    clear g1
    go_wp2_with fail
    go_meet
    exact ⟨by rw [E9.out], Fr.refl _ _⟩
  case rest =>
  obtain ⟨rfl, f6⟩ := hcut
  obtain ⟨w6, hw6⟩ : ∃ x, x = wc := ⟨_, rfl⟩
  rw [← hw6] at f6 ⊢
  clear hw6
  have F6 := Lib.hid (F5.out.trans f6 (fun _ _ h => h))
  have HG6 := Lib.hid (And.intro (f6.get HG5.out.1 (fun h => h)) (And.intro (f6.get HG5.out.2.1 (fun h => h)) (And.intro (f6.get HG5.out.2.2.1 (fun h => h)) (f6.get HG5.out.2.2.2 (fun h => h)))))
  clear f6 k0
  go_upto_if 38 with (fail)
  go_cut [11] (fun s wx => s = .int .i64 (fin : Nat) ∧ w6 = wx)
  case first =>
   cases lk with
   | true =>
    have E9 := Lib.hid (show fin = 220 from HFin.out)
    go_wp2_with fail
    go_meet
    exact ⟨by rw [E9.out]; rfl, rfl⟩
   | false =>
    have E9 := Lib.hid (show fin = ev from HFin.out)
    go_wp2_with fail
    go_meet
    exact ⟨by rw [E9.out], rfl⟩
  case rest =>
  obtain ⟨rfl, rfl⟩ := hcut
  clear n1 n2 HSz HRec HRef
  by_cases g1 : fin = 0
  ·have b1 : ((fin : Int) != 0) = false := by rw [g1]; rfl
   have HDw := Lib.hid (show D = ⟨r, repOf q r, true, 0⟩ by rw [HDv.out, if_pos g1])
   obtain ⟨x, hx⟩ : ∃ x, x = repOf q r := ⟨_, rfl⟩
   have HRep := Lib.hid (fun (V : World) => show Calls Tryz.prog 69 #[rqV q, rcV r] V fun e w' => e = .returned (rpV x) ∧ Fr (fun _ => False) V w' by rw [hx]; exact rreply_ok q r V)
   have HXr := Lib.hid hx
   have HSS := Lib.hid (fun (V : World) (f : Fr (fun x => x = z + 1 ∨ x = z + 2) w6 V) => (⟨f, (cell_of (f.get HG6.out.1 (by omega)) 0).trans rfl, (cell_of (f.get HG6.out.1 (by omega)) 1).trans rfl, (cell_of (f.get HG6.out.1 (by omega)) 2).trans rfl, (cell_of (f.get HG6.out.1 (by omega)) 3).trans rfl, (cell_of (f.get HG6.out.1 (by omega)) 4).trans rfl, (cell_of (f.get HG6.out.2.2.2 (by have := HY.out; omega)) 0).trans rfl, (cell_of (f.get HG6.out.2.2.2 (by have := HY.out; omega)) 1).trans rfl, (cell_of (f.get HG6.out.2.2.2 (by have := HY.out; omega)) 2).trans rfl, (cell_of (f.get HG6.out.2.2.2 (by have := HY.out; omega)) 3).trans rfl, (cell_of (f.get HG6.out.2.2.2 (by have := HY.out; omega)) 4).trans rfl⟩ : Fr (fun x => x = z + 1 ∨ x = z + 2) w6 V ∧ V.cell? ⟨z, 0, none⟩ = some (.int .i64 q.kind) ∧ V.cell? ⟨z, 1, none⟩ = some (.int .u32 (q.tag : Int)) ∧ V.cell? ⟨z, 2, none⟩ = some (.int .u32 (q.id : Int)) ∧ V.cell? ⟨z, 3, none⟩ = some (.int .i64 q.seat) ∧ V.cell? ⟨z, 4, none⟩ = some (.int .i64 q.ttl) ∧ V.cell? ⟨y, 0, none⟩ = some (.int .i64 r.kind) ∧ V.cell? ⟨y, 1, none⟩ = some (.int .u32 (r.id : Int)) ∧ V.cell? ⟨y, 2, none⟩ = some (.int .i64 r.seat) ∧ V.cell? ⟨y, 3, none⟩ = some (.int .i64 r.till) ∧ V.cell? ⟨y, 4, none⟩ = some (.int .i64 r.clock)))
   clear g1 hx
   have q0 := (cell_of HG6.out.1 0).trans (show _ = some (Value.int .i64 q.kind) from rfl)
   have q1 := (cell_of HG6.out.1 1).trans (show _ = some (Value.int .u32 (q.tag : Int)) from rfl)
   have q2 := (cell_of HG6.out.1 2).trans (show _ = some (Value.int .u32 (q.id : Int)) from rfl)
   have q3 := (cell_of HG6.out.1 3).trans (show _ = some (Value.int .i64 q.seat) from rfl)
   have q4 := (cell_of HG6.out.1 4).trans (show _ = some (Value.int .i64 q.ttl) from rfl)
   have k0 := (cell_of HG6.out.2.2.2 0).trans (show _ = some (Value.int .i64 r.kind) from rfl)
   have k1 := (cell_of HG6.out.2.2.2 1).trans (show _ = some (Value.int .u32 (r.id : Int)) from rfl)
   have k2 := (cell_of HG6.out.2.2.2 2).trans (show _ = some (Value.int .i64 r.seat) from rfl)
   have k3 := (cell_of HG6.out.2.2.2 3).trans (show _ = some (Value.int .i64 r.till) from rfl)
   have k4 := (cell_of HG6.out.2.2.2 4).trans (show _ = some (Value.int .i64 r.clock) from rfl)
   have u0 := (cell_of HG6.out.2.1 0).trans (show _ = some (Value.int .i64 0) from rfl)
   have v0 := free_of HG6.out.2.1 0
   have u1 := (cell_of HG6.out.2.1 1).trans (show _ = some (Value.int .u32 0) from rfl)
   have v1 := free_of HG6.out.2.1 1
   have u2 := (cell_of HG6.out.2.1 2).trans (show _ = some (Value.int .i64 0) from rfl)
   have v2 := free_of HG6.out.2.1 2
   have u3 := (cell_of HG6.out.2.1 3).trans (show _ = some (Value.int .i64 0) from rfl)
   have v3 := free_of HG6.out.2.1 3
   have u4 := (cell_of HG6.out.2.1 4).trans (show _ = some (Value.int .i64 0) from rfl)
   have v4 := free_of HG6.out.2.1 4
   have s0 := (cell_of HG6.out.2.2.1 0).trans (show _ = some (Value.int .u32 0) from rfl)
   have t0 := free_of HG6.out.2.2.1 0
   have s1 := (cell_of HG6.out.2.2.1 1).trans (show _ = some (Value.int .i64 0) from rfl)
   have t1 := free_of HG6.out.2.2.1 1
   have s2 := (cell_of HG6.out.2.2.1 2).trans (show _ = some (Value.int .i64 0) from rfl)
   have t2 := free_of HG6.out.2.2.1 2
   have s3 := (cell_of HG6.out.2.2.1 3).trans (show _ = some (Value.int .u32 0) from rfl)
   have t3 := free_of HG6.out.2.2.1 3
   have s4 := (cell_of HG6.out.2.2.1 4).trans (show _ = some (Value.int .i64 0) from rfl)
   have t4 := free_of HG6.out.2.2.1 4
   have s5 := (cell_of HG6.out.2.2.1 5).trans (show _ = some (Value.int .i64 0) from rfl)
   have t5 := free_of HG6.out.2.2.1 5
   have s6 := (cell_of HG6.out.2.2.1 6).trans (show _ = some (Value.int .i64 0) from rfl)
   have t6 := free_of HG6.out.2.2.1 6
   go_upto_region 9 with fail
   refine wp_region_held_drew (S := fun w' => Fr (fun x => x = z + 1 ∨ x = z + 2) w6 w' ∧ w'.cell? ⟨z, 0, none⟩ = some (.int .i64 q.kind) ∧ w'.cell? ⟨z, 1, none⟩ = some (.int .u32 (q.tag : Int)) ∧ w'.cell? ⟨z, 2, none⟩ = some (.int .u32 (q.id : Int)) ∧ w'.cell? ⟨z, 3, none⟩ = some (.int .i64 q.seat) ∧ w'.cell? ⟨z, 4, none⟩ = some (.int .i64 q.ttl) ∧ w'.cell? ⟨y, 0, none⟩ = some (.int .i64 r.kind) ∧ w'.cell? ⟨y, 1, none⟩ = some (.int .u32 (r.id : Int)) ∧ w'.cell? ⟨y, 2, none⟩ = some (.int .i64 r.seat) ∧ w'.cell? ⟨y, 3, none⟩ = some (.int .i64 r.till) ∧ w'.cell? ⟨y, 4, none⟩ = some (.int .i64 r.clock)) (by kernel_rfl) (by exact HSS.out _ (Fr.drew (Fr.refl _ _))) (fun hHeld => ?_)
   refine wpAnyH_take (i := 0) (v := ?_) rfl (by kernel_rfl) (by kernel_rfl) (by kernel_rfl) (fun _ _ _ h => h) (Or.inl ⟨by rfl, ?_⟩) (by assumption) ?_
   rotate_left
   ·intro w' hSw; (try dsimp only at hSw); go_simp; try with_reducible rfl
   try simp only [Act.put, List.getElem_toArray, List.getElem_cons_zero, List.setIfInBounds_toArray, List.set_cons_zero, List.set_cons_succ]
   refine wpAnyH_take (i := 1) (v := ?_) rfl (by kernel_rfl) (by kernel_rfl) (by kernel_rfl) (fun _ _ _ h => h) (Or.inl ⟨by rfl, ?_⟩) (by assumption) ?_
   rotate_left
   ·intro w' hSw; (try dsimp only at hSw); go_simp; try with_reducible rfl
   try simp only [Act.put, sL]
   refine wpAnyH_take (i := 2) (v := ?_) rfl (by kernel_rfl) (by kernel_rfl) (by kernel_rfl) (fun _ _ _ h => h) (Or.inl ⟨by rfl, ?_⟩) (by assumption) ?_
   rotate_left
   ·intro w' hSw; (try dsimp only at hSw); go_simp; try with_reducible rfl
   try simp only [Act.put, sL]
   refine wpAnyH_ready (rs := [3]) (by kernel_rfl) (by simp) ?_
   refine AllReadyH.cons rfl (fun K hK => ?_) AllReadyH.nil
   go_simp
   refine (HRep.out _).mono ?_
   rintro e w3x ⟨rfl, f3x⟩
   try go_simp
   refine hK.out _ _ ?_ (fun hHeld => ?_)
   ·(try dsimp only); exact HSS.out _ (hHeld.1.trans f3x (fun _ _ h => h.elim))
   clear hK K
   have hA1 : w3x.heap[z + 1]? = some (.cells #[.int .i64 0, .int .u32 0, .int .i64 0, .int .i64 0, .int .i64 0] 46 (0, 0)) := f3x.get HG6.out.2.1 (fun h => h)
   have hA2 : w3x.heap[z + 2]? = some (rpO rp0) := f3x.get HG6.out.2.2.1 (fun h => h)
   have HFx := Lib.hid (show Fr (fun x => x = z + 1 ∨ x = z + 2) w6 w3x from ((Fr.drew (Fr.refl (fun x => x = z + 1 ∨ x = z + 2) w6)).trans f3x (fun _ _ h => h.elim)))
   have HEnd := Lib.hid (out_end (z1 := z + 1) (z2 := z + 2) (by omega) hA1 hA2 r x)
   clear u0 u1 u2 u3 u4 v0 v1 v2 v3 v4 s0 s1 s2 s3 s4 s5 s6 t0 t1 t2 t3 t4 t5 t6
   have u0 := (cell_of hA1 0).trans (show _ = some (Value.int .i64 0) from rfl)
   have v0 := free_of hA1 0
   have u1 := (cell_of hA1 1).trans (show _ = some (Value.int .u32 0) from rfl)
   have v1 := free_of hA1 1
   have u2 := (cell_of hA1 2).trans (show _ = some (Value.int .i64 0) from rfl)
   have v2 := free_of hA1 2
   have u3 := (cell_of hA1 3).trans (show _ = some (Value.int .i64 0) from rfl)
   have v3 := free_of hA1 3
   have u4 := (cell_of hA1 4).trans (show _ = some (Value.int .i64 0) from rfl)
   have v4 := free_of hA1 4
   have s0 := (cell_of hA2 0).trans (show _ = some (Value.int .u32 0) from rfl)
   have t0 := free_of hA2 0
   have s1 := (cell_of hA2 1).trans (show _ = some (Value.int .i64 0) from rfl)
   have t1 := free_of hA2 1
   have s2 := (cell_of hA2 2).trans (show _ = some (Value.int .i64 0) from rfl)
   have t2 := free_of hA2 2
   have s3 := (cell_of hA2 3).trans (show _ = some (Value.int .u32 0) from rfl)
   have t3 := free_of hA2 3
   have s4 := (cell_of hA2 4).trans (show _ = some (Value.int .i64 0) from rfl)
   have t4 := free_of hA2 4
   have s5 := (cell_of hA2 5).trans (show _ = some (Value.int .i64 0) from rfl)
   have t5 := free_of hA2 5
   have s6 := (cell_of hA2 6).trans (show _ = some (Value.int .i64 0) from rfl)
   have t6 := free_of hA2 6
   clear f3x hA1 hA2
   try simp only [Act.put, sL]
   refine wpAnyH_ready (rs := [4]) (by kernel_rfl) (by simp) ?_
   refine AllReadyH.cons rfl (fun K hK => ?_) AllReadyH.nil
   go_simp
   skip
   try go_simp
   refine hK.out _ _ ?_ (fun hHeld => ?_)
   ·(try dsimp only); exact HSS.out _ (HFx.out.trans (recW_fr w3x (z + 1) _ _ _ _ _) (fun _ _ e => .inl e))
   clear hK K
   try simp only [Act.put, sL]
   refine wpAnyH_ready (rs := [5]) (by kernel_rfl) (by simp) ?_
   refine AllReadyH.cons rfl (fun K hK => ?_) AllReadyH.nil
   go_simp
   skip
   try go_simp
   refine hK.out _ _ ?_ (fun hHeld => ?_)
   ·(try dsimp only); exact HSS.out _ (HFx.out.trans HEnd.out.1.2.2 (fun _ _ h => h))
   clear hK K
   try simp only [Act.put, sL]
   refine wpAnyH_take (i := 6) (v := ?_) rfl (by kernel_rfl) (by kernel_rfl) (by kernel_rfl) (fun _ _ _ h => h) (Or.inl ⟨by rfl, ?_⟩) (by assumption) ?_
   rotate_left
   ·intro w' hSw; (try dsimp only at hSw); go_simp; try with_reducible rfl
   try simp only [Act.put, sL]
   refine wpAnyH_take (i := 7) (v := ?_) rfl (by kernel_rfl) (by kernel_rfl) (by kernel_rfl) (fun _ _ _ h => h) (Or.inl ⟨by rfl, ?_⟩) (by assumption) ?_
   rotate_left
   ·intro w' hSw; (try dsimp only at hSw); go_simp; try with_reducible rfl
   try simp only [Act.put, sL]
   refine wpAnyH_done (by kernel_rfl) ?_ _
   obtain ⟨o1, o2, o3⟩ := HEnd.out.1
   have HP := Lib.hid ((F6.out.trans (HFx.out.trans o3 (fun _ _ h => h)) (fun x hx e => by have := Hz.out; rcases e with e | e <;> omega) : Fr (fun _ => False) w _))
   have HE1 := Lib.hid o1; have HE2 := Lib.hid o2
   clear o1 o2 o3
   go_wp2_with fail
   refine bodyPost_ret (v := decV ⟨r, x, true, 0⟩) ?_ rfl ⟨by rw [HDw.out, ← HXr.out], HP.out⟩
   obtain ⟨e0, e1, e2, e3, e4⟩ := rc_cells5 HE1.out
   obtain ⟨p0, p1, p2, p3, p4, p5, p6⟩ := rp_cells HE2.out
   simp [results, Tryz.f29, go_sem, e0, e1, e2, e3, e4, p0, p1, p2, p3, p4, p5, p6]
  ·have b1 : ((fin : Int) != 0) = true := by simpa using g1
   have HDw := Lib.hid (show D = ⟨rc0, ⟨q.tag, q.kind, (fin : Nat), 0, 0, 0, 0⟩, false, 0⟩ by rw [HDv.out, if_neg g1])
   have HSS := Lib.hid (fun (V : World) (f : Fr (fun x => x = z + 1 ∨ x = z + 2) w6 V) => (⟨f, (cell_of (f.get HG6.out.1 (by omega)) 1).trans rfl, (cell_of (f.get HG6.out.1 (by omega)) 0).trans rfl⟩ : Fr (fun x => x = z + 1 ∨ x = z + 2) w6 V ∧ V.cell? ⟨z, 1, none⟩ = some (.int .u32 (q.tag : Int)) ∧ V.cell? ⟨z, 0, none⟩ = some (.int .i64 q.kind)))
   have HEnd := Lib.hid (out_end (z1 := z + 1) (z2 := z + 2) (by omega) HG6.out.2.1 HG6.out.2.2.1 rc0 ⟨q.tag, q.kind, (fin : Int), 0, 0, 0, 0⟩)
   clear g1
   have q0 := (cell_of HG6.out.1 0).trans (show _ = some (Value.int .i64 q.kind) from rfl)
   have q1 := (cell_of HG6.out.1 1).trans (show _ = some (Value.int .u32 (q.tag : Int)) from rfl)
   have q2 := (cell_of HG6.out.1 2).trans (show _ = some (Value.int .u32 (q.id : Int)) from rfl)
   have q3 := (cell_of HG6.out.1 3).trans (show _ = some (Value.int .i64 q.seat) from rfl)
   have q4 := (cell_of HG6.out.1 4).trans (show _ = some (Value.int .i64 q.ttl) from rfl)
   have u0 := (cell_of HG6.out.2.1 0).trans (show _ = some (Value.int .i64 0) from rfl)
   have v0 := free_of HG6.out.2.1 0
   have u1 := (cell_of HG6.out.2.1 1).trans (show _ = some (Value.int .u32 0) from rfl)
   have v1 := free_of HG6.out.2.1 1
   have u2 := (cell_of HG6.out.2.1 2).trans (show _ = some (Value.int .i64 0) from rfl)
   have v2 := free_of HG6.out.2.1 2
   have u3 := (cell_of HG6.out.2.1 3).trans (show _ = some (Value.int .i64 0) from rfl)
   have v3 := free_of HG6.out.2.1 3
   have u4 := (cell_of HG6.out.2.1 4).trans (show _ = some (Value.int .i64 0) from rfl)
   have v4 := free_of HG6.out.2.1 4
   have s0 := (cell_of HG6.out.2.2.1 0).trans (show _ = some (Value.int .u32 0) from rfl)
   have t0 := free_of HG6.out.2.2.1 0
   have s1 := (cell_of HG6.out.2.2.1 1).trans (show _ = some (Value.int .i64 0) from rfl)
   have t1 := free_of HG6.out.2.2.1 1
   have s2 := (cell_of HG6.out.2.2.1 2).trans (show _ = some (Value.int .i64 0) from rfl)
   have t2 := free_of HG6.out.2.2.1 2
   have s3 := (cell_of HG6.out.2.2.1 3).trans (show _ = some (Value.int .u32 0) from rfl)
   have t3 := free_of HG6.out.2.2.1 3
   have s4 := (cell_of HG6.out.2.2.1 4).trans (show _ = some (Value.int .i64 0) from rfl)
   have t4 := free_of HG6.out.2.2.1 4
   have s5 := (cell_of HG6.out.2.2.1 5).trans (show _ = some (Value.int .i64 0) from rfl)
   have t5 := free_of HG6.out.2.2.1 5
   have s6 := (cell_of HG6.out.2.2.1 6).trans (show _ = some (Value.int .i64 0) from rfl)
   have t6 := free_of HG6.out.2.2.1 6
   go_upto_region 8 with fail
   refine wp_region_held_drew (S := fun w' => Fr (fun x => x = z + 1 ∨ x = z + 2) w6 w' ∧ w'.cell? ⟨z, 1, none⟩ = some (.int .u32 (q.tag : Int)) ∧ w'.cell? ⟨z, 0, none⟩ = some (.int .i64 q.kind)) (by kernel_rfl) (by exact HSS.out _ (Fr.drew (Fr.refl _ _))) (fun hHeld => ?_)
   refine wpAnyH_take (i := 0) (v := ?_) rfl (by kernel_rfl) (by kernel_rfl) (by kernel_rfl) (fun _ _ _ h => h) (Or.inl ⟨by rfl, ?_⟩) (by assumption) ?_
   rotate_left
   ·intro w' hSw; (try dsimp only at hSw); go_simp; try with_reducible rfl
   try simp only [Act.put, List.getElem_toArray, List.getElem_cons_zero, List.setIfInBounds_toArray, List.set_cons_zero, List.set_cons_succ]
   refine wpAnyH_take (i := 1) (v := ?_) rfl (by kernel_rfl) (by kernel_rfl) (by kernel_rfl) (fun _ _ _ h => h) (Or.inl ⟨by rfl, ?_⟩) (by assumption) ?_
   rotate_left
   ·intro w' hSw; (try dsimp only at hSw); go_simp; try with_reducible rfl
   try simp only [Act.put, sL]
   refine wpAnyH_take (i := 2) (v := ?_) rfl (by kernel_rfl) (by kernel_rfl) (by kernel_rfl) (fun _ _ _ h => h) (Or.inl ⟨by rfl, ?_⟩) (by assumption) ?_
   rotate_left
   ·intro w' hSw; (try dsimp only at hSw); go_simp; try with_reducible rfl
   try simp only [Act.put, sL]
   refine wpAnyH_take (i := 3) (v := ?_) rfl (by kernel_rfl) (by kernel_rfl) (by kernel_rfl) (fun _ _ _ h => h) (Or.inl ⟨by rfl, ?_⟩) (by assumption) ?_
   rotate_left
   ·intro w' hSw; (try dsimp only at hSw); go_simp; try with_reducible rfl
   try simp only [Act.put, sL]
   refine wpAnyH_take (i := 4) (v := ?_) rfl (by kernel_rfl) (by kernel_rfl) (by kernel_rfl) (fun _ _ _ h => h) (Or.inl ⟨by rfl, ?_⟩) (by assumption) ?_
   rotate_left
   ·intro w' hSw; (try dsimp only at hSw); go_simp; try with_reducible rfl
   try simp only [Act.put, sL]
   refine wpAnyH_take (i := 5) (v := ?_) rfl (by kernel_rfl) (by kernel_rfl) (by kernel_rfl) (fun _ _ _ h => h) (Or.inl ⟨by rfl, ?_⟩) (by assumption) ?_
   rotate_left
   ·intro w' hSw; (try dsimp only at hSw); go_simp; try with_reducible rfl
   try simp only [Act.put, sL]
   refine wpAnyH_take (i := 6) (v := ?_) rfl (by kernel_rfl) (by kernel_rfl) (by kernel_rfl) (fun _ _ _ h => h) (Or.inl ⟨by rfl, ?_⟩) (by assumption) ?_
   rotate_left
   ·intro w' hSw; (try dsimp only at hSw); go_simp; try with_reducible rfl
   try simp only [Act.put, sL]
   refine wpAnyH_ready (rs := [7]) (by kernel_rfl) (by simp) ?_
   refine AllReadyH.cons rfl (fun K hK => ?_) AllReadyH.nil
   go_simp
   skip
   try go_simp
   refine hK.out _ _ ?_ (fun hHeld => ?_)
   ·(try dsimp only); exact HSS.out _ (Fr.drew ((recW_fr w6 (z + 1) _ _ _ _ _).mono (fun _ _ e => .inl e)))
   clear hK K
   try simp only [Act.put, sL]
   refine wpAnyH_ready (rs := [8]) (by kernel_rfl) (by simp) ?_
   refine AllReadyH.cons rfl (fun K hK => ?_) AllReadyH.nil
   go_simp
   skip
   try go_simp
   refine hK.out _ _ ?_ (fun hHeld => ?_)
   ·(try dsimp only); exact HSS.out _ (Fr.drew HEnd.out.1.2.2)
   clear hK K
   try simp only [Act.put, sL]
   refine wpAnyH_take (i := 9) (v := ?_) rfl (by kernel_rfl) (by kernel_rfl) (by kernel_rfl) (fun _ _ _ h => h) (Or.inl ⟨by rfl, ?_⟩) (by assumption) ?_
   rotate_left
   ·intro w' hSw; (try dsimp only at hSw); go_simp; try with_reducible rfl
   try simp only [Act.put, sL]
   refine wpAnyH_take (i := 10) (v := ?_) rfl (by kernel_rfl) (by kernel_rfl) (by kernel_rfl) (fun _ _ _ h => h) (Or.inl ⟨by rfl, ?_⟩) (by assumption) ?_
   rotate_left
   ·intro w' hSw; (try dsimp only at hSw); go_simp; try with_reducible rfl
   try simp only [Act.put, sL]
   refine wpAnyH_done (by kernel_rfl) ?_ _
   obtain ⟨o1, o2, o3⟩ := HEnd.out.1
   have HP := Lib.hid ((F6.out.trans o3 (fun x hx e => by have := Hz.out; rcases e with e | e <;> omega) : Fr (fun _ => False) w _).drew)
   have HE1 := Lib.hid o1; have HE2 := Lib.hid o2
   clear o1 o2 o3
   go_wp2_with fail
   refine bodyPost_ret (v := decV ⟨rc0, ⟨q.tag, q.kind, (fin : Int), 0, 0, 0, 0⟩, false, 0⟩) ?_ rfl ⟨by rw [HDw.out], HP.out⟩
   obtain ⟨e0, e1, e2, e3, e4⟩ := rc_cells5 HE1.out
   obtain ⟨p0, p1, p2, p3, p4, p5, p6⟩ := rp_cells HE2.out
   simp only [rc0] at e0 e1 e2 e3 e4 p0 p1 p2 p3 p4 p5 p6
   simp [results, Tryz.f29, go_sem, rc0, u0, u1, u2, u3, u4, s0, s1, s2, s3, s4, s5, s6]
 | true =>
  have HDv := Lib.hid (show D = ⟨rc0, rp0, false, 200⟩ by rw [HD.out]; exact if_pos HGd.out.symm)
  obtain ⟨o1, o2, o3⟩ := (out_end (z1 := z + 1) (z2 := z + 2) (by omega) HG1.out.2.1 HG1.out.2.2 rc0 rp0).1
  have HP := Lib.hid ((F1.out.trans o3 (fun x hx e => by have := Hz.out; rcases e with e | e <;> omega) : Fr (fun _ => False) w _))
  have HE1 := Lib.hid o1; have HE2 := Lib.hid o2
  clear o1 o2 o3
  have u0 := (cell_of HG1.out.2.1 0).trans (show _ = some (Value.int .i64 0) from rfl)
  have v0 := free_of HG1.out.2.1 0
  have u1 := (cell_of HG1.out.2.1 1).trans (show _ = some (Value.int .u32 0) from rfl)
  have v1 := free_of HG1.out.2.1 1
  have u2 := (cell_of HG1.out.2.1 2).trans (show _ = some (Value.int .i64 0) from rfl)
  have v2 := free_of HG1.out.2.1 2
  have u3 := (cell_of HG1.out.2.1 3).trans (show _ = some (Value.int .i64 0) from rfl)
  have v3 := free_of HG1.out.2.1 3
  have u4 := (cell_of HG1.out.2.1 4).trans (show _ = some (Value.int .i64 0) from rfl)
  have v4 := free_of HG1.out.2.1 4
  have s0 := (cell_of HG1.out.2.2 0).trans (show _ = some (Value.int .u32 0) from rfl)
  have t0 := free_of HG1.out.2.2 0
  have s1 := (cell_of HG1.out.2.2 1).trans (show _ = some (Value.int .i64 0) from rfl)
  have t1 := free_of HG1.out.2.2 1
  have s2 := (cell_of HG1.out.2.2 2).trans (show _ = some (Value.int .i64 0) from rfl)
  have t2 := free_of HG1.out.2.2 2
  have s3 := (cell_of HG1.out.2.2 3).trans (show _ = some (Value.int .u32 0) from rfl)
  have t3 := free_of HG1.out.2.2 3
  have s4 := (cell_of HG1.out.2.2 4).trans (show _ = some (Value.int .i64 0) from rfl)
  have t4 := free_of HG1.out.2.2 4
  have s5 := (cell_of HG1.out.2.2 5).trans (show _ = some (Value.int .i64 0) from rfl)
  have t5 := free_of HG1.out.2.2 5
  have s6 := (cell_of HG1.out.2.2 6).trans (show _ = some (Value.int .i64 0) from rfl)
  have t6 := free_of HG1.out.2.2 6
  go_wp2_with fail
  refine bodyPost_ret (v := decV ⟨rc0, rp0, false, 200⟩) ?_ rfl ⟨by rw [HDv.out], HP.out⟩
  obtain ⟨e0, e1, e2, e3, e4⟩ := rc_cells5 HE1.out
  obtain ⟨p0, p1, p2, p3, p4, p5, p6⟩ := rp_cells HE2.out
  simp only [rc0, rp0] at e0 e1 e2 e3 e4 p0 p1 p2 p3 p4 p5 p6
  simp [results, Tryz.f29, go_sem, rc0, rp0, u0, u1, u2, u3, u4, s0, s1, s2, s3, s4, s5, s6]
end Go.Proofs.YtffnjnnmlfgngaaGreat.Cs
namespace Go.Proofs.YtffnjnnmlfgngaaGreat.Cs
open Go.RowKit Go.Shelf Go.Proofs.YtffnjnnmlfgngaaGreat.Bk
attribute [local go_sem] Oper.semAt_some
def isQu (k : Int) : Bool := decide (k = 5 ∨ k = 6 ∨ k = 10)
theorem ansD_bad (b : Bk) (q : Rq) (h : (rqOk q && isQu q.kind) = false) : ansD b q = ⟨rp0, 200⟩ := by
 unfold ansD
 by_cases hr : rqOk q = false
 ·rw [if_pos hr]
 ·rw [if_neg hr]
  have hq : isQu q.kind = false := by
   cases e : rqOk q with
   | false => exact absurd e hr
   | true => rw [e] at h; simpa using h
  unfold isQu at hq
  have hq := of_decide_eq_false hq
  rw [if_neg (by omega), if_neg (by omega), if_neg (by omega)]
theorem ansD_10 (b : Bk) (q : Rq) (h : rqOk q = true) (hk : q.kind = 10) : ansD b q = ⟨⟨q.tag, q.kind, 0, 0, 0, 0, (b.L.length : Int)⟩, 0⟩ := by
 unfold ansD
 rw [if_neg (by rw [h]; decide), if_neg (by omega), if_neg (by omega), if_pos hk]
theorem ansD_5y (b : Bk) (q : Rq) (h : rqOk q = true) (hk : q.kind = 5) (hs : (bFind b.L q.id).isSome = true) : ansD b q = ⟨⟨q.tag, q.kind, 0, 0, (optB (bFind b.L q.id)).2.1, (optB (bFind b.L q.id)).2.2, 0⟩, 0⟩ := by
 unfold ansD
 rw [if_neg (by rw [h]; decide), if_pos hk]
 cases e : bFind b.L q.id with
 | none => rw [e] at hs; simp at hs
 | some x => rfl
theorem ansD_5n (b : Bk) (q : Rq) (h : rqOk q = true) (hk : q.kind = 5) (hs : (bFind b.L q.id).isSome = false) : ansD b q = ⟨⟨q.tag, q.kind, 171, 0, 0, 0, 0⟩, 0⟩ := by
 unfold ansD
 rw [if_neg (by rw [h]; decide), if_pos hk]
 cases e : bFind b.L q.id with
 | none => rfl
 | some x => rw [e] at hs; simp at hs
theorem ansD_6s (b : Bk) (q : Rq) (h : rqOk q = true) (hk : q.kind = 6) (hs : (b.seats : Int) ≤ q.seat) : ansD b q = ⟨⟨q.tag, q.kind, 140, 0, 0, 0, 0⟩, 0⟩ := by
 unfold ansD
 rw [if_neg (by rw [h]; decide), if_neg (by omega), if_pos hk, if_pos hs]
theorem ansD_6y (b : Bk) (q : Rq) (h : rqOk q = true) (hk : q.kind = 6) (hl : ¬ (b.seats : Int) ≤ q.seat) (hs : (bSeat b.L q.seat).isSome = true) : ansD b q = ⟨⟨q.tag, q.kind, 0, (optB (bSeat b.L q.seat)).1, 0, (optB (bSeat b.L q.seat)).2.2, 0⟩, 0⟩ := by
 unfold ansD
 rw [if_neg (by rw [h]; decide), if_neg (by omega), if_pos hk, if_neg hl]
 cases e : bSeat b.L q.seat with
 | none => rw [e] at hs; simp at hs
 | some x => rfl
theorem ansD_6n (b : Bk) (q : Rq) (h : rqOk q = true) (hk : q.kind = 6) (hl : ¬ (b.seats : Int) ≤ q.seat) (hs : (bSeat b.L q.seat).isSome = false) : ansD b q = ⟨⟨q.tag, q.kind, 171, 0, 0, 0, 0⟩, 0⟩ := by
 unfold ansD
 rw [if_neg (by rw [h]; decide), if_neg (by omega), if_pos hk, if_neg hl]
 cases e : bSeat b.L q.seat with
 | none => rfl
 | some x => rw [e] at hs; simp at hs
set_option maxRecDepth 100000 in
set_option maxHeartbeats 8000000 in
theorem rans_ok {w : World} {wb : Nat} {v : Value} {b : Bk} (h : RefAt w wb v b) (hraw : Raw b) (q : Rq) : Calls Tryz.prog 30 #[.pointer (some ⟨wb, 0, none⟩), rqV q] w fun e w' => e = .returned (ansV (ansD b q)) ∧ Fr (fun _ => False) w w' := by
 obtain ⟨D, hD⟩ : ∃ D, D = ansD b q := ⟨_, rfl⟩
 rw [← hD]
 have hl : b.L.length ≤ 100000 := by have := hraw.few; have := hraw.c1; omega
 obtain ⟨ok, hok⟩ : ∃ x, x = rqOk q := ⟨_, rfl⟩
 obtain ⟨qu, hqu⟩ : ∃ x, x = isQu q.kind := ⟨_, rfl⟩
 obtain ⟨W1, hW1⟩ : ∃ W, W = w.alloc (rqC q) := ⟨_, rfl⟩
 obtain ⟨W, hW⟩ : ∃ W, W = W1.alloc (.cells #[.int .u32 0, .int .i64 0, .int .i64 0, .int .u32 0, .int .i64 0, .int .i64 0, .int .i64 0] 71) := ⟨_, rfl⟩
 obtain ⟨z, hz⟩ : ∃ z, z = w.heap.size := ⟨_, rfl⟩
 have s1 : W1.heap.size = z + 1 := by rw [hW1, hz]; simp
 have s2 : W.heap.size = z + 2 := by rw [hW]; simp [s1]
 have a1 : Fr (fun _ => False) w W1 := by rw [hW1]; exact Fr.alloc (Fr.refl _ _) _
 have a2 : Fr (fun _ => False) W1 W := by rw [hW]; exact Fr.alloc (Fr.refl _ _) _
 have f0 : Fr (fun _ => False) w W := a1.trans a2 (fun _ _ h => h)
 have hg : W.heap[z]? = some (rqO q) := a2.get (show W1.heap[z]? = _ by rw [hW1, hz]; exact heap_alloc_at _ _) (fun h => h)
 have hg1 : W.heap[z + 1]? = some (rpO rp0) := show W.heap[z + 1]? = _ by rw [hW, ← s1]; exact heap_alloc_at _ _
 have HRf := Lib.hid h; have HRaw := Lib.hid hraw; have HD := Lib.hid hD; have HOk := Lib.hid hok; have HQu := Lib.hid hqu
 have Hz := Lib.hid hz; have F0 := Lib.hid f0; have HG := Lib.hid (And.intro hg hg1); have Hs := Lib.hid s2
 have HW1 := Lib.hid hW1; have HW := Lib.hid hW
 have HCk := Lib.hid (fun (V : World) => show Calls Tryz.prog 64 #[rqV q] V fun e w' => e = .returned (.int .i64 (if ok = true then (0 : Nat) else (200 : Nat) : Nat)) ∧ Fr (fun _ => False) V w' by rw [hok]; exact rcheck_ok q V)
 have q0 := (cell_of hg 0).trans (show _ = some (Value.int .i64 q.kind) from rfl)
 have q1 := (cell_of hg 1).trans (show _ = some (Value.int .u32 (q.tag : Int)) from rfl)
 have q2 := (cell_of hg 2).trans (show _ = some (Value.int .u32 (q.id : Int)) from rfl)
 have q3 := (cell_of hg 3).trans (show _ = some (Value.int .i64 q.seat) from rfl)
 have q4 := (cell_of hg 4).trans (show _ = some (Value.int .i64 q.ttl) from rfl)
 clear h hraw hD hok f0 hg hg1 a1 a2 s1 s2 hW1 hW hz hl
 go_enter Tryz.func30, Tryz.ntmps30
 go_upto_region 1 with fail
 rw [← HW1.out, ← HW.out, ← Hz.out]
 try rw [show z + 1 + 1 = z + 2 by omega]
 go_cut [6] (fun s wx => s = .bool qu ∧ W = wx)
 case first =>
  rcases (by omega : q.kind = 5 ∨ q.kind = 6 ∨ q.kind = 10 ∨ (q.kind ≠ 5 ∧ q.kind ≠ 6 ∧ q.kind ≠ 10)) with g | g | g | ⟨g5, g6, g10⟩
  ·have k5 : (q.kind == 5) = true := by rw [g]; rfl
   have k6 : (q.kind == 6) = false := by rw [g]; rfl
   have k10 : (q.kind == 10) = false := by rw [g]; rfl
   have E9 := Lib.hid (show qu = true by rw [hqu, g]; rfl)
   clear g hqu
   go_wp2_with fail
   go_meet
   exact ⟨by rw [E9.out], rfl⟩
  ·have k5 : (q.kind == 5) = false := by rw [g]; rfl
   have k6 : (q.kind == 6) = true := by rw [g]; rfl
   have k10 : (q.kind == 10) = false := by rw [g]; rfl
   have E9 := Lib.hid (show qu = true by rw [hqu, g]; rfl)
   clear g hqu
   go_wp2_with fail
   go_meet
   exact ⟨by rw [E9.out], rfl⟩
  ·have k5 : (q.kind == 5) = false := by rw [g]; rfl
   have k6 : (q.kind == 6) = false := by rw [g]; rfl
   have k10 : (q.kind == 10) = true := by rw [g]; rfl
   have E9 := Lib.hid (show qu = true by rw [hqu, g]; rfl)
   clear g hqu
   go_wp2_with fail
   go_meet
   exact ⟨by rw [E9.out], rfl⟩
  ·have k5 : (q.kind == 5) = false := by simpa using g5
   have k6 : (q.kind == 6) = false := by simpa using g6
   have k10 : (q.kind == 10) = false := by simpa using g10
   have E9 := Lib.hid (show qu = false by rw [hqu]; exact decide_eq_false (by omega))
   clear g5 g6 g10 hqu
   go_wp2_with fail
   go_meet
   exact ⟨by rw [E9.out], rfl⟩
 case rest =>
 obtain ⟨rfl, rfl⟩ := hcut
 clear hqu
 go_upto_region 2 with fail
 go_cut [31] (fun s wx => s = .bool (!(ok && qu)) ∧ Fr (fun _ => False) W wx)
 case first =>
  go_wp2_with fail
  refine (HCk.out _).mono ?_
  rintro e w1 ⟨rfl, f1⟩
  have F1 := Lib.hid f1
  clear f1 q0 q1 q2 q3 q4
  cases ok with
  | false =>
   go_wp2_with fail
   go_meet
   exact ⟨rfl, F1.out⟩
  | true =>
   cases qu with
   | false =>
    go_wp2_with fail
    go_meet
    exact ⟨rfl, F1.out⟩
   | true =>
    go_wp2_with fail
    go_meet
    exact ⟨rfl, F1.out⟩
 case rest =>
 obtain ⟨rfl, f1⟩ := hcut
 obtain ⟨w1, hw1⟩ : ∃ x, x = wc := ⟨_, rfl⟩
 rw [← hw1] at f1 ⊢
 clear hw1
 have F1 := Lib.hid (F0.out.trans f1 (fun _ _ h => h)); have HG1 := Lib.hid (And.intro (f1.get HG.out.1 (fun h => h)) (f1.get HG.out.2 (fun h => h))); have Hs1 := Lib.hid (show z + 2 ≤ w1.heap.size by rw [← Hs.out]; exact f1.size)
 clear f1 q0 q1 q2 q3 q4
 obtain ⟨gd, hgd⟩ : ∃ x, x = !(ok && qu) := ⟨_, rfl⟩
 rw [← hgd]
 have HGd := Lib.hid (show (!gd) = (rqOk q && isQu q.kind) by rw [hgd, HOk.out, HQu.out]; simp)
 clear hgd HCk HOk HQu
 cases gd with
 | false =>
  have hqu : isQu q.kind = true := by have := HGd.out; simp at this; exact this.2
  have hok : rqOk q = true := by have := HGd.out; simp at this; exact this.1
  have HOk := Lib.hid hok
  have HKd := Lib.hid (show q.kind = 10 ∨ q.kind = 5 ∨ q.kind = 6 by unfold isQu at hqu; have := of_decide_eq_true hqu; omega)
  obtain ⟨kn, hkn⟩ : ∃ x, x = (bFind b.L q.id).isSome := ⟨_, rfl⟩
  obtain ⟨xk, hxk⟩ : ∃ x, x = optB (bFind b.L q.id) := ⟨_, rfl⟩
  obtain ⟨st, hst⟩ : ∃ x, x = (bSeat b.L q.seat).isSome := ⟨_, rfl⟩
  obtain ⟨xs, hxs⟩ : ∃ x, x = optB (bSeat b.L q.seat) := ⟨_, rfl⟩
  have Hh := Lib.hid (fun (V : World) (f : Fr (fun _ => False) w V) => show Calls Tryz.prog 70 #[.pointer (some ⟨wb, 0, none⟩), .int .u32 (q.id : Int)] V fun e w' => e = .returned (.tuple #[boV xk, .bool kn]) ∧ Fr (fun _ => False) V w' by rw [hkn, hxk]; exact rhas_ok (HRf.out.keep f) HRaw.out q.id)
  have Ho := Lib.hid (fun (V : World) (f : Fr (fun _ => False) w V) => show Calls Tryz.prog 71 #[.pointer (some ⟨wb, 0, none⟩), .int .i64 q.seat] V fun e w' => e = .returned (.tuple #[boV xs, .bool st]) ∧ Fr (fun _ => False) V w' by rw [hst, hxs]; exact ron_ok (HRf.out.keep f) HRaw.out q.seat)
  have HKn := Lib.hid hkn; have HXk := Lib.hid hxk; have HSt := Lib.hid hst; have HXs := Lib.hid hxs
  clear hqu hok hkn hxk hst hxs
  have hg1 := HG1.out.1
  have q0 := (cell_of hg1 0).trans (show _ = some (Value.int .i64 q.kind) from rfl)
  have q1 := (cell_of hg1 1).trans (show _ = some (Value.int .u32 (q.tag : Int)) from rfl)
  have q2 := (cell_of hg1 2).trans (show _ = some (Value.int .u32 (q.id : Int)) from rfl)
  have q3 := (cell_of hg1 3).trans (show _ = some (Value.int .i64 q.seat) from rfl)
  have q4 := (cell_of hg1 4).trans (show _ = some (Value.int .i64 q.ttl) from rfl)
  clear hg1
  go_upto_region 5 with fail
  obtain ⟨W4, hW4⟩ : ∃ W, W = w1.alloc (.cells #[.int .u32 (q.tag : Int), .int .i64 q.kind, .int .i64 0, .int .u32 0, .int .i64 0, .int .i64 0, .int .i64 0] 71) := ⟨_, rfl⟩
  obtain ⟨y, hy⟩ : ∃ y, y = w1.heap.size := ⟨_, rfl⟩
  have f4 : Fr (fun _ => False) w1 W4 := by rw [hW4]; exact Fr.alloc (Fr.refl _ _) _
  have hgy : W4.heap[y]? = some (rpO ⟨q.tag, q.kind, 0, 0, 0, 0, 0⟩) := by rw [hW4, hy]; exact heap_alloc_at _ _
  rw [← hW4, ← hy]
  have F4 := Lib.hid (F1.out.trans f4 (fun _ _ h => h))
  have HG4 := Lib.hid (And.intro (f4.get HG1.out.1 (fun h => h)) (And.intro (f4.get HG1.out.2 (fun h => h)) hgy))
  have HY := Lib.hid (show z + 2 ≤ y by rw [hy]; exact Hs1.out)
  clear f4 hgy hW4 hy q0 q1 q2 q3 q4
  have hg4 := HG4.out.1
  have q0 := (cell_of hg4 0).trans (show _ = some (Value.int .i64 q.kind) from rfl)
  have q1 := (cell_of hg4 1).trans (show _ = some (Value.int .u32 (q.tag : Int)) from rfl)
  have q2 := (cell_of hg4 2).trans (show _ = some (Value.int .u32 (q.id : Int)) from rfl)
  have q3 := (cell_of hg4 3).trans (show _ = some (Value.int .i64 q.seat) from rfl)
  have q4 := (cell_of hg4 4).trans (show _ = some (Value.int .i64 q.ttl) from rfl)
  clear hg4
  go_wp2_with fail
  refine (Hh.out _ F4.out).mono ?_
  rintro e w5 ⟨rfl, f5⟩
  obtain ⟨W6, hW6⟩ : ∃ W, W = w5.alloc (.cells #[.int .u32 (xk.1 : Int), .int .i64 xk.2.1, .int .i64 xk.2.2] 68) := ⟨_, rfl⟩
  obtain ⟨yk, hyk⟩ : ∃ y, y = w5.heap.size := ⟨_, rfl⟩
  have f6 : Fr (fun _ => False) W4 W6 := f5.trans (by rw [hW6]; exact Fr.alloc (Fr.refl _ _) _) (fun _ _ h => h)
  have hgk : W6.heap[yk]? = some (.cells #[.int .u32 (xk.1 : Int), .int .i64 xk.2.1, .int .i64 xk.2.2] 68 (0, 0)) := by rw [hW6, hyk]; exact heap_alloc_at _ _
  have F6 := Lib.hid (F4.out.trans f6 (fun _ _ h => h))
  have HG6 := Lib.hid (And.intro (f6.get HG4.out.1 (fun h => h)) (And.intro (f6.get HG4.out.2.1 (fun h => h)) (And.intro (f6.get HG4.out.2.2 (fun h => h)) hgk)))
  have HYk := Lib.hid (show y < yk by have := lt_of_block HG4.out.2.2; have := f5.size; omega)
  clear f5 f6 hgk q0 q1 q2 q3 q4
  go_upto_region 6 with fail
  rw [← hW6, ← hyk]
  clear hW6 hyk
  have hg6 := HG6.out.1
  have q0 := (cell_of hg6 0).trans (show _ = some (Value.int .i64 q.kind) from rfl)
  have q1 := (cell_of hg6 1).trans (show _ = some (Value.int .u32 (q.tag : Int)) from rfl)
  have q2 := (cell_of hg6 2).trans (show _ = some (Value.int .u32 (q.id : Int)) from rfl)
  have q3 := (cell_of hg6 3).trans (show _ = some (Value.int .i64 q.seat) from rfl)
  have q4 := (cell_of hg6 4).trans (show _ = some (Value.int .i64 q.ttl) from rfl)
  clear hg6
  go_wp2_with fail
  refine (Ho.out _ F6.out).mono ?_
  rintro e w7 ⟨rfl, f7⟩
  obtain ⟨W8, hW8⟩ : ∃ W, W = w7.alloc (.cells #[.int .u32 (xs.1 : Int), .int .i64 xs.2.1, .int .i64 xs.2.2] 68) := ⟨_, rfl⟩
  obtain ⟨ys, hys⟩ : ∃ y, y = w7.heap.size := ⟨_, rfl⟩
  have f8 : Fr (fun _ => False) W6 W8 := f7.trans (by rw [hW8]; exact Fr.alloc (Fr.refl _ _) _) (fun _ _ h => h)
  have hgs : W8.heap[ys]? = some (.cells #[.int .u32 (xs.1 : Int), .int .i64 xs.2.1, .int .i64 xs.2.2] 68 (0, 0)) := by rw [hW8, hys]; exact heap_alloc_at _ _
  have F8 := Lib.hid (F6.out.trans f8 (fun _ _ h => h))
  have HG8 := Lib.hid (And.intro (f8.get HG6.out.1 (fun h => h)) (And.intro (f8.get HG6.out.2.1 (fun h => h)) (And.intro (f8.get HG6.out.2.2.1 (fun h => h)) (And.intro (f8.get HG6.out.2.2.2 (fun h => h)) hgs))))
  have HYs := Lib.hid (show yk < ys by have := lt_of_block HG6.out.2.2.2; have := f7.size; omega)
  clear f7 f8 hgs q0 q1 q2 q3 q4
  go_upto_block 0 with fail
  rw [← hW8, ← hys]
  clear hW8 hys
  have hg8 := HG8.out.1; have hy8 := HG8.out.2.2.1; have hk8 := HG8.out.2.2.2.1; have hs8 := HG8.out.2.2.2.2
  have q0 := (cell_of hg8 0).trans (show _ = some (Value.int .i64 q.kind) from rfl)
  have q1 := (cell_of hg8 1).trans (show _ = some (Value.int .u32 (q.tag : Int)) from rfl)
  have q2 := (cell_of hg8 2).trans (show _ = some (Value.int .u32 (q.id : Int)) from rfl)
  have q3 := (cell_of hg8 3).trans (show _ = some (Value.int .i64 q.seat) from rfl)
  have q4 := (cell_of hg8 4).trans (show _ = some (Value.int .i64 q.ttl) from rfl)
  have c0 := (cell_of hy8 0).trans (show _ = some (Value.int .u32 (q.tag : Int)) from rfl)
  have d0 := free_of hy8 0
  have c1 := (cell_of hy8 1).trans (show _ = some (Value.int .i64 q.kind) from rfl)
  have d1 := free_of hy8 1
  have c2 := (cell_of hy8 2).trans (show _ = some (Value.int .i64 0) from rfl)
  have d2 := free_of hy8 2
  have c3 := (cell_of hy8 3).trans (show _ = some (Value.int .u32 0) from rfl)
  have d3 := free_of hy8 3
  have c4 := (cell_of hy8 4).trans (show _ = some (Value.int .i64 0) from rfl)
  have d4 := free_of hy8 4
  have c5 := (cell_of hy8 5).trans (show _ = some (Value.int .i64 0) from rfl)
  have d5 := free_of hy8 5
  have c6 := (cell_of hy8 6).trans (show _ = some (Value.int .i64 0) from rfl)
  have d6 := free_of hy8 6
  have g0 := (cell_of hk8 0).trans (show _ = some (Value.int .u32 (xk.1 : Int)) from rfl)
  have g1 := (cell_of hk8 1).trans (show _ = some (Value.int .i64 xk.2.1) from rfl)
  have g2 := (cell_of hk8 2).trans (show _ = some (Value.int .i64 xk.2.2) from rfl)
  have h0 := (cell_of hs8 0).trans (show _ = some (Value.int .u32 (xs.1 : Int)) from rfl)
  have h1 := (cell_of hs8 1).trans (show _ = some (Value.int .i64 xs.2.1) from rfl)
  have h2 := (cell_of hs8 2).trans (show _ = some (Value.int .i64 xs.2.2) from rfl)
  clear hg8 hy8 hk8 hs8
  obtain ⟨-, b1, -, -, b4, -, -⟩ := (HRf.out.keep F8.out).c
  obtain ⟨la, lc, hv⟩ := bos_slice HRf.out.row
  rw [hv] at b4
  obtain ⟨n, hn⟩ : ∃ n, n = b.L.length := ⟨_, rfl⟩
  rw [← hn] at b4
  have HN := Lib.hid hn
  clear hv hn
  obtain ⟨X, hX⟩ : ∃ X, X = D.x := ⟨_, rfl⟩
  go_cut [7] (fun s7 wx => s7 = .pointer (some ⟨y, 0, none⟩) ∧ wx.heap[y]? = some (rpO X) ∧ Fr (fun k => k = y) W8 wx ∧ D = ⟨X, 0⟩)
  case first =>
   have HX := Lib.hid hX
   clear hX
   rcases HKd.out with hk | hk | hk
   ·have k5 : (q.kind == 5) = false := by rw [hk]; rfl
    have k6 : (q.kind == 6) = false := by rw [hk]; rfl
    have k10 : (q.kind == 10) = true := by rw [hk]; rfl
    have HK := Lib.hid hk
    clear hk
    have HDx := Lib.hid (HD.out.trans ((ansD_10 b q HOk.out HK.out).trans (by rw [← HN.out])))
    have HXx := Lib.hid (show X = _ by rw [HX.out, HDx.out])
    go_wp2_with fail
    go_meet
    exact ⟨rfl, by rw [HXx.out]; exact (setCell_blk (o := 6) (HG8.out.2.2.1) _).trans rfl, (Fr.setCell (F := fun k => k = y) (p := ⟨y, 6, none⟩) (Fr.refl _ _) (fun _ => rfl) _), by rw [HXx.out]; exact HDx.out⟩
   ·have k5 : (q.kind == 5) = true := by rw [hk]; rfl
    have k6 : (q.kind == 6) = false := by rw [hk]; rfl
    have k10 : (q.kind == 10) = false := by rw [hk]; rfl
    have HK := Lib.hid hk
    clear hk
    cases kn with
    | true =>
     have HDx := Lib.hid (HD.out.trans ((ansD_5y b q HOk.out HK.out HKn.out.symm).trans (by rw [← HXk.out])))
     have HXx := Lib.hid (show X = _ by rw [HX.out, HDx.out])
     go_wp2_with fail
     go_meet
     exact ⟨rfl, by rw [HXx.out]; exact (setCell_blk (o := 5) (setCell_blk (o := 4) (HG8.out.2.2.1) _) _).trans rfl, (Fr.setCell (F := fun k => k = y) (p := ⟨y, 5, none⟩) (Fr.setCell (F := fun k => k = y) (p := ⟨y, 4, none⟩) (Fr.refl _ _) (fun _ => rfl) _) (fun _ => rfl) _), by rw [HXx.out]; exact HDx.out⟩
    | false =>
     go_upto_region 13 with fail
     go_cut [76] (fun s wx => s = .bool false ∧ Fr (fun _ => False) W8 wx)
     case first =>
      go_big_quiet (fail)
      go_wp2_with fail
      go_meet
      exact ⟨rfl, (Fr.refl _ _).drewN _⟩
     case rest =>
     obtain ⟨rfl, f9⟩ := hcut
     obtain ⟨w9, hw9⟩ : ∃ x, x = wc := ⟨_, rfl⟩
     rw [← hw9] at f9 ⊢
     clear hw9 q0 q1 q2 q3 q4 c0 d0 c1 d1 c2 d2 c3 d3 c4 d4 c5 d5 c6 d6 g0 g1 g2 h0 h1 h2
     have hy9 := f9.get HG8.out.2.2.1 (fun h => h); have hq9 := f9.get HG8.out.1 (fun h => h)
     have c0 := (cell_of hy9 0).trans (show _ = some (Value.int .u32 (q.tag : Int)) from rfl)
     have d0 := free_of hy9 0
     have c1 := (cell_of hy9 1).trans (show _ = some (Value.int .i64 q.kind) from rfl)
     have d1 := free_of hy9 1
     have c2 := (cell_of hy9 2).trans (show _ = some (Value.int .i64 0) from rfl)
     have d2 := free_of hy9 2
     have c3 := (cell_of hy9 3).trans (show _ = some (Value.int .u32 0) from rfl)
     have d3 := free_of hy9 3
     have c4 := (cell_of hy9 4).trans (show _ = some (Value.int .i64 0) from rfl)
     have d4 := free_of hy9 4
     have c5 := (cell_of hy9 5).trans (show _ = some (Value.int .i64 0) from rfl)
     have d5 := free_of hy9 5
     have c6 := (cell_of hy9 6).trans (show _ = some (Value.int .i64 0) from rfl)
     have d6 := free_of hy9 6
     have q0 := (cell_of hq9 0).trans (show _ = some (Value.int .i64 q.kind) from rfl)
     have HY9 := Lib.hid hy9; have F9 := Lib.hid f9
     clear hy9 hq9 f9
     have HDx := Lib.hid (HD.out.trans (ansD_5n b q HOk.out HK.out HKn.out.symm))
     have HXx := Lib.hid (show X = _ by rw [HX.out, HDx.out])
     go_wp2_with fail
     go_meet
     exact ⟨rfl, by rw [HXx.out]; exact (setCell_blk (o := 2) (HY9.out) _).trans rfl, (Fr.setCell (F := fun k => k = y) (p := ⟨y, 2, none⟩) (F9.out.mono (fun _ _ h => h.elim)) (fun _ => rfl) _), by rw [HXx.out]; exact HDx.out⟩
   ·have k5 : (q.kind == 5) = false := by rw [hk]; rfl
    have k6 : (q.kind == 6) = true := by rw [hk]; rfl
    have k10 : (q.kind == 10) = false := by rw [hk]; rfl
    have HK := Lib.hid hk
    clear hk
    by_cases hl : (b.seats : Int) ≤ q.seat
    ·have b9 : decide ((b.seats : Int) ≤ q.seat) = true := decide_eq_true hl
     have HL := Lib.hid hl
     clear hl
     go_upto_region 13 with fail
     go_still (by kernel_rfl)
     have HDx := Lib.hid (HD.out.trans (ansD_6s b q HOk.out HK.out HL.out))
     have HXx := Lib.hid (show X = _ by rw [HX.out, HDx.out])
     go_wp2_with fail
     go_meet
     exact ⟨rfl, by rw [HXx.out]; exact (setCell_blk (o := 2) (HG8.out.2.2.1) _).trans rfl, (Fr.setCell (F := fun k => k = y) (p := ⟨y, 2, none⟩) (Fr.refl _ _) (fun _ => rfl) _).drew, by rw [HXx.out]; exact HDx.out⟩
    ·have b9 : decide ((b.seats : Int) ≤ q.seat) = false := decide_eq_false hl
     have HL := Lib.hid hl
     clear hl
     go_upto_region 13 with fail
     go_still (by kernel_rfl)
     cases st with
     | true =>
      have HDx := Lib.hid (HD.out.trans ((ansD_6y b q HOk.out HK.out HL.out HSt.out.symm).trans (by rw [← HXs.out])))
      have HXx := Lib.hid (show X = _ by rw [HX.out, HDx.out])
      go_wp2_with fail
      go_meet
      exact ⟨rfl, by rw [HXx.out]; exact (setCell_blk (o := 5) (setCell_blk (o := 3) (HG8.out.2.2.1) _) _).trans rfl, (Fr.setCell (F := fun k => k = y) (p := ⟨y, 5, none⟩) (Fr.setCell (F := fun k => k = y) (p := ⟨y, 3, none⟩) (Fr.refl _ _) (fun _ => rfl) _) (fun _ => rfl) _).drew, by rw [HXx.out]; exact HDx.out⟩
     | false =>
      have HDx := Lib.hid (HD.out.trans (ansD_6n b q HOk.out HK.out HL.out HSt.out.symm))
      have HXx := Lib.hid (show X = _ by rw [HX.out, HDx.out])
      go_wp2_with fail
      go_meet
      exact ⟨rfl, by rw [HXx.out]; exact (setCell_blk (o := 2) (HG8.out.2.2.1) _).trans rfl, (Fr.setCell (F := fun k => k = y) (p := ⟨y, 2, none⟩) (Fr.refl _ _) (fun _ => rfl) _).drew, by rw [HXx.out]; exact HDx.out⟩
  case rest =>
  obtain ⟨rfl, hb, hF, hDX⟩ := hcut
  have hz1 := hF.get HG8.out.2.1 (by have := HY.out; omega)
  have HP := Lib.hid (((F8.out.trans hF (fun k hk e => by have := HY.out; have := Hz.out; omega) : Fr (fun _ => False) w wc).trans (repW_fr wc (z + 1) (X.tag : Int) X.kind X.err (X.id : Int) X.seat X.till X.count) (fun x hx e => by have := Hz.out; omega) : Fr (fun _ => False) w _))
  have HE := Lib.hid (rp_cells (x := X) (repW_at hz1 (X.tag : Int) X.kind X.err (X.id : Int) X.seat X.till X.count))
  have HDX := Lib.hid hDX
  clear hX hF hDX q0 q1 q2 q3 q4 b1 b4 c0 d0 c1 d1 c2 d2 c3 d3 c4 d4 c5 d5 c6 d6 g0 g1 g2 h0 h1 h2
  have c0 := (cell_of hb 0).trans (show _ = some (Value.int .u32 (X.tag : Int)) from rfl)
  have c1 := (cell_of hb 1).trans (show _ = some (Value.int .i64 X.kind) from rfl)
  have c2 := (cell_of hb 2).trans (show _ = some (Value.int .i64 X.err) from rfl)
  have c3 := (cell_of hb 3).trans (show _ = some (Value.int .u32 (X.id : Int)) from rfl)
  have c4 := (cell_of hb 4).trans (show _ = some (Value.int .i64 X.seat) from rfl)
  have c5 := (cell_of hb 5).trans (show _ = some (Value.int .i64 X.till) from rfl)
  have c6 := (cell_of hb 6).trans (show _ = some (Value.int .i64 X.count) from rfl)
  have s0 := (cell_of hz1 0).trans (show _ = some (Value.int .u32 0) from rfl)
  have t0 := free_of hz1 0
  have s1 := (cell_of hz1 1).trans (show _ = some (Value.int .i64 0) from rfl)
  have t1 := free_of hz1 1
  have s2 := (cell_of hz1 2).trans (show _ = some (Value.int .i64 0) from rfl)
  have t2 := free_of hz1 2
  have s3 := (cell_of hz1 3).trans (show _ = some (Value.int .u32 0) from rfl)
  have t3 := free_of hz1 3
  have s4 := (cell_of hz1 4).trans (show _ = some (Value.int .i64 0) from rfl)
  have t4 := free_of hz1 4
  have s5 := (cell_of hz1 5).trans (show _ = some (Value.int .i64 0) from rfl)
  have t5 := free_of hz1 5
  have s6 := (cell_of hz1 6).trans (show _ = some (Value.int .i64 0) from rfl)
  have t6 := free_of hz1 6
  clear hb hz1
  go_wp2_with fail
  refine bodyPost_ret (v := ansV ⟨X, 0⟩) ?_ rfl ⟨by rw [HDX.out], HP.out⟩
  obtain ⟨p0, p1, p2, p3, p4, p5, p6⟩ := HE.out
  simp [results, Tryz.f30, go_sem, p0, p1, p2, p3, p4, p5, p6]
 | true =>
  have HDv := Lib.hid (show D = ⟨rp0, 200⟩ by rw [HD.out]; exact ansD_bad b q HGd.out.symm)
  have HP := Lib.hid ((F1.out.trans (repW_fr w1 (z + 1) 0 0 0 0 0 0 0) (fun x hx e => by have := Hz.out; omega) : Fr (fun _ => False) w _))
  have HE := Lib.hid (rp_cells (x := rp0) (repW_at HG1.out.2 0 0 0 0 0 0 0))
  have hz1 := HG1.out.2
  have s0 := (cell_of hz1 0).trans (show _ = some (Value.int .u32 0) from rfl)
  have t0 := free_of hz1 0
  have s1 := (cell_of hz1 1).trans (show _ = some (Value.int .i64 0) from rfl)
  have t1 := free_of hz1 1
  have s2 := (cell_of hz1 2).trans (show _ = some (Value.int .i64 0) from rfl)
  have t2 := free_of hz1 2
  have s3 := (cell_of hz1 3).trans (show _ = some (Value.int .u32 0) from rfl)
  have t3 := free_of hz1 3
  have s4 := (cell_of hz1 4).trans (show _ = some (Value.int .i64 0) from rfl)
  have t4 := free_of hz1 4
  have s5 := (cell_of hz1 5).trans (show _ = some (Value.int .i64 0) from rfl)
  have t5 := free_of hz1 5
  have s6 := (cell_of hz1 6).trans (show _ = some (Value.int .i64 0) from rfl)
  have t6 := free_of hz1 6
  clear hz1
  go_wp2_with fail
  refine bodyPost_ret (v := ansV ⟨rp0, 200⟩) ?_ rfl ⟨by rw [HDv.out], HP.out⟩
  obtain ⟨p0, p1, p2, p3, p4, p5, p6⟩ := HE.out
  simp only [rp0] at p0 p1 p2 p3 p4 p5 p6
  simp [results, Tryz.f30, go_sem, rp0, p0, p1, p2, p3, p4, p5, p6]
end Go.Proofs.YtffnjnnmlfgngaaGreat.Cs
namespace Go.Proofs.YtffnjnnmlfgngaaGreat.Bk
open Go.RowKit Go.Shelf
theorem Keep.app {L M : List (Nat × Obj)} {V : World} (h : Keep L V) (k : Keep M V) : Keep (L ++ M) V := fun x hx => by
  rcases List.mem_append.1 hx with hx | hx
  · exact h x hx
  · exact k x hx
theorem Keep.sub {L M : List (Nat × Obj)} {V : World} (h : Keep L V) (s : ∀ x ∈ M, x ∈ L) : Keep M V := fun x hx => h x (s x hx)
/-- The blocks of a slice of bookings. -/
theorem keep_of_bos {w : World} {v : Value} {L : List Bo} (h : Bos w v L) : ∃ N, Keep N w ∧ (∀ V, Keep N V → Bos V v L) ∧ ∀ x ∈ N, v.ownBlock = some x.1 := by
  rcases h with ⟨h1, h2 | ⟨g, cap, cur, rfl, h3, h4, h5⟩⟩
  · exact ⟨[], Keep.nil w, fun V _ => ⟨h1, .inl h2⟩, fun x hx => by simp at hx⟩
  · refine ⟨[(g, .cells cur 68 (0, 0))], Keep.cons h4 (Keep.nil w), fun V k => ⟨h1, .inr ⟨g, cap, cur, rfl, h3, k _ List.mem_cons_self, h5⟩⟩, fun x hx => ?_⟩
    have : x = (g, .cells cur 68 (0, 0)) := by simpa using hx
    rw [this]; rfl
theorem keep_of_ref {w : World} {wb : Nat} {v : Value} {b : Bk} (h : RefAt w wb v b) : ∃ N, Keep N w ∧ (∀ V, Keep N V → RefAt V wb v b) ∧ ∀ x ∈ N, x.1 = wb ∨ v.ownBlock = some x.1 := by
  obtain ⟨N, k1, k2, k3⟩ := keep_of_bos h.row
  refine ⟨_ :: N, Keep.cons h.head k1, fun V k => ⟨k _ List.mem_cons_self, k2 V (fun x hx => k x (List.mem_cons_of_mem _ hx)), h.ne⟩, fun x hx => ?_⟩
  rcases List.mem_cons.1 hx with rfl | hx
  · exact .inl rfl
  · exact .inr (k3 x hx)
section
variable {W V V' : World} {n : Nat} {B : Nat → Nat} {M : Nat → Bk} {L : List (Nat × Obj)}
theorem St.keeps (h : St W V n B M L) : Keep L V := by obtain ⟨Z, P, _, h2, _⟩ := h; exact h2
/-- A new book, and new blocks beside it. -/
theorem St.addk (h : St W V n B M L) {p : Pt} {bb : Nat} {b : Bk} (hb : BkP p bb b.next b b.L b.L V') (f : Fr (fun _ => False) V V') {N : List (Nat × Obj)} (k : Keep N V')
    (hn : ∀ y, p.own bb y → V.heap.size ≤ y ∧ ∀ x ∈ N, x.1 ≠ y) (hs : ∀ x ∈ N, V.heap.size ≤ x.1) : St W V' (n + 1) (upd B n bb) (upd M n b) (N ++ L) := by
  obtain ⟨Z, P, h1, h2, h3⟩ := h
  have h4 := h1.add hb (fun y hy => (hn y hy).1) f
  refine ⟨fun y => Z y ∨ ∃ x ∈ N, x.1 = y, upd P n p, ⟨h4.at_, h4.new, h4.apart, fun y hy => ?_, h4.fr⟩, k.app (h2.fr f (fun _ _ h => h)), fun x hx => ?_⟩
  · rcases hy with hy | ⟨x, hx, rfl⟩
    · exact h4.z y hy
    · refine ⟨lt_of_block (k x hx), fun j hj ho => ?_⟩
      by_cases e : j = n
      · subst e; rw [upd_same, upd_same] at ho; exact (hn _ ho).2 x hx rfl
      · rw [upd_ne _ _ e, upd_ne _ _ e] at ho
        have := (h1.at_ j (by omega)).lt ho; have := hs x hx; omega
  · rcases List.mem_append.1 hx with hx | hx
    · exact .inr ⟨x, hx, rfl⟩
    · exact .inl (h3 x hx)
end
end Go.Proofs.YtffnjnnmlfgngaaGreat.Bk
namespace Go.Proofs.YtffnjnnmlfgngaaGreat.Bk
open Go.RowKit Go.Shelf
attribute [local go_sem] Oper.semAt_some
end Go.Proofs.YtffnjnnmlfgngaaGreat.Bk
namespace Go.Proofs.YtffnjnnmlfgngaaGreat.Bk
open Go.RowKit Go.Shelf
/-- A kept block is written. -/
theorem St.put {W V V' : World} {n : Nat} {B : Nat → Nat} {M : Nat → Bk} {L : List (Nat × Obj)} (h : St W V n B M L) {a : Nat} (f : Fr (fun y => y = a) V V') {o : Obj} (hm : (a, o) ∈ L) (ha : W.heap.size ≤ a) {o' : Obj} (ho : V'.heap[a]? = some o') {L' : List (Nat × Obj)} (hL : ∀ x ∈ L', x ∈ L ∧ x.1 ≠ a) : St W V' n B M ((a, o') :: L') := by
  obtain ⟨Z, P, h1, h2, h3⟩ := h
  refine ⟨Z, P, h1.write f (fun y e _ => by rw [e]; exact ⟨h3 _ hm, ha⟩), Keep.cons ho (fun x hx => f.get (h2 x (hL x hx).1) (hL x hx).2), fun x hx => ?_⟩
  rcases List.mem_cons.1 hx with rfl | hx
  · show Z a
    exact h3 (a, o) hm
  · exact h3 x (hL x hx).1
theorem sameK_self (b : Bk) : sameK b b.next b b.next = true := by unfold sameK; simp
end Go.Proofs.YtffnjnnmlfgngaaGreat.Bk
namespace Go.Proofs.YtffnjnnmlfgngaaGreat.Cs
open Go.RowKit Go.Shelf Go.Proofs.YtffnjnnmlfgngaaGreat.Bk
attribute [local go_sem] Oper.semAt_some
set_option maxRecDepth 100000 in
set_option maxHeartbeats 8000000 in
theorem decides_walk {w : World} {sh : Int} (hsh : I64 sh) {v : Value} {K : Nat → Nat → Int} {n : Nat} (hK : KindsAt w v 4 kI K n) (nx : Nat) (hnx : nx < 4294967296) (cl : Int) (room : Int) (q : Rq) (hid : q.id < 4294967296) :
    Calls Tryz.prog 5 #[flV sh v nx cl, .int .i64 room, rqV q] w fun e w' => e = .returned (.bool true) ∧ Fr (fun _ => False) w w' := by
  obtain ⟨la, lc, rfl, hlc, -⟩ := id hK
  obtain ⟨W1, hW1⟩ : ∃ W, W = w.alloc (.cells #[.int .i64 sh, .slice la n lc, .int .u32 (nx : Int), .int .i64 cl] 61) := ⟨_, rfl⟩
  obtain ⟨W, hW⟩ : ∃ W, W = W1.alloc (rqC q) := ⟨_, rfl⟩
  obtain ⟨z, hz⟩ : ∃ z, z = w.heap.size := ⟨_, rfl⟩
  have s1 : W1.heap.size = z + 1 := by rw [hW1, hz]; simp
  have a1 : Fr (fun _ => False) w W1 := by rw [hW1]; exact Fr.alloc (Fr.refl _ _) _
  have a2 : Fr (fun _ => False) W1 W := by rw [hW]; exact Fr.alloc (Fr.refl _ _) _
  have f0 : Fr (fun _ => False) w W := a1.trans a2 (fun _ _ h => h)
  have hg : W.heap[z]? = some (.cells #[.int .i64 sh, .slice la n lc, .int .u32 (nx : Int), .int .i64 cl] 61 (0, 0)) := a2.get (show W1.heap[z]? = _ by rw [hW1, hz]; exact heap_alloc_at _ _) (fun h => h)
  have hg1 : W.heap[z + 1]? = some (rqO q) := show W.heap[z + 1]? = _ by rw [hW, ← s1]; exact heap_alloc_at _ _
  have HBooks := Lib.hid (books_ok (w := W) hsh (hK.fr f0 (fun _ _ h => h) (by omega)) nx hnx cl)
  have d0 := (cell_of hg 0).trans (show _ = some (Value.int .i64 sh) from rfl)
  have d1 := (cell_of hg 1).trans (show _ = some (Value.slice la n lc) from rfl)
  have d2 := (cell_of hg 2).trans (show _ = some (Value.int .u32 (nx : Int)) from rfl)
  have d3 := (cell_of hg 3).trans (show _ = some (Value.int .i64 cl) from rfl)
  have HGq := Lib.hid hg1; have F0 := Lib.hid f0; have HW1 := Lib.hid hW1; have HW := Lib.hid hW; have Hz := Lib.hid hz; have Hs1 := Lib.hid s1; have Hid := Lib.hid hid
  clear hsh hK hnx f0 hg hg1 a1 a2 s1 hW1 hW hz hlc hid
  go_enter Tryz.func5, Tryz.ntmps5
  go_upto_region 1 with fail
  rw [← HW1.out, ← HW.out, ← Hz.out]
  try rw [Hs1.out]
  go_wp2_with fail
  refine HBooks.out.mono ?_
  rintro e x1 ⟨p, bb, wb, vr, b, rfl, hok, hgr, hB, hR, hn, hwb, hvb, f1, -⟩
  obtain ⟨N, kN, bN, lN⟩ := keep_of_ref hR
  have nN : ∀ x ∈ N, W.heap.size ≤ x.1 := fun x hx => by
    rcases lN x hx with h | h
    · rw [h]; exact hwb
    · exact hvb _ h
  have S1 := Lib.hid ((((St.zero (W := W) (V := W) (B := fun _ => 0) (M := fun _ => b) (Fr.refl _ _) (Keep.nil W)).addk (b := b) hB f1 kN (fun y hy => ⟨(hn y hy).1, fun x hx e => by
    rcases lN x hx with h | h
    · exact (hn y hy).2.1 (e.symm.trans h)
    · exact (hn y hy).2.2 (by rw [h, e])⟩) nN).names (B' := fun _ => bb) (M' := fun _ => b) (upd_one _ _) (upd_one _ _)).less (L' := N) (fun x hx => List.mem_append_left _ hx))
  have HN := Lib.hid bN; have HNl := Lib.hid (fun x hx => lt_of_block (kN x hx) : ∀ x ∈ N, x.1 < x1.heap.size); have HOk := Lib.hid hok; have HGr := Lib.hid hgr
  clear hok hgr hB hR hn hwb hvb f1 d0 d1 d2 d3 kN bN lN nN
  obtain ⟨pp4, hB4, -, -, -⟩ := S1.out.at_ (i := 0) (by omega)
  have HC4 := Lib.hid (copy_ok (b := b) (bb := bb) hB4 HOk.out HGr.out)
  clear hB4
  go_wp2_with fail
  refine HC4.out.mono ?_
  rintro e x4 ⟨p4, bc, rfl, hBc, hnc, f4⟩
  have S4 := Lib.hid ((S1.out.add hBc hnc f4).names (B' := two bb bc) (M' := fun _ => b) (upd_two _ _) (fun j _ => by unfold upd; split <;> rfl))
  have Hx4 := Lib.hid f4.size
  clear hBc hnc f4 HC4
  have gq := S4.out.fr.get HGq.out (fun h => h)
  have q0 := (cell_of gq 0).trans (show _ = some (Value.int .i64 q.kind) from rfl)
  have q1 := (cell_of gq 1).trans (show _ = some (Value.int .u32 (q.tag : Int)) from rfl)
  have q2 := (cell_of gq 2).trans (show _ = some (Value.int .u32 (q.id : Int)) from rfl)
  have q3 := (cell_of gq 3).trans (show _ = some (Value.int .i64 q.seat) from rfl)
  have q4 := (cell_of gq 4).trans (show _ = some (Value.int .i64 q.ttl) from rfl)
  clear gq
  obtain ⟨d, hd⟩ : ∃ d, d = decD b room q := ⟨_, rfl⟩
  obtain ⟨pp5, hB5, -, hS5, -⟩ := S4.out.at_ (i := 0) (by omega)
  have HC5 := Lib.hid (decide_ok (b := b) (bb := bb) hB5 q room Hid.out)
  have HC6 := Lib.hid (fun (V : World) (k : Keep N V) => rdec_ok (HN.out V k) HOk.out.toRaw q room)
  have HS5 := Lib.hid hS5
  rw [← hd] at HC5 HC6
  obtain ⟨r, x, ys, er⟩ := d
  have HD := Lib.hid hd
  clear hB5 hS5 hd
  go_wp2_with fail
  refine HC5.out.mono ?_
  rintro e y5 ⟨rfl, a5⟩
  have T5 := Lib.hid (HS5.out y5 a5)
  have Hy5 := Lib.hid (show x4.heap.size ≤ y5.heap.size from a5.choose_spec.2.1.size)
  clear a5 q0 q1 q2 q3 q4
  go_upto_region 6 with fail
  obtain ⟨U5, hU5⟩ : ∃ V, V = y5.alloc (.cells #[.int .i64 r.kind, .int .u32 (r.id : Int), .int .i64 r.seat, .int .i64 r.till, .int .i64 r.clock] 46) := ⟨_, rfl⟩
  obtain ⟨e5, he5⟩ : ∃ c, c = y5.heap.size := ⟨_, rfl⟩
  obtain ⟨V5, hV5⟩ : ∃ V, V = U5.alloc (.cells #[.int .u32 (x.tag : Int), .int .i64 x.kind, .int .i64 x.err, .int .u32 (x.id : Int), .int .i64 x.seat, .int .i64 x.till, .int .i64 x.count] 71) := ⟨_, rfl⟩
  have s5 : U5.heap.size = e5 + 1 := by rw [hU5, he5]; simp
  have X5 := Lib.hid ((T5.out.alloc #[.int .i64 r.kind, .int .u32 (r.id : Int), .int .i64 r.seat, .int .i64 r.till, .int .i64 r.clock] 46).alloc #[.int .u32 (x.tag : Int), .int .i64 x.kind, .int .i64 x.err, .int .u32 (x.id : Int), .int .i64 x.seat, .int .i64 x.till, .int .i64 x.count] 71)
  rw [← hU5, ← hV5, ← he5, s5] at X5
  have Hv5 := Lib.hid (show x1.heap.size ≤ e5 ∧ V5.heap.size = e5 + 2 from ⟨by have := Hx4.out; have := Hy5.out; omega, by rw [hV5]; simp [s5]⟩)
  rw [← hU5, ← hV5, ← he5]
  try rw [s5]
  clear hU5 hV5 he5 s5
  have gq := X5.out.fr.get HGq.out (fun h => h)
  have q0 := (cell_of gq 0).trans (show _ = some (Value.int .i64 q.kind) from rfl)
  have q1 := (cell_of gq 1).trans (show _ = some (Value.int .u32 (q.tag : Int)) from rfl)
  have q2 := (cell_of gq 2).trans (show _ = some (Value.int .u32 (q.id : Int)) from rfl)
  have q3 := (cell_of gq 3).trans (show _ = some (Value.int .i64 q.seat) from rfl)
  have q4 := (cell_of gq 4).trans (show _ = some (Value.int .i64 q.ttl) from rfl)
  clear gq
  go_wp2_with fail
  refine (HC6.out V5 (X5.out.keeps.sub (fun x hx => (List.mem_cons_of_mem _ (List.mem_cons_of_mem _ hx))))).mono ?_
  rintro e y6 ⟨rfl, f6⟩
  have T6 := Lib.hid (X5.out.quiet f6)
  have Hy6 := Lib.hid f6.size
  clear f6 q0 q1 q2 q3 q4
  go_upto_region 7 with fail
  obtain ⟨U6, hU6⟩ : ∃ V, V = y6.alloc (.cells #[.int .i64 r.kind, .int .u32 (r.id : Int), .int .i64 r.seat, .int .i64 r.till, .int .i64 r.clock] 46) := ⟨_, rfl⟩
  obtain ⟨e6, he6⟩ : ∃ c, c = y6.heap.size := ⟨_, rfl⟩
  obtain ⟨V6, hV6⟩ : ∃ V, V = U6.alloc (.cells #[.int .u32 (x.tag : Int), .int .i64 x.kind, .int .i64 x.err, .int .u32 (x.id : Int), .int .i64 x.seat, .int .i64 x.till, .int .i64 x.count] 71) := ⟨_, rfl⟩
  have s6 : U6.heap.size = e6 + 1 := by rw [hU6, he6]; simp
  have X6 := Lib.hid ((T6.out.alloc #[.int .i64 r.kind, .int .u32 (r.id : Int), .int .i64 r.seat, .int .i64 r.till, .int .i64 r.clock] 46).alloc #[.int .u32 (x.tag : Int), .int .i64 x.kind, .int .i64 x.err, .int .u32 (x.id : Int), .int .i64 x.seat, .int .i64 x.till, .int .i64 x.count] 71)
  rw [← hU6, ← hV6, ← he6, s6] at X6
  have Hv6 := Lib.hid (show e5 + 2 ≤ e6 by have := Hy6.out; have := Hv5.out.2; omega)
  rw [← hU6, ← hV6, ← he6]
  try rw [s6]
  clear hU6 hV6 he6 s6
  have gl := X6.out.get (a := e6) (o := .cells #[.int .i64 r.kind, .int .u32 (r.id : Int), .int .i64 r.seat, .int .i64 r.till, .int .i64 r.clock] 46 (0, 0)) (List.mem_cons_of_mem _ List.mem_cons_self)
  have go := X6.out.get (a := e6 + 1) (o := .cells #[.int .u32 (x.tag : Int), .int .i64 x.kind, .int .i64 x.err, .int .u32 (x.id : Int), .int .i64 x.seat, .int .i64 x.till, .int .i64 x.count] 71 (0, 0)) List.mem_cons_self
  have gj := X6.out.get (a := e5) (o := .cells #[.int .i64 r.kind, .int .u32 (r.id : Int), .int .i64 r.seat, .int .i64 r.till, .int .i64 r.clock] 46 (0, 0)) (List.mem_cons_of_mem _ (List.mem_cons_of_mem _ (List.mem_cons_of_mem _ List.mem_cons_self)))
  have gm := X6.out.get (a := e5 + 1) (o := .cells #[.int .u32 (x.tag : Int), .int .i64 x.kind, .int .i64 x.err, .int .u32 (x.id : Int), .int .i64 x.seat, .int .i64 x.till, .int .i64 x.count] 71 (0, 0)) (List.mem_cons_of_mem _ (List.mem_cons_of_mem _ List.mem_cons_self))
  have l0 := (cell_of gl 0).trans (show _ = some (Value.int .i64 r.kind) from rfl)
  have l1 := (cell_of gl 1).trans (show _ = some (Value.int .u32 (r.id : Int)) from rfl)
  have l2 := (cell_of gl 2).trans (show _ = some (Value.int .i64 r.seat) from rfl)
  have l3 := (cell_of gl 3).trans (show _ = some (Value.int .i64 r.till) from rfl)
  have l4 := (cell_of gl 4).trans (show _ = some (Value.int .i64 r.clock) from rfl)
  have o0 := (cell_of go 0).trans (show _ = some (Value.int .u32 (x.tag : Int)) from rfl)
  have o1 := (cell_of go 1).trans (show _ = some (Value.int .i64 x.kind) from rfl)
  have o2 := (cell_of go 2).trans (show _ = some (Value.int .i64 x.err) from rfl)
  have o3 := (cell_of go 3).trans (show _ = some (Value.int .u32 (x.id : Int)) from rfl)
  have o4 := (cell_of go 4).trans (show _ = some (Value.int .i64 x.seat) from rfl)
  have o5 := (cell_of go 5).trans (show _ = some (Value.int .i64 x.till) from rfl)
  have o6 := (cell_of go 6).trans (show _ = some (Value.int .i64 x.count) from rfl)
  have j0 := (cell_of gj 0).trans (show _ = some (Value.int .i64 r.kind) from rfl)
  have j1 := (cell_of gj 1).trans (show _ = some (Value.int .u32 (r.id : Int)) from rfl)
  have j2 := (cell_of gj 2).trans (show _ = some (Value.int .i64 r.seat) from rfl)
  have j3 := (cell_of gj 3).trans (show _ = some (Value.int .i64 r.till) from rfl)
  have j4 := (cell_of gj 4).trans (show _ = some (Value.int .i64 r.clock) from rfl)
  have m0 := (cell_of gm 0).trans (show _ = some (Value.int .u32 (x.tag : Int)) from rfl)
  have m1 := (cell_of gm 1).trans (show _ = some (Value.int .i64 x.kind) from rfl)
  have m2 := (cell_of gm 2).trans (show _ = some (Value.int .i64 x.err) from rfl)
  have m3 := (cell_of gm 3).trans (show _ = some (Value.int .u32 (x.id : Int)) from rfl)
  have m4 := (cell_of gm 4).trans (show _ = some (Value.int .i64 x.seat) from rfl)
  have m5 := (cell_of gm 5).trans (show _ = some (Value.int .i64 x.till) from rfl)
  have m6 := (cell_of gm 6).trans (show _ = some (Value.int .i64 x.count) from rfl)
  clear gl go gj gm
  have E1 : ∀ V : World, (binOp .neq 46 (.agg #[.int .i64 r.kind, .int .u32 (r.id : Int), .int .i64 r.seat, .int .i64 r.till, .int .i64 r.clock]) (.agg #[.int .i64 r.kind, .int .u32 (r.id : Int), .int .i64 r.seat, .int .i64 r.till, .int .i64 r.clock])).run Tryz.prog V = .ok (.bool false) V := fun V => neqRc V r
  have E2 : ∀ V : World, (binOp .neq 71 (.agg #[.int .u32 (x.tag : Int), .int .i64 x.kind, .int .i64 x.err, .int .u32 (x.id : Int), .int .i64 x.seat, .int .i64 x.till, .int .i64 x.count]) (.agg #[.int .u32 (x.tag : Int), .int .i64 x.kind, .int .i64 x.err, .int .u32 (x.id : Int), .int .i64 x.seat, .int .i64 x.till, .int .i64 x.count])).run Tryz.prog V = .ok (.bool false) V := fun V => neqRp V x
  have b1 : (ys != ys) = false := by simp
  have b2 : ((er : Int) != (er : Int)) = false := by simp
  obtain ⟨pa, hBa, -, -, -⟩ := X6.out.at_ (i := 0) (by omega)
  obtain ⟨pb, hBb, -, -, -⟩ := X6.out.at_ (i := 1) (by omega)
  have hsm := bsame_ok (A := b) (C := b) (bb := bb) (cc := bc) hBa hBb
  rw [sameK_self] at hsm
  have HSm := Lib.hid hsm
  clear hBa hBb hsm
  go_wp2_with fail
  refine HSm.out.mono ?_
  rintro e y7 ⟨rfl, f7⟩
  have S7 := Lib.hid (X6.out.quiet f7)
  clear f7 E1 E2 b1 b2 HSm l0 j0 l1 j1 l2 j2 l3 j3 l4 j4 o0 m0 o1 m1 o2 m2 o3 m3 o4 m4 o5 m5 o6 m6
  have gq := S7.out.fr.get HGq.out (fun h => h)
  have q0 := (cell_of gq 0).trans (show _ = some (Value.int .i64 q.kind) from rfl)
  have q1 := (cell_of gq 1).trans (show _ = some (Value.int .u32 (q.tag : Int)) from rfl)
  have q2 := (cell_of gq 2).trans (show _ = some (Value.int .u32 (q.id : Int)) from rfl)
  have q3 := (cell_of gq 3).trans (show _ = some (Value.int .i64 q.seat) from rfl)
  have q4 := (cell_of gq 4).trans (show _ = some (Value.int .i64 q.ttl) from rfl)
  clear gq
  obtain ⟨a, ha⟩ : ∃ a, a = ansD b q := ⟨_, rfl⟩
  obtain ⟨pp9, hB9, -, hS9, -⟩ := S7.out.at_ (i := 0) (by omega)
  have HC9 := Lib.hid (answer_ok (b := b) (bb := bb) hB9 q Hid.out)
  have HC10 := Lib.hid (fun (V : World) (k : Keep N V) => rans_ok (HN.out V k) HOk.out.toRaw q)
  have HS9 := Lib.hid hS9
  rw [← ha] at HC9 HC10
  obtain ⟨ax, ae⟩ := a
  have HA := Lib.hid ha
  clear hB9 hS9 ha
  go_upto_region 9 with fail
  go_wp2_with fail
  refine HC9.out.mono ?_
  rintro e y9 ⟨rfl, a9⟩
  have T9 := Lib.hid (HS9.out y9 a9)
  clear a9 q0 q1 q2 q3 q4
  have gm := T9.out.get (a := e5 + 1) (o := .cells #[.int .u32 (x.tag : Int), .int .i64 x.kind, .int .i64 x.err, .int .u32 (x.id : Int), .int .i64 x.seat, .int .i64 x.till, .int .i64 x.count] 71 (0, 0)) (List.mem_cons_of_mem _ (List.mem_cons_of_mem _ List.mem_cons_self))
  have m0 := (cell_of gm 0).trans (show _ = some (Value.int .u32 (x.tag : Int)) from rfl)
  have n0 := free_of gm 0
  have m1 := (cell_of gm 1).trans (show _ = some (Value.int .i64 x.kind) from rfl)
  have n1 := free_of gm 1
  have m2 := (cell_of gm 2).trans (show _ = some (Value.int .i64 x.err) from rfl)
  have n2 := free_of gm 2
  have m3 := (cell_of gm 3).trans (show _ = some (Value.int .u32 (x.id : Int)) from rfl)
  have n3 := free_of gm 3
  have m4 := (cell_of gm 4).trans (show _ = some (Value.int .i64 x.seat) from rfl)
  have n4 := free_of gm 4
  have m5 := (cell_of gm 5).trans (show _ = some (Value.int .i64 x.till) from rfl)
  have n5 := free_of gm 5
  have m6 := (cell_of gm 6).trans (show _ = some (Value.int .i64 x.count) from rfl)
  have n6 := free_of gm 6
  have hp := repW_at (w := y9) (z := e5 + 1) (x := x) gm (ax.tag : Int) ax.kind ax.err (ax.id : Int) ax.seat ax.till ax.count
  have S9 := Lib.hid (T9.out.put (a := e5 + 1) (o := .cells #[.int .u32 (x.tag : Int), .int .i64 x.kind, .int .i64 x.err, .int .u32 (x.id : Int), .int .i64 x.seat, .int .i64 x.till, .int .i64 x.count] 71 (0, 0)) (repW_fr y9 (e5 + 1) (ax.tag : Int) ax.kind ax.err (ax.id : Int) ax.seat ax.till ax.count) (List.mem_cons_of_mem _ (List.mem_cons_of_mem _ List.mem_cons_self)) (by have := Hv5.out.1; have := S1.out.fr.size; omega) hp (L' := (e6 + 1, .cells #[.int .u32 (x.tag : Int), .int .i64 x.kind, .int .i64 x.err, .int .u32 (x.id : Int), .int .i64 x.seat, .int .i64 x.till, .int .i64 x.count] 71 (0, 0)) :: N) (fun x hx => by
    rcases List.mem_cons.1 hx with rfl | hx
    · exact ⟨List.mem_cons_self, by have := Hv6.out; simp; omega⟩
    · exact ⟨(List.mem_cons_of_mem _ (List.mem_cons_of_mem _ (List.mem_cons_of_mem _ (List.mem_cons_of_mem _ hx)))), by have := HNl.out x hx; have := Hv5.out.1; omega⟩))
  obtain ⟨V9, hV9⟩ : ∃ V, V = repW y9 (e5 + 1) (ax.tag : Int) ax.kind ax.err (ax.id : Int) ax.seat ax.till ax.count := ⟨_, rfl⟩
  rw [← hV9] at S9
  have HV9 := Lib.hid (show V9 = ((((((y9.setCell ⟨e5 + 1, 0, none⟩ (.int .u32 (ax.tag : Int))).setCell ⟨e5 + 1, 1, none⟩ (.int .i64 ax.kind)).setCell ⟨e5 + 1, 2, none⟩ (.int .i64 ax.err)).setCell ⟨e5 + 1, 3, none⟩ (.int .u32 (ax.id : Int))).setCell ⟨e5 + 1, 4, none⟩ (.int .i64 ax.seat)).setCell ⟨e5 + 1, 5, none⟩ (.int .i64 ax.till)).setCell ⟨e5 + 1, 6, none⟩ (.int .i64 ax.count) from hV9)
  clear hp gm hV9
  go_upto_region 10 with fail
  rw [← HV9.out]
  clear m0 m1 m2 m3 m4 m5 m6 n0 n1 n2 n3 n4 n5 n6
  have gq := S9.out.fr.get HGq.out (fun h => h)
  have q0 := (cell_of gq 0).trans (show _ = some (Value.int .i64 q.kind) from rfl)
  have q1 := (cell_of gq 1).trans (show _ = some (Value.int .u32 (q.tag : Int)) from rfl)
  have q2 := (cell_of gq 2).trans (show _ = some (Value.int .u32 (q.id : Int)) from rfl)
  have q3 := (cell_of gq 3).trans (show _ = some (Value.int .i64 q.seat) from rfl)
  have q4 := (cell_of gq 4).trans (show _ = some (Value.int .i64 q.ttl) from rfl)
  clear gq
  go_wp2_with fail
  refine (HC10.out V9 (S9.out.keeps.sub (fun x hx => (List.mem_cons_of_mem _ (List.mem_cons_of_mem _ hx))))).mono ?_
  rintro e y10 ⟨rfl, f10⟩
  have T10 := Lib.hid (S9.out.quiet f10)
  clear f10 q0 q1 q2 q3 q4
  have go := T10.out.get (a := e6 + 1) (o := .cells #[.int .u32 (x.tag : Int), .int .i64 x.kind, .int .i64 x.err, .int .u32 (x.id : Int), .int .i64 x.seat, .int .i64 x.till, .int .i64 x.count] 71 (0, 0)) (List.mem_cons_of_mem _ List.mem_cons_self)
  have m0 := (cell_of go 0).trans (show _ = some (Value.int .u32 (x.tag : Int)) from rfl)
  have n0 := free_of go 0
  have m1 := (cell_of go 1).trans (show _ = some (Value.int .i64 x.kind) from rfl)
  have n1 := free_of go 1
  have m2 := (cell_of go 2).trans (show _ = some (Value.int .i64 x.err) from rfl)
  have n2 := free_of go 2
  have m3 := (cell_of go 3).trans (show _ = some (Value.int .u32 (x.id : Int)) from rfl)
  have n3 := free_of go 3
  have m4 := (cell_of go 4).trans (show _ = some (Value.int .i64 x.seat) from rfl)
  have n4 := free_of go 4
  have m5 := (cell_of go 5).trans (show _ = some (Value.int .i64 x.till) from rfl)
  have n5 := free_of go 5
  have m6 := (cell_of go 6).trans (show _ = some (Value.int .i64 x.count) from rfl)
  have n6 := free_of go 6
  have hp := repW_at (w := y10) (z := e6 + 1) (x := x) go (ax.tag : Int) ax.kind ax.err (ax.id : Int) ax.seat ax.till ax.count
  have S10 := Lib.hid (T10.out.put (a := e6 + 1) (o := .cells #[.int .u32 (x.tag : Int), .int .i64 x.kind, .int .i64 x.err, .int .u32 (x.id : Int), .int .i64 x.seat, .int .i64 x.till, .int .i64 x.count] 71 (0, 0)) (repW_fr y10 (e6 + 1) (ax.tag : Int) ax.kind ax.err (ax.id : Int) ax.seat ax.till ax.count) (List.mem_cons_of_mem _ List.mem_cons_self) (by have := Hv5.out.1; have := Hv6.out; have := S1.out.fr.size; omega) hp (L' := [(e5 + 1, .cells #[.int .u32 (ax.tag : Int), .int .i64 ax.kind, .int .i64 ax.err, .int .u32 (ax.id : Int), .int .i64 ax.seat, .int .i64 ax.till, .int .i64 ax.count] 71 (0, 0))]) (fun x hx => by
    obtain rfl : x = _ := by simpa using hx
    exact ⟨List.mem_cons_self, by have := Hv6.out; simp; omega⟩))
  obtain ⟨V10, hV10⟩ : ∃ V, V = repW y10 (e6 + 1) (ax.tag : Int) ax.kind ax.err (ax.id : Int) ax.seat ax.till ax.count := ⟨_, rfl⟩
  rw [← hV10] at S10
  have HV10 := Lib.hid (show V10 = ((((((y10.setCell ⟨e6 + 1, 0, none⟩ (.int .u32 (ax.tag : Int))).setCell ⟨e6 + 1, 1, none⟩ (.int .i64 ax.kind)).setCell ⟨e6 + 1, 2, none⟩ (.int .i64 ax.err)).setCell ⟨e6 + 1, 3, none⟩ (.int .u32 (ax.id : Int))).setCell ⟨e6 + 1, 4, none⟩ (.int .i64 ax.seat)).setCell ⟨e6 + 1, 5, none⟩ (.int .i64 ax.till)).setCell ⟨e6 + 1, 6, none⟩ (.int .i64 ax.count) from hV10)
  clear hp go hV10
  go_upto_region 11 with fail
  rw [← HV10.out]
  clear m0 m1 m2 m3 m4 m5 m6 n0 n1 n2 n3 n4 n5 n6
  have go := S10.out.get (a := e6 + 1) (o := .cells #[.int .u32 (ax.tag : Int), .int .i64 ax.kind, .int .i64 ax.err, .int .u32 (ax.id : Int), .int .i64 ax.seat, .int .i64 ax.till, .int .i64 ax.count] 71 (0, 0)) List.mem_cons_self
  have gm := S10.out.get (a := e5 + 1) (o := .cells #[.int .u32 (ax.tag : Int), .int .i64 ax.kind, .int .i64 ax.err, .int .u32 (ax.id : Int), .int .i64 ax.seat, .int .i64 ax.till, .int .i64 ax.count] 71 (0, 0)) (List.mem_cons_of_mem _ List.mem_cons_self)
  have o0 := (cell_of go 0).trans (show _ = some (Value.int .u32 (ax.tag : Int)) from rfl)
  have o1 := (cell_of go 1).trans (show _ = some (Value.int .i64 ax.kind) from rfl)
  have o2 := (cell_of go 2).trans (show _ = some (Value.int .i64 ax.err) from rfl)
  have o3 := (cell_of go 3).trans (show _ = some (Value.int .u32 (ax.id : Int)) from rfl)
  have o4 := (cell_of go 4).trans (show _ = some (Value.int .i64 ax.seat) from rfl)
  have o5 := (cell_of go 5).trans (show _ = some (Value.int .i64 ax.till) from rfl)
  have o6 := (cell_of go 6).trans (show _ = some (Value.int .i64 ax.count) from rfl)
  have m0 := (cell_of gm 0).trans (show _ = some (Value.int .u32 (ax.tag : Int)) from rfl)
  have m1 := (cell_of gm 1).trans (show _ = some (Value.int .i64 ax.kind) from rfl)
  have m2 := (cell_of gm 2).trans (show _ = some (Value.int .i64 ax.err) from rfl)
  have m3 := (cell_of gm 3).trans (show _ = some (Value.int .u32 (ax.id : Int)) from rfl)
  have m4 := (cell_of gm 4).trans (show _ = some (Value.int .i64 ax.seat) from rfl)
  have m5 := (cell_of gm 5).trans (show _ = some (Value.int .i64 ax.till) from rfl)
  have m6 := (cell_of gm 6).trans (show _ = some (Value.int .i64 ax.count) from rfl)
  clear go gm
  have E2 : ∀ V : World, (binOp .eql 71 (.agg #[.int .u32 (ax.tag : Int), .int .i64 ax.kind, .int .i64 ax.err, .int .u32 (ax.id : Int), .int .i64 ax.seat, .int .i64 ax.till, .int .i64 ax.count]) (.agg #[.int .u32 (ax.tag : Int), .int .i64 ax.kind, .int .i64 ax.err, .int .u32 (ax.id : Int), .int .i64 ax.seat, .int .i64 ax.till, .int .i64 ax.count])).run Tryz.prog V = .ok (.bool true) V := fun V => eqlRp V ax
  have b2 : ((ae : Int) == (ae : Int)) = true := by simp
  obtain ⟨pa, hBa, -, -, -⟩ := S10.out.at_ (i := 0) (by omega)
  obtain ⟨pb, hBb, -, -, -⟩ := S10.out.at_ (i := 1) (by omega)
  have hsm := bsame_ok (A := b) (C := b) (bb := bb) (cc := bc) hBa hBb
  rw [sameK_self] at hsm
  have HSm := Lib.hid hsm
  clear hBa hBb hsm
  go_wp2_with fail
  refine HSm.out.mono ?_
  rintro e y11 ⟨rfl, f11⟩
  have S11 := Lib.hid (S10.out.quiet f11)
  clear f11
  go_wp2_with fail
  refine (awake_ok _).mono ?_
  rintro e y12 ⟨rfl, f12⟩
  have F12 := Lib.hid (F0.out.trans (S11.out.fr.trans f12 (fun _ _ h => h)) (fun _ _ h => h))
  clear f12
  go_wp2_with fail
  go_ret
  exact ⟨rfl, F12.out⟩
end Go.Proofs.YtffnjnnmlfgngaaGreat.Cs
namespace Go.Proofs.YtffnjnnmlfgngaaGreat.Cs
open Go.RowKit Go.Shelf Go.Proofs.YtffnjnnmlfgngaaGreat.Bk
attribute [local go_sem] Oper.semAt_some
set_option maxRecDepth 100000 in
set_option maxHeartbeats 8000000 in
theorem asks_walk {w : World} {sh : Int} (hsh : I64 sh) {v : Value} {K : Nat → Nat → Int} {n : Nat} (hK : KindsAt w v 4 kI K n) (nx : Nat) (hnx : nx < 4294967296) (cl : Int) (room : Int) (a : Askd) (ha : AskOk a) :
    Calls Tryz.prog 6 #[flV sh v nx cl, .int .i64 room, akV a] w fun e w' => e = .returned (.bool true) ∧ Fr (fun _ => False) w w' := by
  obtain ⟨la, lc, rfl, hlc, -⟩ := id hK
  obtain ⟨W1, hW1⟩ : ∃ W, W = w.alloc (.cells #[.int .i64 sh, .slice la n lc, .int .u32 (nx : Int), .int .i64 cl] 61) := ⟨_, rfl⟩
  obtain ⟨W, hW⟩ : ∃ W, W = W1.alloc (.cells #[.int .i64 a.kind, .int .i64 a.id, .int .i64 a.seat, .int .i64 a.ttl, .int .u32 (a.tag : Int)] 84) := ⟨_, rfl⟩
  obtain ⟨z, hz⟩ : ∃ z, z = w.heap.size := ⟨_, rfl⟩
  have s1 : W1.heap.size = z + 1 := by rw [hW1, hz]; simp
  have a1 : Fr (fun _ => False) w W1 := by rw [hW1]; exact Fr.alloc (Fr.refl _ _) _
  have a2 : Fr (fun _ => False) W1 W := by rw [hW]; exact Fr.alloc (Fr.refl _ _) _
  have f0 : Fr (fun _ => False) w W := a1.trans a2 (fun _ _ h => h)
  have hg : W.heap[z]? = some (.cells #[.int .i64 sh, .slice la n lc, .int .u32 (nx : Int), .int .i64 cl] 61 (0, 0)) := a2.get (show W1.heap[z]? = _ by rw [hW1, hz]; exact heap_alloc_at _ _) (fun h => h)
  have hg1 : W.heap[z + 1]? = some (.cells #[.int .i64 a.kind, .int .i64 a.id, .int .i64 a.seat, .int .i64 a.ttl, .int .u32 (a.tag : Int)] 84 (0, 0)) := show W.heap[z + 1]? = _ by rw [hW, ← s1]; exact heap_alloc_at _ _
  have HDec := Lib.hid (fun (V : World) (f : Fr (fun _ => False) w V) (q : Rq) (hid : q.id < 4294967296) => decides_walk hsh (hK.fr f (fun _ _ h => h) (by omega)) nx hnx cl room q hid)
  have HReq := Lib.hid (fun (V : World) (k : Int) (hk : 0 ≤ k ∧ k < 10) => request_ok ⟨k, a.id, a.seat, a.ttl, a.tag⟩ ⟨⟨by show -9223372036854775808 ≤ k; omega, by show k ≤ 9223372036854775807; omega⟩, ha.i, ha.s, ha.t, ha.g⟩ V)
  have HG := Lib.hid hg; have HG1 := Lib.hid hg1; have F0 := Lib.hid f0; have HW1 := Lib.hid hW1; have HW := Lib.hid hW; have Hz := Lib.hid hz; have Hs1 := Lib.hid s1
  clear hsh hK hnx f0 hg hg1 a1 a2 s1 hW1 hW hz hlc ha
  go_enter Tryz.func6, Tryz.ntmps6
  go_upto_region 1 with fail
  rw [← HW1.out, ← HW.out, ← Hz.out]
  try rw [Hs1.out]
  go_wp2_with fail
  go_loopw [7] (fun s7 wr => ∃ i : Nat, s7 = .int .i64 (i : Int) ∧ i ≤ 10 ∧ (∃ k : Int, wr.heap[z + 1]? = some (.cells #[.int .i64 k, .int .i64 a.id, .int .i64 a.seat, .int .i64 a.ttl, .int .u32 (a.tag : Int)] 84 (0, 0))) ∧ Fr (fun y => y = z + 1) W wr) (fun s7 _ => 10 - (intOf s7).toNat)
  case atStart => exact ⟨0, rfl, Nat.zero_le _, ⟨_, HG1.out⟩, Fr.refl _ _⟩
  case round =>
    obtain ⟨i, rfl, hi, ⟨k, hk⟩, hfr⟩ := hrel
    have HFr := Lib.hid hfr
    by_cases hlt : i < 10
    · have hlt' : (i : Int) < 10 := by omega
      have g0 := (cell_of hk 0).trans (show _ = some (Value.int .i64 k) from rfl)
      have y0 := free_of hk 0
      have g1 := (cell_of hk 1).trans (show _ = some (Value.int .i64 a.id) from rfl)
      have y1 := free_of hk 1
      have g2 := (cell_of hk 2).trans (show _ = some (Value.int .i64 a.seat) from rfl)
      have y2 := free_of hk 2
      have g3 := (cell_of hk 3).trans (show _ = some (Value.int .i64 a.ttl) from rfl)
      have y3 := free_of hk 3
      have g4 := (cell_of hk 4).trans (show _ = some (Value.int .u32 (a.tag : Int)) from rfl)
      have y4 := free_of hk 4
      have hX := setCell_blk (o := 0) hk (.int .i64 (i : Int))
      have hX2 : (wr.setCell ⟨z + 1, 0, none⟩ (.int .i64 (i : Int))).heap[z + 1]? = some (.cells #[.int .i64 (i : Int), .int .i64 a.id, .int .i64 a.seat, .int .i64 a.ttl, .int .u32 (a.tag : Int)] 84 (0, 0)) := hX
      have fX : Fr (fun y => y = z + 1) W (wr.setCell ⟨z + 1, 0, none⟩ (.int .i64 (i : Int))) := Fr.setCell (p := ⟨z + 1, 0, none⟩) hfr (fun _ => rfl) _
      obtain ⟨X, hXw⟩ : ∃ X, X = wr.setCell ⟨z + 1, 0, none⟩ (.int .i64 (i : Int)) := ⟨_, rfl⟩
      rw [← hXw] at hX2 fX
      have hgX := fX.get HG.out (by omega)
      have HSS := Lib.hid (fun (V : World) (f : Fr (fun _ => False) X V) => (⟨f, (cell_of (f.get hgX (fun h => h)) 0).trans rfl, (cell_of (f.get hgX (fun h => h)) 1).trans rfl, (cell_of (f.get hgX (fun h => h)) 2).trans rfl, (cell_of (f.get hgX (fun h => h)) 3).trans rfl, (cell_of (f.get hX2 (fun h => h)) 0).trans rfl, (cell_of (f.get hX2 (fun h => h)) 1).trans rfl, (cell_of (f.get hX2 (fun h => h)) 2).trans rfl, (cell_of (f.get hX2 (fun h => h)) 3).trans rfl, (cell_of (f.get hX2 (fun h => h)) 4).trans rfl⟩ : Fr (fun _ => False) X V ∧ V.cell? ⟨z, 0, none⟩ = some (.int .i64 sh) ∧ V.cell? ⟨z, 1, none⟩ = some (.slice la n lc) ∧ V.cell? ⟨z, 2, none⟩ = some (.int .u32 (nx : Int)) ∧ V.cell? ⟨z, 3, none⟩ = some (.int .i64 cl) ∧ V.cell? ⟨z + 1, 0, none⟩ = some (.int .i64 (i : Int)) ∧ V.cell? ⟨z + 1, 1, none⟩ = some (.int .i64 a.id) ∧ V.cell? ⟨z + 1, 2, none⟩ = some (.int .i64 a.seat) ∧ V.cell? ⟨z + 1, 3, none⟩ = some (.int .i64 a.ttl) ∧ V.cell? ⟨z + 1, 4, none⟩ = some (.int .u32 (a.tag : Int))))
      have FX := Lib.hid (F0.out.trans fX (fun y hy e => by have := Hz.out; omega) : Fr (fun _ => False) w X)
      have HX2 := Lib.hid hX2; have FXW := Lib.hid fX; have HI := Lib.hid hlt
      obtain ⟨k1, hk1⟩ : ∃ k1, k1 = i + 1 := ⟨_, rfl⟩
      have e1 : (i : Int) + 1 = (k1 : Int) := by rw [hk1]; push_cast; rfl
      have HK1 := Lib.hid hk1
      have e2 : wrap64 (k1 : Int) = (k1 : Int) := by clear g0 y0 g1 y1 g2 y2 g3 y3 g4 y4; unfold wrap64; omega
      have e3 : IntKind.i64.wrap (k1 : Int) = (k1 : Int) := by clear g0 y0 g1 y1 g2 y2 g3 y3 g4 y4; rw [IntKind.wrap_i64]; omega
      clear hX hX2 fX hgX hfr hk hi hlt hk1
      go_upto_region 5 with fail
      rw [← hXw]
      clear hXw g0 y0 g1 y1 g2 y2 g3 y3 g4 y4
      refine wp_region_held_drew (S := fun w' => Fr (fun _ => False) X w' ∧ w'.cell? ⟨z, 0, none⟩ = some (.int .i64 sh) ∧ w'.cell? ⟨z, 1, none⟩ = some (.slice la n lc) ∧ w'.cell? ⟨z, 2, none⟩ = some (.int .u32 (nx : Int)) ∧ w'.cell? ⟨z, 3, none⟩ = some (.int .i64 cl) ∧ w'.cell? ⟨z + 1, 0, none⟩ = some (.int .i64 (i : Int)) ∧ w'.cell? ⟨z + 1, 1, none⟩ = some (.int .i64 a.id) ∧ w'.cell? ⟨z + 1, 2, none⟩ = some (.int .i64 a.seat) ∧ w'.cell? ⟨z + 1, 3, none⟩ = some (.int .i64 a.ttl) ∧ w'.cell? ⟨z + 1, 4, none⟩ = some (.int .u32 (a.tag : Int))) (by kernel_rfl) (by exact HSS.out _ (Fr.drew (Fr.refl _ _))) (fun hHeld => ?_)
      refine wpAnyH_take (i := 0) (v := ?_) rfl (by kernel_rfl) (by kernel_rfl) (by kernel_rfl) (fun _ _ _ h => h) (Or.inl ⟨by rfl, ?_⟩) (by assumption) ?_
      rotate_left
      · intro w' hSw; (try dsimp only at hSw); go_simp; try with_reducible rfl
      try simp only [Act.put, List.getElem_toArray, List.getElem_cons_zero, List.setIfInBounds_toArray, List.set_cons_zero, List.set_cons_succ]
      refine wpAnyH_take (i := 1) (v := ?_) rfl (by kernel_rfl) (by kernel_rfl) (by kernel_rfl) (fun _ _ _ h => h) (Or.inl ⟨by rfl, ?_⟩) (by assumption) ?_
      rotate_left
      · intro w' hSw; (try dsimp only at hSw); go_simp; try with_reducible rfl
      try simp only [Act.put, sL]
      refine wpAnyH_take (i := 2) (v := ?_) rfl (by kernel_rfl) (by kernel_rfl) (by kernel_rfl) (fun _ _ _ h => h) (Or.inl ⟨by rfl, ?_⟩) (by assumption) ?_
      rotate_left
      · intro w' hSw; (try dsimp only at hSw); go_simp; try with_reducible rfl
      try simp only [Act.put, sL]
      refine wpAnyH_ready (rs := [3]) (by kernel_rfl) (by simp) ?_
      refine AllReadyH.cons rfl (fun K hK => ?_) AllReadyH.nil
      go_simp
      refine (HReq.out _ (i : Int) ⟨by omega, by have := HI.out; omega⟩).mono ?_
      rintro e w3x ⟨q, rfl, hid, htg, f3x⟩
      try go_simp
      refine hK.out _ _ ?_ (fun hHeld => ?_)
      · (try dsimp only); exact HSS.out _ (hHeld.1.trans f3x (fun _ _ h => h.elim))
      clear hK K
      have F4x := Lib.hid hHeld.1; have HId := Lib.hid hid
      clear htg hid f3x
      try simp only [Act.put, sL]
      refine wpAnyH_ready (rs := [4]) (by kernel_rfl) (by simp) ?_
      refine AllReadyH.cons rfl (fun K hK => ?_) AllReadyH.nil
      go_simp
      refine (HDec.out _ (FX.out.trans F4x.out (fun _ _ h => h)) q HId.out).mono ?_
      rintro e w4x ⟨rfl, f4x⟩
      try go_simp
      refine hK.out _ _ ?_ (fun hHeld => ?_)
      · (try dsimp only); exact HSS.out _ (F4x.out.trans f4x (fun _ _ h => h.elim))
      clear hK K
      try simp only [Act.put, sL]
      refine wpAnyH_take (i := 5) (v := ?_) rfl (by kernel_rfl) (by kernel_rfl) (by kernel_rfl) (fun _ _ _ h => h) (Or.inl ⟨by rfl, ?_⟩) (by assumption) ?_
      rotate_left
      · intro w' hSw; (try dsimp only at hSw); go_simp; try with_reducible rfl
      try simp only [Act.put, sL]
      refine wpAnyH_done (by kernel_rfl) ?_ _
      have FE := Lib.hid (F4x.out.trans f4x (fun _ _ h => h))
      clear f4x
      go_wp2_with fail
      go_roundw
      case rel => exact ⟨k1, rfl, by have := HI.out; have := HK1.out; omega, ⟨(i : Int), FE.out.get HX2.out (fun h => h)⟩, FXW.out.trans FE.out (fun _ _ h => h.elim)⟩
      case measure => have := HI.out; have := HK1.out; simp [intOf]; omega
    · have hi10 : i = 10 := by omega
      have hlt' : ¬ (i : Int) < 10 := by omega
      clear hk hfr hi hlt
      go_wp2_with fail
      refine (awake_ok _).mono ?_
      rintro e x9 ⟨rfl, f9⟩
      have F9 := Lib.hid ((F0.out.trans HFr.out (fun y hy e => by have := Hz.out; omega) : Fr (fun _ => False) w wr).trans f9 (fun _ _ h => h))
      clear f9
      go_wp2_with fail
      go_ret
      exact ⟨rfl, F9.out⟩
end Go.Proofs.YtffnjnnmlfgngaaGreat.Cs
namespace Go.Proofs.YtffnjnnmlfgngaaGreat
open Go.ChangeShapes Go.WideShapes Go.ChangeAt Go.RowKit Go.Deep
section
variable {H : Type} {enc : TypeId × Value → H} {P : Program} {w : World} {base : Nat} {spare : Nat → Bool} {held : Bool}
/-- The kind of a type's j-th cell, when it is a number. -/
def kindAt (P : Program) : Nat → TypeId → Nat → Option IntKind
  | 0, _, _ => none
  | n + 1, t, j => match P.underlying t with
    | some (.int k) => if j = 0 then some k else none
    | some (.struct fs) => fs.toList.findSome? fun f => if f.offset ≤ j ∧ j < f.offset + P.cellsOf f.type then kindAt P n f.type (j - f.offset) else none
    | _ => none
theorem trod_kindAt : ∀ (n : Nat) {t : TypeId} {j : Nat} {k : IntKind} {fuel : Nat} {cs : List Value} {x : DataW H × List MemPlace}, kindAt P n t j = some k → DataW.trod enc P w base spare held fuel t cs = some x → ∃ v, cs[j]? = some (.int k v) ∧ (Lit.int k v).wf = true := by
  intro n
  induction n with
  | zero => intro t j k fuel cs x h; simp [kindAt] at h
  | succ n ih =>
    intro t j k fuel cs x h hf
    unfold kindAt at h
    split at h
    · rename_i k' hu
      split at h
      · rename_i hj
        subst hj
        obtain ⟨v, rfl, _, h3⟩ := DataW.trod_int hu hf
        obtain rfl : k' = k := Option.some.inj h
        exact ⟨v, rfl, h3⟩
      · cases h
    · rename_i fs hu
      obtain ⟨ys, n', _, _, hlen, hyl, hff⟩ := DataW.trod_struct hu hf
      obtain ⟨f, hfm, hfk⟩ := List.exists_of_findSome?_eq_some h
      split at hfk
      · rename_i hc
        obtain ⟨i, hi, rfl⟩ := List.getElem_of_mem hfm
        have hi' : i < fs.size := by simpa using hi
        have h1 := hff i _ (Array.getElem?_eq_getElem hi')
        have hys : ys[i]? = some (ys[i]'(by omega)) := List.getElem?_eq_getElem (by omega)
        obtain ⟨v, hv, hw⟩ := ih (by simpa using hfk) (h1.trans hys)
        refine ⟨v, ?_, hw⟩
        rw [List.getElem?_take, if_pos (by simp at hc; omega), List.getElem?_drop] at hv
        rw [← hv]
        simp at hc
        congr 1
        omega
      · cases hfk
    · cases h
theorem kindsAt_flat {m : Nat} {kd : Nat → IntKind} {t e : TypeId} {a0 : Option Addr} {len0 cap0 : Nat} {d : DataW H} {p : List MemPlace} (n : Nat) (ht : P.underlying t = some (.slice e))
    (hone : (List.range m).all (fun j => kindAt P n e j == some (kd j)) = true) (hC : P.cellsOf e = m) (h0 : 0 < m) (h : DataW.Trod enc P w base spare held t (.slice a0 len0 cap0) d p) :
    ∃ K, KindsAt w (.slice a0 len0 cap0) m kd K len0 := by
  obtain ⟨fuel, hf⟩ := h
  rcases open_slice ht hf with ⟨hcs, _⟩ | ⟨a, len, cap, q, n1, D, Pl, hcs, hb, hl, hm, hmm, hx, hi⟩
  · simp [Value.cells] at hcs
    obtain ⟨rfl, rfl, rfl⟩ := hcs
    exact ⟨fun _ _ => 0, none, 0, rfl, Nat.le_refl _, Nat.zero_le _, .inl rfl⟩
  · simp [Value.cells] at hcs
    obtain ⟨rfl, rfl, rfl⟩ := hcs
    have hlm : len0 ≤ q := by rw [hmm]; split <;> omega
    have cell : ∀ i j, i < len0 → j < m → ∃ x, w.cell? (a.add (i * m + j)) = some (.int (kd j) x) ∧ (Lit.int (kd j) x).wf = true := by
      intro i j hil hjl
      obtain ⟨cs', hc, ht'⟩ := hi i (by omega)
      rw [hC] at hc
      obtain ⟨_, hcl, hat⟩ := World.cells?_some hc
      have hk : kindAt P n e j = some (kd j) := by
        have := List.all_eq_true.1 hone j (List.mem_range.2 hjl)
        exact eq_of_beq this
      obtain ⟨x, hx1, hx3⟩ := trod_kindAt n hk ht'
      refine ⟨x, ?_, hx3⟩
      rw [← Go.Deep.add_add, hat j hjl, hx1]
    by_cases hz : len0 = 0
    · subst hz; exact ⟨fun _ _ => 0, some a, cap0, rfl, hl, hm, .inl rfl⟩
    · obtain ⟨b, o, sp⟩ := a
      have hsp : sp = none := by
        obtain ⟨x, hx1, _⟩ := cell 0 0 (by omega) h0
        simpa [Addr.add] using World.cell?_spot hx1
      subst hsp
      have cell' : ∀ i j, i < len0 → j < m → ∃ x, w.cell? ⟨b, o + i * m + j, none⟩ = some (.int (kd j) x) ∧ (Lit.int (kd j) x).wf = true := by
        intro i j hil hjl
        have e : (⟨b, o, none⟩ : Addr).add (i * m + j) = ⟨b, o + i * m + j, none⟩ := by
          unfold Addr.add
          split
          · first | (simp; done) | (simp; omega)
          · simp [Nat.add_assoc]
        rw [← e]
        exact cell i j hil hjl
      refine ⟨fun i j => if h : i < len0 ∧ j < m then (cell' i j h.1 h.2).choose else 0, some ⟨b, o, none⟩, cap0, rfl, hl, hm, .inr ⟨b, o, rfl, ?_⟩⟩
      intro i j hil hjl
      have hsp := (cell' i j hil hjl).choose_spec
      dsimp only
      rw [dif_pos ⟨hil, hjl⟩]
      exact hsp
end
end Go.Proofs.YtffnjnnmlfgngaaGreat
namespace Go.Proofs.YtffnjnnmlfgngaaGreat
open Go.ChangeShapes Go.WideShapes Go.ChangeAt Go.RowKit Go.Deep
section
variable {H : Type} {enc : TypeId × Value → H} {P : Program} {w : World} {base : Nat} {spare : Nat → Bool} {held : Bool}
/-- A struct of numbers, nested or not, by value. -/
theorem open_struct {m : Nat} {kd : Nat → IntKind} {t : TypeId} {fs : Array Field} {v : Value} {d : DataW H} {p : List MemPlace} (n : Nat) (ht : P.underlying t = some (.struct fs))
    (hone : (List.range m).all (fun j => kindAt P n t j == some (kd j)) = true) (hC : P.cellsOf t = m) (h0 : 2 ≤ m) (h : DataW.Trod enc P w base spare held t v d p) :
    ∃ K : Nat → Int, v = .agg ((List.range m).map fun j => Value.int (kd j) (K j)).toArray ∧ ∀ j, j < m → (Lit.int (kd j) (K j)).wf = true := by
  obtain ⟨fuel, hf⟩ := h
  obtain ⟨ys, n', _, _, hlen, _, _⟩ := DataW.trod_struct ht hf
  rw [hC] at hlen
  have key : ∀ j, j < m → ∃ x, v.cells.toList[j]? = some (.int (kd j) x) ∧ (Lit.int (kd j) x).wf = true := by
    intro j hj
    have hk : kindAt P n t j = some (kd j) := eq_of_beq (List.all_eq_true.1 hone j (List.mem_range.2 hj))
    exact trod_kindAt n hk hf
  refine ⟨fun j => if hj : j < m then (key j hj).choose else 0, ?_, fun j hj => by dsimp only; rw [dif_pos hj]; exact (key j hj).choose_spec.2⟩
  have hcs : v.cells.toList = (List.range m).map fun j => Value.int (kd j) (if hj : j < m then (key j hj).choose else 0) := by
    apply List.ext_getElem?
    intro j
    rw [List.getElem?_map]
    by_cases hj : j < m
    · rw [List.getElem?_range hj, (key j hj).choose_spec.1]
      simp only [Option.map_some]
      rw [dif_pos hj]
    · rw [List.getElem?_eq_none (by omega), List.getElem?_eq_none (by simp; omega)]; rfl
  cases v with
  | agg cs =>
    have : cs.toList = _ := hcs
    rw [← this]
  | _ => simp [Value.cells] at hlen; omega
end
end Go.Proofs.YtffnjnnmlfgngaaGreat
namespace Go.Proofs.YtffnjnnmlfgngaaGreat
open Go.Joins Go.ChangeShapes Go.WideShapes Go.ChangeAt Go.RowKit Go.Deep
section
variable {H : Type} {enc : TypeId × Value → H} {P : Program} {w : World} {base : Nat} {spare : Nat → Bool} {held : Bool}
theorem open_nsnn {r : Reach} {b0 : Nat} {t e : TypeId} {f0 f1 f2 f3 : Field} {v : Value} {d : DataW H} {p : List MemPlace} {m : Nat} {kd : Nat → IntKind} {ka kb kc : IntKind} (n : Nat) (hs : P.underlying t = some (.struct #[f0, f1, f2, f3])) (hone : oneCellFields P #[f0, f1, f2, f3] = true) (hC : P.cellsOf t = 4)
    (h0 : kindAt P n f0.type 0 = some ka) (h1 : P.underlying f1.type = some (.slice e)) (h1a : (List.range m).all (fun j => kindAt P n e j == some (kd j)) = true) (h1c : P.cellsOf e = m) (hm : 0 < m) (h2 : kindAt P n f2.type 0 = some kb) (h3 : kindAt P n f3.type 0 = some kc)
    (hv : Value.okWide P w r b0 t v) (h : DataW.Trod enc P w base spare held t v d p) :
    ∃ (x0 : Int) (vv : Value) (x2 x3 : Int) (K : Nat → Nat → Int) (l : Nat), v = .agg #[.int ka x0, vv, .int kb x2, .int kc x3] ∧ (Lit.int ka x0).wf = true ∧ KindsAt w vv m kd K l ∧ (Lit.int kb x2).wf = true ∧ (Lit.int kc x3).wf = true := by
  obtain ⟨v0, v1, v2, v3, y0, y1, y2, y3, fu, rfl, -, -, t0, t1, t2, t3⟩ := open_agg4 hs hone hC hv h
  obtain ⟨x0, e0, w0⟩ := trod_kindAt n h0 t0
  obtain ⟨x2, e2, w2⟩ := trod_kindAt n h2 t2
  obtain ⟨x3, e3, w3⟩ := trod_kindAt n h3 t3
  have q0 : v0 = .int ka x0 := by simpa using e0
  have q2 : v2 = .int kb x2 := by simpa using e2
  have q3 : v3 = .int kc x3 := by simpa using e3
  subst q0; subst q2; subst q3
  have key : ∃ a l c, v1 = .slice a l c := by
    rcases open_slice h1 t1 with ⟨hcs, _⟩ | ⟨a, len, cap, q, n1, D, Pl, hcs, _⟩
    · exact ⟨none, 0, 0, by simpa using hcs⟩
    · exact ⟨some a, len, cap, by simpa using hcs⟩
  obtain ⟨a, l, c, rfl⟩ := key
  obtain ⟨K, hK⟩ := kindsAt_flat (kd := kd) (m := m) n h1 h1a h1c hm (⟨fu, t1⟩ : DataW.Trod enc P w base spare held f1.type (.slice a l c) y1.1 y1.2)
  exact ⟨x0, _, x2, x3, K, l, rfl, w0, hK, w2, w3⟩
end
end Go.Proofs.YtffnjnnmlfgngaaGreat
namespace Go.Proofs.YtffnjnnmlfgngaaGreat.Cs
open Go.RowKit Go.Shelf Go.Proofs.YtffnjnnmlfgngaaGreat.Bk
def kAsk (j : Nat) : IntKind := if j = 4 then .u32 else .i64
def kReq (j : Nat) : IntKind := if j = 1 then .u32 else if j = 2 then .u32 else .i64
theorem asks_law (w : World) (sh : Int) (hsh : (Lit.int .i64 sh).wf = true) (v : Value) (K : Nat → Nat → Int) (n : Nat) (hK : KindsAt w v 4 kI K n) (nx : Int) (hnx : (Lit.int .u32 nx).wf = true) (cl : Int) (room : Int) (_ : (Lit.int .i64 room).wf = true)
    (M : Nat → Int) (hM : ∀ j, j < 5 → (Lit.int (kAsk j) (M j)).wf = true) :
    Calls Tryz.prog 6 #[.agg #[.int .i64 sh, v, .int .u32 nx, .int .i64 cl], .int .i64 room, .agg ((List.range 5).map fun j => Value.int (kAsk j) (M j)).toArray] w fun e w' => e = .returned (.bool true) ∧ Fr (fun _ => False) w w' := by
  have h2 := wf_u32 hnx; have m4 := wf_u32 (hM 4 (by omega))
  have e2 : ((List.range 5).map fun j => Value.int (kAsk j) (M j)).toArray = #[.int .i64 (M 0), .int .i64 (M 1), .int .i64 (M 2), .int .i64 (M 3), .int .u32 (M 4)] := rfl
  rw [e2]
  have := asks_walk (w := w) (wf_i64 hsh) hK nx.toNat (by omega) cl room ⟨M 0, M 1, M 2, M 3, (M 4).toNat⟩ ⟨wf_i64 (hM 0 (by omega)), wf_i64 (hM 1 (by omega)), wf_i64 (hM 2 (by omega)), wf_i64 (hM 3 (by omega)), by show (M 4).toNat < _; omega⟩
  change Calls _ _ #[.agg #[.int .i64 sh, v, .int .u32 (nx.toNat : Int), .int .i64 cl], .int .i64 room, .agg #[.int .i64 (M 0), .int .i64 (M 1), .int .i64 (M 2), .int .i64 (M 3), .int .u32 ((M 4).toNat : Int)]] w _ at this
  rw [Int.toNat_of_nonneg h2.1, Int.toNat_of_nonneg m4.1] at this
  exact this
theorem decides_law (w : World) (sh : Int) (hsh : (Lit.int .i64 sh).wf = true) (v : Value) (K : Nat → Nat → Int) (n : Nat) (hK : KindsAt w v 4 kI K n) (nx : Int) (hnx : (Lit.int .u32 nx).wf = true) (cl : Int) (room : Int) (_ : (Lit.int .i64 room).wf = true)
    (M : Nat → Int) (hM : ∀ j, j < 5 → (Lit.int (kReq j) (M j)).wf = true) :
    Calls Tryz.prog 5 #[.agg #[.int .i64 sh, v, .int .u32 nx, .int .i64 cl], .int .i64 room, .agg ((List.range 5).map fun j => Value.int (kReq j) (M j)).toArray] w fun e w' => e = .returned (.bool true) ∧ Fr (fun _ => False) w w' := by
  have h2 := wf_u32 hnx; have m1 := wf_u32 (hM 1 (by omega)); have m2 := wf_u32 (hM 2 (by omega))
  have e2 : ((List.range 5).map fun j => Value.int (kReq j) (M j)).toArray = #[.int .i64 (M 0), .int .u32 (M 1), .int .u32 (M 2), .int .i64 (M 3), .int .i64 (M 4)] := rfl
  rw [e2]
  have := decides_walk (w := w) (wf_i64 hsh) hK nx.toNat (by omega) cl room ⟨M 0, (M 1).toNat, (M 2).toNat, M 3, M 4⟩ (by show (M 2).toNat < _; omega)
  change Calls _ _ #[.agg #[.int .i64 sh, v, .int .u32 (nx.toNat : Int), .int .i64 cl], .int .i64 room, .agg #[.int .i64 (M 0), .int .u32 ((M 1).toNat : Int), .int .u32 ((M 2).toNat : Int), .int .i64 (M 3), .int .i64 (M 4)]] w _ at this
  rw [Int.toNat_of_nonneg h2.1, Int.toNat_of_nonneg m1.1, Int.toNat_of_nonneg m2.1] at this
  exact this
end Go.Proofs.YtffnjnnmlfgngaaGreat.Cs
