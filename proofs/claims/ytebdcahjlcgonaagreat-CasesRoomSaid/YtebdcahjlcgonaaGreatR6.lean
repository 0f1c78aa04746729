/- cases.Decide, cases.Answer of a book; some books at once. No condition. -/
import Derived.Test.YtebdcahjlcgonaaGreatM1
import Derived.Test.YtebdcahjlcgonaaGreatM2
import Derived.Test.YtebdcahjlcgonaaGreatM3
import Derived.Test.YtebdcahjlcgonaaGreatM4
import Derived.Test.YtebdcahjlcgonaaGreatM5
namespace Go.Proofs.YtebdcahjlcgonaaGreat
theorem sL {α : Type} : (∀ (a : α) (l : List α), (a :: l)[0]'(by simp) = a) ∧ (∀ (a : α) (l : List α) (i : Nat) (h : i + 1 < (a :: l).length), (a :: l)[i + 1] = l[i]'(by simpa using h)) ∧ (∀ (l : List α) (i : Nat) (h : i < l.toArray.size), l.toArray[i] = l[i]'(by simpa using h)) ∧ (∀ (l : List α) (i : Nat) (a : α), l.toArray.setIfInBounds i a = (l.set i a).toArray) ∧ (∀ (a b : α) (l : List α), (a :: l).set 0 b = b :: l) ∧ (∀ (a b : α) (l : List α) (i : Nat), (a :: l).set (i + 1) b = a :: l.set i b) :=
  ⟨fun _ _ => rfl, fun _ _ _ _ => rfl, fun _ _ _ => by simp, fun _ _ _ => by simp, fun _ _ _ => rfl, fun _ _ _ _ => rfl⟩
end Go.Proofs.YtebdcahjlcgonaaGreat
namespace Go.Proofs.YtebdcahjlcgonaaGreat.Cs
open Go.RowKit Go.Shelf Go.Proofs.YtebdcahjlcgonaaGreat.Bk
attribute [local go_sem] Oper.semAt_some
def AnsP (p : Pt) (bb : Nat) (b : Bk) (w : World) (d : Ans) (e : Ending) (w' : World) : Prop := e = .returned (ansV d) ∧ Aft p bb b w w'
set_option maxRecDepth 100000 in
set_option maxHeartbeats 4000000 in
theorem ans_bad {p : Pt} {bb : Nat} {b : Bk} {w : World} (h : BkP p bb b.next b b.L b.L w) (q : Rq) (hb : rqOk q = false) (hd : ansD b q = ⟨rp0, 200⟩) : Calls Tryz.prog 27 #[.pointer (some ⟨bb, 0, none⟩), rqV q] w (AnsP p bb b w (ansD b q)) := by
 rw [hd]
 clear hd
 obtain ⟨W1, hW1⟩ : ∃ W, W = w.alloc (rqC q) := ⟨_, rfl⟩
 obtain ⟨W, hW⟩ : ∃ W, W = W1.alloc (.cells #[.int .u32 0, .int .i64 0, .int .i64 0, .int .u32 0, .int .i64 0, .int .i64 0, .int .i64 0] 63) := ⟨_, rfl⟩
 obtain ⟨z, hz⟩ : ∃ z, z = w.heap.size := ⟨_, rfl⟩
 have s1 : W1.heap.size = z + 1 := by rw [hW1, hz]; simp
 have s3 : W.heap.size = z + 2 := by rw [hW]; simp [s1]
 have a1 : Fr (fun _ => False) w W1 := by rw [hW1]; exact Fr.alloc (Fr.refl _ _) _
 have a3 : Fr (fun _ => False) W1 W := by rw [hW]; exact Fr.alloc (Fr.refl _ _) _
 have f0 : Fr (fun _ => False) w W := a1.trans a3 (fun _ _ h => h)
 have hg : W.heap[z]? = some (rqO q) := a3.get (show W1.heap[z]? = _ by rw [hW1, hz]; exact heap_alloc_at _ _) (fun h => h)
 have hg2 : W.heap[z + 1]? = some (rpO rp0) := show W.heap[z + 1]? = _ by rw [hW, ← s1]; exact heap_alloc_at _ _
 have HSh := Lib.hid (shape_ok (h.keep f0))
 have HB := Lib.hid (fun (V : World) (fV : Fr (fun _ => False) W V) => (h.keep f0).keep fV)
 have hsb : decide ((b.seats : Int) = 0 ∧ (b.codes : Int) = 0 ∧ (b.group : Int) = 0) = false := by have := h.raw.s0; simp; omega
 have hq : ∀ V : World, (binOp .eql 23 (.agg #[.int .i64 (b.seats : Int), .int .i64 (b.codes : Int), .int .i64 (b.group : Int)]) (.agg #[.int .i64 0, .int .i64 0, .int .i64 0])).run Tryz.prog V = .ok (.bool false) V := fun V => by rw [← hsb]; exact shEq V _ _ _
 have Hown := Lib.hid (show ∀ x, p.own bb x → x < w.heap.size from fun x hx => h.lt hx)
 have Hz := Lib.hid hz; have F0 := Lib.hid f0; have HG := Lib.hid (And.intro hg hg2); have Hs := Lib.hid s3
 have HW1 := Lib.hid hW1; have HW := Lib.hid hW
 have HRq := Lib.hid (fun (V : World) => rqcheck_ok q V)
 clear h f0 hg hg2 a1 a3 s1 s3 hW1 hW hz hsb
 rw [hb] at HRq
 simp only [Bool.false_eq_true, if_false] at HRq
 clear hb
 go_enter Tryz.func27, Tryz.ntmps27
 go_upto_region 1 with fail
 rw [← HW1.out, ← HW.out, ← Hz.out]
 go_wp2_with fail
 refine HSh.out.mono ?_
 rintro e w1 ⟨rfl, f1⟩
 have F1 := Lib.hid f1
 have HG1 := Lib.hid (And.intro (f1.get HG.out.1 (fun h => h)) (f1.get HG.out.2 (fun h => h)))
 clear f1
 have q0 := (cell_of HG1.out.1 0).trans (show _ = some (Value.int .i64 q.kind) from rfl)
 have q1 := (cell_of HG1.out.1 1).trans (show _ = some (Value.int .u32 (q.tag : Int)) from rfl)
 have q2 := (cell_of HG1.out.1 2).trans (show _ = some (Value.int .u32 (q.id : Int)) from rfl)
 have q3 := (cell_of HG1.out.1 3).trans (show _ = some (Value.int .i64 q.seat) from rfl)
 have q4 := (cell_of HG1.out.1 4).trans (show _ = some (Value.int .i64 q.ttl) from rfl)
 go_wp2_with fail
 refine (HRq.out _).mono ?_
 rintro e w2 ⟨rfl, f2⟩
 have F2 := Lib.hid (F1.out.trans f2 (fun _ _ h => h))
 have HG2 := Lib.hid (And.intro (f2.get HG1.out.1 (fun h => h)) (f2.get HG1.out.2 (fun h => h)))
 clear f2 hq q0 q1 q2 q3 q4
 have q0 := (cell_of HG2.out.1 0).trans (show _ = some (Value.int .i64 q.kind) from rfl)
 have q1 := (cell_of HG2.out.1 1).trans (show _ = some (Value.int .u32 (q.tag : Int)) from rfl)
 have q2 := (cell_of HG2.out.1 2).trans (show _ = some (Value.int .u32 (q.id : Int)) from rfl)
 have q3 := (cell_of HG2.out.1 3).trans (show _ = some (Value.int .i64 q.seat) from rfl)
 have q4 := (cell_of HG2.out.1 4).trans (show _ = some (Value.int .i64 q.ttl) from rfl)
 have hf := repW_fr w2 (z + 1) 0 0 0 0 0 0 0
 have HP := Lib.hid (show Aft p bb b w (repW w2 (z + 1) 0 0 0 0 0 0 0) from aft_end (F0.out.trans F2.out (fun _ _ h => h)) (Aft.same (HB.out _ F2.out) (Fr.refl _ _)) hf (fun y e => ⟨by rw [e]; exact lt_of_block HG2.out.2, fun ho => by have := Hown.out y ho; have := Hz.out; omega, by have := Hz.out; omega⟩))
 have HE2 := Lib.hid (repW_at HG2.out.2 0 0 0 0 0 0 0)
 clear hf
 have s0 := (cell_of HG2.out.2 0).trans (show _ = some (Value.int .u32 0) from rfl)
 have t0 := free_of HG2.out.2 0
 have s1 := (cell_of HG2.out.2 1).trans (show _ = some (Value.int .i64 0) from rfl)
 have t1 := free_of HG2.out.2 1
 have s2 := (cell_of HG2.out.2 2).trans (show _ = some (Value.int .i64 0) from rfl)
 have t2 := free_of HG2.out.2 2
 have s3 := (cell_of HG2.out.2 3).trans (show _ = some (Value.int .u32 0) from rfl)
 have t3 := free_of HG2.out.2 3
 have s4 := (cell_of HG2.out.2 4).trans (show _ = some (Value.int .i64 0) from rfl)
 have t4 := free_of HG2.out.2 4
 have s5 := (cell_of HG2.out.2 5).trans (show _ = some (Value.int .i64 0) from rfl)
 have t5 := free_of HG2.out.2 5
 have s6 := (cell_of HG2.out.2 6).trans (show _ = some (Value.int .i64 0) from rfl)
 have t6 := free_of HG2.out.2 6
 go_wp2_with fail
 refine bodyPost_ret (v := ansV ⟨rp0, 200⟩) ?_ rfl ⟨rfl, HP.out⟩
 obtain ⟨p0, p1, p2, p3, p4, p5, p6⟩ := rp_cells (x := rp0) HE2.out
 simp only [rp0] at p0 p1 p2 p3 p4 p5 p6
 simp [results, Tryz.f27, go_sem, p0, p1, p2, p3, p4, p5, p6, rp0]
set_option maxRecDepth 100000 in
set_option maxHeartbeats 4000000 in
theorem ans_no {p : Pt} {bb : Nat} {b : Bk} {w : World} (h : BkP p bb b.next b b.L b.L w) (q : Rq) (hb : rqOk q = true) (hk : q.kind ≠ 5 ∧ q.kind ≠ 6 ∧ q.kind ≠ 10) (hd : ansD b q = ⟨rp0, 200⟩) : Calls Tryz.prog 27 #[.pointer (some ⟨bb, 0, none⟩), rqV q] w (AnsP p bb b w (ansD b q)) := by
 rw [hd]
 clear hd
 obtain ⟨W1, hW1⟩ : ∃ W, W = w.alloc (rqC q) := ⟨_, rfl⟩
 obtain ⟨W, hW⟩ : ∃ W, W = W1.alloc (.cells #[.int .u32 0, .int .i64 0, .int .i64 0, .int .u32 0, .int .i64 0, .int .i64 0, .int .i64 0] 63) := ⟨_, rfl⟩
 obtain ⟨z, hz⟩ : ∃ z, z = w.heap.size := ⟨_, rfl⟩
 have s1 : W1.heap.size = z + 1 := by rw [hW1, hz]; simp
 have s3 : W.heap.size = z + 2 := by rw [hW]; simp [s1]
 have a1 : Fr (fun _ => False) w W1 := by rw [hW1]; exact Fr.alloc (Fr.refl _ _) _
 have a3 : Fr (fun _ => False) W1 W := by rw [hW]; exact Fr.alloc (Fr.refl _ _) _
 have f0 : Fr (fun _ => False) w W := a1.trans a3 (fun _ _ h => h)
 have hg : W.heap[z]? = some (rqO q) := a3.get (show W1.heap[z]? = _ by rw [hW1, hz]; exact heap_alloc_at _ _) (fun h => h)
 have hg2 : W.heap[z + 1]? = some (rpO rp0) := show W.heap[z + 1]? = _ by rw [hW, ← s1]; exact heap_alloc_at _ _
 have HSh := Lib.hid (shape_ok (h.keep f0))
 have HB := Lib.hid (fun (V : World) (fV : Fr (fun _ => False) W V) => (h.keep f0).keep fV)
 have hsb : decide ((b.seats : Int) = 0 ∧ (b.codes : Int) = 0 ∧ (b.group : Int) = 0) = false := by have := h.raw.s0; simp; omega
 have hq : ∀ V : World, (binOp .eql 23 (.agg #[.int .i64 (b.seats : Int), .int .i64 (b.codes : Int), .int .i64 (b.group : Int)]) (.agg #[.int .i64 0, .int .i64 0, .int .i64 0])).run Tryz.prog V = .ok (.bool false) V := fun V => by rw [← hsb]; exact shEq V _ _ _
 have Hown := Lib.hid (show ∀ x, p.own bb x → x < w.heap.size from fun x hx => h.lt hx)
 have Hz := Lib.hid hz; have F0 := Lib.hid f0; have HG := Lib.hid (And.intro hg hg2); have Hs := Lib.hid s3
 have HW1 := Lib.hid hW1; have HW := Lib.hid hW
 have HRq := Lib.hid (fun (V : World) => rqcheck_ok q V)
 clear h f0 hg hg2 a1 a3 s1 s3 hW1 hW hz hsb
 rw [hb] at HRq
 simp only [if_true] at HRq
 have b5 : (q.kind == 5) = false := by simpa using hk.1
 have b6 : (q.kind == 6) = false := by simpa using hk.2.1
 have b10 : (q.kind == 10) = false := by simpa using hk.2.2
 clear hb hk
 go_enter Tryz.func27, Tryz.ntmps27
 go_upto_region 1 with fail
 rw [← HW1.out, ← HW.out, ← Hz.out]
 go_wp2_with fail
 refine HSh.out.mono ?_
 rintro e w1 ⟨rfl, f1⟩
 have F1 := Lib.hid f1
 have HG1 := Lib.hid (And.intro (f1.get HG.out.1 (fun h => h)) (f1.get HG.out.2 (fun h => h)))
 clear f1
 have q0 := (cell_of HG1.out.1 0).trans (show _ = some (Value.int .i64 q.kind) from rfl)
 have q1 := (cell_of HG1.out.1 1).trans (show _ = some (Value.int .u32 (q.tag : Int)) from rfl)
 have q2 := (cell_of HG1.out.1 2).trans (show _ = some (Value.int .u32 (q.id : Int)) from rfl)
 have q3 := (cell_of HG1.out.1 3).trans (show _ = some (Value.int .i64 q.seat) from rfl)
 have q4 := (cell_of HG1.out.1 4).trans (show _ = some (Value.int .i64 q.ttl) from rfl)
 go_wp2_with fail
 refine (HRq.out _).mono ?_
 rintro e w2 ⟨rfl, f2⟩
 have F2 := Lib.hid (F1.out.trans f2 (fun _ _ h => h))
 have HG2 := Lib.hid (And.intro (f2.get HG1.out.1 (fun h => h)) (f2.get HG1.out.2 (fun h => h)))
 clear f2 hq q0 q1 q2 q3 q4
 have q0 := (cell_of HG2.out.1 0).trans (show _ = some (Value.int .i64 q.kind) from rfl)
 have q1 := (cell_of HG2.out.1 1).trans (show _ = some (Value.int .u32 (q.tag : Int)) from rfl)
 have q2 := (cell_of HG2.out.1 2).trans (show _ = some (Value.int .u32 (q.id : Int)) from rfl)
 have q3 := (cell_of HG2.out.1 3).trans (show _ = some (Value.int .i64 q.seat) from rfl)
 have q4 := (cell_of HG2.out.1 4).trans (show _ = some (Value.int .i64 q.ttl) from rfl)
 obtain ⟨V1, hV1⟩ : ∃ V, V = w2.alloc (.cells #[.int .u32 (q.tag : Int), .int .i64 q.kind, .int .i64 0, .int .u32 0, .int .i64 0, .int .i64 0, .int .i64 0] 63) := ⟨_, rfl⟩
 obtain ⟨V, hV⟩ : ∃ V, V = V1.alloc (.cells #[.int .u32 0, .int .i64 0, .int .i64 0] 77) := ⟨_, rfl⟩
 have fV : Fr (fun _ => False) w2 V := by rw [hV, hV1]; exact Fr.alloc (Fr.alloc (Fr.refl _ _) _) _
 have F2' := Lib.hid (F2.out.trans fV (fun _ _ h => h))
 have HG2' := Lib.hid (And.intro (fV.get HG2.out.1 (fun h => h)) (fV.get HG2.out.2 (fun h => h)))
 clear fV
 go_upto_region 7 with fail
 rw [← hV1, ← hV]
 clear hV hV1 q0 q1 q2 q3 q4
 have q0 := (cell_of HG2'.out.1 0).trans (show _ = some (Value.int .i64 q.kind) from rfl)
 have q1 := (cell_of HG2'.out.1 1).trans (show _ = some (Value.int .u32 (q.tag : Int)) from rfl)
 have q2 := (cell_of HG2'.out.1 2).trans (show _ = some (Value.int .u32 (q.id : Int)) from rfl)
 have q3 := (cell_of HG2'.out.1 3).trans (show _ = some (Value.int .i64 q.seat) from rfl)
 have q4 := (cell_of HG2'.out.1 4).trans (show _ = some (Value.int .i64 q.ttl) from rfl)
 have hf := repW_fr V (z + 1) 0 0 0 0 0 0 0
 have HP := Lib.hid (show Aft p bb b w (repW V (z + 1) 0 0 0 0 0 0 0) from aft_end (F0.out.trans F2'.out (fun _ _ h => h)) (Aft.same (HB.out _ F2'.out) (Fr.refl _ _)) hf (fun y e => ⟨by rw [e]; exact lt_of_block HG2'.out.2, fun ho => by have := Hown.out y ho; have := Hz.out; omega, by have := Hz.out; omega⟩))
 have HE2 := Lib.hid (repW_at HG2'.out.2 0 0 0 0 0 0 0)
 clear hf
 have s0 := (cell_of HG2'.out.2 0).trans (show _ = some (Value.int .u32 0) from rfl)
 have t0 := free_of HG2'.out.2 0
 have s1 := (cell_of HG2'.out.2 1).trans (show _ = some (Value.int .i64 0) from rfl)
 have t1 := free_of HG2'.out.2 1
 have s2 := (cell_of HG2'.out.2 2).trans (show _ = some (Value.int .i64 0) from rfl)
 have t2 := free_of HG2'.out.2 2
 have s3 := (cell_of HG2'.out.2 3).trans (show _ = some (Value.int .u32 0) from rfl)
 have t3 := free_of HG2'.out.2 3
 have s4 := (cell_of HG2'.out.2 4).trans (show _ = some (Value.int .i64 0) from rfl)
 have t4 := free_of HG2'.out.2 4
 have s5 := (cell_of HG2'.out.2 5).trans (show _ = some (Value.int .i64 0) from rfl)
 have t5 := free_of HG2'.out.2 5
 have s6 := (cell_of HG2'.out.2 6).trans (show _ = some (Value.int .i64 0) from rfl)
 have t6 := free_of HG2'.out.2 6
 go_wp2_with fail
 refine bodyPost_ret (v := ansV ⟨rp0, 200⟩) ?_ rfl ⟨rfl, HP.out⟩
 obtain ⟨p0, p1, p2, p3, p4, p5, p6⟩ := rp_cells (x := rp0) HE2.out
 simp only [rp0] at p0 p1 p2 p3 p4 p5 p6
 simp [results, Tryz.f27, go_sem, p0, p1, p2, p3, p4, p5, p6, rp0]
set_option maxRecDepth 100000 in
set_option maxHeartbeats 4000000 in
theorem ans_5 {p : Pt} {bb : Nat} {b : Bk} {w : World} (h : BkP p bb b.next b b.L b.L w) (q : Rq) (hk : q.kind = 5) (hb : rqOk q = true) (hid : q.id < 4294967296) {xx : Bo} {n : Int} (hget : getE (bFind b.L q.id) = .returned (.tuple #[boV xx, .int .i64 n])) {X : Rp} (hd : ansD b q = ⟨X, 0⟩) (hX : X = ⟨q.tag, q.kind, n, 0, xx.2.1, xx.2.2, 0⟩) : Calls Tryz.prog 27 #[.pointer (some ⟨bb, 0, none⟩), rqV q] w (AnsP p bb b w (ansD b q)) := by
 rw [hd]
 have b5 : (q.kind == 5) = true := by rw [hk]; rfl
 have HX := Lib.hid hX
 clear hd hk hX
 obtain ⟨W1, hW1⟩ : ∃ W, W = w.alloc (rqC q) := ⟨_, rfl⟩
 obtain ⟨W, hW⟩ : ∃ W, W = W1.alloc (.cells #[.int .u32 0, .int .i64 0, .int .i64 0, .int .u32 0, .int .i64 0, .int .i64 0, .int .i64 0] 63) := ⟨_, rfl⟩
 obtain ⟨z, hz⟩ : ∃ z, z = w.heap.size := ⟨_, rfl⟩
 have s1 : W1.heap.size = z + 1 := by rw [hW1, hz]; simp
 have s3 : W.heap.size = z + 2 := by rw [hW]; simp [s1]
 have a1 : Fr (fun _ => False) w W1 := by rw [hW1]; exact Fr.alloc (Fr.refl _ _) _
 have a3 : Fr (fun _ => False) W1 W := by rw [hW]; exact Fr.alloc (Fr.refl _ _) _
 have f0 : Fr (fun _ => False) w W := a1.trans a3 (fun _ _ h => h)
 have hg : W.heap[z]? = some (rqO q) := a3.get (show W1.heap[z]? = _ by rw [hW1, hz]; exact heap_alloc_at _ _) (fun h => h)
 have hg2 : W.heap[z + 1]? = some (rpO rp0) := show W.heap[z + 1]? = _ by rw [hW, ← s1]; exact heap_alloc_at _ _
 have HSh := Lib.hid (shape_ok (h.keep f0))
 have HB := Lib.hid (fun (V : World) (fV : Fr (fun _ => False) W V) => (h.keep f0).keep fV)
 have hsb : decide ((b.seats : Int) = 0 ∧ (b.codes : Int) = 0 ∧ (b.group : Int) = 0) = false := by have := h.raw.s0; simp; omega
 have hq : ∀ V : World, (binOp .eql 23 (.agg #[.int .i64 (b.seats : Int), .int .i64 (b.codes : Int), .int .i64 (b.group : Int)]) (.agg #[.int .i64 0, .int .i64 0, .int .i64 0])).run Tryz.prog V = .ok (.bool false) V := fun V => by rw [← hsb]; exact shEq V _ _ _
 have Hown := Lib.hid (show ∀ x, p.own bb x → x < w.heap.size from fun x hx => h.lt hx)
 have Hz := Lib.hid hz; have F0 := Lib.hid f0; have HG := Lib.hid (And.intro hg hg2); have Hs := Lib.hid s3
 have HW1 := Lib.hid hW1; have HW := Lib.hid hW
 have HRq := Lib.hid (fun (V : World) => rqcheck_ok q V)
 clear h f0 hg hg2 a1 a3 s1 s3 hW1 hW hz hsb
 have Hid := Lib.hid hid; have Hget := Lib.hid hget
 clear hid hget
 rw [hb] at HRq
 simp only [if_true] at HRq
 clear hb
 go_enter Tryz.func27, Tryz.ntmps27
 go_upto_region 1 with fail
 rw [← HW1.out, ← HW.out, ← Hz.out]
 go_wp2_with fail
 refine HSh.out.mono ?_
 rintro e w1 ⟨rfl, f1⟩
 have F1 := Lib.hid f1
 have HG1 := Lib.hid (And.intro (f1.get HG.out.1 (fun h => h)) (f1.get HG.out.2 (fun h => h)))
 clear f1
 have q0 := (cell_of HG1.out.1 0).trans (show _ = some (Value.int .i64 q.kind) from rfl)
 have q1 := (cell_of HG1.out.1 1).trans (show _ = some (Value.int .u32 (q.tag : Int)) from rfl)
 have q2 := (cell_of HG1.out.1 2).trans (show _ = some (Value.int .u32 (q.id : Int)) from rfl)
 have q3 := (cell_of HG1.out.1 3).trans (show _ = some (Value.int .i64 q.seat) from rfl)
 have q4 := (cell_of HG1.out.1 4).trans (show _ = some (Value.int .i64 q.ttl) from rfl)
 go_wp2_with fail
 refine (HRq.out _).mono ?_
 rintro e w2 ⟨rfl, f2⟩
 have F2 := Lib.hid (F1.out.trans f2 (fun _ _ h => h))
 have HG2 := Lib.hid (And.intro (f2.get HG1.out.1 (fun h => h)) (f2.get HG1.out.2 (fun h => h)))
 clear f2 hq q0 q1 q2 q3 q4
 have q0 := (cell_of HG2.out.1 0).trans (show _ = some (Value.int .i64 q.kind) from rfl)
 have q1 := (cell_of HG2.out.1 1).trans (show _ = some (Value.int .u32 (q.tag : Int)) from rfl)
 have q2 := (cell_of HG2.out.1 2).trans (show _ = some (Value.int .u32 (q.id : Int)) from rfl)
 have q3 := (cell_of HG2.out.1 3).trans (show _ = some (Value.int .i64 q.seat) from rfl)
 have q4 := (cell_of HG2.out.1 4).trans (show _ = some (Value.int .i64 q.ttl) from rfl)
 obtain ⟨V1, hV1⟩ : ∃ V, V = w2.alloc (.cells #[.int .u32 (q.tag : Int), .int .i64 q.kind, .int .i64 0, .int .u32 0, .int .i64 0, .int .i64 0, .int .i64 0] 63) := ⟨_, rfl⟩
 obtain ⟨V, hV⟩ : ∃ V, V = V1.alloc (.cells #[.int .u32 0, .int .i64 0, .int .i64 0] 77) := ⟨_, rfl⟩
 obtain ⟨c, hc⟩ : ∃ c, c = w2.heap.size := ⟨_, rfl⟩
 have sc : V1.heap.size = c + 1 := by rw [hV1, hc]; simp
 have fV1 : Fr (fun _ => False) w2 V1 := by rw [hV1]; exact Fr.alloc (Fr.refl _ _) _
 have fV2 : Fr (fun _ => False) V1 V := by rw [hV]; exact Fr.alloc (Fr.refl _ _) _
 have fV : Fr (fun _ => False) w2 V := fV1.trans fV2 (fun _ _ h => h)
 have hgc : V.heap[c]? = some (rpO ⟨q.tag, q.kind, 0, 0, 0, 0, 0⟩) := fV2.get (show V1.heap[c]? = _ by rw [hV1, hc]; exact heap_alloc_at _ _) (fun h => h)
 have hgb : V.heap[c + 1]? = some (.cells #[.int .u32 0, .int .i64 0, .int .i64 0] 77 (0, 0)) := show V.heap[c + 1]? = _ by rw [hV, ← sc]; exact heap_alloc_at _ _
 have F3 := Lib.hid (F2.out.trans fV (fun _ _ h => h))
 have HG3 := Lib.hid (And.intro (fV.get HG2.out.1 (fun h => h)) (And.intro (fV.get HG2.out.2 (fun h => h)) (And.intro hgc hgb)))
 have HC := Lib.hid (show z + 2 ≤ c ∧ c + 1 < V.heap.size from ⟨by rw [hc, ← Hs.out]; exact F2.out.size, lt_of_block hgb⟩)
 have HV1 := Lib.hid hV1; have HV := Lib.hid hV; have Hc := Lib.hid hc; have Hsc := Lib.hid sc
 clear fV fV1 fV2 hgc hgb hV1 hV hc sc
 go_upto_region 7 with fail
 rw [← HV1.out, ← HV.out, ← Hc.out]
 try rw [Hsc.out]
 clear q0 q1 q2 q3 q4
 have q0 := (cell_of HG3.out.1 0).trans (show _ = some (Value.int .i64 q.kind) from rfl)
 have q1 := (cell_of HG3.out.1 1).trans (show _ = some (Value.int .u32 (q.tag : Int)) from rfl)
 have q2 := (cell_of HG3.out.1 2).trans (show _ = some (Value.int .u32 (q.id : Int)) from rfl)
 have q3 := (cell_of HG3.out.1 3).trans (show _ = some (Value.int .i64 q.seat) from rfl)
 have q4 := (cell_of HG3.out.1 4).trans (show _ = some (Value.int .i64 q.ttl) from rfl)
 go_upto_block 0 with fail
 go_cut [6] (fun s6 wx => s6 = .pointer (some ⟨c, 0, none⟩) ∧ wx.heap[c]? = some (rpO X) ∧ wx.heap[z + 1]? = some (rpO rp0) ∧ ∃ w4, Aft p bb b V w4 ∧ Fr (fun y => y = c ∨ y = c + 1) w4 wx)
 case first =>
  have Hown2 := Lib.hid (show ∀ x, z ≤ x → ¬ p.own bb x from fun x hx ho => by have := Hown.out x ho; have := Hz.out; omega)
  have HCall := Lib.hid (get_aft (HB.out _ F3.out) Hid.out)
  rw [Hget.out] at HCall
  go_wp2_with fail
  refine HCall.out.mono ?_
  rintro e w4 ⟨rfl, a4⟩
  obtain ⟨p4, hB4, hF4, hO4⟩ := id a4
  have HA4 := Lib.hid a4
  have hc4 := hF4.get HG3.out.2.2.1 (Hown2.out _ (by have := HC.out; omega))
  have hb4 := hF4.get HG3.out.2.2.2 (Hown2.out _ (by have := HC.out; omega))
  have hz4 := hF4.get HG3.out.2.1 (Hown2.out _ (by omega))
  clear hB4 hF4 hO4 a4 q0 q1 q2 q3 q4
  have b0 := (cell_of hb4 0).trans (show _ = some (Value.int .u32 0) from rfl)
  have b1 := (cell_of hb4 1).trans (show _ = some (Value.int .i64 0) from rfl)
  have b2 := (cell_of hb4 2).trans (show _ = some (Value.int .i64 0) from rfl)
  have c0 := free_of hb4 0; have c1 := free_of hb4 1; have c2 := free_of hb4 2
  have p2 := (cell_of hc4 2).trans (show _ = some (Value.int .i64 0) from rfl)
  have y2 := free_of hc4 2
  obtain ⟨W5, hW5⟩ : ∃ W, W = (((w4.setCell ⟨c + 1, 0, none⟩ (.int .u32 (xx.1 : Int))).setCell ⟨c + 1, 1, none⟩ (.int .i64 xx.2.1)).setCell ⟨c + 1, 2, none⟩ (.int .i64 xx.2.2)).setCell ⟨c, 2, none⟩ (.int .i64 n) := ⟨_, rfl⟩
  have f5a : Fr (fun y => y = c + 1) w4 (((w4.setCell ⟨c + 1, 0, none⟩ (.int .u32 (xx.1 : Int))).setCell ⟨c + 1, 1, none⟩ (.int .i64 xx.2.1)).setCell ⟨c + 1, 2, none⟩ (.int .i64 xx.2.2)) := ((((Fr.refl (fun y => y = c + 1) w4).setCell (p := ⟨c + 1, 0, none⟩) (fun _ => rfl) _).setCell (p := ⟨c + 1, 1, none⟩) (fun _ => rfl) _).setCell (p := ⟨c + 1, 2, none⟩) (fun _ => rfl) _)
  have f5b : Fr (fun y => y = c) (((w4.setCell ⟨c + 1, 0, none⟩ (.int .u32 (xx.1 : Int))).setCell ⟨c + 1, 1, none⟩ (.int .i64 xx.2.1)).setCell ⟨c + 1, 2, none⟩ (.int .i64 xx.2.2)) W5 := by rw [hW5]; exact Fr.setCell (F := fun y => y = c) (p := ⟨c, 2, none⟩) (Fr.refl _ _) (fun _ => rfl) _
  have hb5 : W5.heap[c + 1]? = some (.cells #[.int .u32 (xx.1 : Int), .int .i64 xx.2.1, .int .i64 xx.2.2] 77 (0, 0)) := f5b.get (setCell_blk (o := 2) (setCell_blk (o := 1) (setCell_blk (o := 0) hb4 _) _) _) (by omega)
  have hc5 : W5.heap[c]? = some (rpO ⟨q.tag, q.kind, n, 0, 0, 0, 0⟩) := by rw [hW5]; exact (setCell_blk (o := 2) (f5a.get hc4 (by omega)) (.int .i64 n)).trans rfl
  have hz5 : W5.heap[z + 1]? = some (rpO rp0) := f5b.get (f5a.get hz4 (by have := HC.out; omega)) (by have := HC.out; omega)
  have F5 := Lib.hid (show Fr (fun y => y = c ∨ y = c + 1) w4 W5 from (f5a.mono (fun _ _ e => .inr e)).trans f5b (fun _ _ e => .inl e))
  have HG5 := Lib.hid (And.intro hb5 (And.intro hc5 hz5)); have HW5 := Lib.hid hW5
  clear f5a f5b hc4 hb4 hz4 hb5 hc5 hz5 hW5
  go_upto_region 11 with fail
  rw [← HW5.out]
  clear b0 b1 b2 c0 c1 c2 p2 y2
  have l1 := (cell_of HG5.out.1 1).trans (show _ = some (Value.int .i64 xx.2.1) from rfl)
  have l2 := (cell_of HG5.out.1 2).trans (show _ = some (Value.int .i64 xx.2.2) from rfl)
  have m1 := (cell_of HG5.out.2.1 4).trans (show _ = some (Value.int .i64 0) from rfl)
  have m2 := (cell_of HG5.out.2.1 5).trans (show _ = some (Value.int .i64 0) from rfl)
  have n1 := free_of HG5.out.2.1 4; have n2 := free_of HG5.out.2.1 5
  have HSS := Lib.hid (fun (V : World) (f : Fr (fun y => y = c) W5 V) => (⟨f, (cell_of (f.get HG5.out.1 (by omega)) 1).trans rfl, (cell_of (f.get HG5.out.1 (by omega)) 2).trans rfl⟩ : Fr (fun y => y = c) W5 V ∧ V.cell? ⟨c + 1, 1, none⟩ = some (.int .i64 xx.2.1) ∧ V.cell? ⟨c + 1, 2, none⟩ = some (.int .i64 xx.2.2)))
  refine wp_region_held_drew (S := fun w' => Fr (fun y => y = c) W5 w' ∧ w'.cell? ⟨c + 1, 1, none⟩ = some (.int .i64 xx.2.1) ∧ w'.cell? ⟨c + 1, 2, none⟩ = some (.int .i64 xx.2.2)) (by kernel_rfl) (by exact HSS.out _ (Fr.drew (Fr.refl _ _))) (fun hHeld => ?_)
  refine wpAnyH_take (i := 0) (v := ?_) rfl (by kernel_rfl) (by kernel_rfl) (by kernel_rfl) (fun _ _ _ h => h) (Or.inl ⟨by rfl, ?_⟩) (by assumption) ?_
  rotate_left
  ·intro w' hSw; (try dsimp only at hSw); go_simp; try with_reducible rfl
  try simp only [Act.put, List.getElem_toArray, List.getElem_cons_zero, List.setIfInBounds_toArray, List.set_cons_zero, List.set_cons_succ]
  refine wpAnyH_take (i := 1) (v := ?_) rfl (by kernel_rfl) (by kernel_rfl) (by kernel_rfl) (fun _ _ _ h => h) (Or.inl ⟨by rfl, ?_⟩) (by assumption) ?_
  rotate_left
  ·intro w' hSw; (try dsimp only at hSw); go_simp; try with_reducible rfl
  try simp only [Act.put, sL]
  refine wpAnyH_take (i := 2) (v := ?_) rfl (by kernel_rfl) (by kernel_rfl) (by kernel_rfl) (fun _ _ _ h => h) (Or.inl ⟨by rfl, ?_⟩) (by assumption) ?_
  rotate_left
  ·intro w' hSw; (try dsimp only at hSw); go_simp; try with_reducible rfl
  try simp only [Act.put, sL]
  refine wpAnyH_take (i := 3) (v := ?_) rfl (by kernel_rfl) (by kernel_rfl) (by kernel_rfl) (fun _ _ _ h => h) (Or.inl ⟨by rfl, ?_⟩) (by assumption) ?_
  rotate_left
  ·intro w' hSw; (try dsimp only at hSw); go_simp; try with_reducible rfl
  try simp only [Act.put, sL]
  refine wpAnyH_take (i := 4) (v := ?_) rfl (by kernel_rfl) (by kernel_rfl) (by kernel_rfl) (fun _ _ _ h => h) (Or.inl ⟨by rfl, ?_⟩) (by assumption) ?_
  rotate_left
  ·intro w' hSw; (try dsimp only at hSw); go_simp; try with_reducible rfl
  try simp only [Act.put, sL]
  refine wpAnyH_ready (rs := [5]) (by kernel_rfl) (by simp) ?_
  refine AllReadyH.cons rfl (fun K hK => ?_) AllReadyH.nil
  go_simp
  skip
  try go_simp
  refine hK.out _ _ ?_ (fun hHeld => ?_)
  ·(try dsimp only); exact HSS.out _ (Fr.drew (Fr.setCell (F := fun y => y = c) (p := ⟨c, 4, none⟩) (Fr.refl _ _) (fun _ => rfl) _))
  clear hK K
  try simp only [Act.put, sL]
  refine wpAnyH_take (i := 6) (v := ?_) rfl (by kernel_rfl) (by kernel_rfl) (by kernel_rfl) (fun _ _ _ h => h) (Or.inl ⟨by rfl, ?_⟩) (by assumption) ?_
  rotate_left
  ·intro w' hSw; (try dsimp only at hSw); go_simp; try with_reducible rfl
  try simp only [Act.put, sL]
  refine wpAnyH_ready (rs := [7]) (by kernel_rfl) (by simp) ?_
  refine AllReadyH.cons rfl (fun K hK => ?_) AllReadyH.nil
  go_simp
  skip
  try go_simp
  refine hK.out _ _ ?_ (fun hHeld => ?_)
  ·(try dsimp only); exact HSS.out _ (Fr.drew (Fr.setCell (F := fun y => y = c) (p := ⟨c, 5, none⟩) (Fr.setCell (F := fun y => y = c) (p := ⟨c, 4, none⟩) (Fr.refl _ _) (fun _ => rfl) _) (fun _ => rfl) _))
  clear hK K
  try simp only [Act.put, sL]
  refine wpAnyH_done (by kernel_rfl) ?_ _
  go_wp2_with fail
  go_meet
  exact ⟨rfl, by rw [HX.out]; exact (setCell_blk (o := 5) (setCell_blk (o := 4) HG5.out.2.1 _) _).trans rfl, Fr.get (Fr.drew (Fr.setCell (F := fun y => y = c) (p := ⟨c, 5, none⟩) (Fr.setCell (F := fun y => y = c) (p := ⟨c, 4, none⟩) (Fr.refl _ _) (fun _ => rfl) _) (fun _ => rfl) _)) HG5.out.2.2 (by have := HC.out; omega), w4, HA4.out, F5.out.trans (Fr.drew (Fr.setCell (F := fun y => y = c) (p := ⟨c, 5, none⟩) (Fr.setCell (F := fun y => y = c) (p := ⟨c, 4, none⟩) (Fr.refl _ _) (fun _ => rfl) _) (fun _ => rfl) _)) (fun _ _ e => .inl e)⟩
 case rest =>
 obtain ⟨rfl, hb, hb2, w4, hA, h4⟩ := hcut
 have hf := repW_fr wc (z + 1) (X.tag : Int) X.kind X.err (X.id : Int) X.seat X.till X.count
 have HP := Lib.hid (show Aft p bb b w (repW wc (z + 1) (X.tag : Int) X.kind X.err (X.id : Int) X.seat X.till X.count) from aft_end (G := fun y => y = c ∨ y = c + 1 ∨ y = z + 1) (F0.out.trans F3.out (fun _ _ h => h)) hA ((h4.mono (fun _ _ h => h.imp (fun h => h) (fun h => .inl h))).trans hf (fun y _ e => .inr (.inr e))) (fun y hy => ⟨by have := HC.out; omega, fun ho => by have := Hown.out y ho; have := Hz.out; have := HC.out; omega, by have := Hz.out; have := HC.out; omega⟩))
 have HE2 := Lib.hid (repW_at (x := rp0) hb2 (X.tag : Int) X.kind X.err (X.id : Int) X.seat X.till X.count)
 clear q0 q1 q2 q3 q4 hA h4 hf
 obtain ⟨p0, p1, p2, p3, p4, p5, p6⟩ := rp_cells hb
 have s := rp_cells hb2
 obtain ⟨y0, y1, y2, y3, y4, y5, y6⟩ := rp_free hb2
 simp only [rp0] at s
 obtain ⟨s0, s1, s2, s3, s4, s5, s6⟩ := s
 clear hb hb2
 go_wp2_with fail
 refine bodyPost_ret (v := ansV ⟨X, 0⟩) ?_ rfl ⟨rfl, HP.out⟩
 obtain ⟨e0, e1, e2, e3, e4, e5, e6⟩ := rp_cells (x := X) HE2.out
 simp [results, Tryz.f27, go_sem, e0, e1, e2, e3, e4, e5, e6]
set_option maxRecDepth 100000 in
set_option maxHeartbeats 4000000 in
theorem ans_6 {p : Pt} {bb : Nat} {b : Bk} {w : World} (h : BkP p bb b.next b b.L b.L w) (q : Rq) (hk : q.kind = 6) (hb : rqOk q = true) {xx : Bo} {n : Int} (hget : atE b q.seat = .returned (.tuple #[boV xx, .int .i64 n])) {X : Rp} (hd : ansD b q = ⟨X, 0⟩) (hX : X = ⟨q.tag, q.kind, n, xx.1, 0, xx.2.2, 0⟩) : Calls Tryz.prog 27 #[.pointer (some ⟨bb, 0, none⟩), rqV q] w (AnsP p bb b w (ansD b q)) := by
 rw [hd]
 have b5 : (q.kind == 5) = false := by rw [hk]; rfl
 have b6 : (q.kind == 6) = true := by rw [hk]; rfl
 have HX := Lib.hid hX
 clear hd hk hX
 obtain ⟨W1, hW1⟩ : ∃ W, W = w.alloc (rqC q) := ⟨_, rfl⟩
 obtain ⟨W, hW⟩ : ∃ W, W = W1.alloc (.cells #[.int .u32 0, .int .i64 0, .int .i64 0, .int .u32 0, .int .i64 0, .int .i64 0, .int .i64 0] 63) := ⟨_, rfl⟩
 obtain ⟨z, hz⟩ : ∃ z, z = w.heap.size := ⟨_, rfl⟩
 have s1 : W1.heap.size = z + 1 := by rw [hW1, hz]; simp
 have s3 : W.heap.size = z + 2 := by rw [hW]; simp [s1]
 have a1 : Fr (fun _ => False) w W1 := by rw [hW1]; exact Fr.alloc (Fr.refl _ _) _
 have a3 : Fr (fun _ => False) W1 W := by rw [hW]; exact Fr.alloc (Fr.refl _ _) _
 have f0 : Fr (fun _ => False) w W := a1.trans a3 (fun _ _ h => h)
 have hg : W.heap[z]? = some (rqO q) := a3.get (show W1.heap[z]? = _ by rw [hW1, hz]; exact heap_alloc_at _ _) (fun h => h)
 have hg2 : W.heap[z + 1]? = some (rpO rp0) := show W.heap[z + 1]? = _ by rw [hW, ← s1]; exact heap_alloc_at _ _
 have HSh := Lib.hid (shape_ok (h.keep f0))
 have HB := Lib.hid (fun (V : World) (fV : Fr (fun _ => False) W V) => (h.keep f0).keep fV)
 have hsb : decide ((b.seats : Int) = 0 ∧ (b.codes : Int) = 0 ∧ (b.group : Int) = 0) = false := by have := h.raw.s0; simp; omega
 have hq : ∀ V : World, (binOp .eql 23 (.agg #[.int .i64 (b.seats : Int), .int .i64 (b.codes : Int), .int .i64 (b.group : Int)]) (.agg #[.int .i64 0, .int .i64 0, .int .i64 0])).run Tryz.prog V = .ok (.bool false) V := fun V => by rw [← hsb]; exact shEq V _ _ _
 have Hown := Lib.hid (show ∀ x, p.own bb x → x < w.heap.size from fun x hx => h.lt hx)
 have Hz := Lib.hid hz; have F0 := Lib.hid f0; have HG := Lib.hid (And.intro hg hg2); have Hs := Lib.hid s3
 have HW1 := Lib.hid hW1; have HW := Lib.hid hW
 have HRq := Lib.hid (fun (V : World) => rqcheck_ok q V)
 clear h f0 hg hg2 a1 a3 s1 s3 hW1 hW hz hsb
 have Hget := Lib.hid hget
 clear hget
 rw [hb] at HRq
 simp only [if_true] at HRq
 clear hb
 go_enter Tryz.func27, Tryz.ntmps27
 go_upto_region 1 with fail
 rw [← HW1.out, ← HW.out, ← Hz.out]
 go_wp2_with fail
 refine HSh.out.mono ?_
 rintro e w1 ⟨rfl, f1⟩
 have F1 := Lib.hid f1
 have HG1 := Lib.hid (And.intro (f1.get HG.out.1 (fun h => h)) (f1.get HG.out.2 (fun h => h)))
 clear f1
 have q0 := (cell_of HG1.out.1 0).trans (show _ = some (Value.int .i64 q.kind) from rfl)
 have q1 := (cell_of HG1.out.1 1).trans (show _ = some (Value.int .u32 (q.tag : Int)) from rfl)
 have q2 := (cell_of HG1.out.1 2).trans (show _ = some (Value.int .u32 (q.id : Int)) from rfl)
 have q3 := (cell_of HG1.out.1 3).trans (show _ = some (Value.int .i64 q.seat) from rfl)
 have q4 := (cell_of HG1.out.1 4).trans (show _ = some (Value.int .i64 q.ttl) from rfl)
 go_wp2_with fail
 refine (HRq.out _).mono ?_
 rintro e w2 ⟨rfl, f2⟩
 have F2 := Lib.hid (F1.out.trans f2 (fun _ _ h => h))
 have HG2 := Lib.hid (And.intro (f2.get HG1.out.1 (fun h => h)) (f2.get HG1.out.2 (fun h => h)))
 clear f2 hq q0 q1 q2 q3 q4
 have q0 := (cell_of HG2.out.1 0).trans (show _ = some (Value.int .i64 q.kind) from rfl)
 have q1 := (cell_of HG2.out.1 1).trans (show _ = some (Value.int .u32 (q.tag : Int)) from rfl)
 have q2 := (cell_of HG2.out.1 2).trans (show _ = some (Value.int .u32 (q.id : Int)) from rfl)
 have q3 := (cell_of HG2.out.1 3).trans (show _ = some (Value.int .i64 q.seat) from rfl)
 have q4 := (cell_of HG2.out.1 4).trans (show _ = some (Value.int .i64 q.ttl) from rfl)
 obtain ⟨V1, hV1⟩ : ∃ V, V = w2.alloc (.cells #[.int .u32 (q.tag : Int), .int .i64 q.kind, .int .i64 0, .int .u32 0, .int .i64 0, .int .i64 0, .int .i64 0] 63) := ⟨_, rfl⟩
 obtain ⟨V, hV⟩ : ∃ V, V = V1.alloc (.cells #[.int .u32 0, .int .i64 0, .int .i64 0] 77) := ⟨_, rfl⟩
 obtain ⟨c, hc⟩ : ∃ c, c = w2.heap.size := ⟨_, rfl⟩
 have sc : V1.heap.size = c + 1 := by rw [hV1, hc]; simp
 have fV1 : Fr (fun _ => False) w2 V1 := by rw [hV1]; exact Fr.alloc (Fr.refl _ _) _
 have fV2 : Fr (fun _ => False) V1 V := by rw [hV]; exact Fr.alloc (Fr.refl _ _) _
 have fV : Fr (fun _ => False) w2 V := fV1.trans fV2 (fun _ _ h => h)
 have hgc : V.heap[c]? = some (rpO ⟨q.tag, q.kind, 0, 0, 0, 0, 0⟩) := fV2.get (show V1.heap[c]? = _ by rw [hV1, hc]; exact heap_alloc_at _ _) (fun h => h)
 have hgb : V.heap[c + 1]? = some (.cells #[.int .u32 0, .int .i64 0, .int .i64 0] 77 (0, 0)) := show V.heap[c + 1]? = _ by rw [hV, ← sc]; exact heap_alloc_at _ _
 have F3 := Lib.hid (F2.out.trans fV (fun _ _ h => h))
 have HG3 := Lib.hid (And.intro (fV.get HG2.out.1 (fun h => h)) (And.intro (fV.get HG2.out.2 (fun h => h)) (And.intro hgc hgb)))
 have HC := Lib.hid (show z + 2 ≤ c ∧ c + 1 < V.heap.size from ⟨by rw [hc, ← Hs.out]; exact F2.out.size, lt_of_block hgb⟩)
 have HV1 := Lib.hid hV1; have HV := Lib.hid hV; have Hc := Lib.hid hc; have Hsc := Lib.hid sc
 clear fV fV1 fV2 hgc hgb hV1 hV hc sc
 go_upto_region 7 with fail
 rw [← HV1.out, ← HV.out, ← Hc.out]
 try rw [Hsc.out]
 clear q0 q1 q2 q3 q4
 have q0 := (cell_of HG3.out.1 0).trans (show _ = some (Value.int .i64 q.kind) from rfl)
 have q1 := (cell_of HG3.out.1 1).trans (show _ = some (Value.int .u32 (q.tag : Int)) from rfl)
 have q2 := (cell_of HG3.out.1 2).trans (show _ = some (Value.int .u32 (q.id : Int)) from rfl)
 have q3 := (cell_of HG3.out.1 3).trans (show _ = some (Value.int .i64 q.seat) from rfl)
 have q4 := (cell_of HG3.out.1 4).trans (show _ = some (Value.int .i64 q.ttl) from rfl)
 go_upto_block 0 with fail
 go_cut [6] (fun s6 wx => s6 = .pointer (some ⟨c, 0, none⟩) ∧ wx.heap[c]? = some (rpO X) ∧ wx.heap[z + 1]? = some (rpO rp0) ∧ ∃ w4, Aft p bb b V w4 ∧ Fr (fun y => y = c ∨ y = c + 1) w4 wx)
 case first =>
  have Hown2 := Lib.hid (show ∀ x, z ≤ x → ¬ p.own bb x from fun x hx ho => by have := Hown.out x ho; have := Hz.out; omega)
  have hcl := at_ok (HB.out _ F3.out) q.seat
  rw [Hget.out] at hcl
  have HCall := Lib.hid (hcl.mono (fun e w' hh => (⟨hh.1, Aft.same (HB.out _ F3.out) hh.2⟩ : e = .returned (.tuple #[boV xx, .int .i64 n]) ∧ Aft p bb b V w')))
  clear hcl
  go_wp2_with fail
  refine HCall.out.mono ?_
  rintro e w4 ⟨rfl, a4⟩
  obtain ⟨p4, hB4, hF4, hO4⟩ := id a4
  have HA4 := Lib.hid a4
  have hc4 := hF4.get HG3.out.2.2.1 (Hown2.out _ (by have := HC.out; omega))
  have hb4 := hF4.get HG3.out.2.2.2 (Hown2.out _ (by have := HC.out; omega))
  have hz4 := hF4.get HG3.out.2.1 (Hown2.out _ (by omega))
  clear hB4 hF4 hO4 a4 q0 q1 q2 q3 q4
  have b0 := (cell_of hb4 0).trans (show _ = some (Value.int .u32 0) from rfl)
  have b1 := (cell_of hb4 1).trans (show _ = some (Value.int .i64 0) from rfl)
  have b2 := (cell_of hb4 2).trans (show _ = some (Value.int .i64 0) from rfl)
  have c0 := free_of hb4 0; have c1 := free_of hb4 1; have c2 := free_of hb4 2
  have p2 := (cell_of hc4 2).trans (show _ = some (Value.int .i64 0) from rfl)
  have y2 := free_of hc4 2
  obtain ⟨W5, hW5⟩ : ∃ W, W = (((w4.setCell ⟨c + 1, 0, none⟩ (.int .u32 (xx.1 : Int))).setCell ⟨c + 1, 1, none⟩ (.int .i64 xx.2.1)).setCell ⟨c + 1, 2, none⟩ (.int .i64 xx.2.2)).setCell ⟨c, 2, none⟩ (.int .i64 n) := ⟨_, rfl⟩
  have f5a : Fr (fun y => y = c + 1) w4 (((w4.setCell ⟨c + 1, 0, none⟩ (.int .u32 (xx.1 : Int))).setCell ⟨c + 1, 1, none⟩ (.int .i64 xx.2.1)).setCell ⟨c + 1, 2, none⟩ (.int .i64 xx.2.2)) := ((((Fr.refl (fun y => y = c + 1) w4).setCell (p := ⟨c + 1, 0, none⟩) (fun _ => rfl) _).setCell (p := ⟨c + 1, 1, none⟩) (fun _ => rfl) _).setCell (p := ⟨c + 1, 2, none⟩) (fun _ => rfl) _)
  have f5b : Fr (fun y => y = c) (((w4.setCell ⟨c + 1, 0, none⟩ (.int .u32 (xx.1 : Int))).setCell ⟨c + 1, 1, none⟩ (.int .i64 xx.2.1)).setCell ⟨c + 1, 2, none⟩ (.int .i64 xx.2.2)) W5 := by rw [hW5]; exact Fr.setCell (F := fun y => y = c) (p := ⟨c, 2, none⟩) (Fr.refl _ _) (fun _ => rfl) _
  have hb5 : W5.heap[c + 1]? = some (.cells #[.int .u32 (xx.1 : Int), .int .i64 xx.2.1, .int .i64 xx.2.2] 77 (0, 0)) := f5b.get (setCell_blk (o := 2) (setCell_blk (o := 1) (setCell_blk (o := 0) hb4 _) _) _) (by omega)
  have hc5 : W5.heap[c]? = some (rpO ⟨q.tag, q.kind, n, 0, 0, 0, 0⟩) := by rw [hW5]; exact (setCell_blk (o := 2) (f5a.get hc4 (by omega)) (.int .i64 n)).trans rfl
  have hz5 : W5.heap[z + 1]? = some (rpO rp0) := f5b.get (f5a.get hz4 (by have := HC.out; omega)) (by have := HC.out; omega)
  have F5 := Lib.hid (show Fr (fun y => y = c ∨ y = c + 1) w4 W5 from (f5a.mono (fun _ _ e => .inr e)).trans f5b (fun _ _ e => .inl e))
  have HG5 := Lib.hid (And.intro hb5 (And.intro hc5 hz5)); have HW5 := Lib.hid hW5
  clear f5a f5b hc4 hb4 hz4 hb5 hc5 hz5 hW5
  go_upto_region 14 with fail
  rw [← HW5.out]
  clear b0 b1 b2 c0 c1 c2 p2 y2
  have l1 := (cell_of HG5.out.1 0).trans (show _ = some (Value.int .u32 (xx.1 : Int)) from rfl)
  have l2 := (cell_of HG5.out.1 2).trans (show _ = some (Value.int .i64 xx.2.2) from rfl)
  have m1 := (cell_of HG5.out.2.1 3).trans (show _ = some (Value.int .u32 0) from rfl)
  have m2 := (cell_of HG5.out.2.1 5).trans (show _ = some (Value.int .i64 0) from rfl)
  have n1 := free_of HG5.out.2.1 3; have n2 := free_of HG5.out.2.1 5
  have HSS := Lib.hid (fun (V : World) (f : Fr (fun y => y = c) W5 V) => (⟨f, (cell_of (f.get HG5.out.1 (by omega)) 0).trans rfl, (cell_of (f.get HG5.out.1 (by omega)) 2).trans rfl⟩ : Fr (fun y => y = c) W5 V ∧ V.cell? ⟨c + 1, 0, none⟩ = some (.int .u32 (xx.1 : Int)) ∧ V.cell? ⟨c + 1, 2, none⟩ = some (.int .i64 xx.2.2)))
  refine wp_region_held_drew (S := fun w' => Fr (fun y => y = c) W5 w' ∧ w'.cell? ⟨c + 1, 0, none⟩ = some (.int .u32 (xx.1 : Int)) ∧ w'.cell? ⟨c + 1, 2, none⟩ = some (.int .i64 xx.2.2)) (by kernel_rfl) (by exact HSS.out _ (Fr.drew (Fr.refl _ _))) (fun hHeld => ?_)
  refine wpAnyH_take (i := 0) (v := ?_) rfl (by kernel_rfl) (by kernel_rfl) (by kernel_rfl) (fun _ _ _ h => h) (Or.inl ⟨by rfl, ?_⟩) (by assumption) ?_
  rotate_left
  ·intro w' hSw; (try dsimp only at hSw); go_simp; try with_reducible rfl
  try simp only [Act.put, List.getElem_toArray, List.getElem_cons_zero, List.setIfInBounds_toArray, List.set_cons_zero, List.set_cons_succ]
  refine wpAnyH_take (i := 1) (v := ?_) rfl (by kernel_rfl) (by kernel_rfl) (by kernel_rfl) (fun _ _ _ h => h) (Or.inl ⟨by rfl, ?_⟩) (by assumption) ?_
  rotate_left
  ·intro w' hSw; (try dsimp only at hSw); go_simp; try with_reducible rfl
  try simp only [Act.put, sL]
  refine wpAnyH_take (i := 2) (v := ?_) rfl (by kernel_rfl) (by kernel_rfl) (by kernel_rfl) (fun _ _ _ h => h) (Or.inl ⟨by rfl, ?_⟩) (by assumption) ?_
  rotate_left
  ·intro w' hSw; (try dsimp only at hSw); go_simp; try with_reducible rfl
  try simp only [Act.put, sL]
  refine wpAnyH_take (i := 3) (v := ?_) rfl (by kernel_rfl) (by kernel_rfl) (by kernel_rfl) (fun _ _ _ h => h) (Or.inl ⟨by rfl, ?_⟩) (by assumption) ?_
  rotate_left
  ·intro w' hSw; (try dsimp only at hSw); go_simp; try with_reducible rfl
  try simp only [Act.put, sL]
  refine wpAnyH_take (i := 4) (v := ?_) rfl (by kernel_rfl) (by kernel_rfl) (by kernel_rfl) (fun _ _ _ h => h) (Or.inl ⟨by rfl, ?_⟩) (by assumption) ?_
  rotate_left
  ·intro w' hSw; (try dsimp only at hSw); go_simp; try with_reducible rfl
  try simp only [Act.put, sL]
  refine wpAnyH_ready (rs := [5]) (by kernel_rfl) (by simp) ?_
  refine AllReadyH.cons rfl (fun K hK => ?_) AllReadyH.nil
  go_simp
  skip
  try go_simp
  refine hK.out _ _ ?_ (fun hHeld => ?_)
  ·(try dsimp only); exact HSS.out _ (Fr.drew (Fr.setCell (F := fun y => y = c) (p := ⟨c, 3, none⟩) (Fr.refl _ _) (fun _ => rfl) _))
  clear hK K
  try simp only [Act.put, sL]
  refine wpAnyH_take (i := 6) (v := ?_) rfl (by kernel_rfl) (by kernel_rfl) (by kernel_rfl) (fun _ _ _ h => h) (Or.inl ⟨by rfl, ?_⟩) (by assumption) ?_
  rotate_left
  ·intro w' hSw; (try dsimp only at hSw); go_simp; try with_reducible rfl
  try simp only [Act.put, sL]
  refine wpAnyH_ready (rs := [7]) (by kernel_rfl) (by simp) ?_
  refine AllReadyH.cons rfl (fun K hK => ?_) AllReadyH.nil
  go_simp
  skip
  try go_simp
  refine hK.out _ _ ?_ (fun hHeld => ?_)
  ·(try dsimp only); exact HSS.out _ (Fr.drew (Fr.setCell (F := fun y => y = c) (p := ⟨c, 5, none⟩) (Fr.setCell (F := fun y => y = c) (p := ⟨c, 3, none⟩) (Fr.refl _ _) (fun _ => rfl) _) (fun _ => rfl) _))
  clear hK K
  try simp only [Act.put, sL]
  refine wpAnyH_done (by kernel_rfl) ?_ _
  go_wp2_with fail
  go_meet
  exact ⟨rfl, by rw [HX.out]; exact (setCell_blk (o := 5) (setCell_blk (o := 3) HG5.out.2.1 _) _).trans rfl, Fr.get (Fr.drew (Fr.setCell (F := fun y => y = c) (p := ⟨c, 5, none⟩) (Fr.setCell (F := fun y => y = c) (p := ⟨c, 3, none⟩) (Fr.refl _ _) (fun _ => rfl) _) (fun _ => rfl) _)) HG5.out.2.2 (by have := HC.out; omega), w4, HA4.out, F5.out.trans (Fr.drew (Fr.setCell (F := fun y => y = c) (p := ⟨c, 5, none⟩) (Fr.setCell (F := fun y => y = c) (p := ⟨c, 3, none⟩) (Fr.refl _ _) (fun _ => rfl) _) (fun _ => rfl) _)) (fun _ _ e => .inl e)⟩
 case rest =>
 obtain ⟨rfl, hb, hb2, w4, hA, h4⟩ := hcut
 have hf := repW_fr wc (z + 1) (X.tag : Int) X.kind X.err (X.id : Int) X.seat X.till X.count
 have HP := Lib.hid (show Aft p bb b w (repW wc (z + 1) (X.tag : Int) X.kind X.err (X.id : Int) X.seat X.till X.count) from aft_end (G := fun y => y = c ∨ y = c + 1 ∨ y = z + 1) (F0.out.trans F3.out (fun _ _ h => h)) hA ((h4.mono (fun _ _ h => h.imp (fun h => h) (fun h => .inl h))).trans hf (fun y _ e => .inr (.inr e))) (fun y hy => ⟨by have := HC.out; omega, fun ho => by have := Hown.out y ho; have := Hz.out; have := HC.out; omega, by have := Hz.out; have := HC.out; omega⟩))
 have HE2 := Lib.hid (repW_at (x := rp0) hb2 (X.tag : Int) X.kind X.err (X.id : Int) X.seat X.till X.count)
 clear q0 q1 q2 q3 q4 hA h4 hf
 obtain ⟨p0, p1, p2, p3, p4, p5, p6⟩ := rp_cells hb
 have s := rp_cells hb2
 obtain ⟨y0, y1, y2, y3, y4, y5, y6⟩ := rp_free hb2
 simp only [rp0] at s
 obtain ⟨s0, s1, s2, s3, s4, s5, s6⟩ := s
 clear hb hb2
 go_wp2_with fail
 refine bodyPost_ret (v := ansV ⟨X, 0⟩) ?_ rfl ⟨rfl, HP.out⟩
 obtain ⟨e0, e1, e2, e3, e4, e5, e6⟩ := rp_cells (x := X) HE2.out
 simp [results, Tryz.f27, go_sem, e0, e1, e2, e3, e4, e5, e6]
set_option maxRecDepth 100000 in
set_option maxHeartbeats 4000000 in
theorem ans_10 {p : Pt} {bb : Nat} {b : Bk} {w : World} (h : BkP p bb b.next b b.L b.L w) (q : Rq) (hk : q.kind = 10) (hb : rqOk q = true)  {X : Rp} (hd : ansD b q = ⟨X, 0⟩) (hX : X = ⟨q.tag, q.kind, 0, 0, 0, 0, (b.L.length : Int)⟩) : Calls Tryz.prog 27 #[.pointer (some ⟨bb, 0, none⟩), rqV q] w (AnsP p bb b w (ansD b q)) := by
 rw [hd]
 have b5 : (q.kind == 5) = false := by rw [hk]; rfl
 have b6 : (q.kind == 6) = false := by rw [hk]; rfl
 have b10 : (q.kind == 10) = true := by rw [hk]; rfl
 have HX := Lib.hid hX
 clear hd hk hX
 obtain ⟨W1, hW1⟩ : ∃ W, W = w.alloc (rqC q) := ⟨_, rfl⟩
 obtain ⟨W, hW⟩ : ∃ W, W = W1.alloc (.cells #[.int .u32 0, .int .i64 0, .int .i64 0, .int .u32 0, .int .i64 0, .int .i64 0, .int .i64 0] 63) := ⟨_, rfl⟩
 obtain ⟨z, hz⟩ : ∃ z, z = w.heap.size := ⟨_, rfl⟩
 have s1 : W1.heap.size = z + 1 := by rw [hW1, hz]; simp
 have s3 : W.heap.size = z + 2 := by rw [hW]; simp [s1]
 have a1 : Fr (fun _ => False) w W1 := by rw [hW1]; exact Fr.alloc (Fr.refl _ _) _
 have a3 : Fr (fun _ => False) W1 W := by rw [hW]; exact Fr.alloc (Fr.refl _ _) _
 have f0 : Fr (fun _ => False) w W := a1.trans a3 (fun _ _ h => h)
 have hg : W.heap[z]? = some (rqO q) := a3.get (show W1.heap[z]? = _ by rw [hW1, hz]; exact heap_alloc_at _ _) (fun h => h)
 have hg2 : W.heap[z + 1]? = some (rpO rp0) := show W.heap[z + 1]? = _ by rw [hW, ← s1]; exact heap_alloc_at _ _
 have HSh := Lib.hid (shape_ok (h.keep f0))
 have HB := Lib.hid (fun (V : World) (fV : Fr (fun _ => False) W V) => (h.keep f0).keep fV)
 have hsb : decide ((b.seats : Int) = 0 ∧ (b.codes : Int) = 0 ∧ (b.group : Int) = 0) = false := by have := h.raw.s0; simp; omega
 have hq : ∀ V : World, (binOp .eql 23 (.agg #[.int .i64 (b.seats : Int), .int .i64 (b.codes : Int), .int .i64 (b.group : Int)]) (.agg #[.int .i64 0, .int .i64 0, .int .i64 0])).run Tryz.prog V = .ok (.bool false) V := fun V => by rw [← hsb]; exact shEq V _ _ _
 have Hown := Lib.hid (show ∀ x, p.own bb x → x < w.heap.size from fun x hx => h.lt hx)
 have Hz := Lib.hid hz; have F0 := Lib.hid f0; have HG := Lib.hid (And.intro hg hg2); have Hs := Lib.hid s3
 have HW1 := Lib.hid hW1; have HW := Lib.hid hW
 have HRq := Lib.hid (fun (V : World) => rqcheck_ok q V)
 clear h f0 hg hg2 a1 a3 s1 s3 hW1 hW hz hsb
 rw [hb] at HRq
 simp only [if_true] at HRq
 clear hb
 go_enter Tryz.func27, Tryz.ntmps27
 go_upto_region 1 with fail
 rw [← HW1.out, ← HW.out, ← Hz.out]
 go_wp2_with fail
 refine HSh.out.mono ?_
 rintro e w1 ⟨rfl, f1⟩
 have F1 := Lib.hid f1
 have HG1 := Lib.hid (And.intro (f1.get HG.out.1 (fun h => h)) (f1.get HG.out.2 (fun h => h)))
 clear f1
 have q0 := (cell_of HG1.out.1 0).trans (show _ = some (Value.int .i64 q.kind) from rfl)
 have q1 := (cell_of HG1.out.1 1).trans (show _ = some (Value.int .u32 (q.tag : Int)) from rfl)
 have q2 := (cell_of HG1.out.1 2).trans (show _ = some (Value.int .u32 (q.id : Int)) from rfl)
 have q3 := (cell_of HG1.out.1 3).trans (show _ = some (Value.int .i64 q.seat) from rfl)
 have q4 := (cell_of HG1.out.1 4).trans (show _ = some (Value.int .i64 q.ttl) from rfl)
 go_wp2_with fail
 refine (HRq.out _).mono ?_
 rintro e w2 ⟨rfl, f2⟩
 have F2 := Lib.hid (F1.out.trans f2 (fun _ _ h => h))
 have HG2 := Lib.hid (And.intro (f2.get HG1.out.1 (fun h => h)) (f2.get HG1.out.2 (fun h => h)))
 clear f2 hq q0 q1 q2 q3 q4
 have q0 := (cell_of HG2.out.1 0).trans (show _ = some (Value.int .i64 q.kind) from rfl)
 have q1 := (cell_of HG2.out.1 1).trans (show _ = some (Value.int .u32 (q.tag : Int)) from rfl)
 have q2 := (cell_of HG2.out.1 2).trans (show _ = some (Value.int .u32 (q.id : Int)) from rfl)
 have q3 := (cell_of HG2.out.1 3).trans (show _ = some (Value.int .i64 q.seat) from rfl)
 have q4 := (cell_of HG2.out.1 4).trans (show _ = some (Value.int .i64 q.ttl) from rfl)
 obtain ⟨V1, hV1⟩ : ∃ V, V = w2.alloc (.cells #[.int .u32 (q.tag : Int), .int .i64 q.kind, .int .i64 0, .int .u32 0, .int .i64 0, .int .i64 0, .int .i64 0] 63) := ⟨_, rfl⟩
 obtain ⟨V, hV⟩ : ∃ V, V = V1.alloc (.cells #[.int .u32 0, .int .i64 0, .int .i64 0] 77) := ⟨_, rfl⟩
 obtain ⟨c, hc⟩ : ∃ c, c = w2.heap.size := ⟨_, rfl⟩
 have sc : V1.heap.size = c + 1 := by rw [hV1, hc]; simp
 have fV1 : Fr (fun _ => False) w2 V1 := by rw [hV1]; exact Fr.alloc (Fr.refl _ _) _
 have fV2 : Fr (fun _ => False) V1 V := by rw [hV]; exact Fr.alloc (Fr.refl _ _) _
 have fV : Fr (fun _ => False) w2 V := fV1.trans fV2 (fun _ _ h => h)
 have hgc : V.heap[c]? = some (rpO ⟨q.tag, q.kind, 0, 0, 0, 0, 0⟩) := fV2.get (show V1.heap[c]? = _ by rw [hV1, hc]; exact heap_alloc_at _ _) (fun h => h)
 have hgb : V.heap[c + 1]? = some (.cells #[.int .u32 0, .int .i64 0, .int .i64 0] 77 (0, 0)) := show V.heap[c + 1]? = _ by rw [hV, ← sc]; exact heap_alloc_at _ _
 have F3 := Lib.hid (F2.out.trans fV (fun _ _ h => h))
 have HG3 := Lib.hid (And.intro (fV.get HG2.out.1 (fun h => h)) (And.intro (fV.get HG2.out.2 (fun h => h)) (And.intro hgc hgb)))
 have HC := Lib.hid (show z + 2 ≤ c ∧ c + 1 < V.heap.size from ⟨by rw [hc, ← Hs.out]; exact F2.out.size, lt_of_block hgb⟩)
 have HV1 := Lib.hid hV1; have HV := Lib.hid hV; have Hc := Lib.hid hc; have Hsc := Lib.hid sc
 clear fV fV1 fV2 hgc hgb hV1 hV hc sc
 go_upto_region 7 with fail
 rw [← HV1.out, ← HV.out, ← Hc.out]
 try rw [Hsc.out]
 clear q0 q1 q2 q3 q4
 have q0 := (cell_of HG3.out.1 0).trans (show _ = some (Value.int .i64 q.kind) from rfl)
 have q1 := (cell_of HG3.out.1 1).trans (show _ = some (Value.int .u32 (q.tag : Int)) from rfl)
 have q2 := (cell_of HG3.out.1 2).trans (show _ = some (Value.int .u32 (q.id : Int)) from rfl)
 have q3 := (cell_of HG3.out.1 3).trans (show _ = some (Value.int .i64 q.seat) from rfl)
 have q4 := (cell_of HG3.out.1 4).trans (show _ = some (Value.int .i64 q.ttl) from rfl)
 go_upto_block 0 with fail
 go_cut [6] (fun s6 wx => s6 = .pointer (some ⟨c, 0, none⟩) ∧ wx.heap[c]? = some (rpO X) ∧ wx.heap[z + 1]? = some (rpO rp0) ∧ ∃ w4, Aft p bb b V w4 ∧ Fr (fun y => y = c ∨ y = c + 1) w4 wx)
 case first =>
  have Hown2 := Lib.hid (show ∀ x, z ≤ x → ¬ p.own bb x from fun x hx ho => by have := Hown.out x ho; have := Hz.out; omega)
  have HCall := Lib.hid ((len_ok (HB.out _ F3.out)).mono (fun e w' hh => (⟨hh.1, hh.2 ▸ Aft.same (HB.out _ F3.out) (Fr.refl _ _)⟩ : e = .returned (.int .i64 (b.L.length : Int)) ∧ Aft p bb b V w')))
  go_wp2_with fail
  refine HCall.out.mono ?_
  rintro e w4 ⟨rfl, a4⟩
  obtain ⟨p4, hB4, hF4, hO4⟩ := id a4
  have HA4 := Lib.hid a4
  have hc4 := hF4.get HG3.out.2.2.1 (Hown2.out _ (by have := HC.out; omega))
  have hb4 := hF4.get HG3.out.2.2.2 (Hown2.out _ (by have := HC.out; omega))
  have hz4 := hF4.get HG3.out.2.1 (Hown2.out _ (by omega))
  clear hB4 hF4 hO4 a4 q0 q1 q2 q3 q4
  have p6 := (cell_of hc4 6).trans (show _ = some (Value.int .i64 0) from rfl)
  have y6 := free_of hc4 6
  have HG5 := Lib.hid (And.intro hb4 (And.intro hc4 hz4))
  clear hb4 hc4 hz4
  go_wp2_with fail
  go_meet
  exact ⟨rfl, by rw [HX.out]; exact (setCell_blk (o := 6) HG5.out.2.1 _).trans rfl, Fr.get (Fr.setCell (F := fun y => y = c) (p := ⟨c, 6, none⟩) (Fr.refl _ _) (fun _ => rfl) _) HG5.out.2.2 (by have := HC.out; omega), w4, HA4.out, Fr.setCell (F := fun y => y = c ∨ y = c + 1) (p := ⟨c, 6, none⟩) (Fr.refl _ _) (fun _ => .inl rfl) _⟩
 case rest =>
 obtain ⟨rfl, hb, hb2, w4, hA, h4⟩ := hcut
 have hf := repW_fr wc (z + 1) (X.tag : Int) X.kind X.err (X.id : Int) X.seat X.till X.count
 have HP := Lib.hid (show Aft p bb b w (repW wc (z + 1) (X.tag : Int) X.kind X.err (X.id : Int) X.seat X.till X.count) from aft_end (G := fun y => y = c ∨ y = c + 1 ∨ y = z + 1) (F0.out.trans F3.out (fun _ _ h => h)) hA ((h4.mono (fun _ _ h => h.imp (fun h => h) (fun h => .inl h))).trans hf (fun y _ e => .inr (.inr e))) (fun y hy => ⟨by have := HC.out; omega, fun ho => by have := Hown.out y ho; have := Hz.out; have := HC.out; omega, by have := Hz.out; have := HC.out; omega⟩))
 have HE2 := Lib.hid (repW_at (x := rp0) hb2 (X.tag : Int) X.kind X.err (X.id : Int) X.seat X.till X.count)
 clear q0 q1 q2 q3 q4 hA h4 hf
 obtain ⟨p0, p1, p2, p3, p4, p5, p6⟩ := rp_cells hb
 have s := rp_cells hb2
 obtain ⟨y0, y1, y2, y3, y4, y5, y6⟩ := rp_free hb2
 simp only [rp0] at s
 obtain ⟨s0, s1, s2, s3, s4, s5, s6⟩ := s
 clear hb hb2
 go_wp2_with fail
 refine bodyPost_ret (v := ansV ⟨X, 0⟩) ?_ rfl ⟨rfl, HP.out⟩
 obtain ⟨e0, e1, e2, e3, e4, e5, e6⟩ := rp_cells (x := X) HE2.out
 simp [results, Tryz.f27, go_sem, e0, e1, e2, e3, e4, e5, e6]
set_option maxRecDepth 100000 in
set_option maxHeartbeats 4000000 in
theorem answer_ok {p : Pt} {bb : Nat} {b : Bk} {w : World} (h : BkP p bb b.next b b.L b.L w) (q : Rq) (hid : q.id < 4294967296) : Calls Tryz.prog 27 #[.pointer (some ⟨bb, 0, none⟩), rqV q] w (AnsP p bb b w (ansD b q)) := by
 by_cases hb : rqOk q = true
 ·by_cases k5 : q.kind = 5
  ·cases hf : bFind b.L q.id with
   | none => exact ans_5 h q k5 hb hid (xx := (0, 0, 0)) (n := 171) (by rw [hf]; rfl) (by unfold ansD; rw [if_neg (by rw [hb]; simp), if_pos k5, hf]) rfl
   | some x => exact ans_5 h q k5 hb hid (xx := x) (n := 0) (by rw [hf]; rfl) (by unfold ansD; rw [if_neg (by rw [hb]; simp), if_pos k5, hf]) rfl
  ·by_cases k6 : q.kind = 6
   ·by_cases hs : (b.seats : Int) ≤ q.seat
    ·exact ans_6 h q k6 hb (xx := (0, 0, 0)) (n := 140) (by unfold atE; rw [if_pos (.inr hs)]) (by unfold ansD; rw [if_neg (by rw [hb]; simp), if_neg k5, if_pos k6, if_pos hs]) rfl
    ·have h0 := (rqOk_seat hb).1
     cases hf : bSeat b.L q.seat with
     | none => exact ans_6 h q k6 hb (xx := (0, 0, 0)) (n := 171) (by unfold atE; rw [if_neg (by omega), hf]) (by unfold ansD; rw [if_neg (by rw [hb]; simp), if_neg k5, if_pos k6, if_neg hs, hf]) rfl
     | some x => exact ans_6 h q k6 hb (xx := x) (n := 0) (by unfold atE; rw [if_neg (by omega), hf]) (by unfold ansD; rw [if_neg (by rw [hb]; simp), if_neg k5, if_pos k6, if_neg hs, hf]) rfl
   ·by_cases k10 : q.kind = 10
    ·exact ans_10 h q k10 hb (by unfold ansD; rw [if_neg (by rw [hb]; simp), if_neg k5, if_neg k6, if_pos k10]) rfl
    ·exact ans_no h q hb ⟨k5, k6, k10⟩ (by unfold ansD; rw [if_neg (by rw [hb]; simp), if_neg k5, if_neg k6, if_neg k10])
 ·have hb' : rqOk q = false := by simpa using hb
  exact ans_bad h q hb' (by unfold ansD; rw [if_pos hb'])
end Go.Proofs.YtebdcahjlcgonaaGreat.Cs
namespace Go.Proofs.YtebdcahjlcgonaaGreat.Cs
open Go.RowKit Go.Shelf Go.Proofs.YtebdcahjlcgonaaGreat.Bk
attribute [local go_sem] Oper.semAt_some
theorem RulesV.fr {w w' : World} {v : Value} {L : List Nat} (h : RulesV w v L) {F : Nat → Prop} (f : Fr F w w') (hF : ∀ g, v.ownBlock = some g → ¬ F g) : RulesV w' v L := by
 rcases h with h | ⟨g, h1, h2⟩
 ·exact .inl h
 ·exact .inr ⟨g, h1, f.get h2 (hF g (by rw [h1]; rfl))⟩
set_option maxRecDepth 100000 in
set_option maxHeartbeats 4000000 in
theorem decide_good {p : Pt} {bb : Nat} {b : Bk} {w : World} (h : BkP p bb b.next b b.L b.L w) (q : Rq) (room : Int) (hid : q.id < 4294967296) (hgood : (rqOk q && isCh q.kind) = true) : Calls Tryz.prog 26 #[.pointer (some ⟨bb, 0, none⟩), .int .i64 room, rqV q] w (DecP p bb b w (decD b room q)) := by
 have hch : isCh q.kind = true := by simp at hgood; exact hgood.2
 have hrq : rqOk q = true := by simp at hgood; exact hgood.1
 have HCh1 := Lib.hid hch
 have HDec := Lib.hid (show decD b room q = if refE b room q = 0 then ⟨recOf b q, repOf q (recOf b q), true, 0⟩ else ⟨rc0, ⟨q.tag, q.kind, (refE b room q : Nat), 0, 0, 0, 0⟩, false, 0⟩ by unfold decD; rw [if_neg (by rw [hgood]; simp)])
 have HRq := Lib.hid (fun (V : World) => rqcheck_ok q V)
 rw [hrq] at HRq
 simp only [if_true] at HRq
 obtain ⟨E, hE⟩ : ∃ E, E = rulesE b room q := ⟨_, rfl⟩
 have hfst := rules_fst (b := b) (room := room) hch
 rw [← hE] at hfst
 have HFst := Lib.hid hfst
 have HAll := Lib.hid (show ∀ x ∈ E, RuleOk bb b q (recOf b q) room x.1 x.2 by rw [hE]; exact rules_ok hch hid)
 clear hgood hch hrq hE hfst hid
 obtain ⟨W1, hW1⟩ : ∃ W, W = w.alloc (rqC q) := ⟨_, rfl⟩
 obtain ⟨W2, hW2⟩ : ∃ W, W = W1.alloc (.cells #[.int .i64 0, .int .u32 0, .int .i64 0, .int .i64 0, .int .i64 0] 46) := ⟨_, rfl⟩
 obtain ⟨W, hW⟩ : ∃ W, W = W2.alloc (.cells #[.int .u32 0, .int .i64 0, .int .i64 0, .int .u32 0, .int .i64 0, .int .i64 0, .int .i64 0] 63) := ⟨_, rfl⟩
 obtain ⟨z, hz⟩ : ∃ z, z = w.heap.size := ⟨_, rfl⟩
 have s1 : W1.heap.size = z + 1 := by rw [hW1, hz]; simp
 have s2 : W2.heap.size = z + 2 := by rw [hW2]; simp [s1]
 have s3 : W.heap.size = z + 3 := by rw [hW]; simp [s2]
 have a1 : Fr (fun _ => False) w W1 := by rw [hW1]; exact Fr.alloc (Fr.refl _ _) _
 have a2 : Fr (fun _ => False) W1 W2 := by rw [hW2]; exact Fr.alloc (Fr.refl _ _) _
 have a3 : Fr (fun _ => False) W2 W := by rw [hW]; exact Fr.alloc (Fr.refl _ _) _
 have f0 : Fr (fun _ => False) w W := (a1.trans a2 (fun _ _ h => h)).trans a3 (fun _ _ h => h)
 have hg : W.heap[z]? = some (rqO q) := a3.get (a2.get (show W1.heap[z]? = _ by rw [hW1, hz]; exact heap_alloc_at _ _) (fun h => h)) (fun h => h)
 have hg1 : W.heap[z + 1]? = some (.cells #[.int .i64 0, .int .u32 0, .int .i64 0, .int .i64 0, .int .i64 0] 46 (0, 0)) := a3.get (show W2.heap[z + 1]? = _ by rw [hW2, ← s1]; exact heap_alloc_at _ _) (fun h => h)
 have hg2 : W.heap[z + 2]? = some (rpO rp0) := show W.heap[z + 2]? = _ by rw [hW, ← s2]; exact heap_alloc_at _ _
 have HSh := Lib.hid (shape_ok (h.keep f0))
 have HCh := Lib.hid (fun (V : World) (fV : Fr (fun _ => False) W V) => change_ok ((h.keep f0).keep fV) q)
 have HB := Lib.hid (fun (V : World) (fV : Fr (fun _ => False) W V) => (h.keep f0).keep fV)
 have hsb : decide ((b.seats : Int) = 0 ∧ (b.codes : Int) = 0 ∧ (b.group : Int) = 0) = false := by have := h.raw.s0; simp; omega
 have hq : ∀ V : World, (binOp .eql 23 (.agg #[.int .i64 (b.seats : Int), .int .i64 (b.codes : Int), .int .i64 (b.group : Int)]) (.agg #[.int .i64 0, .int .i64 0, .int .i64 0])).run Tryz.prog V = .ok (.bool false) V := fun V => by rw [← hsb]; exact shEq V _ _ _
 have Hown := Lib.hid (show ∀ x, p.own bb x → x < w.heap.size from fun x hx => h.lt hx)
 have Hz := Lib.hid hz; have F0 := Lib.hid f0; have HG := Lib.hid (And.intro hg (And.intro hg1 hg2)); have Hs := Lib.hid s3
 have HW1 := Lib.hid hW1; have HW2 := Lib.hid hW2; have HW := Lib.hid hW; have H := Lib.hid h
 have z0 := (cell_of hg 0).trans (show _ = some (Value.int .i64 q.kind) from rfl)
 clear h f0 hg hg1 hg2 a1 a2 a3 s1 s2 s3 hW1 hW2 hW hz hsb
 go_enter Tryz.func26, Tryz.ntmps26
 go_upto_region 1 with fail
 rw [← HW1.out, ← HW2.out, ← HW.out, ← Hz.out]
 try rw [show z + 1 + 1 = z + 2 by omega]
 clear z0
 go_wp2_with fail
 refine HSh.out.mono ?_
 rintro e w1 ⟨rfl, f1⟩
 have F1 := Lib.hid f1
 have hgq := f1.get HG.out.1 (fun h => h)
 have q0 := (cell_of hgq 0).trans (show _ = some (Value.int .i64 q.kind) from rfl)
 have q1 := (cell_of hgq 1).trans (show _ = some (Value.int .u32 (q.tag : Int)) from rfl)
 have q2 := (cell_of hgq 2).trans (show _ = some (Value.int .u32 (q.id : Int)) from rfl)
 have q3 := (cell_of hgq 3).trans (show _ = some (Value.int .i64 q.seat) from rfl)
 have q4 := (cell_of hgq 4).trans (show _ = some (Value.int .i64 q.ttl) from rfl)
 clear f1 hgq
 go_upto_region 3 with fail
 go_wp2_with fail
 refine (HCh.out _ F1.out).mono ?_
 rintro e w2 ⟨vr, rfl, hrl, hro, f2⟩
 have F2 := Lib.hid (F1.out.trans f2 (fun _ _ h => h))
 obtain ⟨r, hr⟩ : ∃ r, r = chRec b q := ⟨_, rfl⟩
 rw [← hr]
 have HR := Lib.hid hr
 obtain ⟨W3, hW3⟩ : ∃ W, W = w2.alloc (rcC r) := ⟨_, rfl⟩
 obtain ⟨y, hy⟩ : ∃ y, y = w2.heap.size := ⟨_, rfl⟩
 have f3 : Fr (fun _ => False) w2 W3 := by rw [hW3]; exact Fr.alloc (Fr.refl _ _) _
 have hgy : W3.heap[y]? = some (rcC r) := by rw [hW3, hy]; exact heap_alloc_at _ _
 have F3 := Lib.hid (F2.out.trans f3 (fun _ _ h => h))
 have HRl := Lib.hid (RulesV.keep hrl f3 (fun _ h => h.elim))
 have HGy := Lib.hid hgy
 have HY := Lib.hid (show z + 3 ≤ y ∧ y < W3.heap.size from ⟨by rw [hy, ← Hs.out]; exact F2.out.size, lt_of_block hgy⟩)
 have HG3 := Lib.hid (show W3.heap[z]? = some (rqO q) ∧ W3.heap[z + 1]? = some (.cells #[.int .i64 0, .int .u32 0, .int .i64 0, .int .i64 0, .int .i64 0] 46 (0, 0)) ∧ W3.heap[z + 2]? = some (rpO rp0) from ⟨F3.out.get HG.out.1 (fun h => h), F3.out.get HG.out.2.1 (fun h => h), F3.out.get HG.out.2.2 (fun h => h)⟩)
 have HRo := Lib.hid hro
 clear f2 f3 hrl hro hr q0 q1 q2 q3 q4 hgy
 go_upto_region 4 with fail
 rw [← hW3, ← hy]
 clear hW3 hy hq
 rw [HCh1.out]
 have hrr : r = recOf b q := by rw [HR.out]; exact if_pos HCh1.out
 have HRec := Lib.hid hrr
 have HAll2 := Lib.hid (show ∀ x ∈ E, RuleOk bb b q r room x.1 x.2 by rw [hrr]; exact HAll.out)
 have HRl2 := Lib.hid (show RulesV W3 vr (E.map (·.1)) by rw [HFst.out.1]; exact HRl.out)
 clear hrr
 have q0 := (cell_of HG3.out.1 0).trans (show _ = some (Value.int .i64 q.kind) from rfl)
 have q1 := (cell_of HG3.out.1 1).trans (show _ = some (Value.int .u32 (q.tag : Int)) from rfl)
 have q2 := (cell_of HG3.out.1 2).trans (show _ = some (Value.int .u32 (q.id : Int)) from rfl)
 have q3 := (cell_of HG3.out.1 3).trans (show _ = some (Value.int .i64 q.seat) from rfl)
 have q4 := (cell_of HG3.out.1 4).trans (show _ = some (Value.int .i64 q.ttl) from rfl)
 go_wp2_with fail
 refine (HRq.out _).mono ?_
 rintro e w4 ⟨rfl, f4⟩
 have F4 := Lib.hid (F3.out.trans f4 (fun _ _ h => h))
 have HG4 := Lib.hid (show w4.heap[z]? = some (rqO q) ∧ w4.heap[z + 1]? = some (.cells #[.int .i64 0, .int .u32 0, .int .i64 0, .int .i64 0, .int .i64 0] 46 (0, 0)) ∧ w4.heap[z + 2]? = some (rpO rp0) ∧ w4.heap[y]? = some (rcC r) from ⟨F4.out.get HG.out.1 (fun h => h), F4.out.get HG.out.2.1 (fun h => h), F4.out.get HG.out.2.2 (fun h => h), f4.get HGy.out (fun h => h)⟩)
 have HY4 := Lib.hid (show z + 3 ≤ y ∧ y < w4.heap.size from ⟨HY.out.1, Nat.lt_of_lt_of_le HY.out.2 f4.size⟩)
 have HRl4 := Lib.hid (HRl2.out.fr f4 (fun _ _ h => h))
 clear f4 q0 q1 q2 q3 q4
 obtain ⟨n, hn⟩ : ∃ n, n = E.length := ⟨_, rfl⟩
 have hlen : (E.map (·.1)).length = n := by rw [List.length_map, hn]
 obtain ⟨a, hva⟩ := HRl4.out.slice
 rw [hlen] at hva
 have HVa := Lib.hid hva
 have HN := Lib.hid hn
 have hn6 : n ≤ 6 := by rw [hn]; exact HFst.out.2.2
 have hn6' : (n : Int) ≤ 6 := by omega
 have Hn6 := Lib.hid hn6
 rw [hva]
 clear hva hn hlen hn6
 go_wp2_with fail
 go_loopw [40] (fun s40 wr => ∃ i : Nat, s40 = .int .i64 (i : Int) ∧ i ≤ n ∧ (∀ j (h : j < E.length), j < i → E[j].2 = 0) ∧ Aft p bb b w4 wr) (fun s40 _ => n - (intOf s40).toNat)
 case atStart => exact ⟨0, rfl, Nat.zero_le _, fun j _ h => by omega, Aft.same (HB.out _ F4.out) (Fr.refl _ _)⟩
 case round =>
  obtain ⟨i, rfl, hi, hz0, hA⟩ := hrel
  have HZ0 := Lib.hid hz0; have HA := Lib.hid hA
  obtain ⟨p', hB', hF', hO'⟩ := hA
  have nown : ∀ x, z ≤ x → ¬ p.own bb x := fun x hx ho => by have := Hown.out x ho; have := Hz.out; omega
  have HGr := Lib.hid (show wr.heap[z]? = some (rqO q) ∧ wr.heap[z + 1]? = some (.cells #[.int .i64 0, .int .u32 0, .int .i64 0, .int .i64 0, .int .i64 0] 46 (0, 0)) ∧ wr.heap[z + 2]? = some (rpO rp0) ∧ wr.heap[y]? = some (rcC r) from ⟨hF'.get HG4.out.1 (nown _ (by omega)), hF'.get HG4.out.2.1 (nown _ (by omega)), hF'.get HG4.out.2.2.1 (nown _ (by omega)), hF'.get HG4.out.2.2.2 (nown _ (by have := HY4.out; omega))⟩)
  have HRlr := Lib.hid (HRl4.out.fr hF' (fun g hg => nown g (by have := HRo.out g (by first | exact hg | simpa using hg); have := F1.out.size; have := Hs.out; omega)))
  have HB' := Lib.hid hB'; have HF' := Lib.hid hF'; have HO' := Lib.hid hO'; have Hnown := Lib.hid nown
  clear hz0 hB' hF' hO' nown
  have q0 := (cell_of HGr.out.1 0).trans (show _ = some (Value.int .i64 q.kind) from rfl)
  have q1 := (cell_of HGr.out.1 1).trans (show _ = some (Value.int .u32 (q.tag : Int)) from rfl)
  have q2 := (cell_of HGr.out.1 2).trans (show _ = some (Value.int .u32 (q.id : Int)) from rfl)
  have q3 := (cell_of HGr.out.1 3).trans (show _ = some (Value.int .i64 q.seat) from rfl)
  have q4 := (cell_of HGr.out.1 4).trans (show _ = some (Value.int .i64 q.ttl) from rfl)
  have k0 := (cell_of HGr.out.2.2.2 0).trans (show _ = some (Value.int .i64 r.kind) from rfl)
  have k1 := (cell_of HGr.out.2.2.2 1).trans (show _ = some (Value.int .u32 (r.id : Int)) from rfl)
  have k2 := (cell_of HGr.out.2.2.2 2).trans (show _ = some (Value.int .i64 r.seat) from rfl)
  have k3 := (cell_of HGr.out.2.2.2 3).trans (show _ = some (Value.int .i64 r.till) from rfl)
  have k4 := (cell_of HGr.out.2.2.2 4).trans (show _ = some (Value.int .i64 r.clock) from rfl)
  have u0 := (cell_of HGr.out.2.1 0).trans (show _ = some (Value.int .i64 0) from rfl)
  have v0 := free_of HGr.out.2.1 0
  have u1 := (cell_of HGr.out.2.1 1).trans (show _ = some (Value.int .u32 0) from rfl)
  have v1 := free_of HGr.out.2.1 1
  have u2 := (cell_of HGr.out.2.1 2).trans (show _ = some (Value.int .i64 0) from rfl)
  have v2 := free_of HGr.out.2.1 2
  have u3 := (cell_of HGr.out.2.1 3).trans (show _ = some (Value.int .i64 0) from rfl)
  have v3 := free_of HGr.out.2.1 3
  have u4 := (cell_of HGr.out.2.1 4).trans (show _ = some (Value.int .i64 0) from rfl)
  have v4 := free_of HGr.out.2.1 4
  have s0 := (cell_of HGr.out.2.2.1 0).trans (show _ = some (Value.int .u32 0) from rfl)
  have t0 := free_of HGr.out.2.2.1 0
  have s1 := (cell_of HGr.out.2.2.1 1).trans (show _ = some (Value.int .i64 0) from rfl)
  have t1 := free_of HGr.out.2.2.1 1
  have s2 := (cell_of HGr.out.2.2.1 2).trans (show _ = some (Value.int .i64 0) from rfl)
  have t2 := free_of HGr.out.2.2.1 2
  have s3 := (cell_of HGr.out.2.2.1 3).trans (show _ = some (Value.int .u32 0) from rfl)
  have t3 := free_of HGr.out.2.2.1 3
  have s4 := (cell_of HGr.out.2.2.1 4).trans (show _ = some (Value.int .i64 0) from rfl)
  have t4 := free_of HGr.out.2.2.1 4
  have s5 := (cell_of HGr.out.2.2.1 5).trans (show _ = some (Value.int .i64 0) from rfl)
  have t5 := free_of HGr.out.2.2.1 5
  have s6 := (cell_of HGr.out.2.2.1 6).trans (show _ = some (Value.int .i64 0) from rfl)
  have t6 := free_of HGr.out.2.2.1 6
  by_cases hlt : i < n
  ·have hlt' : (i : Int) < (n : Int) := by omega
   have i0 : (0 : Int) ≤ (i : Int) := by omega
   have hiE : i < E.length := by rw [← HN.out]; exact hlt
   obtain ⟨g, e1, d0⟩ := HRlr.out.cell (i := i) (by rw [List.length_map]; exact hiE)
   have e2 := HVa.out
   rw [e1, List.length_map, ← HN.out] at e2
   obtain ⟨rfl, -, -⟩ := Value.slice.inj e2
   simp only [List.getElem_map] at d0
   obtain ⟨fl, ev, hx⟩ : ∃ fl ev, E[i] = (fl, ev) := ⟨_, _, rfl⟩
   rw [hx] at d0
   simp only at d0
   have HRo2 := HAll2.out (fl, ev) (by rw [← hx]; exact List.getElem_mem hiE)
   have hent := HRo2.enter
   have HCall := Lib.hid (HRo2.call wr p' HB'.out)
   have HX := Lib.hid (show ∀ h : i < E.length, E[i].2 = ev from fun _ => by rw [hx])
   have HLt := Lib.hid hlt; have HiE := Lib.hid hiE
   have ev0 : (0 : Int) ≤ (ev : Int) := by omega
   clear hx HRo2 e1 e2 hlt hi hiE
   go_wp2_with fail
   refine HCall.out.mono ?_
   rintro e w5 ⟨rfl, a5⟩
   have A5 := Lib.hid (show Aft p bb b w4 w5 from a5.of HF'.out HO'.out)
   clear a5 hent d0 q0 k0 u0 v0 q1 k1 u1 v1 q2 k2 u2 v2 q3 k3 u3 v3 q4 k4 u4 v4 s0 t0 s1 t1 s2 t2 s3 t3 s4 t4 s5 t5 s6 t6
   by_cases hev : ev = 0
   ·have b1 : ((ev : Int) != 0) = false := by simp [hev]
    have HEv := Lib.hid hev
    obtain ⟨i1, hi1⟩ : ∃ i1, i1 = i + 1 := ⟨_, rfl⟩
    have j1 : (i : Int) + 1 = (i1 : Int) := by rw [hi1]; push_cast; rfl
    have j2 : wrap64 (i1 : Int) = (i1 : Int) := by unfold wrap64; have := HLt.out; have := Hn6.out; omega
    have j3 : IntKind.i64.wrap (i1 : Int) = (i1 : Int) := by rw [IntKind.wrap_i64]; have := HLt.out; have := Hn6.out; omega
    have HI1 := Lib.hid hi1
    clear hev hi1
    go_wp2_with fail
    go_roundw
    case rel => exact ⟨i1, rfl, by have := HI1.out; have := HLt.out; omega, fun j h hj => by
     by_cases e : j = i
     ·subst e; rw [HX.out h]; exact HEv.out
     ·exact HZ0.out j h (by have := HI1.out; omega), A5.out⟩
    case measure => have := HI1.out; have := HLt.out; simp [intOf]; omega
   ·have b1 : ((ev : Int) != 0) = true := by simpa using hev
    have HDv := Lib.hid (show decD b room q = ⟨rc0, ⟨q.tag, q.kind, (ev : Int), 0, 0, 0, 0⟩, false, 0⟩ by
     have e1 : refE b room q = ev := by
      have h1 := HX.out HiE.out
      rw [HFst.out.2.1, firstE_at (l := E.map (·.2)) (i := i) (by rw [List.length_map]; exact HiE.out) (fun j h hj => by rw [List.getElem_map]; exact HZ0.out j (by simpa using h) hj) (by rw [List.getElem_map, h1]; exact hev)]
      rw [List.getElem_map, h1]
     rw [HDec.out, e1, if_neg hev])
    obtain ⟨p5, hB5, hF5, hO5⟩ := A5.out
    have HG5 := Lib.hid (show w5.heap[z]? = some (rqO q) ∧ w5.heap[z + 1]? = some (.cells #[.int .i64 0, .int .u32 0, .int .i64 0, .int .i64 0, .int .i64 0] 46 (0, 0)) ∧ w5.heap[z + 2]? = some (rpO rp0) from ⟨hF5.get HG4.out.1 (Hnown.out _ (by omega)), hF5.get HG4.out.2.1 (Hnown.out _ (by omega)), hF5.get HG4.out.2.2.1 (Hnown.out _ (by omega))⟩)
    clear hev hB5 hF5 hO5
    have q0 := (cell_of HG5.out.1 0).trans (show _ = some (Value.int .i64 q.kind) from rfl)
    have q1 := (cell_of HG5.out.1 1).trans (show _ = some (Value.int .u32 (q.tag : Int)) from rfl)
    have u0 := (cell_of HG5.out.2.1 0).trans (show _ = some (Value.int .i64 0) from rfl)
    have v0 := free_of HG5.out.2.1 0
    have u1 := (cell_of HG5.out.2.1 1).trans (show _ = some (Value.int .u32 0) from rfl)
    have v1 := free_of HG5.out.2.1 1
    have u2 := (cell_of HG5.out.2.1 2).trans (show _ = some (Value.int .i64 0) from rfl)
    have v2 := free_of HG5.out.2.1 2
    have u3 := (cell_of HG5.out.2.1 3).trans (show _ = some (Value.int .i64 0) from rfl)
    have v3 := free_of HG5.out.2.1 3
    have u4 := (cell_of HG5.out.2.1 4).trans (show _ = some (Value.int .i64 0) from rfl)
    have v4 := free_of HG5.out.2.1 4
    have s0 := (cell_of HG5.out.2.2 0).trans (show _ = some (Value.int .u32 0) from rfl)
    have t0 := free_of HG5.out.2.2 0
    have s1 := (cell_of HG5.out.2.2 1).trans (show _ = some (Value.int .i64 0) from rfl)
    have t1 := free_of HG5.out.2.2 1
    have s2 := (cell_of HG5.out.2.2 2).trans (show _ = some (Value.int .i64 0) from rfl)
    have t2 := free_of HG5.out.2.2 2
    have s3 := (cell_of HG5.out.2.2 3).trans (show _ = some (Value.int .u32 0) from rfl)
    have t3 := free_of HG5.out.2.2 3
    have s4 := (cell_of HG5.out.2.2 4).trans (show _ = some (Value.int .i64 0) from rfl)
    have t4 := free_of HG5.out.2.2 4
    have s5 := (cell_of HG5.out.2.2 5).trans (show _ = some (Value.int .i64 0) from rfl)
    have t5 := free_of HG5.out.2.2 5
    have s6 := (cell_of HG5.out.2.2 6).trans (show _ = some (Value.int .i64 0) from rfl)
    have t6 := free_of HG5.out.2.2 6
    have HSS := Lib.hid (fun (V : World) (f : Fr (fun x => x = z + 1 ∨ x = z + 2) w5 V) => (⟨f, (cell_of (f.get HG5.out.1 (by omega)) 1).trans rfl, (cell_of (f.get HG5.out.1 (by omega)) 0).trans rfl⟩ : Fr (fun x => x = z + 1 ∨ x = z + 2) w5 V ∧ V.cell? ⟨z, 1, none⟩ = some (.int .u32 (q.tag : Int)) ∧ V.cell? ⟨z, 0, none⟩ = some (.int .i64 q.kind)))
    have HEnd := Lib.hid (out_end (z1 := z + 1) (z2 := z + 2) (by omega) HG5.out.2.1 HG5.out.2.2 rc0 ⟨q.tag, q.kind, (ev : Int), 0, 0, 0, 0⟩)
    clear q0 q1
    go_upto_region 11 with fail
    refine wp_region_held_drew (S := fun w' => Fr (fun x => x = z + 1 ∨ x = z + 2) w5 w' ∧ w'.cell? ⟨z, 1, none⟩ = some (.int .u32 (q.tag : Int)) ∧ w'.cell? ⟨z, 0, none⟩ = some (.int .i64 q.kind)) (by kernel_rfl) (by exact HSS.out _ (Fr.drew (Fr.refl _ _))) (fun hHeld => ?_)
    refine wpAnyH_take (i := 0) (v := ?_) rfl (by kernel_rfl) (by kernel_rfl) (by kernel_rfl) (fun _ _ _ h => h) (Or.inl ⟨by rfl, ?_⟩) (by assumption) ?_
    rotate_left
    ·intro w' hSw; (try dsimp only at hSw); go_simp; try with_reducible rfl
    try simp only [Act.put, List.getElem_toArray, List.getElem_cons_zero, List.setIfInBounds_toArray, List.set_cons_zero, List.set_cons_succ]
    refine wpAnyH_take (i := 1) (v := ?_) rfl (by kernel_rfl) (by kernel_rfl) (by kernel_rfl) (fun _ _ _ h => h) (Or.inl ⟨by rfl, ?_⟩) (by assumption) ?_
    rotate_left
    ·intro w' hSw; (try dsimp only at hSw); go_simp; try with_reducible rfl
    try simp only [Act.put, sL]
    refine wpAnyH_take (i := 2) (v := ?_) rfl (by kernel_rfl) (by kernel_rfl) (by kernel_rfl) (fun _ _ _ h => h) (Or.inl ⟨by rfl, ?_⟩) (by assumption) ?_
    rotate_left
    ·intro w' hSw; (try dsimp only at hSw); go_simp; try with_reducible rfl
    try simp only [Act.put, sL]
    refine wpAnyH_take (i := 3) (v := ?_) rfl (by kernel_rfl) (by kernel_rfl) (by kernel_rfl) (fun _ _ _ h => h) (Or.inl ⟨by rfl, ?_⟩) (by assumption) ?_
    rotate_left
    ·intro w' hSw; (try dsimp only at hSw); go_simp; try with_reducible rfl
    try simp only [Act.put, sL]
    refine wpAnyH_take (i := 4) (v := ?_) rfl (by kernel_rfl) (by kernel_rfl) (by kernel_rfl) (fun _ _ _ h => h) (Or.inl ⟨by rfl, ?_⟩) (by assumption) ?_
    rotate_left
    ·intro w' hSw; (try dsimp only at hSw); go_simp; try with_reducible rfl
    try simp only [Act.put, sL]
    refine wpAnyH_take (i := 5) (v := ?_) rfl (by kernel_rfl) (by kernel_rfl) (by kernel_rfl) (fun _ _ _ h => h) (Or.inl ⟨by rfl, ?_⟩) (by assumption) ?_
    rotate_left
    ·intro w' hSw; (try dsimp only at hSw); go_simp; try with_reducible rfl
    try simp only [Act.put, sL]
    refine wpAnyH_take (i := 6) (v := ?_) rfl (by kernel_rfl) (by kernel_rfl) (by kernel_rfl) (fun _ _ _ h => h) (Or.inl ⟨by rfl, ?_⟩) (by assumption) ?_
    rotate_left
    ·intro w' hSw; (try dsimp only at hSw); go_simp; try with_reducible rfl
    try simp only [Act.put, sL]
    refine wpAnyH_ready (rs := [7]) (by kernel_rfl) (by simp) ?_
    refine AllReadyH.cons rfl (fun K hK => ?_) AllReadyH.nil
    go_simp
    skip
    try go_simp
    refine hK.out _ _ ?_ (fun hHeld => ?_)
    ·(try dsimp only); exact HSS.out _ (Fr.drew ((recW_fr w5 (z + 1) _ _ _ _ _).mono (fun _ _ e => .inl e)))
    clear hK K
    try simp only [Act.put, sL]
    refine wpAnyH_ready (rs := [8]) (by kernel_rfl) (by simp) ?_
    refine AllReadyH.cons rfl (fun K hK => ?_) AllReadyH.nil
    go_simp
    skip
    try go_simp
    refine hK.out _ _ ?_ (fun hHeld => ?_)
    ·(try dsimp only); exact HSS.out _ (Fr.drew HEnd.out.1.2.2)
    clear hK K
    try simp only [Act.put, sL]
    refine wpAnyH_take (i := 9) (v := ?_) rfl (by kernel_rfl) (by kernel_rfl) (by kernel_rfl) (fun _ _ _ h => h) (Or.inl ⟨by rfl, ?_⟩) (by assumption) ?_
    rotate_left
    ·intro w' hSw; (try dsimp only at hSw); go_simp; try with_reducible rfl
    try simp only [Act.put, sL]
    refine wpAnyH_take (i := 10) (v := ?_) rfl (by kernel_rfl) (by kernel_rfl) (by kernel_rfl) (fun _ _ _ h => h) (Or.inl ⟨by rfl, ?_⟩) (by assumption) ?_
    rotate_left
    ·intro w' hSw; (try dsimp only at hSw); go_simp; try with_reducible rfl
    try simp only [Act.put, sL]
    refine wpAnyH_done (by kernel_rfl) ?_ _
    obtain ⟨o1, o2, o3⟩ := HEnd.out.1
    have HP := Lib.hid (aft_to (aft_end (F0.out.trans F4.out (fun _ _ h => h)) A5.out o3 (fun x hx => ⟨by have := HY4.out; omega, fun ho => by have := Hown.out x ho; have := Hz.out; omega, by have := Hz.out; omega⟩)) (Fr.drew (Fr.refl _ _)))
    have HE1 := Lib.hid o1; have HE2 := Lib.hid o2
    clear o1 o2 o3
    go_wp2_with fail
    refine bodyPost_ret (v := decV ⟨rc0, ⟨q.tag, q.kind, (ev : Int), 0, 0, 0, 0⟩, false, 0⟩) ?_ rfl (by rw [HDv.out]; exact ⟨rfl, HP.out⟩)
    obtain ⟨e0, e1, e2, e3, e4⟩ := rc_cells5 HE1.out
    obtain ⟨p0, p1, p2, p3, p4, p5, p6⟩ := rp_cells HE2.out
    simp only [rc0] at e0 e1 e2 e3 e4 p0 p1 p2 p3 p4 p5 p6
    simp [results, Tryz.f26, go_sem, rc0, u0, u1, u2, u3, u4, s0, s1, s2, s3, s4, s5, s6]
  ·have hin : i = n := by omega
   have HDv := Lib.hid (show decD b room q = ⟨r, repOf q r, true, 0⟩ by
    have e1 : refE b room q = 0 := by
     rw [HFst.out.2.1]
     exact firstE_all (fun j h => by rw [List.getElem_map]; exact HZ0.out j (by simpa using h) (by have := HN.out; have : j < E.length := (by simpa using h); omega))
    rw [HDec.out, e1, if_pos rfl, HRec.out])
   have hlt' : ¬ (i : Int) < (n : Int) := by omega
   have HSS := Lib.hid (fun (V : World) (f : Fr (fun x => x = z + 1 ∨ x = z + 2) wr V) => (⟨f, (cell_of (f.get HGr.out.1 (by omega)) 0).trans rfl, (cell_of (f.get HGr.out.1 (by omega)) 1).trans rfl, (cell_of (f.get HGr.out.1 (by omega)) 2).trans rfl, (cell_of (f.get HGr.out.1 (by omega)) 3).trans rfl, (cell_of (f.get HGr.out.1 (by omega)) 4).trans rfl, (cell_of (f.get HGr.out.2.2.2 (by have := HY4.out; omega)) 0).trans rfl, (cell_of (f.get HGr.out.2.2.2 (by have := HY4.out; omega)) 1).trans rfl, (cell_of (f.get HGr.out.2.2.2 (by have := HY4.out; omega)) 2).trans rfl, (cell_of (f.get HGr.out.2.2.2 (by have := HY4.out; omega)) 3).trans rfl, (cell_of (f.get HGr.out.2.2.2 (by have := HY4.out; omega)) 4).trans rfl⟩ : Fr (fun x => x = z + 1 ∨ x = z + 2) wr V ∧ V.cell? ⟨z, 0, none⟩ = some (.int .i64 q.kind) ∧ V.cell? ⟨z, 1, none⟩ = some (.int .u32 (q.tag : Int)) ∧ V.cell? ⟨z, 2, none⟩ = some (.int .u32 (q.id : Int)) ∧ V.cell? ⟨z, 3, none⟩ = some (.int .i64 q.seat) ∧ V.cell? ⟨z, 4, none⟩ = some (.int .i64 q.ttl) ∧ V.cell? ⟨y, 0, none⟩ = some (.int .i64 r.kind) ∧ V.cell? ⟨y, 1, none⟩ = some (.int .u32 (r.id : Int)) ∧ V.cell? ⟨y, 2, none⟩ = some (.int .i64 r.seat) ∧ V.cell? ⟨y, 3, none⟩ = some (.int .i64 r.till) ∧ V.cell? ⟨y, 4, none⟩ = some (.int .i64 r.clock)))
   obtain ⟨x, hx⟩ : ∃ x, x = repOf q r := ⟨_, rfl⟩
   have HRep := Lib.hid (fun (V : World) => show Calls Tryz.prog 29 #[rqV q, rcV r] V fun e w' => e = .returned (rpV x) ∧ Fr (fun _ => False) V w' by rw [hx]; exact reply_ok q r V)
   have HXr := Lib.hid hx
   clear hin hi hlt hx
   go_upto_region 13 with fail
   refine wp_region_held_drew (S := fun w' => Fr (fun x => x = z + 1 ∨ x = z + 2) wr w' ∧ w'.cell? ⟨z, 0, none⟩ = some (.int .i64 q.kind) ∧ w'.cell? ⟨z, 1, none⟩ = some (.int .u32 (q.tag : Int)) ∧ w'.cell? ⟨z, 2, none⟩ = some (.int .u32 (q.id : Int)) ∧ w'.cell? ⟨z, 3, none⟩ = some (.int .i64 q.seat) ∧ w'.cell? ⟨z, 4, none⟩ = some (.int .i64 q.ttl) ∧ w'.cell? ⟨y, 0, none⟩ = some (.int .i64 r.kind) ∧ w'.cell? ⟨y, 1, none⟩ = some (.int .u32 (r.id : Int)) ∧ w'.cell? ⟨y, 2, none⟩ = some (.int .i64 r.seat) ∧ w'.cell? ⟨y, 3, none⟩ = some (.int .i64 r.till) ∧ w'.cell? ⟨y, 4, none⟩ = some (.int .i64 r.clock)) (by kernel_rfl) (by exact HSS.out _ (Fr.drew (Fr.refl _ _))) (fun hHeld => ?_)
   refine wpAnyH_take (i := 0) (v := ?_) rfl (by kernel_rfl) (by kernel_rfl) (by kernel_rfl) (fun _ _ _ h => h) (Or.inl ⟨by rfl, ?_⟩) (by assumption) ?_
   rotate_left
   ·intro w' hSw; (try dsimp only at hSw); go_simp; try with_reducible rfl
   try simp only [Act.put, List.getElem_toArray, List.getElem_cons_zero, List.setIfInBounds_toArray, List.set_cons_zero, List.set_cons_succ]
   refine wpAnyH_take (i := 1) (v := ?_) rfl (by kernel_rfl) (by kernel_rfl) (by kernel_rfl) (fun _ _ _ h => h) (Or.inl ⟨by rfl, ?_⟩) (by assumption) ?_
   rotate_left
   ·intro w' hSw; (try dsimp only at hSw); go_simp; try with_reducible rfl
   try simp only [Act.put, sL]
   refine wpAnyH_take (i := 2) (v := ?_) rfl (by kernel_rfl) (by kernel_rfl) (by kernel_rfl) (fun _ _ _ h => h) (Or.inl ⟨by rfl, ?_⟩) (by assumption) ?_
   rotate_left
   ·intro w' hSw; (try dsimp only at hSw); go_simp; try with_reducible rfl
   try simp only [Act.put, sL]
   refine wpAnyH_ready (rs := [3]) (by kernel_rfl) (by simp) ?_
   refine AllReadyH.cons rfl (fun K hK => ?_) AllReadyH.nil
   go_simp
   refine (HRep.out _).mono ?_
   rintro e w3x ⟨rfl, f3x⟩
   try go_simp
   refine hK.out _ _ ?_ (fun hHeld => ?_)
   ·(try dsimp only); exact HSS.out _ (hHeld.1.trans f3x (fun _ _ h => h.elim))
   clear hK K
   have f3x' := f3x
   have hA1 : w3x.heap[z + 1]? = some (.cells #[.int .i64 0, .int .u32 0, .int .i64 0, .int .i64 0, .int .i64 0] 46 (0, 0)) := f3x.get HGr.out.2.1 (fun h => h)
   have hA2 : w3x.heap[z + 2]? = some (rpO rp0) := f3x.get HGr.out.2.2.1 (fun h => h)
   have HFx := Lib.hid (show Fr (fun x => x = z + 1 ∨ x = z + 2) wr w3x from ((Fr.drew (Fr.refl (fun x => x = z + 1 ∨ x = z + 2) wr)).trans f3x (fun _ _ h => h.elim)))
   have HEnd := Lib.hid (out_end (z1 := z + 1) (z2 := z + 2) (by omega) hA1 hA2 r x)
   clear u0 u1 u2 u3 u4 v0 v1 v2 v3 v4 s0 s1 s2 s3 s4 s5 s6 t0 t1 t2 t3 t4 t5 t6
   have u0 := (cell_of hA1 0).trans (show _ = some (Value.int .i64 0) from rfl)
   have v0 := free_of hA1 0
   have u1 := (cell_of hA1 1).trans (show _ = some (Value.int .u32 0) from rfl)
   have v1 := free_of hA1 1
   have u2 := (cell_of hA1 2).trans (show _ = some (Value.int .i64 0) from rfl)
   have v2 := free_of hA1 2
   have u3 := (cell_of hA1 3).trans (show _ = some (Value.int .i64 0) from rfl)
   have v3 := free_of hA1 3
   have u4 := (cell_of hA1 4).trans (show _ = some (Value.int .i64 0) from rfl)
   have v4 := free_of hA1 4
   have s0 := (cell_of hA2 0).trans (show _ = some (Value.int .u32 0) from rfl)
   have t0 := free_of hA2 0
   have s1 := (cell_of hA2 1).trans (show _ = some (Value.int .i64 0) from rfl)
   have t1 := free_of hA2 1
   have s2 := (cell_of hA2 2).trans (show _ = some (Value.int .i64 0) from rfl)
   have t2 := free_of hA2 2
   have s3 := (cell_of hA2 3).trans (show _ = some (Value.int .u32 0) from rfl)
   have t3 := free_of hA2 3
   have s4 := (cell_of hA2 4).trans (show _ = some (Value.int .i64 0) from rfl)
   have t4 := free_of hA2 4
   have s5 := (cell_of hA2 5).trans (show _ = some (Value.int .i64 0) from rfl)
   have t5 := free_of hA2 5
   have s6 := (cell_of hA2 6).trans (show _ = some (Value.int .i64 0) from rfl)
   have t6 := free_of hA2 6
   clear f3x f3x' hA1 hA2
   try simp only [Act.put, sL]
   refine wpAnyH_ready (rs := [4]) (by kernel_rfl) (by simp) ?_
   refine AllReadyH.cons rfl (fun K hK => ?_) AllReadyH.nil
   go_simp
   skip
   try go_simp
   refine hK.out _ _ ?_ (fun hHeld => ?_)
   ·(try dsimp only); exact HSS.out _ (HFx.out.trans (recW_fr w3x (z + 1) _ _ _ _ _) (fun _ _ e => .inl e))
   clear hK K
   try simp only [Act.put, sL]
   refine wpAnyH_ready (rs := [5]) (by kernel_rfl) (by simp) ?_
   refine AllReadyH.cons rfl (fun K hK => ?_) AllReadyH.nil
   go_simp
   skip
   try go_simp
   refine hK.out _ _ ?_ (fun hHeld => ?_)
   ·(try dsimp only); exact HSS.out _ (HFx.out.trans HEnd.out.1.2.2 (fun _ _ h => h))
   clear hK K
   try simp only [Act.put, sL]
   refine wpAnyH_take (i := 6) (v := ?_) rfl (by kernel_rfl) (by kernel_rfl) (by kernel_rfl) (fun _ _ _ h => h) (Or.inl ⟨by rfl, ?_⟩) (by assumption) ?_
   rotate_left
   ·intro w' hSw; (try dsimp only at hSw); go_simp; try with_reducible rfl
   try simp only [Act.put, sL]
   refine wpAnyH_take (i := 7) (v := ?_) rfl (by kernel_rfl) (by kernel_rfl) (by kernel_rfl) (fun _ _ _ h => h) (Or.inl ⟨by rfl, ?_⟩) (by assumption) ?_
   rotate_left
   ·intro w' hSw; (try dsimp only at hSw); go_simp; try with_reducible rfl
   try simp only [Act.put, sL]
   refine wpAnyH_done (by kernel_rfl) ?_ _
   obtain ⟨o1, o2, o3⟩ := HEnd.out.1
   have HP := Lib.hid (aft_end (F0.out.trans F4.out (fun _ _ h => h)) HA.out (HFx.out.trans o3 (fun _ _ h => h)) (fun x hx => ⟨by have := HY4.out; omega, fun ho => by have := Hown.out x ho; have := Hz.out; omega, by have := Hz.out; omega⟩))
   have HE1 := Lib.hid o1; have HE2 := Lib.hid o2
   clear o1 o2 o3
   go_wp2_with fail
   refine bodyPost_ret (v := decV ⟨r, x, true, 0⟩) ?_ rfl (by rw [HDv.out, ← HXr.out]; exact ⟨rfl, HP.out⟩)
   obtain ⟨e0, e1, e2, e3, e4⟩ := rc_cells5 HE1.out
   obtain ⟨p0, p1, p2, p3, p4, p5, p6⟩ := rp_cells HE2.out
   simp [results, Tryz.f26, go_sem, e0, e1, e2, e3, e4, p0, p1, p2, p3, p4, p5, p6]
end Go.Proofs.YtebdcahjlcgonaaGreat.Cs
namespace Go.Proofs.YtebdcahjlcgonaaGreat.Cs
open Go.RowKit Go.Shelf Go.Proofs.YtebdcahjlcgonaaGreat.Bk
theorem equalRc (w : World) (a b c d e a' b' c' d' e' : Int) : (Op.equalIn 10000 46 (.agg #[.int .i64 a, .int .u32 b, .int .i64 c, .int .i64 d, .int .i64 e]) (.agg #[.int .i64 a', .int .u32 b', .int .i64 c', .int .i64 d', .int .i64 e'])).run Tryz.prog w = .ok (a == a' && (b == b' && (c == c' && (d == d' && (e == e'))))) w := by
 rw [run_equalIn_agg (P := Tryz.prog) w 9999 46 _ _ (by kernel_rfl) Tryz.stoodInHeld46]
 have hf : (Tryz.prog.fieldsOf 46).toList.map (fun f => (decide (f.name = "_"), f.type, f.offset)) = [(false, 44, 0), (false, 24, 1), (false, 3, 2), (false, 2, 3), (false, 2, 4)] := by kernel_rfl
 revert hf
 generalize (Tryz.prog.fieldsOf 46).toList = fs
 intro hf
 rcases fs with _ | ⟨f1, _ | ⟨f2, _ | ⟨f3, _ | ⟨f4, _ | ⟨f5, _ | ⟨f6, fs⟩⟩⟩⟩⟩⟩
 ·simp at hf
 ·simp at hf
 ·simp at hf
 ·simp at hf
 ·simp at hf
 ·simp only [List.map_cons, List.map_nil, List.cons.injEq, Prod.mk.injEq, and_true] at hf
  obtain ⟨⟨a1, a2, a3⟩, ⟨b1, b2, b3⟩, ⟨c1, c2, c3⟩, ⟨d1, d2, d3⟩, e1, e2, e3⟩ := hf
  cases h0 : (a == a')
  ·simp [Op.eqFields, of_decide_eq_false a1, a2, a3, of_decide_eq_false b1, b2, b3, of_decide_eq_false c1, c2, c3, of_decide_eq_false d1, d2, d3, of_decide_eq_false e1, e2, e3, go_sem, h0]
  cases h1 : (b == b')
  ·simp [Op.eqFields, of_decide_eq_false a1, a2, a3, of_decide_eq_false b1, b2, b3, of_decide_eq_false c1, c2, c3, of_decide_eq_false d1, d2, d3, of_decide_eq_false e1, e2, e3, go_sem, h0, h1]
  cases h2 : (c == c')
  ·simp [Op.eqFields, of_decide_eq_false a1, a2, a3, of_decide_eq_false b1, b2, b3, of_decide_eq_false c1, c2, c3, of_decide_eq_false d1, d2, d3, of_decide_eq_false e1, e2, e3, go_sem, h0, h1, h2]
  cases h3 : (d == d')
  ·simp [Op.eqFields, of_decide_eq_false a1, a2, a3, of_decide_eq_false b1, b2, b3, of_decide_eq_false c1, c2, c3, of_decide_eq_false d1, d2, d3, of_decide_eq_false e1, e2, e3, go_sem, h0, h1, h2, h3]
  cases h4 : (e == e')
  ·simp [Op.eqFields, of_decide_eq_false a1, a2, a3, of_decide_eq_false b1, b2, b3, of_decide_eq_false c1, c2, c3, of_decide_eq_false d1, d2, d3, of_decide_eq_false e1, e2, e3, go_sem, h0, h1, h2, h3, h4]
  ·simp [Op.eqFields, of_decide_eq_false a1, a2, a3, of_decide_eq_false b1, b2, b3, of_decide_eq_false c1, c2, c3, of_decide_eq_false d1, d2, d3, of_decide_eq_false e1, e2, e3, go_sem, h0, h1, h2, h3, h4]
 ·simp at hf
theorem equalRp (w : World) (a b c d e f g a' b' c' d' e' f' g' : Int) : (Op.equalIn 10000 63 (.agg #[.int .u32 a, .int .i64 b, .int .i64 c, .int .u32 d, .int .i64 e, .int .i64 f, .int .i64 g]) (.agg #[.int .u32 a', .int .i64 b', .int .i64 c', .int .u32 d', .int .i64 e', .int .i64 f', .int .i64 g'])).run Tryz.prog w = .ok (a == a' && (b == b' && (c == c' && (d == d' && (e == e' && (f == f' && (g == g'))))))) w := by
 rw [run_equalIn_agg (P := Tryz.prog) w 9999 63 _ _ (by kernel_rfl) Tryz.stoodInHeld63]
 have hf : (Tryz.prog.fieldsOf 63).toList.map (fun f => (decide (f.name = "_"), f.type, f.offset)) = [(false, 24, 0), (false, 59, 1), (false, 32, 2), (false, 24, 3), (false, 3, 4), (false, 2, 5), (false, 3, 6)] := by kernel_rfl
 revert hf
 generalize (Tryz.prog.fieldsOf 63).toList = fs
 intro hf
 rcases fs with _ | ⟨f1, _ | ⟨f2, _ | ⟨f3, _ | ⟨f4, _ | ⟨f5, _ | ⟨f6, _ | ⟨f7, _ | ⟨f8, fs⟩⟩⟩⟩⟩⟩⟩⟩
 ·simp at hf
 ·simp at hf
 ·simp at hf
 ·simp at hf
 ·simp at hf
 ·simp at hf
 ·simp at hf
 ·simp only [List.map_cons, List.map_nil, List.cons.injEq, Prod.mk.injEq, and_true] at hf
  obtain ⟨⟨a1, a2, a3⟩, ⟨b1, b2, b3⟩, ⟨c1, c2, c3⟩, ⟨d1, d2, d3⟩, ⟨e1, e2, e3⟩, ⟨f1, f2, f3⟩, g1, g2, g3⟩ := hf
  cases h0 : (a == a')
  ·simp [Op.eqFields, of_decide_eq_false a1, a2, a3, of_decide_eq_false b1, b2, b3, of_decide_eq_false c1, c2, c3, of_decide_eq_false d1, d2, d3, of_decide_eq_false e1, e2, e3, of_decide_eq_false f1, f2, f3, of_decide_eq_false g1, g2, g3, go_sem, h0]
  cases h1 : (b == b')
  ·simp [Op.eqFields, of_decide_eq_false a1, a2, a3, of_decide_eq_false b1, b2, b3, of_decide_eq_false c1, c2, c3, of_decide_eq_false d1, d2, d3, of_decide_eq_false e1, e2, e3, of_decide_eq_false f1, f2, f3, of_decide_eq_false g1, g2, g3, go_sem, h0, h1]
  cases h2 : (c == c')
  ·simp [Op.eqFields, of_decide_eq_false a1, a2, a3, of_decide_eq_false b1, b2, b3, of_decide_eq_false c1, c2, c3, of_decide_eq_false d1, d2, d3, of_decide_eq_false e1, e2, e3, of_decide_eq_false f1, f2, f3, of_decide_eq_false g1, g2, g3, go_sem, h0, h1, h2]
  cases h3 : (d == d')
  ·simp [Op.eqFields, of_decide_eq_false a1, a2, a3, of_decide_eq_false b1, b2, b3, of_decide_eq_false c1, c2, c3, of_decide_eq_false d1, d2, d3, of_decide_eq_false e1, e2, e3, of_decide_eq_false f1, f2, f3, of_decide_eq_false g1, g2, g3, go_sem, h0, h1, h2, h3]
  cases h4 : (e == e')
  ·simp [Op.eqFields, of_decide_eq_false a1, a2, a3, of_decide_eq_false b1, b2, b3, of_decide_eq_false c1, c2, c3, of_decide_eq_false d1, d2, d3, of_decide_eq_false e1, e2, e3, of_decide_eq_false f1, f2, f3, of_decide_eq_false g1, g2, g3, go_sem, h0, h1, h2, h3, h4]
  cases h5 : (f == f')
  ·simp [Op.eqFields, of_decide_eq_false a1, a2, a3, of_decide_eq_false b1, b2, b3, of_decide_eq_false c1, c2, c3, of_decide_eq_false d1, d2, d3, of_decide_eq_false e1, e2, e3, of_decide_eq_false f1, f2, f3, of_decide_eq_false g1, g2, g3, go_sem, h0, h1, h2, h3, h4, h5]
  cases h6 : (g == g')
  ·simp [Op.eqFields, of_decide_eq_false a1, a2, a3, of_decide_eq_false b1, b2, b3, of_decide_eq_false c1, c2, c3, of_decide_eq_false d1, d2, d3, of_decide_eq_false e1, e2, e3, of_decide_eq_false f1, f2, f3, of_decide_eq_false g1, g2, g3, go_sem, h0, h1, h2, h3, h4, h5, h6]
  ·simp [Op.eqFields, of_decide_eq_false a1, a2, a3, of_decide_eq_false b1, b2, b3, of_decide_eq_false c1, c2, c3, of_decide_eq_false d1, d2, d3, of_decide_eq_false e1, e2, e3, of_decide_eq_false f1, f2, f3, of_decide_eq_false g1, g2, g3, go_sem, h0, h1, h2, h3, h4, h5, h6]
 ·simp at hf
theorem eqlRc (w : World) (r : Rc) : (binOp .eql 46 (rcV r) (rcV r)).run Tryz.prog w = .ok (.bool true) w := by
 rw [run_eql_struct, equalRc]; simp
theorem eqlRp (w : World) (x : Rp) : (binOp .eql 63 (rpV x) (rpV x)).run Tryz.prog w = .ok (.bool true) w := by
 rw [run_eql_struct, equalRp]; simp
theorem neqRc (w : World) (r : Rc) : (binOp .neq 46 (rcV r) (rcV r)).run Tryz.prog w = .ok (.bool false) w := by
 rw [run_neq_struct, equalRc]; simp
theorem neqRp (w : World) (x : Rp) : (binOp .neq 63 (rpV x) (rpV x)).run Tryz.prog w = .ok (.bool false) w := by
 rw [run_neq_struct, equalRp]; simp
/-- Decide of a book. -/
theorem decide_ok {p : Pt} {bb : Nat} {b : Bk} {w : World} (h : BkP p bb b.next b b.L b.L w) (q : Rq) (room : Int) (hid : q.id < 4294967296) : Calls Tryz.prog 26 #[.pointer (some ⟨bb, 0, none⟩), .int .i64 room, rqV q] w (DecP p bb b w (decD b room q)) := by
 cases hb : (rqOk q && isCh q.kind) with
 | true => exact decide_good h q room hid hb
 | false => exact decide_bad h q room hb
end Go.Proofs.YtebdcahjlcgonaaGreat.Cs
namespace Go.Proofs.YtebdcahjlcgonaaGreat.Cs
open Go.RowKit Go.Shelf Go.Proofs.YtebdcahjlcgonaaGreat.Bk
attribute [local go_sem] Oper.semAt_some
theorem bks_stay {w w1 w2 : World} {n : Nat} {B : Nat → Nat} {M : Nat → Bk} {Z : Nat → Prop} {P : Nat → Pt} (h : Bks w w1 n B M Z P) {i : Nat} (hi : i < n) (ha : Aft (P i) (B i) (M i) w1 w2) : (∃ P', Bks w w2 n B M Z P') ∧ Fr (fun y => ¬ Z y) w1 w2 := by
 obtain ⟨⟨P', h'⟩, f⟩ := h.aft hi ha
 refine ⟨⟨P', h'.names (fun _ _ => rfl) (fun j _ => ?_)⟩, f⟩
 by_cases e : j = i
 ·rw [e, upd_same]
 ·rw [upd_ne _ _ e]
def bC1 : Bk := { seats := 3, codes := 2, group := 1, next := 2, clock := 4, L := [(1, 0, 9)] }
theorem decC1 : decV (decD bC1 37 ⟨1, 7, 0, 2, 5⟩) = .tuple #[.agg #[.int .i64 1, .int .u32 2, .int .i64 2, .int .i64 9, .int .i64 0], .agg #[.int .u32 7, .int .i64 1, .int .i64 0, .int .u32 2, .int .i64 0, .int .i64 9, .int .i64 0], .bool true, .int .i64 0] := by
 kernel_rfl
theorem ansC1 : ansV (ansD bC1 ⟨6, 8, 0, 0, 0⟩) = .tuple #[.agg #[.int .u32 8, .int .i64 6, .int .i64 0, .int .u32 1, .int .i64 0, .int .i64 9, .int .i64 0], .int .i64 0] := by
 kernel_rfl
theorem ofC1 : ofGo (bkL 3 2 1 2 4 []) 0 [(1, 0, 9)] = true := by rfl
theorem bos_one {w : World} {g : Nat} {x : Bo} (h : w.heap[g]? = some (.cells #[.int .u32 (x.1 : Int), .int .i64 x.2.1, .int .i64 x.2.2] 77 (0, 0))) : Bos w (.slice (some ⟨g, 0, none⟩) 1 1) [x] :=
 ⟨rfl, .inr ⟨g, 1, _, rfl, Nat.zero_le _, h, Nat.le_refl _, by decide, rfl, rfl⟩⟩
set_option maxRecDepth 100000 in
set_option maxHeartbeats 4000000 in
theorem awake_ok (w : World) : Calls Tryz.prog 28 #[] w fun e w' => e = .returned (.bool true) ∧ Fr (fun _ => False) w w' := by
 obtain ⟨W, hW⟩ : ∃ W, W = w.alloc (.cells #[.int .u32 1, .int .i64 0, .int .i64 9] 77) := ⟨_, rfl⟩
 obtain ⟨z, hz⟩ : ∃ z, z = w.heap.size := ⟨_, rfl⟩
 have f0 : Fr (fun _ => False) w W := by rw [hW]; exact Fr.alloc (Fr.refl _ _) _
 have hg : W.heap[z]? = some (.cells #[.int .u32 1, .int .i64 0, .int .i64 9] 77 (0, 0)) := by rw [hW, hz]; exact heap_alloc_at _ _
 have HOf := Lib.hid (of_ok (w := W) (n := 3) (m := 2) (q := 1) (by omega) (by omega) (by omega) (nx := 2) (by omega) (c := 4) (by omega) (bos_one (x := (1, 0, 9)) hg) (by simp))
 have F0 := Lib.hid f0
 clear f0 hg
 go_enter Tryz.func28, Tryz.ntmps28
 go_upto_region 1 with fail
 go_wp2_with fail
 rw [← hW, ← hz]
 clear hW hz
 refine HOf.out.mono ?_
 rintro e w1 ⟨f1, ho⟩
 rw [if_pos ofC1] at ho
 obtain ⟨p, bb, rfl, hB, hn⟩ := ho
 obtain ⟨P, hP⟩ := Bks.one (w := W) (w1 := w1) (bb := bb) (b := bC1) ⟨p, hB, hn, f1⟩
 have HB := Lib.hid hP
 clear f1 hB hn hP
 go_upto_region 2 with fail
 go_wp2_with fail
 refine (decide_ok (HB.out.at_ 0 (by omega)) ⟨1, 7, 0, 2, 5⟩ 37 (by decide)).mono ?_
 rintro e w2 ⟨rfl, a2⟩
 rw [decC1]
 obtain ⟨⟨P2, hP2⟩, -⟩ := bks_stay HB.out (i := 0) (by omega) a2
 obtain ⟨V1, hV1⟩ : ∃ V, V = w2.alloc (.cells #[.int .i64 1, .int .u32 2, .int .i64 2, .int .i64 9, .int .i64 0] 46) := ⟨_, rfl⟩
 obtain ⟨V, hV⟩ : ∃ V, V = V1.alloc (.cells #[.int .u32 7, .int .i64 1, .int .i64 0, .int .u32 2, .int .i64 0, .int .i64 9, .int .i64 0] 63) := ⟨_, rfl⟩
 obtain ⟨c, hc⟩ : ∃ c, c = w2.heap.size := ⟨_, rfl⟩
 have sc : V1.heap.size = c + 1 := by rw [hV1, hc]; simp
 have fV1 : Fr (fun _ => False) w2 V1 := by rw [hV1]; exact Fr.alloc (Fr.refl _ _) _
 have fV2 : Fr (fun _ => False) V1 V := by rw [hV]; exact Fr.alloc (Fr.refl _ _) _
 have g1 : V.heap[c]? = some (.cells #[.int .i64 1, .int .u32 2, .int .i64 2, .int .i64 9, .int .i64 0] 46 (0, 0)) := fV2.get (show V1.heap[c]? = _ by rw [hV1, hc]; exact heap_alloc_at _ _) (fun h => h)
 have g2 : V.heap[c + 1]? = some (.cells #[.int .u32 7, .int .i64 1, .int .i64 0, .int .u32 2, .int .i64 0, .int .i64 9, .int .i64 0] 63 (0, 0)) := show V.heap[c + 1]? = _ by rw [hV, ← sc]; exact heap_alloc_at _ _
 have HB2 := Lib.hid (hP2.keep (fV1.trans fV2 (fun _ _ h => h)))
 have HZ := Lib.hid (show w2.heap.size ≤ c ∧ c + 1 < V.heap.size from ⟨by omega, lt_of_block g2⟩)
 have HG := Lib.hid (And.intro g1 g2); have HV1 := Lib.hid hV1; have HV := Lib.hid hV; have Hc := Lib.hid hc; have Hsc := Lib.hid sc
 clear a2 hP2 fV1 fV2 g1 g2 hV1 hV hc sc
 go_upto_region 3 with fail
 rw [← HV1.out, ← HV.out, ← Hc.out]
 try rw [Hsc.out]
 go_wp2_with fail
 refine (answer_ok (HB2.out.at_ 0 (by omega)) ⟨6, 8, 0, 0, 0⟩ (by decide)).mono ?_
 rintro e w3 ⟨rfl, a3⟩
 rw [ansC1]
 obtain ⟨⟨P3, hP3⟩, f3⟩ := bks_stay HB2.out (i := 0) (by omega) a3
 have h1 := f3.get HG.out.1 (fun h => h (.inr ⟨HZ.out.1, by have := HZ.out.2; omega⟩))
 have h2 := f3.get HG.out.2 (fun h => h (.inr ⟨by have := HZ.out.1; omega, HZ.out.2⟩))
 have F3 := Lib.hid (F0.out.trans hP3.fr (fun _ _ h => h))
 obtain ⟨V3, hV3⟩ : ∃ V, V = w3.alloc (.cells #[.int .u32 8, .int .i64 6, .int .i64 0, .int .u32 1, .int .i64 0, .int .i64 9, .int .i64 0] 63) := ⟨_, rfl⟩
 obtain ⟨d, hd⟩ : ∃ d, d = w3.heap.size := ⟨_, rfl⟩
 have fV3 : Fr (fun _ => False) w3 V3 := by rw [hV3]; exact Fr.alloc (Fr.refl _ _) _
 have g3 : V3.heap[d]? = some (.cells #[.int .u32 8, .int .i64 6, .int .i64 0, .int .u32 1, .int .i64 0, .int .i64 9, .int .i64 0] 63 (0, 0)) := by rw [hV3, hd]; exact heap_alloc_at _ _
 have g1 := fV3.get h1 (fun h => h)
 have g2 := fV3.get h2 (fun h => h)
 have F4 := Lib.hid (F3.out.trans fV3 (fun _ _ h => h))
 have HV3 := Lib.hid hV3; have Hd := Lib.hid hd
 clear a3 hP3 f3 h1 h2 fV3 hV3 hd
 go_upto_region 4 with fail
 rw [← HV3.out, ← Hd.out]
 have m0 := (cell_of g1 0).trans (show _ = some (Value.int .i64 1) from rfl)
 have m1 := (cell_of g1 1).trans (show _ = some (Value.int .u32 2) from rfl)
 have m2 := (cell_of g1 2).trans (show _ = some (Value.int .i64 2) from rfl)
 have m3 := (cell_of g1 3).trans (show _ = some (Value.int .i64 9) from rfl)
 have m4 := (cell_of g1 4).trans (show _ = some (Value.int .i64 0) from rfl)
 have n0 := (cell_of g2 0).trans (show _ = some (Value.int .u32 7) from rfl)
 have n1 := (cell_of g2 1).trans (show _ = some (Value.int .i64 1) from rfl)
 have n2 := (cell_of g2 2).trans (show _ = some (Value.int .i64 0) from rfl)
 have n3 := (cell_of g2 3).trans (show _ = some (Value.int .u32 2) from rfl)
 have n4 := (cell_of g2 4).trans (show _ = some (Value.int .i64 0) from rfl)
 have n5 := (cell_of g2 5).trans (show _ = some (Value.int .i64 9) from rfl)
 have n6 := (cell_of g2 6).trans (show _ = some (Value.int .i64 0) from rfl)
 have o0 := (cell_of g3 0).trans (show _ = some (Value.int .u32 8) from rfl)
 have o1 := (cell_of g3 1).trans (show _ = some (Value.int .i64 6) from rfl)
 have o2 := (cell_of g3 2).trans (show _ = some (Value.int .i64 0) from rfl)
 have o3 := (cell_of g3 3).trans (show _ = some (Value.int .u32 1) from rfl)
 have o4 := (cell_of g3 4).trans (show _ = some (Value.int .i64 0) from rfl)
 have o5 := (cell_of g3 5).trans (show _ = some (Value.int .i64 9) from rfl)
 have o6 := (cell_of g3 6).trans (show _ = some (Value.int .i64 0) from rfl)
 clear g1 g2 g3
 have E1 : ∀ V : World, (binOp .eql 46 (.agg #[.int .i64 1, .int .u32 2, .int .i64 2, .int .i64 9, .int .i64 0]) (.agg #[.int .i64 1, .int .u32 2, .int .i64 2, .int .i64 9, .int .i64 0])).run Tryz.prog V = .ok (.bool true) V := fun V => eqlRc V ⟨1, 2, 2, 9, 0⟩
 have E2 : ∀ V : World, (binOp .eql 63 (.agg #[.int .u32 7, .int .i64 1, .int .i64 0, .int .u32 2, .int .i64 0, .int .i64 9, .int .i64 0]) (.agg #[.int .u32 7, .int .i64 1, .int .i64 0, .int .u32 2, .int .i64 0, .int .i64 9, .int .i64 0])).run Tryz.prog V = .ok (.bool true) V := fun V => eqlRp V ⟨7, 1, 0, 2, 0, 9, 0⟩
 have E3 : ∀ V : World, (binOp .eql 63 (.agg #[.int .u32 8, .int .i64 6, .int .i64 0, .int .u32 1, .int .i64 0, .int .i64 9, .int .i64 0]) (.agg #[.int .u32 8, .int .i64 6, .int .i64 0, .int .u32 1, .int .i64 0, .int .i64 9, .int .i64 0])).run Tryz.prog V = .ok (.bool true) V := fun V => eqlRp V ⟨8, 6, 0, 1, 0, 9, 0⟩
 go_wp2_with fail
 go_ret
 exact ⟨rfl, F4.out⟩
end Go.Proofs.YtebdcahjlcgonaaGreat.Cs
namespace Go.Proofs.YtebdcahjlcgonaaGreat
open Go.ChangeShapes Go.WideShapes Go.ChangeAt Go.RowKit Go.Deep
section
variable {H : Type} {enc : TypeId × Value → H} {P : Program} {w : World} {base : Nat} {spare : Nat → Bool} {held : Bool}
/-- The kind of a type's j-th cell, when it is a number. -/
def kindAt (P : Program) : Nat → TypeId → Nat → Option IntKind
 | 0, _, _ => none
 | n + 1, t, j => match P.underlying t with
  | some (.int k) => if j = 0 then some k else none
  | some (.struct fs) => fs.toList.findSome? fun f => if f.offset ≤ j ∧ j < f.offset + P.cellsOf f.type then kindAt P n f.type (j - f.offset) else none
  | _ => none
theorem trod_kindAt : ∀ (n : Nat) {t : TypeId} {j : Nat} {k : IntKind} {fuel : Nat} {cs : List Value} {x : DataW H × List MemPlace}, kindAt P n t j = some k → DataW.trod enc P w base spare held fuel t cs = some x → ∃ v, cs[j]? = some (.int k v) ∧ (Lit.int k v).wf = true := by
 intro n
 induction n with
 | zero => intro t j k fuel cs x h; simp [kindAt] at h
 | succ n ih =>
  intro t j k fuel cs x h hf
  unfold kindAt at h
  split at h
  ·rename_i k' hu
   split at h
   ·rename_i hj
    subst hj
    obtain ⟨v, rfl, _, h3⟩ := DataW.trod_int hu hf
    obtain rfl : k' = k := Option.some.inj h
    exact ⟨v, rfl, h3⟩
   ·cases h
  ·rename_i fs hu
   obtain ⟨ys, n', _, _, hlen, hyl, hff⟩ := DataW.trod_struct hu hf
   obtain ⟨f, hfm, hfk⟩ := List.exists_of_findSome?_eq_some h
   split at hfk
   ·rename_i hc
    obtain ⟨i, hi, rfl⟩ := List.getElem_of_mem hfm
    have hi' : i < fs.size := by simpa using hi
    have h1 := hff i _ (Array.getElem?_eq_getElem hi')
    have hys : ys[i]? = some (ys[i]'(by omega)) := List.getElem?_eq_getElem (by omega)
    obtain ⟨v, hv, hw⟩ := ih (by simpa using hfk) (h1.trans hys)
    refine ⟨v, ?_, hw⟩
    rw [List.getElem?_take, if_pos (by simp at hc; omega), List.getElem?_drop] at hv
    rw [← hv]
    simp at hc
    congr 1
    omega
   ·cases hfk
  ·cases h
theorem kindsAt_flat {m : Nat} {kd : Nat → IntKind} {t e : TypeId} {a0 : Option Addr} {len0 cap0 : Nat} {d : DataW H} {p : List MemPlace} (n : Nat) (ht : P.underlying t = some (.slice e))
  (hone : (List.range m).all (fun j => kindAt P n e j == some (kd j)) = true) (hC : P.cellsOf e = m) (h0 : 0 < m) (h : DataW.Trod enc P w base spare held t (.slice a0 len0 cap0) d p) :
  ∃ K, KindsAt w (.slice a0 len0 cap0) m kd K len0 := by
 obtain ⟨fuel, hf⟩ := h
 rcases open_slice ht hf with ⟨hcs, _⟩ | ⟨a, len, cap, q, n1, D, Pl, hcs, hb, hl, hm, hmm, hx, hi⟩
 ·simp [Value.cells] at hcs
  obtain ⟨rfl, rfl, rfl⟩ := hcs
  exact ⟨fun _ _ => 0, none, 0, rfl, Nat.le_refl _, Nat.zero_le _, .inl rfl⟩
 ·simp [Value.cells] at hcs
  obtain ⟨rfl, rfl, rfl⟩ := hcs
  have hlm : len0 ≤ q := by rw [hmm]; split <;> omega
  have cell : ∀ i j, i < len0 → j < m → ∃ x, w.cell? (a.add (i * m + j)) = some (.int (kd j) x) ∧ (Lit.int (kd j) x).wf = true := by
   intro i j hil hjl
   obtain ⟨cs', hc, ht'⟩ := hi i (by omega)
   rw [hC] at hc
   obtain ⟨_, hcl, hat⟩ := World.cells?_some hc
   have hk : kindAt P n e j = some (kd j) := by
    have := List.all_eq_true.1 hone j (List.mem_range.2 hjl)
    exact eq_of_beq this
   obtain ⟨x, hx1, hx3⟩ := trod_kindAt n hk ht'
   refine ⟨x, ?_, hx3⟩
   rw [← Go.Deep.add_add, hat j hjl, hx1]
  by_cases hz : len0 = 0
  ·subst hz; exact ⟨fun _ _ => 0, some a, cap0, rfl, hl, hm, .inl rfl⟩
  ·obtain ⟨b, o, sp⟩ := a
   have hsp : sp = none := by
    obtain ⟨x, hx1, _⟩ := cell 0 0 (by omega) h0
    simpa [Addr.add] using World.cell?_spot hx1
   subst hsp
   have cell' : ∀ i j, i < len0 → j < m → ∃ x, w.cell? ⟨b, o + i * m + j, none⟩ = some (.int (kd j) x) ∧ (Lit.int (kd j) x).wf = true := by
    intro i j hil hjl
    have e : (⟨b, o, none⟩ : Addr).add (i * m + j) = ⟨b, o + i * m + j, none⟩ := by
     unfold Addr.add
     split
     ·first | (simp; done) | (simp; omega)
     ·simp [Nat.add_assoc]
    rw [← e]
    exact cell i j hil hjl
   refine ⟨fun i j => if h : i < len0 ∧ j < m then (cell' i j h.1 h.2).choose else 0, some ⟨b, o, none⟩, cap0, rfl, hl, hm, .inr ⟨b, o, rfl, ?_⟩⟩
   intro i j hil hjl
   have hsp := (cell' i j hil hjl).choose_spec
   dsimp only
   rw [dif_pos ⟨hil, hjl⟩]
   exact hsp
end
end Go.Proofs.YtebdcahjlcgonaaGreat
namespace Go.Proofs.YtebdcahjlcgonaaGreat
open Go.ChangeShapes Go.WideShapes Go.ChangeAt Go.RowKit Go.Deep
section
variable {H : Type} {enc : TypeId × Value → H} {P : Program} {w : World} {base : Nat} {spare : Nat → Bool} {held : Bool}
/-- A struct of numbers, nested or not, by value. -/
theorem open_struct {m : Nat} {kd : Nat → IntKind} {t : TypeId} {fs : Array Field} {v : Value} {d : DataW H} {p : List MemPlace} (n : Nat) (ht : P.underlying t = some (.struct fs))
  (hone : (List.range m).all (fun j => kindAt P n t j == some (kd j)) = true) (hC : P.cellsOf t = m) (h0 : 2 ≤ m) (h : DataW.Trod enc P w base spare held t v d p) :
  ∃ K : Nat → Int, v = .agg ((List.range m).map fun j => Value.int (kd j) (K j)).toArray ∧ ∀ j, j < m → (Lit.int (kd j) (K j)).wf = true := by
 obtain ⟨fuel, hf⟩ := h
 obtain ⟨ys, n', _, _, hlen, _, _⟩ := DataW.trod_struct ht hf
 rw [hC] at hlen
 have key : ∀ j, j < m → ∃ x, v.cells.toList[j]? = some (.int (kd j) x) ∧ (Lit.int (kd j) x).wf = true := by
  intro j hj
  have hk : kindAt P n t j = some (kd j) := eq_of_beq (List.all_eq_true.1 hone j (List.mem_range.2 hj))
  exact trod_kindAt n hk hf
 refine ⟨fun j => if hj : j < m then (key j hj).choose else 0, ?_, fun j hj => by dsimp only; rw [dif_pos hj]; exact (key j hj).choose_spec.2⟩
 have hcs : v.cells.toList = (List.range m).map fun j => Value.int (kd j) (if hj : j < m then (key j hj).choose else 0) := by
  apply List.ext_getElem?
  intro j
  rw [List.getElem?_map]
  by_cases hj : j < m
  ·rw [List.getElem?_range hj, (key j hj).choose_spec.1]
   simp only [Option.map_some]
   rw [dif_pos hj]
  ·rw [List.getElem?_eq_none (by omega), List.getElem?_eq_none (by simp; omega)]; rfl
 cases v with
 | agg cs =>
  have : cs.toList = _ := hcs
  rw [← this]
 | _ => simp [Value.cells] at hlen; omega
end
end Go.Proofs.YtebdcahjlcgonaaGreat
namespace Go.Proofs.YtebdcahjlcgonaaGreat.Bk
open Go.RowKit Go.Shelf
attribute [local go_sem] Oper.semAt_some
def two {α : Type} (x y : α) (j : Nat) : α := if j = 0 then x else y
section
variable {w w1 w2 : World} {bb cc : Nat} {b c b' c' : Bk} {Z : Nat → Prop} {P : Nat → Pt}
end
end Go.Proofs.YtebdcahjlcgonaaGreat.Bk
namespace Go.Proofs.YtebdcahjlcgonaaGreat.Bk
open Go.RowKit Go.Shelf
theorem upd_one {α : Type} (f : Nat → α) (x : α) : ∀ j, j < 0 + 1 → upd f 0 x j = (fun _ => x) j := by
 intro j hj
 obtain rfl : j = 0 := by omega
 rfl
theorem upd_two {α : Type} (x y : α) : ∀ j, j < 0 + 1 + 1 → upd (fun _ => x) (0 + 1) y j = two x y j := by
 intro j hj
 rcases (by omega : j = 0 ∨ j = 1) with rfl | rfl <;> rfl
/-- These blocks hold these objects. -/
def Keep (L : List (Nat × Obj)) (V : World) : Prop := ∀ x ∈ L, V.heap[x.1]? = some x.2
theorem Keep.nil (V : World) : Keep [] V := fun x hx => by simp at hx
theorem Keep.cons {a : Nat} {o : Obj} {L : List (Nat × Obj)} {V : World} (h : V.heap[a]? = some o) (k : Keep L V) : Keep ((a, o) :: L) V := fun x hx => by
 rcases List.mem_cons.1 hx with rfl | hx
 ·exact h
 ·exact k x hx
theorem Keep.fr {L : List (Nat × Obj)} {V V' : World} (k : Keep L V) {F : Nat → Prop} (f : Fr F V V') (hF : ∀ x ∈ L, ¬ F x.1) : Keep L V' := fun x hx => f.get (k x hx) (hF x hx)
/-- n books, the blocks of L, all apart; all of it new since W. -/
def St (W V : World) (n : Nat) (B : Nat → Nat) (M : Nat → Bk) (L : List (Nat × Obj)) : Prop := ∃ Z P, Bks W V n B M Z P ∧ Keep L V ∧ ∀ x ∈ L, Z x.1
section
variable {W V V' : World} {n : Nat} {B : Nat → Nat} {M : Nat → Bk} {L : List (Nat × Obj)}
theorem St.fr (h : St W V n B M L) : Fr (fun _ => False) W V := by obtain ⟨Z, P, h1, _, _⟩ := h; exact h1.fr
theorem St.get (h : St W V n B M L) {a : Nat} {o : Obj} (hx : (a, o) ∈ L) : V.heap[a]? = some o := by obtain ⟨Z, P, _, h2, _⟩ := h; exact h2 (a, o) hx
theorem St.zero (f : Fr (fun _ => False) W V) (k : Keep L V) : St W V 0 B M L :=
 ⟨fun y => y < V.heap.size, fun _ => ⟨0, .slice none 0 0, 0, 0, 0, 0, .slice none 0 0, 0, fun _ => False, 0, [], 0, fun _ => none⟩, ⟨fun j hj => by omega, fun j hj => by omega, fun i j hi => by omega, fun y hy => ⟨hy, fun j hj => by omega⟩, f⟩, k, fun x hx => lt_of_block (k x hx)⟩
/-- One of the books may be asked; what it is then. -/
theorem St.at_ (h : St W V n B M L) {i : Nat} (hi : i < n) : ∃ p, BkP p (B i) (M i).next (M i) (M i).L (M i).L V ∧ (∀ y, p.own (B i) y → W.heap.size ≤ y) ∧ (∀ V', Aft p (B i) (M i) V V' → St W V' n B M L) ∧ ∀ b' V', Aft p (B i) b' V V' → St W V' n B (upd M i b') L := by
 obtain ⟨Z, P, h1, h2, h3⟩ := h
 have key : ∀ b' V', Aft (P i) (B i) b' V V' → St W V' n B (upd M i b') L := fun b' V' ha => by
  obtain ⟨⟨P', hP'⟩, f⟩ := h1.aft hi ha
  exact ⟨Z, P', hP', h2.fr f (fun x hx hz => hz (h3 x hx)), h3⟩
 refine ⟨P i, h1.at_ i hi, h1.new i hi, fun V' ha => ?_, key⟩
 obtain ⟨Z', P', hP', k2, k3⟩ := key (M i) V' ha
 refine ⟨Z', P', hP'.names (fun _ _ => rfl) (fun j _ => ?_), k2, k3⟩
 by_cases e : j = i
 ·rw [e, upd_same]
 ·rw [upd_ne _ _ e]
/-- What writes no old block. -/
theorem St.new (h : St W V n B M L) (f : Fr (fun _ => False) V V') {N : List (Nat × Obj)} (k : Keep N V') (hs : ∀ x ∈ N, V.heap.size ≤ x.1) : St W V' n B M (N ++ L) := by
 obtain ⟨Z, P, h1, h2, h3⟩ := h
 refine ⟨_, P, h1.keep f, fun x hx => ?_, fun x hx => ?_⟩
 ·rcases List.mem_append.1 hx with hx | hx
  ·exact k x hx
  ·exact f.get (h2 x hx) (fun h => h)
 ·rcases List.mem_append.1 hx with hx | hx
  ·exact .inr ⟨hs x hx, lt_of_block (k x hx)⟩
  ·exact .inl (h3 x hx)
theorem St.quiet (h : St W V n B M L) (f : Fr (fun _ => False) V V') : St W V' n B M L := h.new f (Keep.nil V') (fun x hx => by simp at hx)
theorem St.one (h : St W V n B M L) (f : Fr (fun _ => False) V V') {a : Nat} {o : Obj} (ha : V'.heap[a]? = some o) (hs : V.heap.size ≤ a) : St W V' n B M ((a, o) :: L) :=
 h.new f (Keep.cons ha (Keep.nil V')) (fun x hx => by have : x = (a, o) := (by simpa using hx); rw [this]; exact hs)
theorem St.alloc (h : St W V n B M L) (c : Array Value) (t : TypeId) : St W (V.alloc (.cells c t)) n B M ((V.heap.size, .cells c t (0, 0)) :: L) := h.one (Fr.alloc (Fr.refl _ _) _) (heap_alloc_at _ _) (Nat.le_refl _)
/-- A new book. -/
theorem St.add (h : St W V n B M L) {p : Pt} {bb : Nat} {b : Bk} (hb : BkP p bb b.next b b.L b.L V') (hn : ∀ y, p.own bb y → V.heap.size ≤ y) (f : Fr (fun _ => False) V V') : St W V' (n + 1) (upd B n bb) (upd M n b) L := by
 obtain ⟨Z, P, h1, h2, h3⟩ := h
 exact ⟨Z, _, h1.add hb hn f, h2.fr f (fun _ _ h => h), h3⟩
theorem St.names (h : St W V n B M L) {B' : Nat → Nat} {M' : Nat → Bk} (hb : ∀ j, j < n → B j = B' j) (hm : ∀ j, j < n → M j = M' j) : St W V n B' M' L := by
 obtain ⟨Z, P, h1, h2, h3⟩ := h
 exact ⟨Z, P, h1.names hb hm, h2, h3⟩
theorem St.less (h : St W V n B M L) {L' : List (Nat × Obj)} (hL : ∀ x ∈ L', x ∈ L) : St W V n B M L' := by
 obtain ⟨Z, P, h1, h2, h3⟩ := h
 exact ⟨Z, P, h1, fun x hx => h2 x (hL x hx), fun x hx => h3 x (hL x hx)⟩
end
end Go.Proofs.YtebdcahjlcgonaaGreat.Bk
