/- Texts put together: Which records may be, Which records may be: Check, A book: Apply, The index layer: New, Regions that draw their order, in a round of a range over a function, inside the wide fence: what is shown outside holds there too. Condition: no defer statement in the region; the body's way out is never 'outgrown', The marks that ranges over functions leave among the deferred calls; a cut that lets them grow. Plain rules, The index layer: All, and what it hands back, as a sequence, The index' All as a sequence, by the items' places, The index layer: All; a list under way in a cell. No condition. -/
import Derived.Laws.Tables
import Derived.OrdersIn
import Derived.OrdersHeld
import Derived.Deep.Quiet
import Derived.Deep.RegionHeld3
import Derived.Deep.QuietTactic
import Derived.BigQuiet
import Derived.RangeFuncFrom
import Derived.RangeFuncWrites
import Derived.RangeFuncCalls
import Derived.Lib.Hide
import Derived.KernelRfl
import Derived.RangeFuncLeaves
import Derived.RangeFuncRecord
import Derived.Test.YtmmjlnicfndmcaaM1
import Derived.Test.YtmmjlnicfndmcaaM3
import Derived.Test.YtmmjlnicfndmcaaM4
namespace Go.Proofs.Ytmmjlnicfndmcaa.Bk
open Go.RowKit
set_option maxRecDepth 100000 in
theorem within_no (n a b : Int) (w : World) : Calls Try.prog 50 #[.bool false, .int .i64 n, .int .i64 a, .int .i64 b] w fun e w' => e = .returned (.bool (n == 0)) ∧ w = w' := by
  go_enter Try.func50, Try.ntmps50
  go_wp2_with fail
  go_ret
  exact ⟨rfl, rfl⟩
set_option maxRecDepth 100000 in
theorem within_yes (n a b : Int) (w : World) : Calls Try.prog 50 #[.bool true, .int .i64 n, .int .i64 a, .int .i64 b] w fun e w' => e = .returned (.bool (decide (a ≤ n) && decide (n ≤ b))) ∧ w = w' := by
  by_cases h : a ≤ n
  · have h1 : decide (a ≤ n) = true := by simpa using h
    rw [h1, Bool.true_and]
    clear h
    go_enter Try.func50, Try.ntmps50
    go_wp2_with fail
    go_ret
    exact ⟨rfl, rfl⟩
  · have h1 : decide (a ≤ n) = false := by simpa using h
    rw [h1, Bool.false_and]
    clear h
    go_enter Try.func50, Try.ntmps50
    go_wp2_with fail
    go_ret
    exact ⟨rfl, rfl⟩
abbrev shpV (a b c d : Bool) : Value := .agg #[.bool a, .bool b, .bool c, .bool d]
theorem wpList_build_at {P : Program} {ops : Array Oper} {Q : Exit → Act → World → Prop} {rest : List Oper} {o : Oper} {a : Act} {w : World} {t : TypeId} {parts : Array (Nat × Operand)} (vals : List (Nat × Value)) {cells : Array Value} (hgd : o.guard = none)
    (ho : o.op = .build t parts) (hp : parts.toList.map (fun (i, x) => (i, a.eval x)) = vals) (hc : P.built t vals = some cells) (h : wpList P ops Q rest (a.put o.dst (.agg cells)) w) : wpList P ops Q (o :: rest) a w :=
  wpList_plain hgd fun K hK => by
    unfold Oper.wp execOp
    have hc' : P.built t (parts.map (fun (i, x) => (i, a.eval x))).toList = some cells := by rw [Array.toList_map, hp]; exact hc
    simp only [ho, Sem.run_bind, run_build w t _ cells hc', Result.andThen_ok]
    exact hK _ _ h
theorem of_y (w : World) (A : Obj) (old cs : Array Value) (t : TypeId) : (((w.alloc A).alloc (.cells old t)).setRow (w.heap.size + 1) cs).heap[w.heap.size + 1]? = some (.cells cs t (0, 0)) := setRow_heap _ _ old cs t (0, 0) (heap_alloc2_new _ _ _)
theorem of_z (w : World) (A B : Obj) (cs : Array Value) : (((w.alloc A).alloc B).setRow (w.heap.size + 1) cs).heap[w.heap.size]? = some A := by
  rw [setRow_other _ _ _ _ (by omega)]; exact heap_alloc2_old _ _ _
theorem of_fr (w : World) (A B : Obj) (cs : Array Value) : Fr (fun _ => False) w (((w.alloc A).alloc B).setRow (w.heap.size + 1) cs) :=
  ⟨rfl, rfl, rfl, by simp [World.setRow, Array.size_modify]; omega, fun k hk _ => by rw [setRow_other _ _ _ _ (by omega)]; exact (heap_alloc_old _ _ k (by simp; omega)).trans (heap_alloc_old _ _ k hk)⟩
theorem built6 : Try.prog.built 126 ([(1, shpV true true true false), (2, shpV true false false false), (3, shpV true false false false), (4, shpV true true false false), (5, shpV false false false true)] : List (Nat × Value)) = some #[.bool false, .bool false, .bool false, .bool false, .bool true, .bool true, .bool true, .bool false, .bool true, .bool false, .bool false, .bool false, .bool true, .bool false, .bool false, .bool false, .bool true, .bool true, .bool false, .bool false, .bool false, .bool false, .bool false, .bool true] := by kernel_rfl
set_option maxRecDepth 100000 in
set_option maxHeartbeats 1000000 in
theorem of_1 (w : World) : Calls Try.prog 49 #[.int .i64 1] w fun e w' => e = .returned (.tuple #[shpV true true true false, .bool true]) ∧ Fr (fun _ => False) w w' := by
  obtain ⟨W, hW⟩ : ∃ W, W = ((w.alloc (.cells #[.bool false, .bool false, .bool false, .bool false] 97)).alloc (.cells #[.bool false, .bool false, .bool false, .bool false, .bool false, .bool false, .bool false, .bool false, .bool false, .bool false, .bool false, .bool false, .bool false, .bool false, .bool false, .bool false, .bool false, .bool false, .bool false, .bool false, .bool false, .bool false, .bool false, .bool false] 126)).setRow (w.heap.size + 1) #[.bool false, .bool false, .bool false, .bool false, .bool true, .bool true, .bool true, .bool false, .bool true, .bool false, .bool false, .bool false, .bool true, .bool false, .bool false, .bool false, .bool true, .bool true, .bool false, .bool false, .bool false, .bool false, .bool false, .bool true] := ⟨_, rfl⟩
  obtain ⟨z, hz⟩ : ∃ z, z = w.heap.size := ⟨_, rfl⟩
  have f0 : Fr (fun _ => False) w W := by rw [hW]; exact of_fr w _ _ _
  have hg : W.heap[z]? = some (.cells #[.bool false, .bool false, .bool false, .bool false] 97 (0, 0)) := by rw [hW, hz]; exact of_z w _ _ _
  have hy : W.heap[z + 1]? = some (.cells #[.bool false, .bool false, .bool false, .bool false, .bool true, .bool true, .bool true, .bool false, .bool true, .bool false, .bool false, .bool false, .bool true, .bool false, .bool false, .bool false, .bool true, .bool true, .bool false, .bool false, .bool false, .bool false, .bool false, .bool true] 126 (0, 0)) := by rw [hW, hz]; exact of_y w _ _ _ _
  have v0 := (cell_of hy 4).trans (show _ = some (Value.bool true) from rfl)
  have d0 := (cell_of hg 0).trans (show _ = some (Value.bool false) from rfl)
  have y0 := free_of hg 0
  have v1 := (cell_of hy 5).trans (show _ = some (Value.bool true) from rfl)
  have d1 := (cell_of hg 1).trans (show _ = some (Value.bool false) from rfl)
  have y1 := free_of hg 1
  have v2 := (cell_of hy 6).trans (show _ = some (Value.bool true) from rfl)
  have d2 := (cell_of hg 2).trans (show _ = some (Value.bool false) from rfl)
  have y2 := free_of hg 2
  have v3 := (cell_of hy 7).trans (show _ = some (Value.bool false) from rfl)
  have d3 := (cell_of hg 3).trans (show _ = some (Value.bool false) from rfl)
  have y3 := free_of hg 3
  have hfin := setCell_blk (o := 3) (setCell_blk (o := 2) (setCell_blk (o := 1) (setCell_blk (o := 0) hg (.bool true)) (.bool true)) (.bool true)) (.bool false)
  have e0 := (cell_of hfin 0).trans (show _ = some (Value.bool true) from rfl)
  have e1 := (cell_of hfin 1).trans (show _ = some (Value.bool true) from rfl)
  have e2 := (cell_of hfin 2).trans (show _ = some (Value.bool true) from rfl)
  have e3 := (cell_of hfin 3).trans (show _ = some (Value.bool false) from rfl)
  have Ff := Lib.hid (show Fr (fun _ => False) w ((((W.setCell ⟨z, 0, none⟩ (.bool true)).setCell ⟨z, 1, none⟩ (.bool true)).setCell ⟨z, 2, none⟩ (.bool true)).setCell ⟨z, 3, none⟩ (.bool false)) from
    (((f0.setCell (p := ⟨z, 0, none⟩) (fun e => by simp at e; omega) _).setCell (p := ⟨z, 1, none⟩) (fun e => by simp at e; omega) _).setCell (p := ⟨z, 2, none⟩) (fun e => by simp at e; omega) _).setCell (p := ⟨z, 3, none⟩) (fun e => by simp at e; omega) _)
  clear f0 hg hy hfin
  go_enter Try.func49, Try.ntmps49
  go_upto_region 2 with (first | refine wpList_build_at [(1, shpV true true true false), (2, shpV true false false false), (3, shpV true false false false), (4, shpV true true false false), (5, shpV false false false true)] (t := 126) (parts := #[(1, .tmp 5), (2, .tmp 6), (3, .tmp 7), (4, .tmp 8), (5, .tmp 9)]) rfl rfl rfl built6 ?_ | refine wpList_store_row rfl 126 (.tmp 4) (.tmp 10) rfl (w.heap.size + 1) #[.bool false, .bool false, .bool false, .bool false, .bool true, .bool true, .bool true, .bool false, .bool true, .bool false, .bool false, .bool false, .bool true, .bool false, .bool false, .bool false, .bool true, .bool true, .bool false, .bool false, .bool false, .bool false, .bool false, .bool true] rfl rfl 126 #[.bool false, .bool false, .bool false, .bool false, .bool false, .bool false, .bool false, .bool false, .bool false, .bool false, .bool false, .bool false, .bool false, .bool false, .bool false, .bool false, .bool false, .bool false, .bool false, .bool false, .bool false, .bool false, .bool false, .bool false] (heap_alloc2_new _ _ _) (by kernel_rfl) (by kernel_rfl) (by kernel_rfl) ?_)
  rw [← hW, ← hz]
  clear hW hz
  go_wp2_with fail
  refine bodyPost_ret (v := .tuple #[shpV true true true false, .bool true]) ?_ rfl ⟨rfl, Ff.out⟩
  simp [results, Try.f49, go_sem, e0, e1, e2, e3]
set_option maxRecDepth 100000 in
set_option maxHeartbeats 1000000 in
theorem of_2 (w : World) : Calls Try.prog 49 #[.int .i64 2] w fun e w' => e = .returned (.tuple #[shpV true false false false, .bool true]) ∧ Fr (fun _ => False) w w' := by
  obtain ⟨W, hW⟩ : ∃ W, W = ((w.alloc (.cells #[.bool false, .bool false, .bool false, .bool false] 97)).alloc (.cells #[.bool false, .bool false, .bool false, .bool false, .bool false, .bool false, .bool false, .bool false, .bool false, .bool false, .bool false, .bool false, .bool false, .bool false, .bool false, .bool false, .bool false, .bool false, .bool false, .bool false, .bool false, .bool false, .bool false, .bool false] 126)).setRow (w.heap.size + 1) #[.bool false, .bool false, .bool false, .bool false, .bool true, .bool true, .bool true, .bool false, .bool true, .bool false, .bool false, .bool false, .bool true, .bool false, .bool false, .bool false, .bool true, .bool true, .bool false, .bool false, .bool false, .bool false, .bool false, .bool true] := ⟨_, rfl⟩
  obtain ⟨z, hz⟩ : ∃ z, z = w.heap.size := ⟨_, rfl⟩
  have f0 : Fr (fun _ => False) w W := by rw [hW]; exact of_fr w _ _ _
  have hg : W.heap[z]? = some (.cells #[.bool false, .bool false, .bool false, .bool false] 97 (0, 0)) := by rw [hW, hz]; exact of_z w _ _ _
  have hy : W.heap[z + 1]? = some (.cells #[.bool false, .bool false, .bool false, .bool false, .bool true, .bool true, .bool true, .bool false, .bool true, .bool false, .bool false, .bool false, .bool true, .bool false, .bool false, .bool false, .bool true, .bool true, .bool false, .bool false, .bool false, .bool false, .bool false, .bool true] 126 (0, 0)) := by rw [hW, hz]; exact of_y w _ _ _ _
  have v0 := (cell_of hy 8).trans (show _ = some (Value.bool true) from rfl)
  have d0 := (cell_of hg 0).trans (show _ = some (Value.bool false) from rfl)
  have y0 := free_of hg 0
  have v1 := (cell_of hy 9).trans (show _ = some (Value.bool false) from rfl)
  have d1 := (cell_of hg 1).trans (show _ = some (Value.bool false) from rfl)
  have y1 := free_of hg 1
  have v2 := (cell_of hy 10).trans (show _ = some (Value.bool false) from rfl)
  have d2 := (cell_of hg 2).trans (show _ = some (Value.bool false) from rfl)
  have y2 := free_of hg 2
  have v3 := (cell_of hy 11).trans (show _ = some (Value.bool false) from rfl)
  have d3 := (cell_of hg 3).trans (show _ = some (Value.bool false) from rfl)
  have y3 := free_of hg 3
  have hfin := setCell_blk (o := 3) (setCell_blk (o := 2) (setCell_blk (o := 1) (setCell_blk (o := 0) hg (.bool true)) (.bool false)) (.bool false)) (.bool false)
  have e0 := (cell_of hfin 0).trans (show _ = some (Value.bool true) from rfl)
  have e1 := (cell_of hfin 1).trans (show _ = some (Value.bool false) from rfl)
  have e2 := (cell_of hfin 2).trans (show _ = some (Value.bool false) from rfl)
  have e3 := (cell_of hfin 3).trans (show _ = some (Value.bool false) from rfl)
  have Ff := Lib.hid (show Fr (fun _ => False) w ((((W.setCell ⟨z, 0, none⟩ (.bool true)).setCell ⟨z, 1, none⟩ (.bool false)).setCell ⟨z, 2, none⟩ (.bool false)).setCell ⟨z, 3, none⟩ (.bool false)) from
    (((f0.setCell (p := ⟨z, 0, none⟩) (fun e => by simp at e; omega) _).setCell (p := ⟨z, 1, none⟩) (fun e => by simp at e; omega) _).setCell (p := ⟨z, 2, none⟩) (fun e => by simp at e; omega) _).setCell (p := ⟨z, 3, none⟩) (fun e => by simp at e; omega) _)
  clear f0 hg hy hfin
  go_enter Try.func49, Try.ntmps49
  go_upto_region 2 with (first | refine wpList_build_at [(1, shpV true true true false), (2, shpV true false false false), (3, shpV true false false false), (4, shpV true true false false), (5, shpV false false false true)] (t := 126) (parts := #[(1, .tmp 5), (2, .tmp 6), (3, .tmp 7), (4, .tmp 8), (5, .tmp 9)]) rfl rfl rfl built6 ?_ | refine wpList_store_row rfl 126 (.tmp 4) (.tmp 10) rfl (w.heap.size + 1) #[.bool false, .bool false, .bool false, .bool false, .bool true, .bool true, .bool true, .bool false, .bool true, .bool false, .bool false, .bool false, .bool true, .bool false, .bool false, .bool false, .bool true, .bool true, .bool false, .bool false, .bool false, .bool false, .bool false, .bool true] rfl rfl 126 #[.bool false, .bool false, .bool false, .bool false, .bool false, .bool false, .bool false, .bool false, .bool false, .bool false, .bool false, .bool false, .bool false, .bool false, .bool false, .bool false, .bool false, .bool false, .bool false, .bool false, .bool false, .bool false, .bool false, .bool false] (heap_alloc2_new _ _ _) (by kernel_rfl) (by kernel_rfl) (by kernel_rfl) ?_)
  rw [← hW, ← hz]
  clear hW hz
  go_wp2_with fail
  refine bodyPost_ret (v := .tuple #[shpV true false false false, .bool true]) ?_ rfl ⟨rfl, Ff.out⟩
  simp [results, Try.f49, go_sem, e0, e1, e2, e3]
set_option maxRecDepth 100000 in
set_option maxHeartbeats 1000000 in
theorem of_3 (w : World) : Calls Try.prog 49 #[.int .i64 3] w fun e w' => e = .returned (.tuple #[shpV true false false false, .bool true]) ∧ Fr (fun _ => False) w w' := by
  obtain ⟨W, hW⟩ : ∃ W, W = ((w.alloc (.cells #[.bool false, .bool false, .bool false, .bool false] 97)).alloc (.cells #[.bool false, .bool false, .bool false, .bool false, .bool false, .bool false, .bool false, .bool false, .bool false, .bool false, .bool false, .bool false, .bool false, .bool false, .bool false, .bool false, .bool false, .bool false, .bool false, .bool false, .bool false, .bool false, .bool false, .bool false] 126)).setRow (w.heap.size + 1) #[.bool false, .bool false, .bool false, .bool false, .bool true, .bool true, .bool true, .bool false, .bool true, .bool false, .bool false, .bool false, .bool true, .bool false, .bool false, .bool false, .bool true, .bool true, .bool false, .bool false, .bool false, .bool false, .bool false, .bool true] := ⟨_, rfl⟩
  obtain ⟨z, hz⟩ : ∃ z, z = w.heap.size := ⟨_, rfl⟩
  have f0 : Fr (fun _ => False) w W := by rw [hW]; exact of_fr w _ _ _
  have hg : W.heap[z]? = some (.cells #[.bool false, .bool false, .bool false, .bool false] 97 (0, 0)) := by rw [hW, hz]; exact of_z w _ _ _
  have hy : W.heap[z + 1]? = some (.cells #[.bool false, .bool false, .bool false, .bool false, .bool true, .bool true, .bool true, .bool false, .bool true, .bool false, .bool false, .bool false, .bool true, .bool false, .bool false, .bool false, .bool true, .bool true, .bool false, .bool false, .bool false, .bool false, .bool false, .bool true] 126 (0, 0)) := by rw [hW, hz]; exact of_y w _ _ _ _
  have v0 := (cell_of hy 12).trans (show _ = some (Value.bool true) from rfl)
  have d0 := (cell_of hg 0).trans (show _ = some (Value.bool false) from rfl)
  have y0 := free_of hg 0
  have v1 := (cell_of hy 13).trans (show _ = some (Value.bool false) from rfl)
  have d1 := (cell_of hg 1).trans (show _ = some (Value.bool false) from rfl)
  have y1 := free_of hg 1
  have v2 := (cell_of hy 14).trans (show _ = some (Value.bool false) from rfl)
  have d2 := (cell_of hg 2).trans (show _ = some (Value.bool false) from rfl)
  have y2 := free_of hg 2
  have v3 := (cell_of hy 15).trans (show _ = some (Value.bool false) from rfl)
  have d3 := (cell_of hg 3).trans (show _ = some (Value.bool false) from rfl)
  have y3 := free_of hg 3
  have hfin := setCell_blk (o := 3) (setCell_blk (o := 2) (setCell_blk (o := 1) (setCell_blk (o := 0) hg (.bool true)) (.bool false)) (.bool false)) (.bool false)
  have e0 := (cell_of hfin 0).trans (show _ = some (Value.bool true) from rfl)
  have e1 := (cell_of hfin 1).trans (show _ = some (Value.bool false) from rfl)
  have e2 := (cell_of hfin 2).trans (show _ = some (Value.bool false) from rfl)
  have e3 := (cell_of hfin 3).trans (show _ = some (Value.bool false) from rfl)
  have Ff := Lib.hid (show Fr (fun _ => False) w ((((W.setCell ⟨z, 0, none⟩ (.bool true)).setCell ⟨z, 1, none⟩ (.bool false)).setCell ⟨z, 2, none⟩ (.bool false)).setCell ⟨z, 3, none⟩ (.bool false)) from
    (((f0.setCell (p := ⟨z, 0, none⟩) (fun e => by simp at e; omega) _).setCell (p := ⟨z, 1, none⟩) (fun e => by simp at e; omega) _).setCell (p := ⟨z, 2, none⟩) (fun e => by simp at e; omega) _).setCell (p := ⟨z, 3, none⟩) (fun e => by simp at e; omega) _)
  clear f0 hg hy hfin
  go_enter Try.func49, Try.ntmps49
  go_upto_region 2 with (first | refine wpList_build_at [(1, shpV true true true false), (2, shpV true false false false), (3, shpV true false false false), (4, shpV true true false false), (5, shpV false false false true)] (t := 126) (parts := #[(1, .tmp 5), (2, .tmp 6), (3, .tmp 7), (4, .tmp 8), (5, .tmp 9)]) rfl rfl rfl built6 ?_ | refine wpList_store_row rfl 126 (.tmp 4) (.tmp 10) rfl (w.heap.size + 1) #[.bool false, .bool false, .bool false, .bool false, .bool true, .bool true, .bool true, .bool false, .bool true, .bool false, .bool false, .bool false, .bool true, .bool false, .bool false, .bool false, .bool true, .bool true, .bool false, .bool false, .bool false, .bool false, .bool false, .bool true] rfl rfl 126 #[.bool false, .bool false, .bool false, .bool false, .bool false, .bool false, .bool false, .bool false, .bool false, .bool false, .bool false, .bool false, .bool false, .bool false, .bool false, .bool false, .bool false, .bool false, .bool false, .bool false, .bool false, .bool false, .bool false, .bool false] (heap_alloc2_new _ _ _) (by kernel_rfl) (by kernel_rfl) (by kernel_rfl) ?_)
  rw [← hW, ← hz]
  clear hW hz
  go_wp2_with fail
  refine bodyPost_ret (v := .tuple #[shpV true false false false, .bool true]) ?_ rfl ⟨rfl, Ff.out⟩
  simp [results, Try.f49, go_sem, e0, e1, e2, e3]
set_option maxRecDepth 100000 in
set_option maxHeartbeats 1000000 in
theorem of_4 (w : World) : Calls Try.prog 49 #[.int .i64 4] w fun e w' => e = .returned (.tuple #[shpV true true false false, .bool true]) ∧ Fr (fun _ => False) w w' := by
  obtain ⟨W, hW⟩ : ∃ W, W = ((w.alloc (.cells #[.bool false, .bool false, .bool false, .bool false] 97)).alloc (.cells #[.bool false, .bool false, .bool false, .bool false, .bool false, .bool false, .bool false, .bool false, .bool false, .bool false, .bool false, .bool false, .bool false, .bool false, .bool false, .bool false, .bool false, .bool false, .bool false, .bool false, .bool false, .bool false, .bool false, .bool false] 126)).setRow (w.heap.size + 1) #[.bool false, .bool false, .bool false, .bool false, .bool true, .bool true, .bool true, .bool false, .bool true, .bool false, .bool false, .bool false, .bool true, .bool false, .bool false, .bool false, .bool true, .bool true, .bool false, .bool false, .bool false, .bool false, .bool false, .bool true] := ⟨_, rfl⟩
  obtain ⟨z, hz⟩ : ∃ z, z = w.heap.size := ⟨_, rfl⟩
  have f0 : Fr (fun _ => False) w W := by rw [hW]; exact of_fr w _ _ _
  have hg : W.heap[z]? = some (.cells #[.bool false, .bool false, .bool false, .bool false] 97 (0, 0)) := by rw [hW, hz]; exact of_z w _ _ _
  have hy : W.heap[z + 1]? = some (.cells #[.bool false, .bool false, .bool false, .bool false, .bool true, .bool true, .bool true, .bool false, .bool true, .bool false, .bool false, .bool false, .bool true, .bool false, .bool false, .bool false, .bool true, .bool true, .bool false, .bool false, .bool false, .bool false, .bool false, .bool true] 126 (0, 0)) := by rw [hW, hz]; exact of_y w _ _ _ _
  have v0 := (cell_of hy 16).trans (show _ = some (Value.bool true) from rfl)
  have d0 := (cell_of hg 0).trans (show _ = some (Value.bool false) from rfl)
  have y0 := free_of hg 0
  have v1 := (cell_of hy 17).trans (show _ = some (Value.bool true) from rfl)
  have d1 := (cell_of hg 1).trans (show _ = some (Value.bool false) from rfl)
  have y1 := free_of hg 1
  have v2 := (cell_of hy 18).trans (show _ = some (Value.bool false) from rfl)
  have d2 := (cell_of hg 2).trans (show _ = some (Value.bool false) from rfl)
  have y2 := free_of hg 2
  have v3 := (cell_of hy 19).trans (show _ = some (Value.bool false) from rfl)
  have d3 := (cell_of hg 3).trans (show _ = some (Value.bool false) from rfl)
  have y3 := free_of hg 3
  have hfin := setCell_blk (o := 3) (setCell_blk (o := 2) (setCell_blk (o := 1) (setCell_blk (o := 0) hg (.bool true)) (.bool true)) (.bool false)) (.bool false)
  have e0 := (cell_of hfin 0).trans (show _ = some (Value.bool true) from rfl)
  have e1 := (cell_of hfin 1).trans (show _ = some (Value.bool true) from rfl)
  have e2 := (cell_of hfin 2).trans (show _ = some (Value.bool false) from rfl)
  have e3 := (cell_of hfin 3).trans (show _ = some (Value.bool false) from rfl)
  have Ff := Lib.hid (show Fr (fun _ => False) w ((((W.setCell ⟨z, 0, none⟩ (.bool true)).setCell ⟨z, 1, none⟩ (.bool true)).setCell ⟨z, 2, none⟩ (.bool false)).setCell ⟨z, 3, none⟩ (.bool false)) from
    (((f0.setCell (p := ⟨z, 0, none⟩) (fun e => by simp at e; omega) _).setCell (p := ⟨z, 1, none⟩) (fun e => by simp at e; omega) _).setCell (p := ⟨z, 2, none⟩) (fun e => by simp at e; omega) _).setCell (p := ⟨z, 3, none⟩) (fun e => by simp at e; omega) _)
  clear f0 hg hy hfin
  go_enter Try.func49, Try.ntmps49
  go_upto_region 2 with (first | refine wpList_build_at [(1, shpV true true true false), (2, shpV true false false false), (3, shpV true false false false), (4, shpV true true false false), (5, shpV false false false true)] (t := 126) (parts := #[(1, .tmp 5), (2, .tmp 6), (3, .tmp 7), (4, .tmp 8), (5, .tmp 9)]) rfl rfl rfl built6 ?_ | refine wpList_store_row rfl 126 (.tmp 4) (.tmp 10) rfl (w.heap.size + 1) #[.bool false, .bool false, .bool false, .bool false, .bool true, .bool true, .bool true, .bool false, .bool true, .bool false, .bool false, .bool false, .bool true, .bool false, .bool false, .bool false, .bool true, .bool true, .bool false, .bool false, .bool false, .bool false, .bool false, .bool true] rfl rfl 126 #[.bool false, .bool false, .bool false, .bool false, .bool false, .bool false, .bool false, .bool false, .bool false, .bool false, .bool false, .bool false, .bool false, .bool false, .bool false, .bool false, .bool false, .bool false, .bool false, .bool false, .bool false, .bool false, .bool false, .bool false] (heap_alloc2_new _ _ _) (by kernel_rfl) (by kernel_rfl) (by kernel_rfl) ?_)
  rw [← hW, ← hz]
  clear hW hz
  go_wp2_with fail
  refine bodyPost_ret (v := .tuple #[shpV true true false false, .bool true]) ?_ rfl ⟨rfl, Ff.out⟩
  simp [results, Try.f49, go_sem, e0, e1, e2, e3]
set_option maxRecDepth 100000 in
set_option maxHeartbeats 1000000 in
theorem of_5 (w : World) : Calls Try.prog 49 #[.int .i64 5] w fun e w' => e = .returned (.tuple #[shpV false false false true, .bool true]) ∧ Fr (fun _ => False) w w' := by
  obtain ⟨W, hW⟩ : ∃ W, W = ((w.alloc (.cells #[.bool false, .bool false, .bool false, .bool false] 97)).alloc (.cells #[.bool false, .bool false, .bool false, .bool false, .bool false, .bool false, .bool false, .bool false, .bool false, .bool false, .bool false, .bool false, .bool false, .bool false, .bool false, .bool false, .bool false, .bool false, .bool false, .bool false, .bool false, .bool false, .bool false, .bool false] 126)).setRow (w.heap.size + 1) #[.bool false, .bool false, .bool false, .bool false, .bool true, .bool true, .bool true, .bool false, .bool true, .bool false, .bool false, .bool false, .bool true, .bool false, .bool false, .bool false, .bool true, .bool true, .bool false, .bool false, .bool false, .bool false, .bool false, .bool true] := ⟨_, rfl⟩
  obtain ⟨z, hz⟩ : ∃ z, z = w.heap.size := ⟨_, rfl⟩
  have f0 : Fr (fun _ => False) w W := by rw [hW]; exact of_fr w _ _ _
  have hg : W.heap[z]? = some (.cells #[.bool false, .bool false, .bool false, .bool false] 97 (0, 0)) := by rw [hW, hz]; exact of_z w _ _ _
  have hy : W.heap[z + 1]? = some (.cells #[.bool false, .bool false, .bool false, .bool false, .bool true, .bool true, .bool true, .bool false, .bool true, .bool false, .bool false, .bool false, .bool true, .bool false, .bool false, .bool false, .bool true, .bool true, .bool false, .bool false, .bool false, .bool false, .bool false, .bool true] 126 (0, 0)) := by rw [hW, hz]; exact of_y w _ _ _ _
  have v0 := (cell_of hy 20).trans (show _ = some (Value.bool false) from rfl)
  have d0 := (cell_of hg 0).trans (show _ = some (Value.bool false) from rfl)
  have y0 := free_of hg 0
  have v1 := (cell_of hy 21).trans (show _ = some (Value.bool false) from rfl)
  have d1 := (cell_of hg 1).trans (show _ = some (Value.bool false) from rfl)
  have y1 := free_of hg 1
  have v2 := (cell_of hy 22).trans (show _ = some (Value.bool false) from rfl)
  have d2 := (cell_of hg 2).trans (show _ = some (Value.bool false) from rfl)
  have y2 := free_of hg 2
  have v3 := (cell_of hy 23).trans (show _ = some (Value.bool true) from rfl)
  have d3 := (cell_of hg 3).trans (show _ = some (Value.bool false) from rfl)
  have y3 := free_of hg 3
  have hfin := setCell_blk (o := 3) (setCell_blk (o := 2) (setCell_blk (o := 1) (setCell_blk (o := 0) hg (.bool false)) (.bool false)) (.bool false)) (.bool true)
  have e0 := (cell_of hfin 0).trans (show _ = some (Value.bool false) from rfl)
  have e1 := (cell_of hfin 1).trans (show _ = some (Value.bool false) from rfl)
  have e2 := (cell_of hfin 2).trans (show _ = some (Value.bool false) from rfl)
  have e3 := (cell_of hfin 3).trans (show _ = some (Value.bool true) from rfl)
  have Ff := Lib.hid (show Fr (fun _ => False) w ((((W.setCell ⟨z, 0, none⟩ (.bool false)).setCell ⟨z, 1, none⟩ (.bool false)).setCell ⟨z, 2, none⟩ (.bool false)).setCell ⟨z, 3, none⟩ (.bool true)) from
    (((f0.setCell (p := ⟨z, 0, none⟩) (fun e => by simp at e; omega) _).setCell (p := ⟨z, 1, none⟩) (fun e => by simp at e; omega) _).setCell (p := ⟨z, 2, none⟩) (fun e => by simp at e; omega) _).setCell (p := ⟨z, 3, none⟩) (fun e => by simp at e; omega) _)
  clear f0 hg hy hfin
  go_enter Try.func49, Try.ntmps49
  go_upto_region 2 with (first | refine wpList_build_at [(1, shpV true true true false), (2, shpV true false false false), (3, shpV true false false false), (4, shpV true true false false), (5, shpV false false false true)] (t := 126) (parts := #[(1, .tmp 5), (2, .tmp 6), (3, .tmp 7), (4, .tmp 8), (5, .tmp 9)]) rfl rfl rfl built6 ?_ | refine wpList_store_row rfl 126 (.tmp 4) (.tmp 10) rfl (w.heap.size + 1) #[.bool false, .bool false, .bool false, .bool false, .bool true, .bool true, .bool true, .bool false, .bool true, .bool false, .bool false, .bool false, .bool true, .bool false, .bool false, .bool false, .bool true, .bool true, .bool false, .bool false, .bool false, .bool false, .bool false, .bool true] rfl rfl 126 #[.bool false, .bool false, .bool false, .bool false, .bool false, .bool false, .bool false, .bool false, .bool false, .bool false, .bool false, .bool false, .bool false, .bool false, .bool false, .bool false, .bool false, .bool false, .bool false, .bool false, .bool false, .bool false, .bool false, .bool false] (heap_alloc2_new _ _ _) (by kernel_rfl) (by kernel_rfl) (by kernel_rfl) ?_)
  rw [← hW, ← hz]
  clear hW hz
  go_wp2_with fail
  refine bodyPost_ret (v := .tuple #[shpV false false false true, .bool true]) ?_ rfl ⟨rfl, Ff.out⟩
  simp [results, Try.f49, go_sem, e0, e1, e2, e3]
set_option maxRecDepth 100000 in
set_option maxHeartbeats 2000000 in
theorem of_none {k : Int} (h : k < 1 ∨ 5 < k) (w : World) : Calls Try.prog 49 #[.int .i64 k] w fun e w' => e = .returned (.tuple #[shpV false false false false, .bool false]) ∧ Fr (fun _ => False) w w' := by
  by_cases h1 : k < 1
  · have b1 : decide (k < 1) = true := by simpa using h1
    clear h h1
    obtain ⟨W, hW⟩ : ∃ W, W = ((w.alloc (.cells #[.bool false, .bool false, .bool false, .bool false] 97)).alloc (.cells #[.bool false, .bool false, .bool false, .bool false, .bool false, .bool false, .bool false, .bool false, .bool false, .bool false, .bool false, .bool false, .bool false, .bool false, .bool false, .bool false, .bool false, .bool false, .bool false, .bool false, .bool false, .bool false, .bool false, .bool false] 126)).setRow (w.heap.size + 1) #[.bool false, .bool false, .bool false, .bool false, .bool true, .bool true, .bool true, .bool false, .bool true, .bool false, .bool false, .bool false, .bool true, .bool false, .bool false, .bool false, .bool true, .bool true, .bool false, .bool false, .bool false, .bool false, .bool false, .bool true] := ⟨_, rfl⟩
    obtain ⟨z, hz⟩ : ∃ z, z = w.heap.size := ⟨_, rfl⟩
    have f0 : Fr (fun _ => False) w W := by rw [hW]; exact of_fr w _ _ _
    have hg : W.heap[z]? = some (.cells #[.bool false, .bool false, .bool false, .bool false] 97 (0, 0)) := by rw [hW, hz]; exact of_z w _ _ _
    have d0 := (cell_of hg 0).trans (show _ = some (Value.bool false) from rfl)
    have d1 := (cell_of hg 1).trans (show _ = some (Value.bool false) from rfl)
    have d2 := (cell_of hg 2).trans (show _ = some (Value.bool false) from rfl)
    have d3 := (cell_of hg 3).trans (show _ = some (Value.bool false) from rfl)
    have y0 := free_of hg 0; have y1 := free_of hg 1; have y2 := free_of hg 2; have y3 := free_of hg 3
    have hfin := setCell_blk (o := 3) (setCell_blk (o := 2) (setCell_blk (o := 1) (setCell_blk (o := 0) hg (.bool false)) (.bool false)) (.bool false)) (.bool false)
    have e0 := (cell_of hfin 0).trans (show _ = some (Value.bool false) from rfl)
    have e1 := (cell_of hfin 1).trans (show _ = some (Value.bool false) from rfl)
    have e2 := (cell_of hfin 2).trans (show _ = some (Value.bool false) from rfl)
    have e3 := (cell_of hfin 3).trans (show _ = some (Value.bool false) from rfl)
    have Ff := Lib.hid (show Fr (fun _ => False) w ((((W.setCell ⟨z, 0, none⟩ (.bool false)).setCell ⟨z, 1, none⟩ (.bool false)).setCell ⟨z, 2, none⟩ (.bool false)).setCell ⟨z, 3, none⟩ (.bool false)) from
      (((f0.setCell (p := ⟨z, 0, none⟩) (fun e => by simp at e; omega) _).setCell (p := ⟨z, 1, none⟩) (fun e => by simp at e; omega) _).setCell (p := ⟨z, 2, none⟩) (fun e => by simp at e; omega) _).setCell (p := ⟨z, 3, none⟩) (fun e => by simp at e; omega) _)
    clear f0 hg hfin
    go_enter Try.func49, Try.ntmps49
    go_upto_region 2 with (first | refine wpList_build_at [(1, shpV true true true false), (2, shpV true false false false), (3, shpV true false false false), (4, shpV true true false false), (5, shpV false false false true)] (t := 126) (parts := #[(1, .tmp 5), (2, .tmp 6), (3, .tmp 7), (4, .tmp 8), (5, .tmp 9)]) rfl rfl rfl built6 ?_ | refine wpList_store_row rfl 126 (.tmp 4) (.tmp 10) rfl (w.heap.size + 1) #[.bool false, .bool false, .bool false, .bool false, .bool true, .bool true, .bool true, .bool false, .bool true, .bool false, .bool false, .bool false, .bool true, .bool false, .bool false, .bool false, .bool true, .bool true, .bool false, .bool false, .bool false, .bool false, .bool false, .bool true] rfl rfl 126 #[.bool false, .bool false, .bool false, .bool false, .bool false, .bool false, .bool false, .bool false, .bool false, .bool false, .bool false, .bool false, .bool false, .bool false, .bool false, .bool false, .bool false, .bool false, .bool false, .bool false, .bool false, .bool false, .bool false, .bool false] (heap_alloc2_new _ _ _) (by kernel_rfl) (by kernel_rfl) (by kernel_rfl) ?_)
    rw [← hW, ← hz]
    clear hW hz
    go_wp2_with fail
    refine bodyPost_ret (v := .tuple #[shpV false false false false, .bool false]) ?_ rfl ⟨rfl, Ff.out⟩
    simp [results, Try.f49, go_sem, e0, e1, e2, e3]
  · have b1 : decide (k < 1) = false := by simpa using h1
    have h2 : 6 ≤ k := by omega
    have b2 : decide (6 ≤ k) = true := by simpa using h2
    clear h h1 h2
    obtain ⟨W, hW⟩ : ∃ W, W = ((w.alloc (.cells #[.bool false, .bool false, .bool false, .bool false] 97)).alloc (.cells #[.bool false, .bool false, .bool false, .bool false, .bool false, .bool false, .bool false, .bool false, .bool false, .bool false, .bool false, .bool false, .bool false, .bool false, .bool false, .bool false, .bool false, .bool false, .bool false, .bool false, .bool false, .bool false, .bool false, .bool false] 126)).setRow (w.heap.size + 1) #[.bool false, .bool false, .bool false, .bool false, .bool true, .bool true, .bool true, .bool false, .bool true, .bool false, .bool false, .bool false, .bool true, .bool false, .bool false, .bool false, .bool true, .bool true, .bool false, .bool false, .bool false, .bool false, .bool false, .bool true] := ⟨_, rfl⟩
    obtain ⟨z, hz⟩ : ∃ z, z = w.heap.size := ⟨_, rfl⟩
    have f0 : Fr (fun _ => False) w W := by rw [hW]; exact of_fr w _ _ _
    have hg : W.heap[z]? = some (.cells #[.bool false, .bool false, .bool false, .bool false] 97 (0, 0)) := by rw [hW, hz]; exact of_z w _ _ _
    have d0 := (cell_of hg 0).trans (show _ = some (Value.bool false) from rfl)
    have d1 := (cell_of hg 1).trans (show _ = some (Value.bool false) from rfl)
    have d2 := (cell_of hg 2).trans (show _ = some (Value.bool false) from rfl)
    have d3 := (cell_of hg 3).trans (show _ = some (Value.bool false) from rfl)
    have y0 := free_of hg 0; have y1 := free_of hg 1; have y2 := free_of hg 2; have y3 := free_of hg 3
    have hfin := setCell_blk (o := 3) (setCell_blk (o := 2) (setCell_blk (o := 1) (setCell_blk (o := 0) hg (.bool false)) (.bool false)) (.bool false)) (.bool false)
    have e0 := (cell_of hfin 0).trans (show _ = some (Value.bool false) from rfl)
    have e1 := (cell_of hfin 1).trans (show _ = some (Value.bool false) from rfl)
    have e2 := (cell_of hfin 2).trans (show _ = some (Value.bool false) from rfl)
    have e3 := (cell_of hfin 3).trans (show _ = some (Value.bool false) from rfl)
    have Ff := Lib.hid (show Fr (fun _ => False) w ((((W.setCell ⟨z, 0, none⟩ (.bool false)).setCell ⟨z, 1, none⟩ (.bool false)).setCell ⟨z, 2, none⟩ (.bool false)).setCell ⟨z, 3, none⟩ (.bool false)) from
      (((f0.setCell (p := ⟨z, 0, none⟩) (fun e => by simp at e; omega) _).setCell (p := ⟨z, 1, none⟩) (fun e => by simp at e; omega) _).setCell (p := ⟨z, 2, none⟩) (fun e => by simp at e; omega) _).setCell (p := ⟨z, 3, none⟩) (fun e => by simp at e; omega) _)
    clear f0 hg hfin
    go_enter Try.func49, Try.ntmps49
    go_upto_region 2 with (first | refine wpList_build_at [(1, shpV true true true false), (2, shpV true false false false), (3, shpV true false false false), (4, shpV true true false false), (5, shpV false false false true)] (t := 126) (parts := #[(1, .tmp 5), (2, .tmp 6), (3, .tmp 7), (4, .tmp 8), (5, .tmp 9)]) rfl rfl rfl built6 ?_ | refine wpList_store_row rfl 126 (.tmp 4) (.tmp 10) rfl (w.heap.size + 1) #[.bool false, .bool false, .bool false, .bool false, .bool true, .bool true, .bool true, .bool false, .bool true, .bool false, .bool false, .bool false, .bool true, .bool false, .bool false, .bool false, .bool true, .bool true, .bool false, .bool false, .bool false, .bool false, .bool false, .bool true] rfl rfl 126 #[.bool false, .bool false, .bool false, .bool false, .bool false, .bool false, .bool false, .bool false, .bool false, .bool false, .bool false, .bool false, .bool false, .bool false, .bool false, .bool false, .bool false, .bool false, .bool false, .bool false, .bool false, .bool false, .bool false, .bool false] (heap_alloc2_new _ _ _) (by kernel_rfl) (by kernel_rfl) (by kernel_rfl) ?_)
    rw [← hW, ← hz]
    clear hW hz
    go_wp2_with fail
    refine bodyPost_ret (v := .tuple #[shpV false false false false, .bool false]) ?_ rfl ⟨rfl, Ff.out⟩
    simp [results, Try.f49, go_sem, e0, e1, e2, e3]
end Go.Proofs.Ytmmjlnicfndmcaa.Bk
namespace Go.Proofs.Ytmmjlnicfndmcaa.Bk
open Go.RowKit
set_option maxRecDepth 100000 in
set_option maxHeartbeats 2000000 in
theorem check_walk {r : Rc} {w : World} {s1 s2 s3 s4 q1 q2 q3 q4 : Bool} (hid : r.id < 4294967296) (h0 : ∀ w, Calls Try.prog 49 #[.int .i64 r.kind] w fun e w' => e = .returned (.tuple #[shpV s1 s2 s3 s4, .bool true]) ∧ Fr (fun _ => False) w w')
    (h1 : ∀ w, Calls Try.prog 50 #[.bool s1, .int .i64 (r.id : Int), .int .i64 1, .int .i64 4294967295] w fun e w' => e = .returned (.bool q1) ∧ w = w')
    (h2 : ∀ w, Calls Try.prog 50 #[.bool s2, .int .i64 r.seat, .int .i64 0, .int .i64 1023] w fun e w' => e = .returned (.bool q2) ∧ w = w')
    (h3 : ∀ w, Calls Try.prog 50 #[.bool s3, .int .i64 r.till, .int .i64 1, .int .i64 1099511627776] w fun e w' => e = .returned (.bool q3) ∧ w = w')
    (h4 : ∀ w, Calls Try.prog 50 #[.bool s4, .int .i64 r.clock, .int .i64 1, .int .i64 1099511627776] w fun e w' => e = .returned (.bool q4) ∧ w = w') :
    Calls Try.prog 28 #[rcV r] w fun e w' => e = .returned (.int .i64 (if (q1 && (q2 && (q3 && q4))) = true then 0 else 160)) ∧ Fr (fun _ => False) w w' := by
  obtain ⟨W, hW⟩ : ∃ W, W = w.alloc (rcC r) := ⟨_, rfl⟩
  obtain ⟨z, hz⟩ : ∃ z, z = w.heap.size := ⟨_, rfl⟩
  have f0 : Fr (fun _ => False) w W := by rw [hW]; exact Fr.alloc (Fr.refl _ _) _
  have hg : W.heap[z]? = some (rcC r) := by rw [hW, hz]; exact heap_alloc_at _ _
  obtain ⟨ri, hri⟩ : ∃ ri, ri = (r.id : Int) := ⟨_, rfl⟩
  rw [← hri] at h1
  have z0 := (cell_of hg 0).trans (show _ = some (Value.int .i64 r.kind) from rfl)
  have Hc := Lib.hid (show IntKind.i64.wrap ri = ri by rw [IntKind.wrap_i64, hri]; omega)
  have H0 := Lib.hid h0; have H1 := Lib.hid h1; have H2 := Lib.hid h2; have H3 := Lib.hid h3; have H4 := Lib.hid h4; have F0 := Lib.hid f0; have Hg := Lib.hid hg
  have Hri := Lib.hid hri
  clear h0 h1 h2 h3 h4 hid f0 hg hri
  cases q1 with
  | false =>
    go_enter Try.func28, Try.ntmps28
    go_upto_region 1 with fail
    rw [← hW, ← hz]
    clear hW hz
    go_wp2_with fail
    refine (H0.out _).mono ?_
    rintro e w1 ⟨rfl, f1⟩
    have g1 := f1.get Hg.out (fun h => h)
    obtain ⟨w2, hw2⟩ : ∃ w2, w2 = w1.alloc (.cells #[.bool s1, .bool s2, .bool s3, .bool s4] 97) := ⟨_, rfl⟩
    obtain ⟨y, hy⟩ : ∃ y, y = w1.heap.size := ⟨_, rfl⟩
    have f2 : Fr (fun _ => False) w1 w2 := by rw [hw2]; exact Fr.alloc (Fr.refl _ _) _
    have g2 := f2.get g1 (fun h => h)
    have gy : w2.heap[y]? = some (.cells #[.bool s1, .bool s2, .bool s3, .bool s4] 97 (0, 0)) := by rw [hw2, hy]; exact heap_alloc_at _ _
    have x1 := (cell_of g2 1).trans (show _ = some (Value.int .u32 (r.id : Int)) from rfl)
    rw [← Hri.out] at x1
    have x2 := (cell_of g2 2).trans (show _ = some (Value.int .i64 r.seat) from rfl)
    have x3 := (cell_of g2 3).trans (show _ = some (Value.int .i64 r.till) from rfl)
    have x4 := (cell_of g2 4).trans (show _ = some (Value.int .i64 r.clock) from rfl)
    have v0 := (cell_of gy 0).trans (show _ = some (Value.bool s1) from rfl)
    have v1 := (cell_of gy 1).trans (show _ = some (Value.bool s2) from rfl)
    have v2 := (cell_of gy 2).trans (show _ = some (Value.bool s3) from rfl)
    have v3 := (cell_of gy 3).trans (show _ = some (Value.bool s4) from rfl)
    have hc := Hc.out
    have Ff := Lib.hid ((F0.out.trans f1 (fun _ _ h => h)).trans f2 (fun _ _ h => h))
    clear f1 g1 f2 g2 gy z0
    go_upto_region 2 with fail
    rw [← hw2, ← hy]
    clear hw2 hy
    go_wp2_with fail
    refine (H1.out _).mono ?_
    rintro e w5 ⟨rfl, rfl⟩
    go_wp2_with fail
    go_ret
    exact ⟨rfl, Ff.out⟩
  | true =>
    cases q2 with
    | false =>
      go_enter Try.func28, Try.ntmps28
      go_upto_region 1 with fail
      rw [← hW, ← hz]
      clear hW hz
      go_wp2_with fail
      refine (H0.out _).mono ?_
      rintro e w1 ⟨rfl, f1⟩
      have g1 := f1.get Hg.out (fun h => h)
      obtain ⟨w2, hw2⟩ : ∃ w2, w2 = w1.alloc (.cells #[.bool s1, .bool s2, .bool s3, .bool s4] 97) := ⟨_, rfl⟩
      obtain ⟨y, hy⟩ : ∃ y, y = w1.heap.size := ⟨_, rfl⟩
      have f2 : Fr (fun _ => False) w1 w2 := by rw [hw2]; exact Fr.alloc (Fr.refl _ _) _
      have g2 := f2.get g1 (fun h => h)
      have gy : w2.heap[y]? = some (.cells #[.bool s1, .bool s2, .bool s3, .bool s4] 97 (0, 0)) := by rw [hw2, hy]; exact heap_alloc_at _ _
      have x1 := (cell_of g2 1).trans (show _ = some (Value.int .u32 (r.id : Int)) from rfl)
      rw [← Hri.out] at x1
      have x2 := (cell_of g2 2).trans (show _ = some (Value.int .i64 r.seat) from rfl)
      have x3 := (cell_of g2 3).trans (show _ = some (Value.int .i64 r.till) from rfl)
      have x4 := (cell_of g2 4).trans (show _ = some (Value.int .i64 r.clock) from rfl)
      have v0 := (cell_of gy 0).trans (show _ = some (Value.bool s1) from rfl)
      have v1 := (cell_of gy 1).trans (show _ = some (Value.bool s2) from rfl)
      have v2 := (cell_of gy 2).trans (show _ = some (Value.bool s3) from rfl)
      have v3 := (cell_of gy 3).trans (show _ = some (Value.bool s4) from rfl)
      have hc := Hc.out
      have Ff := Lib.hid ((F0.out.trans f1 (fun _ _ h => h)).trans f2 (fun _ _ h => h))
      clear f1 g1 f2 g2 gy z0
      go_upto_region 2 with fail
      rw [← hw2, ← hy]
      clear hw2 hy
      go_wp2_with fail
      refine (H1.out _).mono ?_
      rintro e w5 ⟨rfl, rfl⟩
      go_wp2_with fail
      refine (H2.out _).mono ?_
      rintro e w5 ⟨rfl, rfl⟩
      go_wp2_with fail
      go_ret
      exact ⟨rfl, Ff.out⟩
    | true =>
      cases q3 with
      | false =>
        go_enter Try.func28, Try.ntmps28
        go_upto_region 1 with fail
        rw [← hW, ← hz]
        clear hW hz
        go_wp2_with fail
        refine (H0.out _).mono ?_
        rintro e w1 ⟨rfl, f1⟩
        have g1 := f1.get Hg.out (fun h => h)
        obtain ⟨w2, hw2⟩ : ∃ w2, w2 = w1.alloc (.cells #[.bool s1, .bool s2, .bool s3, .bool s4] 97) := ⟨_, rfl⟩
        obtain ⟨y, hy⟩ : ∃ y, y = w1.heap.size := ⟨_, rfl⟩
        have f2 : Fr (fun _ => False) w1 w2 := by rw [hw2]; exact Fr.alloc (Fr.refl _ _) _
        have g2 := f2.get g1 (fun h => h)
        have gy : w2.heap[y]? = some (.cells #[.bool s1, .bool s2, .bool s3, .bool s4] 97 (0, 0)) := by rw [hw2, hy]; exact heap_alloc_at _ _
        have x1 := (cell_of g2 1).trans (show _ = some (Value.int .u32 (r.id : Int)) from rfl)
        rw [← Hri.out] at x1
        have x2 := (cell_of g2 2).trans (show _ = some (Value.int .i64 r.seat) from rfl)
        have x3 := (cell_of g2 3).trans (show _ = some (Value.int .i64 r.till) from rfl)
        have x4 := (cell_of g2 4).trans (show _ = some (Value.int .i64 r.clock) from rfl)
        have v0 := (cell_of gy 0).trans (show _ = some (Value.bool s1) from rfl)
        have v1 := (cell_of gy 1).trans (show _ = some (Value.bool s2) from rfl)
        have v2 := (cell_of gy 2).trans (show _ = some (Value.bool s3) from rfl)
        have v3 := (cell_of gy 3).trans (show _ = some (Value.bool s4) from rfl)
        have hc := Hc.out
        have Ff := Lib.hid ((F0.out.trans f1 (fun _ _ h => h)).trans f2 (fun _ _ h => h))
        clear f1 g1 f2 g2 gy z0
        go_upto_region 2 with fail
        rw [← hw2, ← hy]
        clear hw2 hy
        go_wp2_with fail
        refine (H1.out _).mono ?_
        rintro e w5 ⟨rfl, rfl⟩
        go_wp2_with fail
        refine (H2.out _).mono ?_
        rintro e w5 ⟨rfl, rfl⟩
        go_wp2_with fail
        refine (H3.out _).mono ?_
        rintro e w5 ⟨rfl, rfl⟩
        go_wp2_with fail
        go_ret
        exact ⟨rfl, Ff.out⟩
      | true =>
        cases q4 with
        | false =>
          go_enter Try.func28, Try.ntmps28
          go_upto_region 1 with fail
          rw [← hW, ← hz]
          clear hW hz
          go_wp2_with fail
          refine (H0.out _).mono ?_
          rintro e w1 ⟨rfl, f1⟩
          have g1 := f1.get Hg.out (fun h => h)
          obtain ⟨w2, hw2⟩ : ∃ w2, w2 = w1.alloc (.cells #[.bool s1, .bool s2, .bool s3, .bool s4] 97) := ⟨_, rfl⟩
          obtain ⟨y, hy⟩ : ∃ y, y = w1.heap.size := ⟨_, rfl⟩
          have f2 : Fr (fun _ => False) w1 w2 := by rw [hw2]; exact Fr.alloc (Fr.refl _ _) _
          have g2 := f2.get g1 (fun h => h)
          have gy : w2.heap[y]? = some (.cells #[.bool s1, .bool s2, .bool s3, .bool s4] 97 (0, 0)) := by rw [hw2, hy]; exact heap_alloc_at _ _
          have x1 := (cell_of g2 1).trans (show _ = some (Value.int .u32 (r.id : Int)) from rfl)
          rw [← Hri.out] at x1
          have x2 := (cell_of g2 2).trans (show _ = some (Value.int .i64 r.seat) from rfl)
          have x3 := (cell_of g2 3).trans (show _ = some (Value.int .i64 r.till) from rfl)
          have x4 := (cell_of g2 4).trans (show _ = some (Value.int .i64 r.clock) from rfl)
          have v0 := (cell_of gy 0).trans (show _ = some (Value.bool s1) from rfl)
          have v1 := (cell_of gy 1).trans (show _ = some (Value.bool s2) from rfl)
          have v2 := (cell_of gy 2).trans (show _ = some (Value.bool s3) from rfl)
          have v3 := (cell_of gy 3).trans (show _ = some (Value.bool s4) from rfl)
          have hc := Hc.out
          have Ff := Lib.hid ((F0.out.trans f1 (fun _ _ h => h)).trans f2 (fun _ _ h => h))
          clear f1 g1 f2 g2 gy z0
          go_upto_region 2 with fail
          rw [← hw2, ← hy]
          clear hw2 hy
          go_wp2_with fail
          refine (H1.out _).mono ?_
          rintro e w5 ⟨rfl, rfl⟩
          go_wp2_with fail
          refine (H2.out _).mono ?_
          rintro e w5 ⟨rfl, rfl⟩
          go_wp2_with fail
          refine (H3.out _).mono ?_
          rintro e w5 ⟨rfl, rfl⟩
          go_wp2_with fail
          refine (H4.out _).mono ?_
          rintro e w5 ⟨rfl, rfl⟩
          go_wp2_with fail
          go_ret
          exact ⟨rfl, Ff.out⟩
        | true =>
          go_enter Try.func28, Try.ntmps28
          go_upto_region 1 with fail
          rw [← hW, ← hz]
          clear hW hz
          go_wp2_with fail
          refine (H0.out _).mono ?_
          rintro e w1 ⟨rfl, f1⟩
          have g1 := f1.get Hg.out (fun h => h)
          obtain ⟨w2, hw2⟩ : ∃ w2, w2 = w1.alloc (.cells #[.bool s1, .bool s2, .bool s3, .bool s4] 97) := ⟨_, rfl⟩
          obtain ⟨y, hy⟩ : ∃ y, y = w1.heap.size := ⟨_, rfl⟩
          have f2 : Fr (fun _ => False) w1 w2 := by rw [hw2]; exact Fr.alloc (Fr.refl _ _) _
          have g2 := f2.get g1 (fun h => h)
          have gy : w2.heap[y]? = some (.cells #[.bool s1, .bool s2, .bool s3, .bool s4] 97 (0, 0)) := by rw [hw2, hy]; exact heap_alloc_at _ _
          have x1 := (cell_of g2 1).trans (show _ = some (Value.int .u32 (r.id : Int)) from rfl)
          rw [← Hri.out] at x1
          have x2 := (cell_of g2 2).trans (show _ = some (Value.int .i64 r.seat) from rfl)
          have x3 := (cell_of g2 3).trans (show _ = some (Value.int .i64 r.till) from rfl)
          have x4 := (cell_of g2 4).trans (show _ = some (Value.int .i64 r.clock) from rfl)
          have v0 := (cell_of gy 0).trans (show _ = some (Value.bool s1) from rfl)
          have v1 := (cell_of gy 1).trans (show _ = some (Value.bool s2) from rfl)
          have v2 := (cell_of gy 2).trans (show _ = some (Value.bool s3) from rfl)
          have v3 := (cell_of gy 3).trans (show _ = some (Value.bool s4) from rfl)
          have hc := Hc.out
          have Ff := Lib.hid ((F0.out.trans f1 (fun _ _ h => h)).trans f2 (fun _ _ h => h))
          clear f1 g1 f2 g2 gy z0
          go_upto_region 2 with fail
          rw [← hw2, ← hy]
          clear hw2 hy
          go_wp2_with fail
          refine (H1.out _).mono ?_
          rintro e w5 ⟨rfl, rfl⟩
          go_wp2_with fail
          refine (H2.out _).mono ?_
          rintro e w5 ⟨rfl, rfl⟩
          go_wp2_with fail
          refine (H3.out _).mono ?_
          rintro e w5 ⟨rfl, rfl⟩
          go_wp2_with fail
          refine (H4.out _).mono ?_
          rintro e w5 ⟨rfl, rfl⟩
          go_wp2_with fail
          go_ret
          exact ⟨rfl, Ff.out⟩
set_option maxRecDepth 100000 in
theorem check_none {r : Rc} {w : World} (h : r.kind < 1 ∨ 5 < r.kind) :
    Calls Try.prog 28 #[rcV r] w fun e w' => e = .returned (.int .i64 160) ∧ Fr (fun _ => False) w w' := by
  obtain ⟨W, hW⟩ : ∃ W, W = w.alloc (rcC r) := ⟨_, rfl⟩
  obtain ⟨z, hz⟩ : ∃ z, z = w.heap.size := ⟨_, rfl⟩
  have f0 : Fr (fun _ => False) w W := by rw [hW]; exact Fr.alloc (Fr.refl _ _) _
  have hg : W.heap[z]? = some (rcC r) := by rw [hW, hz]; exact heap_alloc_at _ _
  have z0 := (cell_of hg 0).trans (show _ = some (Value.int .i64 r.kind) from rfl)
  have H0 := Lib.hid (of_none h); have F0 := Lib.hid f0
  clear h f0 hg
  go_enter Try.func28, Try.ntmps28
  go_upto_region 1 with fail
  rw [← hW, ← hz]
  clear hW hz
  go_wp2_with fail
  refine (H0.out _).mono ?_
  rintro e w1 ⟨rfl, f1⟩
  have Ff := Lib.hid ((F0.out.trans f1 (fun _ _ h => h)).alloc (.cells #[.bool false, .bool false, .bool false, .bool false] 97))
  clear f1 z0
  go_wp2_with fail
  go_ret
  exact ⟨rfl, Ff.out⟩
theorem recB_none {r : Rc} (h : r.kind < 1 ∨ 5 < r.kind) : recB r = false := by
  cases e : recB r
  · rfl
  · have := recB_kind e; omega
theorem check_ok {r : Rc} (hid : r.id < 4294967296) (w : World) :
    Calls Try.prog 28 #[rcV r] w fun e w' => e = .returned (.int .i64 (if recB r = true then 0 else 160)) ∧ Fr (fun _ => False) w w' := by
  by_cases hk : r.kind < 1 ∨ 5 < r.kind
  · rw [recB_none hk]; exact check_none hk
  · have hkk : r.kind = 1 ∨ r.kind = 2 ∨ r.kind = 3 ∨ r.kind = 4 ∨ r.kind = 5 := by omega
    clear hk
    have bb : ∀ a b : Bool, (a = true ↔ b = true) → a = b := fun a b h => by cases a <;> cases b <;> simp at h ⊢
    rcases hkk with k | k | k | k | k
    · refine (check_walk hid (fun w => by rw [k]; exact of_1 w) (fun w => within_yes _ _ _ w) (fun w => within_yes _ _ _ w) (fun w => within_yes _ _ _ w) (fun w => within_no _ _ _ w)).mono ?_
      rintro e w' ⟨rfl, f⟩
      refine ⟨?_, f⟩
      have e : recB r = ((decide (1 ≤ (r.id : Int)) && decide ((r.id : Int) ≤ 4294967295)) && ((decide (0 ≤ r.seat) && decide (r.seat ≤ 1023)) && ((decide (1 ≤ r.till) && decide (r.till ≤ 1099511627776)) && (r.clock == 0)))) := bb _ _ (by unfold recB; simp [k]; omega)
      rw [e]
    · refine (check_walk hid (fun w => by rw [k]; exact of_2 w) (fun w => within_yes _ _ _ w) (fun w => within_no _ _ _ w) (fun w => within_no _ _ _ w) (fun w => within_no _ _ _ w)).mono ?_
      rintro e w' ⟨rfl, f⟩
      refine ⟨?_, f⟩
      have e : recB r = ((decide (1 ≤ (r.id : Int)) && decide ((r.id : Int) ≤ 4294967295)) && ((r.seat == 0) && ((r.till == 0) && (r.clock == 0)))) := bb _ _ (by unfold recB; simp [k]; omega)
      rw [e]
    · refine (check_walk hid (fun w => by rw [k]; exact of_3 w) (fun w => within_yes _ _ _ w) (fun w => within_no _ _ _ w) (fun w => within_no _ _ _ w) (fun w => within_no _ _ _ w)).mono ?_
      rintro e w' ⟨rfl, f⟩
      refine ⟨?_, f⟩
      have e : recB r = ((decide (1 ≤ (r.id : Int)) && decide ((r.id : Int) ≤ 4294967295)) && ((r.seat == 0) && ((r.till == 0) && (r.clock == 0)))) := bb _ _ (by unfold recB; simp [k]; omega)
      rw [e]
    · refine (check_walk hid (fun w => by rw [k]; exact of_4 w) (fun w => within_yes _ _ _ w) (fun w => within_yes _ _ _ w) (fun w => within_no _ _ _ w) (fun w => within_no _ _ _ w)).mono ?_
      rintro e w' ⟨rfl, f⟩
      refine ⟨?_, f⟩
      have e : recB r = ((decide (1 ≤ (r.id : Int)) && decide ((r.id : Int) ≤ 4294967295)) && ((decide (0 ≤ r.seat) && decide (r.seat ≤ 1023)) && ((r.till == 0) && (r.clock == 0)))) := bb _ _ (by unfold recB; simp [k]; omega)
      rw [e]
    · refine (check_walk hid (fun w => by rw [k]; exact of_5 w) (fun w => within_no _ _ _ w) (fun w => within_no _ _ _ w) (fun w => within_no _ _ _ w) (fun w => within_yes _ _ _ w)).mono ?_
      rintro e w' ⟨rfl, f⟩
      refine ⟨?_, f⟩
      have e : recB r = (((r.id : Int) == 0) && ((r.seat == 0) && ((r.till == 0) && (decide (1 ≤ r.clock) && decide (r.clock ≤ 1099511627776))))) := bb _ _ (by unfold recB; simp [k]; omega)
      rw [e]
end Go.Proofs.Ytmmjlnicfndmcaa.Bk
namespace Go.Proofs.Ytmmjlnicfndmcaa.Bk
open Go.RowKit
theorem Aft.of {p q : Pt} {bb : Nat} {b : Bk} {w w1 w2 : World} (h : Aft q bb b w1 w2) (f : Fr (p.own bb) w w1) (ho : ∀ y, q.own bb y → p.own bb y ∨ w.heap.size ≤ y) : Aft p bb b w w2 := by
  obtain ⟨r, h1, h2, h3⟩ := h
  refine ⟨r, h1, f.trans h2 (fun y hy e => (ho y e).resolve_right (by omega)), fun y hy => ?_⟩
  rcases h3 y hy with h | h
  · exact ho y h
  · exact .inr (Nat.le_trans f.size h)
theorem seats_firm {b : Bk} (h : Raw b) {x : Bo} (hx : x ∈ b.L) {j : Nat} (hj : x.2.1 = (j : Int)) : seatsOf b.seats (bFirm b.L x.1) = (seatsOf b.seats b.L).set j (x.1, x.2.1, 0) := by
  refine seatsOf_set (fun k hk => ?_) ?_
  · rw [seat_firm h hx, if_neg (by rw [hj]; omega)]
  · rw [seat_firm h hx, if_pos hj.symm]; rfl
theorem taken_firm {b : Bk} (h : Raw b) {x : Bo} (hx : x ∈ b.L) : takenOf b.seats (bFirm b.L x.1) = takenOf b.seats b.L := by
  unfold takenOf
  apply List.map_congr_left
  intro k _
  rw [seat_firm h hx]
  by_cases e : (k : Int) = x.2.1
  · rw [if_pos e, e, (bSeat_some h.lone).2 hx]; rfl
  · rw [if_neg e]
set_option maxRecDepth 100000 in
theorem apply_no {w : World} {q : Option Addr} (h : NoBook w q) (r : Rc) : Calls Try.prog 14 #[.pointer q, rcV r] w fun e w' => e = .returned (.int .i64 1) ∧ Fr (fun _ => False) w w' := by
  obtain ⟨W, hW⟩ : ∃ W, W = w.alloc (rcC r) := ⟨_, rfl⟩
  have f0 : Fr (fun _ => False) w W := by rw [hW]; exact Fr.alloc (Fr.refl _ _) _
  have HT := Lib.hid (there_no (h.fr f0)); have F0 := Lib.hid f0
  clear h f0
  go_enter Try.func14, Try.ntmps14
  go_upto_region 1 with fail
  rw [← hW]
  clear hW
  go_wp2_with fail
  refine HT.out.mono ?_
  rintro e w1 ⟨rfl, rfl⟩
  go_wp2_with fail
  go_ret
  exact ⟨rfl, F0.out⟩
set_option maxRecDepth 100000 in
set_option maxHeartbeats 4000000 in
theorem apply_ok {p : Pt} {bb : Nat} {b : Bk} {w : World} (h : BkP p bb b.next b b.L b.L w) {r : Rc} (hid : r.id < 4294967296) :
    Calls Try.prog 14 #[.pointer (some ⟨bb, 0, none⟩), rcV r] w fun e w' => e = .returned (.int .i64 (appE b r : Nat)) ∧ Aft p bb (appB b r) w w' := by
  obtain ⟨W, hW⟩ : ∃ W, W = w.alloc (rcC r) := ⟨_, rfl⟩
  obtain ⟨z, hz⟩ : ∃ z, z = w.heap.size := ⟨_, rfl⟩
  have f0 : Fr (fun _ => False) w W := by rw [hW]; exact Fr.alloc (Fr.refl _ _) _
  have hg : W.heap[z]? = some (rcC r) := by rw [hW, hz]; exact heap_alloc_at _ _
  have hB := h.keep f0
  have z0 := (cell_of hg 0).trans (show _ = some (Value.int .i64 r.kind) from rfl)
  have z1 := (cell_of hg 1).trans (show _ = some (Value.int .u32 (r.id : Int)) from rfl)
  have z2 := (cell_of hg 2).trans (show _ = some (Value.int .i64 r.seat) from rfl)
  have z3 := (cell_of hg 3).trans (show _ = some (Value.int .i64 r.till) from rfl)
  have z4 := (cell_of hg 4).trans (show _ = some (Value.int .i64 r.clock) from rfl)
  have HT := Lib.hid (there_ok hB); have HB := Lib.hid hB; have F0 := Lib.hid f0; have H := Lib.hid h; have Hg := Lib.hid hg
  have HC := Lib.hid (fun w => check_ok (r := r) hid w)
  have HZ := Lib.hid (show w.heap.size ≤ z by omega); have Hid := Lib.hid hid
  have Fp := Lib.hid (f0.mono (fun _ _ h => h.elim) : Fr (p.own bb) w W)
  by_cases hr : recB r = true
  · have hap1 : appE b r = if r.kind = 1 then holdE b r else if r.kind = 5 then tickE b r.clock else match bFind b.L r.id with | none => 171 | some x => if r.kind = 4 then seatE b x r.seat else 0 := by
      unfold appE; rw [if_neg (by rw [hr]; simp)]; rfl
    have hap2 : appB b r = if r.kind = 1 then holdB b r else if r.kind = 5 then tickB b r.clock else match bFind b.L r.id with | none => b | some x => if r.kind = 2 then { b with L := bFirm b.L r.id } else if r.kind = 3 then { b with L := bDrop b.L r.id } else seatB b x r.seat := by
      unfold appB; rw [if_neg (by rw [hr]; simp)]; rfl
    have hkk := recB_kind hr
    rw [hr] at HC
    simp only [if_true] at HC
    by_cases k1 : r.kind = 1
    · rw [if_pos k1] at hap1 hap2
      rw [hap1, hap2]
      have HH := Lib.hid (fun (w' : World) (f : Fr (fun _ => False) W w') => hold_ok (hB.keep f) hr k1 hid)
      rw [k1] at z0
      have K1 := Lib.hid k1
      clear f0 hg hB h hid hr hap1 hap2 hkk k1
      go_enter Try.func14, Try.ntmps14
      go_upto_region 1 with fail
      rw [← hW, ← hz]
      clear hW hz
      go_wp2_with fail
      refine HT.out.mono ?_
      rintro e w1 ⟨rfl, rfl⟩
      go_wp2_with fail
      rw [← K1.out]
      refine (HC.out _).mono ?_
      rintro e w1 ⟨rfl, f1⟩
      have HG1 := Lib.hid (f1.get Hg.out (fun h => h)); have F1 := Lib.hid f1
      clear z0 z1 z2 z3 z4 f1
      have z0 := (cell_of HG1.out 0).trans (show _ = some (Value.int .i64 r.kind) from rfl)
      have z1 := (cell_of HG1.out 1).trans (show _ = some (Value.int .u32 (r.id : Int)) from rfl)
      have z2 := (cell_of HG1.out 2).trans (show _ = some (Value.int .i64 r.seat) from rfl)
      have z3 := (cell_of HG1.out 3).trans (show _ = some (Value.int .i64 r.till) from rfl)
      have z4 := (cell_of HG1.out 4).trans (show _ = some (Value.int .i64 r.clock) from rfl)
      rw [K1.out] at z0
      go_wp2_with fail
      rw [← K1.out]
      refine (HH.out _ F1.out).mono ?_
      rintro e w2 ⟨rfl, ha⟩
      have Hfin := Lib.hid (ha.of (Fp.out.trans F1.out (fun _ _ h => h.elim)) (fun _ h => .inl h))
      clear ha z0 z1 z2 z3 z4
      go_wp2_with fail
      go_ret
      exact ⟨rfl, Hfin.out⟩
    · rw [if_neg k1] at hap1 hap2
      have n1 := k1
      clear k1
      by_cases k1 : r.kind = 5
      · rw [if_pos k1] at hap1 hap2
        rw [hap1, hap2]
        have HH := Lib.hid (fun (w' : World) (f : Fr (fun _ => False) W w') => tick_ok (hB.keep f) (c := r.clock) (recB_tick hr k1).1 (recB_tick hr k1).2)
        rw [k1] at z0
        have K1 := Lib.hid k1
        clear f0 hg hB h hid hr hap1 hap2 hkk k1
        go_enter Try.func14, Try.ntmps14
        go_upto_region 1 with fail
        rw [← hW, ← hz]
        clear hW hz
        go_wp2_with fail
        refine HT.out.mono ?_
        rintro e w1 ⟨rfl, rfl⟩
        go_wp2_with fail
        rw [← K1.out]
        refine (HC.out _).mono ?_
        rintro e w1 ⟨rfl, f1⟩
        have HG1 := Lib.hid (f1.get Hg.out (fun h => h)); have F1 := Lib.hid f1
        clear z0 z1 z2 z3 z4 f1
        have z0 := (cell_of HG1.out 0).trans (show _ = some (Value.int .i64 r.kind) from rfl)
        have z1 := (cell_of HG1.out 1).trans (show _ = some (Value.int .u32 (r.id : Int)) from rfl)
        have z2 := (cell_of HG1.out 2).trans (show _ = some (Value.int .i64 r.seat) from rfl)
        have z3 := (cell_of HG1.out 3).trans (show _ = some (Value.int .i64 r.till) from rfl)
        have z4 := (cell_of HG1.out 4).trans (show _ = some (Value.int .i64 r.clock) from rfl)
        rw [K1.out] at z0
        go_wp2_with fail
        refine (HH.out _ F1.out).mono ?_
        rintro e w2 ⟨rfl, ha⟩
        have Hfin := Lib.hid (ha.of (Fp.out.trans F1.out (fun _ _ h => h.elim)) (fun _ h => .inl h))
        clear ha z0 z1 z2 z3 z4
        go_wp2_with fail
        go_ret
        exact ⟨rfl, Hfin.out⟩
      · rw [if_neg k1] at hap1 hap2
        have n5 := k1
        clear k1
        rcases (by omega : r.kind = 2 ∨ r.kind = 3 ∨ r.kind = 4) with k1 | k1 | k1
        · cases hfd : bFind b.L r.id with
          | none =>
            have HGet := Lib.hid (fun (w' : World) (f : Fr (fun _ => False) W w') => get_ok (hB.keep f) hid)
            rw [hfd] at HGet hap1 hap2
            rw [hap1, hap2]
            rw [k1] at z0
            have K1 := Lib.hid k1
            have Hsame := Lib.hid (fun (st : Nat) (w' : World) (h : BkP (p.steps st) bb b.next b b.L b.L w') (f : Fr (p.own bb) w w') => show Aft p bb b w w' from ⟨_, h, f, fun y hy => .inl hy⟩)
            clear f0 hg hB h hid hr hap1 hap2 hkk k1 hfd
            go_enter Try.func14, Try.ntmps14
            go_upto_region 1 with fail
            rw [← hW, ← hz]
            clear hW hz
            go_wp2_with fail
            refine HT.out.mono ?_
            rintro e w1 ⟨rfl, rfl⟩
            go_wp2_with fail
            rw [← K1.out]
            refine (HC.out _).mono ?_
            rintro e w1 ⟨rfl, f1⟩
            have HG1 := Lib.hid (f1.get Hg.out (fun h => h)); have F1 := Lib.hid f1
            clear z0 z1 z2 z3 z4 f1
            have z0 := (cell_of HG1.out 0).trans (show _ = some (Value.int .i64 r.kind) from rfl)
            have z1 := (cell_of HG1.out 1).trans (show _ = some (Value.int .u32 (r.id : Int)) from rfl)
            have z2 := (cell_of HG1.out 2).trans (show _ = some (Value.int .i64 r.seat) from rfl)
            have z3 := (cell_of HG1.out 3).trans (show _ = some (Value.int .i64 r.till) from rfl)
            have z4 := (cell_of HG1.out 4).trans (show _ = some (Value.int .i64 r.clock) from rfl)
            rw [K1.out] at z0
            go_wp2_with fail
            refine (HGet.out _ F1.out).mono ?_
            rintro e w2 ⟨rfl, ⟨st, hb2⟩, f2⟩
            have Hfin := Lib.hid (Hsame.out st _ (hb2.keep (Fr.alloc (Fr.refl _ _) (.cells #[.int .u32 0, .int .i64 0, .int .i64 0] 44))) (((Fp.out.trans F1.out (fun _ _ h => h.elim)).trans f2 (fun y _ e => by rw [e]; exact Pt.ownI (.inl rfl))).trans (G := fun _ => False) (Fr.alloc (Fr.refl _ _) (.cells #[.int .u32 0, .int .i64 0, .int .i64 0] 44)) (fun _ _ h => h.elim)))
            clear hb2 f2 z0 z1 z2 z3 z4
            simp only [getE]
            go_wp2_with fail
            go_ret
            exact ⟨rfl, Hfin.out⟩
          | some x =>
            have HGet := Lib.hid (fun (w' : World) (f : Fr (fun _ => False) W w') => get_ok (hB.keep f) hid)
            rw [hfd] at HGet hap1 hap2
            have hap1' : appE b r = 0 := by rw [hap1]; simp [k1]
            have hap2' : appB b r = { b with L := bFirm b.L r.id } := by rw [hap2]; simp [k1]
            rw [hap1', hap2']
            rw [k1] at z0
            have K1 := Lib.hid k1
            obtain ⟨hxi, hxm⟩ := bFind_id hfd
            have Hxm := Lib.hid hxm; have Hxi := Lib.hid hxi
            have lz : p.ip < z := by have := h.idx.lt.1; rw [hz]; exact this
            clear f0 hg hB h hid hr hap1 hap2 hap1' hap2' hkk k1 hfd hxi hxm
            go_enter Try.func14, Try.ntmps14
            go_upto_region 1 with fail
            rw [← hW, ← hz]
            clear hW hz
            go_wp2_with fail
            refine HT.out.mono ?_
            rintro e w1 ⟨rfl, rfl⟩
            go_wp2_with fail
            rw [← K1.out]
            refine (HC.out _).mono ?_
            rintro e w1 ⟨rfl, f1⟩
            have HG1 := Lib.hid (f1.get Hg.out (fun h => h)); have F1 := Lib.hid f1
            clear z0 z1 z2 z3 z4 f1
            have z0 := (cell_of HG1.out 0).trans (show _ = some (Value.int .i64 r.kind) from rfl)
            have z1 := (cell_of HG1.out 1).trans (show _ = some (Value.int .u32 (r.id : Int)) from rfl)
            have z2 := (cell_of HG1.out 2).trans (show _ = some (Value.int .i64 r.seat) from rfl)
            have z3 := (cell_of HG1.out 3).trans (show _ = some (Value.int .i64 r.till) from rfl)
            have z4 := (cell_of HG1.out 4).trans (show _ = some (Value.int .i64 r.clock) from rfl)
            rw [K1.out] at z0
            go_wp2_with fail
            refine (HGet.out _ F1.out).mono ?_
            rintro e w2 ⟨rfl, ⟨st, hb2⟩, f2⟩
            obtain ⟨w3, hw3⟩ : ∃ w3, w3 = w2.alloc (.cells #[.int .u32 (x.1 : Int), .int .i64 x.2.1, .int .i64 x.2.2] 44) := ⟨_, rfl⟩
            obtain ⟨y, hy⟩ : ∃ y, y = w2.heap.size := ⟨_, rfl⟩
            have f3 : Fr (fun _ => False) w2 w3 := by rw [hw3]; exact Fr.alloc (Fr.refl _ _) _
            have hgy : w3.heap[y]? = some (.cells #[.int .u32 (x.1 : Int), .int .i64 x.2.1, .int .i64 x.2.2] 44 (0, 0)) := by rw [hw3, hy]; exact heap_alloc_at _ _
            obtain ⟨y0, y1, y2⟩ := box_bo hgy
            have hb3 := hb2.keep f3
            have g3 := (f2.trans f3 (fun _ _ h => h.elim)).get HG1.out (fun e => by omega)
            have FF := Lib.hid (((Fp.out.trans F1.out (fun _ _ h => h.elim)).trans f2 (fun y _ e => by rw [e]; exact Pt.ownI (.inl rfl))).trans f3 (fun _ _ h => h.elim))
            clear z0 z1 z2 z3 z4
            have z0 := (cell_of g3 0).trans (show _ = some (Value.int .i64 r.kind) from rfl)
            have z2 := (cell_of g3 2).trans (show _ = some (Value.int .i64 r.seat) from rfl)
            rw [K1.out] at z0
            have YN := Lib.hid (show ¬ (p.steps st).own bb y from fun e => by have := hb2.lt e; omega)
            have HB3 := Lib.hid hb3; have HGy := Lib.hid hgy
            clear hb2 f2 f3 hgy hb3 g3
            simp only [getE]
            go_upto_region 12 with fail
            rw [← hw3, ← hy]
            clear hw3 hy
            go_wp2_with fail
            refine (firm_ok HB3.out HB3.out.raw.idlt HB3.out.raw.up (id := x.1)).mono ?_
            rintro e w4 ⟨rfl, q, hb4, f4, ho4⟩
            have raw := hb4.raw
            obtain ⟨s0, s1⟩ := raw.at_ x Hxm.out
            obtain ⟨j, hj⟩ : ∃ j : Nat, x.2.1 = (j : Int) := ⟨x.2.1.toNat, by omega⟩
            have gy := f4.get HGy.out YN.out
            obtain ⟨y0, y1, y2⟩ := box_bo gy
            rw [hj] at y1
            have hjs : j < b.seats := by omega
            obtain ⟨g, cap, ev⟩ : ∃ g cap, q.sv = .slice (some ⟨g, 0, none⟩) b.seats cap := by
              rcases hb4.row.2 with ⟨_, h0⟩ | ⟨g, c, cur, e, _⟩
              · rw [seatsOf_length] at h0; omega
              · rw [seatsOf_length] at e; exact ⟨_, _, e⟩
            have c8 := hb4.c.2.2.2.2.2.2.2.2.1
            rw [ev] at c8
            have hrow0 := hb4.row
            rw [ev] at hrow0
            obtain ⟨g', cap', e', d0, d1, d2⟩ := Bos.cells hrow0 (k := j) (by rw [seatsOf_length]; exact hjs)
            obtain ⟨rfl⟩ : g = g' := by have := (Value.slice.inj e').1; simpa using this
            have fz : w4.frozen? ⟨g, j * 3 + 2, none⟩ = false := by
              rcases hrow0.2 with ⟨e, _⟩ | ⟨g'', c, cur, e, _, q1, _⟩
              · cases e
              · obtain ⟨e1, _, _⟩ := Value.slice.inj e
                obtain rfl : g = g'' := by simpa using e1
                exact free_of q1 _
            have hrow := Bos.till hrow0 (p := j) (by rw [seatsOf_length]; exact hjs) 0
            have hget : (seatsOf b.seats b.L)[j]'(by rw [seatsOf_length]; exact hjs) = x := by
              rw [seatsOf_get, ← hj, (bSeat_some raw.lone).2 Hxm.out]; rfl
            rw [hget, ← seats_firm raw Hxm.out hj] at hrow
            obtain ⟨lab, hl, h9⟩ := hb4.labs
            have hgS : q.sv.ownBlock = some g := by rw [ev]; rfl
            have fs : Fr (fun x => x = g) w4 (w4.setCell ⟨g, j * 3 + 2, none⟩ (.int .i64 0)) := (Fr.refl (fun y => y = g) _).setCell (p := ⟨g, j * 3 + 2, none⟩) (fun _ => rfl) _
            obtain ⟨w5, hw5⟩ : ∃ w5, w5 = w4.setCell ⟨g, j * 3 + 2, none⟩ (.int .i64 0) := ⟨_, rfl⟩
            rw [← hw5] at hrow fs
            have fl : Fr (fun x => lab x = 3) w4 w5 := fs.mono (fun x _ hx => by rw [hx]; exact hl.l3 g hgS)
            have hrow' : Bos w5 q.sv (seatsOf b.seats (bFirm b.L x.1)) := by rw [ev]; exact hrow
            have Hfin := Lib.hid (show Aft p bb { b with L := bFirm b.L x.1 } w w5.drew from
              ⟨_, (hl.build (b' := { b with L := bFirm b.L x.1 }) (LS' := bFirm b.L x.1) (LD' := bFirm b.L x.1) h9 (hl.head fl (by decide) hb4.head) (by rw [show takenOf b.seats (bFirm b.L x.1) = takenOf b.seats b.L from taken_firm raw Hxm.out]; exact hl.set fl (by decide) hb4.set) (by rw [show idsOf (bFirm b.L x.1) = idsOf b.L from ids_firm _]; exact hl.idx fl (by decide) hb4.idx) hrow'
                  (hl.heap fl (by decide) hb4.heap) (hl.map fl (by decide) hb4.map) hb4.due hb4.nh (raw.firm x.1) (fun x hx => .inl hx)).keep (Fr.drew (Fr.refl _ _)),
                (FF.out.trans f4 (fun _ _ h => h)).trans (Fr.drew fs) (fun y _ e => by rw [e]; exact ho4 g (Pt.ownS hgS)), fun y hy => .inl (ho4 y (by
                      rcases hy with h | h | h | h | h | h | h | h
                      · exact .inl h
                      · exact .inr (.inl h)
                      · exact .inr (.inr (.inl h))
                      · exact .inr (.inr (.inr (.inl h)))
                      · exact .inr (.inr (.inr (.inr (.inl h))))
                      · exact .inr (.inr (.inr (.inr (.inr (.inl h)))))
                      · exact .inr (.inr (.inr (.inr (.inr (.inr (.inl h))))))
                      · exact .inr (.inr (.inr (.inr (.inr (.inr (.inr h))))))))⟩)
            have hjs' : (j : Int) < (b.seats : Int) := by omega
            have hsm : (b.seats : Int) ≤ 1024 := by have := raw.s1; omega
            have HW5 := Lib.hid hw5
            clear hb4 f4 ho4 raw hl h9 hrow hrow' fs fl hrow0 ev hget hgS gy z0 z2 hw5 e'
            go_upto_region 17 with fail
            go_still_tail 8, (by kernel_rfl)
            go_wp2_with fail
            go_ret
            rw [← HW5.out, ← Hxi.out]
            exact ⟨rfl, Hfin.out⟩
        · cases hfd : bFind b.L r.id with
          | none =>
            have HGet := Lib.hid (fun (w' : World) (f : Fr (fun _ => False) W w') => get_ok (hB.keep f) hid)
            rw [hfd] at HGet hap1 hap2
            rw [hap1, hap2]
            rw [k1] at z0
            have K1 := Lib.hid k1
            have Hsame := Lib.hid (fun (st : Nat) (w' : World) (h : BkP (p.steps st) bb b.next b b.L b.L w') (f : Fr (p.own bb) w w') => show Aft p bb b w w' from ⟨_, h, f, fun y hy => .inl hy⟩)
            clear f0 hg hB h hid hr hap1 hap2 hkk k1 hfd
            go_enter Try.func14, Try.ntmps14
            go_upto_region 1 with fail
            rw [← hW, ← hz]
            clear hW hz
            go_wp2_with fail
            refine HT.out.mono ?_
            rintro e w1 ⟨rfl, rfl⟩
            go_wp2_with fail
            rw [← K1.out]
            refine (HC.out _).mono ?_
            rintro e w1 ⟨rfl, f1⟩
            have HG1 := Lib.hid (f1.get Hg.out (fun h => h)); have F1 := Lib.hid f1
            clear z0 z1 z2 z3 z4 f1
            have z0 := (cell_of HG1.out 0).trans (show _ = some (Value.int .i64 r.kind) from rfl)
            have z1 := (cell_of HG1.out 1).trans (show _ = some (Value.int .u32 (r.id : Int)) from rfl)
            have z2 := (cell_of HG1.out 2).trans (show _ = some (Value.int .i64 r.seat) from rfl)
            have z3 := (cell_of HG1.out 3).trans (show _ = some (Value.int .i64 r.till) from rfl)
            have z4 := (cell_of HG1.out 4).trans (show _ = some (Value.int .i64 r.clock) from rfl)
            rw [K1.out] at z0
            go_wp2_with fail
            refine (HGet.out _ F1.out).mono ?_
            rintro e w2 ⟨rfl, ⟨st, hb2⟩, f2⟩
            have Hfin := Lib.hid (Hsame.out st _ (hb2.keep (Fr.alloc (Fr.refl _ _) (.cells #[.int .u32 0, .int .i64 0, .int .i64 0] 44))) (((Fp.out.trans F1.out (fun _ _ h => h.elim)).trans f2 (fun y _ e => by rw [e]; exact Pt.ownI (.inl rfl))).trans (G := fun _ => False) (Fr.alloc (Fr.refl _ _) (.cells #[.int .u32 0, .int .i64 0, .int .i64 0] 44)) (fun _ _ h => h.elim)))
            clear hb2 f2 z0 z1 z2 z3 z4
            simp only [getE]
            go_wp2_with fail
            go_ret
            exact ⟨rfl, Hfin.out⟩
          | some x =>
            have HGet := Lib.hid (fun (w' : World) (f : Fr (fun _ => False) W w') => get_ok (hB.keep f) hid)
            rw [hfd] at HGet hap1 hap2
            have hap1' : appE b r = 0 := by rw [hap1]; simp [k1]
            have hap2' : appB b r = { b with L := bDrop b.L r.id } := by rw [hap2]; simp [k1]
            rw [hap1', hap2']
            rw [k1] at z0
            have K1 := Lib.hid k1
            obtain ⟨hxi, hxm⟩ := bFind_id hfd
            have Hxm := Lib.hid hxm; have Hxi := Lib.hid hxi
            have lz : p.ip < z := by have := h.idx.lt.1; rw [hz]; exact this
            clear f0 hg hB h hid hr hap1 hap2 hap1' hap2' hkk k1 hfd hxi hxm
            go_enter Try.func14, Try.ntmps14
            go_upto_region 1 with fail
            rw [← hW, ← hz]
            clear hW hz
            go_wp2_with fail
            refine HT.out.mono ?_
            rintro e w1 ⟨rfl, rfl⟩
            go_wp2_with fail
            rw [← K1.out]
            refine (HC.out _).mono ?_
            rintro e w1 ⟨rfl, f1⟩
            have HG1 := Lib.hid (f1.get Hg.out (fun h => h)); have F1 := Lib.hid f1
            clear z0 z1 z2 z3 z4 f1
            have z0 := (cell_of HG1.out 0).trans (show _ = some (Value.int .i64 r.kind) from rfl)
            have z1 := (cell_of HG1.out 1).trans (show _ = some (Value.int .u32 (r.id : Int)) from rfl)
            have z2 := (cell_of HG1.out 2).trans (show _ = some (Value.int .i64 r.seat) from rfl)
            have z3 := (cell_of HG1.out 3).trans (show _ = some (Value.int .i64 r.till) from rfl)
            have z4 := (cell_of HG1.out 4).trans (show _ = some (Value.int .i64 r.clock) from rfl)
            rw [K1.out] at z0
            go_wp2_with fail
            refine (HGet.out _ F1.out).mono ?_
            rintro e w2 ⟨rfl, ⟨st, hb2⟩, f2⟩
            obtain ⟨w3, hw3⟩ : ∃ w3, w3 = w2.alloc (.cells #[.int .u32 (x.1 : Int), .int .i64 x.2.1, .int .i64 x.2.2] 44) := ⟨_, rfl⟩
            obtain ⟨y, hy⟩ : ∃ y, y = w2.heap.size := ⟨_, rfl⟩
            have f3 : Fr (fun _ => False) w2 w3 := by rw [hw3]; exact Fr.alloc (Fr.refl _ _) _
            have hgy : w3.heap[y]? = some (.cells #[.int .u32 (x.1 : Int), .int .i64 x.2.1, .int .i64 x.2.2] 44 (0, 0)) := by rw [hw3, hy]; exact heap_alloc_at _ _
            obtain ⟨y0, y1, y2⟩ := box_bo hgy
            have hb3 := hb2.keep f3
            have g3 := (f2.trans f3 (fun _ _ h => h.elim)).get HG1.out (fun e => by omega)
            have FF := Lib.hid (((Fp.out.trans F1.out (fun _ _ h => h.elim)).trans f2 (fun y _ e => by rw [e]; exact Pt.ownI (.inl rfl))).trans f3 (fun _ _ h => h.elim))
            clear z0 z1 z2 z3 z4
            have z0 := (cell_of g3 0).trans (show _ = some (Value.int .i64 r.kind) from rfl)
            have z2 := (cell_of g3 2).trans (show _ = some (Value.int .i64 r.seat) from rfl)
            rw [K1.out] at z0
            have YN := Lib.hid (show ¬ (p.steps st).own bb y from fun e => by have := hb2.lt e; omega)
            have HB3 := Lib.hid hb3; have HGy := Lib.hid hgy
            clear hb2 f2 f3 hgy hb3 g3
            simp only [getE]
            go_upto_region 12 with fail
            rw [← hw3, ← hy]
            clear hw3 hy
            go_wp2_with fail
            refine (drop_ok HB3.out Hxm.out).mono ?_
            rintro e w4 ⟨rfl, p', hb4, f4, ho4⟩
            rw [Hxi.out] at hb4
            have Hfin := Lib.hid (show Aft p bb { b with L := bDrop b.L r.id } w w4 from ⟨p', hb4, FF.out.trans f4 (fun _ _ h => h), fun y hy => .inl (ho4 y hy)⟩)
            clear hb4 f4 ho4 z0 z2 y0 y1 y2
            go_wp2_with fail
            go_ret
            exact ⟨rfl, Hfin.out⟩
        · cases hfd : bFind b.L r.id with
          | none =>
            have HGet := Lib.hid (fun (w' : World) (f : Fr (fun _ => False) W w') => get_ok (hB.keep f) hid)
            rw [hfd] at HGet hap1 hap2
            rw [hap1, hap2]
            rw [k1] at z0
            have K1 := Lib.hid k1
            have Hsame := Lib.hid (fun (st : Nat) (w' : World) (h : BkP (p.steps st) bb b.next b b.L b.L w') (f : Fr (p.own bb) w w') => show Aft p bb b w w' from ⟨_, h, f, fun y hy => .inl hy⟩)
            clear f0 hg hB h hid hr hap1 hap2 hkk k1 hfd
            go_enter Try.func14, Try.ntmps14
            go_upto_region 1 with fail
            rw [← hW, ← hz]
            clear hW hz
            go_wp2_with fail
            refine HT.out.mono ?_
            rintro e w1 ⟨rfl, rfl⟩
            go_wp2_with fail
            rw [← K1.out]
            refine (HC.out _).mono ?_
            rintro e w1 ⟨rfl, f1⟩
            have HG1 := Lib.hid (f1.get Hg.out (fun h => h)); have F1 := Lib.hid f1
            clear z0 z1 z2 z3 z4 f1
            have z0 := (cell_of HG1.out 0).trans (show _ = some (Value.int .i64 r.kind) from rfl)
            have z1 := (cell_of HG1.out 1).trans (show _ = some (Value.int .u32 (r.id : Int)) from rfl)
            have z2 := (cell_of HG1.out 2).trans (show _ = some (Value.int .i64 r.seat) from rfl)
            have z3 := (cell_of HG1.out 3).trans (show _ = some (Value.int .i64 r.till) from rfl)
            have z4 := (cell_of HG1.out 4).trans (show _ = some (Value.int .i64 r.clock) from rfl)
            rw [K1.out] at z0
            go_wp2_with fail
            refine (HGet.out _ F1.out).mono ?_
            rintro e w2 ⟨rfl, ⟨st, hb2⟩, f2⟩
            have Hfin := Lib.hid (Hsame.out st _ (hb2.keep (Fr.alloc (Fr.refl _ _) (.cells #[.int .u32 0, .int .i64 0, .int .i64 0] 44))) (((Fp.out.trans F1.out (fun _ _ h => h.elim)).trans f2 (fun y _ e => by rw [e]; exact Pt.ownI (.inl rfl))).trans (G := fun _ => False) (Fr.alloc (Fr.refl _ _) (.cells #[.int .u32 0, .int .i64 0, .int .i64 0] 44)) (fun _ _ h => h.elim)))
            clear hb2 f2 z0 z1 z2 z3 z4
            simp only [getE]
            go_wp2_with fail
            go_ret
            exact ⟨rfl, Hfin.out⟩
          | some x =>
            have HGet := Lib.hid (fun (w' : World) (f : Fr (fun _ => False) W w') => get_ok (hB.keep f) hid)
            rw [hfd] at HGet hap1 hap2
            have hap1' : appE b r = seatE b x r.seat := by rw [hap1]; simp [k1]
            have hap2' : appB b r = seatB b x r.seat := by rw [hap2]; simp [k1]
            rw [hap1', hap2']
            rw [k1] at z0
            have K1 := Lib.hid k1
            obtain ⟨hxi, hxm⟩ := bFind_id hfd
            have Hxm := Lib.hid hxm; have Hxi := Lib.hid hxi
            have Hk := Lib.hid (recB_move hr k1).1
            have lz : p.ip < z := by have := h.idx.lt.1; rw [hz]; exact this
            clear f0 hg hB h hid hr hap1 hap2 hap1' hap2' hkk k1 hfd hxi hxm
            go_enter Try.func14, Try.ntmps14
            go_upto_region 1 with fail
            rw [← hW, ← hz]
            clear hW hz
            go_wp2_with fail
            refine HT.out.mono ?_
            rintro e w1 ⟨rfl, rfl⟩
            go_wp2_with fail
            rw [← K1.out]
            refine (HC.out _).mono ?_
            rintro e w1 ⟨rfl, f1⟩
            have HG1 := Lib.hid (f1.get Hg.out (fun h => h)); have F1 := Lib.hid f1
            clear z0 z1 z2 z3 z4 f1
            have z0 := (cell_of HG1.out 0).trans (show _ = some (Value.int .i64 r.kind) from rfl)
            have z1 := (cell_of HG1.out 1).trans (show _ = some (Value.int .u32 (r.id : Int)) from rfl)
            have z2 := (cell_of HG1.out 2).trans (show _ = some (Value.int .i64 r.seat) from rfl)
            have z3 := (cell_of HG1.out 3).trans (show _ = some (Value.int .i64 r.till) from rfl)
            have z4 := (cell_of HG1.out 4).trans (show _ = some (Value.int .i64 r.clock) from rfl)
            rw [K1.out] at z0
            go_wp2_with fail
            refine (HGet.out _ F1.out).mono ?_
            rintro e w2 ⟨rfl, ⟨st, hb2⟩, f2⟩
            obtain ⟨w3, hw3⟩ : ∃ w3, w3 = w2.alloc (.cells #[.int .u32 (x.1 : Int), .int .i64 x.2.1, .int .i64 x.2.2] 44) := ⟨_, rfl⟩
            obtain ⟨y, hy⟩ : ∃ y, y = w2.heap.size := ⟨_, rfl⟩
            have f3 : Fr (fun _ => False) w2 w3 := by rw [hw3]; exact Fr.alloc (Fr.refl _ _) _
            have hgy : w3.heap[y]? = some (.cells #[.int .u32 (x.1 : Int), .int .i64 x.2.1, .int .i64 x.2.2] 44 (0, 0)) := by rw [hw3, hy]; exact heap_alloc_at _ _
            obtain ⟨y0, y1, y2⟩ := box_bo hgy
            have hb3 := hb2.keep f3
            have g3 := (f2.trans f3 (fun _ _ h => h.elim)).get HG1.out (fun e => by omega)
            have FF := Lib.hid (((Fp.out.trans F1.out (fun _ _ h => h.elim)).trans f2 (fun y _ e => by rw [e]; exact Pt.ownI (.inl rfl))).trans f3 (fun _ _ h => h.elim))
            clear z0 z1 z2 z3 z4
            have z0 := (cell_of g3 0).trans (show _ = some (Value.int .i64 r.kind) from rfl)
            have z2 := (cell_of g3 2).trans (show _ = some (Value.int .i64 r.seat) from rfl)
            rw [K1.out] at z0
            have YN := Lib.hid (show ¬ (p.steps st).own bb y from fun e => by have := hb2.lt e; omega)
            have HB3 := Lib.hid hb3; have HGy := Lib.hid hgy
            clear hb2 f2 f3 hgy hb3 g3
            simp only [getE]
            go_upto_region 12 with fail
            rw [← hw3, ← hy]
            clear hw3 hy
            go_wp2_with fail
            refine (reseat_ok HB3.out Hxm.out Hk.out).mono ?_
            rintro e w4 ⟨rfl, ha⟩
            have Hfin := Lib.hid (ha.of FF.out (fun _ h => .inl h))
            clear ha z0 z2 y0 y1 y2
            go_wp2_with fail
            go_ret
            exact ⟨rfl, Hfin.out⟩
  · have hr' : recB r = false := by simpa using hr
    have hap1 : appE b r = 160 := by unfold appE; rw [if_pos hr']
    have hap2 : appB b r = b := by unfold appB; rw [if_pos hr']
    rw [hap1, hap2]
    rw [hr'] at HC
    simp only [Bool.false_eq_true, if_false] at HC
    clear f0 hg hB h hid hr hr' hap1 hap2
    go_enter Try.func14, Try.ntmps14
    go_upto_region 1 with fail
    rw [← hW, ← hz]
    clear hW hz
    go_wp2_with fail
    refine HT.out.mono ?_
    rintro e w1 ⟨rfl, rfl⟩
    go_wp2_with fail
    refine (HC.out _).mono ?_
    rintro e w1 ⟨rfl, f1⟩
    have Hfin := Lib.hid (Aft.same H.out (F0.out.trans f1 (fun _ _ h => h)))
    clear f1 z0 z1 z2 z3 z4
    go_wp2_with fail
    go_ret
    exact ⟨rfl, Hfin.out⟩
end Go.Proofs.Ytmmjlnicfndmcaa.Bk
namespace Go.Proofs.Ytmmjlnicfndmcaa.Ix
open Go.RowKit
/-- The least power of two from t on. -/
def IsUp (n t : Nat) : Prop := ∃ k, n = 2 ^ k ∧ t ≤ n ∧ (k = 0 ∨ n < 2 * t)
theorem IsUp.same {n m t : Nat} (h : IsUp n t) (k : IsUp m t) : n = m := by
  obtain ⟨a, rfl, h1, h2⟩ := h
  obtain ⟨b, rfl, k1, k2⟩ := k
  have key : ∀ {a b : Nat}, t ≤ 2 ^ a → (b = 0 ∨ 2 ^ b < 2 * t) → ¬ a < b := by
    intro a b h1 k2 hab
    have : 2 ^ (a + 1) ≤ 2 ^ b := Nat.pow_le_pow_right (by decide) hab
    rw [Nat.pow_succ] at this
    rcases k2 with rfl | k2 <;> omega
  have := key h1 k2
  have := key k1 h2
  rw [show a = b by omega]
theorem IsUp.le {n t : Nat} (h : IsUp n t) (ht : t ≤ 8192) : n ≤ 8192 := by
  obtain ⟨k, rfl, h1, h2⟩ := h
  rcases h2 with rfl | h2
  · decide
  · have : k < 14 := by
      have : (2 : Nat) ^ k < 2 ^ 14 := by omega
      exact (Nat.pow_lt_pow_iff_right (by decide)).1 this
    exact Nat.pow_le_pow_right (n := 2) (by decide) (show k ≤ 13 by omega)
/-- On the way up. -/
def Way (n t : Nat) : Prop := ∃ k, n = 2 ^ k ∧ (k = 0 ∨ n < 2 * t)
theorem Way.one (t : Nat) : Way 1 t := ⟨0, rfl, .inl rfl⟩
theorem Way.next {n t : Nat} (h : Way n t) (hl : n < t) : Way (2 * n) t := by
  obtain ⟨k, rfl, _⟩ := h
  exact ⟨k + 1, by rw [Nat.pow_succ]; omega, .inr (by omega)⟩
theorem Way.up {n t : Nat} (h : Way n t) (hl : ¬ n < t) : IsUp n t := by
  obtain ⟨k, e, h⟩ := h
  exact ⟨k, e, by omega, h⟩
theorem Way.pos {n t : Nat} (h : Way n t) : 1 ≤ n := by
  obtain ⟨k, rfl, h⟩ := h
  exact Nat.one_le_two_pow
theorem zeros3 (n : Nat) : (madeCells (Value.cells (.agg #[.int .u8 0, .int .u32 0, .int .i64 0])) (n * 3)).toList = flat3 (List.replicate n (0, 0, 0)) := by
  apply List.ext_getElem?
  intro k
  by_cases hk : k < n * 3
  · have hs : slAt (List.replicate n ((0, 0, 0) : Sl)) (k / 3) = (0, 0, 0) := by unfold slAt; rw [List.getD_eq_getElem?_getD, List.getElem?_replicate]; split <;> rfl
    obtain ⟨g0, g1, g2⟩ := flat3_get (List.replicate n ((0, 0, 0) : Sl)) (k / 3) (by rw [List.length_replicate]; omega)
    rw [hs] at g0 g1 g2
    obtain ⟨i, hi, hki⟩ : ∃ i, i < 3 ∧ k = k / 3 * 3 + i := ⟨k % 3, Nat.mod_lt _ (by decide), by omega⟩
    have hm : k % 3 = i := by omega
    have hz : (madeCells (Value.cells (.agg #[.int .u8 0, .int .u32 0, .int .i64 0])) (n * 3)).toList[k]? = (#[Value.int .u8 0, Value.int .u32 0, Value.int .i64 0] : Array Value)[i]? := by
      rw [Array.getElem?_toList]
      simp only [madeCells, Value.cells]
      rw [Array.getElem?_map, Array.getElem?_range, if_pos hk]
      show some ((#[Value.int .u8 0, Value.int .u32 0, Value.int .i64 0] : Array Value)[k % 3]!) = _
      rw [hm]
      rcases (by omega : i = 0 ∨ i = 1 ∨ i = 2) with rfl | rfl | rfl <;> rfl
    rw [hz, hki]
    rcases (by omega : i = 0 ∨ i = 1 ∨ i = 2) with rfl | rfl | rfl
    · rw [Nat.add_zero, g0]; rfl
    · rw [g1]; rfl
    · rw [g2]; rfl
  · rw [List.getElem?_eq_none (by simp [size_madeCells]; omega), List.getElem?_eq_none (by rw [flat3_length, List.length_replicate]; omega)]
set_option maxRecDepth 100000 in
theorem new_ok (w : World) {m : Nat} (h1 : 1 ≤ m) (h2 : m ≤ 4096) : Calls Try.prog 44 #[.int .i64 (m : Int)] w fun e w' => ∃ bh g N, e = .returned (.tuple #[.pointer (some ⟨bh, 0, none⟩), .int .i64 0]) ∧ IsUp N (2 * m) ∧ IxAt w' bh g N m [] 0 ∧ w.heap.size ≤ bh ∧ w.heap.size ≤ g ∧ Fr (fun _ => False) w w' := by
  obtain ⟨i0, hi, hz0, hz1, hz2⟩ := info_parts Try.infoSlot
  have hmk := fun (w0 : World) (n : Nat) (hn : n ≤ 8192) => run_make (P := Try.prog) w0 107 106 i0 _ Try.underlying107 hi hz0 .i64 .i64 (n : Int) (n : Int) (by omega) (Int.le_refl _) (by rw [hz2]; omega) (by omega)
  rw [hz1] at hmk
  simp only [Int.toNat_natCast] at hmk
  have HMK := Lib.hid hmk
  clear hmk hi hz0 hz1 hz2
  have b1 : decide ((m : Int) < 1) = false := by simp; omega
  have b2 : decide ((4096 : Int) < (m : Int)) = false := by simp; omega
  obtain ⟨t, ht⟩ : ∃ t, t = 2 * m := ⟨_, rfl⟩
  have e1 : 2 * (m : Int) = (t : Int) := by omega
  obtain ⟨e2, e3, -⟩ := wrap_small (x := t) (by omega)
  have H1 := Lib.hid h1; have H2 := Lib.hid h2; have Ht := Lib.hid ht
  clear h1 h2 ht
  go_enter Try.func44, Try.ntmps44
  go_upto_block 0 with fail
  go_cut [4] (fun s4 wx => ∃ N : Nat, s4 = .int .i64 (N : Int) ∧ IsUp N t ∧ wx = w)
  case first =>
    go_wp2_with fail
    go_loopw [4] (fun s4 wr => ∃ n : Nat, s4 = .int .i64 (n : Int) ∧ Way n t ∧ wr = w) (fun s4 _ => t - (intOf s4).toNat)
    case atStart => exact ⟨1, rfl, Way.one _, rfl⟩
    case round =>
      obtain ⟨n, rfl, hw, rfl⟩ := hrel
      have HW := Lib.hid hw
      clear hw
      by_cases hlt : n < t
      · have hlt' : (n : Int) < (t : Int) := by omega
        obtain ⟨n2, hn2⟩ : ∃ n2, n2 = 2 * n := ⟨_, rfl⟩
        have f1 : (n : Int) * 2 = (n2 : Int) := by omega
        obtain ⟨f2, f3, -⟩ := wrap_small (x := n2) (by have := H2.out; have := Ht.out; omega)
        have Hn2 := Lib.hid hn2; have Hlt := Lib.hid hlt
        clear hn2 hlt
        go_wp2_with fail
        go_roundw
        case rel => exact ⟨n2, rfl, by rw [Hn2.out]; exact HW.out.next Hlt.out, by first | rfl | trivial⟩
        case measure => have := Hn2.out; have := Hlt.out; have := HW.out.pos; simp [intOf]; omega
      · have hlt' : ¬ (n : Int) < (t : Int) := by omega
        have Hlt := Lib.hid hlt
        clear hlt
        go_wp2_with fail
        go_meet
        exact ⟨n, rfl, HW.out.up Hlt.out, rfl⟩
  case rest =>
  obtain ⟨N, rfl, hu, rfl⟩ := hcut
  have hN8 := hu.le (by rw [Ht.out]; have := H2.out; omega)
  have hmk := fun w0 => HMK.out w0 N hN8
  have HU := Lib.hid hu; have HN8 := Lib.hid hN8
  clear hu hN8 b1 b2 e1 e2 e3
  go_wp2_with fail
  refine bodyPost_ret (v := .tuple #[.pointer (some ⟨wc.heap.size + 1, 0, none⟩), .int .i64 0]) ?_ rfl ?_
  · simp [results, Try.f44, go_sem]
  · have hlo : 2 * m ≤ N := by rw [← Ht.out]; obtain ⟨_, _, h, _⟩ := HU.out; exact h
    refine ⟨wc.heap.size + 1, wc.heap.size, N, rfl, by rw [← Ht.out]; exact HU.out, ⟨List.replicate N (0, 0, 0), ⟨?_, ?_, List.length_replicate, Good.nil _ _, Maps.nil _, (fun x hx => by simp at hx), by omega, hlo, H1.out, HN8.out⟩, ?_, Nat.zero_le _, Nat.zero_le _⟩, by omega, Nat.le_refl _, Fr.alloc (Fr.alloc (Fr.refl _ _) _) _⟩
    · unfold HeadAt
      rw [graves_nil, heap_alloc_get]; simp
    · unfold SlotsAt
      rw [← zeros3, heap_alloc_get, heap_alloc_get]; simp; rfl
    · rw [graves_nil]; simp
set_option maxRecDepth 100000 in
theorem new_err (w : World) {n : Int} (h : n < 1 ∨ 4096 < n) : Calls Try.prog 44 #[.int .i64 n] w fun e w' => e = .returned (.tuple #[.pointer none, .int .i64 2]) ∧ w = w' := by
  by_cases h0 : n < 1
  · have b1 : decide (n < 1) = true := by simpa using h0
    clear h
    go_enter Try.func44, Try.ntmps44
    go_wp2_with fail
    refine bodyPost_ret (v := .tuple #[.pointer none, .int .i64 2]) ?_ rfl ⟨rfl, rfl⟩
    simp [results, Try.f44, go_sem]
  · have b1 : decide (n < 1) = false := by simpa using h0
    have h1 : 4096 < n := by omega
    have b2 : decide (4096 < n) = true := by simpa using h1
    clear h h0 h1
    go_enter Try.func44, Try.ntmps44
    go_wp2_with fail
    refine bodyPost_ret (v := .tuple #[.pointer none, .int .i64 2]) ?_ rfl ⟨rfl, rfl⟩
    simp [results, Try.f44, go_sem]
end Go.Proofs.Ytmmjlnicfndmcaa.Ix
namespace Go.Proofs.Ytmmjlnicfndmcaa
open Go.RowKit
section
variable {n l : Nat} {P : Program} {ops : Array Oper} {Q : Exit → Act → World → Prop} {md : Region.Mode}
theorem operIn_round {o : Oper} {a : Act} {w : World} {K : Act → World → Prop} (hd : ∀ c, o.op ≠ .defer c) (hlo : ¬ LetsOut Q) (h : o.wp P a w K Q) : o.wpIn (Fence.wide.inRound l) n P a w K Q := by
  unfold Oper.wp at h
  refine ⟨fun _ _ => trivial, ?_⟩
  rw [Oper.semAt_eq _ _ _ hd]
  generalize (execOp a.eval o).run P w = r at h ⊢
  cases r with
  | ok x w' =>
    cases x <;> simp only [Oper.upon] at h <;> simp only [Oper.uponIn]
    case value v => exact h
    case skip => exact h
    case defer d => exact h
    case enter f args =>
      refine ⟨fun e => by simp [Fence.wide] at e, CallsIn.inRound l (callsIn_wide.2 (h.mono fun e w'' he => ?_))⟩
      cases e with
      | returned v => exact he
      | panicked c => exact he
      | outgrown => exact absurd he hlo
    case row row args =>
      refine ⟨fun e => by simp [Fence.wide] at e, fun c cs _ => ?_⟩
      obtain ⟨v, w', r, s⟩ := h c cs
      exact ⟨v, w', r, stepsIn_wide.2 s⟩
  | halt x w' => cases x <;> simp only [Oper.upon] at h <;> simp only [Oper.uponIn] <;> exact h
theorem anyIn_round (hd : ∀ o ∈ ops, ∀ c, o.op ≠ .defer c) (hlo : ¬ LetsOut Q) : ∀ (fuel : Nat) (listed : Array Bool) (a : Act) (w : World), wpAny P md ops Q fuel listed a w → wpAnyIn (Fence.wide.inRound l) n P md ops Q fuel listed a w := by
  have one : ∀ (i : Nat) (K K' : Act → World → Prop) (a : Act) (w : World), (∀ a w, K a w → K' a w) → wpOp P ops Q i K a w → wpOpIn (Fence.wide.inRound l) n P ops Q i K' a w := by
    intro i K K' a w hK h
    unfold wpOp at h
    unfold wpOpIn
    cases ho : ops[i]? with
    | none => simp only [ho] at h ⊢; exact hK _ _ h
    | some o =>
      simp only [ho] at h ⊢
      split
      · rename_i hw
        simp only [hw, if_true] at h
        rcases h with h | h
        · exact Oper.wpIn_mono hK (operIn_round (hd o (Array.mem_of_getElem? ho)) hlo h)
        · exact absurd h.2 hlo
      · rename_i hw
        simp only [hw] at h
        exact ⟨fun _ _ => trivial, hK _ _ h⟩
  intro fuel
  induction fuel with
  | zero => exact fun _ _ _ h => h
  | succ fuel ih => exact fun listed a w h => ⟨h.1, fun i hi => one i _ _ a w (fun a w => ih _ a w) (h.2 i hi)⟩
/-- No operation is a defer statement. -/
def noDefer (l : List Oper) : Bool := l.all fun o => match o.op with | .defer _ => false | _ => true
theorem noDefer_of {l : List Oper} (h : noDefer l = true) : ∀ o ∈ l.toArray, ∀ c, o.op ≠ .defer c := by
  intro o ho c e
  have := List.all_eq_true.1 h o (by simpa using ho)
  rw [e] at this
  exact absurd this (by simp)
theorem region_round_quiet {id : Nat} {a : Act} {w : World} {ls : List Oper} (hm : P.follows .mixedOrders = true) (hB : Region.lexB .any ls.toArray = true) (hd : noDefer ls = true) (hlo : ¬ LetsOut Q)
    (h : wpQuiet P ls.toArray (fun w' => ∃ n, w' = w.drewN n) (fun a' => ∀ w', (∃ n, w' = w.drewN n) → Q .normal a' w') ls a) : (Code.region id ls.toArray true).wpIn (Fence.wide.inRound l) n P Q a w := by
  refine wpIn_region_any hm (anyIn_round (noDefer_of hd) hlo _ _ _ _ ?_)
  simp only [Region.lexB, Bool.and_eq_true] at hB
  refine wpAny_of_quiet (C := fun w' => ∃ n, w' = w.drewN n) (Q := fun a' => ∀ w', (∃ n, w' = w.drewN n) → Q .normal a' w') (fun _ w' hw' h => h w' hw') _ _ _ _ ⟨1, rfl⟩ ?_
  have := wpAnyQ_lex (md := .any) hB.1 ls.toArray.toList 0 (Array.replicate ls.toArray.size false) a (by simp) (by simpa using hB.2) h
  simpa using this
theorem region_round_held {id : Nat} {a : Act} {w : World} {ls : List Oper} {S : World → Prop} (hm : P.follows .mixedOrders = true) (hd : noDefer ls = true) (hlo : ¬ LetsOut Q) (hS : S w.drew)
    (h : S w.drew → wpAnyH P .any ls.toArray Q S ls.toArray.size (Array.replicate ls.toArray.size false) a w.drew) : (Code.region id ls.toArray true).wpIn (Fence.wide.inRound l) n P Q a w :=
  wpIn_region_any hm (anyIn_round (noDefer_of hd) hlo _ _ _ _ (wpAny_of_held _ _ _ _ (h hS)))
end
end Go.Proofs.Ytmmjlnicfndmcaa
namespace Go.Proofs.Ytmmjlnicfndmcaa
open Go.RowKit
def mark (D : Nat) : Deferred := { target := .collected D, args := #[] }
/-- The marks' blocks are there, each once. -/
structure MarksOk (ds : List Nat) (w : World) : Prop where
  once : ds.Nodup
  open_ : ∀ D ∈ ds, w.heap[D]? = some (.deferred (some []))
theorem MarksOk.nil (w : World) : MarksOk [] w := ⟨List.nodup_nil, fun _ h => by simp at h⟩
theorem MarksOk.fr {ds : List Nat} {w w' : World} {F : Nat → Prop} (h : MarksOk ds w) (f : Fr F w w') (hF : ∀ D ∈ ds, ¬ F D) : MarksOk ds w' := ⟨h.once, fun D hD => f.get (h.open_ D hD) (hF D hD)⟩
theorem MarksOk.cons {ds : List Nat} {w : World} {D : Nat} (h : MarksOk ds w) (hD : w.heap[D]? = some (.deferred (some []))) (hn : D ∉ ds) : MarksOk (D :: ds) w :=
  ⟨List.nodup_cons.2 ⟨hn, h.once⟩, fun x hx => by
    rcases List.mem_cons.1 hx with rfl | hx
    · exact hD
    · exact h.open_ x hx⟩
theorem leaves_marks {F : Fence} {n : Nat} {P : Program} {fn : Func} {tmps : Array Value} {R : Ending → World → Prop} : ∀ (ds : List Nat) (w : World), MarksOk ds w →
    (∀ w', Fr (fun b => b ∈ ds) w w' → ∃ v, (results fn tmps).run P w' = .ok v w' ∧ R (.returned v) w') → LeavesInM F n P fn tmps R (ds.map mark) .returning w := by
  intro ds
  induction ds with
  | nil => exact fun w _ h => h w (Fr.refl _ _)
  | cons D ds ih =>
    intro w hm h
    have hD := hm.open_ D (by simp)
    have f : Fr (fun b => b = D) w (w.putObj D (.deferred none)) := (grownBy.fr (grownBy_putObj' w D (.deferred none))).mono (fun b _ e => by cases e; rfl)
    refine ⟨by simp, .inl ⟨D, _, rfl, run_takeDeferred hD, ih _ ⟨(List.nodup_cons.1 hm.once).2, fun x hx => f.get (hm.open_ x (by simp [hx])) (fun e => (List.nodup_cons.1 hm.once).1 (e ▸ hx))⟩ fun w' f2 => h w' ?_⟩⟩
    exact (f.mono (fun b _ e => by subst e; simp)).trans f2 (fun b _ hb => by simp [hb])
/-- A statement that leaves the temporaries as they are, and may leave marks. -/
theorem wp_cutD {P : Program} {s : Code} {K : Act → World → Prop} {Q' : Exit → Act → World → Prop} {tmps : Array Value} {ds : List Deferred} {w : World} (R : List Deferred → World → Prop)
    (rest : ∀ ds' w', R ds' w' → K ⟨tmps, ds'⟩ w') (first : ∀ K' : Act → World → Prop, (∀ ds' w', R ds' w' → K' ⟨tmps, ds'⟩ w') → s.wp P (Exit.then K' Q') ⟨tmps, ds⟩ w) : s.wp P (Exit.then K Q') ⟨tmps, ds⟩ w := by
  have h := first (fun a' w' => ∃ ds', a' = ⟨tmps, ds'⟩ ∧ R ds' w') (fun ds' w' h => ⟨ds', rfl, h⟩)
  refine wp_mono h ?_
  intro e a' w' hq
  cases e with
  | normal => obtain ⟨ds', rfl, hR⟩ := hq; exact rest _ _ hR
  | exit id => exact hq
  | goto l => exact hq
  | ret => exact hq
  | panic ch => exact hq
  | outgrown => exact hq
/-- A statement that ends as statements do. -/
theorem wp_noexit {P : Program} {s : Code} {K : Act → World → Prop} {Q' : Exit → Act → World → Prop} {a : Act} {w : World} (h : s.wp P (Exit.then K (fun _ _ _ => False)) a w) : s.wp P (Exit.then K Q') a w := by
  refine wp_mono h ?_
  intro e a' w' hq
  cases e with
  | normal => exact hq
  | exit id => exact hq.elim
  | goto l => exact hq.elim
  | ret => exact hq.elim
  | panic ch => exact hq.elim
  | outgrown => exact hq.elim
theorem wp_noexit2 {P : Program} {s : Code} {Q : Exit → Act → World → Prop} {a : Act} {w : World} (h : s.wp P (Exit.then (Q .normal) (fun _ _ _ => False)) a w) : s.wp P Q a w := by
  refine wp_mono h ?_
  intro e a' w' hq
  cases e with
  | normal => exact hq
  | exit id => exact hq.elim
  | goto l => exact hq.elim
  | ret => exact hq.elim
  | panic ch => exact hq.elim
  | outgrown => exact hq.elim
end Go.Proofs.Ytmmjlnicfndmcaa
namespace Go.Proofs.Ytmmjlnicfndmcaa.Ix
open Go.RowKit Go.Shelf
attribute [local go_sem] Oper.semAt_some
def fullOf (L : List (Nat × Int)) : List Sl := L.map fun x => (1, x)
/-- What All has captured: a cell that has a slice of the items. -/
structure Seq (w : World) (cb : Nat) (sv : Value) (L : List (Nat × Int)) : Prop where
  box : w.heap[cb]? = some (.cells #[sv] 107 (0, 0))
  row : (sv = .slice none 0 0 ∧ L = []) ∨ ∃ b cap, sv = .slice (some ⟨b, 0, none⟩) L.length cap ∧ BufAt w b (fullOf L)
  few : L.length ≤ 8192
def seqP (cb : Nat) (sv : Value) (b : Nat) : Prop := b = cb ∨ sv.ownBlock = some b
section seq
variable {w w' : World} {cb : Nat} {sv : Value} {L : List (Nat × Int)}
theorem Seq.same (h : Seq w cb sv L) (k : ∀ b, seqP cb sv b → b < w.heap.size → w'.heap[b]? = w.heap[b]?) : Seq w' cb sv L := by
  refine ⟨by rw [k cb (.inl rfl) (lt_of_block h.box)]; exact h.box, ?_, h.few⟩
  rcases h.row with h0 | ⟨b, cap, rfl, r, hb⟩
  · exact .inl h0
  · exact .inr ⟨b, cap, rfl, r, by rw [k b (.inr rfl) (lt_of_block hb)]; exact hb⟩
theorem Seq.keep (h : Seq w cb sv L) (k : KeepsB (seqP cb sv) w w') : Seq w' cb sv L := h.same k.blk
theorem Seq.below (h : Seq w cb sv L) (k : Below w.heap.size w w') : Seq w' cb sv L := h.same (fun b _ hl => k.block b hl)
theorem Seq.fr (h : Seq w cb sv L) {F : Nat → Prop} (f : Fr F w w') (hn : ∀ b, seqP cb sv b → ¬ F b) : Seq w' cb sv L := h.same (fun b hb hl => f.blk b hl (hn b hb))
theorem Seq.c0 (h : Seq w cb sv L) : w.cell? ⟨cb, 0, none⟩ = some sv := (cell_of h.box 0).trans rfl
theorem Seq.lt (h : Seq w cb sv L) : ∀ b, seqP cb sv b → b < w.heap.size := by
  rintro b (rfl | hb)
  · exact lt_of_block h.box
  · rcases h.row with ⟨rfl, _⟩ | ⟨b', cap, rfl, r⟩
    · simp [Value.ownBlock] at hb
    · simp [Value.ownBlock] at hb; subst hb; exact r.lt
end seq
def liAt (L : List (Nat × Int)) (k : Nat) : Nat × Int := L.getD k (0, 0)
theorem liAt_of {L : List (Nat × Int)} {k : Nat} (h : k < L.length) : L[k]? = some (liAt L k) := by simp [liAt, h]
theorem full_at {L : List (Nat × Int)} {k : Nat} (h : k < L.length) : slAt (fullOf L) k = (1, liAt L k) := by simp [slAt, fullOf, liAt, h]
theorem take_snocL {L : List (Nat × Int)} {k : Nat} (h : k < L.length) : L.take k ++ [liAt L k] = L.take (k + 1) := by
  rw [List.take_add_one, liAt_of h]; rfl
set_option maxRecDepth 100000 in
set_option maxHeartbeats 2000000 in
theorem all_stops (F : Fence) (n : Nat) (hF : F.fn 64) (hro : F.round = none) (hn : 1 ≤ n) {w : World} {cb : Nat} {sv : Value} {L : List (Nat × Int)} (hs : Seq w cb sv L) (p : Nat → Prop) (hp : ∀ b, seqP cb sv b → p b) :
    SeqStopsK F n Try.prog 64 #[.pointer (some ⟨cb, 0, none⟩)] (fun x : Nat × Int => #[Value.int .u32 (x.1 : Int), Value.int .i64 x.2]) (KeepsB p) (fun ys => ys = L) (fun pre => pre <+: L) L.length w := fun l J Jx W hW hJ _ hY h0 => by
  have hs := hs.below hW
  have c0 := hs.c0
  obtain ⟨m, hm⟩ : ∃ m, m = L.length := ⟨_, rfl⟩
  rcases hs.row with ⟨rfl, rfl⟩ | ⟨b, cap, rfl, hb⟩
  · clear hs hW hm
    refine callsIn_of_wp Try.func64 rfl hF ?_ hro
    simp only [Try.ntmps64, List.size_toArray, List.length_cons, List.length_nil, Nat.reduceAdd, Nat.reduceSub, Array.replicate_succ, Array.replicate_zero, List.push_toArray, List.append_toArray, List.nil_append, List.cons_append]
    gi_wp2
    gi_loopw [7] (fun i wr => i = .int .i64 0 ∧ J [] wr) (fun _ _ => 0)
    case atStart => exact ⟨rfl, h0⟩
    case round =>
      obtain ⟨rfl, hJs⟩ := hrel
      gi_wp2
      go_end0
      exact ⟨⟨_, rfl⟩, .inl ⟨_, rfl, hJs⟩⟩
  · have HB := Lib.hid hb; have Hm := Lib.hid hm; have Hp := Lib.hid (hp b (.inr rfl)); have H8 := Lib.hid hs.few; have HlW := Lib.hid hb.lt
    rw [← hm] at c0
    clear hs hW hm hb
    refine callsIn_of_wp Try.func64 rfl hF ?_ hro
    simp only [Try.ntmps64, List.size_toArray, List.length_cons, List.length_nil, Nat.reduceAdd, Nat.reduceSub, Array.replicate_succ, Array.replicate_zero, List.push_toArray, List.append_toArray, List.nil_append, List.cons_append]
    gi_wp2
    gi_loopw [7] (fun i wr => ∃ k : Nat, k ≤ m ∧ i = .int .i64 k ∧ J (L.take k) wr ∧ KeepsB p W wr)
      (fun i _ => m - (intOf i).toNat)
    case atStart => exact ⟨0, Nat.zero_le _, rfl, h0, KeepsB.refl _ _⟩
    case round =>
      obtain ⟨k, hk, rfl, hJs, hnx⟩ := hrel
      have Hnx := Lib.hid hnx
      clear hnx
      by_cases hlt : k < m
      · have hlt' : (k : Int) < (m : Int) := by omega
        have k0 : (0 : Int) ≤ (k : Int) := by omega
        have hkL : k < L.length := by rw [← Hm.out]; exact hlt
        have hbr : BufAt wr b (fullOf L) := by
          obtain ⟨r, hr⟩ := HB.out
          exact ⟨r, (Hnx.out.blk b Hp.out HlW.out).trans hr⟩
        obtain ⟨d0, d1, d2⟩ := hbr.cells (p := k) (by simp [fullOf]; exact hkL)
        rw [full_at hkL] at d0 d1 d2
        obtain ⟨x, hx⟩ : ∃ x, x = liAt L k := ⟨_, rfl⟩
        rw [← hx] at d0 d1 d2
        obtain ⟨id, v⟩ := x
        simp only at d0 d1 d2
        have e0 : ((1 : Nat) : Int) = 1 := rfl
        rw [e0] at d0
        have hJ1 : J (L.take k) (wr.alloc (.cells #[.int .u8 1, .int .u32 (id : Int), .int .i64 v] 106)) := hJ _ _ _ none hJs (World.grownBy_alloc _ _ none) (fun r e => by cases e)
        obtain ⟨fn, tmps, assign, body, hy, hR⟩ := hY _ (id, v) _ hJ1 (by rw [List.length_take]; omega)
        obtain ⟨k1, hk1⟩ : ∃ k1, k1 = k + 1 := ⟨_, rfl⟩
        have e1 : (k : Int) + 1 = (k1 : Int) := by omega
        obtain ⟨e2, e3, -⟩ := wrap_small (x := k1) (by have := H8.out; omega)
        have HK1 := Lib.hid hk1; have HX := Lib.hid hx; have Hlt := Lib.hid hlt; have HkL := Lib.hid hkL
        clear hk1 hx hlt hkL hk hbr e0
        gi_wp2
        refine hR.mono ?_
        rintro e W3 (⟨rfl, hJ3, hk3⟩ | ⟨rfl, hJx3⟩)
        · gi_wp2
          go_roundw
          case rel => exact ⟨k1, by have := HK1.out; have := Hlt.out; omega, rfl, by rw [HK1.out, ← take_snocL HkL.out, ← HX.out]; exact hJ3, (Hnx.out.alloc _).trans hk3⟩
          case measure => have := HK1.out; have := Hlt.out; simp [intOf]; omega
        · gi_wp2
          refine bodyPost_ret (results_none rfl _ _ _) rfl ?_
          exact ⟨⟨_, rfl⟩, .inr ⟨_, by rw [HX.out, take_snocL HkL.out]; exact List.take_prefix _ _, hJx3⟩⟩
      · obtain rfl : k = m := by omega
        clear hlt hk
        gi_wp2
        go_end0
        exact ⟨⟨_, rfl⟩, .inl ⟨_, rfl, by rw [Hm.out, List.take_length] at hJs; exact hJs⟩⟩
end Go.Proofs.Ytmmjlnicfndmcaa.Ix
namespace Go.Proofs.Ytmmjlnicfndmcaa.Ix
open Go.RowKit Go.Shelf
attribute [local go_sem] Oper.semAt_some
set_option maxRecDepth 100000 in
set_option maxHeartbeats 2000000 in
theorem all_stopsK (F : Fence) (n : Nat) (hF : F.fn 64) (hro : F.round = none) (hn : 1 ≤ n) {w : World} {cb : Nat} {sv : Value} {L : List (Nat × Int)} (hs : Seq w cb sv L) (p : Nat → Prop) (hp : ∀ b, seqP cb sv b → p b) :
    SeqStopsK F n Try.prog 64 #[.pointer (some ⟨cb, 0, none⟩)] (fun k : Nat => #[Value.int .u32 ((liAt L k).1 : Int), Value.int .i64 (liAt L k).2]) (KeepsB p) (fun ys => ys = List.range L.length) (fun pre => pre <+: List.range L.length) L.length w := fun l J Jx W hW hJ _ hY h0 => by
  have hs := hs.below hW
  have c0 := hs.c0
  obtain ⟨m, hm⟩ : ∃ m, m = L.length := ⟨_, rfl⟩
  rcases hs.row with ⟨rfl, rfl⟩ | ⟨b, cap, rfl, hb⟩
  · clear hs hW hm
    refine callsIn_of_wp Try.func64 rfl hF ?_ hro
    simp only [Try.ntmps64, List.size_toArray, List.length_cons, List.length_nil, Nat.reduceAdd, Nat.reduceSub, Array.replicate_succ, Array.replicate_zero, List.push_toArray, List.append_toArray, List.nil_append, List.cons_append]
    gi_wp2
    gi_loopw [7] (fun i wr => i = .int .i64 0 ∧ J [] wr) (fun _ _ => 0)
    case atStart => exact ⟨rfl, h0⟩
    case round =>
      obtain ⟨rfl, hJs⟩ := hrel
      gi_wp2
      go_end0
      exact ⟨⟨_, rfl⟩, .inl ⟨_, rfl, hJs⟩⟩
  · have HB := Lib.hid hb; have Hm := Lib.hid hm; have Hp := Lib.hid (hp b (.inr rfl)); have H8 := Lib.hid hs.few; have HlW := Lib.hid hb.lt
    rw [← hm] at c0
    clear hs hW hm hb
    refine callsIn_of_wp Try.func64 rfl hF ?_ hro
    simp only [Try.ntmps64, List.size_toArray, List.length_cons, List.length_nil, Nat.reduceAdd, Nat.reduceSub, Array.replicate_succ, Array.replicate_zero, List.push_toArray, List.append_toArray, List.nil_append, List.cons_append]
    gi_wp2
    gi_loopw [7] (fun i wr => ∃ k : Nat, k ≤ m ∧ i = .int .i64 k ∧ J (List.range k) wr ∧ KeepsB p W wr)
      (fun i _ => m - (intOf i).toNat)
    case atStart => exact ⟨0, Nat.zero_le _, rfl, h0, KeepsB.refl _ _⟩
    case round =>
      obtain ⟨k, hk, rfl, hJs, hnx⟩ := hrel
      have Hnx := Lib.hid hnx
      clear hnx
      by_cases hlt : k < m
      · have hlt' : (k : Int) < (m : Int) := by omega
        have k0 : (0 : Int) ≤ (k : Int) := by omega
        have hkL : k < L.length := by rw [← Hm.out]; exact hlt
        have hbr : BufAt wr b (fullOf L) := by
          obtain ⟨r, hr⟩ := HB.out
          exact ⟨r, (Hnx.out.blk b Hp.out HlW.out).trans hr⟩
        obtain ⟨d0, d1, d2⟩ := hbr.cells (p := k) (by simp [fullOf]; exact hkL)
        rw [full_at hkL] at d0 d1 d2
        obtain ⟨x, hx⟩ : ∃ x, x = liAt L k := ⟨_, rfl⟩
        rw [← hx] at d0 d1 d2
        obtain ⟨id, v⟩ := x
        simp only at d0 d1 d2
        have e0 : ((1 : Nat) : Int) = 1 := rfl
        rw [e0] at d0
        have hJ1 : J (List.range k) (wr.alloc (.cells #[.int .u8 1, .int .u32 (id : Int), .int .i64 v] 106)) := hJ _ _ _ none hJs (World.grownBy_alloc _ _ none) (fun r e => by cases e)
        obtain ⟨fn, tmps, assign, body, hy, hR⟩ := hY _ k _ hJ1 (by rw [List.length_range]; omega)
        have hy : _ := hy
        simp only [← hx] at hy
        obtain ⟨k1, hk1⟩ : ∃ k1, k1 = k + 1 := ⟨_, rfl⟩
        have e1 : (k : Int) + 1 = (k1 : Int) := by omega
        obtain ⟨e2, e3, -⟩ := wrap_small (x := k1) (by have := H8.out; omega)
        have HK1 := Lib.hid hk1; have HX := Lib.hid hx; have Hlt := Lib.hid hlt; have HkL := Lib.hid hkL
        clear hk1 hx hlt hkL hk hbr e0
        gi_wp2
        refine hR.mono ?_
        rintro e W3 (⟨rfl, hJ3, hk3⟩ | ⟨rfl, hJx3⟩)
        · gi_wp2
          go_roundw
          case rel => exact ⟨k1, by have := HK1.out; have := Hlt.out; omega, rfl, by rw [HK1.out, List.range_succ]; exact hJ3, (Hnx.out.alloc _).trans hk3⟩
          case measure => have := HK1.out; have := Hlt.out; simp [intOf]; omega
        · gi_wp2
          refine bodyPost_ret (results_none rfl _ _ _) rfl ?_
          exact ⟨⟨_, rfl⟩, .inr ⟨_, by have := HkL.out; rw [← List.range_succ, List.prefix_iff_eq_take, List.length_range, List.take_range]; congr 1; omega, hJx3⟩⟩
      · obtain rfl : k = m := by omega
        clear hlt hk
        gi_wp2
        go_end0
        exact ⟨⟨_, rfl⟩, .inl ⟨_, rfl, by rw [Hm.out] at hJs; exact hJs⟩⟩
end Go.Proofs.Ytmmjlnicfndmcaa.Ix
namespace Go.Proofs.Ytmmjlnicfndmcaa.Ix
open Go.RowKit Go.Shelf
attribute [local go_sem] Oper.semAt_some
abbrev allV (cb : Nat) : Value := .func (.func 64) #[] #[.pointer (some ⟨cb, 0, none⟩)]
/-- What All hands back. -/
def AllOf (w : World) (L : List (Nat × Int)) (e : Ending) (w' : World) : Prop := ∃ cb sv, e = .returned (allV cb) ∧ Seq w' cb sv L ∧ (∀ b, seqP cb sv b → w.heap.size ≤ b) ∧ Fr (fun _ => False) w w'
theorem Fr.toNew {G : Nat → Prop} {w w' : World} (h : Fr (fun b => w.heap.size ≤ b) w w') : Fr G w w' := h.mono (fun i hi e => by omega)
set_option maxRecDepth 100000 in
theorem all_ok {w : World} {bh g N most : Nat} {L : List (Nat × Int)} {st : Nat} (h : IxAt w bh g N most L st) : Calls Try.prog 48 #[.pointer (some ⟨bh, 0, none⟩)] w (AllOf w L) := by
  obtain ⟨S, hr, hl1, hl2, hl3⟩ := h
  have fa : Fr (fun _ => False) w (w.alloc (.cells #[.slice none 0 0] 107)) := Fr.alloc (Fr.refl _ _) _
  have hb0 : (w.alloc (.cells #[.slice none 0 0] 107)).heap[w.heap.size]? = some (.cells #[.slice none 0 0] 107 (0, 0)) := by rw [heap_alloc_get]; simp
  have hr1 := hr.fr fa (fun h => h) (fun h => h)
  have HM := Lib.hid (made_ok hr1.head)
  have HI := Lib.hid (items_ok hr1.head hr1.slots hr1.len hr1.maps (by have := hr.lo; have := hr.one; omega) hr.hi)
  have HL8 := Lib.hid (show L.length ≤ 8192 by have := hr.hi; have := hr.lo; omega)
  have HB0 := Lib.hid hb0; have FA := Lib.hid fa
  clear hr hl1 hl2 hl3 fa hb0 hr1
  go_enter Try.func48, Try.ntmps48
  go_wp2_with fail
  refine HM.out.mono ?_
  rintro e w1 ⟨rfl, rfl⟩
  go_wp2_with fail
  refine HI.out.mono ?_
  rintro e w2 ⟨b, cap, rfl, hb, hf, hn⟩
  have hb2 := hf.get HB0.out (fun h => h)
  have c0 := (cell_of hb2 0).trans (show _ = some (Value.slice none 0 0) from rfl)
  have z0 := free_of hb2 0
  have hsz : w.heap.size < b := by have : (w.alloc (.cells #[.slice none 0 0] 107)).heap.size = w.heap.size + 1 := by simp
                                   omega
  have fs : Fr (fun i => i = w.heap.size) w2 (w2.setCell ⟨w.heap.size, 0, none⟩ (.slice (some ⟨b, 0, none⟩) L.length cap)) := Fr.setCell (F := fun i => i = w.heap.size) (p := ⟨w.heap.size, 0, none⟩) (Fr.refl _ _) (fun _ => rfl) _
  have hs : Seq (w2.setCell ⟨w.heap.size, 0, none⟩ (.slice (some ⟨b, 0, none⟩) L.length cap)) w.heap.size (.slice (some ⟨b, 0, none⟩) L.length cap) L := ⟨setCell_blk (o := 0) hb2 _, .inr ⟨b, cap, rfl, hb.fr fs (by omega)⟩, HL8.out⟩
  have hfw : Fr (fun _ => False) w (w2.setCell ⟨w.heap.size, 0, none⟩ (.slice (some ⟨b, 0, none⟩) L.length cap)) := Fr.toNew (((FA.out.trans hf (fun _ _ h => h)).mono (G := fun b => w.heap.size ≤ b) (fun _ _ h => h.elim)).trans fs (fun i _ e => by omega))
  have HS := Lib.hid hs; have HF := Lib.hid hfw; have Hsz := Lib.hid hsz
  clear hb hf hn hb2 hsz fs hs hfw
  go_wp2_with fail
  go_ret
  refine ⟨w.heap.size, _, rfl, HS.out, ?_, HF.out⟩
  rintro i (rfl | hi)
  · exact Nat.le_refl _
  · simp [Value.ownBlock] at hi; have := Hsz.out; omega
set_option maxRecDepth 100000 in
theorem all_none {w : World} {p : Option Addr} (h : NoIdx w p) : Calls Try.prog 48 #[.pointer p] w (AllOf w []) := by
  have fa : Fr (fun _ => False) w (w.alloc (.cells #[.slice none 0 0] 107)) := Fr.alloc (Fr.refl _ _) _
  have hb0 : (w.alloc (.cells #[.slice none 0 0] 107)).heap[w.heap.size]? = some (.cells #[.slice none 0 0] 107 (0, 0)) := by rw [heap_alloc_get]; simp
  have h1 : NoIdx (w.alloc (.cells #[.slice none 0 0] 107)) p := by
    rcases h with rfl | ⟨b, v1, v2, v3, v4, rfl, h⟩
    · exact .inl rfl
    · exact .inr ⟨b, v1, v2, v3, v4, rfl, fa.get h (fun h => h)⟩
  have HM := Lib.hid (made_no h1)
  have HB0 := Lib.hid hb0; have FA := Lib.hid fa
  clear h h1 hb0 fa
  go_enter Try.func48, Try.ntmps48
  go_wp2_with fail
  refine HM.out.mono ?_
  rintro e w1 ⟨rfl, rfl⟩
  go_wp2_with fail
  go_ret
  refine ⟨w.heap.size, _, rfl, ⟨HB0.out, .inl ⟨rfl, rfl⟩, Nat.zero_le _⟩, ?_, FA.out⟩
  rintro i (rfl | hi)
  · exact Nat.le_refl _
  · simp [Value.ownBlock] at hi
theorem addr_add (g o k : Nat) : (⟨g, o, none⟩ : Addr).add k = ⟨g, o + k, none⟩ := by
  by_cases h0 : k = 0
  · subst h0; simp [Addr.add]
  · simp [Addr.add, h0]
/-- append of values of one cell that lie in a new block. -/
theorem app_row {e t : TypeId} {z : Value} (ht : Try.prog.underlying t = some (.slice e)) (hi : (Try.prog.info? e).map (fun i => (i.zero, i.size, i.bytes)) = some (some z, 1, 8)) (hz : z.cells.size = 1) (ty : TypeId) {W : World} {v : Value} {xs ys : List Value} (h : Row W e 1 v xs.length xs) (hb : xs.length + ys.length ≤ 1000000) (hy : ∀ u ∈ ys, u.oneCell' = true) {n : Nat} (hn : n = ys.length) :
    ∃ a c W2, (Builtin.append_ #[t, t] ty #[v, .slice (some ⟨W.heap.size, 0, none⟩) n n]).run Try.prog (W.alloc (.cells ys.toArray e)) = .ok (.slice a (xs.length + n) c) W2 ∧
      Row W2 e 1 (.slice a (xs.length + n) c) (xs ++ ys).length (xs ++ ys) ∧ Fr (fun b => v.ownBlock = some b) W W2 ∧ (∀ b, (Value.slice a (xs.length + n) c).ownBlock = some b → v.ownBlock = some b ∨ W.heap.size ≤ b) := by
  subst hn
  obtain ⟨i0, hi, hz0, hz1, hz2⟩ := info_parts hi
  have f0 : Fr (fun _ => False) W (W.alloc (.cells ys.toArray e)) := Fr.alloc (Fr.refl _ _) _
  have hg : (W.alloc (.cells ys.toArray e)).heap[W.heap.size]? = some (.cells ys.toArray e (0, 0)) := by rw [heap_alloc_get]; simp
  obtain ⟨v', w3, hrun, hR3, hf3, ho3⟩ := run_append_fr (P := Try.prog) _ t ty e i0 _ 1 8 ht hi hz0 hz1 hz2 hz (by decide) _ _ _ (Row.fr h f0 (fun _ _ h => h)) ⟨W.heap.size, 0, none⟩ ys.length ys.length ys (by simp)
    (by intro j u hu
        rw [addr_add, Nat.zero_add, cell_of hg j]
        simpa using hu)
    hy (by unfold maxLen; omega) (by omega)
  obtain ⟨a', c', rfl⟩ : ∃ a' c', v' = .slice a' (xs.length + ys.length) c' := by
    rcases hR3.2 with ⟨rfl, h0⟩ | ⟨g, cap, cur, rfl, _⟩
    · exact ⟨none, 0, by rw [h0]⟩
    · exact ⟨_, _, rfl⟩
  refine ⟨a', c', w3, hrun, by rw [List.length_append]; exact hR3, (f0.mono (fun _ _ h => h.elim)).trans hf3 (fun _ _ h => h), ?_⟩
  intro b hb
  rcases ho3 with h | h
  · rw [h] at hb; exact .inl hb
  · rw [h] at hb; simp at hb; right; omega
theorem row_obj {w : World} {e : TypeId} {size n : Nat} {v : Value} {xs : List Value} (h : Row w e size v n xs) {b : Nat} (hb : v.ownBlock = some b) : ∃ c t z, w.heap[b]? = some (.cells c t z) := by
  rcases h.2 with ⟨rfl, _⟩ | ⟨g, cap, cur, rfl, _, k1, _⟩
  · simp [Value.ownBlock] at hb
  · simp [Value.ownBlock] at hb; subst hb; exact ⟨_, _, _, k1⟩
end Go.Proofs.Ytmmjlnicfndmcaa.Ix
