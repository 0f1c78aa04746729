/- Cabins in memory: Check, Seats, Blocks. No condition. -/
import Derived.Test.YthckfbfenfkdiaaDoorPyB
namespace Go.Proofs.YthckfbfenfkdiaaDoor.Py
open Go.RowKit St
theorem info17 {arr : Array Value} (h : arr.size = 17) : (Tryd.prog.info? 75).map (·.size) = some arr.size := by rw [h]; kernel_rfl
set_option maxRecDepth 100000 in
set_option maxHeartbeats 1000000 in
theorem check_any {w : World} {sv : Value} {L : List Int} (h : RI w sv L) (r v : Int) {q : Bool} (hq : rightB r v L = q) : Calls Tryd.prog 46 #[.agg #[.int .i64 r, .int .i64 v, sv]] w fun e w' => e = .returned (.int .i64 (if q then 0 else 2)) ∧ Fr (fun _ => False) w w' := by
  have H := Lib.hid h
  have HQ := Lib.hid hq
  clear h hq
  go_enter Tryd.func46, Tryd.ntmps46
  go_wp2_with fail
  refine (aisles_any (H.out.keep (Fr.alloc (Fr.refl _ _) _)) r v).mono ?_
  rintro e w1 ⟨⟨P, rfl, _⟩, hf⟩
  rw [HQ.out]
  have HF := Lib.hid ((Fr.alloc (Fr.refl (fun _ => False) w) (.cells #[.int .i64 r, .int .i64 v, sv] 24)).trans hf (fun _ _ h => h))
  clear hf
  cases q
  · go_wp2_with (first | (refine wpList_store_row rfl 75 (.tmp 3) (.tmp 8) rfl w1.heap.size (lieArr P) rfl rfl 75 _ (heap_alloc_at _ _) (info17 (lie_size _)) (lie_size _).symm (lie_one _) ?_))
    go_ret
    exact ⟨rfl, HF.out.os, HF.out.tape, HF.out.output, by simp; have := HF.out.size; omega, fun k hk hn => by rw [setRow_other _ _ _ _ (by have := HF.out.size; omega), heap_alloc_old _ _ _ (Nat.lt_of_lt_of_le hk HF.out.size)]; exact HF.out.blk k hk hn⟩
  · go_wp2_with (first | (refine wpList_store_row rfl 75 (.tmp 3) (.tmp 8) rfl w1.heap.size (lieArr P) rfl rfl 75 _ (heap_alloc_at _ _) (info17 (lie_size _)) (lie_size _).symm (lie_one _) ?_))
    go_ret
    exact ⟨rfl, HF.out.os, HF.out.tape, HF.out.output, by simp; have := HF.out.size; omega, fun k hk hn => by rw [setRow_other _ _ _ _ (by have := HF.out.size; omega), heap_alloc_old _ _ _ (Nat.lt_of_lt_of_le hk HF.out.size)]; exact HF.out.blk k hk hn⟩
set_option maxRecDepth 100000 in
set_option maxHeartbeats 1000000 in
theorem seats_no {w : World} {sv : Value} {L : List Int} (h : RI w sv L) {r v : Int} (hq : rightB r v L = false) : Calls Tryd.prog 40 #[.agg #[.int .i64 r, .int .i64 v, sv]] w fun e w' => e = .returned (.tuple #[.int .i64 0, .int .i64 2]) ∧ Fr (fun _ => False) w w' := by
  have H := Lib.hid h
  have HQ := Lib.hid hq
  clear h hq
  go_enter Tryd.func40, Tryd.ntmps40
  go_wp2_with fail
  refine (check_any (H.out.keep (Fr.alloc (Fr.refl _ _) _)) r v HQ.out).mono ?_
  rintro e w1 ⟨rfl, hf⟩
  have HF := Lib.hid ((Fr.alloc (Fr.refl (fun _ => False) w) (.cells #[.int .i64 r, .int .i64 v, sv] 24)).trans hf (fun _ _ h => h))
  clear hf
  go_wp2_with fail
  go_ret2
  exact ⟨rfl, HF.out⟩
theorem seatsI (r v : Int) (hq : sizeOk r v = true) : ∃ n : Nat, r * v = (n : Int) ∧ n ≤ 1024 ∧ 1 ≤ n := by
  simp only [sizeOk, decide_eq_true_eq] at hq
  obtain ⟨a, rfl⟩ : ∃ a : Nat, r = (a : Int) := ⟨r.toNat, by omega⟩
  obtain ⟨b, rfl⟩ : ∃ b : Nat, v = (b : Int) := ⟨v.toNat, by omega⟩
  refine ⟨a * b, by simp, ?_, ?_⟩
  · have := Nat.mul_le_mul (show a ≤ 64 by omega) (show b ≤ 16 by omega); omega
  · exact Nat.mul_pos (by omega) (by omega)
theorem right_size {r v : Int} {L : List Int} (h : rightB r v L = true) : sizeOk r v = true := by
  unfold rightB at h; simp only [Bool.and_eq_true] at h; exact h.1
set_option maxRecDepth 100000 in
set_option maxHeartbeats 1000000 in
theorem seats_ok {w : World} {sv : Value} {L : List Int} (h : RI w sv L) {r v : Int} (hq : rightB r v L = true) : Calls Tryd.prog 40 #[.agg #[.int .i64 r, .int .i64 v, sv]] w fun e w' => e = .returned (.tuple #[.int .i64 (r * v), .int .i64 0]) ∧ Fr (fun _ => False) w w' := by
  have H := Lib.hid h
  have HQ := Lib.hid hq
  obtain ⟨n, hn, hn1, hn2⟩ := seatsI r v (right_size hq)
  rw [hn]
  clear h hq
  go_enter Tryd.func40, Tryd.ntmps40
  go_wp2_with fail
  refine (check_any (H.out.keep (Fr.alloc (Fr.refl _ _) _)) r v HQ.out).mono ?_
  rintro e w1 ⟨rfl, hf⟩
  have hb : w1.heap[w.heap.size]? = some (.cells #[.int .i64 r, .int .i64 v, sv] 24 (0, 0)) := (hf.blk _ (by simp) id).trans (heap_alloc_at _ _)
  have c0 := (cell_of hb 0).trans (show _ = some (Value.int .i64 r) from rfl)
  have c1 := (cell_of hb 1).trans (show _ = some (Value.int .i64 v) from rfl)
  have HF := Lib.hid ((Fr.alloc (Fr.refl (fun _ => False) w) (.cells #[.int .i64 r, .int .i64 v, sv] 24)).trans hf (fun _ _ h => h))
  clear hf hb
  go_wp2_with fail
  go_ret2
  exact ⟨rfl, HF.out⟩
end Go.Proofs.YthckfbfenfkdiaaDoor.Py
