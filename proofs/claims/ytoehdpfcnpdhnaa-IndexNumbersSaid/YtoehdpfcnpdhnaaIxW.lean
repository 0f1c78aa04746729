/- The index layer: an index that isn't there. No condition. -/
import Derived.Test.YtoehdpfcnpdhnaaIxU
namespace Go.Proofs.Ytoehdpfcnpdhnaa.Ix
open Go.RowKit
theorem NoIdx.fr {w w' : World} {p : Option Addr} (h : NoIdx w p) {F : Nat → Prop} (f : Fr F w w') (hF : ∀ b, b < w.heap.size → ¬ F b) : NoIdx w' p := by
  rcases h with rfl | ⟨b, v1, v2, v3, v4, rfl, h⟩
  · exact .inl rfl
  · exact .inr ⟨b, v1, v2, v3, v4, rfl, f.get h (hF b (lt_of_block h))⟩
set_option maxRecDepth 100000 in
theorem get_no {w : World} {p : Option Addr} (h : NoIdx w p) (id : Int) : Calls Try.prog 22 #[.pointer p, .int .u32 id] w fun e w' => e = .returned (.tuple #[.int .i64 0, .bool false]) ∧ w = w' := by
  have HM := Lib.hid (made_no h)
  clear h
  go_enter Try.func22, Try.ntmps22
  go_wp2_with fail
  refine HM.out.mono ?_
  rintro e w1 ⟨rfl, rfl⟩
  go_wp2_with fail
  refine bodyPost_ret (v := .tuple #[.int .i64 0, .bool false]) ?_ rfl ⟨rfl, rfl⟩
  simp [results, Try.results22, Try.f22, go_sem]
set_option maxRecDepth 100000 in
theorem put_no {w : World} {p : Option Addr} (h : NoIdx w p) (id v : Int) : Calls Try.prog 23 #[.pointer p, .int .u32 id, .int .i64 v] w fun e w' => e = .returned (.int .i64 1) ∧ w = w' := by
  have HM := Lib.hid (made_no h)
  clear h
  go_enter Try.func23, Try.ntmps23
  go_wp2_with fail
  refine HM.out.mono ?_
  rintro e w1 ⟨rfl, rfl⟩
  go_wp2_with fail
  go_ret
  exact ⟨rfl, rfl⟩
set_option maxRecDepth 100000 in
theorem set_no {w : World} {p : Option Addr} (h : NoIdx w p) (id v : Int) : Calls Try.prog 24 #[.pointer p, .int .u32 id, .int .i64 v] w fun e w' => e = .returned (.bool false) ∧ w = w' := by
  have HM := Lib.hid (made_no h)
  clear h
  go_enter Try.func24, Try.ntmps24
  go_wp2_with fail
  refine HM.out.mono ?_
  rintro e w1 ⟨rfl, rfl⟩
  go_wp2_with fail
  go_ret
  exact ⟨rfl, rfl⟩
set_option maxRecDepth 100000 in
theorem drop_no {w : World} {p : Option Addr} (h : NoIdx w p) (id : Int) : Calls Try.prog 25 #[.pointer p, .int .u32 id] w fun e w' => e = .returned (.bool false) ∧ w = w' := by
  have HM := Lib.hid (made_no h)
  clear h
  go_enter Try.func25, Try.ntmps25
  go_wp2_with fail
  refine HM.out.mono ?_
  rintro e w1 ⟨rfl, rfl⟩
  go_wp2_with fail
  go_ret
  exact ⟨rfl, rfl⟩
set_option maxRecDepth 100000 in
theorem most_no {w : World} {p : Option Addr} (h : NoIdx w p) : Calls Try.prog 21 #[.pointer p] w fun e w' => e = .returned (.int .i64 0) ∧ w = w' := by
  have HM := Lib.hid (made_no h)
  clear h
  go_enter Try.func21, Try.ntmps21
  go_wp2_with fail
  refine HM.out.mono ?_
  rintro e w1 ⟨rfl, rfl⟩
  go_wp2_with fail
  go_ret
  exact ⟨rfl, rfl⟩
set_option maxRecDepth 100000 in
theorem len_no {w : World} {p : Option Addr} (h : NoIdx w p) : Calls Try.prog 20 #[.pointer p] w fun e w' => e = .returned (.int .i64 0) ∧ w = w' := by
  have HM := Lib.hid (made_no h)
  clear h
  go_enter Try.func20, Try.ntmps20
  go_wp2_with fail
  refine HM.out.mono ?_
  rintro e w1 ⟨rfl, rfl⟩
  go_wp2_with fail
  go_ret
  exact ⟨rfl, rfl⟩
set_option maxRecDepth 100000 in
theorem steps_no {w : World} {p : Option Addr} (h : NoIdx w p) : Calls Try.prog 26 #[.pointer p] w fun e w' => e = .returned (.int .i64 0) ∧ w = w' := by
  have HM := Lib.hid (made_no h)
  clear h
  go_enter Try.func26, Try.ntmps26
  go_wp2_with fail
  refine HM.out.mono ?_
  rintro e w1 ⟨rfl, rfl⟩
  go_wp2_with fail
  go_ret
  exact ⟨rfl, rfl⟩
set_option maxRecDepth 100000 in
theorem slots_no {w : World} {p : Option Addr} (h : NoIdx w p) : Calls Try.prog 27 #[.pointer p] w fun e w' => e = .returned (.int .i64 0) ∧ w = w' := by
  have HM := Lib.hid (made_no h)
  clear h
  go_enter Try.func27, Try.ntmps27
  go_wp2_with fail
  refine HM.out.mono ?_
  rintro e w1 ⟨rfl, rfl⟩
  go_wp2_with fail
  go_ret
  exact ⟨rfl, rfl⟩
theorem told_no {w : World} {p : Option Addr} (h : NoIdx w p) : Calls Try.prog 13 #[.pointer p] w (ToldOf w []) :=
  told_ok (by simp) (by simp) (fun w1 f => all_none (h.fr f (fun _ _ h => h)))
end Go.Proofs.Ytoehdpfcnpdhnaa.Ix
