/- The methods of no heap: a nil pointer, a heap that was not made. No condition. -/
import Derived.Test.YtfgpmbahekcoeaaHeapE
namespace Go.Proofs.Ytfgpmbahekcoeaa
open Go.RowKit
/-- A pointer at no heap: nil, or at one whose less is nil. -/
def NoHeap (w : World) (p : Option Addr) : Prop := p = none ∨ ∃ b v1 v2 v3, p = some ⟨b, 0, none⟩ ∧ w.heap[b]? = some (.cells #[.nilFunc, v1, v2, v3] 73)
theorem nil_none {w : World} {p : Option Addr} (h : NoHeap w p) : Calls Try.prog 63 #[.pointer p] w fun e w' => e = .returned (.bool true) ∧ w = w' := by
  have q := fun w => run_eql_nil_nil_func (P := Try.prog) Try.underlying63 w
  rcases h with rfl | ⟨b, v1, v2, v3, rfl, h⟩
  · go_enter Try.func63, Try.ntmps63
    go_wp2_with fail
    go_ret
    exact ⟨rfl, rfl⟩
  · have c0 := cell_of h 0
    simp at c0
    clear h
    go_enter Try.func63, Try.ntmps63
    go_wp2_with fail
    go_ret
    exact ⟨rfl, rfl⟩
section
variable {w : World} {p : Option Addr} (h : NoHeap w p)
include h
theorem nil_push (n : Int) : Calls Try.prog 26 #[.pointer p, .int .i64 n] w fun e w' => e = .returned (.tuple #[.int .i64 0, .int .i64 1]) ∧ w = w' := by
  have H := Lib.hid h; clear h
  go_enter Try.func26, Try.ntmps26
  go_wp2_with fail
  refine (nil_none H.out).mono ?_
  rintro e w' ⟨rfl, rfl⟩
  go_wp2_with fail
  go_ret2
  exact ⟨rfl, rfl⟩
theorem nil_least : Calls Try.prog 53 #[.pointer p] w fun e w' => e = .returned (.tuple #[.int .i64 0, .int .i64 0, .bool false]) ∧ w = w' := by
  have H := Lib.hid h; clear h
  go_enter Try.func53, Try.ntmps53
  go_wp2_with fail
  refine (nil_none H.out).mono ?_
  rintro e w' ⟨rfl, rfl⟩
  go_wp2_with fail
  go_ret3
  exact ⟨rfl, rfl⟩
theorem nil_pop : Calls Try.prog 25 #[.pointer p] w fun e w' => e = .returned (.tuple #[.int .i64 0, .int .i64 0, .bool false]) ∧ w = w' := by
  have H := Lib.hid h; clear h
  go_enter Try.func25, Try.ntmps25
  go_wp2_with fail
  refine (nil_least H.out).mono ?_
  rintro e w' ⟨rfl, rfl⟩
  go_wp2_with fail
  go_ret3
  exact ⟨rfl, rfl⟩
theorem nil_get (n : Int) : Calls Try.prog 70 #[.pointer p, .int .i64 n] w fun e w' => e = .returned (.tuple #[.int .i64 0, .bool false]) ∧ w = w' := by
  have H := Lib.hid h; clear h
  go_enter Try.func70, Try.ntmps70
  go_wp2_with fail
  refine (nil_none H.out).mono ?_
  rintro e w' ⟨rfl, rfl⟩
  go_wp2_with fail
  go_ret2
  exact ⟨rfl, rfl⟩
theorem nil_set (n v : Int) : Calls Try.prog 27 #[.pointer p, .int .i64 n, .int .i64 v] w fun e w' => e = .returned (.bool false) ∧ w = w' := by
  have H := Lib.hid h; clear h
  go_enter Try.func27, Try.ntmps27
  go_wp2_with fail
  refine (nil_none H.out).mono ?_
  rintro e w' ⟨rfl, rfl⟩
  go_wp2_with fail
  go_ret
  exact ⟨rfl, rfl⟩
theorem nil_drop (n : Int) : Calls Try.prog 28 #[.pointer p, .int .i64 n] w fun e w' => e = .returned (.bool false) ∧ w = w' := by
  have H := Lib.hid h; clear h
  go_enter Try.func28, Try.ntmps28
  go_wp2_with fail
  refine (nil_none H.out).mono ?_
  rintro e w' ⟨rfl, rfl⟩
  go_wp2_with fail
  go_ret
  exact ⟨rfl, rfl⟩
theorem nil_len : Calls Try.prog 54 #[.pointer p] w fun e w' => e = .returned (.int .i64 0) ∧ w = w' := by
  have H := Lib.hid h; clear h
  go_enter Try.func54, Try.ntmps54
  go_wp2_with fail
  refine (nil_none H.out).mono ?_
  rintro e w' ⟨rfl, rfl⟩
  go_wp2_with fail
  go_ret
  exact ⟨rfl, rfl⟩
theorem nil_all : Calls Try.prog 24 #[.pointer p] w fun e w' => e = .returned (.func (.func 67) #[] #[.pointer (some ⟨w.heap.size, 0, none⟩)]) ∧ w' = w.alloc (.cells #[.slice none 0 0] 70) := by
  have H : Go.RowKit.Hid (NoHeap (w.alloc (.cells #[.slice none 0 0] 70)) p) := Lib.hid (by
    rcases h with rfl | ⟨b, v1, v2, v3, rfl, h⟩
    · exact .inl rfl
    · exact .inr ⟨b, v1, v2, v3, rfl, by simp only [heap_alloc_get]; rw [if_neg]; exact h; intro e; subst e; simp at h⟩)
  clear h
  go_enter Try.func24, Try.ntmps24
  go_wp2_with fail
  refine (nil_none H.out).mono ?_
  rintro e w' ⟨rfl, rfl⟩
  go_wp2_with fail
  go_ret
  exact ⟨rfl, rfl⟩
end
theorem nil_new (w : World) : Calls Try.prog 31 #[.nilFunc] w fun e w' => e = .returned (.pointer none) ∧ w = w' := by
  have q := fun w => run_eql_nil_nil_func (P := Try.prog) Try.underlying63 w
  go_enter Try.func31, Try.ntmps31
  go_wp2_with fail
  go_ret
  exact ⟨rfl, rfl⟩
end Go.Proofs.Ytfgpmbahekcoeaa
