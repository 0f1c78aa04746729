/- A frame of a known size, written out. No condition. -/
import Derived.Test.YtfgpmbahekcoeaaLib
import Derived.KernelRfl
namespace Go.Proofs.Ytfgpmbahekcoeaa
open Go.RowKit
theorem range_self (T : Array Value) (n : Nat) (h : T.size = n) : T = ((List.range n).map (fun k => T.getD k undef)).toArray := by
  subst h
  refine Array.ext (by simp) ?_
  intro i h1 h2
  simp [Array.getD, h1]
theorem range_lit (us : Nat → Value) : ((List.range 132).map us).toArray = #[us 0, us 1, us 2, us 3, us 4, us 5, us 6, us 7, us 8, us 9, us 10, us 11, us 12, us 13, us 14, us 15, us 16, us 17, us 18, us 19, us 20, us 21, us 22, us 23, us 24, us 25, us 26, us 27, us 28, us 29, us 30, us 31, us 32, us 33, us 34, us 35, us 36, us 37, us 38, us 39, us 40, us 41, us 42, us 43, us 44, us 45, us 46, us 47, us 48, us 49, us 50, us 51, us 52, us 53, us 54, us 55, us 56, us 57, us 58, us 59, us 60, us 61, us 62, us 63, us 64, us 65, us 66, us 67, us 68, us 69, us 70, us 71, us 72, us 73, us 74, us 75, us 76, us 77, us 78, us 79, us 80, us 81, us 82, us 83, us 84, us 85, us 86, us 87, us 88, us 89, us 90, us 91, us 92, us 93, us 94, us 95, us 96, us 97, us 98, us 99, us 100, us 101, us 102, us 103, us 104, us 105, us 106, us 107, us 108, us 109, us 110, us 111, us 112, us 113, us 114, us 115, us 116, us 117, us 118, us 119, us 120, us 121, us 122, us 123, us 124, us 125, us 126, us 127, us 128, us 129, us 130, us 131] := by kernel_rfl
theorem frame_out (T : Array Value) (h : T.size = 132) : ∃ us : Nat → Value, T = #[us 0, us 1, us 2, us 3, us 4, us 5, us 6, us 7, us 8, us 9, us 10, us 11, us 12, us 13, us 14, us 15, us 16, us 17, us 18, us 19, us 20, us 21, us 22, us 23, us 24, us 25, us 26, us 27, us 28, us 29, us 30, us 31, us 32, us 33, us 34, us 35, us 36, us 37, us 38, us 39, us 40, us 41, us 42, us 43, us 44, us 45, us 46, us 47, us 48, us 49, us 50, us 51, us 52, us 53, us 54, us 55, us 56, us 57, us 58, us 59, us 60, us 61, us 62, us 63, us 64, us 65, us 66, us 67, us 68, us 69, us 70, us 71, us 72, us 73, us 74, us 75, us 76, us 77, us 78, us 79, us 80, us 81, us 82, us 83, us 84, us 85, us 86, us 87, us 88, us 89, us 90, us 91, us 92, us 93, us 94, us 95, us 96, us 97, us 98, us 99, us 100, us 101, us 102, us 103, us 104, us 105, us 106, us 107, us 108, us 109, us 110, us 111, us 112, us 113, us 114, us 115, us 116, us 117, us 118, us 119, us 120, us 121, us 122, us 123, us 124, us 125, us 126, us 127, us 128, us 129, us 130, us 131] ∧ ∀ k, us k = T.getD k undef := by
  obtain ⟨us, hus⟩ : ∃ us : Nat → Value, us = fun k => T.getD k undef := ⟨_, rfl⟩
  have h1 := range_self T _ h
  rw [← hus, range_lit us] at h1
  exact ⟨us, h1, fun k => by rw [hus]⟩
theorem us_at {T : Array Value} {us : Nat → Value} (h : ∀ k, us k = T.getD k undef) {k : Nat} {v : Value} (hk : T[k]? = some v) : us k = v := by
  rw [h k, Array.getD_eq_getD_getElem?, hk]; rfl
end Go.Proofs.Ytfgpmbahekcoeaa
