/- The contracts of none, Len, Least, Get of a heap of numbers. No condition. -/
import Derived.Test.YtfgpmbahekcoeaaHeapH
import Derived.Test.YtfgpmbahekcoeaaMore
namespace Go.Proofs.Ytfgpmbahekcoeaa
open Go.RowKit
section
variable {J : World → Prop} {FJ : Nat → Prop} {A : Int → Prop} {fv : Value} {G : Nat → Prop} {bh : Nat} {L : List It} {next : Int} {w : World}
variable {lt : Int → Int → Bool} {fl : Nat} {caps : Array Value} (hL : LessOk Try.prog fv lt J FJ A fl caps)
include hL
theorem none_ok (h : HeapIs J FJ A fv G bh L next w) : Calls Try.prog 63 #[.pointer (some ⟨bh, 0, none⟩)] w fun e w' => e = .returned (.bool false) ∧ w = w' := by
  obtain ⟨sv, bm, hH, _⟩ := h.ex
  have hfv := hL.eq
  subst hfv
  have c0 := cell_of hH 0
  simp at c0
  have q := fun w => run_eql_func_nil (P := Try.prog) Try.underlying63 w (.func fl) #[] caps
  clear hL h hH
  go_enter Try.func63, Try.ntmps63
  go_wp2_with fail
  go_ret
  exact ⟨rfl, rfl⟩
theorem HeapIs.keepFr (h : HeapIs J FJ A fv G bh L next w) {w' : World} (hf : Fr (fun _ => False) w w') : HeapIs J FJ A fv G bh L next w' :=
  h.fr hf (hL.keep _ _ h.j (hf.mono (fun _ _ x => x.elim))) (fun _ _ x => x)
theorem len_ok (h : HeapIs J FJ A fv G bh L next w) : Calls Try.prog 54 #[.pointer (some ⟨bh, 0, none⟩)] w fun e w' => e = .returned (.int .i64 L.length) ∧ w = w' := by
  obtain ⟨sv, bm, hH, hR, _⟩ := h.ex
  have c1 := cell_of hH 1
  simp at c1
  obtain ⟨sa, sc, hsv⟩ : ∃ a c, sv = .slice a L.length c := by
    rcases hR.2 with ⟨rfl, h0⟩ | ⟨g, cap, cur, rfl, _⟩
    · exact ⟨none, 0, by rw [h0]⟩
    · exact ⟨_, _, rfl⟩
  subst hsv
  have HL := Lib.hid hL; have Hh := Lib.hid h
  clear hL h hH hR
  go_enter Try.func54, Try.ntmps54
  go_wp2_with fail
  refine (none_ok HL.out Hh.out).mono ?_
  rintro e w' ⟨rfl, rfl⟩
  go_wp2_with fail
  go_ret
  exact ⟨rfl, rfl⟩
theorem least_none (h : HeapIs J FJ A fv G bh [] next w) : Calls Try.prog 53 #[.pointer (some ⟨bh, 0, none⟩)] w fun e w' => e = .returned (.tuple #[.int .i64 0, .int .i64 0, .bool false]) ∧ w = w' := by
  obtain ⟨sv, bm, hH, hR, _⟩ := h.ex
  have c1 := cell_of hH 1
  simp at c1
  obtain ⟨sa, sc, hsv⟩ : ∃ a c, sv = .slice a 0 c := by
    rcases hR.2 with ⟨rfl, h0⟩ | ⟨g, cap, cur, rfl, _⟩
    · exact ⟨none, 0, rfl⟩
    · exact ⟨_, _, rfl⟩
  subst hsv
  have HL := Lib.hid hL; have Hh := Lib.hid h
  clear hL h hH hR
  go_enter Try.func53, Try.ntmps53
  go_wp2_with fail
  refine (none_ok HL.out Hh.out).mono ?_
  rintro e w' ⟨rfl, rfl⟩
  go_wp2_with fail
  go_ret3
  exact ⟨rfl, rfl⟩
omit hL in
theorem row_at {sv : Value} (h : Row w 127 2 sv L.length (flat L)) (h0 : L ≠ []) : ∃ bi cap arr, sv = .slice (some ⟨bi, 0, none⟩) L.length cap ∧ L.length ≤ cap ∧ cap ≤ maxLen ∧ w.heap[bi]? = some (.cells arr 127 (0, 0)) ∧ arr.size = cap * 2 ∧ Cells2 arr L := by
  rcases h.2 with ⟨_, h1⟩ | ⟨g, cap, cur, rfl, _, h1, h2, h3, h4, h5⟩
  · exact absurd (List.eq_nil_of_length_eq_zero h1) h0
  · exact ⟨g, cap, cur, rfl, h2, h3, h1, h4, cells2_of_take h5⟩
theorem least_some (h : HeapIs J FJ A fv G bh L next w) (h0 : L ≠ []) : Calls Try.prog 53 #[.pointer (some ⟨bh, 0, none⟩)] w fun e w' => e = .returned (.tuple #[.int .i64 (itAt L 0).1, .int .i64 (itAt L 0).2, .bool true]) ∧ Fr (fun _ => False) w w' := by
  obtain ⟨sv, bm, hH, hR, _⟩ := h.ex
  obtain ⟨bi, cap, arr, rfl, _, _, hI, hs, hc⟩ := row_at hR h0
  have c1 := cell_of hH 1
  simp at c1
  have hlen := h.len
  have hpos : 0 < L.length := List.length_pos_iff.2 h0
  have d0 := (cell_of hI (0 * 2)).trans (hc 0 hpos).1
  have d1 := (cell_of hI (0 * 2 + 1)).trans (hc 0 hpos).2
  simp only [Nat.zero_mul, Nat.zero_add] at d0 d1
  have hpos' : (0 : Int) < (L.length : Int) := by omega
  have hne : ((L.length : Int) == 0) = false := by simp; omega
  have HL := Lib.hid hL; have Hh := Lib.hid h
  clear hL h hH hR hs hc h0
  go_enter Try.func53, Try.ntmps53
  go_wp2_with fail
  refine (none_ok HL.out Hh.out).mono ?_
  rintro e w' ⟨rfl, rfl⟩
  go_wp2_with fail
  go_quiet (fail)
  go_wp2_with fail
  go_ret3
  exact ⟨rfl, (Fr.refl _ _).drewN _⟩
end
end Go.Proofs.Ytfgpmbahekcoeaa
