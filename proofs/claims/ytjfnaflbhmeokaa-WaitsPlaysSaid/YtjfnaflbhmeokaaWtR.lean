/- The contracts of none, Len, Least, Get of a heap of waiting parties. No condition. -/
import Derived.Test.YtjfnaflbhmeokaaWtH
import Derived.Test.YtjfnaflbhmeokaaMore
namespace Go.Proofs.Ytjfnaflbhmeokaa.Wt
open Go.RowKit
section
variable {J : World → Prop} {FJ : Nat → Prop} {A : Int → Prop} {fv : Value} {G : Nat → Prop} {bh : Nat} {L : List It} {next : Int} {w : World}
variable {lt : Int → Int → Bool} {fl : Nat} {caps : Array Value} (hL : LessOk Try.prog fv lt J FJ A fl caps)
include hL
theorem none_ok (h : HeapIs J FJ A fv G bh L next w) : Calls Try.prog 80 #[.pointer (some ⟨bh, 0, none⟩)] w fun e w' => e = .returned (.bool false) ∧ w = w' := by
  obtain ⟨sv, bm, hH, _⟩ := h.ex
  have hfv := hL.eq
  subst hfv
  have c0 := cell_of hH 0
  simp at c0
  have q := fun w => run_eql_func_nil (P := Try.prog) Try.underlying79 w (.func fl) #[] caps
  clear hL h hH
  go_enter Try.func80, Try.ntmps80
  go_wp2_with fail
  go_ret
  exact ⟨rfl, rfl⟩
theorem HeapIs.keepFr (h : HeapIs J FJ A fv G bh L next w) {w' : World} (hf : Fr (fun _ => False) w w') : HeapIs J FJ A fv G bh L next w' :=
  h.fr hf (hL.keep _ _ h.j (hf.mono (fun _ _ x => x.elim))) (fun _ _ x => x)
theorem len_ok (h : HeapIs J FJ A fv G bh L next w) : Calls Try.prog 45 #[.pointer (some ⟨bh, 0, none⟩)] w fun e w' => e = .returned (.int .i64 L.length) ∧ w = w' := by
  obtain ⟨sv, bm, hH, hR, _⟩ := h.ex
  have c1 := cell_of hH 1
  simp at c1
  obtain ⟨sa, sc, hsv⟩ : ∃ a c, sv = .slice a L.length c := by
    rcases hR.2 with ⟨rfl, h0⟩ | ⟨g, cap, cur, rfl, _⟩
    · exact ⟨none, 0, by rw [h0]⟩
    · exact ⟨_, _, rfl⟩
  subst hsv
  have HL := Lib.hid hL; have Hh := Lib.hid h
  clear hL h hH hR
  go_enter Try.func45, Try.ntmps45
  go_wp2_with fail
  refine (none_ok HL.out Hh.out).mono ?_
  rintro e w' ⟨rfl, rfl⟩
  go_wp2_with fail
  go_ret
  exact ⟨rfl, rfl⟩
omit hL in
theorem row_at {sv : Value} (h : Row w 179 5 sv L.length (flat L)) (h0 : L ≠ []) : ∃ bi cap arr, sv = .slice (some ⟨bi, 0, none⟩) L.length cap ∧ L.length ≤ cap ∧ cap ≤ maxLen ∧ w.heap[bi]? = some (.cells arr 179 (0, 0)) ∧ arr.size = cap * 5 ∧ Cells5 arr L := by
  rcases h.2 with ⟨_, h1⟩ | ⟨g, cap, cur, rfl, _, h1, h2, h3, h4, h5⟩
  · exact absurd (List.eq_nil_of_length_eq_zero h1) h0
  · exact ⟨g, cap, cur, rfl, h2, h3, h1, h4, cells5_of_take h5⟩
abbrev zeroW : Value := .agg #[.int .u32 0, .int .i64 0, .int .i64 0, .int .i64 0]
noncomputable abbrev wtT (x : Int) : Value := .agg #[.int .u32 (wW x), .int .i64 (wS x), .int .i64 (wT x), .int .i64 (wC x)]
theorem least_none (h : HeapIs J FJ A fv G bh [] next w) : Calls Try.prog 113 #[.pointer (some ⟨bh, 0, none⟩)] w fun e w' => e = .returned (.tuple #[zeroW, .int .i64 0, .bool false]) ∧ Fr (fun _ => False) w w' := by
  have f0 : Fr (fun _ => False) w (w.alloc (.cells #[.int .u32 0, .int .i64 0, .int .i64 0, .int .i64 0] 32)) := Fr.alloc (Fr.refl _ _) _
  have h' := HeapIs.keepFr hL h f0
  obtain ⟨sv, bm, hH, hR, _⟩ := h'.ex
  have c1 := cell_of hH 1
  simp at c1
  obtain ⟨sa, sc, hsv⟩ : ∃ a c, sv = .slice a 0 c := by
    rcases hR.2 with ⟨rfl, h0⟩ | ⟨g, cap, cur, rfl, _⟩
    · exact ⟨none, 0, rfl⟩
    · exact ⟨_, _, rfl⟩
  subst hsv
  have HL := Lib.hid hL; have Hh := Lib.hid h'
  clear hL h h' hH hR f0
  go_enter Try.func113, Try.ntmps113
  go_wp2_with fail
  refine (none_ok HL.out Hh.out).mono ?_
  rintro e w' ⟨rfl, rfl⟩
  go_wp2_with fail
  have g0 : ((w.alloc (.cells #[.int .u32 0, .int .i64 0, .int .i64 0, .int .i64 0] 32)).alloc (.cells #[.int .u32 0, .int .i64 0, .int .i64 0, .int .i64 0] 32)).heap[w.heap.size]? = some (.cells #[.int .u32 0, .int .i64 0, .int .i64 0, .int .i64 0] 32 (0, 0)) := by
    simp only [heap_alloc_get, World.size_alloc]; simp
  have g1 := cell_of g0 0
  have g2 := cell_of g0 1
  have g3 := cell_of g0 2
  have g4 := cell_of g0 3
  simp at g1 g2 g3 g4
  refine bodyPost_ret (v := .tuple #[zeroW, .int .i64 0, .bool false]) ?_ rfl ⟨rfl, Fr.alloc (Fr.alloc (Fr.refl _ _) _) _⟩
  simp [results, Try.results113, Try.f113, go_sem, g1, g2, g3, g4]
theorem least_some (h : HeapIs J FJ A fv G bh L next w) (h0 : L ≠ []) : Calls Try.prog 113 #[.pointer (some ⟨bh, 0, none⟩)] w fun e w' => e = .returned (.tuple #[wtT (itAt L 0).1, .int .i64 (itAt L 0).2, .bool true]) ∧ Fr (fun _ => False) w w' := by
  have f0 : Fr (fun _ => False) w (w.alloc (.cells #[.int .u32 0, .int .i64 0, .int .i64 0, .int .i64 0] 32)) := Fr.alloc (Fr.refl _ _) _
  have h' := HeapIs.keepFr hL h f0
  have gz : (w.alloc (.cells #[.int .u32 0, .int .i64 0, .int .i64 0, .int .i64 0] 32)).heap[w.heap.size]? = some (.cells #[.int .u32 0, .int .i64 0, .int .i64 0, .int .i64 0] 32 (0, 0)) := heap_alloc_at _ _
  obtain ⟨sv, bm, hH, hR, _⟩ := h'.ex
  obtain ⟨bi, cap, arr, rfl, _, _, hI, hs, hc⟩ := row_at hR h0
  have c1 := cell_of hH 1
  simp at c1
  have hlen := h.len
  have hpos : 0 < L.length := List.length_pos_iff.2 h0
  have d0 := (cell_of hI (0 * 5)).trans (hc 0 hpos).1
  have d1 := (cell_of hI (0 * 5 + 1)).trans (hc 0 hpos).2.1
  have d1b := (cell_of hI (0 * 5 + 2)).trans (hc 0 hpos).2.2.1
  have d1c := (cell_of hI (0 * 5 + 3)).trans (hc 0 hpos).2.2.2.1
  have d2 := (cell_of hI (0 * 5 + 4)).trans (hc 0 hpos).2.2.2.2
  simp only [Nat.zero_mul, Nat.zero_add] at d0 d1 d1b d1c d2
  have z0 : (w.alloc (.cells #[.int .u32 0, .int .i64 0, .int .i64 0, .int .i64 0] 32)).cell? ⟨w.heap.size, 0, none⟩ = some (.int .u32 0) := (cell_of gz 0).trans (by rfl)
  have z1 : (w.alloc (.cells #[.int .u32 0, .int .i64 0, .int .i64 0, .int .i64 0] 32)).cell? ⟨w.heap.size, 1, none⟩ = some (.int .i64 0) := (cell_of gz 1).trans (by rfl)
  have z2 : (w.alloc (.cells #[.int .u32 0, .int .i64 0, .int .i64 0, .int .i64 0] 32)).cell? ⟨w.heap.size, 2, none⟩ = some (.int .i64 0) := (cell_of gz 2).trans (by rfl)
  have z3 : (w.alloc (.cells #[.int .u32 0, .int .i64 0, .int .i64 0, .int .i64 0] 32)).cell? ⟨w.heap.size, 3, none⟩ = some (.int .i64 0) := (cell_of gz 3).trans (by rfl)
  have y0 := free_of gz 0
  have y1 := free_of gz 1
  have y2 := free_of gz 2
  have y3 := free_of gz 3
  have hpos' : (0 : Int) < (L.length : Int) := by omega
  have hne : ((L.length : Int) == 0) = false := by simp; omega
  obtain ⟨xv, hxv⟩ : ∃ x, x = (itAt L 0).1 := ⟨_, rfl⟩
  obtain ⟨xh, hxh⟩ : ∃ x, x = (itAt L 0).2 := ⟨_, rfl⟩
  rw [← hxv] at d0 d1 d1b d1c ⊢
  rw [← hxh] at d2 ⊢
  have n1 : ¬ bh = w.heap.size := fun e => by have := h.bd bh h.gh; omega
  have n2 : ¬ w.heap.size = bh := fun e => n1 e.symm
  have n3 : ¬ bi = w.heap.size := fun e => by rw [e, gz] at hI; simp at hI
  have n4 : ¬ w.heap.size = bi := fun e => n3 e.symm
  have HL := Lib.hid hL; have Hh := Lib.hid h'; have F0 := Lib.hid f0; have Gz := Lib.hid gz
  clear hL h h' hH hR hs hc h0 f0 gz hxv hxh hI
  go_enter Try.func113, Try.ntmps113
  go_upto_region 1 with fail
  generalize (w.alloc (.cells #[.int .u32 0, .int .i64 0, .int .i64 0, .int .i64 0] 32)) = W at *
  generalize hbz : w.heap.size = bz at *
  go_wp2_with fail
  refine (none_ok HL.out Hh.out).mono ?_
  rintro e w' ⟨rfl, rfl⟩
  go_wp2_with fail
  go_region
  go_wp2_with fail
  have hfin := setCell_blk (o := 3) (setCell_blk (o := 2) (setCell_blk (o := 1) (setCell_blk (o := 0) Gz.out (.int .u32 (wW xv))) (.int .i64 (wS xv))) (.int .i64 (wT xv))) (.int .i64 (wC xv))
  have g1 := cell_of hfin 0
  have g2 := cell_of hfin 1
  have g3 := cell_of hfin 2
  have g4 := cell_of hfin 3
  simp at g1 g2 g3 g4
  refine bodyPost_ret (v := .tuple #[wtT xv, .int .i64 xh, .bool true]) ?_ rfl ⟨rfl, ?_⟩
  · simp [results, Try.results113, Try.f113, go_sem, g1, g2, g3, g4]
  · refine Fr.toNew (Fr.drew (Fr.setCell (p := ⟨bz, 3, none⟩) (Fr.setCell (p := ⟨bz, 2, none⟩) (Fr.setCell (p := ⟨bz, 1, none⟩) (Fr.setCell (p := ⟨bz, 0, none⟩) (F0.out.mono (fun _ _ h => h.elim)) (fun _ => ?_) _) (fun _ => ?_) _) (fun _ => ?_) _) (fun _ => ?_) _))
    all_goals (rw [hbz]; exact Nat.le_refl _)
end
end Go.Proofs.Ytjfnaflbhmeokaa.Wt
