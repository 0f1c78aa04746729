/- Parties: the chapter's examples. Condition: the table of math/bits. -/
import Derived.Test.YthckfbfenfkdiaaDoorPyO
namespace Go.Proofs.YthckfbfenfkdiaaDoor.Py
open Go.RowKit St Bt
theorem lex_anti {x y : Sp} (h : lex x y = false) (k : lex y x = false) : x = y := by
  rw [lex_no] at h k
  obtain ⟨a, b⟩ := x
  obtain ⟨c, d⟩ := y
  simp only at h k
  have : a = c ∧ b = d := by omega
  rw [this.1, this.2]
/-- There is one order. -/
theorem srtS_uniq {S T : List Sp} (h : S.Perm T) (hS : SrtS S) (hT : SrtS T) : S = T :=
  List.Perm.eq_of_pairwise (fun _ _ _ _ h1 h2 => lex_anti h2 h1) hS hT h
theorem srtI_uniq {L M : List Int} (h : L.Perm M) (hM : M.Pairwise (· ≤ ·)) : srtI L = M :=
  List.Perm.eq_of_pairwise (fun _ _ _ _ h1 h2 => Int.le_antisymm h1 h2) (srtI_pair L) hM ((srtI_perm L).trans h)
theorem ex_runs : runs (freeF (setL 12 [1, 3, 9, 10, 11])) (beg 6 [3]) 12 = [(0, 1), (2, 1), (4, 2), (6, 3)] := by decide
theorem ex_cnt : 4 ≤ (setL 12 [1, 3, 9, 10, 11]).length - cnt (setL 12 [1, 3, 9, 10, 11]) := by decide
theorem ex_sort : SrtS [(0, 1), (2, 1), (4, 2), (6, 3)] := by unfold SrtS; decide
theorem ex_seat : seatF 4 [(0, 1), (2, 1), (4, 2), (6, 3)] 4 = [6, 7, 8, 0] := by decide
theorem ex_seats {S : List Sp} (h : S.Perm (runs (freeF (setL 12 [1, 3, 9, 10, 11])) (beg 6 [3]) 12)) (hS : SrtS S) : srtI ((seatF S.length S 4).map Int.ofNat) = [0, 6, 7, 8] := by
  rw [ex_runs] at h
  have := srtS_uniq h hS ex_sort
  subst this
  show srtI ((seatF 4 _ 4).map Int.ofNat) = _
  rw [ex_seat]
  refine srtI_uniq ?_ (by decide)
  decide
theorem sps_four {w : World} {b : Nat} (h : w.heap[b]? = some (.cells #[.int .i64 0, .int .i64 1, .int .i64 2, .int .i64 1, .int .i64 4, .int .i64 2, .int .i64 6, .int .i64 3] 45 (0, 0))) : Sps w (.slice (some ⟨b, 0, none⟩) 4 4) [(0, 1), (2, 1), (4, 2), (6, 3)] :=
  ⟨rfl, .inr ⟨b, 4, _, rfl, Nat.zero_le _, h, by decide, by decide, rfl, rfl⟩⟩
theorem ints_four {w : World} {b : Nat} (h : w.heap[b]? = some (.cells #[.int .i64 0, .int .i64 6, .int .i64 7, .int .i64 8] 3 (0, 0))) : Ints w (.slice (some ⟨b, 0, none⟩) 4 4) [0, 6, 7, 8] :=
  ⟨rfl, .inr ⟨b, 4, _, rfl, Nat.zero_le _, h, by decide, by decide, rfl, rfl⟩⟩
theorem ri_one {w : World} {b : Nat} (h : w.heap[b]? = some (.cells #[.int .i64 3] 3 (0, 0))) : RI w (.slice (some ⟨b, 0, none⟩) 1 1) [3] :=
  ⟨some ⟨b, 0, none⟩, 1, rfl, by decide, .inr ⟨b, 0, rfl, fun i hi => by
    obtain rfl : i = 0 := by simp at hi; omega
    rw [cell_of h]; rfl⟩⟩
theorem ri_five {w : World} {b : Nat} (h : w.heap[b]? = some (.cells #[.int .i64 1, .int .i64 3, .int .i64 9, .int .i64 10, .int .i64 11] 3 (0, 0))) : RI w (.slice (some ⟨b, 0, none⟩) 5 5) [1, 3, 9, 10, 11] :=
  ⟨some ⟨b, 0, none⟩, 5, rfl, by decide, .inr ⟨b, 0, rfl, fun i hi => by
    rw [Nat.zero_add, cell_of h]
    match i, hi with
    | 0, _ => rfl
    | 1, _ => rfl
    | 2, _ => rfl
    | 3, _ => rfl
    | 4, _ => rfl⟩⟩
set_option maxRecDepth 100000 in
set_option maxHeartbeats 1000000 in
theorem awake_ok {w : World} (hT : TabOk w) : Calls Tryd.prog 11 #[] w fun e w' => e = .returned (.bool true) ∧ Fr (fun _ => False) w w' := by
  have HT := Lib.hid hT
  clear hT
  go_enter Tryd.func11, Tryd.ntmps11
  go_wp2_with fail
  obtain ⟨W0, hW0⟩ : ∃ W0, W0 = ((w.alloc (.cells #[.int .i64 3] 3)).alloc (.cells #[.int .i64 2, .int .i64 6, .slice (some ⟨w.heap.size, 0, none⟩) 1 1] 24)).alloc (.cells #[.int .i64 1, .int .i64 3, .int .i64 9, .int .i64 10, .int .i64 11] 3) := ⟨_, rfl⟩
  have hf0 : Fr (fun _ => False) w W0 := by rw [hW0]; exact Fr.alloc (Fr.alloc (Fr.alloc (Fr.refl _ _) _) _) _
  have h0 : W0.heap[w.heap.size]? = some (.cells #[.int .i64 3] 3 (0, 0)) := by rw [hW0]; simp only [heap_alloc_get]; simp; omega
  have h1 : W0.heap[w.heap.size + 1]? = some (.cells #[.int .i64 2, .int .i64 6, .slice (some ⟨w.heap.size, 0, none⟩) 1 1] 24 (0, 0)) := by rw [hW0]; simp only [heap_alloc_get]; simp
  have h2 : W0.heap[w.heap.size + 1 + 1]? = some (.cells #[.int .i64 1, .int .i64 3, .int .i64 9, .int .i64 10, .int .i64 11] 3 (0, 0)) := by rw [hW0]; simp only [heap_alloc_get]; simp
  have HF0 := Lib.hid hf0; have H0 := Lib.hid h0; have H1 := Lib.hid h1
  have HSet : Hid (Calls Tryd.prog 12 #[.agg #[.int .i64 2, .int .i64 6, .slice (some ⟨w.heap.size, 0, none⟩) 1 1, .slice (some ⟨w.heap.size + 1 + 1, 0, none⟩) 5 5, .int .i64 0]] W0 fun e w' => ∃ bh bv, e = .returned (.tuple #[.pointer (some ⟨bh, 0, none⟩), .int .i64 12, .bool true]) ∧ NewSet W0 w' bh bv (setL 12 [1, 3, 9, 10, 11])) :=
    Lib.hid (set_ok (ri_one h0) (ri_five h2) 2 6 0 (z := 12) (by decide) (N := 12) (by decide))
  rw [← hW0]
  clear hW0 hf0 h0 h1 h2
  refine HSet.out.mono ?_
  rintro e w1 ⟨bh, bv, rfl, hN⟩
  have hb1 := hN.fr.get H1.out id
  have c0 := (cell_of hb1 0).trans (show _ = some (Value.int .i64 2) from rfl)
  have c1 := (cell_of hb1 1).trans (show _ = some (Value.int .i64 6) from rfl)
  have c2 := (cell_of hb1 2).trans (show _ = some (Value.slice (some ⟨w.heap.size, 0, none⟩) 1 1) from rfl)
  have HF1 := Lib.hid (HF0.out.trans hN.fr (fun _ _ h => h))
  have HAsk : Hid (Ask w1 (.slice (some ⟨w.heap.size, 0, none⟩) 1 1) [3] 2 6 bh bv (setL 12 [1, 3, 9, 10, 11])) := Lib.hid ⟨HT.out.fr HF1.out id, ri_one (hN.fr.get H0.out id), by decide, hN.at_, setL_len _ _⟩
  have HB1 := Lib.hid hb1
  have HRuns : Hid (Calls Tryd.prog 8 #[.agg #[.int .i64 2, .int .i64 6, .slice (some ⟨w.heap.size, 0, none⟩) 1 1], .pointer (some ⟨bh, 0, none⟩)] w1 fun e w' => (∃ ov, e = .returned (.tuple #[ov, .int .i64 0]) ∧ Sps w' ov (runs (freeF (setL 12 [1, 3, 9, 10, 11])) (beg 6 [3]) 12) ∧ (∀ b, ov.ownBlock = some b → w1.heap.size ≤ b)) ∧ Fr (fun _ => False) w1 w') := Lib.hid HAsk.out.runs
  clear hN hb1 HSet H0 H1 HF0
  go_wp2_with fail
  refine HRuns.out.mono ?_
  rintro e w2 ⟨⟨lv, rfl, hS, _⟩, hf2⟩
  rw [ex_runs] at hS
  have hb2 := hf2.get HB1.out id
  have c0 := (cell_of hb2 0).trans (show _ = some (Value.int .i64 2) from rfl)
  have c1 := (cell_of hb2 1).trans (show _ = some (Value.int .i64 6) from rfl)
  have c2 := (cell_of hb2 2).trans (show _ = some (Value.slice (some ⟨w.heap.size, 0, none⟩) 1 1) from rfl)
  have HF2 := Lib.hid (HF1.out.trans hf2 (fun _ _ h => h))
  have HAsk2 := Lib.hid (HAsk.out.keep hf2)
  have HS := Lib.hid hS
  have HSeat : Hid (Calls Tryd.prog 10 #[.agg #[.int .i64 2, .int .i64 6, .slice (some ⟨w.heap.size, 0, none⟩) 1 1], .pointer (some ⟨bh, 0, none⟩), .int .i64 4] w2 fun e w' => (∃ ov S, e = .returned (.tuple #[ov, .int .i64 0]) ∧ S.Perm (runs (freeF (setL 12 [1, 3, 9, 10, 11])) (beg 6 [3]) 12) ∧ SrtS S ∧ Ints w' ov (srtI ((seatF S.length S 4).map Int.ofNat)) ∧ (∀ b, ov.ownBlock = some b → w2.heap.size ≤ b)) ∧ Fr (fun _ => False) w2 w') := Lib.hid (seat_ok HAsk2.out ⟨by decide, by decide⟩ ex_cnt)
  clear hf2 hS hb2 HRuns HAsk HF1
  go_wp2_with fail
  refine HSeat.out.mono ?_
  rintro e w3 ⟨⟨mv, S, rfl, hP, hSr, hI, _⟩, hf3⟩
  rw [ex_seats hP hSr] at hI
  have HI := Lib.hid hI
  have HF3 := Lib.hid (HF2.out.trans hf3 (fun _ _ h => h))
  have HS3 := Lib.hid (Row.fr HS.out hf3 (fun _ _ h => h))
  clear hP hSr hI hf3 HSeat HS HF2 HAsk2 c0 c1 c2
  have ha : Fr (fun _ => False) w3 (w3.alloc (.cells #[.int .i64 0, .int .i64 1, .int .i64 2, .int .i64 1, .int .i64 4, .int .i64 2, .int .i64 6, .int .i64 3] 45)) := Fr.alloc (Fr.refl _ _) _
  have HSame := Lib.hid (sameSpans_ok (q := true) (Row.fr HS3.out ha (fun _ _ h => h)) (sps_four (heap_alloc_at w3 _)) (by decide) (by decide) (by decide))
  go_wp2_with fail
  refine HSame.out.mono ?_
  rintro e w4 ⟨rfl, hf4⟩
  have HF4 := Lib.hid ((HF3.out.trans ha (fun _ _ h => h)).trans hf4 (fun _ _ h => h))
  have HI4 := Lib.hid (Row.fr HI.out (ha.trans hf4 (fun _ _ h => h)) (fun _ _ h => h))
  clear hf4 ha HSame HS3 HF3 HI
  have ha : Fr (fun _ => False) w4 (w4.alloc (.cells #[.int .i64 0, .int .i64 6, .int .i64 7, .int .i64 8] 3)) := Fr.alloc (Fr.refl _ _) _
  have HSame := Lib.hid (sameInts_ok (La := [0, 6, 7, 8]) (Lb := [0, 6, 7, 8]) (Row.fr HI4.out ha (fun _ _ h => h)) (ints_four (heap_alloc_at w4 _)) (by decide) (by decide))
  go_wp2_with fail
  refine HSame.out.mono ?_
  rintro e w5 ⟨rfl, hf5⟩
  rw [show decide True = true from rfl]
  have HF5 := Lib.hid ((HF4.out.trans ha (fun _ _ h => h)).trans hf5 (fun _ _ h => h))
  clear ha hf5 HF4 HSame HI4
  go_wp2_with fail
  go_ret
  exact ⟨rfl, HF5.out⟩
end Go.Proofs.YthckfbfenfkdiaaDoor.Py
