/- Parties: the seats of a party, all but the loop. Condition: the table of math/bits. -/
import Derived.Test.YthckfbfenfkdiaaDoorPyI
import Derived.Test.YthckfbfenfkdiaaDoorPyF
import Derived.Test.YthckfbfenfkdiaaDoorPyLay
namespace Go.Proofs.YthckfbfenfkdiaaDoor.Py
open Go.RowKit Go.Sort St Bt
/-- The row's two readings. -/
theorem Sps.ra {w : World} {b cap : Nat} {S : List Sp} (h : Sps w (.slice (some ⟨b, 0, none⟩) S.length cap) S) : RA w b cap S.toArray := by
  rcases h.2 with ⟨e0, h0⟩ | ⟨g1, cap1, cur, e0, _, hb, hc1, hc2, hcs, htk⟩
  · simp at e0
  simp only [Value.slice.injEq, Option.some.injEq, Addr.mk.injEq, and_true, true_and] at e0
  obtain ⟨rfl, rfl⟩ := e0
  refine ⟨by simpa using hc1, hc2, cur, hb, hcs, fun i hi => ?_⟩
  have hi' : i < S.length := by simpa using hi
  have hg : ∀ j, j < S.length * 2 → cur[j]? = (S.flatMap enc)[j]? := by
    intro j hj
    rw [← htk, List.getElem?_take, if_pos hj, Array.getElem?_toList]
  have e : S.toArray[i]! = S[i] := by simp [hi']
  rw [e]
  have g0 := flatK_get enc_len S i hi' 0 (by omega)
  have g1 := flatK_get enc_len S i hi' 1 (by omega)
  exact ⟨(hg _ (by omega)).trans g0, (hg _ (by omega)).trans g1⟩
theorem RA.sps {w : World} {b cap : Nat} {d : Array Sp} (h : RA w b cap d) : Sps w (.slice (some ⟨b, 0, none⟩) d.toList.length cap) d.toList := by
  obtain ⟨h1, h2, cur, hb, hcs, hc⟩ := h
  have hl : d.toList.length = d.size := by simp
  refine ⟨by rw [flatK_length enc_len], .inr ⟨b, cap, cur, rfl, Nat.zero_le _, hb, by rw [hl]; exact h1, h2, hcs, ?_⟩⟩
  apply List.ext_getElem?
  intro j
  rw [List.getElem?_take]
  split
  · rename_i hj
    rw [hl] at hj
    have hi : j / 2 < d.size := by omega
    obtain ⟨k1, k2⟩ := hc (j / 2) hi
    have e : d[j / 2]! = d.toList[j / 2]'(by rw [hl]; exact hi) := by simp [hi]
    rw [e] at k1 k2
    have g0 := flatK_get enc_len d.toList (j / 2) (by rw [hl]; exact hi) 0 (by omega)
    have g1 := flatK_get enc_len d.toList (j / 2) (by rw [hl]; exact hi) 1 (by omega)
    rw [Array.getElem?_toList]
    by_cases e2 : j % 2 = 0
    · have e3 : j = j / 2 * 2 + 0 := by omega
      conv => lhs; rw [e3]
      conv => rhs; rw [e3]
      rw [g0]; exact k1
    · have e3 : j = j / 2 * 2 + 1 := by omega
      conv => lhs; rw [e3]
      conv => rhs; rw [e3]
      rw [g1]; exact k2
  · rename_i hj
    rw [List.getElem?_eq_none (by rw [flatK_length enc_len]; omega)]
/-- What Runs needs. -/
structure Ask (w : World) (sv : Value) (L : List Int) (R W bh : Nat) (bv : Value) (B : List Bool) : Prop where
  tab : TabOk w
  ri : RI w sv L
  right : rightB R W L = true
  set : SetAt w bh bv B
  len : B.length = R * W
theorem Ask.keep {w w' : World} {sv : Value} {L : List Int} {R W bh : Nat} {bv : Value} {B : List Bool} (h : Ask w sv L R W bh bv B) (f : Fr (fun _ => False) w w') : Ask w' sv L R W bh bv B :=
  ⟨h.tab.fr f id, h.ri.keep f, h.right, h.set.fr f id (fun _ _ h => h), h.len⟩
theorem Ask.runs {w : World} {sv : Value} {L : List Int} {R W bh : Nat} {bv : Value} {B : List Bool} (h : Ask w sv L R W bh bv B) :
    Calls Tryd.prog 8 #[.agg #[.int .i64 R, .int .i64 W, sv], .pointer (some ⟨bh, 0, none⟩)] w fun e w' => (∃ ov, e = .returned (.tuple #[ov, .int .i64 0]) ∧ Sps w' ov (runs (freeF B) (beg W L) (R * W)) ∧ (∀ b, ov.ownBlock = some b → w.heap.size ≤ b)) ∧ Fr (fun _ => False) w w' := runs_ok h.tab h.ri h.right h.set h.len
set_option maxRecDepth 100000 in
set_option maxHeartbeats 1000000 in
theorem seat_err {w : World} {cv : Array Value} {p : Option Addr} {e : Int} (hc : ∀ w1, Fr (fun _ => False) w w1 → Calls Tryd.prog 19 #[.agg cv, .pointer p] w1 fun r w' => r = .returned (.int .i64 e) ∧ Fr (fun _ => False) w1 w') (he : (e != 0) = true) {r v : Int} {sv : Value} (hcv : cv = #[.int .i64 r, .int .i64 v, sv]) (n : Int) :
    Calls Tryd.prog 10 #[.agg cv, .pointer p, .int .i64 n] w fun r w' => r = .returned (.tuple #[.slice none 0 0, .int .i64 e]) ∧ Fr (fun _ => False) w w' := by
  subst hcv
  have HC := Lib.hid hc
  clear hc
  go_enter Tryd.func10, Tryd.ntmps10
  go_wp2_with fail
  have f0 : Fr (fun _ => False) w ((w.alloc (.cells #[.int .i64 r, .int .i64 v, sv] 24)).alloc (.cells #[.int .i64 n] 3)) := Fr.alloc (Fr.alloc (Fr.refl _ _) _) _
  have HF0 := Lib.hid f0
  clear f0
  refine (runs_err (fun w1 hf => HC.out w1 (HF0.out.trans hf (fun _ _ h => h))) he rfl).mono ?_
  rintro r0 w1 ⟨rfl, hf⟩
  have HF := Lib.hid (HF0.out.trans hf (fun _ _ h => h))
  clear hf
  go_wp2_with fail
  go_ret2
  exact ⟨rfl, HF.out⟩
set_option maxRecDepth 100000 in
set_option maxHeartbeats 1000000 in
theorem seat_party {w : World} {sv : Value} {L : List Int} {R W bh : Nat} {bv : Value} {B : List Bool} (h : Ask w sv L R W bh bv B) {n : Int} (hn : n < 1 ∨ 16 < n) :
    Calls Tryd.prog 10 #[.agg #[.int .i64 R, .int .i64 W, sv], .pointer (some ⟨bh, 0, none⟩), .int .i64 n] w fun e w' => e = .returned (.tuple #[.slice none 0 0, .int .i64 270]) ∧ Fr (fun _ => False) w w' := by
  have H := Lib.hid h
  clear h
  have f0 : Fr (fun _ => False) w ((w.alloc (.cells #[.int .i64 R, .int .i64 W, sv] 24)).alloc (.cells #[.int .i64 n] 3)) := Fr.alloc (Fr.alloc (Fr.refl _ _) _) _
  have hb0 : ((w.alloc (.cells #[.int .i64 R, .int .i64 W, sv] 24)).alloc (.cells #[.int .i64 n] 3)).heap[w.heap.size + 1]? = some (.cells #[.int .i64 n] 3 (0, 0)) := by simp only [heap_alloc_get]; simp
  have HF0 := Lib.hid f0
  have HB0 := Lib.hid hb0
  have HC := Lib.hid (H.out.keep f0).runs
  clear f0 hb0
  by_cases h1 : n < 1
  · have d1 : decide (n < 1) = true := by simpa using h1
    clear hn h1
    go_enter Tryd.func10, Tryd.ntmps10
    go_wp2_with fail
    refine HC.out.mono ?_
    rintro r0 w1 ⟨⟨ov, rfl, _, _⟩, hf⟩
    have c0 := (cell_of (hf.get HB0.out id) 0).trans (show _ = some (Value.int .i64 n) from rfl)
    have HF := Lib.hid (HF0.out.trans hf (fun _ _ h => h))
    clear hf
    go_wp2_with fail
    go_ret2
    exact ⟨rfl, HF.out⟩
  · have d1 : decide (n < 1) = false := by simpa using h1
    have d2 : decide (16 < n) = true := by simp; omega
    clear hn h1
    go_enter Tryd.func10, Tryd.ntmps10
    go_wp2_with fail
    refine HC.out.mono ?_
    rintro r0 w1 ⟨⟨ov, rfl, _, _⟩, hf⟩
    have c0 := (cell_of (hf.get HB0.out id) 0).trans (show _ = some (Value.int .i64 n) from rfl)
    have HF := Lib.hid (HF0.out.trans hf (fun _ _ h => h))
    clear hf
    go_wp2_with fail
    go_ret2
    exact ⟨rfl, HF.out⟩
theorem cnt_le (B : List Bool) : cnt B ≤ B.length := by
  unfold cnt
  exact List.length_filter_le _ _
set_option maxRecDepth 100000 in
set_option maxHeartbeats 1000000 in
theorem seat_full {w : World} {sv : Value} {L : List Int} {R W bh : Nat} {bv : Value} {B : List Bool} (h : Ask w sv L R W bh bv B) {n : Nat} (hn : 1 ≤ n ∧ n ≤ 16) (hf : B.length - cnt B < n) :
    Calls Tryd.prog 10 #[.agg #[.int .i64 R, .int .i64 W, sv], .pointer (some ⟨bh, 0, none⟩), .int .i64 n] w fun e w' => e = .returned (.tuple #[.slice none 0 0, .int .i64 6]) ∧ Fr (fun _ => False) w w' := by
  have H := Lib.hid h
  have hcl := cnt_le B
  have hsm := h.set.small
  obtain ⟨Q, hQ⟩ : ∃ Q, Q = B.length - cnt B := ⟨_, rfl⟩
  have hQ' : (B.length : Int) - (cnt B : Int) = (Q : Int) := by omega
  have hQw : IntKind.i64.wrap (Q : Int) = (Q : Int) := by rw [IntKind.wrap_i64]; omega
  have dQ : decide ((Q : Int) < (n : Int)) = true := by simp; omega
  have dQ' : decide (Q < n) = true := by simp; omega
  have d1 : decide ((n : Int) < 1) = false := by simp; omega
  have d2 : decide ((16 : Int) < (n : Int)) = false := by simp; omega
  clear h
  have f0 : Fr (fun _ => False) w ((w.alloc (.cells #[.int .i64 R, .int .i64 W, sv] 24)).alloc (.cells #[.int .i64 n] 3)) := Fr.alloc (Fr.alloc (Fr.refl _ _) _) _
  have hb0 : ((w.alloc (.cells #[.int .i64 R, .int .i64 W, sv] 24)).alloc (.cells #[.int .i64 n] 3)).heap[w.heap.size + 1]? = some (.cells #[.int .i64 n] 3 (0, 0)) := by simp only [heap_alloc_get]; simp
  have HF0 := Lib.hid f0
  have HB0 := Lib.hid hb0
  have HC := Lib.hid (H.out.keep f0).runs
  clear f0 hb0 hn hf hcl hsm hQ
  go_enter Tryd.func10, Tryd.ntmps10
  go_wp2_with fail
  refine HC.out.mono ?_
  rintro r0 w1 ⟨⟨ov, rfl, _, _⟩, hf⟩
  have c0 := (cell_of (hf.get HB0.out id) 0).trans (show _ = some (Value.int .i64 n) from rfl)
  have HF := Lib.hid (HF0.out.trans hf (fun _ _ h => h))
  have HS := Lib.hid ((H.out.set.fr HF.out id (fun _ _ h => h)).fr (Fr.drew (Fr.refl (fun _ => False) w1)) id (fun _ _ h => h))
  clear hf
  go_wp2_with fail
  go_cut [35] (fun s35 wx => s35 = .bool true ∧ Hid (Fr (fun _ => False) w wx))
  case first =>
    go_region_held3 (fun w' => w'.cell? ⟨w.heap.size + 1, 0, none⟩ = some (.int .i64 n)) (go_keep) (first | (go_at_call 24; refine (bound_ok HS.out).mono ?_; rintro r w2 ⟨rfl, rfl⟩) | (go_at_call 15; refine (count_ok HS.out).mono ?_; rintro r w2 ⟨rfl, rfl⟩))
    go_wp2_with fail
    go_meet
    exact ⟨rfl, Lib.hid HF.out.drew⟩
  case rest =>
  obtain ⟨rfl, HF1⟩ := hcut
  go_wp2_with fail
  go_ret2
  exact ⟨rfl, HF1.out⟩
end Go.Proofs.YthckfbfenfkdiaaDoor.Py
