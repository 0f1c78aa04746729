/- Parties: PartyNil's walk. Condition: the table of math/bits. -/
import Derived.Test.YthckfbfenfkdiaaDoorPyP
namespace Go.Proofs.YthckfbfenfkdiaaDoor.Py
open Go.RowKit St Bt
theorem noSet_keep {w w' : World} {p : Option Addr} (h : NoSet w p) (f : Fr (fun _ => False) w w') : NoSet w' p := by
  rcases h with h | ⟨b, v1, v2, e, h⟩
  · exact .inl h
  · exact .inr ⟨b, v1, v2, e, f.get h id⟩
/-- What is told of a cabin, and no set. -/
theorem checked_no {w : World} {sv : Value} {L : List Int} (h : RI w sv L) (r v : Int) {p : Option Addr} (hp : NoSet w p) {e : Int} (he : e = if rightB r v L then 1 else 2) :
    ∀ w1, Fr (fun _ => False) w w1 → Calls Tryd.prog 19 #[.agg #[.int .i64 r, .int .i64 v, sv], .pointer p] w1 fun r w' => r = .returned (.int .i64 e) ∧ Fr (fun _ => False) w1 w' := by
  intro w1 hf
  cases hq : rightB r v L with
  | true =>
    rw [hq] at he; subst he
    exact checked_nil (h.keep hf) hq (noSet_keep hp hf)
  | false =>
    rw [hq] at he; subst he
    exact checked_arg (h.keep hf) hq p
set_option maxRecDepth 100000 in
set_option maxHeartbeats 1000000 in
theorem nil_walk {w : World} (hT : TabOk w) {sv : Value} {L : List Int} (h : RI w sv L) (hb : L.length * 8 ≤ 140737488355328) (r v n : Int) :
    Calls Tryd.prog 3 #[.agg #[.int .i64 r, .int .i64 v, sv], .int .i64 n] w fun e w' => e = .returned (.bool true) ∧ Fr (fun _ => False) w w' := by
  have HT := Lib.hid hT
  have H := Lib.hid h
  have HB := Lib.hid hb
  obtain ⟨q, hq⟩ : ∃ q, rightB r v L = q := ⟨_, rfl⟩
  have HQ := Lib.hid hq
  obtain ⟨e0, he0⟩ : ∃ e0 : Int, e0 = if q then 1 else 2 := ⟨_, rfl⟩
  have HE := Lib.hid (show e0 = if rightB r v L then 1 else 2 by rw [HQ.out]; exact he0)
  have HE1 := Lib.hid he0
  have hf0 : Fr (fun _ => False) w (w.alloc (.cells #[.int .i64 r, .int .i64 v, sv] 24)) := Fr.alloc (Fr.refl _ _) _
  have HF0 := Lib.hid hf0
  have HC := Lib.hid (right_any (H.out.keep hf0) r v hq)
  clear hT h hb hq hf0 he0
  go_enter Tryd.func3, Tryd.ntmps3
  go_wp2_with fail
  refine HC.out.mono ?_
  rintro e w1 ⟨rfl, hf⟩
  have hb1 := hf.get (heap_alloc_at w (.cells #[.int .i64 r, .int .i64 v, sv] 24)) id
  have HB1 := Lib.hid hb1
  have HF1 := Lib.hid (HF0.out.trans hf (fun _ _ h => h))
  clear hf hb1 HC HF0
  go_upto_if 15 with fail
  go_cut [5] (fun s5 wx => s5 = .int .i64 e0 ∧ w1 = wx)
  case first =>
    cases q with
    | true =>
      obtain rfl : e0 = 1 := by rw [HE1.out]; rfl
      go_wp2_with fail
      go_meet
      exact ⟨rfl, rfl⟩
    | false =>
      obtain rfl : e0 = 2 := by rw [HE1.out]; rfl
      go_wp2_with fail
      go_meet
      exact ⟨rfl, rfl⟩
  case rest =>
  obtain ⟨rfl, rfl⟩ := hcut
  go_upto_block 0 with fail
  obtain ⟨W2, hW2⟩ : ∃ W2, W2 = (w1.alloc (.cells #[.bool false, .int .i64 0, .slice none 0 0] 30)).alloc (.cells #[.pointer none, .pointer (some ⟨w1.heap.size, 0, none⟩)] 27) := ⟨_, rfl⟩
  have hfa : Fr (fun _ => False) w1 W2 := by rw [hW2]; exact Fr.alloc (Fr.alloc (Fr.refl _ _) _) _
  have hs : W2.heap[w1.heap.size]? = some (.cells #[.bool false, .int .i64 0, .slice none 0 0] 30 (0, 0)) := by rw [hW2]; simp only [heap_alloc_get]; simp
  have hp : W2.heap[w1.heap.size + 1]? = some (.cells #[.pointer none, .pointer (some ⟨w1.heap.size, 0, none⟩)] 27 (0, 0)) := by rw [hW2]; simp only [heap_alloc_get]; simp
  rw [← hW2]
  have HS := Lib.hid hs; have HP := Lib.hid hp
  have HF2 := Lib.hid (HF1.out.trans hfa (fun _ _ h => h))
  have HB2 := Lib.hid (hfa.get HB1.out id)
  clear hW2 hfa hs hp HF1 HB1
  obtain ⟨b1, hb1⟩ : ∃ b1, b1 = w.heap.size := ⟨_, rfl⟩
  obtain ⟨g, hg⟩ : ∃ g, g = w1.heap.size := ⟨_, rfl⟩
  rw [← hb1] at HB2 ⊢
  rw [← hg] at HS HP ⊢
  clear hb1 hg
  go_wp2_with fail
  go_loopw [8, 9, 10, 11, 12, 21] (fun s8 s9 s10 s11 s12 s21 wr => ∃ k : Nat, s21 = .int .i64 k ∧ k ≤ 2 ∧ Hid (Fr (fun _ => False) w wr ∧ wr.heap[b1]? = some (.cells #[.int .i64 r, .int .i64 v, sv] 24 (0, 0)) ∧ wr.heap[g]? = some (.cells #[.bool false, .int .i64 0, .slice none 0 0] 30 (0, 0)) ∧ wr.heap[g + 1]? = some (.cells #[.pointer none, .pointer (some ⟨g, 0, none⟩)] 27 (0, 0)))) (fun _ _ _ _ _ s21 _ => 2 - (intOf s21).toNat)
  case atStart => exact ⟨0, rfl, by omega, Lib.hid ⟨HF2.out, HB2.out, HS.out, HP.out⟩⟩
  case round =>
    clear HF2 HB2 HS HP
    obtain ⟨k, rfl, hk, HW⟩ := hrel
    by_cases hlt : k < 2
    · have hlt' : (k : Int) < 2 := by omega
      obtain ⟨p, hpp⟩ : ∃ p : Option Addr, wr.cell? ⟨g + 1, k, none⟩ = some (.pointer p) ∧ NoSet wr p := by
        rcases (by omega : k = 0 ∨ k = 1) with e | e
        · rw [e]; exact ⟨none, cell_of HW.out.2.2.2 0, .inl rfl⟩
        · rw [e]; exact ⟨some ⟨g, 0, none⟩, cell_of HW.out.2.2.2 1, .inr ⟨g, _, _, rfl, HW.out.2.2.1⟩⟩
      obtain ⟨hpc, hno⟩ := hpp
      have HNo := Lib.hid hno
      have c0 := (cell_of HW.out.2.1 0).trans (show _ = some (Value.int .i64 r) from rfl)
      have c1 := (cell_of HW.out.2.1 1).trans (show _ = some (Value.int .i64 v) from rfl)
      have c2 := (cell_of HW.out.2.1 2).trans (show _ = some sv from rfl)
      have HCp := Lib.hid (copyCabin_ok (H.out.keep HW.out.1) HB.out r v)
      clear hno
      go_wp2_with fail
      refine HCp.out.mono ?_
      rintro e w2 ⟨⟨ov, rfl, hI, _⟩, hf2⟩
      have HNo2 := Lib.hid (noSet_keep HNo.out hf2)
      have HRI2 := Lib.hid (Ints.ri hI (by have := HB.out; omega))
      have HF2 := Lib.hid hf2
      have HRn := Lib.hid (runs_err (checked_no HRI2.out r v HNo2.out HE.out) (by rw [HE1.out]; cases q <;> rfl) rfl)
      clear hI hf2 c0 c1 c2 HCp
      go_wp2_with fail
      refine HRn.out.mono ?_
      rintro e w3 ⟨rfl, hf3⟩
      have HF3 := Lib.hid (HF2.out.trans hf3 (fun _ _ h => h))
      have hb3 := HF3.out.get HW.out.2.1 id
      have c0 := (cell_of hb3 0).trans (show _ = some (Value.int .i64 r) from rfl)
      have c1 := (cell_of hb3 1).trans (show _ = some (Value.int .i64 v) from rfl)
      have c2 := (cell_of hb3 2).trans (show _ = some sv from rfl)
      have HNo3 := Lib.hid (noSet_keep HNo2.out hf3)
      have HCp := Lib.hid (copyCabin_ok ((H.out.keep HW.out.1).keep HF3.out) HB.out r v)
      clear hf3 hb3 HRn HF2
      go_wp2_with fail
      refine HCp.out.mono ?_
      rintro e w4 ⟨⟨ov4, rfl, hI, _⟩, hf4⟩
      have HNo4 := Lib.hid (noSet_keep HNo3.out hf4)
      have HRI4 := Lib.hid (Ints.ri hI (by have := HB.out; omega))
      have HF4 := Lib.hid (HF3.out.trans hf4 (fun _ _ h => h))
      have HSt := Lib.hid (seat_err (checked_no HRI4.out r v HNo4.out HE.out) (by rw [HE1.out]; cases q <;> rfl) rfl n)
      clear hI hf4 c0 c1 c2 HCp HF3
      go_wp2_with fail
      refine HSt.out.mono ?_
      rintro e w5 ⟨rfl, hf5⟩
      have HF5 := Lib.hid (HF4.out.trans hf5 (fun _ _ h => h))
      have HW5 := Lib.hid (show Fr (fun _ => False) w w5 ∧ w5.heap[b1]? = some (.cells #[.int .i64 r, .int .i64 v, sv] 24 (0, 0)) ∧ w5.heap[g]? = some (.cells #[.bool false, .int .i64 0, .slice none 0 0] 30 (0, 0)) ∧ w5.heap[g + 1]? = some (.cells #[.pointer none, .pointer (some ⟨g, 0, none⟩)] 27 (0, 0)) from
        ⟨HW.out.1.trans HF5.out (fun _ _ h => h), HF5.out.get HW.out.2.1 id, HF5.out.get HW.out.2.2.1 id, HF5.out.get HW.out.2.2.2 id⟩)
      have he : (e0 != e0) = false := by simp
      clear hf5 HSt HF4 HF5 hpc
      go_wp2_with fail
      go_roundw
      case rel => exact ⟨k + 1, by go_num, by omega, HW5⟩
      case measure => simp [intOf]; omega
    · have hlt' : ¬ (k : Int) < 2 := by omega
      obtain rfl : k = 2 := by omega
      have HAw := Lib.hid (awake_ok (HT.out.fr HW.out.1 id))
      go_wp2_with fail
      refine HAw.out.mono ?_
      rintro e w6 ⟨rfl, hf6⟩
      have HF6 := Lib.hid (HW.out.1.trans hf6 (fun _ _ h => h))
      clear hf6
      go_wp2_with fail
      go_ret
      exact ⟨rfl, HF6.out⟩
end Go.Proofs.YthckfbfenfkdiaaDoor.Py
