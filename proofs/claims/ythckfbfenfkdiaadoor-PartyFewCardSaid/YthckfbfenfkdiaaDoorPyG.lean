/- Parties: one run struck out of a list, and which one a test finds. No condition. -/
import Derived.Test.YthckfbfenfkdiaaDoorPyD
import Derived.StillTailTactics
import Derived.Laws.IdiomCopy
namespace Go.Proofs.YthckfbfenfkdiaaDoor.Py
open Go.RowKit St
/-- clear of one run. -/
theorem run_clear1 (w : World) (ty : TypeId) (b o c : Nat) {v0 v1 : Value} (h0 : w.cell? ⟨b, o, none⟩ = some v0) (h1 : w.cell? ⟨b, o + 1, none⟩ = some v1) (z0 : w.frozen? ⟨b, o, none⟩ = false) (z1 : w.frozen? ⟨b, o + 1, none⟩ = false) :
    (Builtin.clear_ #[32] ty #[.slice (some ⟨b, o, none⟩) 1 c]).run Tryd.prog w = .ok (.tuple #[]) ((w.setCell ⟨b, o, none⟩ (.int .i64 0)).setCell ⟨b, o + 1, none⟩ (.int .i64 0)) := by
  have hz : (Builtin.zeroCells (Value.cells (.agg #[.int .i64 0, .int .i64 0])) 1).toList = [.int .i64 0, .int .i64 0] := by kernel_rfl
  have hst := run_storeCells_cells (P := Tryd.prog) b o [.int .i64 0, .int .i64 0] 0 w (by
    intro j hj
    simp only [List.length_cons, List.length_nil] at hj
    rcases (by omega : j = 0 ∨ j = 1) with rfl | rfl
    · simpa using congrArg Option.isSome h0
    · simpa using congrArg Option.isSome h1) (by
    intro j hj
    simp only [List.length_cons, List.length_nil] at hj
    rcases (by omega : j = 0 ∨ j = 1) with rfl | rfl
    · simpa using z0
    · simpa using z1) (by
    intro v hv
    simp only [List.mem_cons, List.not_mem_nil, or_false] at hv
    rcases hv with rfl | rfl <;> rfl)
  simp only [Nat.add_zero] at hst
  have hv := fun w => Tryd.zeroValue45 (w := w)
  simp [Builtin.clear_, run_underlying Tryd.underlying32, hv, hz, hst]
  rfl
theorem erase_len {S : List Sp} {k : Nat} (h : k < S.length) : (S.eraseIdx k).length = S.length - 1 := by rw [List.length_eraseIdx_of_lt h]
/-- The tail moved down onto one run: what append does within the row. -/
theorem del_run {w : World} {b cap : Nat} {S : List Sp} (h : Sps w (.slice (some ⟨b, 0, none⟩) S.length cap) S) {k : Nat} (hk : k < S.length) {a : Addr} (ha : S.length - (k + 1) = 0 ∨ a = ⟨b, (k + 1) * 2, none⟩) (c : Nat) :
    ∃ w2, (Builtin.append_ #[32, 32] 32 #[.slice (some ⟨b, 0, none⟩) k cap, .slice (some a) (S.length - (k + 1)) c]).run Tryd.prog w = .ok (.slice (some ⟨b, 0, none⟩) (S.length - 1) cap) w2 ∧
      Sps w2 (.slice (some ⟨b, 0, none⟩) (S.length - 1) cap) (S.eraseIdx k) ∧ Fr (fun x => x = b) w w2 ∧ ∃ cur : Array Value, w2.heap[b]? = some (.cells cur 45 (0, 0)) ∧ cur.size = cap * 2 := by
  rcases h.2 with ⟨e0, h0⟩ | ⟨g1, cap1, cur, e0, _, hb, hc1, hc2, hcs, htk⟩
  · simp at e0
  simp only [Value.slice.injEq, Option.some.injEq, Addr.mk.injEq, and_true, true_and] at e0
  obtain ⟨rfl, rfl⟩ := e0
  obtain ⟨i0, hi, hz0, hz1, hz2⟩ := info_parts Tryd.infoSpan
  have hfl : ((S.drop (k + 1)).flatMap enc).length = (S.length - (k + 1)) * 2 := by rw [flatK_length enc_len]; simp
  have hall : (S.flatMap enc).length = S.length * 2 := flatK_length enc_len S
  have hget : ∀ j, j < S.length * 2 → cur[j]? = (S.flatMap enc)[j]? := by
    intro j hj
    rw [← htk, List.getElem?_take, if_pos hj, Array.getElem?_toList]
  have hrun := run_append_room (P := Tryd.prog) w 32 32 45 i0 Tryd.underlying32 hi b k cap cur hb a (S.length - (k + 1)) c ((S.drop (k + 1)).flatMap enc) (by rw [hz1]; exact hfl)
    (by
      intro j u hu
      have hj : j < (S.length - (k + 1)) * 2 := by rw [← hfl]; exact (List.getElem?_eq_some_iff.1 hu).1
      rcases ha with ha | rfl
      · omega
      · have e2 : (⟨b, (k + 1) * 2, none⟩ : Addr).add j = ⟨b, (k + 1) * 2 + j, none⟩ := by
          by_cases h0 : j = 0
          · subst h0; simp [Addr.add]
          · simp [Addr.add, h0]
        rw [e2, cell_of hb, hget _ (by omega), ← hu]
        conv => lhs; rw [← List.take_append_drop (k + 1) S, List.flatMap_append]
        have e3 : ((S.take (k + 1)).flatMap enc).length = (k + 1) * 2 := by rw [flatK_length enc_len]; simp; omega
        rw [List.getElem?_append_right (by omega), e3, Nat.add_sub_cancel_left])
    (by
      intro u hu
      obtain ⟨x, _, hx⟩ := List.mem_flatMap.1 hu
      exact enc_one x u hx) (by omega) (by rw [hz1, hfl]; omega)
  have e1 : k + (S.length - (k + 1)) = S.length - 1 := by omega
  rw [e1, hz1, hfl] at hrun
  refine ⟨_, hrun, ?_, ⟨rfl, rfl, rfl, by simp, fun i _ hi => setRow_other w b i _ (fun e => hi e)⟩, _, setRow_heap w b cur _ _ _ hb, ?_⟩
  · show Row _ _ _ _ _ _
    rw [erase_len hk]
    refine ⟨by rw [flatK_length enc_len, erase_len hk], .inr ⟨b, cap, _, rfl, Nat.zero_le _, setRow_heap w b cur _ _ _ hb, by omega, hc2, ?_, ?_⟩⟩
    · simp only [List.size_toArray, List.length_append, List.length_take, List.length_drop, Array.length_toList, hfl]
      omega
    · have e4 : cur.toList.take (k * 2) = (S.take k).flatMap enc := by
        have e5 : ((S.take k).flatMap enc).length = k * 2 := by rw [flatK_length enc_len]; simp; omega
        have : cur.toList.take (k * 2) = (cur.toList.take (S.length * 2)).take (k * 2) := by rw [List.take_take, Nat.min_eq_left (by omega)]
        rw [this, htk]
        conv => lhs; rw [← List.take_append_drop k S, List.flatMap_append]
        rw [← e5, List.take_left]
      rw [e4, List.eraseIdx_eq_take_drop_succ, List.flatMap_append]
      show List.take ((S.length - 1) * 2) ((S.take k).flatMap enc ++ (S.drop (k + 1)).flatMap enc ++ _) = _
      have e6 : (S.length - 1) * 2 = ((S.take k).flatMap enc ++ (S.drop (k + 1)).flatMap enc).length := by
        rw [List.length_append, hfl, flatK_length enc_len]; simp; omega
      rw [e6, List.take_left]
  · simp only [List.size_toArray, List.length_append, List.length_take, List.length_drop, Array.length_toList, hfl]
    omega
set_option maxRecDepth 100000 in
set_option maxHeartbeats 1000000 in
theorem delete_ok {w : World} {b cap : Nat} {S : List Sp} (h : Sps w (.slice (some ⟨b, 0, none⟩) S.length cap) S) (hn : S.length ≤ 1000000) {k : Nat} (hk : k < S.length) :
    Calls Tryd.prog 30 #[.slice (some ⟨b, 0, none⟩) S.length cap, .int .i64 k, .int .i64 (k + 1 : Nat)] w fun e w' => e = .returned (.slice (some ⟨b, 0, none⟩) (S.length - 1) cap) ∧ Sps w' (.slice (some ⟨b, 0, none⟩) (S.length - 1) cap) (S.eraseIdx k) ∧ Fr (fun x => x = b) w w' := by
  have H := Lib.hid h
  obtain ⟨n, hN⟩ : ∃ n, n = S.length := ⟨_, rfl⟩
  have hcap : S.length ≤ cap ∧ cap ≤ maxLen := by
    rcases h.2 with ⟨e0, h0⟩ | ⟨g1, cap1, cur, e0, _, hb, hc1, hc2, hcs, htk⟩
    · simp at e0
    · simp only [Value.slice.injEq] at e0
      obtain ⟨_, _, rfl⟩ := e0
      exact ⟨hc1, hc2⟩
  obtain ⟨hcap1, hcap2⟩ := hcap
  unfold maxLen at hcap2
  obtain ⟨j, hj⟩ : ∃ j, k + 1 = j := ⟨_, rfl⟩
  rw [hj]
  have HJ := Lib.hid hj
  have hjn : j ≤ n := by omega
  have hkj : k < j := by omega
  have bkj : ((k : Int) == (j : Int)) = false := by simp; omega
  have HN := Lib.hid hN
  rw [← hN] at hn hk hcap1 ⊢
  clear h hN hj
  by_cases hcj : cap = j
  · subst hcj
    obtain rfl : n = cap := by omega
    clear hcap1 hjn
    have hs1 : Sps w.drew (.slice (some ⟨b, 0, none⟩) S.length n) S := Row.fr H.out (Fr.drew (Fr.refl (fun _ => False) _)) (fun _ _ h => h)
    obtain ⟨w2, hrun, hS2, hf2, cur, hb2, hcs⟩ := del_run hs1 (k := k) (by have := HN.out; omega) (a := ⟨b, 0, none⟩) (.inl (by have := HN.out; have := HJ.out; omega)) 0
    rw [← HN.out, HJ.out, Nat.sub_self] at hrun
    rw [← HN.out] at hS2
    obtain ⟨m, hm⟩ : ∃ m, n - 1 = m := ⟨_, rfl⟩
    rw [hm] at hrun hS2 ⊢
    have hm1 : n = m + 1 := by omega
    have hel : (S.eraseIdx k).length = m := by rw [erase_len (by have := HN.out; omega), ← HN.out]; exact hm
    have hca := (Array.getElem?_eq_getElem (show m * 2 < cur.size by omega))
    have hcb := (Array.getElem?_eq_getElem (show m * 2 + 1 < cur.size by omega))
    have k0 := (cell_of hb2 (m * 2)).trans hca
    have k1 := (cell_of hb2 (m * 2 + 1)).trans hcb
    have hcl := fun ty => run_clear1 w2 ty b (m * 2) 1 k0 k1 (free_of hb2 _) (free_of hb2 _)
    have HE : Hid (Sps ((w2.setCell ⟨b, m * 2, none⟩ (.int .i64 0)).setCell ⟨b, m * 2 + 1, none⟩ (.int .i64 0)) (.slice (some ⟨b, 0, none⟩) m n) (S.eraseIdx k)) := Lib.hid (by
      rcases hS2.2 with ⟨e0, h0⟩ | ⟨g1, cap1, cur1, e0, _, hb, hc1, hc2, hcs1, htk⟩
      · simp at e0
      simp only [Value.slice.injEq, Option.some.injEq, Addr.mk.injEq, and_true] at e0
      obtain ⟨e1, e2, e3⟩ := e0
      subst e1; subst e3
      refine ⟨hS2.1, .inr ⟨b, n, _, by rw [hel], Nat.zero_le _, setCell_blk (o := m * 2 + 1) (setCell_blk (o := m * 2) hb _) _, hc1, hc2, by simpa using hcs1, ?_⟩⟩
      rw [← htk, hel]
      simp only [Array.toList_setIfInBounds]
      rw [List.take_set_of_le (by omega), List.take_set_of_le (by omega)])
    have HF2 : Hid (Fr (fun x => x = b) w ((w2.setCell ⟨b, m * 2, none⟩ (.int .i64 0)).setCell ⟨b, m * 2 + 1, none⟩ (.int .i64 0))) := Lib.hid (by
      refine Fr.setCell (F := fun x => x = b) (p := ⟨b, m * 2 + 1, none⟩) (Fr.setCell (F := fun x => x = b) (p := ⟨b, m * 2, none⟩) ?_ (fun _ => rfl) _) (fun _ => rfl) _
      exact (Fr.drew (Fr.refl (fun x => x = b) w)).trans hf2 (fun _ _ h => h))
    have Hrun := Lib.hid hrun
    have hnm : n - m = 1 := by omega
    have hnm' : (m : Int) ≤ (n : Int) := by omega
    have hmc : ¬ n = m := by omega
    clear hrun hS2 hf2 hs1 hb2 hcs hca hcb k0 k1 hel hm
    have i1 : (k : Int) ≤ (n : Int) := by omega
    have i3 : (0 : Int) ≤ (k : Int) := by omega
    have HM1 := Lib.hid hm1
    clear hm1
    go_enter Tryd.func30, Tryd.ntmps30
    go_wp2_with fail
    go_still_tail 6, (by kernel_rfl)
    change wpList _ _ _ _ _ w.drew
    go_wp2_with (at_builtin; refine wpList_append_run rfl _ _ _ rfl rfl rfl Hrun.out ?_)
    go_ret
    exact ⟨rfl, HE.out, HF2.out⟩
  ·
    have hs1 : Sps w.drew (.slice (some ⟨b, 0, none⟩) S.length cap) S := Row.fr H.out (Fr.drew (Fr.refl (fun _ => False) _)) (fun _ _ h => h)
    obtain ⟨w2, hrun, hS2, hf2, cur, hb2, hcs⟩ := del_run hs1 (k := k) (by have := HN.out; omega) (a := ⟨b, j * 2, none⟩) (.inr (by rw [HJ.out])) (cap - j)
    rw [← HN.out, HJ.out] at hrun
    rw [← HN.out] at hS2
    obtain ⟨m, hm⟩ : ∃ m, n - 1 = m := ⟨_, rfl⟩
    rw [hm] at hrun hS2 ⊢
    have hm1 : n = m + 1 := by omega
    have hel : (S.eraseIdx k).length = m := by rw [erase_len (by have := HN.out; omega), ← HN.out]; exact hm
    have hca := (Array.getElem?_eq_getElem (show m * 2 < cur.size by omega))
    have hcb := (Array.getElem?_eq_getElem (show m * 2 + 1 < cur.size by omega))
    have k0 := (cell_of hb2 (m * 2)).trans hca
    have k1 := (cell_of hb2 (m * 2 + 1)).trans hcb
    have hcl := fun ty => run_clear1 w2 ty b (m * 2) (cap - m) k0 k1 (free_of hb2 _) (free_of hb2 _)
    have HE : Hid (Sps ((w2.setCell ⟨b, m * 2, none⟩ (.int .i64 0)).setCell ⟨b, m * 2 + 1, none⟩ (.int .i64 0)) (.slice (some ⟨b, 0, none⟩) m cap) (S.eraseIdx k)) := Lib.hid (by
      rcases hS2.2 with ⟨e0, h0⟩ | ⟨g1, cap1, cur1, e0, _, hb, hc1, hc2, hcs1, htk⟩
      · simp at e0
      simp only [Value.slice.injEq, Option.some.injEq, Addr.mk.injEq, and_true] at e0
      obtain ⟨e1, e2, e3⟩ := e0
      subst e1; subst e3
      refine ⟨hS2.1, .inr ⟨b, cap, _, by rw [hel], Nat.zero_le _, setCell_blk (o := m * 2 + 1) (setCell_blk (o := m * 2) hb _) _, hc1, hc2, by simpa using hcs1, ?_⟩⟩
      rw [← htk, hel]
      simp only [Array.toList_setIfInBounds]
      rw [List.take_set_of_le (by omega), List.take_set_of_le (by omega)])
    have HF2 : Hid (Fr (fun x => x = b) w ((w2.setCell ⟨b, m * 2, none⟩ (.int .i64 0)).setCell ⟨b, m * 2 + 1, none⟩ (.int .i64 0))) := Lib.hid (by
      refine Fr.setCell (F := fun x => x = b) (p := ⟨b, m * 2 + 1, none⟩) (Fr.setCell (F := fun x => x = b) (p := ⟨b, m * 2, none⟩) ?_ (fun _ => rfl) _) (fun _ => rfl) _
      exact (Fr.drew (Fr.refl (fun x => x = b) w)).trans hf2 (fun _ _ h => h))
    have Hrun := Lib.hid hrun
    have hnm : n - m = 1 := by omega
    have hnm' : (m : Int) ≤ (n : Int) := by omega
    have hmc : ¬ cap = m := by omega
    clear hrun hS2 hf2 hs1 hb2 hcs hca hcb k0 k1 hel hm
    have i1 : (k : Int) ≤ (cap : Int) := by omega
    have i2 : (j : Int) ≤ (n : Int) := by omega
    have i3 : (0 : Int) ≤ (k : Int) := by omega
    have i4 : (0 : Int) ≤ (j : Int) := by omega
    have i5 : (k : Int) ≤ (n : Int) := by omega
    have i6 : (n : Int) ≤ (cap : Int) := by omega
    have HM1 := Lib.hid hm1
    clear hm1
    go_enter Tryd.func30, Tryd.ntmps30
    go_wp2_with fail
    go_still_tail 6, (by kernel_rfl)
    change wpList _ _ _ _ _ w.drew
    go_wp2_with (at_builtin; refine wpList_append_run rfl _ _ _ rfl rfl rfl Hrun.out ?_)
    go_ret
    exact ⟨rfl, HE.out, HF2.out⟩
end Go.Proofs.YthckfbfenfkdiaaDoor.Py
