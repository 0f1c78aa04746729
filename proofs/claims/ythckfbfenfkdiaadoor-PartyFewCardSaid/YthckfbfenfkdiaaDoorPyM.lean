/- Parties: which cabins may be, by the document. No condition. -/
import Derived.Test.YthckfbfenfkdiaaDoorPyC
import Derived.Deep.QuietTactic
import Derived.BigQuiet
namespace Go.Proofs.YthckfbfenfkdiaaDoor.Py
open Go.RowKit St
theorem snoc_take {L : List Int} {k : Nat} (h : k < L.length) : L.take (k + 1) = L.take k ++ [L[k]] := List.take_succ_eq_append_getElem h
theorem lastOf_take {L : List Int} {k : Nat} (h : k < L.length) : lastOf 0 (L.take (k + 1)) = L[k] := by rw [snoc_take h, lastOf_snoc]
set_option maxRecDepth 100000 in
set_option maxHeartbeats 1000000 in
theorem right_any {w : World} {sv : Value} {L : List Int} (h : RI w sv L) (r v : Int) {q : Bool} (hq : rightB r v L = q) : Calls Tryd.prog 7 #[.agg #[.int .i64 r, .int .i64 v, sv]] w fun e w' => e = .returned (.bool q) ∧ Fr (fun _ => False) w w' := by
  have H := Lib.hid h
  have HR := Lib.hid hq
  obtain ⟨a0, c0, rfl, hlen, hcs⟩ := h
  have HCS := Lib.hid hcs
  clear hcs hq
  have hb0 : (w.alloc (.cells #[.int .i64 r, .int .i64 v, .slice a0 L.length c0] 24)).heap[w.heap.size]? = some (.cells #[.int .i64 r, .int .i64 v, .slice a0 L.length c0] 24 (0, 0)) := heap_alloc_at _ _
  have hf0 : Fr (fun _ => False) w (w.alloc (.cells #[.int .i64 r, .int .i64 v, .slice a0 L.length c0] 24)) := Fr.alloc (Fr.refl _ _) _
  obtain ⟨W0, hW0⟩ : ∃ W0, W0 = w.alloc (.cells #[.int .i64 r, .int .i64 v, .slice a0 L.length c0] 24) := ⟨_, rfl⟩
  obtain ⟨b1, hb1⟩ : ∃ b1, b1 = w.heap.size := ⟨_, rfl⟩
  rw [← hW0, ← hb1] at hb0
  rw [← hW0] at hf0
  have HB0 := Lib.hid hb0; have HF0 := Lib.hid hf0
  have c10 := (cell_of hb0 0).trans (show _ = some (Value.int .i64 r) from rfl)
  have c11 := (cell_of hb0 1).trans (show _ = some (Value.int .i64 v) from rfl)
  clear hb0 hf0
  obtain ⟨z, hz⟩ : ∃ z, sizeOk r v = z := ⟨_, rfl⟩
  have HZ := Lib.hid hz
  clear hz
  go_enter Tryd.func7, Tryd.ntmps7
  go_upto_region 1 with fail
  rw [← hW0, ← hb1]
  clear hW0 hb1
  go_cut [21] (fun s21 wx => s21 = .bool (!z) ∧ W0 = wx)
  case first =>
   as_aux_lemma =>
    by_cases t1 : r < 1
    · have d1 : decide (r < 1) = true := by simpa using t1
      obtain rfl : z = false := by rw [← HZ.out]; simp [sizeOk]; omega
      clear t1
      go_wp2_with fail
      go_meet
      exact ⟨rfl, rfl⟩
    · have d1 : decide (r < 1) = false := by simpa using t1
      by_cases t2 : 64 < r
      · have d2 : decide (64 < r) = true := by simpa using t2
        obtain rfl : z = false := by rw [← HZ.out]; simp [sizeOk]; omega
        clear t1 t2
        go_wp2_with fail
        go_meet
        exact ⟨rfl, rfl⟩
      · have d2 : decide (64 < r) = false := by simpa using t2
        by_cases t3 : v < 1
        · have d3 : decide (v < 1) = true := by simpa using t3
          obtain rfl : z = false := by rw [← HZ.out]; simp [sizeOk]; omega
          clear t1 t2 t3
          go_wp2_with fail
          go_meet
          exact ⟨rfl, rfl⟩
        · have d3 : decide (v < 1) = false := by simpa using t3
          by_cases t4 : 16 < v
          · have d4 : decide (16 < v) = true := by simpa using t4
            obtain rfl : z = false := by rw [← HZ.out]; simp [sizeOk]; omega
            clear t1 t2 t3 t4
            go_wp2_with fail
            go_meet
            exact ⟨rfl, rfl⟩
          · have d4 : decide (16 < v) = false := by simpa using t4
            obtain rfl : z = true := by rw [← HZ.out]; simp [sizeOk]; omega
            clear t1 t2 t3 t4
            go_wp2_with fail
            go_meet
            exact ⟨rfl, rfl⟩
  case rest =>
  obtain ⟨rfl, rfl⟩ := hcut
  cases z with
  | false =>
    have hr : q = false := by rw [← HR.out]; unfold rightB; rw [HZ.out]; rfl
    subst hr
    go_wp2_with fail
    go_ret
    exact ⟨rfl, HF0.out⟩
  | true =>
    go_wp2_with fail
    go_loopw [3] (fun s3 wr => ∃ k : Nat, s3 = .int .i64 k ∧ k ≤ L.length ∧ Hid (aisOk v 0 (L.take k) = true) ∧ Hid (Fr (fun _ => False) w wr ∧ wr.heap[b1]? = some (.cells #[.int .i64 r, .int .i64 v, .slice a0 L.length c0] 24 (0, 0)))) (fun s3 _ => L.length - (intOf s3).toNat)
    case atStart => exact ⟨0, rfl, Nat.zero_le _, Lib.hid rfl, Lib.hid ⟨HF0.out, HB0.out⟩⟩
    case round =>
      clear c10 c11
      obtain ⟨k, rfl, hk, HO, HW⟩ := hrel
      have c11 := (cell_of HW.out.2 1).trans (show _ = some (Value.int .i64 v) from rfl)
      have c12 := (cell_of HW.out.2 2).trans (show _ = some (Value.slice a0 L.length c0) from rfl)
      by_cases hlt : k < L.length
      · have hlt' : (k : Int) < (L.length : Int) := by omega
        have hk0 : (0 : Int) ≤ (k : Int) := by omega
        obtain ⟨b, o, rfl, hcc⟩ := HCS.out.resolve_left (by intro e; subst e; simp at hlt)
        have hck := hcc k hlt
        have hcw : wr.cell? ⟨b, o + k, none⟩ = some (.int .i64 L[k]) := by
          rw [HW.out.1.cell (World.block_lt_of_cell? _ _ hck) id]; exact hck
        obtain ⟨x, hx⟩ : ∃ x, x = L[k] := ⟨_, rfl⟩
        have HTK : Hid (L.take (k + 1) = L.take k ++ [x]) := Lib.hid (by rw [hx]; exact snoc_take hlt)
        rw [← hx] at hcw
        have hl0 : 0 ≤ lastOf 0 (L.take k) := lastOf_pos HO.out
        obtain ⟨g, hg⟩ : ∃ g, (decide (lastOf 0 (L.take k) < x) && decide (x < v)) = g := ⟨_, rfl⟩
        have HG := Lib.hid hg
        have HN : Hid (aisOk v 0 (L.take (k + 1)) = g) := Lib.hid (by rw [HTK.out, aisOk_snoc, HO.out, hg]; rfl)
        clear hck hx hg
        go_upto_block 1 with fail
        go_upto_region 6 with fail
        go_cut [62] (fun s62 wx => s62 = .bool (!g) ∧ Hid (Fr (fun _ => False) wr wx))
        case first =>
         as_aux_lemma =>
          by_cases t1 : x < 1
          · have d1 : decide (x < 1) = true := by simpa using t1
            obtain rfl : g = false := by rw [← HG.out]; simp; omega
            clear hl0 t1
            go_upto_region 6 with fail
            go_big_quiet (fail)
            go_wp2_with fail
            go_meet
            exact ⟨rfl, Lib.hid ⟨rfl, rfl, rfl, Nat.le_refl _, fun _ _ _ => rfl⟩⟩
          · have d1 : decide (x < 1) = false := by simpa using t1
            by_cases t2 : v ≤ x
            · have d2 : decide (v ≤ x) = true := by simpa using t2
              obtain rfl : g = false := by rw [← HG.out]; simp; omega
              clear hl0 t1 t2
              go_upto_region 6 with fail
              go_big_quiet (fail)
              go_wp2_with fail
              go_meet
              exact ⟨rfl, Lib.hid ⟨rfl, rfl, rfl, Nat.le_refl _, fun _ _ _ => rfl⟩⟩
            · have d2 : decide (v ≤ x) = false := by simpa using t2
              by_cases t3 : k = 0
              · have dk : decide ((k : Int) > 0) = false := by simp; omega
                have dk' : decide (0 < k) = false := by simp; omega
                obtain rfl : g = true := by rw [← HG.out, t3]; simp [lastOf]; omega
                clear hl0 t1 t2 t3
                go_upto_region 6 with fail
                go_big_quiet (fail)
                go_wp2_with fail
                go_meet
                exact ⟨rfl, Lib.hid ⟨rfl, rfl, rfl, Nat.le_refl _, fun _ _ _ => rfl⟩⟩
              · obtain ⟨j, hj⟩ : ∃ j, k = j + 1 := ⟨k - 1, by omega⟩
                have hjl : j < L.length := by omega
                have hcj : wr.cell? ⟨b, o + j, none⟩ = some (.int .i64 L[j]) := by
                  have := hcc j hjl
                  rw [HW.out.1.cell (World.block_lt_of_cell? _ _ this) id]; exact this
                have hlj : lastOf 0 (L.take k) = L[j] := by rw [hj]; exact lastOf_take hjl
                rw [hlj] at HG
                obtain ⟨l, hl⟩ : ∃ l, l = L[j] := ⟨_, rfl⟩
                rw [← hl] at HG hcj
                have hkj : (k : Int) - 1 = (j : Int) := by omega
                have hkw : IntKind.i64.wrap (j : Int) = (j : Int) := by rw [IntKind.wrap_i64]; omega
                have hjl' : (j : Int) < (L.length : Int) := by omega
                have hj0 : (0 : Int) ≤ (j : Int) := by omega
                have dk : decide ((k : Int) > 0) = true := by simp; omega
                have dk' : decide (0 < k) = true := by simp; omega
                by_cases t4 : x ≤ l
                · have d4 : decide (x ≤ l) = true := by simpa using t4
                  obtain rfl : g = false := by rw [← HG.out]; simp; omega
                  clear hl0 t1 t2 t3 t4 hj hl hlj hcc HTK HN HO hjl
                  go_upto_region 6 with fail
                  go_big_quiet (fail)
                  go_wp2_with fail
                  go_meet
                  exact ⟨rfl, Lib.hid ⟨rfl, rfl, rfl, Nat.le_refl _, fun _ _ _ => rfl⟩⟩
                · have d4 : decide (x ≤ l) = false := by simpa using t4
                  obtain rfl : g = true := by rw [← HG.out]; simp; omega
                  clear hl0 t1 t2 t3 t4 hj hl hlj hcc HTK HN HO hjl
                  go_upto_region 6 with fail
                  go_big_quiet (fail)
                  go_wp2_with fail
                  go_meet
                  exact ⟨rfl, Lib.hid ⟨rfl, rfl, rfl, Nat.le_refl _, fun _ _ _ => rfl⟩⟩
        case rest =>
        obtain ⟨rfl, HF1⟩ := hcut
        have HW1 := Lib.hid (show Fr (fun _ => False) w wc ∧ wc.heap[b1]? = some (.cells #[.int .i64 r, .int .i64 v, .slice (some ⟨b, o, none⟩) L.length c0] 24 (0, 0)) from ⟨HW.out.1.trans HF1.out (fun _ _ h => h), HF1.out.get HW.out.2 id⟩)
        clear hcc hcw c11 c12
        cases g with
        | true =>
          go_wp2_with fail
          go_roundw
          case rel => exact ⟨k + 1, by go_num, by omega, HN, HW1⟩
          case measure => simp [intOf]; omega
        | false =>
          have hr : q = false := by
            rw [← HR.out]; unfold rightB
            have e := aisOk_take v 0 (L.take (k + 1)) (L.drop (k + 1)) HN.out
            rw [List.take_append_drop] at e
            rw [e, Bool.and_false]
          subst hr
          go_wp2_with fail
          go_ret
          exact ⟨rfl, HW1.out.1⟩
      · have hlt' : ¬ (k : Int) < (L.length : Int) := by omega
        obtain rfl : k = L.length := by omega
        have hr : q = true := by
          rw [← HR.out]; unfold rightB
          have := HO.out
          rw [List.take_length] at this
          rw [HZ.out, this]; rfl
        subst hr
        go_wp2_with fail
        go_ret
        exact ⟨rfl, HW.out.1⟩
end Go.Proofs.YthckfbfenfkdiaaDoor.Py
