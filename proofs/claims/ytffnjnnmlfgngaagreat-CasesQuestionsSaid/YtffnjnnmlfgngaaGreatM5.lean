/- Texts put together: The document's checks of shapes and of records; its new book, The document's book: tick, hold, The document's book: hold, The document's book: Apply of what is no record, of a hold, of a tick, of an id that nobody has, The document's book: what confirm, cancel and reseat do to the list, The document. No condition. -/
import Derived.Test.YtffnjnnmlfgngaaGreatM1
import Derived.Test.YtffnjnnmlfgngaaGreatM2
import Derived.Test.YtffnjnnmlfgngaaGreatM3
import Derived.Test.YtffnjnnmlfgngaaGreatM4
namespace Go.Proofs.YtffnjnnmlfgngaaGreat.Bk
open Go.RowKit Go.Shelf
attribute [local go_sem] Oper.semAt_some
set_option maxRecDepth 100000 in
set_option maxHeartbeats 2000000 in
theorem rshape_check (a b c : Int) (w : World) : Calls Tryz.prog 45 #[shV a b c] w fun e w' => e = .returned (.int .i64 (if shOk a b c = true then 0 else 90)) ∧ Fr (fun _ => False) w w' := by
  obtain ⟨W, hW⟩ : ∃ W, W = w.alloc (.cells #[.int .i64 a, .int .i64 b, .int .i64 c] 23) := ⟨_, rfl⟩
  obtain ⟨z, hz⟩ : ∃ z, z = w.heap.size := ⟨_, rfl⟩
  have f0 : Fr (fun _ => False) w W := by rw [hW]; exact Fr.alloc (Fr.refl _ _) _
  have hg : W.heap[z]? = some (.cells #[.int .i64 a, .int .i64 b, .int .i64 c] 23 (0, 0)) := by rw [hW, hz]; exact heap_alloc_at _ _
  have z0 := (cell_of hg 0).trans (show _ = some (Value.int .i64 a) from rfl)
  have z1 := (cell_of hg 1).trans (show _ = some (Value.int .i64 b) from rfl)
  have z2 := (cell_of hg 2).trans (show _ = some (Value.int .i64 c) from rfl)
  have F0 := Lib.hid f0
  clear f0 hg
  obtain ⟨n, hn⟩ : ∃ n : Int, n = if shOk a b c = true then 0 else 90 := ⟨_, rfl⟩
  rw [← hn]
  go_enter Tryz.func45, Tryz.ntmps45
  go_upto_region 1 with fail
  rw [← hW, ← hz]
  clear hW hz
  by_cases e0 : a < 1
  · have b0 : decide (a < 1) = true := by simpa using e0
    have HS := Lib.hid (show n = 90 by rw [hn, if_neg (show ¬ shOk a b c = true by unfold shOk; simp; omega)])
    clear hn e0
    go_wp2_with fail
    go_ret
    exact ⟨by rw [HS.out]; rfl, F0.out⟩
  · have b0 : decide (a < 1) = false := by simpa using e0
    by_cases e1 : 1024 < a
    · have b1 : decide (1024 < a) = true := by simpa using e1
      have HS := Lib.hid (show n = 90 by rw [hn, if_neg (show ¬ shOk a b c = true by unfold shOk; simp; omega)])
      clear hn e0 e1
      go_wp2_with fail
      go_ret
      exact ⟨by rw [HS.out]; rfl, F0.out⟩
    · have b1 : decide (1024 < a) = false := by simpa using e1
      by_cases e2 : b < 1
      · have b2 : decide (b < 1) = true := by simpa using e2
        have HS := Lib.hid (show n = 90 by rw [hn, if_neg (show ¬ shOk a b c = true by unfold shOk; simp; omega)])
        clear hn e0 e1 e2
        go_wp2_with fail
        go_ret
        exact ⟨by rw [HS.out]; rfl, F0.out⟩
      · have b2 : decide (b < 1) = false := by simpa using e2
        by_cases e3 : 4096 < b
        · have b3 : decide (4096 < b) = true := by simpa using e3
          have HS := Lib.hid (show n = 90 by rw [hn, if_neg (show ¬ shOk a b c = true by unfold shOk; simp; omega)])
          clear hn e0 e1 e2 e3
          go_wp2_with fail
          go_ret
          exact ⟨by rw [HS.out]; rfl, F0.out⟩
        · have b3 : decide (4096 < b) = false := by simpa using e3
          by_cases e4 : c < 1
          · have b4 : decide (c < 1) = true := by simpa using e4
            have HS := Lib.hid (show n = 90 by rw [hn, if_neg (show ¬ shOk a b c = true by unfold shOk; simp; omega)])
            clear hn e0 e1 e2 e3 e4
            go_wp2_with fail
            go_ret
            exact ⟨by rw [HS.out]; rfl, F0.out⟩
          · have b4 : decide (c < 1) = false := by simpa using e4
            by_cases e5 : 64 < c
            · have b5 : decide (64 < c) = true := by simpa using e5
              have HS := Lib.hid (show n = 90 by rw [hn, if_neg (show ¬ shOk a b c = true by unfold shOk; simp; omega)])
              clear hn e0 e1 e2 e3 e4 e5
              go_wp2_with fail
              go_ret
              exact ⟨by rw [HS.out]; rfl, F0.out⟩
            · have b5 : decide (64 < c) = false := by simpa using e5
              have HS := Lib.hid (show n = 0 by rw [hn, if_pos (show shOk a b c = true by unfold shOk; simp; omega)])
              clear hn e0 e1 e2 e3 e4 e5
              go_wp2_with fail
              go_ret
              exact ⟨by rw [HS.out]; rfl, F0.out⟩
set_option maxRecDepth 100000 in
set_option maxHeartbeats 2000000 in
theorem rtime_ok (x : Int) (w : World) : Calls Tryz.prog 145 #[.int .i64 x] w fun e w' => e = .returned (.bool (decide (1 ≤ x ∧ x ≤ 1099511627776))) ∧ w = w' := by
  go_enter Tryz.func145, Tryz.ntmps145
  by_cases e0 : 1 ≤ x
  · have b0 : decide (1 ≤ x) = true := by simpa using e0
    by_cases e1 : x ≤ 1099511627776
    · have b1 : decide (x ≤ 1099511627776) = true := by simpa using e1
      rw [decide_eq_true (show 1 ≤ x ∧ x ≤ 1099511627776 from ⟨e0, e1⟩)]
      clear e0 e1
      go_wp2_with fail
      go_ret
      exact ⟨rfl, rfl⟩
    · have b1 : decide (x ≤ 1099511627776) = false := by simpa using e1
      rw [decide_eq_false (show ¬ (1 ≤ x ∧ x ≤ 1099511627776) from fun h => e1 h.2)]
      clear e0 e1
      go_wp2_with fail
      go_ret
      exact ⟨rfl, rfl⟩
  · have b0 : decide (1 ≤ x) = false := by simpa using e0
    rw [decide_eq_false (show ¬ (1 ≤ x ∧ x ≤ 1099511627776) from fun h => e0 h.1)]
    clear e0
    go_wp2_with fail
    go_ret
    exact ⟨rfl, rfl⟩
set_option maxRecDepth 100000 in
set_option maxHeartbeats 8000000 in
theorem rmay_ok (r : Rc) (w : World) : Calls Tryz.prog 119 #[rcV r] w fun e w' => e = .returned (.bool (recB r)) ∧ Fr (fun _ => False) w w' := by
  obtain ⟨W, hW⟩ : ∃ W, W = w.alloc (rcC r) := ⟨_, rfl⟩
  obtain ⟨z, hz⟩ : ∃ z, z = w.heap.size := ⟨_, rfl⟩
  have f0 : Fr (fun _ => False) w W := by rw [hW]; exact Fr.alloc (Fr.refl _ _) _
  have hg : W.heap[z]? = some (rcC r) := by rw [hW, hz]; exact heap_alloc_at _ _
  have z0 := (cell_of hg 0).trans (show _ = some (Value.int .i64 r.kind) from rfl)
  have z1 := (cell_of hg 1).trans (show _ = some (Value.int .u32 (r.id : Int)) from rfl)
  have z2 := (cell_of hg 2).trans (show _ = some (Value.int .i64 r.seat) from rfl)
  have z3 := (cell_of hg 3).trans (show _ = some (Value.int .i64 r.till) from rfl)
  have z4 := (cell_of hg 4).trans (show _ = some (Value.int .i64 r.clock) from rfl)
  have F0 := Lib.hid f0
  clear f0 hg
  obtain ⟨sq, hsq⟩ : ∃ q, decide (0 ≤ r.seat ∧ r.seat < 1024) = q := ⟨_, rfl⟩
  go_enter Tryz.func119, Tryz.ntmps119
  go_upto_region 1 with fail
  rw [← hW, ← hz]
  clear hW hz
  go_cut [3] (fun s wx => s = .bool sq ∧ W = wx)
  case first =>
    by_cases e0 : 0 ≤ r.seat
    · have b0 : decide (0 ≤ r.seat) = true := by simpa using e0
      by_cases e1 : r.seat < 1024
      · have b1 : decide (r.seat < 1024) = true := by simpa using e1
        have hq : sq = true := by rw [← hsq]; simp; omega
        subst hq
        clear hsq e0 e1
        go_wp2_with fail
        go_meet
        exact ⟨rfl, rfl⟩
      · have b1 : decide (r.seat < 1024) = false := by simpa using e1
        have hq : sq = false := by rw [← hsq]; simp; omega
        subst hq
        clear hsq e0 e1
        go_wp2_with fail
        go_meet
        exact ⟨rfl, rfl⟩
    · have b0 : decide (0 ≤ r.seat) = false := by simpa using e0
      have hq : sq = false := by rw [← hsq]; simp; omega
      subst hq
      clear hsq e0
      go_wp2_with fail
      go_meet
      exact ⟨rfl, rfl⟩
  case rest =>
  obtain ⟨rfl, rfl⟩ := hcut
  by_cases k1 : r.kind = 1
  · have hrec : recB r = (decide (r.id ≠ 0) && (decide (0 ≤ r.seat ∧ r.seat < 1024) && (decide (1 ≤ r.till ∧ r.till ≤ 1099511627776) && decide (r.clock = 0)))) := by
      unfold recB
      rw [k1, Bool.eq_iff_iff]
      simp
      try omega
    obtain ⟨q1, hq1⟩ : ∃ q, decide (r.id ≠ 0) = q := ⟨_, rfl⟩
    rw [hq1] at hrec
    have bq1 : ((r.id : Int) != 0) = q1 := by rw [← hq1, Bool.eq_iff_iff]; simp
    obtain ⟨qt, hqt⟩ : ∃ q, decide (1 ≤ r.till ∧ r.till ≤ 1099511627776) = q := ⟨_, rfl⟩
    rw [hqt] at hrec
    have HTqt := Lib.hid (rtime_ok (r.till) W)
    rw [hqt] at HTqt
    obtain ⟨qc, hqc⟩ : ∃ q, decide (r.clock = 0) = q := ⟨_, rfl⟩
    rw [hqc] at hrec
    have bqc : (r.clock == 0) = qc := by rw [← hqc, Bool.eq_iff_iff]; simp
    rw [hsq] at hrec
    have HRec := Lib.hid hrec
    rw [k1] at z0
    clear hrec k1 hsq hq1 hqt hqc
    cases q1 with
    | false =>
      go_wp2_with fail
      go_ret
      exact ⟨by rw [HRec.out]; simp, F0.out⟩
    | true =>
      cases sq with
      | false =>
        go_wp2_with fail
        go_ret
        exact ⟨by rw [HRec.out]; simp, F0.out⟩
      | true =>
        cases qt with
        | false =>
          go_wp2_with fail
          refine HTqt.out.mono ?_
          rintro e w1 ⟨rfl, rfl⟩
          go_wp2_with fail
          go_ret
          exact ⟨by rw [HRec.out]; simp, F0.out⟩
        | true =>
          cases qc with
          | false =>
            go_wp2_with fail
            refine HTqt.out.mono ?_
            rintro e w1 ⟨rfl, rfl⟩
            go_wp2_with fail
            go_ret
            exact ⟨by rw [HRec.out]; simp, F0.out⟩
          | true =>
            go_wp2_with fail
            refine HTqt.out.mono ?_
            rintro e w1 ⟨rfl, rfl⟩
            go_wp2_with fail
            go_ret
            exact ⟨by rw [HRec.out]; rfl, F0.out⟩
  · have n1 := k1
    clear k1
    by_cases k1 : r.kind = 2
    · have hrec : recB r = (decide (r.id ≠ 0) && (decide (r.seat = 0) && (decide (r.till = 0) && decide (r.clock = 0)))) := by
        unfold recB
        rw [k1, Bool.eq_iff_iff]
        simp
        try omega
      obtain ⟨q1, hq1⟩ : ∃ q, decide (r.id ≠ 0) = q := ⟨_, rfl⟩
      rw [hq1] at hrec
      have bq1 : ((r.id : Int) != 0) = q1 := by rw [← hq1, Bool.eq_iff_iff]; simp
      obtain ⟨qs, hqs⟩ : ∃ q, decide (r.seat = 0) = q := ⟨_, rfl⟩
      rw [hqs] at hrec
      have bqs : (r.seat == 0) = qs := by rw [← hqs, Bool.eq_iff_iff]; simp
      obtain ⟨qt, hqt⟩ : ∃ q, decide (r.till = 0) = q := ⟨_, rfl⟩
      rw [hqt] at hrec
      have bqt : (r.till == 0) = qt := by rw [← hqt, Bool.eq_iff_iff]; simp
      obtain ⟨qc, hqc⟩ : ∃ q, decide (r.clock = 0) = q := ⟨_, rfl⟩
      rw [hqc] at hrec
      have bqc : (r.clock == 0) = qc := by rw [← hqc, Bool.eq_iff_iff]; simp
      have HRec := Lib.hid hrec
      rw [k1] at z0
      clear hrec k1 hsq hq1 hqs hqt hqc
      cases q1 with
      | false =>
        go_wp2_with fail
        go_ret
        exact ⟨by rw [HRec.out]; simp, F0.out⟩
      | true =>
        cases qs with
        | false =>
          go_wp2_with fail
          go_ret
          exact ⟨by rw [HRec.out]; simp, F0.out⟩
        | true =>
          cases qt with
          | false =>
            go_wp2_with fail
            go_ret
            exact ⟨by rw [HRec.out]; simp, F0.out⟩
          | true =>
            cases qc with
            | false =>
              go_wp2_with fail
              go_ret
              exact ⟨by rw [HRec.out]; simp, F0.out⟩
            | true =>
              go_wp2_with fail
              go_ret
              exact ⟨by rw [HRec.out]; rfl, F0.out⟩
    · have n2 := k1
      clear k1
      by_cases k1 : r.kind = 3
      · have hrec : recB r = (decide (r.id ≠ 0) && (decide (r.seat = 0) && (decide (r.till = 0) && decide (r.clock = 0)))) := by
          unfold recB
          rw [k1, Bool.eq_iff_iff]
          simp
          try omega
        obtain ⟨q1, hq1⟩ : ∃ q, decide (r.id ≠ 0) = q := ⟨_, rfl⟩
        rw [hq1] at hrec
        have bq1 : ((r.id : Int) != 0) = q1 := by rw [← hq1, Bool.eq_iff_iff]; simp
        obtain ⟨qs, hqs⟩ : ∃ q, decide (r.seat = 0) = q := ⟨_, rfl⟩
        rw [hqs] at hrec
        have bqs : (r.seat == 0) = qs := by rw [← hqs, Bool.eq_iff_iff]; simp
        obtain ⟨qt, hqt⟩ : ∃ q, decide (r.till = 0) = q := ⟨_, rfl⟩
        rw [hqt] at hrec
        have bqt : (r.till == 0) = qt := by rw [← hqt, Bool.eq_iff_iff]; simp
        obtain ⟨qc, hqc⟩ : ∃ q, decide (r.clock = 0) = q := ⟨_, rfl⟩
        rw [hqc] at hrec
        have bqc : (r.clock == 0) = qc := by rw [← hqc, Bool.eq_iff_iff]; simp
        have HRec := Lib.hid hrec
        rw [k1] at z0
        clear hrec k1 hsq hq1 hqs hqt hqc
        cases q1 with
        | false =>
          go_wp2_with fail
          go_ret
          exact ⟨by rw [HRec.out]; simp, F0.out⟩
        | true =>
          cases qs with
          | false =>
            go_wp2_with fail
            go_ret
            exact ⟨by rw [HRec.out]; simp, F0.out⟩
          | true =>
            cases qt with
            | false =>
              go_wp2_with fail
              go_ret
              exact ⟨by rw [HRec.out]; simp, F0.out⟩
            | true =>
              cases qc with
              | false =>
                go_wp2_with fail
                go_ret
                exact ⟨by rw [HRec.out]; simp, F0.out⟩
              | true =>
                go_wp2_with fail
                go_ret
                exact ⟨by rw [HRec.out]; rfl, F0.out⟩
      · have n3 := k1
        clear k1
        by_cases k1 : r.kind = 4
        · have hrec : recB r = (decide (r.id ≠ 0) && (decide (0 ≤ r.seat ∧ r.seat < 1024) && (decide (r.till = 0) && decide (r.clock = 0)))) := by
            unfold recB
            rw [k1, Bool.eq_iff_iff]
            simp
            try omega
          obtain ⟨q1, hq1⟩ : ∃ q, decide (r.id ≠ 0) = q := ⟨_, rfl⟩
          rw [hq1] at hrec
          have bq1 : ((r.id : Int) != 0) = q1 := by rw [← hq1, Bool.eq_iff_iff]; simp
          obtain ⟨qt, hqt⟩ : ∃ q, decide (r.till = 0) = q := ⟨_, rfl⟩
          rw [hqt] at hrec
          have bqt : (r.till == 0) = qt := by rw [← hqt, Bool.eq_iff_iff]; simp
          obtain ⟨qc, hqc⟩ : ∃ q, decide (r.clock = 0) = q := ⟨_, rfl⟩
          rw [hqc] at hrec
          have bqc : (r.clock == 0) = qc := by rw [← hqc, Bool.eq_iff_iff]; simp
          rw [hsq] at hrec
          have HRec := Lib.hid hrec
          rw [k1] at z0
          clear hrec k1 hsq hq1 hqt hqc
          cases q1 with
          | false =>
            go_wp2_with fail
            go_ret
            exact ⟨by rw [HRec.out]; simp, F0.out⟩
          | true =>
            cases sq with
            | false =>
              go_wp2_with fail
              go_ret
              exact ⟨by rw [HRec.out]; simp, F0.out⟩
            | true =>
              cases qt with
              | false =>
                go_wp2_with fail
                go_ret
                exact ⟨by rw [HRec.out]; simp, F0.out⟩
              | true =>
                cases qc with
                | false =>
                  go_wp2_with fail
                  go_ret
                  exact ⟨by rw [HRec.out]; simp, F0.out⟩
                | true =>
                  go_wp2_with fail
                  go_ret
                  exact ⟨by rw [HRec.out]; rfl, F0.out⟩
        · have n4 := k1
          clear k1
          by_cases k1 : r.kind = 5
          · have hrec : recB r = (decide (r.id = 0) && (decide (r.seat = 0) && (decide (r.till = 0) && decide (1 ≤ r.clock ∧ r.clock ≤ 1099511627776)))) := by
              unfold recB
              rw [k1, Bool.eq_iff_iff]
              simp
              try omega
            obtain ⟨q1, hq1⟩ : ∃ q, decide (r.id = 0) = q := ⟨_, rfl⟩
            rw [hq1] at hrec
            have bq1 : ((r.id : Int) == 0) = q1 := by rw [← hq1, Bool.eq_iff_iff]; simp
            obtain ⟨qs, hqs⟩ : ∃ q, decide (r.seat = 0) = q := ⟨_, rfl⟩
            rw [hqs] at hrec
            have bqs : (r.seat == 0) = qs := by rw [← hqs, Bool.eq_iff_iff]; simp
            obtain ⟨qt, hqt⟩ : ∃ q, decide (r.till = 0) = q := ⟨_, rfl⟩
            rw [hqt] at hrec
            have bqt : (r.till == 0) = qt := by rw [← hqt, Bool.eq_iff_iff]; simp
            obtain ⟨qc, hqc⟩ : ∃ q, decide (1 ≤ r.clock ∧ r.clock ≤ 1099511627776) = q := ⟨_, rfl⟩
            rw [hqc] at hrec
            have HTqc := Lib.hid (rtime_ok (r.clock) W)
            rw [hqc] at HTqc
            have HRec := Lib.hid hrec
            rw [k1] at z0
            clear hrec k1 hsq hq1 hqs hqt hqc
            cases q1 with
            | false =>
              go_wp2_with fail
              go_ret
              exact ⟨by rw [HRec.out]; simp, F0.out⟩
            | true =>
              cases qs with
              | false =>
                go_wp2_with fail
                go_ret
                exact ⟨by rw [HRec.out]; simp, F0.out⟩
              | true =>
                cases qt with
                | false =>
                  go_wp2_with fail
                  go_ret
                  exact ⟨by rw [HRec.out]; simp, F0.out⟩
                | true =>
                  cases qc with
                  | false =>
                    go_wp2_with fail
                    refine HTqc.out.mono ?_
                    rintro e w1 ⟨rfl, rfl⟩
                    go_wp2_with fail
                    go_ret
                    exact ⟨by rw [HRec.out]; simp, F0.out⟩
                  | true =>
                    go_wp2_with fail
                    refine HTqc.out.mono ?_
                    rintro e w1 ⟨rfl, rfl⟩
                    go_wp2_with fail
                    go_ret
                    exact ⟨by rw [HRec.out]; rfl, F0.out⟩
          · have n5 := k1
            clear k1
            have c1 : (r.kind == 1) = false := by simpa using n1
            have c2 : (r.kind == 2) = false := by simpa using n2
            have c3 : (r.kind == 3) = false := by simpa using n3
            have c4 : (r.kind == 4) = false := by simpa using n4
            have c5 : (r.kind == 5) = false := by simpa using n5
            have HRec := Lib.hid (show recB r = false by unfold recB; simp [n1, n2, n3, n4, n5])
            clear n1 n2 n3 n4 n5 hsq
            go_wp2_with fail
            go_ret
            exact ⟨by rw [HRec.out]; rfl, F0.out⟩
set_option maxRecDepth 100000 in
set_option maxHeartbeats 2000000 in
theorem rcheck_ok (r : Rc) (w : World) : Calls Tryz.prog 86 #[rcV r] w fun e w' => e = .returned (.int .i64 (if recB r = true then 0 else 160)) ∧ Fr (fun _ => False) w w' := by
  obtain ⟨W, hW⟩ : ∃ W, W = w.alloc (rcC r) := ⟨_, rfl⟩
  obtain ⟨z, hz⟩ : ∃ z, z = w.heap.size := ⟨_, rfl⟩
  have f0 : Fr (fun _ => False) w W := by rw [hW]; exact Fr.alloc (Fr.refl _ _) _
  have hg : W.heap[z]? = some (rcC r) := by rw [hW, hz]; exact heap_alloc_at _ _
  have z0 := (cell_of hg 0).trans (show _ = some (Value.int .i64 r.kind) from rfl)
  have z1 := (cell_of hg 1).trans (show _ = some (Value.int .u32 (r.id : Int)) from rfl)
  have z2 := (cell_of hg 2).trans (show _ = some (Value.int .i64 r.seat) from rfl)
  have z3 := (cell_of hg 3).trans (show _ = some (Value.int .i64 r.till) from rfl)
  have z4 := (cell_of hg 4).trans (show _ = some (Value.int .i64 r.clock) from rfl)
  have F0 := Lib.hid f0
  clear f0 hg
  have HM := Lib.hid (rmay_ok r W)
  obtain ⟨q, hq⟩ : ∃ q, q = recB r := ⟨_, rfl⟩
  rw [← hq] at HM
  rw [← hq]
  clear hq
  go_enter Tryz.func86, Tryz.ntmps86
  go_upto_region 1 with fail
  rw [← hW, ← hz]
  clear hW hz
  go_wp2_with fail
  refine HM.out.mono ?_
  rintro e w1 ⟨rfl, f1⟩
  have F1 := Lib.hid (F0.out.trans f1 (fun _ _ h => h))
  clear f1 z0 z1 z2 z3 z4
  cases q with
  | false =>
    go_wp2_with fail
    go_ret
    exact ⟨rfl, F1.out⟩
  | true =>
    go_wp2_with fail
    go_ret
    exact ⟨rfl, F1.out⟩
set_option maxRecDepth 100000 in
set_option maxHeartbeats 2000000 in
theorem rnew_ok (w : World) {n m q : Nat} (h1 : 1 ≤ n ∧ n ≤ 1024) (h2 : 1 ≤ m ∧ m ≤ 4096) (h3 : 1 ≤ q ∧ q ≤ 64) : Calls Tryz.prog 14 #[shV n m q] w fun e w' => ∃ wb, e = .returned (.tuple #[.pointer (some ⟨wb, 0, none⟩), .int .i64 0]) ∧ RefAt w' wb (.slice none 0 0) (bk0 n m q) ∧ w.heap.size ≤ wb ∧ Fr (fun _ => False) w w' := by
  obtain ⟨W, hW⟩ : ∃ W, W = w.alloc (.cells #[.int .i64 (n : Int), .int .i64 (m : Int), .int .i64 (q : Int)] 23) := ⟨_, rfl⟩
  obtain ⟨z, hz⟩ : ∃ z, z = w.heap.size := ⟨_, rfl⟩
  have f0 : Fr (fun _ => False) w W := by rw [hW]; exact Fr.alloc (Fr.refl _ _) _
  have hg : W.heap[z]? = some (.cells #[.int .i64 (n : Int), .int .i64 (m : Int), .int .i64 (q : Int)] 23 (0, 0)) := by rw [hW, hz]; exact heap_alloc_at _ _
  have z0 := (cell_of hg 0).trans (show _ = some (Value.int .i64 (n : Int)) from rfl)
  have z1 := (cell_of hg 1).trans (show _ = some (Value.int .i64 (m : Int)) from rfl)
  have z2 := (cell_of hg 2).trans (show _ = some (Value.int .i64 (q : Int)) from rfl)
  have F0 := Lib.hid f0
  clear f0 hg
  have hc := rshape_check n m q W
  rw [show shOk n m q = true by unfold shOk; simp; omega] at hc
  simp only [if_true] at hc
  have HC := Lib.hid hc; have HG := Lib.hid (show W.heap[z]? = some (.cells #[.int .i64 (n : Int), .int .i64 (m : Int), .int .i64 (q : Int)] 23 (0, 0)) by rw [hW, hz]; exact heap_alloc_at _ _)
  clear hc h1 h2 h3
  go_enter Tryz.func14, Tryz.ntmps14
  go_upto_region 1 with fail
  rw [← hW, ← hz]
  clear hW hz
  go_wp2_with fail
  refine HC.out.mono ?_
  rintro e w1 ⟨rfl, f1⟩
  have hg1 := f1.get HG.out (fun h => h)
  have F1 := Lib.hid (F0.out.trans f1 (fun _ _ h => h))
  clear f1 z0 z1 z2
  have z0 := (cell_of hg1 0).trans (show _ = some (Value.int .i64 (n : Int)) from rfl)
  have z1 := (cell_of hg1 1).trans (show _ = some (Value.int .i64 (m : Int)) from rfl)
  have z2 := (cell_of hg1 2).trans (show _ = some (Value.int .i64 (q : Int)) from rfl)
  clear hg1
  go_wp2_with fail
  refine bodyPost_ret (v := .tuple #[.pointer (some ⟨w1.heap.size, 0, none⟩), .int .i64 0]) ?_ rfl ⟨_, rfl, ⟨heap_alloc_at _ _, World.ownsRow_nil _ _ _ _, by simp [Value.ownBlock]⟩, F1.out.size, F1.out.trans (Fr.alloc (Fr.refl _ _) _) (fun _ _ h => h)⟩
  simp [results, Tryz.f14, go_sem]
end Go.Proofs.YtffnjnnmlfgngaaGreat.Bk
namespace Go.Proofs.YtffnjnnmlfgngaaGreat.Bk
open Go.RowKit Go.Shelf
attribute [local go_sem] Oper.semAt_some
/-- What a change makes of the document's book. -/
def RAft (wb : Nat) (v : Value) (b' : Bk) (w w' : World) : Prop := ∃ v', RefAt w' wb v' b' ∧ Fr (fun x => x = wb ∨ v.ownBlock = some x) w w' ∧ ∀ x, v'.ownBlock = some x → v.ownBlock = some x ∨ w.heap.size ≤ x
theorem RAft.same {wb : Nat} {v : Value} {b : Bk} {w w' : World} (h : RefAt w wb v b) (f : Fr (fun _ => False) w w') : RAft wb v b w w' := ⟨v, h.keep f, f.mono (fun _ _ h => h.elim), fun _ h => .inl h⟩
theorem bTick_one (L : List Bo) (x : Bo) (c : Int) : bTick (L ++ [x]) c = if x.2.2 = 0 ∨ c < x.2.2 then bTick L c ++ [x] else bTick L c := by
  unfold bTick
  rw [List.filter_append]
  by_cases h : x.2.2 = 0 ∨ c < x.2.2
  · rw [if_pos h, List.filter_cons_of_pos (by simpa using h)]; rfl
  · rw [if_neg h, List.filter_cons_of_neg (by simpa using h)]; simp
set_option maxRecDepth 100000 in
set_option maxHeartbeats 4000000 in
theorem rtick_ok {w : World} {wb : Nat} {v : Value} {b : Bk} (h : RefAt w wb v b) (hl : b.L.length ≤ 100000) (c : Int) : Calls Tryz.prog 88 #[.pointer (some ⟨wb, 0, none⟩), .int .i64 c] w fun e w' => e = .returned (.int .i64 (tickE b c : Nat)) ∧ RAft wb v (tickB b c) w w' := by
  have c6 := h.c.2.2.2.2.2.2
  have y6 := free_of h.head 6
  by_cases hle : c ≤ b.clock
  · have b1 : decide (c ≤ b.clock) = true := by simpa using hle
    rw [show tickE b c = 173 from if_pos hle, show tickB b c = b from if_pos hle]
    have H := Lib.hid h
    clear h hle hl
    go_enter Tryz.func88, Tryz.ntmps88
    go_wp2_with fail
    go_ret
    exact ⟨rfl, RAft.same H.out (Fr.refl _ _)⟩
  · have b1 : decide (c ≤ b.clock) = false := by simpa using hle
    rw [show tickE b c = 0 from if_neg hle, show tickB b c = { b with L := bTick b.L c, clock := c } from if_neg hle]
    have fs : Fr (fun y => y = wb) w (w.setCell ⟨wb, 6, none⟩ (.int .i64 c)) := Fr.setCell (F := fun y => y = wb) (p := ⟨wb, 6, none⟩) (Fr.refl _ _) (fun _ => rfl) _
    have hs : RefAt (w.setCell ⟨wb, 6, none⟩ (.int .i64 c)) wb v { b with clock := c } := ⟨setCell_blk (o := 6) h.head _, Row.fr h.row fs (fun y hy e => h.ne (by rw [hy, e])), h.ne⟩
    have Hwb := Lib.hid (show wb < w.heap.size from lt_of_block h.head)
    have Hvl := Lib.hid (show ∀ y, v.ownBlock = some y → y < w.heap.size from fun y hy => Row.lt h.row hy)
    have HS := Lib.hid hs; have FS := Lib.hid fs; have HL := Lib.hid hl
    obtain ⟨a, cc, hv⟩ := bos_slice h.row
    clear h hle hs fs hl
    go_enter Tryz.func88, Tryz.ntmps88
    go_upto_block 0 with fail
    obtain ⟨W0, hW0⟩ : ∃ W0, W0 = w.setCell ⟨wb, 6, none⟩ (.int .i64 c) := ⟨_, rfl⟩
    rw [← hW0] at HS FS ⊢
    clear hW0 c6 y6
    go_cut [5] (fun s5 wx => RefAt wx wb v { b with clock := c } ∧ Bos wx s5 (bTick b.L c) ∧ (∀ y, s5.ownBlock = some y → w.heap.size ≤ y) ∧ Fr (fun y => y = wb) w wx)
    case first =>
      go_wp2_with fail
      go_loopw [5, 6] (fun s5 s6 wr => ∃ (i : Nat) (v5 : Value), s5 = v5 ∧ s6 = .int .i64 (i : Int) ∧ i ≤ b.L.length ∧ RefAt wr wb v { b with clock := c } ∧ Bos wr v5 (bTick (b.L.take i) c) ∧ (∀ y, v5.ownBlock = some y → w.heap.size ≤ y) ∧ Fr (fun y => y = wb) w wr) (fun _ s6 _ => b.L.length - (intOf s6).toNat)
      case atStart => exact ⟨0, _, rfl, rfl, Nat.zero_le _, HS.out, World.ownsRow_nil _ _ _ _, by simp [Value.ownBlock], FS.out⟩
      case round =>
        obtain ⟨i, v5, rfl, rfl, hi, hB, hV, hO, hF⟩ := hrel
        have c4 := hB.c.2.2.2.2.1
        rw [hv] at c4
        by_cases hlt : i < b.L.length
        · have hlt' : (i : Int) < (b.L.length : Int) := by omega
          have i0 : (0 : Int) ≤ (i : Int) := by omega
          have hrow := hB.row
          rw [hv] at hrow
          obtain ⟨g, cap, e1, d0, d1, d2⟩ := Bos.cells hrow hlt
          obtain ⟨x, hx⟩ : ∃ x, x = b.L[i] := ⟨_, rfl⟩
          have hxs : ({ b with clock := c } : Bk).L[i] = x := hx.symm
          rw [hxs] at d0 d1 d2
          simp only [Value.slice.injEq] at e1
          obtain ⟨e1a, -, e1c⟩ := e1
          rw [e1a] at c4
          obtain ⟨k1, hk1⟩ : ∃ k1, k1 = i + 1 := ⟨_, rfl⟩
          have hk5 : k1 ≤ 100000 := by have := HL.out; omega
          have e1 : (i : Int) + 1 = (k1 : Int) := by rw [hk1]; push_cast; rfl
          have HK1 := Lib.hid (show k1 = i + 1 ∧ k1 ≤ b.L.length from ⟨hk1, hk1 ▸ hlt⟩)
          have htk : bTick (b.L.take k1) c = if x.2.2 = 0 ∨ c < x.2.2 then bTick (b.L.take i) c ++ [x] else bTick (b.L.take i) c := by rw [hk1, (List.take_append_getElem hlt).symm, ← hx]; exact bTick_one _ _ _
          have HL5 := Lib.hid (show (bTick (b.L.take i) c).length ≤ 100000 from by
            have := HL.out
            exact Nat.le_trans (List.length_filter_le _ _) (by rw [List.length_take]; omega))
          have HB5 := Lib.hid hB; have HV5 := Lib.hid hV; have HO5 := Lib.hid hO; have HF5 := Lib.hid hF
          clear hB hV hO hF hi hlt hx hk1 hrow e1a e1c hxs
          have e2 : wrap64 (k1 : Int) = (k1 : Int) := by clear d0 d1 d2 c4 htk; unfold wrap64; omega
          have e3 : IntKind.i64.wrap (k1 : Int) = (k1 : Int) := by clear d0 d1 d2 c4 htk; rw [IntKind.wrap_i64]; omega
          clear hk5
          by_cases u0 : x.2.2 = 0
          · rw [if_pos (.inl u0)] at htk
            have Htk := Lib.hid htk
            have b5 : (x.2.2 == 0) = true := by simp [u0]
            clear htk
            clear u0
            obtain ⟨a2, c2, W2, hrun, hrow, fr2, ho2⟩ := Bos.app HV5.out (by have := HL5.out; omega) x
            have HRun := Lib.hid hrun
            have HN := Lib.hid (show RefAt W2 wb v { b with clock := c } ∧ Bos W2 (.slice a2 ((bTick (b.L.take i) c).length + 1) c2) (bTick (b.L.take k1) c) ∧ (∀ y, (Value.slice a2 ((bTick (b.L.take i) c).length + 1) c2).ownBlock = some y → w.heap.size ≤ y) ∧ Fr (fun y => y = wb) w W2 from by
              refine ⟨HB5.out.fr fr2 (fun e => by have := HO5.out _ e; have := Hwb.out; omega) (fun y hy e => by have := HO5.out _ e; have := Hvl.out y hy; omega), by rw [Htk.out]; exact hrow, fun y hy => ?_, HF5.out.trans fr2 (fun y hy e => by have := HO5.out _ e; omega)⟩
              rcases ho2 y hy with e | e
              · exact HO5.out y e
              · have := HF5.out.size; omega)
            clear hrun hrow fr2 ho2
            go_wp2_with (at_builtin; refine wpList_append_run rfl _ _ _ rfl rfl rfl HRun.out ?_)
            go_roundw
            case rel => exact ⟨k1, _, rfl, rfl, HK1.out.2, HN.out.1, HN.out.2.1, HN.out.2.2.1, HN.out.2.2.2⟩
            case measure => have := HK1.out; simp [intOf]; omega
          · by_cases u1 : c < x.2.2
            · rw [if_pos (.inr u1)] at htk
              have Htk := Lib.hid htk
              have b5 : (x.2.2 == 0) = false := by simp [u0]
              have b6 : decide (c < x.2.2) = true := by simpa using u1
              clear htk u1
              clear u0
              obtain ⟨a2, c2, W2, hrun, hrow, fr2, ho2⟩ := Bos.app HV5.out (by have := HL5.out; omega) x
              have HRun := Lib.hid hrun
              have HN := Lib.hid (show RefAt W2 wb v { b with clock := c } ∧ Bos W2 (.slice a2 ((bTick (b.L.take i) c).length + 1) c2) (bTick (b.L.take k1) c) ∧ (∀ y, (Value.slice a2 ((bTick (b.L.take i) c).length + 1) c2).ownBlock = some y → w.heap.size ≤ y) ∧ Fr (fun y => y = wb) w W2 from by
                refine ⟨HB5.out.fr fr2 (fun e => by have := HO5.out _ e; have := Hwb.out; omega) (fun y hy e => by have := HO5.out _ e; have := Hvl.out y hy; omega), by rw [Htk.out]; exact hrow, fun y hy => ?_, HF5.out.trans fr2 (fun y hy e => by have := HO5.out _ e; omega)⟩
                rcases ho2 y hy with e | e
                · exact HO5.out y e
                · have := HF5.out.size; omega)
              clear hrun hrow fr2 ho2
              go_wp2_with (at_builtin; refine wpList_append_run rfl _ _ _ rfl rfl rfl HRun.out ?_)
              go_roundw
              case rel => exact ⟨k1, _, rfl, rfl, HK1.out.2, HN.out.1, HN.out.2.1, HN.out.2.2.1, HN.out.2.2.2⟩
              case measure => have := HK1.out; simp [intOf]; omega
            · rw [if_neg (by omega)] at htk
              have Htk := Lib.hid htk
              have b5 : (x.2.2 == 0) = false := by simp [u0]
              have b6 : decide (c < x.2.2) = false := by simpa using u1
              clear htk u1
              clear u0
              go_wp2_with fail
              go_roundw
              case rel => exact ⟨k1, _, rfl, rfl, HK1.out.2, HB5.out, by rw [Htk.out]; exact HV5.out, HO5.out, HF5.out⟩
              case measure => have := HK1.out; simp [intOf]; omega
        · have hlt' : ¬ (i : Int) < (b.L.length : Int) := by omega
          rw [List.take_of_length_le (by omega)] at hV
          have HN := Lib.hid (And.intro hB (And.intro hV (And.intro hO hF)))
          clear hi hlt hB hV hO hF
          go_wp2_with fail
          go_meet
          exact HN.out
    case rest =>
    obtain ⟨hB, hV, hO, hF⟩ := hcut
    obtain ⟨a5, c5, rfl⟩ := bos_slice hV
    have c4 := hB.c.2.2.2.2.1
    have y4 := free_of hB.head 4
    have fs : Fr (fun y => y = wb) wc (wc.setCell ⟨wb, 4, none⟩ (.slice a5 (bTick b.L c).length c5)) := Fr.setCell (F := fun y => y = wb) (p := ⟨wb, 4, none⟩) (Fr.refl _ _) (fun _ => rfl) _
    have hne : (Value.slice a5 (bTick b.L c).length c5).ownBlock ≠ some wb := fun e => by have := hO _ e; have := Hwb.out; omega
    have HN := Lib.hid (show RAft wb v { b with L := bTick b.L c, clock := c } w (wc.setCell ⟨wb, 4, none⟩ (.slice a5 (bTick b.L c).length c5)) from ⟨(Value.slice a5 (bTick b.L c).length c5), ⟨setCell_blk (o := 4) hB.head _, Row.fr hV fs (fun y hy e => hne (by rw [hy, e])), hne⟩, (hF.trans fs (fun _ _ h => h)).mono (fun _ _ h => .inl h), fun y hy => .inr (hO y hy)⟩)
    clear hB hV hO hF fs hne
    go_wp2_with fail
    go_ret
    exact ⟨rfl, HN.out⟩
end Go.Proofs.YtffnjnnmlfgngaaGreat.Bk
namespace Go.Proofs.YtffnjnnmlfgngaaGreat.Bk
open Go.RowKit Go.Shelf
attribute [local go_sem] Oper.semAt_some
theorem pos_seat {L : List Bo} {k i : Int} (h : PosOf (fun x => x.2.1 == k) L i) : (0 ≤ i ↔ (bSeat L k).isSome = true) := by
  rcases h with ⟨rfl, h⟩ | ⟨j, hj, rfl, h⟩
  · have : bSeat L k = none := by
      cases e : bSeat L k with
      | none => rfl
      | some x => have h1 := bSeat_id e; have := h x h1.2; simp [h1.1] at this
    rw [this]; simp
  · refine ⟨fun _ => ?_, fun _ => by omega⟩
    cases e : bSeat L k with
    | none => have := bSeat_none e L[j] (List.getElem_mem hj); exact absurd (by simpa using h) this
    | some x => rfl
set_option maxRecDepth 100000 in
set_option maxHeartbeats 4000000 in
theorem rhold_ok {w : World} {wb : Nat} {v : Value} {b : Bk} (h : RefAt w wb v b) (hraw : Raw b) {r : Rc} : Calls Tryz.prog 87 #[.pointer (some ⟨wb, 0, none⟩), rcV r] w fun e w' => e = .returned (.int .i64 (holdE b r : Nat)) ∧ RAft wb v (holdB b r) w w' := by
  have hl : b.L.length ≤ 100000 := by have := hraw.few; have := hraw.c1; omega
  obtain ⟨W, hW⟩ : ∃ W, W = w.alloc (rcC r) := ⟨_, rfl⟩
  obtain ⟨z, hz⟩ : ∃ z, z = w.heap.size := ⟨_, rfl⟩
  have f0 : Fr (fun _ => False) w W := by rw [hW]; exact Fr.alloc (Fr.refl _ _) _
  have hg : W.heap[z]? = some (rcC r) := by rw [hW, hz]; exact heap_alloc_at _ _
  have hR := h.keep f0
  have Hwz := Lib.hid (show wb ≠ z ∧ ∀ y, v.ownBlock = some y → y ≠ z from ⟨fun e => by have := lt_of_block h.head; omega, fun y hy e => by have := Row.lt h.row hy; omega⟩)
  obtain ⟨c0, c1, c2, c3, c4, c5, c6⟩ := hR.c
  have HSame := Lib.hid (fun (hn : holdE b r ≠ 0) (w' : World) (f : Fr (fun _ => False) W w') => show RAft wb v (holdB b r) w w' by rw [holdE_ne hn]; exact RAft.same h (f0.trans f (fun _ _ h => h)))
  have hHB : holdE b r = 0 → holdB b r = { b with L := b.L ++ [(r.id, r.seat, r.till)], next := b.next + 1 } := fun e => if_pos e
  have HHB := Lib.hid hHB
  have HTk := Lib.hid (fun (w' : World) (f : Fr (fun _ => False) W w') => rtaken_ok (hR.keep f) hl r.seat)
  have HR := Lib.hid hR; have F0 := Lib.hid f0; have HG := Lib.hid hg; have HL := Lib.hid hl; have HRaw := Lib.hid hraw
  obtain ⟨ri, hri⟩ : ∃ ri, ri = r.id := ⟨_, rfl⟩
  obtain ⟨rs, hrs⟩ : ∃ rs, rs = r.seat := ⟨_, rfl⟩
  obtain ⟨rt, hrt⟩ : ∃ rt, rt = r.till := ⟨_, rfl⟩
  have z1 := (cell_of hg 1).trans (show _ = some (Value.int .u32 (r.id : Int)) from rfl)
  have z2 := (cell_of hg 2).trans (show _ = some (Value.int .i64 r.seat) from rfl)
  have z3 := (cell_of hg 3).trans (show _ = some (Value.int .i64 r.till) from rfl)
  rw [← hri] at z1; rw [← hrs] at z2 HTk; rw [← hrt] at z3
  have Hx := Lib.hid (show ri = r.id ∧ rs = r.seat ∧ rt = r.till from ⟨hri, hrs, hrt⟩)
  clear hri hrs hrt
  obtain ⟨a, cc, hv⟩ := bos_slice h.row
  have Hv := Lib.hid hv
  rw [hv] at c4
  clear h hraw hl f0 hg hR hHB
  go_enter Tryz.func87, Tryz.ntmps87
  go_upto_region 1 with fail
  rw [← hW, ← hz]
  clear hW hz hv
  by_cases e1 : ri ≠ b.next
  · have b1 : ((ri : Int) != (b.next : Int)) = true := by simp; omega
    have HE := Lib.hid (show holdE b r = 2 by unfold holdE; rw [if_pos (by rw [← Hx.out.1]; exact e1)])
    clear e1
    go_region_held3 (fun w' => w'.cell? ⟨z, 1, none⟩ = some (.int .u32 (ri : Int)) ∧ w'.cell? ⟨wb, 5, none⟩ = some (.int .u32 (b.next : Int))) (go_keep) (fail)
    go_wp2_with fail
    go_ret
    exact ⟨by rw [HE.out]; rfl, HSame.out (by rw [HE.out]; decide) _ (by exact ⟨rfl, rfl, rfl, Nat.le_refl _, fun _ _ _ => rfl⟩)⟩
  have b1 : ((ri : Int) != (b.next : Int)) = false := by simp; omega
  go_region_held3 (fun w' => w'.cell? ⟨z, 1, none⟩ = some (.int .u32 (ri : Int)) ∧ w'.cell? ⟨wb, 5, none⟩ = some (.int .u32 (b.next : Int))) (go_keep) (fail)
  go_upto_region 3 with fail
  by_cases e2 : (b.seats : Int) ≤ rs
  · have b2 : decide ((b.seats : Int) ≤ rs) = true := by simpa using e2
    have HE := Lib.hid (show holdE b r = 140 by unfold holdE; rw [if_neg (by rw [← Hx.out.1]; exact e1), if_pos (by rw [← Hx.out.2.1]; exact e2)])
    clear e1 e2
    go_region_held3 (fun w' => w'.cell? ⟨z, 2, none⟩ = some (.int .i64 rs) ∧ w'.cell? ⟨wb, 1, none⟩ = some (.int .i64 (b.seats : Int))) (go_keep) (fail)
    go_wp2_with fail
    go_ret
    exact ⟨by rw [HE.out]; rfl, HSame.out (by rw [HE.out]; decide) _ (by exact ⟨rfl, rfl, rfl, Nat.le_refl _, fun _ _ _ => rfl⟩)⟩
  have b2 : decide ((b.seats : Int) ≤ rs) = false := by simpa using e2
  go_region_held3 (fun w' => w'.cell? ⟨z, 2, none⟩ = some (.int .i64 rs) ∧ w'.cell? ⟨wb, 1, none⟩ = some (.int .i64 (b.seats : Int))) (go_keep) (fail)
  go_upto_region 5 with fail
  by_cases e3 : rt ≤ b.clock
  · have b3 : decide (rt ≤ b.clock) = true := by simpa using e3
    have HE := Lib.hid (show holdE b r = 173 by unfold holdE; rw [if_neg (by rw [← Hx.out.1]; exact e1), if_neg (by rw [← Hx.out.2.1]; omega), if_pos (by rw [← Hx.out.2.2]; exact e3)])
    clear e1 e2 e3
    go_region_held3 (fun w' => w'.cell? ⟨z, 3, none⟩ = some (.int .i64 rt) ∧ w'.cell? ⟨wb, 6, none⟩ = some (.int .i64 b.clock)) (go_keep) (fail)
    go_wp2_with fail
    go_ret
    exact ⟨by rw [HE.out]; rfl, HSame.out (by rw [HE.out]; decide) _ (by exact ⟨rfl, rfl, rfl, Nat.le_refl _, fun _ _ _ => rfl⟩)⟩
  have b3 : decide (rt ≤ b.clock) = false := by simpa using e3
  go_region_held3 (fun w' => w'.cell? ⟨z, 3, none⟩ = some (.int .i64 rt) ∧ w'.cell? ⟨wb, 6, none⟩ = some (.int .i64 b.clock)) (go_keep) (fail)
  go_wp2_with fail
  refine (HTk.out _ (by exact ⟨rfl, rfl, rfl, Nat.le_refl _, fun _ _ _ => rfl⟩)).mono ?_
  rintro e w4 ⟨⟨i, rfl, hp⟩, rfl⟩
  have HPs := Lib.hid (pos_seat hp)
  clear hp
  by_cases e4 : 0 ≤ i
  · have b4 : decide (0 ≤ i) = true := by simpa using e4
    have HE := Lib.hid (show holdE b r = 170 by unfold holdE; rw [if_neg (by rw [← Hx.out.1]; exact e1), if_neg (by rw [← Hx.out.2.1]; omega), if_neg (by rw [← Hx.out.2.2]; omega), if_pos (by rw [← Hx.out.2.1]; exact HPs.out.1 e4)])
    clear e1 e2 e3 e4
    go_wp2_with fail
    go_ret
    exact ⟨by rw [HE.out]; rfl, HSame.out (by rw [HE.out]; decide) _ (by exact ⟨rfl, rfl, rfl, Nat.le_refl _, fun _ _ _ => rfl⟩)⟩
  have b4 : decide (0 ≤ i) = false := by simpa using e4
  go_upto_region 9 with fail
  by_cases e5 : b.codes ≤ b.L.length ∨ b.next = 4294967295
  · have HE := Lib.hid (show holdE b r = 6 by unfold holdE; rw [if_neg (by rw [← Hx.out.1]; exact e1), if_neg (by rw [← Hx.out.2.1]; omega), if_neg (by rw [← Hx.out.2.2]; omega), if_neg (by rw [← Hx.out.2.1]; exact fun h => by have := HPs.out.2 h; omega), if_pos e5])
    go_cut [49] (fun s wx => s = .bool true ∧ Fr (fun _ => False) W wx)
    case first =>
      by_cases e6 : b.codes ≤ b.L.length
      · have b6 : decide ((b.codes : Int) ≤ (b.L.length : Int)) = true := by simp; omega
        have b6' : decide (b.codes ≤ b.L.length) = true := by simp; omega
        clear e1 e2 e3 e4 e5 e6
        go_big_quiet (fail)
        go_wp2_with fail
        go_meet
        exact ⟨rfl, by exact ⟨rfl, rfl, rfl, Nat.le_refl _, fun _ _ _ => rfl⟩⟩
      · have b6 : decide ((b.codes : Int) ≤ (b.L.length : Int)) = false := by simp; omega
        have b6' : decide (b.codes ≤ b.L.length) = false := by simp; omega
        have b7 : ((b.next : Int) == 4294967295) = true := by simp; omega
        have b7' : (b.next == 4294967295) = true := by simp; omega
        clear e1 e2 e3 e4 e5 e6
        go_big_quiet (fail)
        go_wp2_with fail
        go_meet
        exact ⟨rfl, by exact ⟨rfl, rfl, rfl, Nat.le_refl _, fun _ _ _ => rfl⟩⟩
    case rest =>
    obtain ⟨rfl, f9⟩ := hcut
    have F9 := Lib.hid f9
    clear f9 e1 e2 e3 e4 e5
    go_wp2_with fail
    go_ret
    exact ⟨by rw [HE.out]; rfl, HSame.out (by rw [HE.out]; decide) _ F9.out⟩
  have HE := Lib.hid (show holdE b r = 0 by unfold holdE; rw [if_neg (by rw [← Hx.out.1]; exact e1), if_neg (by rw [← Hx.out.2.1]; omega), if_neg (by rw [← Hx.out.2.2]; omega), if_neg (by rw [← Hx.out.2.1]; exact fun h => by have := HPs.out.2 h; omega), if_neg e5])
  have Hnx := Lib.hid (show b.next + 1 < 4294967296 by have := HRaw.out.n1; omega)
  go_cut [49] (fun s wx => s = .bool false ∧ Fr (fun _ => False) W wx)
  case first =>
    have b6 : decide ((b.codes : Int) ≤ (b.L.length : Int)) = false := by simp; omega
    have b6' : decide (b.codes ≤ b.L.length) = false := by simp; omega
    have b7 : ((b.next : Int) == 4294967295) = false := by simp; omega
    have b7' : (b.next == 4294967295) = false := by simp; omega
    clear e1 e2 e3 e4 e5
    go_big_quiet (fail)
    go_wp2_with fail
    go_meet
    exact ⟨rfl, by exact ⟨rfl, rfl, rfl, Nat.le_refl _, fun _ _ _ => rfl⟩⟩
  case rest =>
  obtain ⟨rfl, f9⟩ := hcut
  clear e1 e2 e3 e4 e5 z1 z2 z3 c0 c1 c2 c3 c4 c5 c6 b1 b2 b3 b4
  have F9 := Lib.hid f9
  have hR9 := HR.out.keep f9
  have hrowD : Bos wc.drew v b.L := Row.fr hR9.row (Fr.drew (Fr.refl (fun _ => False) _)) (fun _ _ h => h)
  obtain ⟨a2, c2, W2, hrun, hrow2, fr2, ho2⟩ := Bos.app hrowD (by have := HL.out; omega) (ri, rs, rt)
  have hwb : ¬ v.ownBlock = some wb := hR9.ne
  have hzb : ¬ v.ownBlock = some z := fun e => Hwz.out.2 z e rfl
  have lwb : wb < wc.heap.size := lt_of_block hR9.head
  have g13 : Fr (fun y => v.ownBlock = some y) wc W2 := (Fr.drew (Fr.refl (fun y => v.ownBlock = some y) wc)).trans fr2 (fun _ _ h => h)
  have fs : Fr (fun y => y = wb) W2 (W2.setCell ⟨wb, 4, none⟩ (.slice a2 (b.L.length + 1) c2)) := Fr.setCell (F := fun y => y = wb) (p := ⟨wb, 4, none⟩) (Fr.refl _ _) (fun _ => rfl) _
  have g16 : Fr (fun y => y = wb ∨ v.ownBlock = some y) wc (W2.setCell ⟨wb, 4, none⟩ (.slice a2 (b.L.length + 1) c2)) := (g13.mono (fun _ _ h => .inr h)).trans fs (fun _ _ h => .inl h)
  have hne2 : (Value.slice a2 (b.L.length + 1) c2).ownBlock ≠ some wb := fun e => by
    rcases ho2 wb e with h | h
    · exact hwb h
    · have : wc.drew.heap.size = wc.heap.size := rfl
      omega
  have HN := Lib.hid (show RefAt (W2.setCell ⟨wb, 4, none⟩ (.slice a2 (b.L.length + 1) c2)) wb (.slice a2 (b.L.length + 1) c2) { b with L := b.L ++ [(ri, rs, rt)] } ∧ Fr (fun y => y = wb ∨ v.ownBlock = some y) W (W2.setCell ⟨wb, 4, none⟩ (.slice a2 (b.L.length + 1) c2)) ∧ ∀ y, (Value.slice a2 (b.L.length + 1) c2).ownBlock = some y → v.ownBlock = some y ∨ w.heap.size ≤ y from
    ⟨⟨setCell_blk (o := 4) (g13.get hR9.head hwb) _, Row.fr hrow2 fs (fun y hy e => hne2 (by rw [hy, e])), hne2⟩, (f9.mono (fun _ _ h => h.elim)).trans g16 (fun _ _ h => h), fun y hy => by
      rcases ho2 y hy with h | h
      · exact .inl h
      · have h1 := F0.out.size; have h2 := f9.size; have h3 : wc.drew.heap.size = wc.heap.size := rfl
        right; omega⟩)
  have HSall := Lib.hid (show ∀ (F : Nat → Prop) (W2 : World) (f : Fr F wc W2), ¬ F z → W2.cell? ⟨z, 1, none⟩ = some (.int .u32 (ri : Int)) ∧ W2.cell? ⟨z, 2, none⟩ = some (.int .i64 rs) ∧ W2.cell? ⟨z, 3, none⟩ = some (.int .i64 rt) from fun F W2 f hF => by
    have hgz := f.get (f9.get HG.out (fun h => h)) hF
    rw [Hx.out.1, Hx.out.2.1, Hx.out.2.2]
    exact ⟨(cell_of hgz 1).trans rfl, (cell_of hgz 2).trans rfl, (cell_of hgz 3).trans rfl⟩)
  rw [Hv.out] at hrun
  have HRun := Lib.hid hrun; have G13 := Lib.hid g13; have G16 := Lib.hid g16
  have Nz13 := Lib.hid hzb; have Nz16 := Lib.hid (show ¬ (z = wb ∨ v.ownBlock = some z) from fun e => e.elim (fun h => Hwz.out.1 h.symm) hzb)
  have c4 := hR9.c.2.2.2.2.1
  rw [Hv.out] at c4
  have c4d : (wc.alloc (.cells #[.int .u32 (ri : Int), .int .i64 rs, .int .i64 rt] 68)).cell? ⟨wb, 4, none⟩ = some (.slice a b.L.length cc) := ((Fr.alloc (Fr.refl (fun _ => False) wc) _).cell lwb (fun h => h)).trans c4
  have c4e : W2.cell? ⟨wb, 4, none⟩ = some (.slice a b.L.length cc) := (g13.cell lwb hwb).trans c4
  have y4e : W2.frozen? ⟨wb, 4, none⟩ = false := free_of (g13.get hR9.head hwb) 4
  clear f9 hR9 hrowD hrun hrow2 fr2 ho2 hwb hzb lwb g13 fs g16 hne2
  go_upto_region 11 with fail
  go_cut [] (fun wx => ∃ v', RefAt wx wb v' { b with L := b.L ++ [(ri, rs, rt)] } ∧ Fr (fun y => y = wb ∨ v.ownBlock = some y) W wx ∧ ∀ y, v'.ownBlock = some y → v.ownBlock = some y ∨ w.heap.size ≤ y)
  case first =>
    refine wp_region_held_drew (S := fun w' => w'.cell? ⟨z, 1, none⟩ = some (.int .u32 (ri : Int)) ∧ w'.cell? ⟨z, 2, none⟩ = some (.int .i64 rs) ∧ w'.cell? ⟨z, 3, none⟩ = some (.int .i64 rt)) (by kernel_rfl) (by exact HSall.out _ _ (Fr.drew (Fr.refl (fun _ => False) _)) (fun h => h)) (fun hHeld => ?_)
    refine wpAnyH_take (i := 0) (v := ?_) rfl (by kernel_rfl) (by kernel_rfl) (by kernel_rfl) (fun _ _ _ h => h) (Or.inl ⟨by rfl, ?_⟩) (by assumption) ?_
    rotate_left
    · intro w' hSw; (try dsimp only at hSw); go_simp; try with_reducible rfl
    try simp only [Act.put, List.getElem_toArray, List.getElem_cons_zero, List.setIfInBounds_toArray, List.set_cons_zero, List.set_cons_succ]
    refine wpAnyH_take (i := 1) (v := ?_) rfl (by kernel_rfl) (by kernel_rfl) (by kernel_rfl) (fun _ _ _ h => h) (Or.inl ⟨by rfl, ?_⟩) (by assumption) ?_
    rotate_left
    · intro w' hSw; (try dsimp only at hSw); go_simp; try with_reducible rfl
    try simp only [Act.put, sL]
    refine wpAnyH_take (i := 2) (v := ?_) rfl (by kernel_rfl) (by kernel_rfl) (by kernel_rfl) (fun _ _ _ h => h) (Or.inl ⟨by rfl, ?_⟩) (by assumption) ?_
    rotate_left
    · intro w' hSw; (try dsimp only at hSw); go_simp; try with_reducible rfl
    try simp only [Act.put, sL]
    refine wpAnyH_take (i := 3) (v := ?_) rfl (by kernel_rfl) (by kernel_rfl) (by kernel_rfl) (fun _ _ _ h => h) (Or.inl ⟨by rfl, ?_⟩) (by assumption) ?_
    rotate_left
    · intro w' hSw; (try dsimp only at hSw); go_simp; try with_reducible rfl
    try simp only [Act.put, sL]
    refine wpAnyH_take (i := 5) (v := ?_) rfl (by kernel_rfl) (by kernel_rfl) (by kernel_rfl) (fun _ _ _ h => h) (Or.inl ⟨by rfl, ?_⟩) (by assumption) ?_
    rotate_left
    · intro w' hSw; (try dsimp only at hSw); go_simp; try with_reducible rfl
    try simp only [Act.put, sL]
    refine wpAnyH_take (i := 6) (v := ?_) rfl (by kernel_rfl) (by kernel_rfl) (by kernel_rfl) (fun _ _ _ h => h) (Or.inl ⟨by rfl, ?_⟩) (by assumption) ?_
    rotate_left
    · intro w' hSw; (try dsimp only at hSw); go_simp; try with_reducible rfl
    try simp only [Act.put, sL]
    refine wpAnyH_take (i := 7) (v := ?_) rfl (by kernel_rfl) (by kernel_rfl) (by kernel_rfl) (fun _ _ _ h => h) (Or.inl ⟨by rfl, ?_⟩) (by assumption) ?_
    rotate_left
    · intro w' hSw; (try dsimp only at hSw); go_simp; try with_reducible rfl
    try simp only [Act.put, sL]
    refine wpAnyH_take (i := 8) (v := ?_) rfl (by kernel_rfl) (by kernel_rfl) (by kernel_rfl) (fun _ _ _ h => h) (Or.inl ⟨by rfl, ?_⟩) (by assumption) ?_
    rotate_left
    · intro w' hSw; (try dsimp only at hSw); go_simp; try with_reducible rfl
    try simp only [Act.put, sL]
    refine wpAnyH_take (i := 9) (v := ?_) rfl (by kernel_rfl) (by kernel_rfl) (by kernel_rfl) (fun _ _ _ h => h) (Or.inl ⟨by rfl, ?_⟩) (by assumption) ?_
    rotate_left
    · intro w' hSw; (try dsimp only at hSw); go_simp; try with_reducible rfl
    try simp only [Act.put, sL]
    refine wpAnyH_take (i := 10) (v := ?_) rfl (by kernel_rfl) (by kernel_rfl) (by kernel_rfl) (fun _ _ _ h => h) (Or.inl ⟨by rfl, ?_⟩) (by assumption) ?_
    rotate_left
    · intro w' hSw; (try dsimp only at hSw); go_simp; try with_reducible rfl
    try simp only [Act.put, sL]
    refine wpAnyH_take (i := 11) (v := ?_) rfl (by kernel_rfl) (by kernel_rfl) (by kernel_rfl) (fun _ _ _ h => h) (Or.inl ⟨by rfl, ?_⟩) (by assumption) ?_
    rotate_left
    · intro w' hSw; (try dsimp only at hSw); go_simp; try with_reducible rfl
    try simp only [Act.put, sL]
    refine wpAnyH_ready (rs := [4, 12]) (by kernel_rfl) (by simp) ?_
    refine AllReadyH.cons rfl (fun K hK => ?_) (AllReadyH.cons rfl (fun K hK => ?_) AllReadyH.nil)
    · go_simp
      skip
      try go_simp
      refine hK.out _ _ ?_ (fun hHeld => ?_)
      · (try dsimp only); exact hHeld
      clear hK K
      try simp only [Act.put, sL]
      refine wpAnyH_ready (rs := [12]) (by kernel_rfl) (by simp) ?_
      refine AllReadyH.cons rfl (fun K hK => ?_) AllReadyH.nil
      go_simp
      skip
      try go_simp
      refine hK.out _ _ ?_ (fun hHeld => ?_)
      · (try dsimp only); exact HSall.out _ _ (Fr.alloc (Fr.drew (Fr.refl (fun _ => False) _)) _) (fun h => h)
      clear hK K
      try simp only [Act.put, sL]
      refine wpAnyH_ready (rs := [13]) (by kernel_rfl) (by simp) ?_
      refine AllReadyH.cons rfl (fun K hK => ?_) AllReadyH.nil
      refine ite_take (by kernel_rfl) ?_
      refine wp_append_run rfl rfl rfl HRun.out ?_
      refine hK.out _ _ ?_ (fun hHeld => ?_)
      · (try dsimp only); exact HSall.out _ _ G13.out Nz13.out
      clear hK K
      try simp only [Act.put, sL]
      refine wpAnyH_take (i := 14) (v := ?_) rfl (by kernel_rfl) (by kernel_rfl) (by kernel_rfl) (fun _ _ _ h => h) (Or.inl ⟨by rfl, ?_⟩) (by assumption) ?_
      rotate_left
      · intro w' hSw; (try dsimp only at hSw); go_simp; try with_reducible rfl
      try simp only [Act.put, sL]
      refine wpAnyH_take (i := 15) (v := ?_) rfl (by kernel_rfl) (by kernel_rfl) (by kernel_rfl) (fun _ _ _ h => h) (Or.inl ⟨by rfl, ?_⟩) (by assumption) ?_
      rotate_left
      · intro w' hSw; (try dsimp only at hSw); go_simp; try with_reducible rfl
      try simp only [Act.put, sL]
      refine wpAnyH_ready (rs := [16]) (by kernel_rfl) (by simp) ?_
      refine AllReadyH.cons rfl (fun K hK => ?_) AllReadyH.nil
      go_simp
      skip
      try go_simp
      refine hK.out _ _ ?_ (fun hHeld => ?_)
      · (try dsimp only); exact HSall.out _ _ G16.out Nz16.out
      clear hK K
      try simp only [Act.put, sL]
      refine wpAnyH_done (by kernel_rfl) ?_ _
      go_wp2_with fail
      go_meet
      exact ⟨_, HN.out⟩
    · go_simp
      skip
      try go_simp
      refine hK.out _ _ ?_ (fun hHeld => ?_)
      · (try dsimp only); exact HSall.out _ _ (Fr.alloc (Fr.drew (Fr.refl (fun _ => False) _)) _) (fun h => h)
      clear hK K
      try simp only [Act.put, sL]
      refine wpAnyH_ready (rs := [4]) (by kernel_rfl) (by simp) ?_
      refine AllReadyH.cons rfl (fun K hK => ?_) AllReadyH.nil
      go_simp
      skip
      try go_simp
      refine hK.out _ _ ?_ (fun hHeld => ?_)
      · (try dsimp only); exact hHeld
      clear hK K
      try simp only [Act.put, sL]
      refine wpAnyH_ready (rs := [13]) (by kernel_rfl) (by simp) ?_
      refine AllReadyH.cons rfl (fun K hK => ?_) AllReadyH.nil
      refine ite_take (by kernel_rfl) ?_
      refine wp_append_run rfl rfl rfl HRun.out ?_
      refine hK.out _ _ ?_ (fun hHeld => ?_)
      · (try dsimp only); exact HSall.out _ _ G13.out Nz13.out
      clear hK K
      try simp only [Act.put, sL]
      refine wpAnyH_take (i := 14) (v := ?_) rfl (by kernel_rfl) (by kernel_rfl) (by kernel_rfl) (fun _ _ _ h => h) (Or.inl ⟨by rfl, ?_⟩) (by assumption) ?_
      rotate_left
      · intro w' hSw; (try dsimp only at hSw); go_simp; try with_reducible rfl
      try simp only [Act.put, sL]
      refine wpAnyH_take (i := 15) (v := ?_) rfl (by kernel_rfl) (by kernel_rfl) (by kernel_rfl) (fun _ _ _ h => h) (Or.inl ⟨by rfl, ?_⟩) (by assumption) ?_
      rotate_left
      · intro w' hSw; (try dsimp only at hSw); go_simp; try with_reducible rfl
      try simp only [Act.put, sL]
      refine wpAnyH_ready (rs := [16]) (by kernel_rfl) (by simp) ?_
      refine AllReadyH.cons rfl (fun K hK => ?_) AllReadyH.nil
      go_simp
      skip
      try go_simp
      refine hK.out _ _ ?_ (fun hHeld => ?_)
      · (try dsimp only); exact HSall.out _ _ G16.out Nz16.out
      clear hK K
      try simp only [Act.put, sL]
      refine wpAnyH_done (by kernel_rfl) ?_ _
      go_wp2_with fail
      go_meet
      exact ⟨_, HN.out⟩
  case rest =>
  obtain ⟨v', hR11, f11, ho11⟩ := hcut
  have c5 := hR11.c.2.2.2.2.2.1
  have y5 := free_of hR11.head 5
  have b7 : IntKind.u32.wrap ((b.next : Int) + 1) = (b.next : Int) + 1 := by rw [IntKind.wrap_u32]; have := Hnx.out; omega
  have HK := Lib.hid (fun (wy : World) (hR11 : RefAt wy wb v' { b with L := b.L ++ [(ri, rs, rt)] }) (f11 : Fr (fun y => y = wb ∨ v.ownBlock = some y) W wy) (ho11 : ∀ y, v'.ownBlock = some y → v.ownBlock = some y ∨ w.heap.size ≤ y) => show RAft wb v (holdB b r) w (wy.setCell ⟨wb, 5, none⟩ (.int .u32 ((b.next : Int) + 1))) by
    have fs : Fr (fun y => y = wb) wy (wy.setCell ⟨wb, 5, none⟩ (.int .u32 ((b.next : Int) + 1))) := Fr.setCell (F := fun y => y = wb) (p := ⟨wb, 5, none⟩) (Fr.refl _ _) (fun _ => rfl) _
    have hh : (wy.setCell ⟨wb, 5, none⟩ (.int .u32 ((b.next : Int) + 1))).heap[wb]? = some (.cells #[.bool true, .int .i64 (b.seats : Int), .int .i64 (b.codes : Int), .int .i64 (b.group : Int), v', .int .u32 ((b.next + 1 : Nat) : Int), .int .i64 b.clock] 52 (0, 0)) := by
      rw [show ((b.next + 1 : Nat) : Int) = (b.next : Int) + 1 by push_cast; rfl]
      exact setCell_blk (o := 5) hR11.head _
    rw [HHB.out HE.out, ← Hx.out.1, ← Hx.out.2.1, ← Hx.out.2.2]
    exact ⟨v', ⟨hh, Row.fr hR11.row fs (fun y hy e => hR11.ne (by rw [hy, e])), hR11.ne⟩, ((F0.out.mono (fun _ _ h => h.elim)).trans f11 (fun _ _ h => h)).trans fs (fun _ _ h => .inl h), ho11⟩)
  have HN2 := Lib.hid (HK.out _ hR11 f11 ho11)
  clear hR11 f11 ho11
  go_wp2_with fail
  go_ret
  exact ⟨by rw [HE.out]; rfl, HN2.out⟩
end Go.Proofs.YtffnjnnmlfgngaaGreat.Bk
namespace Go.Proofs.YtffnjnnmlfgngaaGreat.Bk
open Go.RowKit Go.Shelf
attribute [local go_sem] Oper.semAt_some
theorem RAft.of {wb : Nat} {v : Value} {b' : Bk} {w w1 w2 : World} (h : RAft wb v b' w1 w2) (f : Fr (fun _ => False) w w1) : RAft wb v b' w w2 := by
  obtain ⟨v', h1, h2, h3⟩ := h
  exact ⟨v', h1, (f.mono (fun _ _ h => h.elim)).trans h2 (fun _ _ h => h), fun x hx => (h3 x hx).imp (fun h => h) (fun h => Nat.le_trans f.size h)⟩
set_option maxRecDepth 100000 in
set_option maxHeartbeats 2000000 in
theorem rapply_bad {w : World} {wb : Nat} {v : Value} {b : Bk} (h : RefAt w wb v b) {r : Rc} (hr : recB r = false) : Calls Tryz.prog 46 #[.pointer (some ⟨wb, 0, none⟩), rcV r] w fun e w' => e = .returned (.int .i64 160) ∧ RAft wb v b w w' := by
  obtain ⟨W, hW⟩ : ∃ W, W = w.alloc (rcC r) := ⟨_, rfl⟩
  obtain ⟨z, hz⟩ : ∃ z, z = w.heap.size := ⟨_, rfl⟩
  have f0 : Fr (fun _ => False) w W := by rw [hW]; exact Fr.alloc (Fr.refl _ _) _
  have hg : W.heap[z]? = some (rcC r) := by rw [hW, hz]; exact heap_alloc_at _ _
  have z0 := (cell_of hg 0).trans (show _ = some (Value.int .i64 r.kind) from rfl)
  have z1 := (cell_of hg 1).trans (show _ = some (Value.int .u32 (r.id : Int)) from rfl)
  have z2 := (cell_of hg 2).trans (show _ = some (Value.int .i64 r.seat) from rfl)
  have z3 := (cell_of hg 3).trans (show _ = some (Value.int .i64 r.till) from rfl)
  have z4 := (cell_of hg 4).trans (show _ = some (Value.int .i64 r.clock) from rfl)
  have hR := h.keep f0
  have c0 := hR.c.1
  have hc := rcheck_ok r W
  rw [hr] at hc
  simp only [Bool.false_eq_true, if_false] at hc
  have HC := Lib.hid hc; have F0 := Lib.hid f0; have HR := Lib.hid hR; have HG := Lib.hid hg; have H := Lib.hid h
  clear h hr f0 hg hR hc
  go_enter Tryz.func46, Tryz.ntmps46
  go_upto_region 1 with fail
  rw [← hW, ← hz]
  clear hW hz
  go_wp2_with fail
  refine HC.out.mono ?_
  rintro e w1 ⟨rfl, f1⟩
  have HG1 := Lib.hid (f1.get HG.out (fun h => h)); have F1 := Lib.hid (F0.out.trans f1 (fun _ _ h => h)); have HR1 := Lib.hid (HR.out.keep f1)
  clear f1 z0 z1 z2 z3 z4 c0
  go_wp2_with fail
  go_ret
  exact ⟨rfl, RAft.same H.out F1.out⟩
set_option maxRecDepth 100000 in
set_option maxHeartbeats 2000000 in
theorem rapply_hold {w : World} {wb : Nat} {v : Value} {b : Bk} (h : RefAt w wb v b) (hraw : Raw b) {r : Rc} (hr : recB r = true) (k1 : r.kind = 1) : Calls Tryz.prog 46 #[.pointer (some ⟨wb, 0, none⟩), rcV r] w fun e w' => e = .returned (.int .i64 (holdE b r : Nat)) ∧ RAft wb v (holdB b r) w w' := by
  obtain ⟨W, hW⟩ : ∃ W, W = w.alloc (rcC r) := ⟨_, rfl⟩
  obtain ⟨z, hz⟩ : ∃ z, z = w.heap.size := ⟨_, rfl⟩
  have f0 : Fr (fun _ => False) w W := by rw [hW]; exact Fr.alloc (Fr.refl _ _) _
  have hg : W.heap[z]? = some (rcC r) := by rw [hW, hz]; exact heap_alloc_at _ _
  have z0 := (cell_of hg 0).trans (show _ = some (Value.int .i64 r.kind) from rfl)
  have z1 := (cell_of hg 1).trans (show _ = some (Value.int .u32 (r.id : Int)) from rfl)
  have z2 := (cell_of hg 2).trans (show _ = some (Value.int .i64 r.seat) from rfl)
  have z3 := (cell_of hg 3).trans (show _ = some (Value.int .i64 r.till) from rfl)
  have z4 := (cell_of hg 4).trans (show _ = some (Value.int .i64 r.clock) from rfl)
  have hR := h.keep f0
  have c0 := hR.c.1
  have hc := rcheck_ok r W
  rw [hr] at hc
  simp only [if_true] at hc
  have HC := Lib.hid hc; have F0 := Lib.hid f0; have HR := Lib.hid hR; have HG := Lib.hid hg; have H := Lib.hid h
  have K1 := Lib.hid k1; have HRaw := Lib.hid hraw
  clear h hr f0 hg hR hc k1 hraw
  go_enter Tryz.func46, Tryz.ntmps46
  go_upto_region 1 with fail
  rw [← hW, ← hz]
  clear hW hz
  go_wp2_with fail
  refine HC.out.mono ?_
  rintro e w1 ⟨rfl, f1⟩
  have HG1 := Lib.hid (f1.get HG.out (fun h => h)); have F1 := Lib.hid (F0.out.trans f1 (fun _ _ h => h)); have HR1 := Lib.hid (HR.out.keep f1)
  clear f1 z0 z1 z2 z3 z4 c0
  have z0 := (cell_of HG1.out 0).trans (show _ = some (Value.int .i64 r.kind) from rfl)
  have z1 := (cell_of HG1.out 1).trans (show _ = some (Value.int .u32 (r.id : Int)) from rfl)
  have z2 := (cell_of HG1.out 2).trans (show _ = some (Value.int .i64 r.seat) from rfl)
  have z3 := (cell_of HG1.out 3).trans (show _ = some (Value.int .i64 r.till) from rfl)
  have z4 := (cell_of HG1.out 4).trans (show _ = some (Value.int .i64 r.clock) from rfl)
  have HH := Lib.hid (rhold_ok HR1.out HRaw.out (r := r))
  have b1 : (r.kind == 1) = true := by rw [K1.out]; rfl
  go_wp2_with fail
  refine HH.out.mono ?_
  rintro e w2 ⟨rfl, ha⟩
  have HA := Lib.hid (ha.of F1.out)
  clear ha z0 z1 z2 z3 z4
  go_wp2_with fail
  go_ret
  exact ⟨rfl, HA.out⟩
set_option maxRecDepth 100000 in
set_option maxHeartbeats 2000000 in
theorem rapply_tick {w : World} {wb : Nat} {v : Value} {b : Bk} (h : RefAt w wb v b) (hl : b.L.length ≤ 100000) {r : Rc} (hr : recB r = true) (k1 : r.kind = 5) : Calls Tryz.prog 46 #[.pointer (some ⟨wb, 0, none⟩), rcV r] w fun e w' => e = .returned (.int .i64 (tickE b r.clock : Nat)) ∧ RAft wb v (tickB b r.clock) w w' := by
  obtain ⟨W, hW⟩ : ∃ W, W = w.alloc (rcC r) := ⟨_, rfl⟩
  obtain ⟨z, hz⟩ : ∃ z, z = w.heap.size := ⟨_, rfl⟩
  have f0 : Fr (fun _ => False) w W := by rw [hW]; exact Fr.alloc (Fr.refl _ _) _
  have hg : W.heap[z]? = some (rcC r) := by rw [hW, hz]; exact heap_alloc_at _ _
  have z0 := (cell_of hg 0).trans (show _ = some (Value.int .i64 r.kind) from rfl)
  have z1 := (cell_of hg 1).trans (show _ = some (Value.int .u32 (r.id : Int)) from rfl)
  have z2 := (cell_of hg 2).trans (show _ = some (Value.int .i64 r.seat) from rfl)
  have z3 := (cell_of hg 3).trans (show _ = some (Value.int .i64 r.till) from rfl)
  have z4 := (cell_of hg 4).trans (show _ = some (Value.int .i64 r.clock) from rfl)
  have hR := h.keep f0
  have c0 := hR.c.1
  have hc := rcheck_ok r W
  rw [hr] at hc
  simp only [if_true] at hc
  have HC := Lib.hid hc; have F0 := Lib.hid f0; have HR := Lib.hid hR; have HG := Lib.hid hg; have H := Lib.hid h
  have K1 := Lib.hid k1; have HL := Lib.hid hl
  clear h hr f0 hg hR hc k1 hl
  go_enter Tryz.func46, Tryz.ntmps46
  go_upto_region 1 with fail
  rw [← hW, ← hz]
  clear hW hz
  go_wp2_with fail
  refine HC.out.mono ?_
  rintro e w1 ⟨rfl, f1⟩
  have HG1 := Lib.hid (f1.get HG.out (fun h => h)); have F1 := Lib.hid (F0.out.trans f1 (fun _ _ h => h)); have HR1 := Lib.hid (HR.out.keep f1)
  clear f1 z0 z1 z2 z3 z4 c0
  have z0 := (cell_of HG1.out 0).trans (show _ = some (Value.int .i64 r.kind) from rfl)
  have z1 := (cell_of HG1.out 1).trans (show _ = some (Value.int .u32 (r.id : Int)) from rfl)
  have z2 := (cell_of HG1.out 2).trans (show _ = some (Value.int .i64 r.seat) from rfl)
  have z3 := (cell_of HG1.out 3).trans (show _ = some (Value.int .i64 r.till) from rfl)
  have z4 := (cell_of HG1.out 4).trans (show _ = some (Value.int .i64 r.clock) from rfl)
  have HH := Lib.hid (rtick_ok HR1.out HL.out r.clock)
  have b1 : (r.kind == 1) = false := by rw [K1.out]; rfl
  have b5 : (r.kind == 5) = true := by rw [K1.out]; rfl
  go_wp2_with fail
  refine HH.out.mono ?_
  rintro e w2 ⟨rfl, ha⟩
  have HA := Lib.hid (ha.of F1.out)
  clear ha z0 z1 z2 z3 z4
  go_wp2_with fail
  go_ret
  exact ⟨rfl, HA.out⟩
set_option maxRecDepth 100000 in
set_option maxHeartbeats 2000000 in
theorem rapply_gone {w : World} {wb : Nat} {v : Value} {b : Bk} (h : RefAt w wb v b) (hl : b.L.length ≤ 100000) {r : Rc} (hr : recB r = true) (k1 : r.kind ≠ 1) (k5 : r.kind ≠ 5) (hf : bFind b.L r.id = none) : Calls Tryz.prog 46 #[.pointer (some ⟨wb, 0, none⟩), rcV r] w fun e w' => e = .returned (.int .i64 171) ∧ RAft wb v b w w' := by
  obtain ⟨W, hW⟩ : ∃ W, W = w.alloc (rcC r) := ⟨_, rfl⟩
  obtain ⟨z, hz⟩ : ∃ z, z = w.heap.size := ⟨_, rfl⟩
  have f0 : Fr (fun _ => False) w W := by rw [hW]; exact Fr.alloc (Fr.refl _ _) _
  have hg : W.heap[z]? = some (rcC r) := by rw [hW, hz]; exact heap_alloc_at _ _
  have z0 := (cell_of hg 0).trans (show _ = some (Value.int .i64 r.kind) from rfl)
  have z1 := (cell_of hg 1).trans (show _ = some (Value.int .u32 (r.id : Int)) from rfl)
  have z2 := (cell_of hg 2).trans (show _ = some (Value.int .i64 r.seat) from rfl)
  have z3 := (cell_of hg 3).trans (show _ = some (Value.int .i64 r.till) from rfl)
  have z4 := (cell_of hg 4).trans (show _ = some (Value.int .i64 r.clock) from rfl)
  have hR := h.keep f0
  have c0 := hR.c.1
  have hc := rcheck_ok r W
  rw [hr] at hc
  simp only [if_true] at hc
  have HC := Lib.hid hc; have F0 := Lib.hid f0; have HR := Lib.hid hR; have HG := Lib.hid hg; have H := Lib.hid h
  have HL := Lib.hid hl; have HF := Lib.hid hf
  have b1 : (r.kind == 1) = false := by simpa using k1
  have b5 : (r.kind == 5) = false := by simpa using k5
  clear h hr f0 hg hR hc k1 k5 hl hf
  go_enter Tryz.func46, Tryz.ntmps46
  go_upto_region 1 with fail
  rw [← hW, ← hz]
  clear hW hz
  go_wp2_with fail
  refine HC.out.mono ?_
  rintro e w1 ⟨rfl, f1⟩
  have HG1 := Lib.hid (f1.get HG.out (fun h => h)); have F1 := Lib.hid (F0.out.trans f1 (fun _ _ h => h)); have HR1 := Lib.hid (HR.out.keep f1)
  clear f1 z0 z1 z2 z3 z4 c0
  have z0 := (cell_of HG1.out 0).trans (show _ = some (Value.int .i64 r.kind) from rfl)
  have z1 := (cell_of HG1.out 1).trans (show _ = some (Value.int .u32 (r.id : Int)) from rfl)
  have z2 := (cell_of HG1.out 2).trans (show _ = some (Value.int .i64 r.seat) from rfl)
  have z3 := (cell_of HG1.out 3).trans (show _ = some (Value.int .i64 r.till) from rfl)
  have z4 := (cell_of HG1.out 4).trans (show _ = some (Value.int .i64 r.clock) from rfl)
  have HH := Lib.hid (rfind_ok HR1.out HL.out (id := r.id))
  go_wp2_with fail
  refine HH.out.mono ?_
  rintro e w2 ⟨⟨i, rfl, hp⟩, rfl⟩
  have hi : i = -1 := by
    rcases hp with ⟨h, _⟩ | ⟨k, hk, _, h⟩
    · exact h
    · exact absurd (by simpa using h) (bFind_none HF.out _ (List.getElem_mem hk))
  subst hi
  clear hp z0 z1 z2 z3 z4
  go_wp2_with fail
  go_ret
  exact ⟨rfl, RAft.same H.out F1.out⟩
end Go.Proofs.YtffnjnnmlfgngaaGreat.Bk
namespace Go.Proofs.YtffnjnnmlfgngaaGreat.Bk
open Go.RowKit Go.Shelf
theorem ids_ne {b : Bk} (h : Raw b) {j k : Nat} (hj : j < b.L.length) (hk : k < b.L.length) (hne : j ≠ k) : b.L[j].1 ≠ b.L[k].1 := by
  rcases Nat.lt_or_gt_of_ne hne with h1 | h1
  · have := List.pairwise_iff_getElem.1 h.up j k hj hk h1; omega
  · have := List.pairwise_iff_getElem.1 h.up k j hk hj h1; omega
theorem firm_set {b : Bk} (h : Raw b) {k : Nat} (hk : k < b.L.length) : bFirm b.L b.L[k].1 = b.L.set k (b.L[k].1, b.L[k].2.1, 0) := by
  apply List.ext_getElem
  · simp [bFirm]
  · intro j h1 h2
    have hj : j < b.L.length := by simpa [bFirm] using h1
    simp only [bFirm, List.getElem_map, List.getElem_set]
    by_cases e : k = j
    · subst e; rw [if_pos rfl, if_pos rfl]
    · rw [if_neg (ids_ne h hj hk (fun x => e x.symm)), if_neg e]
theorem move_set {b : Bk} (h : Raw b) {k : Nat} (hk : k < b.L.length) (s : Int) : bMove b.L b.L[k].1 s = b.L.set k (b.L[k].1, s, b.L[k].2.2) := by
  apply List.ext_getElem
  · simp [bMove]
  · intro j h1 h2
    have hj : j < b.L.length := by simpa [bMove] using h1
    simp only [bMove, List.getElem_map, List.getElem_set]
    by_cases e : k = j
    · subst e; rw [if_pos rfl, if_pos rfl]
    · rw [if_neg (ids_ne h hj hk (fun x => e x.symm)), if_neg e]
theorem filter_all {L : List Bo} {id : Nat} (h : ∀ x ∈ L, x.1 ≠ id) : L.filter (fun x => decide (x.1 ≠ id)) = L := List.filter_eq_self.2 (fun x hx => by simpa using h x hx)
theorem drop_split {b : Bk} (h : Raw b) {k : Nat} (hk : k < b.L.length) : bDrop b.L b.L[k].1 = b.L.take k ++ b.L.drop (k + 1) := by
  have e : b.L = b.L.take k ++ b.L[k] :: b.L.drop (k + 1) := by rw [← List.drop_eq_getElem_cons hk, List.take_append_drop]
  have h1 : ∀ x ∈ b.L.take k, x.1 ≠ b.L[k].1 := by
    intro x hx
    obtain ⟨j, hj, rfl⟩ := List.getElem_of_mem hx
    rw [List.getElem_take]
    rw [List.length_take] at hj
    exact ids_ne h (by omega) hk (by omega)
  have h2 : ∀ x ∈ b.L.drop (k + 1), x.1 ≠ b.L[k].1 := by
    intro x hx
    obtain ⟨j, hj, rfl⟩ := List.getElem_of_mem hx
    rw [List.getElem_drop]
    rw [List.length_drop] at hj
    exact ids_ne h (by omega) hk (by omega)
  unfold bDrop
  obtain ⟨id, hid⟩ : ∃ id, id = b.L[k].1 := ⟨_, rfl⟩
  rw [← hid] at h1 h2 ⊢
  conv => lhs; rw [e]
  rw [List.filter_append, List.filter_cons_of_neg (by simp [hid]), filter_all h1, filter_all h2]
end Go.Proofs.YtffnjnnmlfgngaaGreat.Bk
namespace Go.Proofs.YtffnjnnmlfgngaaGreat.Bk
open Go.RowKit Go.Shelf
attribute [local go_sem] Oper.semAt_some
set_option maxRecDepth 100000 in
set_option maxHeartbeats 2000000 in
theorem rapply_firm {w : World} {wb : Nat} {v : Value} {b : Bk} (h : RefAt w wb v b) (hraw : Raw b) {r : Rc} (hr : recB r = true) (k1 : r.kind = 2) (hf : bFind b.L r.id ≠ none) : Calls Tryz.prog 46 #[.pointer (some ⟨wb, 0, none⟩), rcV r] w fun e w' => e = .returned (.int .i64 0) ∧ RAft wb v { b with L := bFirm b.L r.id } w w' := by
  obtain ⟨W, hW⟩ : ∃ W, W = w.alloc (rcC r) := ⟨_, rfl⟩
  obtain ⟨z, hz⟩ : ∃ z, z = w.heap.size := ⟨_, rfl⟩
  have f0 : Fr (fun _ => False) w W := by rw [hW]; exact Fr.alloc (Fr.refl _ _) _
  have hg : W.heap[z]? = some (rcC r) := by rw [hW, hz]; exact heap_alloc_at _ _
  have z0 := (cell_of hg 0).trans (show _ = some (Value.int .i64 r.kind) from rfl)
  have z1 := (cell_of hg 1).trans (show _ = some (Value.int .u32 (r.id : Int)) from rfl)
  have z2 := (cell_of hg 2).trans (show _ = some (Value.int .i64 r.seat) from rfl)
  have z3 := (cell_of hg 3).trans (show _ = some (Value.int .i64 r.till) from rfl)
  have z4 := (cell_of hg 4).trans (show _ = some (Value.int .i64 r.clock) from rfl)
  have hR := h.keep f0
  have c0 := hR.c.1
  have hc := rcheck_ok r W
  rw [hr] at hc
  simp only [if_true] at hc
  have HC := Lib.hid hc; have F0 := Lib.hid f0; have HR := Lib.hid hR; have HG := Lib.hid hg; have H := Lib.hid h
  have HL := Lib.hid (show b.L.length ≤ 100000 by have := hraw.few; have := hraw.c1; omega)
  have HF := Lib.hid hf; have HRaw := Lib.hid hraw
  have b1 : (r.kind == 1) = false := by rw [k1]; rfl
  have b2 : (r.kind == 2) = true := by rw [k1]; rfl
  have b5 : (r.kind == 5) = false := by rw [k1]; rfl
  clear h hr f0 hg hR hc k1 hraw hf
  go_enter Tryz.func46, Tryz.ntmps46
  go_upto_region 1 with fail
  rw [← hW, ← hz]
  clear hW hz
  go_wp2_with fail
  refine HC.out.mono ?_
  rintro e w1 ⟨rfl, f1⟩
  have HG1 := Lib.hid (f1.get HG.out (fun h => h)); have F1 := Lib.hid (F0.out.trans f1 (fun _ _ h => h)); have HR1 := Lib.hid (HR.out.keep f1)
  clear f1 z0 z1 z2 z3 z4 c0
  have z0 := (cell_of HG1.out 0).trans (show _ = some (Value.int .i64 r.kind) from rfl)
  have z1 := (cell_of HG1.out 1).trans (show _ = some (Value.int .u32 (r.id : Int)) from rfl)
  have z2 := (cell_of HG1.out 2).trans (show _ = some (Value.int .i64 r.seat) from rfl)
  have z3 := (cell_of HG1.out 3).trans (show _ = some (Value.int .i64 r.till) from rfl)
  have z4 := (cell_of HG1.out 4).trans (show _ = some (Value.int .i64 r.clock) from rfl)
  have HH := Lib.hid (rfind_ok HR1.out HL.out (id := r.id))
  go_wp2_with fail
  refine HH.out.mono ?_
  rintro e w2 ⟨⟨i, rfl, hp⟩, rfl⟩
  obtain ⟨k, hk, hik, hfk⟩ : ∃ k, ∃ h : k < b.L.length, i = (k : Int) ∧ b.L[k].1 = r.id := by
    rcases hp with ⟨_, hno⟩ | ⟨k, hk, e, h⟩
    · exfalso
      apply HF.out
      cases e : bFind b.L r.id with
      | none => rfl
      | some x => have h1 := bFind_id e; have := hno x h1.2; simp [h1.1] at this
    · exact ⟨k, hk, e, by simpa using h⟩
  subst hik
  obtain ⟨g, cap, hv, d0, d1, d2⟩ := Bos.cells HR1.out.row hk
  have hrow := HR1.out.row
  rw [hv] at hrow
  have hgo : v.ownBlock = some g := by rw [hv]; rfl
  have fz : w1.frozen? ⟨g, k * 3 + 2, none⟩ = false := by
    rcases hrow.2 with ⟨e, _⟩ | ⟨g2, c, cur, e, _, q1, _⟩
    · cases e
    · obtain ⟨e1, _, _⟩ := Value.slice.inj e
      obtain rfl : g = g2 := by simpa using e1
      exact free_of q1 _
  have c4 := HR1.out.c.2.2.2.2.1
  rw [hv] at c4
  have fs : Fr (fun y => y = g) w1 (w1.setCell ⟨g, k * 3 + 2, none⟩ (.int .i64 0)) := Fr.setCell (F := fun y => y = g) (p := ⟨g, k * 3 + 2, none⟩) (Fr.refl _ _) (fun _ => rfl) _
  have hne : ¬ wb = g := fun e => HR1.out.ne (by rw [hgo, e])
  have HN := Lib.hid (show RAft wb v { b with L := bFirm b.L r.id } w (w1.setCell ⟨g, k * 3 + 2, none⟩ (.int .i64 0)) by
    refine ⟨v, ⟨fs.get HR1.out.head hne, ?_, HR1.out.ne⟩, (F1.out.mono (fun _ _ h => h.elim)).trans fs (fun y _ e => .inr (by rw [e]; exact hgo)), fun x hx => .inl hx⟩
    have h3 := Bos.till hrow hk 0
    rw [← firm_set HRaw.out hk, hfk] at h3
    show Bos _ v (bFirm b.L r.id)
    rw [hv]; exact h3)
  have i0 : (0 : Int) ≤ (k : Int) := by omega
  have i1 : (k : Int) < (b.L.length : Int) := by omega
  have i2 : ¬ (k : Int) < 0 := by omega
  obtain ⟨x, hx⟩ : ∃ x, x = b.L[k] := ⟨_, rfl⟩
  rw [← hx] at d0 d1 d2
  clear hp hfk hx hv hrow hgo fs hne
  clear hk
  go_wp2_with fail
  go_ret
  exact ⟨rfl, HN.out⟩
end Go.Proofs.YtffnjnnmlfgngaaGreat.Bk
namespace Go.Proofs.YtffnjnnmlfgngaaGreat.Bk
open Go.RowKit Go.Shelf
attribute [local go_sem] Oper.semAt_some
/-- A booking's seat is another one. -/
theorem Bos.seat {w : World} {g n cap : Nat} {L : List Bo} (h : Bos w (.slice (some ⟨g, 0, none⟩) n cap) L) {p : Nat} (hp : p < L.length) (s : Int) :
    Bos (w.setCell ⟨g, p * 3 + 1, none⟩ (.int .i64 s)) (.slice (some ⟨g, 0, none⟩) n cap) (L.set p (L[p].1, s, L[p].2.2)) := by
  rcases h.2 with ⟨_, h0⟩ | ⟨g', c', cur, e, _, h1, h2, h3, h4, h5⟩
  · omega
  · obtain ⟨e1, e2, e3⟩ := Value.slice.inj e
    obtain rfl : g = g' := by simpa using e1
    subst e2; subst e3
    have hl : (L.flatMap encB).length = L.length * 3 := flatK_length encB_len L
    have k0 := flatK_get encB_len L p hp 0 (by omega)
    have k2 := flatK_get encB_len L p hp 2 (by omega)
    have e0 : (L.set p (L[p].1, s, L[p].2.2)).flatMap encB = (L.flatMap encB).set (p * 3 + 1) (.int .i64 s) := by
      rw [flatB_set hp]
      have s0 : (L.flatMap encB).set (p * 3) (.int .u32 (L[p].1 : Int)) = L.flatMap encB := by
        apply List.ext_getElem?
        intro j
        rw [List.getElem?_set]
        by_cases ej : p * 3 = j
        · subst ej; rw [if_pos rfl, if_pos (by omega)]; rw [Nat.add_zero] at k0; rw [k0]; rfl
        · rw [if_neg ej]
      have s2 : ((L.flatMap encB).set (p * 3 + 1) (.int .i64 s)).set (p * 3 + 2) (.int .i64 L[p].2.2) = (L.flatMap encB).set (p * 3 + 1) (.int .i64 s) := by
        apply List.ext_getElem?
        intro j
        rw [List.getElem?_set]
        by_cases ej : p * 3 + 2 = j
        · subst ej; rw [if_pos rfl, if_pos (by rw [List.length_set]; omega), List.getElem?_set, if_neg (by omega), k2]; rfl
        · rw [if_neg ej]
      rw [s0, s2]
    refine ⟨by rw [e0, List.length_set, List.length_set]; exact h.1, .inr ⟨g, cap, _, by rw [List.length_set], Nat.zero_le _, setCell_blk h1 _, by rw [List.length_set]; exact h2, h3, by simpa using h4, ?_⟩⟩
    rw [List.length_set, e0, ← h5]
    simp only [Array.toList_setIfInBounds, List.take_set]
set_option maxRecDepth 100000 in
set_option maxHeartbeats 2000000 in
theorem rapply_move {w : World} {wb : Nat} {v : Value} {b : Bk} (h : RefAt w wb v b) (hraw : Raw b) {r : Rc} (hr : recB r = true) (k1 : r.kind = 4) {x : Bo} (hf : bFind b.L r.id = some x) : Calls Tryz.prog 46 #[.pointer (some ⟨wb, 0, none⟩), rcV r] w fun e w' => e = .returned (.int .i64 (seatE b x r.seat : Nat)) ∧ RAft wb v (seatB b x r.seat) w w' := by
  obtain ⟨W, hW⟩ : ∃ W, W = w.alloc (rcC r) := ⟨_, rfl⟩
  obtain ⟨z, hz⟩ : ∃ z, z = w.heap.size := ⟨_, rfl⟩
  have f0 : Fr (fun _ => False) w W := by rw [hW]; exact Fr.alloc (Fr.refl _ _) _
  have hg : W.heap[z]? = some (rcC r) := by rw [hW, hz]; exact heap_alloc_at _ _
  have z0 := (cell_of hg 0).trans (show _ = some (Value.int .i64 r.kind) from rfl)
  have z1 := (cell_of hg 1).trans (show _ = some (Value.int .u32 (r.id : Int)) from rfl)
  have z2 := (cell_of hg 2).trans (show _ = some (Value.int .i64 r.seat) from rfl)
  have z3 := (cell_of hg 3).trans (show _ = some (Value.int .i64 r.till) from rfl)
  have z4 := (cell_of hg 4).trans (show _ = some (Value.int .i64 r.clock) from rfl)
  have hR := h.keep f0
  have c0 := hR.c.1
  have hc := rcheck_ok r W
  rw [hr] at hc
  simp only [if_true] at hc
  have HC := Lib.hid hc; have F0 := Lib.hid f0; have HR := Lib.hid hR; have HG := Lib.hid hg; have H := Lib.hid h
  have HL := Lib.hid (show b.L.length ≤ 100000 by have := hraw.few; have := hraw.c1; omega)
  have HF := Lib.hid hf; have HRaw := Lib.hid hraw
  have hwz : wb ≠ z ∧ ∀ y, v.ownBlock = some y → y ≠ z := ⟨fun e => by have := lt_of_block h.head; omega, fun y hy e => by have := Row.lt h.row hy; omega⟩
  have Hwz := Lib.hid hwz
  have b1 : (r.kind == 1) = false := by rw [k1]; rfl
  have b2 : (r.kind == 2) = false := by rw [k1]; rfl
  have b3 : (r.kind == 3) = false := by rw [k1]; rfl
  have b4 : (r.kind == 4) = true := by rw [k1]; rfl
  have b5 : (r.kind == 5) = false := by rw [k1]; rfl
  clear h hr f0 hg hR hc k1 hraw hf hwz
  go_enter Tryz.func46, Tryz.ntmps46
  go_upto_region 1 with fail
  rw [← hW, ← hz]
  clear hW hz
  go_wp2_with fail
  refine HC.out.mono ?_
  rintro e w1 ⟨rfl, f1⟩
  have HG1 := Lib.hid (f1.get HG.out (fun h => h)); have F1 := Lib.hid (F0.out.trans f1 (fun _ _ h => h)); have HR1 := Lib.hid (HR.out.keep f1)
  clear f1 z0 z1 z2 z3 z4 c0
  have z0 := (cell_of HG1.out 0).trans (show _ = some (Value.int .i64 r.kind) from rfl)
  have z1 := (cell_of HG1.out 1).trans (show _ = some (Value.int .u32 (r.id : Int)) from rfl)
  have z2 := (cell_of HG1.out 2).trans (show _ = some (Value.int .i64 r.seat) from rfl)
  have z3 := (cell_of HG1.out 3).trans (show _ = some (Value.int .i64 r.till) from rfl)
  have z4 := (cell_of HG1.out 4).trans (show _ = some (Value.int .i64 r.clock) from rfl)
  have HH := Lib.hid (rfind_ok HR1.out HL.out (id := r.id))
  have HT := Lib.hid (rtaken_ok (HR1.out.keep (Fr.drew (Fr.refl (fun _ => False) _))) HL.out r.seat)
  have ca := HR1.out.c.2.1
  go_wp2_with fail
  refine HH.out.mono ?_
  rintro e w2 ⟨⟨i, rfl, hp⟩, rfl⟩
  obtain ⟨k, hk, hik, hfk⟩ : ∃ k, ∃ h : k < b.L.length, i = (k : Int) ∧ b.L[k].1 = r.id := by
    rcases hp with ⟨_, hno⟩ | ⟨k, hk, e, h⟩
    · have h1 := bFind_id HF.out; have := hno x h1.2; simp [h1.1] at this
    · exact ⟨k, hk, e, by simpa using h⟩
  subst hik
  have hxk : x = b.L[k] := by
    have h1 := bFind_id HF.out
    exact uniq_id HRaw.out.up h1.2 (List.getElem_mem hk) (by rw [h1.1, hfk])
  have Hxk := Lib.hid (show ∃ h : k < b.L.length, x = b.L[k] from ⟨hk, hxk⟩)
  have i0 : (0 : Int) ≤ (k : Int) := by omega
  have i1 : (k : Int) < (b.L.length : Int) := by omega
  have i2 : ¬ (k : Int) < 0 := by omega
  clear hp hfk hxk hk
  by_cases e2 : (b.seats : Int) ≤ r.seat
  · have e2b : decide ((b.seats : Int) ≤ r.seat) = true := by simpa using e2
    have HE := Lib.hid (show seatE b x r.seat = 140 from if_pos e2)
    have HB := Lib.hid (show seatB b x r.seat = b by unfold seatB; rw [if_neg (by rw [show seatE b x r.seat = 140 from if_pos e2]; decide)])
    clear e2
    go_upto_region 22 with fail
    go_region_held3 (fun w' => w'.cell? ⟨z, 2, none⟩ = some (.int .i64 r.seat) ∧ w'.cell? ⟨wb, 1, none⟩ = some (.int .i64 (b.seats : Int))) (go_keep) (fail)
    go_wp2_with fail
    go_ret
    exact ⟨by rw [HE.out]; rfl, by rw [HB.out]; exact RAft.same H.out (F1.out.trans (G := fun _ => False) (by exact ⟨rfl, rfl, rfl, Nat.le_refl _, fun _ _ _ => rfl⟩) (fun _ _ h => h))⟩
  have e2b : decide ((b.seats : Int) ≤ r.seat) = false := by simpa using e2
  have HE2 := Lib.hid e2
  clear e2
  go_upto_region 22 with fail
  go_region_held3 (fun w' => w'.cell? ⟨z, 2, none⟩ = some (.int .i64 r.seat) ∧ w'.cell? ⟨wb, 1, none⟩ = some (.int .i64 (b.seats : Int))) (go_keep) (fail)
  go_wp2_with fail
  refine HT.out.mono ?_
  rintro e w3 ⟨⟨i3, rfl, hp3⟩, rfl⟩
  have hps := pos_seat hp3
  by_cases hbad : 0 ≤ i3 ∧ i3 ≠ (k : Int)
  · have g1 : decide (0 ≤ i3) = true := by simpa using hbad.1
    have g2 : (i3 != (k : Int)) = true := by simpa using hbad.2
    have hE : seatE b x r.seat = 170 := by
      obtain ⟨hk, hxk⟩ := Hxk.out
      have hns : ¬ r.seat = x.2.1 := by
        intro e
        rcases hp3 with ⟨h, _⟩ | ⟨j, hj, hij, h⟩
        · omega
        · have h1 : b.L[j].2.1 = r.seat := by simpa using h
          have a1 := (bSeat_some HRaw.out.lone).2 (List.getElem_mem hj)
          have a2 := (bSeat_some HRaw.out.lone).2 (List.getElem_mem hk)
          rw [h1, e, hxk] at a1
          rw [a2] at a1
          have a3 := Option.some.inj a1
          by_cases ejk : j = k
          · omega
          · exact ids_ne HRaw.out hj hk ejk (by rw [a3])
      unfold seatE
      rw [if_neg (by have := HE2.out; omega), if_neg hns, if_pos (hps.1 hbad.1)]
    have HE := Lib.hid hE
    have HB := Lib.hid (show seatB b x r.seat = b by unfold seatB; rw [if_neg (by rw [hE]; decide)])
    clear hE hbad hps hp3
    go_wp2_with fail
    go_ret
    exact ⟨by rw [HE.out]; rfl, by rw [HB.out]; exact RAft.same H.out (F1.out.trans (G := fun _ => False) (by exact ⟨rfl, rfl, rfl, Nat.le_refl _, fun _ _ _ => rfl⟩) (fun _ _ h => h))⟩
  have hE : seatE b x r.seat = 0 := by
    obtain ⟨hk, hxk⟩ := Hxk.out
    unfold seatE
    rw [if_neg (by have := HE2.out; omega)]
    by_cases hs : r.seat = x.2.1
    · rw [if_pos hs]
    · rw [if_neg hs, if_neg]
      intro h
      have h0 := hps.2 h
      have hik : i3 = (k : Int) := by omega
      rcases hp3 with ⟨h, _⟩ | ⟨j, hj, hij, h⟩
      · omega
      · have ejk : j = k := by omega
        subst ejk
        exact hs (by rw [hxk]; have : b.L[j].2.1 = r.seat := by simpa using h
                     exact this.symm)
  have HE := Lib.hid hE
  have HB := Lib.hid (show seatB b x r.seat = { b with L := bMove b.L x.1 r.seat } from if_pos hE)
  have HG3 := Lib.hid (show i3 < 0 ∨ i3 = (k : Int) by omega)
  clear hE hbad hps hp3
  go_upto_region 25 with fail
  go_cut [91] (fun s wx => s = .bool false ∧ w1.drew = wx)
  case first =>
    rcases HG3.out with g | g
    · have g1 : decide (0 ≤ i3) = false := by simp; omega
      clear g
      go_wp2_with fail
      go_meet
      exact ⟨rfl, rfl⟩
    · subst g
      have g1 : decide (0 ≤ (k : Int)) = true := by simp
      have g2 : ((k : Int) != (k : Int)) = false := by simp
      go_wp2_with fail
      go_meet
      exact ⟨by simp, rfl⟩
  case rest =>
  obtain ⟨rfl, rfl⟩ := hcut
  obtain ⟨hk, hxk⟩ := Hxk.out
  obtain ⟨g, cap, hv, d0, d1, d2⟩ := Bos.cells HR1.out.row hk
  have hrow := HR1.out.row
  rw [hv] at hrow
  have hgo : v.ownBlock = some g := by rw [hv]; rfl
  have fz : w1.frozen? ⟨g, k * 3 + 1, none⟩ = false := by
    rcases hrow.2 with ⟨e, _⟩ | ⟨g2, c, cur, e, _, q1, _⟩
    · cases e
    · obtain ⟨e1, _, _⟩ := Value.slice.inj e
      obtain rfl : g = g2 := by simpa using e1
      exact free_of q1 _
  have c4 := HR1.out.c.2.2.2.2.1
  rw [hv] at c4
  have fs : Fr (fun y => y = g) w1 (w1.setCell ⟨g, k * 3 + 1, none⟩ (.int .i64 r.seat)).drew.drew := Fr.drew <| Fr.drew (Fr.setCell (F := fun y => y = g) (p := ⟨g, k * 3 + 1, none⟩) (Fr.refl _ _) (fun _ => rfl) _)
  have hne : ¬ wb = g := fun e => HR1.out.ne (by rw [hgo, e])
  have hR2 : RefAt (w1.setCell ⟨g, k * 3 + 1, none⟩ (.int .i64 r.seat)).drew.drew wb v { b with L := bMove b.L x.1 r.seat } := by
    refine ⟨fs.get HR1.out.head hne, ?_, HR1.out.ne⟩
    have h3 := Bos.seat hrow hk r.seat
    rw [← move_set HRaw.out hk, ← hxk] at h3
    show Bos _ v (bMove b.L x.1 r.seat)
    rw [hv]; exact Row.fr h3 (Fr.drew (Fr.drew (Fr.refl (fun _ => False) _))) (fun _ _ h => h)
  have hz2 := (fs.get HG1.out (fun e => Hwz.out.2 g hgo e.symm))
  have HN := Lib.hid (show RAft wb v (seatB b x r.seat) w (w1.setCell ⟨g, k * 3 + 1, none⟩ (.int .i64 r.seat)).drew.drew by
    rw [HB.out]
    exact ⟨v, hR2, (F1.out.mono (fun _ _ h => h.elim)).trans fs (fun y _ e => .inr (by rw [e]; exact hgo)), fun x hx => .inl hx⟩)
  have Hcs := Lib.hid (And.intro ((fs.cell (lt_of_block HR1.out.head) hne).trans c4) ((fs.cell (lt_of_block HG1.out) (fun e => Hwz.out.2 g hgo e.symm)).trans z2))
  have c4d : w1.drew.cell? ⟨wb, 4, none⟩ = some (.slice (some ⟨g, 0, none⟩) b.L.length cap) := c4
  have z2d : w1.drew.cell? ⟨z, 2, none⟩ = some (.int .i64 r.seat) := z2
  obtain ⟨y, hy⟩ : ∃ y, y = b.L[k] := ⟨_, rfl⟩
  rw [← hy] at d0 d1 d2
  clear hk hxk hv hrow hgo fs hne hR2 hz2 hy
  go_upto_region 27 with fail
  refine wp_region_held_drew (S := fun w' => w'.cell? ⟨wb, 4, none⟩ = some (.slice (some ⟨g, 0, none⟩) b.L.length cap) ∧ w'.cell? ⟨z, 2, none⟩ = some (.int .i64 r.seat)) (by kernel_rfl) (by exact ⟨c4, z2⟩) (fun hHeld => ?_)
  refine wpAnyH_take (i := 0) (v := ?_) rfl (by kernel_rfl) (by kernel_rfl) (by kernel_rfl) (fun _ _ _ h => h) (Or.inl ⟨by rfl, ?_⟩) (by assumption) ?_
  rotate_left
  · intro w' hSw; (try dsimp only at hSw); go_simp; try with_reducible rfl
  try simp only [Act.put, List.getElem_toArray, List.getElem_cons_zero, List.setIfInBounds_toArray, List.set_cons_zero, List.set_cons_succ]
  refine wpAnyH_take (i := 1) (v := ?_) rfl (by kernel_rfl) (by kernel_rfl) (by kernel_rfl) (fun _ _ _ h => h) (Or.inl ⟨by rfl, ?_⟩) (by assumption) ?_
  rotate_left
  · intro w' hSw; (try dsimp only at hSw); go_simp; try with_reducible rfl
  try simp only [Act.put, sL]
  refine wpAnyH_take (i := 2) (v := ?_) rfl (by kernel_rfl) (by kernel_rfl) (by kernel_rfl) (fun _ _ _ h => h) (Or.inl ⟨by rfl, ?_⟩) (by assumption) ?_
  rotate_left
  · intro w' hSw; (try dsimp only at hSw); go_simp; try with_reducible rfl
  try simp only [Act.put, sL]
  refine wpAnyH_take (i := 3) (v := ?_) rfl (by kernel_rfl) (by kernel_rfl) (by kernel_rfl) (fun _ _ _ h => h) (Or.inl ⟨by rfl, ?_⟩) (by assumption) ?_
  rotate_left
  · intro w' hSw; (try dsimp only at hSw); go_simp; try with_reducible rfl
  try simp only [Act.put, sL]
  refine wpAnyH_take (i := 4) (v := ?_) rfl (by kernel_rfl) (by kernel_rfl) (by kernel_rfl) (fun _ _ _ h => h) (Or.inl ⟨by rfl, ?_⟩) (by assumption) ?_
  rotate_left
  · intro w' hSw; (try dsimp only at hSw); go_simp; try with_reducible rfl
  try simp only [Act.put, sL]
  refine wpAnyH_take (i := 5) (v := ?_) rfl (by kernel_rfl) (by kernel_rfl) (by kernel_rfl) (fun _ _ _ h => h) (Or.inl ⟨by rfl, ?_⟩) (by assumption) ?_
  rotate_left
  · intro w' hSw; (try dsimp only at hSw); go_simp; try with_reducible rfl
  try simp only [Act.put, sL]
  refine wpAnyH_take (i := 6) (v := ?_) rfl (by kernel_rfl) (by kernel_rfl) (by kernel_rfl) (fun _ _ _ h => h) (Or.inl ⟨by rfl, ?_⟩) (by assumption) ?_
  rotate_left
  · intro w' hSw; (try dsimp only at hSw); go_simp; try with_reducible rfl
  try simp only [Act.put, sL]
  refine wpAnyH_take (i := 7) (v := ?_) rfl (by kernel_rfl) (by kernel_rfl) (by kernel_rfl) (fun _ _ _ h => h) (Or.inl ⟨by rfl, ?_⟩) (by assumption) ?_
  rotate_left
  · intro w' hSw; (try dsimp only at hSw); go_simp; try with_reducible rfl
  try simp only [Act.put, sL]
  refine wpAnyH_take (i := 8) (v := ?_) rfl (by kernel_rfl) (by kernel_rfl) (by kernel_rfl) (fun _ _ _ h => h) (Or.inl ⟨by rfl, ?_⟩) (by assumption) ?_
  rotate_left
  · intro w' hSw; (try dsimp only at hSw); go_simp; try with_reducible rfl
  try simp only [Act.put, sL]
  refine wpAnyH_ready (rs := [9]) (by kernel_rfl) (by simp) ?_
  refine AllReadyH.cons rfl (fun K hK => ?_) AllReadyH.nil
  go_simp
  skip
  try go_simp
  refine hK.out _ _ ?_ (fun hHeld => ?_)
  · (try dsimp only); exact ⟨Hcs.out.1, Hcs.out.2⟩
  clear hK K
  try simp only [Act.put, sL]
  refine wpAnyH_done (by kernel_rfl) ?_ _
  go_wp2_with fail
  go_ret
  exact ⟨by rw [HE.out]; rfl, HN.out⟩
end Go.Proofs.YtffnjnnmlfgngaaGreat.Bk
namespace Go.Proofs.YtffnjnnmlfgngaaGreat.Bk
open Go.RowKit Go.Shelf
attribute [local go_sem] Oper.semAt_some
/-- The two appends that leave a booking out. -/
theorem bout_runs {w : World} {S : List Bo} (hf : S.length ≤ 100000) {k : Nat} (hk : k < S.length) {a1 a2 : Option Addr} {c1 c2 : Nat} (s1 : SrcAt w 3 encB a1 (S.take k)) (s2 : SrcAt w 3 encB a2 (S.drop (k + 1))) (l2 : ∀ g o, a2 = some ⟨g, o, none⟩ → g < w.heap.size) :
    ∃ b1 d1 w1 b3 d3 w3, (Builtin.append_ #[25, 25] 25 #[.slice none 0 0, .slice a1 k c1]).run Tryz.prog w = .ok (.slice b1 k d1) w1 ∧
      (Builtin.append_ #[25, 25] 25 #[.slice b1 k d1, .slice a2 (S.length - (k + 1)) c2]).run Tryz.prog w1 = .ok (.slice b3 (S.length - 1) d3) w3 ∧
      Fr (fun _ => False) w w1 ∧ Fr (fun _ => False) w w3 ∧ Bos w3 (.slice b3 (S.length - 1) d3) (S.take k ++ S.drop (k + 1)) ∧ ∀ b, (Value.slice b3 (S.length - 1) d3).ownBlock = some b → w.heap.size ≤ b := by
  have l1 : (S.take k).length = k := by rw [List.length_take]; omega
  obtain ⟨b1, d1, w1, r1, e1, f1, o1⟩ := Els.apps (P := Tryz.prog) (t := 25) (ty := 25) encB_len (show Els w 68 3 encB (.slice none 0 0) [] from World.ownsRow_nil _ _ _ _) Tryz.underlying25 Tryz.infoBo rfl (by decide) encB_one (c := c1) s1 l1.symm (by rw [l1]; simp; omega) (by decide)
  simp only [List.length_nil, Nat.zero_add, List.nil_append] at r1 e1 o1
  have f1' : Fr (fun _ => False) w w1 := f1.mono (fun b _ h => by simp [Value.ownBlock] at h)
  have o1' : ∀ b, (Value.slice b1 k d1).ownBlock = some b → w.heap.size ≤ b := fun b hb => by
    rcases o1 b hb with h | h
    · simp [Value.ownBlock] at h
    · omega
  have l2' : (S.drop (k + 1)).length = S.length - (k + 1) := by rw [List.length_drop]
  obtain ⟨b3, d3, w3, r3, e3, f3, o3⟩ := Els.apps (P := Tryz.prog) (t := 25) (ty := 25) encB_len (L := S.take k) e1 Tryz.underlying25 Tryz.infoBo rfl (by decide) encB_one (c := c2) (s2.fr f1' (fun _ _ _ h => h) l2) l2'.symm (by rw [l1, l2']; omega) (by decide)
  have e4 : (S.take k).length + (S.length - (k + 1)) = S.length - 1 := by rw [l1]; omega
  rw [e4] at r3 e3 o3
  refine ⟨b1, d1, w1, b3, d3, w3, r1, r3, f1', f1'.trans f3 (fun b hb h => by have := o1' b h; omega), e3, ?_⟩
  intro b hb
  rcases o3 b hb with h | h
  · exact o1' b h
  · have := f1'.size; omega
set_option maxRecDepth 100000 in
set_option maxHeartbeats 4000000 in
theorem rapply_drop {w : World} {wb : Nat} {v : Value} {b : Bk} (h : RefAt w wb v b) (hraw : Raw b) {r : Rc} (hr : recB r = true) (k1 : r.kind = 3) (hf : bFind b.L r.id ≠ none) : Calls Tryz.prog 46 #[.pointer (some ⟨wb, 0, none⟩), rcV r] w fun e w' => e = .returned (.int .i64 0) ∧ RAft wb v { b with L := bDrop b.L r.id } w w' := by
  obtain ⟨W, hW⟩ : ∃ W, W = w.alloc (rcC r) := ⟨_, rfl⟩
  obtain ⟨z, hz⟩ : ∃ z, z = w.heap.size := ⟨_, rfl⟩
  have f0 : Fr (fun _ => False) w W := by rw [hW]; exact Fr.alloc (Fr.refl _ _) _
  have hg : W.heap[z]? = some (rcC r) := by rw [hW, hz]; exact heap_alloc_at _ _
  have z0 := (cell_of hg 0).trans (show _ = some (Value.int .i64 r.kind) from rfl)
  have z1 := (cell_of hg 1).trans (show _ = some (Value.int .u32 (r.id : Int)) from rfl)
  have z2 := (cell_of hg 2).trans (show _ = some (Value.int .i64 r.seat) from rfl)
  have z3 := (cell_of hg 3).trans (show _ = some (Value.int .i64 r.till) from rfl)
  have z4 := (cell_of hg 4).trans (show _ = some (Value.int .i64 r.clock) from rfl)
  have hR := h.keep f0
  have c0 := hR.c.1
  have hc := rcheck_ok r W
  rw [hr] at hc
  simp only [if_true] at hc
  have HC := Lib.hid hc; have F0 := Lib.hid f0; have HR := Lib.hid hR; have HG := Lib.hid hg; have H := Lib.hid h
  have HL := Lib.hid (show b.L.length ≤ 100000 by have := hraw.few; have := hraw.c1; omega)
  have HF := Lib.hid hf; have HRaw := Lib.hid hraw
  have b1 : (r.kind == 1) = false := by rw [k1]; rfl
  have b2 : (r.kind == 2) = false := by rw [k1]; rfl
  have b3 : (r.kind == 3) = true := by rw [k1]; rfl
  have b5 : (r.kind == 5) = false := by rw [k1]; rfl
  clear h hr f0 hg hR hc k1 hraw hf
  go_enter Tryz.func46, Tryz.ntmps46
  go_upto_region 1 with fail
  rw [← hW, ← hz]
  clear hW hz
  go_wp2_with fail
  refine HC.out.mono ?_
  rintro e w1 ⟨rfl, f1⟩
  have HG1 := Lib.hid (f1.get HG.out (fun h => h)); have F1 := Lib.hid (F0.out.trans f1 (fun _ _ h => h)); have HR1 := Lib.hid (HR.out.keep f1)
  clear f1 z0 z1 z2 z3 z4 c0
  have z0 := (cell_of HG1.out 0).trans (show _ = some (Value.int .i64 r.kind) from rfl)
  have z1 := (cell_of HG1.out 1).trans (show _ = some (Value.int .u32 (r.id : Int)) from rfl)
  have z2 := (cell_of HG1.out 2).trans (show _ = some (Value.int .i64 r.seat) from rfl)
  have z3 := (cell_of HG1.out 3).trans (show _ = some (Value.int .i64 r.till) from rfl)
  have z4 := (cell_of HG1.out 4).trans (show _ = some (Value.int .i64 r.clock) from rfl)
  have HH := Lib.hid (rfind_ok HR1.out HL.out (id := r.id))
  go_wp2_with fail
  refine HH.out.mono ?_
  rintro e w2 ⟨⟨i, rfl, hp⟩, rfl⟩
  obtain ⟨k, hk, hik, hfk⟩ : ∃ k, ∃ h : k < b.L.length, i = (k : Int) ∧ b.L[k].1 = r.id := by
    rcases hp with ⟨_, hno⟩ | ⟨k, hk, e, h⟩
    · exfalso
      apply HF.out
      cases e : bFind b.L r.id with
      | none => rfl
      | some x => have h1 := bFind_id e; have := hno x h1.2; simp [h1.1] at this
    · exact ⟨k, hk, e, by simpa using h⟩
  subst hik
  obtain ⟨n, hnn⟩ : ∃ n, n = b.L.length := ⟨_, rfl⟩
  obtain ⟨g, c, hv, d0, d1, d2⟩ := Bos.cells HR1.out.row hk
  have hrow := HR1.out.row
  rw [hv] at hrow
  have hdl : bDrop b.L r.id = b.L.take k ++ b.L.drop (k + 1) := by rw [← hfk]; exact drop_split HRaw.out hk
  have hnc : n ≤ c := by
    rcases hrow.2 with ⟨e1, e2⟩ | ⟨g, cap, cur, e1, _, _, e2, _⟩
    · omega
    · obtain ⟨_, _, rfl⟩ := Value.slice.inj e1; omega
  have lg : g < w1.heap.size := Row.lt hrow (b := g) rfl
  obtain ⟨a2, ha2, s2, l2⟩ : ∃ a2, (if c = k + 1 then (some ⟨g, 0, none⟩ : Option Addr) else some ⟨g, (k + 1) * 3, none⟩) = a2 ∧ SrcAt w1 3 encB a2 (b.L.drop (k + 1)) ∧ ∀ g o, a2 = some ⟨g, o, none⟩ → g < w1.heap.size := by
    by_cases hck : c = k + 1
    · refine ⟨some ⟨g, 0, none⟩, by rw [if_pos hck], ?_, fun g' o e => by cases e; exact lg⟩
      have : b.L.drop (k + 1) = [] := List.drop_eq_nil_of_le (by omega)
      rw [this]; exact SrcAt.nil (.inr ⟨_, _, rfl⟩)
    · exact ⟨some ⟨g, (k + 1) * 3, none⟩, by rw [if_neg hck], Els.srcDrop encB_len hrow (k + 1), fun g' o e => by cases e; exact lg⟩
  have s1 := Els.srcTake encB_len hrow k
  obtain ⟨x1, e1, wA, x3, e3, wZ, r1, r3, fa, fc, hw3, o3⟩ := bout_runs (w := w1) (S := b.L) HL.out hk (c1 := c) (c2 := c - (k + 1)) s1 s2 l2
  rw [← hdl] at hw3
  obtain ⟨n1, hn1⟩ : ∃ n1, n1 = n - 1 := ⟨_, rfl⟩
  rw [← hnn, ← hn1] at r3 hw3 o3
  have c4 := HR1.out.c.2.2.2.2.1
  rw [hv, ← hnn] at c4
  have cb := (fa.cell (b := wb) (o := 4) (s := none) (lt_of_block HR1.out.head) (fun h => h)).trans c4
  have hRc := HR1.out.keep fc
  have y4 := free_of hRc.head 4
  have lwb := lt_of_block HR1.out.head
  have hne : (Value.slice x3 n1 e3).ownBlock ≠ some wb := fun e => by have := o3 _ e; omega
  have fs : Fr (fun y => y = wb) wZ (wZ.setCell ⟨wb, 4, none⟩ (.slice x3 n1 e3)) := Fr.setCell (F := fun y => y = wb) (p := ⟨wb, 4, none⟩) (Fr.refl _ _) (fun _ => rfl) _
  have HN := Lib.hid (show RAft wb v { b with L := bDrop b.L r.id } w (wZ.setCell ⟨wb, 4, none⟩ (.slice x3 n1 e3)) from
    ⟨.slice x3 n1 e3, ⟨setCell_blk (o := 4) hRc.head _, Row.fr hw3 fs (fun y hy e => hne (by rw [hy, e])), hne⟩,
      (((F1.out.trans fc (fun _ _ h => h)).mono (fun _ _ h => h.elim) : Fr (fun x => x = wb ∨ v.ownBlock = some x) w wZ).trans fs (fun y _ e => .inl e)), fun y hy => .inr (by have := o3 y hy; have := F1.out.size; omega)⟩)
  have R1 := Lib.hid r1; have R3 := Lib.hid r3
  have i0 : (0 : Int) ≤ (k : Int) := by omega
  have i2 : ¬ (k : Int) < 0 := by omega
  have hkn : k < n := by omega
  have hkn' : (k : Int) < (n : Int) := by omega
  have hk3 : k + 1 ≤ n := by omega
  have hk4 : k ≤ c := by omega
  have hk6 : k ≤ n := by omega
  have hn6 : (n : Int) ≤ 100000 := by have := HL.out; omega
  have c4c := (fc.cell (b := wb) (o := 4) (s := none) lwb (fun h => h)).trans c4
  clear hp hfk hk hv hrow hne fs hRc d0 d1 d2 r1 r3 fa fc hw3 o3 hdl s1 s2 l2 hnn hn1 lg lwb hnc
  have HR3 := Lib.hid (And.intro y4 c4c)
  have Hcb := Lib.hid cb
  clear y4 c4c cb
  go_upto_region 19 with fail
  go_cut [7] (fun s7 wx => s7 = .slice x1 k e1 ∧ wx = wA)
  case first =>
    go_wp2_with (at_builtin; refine wpList_append_run rfl _ _ _ rfl rfl rfl R1.out ?_)
    go_meet
    exact ⟨rfl, rfl⟩
  case rest =>
  obtain ⟨rfl, rfl⟩ := hcut
  have cb := Hcb.out
  have y4 := HR3.out.1
  have c4c := HR3.out.2
  clear c4
  go_wp2_with (at_builtin; refine wpList_append_run rfl _ _ _ rfl rfl rfl R3.out ?_)
  go_ret
  exact ⟨rfl, HN.out⟩
end Go.Proofs.YtffnjnnmlfgngaaGreat.Bk
namespace Go.Proofs.YtffnjnnmlfgngaaGreat.Bk
open Go.RowKit Go.Shelf
theorem rapply_ok {w : World} {wb : Nat} {v : Value} {b : Bk} (h : RefAt w wb v b) (hraw : Raw b) (r : Rc) : Calls Tryz.prog 46 #[.pointer (some ⟨wb, 0, none⟩), rcV r] w fun e w' => e = .returned (.int .i64 (appE b r : Nat)) ∧ RAft wb v (appB b r) w w' := by
  have hl : b.L.length ≤ 100000 := by have := hraw.few; have := hraw.c1; omega
  by_cases hr : recB r = false
  · rw [show appE b r = 160 from if_pos hr, show appB b r = b from if_pos hr]
    exact rapply_bad h hr
  have hr' : recB r = true := by simpa using hr
  by_cases k1 : r.kind = 1
  · rw [show appE b r = holdE b r by unfold appE; rw [if_neg hr, if_pos k1], show appB b r = holdB b r by unfold appB; rw [if_neg hr, if_pos k1]]
    exact rapply_hold h hraw hr' k1
  by_cases k5 : r.kind = 5
  · rw [show appE b r = tickE b r.clock by unfold appE; rw [if_neg hr, if_neg k1, if_pos k5], show appB b r = tickB b r.clock by unfold appB; rw [if_neg hr, if_neg k1, if_pos k5]]
    exact rapply_tick h hl hr' k5
  cases hf : bFind b.L r.id with
  | none =>
    rw [show appE b r = 171 by unfold appE; rw [if_neg hr, if_neg k1, if_neg k5, hf], show appB b r = b by unfold appB; rw [if_neg hr, if_neg k1, if_neg k5, hf]]
    exact rapply_gone h hl hr' k1 k5 hf
  | some x =>
    have hn : bFind b.L r.id ≠ none := by rw [hf]; simp
    by_cases k2 : r.kind = 2
    · rw [show appE b r = 0 by unfold appE; rw [if_neg hr, if_neg k1, if_neg k5, hf]; exact if_neg (by omega), show appB b r = { b with L := bFirm b.L r.id } by unfold appB; rw [if_neg hr, if_neg k1, if_neg k5, hf]; exact if_pos k2]
      exact rapply_firm h hraw hr' k2 hn
    by_cases k3 : r.kind = 3
    · rw [show appE b r = 0 by unfold appE; rw [if_neg hr, if_neg k1, if_neg k5, hf]; exact if_neg (by omega), show appB b r = { b with L := bDrop b.L r.id } by unfold appB; rw [if_neg hr, if_neg k1, if_neg k5, hf]; exact (if_neg k2).trans (if_pos k3)]
      exact rapply_drop h hraw hr' k3 hn
    have k4 : r.kind = 4 := by have := recB_kind hr'; omega
    rw [show appE b r = seatE b x r.seat by unfold appE; rw [if_neg hr, if_neg k1, if_neg k5, hf]; exact if_pos k4, show appB b r = seatB b x r.seat by unfold appB; rw [if_neg hr, if_neg k1, if_neg k5, hf]; exact (if_neg k2).trans (if_neg k3)]
    exact rapply_move h hraw hr' k4 hf
end Go.Proofs.YtffnjnnmlfgngaaGreat.Bk
namespace Go.Proofs.YtffnjnnmlfgngaaGreat.Bk
open Go.RowKit Go.Shelf
attribute [local go_sem] Oper.semAt_some
/-- May the book be? -/
def mayK (b : Bk) : Bool := (decide (1 ≤ b.next) && (decide (0 ≤ b.clock) && (decide (b.clock ≤ 1099511627776) && decide (b.L.length ≤ b.codes)))) && ofGo { b with L := [] } 0 b.L
theorem Tryz.infoBl : (Tryz.prog.info? 4).map (fun i => (i.zero, i.size, i.bytes)) = some (some (.bool false), 1, 1) := by kernel_rfl
abbrev blO (l : List Bool) : Obj := .cells (l.map Value.bool).toArray 4 (0, 0)
theorem madeBl (n : Nat) : madeCells #[Value.bool false] n = ((List.replicate n false).map Value.bool).toArray := by
  apply Array.ext'
  apply List.ext_getElem
  · simp [size_madeCells]
  · intro i h1 h2
    simp [madeCells, Nat.mod_one]
theorem take_cons {L : List Bo} {i : Nat} (h : i < L.length) : L.drop i = L[i] :: L.drop (i + 1) := List.drop_eq_getElem_cons h
theorem ofGo_at {b : Bk} {i last : Nat} (h : i < b.L.length) : ofGo { b with L := b.L.take i } last (b.L.drop i) = (mayB { b with L := b.L.take i } b.next b.L[i] last && ofGo { b with L := b.L.take (i + 1) } b.L[i].1 (b.L.drop (i + 1))) := by
  rw [take_cons h, ofGo]
  have e : b.L.take i ++ [b.L[i]] = b.L.take (i + 1) := by rw [List.take_append_getElem]
  simp only [e]
theorem mayB_no {b : Bk} {nx : Nat} {x : Bo} {last : Nat} (h : x.1 ≤ last ∨ nx ≤ x.1 ∨ x.2.1 < 0 ∨ (b.seats : Int) ≤ x.2.1 ∨ (bSeat b.L x.2.1).isSome = true) : mayB b nx x last = false := if_pos h
set_option maxRecDepth 100000 in
set_option maxHeartbeats 4000000 in
theorem rbmay_ok {w : World} {wb : Nat} {v : Value} {b : Bk} (h : RefAt w wb v b) (hl : b.L.length ≤ 100000) (hs : 1 ≤ b.seats ∧ b.seats ≤ 1024) : Calls Tryz.prog 17 #[.pointer (some ⟨wb, 0, none⟩)] w fun e w' => e = .returned (.bool (mayK b)) ∧ Fr (fun _ => False) w w' := by
  obtain ⟨V0, hV0⟩ : ∃ V0, V0 = ofGo { b with L := [] } 0 b.L := ⟨_, rfl⟩
  have HMay := Lib.hid (show mayK b = ((decide (1 ≤ b.next) && (decide (0 ≤ b.clock) && (decide (b.clock ≤ 1099511627776) && decide (b.L.length ≤ b.codes)))) && V0) by rw [hV0]; rfl)
  obtain ⟨RES, hRES⟩ : ∃ R, R = mayK b := ⟨_, rfl⟩
  rw [← hRES]
  have HRES := Lib.hid hRES
  obtain ⟨a, cp, hv⟩ := bos_slice h.row
  have hc := h.c
  rw [hv] at hc
  obtain ⟨-, c1, c2, -, c4, c5, c6⟩ := hc
  have H := Lib.hid h; have HV0 := Lib.hid hV0; have HL := Lib.hid hl; have HS := Lib.hid hs; have HVv := Lib.hid hv
  clear hV0 hRES h hv
  obtain ⟨n, hn⟩ : ∃ n, n = b.L.length := ⟨_, rfl⟩
  rw [← hn] at c4 hl
  have HN := Lib.hid hn
  clear hn
  go_enter Tryz.func17, Tryz.ntmps17
  go_upto_region 1 with fail
  by_cases e1 : b.next < 1
  · have b1 : decide ((b.next : Int) < 1) = true := by simp; omega
    have b1' : decide (b.next < 1) = true := by simp; omega
    have HB := Lib.hid (show mayK b = false by rw [HMay.out]; simp; omega)
    clear e1
    go_cut [38] (fun s wx => s = .bool true ∧ Fr (fun _ => False) w wx)
    case first =>
      go_big_quiet (fail)
      go_wp2_with fail
      go_meet
      exact ⟨rfl, ⟨rfl, rfl, rfl, Nat.le_refl _, fun _ _ _ => rfl⟩⟩
    case rest =>
    obtain ⟨rfl, f1⟩ := hcut
    have F1 := Lib.hid f1
    clear f1
    go_wp2_with fail
    go_ret
    exact ⟨by rw [HRES.out, HB.out]; rfl, F1.out⟩
  have b1 : decide ((b.next : Int) < 1) = false := by simp; omega
  have b1' : decide (b.next < 1) = false := by simp; omega
  by_cases e2 : b.clock < 0
  · have b2 : decide (b.clock < 0) = true := by simpa using e2
    have HB := Lib.hid (show mayK b = false by rw [HMay.out]; simp; omega)
    clear e1 e2
    go_cut [38] (fun s wx => s = .bool true ∧ Fr (fun _ => False) w wx)
    case first =>
      go_big_quiet (fail)
      go_wp2_with fail
      go_meet
      exact ⟨rfl, ⟨rfl, rfl, rfl, Nat.le_refl _, fun _ _ _ => rfl⟩⟩
    case rest =>
    obtain ⟨rfl, f1⟩ := hcut
    have F1 := Lib.hid f1
    clear f1
    go_wp2_with fail
    go_ret
    exact ⟨by rw [HRES.out, HB.out]; rfl, F1.out⟩
  have b2 : decide (b.clock < 0) = false := by simpa using e2
  by_cases e3 : 1099511627776 < b.clock
  · have b3 : decide (1099511627776 < b.clock) = true := by simpa using e3
    have HB := Lib.hid (show mayK b = false by rw [HMay.out]; simp; omega)
    clear e1 e2 e3
    go_cut [38] (fun s wx => s = .bool true ∧ Fr (fun _ => False) w wx)
    case first =>
      go_big_quiet (fail)
      go_wp2_with fail
      go_meet
      exact ⟨rfl, ⟨rfl, rfl, rfl, Nat.le_refl _, fun _ _ _ => rfl⟩⟩
    case rest =>
    obtain ⟨rfl, f1⟩ := hcut
    have F1 := Lib.hid f1
    clear f1
    go_wp2_with fail
    go_ret
    exact ⟨by rw [HRES.out, HB.out]; rfl, F1.out⟩
  have b3 : decide (1099511627776 < b.clock) = false := by simpa using e3
  by_cases e4 : b.codes < n
  · have b4 : decide ((b.codes : Int) < (n : Int)) = true := by simp; omega
    have b4' : decide (b.codes < n) = true := by simpa using e4
    have HB := Lib.hid (show mayK b = false by rw [HMay.out]; simp; have := HN.out; omega)
    clear e1 e2 e3 e4
    go_cut [38] (fun s wx => s = .bool true ∧ Fr (fun _ => False) w wx)
    case first =>
      go_big_quiet (fail)
      go_wp2_with fail
      go_meet
      exact ⟨rfl, ⟨rfl, rfl, rfl, Nat.le_refl _, fun _ _ _ => rfl⟩⟩
    case rest =>
    obtain ⟨rfl, f1⟩ := hcut
    have F1 := Lib.hid f1
    clear f1
    go_wp2_with fail
    go_ret
    exact ⟨by rw [HRES.out, HB.out]; rfl, F1.out⟩
  have b4 : decide ((b.codes : Int) < (n : Int)) = false := by simp; omega
  have b4' : decide (b.codes < n) = false := by simpa using e4
  have HMay2 := Lib.hid (show mayK b = V0 by
    rw [HMay.out]
    have : (decide (1 ≤ b.next) && (decide (0 ≤ b.clock) && (decide (b.clock ≤ 1099511627776) && decide (b.L.length ≤ b.codes)))) = true := by simp; have := HN.out; omega
    rw [this, Bool.true_and])
  clear e1 e2 e3 e4
  go_cut [38] (fun s wx => s = .bool false ∧ Fr (fun _ => False) w wx)
  case first =>
    go_big_quiet (fail)
    go_wp2_with fail
    go_meet
    exact ⟨rfl, ⟨rfl, rfl, rfl, Nat.le_refl _, fun _ _ _ => rfl⟩⟩
  case rest =>
  obtain ⟨rfl, f1⟩ := hcut
  have F1 := Lib.hid f1
  clear b1 b1' b2 b3 b4 b4' c1 c2 c4 c5 c6 f1
  have hR1 := H.out.keep F1.out
  have hc := hR1.c
  rw [HVv.out, ← HN.out] at hc
  obtain ⟨-, c1, -, -, c4, c5, c6⟩ := hc
  obtain ⟨i0, hi, y0, y1, y2⟩ := info_parts Tryz.infoBl
  have hmk := run_make (P := Tryz.prog) wc 114 4 i0 _ Tryz.underlying114 hi y0 .i64 .i64 (b.seats : Int) (b.seats : Int) (by omega) (Int.le_refl _) (by rw [y2]; have := HS.out; omega) (by have := HS.out; omega)
  simp only [Int.toNat_natCast] at hmk
  obtain ⟨Wt, hWt⟩ : ∃ W, W = wc.alloc (.cells (madeCells #[Value.bool false] b.seats) 4) := ⟨_, rfl⟩
  obtain ⟨tb, htb⟩ : ∃ z, z = wc.heap.size := ⟨_, rfl⟩
  have ft : Fr (fun _ => False) wc Wt := by rw [hWt]; exact Fr.alloc (Fr.refl _ _) _
  have gt : Wt.heap[tb]? = some (blO (takenOf b.seats [])) := by rw [hWt, htb, heap_alloc_at, madeBl, taken_none]
  have HT := Lib.hid (And.intro gt (And.intro (F1.out.trans ft (fun _ _ h => h)) (show w.heap.size ≤ tb by rw [htb]; exact F1.out.size)))
  have hs3 : (b.seats : Int) ≤ 1024 := by have := HS.out; omega
  have hn5 : (n : Int) ≤ 100000 := by omega
  clear ft gt hR1
  go_upto_region 5 with fail
  rw [← hWt, ← htb]
  clear hmk hWt htb hi y0 y1 y2 c1 c4 c5 c6
  go_wp2_with fail
  go_loopw [3, 5] (fun s3 s5 wr => ∃ (i last : Nat), s3 = .int .u32 (last : Int) ∧ s5 = .int .i64 (i : Int) ∧ i ≤ n ∧ V0 = ofGo { b with L := b.L.take i } last (b.L.drop i) ∧ wr.heap[tb]? = some (blO (takenOf b.seats (b.L.take i))) ∧ Fr (fun y => y = tb) Wt wr) (fun _ s5 _ => n - (intOf s5).toNat)
  case atStart => exact ⟨0, 0, rfl, rfl, Nat.zero_le _, HV0.out, HT.out.1, Fr.refl _ _⟩
  case round =>
    obtain ⟨i, last, rfl, rfl, hi, hV, htk, hF⟩ := hrel
    have Fw := Lib.hid (show Fr (fun _ => False) w wr from ((HT.out.2.1.mono (fun _ _ h => h.elim) : Fr (fun y => w.heap.size ≤ y) w Wt).trans hF (fun y _ e => by have := HT.out.2.2; omega)).toNew)
    have HF := Lib.hid hF; have HTk := Lib.hid htk; have HV := Lib.hid hV
    have hR := H.out.keep Fw.out
    have hc := hR.c
    rw [HVv.out, ← HN.out] at hc
    obtain ⟨-, c1, -, -, c4, c5, c6⟩ := hc
    clear hF htk hV
    by_cases hlt : i < n
    · have hlt' : (i : Int) < (n : Int) := by omega
      have i0 : (0 : Int) ≤ (i : Int) := by omega
      have hlb : i < b.L.length := by rw [← HN.out]; exact hlt
      obtain ⟨g, cap, e1, d0, d1, d2⟩ := Bos.cells hR.row hlb
      obtain ⟨x, hx⟩ : ∃ x, x = b.L[i] := ⟨_, rfl⟩
      rw [← hx] at d0 d1 d2
      have HX := Lib.hid (show ∀ h : i < b.L.length, x = b.L[i] from fun _ => hx)
      have HLb := Lib.hid hlb; have HLt := Lib.hid hlt
      rw [HVv.out, ← HN.out] at e1
      obtain ⟨e1a, -, e1c⟩ := Value.slice.inj e1
      rw [e1a] at c4
      obtain ⟨W8, hW8⟩ : ∃ W, W = wr.alloc (.cells #[.int .u32 (x.1 : Int), .int .i64 x.2.1, .int .i64 x.2.2] 68) := ⟨_, rfl⟩
      obtain ⟨y, hy⟩ : ∃ z, z = wr.heap.size := ⟨_, rfl⟩
      have f8 : Fr (fun _ => False) wr W8 := by rw [hW8]; exact Fr.alloc (Fr.refl _ _) _
      have g8 : W8.heap[y]? = some (.cells #[.int .u32 (x.1 : Int), .int .i64 x.2.1, .int .i64 x.2.2] 68 (0, 0)) := by rw [hW8, hy]; exact heap_alloc_at _ _
      have Hy := Lib.hid (show tb < y from by rw [hy]; exact lt_of_block HTk.out)
      have HG8 := Lib.hid g8; have F8 := Lib.hid f8
      have HR8 := Lib.hid (hR.keep f8)
      have HV8 := Lib.hid (show V0 = (mayB { b with L := b.L.take i } b.next x last && ofGo { b with L := b.L.take (i + 1) } x.1 (b.L.drop (i + 1))) by rw [HV.out, ofGo_at hlb, hx])
      have HTk8 := Lib.hid (f8.get HTk.out (fun h => h))
      clear hx hR hlb hlt e1 e1a e1c hi f8 g8
      go_upto_region 9 with fail
      rw [← hW8, ← hy]
      clear hW8 hy c1 c4 c5 c6 d0 d1 d2
      obtain ⟨-, c1, -, -, -, c5, c6⟩ := HR8.out.c
      have y0 := (cell_of HG8.out 0).trans (show _ = some (Value.int .u32 (x.1 : Int)) from rfl)
      have y1 := (cell_of HG8.out 1).trans (show _ = some (Value.int .i64 x.2.1) from rfl)
      have y2 := (cell_of HG8.out 2).trans (show _ = some (Value.int .i64 x.2.2) from rfl)
      by_cases e1 : x.1 ≤ last
      · have b1 : decide ((x.1 : Int) ≤ (last : Int)) = true := by simp; omega
        have b1' : decide (x.1 ≤ last) = true := by simpa using e1
        have HB := Lib.hid (show mayK b = false by rw [HMay2.out, HV8.out, show mayB { b with L := b.L.take i } b.next x last = false from mayB_no (.inl e1)]; rfl)
        clear e1
        go_cut [95] (fun s wx => s = .bool true ∧ Fr (fun _ => False) W8 wx)
        case first =>
          go_big_quiet (fail)
          go_wp2_with fail
          go_meet
          exact ⟨rfl, ⟨rfl, rfl, rfl, Nat.le_refl _, fun _ _ _ => rfl⟩⟩
        case rest =>
        obtain ⟨rfl, f9⟩ := hcut
        have F9 := Lib.hid f9
        clear f9
        go_wp2_with fail
        go_ret
        exact ⟨by rw [HRES.out, HB.out]; rfl, (Fw.out.trans F8.out (fun _ _ h => h)).trans F9.out (fun _ _ h => h)⟩
      have b1 : decide ((x.1 : Int) ≤ (last : Int)) = false := by simp; omega
      have b1' : decide (x.1 ≤ last) = false := by simpa using e1
      by_cases e2 : b.next ≤ x.1
      · have b2 : decide ((b.next : Int) ≤ (x.1 : Int)) = true := by simp; omega
        have b2' : decide (b.next ≤ x.1) = true := by simpa using e2
        have HB := Lib.hid (show mayK b = false by rw [HMay2.out, HV8.out, show mayB { b with L := b.L.take i } b.next x last = false from mayB_no (.inr (.inl e2))]; rfl)
        clear e1 e2
        go_cut [95] (fun s wx => s = .bool true ∧ Fr (fun _ => False) W8 wx)
        case first =>
          go_big_quiet (fail)
          go_wp2_with fail
          go_meet
          exact ⟨rfl, ⟨rfl, rfl, rfl, Nat.le_refl _, fun _ _ _ => rfl⟩⟩
        case rest =>
        obtain ⟨rfl, f9⟩ := hcut
        have F9 := Lib.hid f9
        clear f9
        go_wp2_with fail
        go_ret
        exact ⟨by rw [HRES.out, HB.out]; rfl, (Fw.out.trans F8.out (fun _ _ h => h)).trans F9.out (fun _ _ h => h)⟩
      have b2 : decide ((b.next : Int) ≤ (x.1 : Int)) = false := by simp; omega
      have b2' : decide (b.next ≤ x.1) = false := by simpa using e2
      by_cases e3 : x.2.1 < 0
      · have b3 : decide (x.2.1 < 0) = true := by simpa using e3
        have HB := Lib.hid (show mayK b = false by rw [HMay2.out, HV8.out, show mayB { b with L := b.L.take i } b.next x last = false from mayB_no (.inr (.inr (.inl e3)))]; rfl)
        clear e1 e2 e3
        go_cut [95] (fun s wx => s = .bool true ∧ Fr (fun _ => False) W8 wx)
        case first =>
          go_big_quiet (fail)
          go_wp2_with fail
          go_meet
          exact ⟨rfl, ⟨rfl, rfl, rfl, Nat.le_refl _, fun _ _ _ => rfl⟩⟩
        case rest =>
        obtain ⟨rfl, f9⟩ := hcut
        have F9 := Lib.hid f9
        clear f9
        go_wp2_with fail
        go_ret
        exact ⟨by rw [HRES.out, HB.out]; rfl, (Fw.out.trans F8.out (fun _ _ h => h)).trans F9.out (fun _ _ h => h)⟩
      have b3 : decide (x.2.1 < 0) = false := by simpa using e3
      by_cases e4 : (b.seats : Int) ≤ x.2.1
      · have b4 : decide ((b.seats : Int) ≤ x.2.1) = true := by simpa using e4
        have HB := Lib.hid (show mayK b = false by rw [HMay2.out, HV8.out, show mayB { b with L := b.L.take i } b.next x last = false from mayB_no (.inr (.inr (.inr (.inl e4))))]; rfl)
        clear e1 e2 e3 e4
        go_cut [95] (fun s wx => s = .bool true ∧ Fr (fun _ => False) W8 wx)
        case first =>
          go_big_quiet (fail)
          go_wp2_with fail
          go_meet
          exact ⟨rfl, ⟨rfl, rfl, rfl, Nat.le_refl _, fun _ _ _ => rfl⟩⟩
        case rest =>
        obtain ⟨rfl, f9⟩ := hcut
        have F9 := Lib.hid f9
        clear f9
        go_wp2_with fail
        go_ret
        exact ⟨by rw [HRES.out, HB.out]; rfl, (Fw.out.trans F8.out (fun _ _ h => h)).trans F9.out (fun _ _ h => h)⟩
      have b4 : decide ((b.seats : Int) ≤ x.2.1) = false := by simpa using e4
      obtain ⟨k, hk⟩ : ∃ k : Nat, x.2.1 = (k : Int) := ⟨x.2.1.toNat, by omega⟩
      have hks : k < b.seats := by omega
      obtain ⟨tk, htk⟩ : ∃ tk, tk = (bSeat (b.L.take i) (k : Int)).isSome := ⟨_, rfl⟩
      have tkc : W8.cell? ⟨tb, k, none⟩ = some (.bool tk) := by
        rw [cell_of HTk8.out, htk, ← takenOf_get hks]
        simp [List.getD_eq_getElem?_getD, takenOf_length, hks]
      have Hk := Lib.hid hk; have Htk := Lib.hid htk; have Hks := Lib.hid hks
      rw [hk] at b3 b4 y1
      have k0 : (0 : Int) ≤ (k : Int) := by omega
      have k1 : (k : Int) < (b.seats : Int) := by omega
      have k2 : k < b.seats := hks
      have b4n : decide (b.seats ≤ k) = false := by simp; omega
      clear hk htk hks
      cases tk with
      | true =>
        have HB := Lib.hid (show mayK b = false by rw [HMay2.out, HV8.out, show mayB { b with L := b.L.take i } b.next x last = false from mayB_no (.inr (.inr (.inr (.inr (by rw [Hk.out]; exact Htk.out.symm)))))]; rfl)
        clear e1 e2 e3 e4
        go_cut [95] (fun s wx => s = .bool true ∧ Fr (fun _ => False) W8 wx)
        case first =>
          go_big_quiet (fail)
          go_wp2_with fail
          go_meet
          exact ⟨rfl, ⟨rfl, rfl, rfl, Nat.le_refl _, fun _ _ _ => rfl⟩⟩
        case rest =>
        obtain ⟨rfl, f9⟩ := hcut
        have F9 := Lib.hid f9
        clear f9
        go_wp2_with fail
        go_ret
        exact ⟨by rw [HRES.out, HB.out]; rfl, (Fw.out.trans F8.out (fun _ _ h => h)).trans F9.out (fun _ _ h => h)⟩
      | false =>
        go_cut [95] (fun s wx => s = .bool false ∧ Fr (fun _ => False) W8 wx)
        case first =>
          go_big_quiet (fail)
          go_wp2_with fail
          go_meet
          exact ⟨rfl, ⟨rfl, rfl, rfl, Nat.le_refl _, fun _ _ _ => rfl⟩⟩
        case rest =>
        obtain ⟨rfl, f9⟩ := hcut
        have F9 := Lib.hid f9
        clear f9
        clear c1 c5 c6 y0 y1 y2
        have HG9 := Lib.hid (F9.out.get HG8.out (fun h => h)); have HR9 := Lib.hid (HR8.out.keep F9.out); have HTk9 := Lib.hid (F9.out.get HTk8.out (fun h => h))
        have Hm := Lib.hid (show mayB { b with L := b.L.take i } b.next x last = (decide (x.2.2 = 0) || (decide (b.clock < x.2.2) && decide (x.2.2 ≤ 1099511627776))) from if_neg (by rw [Hk.out, ← Htk.out]; simp only [Bool.false_eq_true, or_false]; have := Hks.out; have := Hk.out; omega))
        clear tkc e1 e2 e3 e4 b1 b1' b2 b2' b3 b4 b4n
        obtain ⟨-, -, -, -, -, -, c6⟩ := HR9.out.c
        have y1 := (cell_of HG9.out 1).trans (show _ = some (Value.int .i64 x.2.1) from rfl)
        have y0 := (cell_of HG9.out 0).trans (show _ = some (Value.int .u32 (x.1 : Int)) from rfl)
        have y2 := (cell_of HG9.out 2).trans (show _ = some (Value.int .i64 x.2.2) from rfl)
        rw [Hk.out] at y1
        have ytk := free_of HTk9.out k
        have ytc : wc.cell? ⟨tb, k, none⟩ = some (.bool false) := by
          rw [cell_of HTk9.out, Htk.out, ← takenOf_get Hks.out]
          simp [List.getD_eq_getElem?_getD, takenOf_length, Hks.out]
        by_cases u0 : x.2.2 = 0
        · have v0 : (x.2.2 != 0) = false := by simp [u0]
          have HGd := Lib.hid (show V0 = ofGo { b with L := b.L.take (i + 1) } x.1 (b.L.drop (i + 1)) by rw [HV8.out, Hm.out, decide_eq_true u0]; rfl)
          clear u0
          go_upto_region 11 with fail
          go_cut [112] (fun s wx => s = .bool false ∧ Fr (fun _ => False) wc wx)
          case first =>
            go_big_quiet (fail)
            go_wp2_with fail
            go_meet
            exact ⟨rfl, ⟨rfl, rfl, rfl, Nat.le_refl _, fun _ _ _ => rfl⟩⟩
          case rest =>
          obtain ⟨rfl, f11⟩ := hcut
          have F11 := Lib.hid f11
          clear f11
          have HG11 := Lib.hid (F11.out.get HG9.out (fun h => h)); have HTk11 := Lib.hid (F11.out.get HTk9.out (fun h => h))
          clear y0 y1 y2 c6 ytk ytc
          have y0 := (cell_of HG11.out 0).trans (show _ = some (Value.int .u32 (x.1 : Int)) from rfl)
          have y1 := (cell_of HG11.out 1).trans (show _ = some (Value.int .i64 x.2.1) from rfl)
          rw [Hk.out] at y1
          have y0s := ((Fr.setCell (F := fun q => q = tb) (p := ⟨tb, k, none⟩) (Fr.refl _ wc) (fun _ => rfl) (.bool true)).cell (b := y) (o := 0) (s := none) (lt_of_block HG11.out) (by have := Hy.out; omega)).trans y0
          have hyt : y ≠ tb := by have := Hy.out; omega
          have ytk := free_of HTk11.out k
          have ytc : wc.cell? ⟨tb, k, none⟩ = some (.bool false) := by
            rw [cell_of HTk11.out, Htk.out, ← takenOf_get Hks.out]
            simp [List.getD_eq_getElem?_getD, takenOf_length, Hks.out]
          have hnew := setCell_blk (o := k) HTk11.out (.bool true)
          have HNew := Lib.hid (show (wc.setCell ⟨tb, k, none⟩ (.bool true)).heap[tb]? = some (blO (takenOf b.seats (b.L.take (i + 1)))) by
            rw [hnew]
            have e : b.L.take (i + 1) = b.L.take i ++ [x] := by rw [HX.out HLb.out, List.take_append_getElem]
            have hfree : ∀ z ∈ b.L.take i, z.2.1 ≠ x.2.1 := by rw [Hk.out]; exact bSeat_free Htk.out.symm
            rw [e, takenOf_set (L := b.L.take i) (M := b.L.take i ++ [x]) (k := k) (v := true) (fun j hj => by rw [bSeat_put_ne (by rw [Hk.out]; omega)]) (by rw [← Hk.out, bSeat_put_eq hfree]; rfl)]
            simp [List.map_set])
          have HFin := Lib.hid (show Fr (fun y => y = tb) Wt (wc.setCell ⟨tb, k, none⟩ (.bool true)) from ((((HF.out.trans F8.out (fun _ _ h => h.elim)).trans F9.out (fun _ _ h => h.elim)).trans F11.out (fun _ _ h => h.elim))).setCell (p := ⟨tb, k, none⟩) (fun _ => rfl) _)
          obtain ⟨i1, hi1⟩ : ∃ i1, i1 = i + 1 := ⟨_, rfl⟩
          have j1 : (i : Int) + 1 = (i1 : Int) := by rw [hi1]; push_cast; rfl
          have j2 : wrap64 (i1 : Int) = (i1 : Int) := by clear y0 y0s y1 ytk ytc hnew; unfold wrap64; have := HLt.out; omega
          have j3 : IntKind.i64.wrap (i1 : Int) = (i1 : Int) := by clear y0 y0s y1 ytk ytc hnew; rw [IntKind.wrap_i64]; have := HLt.out; omega
          have HI := Lib.hid hi1
          clear hi1 hnew
          go_wp2_with fail
          go_roundw
          case rel => exact ⟨i1, x.1, rfl, rfl, by have := HI.out; have := HLt.out; omega, by rw [HI.out]; exact HGd.out, by rw [HI.out]; exact HNew.out, HFin.out⟩
          case measure => have := HI.out; have := HLt.out; simp [intOf]; omega
        have v0 : (x.2.2 != 0) = true := by simpa using u0
        by_cases u1 : x.2.2 ≤ b.clock
        · have v1 : decide (x.2.2 ≤ b.clock) = true := by simpa using u1
          have HB := Lib.hid (show mayK b = false by rw [HMay2.out, HV8.out, Hm.out, decide_eq_false u0, show decide (b.clock < x.2.2) = false by simpa using u1]; rfl)
          clear u0 u1 ytk ytc
          go_upto_region 11 with fail
          go_cut [112] (fun s wx => s = .bool true ∧ Fr (fun _ => False) wc wx)
          case first =>
            go_big_quiet (fail)
            go_wp2_with fail
            go_meet
            exact ⟨rfl, ⟨rfl, rfl, rfl, Nat.le_refl _, fun _ _ _ => rfl⟩⟩
          case rest =>
          obtain ⟨rfl, f11⟩ := hcut
          have F11 := Lib.hid f11
          clear f11
          go_wp2_with fail
          go_ret
          exact ⟨by rw [HRES.out, HB.out]; rfl, ((Fw.out.trans F8.out (fun _ _ h => h)).trans F9.out (fun _ _ h => h)).trans F11.out (fun _ _ h => h)⟩
        have v1 : decide (x.2.2 ≤ b.clock) = false := by simpa using u1
        by_cases u2 : 1099511627776 < x.2.2
        · have v2 : decide (1099511627776 < x.2.2) = true := by simpa using u2
          have HB := Lib.hid (show mayK b = false by rw [HMay2.out, HV8.out, Hm.out, decide_eq_false u0, show decide (x.2.2 ≤ 1099511627776) = false by simpa using u2, Bool.and_false]; rfl)
          clear u0 u1 u2 ytk ytc
          go_upto_region 11 with fail
          go_cut [112] (fun s wx => s = .bool true ∧ Fr (fun _ => False) wc wx)
          case first =>
            go_big_quiet (fail)
            go_wp2_with fail
            go_meet
            exact ⟨rfl, ⟨rfl, rfl, rfl, Nat.le_refl _, fun _ _ _ => rfl⟩⟩
          case rest =>
          obtain ⟨rfl, f11⟩ := hcut
          have F11 := Lib.hid f11
          clear f11
          go_wp2_with fail
          go_ret
          exact ⟨by rw [HRES.out, HB.out]; rfl, ((Fw.out.trans F8.out (fun _ _ h => h)).trans F9.out (fun _ _ h => h)).trans F11.out (fun _ _ h => h)⟩
        have v2 : decide (1099511627776 < x.2.2) = false := by simpa using u2
        have HGd := Lib.hid (show V0 = ofGo { b with L := b.L.take (i + 1) } x.1 (b.L.drop (i + 1)) by rw [HV8.out, Hm.out, decide_eq_false u0, show decide (b.clock < x.2.2) = true by simpa using u1, show decide (x.2.2 ≤ 1099511627776) = true by simpa using u2]; rfl)
        clear u0 u1 u2
        go_upto_region 11 with fail
        go_cut [112] (fun s wx => s = .bool false ∧ Fr (fun _ => False) wc wx)
        case first =>
          go_big_quiet (fail)
          go_wp2_with fail
          go_meet
          exact ⟨rfl, ⟨rfl, rfl, rfl, Nat.le_refl _, fun _ _ _ => rfl⟩⟩
        case rest =>
        obtain ⟨rfl, f11⟩ := hcut
        have F11 := Lib.hid f11
        clear f11
        have HG11 := Lib.hid (F11.out.get HG9.out (fun h => h)); have HTk11 := Lib.hid (F11.out.get HTk9.out (fun h => h))
        clear y0 y1 y2 c6 ytk ytc
        have y0 := (cell_of HG11.out 0).trans (show _ = some (Value.int .u32 (x.1 : Int)) from rfl)
        have y1 := (cell_of HG11.out 1).trans (show _ = some (Value.int .i64 x.2.1) from rfl)
        rw [Hk.out] at y1
        have y0s := ((Fr.setCell (F := fun q => q = tb) (p := ⟨tb, k, none⟩) (Fr.refl _ wc) (fun _ => rfl) (.bool true)).cell (b := y) (o := 0) (s := none) (lt_of_block HG11.out) (by have := Hy.out; omega)).trans y0
        have hyt : y ≠ tb := by have := Hy.out; omega
        have ytk := free_of HTk11.out k
        have ytc : wc.cell? ⟨tb, k, none⟩ = some (.bool false) := by
          rw [cell_of HTk11.out, Htk.out, ← takenOf_get Hks.out]
          simp [List.getD_eq_getElem?_getD, takenOf_length, Hks.out]
        have hnew := setCell_blk (o := k) HTk11.out (.bool true)
        have HNew := Lib.hid (show (wc.setCell ⟨tb, k, none⟩ (.bool true)).heap[tb]? = some (blO (takenOf b.seats (b.L.take (i + 1)))) by
          rw [hnew]
          have e : b.L.take (i + 1) = b.L.take i ++ [x] := by rw [HX.out HLb.out, List.take_append_getElem]
          have hfree : ∀ z ∈ b.L.take i, z.2.1 ≠ x.2.1 := by rw [Hk.out]; exact bSeat_free Htk.out.symm
          rw [e, takenOf_set (L := b.L.take i) (M := b.L.take i ++ [x]) (k := k) (v := true) (fun j hj => by rw [bSeat_put_ne (by rw [Hk.out]; omega)]) (by rw [← Hk.out, bSeat_put_eq hfree]; rfl)]
          simp [List.map_set])
        have HFin := Lib.hid (show Fr (fun y => y = tb) Wt (wc.setCell ⟨tb, k, none⟩ (.bool true)) from ((((HF.out.trans F8.out (fun _ _ h => h.elim)).trans F9.out (fun _ _ h => h.elim)).trans F11.out (fun _ _ h => h.elim))).setCell (p := ⟨tb, k, none⟩) (fun _ => rfl) _)
        obtain ⟨i1, hi1⟩ : ∃ i1, i1 = i + 1 := ⟨_, rfl⟩
        have j1 : (i : Int) + 1 = (i1 : Int) := by rw [hi1]; push_cast; rfl
        have j2 : wrap64 (i1 : Int) = (i1 : Int) := by clear y0 y0s y1 ytk ytc hnew; unfold wrap64; have := HLt.out; omega
        have j3 : IntKind.i64.wrap (i1 : Int) = (i1 : Int) := by clear y0 y0s y1 ytk ytc hnew; rw [IntKind.wrap_i64]; have := HLt.out; omega
        have HI := Lib.hid hi1
        clear hi1 hnew
        go_wp2_with fail
        go_roundw
        case rel => exact ⟨i1, x.1, rfl, rfl, by have := HI.out; have := HLt.out; omega, by rw [HI.out]; exact HGd.out, by rw [HI.out]; exact HNew.out, HFin.out⟩
        case measure => have := HI.out; have := HLt.out; simp [intOf]; omega
    · have hin : i = n := by omega
      have HGd := Lib.hid (show mayK b = true by
        rw [HMay2.out, HV.out, List.drop_of_length_le (by rw [← HN.out]; omega)]; rfl)
      have hlt' : ¬ (i : Int) < (n : Int) := by omega
      clear hin hi hlt
      go_wp2_with fail
      go_ret
      exact ⟨by rw [HRES.out, HGd.out]; rfl, Fw.out⟩
end Go.Proofs.YtffnjnnmlfgngaaGreat.Bk
namespace Go.Proofs.YtffnjnnmlfgngaaGreat.Cs
open Go.RowKit Go.Shelf Go.Proofs.YtffnjnnmlfgngaaGreat.Bk
attribute [local go_sem] Oper.semAt_some
def I64 (x : Int) : Prop := -9223372036854775808 ≤ x ∧ x ≤ 9223372036854775807
theorem parts12 (j : Nat) (h : j ≤ 1000000) : ∃ q r : Nat, (wrap64 ((j : Int) / 12) = (q : Int) ∧ IntKind.i64.wrap ((j : Int) / 12) = (q : Int) ∧ (j : Int).tdiv 12 = (q : Int) ∧ (j : Int) % 12 = (r : Int) ∧ (j : Int).tmod 12 = (r : Int) ∧ (j : Int) / 12 = (q : Int)) ∧ q = j / 12 ∧ r < 12 :=
  ⟨j / 12, j % 12, ⟨by unfold wrap64; omega, by rw [IntKind.wrap_i64]; omega, by rw [Int.tdiv_eq_ediv_of_nonneg (by omega)]; omega, by omega, by rw [Int.tmod_eq_emod_of_nonneg (by omega)]; omega, by omega⟩, rfl, by omega⟩
theorem parts8 (j : Nat) (h : j ≤ 1000000) : ∃ q r : Nat, (wrap64 ((j : Int) / 8) = (q : Int) ∧ IntKind.i64.wrap ((j : Int) / 8) = (q : Int) ∧ (j : Int).tdiv 8 = (q : Int) ∧ (j : Int) % 8 = (r : Int) ∧ (j : Int).tmod 8 = (r : Int) ∧ (j : Int) / 8 = (q : Int)) ∧ q = j / 8 ∧ r < 8 :=
  ⟨j / 8, j % 8, ⟨by unfold wrap64; omega, by rw [IntKind.wrap_i64]; omega, by rw [Int.tdiv_eq_ediv_of_nonneg (by omega)]; omega, by omega, by rw [Int.tmod_eq_emod_of_nonneg (by omega)]; omega, by omega⟩, rfl, by omega⟩
theorem parts96 (j : Nat) (h : j ≤ 1000000) : ∃ q r : Nat, (wrap64 ((j : Int) / 96) = (q : Int) ∧ IntKind.i64.wrap ((j : Int) / 96) = (q : Int) ∧ (j : Int).tdiv 96 = (q : Int) ∧ (j : Int) % 96 = (r : Int) ∧ (j : Int).tmod 96 = (r : Int) ∧ (j : Int) / 96 = (q : Int)) ∧ q = j / 96 ∧ r < 96 :=
  ⟨j / 96, j % 96, ⟨by unfold wrap64; omega, by rw [IntKind.wrap_i64]; omega, by rw [Int.tdiv_eq_ediv_of_nonneg (by omega)]; omega, by omega, by rw [Int.tmod_eq_emod_of_nonneg (by omega)]; omega, by omega⟩, rfl, by omega⟩
/-- One of a small flight's shapes. -/
def ShP (w : World) (e : Ending) (w' : World) : Prop := ∃ a b c : Nat, e = .returned (shV a b c) ∧ (1 ≤ a ∧ a ≤ 12) ∧ (1 ≤ b ∧ b ≤ 8) ∧ (1 ≤ c ∧ c ≤ 4) ∧ Fr (fun _ => False) w w'
set_option maxRecDepth 100000 in
set_option maxHeartbeats 4000000 in
theorem mshape_ok (n : Int) (hn : I64 n) (w : World) : Calls Tryz.prog 57 #[.int .i64 n] w (ShP w) := by
  obtain ⟨W, hW⟩ : ∃ W, W = w.alloc (.cells #[.int .i64 0, .int .i64 0, .int .i64 0] 23) := ⟨_, rfl⟩
  obtain ⟨z, hz⟩ : ∃ z, z = w.heap.size := ⟨_, rfl⟩
  have f0 : Fr (fun _ => False) w W := by rw [hW]; exact Fr.alloc (Fr.refl _ _) _
  have hg : W.heap[z]? = some (.cells #[.int .i64 0, .int .i64 0, .int .i64 0] 23 (0, 0)) := by rw [hW, hz]; exact heap_alloc_at _ _
  have d0 := (cell_of hg 0).trans (show _ = some (Value.int .i64 0) from rfl)
  have d1 := (cell_of hg 1).trans (show _ = some (Value.int .i64 0) from rfl)
  have d2 := (cell_of hg 2).trans (show _ = some (Value.int .i64 0) from rfl)
  have y0 := free_of hg 0; have y1 := free_of hg 1; have y2 := free_of hg 2
  have HG := Lib.hid hg; have F0 := Lib.hid f0; have Hz := Lib.hid (show w.heap.size ≤ z by omega)
  have HP := Lib.hid (pick_ok n 384 W hn.1 hn.2 (by omega) (by omega))
  obtain ⟨p, hp⟩ : ∃ p : Nat, n % 384 = (p : Int) := ⟨(n % 384).toNat, by omega⟩
  have hp2 : p < 384 := by omega
  rw [hp] at HP
  clear f0 hg hp
  obtain ⟨q1, r1, hA, hA1, hA2⟩ := parts12 p (by omega)
  have HA := Lib.hid hA
  clear hA
  obtain ⟨q2, r2, hB, hB1, hB2⟩ := parts8 q1 (by omega)
  have HB := Lib.hid hB
  clear hB
  obtain ⟨q3, r3, hC, hC1, hC2⟩ := parts96 p (by omega)
  have HC := Lib.hid hC
  clear hC
  obtain ⟨u1, hu1⟩ : ∃ u, u = r1 + 1 := ⟨_, rfl⟩
  obtain ⟨u2, hu2⟩ : ∃ u, u = r2 + 1 := ⟨_, rfl⟩
  obtain ⟨u3, hu3⟩ : ∃ u, u = q3 + 1 := ⟨_, rfl⟩
  have HU := Lib.hid (show (1 ≤ u1 ∧ u1 ≤ 12) ∧ (1 ≤ u2 ∧ u2 ≤ 8) ∧ (1 ≤ u3 ∧ u3 ≤ 4) by omega)
  have s1 : (1 : Int) + (r1 : Int) = (u1 : Int) := by rw [hu1]; push_cast; omega
  have s2 : (1 : Int) + (r2 : Int) = (u2 : Int) := by rw [hu2]; push_cast; omega
  have s3 : (1 : Int) + (q3 : Int) = (u3 : Int) := by rw [hu3]; push_cast; omega
  have w1 : wrap64 (u1 : Int) = (u1 : Int) := by clear s1 s2 s3; unfold wrap64; omega
  have w2 : wrap64 (u2 : Int) = (u2 : Int) := by clear s1 s2 s3 w1; unfold wrap64; omega
  have w3 : wrap64 (u3 : Int) = (u3 : Int) := by clear s1 s2 s3 w1 w2; unfold wrap64; omega
  have w4 : wrap64 (q3 : Int) = (q3 : Int) := by clear s1 s2 s3 w1 w2 w3; unfold wrap64; omega
  have w5 : wrap64 (q1 : Int) = (q1 : Int) := by clear s1 s2 s3 w1 w2 w3 w4; unfold wrap64; omega
  have hfin := setCell_blk (o := 2) (setCell_blk (o := 1) (setCell_blk (o := 0) HG.out (.int .i64 (u1 : Int))) (.int .i64 (u2 : Int))) (.int .i64 (u3 : Int))
  have e0 := (cell_of hfin 0).trans (show _ = some (Value.int .i64 (u1 : Int)) from rfl)
  have e1 := (cell_of hfin 1).trans (show _ = some (Value.int .i64 (u2 : Int)) from rfl)
  have e2 := (cell_of hfin 2).trans (show _ = some (Value.int .i64 (u3 : Int)) from rfl)
  have Ff := Lib.hid (show Fr (fun _ => False) w (((W.setCell ⟨z, 0, none⟩ (.int .i64 (u1 : Int))).setCell ⟨z, 1, none⟩ (.int .i64 (u2 : Int))).setCell ⟨z, 2, none⟩ (.int .i64 (u3 : Int))) from
    ((F0.out.setCell (p := ⟨z, 0, none⟩) (fun e => by have := Hz.out; simp at e; omega) _).setCell (p := ⟨z, 1, none⟩) (fun e => by have := Hz.out; simp at e; omega) _).setCell (p := ⟨z, 2, none⟩) (fun e => by have := Hz.out; simp at e; omega) _)
  have HEs := Lib.hid (And.intro e0 (And.intro e1 e2))
  have hp0 : (0 : Int) ≤ (p : Int) := by omega
  have hp1 : (p : Int) < 384 := by omega
  clear hfin e0 e1 e2 hu1 hu2 hu3 hA1 hA2 hB1 hB2 hC1 hC2
  obtain ⟨a1, a2, a3, a4, a5, a6⟩ := HA.out
  obtain ⟨b1, b2, b3, b4, b5, b6⟩ := HB.out
  obtain ⟨c1, c2, c3, c4, c5, c6⟩ := HC.out
  clear a1 a2 a4 a6 b1 b2 b4 b6 c1 c2 c4 c6
  go_enter Tryz.func57, Tryz.ntmps57
  go_upto_region 1 with fail
  rw [← hW, ← hz]
  clear hW hz
  go_wp2_with fail
  refine HP.out.mono ?_
  rintro e x1 ⟨rfl, rfl⟩
  go_wp2_with fail
  refine bodyPost_ret (v := shV u1 u2 u3) ?_ rfl ⟨u1, u2, u3, rfl, HU.out.1, HU.out.2.1, HU.out.2.2, Ff.out⟩
  simp [results, Tryz.f57, go_sem, HEs.out.1, HEs.out.2.1, HEs.out.2.2]
end Go.Proofs.YtffnjnnmlfgngaaGreat.Cs
namespace Go.Proofs.YtffnjnnmlfgngaaGreat.Cs
open Go.RowKit Go.Shelf Go.Proofs.YtffnjnnmlfgngaaGreat.Bk
attribute [local go_sem] Oper.semAt_some
structure Chg where
  kind : Int
  id : Int
  seat : Int
  time : Int
abbrev chV (c : Chg) : Value := .agg #[.int .i64 c.kind, .int .i64 c.id, .int .i64 c.seat, .int .i64 c.time]
abbrev chO (c : Chg) : Obj := .cells #[.int .i64 c.kind, .int .i64 c.id, .int .i64 c.seat, .int .i64 c.time] 171
structure ChgOk (c : Chg) : Prop where
  k : I64 c.kind
  i : I64 c.id
  s : I64 c.seat
  t : I64 c.time
def RecP (w : World) (_next : Nat) (_clock : Int) (e : Ending) (w' : World) : Prop := ∃ r : Rc, e = .returned (rcV r) ∧ r.id < 4294967296 ∧ Fr (fun _ => False) w w'
set_option maxRecDepth 100000 in
set_option maxHeartbeats 4000000 in
theorem record_ok (c : Chg) (hc : ChgOk c) (next : Nat) (hn : 1 ≤ next ∧ next < 4294967296) (clock : Int) (hk : 0 ≤ clock ∧ clock ≤ 1099511627776) (w : World) : Calls Tryz.prog 94 #[chV c, .int .u32 (next : Int), .int .i64 clock] w (RecP w next clock) := by
  obtain ⟨kd, hkd⟩ : ∃ kd : Nat, c.kind % 5 = (kd : Int) := ⟨(c.kind % 5).toNat, by omega⟩
  obtain ⟨ki, hki⟩ : ∃ ki, ki = (kd : Int) + 1 := ⟨_, rfl⟩
  have hki5 : 1 ≤ ki ∧ ki ≤ 5 := by omega
  obtain ⟨tm, htm⟩ : ∃ tm, tm = c.time % 7 := ⟨_, rfl⟩
  obtain ⟨iu, hiu⟩ : ∃ iu : Nat, c.id % (next : Int) = (iu : Int) := ⟨(c.id % (next : Int)).toNat, by have := Int.emod_nonneg c.id (by omega : (next : Int) ≠ 0); omega⟩
  have hiu2 : iu < next := by have := Int.emod_lt_of_pos c.id (by omega : 0 < (next : Int)); omega
  obtain ⟨st, hst⟩ : ∃ st, st = c.seat % 13 := ⟨_, rfl⟩
  have htm7 : 0 ≤ tm ∧ tm < 7 := by omega
  have hst13 : 0 ≤ st ∧ st < 13 := by omega
  obtain ⟨at_, hat⟩ : ∃ a, a = clock + 1 + tm := ⟨_, rfl⟩
  obtain ⟨iv, hiv⟩ : ∃ iv, iv = iu + 1 := ⟨_, rfl⟩
  have hiv9 : iv < 4294967296 := by clear hkd hki hki5 htm hiu hst htm7 hst13 hat; omega
  have HIv := Lib.hid hiv9; have HNx := Lib.hid hn
  have HK5 := Lib.hid hki5
  clear hiv9
  have HP1 := Lib.hid (fun (V : World) => show Calls Tryz.prog 15 #[.int .i64 c.kind, .int .i64 5] V fun e w' => e = .returned (.int .i64 (kd : Int)) ∧ V = w' by rw [← hkd]; exact pick_ok c.kind 5 V hc.k.1 hc.k.2 (by omega) (by omega))
  have HP2 := Lib.hid (fun (V : World) => show Calls Tryz.prog 15 #[.int .i64 c.time, .int .i64 7] V fun e w' => e = .returned (.int .i64 tm) ∧ V = w' by rw [htm]; exact pick_ok c.time 7 V hc.t.1 hc.t.2 (by omega) (by omega))
  have HP3 := Lib.hid (fun (V : World) => show Calls Tryz.prog 15 #[.int .i64 c.id, .int .i64 (next : Int)] V fun e w' => e = .returned (.int .i64 (iu : Int)) ∧ V = w' by rw [← hiu]; exact pick_ok c.id next V hc.i.1 hc.i.2 (by omega) (by omega))
  have HP4 := Lib.hid (fun (V : World) => show Calls Tryz.prog 15 #[.int .i64 c.seat, .int .i64 13] V fun e w' => e = .returned (.int .i64 st) ∧ V = w' by rw [hst]; exact pick_ok c.seat 13 V hc.s.1 hc.s.2 (by omega) (by omega))
  obtain ⟨W1, hW1⟩ : ∃ W, W = w.alloc (chO c) := ⟨_, rfl⟩
  obtain ⟨W2, hW2⟩ : ∃ W, W = W1.alloc rcZ := ⟨_, rfl⟩
  obtain ⟨W, hW⟩ : ∃ W, W = W2.alloc (.cells #[.int .i64 ki, .int .u32 0, .int .i64 0, .int .i64 0, .int .i64 0] 46) := ⟨_, rfl⟩
  obtain ⟨z, hz⟩ : ∃ z, z = w.heap.size := ⟨_, rfl⟩
  have s1 : W1.heap.size = z + 1 := by rw [hW1, hz]; simp
  have s2 : W2.heap.size = z + 2 := by rw [hW2]; simp [s1]
  have a1 : Fr (fun _ => False) w W1 := by rw [hW1]; exact Fr.alloc (Fr.refl _ _) _
  have a2 : Fr (fun _ => False) W1 W2 := by rw [hW2]; exact Fr.alloc (Fr.refl _ _) _
  have a3 : Fr (fun _ => False) W2 W := by rw [hW]; exact Fr.alloc (Fr.refl _ _) _
  have f0 : Fr (fun _ => False) w W := (a1.trans a2 (fun _ _ h => h)).trans a3 (fun _ _ h => h)
  have g2 : W2.heap[z]? = some (.cells #[.int .i64 c.kind, .int .i64 c.id, .int .i64 c.seat, .int .i64 c.time] 171 (0, 0)) := a2.get (show W1.heap[z]? = _ by rw [hW1, hz]; exact heap_alloc_at _ _) (fun h => h)
  have hg : W.heap[z]? = some (.cells #[.int .i64 c.kind, .int .i64 c.id, .int .i64 c.seat, .int .i64 c.time] 171 (0, 0)) := a3.get g2 (fun h => h)
  have hg1 : W.heap[z + 1]? = some (.cells #[.int .i64 0, .int .u32 0, .int .i64 0, .int .i64 0, .int .i64 0] 46 (0, 0)) := a3.get (show W2.heap[z + 1]? = _ by rw [hW2, ← s1]; exact heap_alloc_at _ _) (fun h => h)
  have hg2 : W.heap[z + 2]? = some (.cells #[.int .i64 ki, .int .u32 0, .int .i64 0, .int .i64 0, .int .i64 0] 46 (0, 0)) := show W.heap[z + 2]? = _ by rw [hW, ← s2]; exact heap_alloc_at _ _
  have c0 := (cell_of g2 0).trans (show _ = some (Value.int .i64 c.kind) from rfl)
  have HG := Lib.hid (And.intro hg (And.intro hg1 hg2)); have F0 := Lib.hid f0; have Hz := Lib.hid hz
  have HW1 := Lib.hid hW1; have HW2 := Lib.hid hW2; have HW := Lib.hid hW; have Hs2 := Lib.hid s2
  have k1 : (1 : Int) + (kd : Int) = ki := by omega
  have k2 : wrap64 ki = ki := by clear k1; unfold wrap64; omega
  have v1 : clock + 1 + tm = at_ := hat.symm
  have v0 : wrap64 (clock + 1) = clock + 1 := by clear k1 k2 v1; unfold wrap64; omega
  have v2 : wrap64 at_ = at_ := by clear k1 k2 v1 v0; unfold wrap64; omega
  have i1 : (1 : Int) + (iu : Int) = (iv : Int) := by clear k1 k2 v1 v0 v2; omega
  have i2 : IntKind.u32.wrap (iv : Int) = (iv : Int) := by clear k1 k2 v1 v0 v2 i1; rw [IntKind.wrap_u32]; omega
  have i3 : IntKind.u32.wrap (iu : Int) = (iu : Int) := by clear k1 k2 v1 v0 v2 i1 i2; rw [IntKind.wrap_u32]; omega
  have i4 : IntKind.i64.wrap (next : Int) = (next : Int) := by clear k1 k2 v1 v0 v2 i1 i2 i3; rw [IntKind.wrap_i64]; omega
  have i5 : wrap64 (next : Int) = (next : Int) := by clear k1 k2 v1 v0 v2 i1 i2 i3 i4; unfold wrap64; omega
  clear hkd hki htm hiu hiu2 hst htm7 hst13 hat hiv hki5 hc hn hk f0 hg hg1 hg2 g2 a1 a2 a3 s1 s2 hW1 hW2 hW hz
  go_enter Tryz.func94, Tryz.ntmps94
  go_upto_region 1 with fail
  rw [← HW1.out, ← HW2.out, ← Hz.out]
  go_wp2_with fail
  refine (HP1.out _).mono ?_
  rintro e x1 ⟨rfl, rfl⟩
  clear c0
  go_upto_region 2 with fail
  rw [← HW.out, Hs2.out]
  try rw [show z + 1 + 1 = z + 2 by omega]
  have d1 := (cell_of HG.out.1 1).trans (show _ = some (Value.int .i64 c.id) from rfl)
  have d2 := (cell_of HG.out.1 2).trans (show _ = some (Value.int .i64 c.seat) from rfl)
  have d3 := (cell_of HG.out.1 3).trans (show _ = some (Value.int .i64 c.time) from rfl)
  go_wp2_with fail
  refine (HP2.out _).mono ?_
  rintro e x1 ⟨rfl, rfl⟩
  go_wp2_with fail
  refine (HP3.out _).mono ?_
  rintro e x1 ⟨rfl, rfl⟩
  go_wp2_with fail
  refine (HP4.out _).mono ?_
  rintro e x1 ⟨rfl, rfl⟩
  go_upto_region 5 with fail
  clear k1 k2 v0 v1 v2 i1 i2 i3 i4 i5 d1 d2 d3
  have r0 := (cell_of HG.out.2.2 0).trans (show _ = some (Value.int .i64 ki) from rfl)
  have y0 := free_of HG.out.2.2 0
  have r1 := (cell_of HG.out.2.2 1).trans (show _ = some (Value.int .u32 0) from rfl)
  have y1 := free_of HG.out.2.2 1
  have r2 := (cell_of HG.out.2.2 2).trans (show _ = some (Value.int .i64 0) from rfl)
  have y2 := free_of HG.out.2.2 2
  have r3 := (cell_of HG.out.2.2 3).trans (show _ = some (Value.int .i64 0) from rfl)
  have y3 := free_of HG.out.2.2 3
  have r4 := (cell_of HG.out.2.2 4).trans (show _ = some (Value.int .i64 0) from rfl)
  have y4 := free_of HG.out.2.2 4
  go_upto_block 0 with fail
  go_cut [7] (fun s7 wx => s7 = .pointer (some ⟨z + 2, 0, none⟩) ∧ ∃ r : Rc, r.id < 4294967296 ∧ wx.heap[z + 2]? = some (rcC r) ∧ Fr (fun y => y = z + 2) W wx)
  case first =>
    rcases (by have := HK5.out; omega : ki = 1 ∨ ki = 4 ∨ ki = 5 ∨ (ki ≠ 1 ∧ ki ≠ 4 ∧ ki ≠ 5)) with h | h | h | ⟨h1, h4, h5⟩
    · have b1 : (ki == 1) = true := by rw [h]; rfl
      have b4 : (ki == 4) = false := by rw [h]; rfl
      have b5 : (ki == 5) = false := by rw [h]; rfl
      clear h
      go_wp2_with fail
      go_meet
      exact ⟨rfl, ⟨ki, next, st, at_, 0⟩, HNx.out.2, (setCell_blk (o := 3) (setCell_blk (o := 2) (setCell_blk (o := 1) HG.out.2.2 _) _) _).trans rfl, Fr.setCell (F := fun y => y = z + 2) (p := ⟨z + 2, 3, none⟩) (Fr.setCell (F := fun y => y = z + 2) (p := ⟨z + 2, 2, none⟩) (Fr.setCell (F := fun y => y = z + 2) (p := ⟨z + 2, 1, none⟩) (Fr.refl _ _) (fun _ => rfl) _) (fun _ => rfl) _) (fun _ => rfl) _⟩
    · have b1 : (ki == 1) = false := by rw [h]; rfl
      have b4 : (ki == 4) = true := by rw [h]; rfl
      have b5 : (ki == 5) = false := by rw [h]; rfl
      clear h
      go_wp2_with fail
      go_meet
      exact ⟨rfl, ⟨ki, iv, st, 0, 0⟩, HIv.out, (setCell_blk (o := 2) (setCell_blk (o := 1) HG.out.2.2 _) _).trans rfl, Fr.setCell (F := fun y => y = z + 2) (p := ⟨z + 2, 2, none⟩) (Fr.setCell (F := fun y => y = z + 2) (p := ⟨z + 2, 1, none⟩) (Fr.refl _ _) (fun _ => rfl) _) (fun _ => rfl) _⟩
    · have b1 : (ki == 1) = false := by rw [h]; rfl
      have b4 : (ki == 4) = false := by rw [h]; rfl
      have b5 : (ki == 5) = true := by rw [h]; rfl
      clear h
      go_wp2_with fail
      go_meet
      exact ⟨rfl, ⟨ki, 0, 0, 0, at_⟩, (by decide : (0 : Nat) < 4294967296), (setCell_blk (o := 4) HG.out.2.2 _).trans rfl, Fr.setCell (F := fun y => y = z + 2) (p := ⟨z + 2, 4, none⟩) (Fr.refl _ _) (fun _ => rfl) _⟩
    · have b1 : (ki == 1) = false := by simpa using h1
      have b4 : (ki == 4) = false := by simpa using h4
      have b5 : (ki == 5) = false := by simpa using h5
      clear h1 h4 h5
      go_wp2_with fail
      go_meet
      exact ⟨rfl, ⟨ki, iv, 0, 0, 0⟩, HIv.out, (setCell_blk (o := 1) HG.out.2.2 _).trans rfl, Fr.setCell (F := fun y => y = z + 2) (p := ⟨z + 2, 1, none⟩) (Fr.refl _ _) (fun _ => rfl) _⟩
  case rest =>
  obtain ⟨rfl, r, hid, hb, hF⟩ := hcut
  have hb1 := hF.get HG.out.2.1 (by omega)
  have FF := Lib.hid (show Fr (fun _ => False) w (recW wc (z + 1) r.kind (r.id : Int) r.seat r.till r.clock) from (((F0.out.mono (fun _ _ h => h.elim) : Fr (fun y => w.heap.size ≤ y) w W).trans hF (fun y _ e => by have := Hz.out; omega)).trans (recW_fr wc (z + 1) r.kind (r.id : Int) r.seat r.till r.clock) (fun y _ e => by have := Hz.out; omega)).toNew)
  have HFin := Lib.hid (rc_cells5 (recW_at hb1 r.kind (r.id : Int) r.seat r.till r.clock)); have Hid := Lib.hid hid
  clear r0 r1 r2 r3 r4 y0 y1 y2 y3 y4 hF hid
  obtain ⟨p0, p1, p2, p3, p4⟩ := rc_cells5 hb
  have q0 := (cell_of hb1 0).trans (show _ = some (Value.int .i64 0) from rfl)
  have y0 := free_of hb1 0
  have q1 := (cell_of hb1 1).trans (show _ = some (Value.int .u32 0) from rfl)
  have y1 := free_of hb1 1
  have q2 := (cell_of hb1 2).trans (show _ = some (Value.int .i64 0) from rfl)
  have y2 := free_of hb1 2
  have q3 := (cell_of hb1 3).trans (show _ = some (Value.int .i64 0) from rfl)
  have y3 := free_of hb1 3
  have q4 := (cell_of hb1 4).trans (show _ = some (Value.int .i64 0) from rfl)
  have y4 := free_of hb1 4
  clear hb hb1
  go_wp2_with fail
  refine bodyPost_ret (v := rcV r) ?_ rfl ⟨r, rfl, Hid.out, FF.out⟩
  obtain ⟨e0, e1, e2, e3, e4⟩ := HFin.out
  simp [results, Tryz.f94, go_sem, e0, e1, e2, e3, e4]
end Go.Proofs.YtffnjnnmlfgngaaGreat.Cs
namespace Go.Proofs.YtffnjnnmlfgngaaGreat.Cs
open Go.RowKit Go.Shelf Go.Proofs.YtffnjnnmlfgngaaGreat.Bk
attribute [local go_sem] Oper.semAt_some
def encR (r : Rc) : List Value := [.int .i64 r.kind, .int .u32 (r.id : Int), .int .i64 r.seat, .int .i64 r.till, .int .i64 r.clock]
theorem encR_len (r : Rc) : (encR r).length = 5 := rfl
theorem encR_one (r : Rc) : ∀ v ∈ encR r, v.oneCell' = true := by
  intro v hv
  simp only [encR, List.mem_cons, List.not_mem_nil, or_false] at hv
  rcases hv with rfl | rfl | rfl | rfl | rfl <;> rfl
theorem Tryz.infoRc : (Tryz.prog.info? 46).map (fun i => (i.zero, i.size, i.bytes)) = some (some (.agg #[.int .i64 0, .int .u32 0, .int .i64 0, .int .i64 0, .int .i64 0]), 5, 40) := by kernel_rfl
abbrev Rcs (w : World) (v : Value) (R : List Rc) : Prop := Els w 46 5 encR v R
theorem Rcs.app {w : World} {sv : Value} {R : List Rc} (h : Rcs w sv R) (hn : R.length ≤ 1000000) (r : Rc) :
    ∃ a c w2, (Builtin.append_ #[121, 121] 121 #[sv, .slice (some ⟨w.heap.size, 0, none⟩) 1 1]).run Tryz.prog (w.alloc (.cells #[.int .i64 r.kind, .int .u32 (r.id : Int), .int .i64 r.seat, .int .i64 r.till, .int .i64 r.clock] 46)) = .ok (.slice a (R.length + 1) c) w2 ∧
      Rcs w2 (.slice a (R.length + 1) c) (R ++ [r]) ∧ Fr (fun b => sv.ownBlock = some b) w w2 ∧ (∀ b, (Value.slice a (R.length + 1) c).ownBlock = some b → sv.ownBlock = some b ∨ w.heap.size ≤ b) :=
  Els.app encR_len h Tryz.underlying121 Tryz.infoRc rfl (by decide) encR_one r hn (by decide) (arr := #[.int .i64 r.kind, .int .u32 (r.id : Int), .int .i64 r.seat, .int .i64 r.till, .int .i64 r.clock]) rfl
theorem rcs_slice {w : World} {v : Value} {R : List Rc} (h : Rcs w v R) : ∃ a c, v = .slice a R.length c := by
  rcases h.2 with ⟨rfl, h0⟩ | ⟨g, cap, cur, rfl, _⟩
  · exact ⟨none, 0, by rw [h0]⟩
  · exact ⟨_, _, rfl⟩
def kI (_ : Nat) : IntKind := .i64
def chAt (K : Nat → Nat → Int) (i : Nat) : Chg := ⟨K i 0, K i 1, K i 2, K i 3⟩
theorem wf_i64 {x : Int} (h : (Lit.int .i64 x).wf = true) : I64 x := by
  simp [Lit.wf, IntKind.min, IntKind.max, IntKind.signed, IntKind.bits] at h
  unfold I64; omega
theorem ch_cells {w : World} {v : Value} {K : Nat → Nat → Int} {n i : Nat} (h : KindsAt w v 4 kI K n) (hi : i < n) : ∃ g o c, v = .slice (some ⟨g, o, none⟩) n c ∧ w.cell? ⟨g, o + i * 4, none⟩ = some (.int .i64 (chAt K i).kind) ∧ w.cell? ⟨g, o + i * 4 + 1, none⟩ = some (.int .i64 (chAt K i).id) ∧ w.cell? ⟨g, o + i * 4 + 2, none⟩ = some (.int .i64 (chAt K i).seat) ∧ w.cell? ⟨g, o + i * 4 + 3, none⟩ = some (.int .i64 (chAt K i).time) ∧ ChgOk (chAt K i) ∧ g < w.heap.size := by
  obtain ⟨a, c, rfl, _, _, h3⟩ := h
  rcases h3 with h3 | ⟨g, o, rfl, h4⟩
  · omega
  · have c0 := h4 i 0 hi (by omega); have c1 := h4 i 1 hi (by omega); have c2 := h4 i 2 hi (by omega); have c3 := h4 i 3 hi (by omega)
    exact ⟨g, o, c, rfl, c0.1, c1.1, c2.1, c3.1, ⟨wf_i64 c0.2, wf_i64 c1.2, wf_i64 c2.2, wf_i64 c3.2⟩, World.block_lt_of_cell? _ _ c0.1⟩
def HistP (w : World) (n : Nat) (e : Ending) (w' : World) : Prop := ∃ v R, e = .returned v ∧ Rcs w' v R ∧ (∀ r ∈ R, r.id < 4294967296) ∧ R.length ≤ n ∧ (∀ b, v.ownBlock = some b → w.heap.size ≤ b) ∧ Fr (fun _ => False) w w'
/-- How far the history has come: the document's book, the records. -/
structure HiAt (w wr : World) (wb : Nat) (vb v9 : Value) (b : Bk) (R : List Rc) (i : Nat) : Prop where
  ref : RefAt wr wb vb b
  raw : Raw b
  rcs : Rcs wr v9 R
  ids : ∀ r ∈ R, r.id < 4294967296
  len : R.length ≤ i
  o1 : w.heap.size ≤ wb
  o2 : ∀ x, vb.ownBlock = some x → w.heap.size ≤ x
  o3 : ∀ x, v9.ownBlock = some x → w.heap.size ≤ x ∧ x ≠ wb ∧ vb.ownBlock ≠ some x
  fr : Fr (fun _ => False) w wr
theorem HiAt.quiet {w wr w' : World} {wb : Nat} {vb v9 : Value} {b : Bk} {R : List Rc} {i : Nat} (h : HiAt w wr wb vb v9 b R i) (f : Fr (fun _ => False) wr w') : HiAt w w' wb vb v9 b R i :=
  ⟨h.ref.keep f, h.raw, Row.fr h.rcs f (fun _ _ h => h), h.ids, h.len, h.o1, h.o2, h.o3, h.fr.trans f (fun _ _ h => h)⟩
theorem HiAt.apply {w wr w' : World} {wb : Nat} {vb v9 : Value} {b b' : Bk} {R : List Rc} {i : Nat} (h : HiAt w wr wb vb v9 b R i) (ha : RAft wb vb b' wr w') (hraw : Raw b') : ∃ vb', HiAt w w' wb vb' v9 b' R i := by
  obtain ⟨v', h1, h2, h3⟩ := ha
  refine ⟨v', h1, hraw, Row.fr h.rcs h2 (fun x hx hor => ?_), h.ids, h.len, h.o1, fun x hx => ?_, fun x hx => ⟨(h.o3 x hx).1, (h.o3 x hx).2.1, fun e => ?_⟩, ((h.fr.mono (fun _ _ h => h.elim) : Fr (fun y => w.heap.size ≤ y) w wr).trans h2 (fun y _ e => e.elim (fun e => by have := h.o1; omega) (fun e => h.o2 y e))).toNew⟩
  · rcases hor with e | e
    · exact (h.o3 x hx).2.1 e
    · exact (h.o3 x hx).2.2 e
  · rcases h3 x hx with e | e
    · exact h.o2 x e
    · have := h.fr.size; omega
  · rcases h3 x e with e | e
    · exact (h.o3 x hx).2.2 e
    · have := Row.lt h.rcs hx; omega
theorem HiAt.app {w wr w' : World} {wb : Nat} {vb v9 v' : Value} {b : Bk} {R : List Rc} {i : Nat} (h : HiAt w wr wb vb v9 b R i) {r : Rc} (hr : r.id < 4294967296) (hb : Rcs w' v' (R ++ [r])) (f : Fr (fun x => v9.ownBlock = some x) wr w') (ho : ∀ x, v'.ownBlock = some x → v9.ownBlock = some x ∨ wr.heap.size ≤ x) : HiAt w w' wb vb v' b (R ++ [r]) (i + 1) := by
  refine ⟨h.ref.fr f (fun e => (h.o3 wb e).2.1 rfl) (fun x hx e => (h.o3 x e).2.2 hx), h.raw, hb, fun x hx => ?_, by have := h.len; simp; omega, h.o1, h.o2, fun x hx => ?_, ((h.fr.mono (fun _ _ h => h.elim) : Fr (fun y => w.heap.size ≤ y) w wr).trans f (fun y _ e => (h.o3 y e).1)).toNew⟩
  · rcases List.mem_append.1 hx with hx | hx
    · exact h.ids x hx
    · rw [List.mem_singleton] at hx; rw [hx]; exact hr
  · rcases ho x hx with e | e
    · exact h.o3 x e
    · have h1 := h.fr.size
      refine ⟨by omega, fun e2 => ?_, fun e2 => ?_⟩
      · have := lt_of_block h.ref.head; omega
      · have := Row.lt h.ref.row e2; omega
theorem HiAt.more {w wr : World} {wb : Nat} {vb v9 : Value} {b : Bk} {R : List Rc} {i : Nat} (h : HiAt w wr wb vb v9 b R i) : HiAt w wr wb vb v9 b R (i + 1) := ⟨h.ref, h.raw, h.rcs, h.ids, by have := h.len; omega, h.o1, h.o2, h.o3, h.fr⟩
set_option maxRecDepth 100000 in
set_option maxHeartbeats 8000000 in
theorem hist_ok {w : World} {a b c : Nat} (ha : 1 ≤ a ∧ a ≤ 12) (hb : 1 ≤ b ∧ b ≤ 8) (hc : 1 ≤ c ∧ c ≤ 4) {v : Value} {K : Nat → Nat → Int} {n : Nat} (hK : KindsAt w v 4 kI K n) (hn : n ≤ 1000) (all : Bool) : Calls Tryz.prog 58 #[shV a b c, v, .bool all] w (HistP w n) := by
  obtain ⟨W, hW⟩ : ∃ W, W = w.alloc (.cells #[.int .i64 (a : Int), .int .i64 (b : Int), .int .i64 (c : Int)] 23) := ⟨_, rfl⟩
  obtain ⟨z, hz⟩ : ∃ z, z = w.heap.size := ⟨_, rfl⟩
  have f0 : Fr (fun _ => False) w W := by rw [hW]; exact Fr.alloc (Fr.refl _ _) _
  have hg : W.heap[z]? = some (.cells #[.int .i64 (a : Int), .int .i64 (b : Int), .int .i64 (c : Int)] 23 (0, 0)) := by rw [hW, hz]; exact heap_alloc_at _ _
  have d0 := (cell_of hg 0).trans (show _ = some (Value.int .i64 (a : Int)) from rfl)
  have d1 := (cell_of hg 1).trans (show _ = some (Value.int .i64 (b : Int)) from rfl)
  have d2 := (cell_of hg 2).trans (show _ = some (Value.int .i64 (c : Int)) from rfl)
  have HNew := Lib.hid (rnew_ok W (n := a) (m := b) (q := c) (by omega) (by omega) (by omega))
  have HRaw0 := Lib.hid (show Raw (bk0 a b c) from (bk0_ok (by omega) (by omega)).toRaw)
  have F0 := Lib.hid f0; have HK := Lib.hid hK
  obtain ⟨la, lc, hv, -⟩ := id hK
  have HV := Lib.hid hv
  have hn' : (n : Int) ≤ 1000 := by omega
  rw [hv]
  clear f0 hg ha hb hc hK hv
  go_enter Tryz.func58, Tryz.ntmps58
  go_upto_region 1 with fail
  rw [← hW, ← hz]
  clear hW hz
  go_wp2_with fail
  refine HNew.out.mono ?_
  rintro e w1 ⟨wb, rfl, hR, hwb, f1⟩
  have HI0 := Lib.hid (show HiAt w w1 wb (.slice none 0 0) (.slice none 0 0) (bk0 a b c) [] 0 from ⟨hR, HRaw0.out, World.ownsRow_nil _ _ _ _, fun x hx => by simp at hx, Nat.le_refl _, Nat.le_trans F0.out.size hwb, fun x hx => by simp [Value.ownBlock] at hx, fun x hx => by simp [Value.ownBlock] at hx, F0.out.trans f1 (fun _ _ h => h)⟩)
  clear hR hwb f1 d0 d1 d2
  go_wp2_with fail
  go_loopw [9, 10] (fun s9 s10 wr => ∃ (i : Nat) (v9 vb : Value) (bk : Bk) (R : List Rc), s9 = v9 ∧ s10 = .int .i64 (i : Int) ∧ i ≤ n ∧ HiAt w wr wb vb v9 bk R i) (fun _ s10 _ => n - (intOf s10).toNat)
  case atStart => exact ⟨0, _, _, _, _, rfl, rfl, Nat.zero_le _, HI0.out⟩
  case round =>
    obtain ⟨i, v9, vb, bk, R, rfl, rfl, hi, hH⟩ := hrel
    have HH := Lib.hid hH
    by_cases hlt : i < n
    · have hlt' : (i : Int) < (n : Int) := by omega
      have i0 : (0 : Int) ≤ (i : Int) := by omega
      obtain ⟨g, o, c4, e1, k0, k1, k2, k3, hck, hgl⟩ := ch_cells (HK.out.fr hH.fr (fun _ _ h => h) (by omega)) hlt
      rw [HV.out] at e1
      obtain ⟨e1a, -, e1c⟩ := Value.slice.inj e1
      obtain ⟨ch, hch⟩ : ∃ ch, ch = chAt K i := ⟨_, rfl⟩
      rw [← hch] at k0 k1 k2 k3 hck
      rw [e1a]
      have HKc := Lib.hid (And.intro k0 (And.intro k1 (And.intro k2 k3)))
      have HCR := Lib.hid (fun (V : World) => record_ok ch hck bk.next ⟨hH.raw.n0, hH.raw.n1⟩ bk.clock ⟨hH.raw.t0, hH.raw.t1⟩ V)
      have Hgl := Lib.hid hgl
      have HSS := Lib.hid (fun (V : World) (f : Fr (fun _ => False) wr V) => (⟨f, (f.cell Hgl.out (fun h => h)).trans HKc.out.1, (f.cell Hgl.out (fun h => h)).trans HKc.out.2.1, (f.cell Hgl.out (fun h => h)).trans HKc.out.2.2.1, (f.cell Hgl.out (fun h => h)).trans HKc.out.2.2.2, (HH.out.ref.keep f).c.2.2.2.2.2.1, (HH.out.ref.keep f).c.2.2.2.2.2.2⟩ : Fr (fun _ => False) wr V ∧ V.cell? ⟨g, o + i * 4, none⟩ = some (.int .i64 ch.kind) ∧ V.cell? ⟨g, o + i * 4 + 1, none⟩ = some (.int .i64 ch.id) ∧ V.cell? ⟨g, o + i * 4 + 2, none⟩ = some (.int .i64 ch.seat) ∧ V.cell? ⟨g, o + i * 4 + 3, none⟩ = some (.int .i64 ch.time) ∧ V.cell? ⟨wb, 5, none⟩ = some (.int .u32 (bk.next : Int)) ∧ V.cell? ⟨wb, 6, none⟩ = some (.int .i64 bk.clock)))
      have HLt := Lib.hid hlt
      clear hH k0 k1 k2 k3 hck hgl hch e1 e1a e1c hi hlt
      go_upto_region 6 with fail
      go_cut [11] (fun s11 wx => ∃ (y : Nat) (r : Rc), s11 = .pointer (some ⟨y, 0, none⟩) ∧ wx.heap[y]? = some (rcC r) ∧ r.id < 4294967296 ∧ wr.heap.size ≤ y ∧ Fr (fun _ => False) wr wx)
      case first =>
        refine wp_region_held_drew (S := fun w' => Fr (fun _ => False) wr w' ∧ w'.cell? ⟨g, o + i * 4, none⟩ = some (.int .i64 ch.kind) ∧ w'.cell? ⟨g, o + i * 4 + 1, none⟩ = some (.int .i64 ch.id) ∧ w'.cell? ⟨g, o + i * 4 + 2, none⟩ = some (.int .i64 ch.seat) ∧ w'.cell? ⟨g, o + i * 4 + 3, none⟩ = some (.int .i64 ch.time) ∧ w'.cell? ⟨wb, 5, none⟩ = some (.int .u32 (bk.next : Int)) ∧ w'.cell? ⟨wb, 6, none⟩ = some (.int .i64 bk.clock)) (by kernel_rfl) (by exact HSS.out _ (Fr.drew (Fr.refl _ _))) (fun hHeld => ?_)
        refine wpAnyH_take (i := 0) (v := ?_) rfl (by kernel_rfl) (by kernel_rfl) (by kernel_rfl) (fun _ _ _ h => h) (Or.inl ⟨by rfl, ?_⟩) (by assumption) ?_
        rotate_left
        · intro w' hSw; (try dsimp only at hSw); go_simp; try with_reducible rfl
        try simp only [Act.put, List.getElem_toArray, List.getElem_cons_zero, List.setIfInBounds_toArray, List.set_cons_zero, List.set_cons_succ]
        refine wpAnyH_take (i := 1) (v := ?_) rfl (by kernel_rfl) (by kernel_rfl) (by kernel_rfl) (fun _ _ _ h => h) (Or.inl ⟨by rfl, ?_⟩) (by assumption) ?_
        rotate_left
        · intro w' hSw; (try dsimp only at hSw); go_simp; try with_reducible rfl
        try simp only [Act.put, sL]
        refine wpAnyH_take (i := 2) (v := ?_) rfl (by kernel_rfl) (by kernel_rfl) (by kernel_rfl) (fun _ _ _ h => h) (Or.inl ⟨by rfl, ?_⟩) (by assumption) ?_
        rotate_left
        · intro w' hSw; (try dsimp only at hSw); go_simp; try with_reducible rfl
        try simp only [Act.put, sL]
        refine wpAnyH_take (i := 3) (v := ?_) rfl (by kernel_rfl) (by kernel_rfl) (by kernel_rfl) (fun _ _ _ h => h) (Or.inl ⟨by rfl, ?_⟩) (by assumption) ?_
        rotate_left
        · intro w' hSw; (try dsimp only at hSw); go_simp; try with_reducible rfl
        try simp only [Act.put, sL]
        refine wpAnyH_take (i := 4) (v := ?_) rfl (by kernel_rfl) (by kernel_rfl) (by kernel_rfl) (fun _ _ _ h => h) (Or.inl ⟨by rfl, ?_⟩) (by assumption) ?_
        rotate_left
        · intro w' hSw; (try dsimp only at hSw); go_simp; try with_reducible rfl
        try simp only [Act.put, sL]
        refine wpAnyH_take (i := 5) (v := ?_) rfl (by kernel_rfl) (by kernel_rfl) (by kernel_rfl) (fun _ _ _ h => h) (Or.inl ⟨by rfl, ?_⟩) (by assumption) ?_
        rotate_left
        · intro w' hSw; (try dsimp only at hSw); go_simp; try with_reducible rfl
        try simp only [Act.put, sL]
        refine wpAnyH_take (i := 6) (v := ?_) rfl (by kernel_rfl) (by kernel_rfl) (by kernel_rfl) (fun _ _ _ h => h) (Or.inl ⟨by rfl, ?_⟩) (by assumption) ?_
        rotate_left
        · intro w' hSw; (try dsimp only at hSw); go_simp; try with_reducible rfl
        try simp only [Act.put, sL]
        refine wpAnyH_take (i := 7) (v := ?_) rfl (by kernel_rfl) (by kernel_rfl) (by kernel_rfl) (fun _ _ _ h => h) (Or.inl ⟨by rfl, ?_⟩) (by assumption) ?_
        rotate_left
        · intro w' hSw; (try dsimp only at hSw); go_simp; try with_reducible rfl
        try simp only [Act.put, sL]
        refine wpAnyH_take (i := 8) (v := ?_) rfl (by kernel_rfl) (by kernel_rfl) (by kernel_rfl) (fun _ _ _ h => h) (Or.inl ⟨by rfl, ?_⟩) (by assumption) ?_
        rotate_left
        · intro w' hSw; (try dsimp only at hSw); go_simp; try with_reducible rfl
        try simp only [Act.put, sL]
        refine wpAnyH_take (i := 9) (v := ?_) rfl (by kernel_rfl) (by kernel_rfl) (by kernel_rfl) (fun _ _ _ h => h) (Or.inl ⟨by rfl, ?_⟩) (by assumption) ?_
        rotate_left
        · intro w' hSw; (try dsimp only at hSw); go_simp; try with_reducible rfl
        try simp only [Act.put, sL]
        refine wpAnyH_take (i := 10) (v := ?_) rfl (by kernel_rfl) (by kernel_rfl) (by kernel_rfl) (fun _ _ _ h => h) (Or.inl ⟨by rfl, ?_⟩) (by assumption) ?_
        rotate_left
        · intro w' hSw; (try dsimp only at hSw); go_simp; try with_reducible rfl
        try simp only [Act.put, sL]
        refine wpAnyH_take (i := 11) (v := ?_) rfl (by kernel_rfl) (by kernel_rfl) (by kernel_rfl) (fun _ _ _ h => h) (Or.inl ⟨by rfl, ?_⟩) (by assumption) ?_
        rotate_left
        · intro w' hSw; (try dsimp only at hSw); go_simp; try with_reducible rfl
        try simp only [Act.put, sL]
        refine wpAnyH_ready (rs := [12, 13]) (by kernel_rfl) (by simp) ?_
        refine AllReadyH.cons rfl (fun K hK => ?_) (AllReadyH.cons rfl (fun K hK => ?_) AllReadyH.nil)
        · go_simp
          refine (HCR.out _).mono ?_
          rintro e x12 ⟨r, rfl, hid, f12⟩
          try go_simp
          refine hK.out _ _ ?_ (fun hHeld => ?_)
          · (try dsimp only); exact HSS.out _ (hHeld.1.trans f12 (fun _ _ h => h))
          clear hK K
          have HidR := Lib.hid hid
          have F12 := Lib.hid (show Fr (fun _ => False) wr x12 from (Fr.drew (Fr.refl (fun _ => False) wr)).trans f12 (fun _ _ h => h))
          clear hid f12
          try simp only [Act.put, sL]
          refine wpAnyH_ready (rs := [13]) (by kernel_rfl) (by simp) ?_
          refine AllReadyH.cons rfl (fun K hK => ?_) AllReadyH.nil
          go_simp
          skip
          try go_simp
          refine hK.out _ _ ?_ (fun hHeld => ?_)
          · (try dsimp only); exact HSS.out _ (hHeld.1.trans (Fr.alloc (Fr.refl (fun _ => False) x12) _) (fun _ _ h => h))
          clear hK K
          try simp only [Act.put, sL]
          refine wpAnyH_ready (rs := [14]) (by kernel_rfl) (by simp) ?_
          refine AllReadyH.cons rfl (fun K hK => ?_) AllReadyH.nil
          go_simp
          skip
          try go_simp
          refine hK.out _ _ ?_ (fun hHeld => ?_)
          · (try dsimp only); exact HSS.out _ (F12.out.trans (Fr.alloc (Fr.refl (fun _ => False) x12) _) (fun _ _ h => h))
          clear hK K
          try simp only [Act.put, sL]
          refine wpAnyH_done (by kernel_rfl) ?_ _
          go_wp2_with fail
          go_meet
          exact ⟨x12.heap.size, r, rfl, heap_alloc_at _ _, HidR.out, F12.out.size, F12.out.trans (Fr.alloc (Fr.refl (fun _ => False) x12) _) (fun _ _ h => h)⟩
        · go_simp
          skip
          try go_simp
          refine hK.out _ _ ?_ (fun hHeld => ?_)
          · (try dsimp only); exact HSS.out _ (Fr.drew (Fr.alloc (Fr.refl (fun _ => False) wr) _))
          clear hK K
          try simp only [Act.put, sL]
          refine wpAnyH_ready (rs := [12]) (by kernel_rfl) (by simp) ?_
          refine AllReadyH.cons rfl (fun K hK => ?_) AllReadyH.nil
          go_simp
          refine (HCR.out _).mono ?_
          rintro e x12 ⟨r, rfl, hid, f12⟩
          try go_simp
          refine hK.out _ _ ?_ (fun hHeld => ?_)
          · (try dsimp only); exact HSS.out _ (hHeld.1.trans f12 (fun _ _ h => h))
          clear hK K
          have HidR := Lib.hid hid
          have F12 := Lib.hid (show Fr (fun _ => False) wr x12 from (Fr.drew (Fr.alloc (Fr.refl (fun _ => False) wr) _)).trans f12 (fun _ _ h => h))
          have hy0 : x12.heap[wr.heap.size]? = some (.cells #[.int .i64 0, .int .u32 0, .int .i64 0, .int .i64 0, .int .i64 0] 46 (0, 0)) := f12.get (heap_alloc_at wr _) (fun h => h)
          have u0 := (cell_of hy0 0).trans (show _ = some (Value.int .i64 0) from rfl)
          have v0 := free_of hy0 0
          have u1 := (cell_of hy0 1).trans (show _ = some (Value.int .u32 0) from rfl)
          have v1 := free_of hy0 1
          have u2 := (cell_of hy0 2).trans (show _ = some (Value.int .i64 0) from rfl)
          have v2 := free_of hy0 2
          have u3 := (cell_of hy0 3).trans (show _ = some (Value.int .i64 0) from rfl)
          have v3 := free_of hy0 3
          have u4 := (cell_of hy0 4).trans (show _ = some (Value.int .i64 0) from rfl)
          have v4 := free_of hy0 4
          have HY0 := Lib.hid hy0
          clear hy0 hid f12
          try simp only [Act.put, sL]
          refine wpAnyH_ready (rs := [14]) (by kernel_rfl) (by simp) ?_
          refine AllReadyH.cons rfl (fun K hK => ?_) AllReadyH.nil
          go_simp
          skip
          try go_simp
          refine hK.out _ _ ?_ (fun hHeld => ?_)
          · (try dsimp only); exact HSS.out _ (((F12.out.mono (fun _ _ h => h.elim) : Fr (fun q => wr.heap.size ≤ q) wr x12).trans (recW_fr x12 wr.heap.size _ _ _ _ _) (fun q _ e => by rw [e]; exact Nat.le_refl _)).toNew)
          clear hK K
          try simp only [Act.put, sL]
          refine wpAnyH_done (by kernel_rfl) ?_ _
          go_wp2_with fail
          go_meet
          exact ⟨wr.heap.size, r, rfl, recW_at HY0.out _ _ _ _ _, HidR.out, Nat.le_refl _, ((F12.out.mono (fun _ _ h => h.elim) : Fr (fun q => wr.heap.size ≤ q) wr x12).trans (recW_fr x12 wr.heap.size _ _ _ _ _) (fun q _ e => by rw [e]; exact Nat.le_refl _)).toNew⟩
      case rest =>
      obtain ⟨y, r, rfl, hy, hid, hyn, f6⟩ := hcut
      have H6 := Lib.hid (HH.out.quiet f6)
      have Hid := Lib.hid hid; have HYn := Lib.hid hyn; have Hy := Lib.hid hy
      have HAp := Lib.hid (rapply_ok H6.out.ref H6.out.raw r)
      have k0 := (cell_of hy 0).trans (show _ = some (Value.int .i64 r.kind) from rfl)
      have k1 := (cell_of hy 1).trans (show _ = some (Value.int .u32 (r.id : Int)) from rfl)
      have k2 := (cell_of hy 2).trans (show _ = some (Value.int .i64 r.seat) from rfl)
      have k3 := (cell_of hy 3).trans (show _ = some (Value.int .i64 r.till) from rfl)
      have k4 := (cell_of hy 4).trans (show _ = some (Value.int .i64 r.clock) from rfl)
      clear hy hid hyn f6
      go_wp2_with fail
      refine HAp.out.mono ?_
      rintro e w7 ⟨rfl, ha⟩
      obtain ⟨vb', h7⟩ := H6.out.apply ha (app_raw H6.out.raw)
      have hy7 : w7.heap[y]? = some (rcC r) := by
        obtain ⟨_, _, f, _⟩ := ha
        refine f.get Hy.out (fun e => ?_)
        have := HYn.out
        rcases e with e | e
        · have := lt_of_block HH.out.ref.head; omega
        · have := Row.lt HH.out.ref.row e; omega
      have H7 := Lib.hid h7; have Hy7 := Lib.hid hy7
      obtain ⟨ev, hev⟩ : ∃ ev, ev = appE bk r := ⟨_, rfl⟩
      rw [← hev]
      obtain ⟨i1, hi1⟩ : ∃ i1, i1 = i + 1 := ⟨_, rfl⟩
      have j1 : (i : Int) + 1 = (i1 : Int) := by rw [hi1]; push_cast; rfl
      have j2 : wrap64 (i1 : Int) = (i1 : Int) := by clear k0 k1 k2 k3 k4 hev; unfold wrap64; have := HLt.out; omega
      have j3 : IntKind.i64.wrap (i1 : Int) = (i1 : Int) := by clear k0 k1 k2 k3 k4 hev; rw [IntKind.wrap_i64]; have := HLt.out; omega
      have HI1 := Lib.hid hi1
      obtain ⟨a2, c2, W2, hrun, hrow, fr2, ho2⟩ := Rcs.app H7.out.rcs (by have := H7.out.len; have := HLt.out; omega) r
      have HRun := Lib.hid hrun
      have H8 := Lib.hid (H7.out.app Hid.out hrow fr2 ho2)
      have HMore := Lib.hid H7.out.more
      have HMea := Lib.hid (show n - i1 < n - i by have := HLt.out; omega)
      have HLe := Lib.hid (show i1 ≤ n by have := HLt.out; omega)
      clear ha h7 hy7 hev hi1 hrun hrow fr2 ho2 k0 k1 k2 k3 k4
      have k0 := (cell_of Hy7.out 0).trans (show _ = some (Value.int .i64 r.kind) from rfl)
      have k1 := (cell_of Hy7.out 1).trans (show _ = some (Value.int .u32 (r.id : Int)) from rfl)
      have k2 := (cell_of Hy7.out 2).trans (show _ = some (Value.int .i64 r.seat) from rfl)
      have k3 := (cell_of Hy7.out 3).trans (show _ = some (Value.int .i64 r.till) from rfl)
      have k4 := (cell_of Hy7.out 4).trans (show _ = some (Value.int .i64 r.clock) from rfl)
      by_cases hz : ev = 0
      · have b1 : ((ev : Int) == 0) = true := by rw [hz]; rfl
        clear hz
        go_wp2_with (at_builtin; refine wpList_append_run rfl _ _ _ rfl rfl rfl HRun.out ?_)
        go_roundw
        case rel => exact ⟨i1, _, vb', appB bk r, R ++ [r], rfl, rfl, HLe.out, by rw [HI1.out]; exact H8.out⟩
        case measure => have := HMea.out; simp [intOf]; omega
      · have b1 : ((ev : Int) == 0) = false := by simpa using hz
        clear hz
        cases all with
        | true =>
          go_wp2_with (at_builtin; refine wpList_append_run rfl _ _ _ rfl rfl rfl HRun.out ?_)
          go_roundw
          case rel => exact ⟨i1, _, vb', appB bk r, R ++ [r], rfl, rfl, HLe.out, by rw [HI1.out]; exact H8.out⟩
          case measure => have := HMea.out; simp [intOf]; omega
        | false =>
          go_wp2_with fail
          go_roundw
          case rel => exact ⟨i1, _, vb', appB bk r, R, rfl, rfl, HLe.out, by rw [HI1.out]; exact HMore.out⟩
          case measure => have := HMea.out; simp [intOf]; omega
    · have hlt' : ¬ (i : Int) < (n : Int) := by omega
      clear hlt hH
      have HLe := Lib.hid hi
      clear hi
      go_wp2_with fail
      go_ret
      exact ⟨_, R, rfl, HH.out.rcs, HH.out.ids, Nat.le_trans HH.out.len HLe.out, fun x hx => (HH.out.o3 x hx).1, HH.out.fr⟩
end Go.Proofs.YtffnjnnmlfgngaaGreat.Cs
namespace Go.Proofs.YtffnjnnmlfgngaaGreat.Cs
open Go.RowKit Go.Shelf Go.Proofs.YtffnjnnmlfgngaaGreat.Bk
attribute [local go_sem] Oper.semAt_some
theorem kindsAt_take {w : World} {a : Option Addr} {n m c : Nat} {kd : Nat → IntKind} {K : Nat → Nat → Int} (h : KindsAt w (.slice a n c) m kd K n) {k : Nat} (hk : k ≤ n) : KindsAt w (.slice a k c) m kd K k := by
 obtain ⟨a', c', e, h1, h2, h3⟩ := h
 obtain ⟨rfl, -, rfl⟩ := Value.slice.inj e
 refine ⟨a, c, rfl, by omega, h2, ?_⟩
 rcases h3 with h3 | ⟨b, o, h3, h4⟩
 ·left; omega
 ·right; exact ⟨b, o, h3, fun i j hi hj => h4 i j (by omega) hj⟩
theorem may_ok_of {b : Bk} (hs : 1 ≤ b.seats ∧ b.seats ≤ 1024) (hc : 1 ≤ b.codes ∧ b.codes ≤ 4096) (hn : b.next < 4294967296) (h : mayK b = true) : Ok b := by
 unfold mayK at h
 simp only [Bool.and_eq_true, decide_eq_true_eq] at h
 obtain ⟨⟨h1, h2, h3, h4⟩, h5⟩ := h
 have h0 : Ok { b with L := [] } := ⟨⟨hs.1, hs.2, hc.1, hc.2, h1, hn, h2, h3, .nil, by simp, by simp, .nil, by simp, Nat.zero_le _⟩, by simp⟩
 have := of_ok0 b.L { b with L := [] } 0 h0 h5 (by simp) (by simpa using h4)
 simpa using this
theorem rcs_cells {w : World} {v : Value} {R : List Rc} (h : Rcs w v R) {i : Nat} (hi : i < R.length) : ∃ g cap, v = .slice (some ⟨g, 0, none⟩) R.length cap ∧ w.cell? ⟨g, i * 5, none⟩ = some (.int .i64 R[i].kind) ∧ w.cell? ⟨g, i * 5 + 1, none⟩ = some (.int .u32 (R[i].id : Int)) ∧ w.cell? ⟨g, i * 5 + 2, none⟩ = some (.int .i64 R[i].seat) ∧ w.cell? ⟨g, i * 5 + 3, none⟩ = some (.int .i64 R[i].till) ∧ w.cell? ⟨g, i * 5 + 4, none⟩ = some (.int .i64 R[i].clock) := by
 obtain ⟨g, cap, e, h1⟩ := Els.cells encR_len h hi
 exact ⟨g, cap, e, h1 0 (by omega), h1 1 (by omega), h1 2 (by omega), h1 3 (by omega), h1 4 (by omega)⟩
abbrev flV (sh : Int) (v : Value) (nx : Nat) (cl : Int) : Value := .agg #[.int .i64 sh, v, .int .u32 (nx : Int), .int .i64 cl]
/-- The program's book and the document's, of one flight. -/
def BooksP (w : World) (e : Ending) (w' : World) : Prop := ∃ p bb wb v b, e = .returned (.tuple #[.pointer (some ⟨bb, 0, none⟩), .pointer (some ⟨wb, 0, none⟩), .bool true]) ∧ Ok b ∧ (1 ≤ b.group ∧ b.group ≤ 64) ∧ BkP p bb b.next b b.L b.L w' ∧ RefAt w' wb v b ∧ (∀ x, p.own bb x → w.heap.size ≤ x ∧ x ≠ wb ∧ v.ownBlock ≠ some x) ∧ w.heap.size ≤ wb ∧ (∀ x, v.ownBlock = some x → w.heap.size ≤ x) ∧ Fr (fun _ => False) w w' ∧ b.seats ≤ 12
set_option maxRecDepth 100000 in
set_option maxHeartbeats 8000000 in
theorem books_ok {w : World} {sh : Int} (hsh : I64 sh) {v : Value} {K : Nat → Nat → Int} {n : Nat} (hK : KindsAt w v 4 kI K n) (nx : Nat) (hnx : nx < 4294967296) (cl : Int) : Calls Tryz.prog 23 #[flV sh v nx cl] w (BooksP w) := by
 obtain ⟨la, lc, rfl, hlc, -⟩ := id hK
 obtain ⟨W, hW⟩ : ∃ W, W = w.alloc (.cells #[.int .i64 sh, .slice la n lc, .int .u32 (nx : Int), .int .i64 cl] 61) := ⟨_, rfl⟩
 obtain ⟨z, hz⟩ : ∃ z, z = w.heap.size := ⟨_, rfl⟩
 have f0 : Fr (fun _ => False) w W := by rw [hW]; exact Fr.alloc (Fr.refl _ _) _
 have hg : W.heap[z]? = some (.cells #[.int .i64 sh, .slice la n lc, .int .u32 (nx : Int), .int .i64 cl] 61 (0, 0)) := by rw [hW, hz]; exact heap_alloc_at _ _
 have HKw := Lib.hid (hK.fr f0 (fun _ _ h => h) (by omega))
 have d0 := (cell_of hg 0).trans (show _ = some (Value.int .i64 sh) from rfl)
 have d1 := (cell_of hg 1).trans (show _ = some (Value.slice la n lc) from rfl)
 have HG := Lib.hid hg; have F0 := Lib.hid f0; have Hlc := Lib.hid hlc
 have HSp := Lib.hid (fun (V : World) => mshape_ok sh hsh V)
 have Hnx := Lib.hid hnx
 obtain ⟨bq, hbq⟩ : ∃ bq, decide ((60 : Int) < (n : Int)) = bq := ⟨_, rfl⟩
 have hbq2 : decide (60 < n) = bq := by rw [← hbq]; exact decide_eq_decide.2 (by omega)
 have HBq := Lib.hid hbq
 have n0 : (0 : Int) ≤ (n : Int) := by omega
 clear f0 hg hK hsh hnx
 go_enter Tryz.func23, Tryz.ntmps23
 go_upto_region 1 with fail
 rw [← hW, ← hz]
 clear hW hz
 go_upto_if 18 with (fail)
 go_cut [5] (fun s5 wx => ∃ v5 n5, s5 = v5 ∧ KindsAt W v5 4 kI K n5 ∧ n5 ≤ 60 ∧ W = wx)
 case first =>
  cases bq with
  | true =>
   have h60 : 60 ≤ lc := by have := Hlc.out; have := of_decide_eq_true HBq.out; omega
   have h60' : (60 : Int) ≤ (lc : Int) := by omega
   go_wp2_with fail
   go_meet
   exact ⟨_, 60, rfl, kindsAt_take HKw.out (by have := of_decide_eq_true HBq.out; omega), Nat.le_refl _, rfl⟩
  | false =>
   go_wp2_with fail
   go_meet
   exact ⟨_, n, rfl, HKw.out, by have := of_decide_eq_false HBq.out; omega, rfl⟩
 case rest =>
 obtain ⟨v5, n5, rfl, hk5, hn5, rfl⟩ := hcut
 have HK5 := Lib.hid hk5; have Hn5 := Lib.hid hn5
 clear hk5 hn5 hbq hbq2 d1 hlc
 go_wp2_with fail
 refine (HSp.out _).mono ?_
 rintro e w1 ⟨a, b, c, rfl, ha, hb, hc, f1⟩
 obtain ⟨Wb, hWb⟩ : ∃ W, W = w1.alloc (.cells #[.int .i64 (a : Int), .int .i64 (b : Int), .int .i64 (c : Int)] 23) := ⟨_, rfl⟩
 obtain ⟨y6, hy6⟩ : ∃ z, z = w1.heap.size := ⟨_, rfl⟩
 have f2 : Fr (fun _ => False) w1 Wb := by rw [hWb]; exact Fr.alloc (Fr.refl _ _) _
 have g6 : Wb.heap[y6]? = some (.cells #[.int .i64 (a : Int), .int .i64 (b : Int), .int .i64 (c : Int)] 23 (0, 0)) := by rw [hWb, hy6]; exact heap_alloc_at _ _
 have Fb := Lib.hid (f1.trans f2 (fun _ _ h => h))
 have HA := Lib.hid ha; have HB := Lib.hid hb; have HC := Lib.hid hc; have HG6 := Lib.hid g6
 have HGz := Lib.hid (Fb.out.get HG.out (fun h => h))
 have HKb := Lib.hid (HK5.out.fr Fb.out (fun _ _ h => h) (by omega))
 have HNew := Lib.hid (rnew_ok Wb (n := a) (m := b) (q := c) (by omega) (by omega) (by omega))
 have HOk0 := Lib.hid (show Ok (bk0 a b c) from bk0_ok (by omega) (by omega))
 have q0 := (cell_of g6 0).trans (show _ = some (Value.int .i64 (a : Int)) from rfl)
 have q1 := (cell_of g6 1).trans (show _ = some (Value.int .i64 (b : Int)) from rfl)
 have q2 := (cell_of g6 2).trans (show _ = some (Value.int .i64 (c : Int)) from rfl)
 clear f1 f2 g6 ha hb hc d0
 go_upto_region 5 with fail
 rw [← hWb, ← hy6]
 clear hWb hy6
 go_wp2_with fail
 refine HNew.out.mono ?_
 rintro e w3 ⟨wb, rfl, hR, hwb, f3⟩
 have HI0 := Lib.hid (show HiAt Wb w3 wb (.slice none 0 0) (.slice none 0 0) (bk0 a b c) [] 60 from ⟨hR, HOk0.out.toRaw, World.ownsRow_nil _ _ _ _, fun x hx => by simp at hx, Nat.zero_le _, hwb, fun x hx => by simp [Value.ownBlock] at hx, fun x hx => by simp [Value.ownBlock] at hx, f3⟩)
 have g63 := f3.get HG6.out (fun h => h)
 clear hR hwb f3 q0 q1 q2
 have q0 := (cell_of g63 0).trans (show _ = some (Value.int .i64 (a : Int)) from rfl)
 have q1 := (cell_of g63 1).trans (show _ = some (Value.int .i64 (b : Int)) from rfl)
 have q2 := (cell_of g63 2).trans (show _ = some (Value.int .i64 (c : Int)) from rfl)
 have HHi := Lib.hid (hist_ok (w := w3) (a := a) (b := b) (c := c) HA.out HB.out HC.out (HKb.out.fr HI0.out.fr (fun _ _ h => h) (by omega)) (by have := Hn5.out; omega) false)
 clear g63
 go_wp2_with fail
 refine HHi.out.mono ?_
 rintro e w4 ⟨v9, R, rfl, hrcs, hids, hlen, hown, f4⟩
 have HI1 := Lib.hid (show HiAt Wb w4 wb (.slice none 0 0) v9 (bk0 a b c) R 60 from ⟨HI0.out.ref.keep f4, HOk0.out.toRaw, hrcs, hids, by have := Hn5.out; omega, HI0.out.o1, HI0.out.o2, fun x hx => ⟨by have := hown x hx; have := HI0.out.fr.size; omega, fun e => by have := hown x hx; have := lt_of_block HI0.out.ref.head; omega, by simp [Value.ownBlock]⟩, HI0.out.fr.trans f4 (fun _ _ h => h)⟩)
 obtain ⟨ra, rc, hv9⟩ := rcs_slice hrcs
 have HV9 := Lib.hid hv9
 clear hrcs hids hlen hown f4 q0 q1 q2
 obtain ⟨m, hm⟩ : ∃ m, m = R.length := ⟨_, rfl⟩
 have hm60 : m ≤ 60 := by rw [hm]; exact HI1.out.len
 have hm60' : (m : Int) ≤ 60 := by omega
 rw [hv9, ← hm]
 have HM := Lib.hid hm; have Hm60 := Lib.hid hm60
 clear hv9 hm hm60
 go_upto_block 0 with fail
 go_cut [10] (fun _ wx => ∃ (vb : Value) (bk : Bk), HiAt Wb wx wb vb v9 bk R 60 ∧ Ok bk ∧ bk.seats = a ∧ bk.codes = b ∧ bk.group = c)
 case first =>
  go_wp2_with fail
  go_loopw [10] (fun s10 wr => ∃ (i : Nat) (vb : Value) (bk : Bk), s10 = .int .i64 (i : Int) ∧ i ≤ m ∧ HiAt Wb wr wb vb v9 bk R 60 ∧ Ok bk ∧ bk.seats = a ∧ bk.codes = b ∧ bk.group = c) (fun s10 _ => m - (intOf s10).toNat)
  case atStart => exact ⟨0, _, _, rfl, Nat.zero_le _, HI1.out, HOk0.out, rfl, rfl, rfl⟩
  case round =>
   obtain ⟨i, vb, bk, rfl, hi, hH, hok, e1, e2, e3⟩ := hrel
   have HH := Lib.hid hH; have HOk := Lib.hid hok; have HE := Lib.hid (And.intro e1 (And.intro e2 e3))
   clear hok e1 e2 e3
   by_cases hlt : i < m
   ·have hlt' : (i : Int) < (m : Int) := by omega
    have i0 : (0 : Int) ≤ (i : Int) := by omega
    have hiR : i < R.length := by rw [← HM.out]; exact hlt
    obtain ⟨g, cap, ev, k0, k1, k2, k3, k4⟩ := rcs_cells hH.rcs hiR
    have ev2 := HV9.out
    rw [ev] at ev2
    obtain ⟨rfl, -, rfl⟩ := Value.slice.inj ev2
    obtain ⟨r, hr⟩ : ∃ r, r = R[i] := ⟨_, rfl⟩
    rw [← hr] at k0 k1 k2 k3 k4
    have HAp := Lib.hid (rapply_ok hH.ref hH.raw r)
    obtain ⟨i1, hi1⟩ : ∃ i1, i1 = i + 1 := ⟨_, rfl⟩
    have j1 : (i : Int) + 1 = (i1 : Int) := by rw [hi1]; push_cast; rfl
    have j2 : wrap64 (i1 : Int) = (i1 : Int) := by clear k0 k1 k2 k3 k4 ev ev2 hr; unfold wrap64; omega
    have j3 : IntKind.i64.wrap (i1 : Int) = (i1 : Int) := by clear k0 k1 k2 k3 k4 ev ev2 hr j2; rw [IntKind.wrap_i64]; omega
    have HI := Lib.hid (show i1 ≤ m ∧ m - i1 < m - i by omega)
    clear hH hr hi hi1 hlt hiR ev ev2
    go_wp2_with fail
    refine HAp.out.mono ?_
    rintro e w7 ⟨rfl, ha⟩
    obtain ⟨vb', h7⟩ := HH.out.apply ha (app_raw HH.out.raw)
    have H7 := Lib.hid h7
    clear ha h7 k0 k1 k2 k3 k4
    go_wp2_with fail
    go_roundw
    case rel => exact ⟨i1, vb', appB bk r, rfl, HI.out.1, H7.out, app_ok HOk.out, by rw [(appB_seats bk r).1]; exact HE.out.1, by rw [(appB_seats bk r).2.1]; exact HE.out.2.1, by rw [(appB_seats bk r).2.2]; exact HE.out.2.2⟩
    case measure => have := HI.out.2; simp [intOf]; omega
   ·have hlt' : ¬ (i : Int) < (m : Int) := by omega
    clear hlt hi hH
    go_wp2_with fail
    go_meet
    exact ⟨vb, bk, HH.out, HOk.out, HE.out.1, HE.out.2.1, HE.out.2.2⟩
 case rest =>
 obtain ⟨vb, bk, hH, hok, es, ec, eg⟩ := hcut
 obtain ⟨va, vc, rfl⟩ := bos_slice hH.ref.row
 obtain ⟨nn, hnn⟩ : ∃ nn, nn = bk.L.length := ⟨_, rfl⟩
 have hc7 := hH.ref.c
 rw [← hnn] at hc7
 obtain ⟨k0, k1, k2, k3, k4, k5, k6⟩ := hc7
 obtain ⟨nx2, hnx2⟩ : ∃ nx2 : Nat, nx2 = (bk.next + nx) % 4294967296 := ⟨_, rfl⟩
 have hw2 : IntKind.u32.wrap ((bk.next : Int) + (nx : Int)) = (nx2 : Int) := by clear k0 k1 k2 k3 k4 k5 k6; rw [IntKind.wrap_u32]; omega
 have Hnx2 := Lib.hid (show nx2 < 4294967296 by omega)
 obtain ⟨cl2, hcl⟩ : ∃ cl2, wrap64 (bk.clock + cl) = cl2 := ⟨_, rfl⟩
 have hcl' : IntKind.i64.wrap (bk.clock + cl) = cl2 := by clear k0 k1 k2 k3 k4 k5 k6 hw2; rw [← hcl, IntKind.wrap_i64]; unfold wrap64; omega
 obtain ⟨Wf, hWf⟩ : ∃ W, W = wc.alloc (.cells #[.bool true, .int .i64 (bk.seats : Int), .int .i64 (bk.codes : Int), .int .i64 (bk.group : Int), .slice va nn vc, .int .u32 (nx2 : Int), .int .i64 cl2] 52) := ⟨_, rfl⟩
 obtain ⟨fb, hfb⟩ : ∃ z, z = wc.heap.size := ⟨_, rfl⟩
 have ff : Fr (fun _ => False) wc Wf := by rw [hWf]; exact Fr.alloc (Fr.refl _ _) _
 have gf : Wf.heap[fb]? = some (.cells #[.bool true, .int .i64 (bk.seats : Int), .int .i64 (bk.codes : Int), .int .i64 (bk.group : Int), .slice va nn vc, .int .u32 (nx2 : Int), .int .i64 cl2] 52 (0, 0)) := by rw [hWf, hfb]; exact heap_alloc_at _ _
 have HHf := Lib.hid (hH.quiet ff)
 have HFar := Lib.hid (show RefAt Wf fb (.slice va bk.L.length vc) { bk with next := nx2, clock := cl2 } from ⟨by rw [← hnn]; exact gf, Row.fr hH.ref.row ff (fun _ _ h => h), fun e => by have := Row.lt hH.ref.row e; omega⟩)
 have HOk := Lib.hid hok; have HE := Lib.hid (And.intro es (And.intro ec eg)); have HNn := Lib.hid hnn
 have HFb := Lib.hid (show Wb.heap.size ≤ fb by rw [hfb]; exact hH.fr.size)
 have gz := (hH.fr.get HGz.out (fun h => h))
 have z2 := (cell_of gz 2).trans (show _ = some (Value.int .u32 (nx : Int)) from rfl)
 have z3 := (cell_of gz 3).trans (show _ = some (Value.int .i64 cl) from rfl)
 have Hzl := Lib.hid (lt_of_block gz)
 have z2f := (ff.cell (b := z) (o := 2) (s := none) (lt_of_block gz) (fun h => h)).trans z2
 have z3f := (ff.cell (b := z) (o := 3) (s := none) (lt_of_block gz) (fun h => h)).trans z3
 have hzs : z < wc.heap.size := lt_of_block gz
 have hzs' : z ≠ wc.heap.size := by omega
 clear gz ff gf hH hok es ec eg hnn hnx2
 go_upto_region 14 with fail
 rw [← hWf, ← hfb]
 clear hWf hfb z2 z3 z2f z3f hzs hzs' k0 k1 k2 k3 k4 k5 k6 hw2 hcl hcl'
 obtain ⟨far, hfar⟩ : ∃ far : Bk, far = { bk with next := nx2, clock := cl2 } := ⟨_, rfl⟩
 obtain ⟨ta, hta⟩ : ∃ t, decide ((bk.next : Int) ≤ (nx2 : Int)) = t := ⟨_, rfl⟩
 have hta2 : decide (bk.next ≤ nx2) = ta := by rw [← hta]; exact decide_eq_decide.2 (by omega)
 obtain ⟨tb, htb⟩ : ∃ t, decide (bk.clock ≤ cl2) = t := ⟨_, rfl⟩
 obtain ⟨tm, htm⟩ : ∃ t, mayK far = t := ⟨_, rfl⟩
 have HMay := Lib.hid (fun (V : World) (f : Fr (fun _ => False) Wf V) => show Calls Tryz.prog 17 #[.pointer (some ⟨fb, 0, none⟩)] V fun e w' => e = .returned (.bool tm) ∧ Fr (fun _ => False) V w' by
  rw [← htm, hfar]
  exact rbmay_ok (HFar.out.keep f) (by have := HOk.out.few; have := HOk.out.c1; show bk.L.length ≤ 100000; omega) ⟨HOk.out.s0, HOk.out.s1⟩)
 have HTm := Lib.hid htm; have HFr := Lib.hid hfar
 have HSS := Lib.hid (fun (V : World) (f : Fr (fun _ => False) Wf V) => (⟨f, (HFar.out.keep f).c.2.2.2.2.2.1, (HFar.out.keep f).c.2.2.2.2.2.2, (HHf.out.ref.keep f).c.2.2.2.2.2.1, (HHf.out.ref.keep f).c.2.2.2.2.2.2⟩ : Fr (fun _ => False) Wf V ∧ V.cell? ⟨fb, 5, none⟩ = some (.int .u32 (nx2 : Int)) ∧ V.cell? ⟨fb, 6, none⟩ = some (.int .i64 cl2) ∧ V.cell? ⟨wb, 5, none⟩ = some (.int .u32 (bk.next : Int)) ∧ V.cell? ⟨wb, 6, none⟩ = some (.int .i64 bk.clock)))
 clear htm hfar
 go_cut [77] (fun s wx => s = .bool (ta && (tb && tm)) ∧ Fr (fun _ => False) Wf wx)
 case first =>
  cases ta with
  | false =>
   refine wp_region_held_drew (S := fun w' => Fr (fun _ => False) Wf w' ∧ w'.cell? ⟨fb, 5, none⟩ = some (.int .u32 (nx2 : Int)) ∧ w'.cell? ⟨fb, 6, none⟩ = some (.int .i64 cl2) ∧ w'.cell? ⟨wb, 5, none⟩ = some (.int .u32 (bk.next : Int)) ∧ w'.cell? ⟨wb, 6, none⟩ = some (.int .i64 bk.clock)) (by kernel_rfl) (by exact HSS.out _ (Fr.drew (Fr.refl _ _))) (fun hHeld => ?_)
   refine wpAnyH_take (i := 0) (v := ?_) rfl (by kernel_rfl) (by kernel_rfl) (by kernel_rfl) (fun _ _ _ h => h) (Or.inl ⟨by rfl, ?_⟩) (by assumption) ?_
   rotate_left
   ·intro w' hSw; (try dsimp only at hSw); go_simp; try with_reducible rfl
   try simp only [Act.put, List.getElem_toArray, List.getElem_cons_zero, List.setIfInBounds_toArray, List.set_cons_zero, List.set_cons_succ]
   refine wpAnyH_take (i := 1) (v := ?_) rfl (by kernel_rfl) (by kernel_rfl) (by kernel_rfl) (fun _ _ _ h => h) (Or.inl ⟨by rfl, ?_⟩) (by assumption) ?_
   rotate_left
   ·intro w' hSw; (try dsimp only at hSw); go_simp; try with_reducible rfl
   try simp only [Act.put, sL]
   refine wpAnyH_take (i := 2) (v := ?_) rfl (by kernel_rfl) (by kernel_rfl) (by kernel_rfl) (fun _ _ _ h => h) (Or.inl ⟨by rfl, ?_⟩) (by assumption) ?_
   rotate_left
   ·intro w' hSw; (try dsimp only at hSw); go_simp; try with_reducible rfl
   try simp only [Act.put, sL]
   refine wpAnyH_take (i := 3) (v := ?_) rfl (by kernel_rfl) (by kernel_rfl) (by kernel_rfl) (fun _ _ _ h => h) (Or.inl ⟨by rfl, ?_⟩) (by assumption) ?_
   rotate_left
   ·intro w' hSw; (try dsimp only at hSw); go_simp; try with_reducible rfl
   try simp only [Act.put, sL]
   refine wpAnyH_take (i := 4) (v := ?_) rfl (by kernel_rfl) (by kernel_rfl) (by kernel_rfl) (fun _ _ _ h => h) (Or.inl ⟨by rfl, ?_⟩) (by assumption) ?_
   rotate_left
   ·intro w' hSw; (try dsimp only at hSw); go_simp; try with_reducible rfl
   try simp only [Act.put, sL]
   refine wpAnyH_take (i := 5) (v := ?_) rfl (by kernel_rfl) (by kernel_rfl) (by kernel_rfl) (fun _ _ _ h => h) (Or.inl ⟨by rfl, ?_⟩) (by assumption) ?_
   rotate_left
   ·intro w' hSw; (try dsimp only at hSw); go_simp; try with_reducible rfl
   try simp only [Act.put, sL]
   refine wpAnyH_take (i := 6) (v := ?_) rfl (by kernel_rfl) (by kernel_rfl) (by kernel_rfl) (fun _ _ _ h => h) (Or.inl ⟨by rfl, ?_⟩) (by assumption) ?_
   rotate_left
   ·intro w' hSw; (try dsimp only at hSw); go_simp; try with_reducible rfl
   try simp only [Act.put, sL]
   refine wpAnyH_take (i := 7) (v := ?_) rfl (by kernel_rfl) (by kernel_rfl) (by kernel_rfl) (fun _ _ _ h => h) (Or.inl ⟨by rfl, ?_⟩) (by assumption) ?_
   rotate_left
   ·intro w' hSw; (try dsimp only at hSw); go_simp; try with_reducible rfl
   try simp only [Act.put, sL]
   refine wpAnyH_take (i := 8) (v := undef) rfl (by kernel_rfl) (by kernel_rfl) (by kernel_rfl) (fun _ _ _ h => h) (Or.inr ⟨rfl, rfl⟩) (by assumption) ?_
   try simp only [Act.put, sL]
   refine wpAnyH_take (i := 9) (v := undef) rfl (by kernel_rfl) (by kernel_rfl) (by kernel_rfl) (fun _ _ _ h => h) (Or.inr ⟨rfl, rfl⟩) (by assumption) ?_
   try simp only [Act.put, sL]
   refine wpAnyH_take (i := 10) (v := undef) rfl (by kernel_rfl) (by kernel_rfl) (by kernel_rfl) (fun _ _ _ h => h) (Or.inr ⟨rfl, rfl⟩) (by assumption) ?_
   try simp only [Act.put, sL]
   refine wpAnyH_take (i := 11) (v := undef) rfl (by kernel_rfl) (by kernel_rfl) (by kernel_rfl) (fun _ _ _ h => h) (Or.inr ⟨rfl, rfl⟩) (by assumption) ?_
   try simp only [Act.put, sL]
   refine wpAnyH_take (i := 12) (v := undef) rfl (by kernel_rfl) (by kernel_rfl) (by kernel_rfl) (fun _ _ _ h => h) (Or.inr ⟨rfl, rfl⟩) (by assumption) ?_
   try simp only [Act.put, sL]
   refine wpAnyH_take (i := 13) (v := undef) rfl (by kernel_rfl) (by kernel_rfl) (by kernel_rfl) (fun _ _ _ h => h) (Or.inr ⟨rfl, rfl⟩) (by assumption) ?_
   try simp only [Act.put, sL]
   refine wpAnyH_take (i := 14) (v := undef) rfl (by kernel_rfl) (by kernel_rfl) (by kernel_rfl) (fun _ _ _ h => h) (Or.inr ⟨rfl, rfl⟩) (by assumption) ?_
   try simp only [Act.put, sL]
   refine wpAnyH_take (i := 15) (v := ?_) rfl (by kernel_rfl) (by kernel_rfl) (by kernel_rfl) (fun _ _ _ h => h) (Or.inl ⟨by rfl, ?_⟩) (by assumption) ?_
   rotate_left
   ·intro w' hSw; (try dsimp only at hSw); go_simp; try with_reducible rfl
   try simp only [Act.put, sL]
   refine wpAnyH_take (i := 16) (v := ?_) rfl (by kernel_rfl) (by kernel_rfl) (by kernel_rfl) (fun _ _ _ h => h) (Or.inl ⟨by rfl, ?_⟩) (by assumption) ?_
   rotate_left
   ·intro w' hSw; (try dsimp only at hSw); go_simp; try with_reducible rfl
   try simp only [Act.put, sL]
   refine wpAnyH_take (i := 17) (v := undef) rfl (by kernel_rfl) (by kernel_rfl) (by kernel_rfl) (fun _ _ _ h => h) (Or.inr ⟨rfl, rfl⟩) (by assumption) ?_
   try simp only [Act.put, sL]
   refine wpAnyH_take (i := 18) (v := ?_) rfl (by kernel_rfl) (by kernel_rfl) (by kernel_rfl) (fun _ _ _ h => h) (Or.inl ⟨by rfl, ?_⟩) (by assumption) ?_
   rotate_left
   ·intro w' hSw; (try dsimp only at hSw); go_simp; try with_reducible rfl
   try simp only [Act.put, sL]
   refine wpAnyH_done (by kernel_rfl) ?_ _
   go_wp2_with fail
   go_meet
   exact ⟨by simp, hHeld.1⟩
  | true =>
   cases tb with
   | false =>
    refine wp_region_held_drew (S := fun w' => Fr (fun _ => False) Wf w' ∧ w'.cell? ⟨fb, 5, none⟩ = some (.int .u32 (nx2 : Int)) ∧ w'.cell? ⟨fb, 6, none⟩ = some (.int .i64 cl2) ∧ w'.cell? ⟨wb, 5, none⟩ = some (.int .u32 (bk.next : Int)) ∧ w'.cell? ⟨wb, 6, none⟩ = some (.int .i64 bk.clock)) (by kernel_rfl) (by exact HSS.out _ (Fr.drew (Fr.refl _ _))) (fun hHeld => ?_)
    refine wpAnyH_take (i := 0) (v := ?_) rfl (by kernel_rfl) (by kernel_rfl) (by kernel_rfl) (fun _ _ _ h => h) (Or.inl ⟨by rfl, ?_⟩) (by assumption) ?_
    rotate_left
    ·intro w' hSw; (try dsimp only at hSw); go_simp; try with_reducible rfl
    try simp only [Act.put, List.getElem_toArray, List.getElem_cons_zero, List.setIfInBounds_toArray, List.set_cons_zero, List.set_cons_succ]
    refine wpAnyH_take (i := 1) (v := ?_) rfl (by kernel_rfl) (by kernel_rfl) (by kernel_rfl) (fun _ _ _ h => h) (Or.inl ⟨by rfl, ?_⟩) (by assumption) ?_
    rotate_left
    ·intro w' hSw; (try dsimp only at hSw); go_simp; try with_reducible rfl
    try simp only [Act.put, sL]
    refine wpAnyH_take (i := 2) (v := ?_) rfl (by kernel_rfl) (by kernel_rfl) (by kernel_rfl) (fun _ _ _ h => h) (Or.inl ⟨by rfl, ?_⟩) (by assumption) ?_
    rotate_left
    ·intro w' hSw; (try dsimp only at hSw); go_simp; try with_reducible rfl
    try simp only [Act.put, sL]
    refine wpAnyH_take (i := 3) (v := ?_) rfl (by kernel_rfl) (by kernel_rfl) (by kernel_rfl) (fun _ _ _ h => h) (Or.inl ⟨by rfl, ?_⟩) (by assumption) ?_
    rotate_left
    ·intro w' hSw; (try dsimp only at hSw); go_simp; try with_reducible rfl
    try simp only [Act.put, sL]
    refine wpAnyH_take (i := 4) (v := ?_) rfl (by kernel_rfl) (by kernel_rfl) (by kernel_rfl) (fun _ _ _ h => h) (Or.inl ⟨by rfl, ?_⟩) (by assumption) ?_
    rotate_left
    ·intro w' hSw; (try dsimp only at hSw); go_simp; try with_reducible rfl
    try simp only [Act.put, sL]
    refine wpAnyH_take (i := 5) (v := ?_) rfl (by kernel_rfl) (by kernel_rfl) (by kernel_rfl) (fun _ _ _ h => h) (Or.inl ⟨by rfl, ?_⟩) (by assumption) ?_
    rotate_left
    ·intro w' hSw; (try dsimp only at hSw); go_simp; try with_reducible rfl
    try simp only [Act.put, sL]
    refine wpAnyH_take (i := 6) (v := ?_) rfl (by kernel_rfl) (by kernel_rfl) (by kernel_rfl) (fun _ _ _ h => h) (Or.inl ⟨by rfl, ?_⟩) (by assumption) ?_
    rotate_left
    ·intro w' hSw; (try dsimp only at hSw); go_simp; try with_reducible rfl
    try simp only [Act.put, sL]
    refine wpAnyH_take (i := 7) (v := ?_) rfl (by kernel_rfl) (by kernel_rfl) (by kernel_rfl) (fun _ _ _ h => h) (Or.inl ⟨by rfl, ?_⟩) (by assumption) ?_
    rotate_left
    ·intro w' hSw; (try dsimp only at hSw); go_simp; try with_reducible rfl
    try simp only [Act.put, sL]
    refine wpAnyH_take (i := 8) (v := ?_) rfl (by kernel_rfl) (by kernel_rfl) (by kernel_rfl) (fun _ _ _ h => h) (Or.inl ⟨by rfl, ?_⟩) (by assumption) ?_
    rotate_left
    ·intro w' hSw; (try dsimp only at hSw); go_simp; try with_reducible rfl
    try simp only [Act.put, sL]
    refine wpAnyH_take (i := 9) (v := ?_) rfl (by kernel_rfl) (by kernel_rfl) (by kernel_rfl) (fun _ _ _ h => h) (Or.inl ⟨by rfl, ?_⟩) (by assumption) ?_
    rotate_left
    ·intro w' hSw; (try dsimp only at hSw); go_simp; try with_reducible rfl
    try simp only [Act.put, sL]
    refine wpAnyH_take (i := 10) (v := ?_) rfl (by kernel_rfl) (by kernel_rfl) (by kernel_rfl) (fun _ _ _ h => h) (Or.inl ⟨by rfl, ?_⟩) (by assumption) ?_
    rotate_left
    ·intro w' hSw; (try dsimp only at hSw); go_simp; try with_reducible rfl
    try simp only [Act.put, sL]
    refine wpAnyH_take (i := 11) (v := ?_) rfl (by kernel_rfl) (by kernel_rfl) (by kernel_rfl) (fun _ _ _ h => h) (Or.inl ⟨by rfl, ?_⟩) (by assumption) ?_
    rotate_left
    ·intro w' hSw; (try dsimp only at hSw); go_simp; try with_reducible rfl
    try simp only [Act.put, sL]
    refine wpAnyH_take (i := 12) (v := ?_) rfl (by kernel_rfl) (by kernel_rfl) (by kernel_rfl) (fun _ _ _ h => h) (Or.inl ⟨by rfl, ?_⟩) (by assumption) ?_
    rotate_left
    ·intro w' hSw; (try dsimp only at hSw); go_simp; try with_reducible rfl
    try simp only [Act.put, sL]
    refine wpAnyH_take (i := 13) (v := ?_) rfl (by kernel_rfl) (by kernel_rfl) (by kernel_rfl) (fun _ _ _ h => h) (Or.inl ⟨by rfl, ?_⟩) (by assumption) ?_
    rotate_left
    ·intro w' hSw; (try dsimp only at hSw); go_simp; try with_reducible rfl
    try simp only [Act.put, sL]
    refine wpAnyH_take (i := 14) (v := ?_) rfl (by kernel_rfl) (by kernel_rfl) (by kernel_rfl) (fun _ _ _ h => h) (Or.inl ⟨by rfl, ?_⟩) (by assumption) ?_
    rotate_left
    ·intro w' hSw; (try dsimp only at hSw); go_simp; try with_reducible rfl
    try simp only [Act.put, sL]
    refine wpAnyH_take (i := 15) (v := ?_) rfl (by kernel_rfl) (by kernel_rfl) (by kernel_rfl) (fun _ _ _ h => h) (Or.inl ⟨by rfl, ?_⟩) (by assumption) ?_
    rotate_left
    ·intro w' hSw; (try dsimp only at hSw); go_simp; try with_reducible rfl
    try simp only [Act.put, sL]
    refine wpAnyH_take (i := 16) (v := ?_) rfl (by kernel_rfl) (by kernel_rfl) (by kernel_rfl) (fun _ _ _ h => h) (Or.inl ⟨by rfl, ?_⟩) (by assumption) ?_
    rotate_left
    ·intro w' hSw; (try dsimp only at hSw); go_simp; try with_reducible rfl
    try simp only [Act.put, sL]
    refine wpAnyH_take (i := 17) (v := undef) rfl (by kernel_rfl) (by kernel_rfl) (by kernel_rfl) (fun _ _ _ h => h) (Or.inr ⟨rfl, rfl⟩) (by assumption) ?_
    try simp only [Act.put, sL]
    refine wpAnyH_take (i := 18) (v := ?_) rfl (by kernel_rfl) (by kernel_rfl) (by kernel_rfl) (fun _ _ _ h => h) (Or.inl ⟨by rfl, ?_⟩) (by assumption) ?_
    rotate_left
    ·intro w' hSw; (try dsimp only at hSw); go_simp; try with_reducible rfl
    try simp only [Act.put, sL]
    refine wpAnyH_done (by kernel_rfl) ?_ _
    go_wp2_with fail
    go_meet
    exact ⟨by simp, hHeld.1⟩
   | true =>
    refine wp_region_held_drew (S := fun w' => Fr (fun _ => False) Wf w' ∧ w'.cell? ⟨fb, 5, none⟩ = some (.int .u32 (nx2 : Int)) ∧ w'.cell? ⟨fb, 6, none⟩ = some (.int .i64 cl2) ∧ w'.cell? ⟨wb, 5, none⟩ = some (.int .u32 (bk.next : Int)) ∧ w'.cell? ⟨wb, 6, none⟩ = some (.int .i64 bk.clock)) (by kernel_rfl) (by exact HSS.out _ (Fr.drew (Fr.refl _ _))) (fun hHeld => ?_)
    refine wpAnyH_take (i := 0) (v := ?_) rfl (by kernel_rfl) (by kernel_rfl) (by kernel_rfl) (fun _ _ _ h => h) (Or.inl ⟨by rfl, ?_⟩) (by assumption) ?_
    rotate_left
    ·intro w' hSw; (try dsimp only at hSw); go_simp; try with_reducible rfl
    try simp only [Act.put, List.getElem_toArray, List.getElem_cons_zero, List.setIfInBounds_toArray, List.set_cons_zero, List.set_cons_succ]
    refine wpAnyH_take (i := 1) (v := ?_) rfl (by kernel_rfl) (by kernel_rfl) (by kernel_rfl) (fun _ _ _ h => h) (Or.inl ⟨by rfl, ?_⟩) (by assumption) ?_
    rotate_left
    ·intro w' hSw; (try dsimp only at hSw); go_simp; try with_reducible rfl
    try simp only [Act.put, sL]
    refine wpAnyH_take (i := 2) (v := ?_) rfl (by kernel_rfl) (by kernel_rfl) (by kernel_rfl) (fun _ _ _ h => h) (Or.inl ⟨by rfl, ?_⟩) (by assumption) ?_
    rotate_left
    ·intro w' hSw; (try dsimp only at hSw); go_simp; try with_reducible rfl
    try simp only [Act.put, sL]
    refine wpAnyH_take (i := 3) (v := ?_) rfl (by kernel_rfl) (by kernel_rfl) (by kernel_rfl) (fun _ _ _ h => h) (Or.inl ⟨by rfl, ?_⟩) (by assumption) ?_
    rotate_left
    ·intro w' hSw; (try dsimp only at hSw); go_simp; try with_reducible rfl
    try simp only [Act.put, sL]
    refine wpAnyH_take (i := 4) (v := ?_) rfl (by kernel_rfl) (by kernel_rfl) (by kernel_rfl) (fun _ _ _ h => h) (Or.inl ⟨by rfl, ?_⟩) (by assumption) ?_
    rotate_left
    ·intro w' hSw; (try dsimp only at hSw); go_simp; try with_reducible rfl
    try simp only [Act.put, sL]
    refine wpAnyH_take (i := 5) (v := ?_) rfl (by kernel_rfl) (by kernel_rfl) (by kernel_rfl) (fun _ _ _ h => h) (Or.inl ⟨by rfl, ?_⟩) (by assumption) ?_
    rotate_left
    ·intro w' hSw; (try dsimp only at hSw); go_simp; try with_reducible rfl
    try simp only [Act.put, sL]
    refine wpAnyH_take (i := 6) (v := ?_) rfl (by kernel_rfl) (by kernel_rfl) (by kernel_rfl) (fun _ _ _ h => h) (Or.inl ⟨by rfl, ?_⟩) (by assumption) ?_
    rotate_left
    ·intro w' hSw; (try dsimp only at hSw); go_simp; try with_reducible rfl
    try simp only [Act.put, sL]
    refine wpAnyH_take (i := 7) (v := ?_) rfl (by kernel_rfl) (by kernel_rfl) (by kernel_rfl) (fun _ _ _ h => h) (Or.inl ⟨by rfl, ?_⟩) (by assumption) ?_
    rotate_left
    ·intro w' hSw; (try dsimp only at hSw); go_simp; try with_reducible rfl
    try simp only [Act.put, sL]
    refine wpAnyH_take (i := 8) (v := ?_) rfl (by kernel_rfl) (by kernel_rfl) (by kernel_rfl) (fun _ _ _ h => h) (Or.inl ⟨by rfl, ?_⟩) (by assumption) ?_
    rotate_left
    ·intro w' hSw; (try dsimp only at hSw); go_simp; try with_reducible rfl
    try simp only [Act.put, sL]
    refine wpAnyH_take (i := 9) (v := ?_) rfl (by kernel_rfl) (by kernel_rfl) (by kernel_rfl) (fun _ _ _ h => h) (Or.inl ⟨by rfl, ?_⟩) (by assumption) ?_
    rotate_left
    ·intro w' hSw; (try dsimp only at hSw); go_simp; try with_reducible rfl
    try simp only [Act.put, sL]
    refine wpAnyH_take (i := 10) (v := ?_) rfl (by kernel_rfl) (by kernel_rfl) (by kernel_rfl) (fun _ _ _ h => h) (Or.inl ⟨by rfl, ?_⟩) (by assumption) ?_
    rotate_left
    ·intro w' hSw; (try dsimp only at hSw); go_simp; try with_reducible rfl
    try simp only [Act.put, sL]
    refine wpAnyH_take (i := 11) (v := ?_) rfl (by kernel_rfl) (by kernel_rfl) (by kernel_rfl) (fun _ _ _ h => h) (Or.inl ⟨by rfl, ?_⟩) (by assumption) ?_
    rotate_left
    ·intro w' hSw; (try dsimp only at hSw); go_simp; try with_reducible rfl
    try simp only [Act.put, sL]
    refine wpAnyH_take (i := 12) (v := ?_) rfl (by kernel_rfl) (by kernel_rfl) (by kernel_rfl) (fun _ _ _ h => h) (Or.inl ⟨by rfl, ?_⟩) (by assumption) ?_
    rotate_left
    ·intro w' hSw; (try dsimp only at hSw); go_simp; try with_reducible rfl
    try simp only [Act.put, sL]
    refine wpAnyH_take (i := 13) (v := ?_) rfl (by kernel_rfl) (by kernel_rfl) (by kernel_rfl) (fun _ _ _ h => h) (Or.inl ⟨by rfl, ?_⟩) (by assumption) ?_
    rotate_left
    ·intro w' hSw; (try dsimp only at hSw); go_simp; try with_reducible rfl
    try simp only [Act.put, sL]
    refine wpAnyH_take (i := 14) (v := ?_) rfl (by kernel_rfl) (by kernel_rfl) (by kernel_rfl) (fun _ _ _ h => h) (Or.inl ⟨by rfl, ?_⟩) (by assumption) ?_
    rotate_left
    ·intro w' hSw; (try dsimp only at hSw); go_simp; try with_reducible rfl
    try simp only [Act.put, sL]
    refine wpAnyH_take (i := 15) (v := ?_) rfl (by kernel_rfl) (by kernel_rfl) (by kernel_rfl) (fun _ _ _ h => h) (Or.inl ⟨by rfl, ?_⟩) (by assumption) ?_
    rotate_left
    ·intro w' hSw; (try dsimp only at hSw); go_simp; try with_reducible rfl
    try simp only [Act.put, sL]
    refine wpAnyH_take (i := 16) (v := ?_) rfl (by kernel_rfl) (by kernel_rfl) (by kernel_rfl) (fun _ _ _ h => h) (Or.inl ⟨by rfl, ?_⟩) (by assumption) ?_
    rotate_left
    ·intro w' hSw; (try dsimp only at hSw); go_simp; try with_reducible rfl
    try simp only [Act.put, sL]
    refine wpAnyH_ready (rs := [17]) (by kernel_rfl) (by simp) ?_
    refine AllReadyH.cons rfl (fun K hK => ?_) AllReadyH.nil
    go_simp
    refine (HMay.out _ hHeld.1).mono ?_
    rintro e x17 ⟨rfl, f17⟩
    try go_simp
    refine hK.out _ _ ?_ (fun hHeld => ?_)
    ·(try dsimp only); exact HSS.out _ (hHeld.1.trans f17 (fun _ _ h => h))
    clear hK K
    try simp only [Act.put, sL]
    refine wpAnyH_take (i := 18) (v := ?_) rfl (by kernel_rfl) (by kernel_rfl) (by kernel_rfl) (fun _ _ _ h => h) (Or.inl ⟨by rfl, ?_⟩) (by assumption) ?_
    rotate_left
    ·intro w' hSw; (try dsimp only at hSw); go_simp; try with_reducible rfl
    try simp only [Act.put, sL]
    refine wpAnyH_done (by kernel_rfl) ?_ _
    go_wp2_with fail
    go_meet
    exact ⟨by simp, hHeld.1⟩
 case rest =>
 obtain ⟨rfl, f14⟩ := hcut
 have HH14 := Lib.hid (HHf.out.quiet f14); have HFar14 := Lib.hid (HFar.out.keep f14)
 obtain ⟨tt, htt⟩ : ∃ t, t = (ta && (tb && tm)) := ⟨_, rfl⟩
 have HTt := Lib.hid htt
 rw [← htt]
 clear f14 htt hta hta2 htb
 go_upto_if 77 with fail
 go_cut [7] (fun s7 wx => ∃ (wb' : Nat) (b' : Bk), s7 = .pointer (some ⟨wb', 0, none⟩) ∧ RefAt wc wb' (.slice va bk.L.length vc) b' ∧ Ok b' ∧ b'.seats = a ∧ b'.codes = b ∧ b'.group = c ∧ b'.L.length = nn ∧ Wb.heap.size ≤ wb' ∧ wc = wx)
 case first =>
  cases tt with
  | true =>
   go_wp2_with fail
   go_meet
   have h1 := HTt.out.symm
   simp only [Bool.and_eq_true] at h1
   refine ⟨fb, { bk with next := nx2, clock := cl2 }, rfl, HFar14.out, ?_, HE.out.1, HE.out.2.1, HE.out.2.2, HNn.out.symm, HFb.out, rfl⟩
   exact may_ok_of ⟨HOk.out.s0, HOk.out.s1⟩ ⟨HOk.out.c0, HOk.out.c1⟩ Hnx2.out (by rw [← HFr.out, HTm.out]; exact h1.2.2)
  | false =>
   go_wp2_with fail
   go_meet
   exact ⟨wb, bk, rfl, HH14.out.ref, HOk.out, HE.out.1, HE.out.2.1, HE.out.2.2, HNn.out.symm, HH14.out.o1, rfl⟩
 case rest =>
 obtain ⟨wb', b', rfl, hR', hok', es', ec', eg', hl', hwb', rfl⟩ := hcut
 have HR' := Lib.hid hR'; have HOk' := Lib.hid hok'; have HWb' := Lib.hid hwb'; have HEg := Lib.hid eg'; have HEs := Lib.hid es'
 have hbk : b' = bkL a b c b'.next b'.clock b'.L := by
  obtain ⟨s1, s2, s3, s4, s5, s6⟩ := b'
  simp only at es' ec' eg'
  subst es'; subst ec'; subst eg'; rfl
 have HOf := Lib.hid (fun (V : World) (f : Fr (fun _ => False) wc V) => show Calls Tryz.prog 9 #[shV a b c, .int .u32 (b'.next : Int), .int .i64 b'.clock, .slice va nn vc] V fun e w' => ∃ p bb, e = .returned (.tuple #[.pointer (some ⟨bb, 0, none⟩), .int .i64 0]) ∧ BkP p bb b'.next b' b'.L b'.L w' ∧ (∀ x, p.own bb x → V.heap.size ≤ x) ∧ Fr (fun _ => False) V w' by
  have hrow : Bos V (.slice va nn vc) b'.L := by have := (HR'.out.keep f).row; rw [← HNn.out] at this; exact this
  have h1 := of_ok (w := V) (n := a) (m := b) (q := c) ⟨HA.out.1, by have := HA.out.2; omega⟩ ⟨HB.out.1, by have := HB.out.2; omega⟩ ⟨HC.out.1, by have := HC.out.2; omega⟩ (nx := b'.next) ⟨HOk'.out.n0, HOk'.out.n1⟩ (c := b'.clock) ⟨HOk'.out.t0, HOk'.out.t1⟩ hrow (by have := HOk'.out.few; rw [ec'] at this; exact this)
  refine h1.mono fun e w' h2 => ?_
  obtain ⟨f2, h3⟩ := h2
  have hof : ofGo (bkL a b c b'.next b'.clock []) 0 b'.L = true := by
   have h4 := of_own HOk'.out
   have h5 : ({ b' with L := [] } : Bk) = bkL a b c b'.next b'.clock [] := by rw [hbk]
   rw [h5] at h4; exact h4
  rw [if_pos hof] at h3
  obtain ⟨p, bb, he, hB, hn⟩ := h3
  exact ⟨p, bb, he, by rw [hbk]; exact hB, hn, f2⟩)
 have hc5 := hR'.c
 have HS16 := Lib.hid (fun (V : World) (f : Fr (fun _ => False) wc V) => (⟨f, (cell_of ((HH14.out.fr.trans f (fun _ _ h => h)).get HG6.out (fun h => h)) 0).trans rfl, (cell_of ((HH14.out.fr.trans f (fun _ _ h => h)).get HG6.out (fun h => h)) 1).trans rfl, (cell_of ((HH14.out.fr.trans f (fun _ _ h => h)).get HG6.out (fun h => h)) 2).trans rfl, (HR'.out.keep f).c.2.2.2.2.2.1, (HR'.out.keep f).c.2.2.2.2.2.2, by rw [HNn.out]; exact (HR'.out.keep f).c.2.2.2.2.1⟩ : Fr (fun _ => False) wc V ∧ V.cell? ⟨y6, 0, none⟩ = some (.int .i64 (a : Int)) ∧ V.cell? ⟨y6, 1, none⟩ = some (.int .i64 (b : Int)) ∧ V.cell? ⟨y6, 2, none⟩ = some (.int .i64 (c : Int)) ∧ V.cell? ⟨wb', 5, none⟩ = some (.int .u32 (b'.next : Int)) ∧ V.cell? ⟨wb', 6, none⟩ = some (.int .i64 b'.clock) ∧ V.cell? ⟨wb', 4, none⟩ = some (.slice va nn vc)))
 have HF16 := Lib.hid (F0.out.trans (Fb.out.trans HH14.out.fr (fun _ _ h => h)) (fun _ _ h => h))
 clear hR' hok' es' ec' eg' hl' hwb' hbk hc5
 go_upto_region 16 with fail
 refine wp_region_held_drew (S := fun w' => Fr (fun _ => False) wc w' ∧ w'.cell? ⟨y6, 0, none⟩ = some (.int .i64 (a : Int)) ∧ w'.cell? ⟨y6, 1, none⟩ = some (.int .i64 (b : Int)) ∧ w'.cell? ⟨y6, 2, none⟩ = some (.int .i64 (c : Int)) ∧ w'.cell? ⟨wb', 5, none⟩ = some (.int .u32 (b'.next : Int)) ∧ w'.cell? ⟨wb', 6, none⟩ = some (.int .i64 b'.clock) ∧ w'.cell? ⟨wb', 4, none⟩ = some (.slice va nn vc)) (by kernel_rfl) (by exact HS16.out _ (Fr.drew (Fr.refl _ _))) (fun hHeld => ?_)
 refine wpAnyH_take (i := 0) (v := ?_) rfl (by kernel_rfl) (by kernel_rfl) (by kernel_rfl) (fun _ _ _ h => h) (Or.inl ⟨by rfl, ?_⟩) (by assumption) ?_
 rotate_left
 ·intro w' hSw; (try dsimp only at hSw); go_simp; try with_reducible rfl
 try simp only [Act.put, List.getElem_toArray, List.getElem_cons_zero, List.setIfInBounds_toArray, List.set_cons_zero, List.set_cons_succ]
 refine wpAnyH_take (i := 1) (v := ?_) rfl (by kernel_rfl) (by kernel_rfl) (by kernel_rfl) (fun _ _ _ h => h) (Or.inl ⟨by rfl, ?_⟩) (by assumption) ?_
 rotate_left
 ·intro w' hSw; (try dsimp only at hSw); go_simp; try with_reducible rfl
 try simp only [Act.put, sL]
 refine wpAnyH_take (i := 2) (v := ?_) rfl (by kernel_rfl) (by kernel_rfl) (by kernel_rfl) (fun _ _ _ h => h) (Or.inl ⟨by rfl, ?_⟩) (by assumption) ?_
 rotate_left
 ·intro w' hSw; (try dsimp only at hSw); go_simp; try with_reducible rfl
 try simp only [Act.put, sL]
 refine wpAnyH_take (i := 3) (v := ?_) rfl (by kernel_rfl) (by kernel_rfl) (by kernel_rfl) (fun _ _ _ h => h) (Or.inl ⟨by rfl, ?_⟩) (by assumption) ?_
 rotate_left
 ·intro w' hSw; (try dsimp only at hSw); go_simp; try with_reducible rfl
 try simp only [Act.put, sL]
 refine wpAnyH_take (i := 4) (v := ?_) rfl (by kernel_rfl) (by kernel_rfl) (by kernel_rfl) (fun _ _ _ h => h) (Or.inl ⟨by rfl, ?_⟩) (by assumption) ?_
 rotate_left
 ·intro w' hSw; (try dsimp only at hSw); go_simp; try with_reducible rfl
 try simp only [Act.put, sL]
 refine wpAnyH_take (i := 5) (v := ?_) rfl (by kernel_rfl) (by kernel_rfl) (by kernel_rfl) (fun _ _ _ h => h) (Or.inl ⟨by rfl, ?_⟩) (by assumption) ?_
 rotate_left
 ·intro w' hSw; (try dsimp only at hSw); go_simp; try with_reducible rfl
 try simp only [Act.put, sL]
 refine wpAnyH_take (i := 6) (v := ?_) rfl (by kernel_rfl) (by kernel_rfl) (by kernel_rfl) (fun _ _ _ h => h) (Or.inl ⟨by rfl, ?_⟩) (by assumption) ?_
 rotate_left
 ·intro w' hSw; (try dsimp only at hSw); go_simp; try with_reducible rfl
 try simp only [Act.put, sL]
 refine wpAnyH_take (i := 7) (v := ?_) rfl (by kernel_rfl) (by kernel_rfl) (by kernel_rfl) (fun _ _ _ h => h) (Or.inl ⟨by rfl, ?_⟩) (by assumption) ?_
 rotate_left
 ·intro w' hSw; (try dsimp only at hSw); go_simp; try with_reducible rfl
 try simp only [Act.put, sL]
 refine wpAnyH_take (i := 8) (v := ?_) rfl (by kernel_rfl) (by kernel_rfl) (by kernel_rfl) (fun _ _ _ h => h) (Or.inl ⟨by rfl, ?_⟩) (by assumption) ?_
 rotate_left
 ·intro w' hSw; (try dsimp only at hSw); go_simp; try with_reducible rfl
 try simp only [Act.put, sL]
 refine wpAnyH_take (i := 9) (v := ?_) rfl (by kernel_rfl) (by kernel_rfl) (by kernel_rfl) (fun _ _ _ h => h) (Or.inl ⟨by rfl, ?_⟩) (by assumption) ?_
 rotate_left
 ·intro w' hSw; (try dsimp only at hSw); go_simp; try with_reducible rfl
 try simp only [Act.put, sL]
 refine wpAnyH_take (i := 10) (v := ?_) rfl (by kernel_rfl) (by kernel_rfl) (by kernel_rfl) (fun _ _ _ h => h) (Or.inl ⟨by rfl, ?_⟩) (by assumption) ?_
 rotate_left
 ·intro w' hSw; (try dsimp only at hSw); go_simp; try with_reducible rfl
 try simp only [Act.put, sL]
 refine wpAnyH_take (i := 11) (v := ?_) rfl (by kernel_rfl) (by kernel_rfl) (by kernel_rfl) (fun _ _ _ h => h) (Or.inl ⟨by rfl, ?_⟩) (by assumption) ?_
 rotate_left
 ·intro w' hSw; (try dsimp only at hSw); go_simp; try with_reducible rfl
 try simp only [Act.put, sL]
 refine wpAnyH_take (i := 12) (v := ?_) rfl (by kernel_rfl) (by kernel_rfl) (by kernel_rfl) (fun _ _ _ h => h) (Or.inl ⟨by rfl, ?_⟩) (by assumption) ?_
 rotate_left
 ·intro w' hSw; (try dsimp only at hSw); go_simp; try with_reducible rfl
 try simp only [Act.put, sL]
 refine wpAnyH_ready (rs := [13]) (by kernel_rfl) (by simp) ?_
 refine AllReadyH.cons rfl (fun K hK => ?_) AllReadyH.nil
 go_simp
 refine (HOf.out _ hHeld.1).mono ?_
 rintro e x16 ⟨p, bb, rfl, hBx, hnx, f16⟩
 try go_simp
 refine hK.out _ _ ?_ (fun hHeld => ?_)
 ·(try dsimp only); exact HS16.out _ (hHeld.1.trans f16 (fun _ _ h => h))
 clear hK K
 have HBx := Lib.hid hBx; have HNx := Lib.hid hnx
 clear hBx hnx f16
 try simp only [Act.put, sL]
 refine wpAnyH_take (i := 14) (v := ?_) rfl (by kernel_rfl) (by kernel_rfl) (by kernel_rfl) (fun _ _ _ h => h) (Or.inl ⟨by rfl, ?_⟩) (by assumption) ?_
 rotate_left
 ·intro w' hSw; (try dsimp only at hSw); go_simp; try with_reducible rfl
 try simp only [Act.put, sL]
 refine wpAnyH_take (i := 15) (v := ?_) rfl (by kernel_rfl) (by kernel_rfl) (by kernel_rfl) (fun _ _ _ h => h) (Or.inl ⟨by rfl, ?_⟩) (by assumption) ?_
 rotate_left
 ·intro w' hSw; (try dsimp only at hSw); go_simp; try with_reducible rfl
 try simp only [Act.put, sL]
 refine wpAnyH_take (i := 16) (v := ?_) rfl (by kernel_rfl) (by kernel_rfl) (by kernel_rfl) (fun _ _ _ h => h) (Or.inl ⟨by rfl, ?_⟩) (by assumption) ?_
 rotate_left
 ·intro w' hSw; (try dsimp only at hSw); go_simp; try with_reducible rfl
 try simp only [Act.put, sL]
 refine wpAnyH_take (i := 17) (v := ?_) rfl (by kernel_rfl) (by kernel_rfl) (by kernel_rfl) (fun _ _ _ h => h) (Or.inl ⟨by rfl, ?_⟩) (by assumption) ?_
 rotate_left
 ·intro w' hSw; (try dsimp only at hSw); go_simp; try with_reducible rfl
 try simp only [Act.put, sL]
 refine wpAnyH_take (i := 18) (v := ?_) rfl (by kernel_rfl) (by kernel_rfl) (by kernel_rfl) (fun _ _ _ h => h) (Or.inl ⟨by rfl, ?_⟩) (by assumption) ?_
 rotate_left
 ·intro w' hSw; (try dsimp only at hSw); go_simp; try with_reducible rfl
 try simp only [Act.put, sL]
 refine wpAnyH_done (by kernel_rfl) ?_ _
 go_wp2_with fail
 refine bodyPost_ret (v := .tuple #[.pointer (some ⟨bb, 0, none⟩), .pointer (some ⟨wb', 0, none⟩), .bool true]) ?_ rfl ⟨p, bb, wb', .slice va bk.L.length vc, b', rfl, HOk'.out, ⟨by rw [HEg.out]; exact HC.out.1, by rw [HEg.out]; have := HC.out.2; omega⟩, HBx.out, HR'.out.keep hHeld.1, fun x hx => ?_, ?_, fun x hx => ?_, HF16.out.trans hHeld.1 (fun _ _ h => h), by rw [HEs.out]; exact HA.out.2⟩
 ·simp [results, Tryz.f23, go_sem]
 ·have h1 := HNx.out x hx
  have h2 : wc.heap.size ≤ x := h1
  have h3 := HF16.out.size
  refine ⟨by omega, fun e => ?_, fun e => ?_⟩
  ·have := lt_of_block HR'.out.head; omega
  ·have := Row.lt HR'.out.row e; omega
 ·have := HWb'.out; have := Fb.out.size; have := F0.out.size; omega
 ·have := HH14.out.o2 x hx; have := Fb.out.size; have := F0.out.size; omega
end Go.Proofs.YtffnjnnmlfgngaaGreat.Cs
namespace Go.Proofs.YtffnjnnmlfgngaaGreat.Cs
open Go.RowKit Go.Shelf Go.Proofs.YtffnjnnmlfgngaaGreat.Bk
attribute [local go_sem] Oper.semAt_some
set_option maxRecDepth 100000 in
set_option maxHeartbeats 8000000 in
theorem has_ok (k : Int) (w : World) : Calls Tryz.prog 72 #[.int .i64 k] w fun e w' => e = .returned (.tuple #[.bool (hasId k), .bool (hasSeat k), .bool (hasTtl k)]) ∧ w = w' := by
 by_cases hk : k = 1 ∨ k = 2 ∨ k = 3 ∨ k = 4 ∨ k = 5 ∨ k = 6 ∨ k = 7
 ·rcases hk with rfl | rfl | rfl | rfl | rfl | rfl | rfl
  ·go_enter Tryz.func72, Tryz.ntmps72
   go_wp2_with fail
   refine bodyPost_ret (v := .tuple #[.bool (hasId 1), .bool (hasSeat 1), .bool (hasTtl 1)]) ?_ rfl ⟨rfl, rfl⟩
   simp [results, Tryz.f72, go_sem, hasId, hasSeat, hasTtl]
  ·go_enter Tryz.func72, Tryz.ntmps72
   go_wp2_with fail
   refine bodyPost_ret (v := .tuple #[.bool (hasId 2), .bool (hasSeat 2), .bool (hasTtl 2)]) ?_ rfl ⟨rfl, rfl⟩
   simp [results, Tryz.f72, go_sem, hasId, hasSeat, hasTtl]
  ·go_enter Tryz.func72, Tryz.ntmps72
   go_wp2_with fail
   refine bodyPost_ret (v := .tuple #[.bool (hasId 3), .bool (hasSeat 3), .bool (hasTtl 3)]) ?_ rfl ⟨rfl, rfl⟩
   simp [results, Tryz.f72, go_sem, hasId, hasSeat, hasTtl]
  ·go_enter Tryz.func72, Tryz.ntmps72
   go_wp2_with fail
   refine bodyPost_ret (v := .tuple #[.bool (hasId 4), .bool (hasSeat 4), .bool (hasTtl 4)]) ?_ rfl ⟨rfl, rfl⟩
   simp [results, Tryz.f72, go_sem, hasId, hasSeat, hasTtl]
  ·go_enter Tryz.func72, Tryz.ntmps72
   go_wp2_with fail
   refine bodyPost_ret (v := .tuple #[.bool (hasId 5), .bool (hasSeat 5), .bool (hasTtl 5)]) ?_ rfl ⟨rfl, rfl⟩
   simp [results, Tryz.f72, go_sem, hasId, hasSeat, hasTtl]
  ·go_enter Tryz.func72, Tryz.ntmps72
   go_wp2_with fail
   refine bodyPost_ret (v := .tuple #[.bool (hasId 6), .bool (hasSeat 6), .bool (hasTtl 6)]) ?_ rfl ⟨rfl, rfl⟩
   simp [results, Tryz.f72, go_sem, hasId, hasSeat, hasTtl]
  ·go_enter Tryz.func72, Tryz.ntmps72
   go_wp2_with fail
   refine bodyPost_ret (v := .tuple #[.bool (hasId 7), .bool (hasSeat 7), .bool (hasTtl 7)]) ?_ rfl ⟨rfl, rfl⟩
   simp [results, Tryz.f72, go_sem, hasId, hasSeat, hasTtl]
 ·have b1 : (k == 1) = false := by rw [beq_eq_false_iff_ne]; omega
  have b2 : (k == 2) = false := by rw [beq_eq_false_iff_ne]; omega
  have b3 : (k == 3) = false := by rw [beq_eq_false_iff_ne]; omega
  have b4 : (k == 4) = false := by rw [beq_eq_false_iff_ne]; omega
  have b5 : (k == 5) = false := by rw [beq_eq_false_iff_ne]; omega
  have b6 : (k == 6) = false := by rw [beq_eq_false_iff_ne]; omega
  have b7 : (k == 7) = false := by rw [beq_eq_false_iff_ne]; omega
  have HK := Lib.hid (show hasId k = false ∧ hasSeat k = false ∧ hasTtl k = false by unfold hasId hasSeat hasTtl; refine ⟨?_, ?_, ?_⟩ <;> (rw [decide_eq_false_iff_not]; omega))
  clear hk
  go_enter Tryz.func72, Tryz.ntmps72
  go_wp2_with fail
  refine bodyPost_ret (v := .tuple #[.bool false, .bool false, .bool false]) ?_ rfl ⟨by rw [HK.out.1, HK.out.2.1, HK.out.2.2], rfl⟩
  simp [results, Tryz.f72, go_sem]
structure Askd where
 kind : Int
 id : Int
 seat : Int
 ttl : Int
 tag : Nat
abbrev akV (a : Askd) : Value := .agg #[.int .i64 a.kind, .int .i64 a.id, .int .i64 a.seat, .int .i64 a.ttl, .int .u32 (a.tag : Int)]
structure AskOk (a : Askd) : Prop where
 k : I64 a.kind
 i : I64 a.id
 s : I64 a.seat
 t : I64 a.ttl
 g : a.tag < 4294967296
def ReqP (w : World) (e : Ending) (w' : World) : Prop := ∃ q : Rq, e = .returned (rqV q) ∧ q.id < 4294967296 ∧ q.tag < 4294967296 ∧ Fr (fun _ => False) w w'
set_option maxRecDepth 100000 in
set_option maxHeartbeats 8000000 in
theorem request_ok (a : Askd) (ha : AskOk a) (w : World) : Calls Tryz.prog 31 #[akV a] w (ReqP w) := by
 obtain ⟨kd, hkd⟩ : ∃ kd, kd = a.kind % 10 := ⟨_, rfl⟩
 obtain ⟨ki, hki⟩ : ∃ ki, ki = 1 + kd := ⟨_, rfl⟩
 have hk10 : 0 ≤ kd ∧ kd < 10 := by omega
 obtain ⟨iv, hiv⟩ : ∃ iv : Nat, a.id % 12 = (iv : Int) := ⟨(a.id % 12).toNat, by omega⟩
 have hiv2 : iv < 12 := by omega
 obtain ⟨sv, hsv⟩ : ∃ sv, sv = a.seat % 14 := ⟨_, rfl⟩
 obtain ⟨tv, htv⟩ : ∃ tv, tv = a.ttl % 9 := ⟨_, rfl⟩
 have HP1 := Lib.hid (fun (V : World) => show Calls Tryz.prog 15 #[.int .i64 a.kind, .int .i64 10] V fun e w' => e = .returned (.int .i64 kd) ∧ V = w' by rw [hkd]; exact pick_ok a.kind 10 V ha.k.1 ha.k.2 (by omega) (by omega))
 have HP2 := Lib.hid (fun (V : World) => show Calls Tryz.prog 15 #[.int .i64 a.id, .int .i64 12] V fun e w' => e = .returned (.int .i64 (iv : Int)) ∧ V = w' by rw [← hiv]; exact pick_ok a.id 12 V ha.i.1 ha.i.2 (by omega) (by omega))
 have HP3 := Lib.hid (fun (V : World) => show Calls Tryz.prog 15 #[.int .i64 a.seat, .int .i64 14] V fun e w' => e = .returned (.int .i64 sv) ∧ V = w' by rw [hsv]; exact pick_ok a.seat 14 V ha.s.1 ha.s.2 (by omega) (by omega))
 have HP4 := Lib.hid (fun (V : World) => show Calls Tryz.prog 15 #[.int .i64 a.ttl, .int .i64 9] V fun e w' => e = .returned (.int .i64 tv) ∧ V = w' by rw [htv]; exact pick_ok a.ttl 9 V ha.t.1 ha.t.2 (by omega) (by omega))
 have hw1 : wrap64 ki = ki := by unfold wrap64; omega
 have hw1' : IntKind.i64.wrap ki = ki := by clear hw1; rw [IntKind.wrap_i64]; omega
 have k1 : 1 + kd = ki := hki.symm
 have i2 : IntKind.u32.wrap (iv : Int) = (iv : Int) := by rw [IntKind.wrap_u32]; omega
 have HIv := Lib.hid (show iv < 4294967296 by omega); have HTg := Lib.hid ha.g
 have Hbits := Lib.hid (And.intro hw1 (And.intro k1 (And.intro i2 hw1')))
 obtain ⟨W1, hW1⟩ : ∃ W, W = w.alloc (.cells #[.int .i64 a.kind, .int .i64 a.id, .int .i64 a.seat, .int .i64 a.ttl, .int .u32 (a.tag : Int)] 84) := ⟨_, rfl⟩
 obtain ⟨W, hW⟩ : ∃ W, W = W1.alloc (.cells #[.int .i64 0, .int .u32 0, .int .u32 0, .int .i64 0, .int .i64 0] 75) := ⟨_, rfl⟩
 obtain ⟨z, hz⟩ : ∃ z, z = w.heap.size := ⟨_, rfl⟩
 have s1 : W1.heap.size = z + 1 := by rw [hW1, hz]; simp
 have a1 : Fr (fun _ => False) w W1 := by rw [hW1]; exact Fr.alloc (Fr.refl _ _) _
 have a2 : Fr (fun _ => False) W1 W := by rw [hW]; exact Fr.alloc (Fr.refl _ _) _
 have f0 : Fr (fun _ => False) w W := a1.trans a2 (fun _ _ h => h)
 have hg : W.heap[z]? = some (.cells #[.int .i64 a.kind, .int .i64 a.id, .int .i64 a.seat, .int .i64 a.ttl, .int .u32 (a.tag : Int)] 84 (0, 0)) := a2.get (show W1.heap[z]? = _ by rw [hW1, hz]; exact heap_alloc_at _ _) (fun h => h)
 have hg1 : W.heap[z + 1]? = some (rqO ⟨0, 0, 0, 0, 0⟩) := show W.heap[z + 1]? = _ by rw [hW, ← s1]; exact heap_alloc_at _ _
 have HG := Lib.hid (And.intro hg hg1); have F0 := Lib.hid f0; have Hz := Lib.hid hz
 have HSS := Lib.hid (fun (V : World) (f : Fr (fun _ => False) W V) => (⟨f, (cell_of (f.get hg (fun h => h)) 0).trans rfl, (cell_of (f.get hg (fun h => h)) 4).trans rfl⟩ : Fr (fun _ => False) W V ∧ V.cell? ⟨z, 0, none⟩ = some (.int .i64 a.kind) ∧ V.cell? ⟨z, 4, none⟩ = some (.int .u32 (a.tag : Int))))
 have HW1 := Lib.hid hW1; have HW := Lib.hid hW; have Hs1 := Lib.hid s1
 clear hkd hki hk10 hiv hiv2 hsv htv ha f0 hg hg1 a1 a2 s1 hW1 hW hz hw1 hw1' k1 i2
 go_enter Tryz.func31, Tryz.ntmps31
 go_upto_region 1 with fail
 rw [← HW1.out, ← HW.out, ← Hz.out]
 try rw [Hs1.out]
 obtain ⟨hw1, k1, i2, hw1'⟩ := Hbits.out
 go_cut [3] (fun s3 wx => ∃ y, s3 = .pointer (some ⟨y, 0, none⟩) ∧ W.heap.size ≤ y ∧ wx.heap[y]? = some (rqO ⟨ki, a.tag, 0, 0, 0⟩) ∧ Fr (fun _ => False) W wx)
 case first =>
  refine wp_region_held_drew (S := fun w' => Fr (fun _ => False) W w' ∧ w'.cell? ⟨z, 0, none⟩ = some (.int .i64 a.kind) ∧ w'.cell? ⟨z, 4, none⟩ = some (.int .u32 (a.tag : Int))) (by kernel_rfl) (by exact HSS.out _ (Fr.drew (Fr.refl _ _))) (fun hHeld => ?_)
  refine wpAnyH_take (i := 0) (v := ?_) rfl (by kernel_rfl) (by kernel_rfl) (by kernel_rfl) (fun _ _ _ h => h) (Or.inl ⟨by rfl, ?_⟩) (by assumption) ?_
  rotate_left
  ·intro w' hSw; (try dsimp only at hSw); go_simp; try with_reducible rfl
  try simp only [Act.put, List.getElem_toArray, List.getElem_cons_zero, List.setIfInBounds_toArray, List.set_cons_zero, List.set_cons_succ]
  refine wpAnyH_take (i := 1) (v := ?_) rfl (by kernel_rfl) (by kernel_rfl) (by kernel_rfl) (fun _ _ _ h => h) (Or.inl ⟨by rfl, ?_⟩) (by assumption) ?_
  rotate_left
  ·intro w' hSw; (try dsimp only at hSw); go_simp; try with_reducible rfl
  try simp only [Act.put, sL]
  refine wpAnyH_take (i := 4) (v := ?_) rfl (by kernel_rfl) (by kernel_rfl) (by kernel_rfl) (fun _ _ _ h => h) (Or.inl ⟨by rfl, ?_⟩) (by assumption) ?_
  rotate_left
  ·intro w' hSw; (try dsimp only at hSw); go_simp; try with_reducible rfl
  try simp only [Act.put, sL]
  refine wpAnyH_take (i := 5) (v := ?_) rfl (by kernel_rfl) (by kernel_rfl) (by kernel_rfl) (fun _ _ _ h => h) (Or.inl ⟨by rfl, ?_⟩) (by assumption) ?_
  rotate_left
  ·intro w' hSw; (try dsimp only at hSw); go_simp; try with_reducible rfl
  try simp only [Act.put, sL]
  refine wpAnyH_ready (rs := [2, 7]) (by kernel_rfl) (by simp) ?_
  refine AllReadyH.cons rfl (fun K hK => ?_) (AllReadyH.cons rfl (fun K hK => ?_) AllReadyH.nil)
  ·go_simp
   refine (HP1.out _).mono ?_
   rintro e x2 ⟨rfl, rfl⟩
   try go_simp
   refine hK.out _ _ ?_ (fun hHeld => ?_)
   ·(try dsimp only); exact hHeld
   clear hK K
   try simp only [Act.put, sL]
   refine wpAnyH_take (i := 3) (v := ?_) rfl (by kernel_rfl) (by kernel_rfl) (by kernel_rfl) (fun _ _ _ h => h) (Or.inl ⟨by rfl, ?_⟩) (by assumption) ?_
   rotate_left
   ·intro w' hSw; (try dsimp only at hSw); go_simp; try with_reducible rfl
   try simp only [Act.put, sL]
   refine wpAnyH_take (i := 6) (v := ?_) rfl (by kernel_rfl) (by kernel_rfl) (by kernel_rfl) (fun _ _ _ h => h) (Or.inl ⟨by rfl, ?_⟩) (by assumption) ?_
   rotate_left
   ·intro w' hSw; (try dsimp only at hSw); go_simp; try with_reducible rfl
   try simp only [Act.put, sL]
   refine wpAnyH_ready (rs := [7]) (by kernel_rfl) (by simp) ?_
   refine AllReadyH.cons rfl (fun K hK => ?_) AllReadyH.nil
   go_simp
   skip
   try go_simp
   refine hK.out _ _ ?_ (fun hHeld => ?_)
   ·(try dsimp only); exact HSS.out _ (Fr.drew (Fr.alloc (Fr.refl (fun _ => False) W) _))
   clear hK K
   try simp only [Act.put, sL]
   refine wpAnyH_ready (rs := [8]) (by kernel_rfl) (by simp) ?_
   refine AllReadyH.cons rfl (fun K hK => ?_) AllReadyH.nil
   go_simp
   skip
   try go_simp
   refine hK.out _ _ ?_ (fun hHeld => ?_)
   ·(try dsimp only); exact HSS.out _ (Fr.drew (Fr.alloc (Fr.refl (fun _ => False) W) _))
   clear hK K
   try simp only [Act.put, sL]
   refine wpAnyH_done (by kernel_rfl) ?_ _
   go_wp2_with fail
   go_meet
   exact ⟨W.heap.size, rfl, Nat.le_refl _, heap_alloc_at _ _, Fr.drew (Fr.alloc (Fr.refl (fun _ => False) W) _)⟩
  ·go_simp
   skip
   try go_simp
   refine hK.out _ _ ?_ (fun hHeld => ?_)
   ·(try dsimp only); exact HSS.out _ (Fr.drew (Fr.alloc (Fr.refl (fun _ => False) W) _))
   clear hK K
   try simp only [Act.put, sL]
   refine wpAnyH_ready (rs := [2]) (by kernel_rfl) (by simp) ?_
   refine AllReadyH.cons rfl (fun K hK => ?_) AllReadyH.nil
   go_simp
   refine (HP1.out _).mono ?_
   rintro e x2 ⟨rfl, rfl⟩
   try go_simp
   refine hK.out _ _ ?_ (fun hHeld => ?_)
   ·(try dsimp only); exact hHeld
   clear hK K
   try simp only [Act.put, sL]
   refine wpAnyH_take (i := 3) (v := ?_) rfl (by kernel_rfl) (by kernel_rfl) (by kernel_rfl) (fun _ _ _ h => h) (Or.inl ⟨by rfl, ?_⟩) (by assumption) ?_
   rotate_left
   ·intro w' hSw; (try dsimp only at hSw); go_simp; try with_reducible rfl
   try simp only [Act.put, sL]
   refine wpAnyH_take (i := 6) (v := ?_) rfl (by kernel_rfl) (by kernel_rfl) (by kernel_rfl) (fun _ _ _ h => h) (Or.inl ⟨by rfl, ?_⟩) (by assumption) ?_
   rotate_left
   ·intro w' hSw; (try dsimp only at hSw); go_simp; try with_reducible rfl
   try simp only [Act.put, sL]
   refine wpAnyH_ready (rs := [8]) (by kernel_rfl) (by simp) ?_
   refine AllReadyH.cons rfl (fun K hK => ?_) AllReadyH.nil
   go_simp
   skip
   try go_simp
   refine hK.out _ _ ?_ (fun hHeld => ?_)
   ·(try dsimp only); exact HSS.out _ (Fr.drew (Fr.alloc (Fr.refl (fun _ => False) W) _))
   clear hK K
   try simp only [Act.put, sL]
   refine wpAnyH_done (by kernel_rfl) ?_ _
   go_wp2_with fail
   go_meet
   exact ⟨W.heap.size, rfl, Nat.le_refl _, heap_alloc_at _ _, Fr.drew (Fr.alloc (Fr.refl (fun _ => False) W) _)⟩
 case rest =>
 obtain ⟨y, rfl, hyn, hy, f1⟩ := hcut
 have HY := Lib.hid hy; have F1 := Lib.hid f1; have HYn := Lib.hid hyn
 clear hy f1 hyn hw1 hw1' k1
 have y0 := (cell_of HY.out 0).trans (show _ = some (Value.int .i64 ki) from rfl)
 obtain ⟨c0, hc0⟩ : ∃ c, hasId ki = c := ⟨_, rfl⟩
 obtain ⟨c1, hc1⟩ : ∃ c, hasSeat ki = c := ⟨_, rfl⟩
 obtain ⟨c2, hc2⟩ : ∃ c, hasTtl ki = c := ⟨_, rfl⟩
 have HHas := Lib.hid (has_ok ki wc)
 rw [hc0, hc1, hc2] at HHas
 clear hc0 hc1 hc2
 go_upto_region 2 with fail
 go_wp2_with fail
 refine HHas.out.mono ?_
 rintro e x2 ⟨rfl, rfl⟩
 clear y0
 go_upto_if 21 with fail
 go_cut [3] (fun s3 wx => s3 = .pointer (some ⟨y, 0, none⟩) ∧ ∃ id : Nat, id < 4294967296 ∧ wx.heap[y]? = some (rqO ⟨ki, a.tag, id, 0, 0⟩) ∧ Fr (fun _ => False) W wx)
 case first =>
  cases c0 with
  | false =>
   go_wp2_with fail
   go_meet
   exact ⟨rfl, 0, by decide, HY.out, F1.out⟩
  | true =>
   have gz := F1.out.get HG.out.1 (fun h => h)
   have d1 := (cell_of gz 1).trans (show _ = some (Value.int .i64 a.id) from rfl)
   have p2 := (cell_of HY.out 2).trans (show _ = some (Value.int .u32 0) from rfl)
   have v2 := free_of HY.out 2
   clear gz
   go_wp2_with fail
   refine (HP2.out _).mono ?_
   rintro e x3 ⟨rfl, rfl⟩
   go_wp2_with fail
   go_meet
   exact ⟨rfl, iv, HIv.out, (setCell_blk (o := 2) HY.out _).trans rfl, ((F1.out.mono (fun _ _ h => h.elim) : Fr (fun q => W.heap.size ≤ q) W wc).setCell (p := ⟨y, 2, none⟩) (fun _ => HYn.out) _).toNew⟩
 case rest =>
 obtain ⟨rfl, id, hid, hy, f1⟩ := hcut
 have HId := Lib.hid hid; have HY2 := Lib.hid hy; have F2 := Lib.hid f1
 clear hid hy f1
 go_upto_if 27 with fail
 go_cut [3] (fun s3 wx => s3 = .pointer (some ⟨y, 0, none⟩) ∧ ∃ st : Int, wx.heap[y]? = some (rqO ⟨ki, a.tag, id, st, 0⟩) ∧ Fr (fun _ => False) W wx)
 case first =>
  cases c1 with
  | false =>
   go_wp2_with fail
   go_meet
   exact ⟨rfl, 0, HY2.out, F2.out⟩
  | true =>
   have gz := F2.out.get HG.out.1 (fun h => h)
   have d1 := (cell_of gz 2).trans (show _ = some (Value.int .i64 a.seat) from rfl)
   have p2 := (cell_of HY2.out 3).trans (show _ = some (Value.int .i64 0) from rfl)
   have v2 := free_of HY2.out 3
   clear gz
   go_wp2_with fail
   refine (HP3.out _).mono ?_
   rintro e x3 ⟨rfl, rfl⟩
   go_wp2_with fail
   go_meet
   exact ⟨rfl, sv, (setCell_blk (o := 3) HY2.out _).trans rfl, ((F2.out.mono (fun _ _ h => h.elim) : Fr (fun q => W.heap.size ≤ q) W wc).setCell (p := ⟨y, 3, none⟩) (fun _ => HYn.out) _).toNew⟩
 case rest =>
 obtain ⟨rfl, st, hy, f1⟩ := hcut
 have HY3 := Lib.hid hy; have F3 := Lib.hid f1
 clear hy f1
 go_upto_if 32 with fail
 go_cut [3] (fun s3 wx => s3 = .pointer (some ⟨y, 0, none⟩) ∧ ∃ tl : Int, wx.heap[y]? = some (rqO ⟨ki, a.tag, id, st, tl⟩) ∧ Fr (fun _ => False) W wx)
 case first =>
  cases c2 with
  | false =>
   go_wp2_with fail
   go_meet
   exact ⟨rfl, 0, HY3.out, F3.out⟩
  | true =>
   have gz := F3.out.get HG.out.1 (fun h => h)
   have d1 := (cell_of gz 3).trans (show _ = some (Value.int .i64 a.ttl) from rfl)
   have p2 := (cell_of HY3.out 4).trans (show _ = some (Value.int .i64 0) from rfl)
   have v2 := free_of HY3.out 4
   clear gz
   go_wp2_with fail
   refine (HP4.out _).mono ?_
   rintro e x3 ⟨rfl, rfl⟩
   go_wp2_with fail
   go_meet
   exact ⟨rfl, tv, (setCell_blk (o := 4) HY3.out _).trans rfl, ((F3.out.mono (fun _ _ h => h.elim) : Fr (fun q => W.heap.size ≤ q) W wc).setCell (p := ⟨y, 4, none⟩) (fun _ => HYn.out) _).toNew⟩
 case rest =>
 obtain ⟨rfl, tl, hy, f1⟩ := hcut
 obtain ⟨q, hq⟩ : ∃ q : Rq, q = ⟨ki, a.tag, id, st, tl⟩ := ⟨_, rfl⟩
 rw [← hq] at hy
 have Hq := Lib.hid (show q.id < 4294967296 ∧ q.tag < 4294967296 by rw [hq]; exact ⟨HId.out, HTg.out⟩)
 have hz1 := f1.get HG.out.2 (fun h => h)
 have hfin := setCell_blk (o := 4) (setCell_blk (o := 3) (setCell_blk (o := 2) (setCell_blk (o := 1) (setCell_blk (o := 0) hz1 (.int .i64 q.kind)) (.int .u32 (q.tag : Int))) (.int .u32 (q.id : Int))) (.int .i64 q.seat)) (.int .i64 q.ttl)
 have HEs := Lib.hid (And.intro ((cell_of hfin 0).trans (show _ = some (Value.int .i64 q.kind) from rfl)) (And.intro ((cell_of hfin 1).trans (show _ = some (Value.int .u32 (q.tag : Int)) from rfl)) (And.intro ((cell_of hfin 2).trans (show _ = some (Value.int .u32 (q.id : Int)) from rfl)) (And.intro ((cell_of hfin 3).trans (show _ = some (Value.int .i64 q.seat) from rfl)) ((cell_of hfin 4).trans (show _ = some (Value.int .i64 q.ttl) from rfl))))))
 have FF := Lib.hid (show Fr (fun _ => False) w (((((wc.setCell ⟨z + 1, 0, none⟩ (.int .i64 q.kind)).setCell ⟨z + 1, 1, none⟩ (.int .u32 (q.tag : Int))).setCell ⟨z + 1, 2, none⟩ (.int .u32 (q.id : Int))).setCell ⟨z + 1, 3, none⟩ (.int .i64 q.seat)).setCell ⟨z + 1, 4, none⟩ (.int .i64 q.ttl)) from
  ((((((((F0.out.trans f1 (fun _ _ h => h)).mono (fun _ _ h => h.elim) : Fr (fun q => w.heap.size ≤ q) w wc).setCell (p := ⟨z + 1, 0, none⟩) (fun _ => by have := Hz.out; show w.heap.size ≤ z + 1; omega) _).setCell (p := ⟨z + 1, 1, none⟩) (fun _ => by have := Hz.out; show w.heap.size ≤ z + 1; omega) _).setCell (p := ⟨z + 1, 2, none⟩) (fun _ => by have := Hz.out; show w.heap.size ≤ z + 1; omega) _).setCell (p := ⟨z + 1, 3, none⟩) (fun _ => by have := Hz.out; show w.heap.size ≤ z + 1; omega) _).setCell (p := ⟨z + 1, 4, none⟩) (fun _ => by have := Hz.out; show w.heap.size ≤ z + 1; omega) _)).toNew)
 have p0 := (cell_of hy 0).trans (show _ = some (Value.int .i64 q.kind) from rfl)
 have p1 := (cell_of hy 1).trans (show _ = some (Value.int .u32 (q.tag : Int)) from rfl)
 have p2 := (cell_of hy 2).trans (show _ = some (Value.int .u32 (q.id : Int)) from rfl)
 have p3 := (cell_of hy 3).trans (show _ = some (Value.int .i64 q.seat) from rfl)
 have p4 := (cell_of hy 4).trans (show _ = some (Value.int .i64 q.ttl) from rfl)
 have s0 := (cell_of hz1 0).trans (show _ = some (Value.int .i64 0) from rfl)
 have t0 := free_of hz1 0
 have s1 := (cell_of hz1 1).trans (show _ = some (Value.int .u32 0) from rfl)
 have t1 := free_of hz1 1
 have s2 := (cell_of hz1 2).trans (show _ = some (Value.int .u32 0) from rfl)
 have t2 := free_of hz1 2
 have s3 := (cell_of hz1 3).trans (show _ = some (Value.int .i64 0) from rfl)
 have t3 := free_of hz1 3
 have s4 := (cell_of hz1 4).trans (show _ = some (Value.int .i64 0) from rfl)
 have t4 := free_of hz1 4
 clear hy hz1 hfin f1 hq i2
 go_wp2_with fail
 refine bodyPost_ret (v := rqV q) ?_ rfl ⟨q, rfl, Hq.out.1, Hq.out.2, FF.out⟩
 simp [results, Tryz.f31, go_sem, HEs.out.1, HEs.out.2.1, HEs.out.2.2.1, HEs.out.2.2.2.1, HEs.out.2.2.2.2]
end Go.Proofs.YtffnjnnmlfgngaaGreat.Cs
namespace Go.Proofs.YtffnjnnmlfgngaaGreat.Cs
open Go.RowKit Go.Shelf Go.Proofs.YtffnjnnmlfgngaaGreat.Bk
attribute [local go_sem] Oper.semAt_some
def rqE (q : Rq) : Nat := if rqOk q = true then 0 else 200
theorem rq_bad {q : Rq} (h : q.kind < 1 ∨ 10 < q.kind ∨ q.seat < 0 ∨ 65535 < q.seat ∨ q.ttl < 0) : rqE q = 200 := by
 unfold rqE
 cases e : rqOk q with
 | false => rfl
 | true => have := rqOk_kind e; have := rqOk_seat e; have := rqOk_ttl e; omega
theorem rq_id {q : Rq} (h : hasId q.kind = false) (hn : q.id ≠ 0) : rqE q = 200 := by unfold rqE rqOk; simp [h, hn]
theorem rq_seat {q : Rq} (h : hasSeat q.kind = false) (hn : q.seat ≠ 0) : rqE q = 200 := by unfold rqE rqOk; simp [h, hn]
theorem rq_ttl {q : Rq} (h : hasTtl q.kind = false) (hn : q.ttl ≠ 0) : rqE q = 200 := by unfold rqE rqOk; simp [h, hn]
theorem rq_good {q : Rq} (h : ¬ q.kind < 1 ∧ ¬ 10 < q.kind ∧ ¬ q.seat < 0 ∧ ¬ 65535 < q.seat ∧ ¬ q.ttl < 0) (i : hasId q.kind = true ∨ q.id = 0) (s : hasSeat q.kind = true ∨ q.seat = 0) (l : hasTtl q.kind = true ∨ q.ttl = 0) : rqE q = 0 := by
 unfold rqE rqOk
 rw [decide_eq_true (show 1 ≤ q.kind ∧ q.kind ≤ 10 by omega), decide_eq_true (show 0 ≤ q.seat by omega), decide_eq_true (show q.seat ≤ 65535 by omega), decide_eq_true (show 0 ≤ q.ttl by omega)]
 simp [i, s, l]
set_option maxRecDepth 100000 in
set_option maxHeartbeats 4000000 in
theorem rcheck_ok (q : Rq) (w : World) : Calls Tryz.prog 64 #[rqV q] w fun e w' => e = .returned (.int .i64 (rqE q : Nat)) ∧ Fr (fun _ => False) w w' := by
 obtain ⟨W, hW⟩ : ∃ W, W = w.alloc (rqC q) := ⟨_, rfl⟩
 obtain ⟨z, hz⟩ : ∃ z, z = w.heap.size := ⟨_, rfl⟩
 have f0 : Fr (fun _ => False) w W := by rw [hW]; exact Fr.alloc (Fr.refl _ _) _
 have hg : W.heap[z]? = some (rqO q) := by rw [hW, hz]; exact heap_alloc_at _ _
 have q0 := (cell_of hg 0).trans (show _ = some (Value.int .i64 q.kind) from rfl)
 have q1 := (cell_of hg 1).trans (show _ = some (Value.int .u32 (q.tag : Int)) from rfl)
 have q2 := (cell_of hg 2).trans (show _ = some (Value.int .u32 (q.id : Int)) from rfl)
 have q3 := (cell_of hg 3).trans (show _ = some (Value.int .i64 q.seat) from rfl)
 have q4 := (cell_of hg 4).trans (show _ = some (Value.int .i64 q.ttl) from rfl)
 obtain ⟨r, hr⟩ : ∃ r, r = rqE q := ⟨_, rfl⟩
 rw [← hr]
 obtain ⟨bi, hbi⟩ : ∃ x, x = hasId q.kind := ⟨_, rfl⟩
 obtain ⟨bs, hbs⟩ : ∃ x, x = hasSeat q.kind := ⟨_, rfl⟩
 obtain ⟨bt, hbt⟩ : ∃ x, x = hasTtl q.kind := ⟨_, rfl⟩
 have HH := Lib.hid (fun (V : World) => show Calls Tryz.prog 72 #[.int .i64 q.kind] V fun e w' => e = .returned (.tuple #[.bool bi, .bool bs, .bool bt]) ∧ V = w' by rw [hbi, hbs, hbt]; exact has_ok q.kind V)
 have F0 := Lib.hid f0; have HR := Lib.hid hr; have Hi := Lib.hid hbi; have Hs := Lib.hid hbs; have Ht := Lib.hid hbt
 clear f0 hr hbi hbs hbt hg
 go_enter Tryz.func64, Tryz.ntmps64
 go_upto_region 1 with fail
 rw [← hW, ← hz]
 clear hW hz
 go_wp2_with fail
 refine (HH.out _).mono ?_
 rintro e x ⟨rfl, rfl⟩
 go_upto_region 2 with fail
 by_cases h : q.kind < 1
 ·have H1 := Lib.hid h
  have b0 : decide (q.kind < 1) = true := decide_eq_true h
  clear h
  have E9 := Lib.hid (show r = 200 by rw [HR.out]; exact rq_bad (.inl H1.out))
  go_wp2_with fail
  go_ret
  exact ⟨by rw [E9.out]; rfl, F0.out⟩
 ·have H1 := Lib.hid h
  have b0 : decide (q.kind < 1) = false := decide_eq_false h
  clear h
  by_cases h : 10 < q.kind
  ·have H2 := Lib.hid h
   have b1 : decide (10 < q.kind) = true := decide_eq_true h
   clear h
   have E9 := Lib.hid (show r = 200 by rw [HR.out]; exact rq_bad (.inr (.inl H2.out)))
   go_wp2_with fail
   go_ret
   exact ⟨by rw [E9.out]; rfl, F0.out⟩
  ·have H2 := Lib.hid h
   have b1 : decide (10 < q.kind) = false := decide_eq_false h
   clear h
   by_cases h : q.seat < 0
   ·have H3 := Lib.hid h
    have b2 : decide (q.seat < 0) = true := decide_eq_true h
    clear h
    have E9 := Lib.hid (show r = 200 by rw [HR.out]; exact rq_bad (.inr (.inr (.inl H3.out))))
    go_wp2_with fail
    go_ret
    exact ⟨by rw [E9.out]; rfl, F0.out⟩
   ·have H3 := Lib.hid h
    have b2 : decide (q.seat < 0) = false := decide_eq_false h
    clear h
    by_cases h : 65535 < q.seat
    ·have H4 := Lib.hid h
     have b3 : decide (65535 < q.seat) = true := decide_eq_true h
     clear h
     have E9 := Lib.hid (show r = 200 by rw [HR.out]; exact rq_bad (.inr (.inr (.inr (.inl H4.out)))))
     go_wp2_with fail
     go_ret
     exact ⟨by rw [E9.out]; rfl, F0.out⟩
    ·have H4 := Lib.hid h
     have b3 : decide (65535 < q.seat) = false := decide_eq_false h
     clear h
     by_cases h : q.ttl < 0
     ·have H5 := Lib.hid h
      have b4 : decide (q.ttl < 0) = true := decide_eq_true h
      clear h
      have E9 := Lib.hid (show r = 200 by rw [HR.out]; exact rq_bad (.inr (.inr (.inr (.inr (H5.out))))))
      go_wp2_with fail
      go_ret
      exact ⟨by rw [E9.out]; rfl, F0.out⟩
     ·have H5 := Lib.hid h
      have b4 : decide (q.ttl < 0) = false := decide_eq_false h
      clear h
      go_upto_region 4 with fail
      clear b0 b1 b2 b3 b4
      cases bi with
      | true =>
       have X1 := Lib.hid (show hasId q.kind = true ∨ q.id = 0 from .inl Hi.out.symm)
       cases bs with
       | true =>
        have X2 := Lib.hid (show hasSeat q.kind = true ∨ q.seat = 0 from .inl Hs.out.symm)
        cases bt with
        | true =>
         have X3 := Lib.hid (show hasTtl q.kind = true ∨ q.ttl = 0 from .inl Ht.out.symm)
         have E9 := Lib.hid (show r = 0 by rw [HR.out]; exact rq_good ⟨H1.out, H2.out, H3.out, H4.out, H5.out⟩ X1.out X2.out X3.out)
         go_wp2_with fail
         go_ret
         exact ⟨by rw [E9.out]; rfl, F0.out⟩
        | false =>
         by_cases h9 : q.ttl = 0
         ·have X3 := Lib.hid (show hasTtl q.kind = true ∨ q.ttl = 0 from .inr h9)
          have n2 : (q.ttl != 0) = false := by rw [h9]; rfl
          clear h9
          have E9 := Lib.hid (show r = 0 by rw [HR.out]; exact rq_good ⟨H1.out, H2.out, H3.out, H4.out, H5.out⟩ X1.out X2.out X3.out)
          go_wp2_with fail
          go_ret
          exact ⟨by rw [E9.out]; rfl, F0.out⟩
         ·have h8 := Lib.hid h9
          have n2 : (q.ttl != 0) = true := by rw [bne_iff_ne]; omega
          clear h9
          have E9 := Lib.hid (show r = 200 by rw [HR.out]; exact rq_ttl Ht.out.symm h8.out)
          go_wp2_with fail
          go_ret
          exact ⟨by rw [E9.out]; rfl, F0.out⟩
       | false =>
        by_cases h9 : q.seat = 0
        ·have X2 := Lib.hid (show hasSeat q.kind = true ∨ q.seat = 0 from .inr h9)
         have n1 : (q.seat != 0) = false := by rw [h9]; rfl
         clear h9
         cases bt with
         | true =>
          have X3 := Lib.hid (show hasTtl q.kind = true ∨ q.ttl = 0 from .inl Ht.out.symm)
          have E9 := Lib.hid (show r = 0 by rw [HR.out]; exact rq_good ⟨H1.out, H2.out, H3.out, H4.out, H5.out⟩ X1.out X2.out X3.out)
          go_wp2_with fail
          go_ret
          exact ⟨by rw [E9.out]; rfl, F0.out⟩
         | false =>
          by_cases h9 : q.ttl = 0
          ·have X3 := Lib.hid (show hasTtl q.kind = true ∨ q.ttl = 0 from .inr h9)
           have n2 : (q.ttl != 0) = false := by rw [h9]; rfl
           clear h9
           have E9 := Lib.hid (show r = 0 by rw [HR.out]; exact rq_good ⟨H1.out, H2.out, H3.out, H4.out, H5.out⟩ X1.out X2.out X3.out)
           go_wp2_with fail
           go_ret
           exact ⟨by rw [E9.out]; rfl, F0.out⟩
          ·have h8 := Lib.hid h9
           have n2 : (q.ttl != 0) = true := by rw [bne_iff_ne]; omega
           clear h9
           have E9 := Lib.hid (show r = 200 by rw [HR.out]; exact rq_ttl Ht.out.symm h8.out)
           go_wp2_with fail
           go_ret
           exact ⟨by rw [E9.out]; rfl, F0.out⟩
        ·have h8 := Lib.hid h9
         have n1 : (q.seat != 0) = true := by rw [bne_iff_ne]; omega
         clear h9
         have E9 := Lib.hid (show r = 200 by rw [HR.out]; exact rq_seat Hs.out.symm h8.out)
         go_wp2_with fail
         go_ret
         exact ⟨by rw [E9.out]; rfl, F0.out⟩
      | false =>
       by_cases h9 : q.id = 0
       ·have X1 := Lib.hid (show hasId q.kind = true ∨ q.id = 0 from .inr h9)
        have n0 : ((q.id : Int) != 0) = false := by rw [h9]; rfl
        clear h9
        cases bs with
        | true =>
         have X2 := Lib.hid (show hasSeat q.kind = true ∨ q.seat = 0 from .inl Hs.out.symm)
         cases bt with
         | true =>
          have X3 := Lib.hid (show hasTtl q.kind = true ∨ q.ttl = 0 from .inl Ht.out.symm)
          have E9 := Lib.hid (show r = 0 by rw [HR.out]; exact rq_good ⟨H1.out, H2.out, H3.out, H4.out, H5.out⟩ X1.out X2.out X3.out)
          go_wp2_with fail
          go_ret
          exact ⟨by rw [E9.out]; rfl, F0.out⟩
         | false =>
          by_cases h9 : q.ttl = 0
          ·have X3 := Lib.hid (show hasTtl q.kind = true ∨ q.ttl = 0 from .inr h9)
           have n2 : (q.ttl != 0) = false := by rw [h9]; rfl
           clear h9
           have E9 := Lib.hid (show r = 0 by rw [HR.out]; exact rq_good ⟨H1.out, H2.out, H3.out, H4.out, H5.out⟩ X1.out X2.out X3.out)
           go_wp2_with fail
           go_ret
           exact ⟨by rw [E9.out]; rfl, F0.out⟩
          ·have h8 := Lib.hid h9
           have n2 : (q.ttl != 0) = true := by rw [bne_iff_ne]; omega
           clear h9
           have E9 := Lib.hid (show r = 200 by rw [HR.out]; exact rq_ttl Ht.out.symm h8.out)
           go_wp2_with fail
           go_ret
           exact ⟨by rw [E9.out]; rfl, F0.out⟩
        | false =>
         by_cases h9 : q.seat = 0
         ·have X2 := Lib.hid (show hasSeat q.kind = true ∨ q.seat = 0 from .inr h9)
          have n1 : (q.seat != 0) = false := by rw [h9]; rfl
          clear h9
          cases bt with
          | true =>
           have X3 := Lib.hid (show hasTtl q.kind = true ∨ q.ttl = 0 from .inl Ht.out.symm)
           have E9 := Lib.hid (show r = 0 by rw [HR.out]; exact rq_good ⟨H1.out, H2.out, H3.out, H4.out, H5.out⟩ X1.out X2.out X3.out)
           go_wp2_with fail
           go_ret
           exact ⟨by rw [E9.out]; rfl, F0.out⟩
          | false =>
           by_cases h9 : q.ttl = 0
           ·have X3 := Lib.hid (show hasTtl q.kind = true ∨ q.ttl = 0 from .inr h9)
            have n2 : (q.ttl != 0) = false := by rw [h9]; rfl
            clear h9
            have E9 := Lib.hid (show r = 0 by rw [HR.out]; exact rq_good ⟨H1.out, H2.out, H3.out, H4.out, H5.out⟩ X1.out X2.out X3.out)
            go_wp2_with fail
            go_ret
            exact ⟨by rw [E9.out]; rfl, F0.out⟩
           ·have h8 := Lib.hid h9
            have n2 : (q.ttl != 0) = true := by rw [bne_iff_ne]; omega
            clear h9
            have E9 := Lib.hid (show r = 200 by rw [HR.out]; exact rq_ttl Ht.out.symm h8.out)
            go_wp2_with fail
            go_ret
            exact ⟨by rw [E9.out]; rfl, F0.out⟩
         ·have h8 := Lib.hid h9
          have n1 : (q.seat != 0) = true := by rw [bne_iff_ne]; omega
          clear h9
          have E9 := Lib.hid (show r = 200 by rw [HR.out]; exact rq_seat Hs.out.symm h8.out)
          go_wp2_with fail
          go_ret
          exact ⟨by rw [E9.out]; rfl, F0.out⟩
       ·have h8 := Lib.hid h9
        have n0 : ((q.id : Int) != 0) = true := by rw [bne_iff_ne]; omega
        clear h9
        have E9 := Lib.hid (show r = 200 by rw [HR.out]; exact rq_id Hi.out.symm h8.out)
        go_wp2_with fail
        go_ret
        exact ⟨by rw [E9.out]; rfl, F0.out⟩
set_option maxRecDepth 100000 in
set_option maxHeartbeats 4000000 in
theorem rchanges_ok (k : Int) (w : World) : Calls Tryz.prog 65 #[.int .i64 k] w fun e w' => e = .returned (.bool (isCh k)) ∧ w = w' := by
 by_cases hk : k = 1 ∨ k = 2 ∨ k = 3 ∨ k = 4 ∨ k = 7
 ·rcases hk with rfl | rfl | rfl | rfl | rfl
  ·go_enter Tryz.func65, Tryz.ntmps65
   go_wp2_with fail
   go_ret
   exact ⟨rfl, rfl⟩
  ·go_enter Tryz.func65, Tryz.ntmps65
   go_wp2_with fail
   go_ret
   exact ⟨rfl, rfl⟩
  ·go_enter Tryz.func65, Tryz.ntmps65
   go_wp2_with fail
   go_ret
   exact ⟨rfl, rfl⟩
  ·go_enter Tryz.func65, Tryz.ntmps65
   go_wp2_with fail
   go_ret
   exact ⟨rfl, rfl⟩
  ·go_enter Tryz.func65, Tryz.ntmps65
   go_wp2_with fail
   go_ret
   exact ⟨rfl, rfl⟩
 ·have b1 : (k == 1) = false := by rw [beq_eq_false_iff_ne]; omega
  have b2 : (k == 2) = false := by rw [beq_eq_false_iff_ne]; omega
  have b3 : (k == 3) = false := by rw [beq_eq_false_iff_ne]; omega
  have b4 : (k == 4) = false := by rw [beq_eq_false_iff_ne]; omega
  have b7 : (k == 7) = false := by rw [beq_eq_false_iff_ne]; omega
  have HK := Lib.hid (show isCh k = false by unfold isCh; rw [decide_eq_false_iff_not]; omega)
  clear hk
  go_enter Tryz.func65, Tryz.ntmps65
  go_wp2_with fail
  go_ret
  exact ⟨by rw [HK.out]; rfl, rfl⟩
set_option maxRecDepth 100000 in
set_option maxHeartbeats 4000000 in
theorem rrec_ok {w : World} {wb : Nat} {v : Value} {b : Bk} (h : RefAt w wb v b) (q : Rq) : Calls Tryz.prog 66 #[.pointer (some ⟨wb, 0, none⟩), rqV q] w fun e w' => e = .returned (rcV (recOf b q)) ∧ Fr (fun _ => False) w w' := by
 obtain ⟨W1, hW1⟩ : ∃ W, W = w.alloc (rqC q) := ⟨_, rfl⟩
 obtain ⟨W, hW⟩ : ∃ W, W = W1.alloc rcZ := ⟨_, rfl⟩
 obtain ⟨z, hz⟩ : ∃ z, z = w.heap.size := ⟨_, rfl⟩
 have s1 : W1.heap.size = z + 1 := by rw [hW1, hz]; simp
 have a1 : Fr (fun _ => False) w W1 := by rw [hW1]; exact Fr.alloc (Fr.refl _ _) _
 have a2 : Fr (fun _ => False) W1 W := by rw [hW]; exact Fr.alloc (Fr.refl _ _) _
 have f0 : Fr (fun _ => False) w W := a1.trans a2 (fun _ _ h => h)
 have hg : W.heap[z]? = some (rqO q) := a2.get (show W1.heap[z]? = _ by rw [hW1, hz]; exact heap_alloc_at _ _) (fun h => h)
 have hg1 : W.heap[z + 1]? = some (.cells #[.int .i64 0, .int .u32 0, .int .i64 0, .int .i64 0, .int .i64 0] 46 (0, 0)) := show W.heap[z + 1]? = _ by rw [hW, ← s1]; exact heap_alloc_at _ _
 have q0 := (cell_of hg 0).trans (show _ = some (Value.int .i64 q.kind) from rfl)
 have q1 := (cell_of hg 1).trans (show _ = some (Value.int .u32 (q.tag : Int)) from rfl)
 have q2 := (cell_of hg 2).trans (show _ = some (Value.int .u32 (q.id : Int)) from rfl)
 have q3 := (cell_of hg 3).trans (show _ = some (Value.int .i64 q.seat) from rfl)
 have q4 := (cell_of hg 4).trans (show _ = some (Value.int .i64 q.ttl) from rfl)
 have y0 := free_of hg1 0
 have y1 := free_of hg1 1
 have y2 := free_of hg1 2
 have y3 := free_of hg1 3
 have y4 := free_of hg1 4
 have r0 := (cell_of hg1 0).trans (show _ = some (Value.int .i64 0) from rfl)
 have r1 := (cell_of hg1 1).trans (show _ = some (Value.int .u32 0) from rfl)
 have r2 := (cell_of hg1 2).trans (show _ = some (Value.int .i64 0) from rfl)
 have r3 := (cell_of hg1 3).trans (show _ = some (Value.int .i64 0) from rfl)
 have r4 := (cell_of hg1 4).trans (show _ = some (Value.int .i64 0) from rfl)
 obtain ⟨-, -, -, -, -, b5, b6⟩ := (h.keep f0).c
 obtain ⟨c, hc⟩ : ∃ c, wrap64 (b.clock + q.ttl) = c := ⟨_, rfl⟩
 have hc' : IntKind.i64.wrap (b.clock + q.ttl) = c := by rw [← hc, IntKind.wrap_i64]; unfold wrap64; omega
 have HC := Lib.hid hc
 have HFin := Lib.hid (fun (k : Int) (i : Nat) (s u c : Int) => rc_cells5 (r := ⟨k, i, s, u, c⟩) (recW_at hg1 k (i : Int) s u c))
 have FF := Lib.hid (fun (k : Int) (i : Nat) (s u c : Int) => (f0.trans (recW_fr W (z + 1) k (i : Int) s u c) (fun y hy e => by omega) : Fr (fun _ => False) w (recW W (z + 1) k (i : Int) s u c)))
 clear h f0 hg hg1 a1 a2
 go_enter Tryz.func66, Tryz.ntmps66
 go_upto_region 1 with fail
 rw [← hW1, ← hW, ← hz]
 try rw [s1]
 clear hW1 hW hz s1
 by_cases hk : q.kind = 1
 ·have k1 : (q.kind == 1) = true := by rw [hk]; rfl
  have k2 : (q.kind == 2) = false := by rw [hk]; rfl
  have k3 : (q.kind == 3) = false := by rw [hk]; rfl
  have k4 : (q.kind == 4) = false := by rw [hk]; rfl
  have HK := Lib.hid hk
  clear hk
  go_upto_region 3 with fail
  go_still_tail 14, (by kernel_rfl)
  go_wp2_with fail
  have HF2 := HFin.out (1) (b.next) (q.seat) (c) (0)
  refine bodyPost_ret (v := rcV ⟨1, b.next, q.seat, c, 0⟩) ?_ rfl ⟨by unfold recOf; rw [if_pos HK.out]; rw [HC.out], (FF.out (1) (b.next) (q.seat) (c) (0)).drew⟩
  obtain ⟨e0, e1, e2, e3, e4⟩ := HF2
  simp [results, Tryz.f66, go_sem, e0, e1, e2, e3, e4]
 ·by_cases hk : q.kind = 2
  ·have k1 : (q.kind == 1) = false := by rw [hk]; rfl
   have k2 : (q.kind == 2) = true := by rw [hk]; rfl
   have k3 : (q.kind == 3) = false := by rw [hk]; rfl
   have k4 : (q.kind == 4) = false := by rw [hk]; rfl
   have HK := Lib.hid hk
   clear hk
   go_wp2_with fail
   have HF2 := HFin.out (2) (q.id) (0) (0) (0)
   refine bodyPost_ret (v := rcV ⟨2, q.id, 0, 0, 0⟩) ?_ rfl ⟨by unfold recOf; rw [if_neg (by have := HK.out; omega), if_pos HK.out], (FF.out (2) (q.id) (0) (0) (0))⟩
   obtain ⟨e0, e1, e2, e3, e4⟩ := HF2
   simp [results, Tryz.f66, go_sem, e0, e1, e2, e3, e4]
  ·by_cases hk : q.kind = 3
   ·have k1 : (q.kind == 1) = false := by rw [hk]; rfl
    have k2 : (q.kind == 2) = false := by rw [hk]; rfl
    have k3 : (q.kind == 3) = true := by rw [hk]; rfl
    have k4 : (q.kind == 4) = false := by rw [hk]; rfl
    have HK := Lib.hid hk
    clear hk
    go_wp2_with fail
    have HF2 := HFin.out (3) (q.id) (0) (0) (0)
    refine bodyPost_ret (v := rcV ⟨3, q.id, 0, 0, 0⟩) ?_ rfl ⟨by unfold recOf; rw [if_neg (by have := HK.out; omega), if_neg (by have := HK.out; omega), if_pos HK.out], (FF.out (3) (q.id) (0) (0) (0))⟩
    obtain ⟨e0, e1, e2, e3, e4⟩ := HF2
    simp [results, Tryz.f66, go_sem, e0, e1, e2, e3, e4]
   ·by_cases hk : q.kind = 4
    ·have k1 : (q.kind == 1) = false := by rw [hk]; rfl
     have k2 : (q.kind == 2) = false := by rw [hk]; rfl
     have k3 : (q.kind == 3) = false := by rw [hk]; rfl
     have k4 : (q.kind == 4) = true := by rw [hk]; rfl
     have HK := Lib.hid hk
     clear hk
     go_wp2_with fail
     have HF2 := HFin.out (4) (q.id) (q.seat) (0) (0)
     refine bodyPost_ret (v := rcV ⟨4, q.id, q.seat, 0, 0⟩) ?_ rfl ⟨by unfold recOf; rw [if_neg (by have := HK.out; omega), if_neg (by have := HK.out; omega), if_neg (by have := HK.out; omega), if_pos HK.out], (FF.out (4) (q.id) (q.seat) (0) (0))⟩
     obtain ⟨e0, e1, e2, e3, e4⟩ := HF2
     simp [results, Tryz.f66, go_sem, e0, e1, e2, e3, e4]
    ·have hk : q.kind ≠ 1 ∧ q.kind ≠ 2 ∧ q.kind ≠ 3 ∧ q.kind ≠ 4 := ⟨by assumption, by assumption, by assumption, by assumption⟩
     have k1 : (q.kind == 1) = false := by rw [beq_eq_false_iff_ne]; omega
     have k2 : (q.kind == 2) = false := by rw [beq_eq_false_iff_ne]; omega
     have k3 : (q.kind == 3) = false := by rw [beq_eq_false_iff_ne]; omega
     have k4 : (q.kind == 4) = false := by rw [beq_eq_false_iff_ne]; omega
     have HK := Lib.hid hk
     clear hk
     go_upto_region 10 with fail
     go_still_tail 8, (by kernel_rfl)
     go_wp2_with fail
     have HF2 := HFin.out (5) (0) (0) (0) (c)
     refine bodyPost_ret (v := rcV ⟨5, 0, 0, 0, c⟩) ?_ rfl ⟨by unfold recOf; rw [if_neg HK.out.1, if_neg HK.out.2.1, if_neg HK.out.2.2.1, if_neg HK.out.2.2.2, HC.out], (FF.out (5) (0) (0) (0) (c)).drew⟩
     obtain ⟨e0, e1, e2, e3, e4⟩ := HF2
     have z0 : ((0 : Nat) : Int) = 0 := rfl
     simp only [z0] at e0 e1 e2 e3 e4
     simp [results, Tryz.f66, go_sem, e0, e1, e2, e3, e4]
end Go.Proofs.YtffnjnnmlfgngaaGreat.Cs
namespace Go.Proofs.YtffnjnnmlfgngaaGreat.Cs
open Go.RowKit Go.Shelf Go.Proofs.YtffnjnnmlfgngaaGreat.Bk
attribute [local go_sem] Oper.semAt_some
/-- The table, but for the last line of each kind. -/
def refP (b : Bk) (q : Rq) : Nat :=
 if q.kind = 1 then firstE [eSeat b q, eTtl q, eClock b q, eTaken b q, eFull b]
 else if q.kind = 2 then firstE [eKnown b q] else if q.kind = 3 then firstE [eKnown b q]
 else if q.kind = 4 then firstE [eKnown b q, eSeat b q, eTaken b q] else firstE [eTtl q, eClock b q]
theorem eSeat_y {b : Bk} {q : Rq} (h : (b.seats : Int) ≤ q.seat) : eSeat b q = 140 := if_pos h
theorem eSeat_n {b : Bk} {q : Rq} (h : ¬ (b.seats : Int) ≤ q.seat) : eSeat b q = 0 := if_neg h
theorem eTtl_y {q : Rq} (h : decide (q.ttl < 1 ∨ 1073741824 < q.ttl) = true) : eTtl q = 2 := if_pos (of_decide_eq_true h)
theorem eTtl_n {q : Rq} (h : decide (q.ttl < 1 ∨ 1073741824 < q.ttl) = false) : eTtl q = 0 := if_neg (of_decide_eq_false h)
theorem eClock_y {b : Bk} {q : Rq} {c : Int} (hc : wrap64 (b.clock + q.ttl) = c) (h : 1099511627776 < c) : eClock b q = 172 := if_pos (by rw [hc]; exact h)
theorem eClock_n {b : Bk} {q : Rq} {c : Int} (hc : wrap64 (b.clock + q.ttl) = c) (h : ¬ 1099511627776 < c) : eClock b q = 0 := if_neg (by rw [hc]; exact h)
theorem eTaken_n {b : Bk} {q : Rq} (h : (bSeat b.L q.seat).isSome = false) : eTaken b q = 0 := by
 unfold eTaken
 cases e : bSeat b.L q.seat with
 | none => rfl
 | some x => rw [e] at h; simp at h
theorem eTaken_s {b : Bk} {q : Rq} (h : (optB (bSeat b.L q.seat)).1 = q.id) : eTaken b q = 0 := by
 unfold eTaken
 cases e : bSeat b.L q.seat with
 | none => rfl
 | some x => rw [e] at h; exact if_pos h
theorem eTaken_y {b : Bk} {q : Rq} (h : (bSeat b.L q.seat).isSome = true) (hn : (optB (bSeat b.L q.seat)).1 ≠ q.id) : eTaken b q = 170 := by
 unfold eTaken
 cases e : bSeat b.L q.seat with
 | none => rw [e] at h; simp at h
 | some x => rw [e] at hn; exact if_neg hn
theorem optB_id {b : Bk} (hr : Raw b) {s : Int} (h : (bSeat b.L s).isSome = true) : (optB (bSeat b.L s)).1 ≠ 0 := by
 cases e : bSeat b.L s with
 | none => rw [e] at h; simp at h
 | some x => have h1 := bSeat_id e; have h2 := (hr.ids x h1.2).1; show x.1 ≠ 0; omega
theorem eKnown_y {b : Bk} {q : Rq} (h : (bFind b.L q.id).isSome = true) : eKnown b q = 0 := if_pos h
theorem eKnown_n {b : Bk} {q : Rq} (h : (bFind b.L q.id).isSome = false) : eKnown b q = 171 := if_neg (by rw [h]; decide)
theorem eFull_y {b : Bk} (h : b.codes ≤ b.L.length ∨ b.next = 4294967295) : eFull b = 6 := if_pos h
theorem eFull_n {b : Bk} (h : ¬ (b.codes ≤ b.L.length ∨ b.next = 4294967295)) : eFull b = 0 := if_neg h
theorem refP_1 (b : Bk) {q : Rq} (h : q.kind = 1) : refP b q = firstE [eSeat b q, eTtl q, eClock b q, eTaken b q, eFull b] := if_pos h
theorem refP_2 (b : Bk) {q : Rq} (h : q.kind = 2 ∨ q.kind = 3) : refP b q = firstE [eKnown b q] := by
 unfold refP
 rcases h with h | h <;> rw [h] <;> rfl
theorem refP_4 (b : Bk) {q : Rq} (h : q.kind = 4) : refP b q = firstE [eKnown b q, eSeat b q, eTaken b q] := by unfold refP; rw [h]; rfl
theorem refP_7 (b : Bk) {q : Rq} (h : q.kind = 7) : refP b q = firstE [eTtl q, eClock b q] := by unfold refP; rw [h]; rfl
set_option maxRecDepth 100000 in
set_option maxHeartbeats 8000000 in
theorem rref_ok {w : World} {wb : Nat} {v : Value} {b : Bk} (h : RefAt w wb v b) (hraw : Raw b) (q : Rq) (hok : rqOk q = true) (hch : isCh q.kind = true) : Calls Tryz.prog 67 #[.pointer (some ⟨wb, 0, none⟩), rqV q] w fun e w' => e = .returned (.int .i64 (refP b q : Nat)) ∧ Fr (fun _ => False) w w' := by
 obtain ⟨W, hW⟩ : ∃ W, W = w.alloc (rqC q) := ⟨_, rfl⟩
 obtain ⟨z, hz⟩ : ∃ z, z = w.heap.size := ⟨_, rfl⟩
 have f0 : Fr (fun _ => False) w W := by rw [hW]; exact Fr.alloc (Fr.refl _ _) _
 have hg : W.heap[z]? = some (rqO q) := by rw [hW, hz]; exact heap_alloc_at _ _
 have q0 := (cell_of hg 0).trans (show _ = some (Value.int .i64 q.kind) from rfl)
 have q1 := (cell_of hg 1).trans (show _ = some (Value.int .u32 (q.tag : Int)) from rfl)
 have q2 := (cell_of hg 2).trans (show _ = some (Value.int .u32 (q.id : Int)) from rfl)
 have q3 := (cell_of hg 3).trans (show _ = some (Value.int .i64 q.seat) from rfl)
 have q4 := (cell_of hg 4).trans (show _ = some (Value.int .i64 q.ttl) from rfl)
 have hl : b.L.length ≤ 100000 := by have := hraw.few; have := hraw.c1; omega
 obtain ⟨r, hr⟩ : ∃ r, r = refP b q := ⟨_, rfl⟩
 rw [← hr]
 obtain ⟨kn, hkn⟩ : ∃ x, x = (bFind b.L q.id).isSome := ⟨_, rfl⟩
 obtain ⟨xk, hxk⟩ : ∃ x, x = optB (bFind b.L q.id) := ⟨_, rfl⟩
 obtain ⟨st, hst⟩ : ∃ x, x = (bSeat b.L q.seat).isSome := ⟨_, rfl⟩
 obtain ⟨xs, hxs⟩ : ∃ x, x = optB (bSeat b.L q.seat) := ⟨_, rfl⟩
 obtain ⟨odd, hodd⟩ : ∃ x, x = decide (q.ttl < 1 ∨ 1073741824 < q.ttl) := ⟨_, rfl⟩
 obtain ⟨c, hc⟩ : ∃ c, wrap64 (b.clock + q.ttl) = c := ⟨_, rfl⟩
 have hc' : IntKind.i64.wrap (b.clock + q.ttl) = c := by rw [← hc, IntKind.wrap_i64]; unfold wrap64; omega
 have Hh := Lib.hid (fun (V : World) (f : Fr (fun _ => False) w V) => show Calls Tryz.prog 70 #[.pointer (some ⟨wb, 0, none⟩), .int .u32 (q.id : Int)] V fun e w' => e = .returned (.tuple #[boV xk, .bool kn]) ∧ Fr (fun _ => False) V w' by rw [hkn, hxk]; exact rhas_ok (h.keep f) hraw q.id)
 have Ho := Lib.hid (fun (V : World) (f : Fr (fun _ => False) w V) => show Calls Tryz.prog 71 #[.pointer (some ⟨wb, 0, none⟩), .int .i64 q.seat] V fun e w' => e = .returned (.tuple #[boV xs, .bool st]) ∧ Fr (fun _ => False) V w' by rw [hst, hxs]; exact ron_ok (h.keep f) hraw q.seat)
 have HRf := Lib.hid h; have HRaw := Lib.hid hraw; have HR := Lib.hid hr; have HKn := Lib.hid hkn; have HSt := Lib.hid hst; have HXs := Lib.hid hxs; have HOdd := Lib.hid hodd; have HCl := Lib.hid hc; have HOk := Lib.hid hok; have HCh := Lib.hid hch
 have F0 := Lib.hid f0; have HG := Lib.hid hg
 clear h hraw hr hkn hxk hst hxs hodd hok hch f0 hg hl
 go_enter Tryz.func67, Tryz.ntmps67
 go_upto_region 1 with fail
 rw [← hW, ← hz]
 clear hW hz
 go_wp2_with fail
 refine (Hh.out W F0.out).mono ?_
 rintro e x1 ⟨rfl, f1⟩
 have F1 := Lib.hid (F0.out.trans f1 (fun _ _ h => h)); have HG1 := Lib.hid (f1.get HG.out (fun h => h))
 clear f1 q0 q1 q2 q3 q4
 go_upto_region 2 with fail
 obtain ⟨W2, hW2⟩ : ∃ W, W = x1.alloc (.cells #[.int .u32 (xk.1 : Int), .int .i64 xk.2.1, .int .i64 xk.2.2] 68) := ⟨_, rfl⟩
 obtain ⟨z2, hz2⟩ : ∃ z, z = x1.heap.size := ⟨_, rfl⟩
 have f2 : Fr (fun _ => False) x1 W2 := by rw [hW2]; exact Fr.alloc (Fr.refl _ _) _
 rw [← hW2, ← hz2]
 have F2 := Lib.hid (F1.out.trans f2 (fun _ _ h => h)); have HG2 := Lib.hid (f2.get HG1.out (fun h => h))
 clear f2 hW2 hz2
 have q0 := (cell_of HG2.out 0).trans (show _ = some (Value.int .i64 q.kind) from rfl)
 have q1 := (cell_of HG2.out 1).trans (show _ = some (Value.int .u32 (q.tag : Int)) from rfl)
 have q2 := (cell_of HG2.out 2).trans (show _ = some (Value.int .u32 (q.id : Int)) from rfl)
 have q3 := (cell_of HG2.out 3).trans (show _ = some (Value.int .i64 q.seat) from rfl)
 have q4 := (cell_of HG2.out 4).trans (show _ = some (Value.int .i64 q.ttl) from rfl)
 go_wp2_with fail
 refine (Ho.out W2 F2.out).mono ?_
 rintro e x3 ⟨rfl, f3⟩
 have F3 := Lib.hid (F2.out.trans f3 (fun _ _ h => h)); have HG3 := Lib.hid (f3.get HG2.out (fun h => h))
 clear f3 q0 q1 q2 q3 q4
 go_upto_region 3 with fail
 obtain ⟨W4, hW4⟩ : ∃ W, W = x3.alloc (.cells #[.int .u32 (xs.1 : Int), .int .i64 xs.2.1, .int .i64 xs.2.2] 68) := ⟨_, rfl⟩
 obtain ⟨z4, hz4⟩ : ∃ z, z = x3.heap.size := ⟨_, rfl⟩
 have f4 : Fr (fun _ => False) x3 W4 := by rw [hW4]; exact Fr.alloc (Fr.refl _ _) _
 have hs4 : W4.heap[z4]? = some (.cells #[.int .u32 (xs.1 : Int), .int .i64 xs.2.1, .int .i64 xs.2.2] 68 (0, 0)) := by rw [hW4, hz4]; exact heap_alloc_at _ _
 rw [← hW4, ← hz4]
 have F4 := Lib.hid (F3.out.trans f4 (fun _ _ h => h)); have HG4 := Lib.hid (f4.get HG3.out (fun h => h)); have HS4 := Lib.hid hs4
 clear f4 hW4 hz4 hs4
 have q0 := (cell_of HG4.out 0).trans (show _ = some (Value.int .i64 q.kind) from rfl)
 have q1 := (cell_of HG4.out 1).trans (show _ = some (Value.int .u32 (q.tag : Int)) from rfl)
 have q2 := (cell_of HG4.out 2).trans (show _ = some (Value.int .u32 (q.id : Int)) from rfl)
 have q3 := (cell_of HG4.out 3).trans (show _ = some (Value.int .i64 q.seat) from rfl)
 have q4 := (cell_of HG4.out 4).trans (show _ = some (Value.int .i64 q.ttl) from rfl)
 have s0 := (cell_of HS4.out 0).trans (show _ = some (Value.int .u32 (xs.1 : Int)) from rfl)
 obtain ⟨-, b1, b2, -, b4, b5, b6⟩ := (HRf.out.keep F4.out).c
 obtain ⟨la, lc, hv⟩ := bos_slice HRf.out.row
 rw [hv] at b4
 obtain ⟨n, hn⟩ : ∃ n, n = b.L.length := ⟨_, rfl⟩
 rw [← hn] at b4
 have HN := Lib.hid hn
 clear hv hn
 go_cut [9] (fun s wx => s = .bool odd ∧ W4 = wx)
 case first =>
  by_cases o1 : q.ttl < 1
  ·have e1 : decide (q.ttl < 1) = true := decide_eq_true o1
   have E9 := Lib.hid (show odd = true by rw [HOdd.out]; exact decide_eq_true (.inl o1))
   clear o1
   go_wp2_with fail
   go_meet
   exact ⟨by rw [E9.out], rfl⟩
  ·have e1 : decide (q.ttl < 1) = false := decide_eq_false o1
   by_cases o2 : 1073741824 < q.ttl
   ·have e2 : decide (1073741824 < q.ttl) = true := decide_eq_true o2
    have E9 := Lib.hid (show odd = true by rw [HOdd.out]; exact decide_eq_true (.inr o2))
    clear o1 o2
    go_wp2_with fail
    go_meet
    exact ⟨by rw [E9.out], rfl⟩
   ·have e2 : decide (1073741824 < q.ttl) = false := decide_eq_false o2
    have E9 := Lib.hid (show odd = false by rw [HOdd.out]; exact decide_eq_false (by omega))
    clear o1 o2
    go_wp2_with fail
    go_meet
    exact ⟨by rw [E9.out], rfl⟩
 case rest =>
 obtain ⟨rfl, rfl⟩ := hcut
 rcases (by have := HCh.out; unfold isCh at this; simpa using this : q.kind = 1 ∨ q.kind = 2 ∨ q.kind = 3 ∨ q.kind = 4 ∨ q.kind = 7) with hk | hk | hk | hk | hk
 ·have k1 : (q.kind == 1) = true := by rw [hk]; rfl
  have k2 : (q.kind == 2) = false := by rw [hk]; rfl
  have k3 : (q.kind == 3) = false := by rw [hk]; rfl
  have k4 : (q.kind == 4) = false := by rw [hk]; rfl
  have k7 : (q.kind == 7) = false := by rw [hk]; rfl
  have HK := Lib.hid hk
  clear hk
  go_upto_region 6 with fail
  by_cases h : (b.seats : Int) ≤ q.seat
  ·have HS := Lib.hid h
   have b9 : decide ((b.seats : Int) ≤ q.seat) = true := decide_eq_true h
   clear h
   go_still (by kernel_rfl)
   change Exit.then _ _ Exit.normal _ W4.drew
   obtain ⟨W5, hW⟩ : ∃ W, W = W4.drew := ⟨_, rfl⟩
   rw [← hW]
   have F5 := Lib.hid (show Fr (fun _ => False) w W5 by rw [hW]; exact F4.out.drew)
   have q0 : W5.cell? ⟨z, 0, none⟩ = _ := (congrArg (fun W => World.cell? W ⟨z, 0, none⟩) hW).trans q0
   have q1 : W5.cell? ⟨z, 1, none⟩ = _ := (congrArg (fun W => World.cell? W ⟨z, 1, none⟩) hW).trans q1
   have q2 : W5.cell? ⟨z, 2, none⟩ = _ := (congrArg (fun W => World.cell? W ⟨z, 2, none⟩) hW).trans q2
   have q3 : W5.cell? ⟨z, 3, none⟩ = _ := (congrArg (fun W => World.cell? W ⟨z, 3, none⟩) hW).trans q3
   have q4 : W5.cell? ⟨z, 4, none⟩ = _ := (congrArg (fun W => World.cell? W ⟨z, 4, none⟩) hW).trans q4
   have s0 : W5.cell? ⟨z4, 0, none⟩ = _ := (congrArg (fun W => World.cell? W ⟨z4, 0, none⟩) hW).trans s0
   have b1 : W5.cell? ⟨wb, 1, none⟩ = _ := (congrArg (fun W => World.cell? W ⟨wb, 1, none⟩) hW).trans b1
   have b2 : W5.cell? ⟨wb, 2, none⟩ = _ := (congrArg (fun W => World.cell? W ⟨wb, 2, none⟩) hW).trans b2
   have b4 : W5.cell? ⟨wb, 4, none⟩ = _ := (congrArg (fun W => World.cell? W ⟨wb, 4, none⟩) hW).trans b4
   have b5 : W5.cell? ⟨wb, 5, none⟩ = _ := (congrArg (fun W => World.cell? W ⟨wb, 5, none⟩) hW).trans b5
   have b6 : W5.cell? ⟨wb, 6, none⟩ = _ := (congrArg (fun W => World.cell? W ⟨wb, 6, none⟩) hW).trans b6
   clear hW
   have E9 := Lib.hid (show r = 140 by rw [HR.out]; exact (refP_1 b HK.out).trans (by simp [firstE, eSeat_y HS.out]))
   have F9 := Lib.hid (F5.out)
   go_wp2_with fail
   go_ret
   exact ⟨by rw [E9.out]; rfl, F9.out⟩
  ·have HS := Lib.hid h
   have b9 : decide ((b.seats : Int) ≤ q.seat) = false := decide_eq_false h
   clear h
   go_still (by kernel_rfl)
   change Exit.then _ _ Exit.normal _ W4.drew
   obtain ⟨W5, hW⟩ : ∃ W, W = W4.drew := ⟨_, rfl⟩
   rw [← hW]
   have F5 := Lib.hid (show Fr (fun _ => False) w W5 by rw [hW]; exact F4.out.drew)
   have q0 : W5.cell? ⟨z, 0, none⟩ = _ := (congrArg (fun W => World.cell? W ⟨z, 0, none⟩) hW).trans q0
   have q1 : W5.cell? ⟨z, 1, none⟩ = _ := (congrArg (fun W => World.cell? W ⟨z, 1, none⟩) hW).trans q1
   have q2 : W5.cell? ⟨z, 2, none⟩ = _ := (congrArg (fun W => World.cell? W ⟨z, 2, none⟩) hW).trans q2
   have q3 : W5.cell? ⟨z, 3, none⟩ = _ := (congrArg (fun W => World.cell? W ⟨z, 3, none⟩) hW).trans q3
   have q4 : W5.cell? ⟨z, 4, none⟩ = _ := (congrArg (fun W => World.cell? W ⟨z, 4, none⟩) hW).trans q4
   have s0 : W5.cell? ⟨z4, 0, none⟩ = _ := (congrArg (fun W => World.cell? W ⟨z4, 0, none⟩) hW).trans s0
   have b1 : W5.cell? ⟨wb, 1, none⟩ = _ := (congrArg (fun W => World.cell? W ⟨wb, 1, none⟩) hW).trans b1
   have b2 : W5.cell? ⟨wb, 2, none⟩ = _ := (congrArg (fun W => World.cell? W ⟨wb, 2, none⟩) hW).trans b2
   have b4 : W5.cell? ⟨wb, 4, none⟩ = _ := (congrArg (fun W => World.cell? W ⟨wb, 4, none⟩) hW).trans b4
   have b5 : W5.cell? ⟨wb, 5, none⟩ = _ := (congrArg (fun W => World.cell? W ⟨wb, 5, none⟩) hW).trans b5
   have b6 : W5.cell? ⟨wb, 6, none⟩ = _ := (congrArg (fun W => World.cell? W ⟨wb, 6, none⟩) hW).trans b6
   clear hW
   cases odd with
   | true =>
    have E9 := Lib.hid (show r = 2 by rw [HR.out]; exact (refP_1 b HK.out).trans (by simp [firstE, eSeat_n HS.out, eTtl_y HOdd.out.symm]))
    have F9 := Lib.hid (F5.out)
    go_wp2_with fail
    go_ret
    exact ⟨by rw [E9.out]; rfl, F9.out⟩
   | false =>
    go_upto_region 10 with fail
    clear b9
    by_cases h : 1099511627776 < c
    ·have HC := Lib.hid h
     have b9 : decide (1099511627776 < c) = true := decide_eq_true h
     clear h
     go_still (by kernel_rfl)
     change Exit.then _ _ Exit.normal _ W5.drew
     obtain ⟨W6, hW⟩ : ∃ W, W = W5.drew := ⟨_, rfl⟩
     rw [← hW]
     have F6 := Lib.hid (show Fr (fun _ => False) w W6 by rw [hW]; exact F5.out.drew)
     have q0 : W6.cell? ⟨z, 0, none⟩ = _ := (congrArg (fun W => World.cell? W ⟨z, 0, none⟩) hW).trans q0
     have q1 : W6.cell? ⟨z, 1, none⟩ = _ := (congrArg (fun W => World.cell? W ⟨z, 1, none⟩) hW).trans q1
     have q2 : W6.cell? ⟨z, 2, none⟩ = _ := (congrArg (fun W => World.cell? W ⟨z, 2, none⟩) hW).trans q2
     have q3 : W6.cell? ⟨z, 3, none⟩ = _ := (congrArg (fun W => World.cell? W ⟨z, 3, none⟩) hW).trans q3
     have q4 : W6.cell? ⟨z, 4, none⟩ = _ := (congrArg (fun W => World.cell? W ⟨z, 4, none⟩) hW).trans q4
     have s0 : W6.cell? ⟨z4, 0, none⟩ = _ := (congrArg (fun W => World.cell? W ⟨z4, 0, none⟩) hW).trans s0
     have b1 : W6.cell? ⟨wb, 1, none⟩ = _ := (congrArg (fun W => World.cell? W ⟨wb, 1, none⟩) hW).trans b1
     have b2 : W6.cell? ⟨wb, 2, none⟩ = _ := (congrArg (fun W => World.cell? W ⟨wb, 2, none⟩) hW).trans b2
     have b4 : W6.cell? ⟨wb, 4, none⟩ = _ := (congrArg (fun W => World.cell? W ⟨wb, 4, none⟩) hW).trans b4
     have b5 : W6.cell? ⟨wb, 5, none⟩ = _ := (congrArg (fun W => World.cell? W ⟨wb, 5, none⟩) hW).trans b5
     have b6 : W6.cell? ⟨wb, 6, none⟩ = _ := (congrArg (fun W => World.cell? W ⟨wb, 6, none⟩) hW).trans b6
     clear hW
     have E9 := Lib.hid (show r = 172 by rw [HR.out]; exact (refP_1 b HK.out).trans (by simp [firstE, eSeat_n HS.out, eTtl_n HOdd.out.symm, eClock_y HCl.out HC.out]))
     have F9 := Lib.hid (F6.out)
     go_wp2_with fail
     go_ret
     exact ⟨by rw [E9.out]; rfl, F9.out⟩
    ·have HC := Lib.hid h
     have b9 : decide (1099511627776 < c) = false := decide_eq_false h
     clear h
     go_still (by kernel_rfl)
     change Exit.then _ _ Exit.normal _ W5.drew
     obtain ⟨W6, hW⟩ : ∃ W, W = W5.drew := ⟨_, rfl⟩
     rw [← hW]
     have F6 := Lib.hid (show Fr (fun _ => False) w W6 by rw [hW]; exact F5.out.drew)
     have q0 : W6.cell? ⟨z, 0, none⟩ = _ := (congrArg (fun W => World.cell? W ⟨z, 0, none⟩) hW).trans q0
     have q1 : W6.cell? ⟨z, 1, none⟩ = _ := (congrArg (fun W => World.cell? W ⟨z, 1, none⟩) hW).trans q1
     have q2 : W6.cell? ⟨z, 2, none⟩ = _ := (congrArg (fun W => World.cell? W ⟨z, 2, none⟩) hW).trans q2
     have q3 : W6.cell? ⟨z, 3, none⟩ = _ := (congrArg (fun W => World.cell? W ⟨z, 3, none⟩) hW).trans q3
     have q4 : W6.cell? ⟨z, 4, none⟩ = _ := (congrArg (fun W => World.cell? W ⟨z, 4, none⟩) hW).trans q4
     have s0 : W6.cell? ⟨z4, 0, none⟩ = _ := (congrArg (fun W => World.cell? W ⟨z4, 0, none⟩) hW).trans s0
     have b1 : W6.cell? ⟨wb, 1, none⟩ = _ := (congrArg (fun W => World.cell? W ⟨wb, 1, none⟩) hW).trans b1
     have b2 : W6.cell? ⟨wb, 2, none⟩ = _ := (congrArg (fun W => World.cell? W ⟨wb, 2, none⟩) hW).trans b2
     have b4 : W6.cell? ⟨wb, 4, none⟩ = _ := (congrArg (fun W => World.cell? W ⟨wb, 4, none⟩) hW).trans b4
     have b5 : W6.cell? ⟨wb, 5, none⟩ = _ := (congrArg (fun W => World.cell? W ⟨wb, 5, none⟩) hW).trans b5
     have b6 : W6.cell? ⟨wb, 6, none⟩ = _ := (congrArg (fun W => World.cell? W ⟨wb, 6, none⟩) hW).trans b6
     clear hW
     cases st with
     | true =>
      have E9 := Lib.hid (show r = 170 by rw [HR.out]; exact (refP_1 b HK.out).trans (by simp [firstE, eSeat_n HS.out, eTtl_n HOdd.out.symm, eClock_n HCl.out HC.out, eTaken_y HSt.out.symm (fun e => optB_id HRaw.out HSt.out.symm (e.trans (rqOk_id HOk.out HK.out)))]))
      have F9 := Lib.hid (F6.out)
      go_wp2_with fail
      go_ret
      exact ⟨by rw [E9.out]; rfl, F9.out⟩
     | false =>
      go_upto_region 14 with fail
      go_cut [58] (fun s wx => s = .bool (decide (b.codes ≤ b.L.length ∨ b.next = 4294967295)) ∧ Fr (fun _ => False) w wx)
      case first =>
       by_cases g1 : b.codes ≤ b.L.length
       ·have g2 : decide ((b.codes : Int) ≤ (n : Int)) = true := decide_eq_true (by have := HN.out; omega)
        have g2' : decide (b.codes ≤ n) = true := decide_eq_true (by have := HN.out; omega)
        have HE := Lib.hid (decide_eq_true (.inl g1 : b.codes ≤ b.L.length ∨ b.next = 4294967295))
        clear g1
        go_big_quiet (fail)
        go_wp2_with fail
        go_meet
        exact ⟨by rw [HE.out], F6.out.drewN _⟩
       ·have g2 : decide ((b.codes : Int) ≤ (n : Int)) = false := decide_eq_false (by have := HN.out; omega)
        have g2' : decide (b.codes ≤ n) = false := decide_eq_false (by have := HN.out; omega)
        by_cases g3 : b.next = 4294967295
        ·have g4 : ((b.next : Int) == 4294967295) = true := by rw [beq_iff_eq]; omega
         have HE := Lib.hid (decide_eq_true (.inr g3 : b.codes ≤ b.L.length ∨ b.next = 4294967295))
         clear g1 g3
         go_big_quiet (fail)
         go_wp2_with fail
         go_meet
         exact ⟨by rw [HE.out], F6.out.drewN _⟩
        ·have g4 : ((b.next : Int) == 4294967295) = false := by rw [beq_eq_false_iff_ne]; omega
         have HE := Lib.hid (decide_eq_false (show ¬ (b.codes ≤ b.L.length ∨ b.next = 4294967295) by omega))
         clear g1 g3
         go_big_quiet (fail)
         go_wp2_with fail
         go_meet
         exact ⟨by rw [HE.out], F6.out.drewN _⟩
      case rest =>
      obtain ⟨rfl, f9⟩ := hcut
      have F8 := Lib.hid f9
      clear f9
      obtain ⟨fu, hfu⟩ : ∃ x, x = decide (b.codes ≤ b.L.length ∨ b.next = 4294967295) := ⟨_, rfl⟩
      rw [← hfu]
      have HFu := Lib.hid hfu
      clear hfu
      cases fu with
      | true =>
       have E9 := Lib.hid (show r = 6 by rw [HR.out]; exact (refP_1 b HK.out).trans (by simp [firstE, eSeat_n HS.out, eTtl_n HOdd.out.symm, eClock_n HCl.out HC.out, eTaken_n HSt.out.symm, eFull_y (of_decide_eq_true HFu.out.symm)]))
       have F9 := Lib.hid (F8.out)
       go_wp2_with fail
       go_ret
       exact ⟨by rw [E9.out]; rfl, F9.out⟩
      | false =>
       have E9 := Lib.hid (show r = 0 by rw [HR.out]; exact (refP_1 b HK.out).trans (by simp [firstE, eSeat_n HS.out, eTtl_n HOdd.out.symm, eClock_n HCl.out HC.out, eTaken_n HSt.out.symm, eFull_n (of_decide_eq_false HFu.out.symm)]))
       have F9 := Lib.hid (F8.out)
       go_wp2_with fail
       go_ret
       exact ⟨by rw [E9.out]; rfl, F9.out⟩
 ·have k1 : (q.kind == 1) = false := by rw [hk]; rfl
  have k2 : (q.kind == 2) = true := by rw [hk]; rfl
  have k3 : (q.kind == 3) = false := by rw [hk]; rfl
  have k4 : (q.kind == 4) = false := by rw [hk]; rfl
  have k7 : (q.kind == 7) = false := by rw [hk]; rfl
  have HK := Lib.hid hk
  clear hk
  cases kn with
  | true =>
   have E9 := Lib.hid (show r = 0 by rw [HR.out]; exact (refP_2 b (.inl HK.out)).trans (by simp [firstE, eKnown_y HKn.out.symm]))
   have F9 := Lib.hid (F4.out)
   go_wp2_with fail
   go_ret
   exact ⟨by rw [E9.out]; rfl, F9.out⟩
  | false =>
   have E9 := Lib.hid (show r = 171 by rw [HR.out]; exact (refP_2 b (.inl HK.out)).trans (by simp [firstE, eKnown_n HKn.out.symm]))
   have F9 := Lib.hid (F4.out)
   go_wp2_with fail
   go_ret
   exact ⟨by rw [E9.out]; rfl, F9.out⟩
 ·have k1 : (q.kind == 1) = false := by rw [hk]; rfl
  have k2 : (q.kind == 2) = false := by rw [hk]; rfl
  have k3 : (q.kind == 3) = true := by rw [hk]; rfl
  have k4 : (q.kind == 4) = false := by rw [hk]; rfl
  have k7 : (q.kind == 7) = false := by rw [hk]; rfl
  have HK := Lib.hid hk
  clear hk
  cases kn with
  | true =>
   have E9 := Lib.hid (show r = 0 by rw [HR.out]; exact (refP_2 b (.inr HK.out)).trans (by simp [firstE, eKnown_y HKn.out.symm]))
   have F9 := Lib.hid (F4.out)
   go_wp2_with fail
   go_ret
   exact ⟨by rw [E9.out]; rfl, F9.out⟩
  | false =>
   have E9 := Lib.hid (show r = 171 by rw [HR.out]; exact (refP_2 b (.inr HK.out)).trans (by simp [firstE, eKnown_n HKn.out.symm]))
   have F9 := Lib.hid (F4.out)
   go_wp2_with fail
   go_ret
   exact ⟨by rw [E9.out]; rfl, F9.out⟩
 ·have k1 : (q.kind == 1) = false := by rw [hk]; rfl
  have k2 : (q.kind == 2) = false := by rw [hk]; rfl
  have k3 : (q.kind == 3) = false := by rw [hk]; rfl
  have k4 : (q.kind == 4) = true := by rw [hk]; rfl
  have k7 : (q.kind == 7) = false := by rw [hk]; rfl
  have HK := Lib.hid hk
  clear hk
  cases kn with
  | true =>
   go_upto_region 23 with fail
   by_cases h : (b.seats : Int) ≤ q.seat
   ·have HS := Lib.hid h
    have b9 : decide ((b.seats : Int) ≤ q.seat) = true := decide_eq_true h
    clear h
    go_still (by kernel_rfl)
    have E9 := Lib.hid (show r = 140 by rw [HR.out]; exact (refP_4 b HK.out).trans (by simp [firstE, eKnown_y HKn.out.symm, eSeat_y HS.out]))
    have F9 := Lib.hid (F4.out.drew)
    go_wp2_with fail
    go_ret
    exact ⟨by rw [E9.out]; rfl, F9.out⟩
   ·have HS := Lib.hid h
    have b9 : decide ((b.seats : Int) ≤ q.seat) = false := decide_eq_false h
    clear h
    go_still (by kernel_rfl)
    cases st with
    | true =>
     by_cases e : xs.1 = q.id
     ·have e1 : ((xs.1 : Int) != (q.id : Int)) = false := by rw [bne_eq_false_iff_eq]; omega
      have HX := Lib.hid e
      clear e
      have E9 := Lib.hid (show r = 0 by rw [HR.out]; exact (refP_4 b HK.out).trans (by simp [firstE, eKnown_y HKn.out.symm, eSeat_n HS.out, eTaken_s (by rw [← HXs.out]; exact HX.out : (optB (bSeat b.L q.seat)).1 = q.id)]))
      have F9 := Lib.hid (F4.out.drew)
      go_wp2_with fail
      go_ret
      exact ⟨by rw [E9.out]; rfl, F9.out⟩
     ·have e1 : ((xs.1 : Int) != (q.id : Int)) = true := by rw [bne_iff_ne]; omega
      have HX := Lib.hid e
      clear e
      have E9 := Lib.hid (show r = 170 by rw [HR.out]; exact (refP_4 b HK.out).trans (by simp [firstE, eKnown_y HKn.out.symm, eSeat_n HS.out, eTaken_y HSt.out.symm (by rw [← HXs.out]; exact HX.out : (optB (bSeat b.L q.seat)).1 ≠ q.id)]))
      have F9 := Lib.hid (F4.out.drew)
      go_wp2_with fail
      go_ret
      exact ⟨by rw [E9.out]; rfl, F9.out⟩
    | false =>
     have E9 := Lib.hid (show r = 0 by rw [HR.out]; exact (refP_4 b HK.out).trans (by simp [firstE, eKnown_y HKn.out.symm, eSeat_n HS.out, eTaken_n HSt.out.symm]))
     have F9 := Lib.hid (F4.out.drew)
     go_wp2_with fail
     go_ret
     exact ⟨by rw [E9.out]; rfl, F9.out⟩
  | false =>
   have E9 := Lib.hid (show r = 171 by rw [HR.out]; exact (refP_4 b HK.out).trans (by simp [firstE, eKnown_n HKn.out.symm]))
   have F9 := Lib.hid (F4.out)
   go_wp2_with fail
   go_ret
   exact ⟨by rw [E9.out]; rfl, F9.out⟩
 ·have k1 : (q.kind == 1) = false := by rw [hk]; rfl
  have k2 : (q.kind == 2) = false := by rw [hk]; rfl
  have k3 : (q.kind == 3) = false := by rw [hk]; rfl
  have k4 : (q.kind == 4) = false := by rw [hk]; rfl
  have k7 : (q.kind == 7) = true := by rw [hk]; rfl
  have HK := Lib.hid hk
  clear hk
  cases odd with
  | true =>
   have E9 := Lib.hid (show r = 2 by rw [HR.out]; exact (refP_7 b HK.out).trans (by simp [firstE, eTtl_y HOdd.out.symm]))
   have F9 := Lib.hid (F4.out)
   go_wp2_with fail
   go_ret
   exact ⟨by rw [E9.out]; rfl, F9.out⟩
  | false =>
   go_upto_region 30 with fail
   by_cases h : 1099511627776 < c
   ·have HC := Lib.hid h
    have b9 : decide (1099511627776 < c) = true := decide_eq_true h
    clear h
    go_still (by kernel_rfl)
    have E9 := Lib.hid (show r = 172 by rw [HR.out]; exact (refP_7 b HK.out).trans (by simp [firstE, eTtl_n HOdd.out.symm, eClock_y HCl.out HC.out]))
    have F9 := Lib.hid (F4.out.drew)
    go_wp2_with fail
    go_ret
    exact ⟨by rw [E9.out]; rfl, F9.out⟩
   ·have HC := Lib.hid h
    have b9 : decide (1099511627776 < c) = false := decide_eq_false h
    clear h
    go_still (by kernel_rfl)
    have E9 := Lib.hid (show r = 0 by rw [HR.out]; exact (refP_7 b HK.out).trans (by simp [firstE, eTtl_n HOdd.out.symm, eClock_n HCl.out HC.out]))
    have F9 := Lib.hid (F4.out.drew)
    go_wp2_with fail
    go_ret
    exact ⟨by rw [E9.out]; rfl, F9.out⟩
end Go.Proofs.YtffnjnnmlfgngaaGreat.Cs
