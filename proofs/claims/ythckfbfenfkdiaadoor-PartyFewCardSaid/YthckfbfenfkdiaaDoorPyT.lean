/- Cabins in memory: Place, Beside. No condition. -/
import Derived.Test.YthckfbfenfkdiaaDoorPyC
import Derived.Test.YthckfbfenfkdiaaDoorPyD
namespace Go.Proofs.YthckfbfenfkdiaaDoor.Py
open Go.RowKit St
theorem wrap_small (q : Nat) (h : q ≤ 100000) : wrap64 (q : Int) = (q : Int) ∧ IntKind.i64.wrap (q : Int) = (q : Int) := ⟨by unfold wrap64; omega, by rw [IntKind.wrap_i64]; omega⟩
set_option maxRecDepth 100000 in
set_option maxHeartbeats 1000000 in
theorem place_ok {w : World} {sv : Value} {L : List Int} (h : RI w sv L) {R W : Nat} (hq : rightB R W L = true) {s : Nat} (hs : s < R * W) : Calls Tryd.prog 38 #[.agg #[.int .i64 R, .int .i64 W, sv], .int .i64 s] w fun e w' => e = .returned (.tuple #[.int .i64 (s / W : Nat), .int .i64 (s % W : Nat), .int .i64 0]) ∧ Fr (fun _ => False) w w' := by
  have H := Lib.hid h
  have HQ := Lib.hid hq
  have hsz := right_size hq
  simp only [sizeOk, decide_eq_true_eq] at hsz
  obtain ⟨N, hN⟩ : ∃ N, R * W = N := ⟨_, rfl⟩
  have hN1 : N ≤ 1024 := by
    obtain ⟨k, a1, a2, a3⟩ := seatsI R W (right_size hq)
    have : ((R * W : Nat) : Int) = k := by rw [← a1]; simp
    omega
  have hRW : (R : Int) * (W : Int) = (N : Int) := by rw [← hN]; simp
  rw [hN] at hs
  have hW1 : 1 ≤ W := by omega
  have hW2 : W ≤ 16 := by omega
  have d1 : decide ((s : Int) < 0) = false := by simp
  have d2 : decide ((N : Int) ≤ (s : Int)) = false := by simp; omega
  have d2' : decide (N ≤ s) = false := by simp; omega
  have dW : ((W : Int) == 0) = false := by simp; omega
  have hW0 : ¬ (W : Int) = 0 := by omega
  have hW0' : ¬ W = 0 := by omega
  have s0 : (0:Int) ≤ (s:Int) := by omega
  obtain ⟨q, hqe⟩ : ∃ q, s / W = q := ⟨_, rfl⟩
  obtain ⟨m, hme⟩ : ∃ m, s % W = m := ⟨_, rfl⟩
  have hqb : q ≤ s := by rw [← hqe]; exact Nat.div_le_self _ _
  have hmb : m < W := by rw [← hme]; exact Nat.mod_lt _ (by omega)
  have e1 : (s : Int) / (W : Int) = (q : Int) := by rw [← hqe]; exact (Int.natCast_ediv s W).symm
  have e2 : (s : Int).tdiv (W : Int) = (q : Int) := by rw [Int.tdiv_eq_ediv_of_nonneg (by omega)]; exact e1
  have e3 : (s : Int) % (W : Int) = (m : Int) := by rw [← hme]; exact (Int.natCast_emod s W).symm
  have e4 : (s : Int).tmod (W : Int) = (m : Int) := by rw [Int.tmod_eq_emod_of_nonneg (by omega)]; exact e3
  obtain ⟨e5, e6⟩ := wrap_small q (by omega)
  rw [hqe, hme]
  have hf0 : Fr (fun _ => False) w (w.alloc (.cells #[.int .i64 R, .int .i64 W, sv] 24)) := Fr.alloc (Fr.refl _ _) _
  have HF0 := Lib.hid hf0
  have HC := Lib.hid (seats_ok (H.out.keep hf0) HQ.out)
  rw [hRW] at HC
  clear h hq hsz hN hs hqe hme hf0 hRW hW2 hqb hmb
  go_enter Tryd.func38, Tryd.ntmps38
  go_wp2_with fail
  refine HC.out.mono ?_
  rintro e w1 ⟨rfl, hf⟩
  have hb := hf.get (heap_alloc_at w (.cells #[.int .i64 R, .int .i64 W, sv] 24)) id
  have c1 := (cell_of hb 1).trans (show _ = some (Value.int .i64 W) from rfl)
  have HF := Lib.hid (HF0.out.trans hf (fun _ _ h => h))
  clear hf hb HC HF0
  go_wp2_with fail
  go_still (by kernel_rfl)
  go_wp2_with fail
  go_ret3
  exact ⟨rfl, HF.out.drew⟩
theorem div_step {i W : Nat} (hi : 0 < i) (hW : 0 < W) : (i % W = 0 → (i - 1) / W ≠ i / W) ∧ (i % W ≠ 0 → (i - 1) / W = i / W ∧ (i - 1) % W + 1 = i % W) := by
  obtain ⟨q, hq⟩ : ∃ q, i / W = q := ⟨_, rfl⟩
  obtain ⟨m, hm⟩ : ∃ m, i % W = m := ⟨_, rfl⟩
  obtain ⟨p, hp⟩ : ∃ p, W * q = p := ⟨_, rfl⟩
  have h1 : p + m = i := by rw [← hp, ← hq, ← hm]; exact Nat.div_add_mod i W
  have h2 : m < W := by rw [← hm]; exact Nat.mod_lt i hW
  rw [hq, hm]
  constructor
  · intro h0 e
    have h3 := Nat.div_add_mod (i - 1) W
    rw [e, hp] at h3
    have : i - 1 < p := by omega
    have h5 : p ≤ i - 1 := by
      rw [← h3]; exact Nat.le_add_right _ _
    exact absurd h5 (by omega)
  · intro h0
    have h3 : i - 1 = W * q + (m - 1) := by rw [hp]; omega
    have h4 : (i - 1) / W = q := by
      rw [h3, Nat.mul_add_div hW, Nat.div_eq_of_lt (by omega)]; simp
    have h5 : (i - 1) % W = m - 1 := by
      rw [h3, Nat.mul_add_mod, Nat.mod_eq_of_lt (by omega)]
    exact ⟨h4, by omega⟩
set_option maxRecDepth 100000 in
set_option maxHeartbeats 2000000 in
theorem beside_ok {w : World} {sv : Value} {L : List Int} (h : RI w sv L) {R W : Nat} (hq : rightB R W L = true) {i : Nat} (hi0 : 0 < i) (hi : i < R * W) {q : Bool} (hb : beg W L i = !q) :
    Calls Tryd.prog 18 #[.agg #[.int .i64 R, .int .i64 W, sv], .int .i64 (i - 1 : Nat), .int .i64 i] w fun e w' => e = .returned (.tuple #[.bool q, .int .i64 0]) ∧ Fr (fun _ => False) w w' := by
  have H := Lib.hid h
  have HQ := Lib.hid hq
  have hsz := right_size hq
  simp only [sizeOk, decide_eq_true_eq] at hsz
  have hW1 : 1 ≤ W := by omega
  have hW2 : W ≤ 16 := by omega
  obtain ⟨hd0, hd1⟩ := div_step hi0 (show 0 < W by omega)
  have hN1 : R * W ≤ 1024 := by
    obtain ⟨k, a1, a2, a3⟩ := seatsI R W (right_size hq)
    have : ((R * W : Nat) : Int) = k := by rw [← a1]; simp
    omega
  obtain ⟨j, hj⟩ : ∃ j, i - 1 = j := ⟨_, rfl⟩
  rw [hj] at hd0 hd1 ⊢
  have hf0 : Fr (fun _ => False) w (w.alloc (.cells #[.int .i64 R, .int .i64 W, sv] 24)) := Fr.alloc (Fr.refl _ _) _
  have HF0 := Lib.hid hf0
  have HP1 := Lib.hid (place_ok (H.out.keep hf0) HQ.out (s := j) (by omega))
  have HI := Lib.hid (And.intro hi hi0)
  obtain ⟨q1, hq1⟩ : ∃ x, j / W = x := ⟨_, rfl⟩
  obtain ⟨m1, hm1⟩ : ∃ x, j % W = x := ⟨_, rfl⟩
  obtain ⟨q2, hq2⟩ : ∃ x, i / W = x := ⟨_, rfl⟩
  obtain ⟨m2, hm2⟩ : ∃ x, i % W = x := ⟨_, rfl⟩
  have hm2W : m2 < W := by rw [← hm2]; exact Nat.mod_lt _ (by omega)
  have hm1W : m1 < W := by rw [← hm1]; exact Nat.mod_lt _ (by omega)
  rw [hq1, hq2, hm2] at hd0
  rw [hq1, hq2, hm1, hm2] at hd1
  rw [hq1, hm1] at HP1
  have HB := Lib.hid (show (decide (m2 = 0) || decide ((m2 : Int) ∈ L)) = !q by rw [← hb]; unfold beg; rw [hm2])
  have HD0 := Lib.hid hd0; have HD1 := Lib.hid hd1
  have HE := Lib.hid (And.intro hq2 hm2)
  clear h hq hsz hf0 hi hi0 hj hq1 hm1 hq2 hm2 hb hd0 hd1 hN1
  go_enter Tryd.func18, Tryd.ntmps18
  go_wp2_with fail
  refine HP1.out.mono ?_
  rintro e w1 ⟨rfl, hf⟩
  have hb1 := hf.get (heap_alloc_at w (.cells #[.int .i64 R, .int .i64 W, sv] 24)) id
  have HB1 := Lib.hid hb1
  have c0 := (cell_of hb1 0).trans (show _ = some (Value.int .i64 R) from rfl)
  have c1 := (cell_of hb1 1).trans (show _ = some (Value.int .i64 W) from rfl)
  have c2 := (cell_of hb1 2).trans (show _ = some sv from rfl)
  have HF1 := Lib.hid (HF0.out.trans hf (fun _ _ h => h))
  have HP2 := Lib.hid (place_ok (H.out.keep HF1.out) HQ.out (s := i) HI.out.1)
  rw [HE.out.1, HE.out.2] at HP2
  clear hf hb1 HP1 HF0
  go_wp2_with fail
  refine HP2.out.mono ?_
  rintro e w2 ⟨rfl, hf⟩
  have hb2 := hf.get HB1.out id
  have HB2 := Lib.hid hb2
  have c0 := (cell_of hb2 0).trans (show _ = some (Value.int .i64 R) from rfl)
  have c1 := (cell_of hb2 1).trans (show _ = some (Value.int .i64 W) from rfl)
  have c2 := (cell_of hb2 2).trans (show _ = some sv from rfl)
  have HF2 := Lib.hid (HF1.out.trans hf (fun _ _ h => h))
  have HAi := Lib.hid (aisles_any (H.out.keep HF2.out) R W)
  clear hf hb2 HP2 HF1 HB1
  go_wp2_with fail
  refine HAi.out.mono ?_
  rintro e w3 ⟨⟨P, rfl, hP⟩, hf⟩
  obtain rfl := hP HQ.out
  rw [HQ.out]
  have HF3 := Lib.hid (HF2.out.trans hf (fun _ _ h => h))
  clear hf hP HAi HF2 HB2 c0 c1 c2
  go_upto_region 8 with (first | (refine wpList_store_row rfl 75 (.tmp 13) (.tmp 39) rfl w3.heap.size (lieArr P) rfl rfl 75 _ (heap_alloc_at _ _) (info17 (lie_size _)) (lie_size _).symm (lie_one _) ?_))
  obtain ⟨W0, hW0⟩ : ∃ W0, W0 = (w3.alloc (.cells #[.bool false, .bool false, .bool false, .bool false, .bool false, .bool false, .bool false, .bool false, .bool false, .bool false, .bool false, .bool false, .bool false, .bool false, .bool false, .bool false, .bool false] 75)).setRow w3.heap.size (lieArr P) := ⟨_, rfl⟩
  rw [← hW0]
  have hfw : Fr (fun _ => False) w W0 := by
    rw [hW0]
    exact ⟨HF3.out.os, HF3.out.tape, HF3.out.output, by simp; have := HF3.out.size; omega, fun k hk hn => by rw [setRow_other _ _ _ _ (by have := HF3.out.size; omega), heap_alloc_old _ _ _ (Nat.lt_of_lt_of_le hk HF3.out.size)]; exact HF3.out.blk k hk hn⟩
  have hb4 : W0.heap[w3.heap.size]? = some (.cells (lieArr P) 75 (0, 0)) := by
    rw [hW0]; exact setRow_heap _ _ _ _ _ _ (heap_alloc_at _ _)
  have HFW := Lib.hid hfw
  obtain ⟨g4, hg4⟩ : ∃ g, g = w3.heap.size := ⟨_, rfl⟩
  rw [← hg4] at hb4 ⊢
  have c4 : W0.cell? ⟨g4, m2, none⟩ = some (.bool (decide ((m2 : Int) ∈ P))) := by rw [cell_of hb4, lie_get _ (by omega)]
  obtain ⟨bq, hbq⟩ : ∃ bq, decide ((m2 : Int) ∈ P) = bq := ⟨_, rfl⟩
  rw [hbq] at c4
  have HBq := Lib.hid hbq
  clear hW0 hfw hb4 hg4 hbq HF3
  by_cases hz : m2 = 0
  · have hne := HD0.out hz
    have hqf : q = false := by have := HB.out; rw [decide_eq_true hz] at this; cases q <;> simp_all
    subst hqf
    have b1 : ((q1 : Int) == (q2 : Int)) = false := by simp; omega
    clear hz hne
    go_wp2_with fail
    go_ret2
    exact ⟨rfl, HFW.out⟩
  · obtain ⟨e1, e2⟩ := HD1.out hz
    have hqb : q = !bq := by
      have := HB.out
      rw [decide_eq_false hz, Bool.false_or, HBq.out] at this
      rw [this]; simp
    have b1 : ((q1 : Int) == (q2 : Int)) = true := by simp; omega
    have b2 : (m2 : Int) - (m1 : Int) = 1 := by omega
    have b3 : max (m1 : Int) (m2 : Int) = (m2 : Int) := by omega
    have b4 : (m2 : Int) < 17 := by omega
    subst hqb
    clear hz e1 e2
    go_wp2_with fail
    go_ret2
    exact ⟨rfl, HFW.out⟩
end Go.Proofs.YthckfbfenfkdiaaDoor.Py
