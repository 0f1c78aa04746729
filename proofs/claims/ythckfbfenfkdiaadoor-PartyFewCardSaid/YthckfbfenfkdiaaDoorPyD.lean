/- Cabins in memory: the blocks. No condition. -/
import Derived.Test.YthckfbfenfkdiaaDoorPyC
namespace Go.Proofs.YthckfbfenfkdiaaDoor.Py
open Go.RowKit St
/-- The slice sv has the runs S, from the head of its row. -/
abbrev Sps (w : World) (sv : Value) (S : List Sp) : Prop := Els w 45 2 enc sv S
theorem enc_one (x : Sp) : ∀ v ∈ enc x, v.oneCell' = true := by
  intro v hv
  simp only [enc, List.mem_cons, List.mem_nil_iff, or_false] at hv
  rcases hv with rfl | rfl <;> rfl
theorem Tryd.infoSpan : (Tryd.prog.info? 45).map (fun i => (i.zero, i.size, i.bytes)) = some (some (.agg #[.int .i64 0, .int .i64 0]), 2, 16) := by kernel_rfl
/-- One run more, behind append. -/
theorem Sps.app {w : World} {sv : Value} {S : List Sp} (h : Sps w sv S) (hn : S.length ≤ 1000000) (x : Sp) :
    ∃ a c w2, (Builtin.append_ #[32, 32] 32 #[sv, .slice (some ⟨w.heap.size, 0, none⟩) 1 1]).run Tryd.prog (w.alloc (.cells #[.int .i64 (x.1 : Int), .int .i64 (x.2 : Int)] 45)) = .ok (.slice a (S.length + 1) c) w2 ∧
      Sps w2 (.slice a (S.length + 1) c) (S ++ [x]) ∧ Fr (fun b => sv.ownBlock = some b) w w2 ∧ (∀ b, (Value.slice a (S.length + 1) c).ownBlock = some b → sv.ownBlock = some b ∨ w.heap.size ≤ b) :=
  Els.app enc_len h Tryd.underlying32 Tryd.infoSpan rfl (by decide) enc_one x hn (by decide) (arr := #[.int .i64 (x.1 : Int), .int .i64 (x.2 : Int)]) rfl
theorem beg_at {W row : Nat} {L : List Int} {j : Nat} (h : j < W) : beg W L (row * W + j) = (decide (j = 0) || decide ((j : Int) ∈ L)) := by
  unfold beg
  have : (row * W + j) % W = j := by rw [Nat.add_comm, Nat.add_mul_mod_self_right, Nat.mod_eq_of_lt h]
  rw [this]
set_option maxRecDepth 100000 in
set_option maxHeartbeats 1000000 in
theorem blocks_no {w : World} {sv : Value} {L : List Int} (h : RI w sv L) {r v : Int} (hq : rightB r v L = false) : Calls Tryd.prog 20 #[.agg #[.int .i64 r, .int .i64 v, sv]] w fun e w' => e = .returned (.tuple #[.slice none 0 0, .int .i64 2]) ∧ Fr (fun _ => False) w w' := by
  have H := Lib.hid h
  have HQ := Lib.hid hq
  clear h hq
  go_enter Tryd.func20, Tryd.ntmps20
  go_wp2_with fail
  go_step3
  go_wp2_with fail
  refine (aisles_any (H.out.keep (Fr.alloc (Fr.refl _ _) _)) r v).mono ?_
  rintro e w1 ⟨⟨P, rfl, _⟩, hf⟩
  rw [HQ.out]
  have HF := Lib.hid ((Fr.alloc (Fr.refl (fun _ => False) w) (.cells #[.int .i64 r, .int .i64 v, sv] 24)).trans hf (fun _ _ h => h))
  clear hf
  go_wp2_with (first | (refine wpList_store_row rfl 75 (.tmp 4) (.tmp 13) rfl w1.heap.size (lieArr P) rfl rfl 75 _ (heap_alloc_at _ _) (info17 (lie_size _)) (lie_size _).symm (lie_one _) ?_))
  rw [Exit.noGoto_ret]
  go_ret2
  exact ⟨rfl, HF.out.os, HF.out.tape, HF.out.output, by simp; have := HF.out.size; omega, fun k hk hn => by rw [setRow_other _ _ _ _ (by have := HF.out.size; omega), heap_alloc_old _ _ _ (Nat.lt_of_lt_of_le hk HF.out.size)]; exact HF.out.blk k hk hn⟩
set_option maxRecDepth 100000 in
set_option maxHeartbeats 1000000 in
theorem blocks_ok {w : World} {sv : Value} {L : List Int} (h : RI w sv L) {R W : Nat} (hq : rightB R W L = true) : Calls Tryd.prog 20 #[.agg #[.int .i64 R, .int .i64 W, sv]] w fun e w' => (∃ ov S, e = .returned (.tuple #[ov, .int .i64 0]) ∧ Parts (beg W L) (R * W) S ∧ Sps w' ov S ∧ (∀ b, ov.ownBlock = some b → w.heap.size ≤ b)) ∧ Fr (fun _ => False) w w' := by
  have H := Lib.hid h
  have HQ := Lib.hid hq
  have hsz := right_size hq
  simp only [sizeOk, decide_eq_true_eq] at hsz
  obtain ⟨s1, s2, s3, s4⟩ := hsz
  have s1' : 1 ≤ R := by omega
  have s2' : R ≤ 64 := by omega
  have s3' : 1 ≤ W := by omega
  have s4' : W ≤ 16 := by omega
  clear h hq s1 s2 s3 s4
  go_enter Tryd.func20, Tryd.ntmps20
  go_wp2_with fail
  go_step3
  go_wp2_with fail
  refine (aisles_any (H.out.keep (Fr.alloc (Fr.refl _ _) _)) R W).mono ?_
  rintro e w1 ⟨⟨P, rfl, hP⟩, hf⟩
  obtain rfl := hP HQ.out
  rw [HQ.out]
  have HF := Lib.hid ((Fr.alloc (Fr.refl (fun _ => False) w) (.cells #[.int .i64 R, .int .i64 W, sv] 24)).trans hf (fun _ _ h => h))
  have hb1 : w1.heap[w.heap.size]? = some (.cells #[.int .i64 R, .int .i64 W, sv] 24 (0, 0)) := (hf.blk _ (by simp) id).trans (heap_alloc_at _ _)
  have hlt : w.heap.size < w1.heap.size := lt_of_block hb1
  have HB1 := Lib.hid hb1
  clear hf hP hb1
  go_upto_region 2 with (first | (refine wpList_store_row rfl 75 (.tmp 4) (.tmp 13) rfl w1.heap.size (lieArr P) rfl rfl 75 _ (heap_alloc_at _ _) (info17 (lie_size _)) (lie_size _).symm (lie_one _) ?_))
  obtain ⟨W0, hW0⟩ : ∃ W0, W0 = (w1.alloc (.cells #[.bool false, .bool false, .bool false, .bool false, .bool false, .bool false, .bool false, .bool false, .bool false, .bool false, .bool false, .bool false, .bool false, .bool false, .bool false, .bool false, .bool false] 75)).setRow w1.heap.size (lieArr P) := ⟨_, rfl⟩
  rw [← hW0]
  have hf0 : Fr (fun _ => False) w W0 := by
    rw [hW0]
    exact ⟨HF.out.os, HF.out.tape, HF.out.output, by simp; have := HF.out.size; omega, fun k hk hn => by rw [setRow_other _ _ _ _ (by have := HF.out.size; omega), heap_alloc_old _ _ _ (Nat.lt_of_lt_of_le hk HF.out.size)]; exact HF.out.blk k hk hn⟩
  have hb1 : W0.heap[w.heap.size]? = some (.cells #[.int .i64 R, .int .i64 W, sv] 24 (0, 0)) := by
    rw [hW0, setRow_other _ _ _ _ (by omega), heap_alloc_old _ _ _ hlt]; exact HB1.out
  have hb4 : W0.heap[w1.heap.size]? = some (.cells (lieArr P) 75 (0, 0)) := by
    rw [hW0]; exact setRow_heap _ _ _ _ _ _ (heap_alloc_at _ _)
  obtain ⟨g1, hg1⟩ : ∃ g, g = w.heap.size := ⟨_, rfl⟩
  obtain ⟨g4, hg4⟩ : ∃ g, g = w1.heap.size := ⟨_, rfl⟩
  rw [← hg1] at hb1; rw [← hg4] at hb4
  have hne : g1 ≠ g4 := by omega
  have hge : w.heap.size ≤ g1 ∧ w.heap.size ≤ g4 := by omega
  have HNE := Lib.hid (And.intro hne hge)
  have HF0 := Lib.hid hf0; have HB1' := Lib.hid hb1; have HB4 := Lib.hid hb4
  rw [← hg1, ← hg4]
  clear hW0 hf0 hb1 hb4 HB1 HF hlt hne hge hg1 hg4
  go_wp2_with fail
  go_step3
  go_wp2_with fail
  go_loopw [6, 7, 8, 9] (fun s6 s7 s8 s9 wr => ∃ (row : Nat) (S : List Sp), s7 = .int .i64 row ∧ row ≤ R ∧ Hid (Parts (beg W P) (row * W) S) ∧ Hid (Sps wr s6 S ∧ (∀ b, s6.ownBlock = some b → w.heap.size ≤ b ∧ b ≠ g1 ∧ b ≠ g4)) ∧ Hid (wr.heap[g1]? = some (.cells #[.int .i64 R, .int .i64 W, sv] 24 (0, 0)) ∧ wr.heap[g4]? = some (.cells (lieArr P) 75 (0, 0)) ∧ Fr (fun _ => False) w wr)) (fun _ s7 _ _ _ => R - (intOf s7).toNat)
  case atStart => exact ⟨0, [], rfl, Nat.zero_le _, Lib.hid (by rw [Nat.zero_mul]; exact .nil), Lib.hid ⟨World.ownsRow_nil _ 0 _ 2, fun b hb => by simp [Value.ownBlock] at hb⟩, Lib.hid ⟨HB1'.out, HB4.out, HF0.out⟩⟩
  case round =>
    clear HB1' HB4 HF0
    obtain ⟨row, S, rfl, hrow, HP, HS, HW⟩ := hrel
    have c0 := (cell_of HW.out.1 0).trans (show _ = some (Value.int .i64 R) from rfl)
    have c1 := (cell_of HW.out.1 1).trans (show _ = some (Value.int .i64 W) from rfl)
    by_cases hlt : row < R
    · have hlt' : (row : Int) < (R : Int) := by omega
      go_wp2_with fail
      clear c0 c1
      go_loopw [6, 8, 9] (fun s6 s8 s9 wr => ∃ (f c : Nat) (S : List Sp), s8 = .int .i64 f ∧ s9 = .int .i64 c ∧ f < c ∧ c ≤ W ∧ Hid (Parts (beg W P) (row * W + f) S ∧ beg W P (row * W + f) = true ∧ ∀ j, f < j → j < c → beg W P (row * W + j) = false) ∧ Hid (Sps wr s6 S ∧ (∀ b, s6.ownBlock = some b → w.heap.size ≤ b ∧ b ≠ g1 ∧ b ≠ g4)) ∧ Hid (wr.heap[g1]? = some (.cells #[.int .i64 R, .int .i64 W, sv] 24 (0, 0)) ∧ wr.heap[g4]? = some (.cells (lieArr P) 75 (0, 0)) ∧ Fr (fun _ => False) w wr)) (fun _ _ s9 _ => W - (intOf s9).toNat)
      case atStart =>
        refine ⟨0, 1, S, rfl, rfl, by omega, by omega, Lib.hid ⟨HP.out, ?_, fun j h1 h2 => by omega⟩, HS, HW⟩
        have := beg_at (row := row) (L := P) (show 0 < W by omega)
        rw [this]; rfl
      case round =>
        clear HP HS HW
        obtain ⟨f, c, S, rfl, rfl, hfc, hcW, HP, HS, HW⟩ := hrel
        have c1 := (cell_of HW.out.1 1).trans (show _ = some (Value.int .i64 W) from rfl)
        obtain ⟨A, hA⟩ : ∃ A, row * W = A := ⟨_, rfl⟩
        have hA' : (row : Int) * (W : Int) = (A : Int) := by rw [← hA]; simp
        have hAb : A ≤ 1024 := by rw [← hA]; have := Nat.mul_le_mul (show row ≤ 64 by omega) s4'; omega
        rw [hA] at HP
        have HA := Lib.hid hA
        clear hA
        by_cases hcl : c < W
        · have hcl' : (c : Int) < (W : Int) := by omega
          have hc17 : (c : Int) < 17 := by omega
          obtain ⟨bq, hbq⟩ : ∃ bq, decide ((c : Int) ∈ P) = bq := ⟨_, rfl⟩
          have c4 : wr.cell? ⟨g4, c, none⟩ = some (.bool bq) := by rw [cell_of HW.out.2.1, lie_get _ (by omega), hbq]
          have HBeg : Hid (beg W P (A + c) = bq) := Lib.hid (by rw [← HA.out, beg_at hcl, hbq]; have : decide (c = 0) = false := by simp; omega
                                                                rw [this, Bool.false_or])
          clear hbq
          cases bq with
          | false =>
            go_wp2_with fail
            go_roundw
            case rel =>
              refine ⟨f, c + 1, S, rfl, by go_num, by omega, by omega, Lib.hid ?_, HS, HW⟩
              rw [HA.out]
              refine ⟨HP.out.1, HP.out.2.1, fun j h1 h2 => ?_⟩
              by_cases e : j = c
              · subst e; exact HBeg.out
              · exact HP.out.2.2 j h1 (by omega)
            case measure => simp [intOf]; omega
          | true =>
            obtain ⟨x, hx⟩ : ∃ x, A + f = x := ⟨_, rfl⟩
            have hx' : (A : Int) + (f : Int) = (x : Int) := by omega
            obtain ⟨y, hy⟩ : ∃ y, c - f = y := ⟨_, rfl⟩
            have hy' : (c : Int) - (f : Int) = (y : Int) := by omega
            have hPn : Parts (beg W P) (A + c) (S ++ [(x, y)]) := by
              have h1 := Parts.snoc (c := y) HP.out.1 HP.out.2.1 (by omega) (fun j h1 h2 => by
                have := HP.out.2.2 (j - A) (by omega) (by omega)
                rwa [show A + (j - A) = j by omega] at this)
              rw [show A + f + y = A + c by omega, hx] at h1; exact h1
            have HPn := Lib.hid hPn
            have hSl : S.length ≤ 1000000 := by have := HP.out.1.len; omega
            obtain ⟨a, cc, w2, hrun, hS2, hf2, ho2⟩ := Sps.app HS.out.1 hSl (x, y)
            have HS2 := Lib.hid (show Sps w2 (.slice a (S.length + 1) cc) (S ++ [(x, y)]) ∧ (∀ b, (Value.slice a (S.length + 1) cc).ownBlock = some b → w.heap.size ≤ b ∧ b ≠ g1 ∧ b ≠ g4) from ⟨hS2, fun b hb => by
              rcases ho2 b hb with h | h
              · exact HS.out.2 b h
              · have q1 := HW.out.2.2.size; have q2 := lt_of_block HW.out.1; have q3 := lt_of_block HW.out.2.1
                omega⟩)
            have HW2 := Lib.hid (show w2.heap[g1]? = some (.cells #[.int .i64 R, .int .i64 W, sv] 24 (0, 0)) ∧ w2.heap[g4]? = some (.cells (lieArr P) 75 (0, 0)) ∧ Fr (fun _ => False) w w2 from
              ⟨hf2.get HW.out.1 (fun h => (HS.out.2 _ h).2.1 rfl), hf2.get HW.out.2.1 (fun h => (HS.out.2 _ h).2.2 rfl), ((HW.out.2.2.mono (G := fun b => w.heap.size ≤ b) (fun _ _ h => h.elim)).trans hf2 (fun b _ h => (HS.out.2 b h).1)).toNew⟩)
            have Hrun := Lib.hid hrun
            have c1' := (cell_of HW2.out.1 1).trans (show _ = some (Value.int .i64 W) from rfl)
            have bw : ((c : Int) == (W : Int)) = false := by simp; omega
            clear hrun hS2 hf2 ho2 hPn hx hy
            go_wp2_with (at_builtin; refine wpList_append_run rfl _ _ _ rfl rfl rfl Hrun.out ?_)
            go_roundw
            case rel =>
              refine ⟨c, c + 1, _, rfl, by go_num, by omega, by omega, Lib.hid ?_, HS2, HW2⟩
              rw [HA.out]
              exact ⟨HPn.out, HBeg.out, fun j h1 h2 => by omega⟩
            case measure => simp [intOf]; omega
        · obtain rfl : c = W := by omega
          have hcl' : decide (c < c) = false := by simp
          obtain ⟨x, hx⟩ : ∃ x, A + f = x := ⟨_, rfl⟩
          have hx' : (A : Int) + (f : Int) = (x : Int) := by omega
          obtain ⟨y, hy⟩ : ∃ y, c - f = y := ⟨_, rfl⟩
          have hy' : (c : Int) - (f : Int) = (y : Int) := by omega
          have hPn : Parts (beg c P) ((row + 1) * c) (S ++ [(x, y)]) := by
            have h1 := Parts.snoc (c := y) HP.out.1 HP.out.2.1 (by omega) (fun j h1 h2 => by
              have := HP.out.2.2 (j - A) (by omega) (by omega)
              rwa [show A + (j - A) = j by omega] at this)
            rw [Nat.add_mul, HA.out, Nat.one_mul]
            rw [show A + f + y = A + c by omega, hx] at h1; exact h1
          have HPn := Lib.hid hPn
          have hSl : S.length ≤ 1000000 := by have := HP.out.1.len; omega
          obtain ⟨a, cc, w2, hrun, hS2, hf2, ho2⟩ := Sps.app HS.out.1 hSl (x, y)
          have HS2 := Lib.hid (show Sps w2 (.slice a (S.length + 1) cc) (S ++ [(x, y)]) ∧ (∀ b, (Value.slice a (S.length + 1) cc).ownBlock = some b → w.heap.size ≤ b ∧ b ≠ g1 ∧ b ≠ g4) from ⟨hS2, fun b hb => by
            rcases ho2 b hb with h | h
            · exact HS.out.2 b h
            · have q1 := HW.out.2.2.size; have q2 := lt_of_block HW.out.1; have q3 := lt_of_block HW.out.2.1
              omega⟩)
          have HW2 := Lib.hid (show w2.heap[g1]? = some (.cells #[.int .i64 R, .int .i64 c, sv] 24 (0, 0)) ∧ w2.heap[g4]? = some (.cells (lieArr P) 75 (0, 0)) ∧ Fr (fun _ => False) w w2 from
            ⟨hf2.get HW.out.1 (fun h => (HS.out.2 _ h).2.1 rfl), hf2.get HW.out.2.1 (fun h => (HS.out.2 _ h).2.2 rfl), ((HW.out.2.2.mono (G := fun b => w.heap.size ≤ b) (fun _ _ h => h.elim)).trans hf2 (fun b _ h => (HS.out.2 b h).1)).toNew⟩)
          have Hrun := Lib.hid hrun
          have c1' := (cell_of HW2.out.1 1).trans (show _ = some (Value.int .i64 c) from rfl)
          clear hrun hS2 hf2 ho2 hPn hx hy
          go_wp2_with (at_builtin; refine wpList_append_run rfl _ _ _ rfl rfl rfl Hrun.out ?_)
          go_roundw
          case rel => exact ⟨row + 1, _, by go_num, by omega, HPn, HS2, HW2⟩
          case measure => simp [intOf]; omega
    · have hlt' : ¬ (row : Int) < (R : Int) := by omega
      obtain rfl : row = R := by omega
      go_wp2_with fail
      try rw [Exit.noGoto_ret]
      go_ret2
      exact ⟨⟨_, S, rfl, HP.out, HS.out.1, fun b hb => (HS.out.2 b hb).1⟩, HW.out.2.2⟩
end Go.Proofs.YthckfbfenfkdiaaDoor.Py
