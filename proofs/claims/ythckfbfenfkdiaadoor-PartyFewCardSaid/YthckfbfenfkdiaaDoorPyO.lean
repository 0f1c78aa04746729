/- Parties: the law's set. No condition. -/
import Derived.Test.YthckfbfenfkdiaaDoorPyN
namespace Go.Proofs.YthckfbfenfkdiaaDoor.Py
open Go.RowKit St Bt
/-- One number put into a set, if it may be. -/
def putB (B : List Bool) (t : Int) : List Bool := if 0 ≤ t ∧ t < (B.length : Int) then B.set t.toNat true else B
theorem putB_len (B : List Bool) (t : Int) : (putB B t).length = B.length := by unfold putB; split <;> simp
/-- Some numbers. -/
def setL (N : Nat) (T : List Int) : List Bool := T.foldl putB (List.replicate N false)
theorem foldl_len (T : List Int) : ∀ B : List Bool, (T.foldl putB B).length = B.length := by
  induction T with
  | nil => intro B; rfl
  | cons t T ih => intro B; rw [List.foldl_cons, ih, putB_len]
theorem setL_len (N : Nat) (T : List Int) : (setL N T).length = N := by unfold setL; rw [foldl_len]; simp
theorem setL_snoc (N : Nat) (T : List Int) (t : Int) : setL N (T ++ [t]) = putB (setL N T) t := by unfold setL; rw [List.foldl_append]; rfl
theorem foldl_get (T : List Int) : ∀ (B : List Bool) (j : Nat), j < B.length → (T.foldl putB B).getD j false = (B.getD j false || decide ((j : Int) ∈ T)) := by
  induction T with
  | nil => intro B j hj; simp
  | cons t T ih =>
    intro B j hj
    rw [List.foldl_cons, ih _ _ (by rw [putB_len]; exact hj)]
    unfold putB
    split
    · rename_i h
      by_cases e : t.toNat = j
      · have : (j : Int) = t := by omega
        simp [List.getD_eq_getElem?_getD, e, hj, this]
      · have : ¬ (j : Int) = t := by omega
        simp [List.getD_eq_getElem?_getD, e, this]
    · rename_i h
      have : ¬ (j : Int) = t := by omega
      simp [this]
theorem setL_get (N : Nat) (T : List Int) {j : Nat} (hj : j < N) : (setL N T).getD j false = decide ((j : Int) ∈ T) := by
  unfold setL
  rw [foldl_get _ _ _ (by simpa using hj)]
  simp [List.getD_eq_getElem?_getD, hj]
/-- How many seats the law counts. -/
def seatsN (r v : Int) (L : List Int) : Int := if rightB r v L then r * v else 0
set_option maxRecDepth 100000 in
set_option maxHeartbeats 1000000 in
theorem seatsN_ok {w : World} {sv : Value} {L : List Int} (h : RI w sv L) (r v : Int) : Calls Tryd.prog 13 #[.agg #[.int .i64 r, .int .i64 v, sv]] w fun e w' => e = .returned (.int .i64 (seatsN r v L)) ∧ Fr (fun _ => False) w w' := by
  have H := Lib.hid h
  clear h
  obtain ⟨q, hq⟩ : ∃ q, rightB r v L = q := ⟨_, rfl⟩
  have hs : seatsN r v L = if q then r * v else 0 := by unfold seatsN; rw [hq]
  rw [hs]
  have HQ := Lib.hid hq
  have hf0 : Fr (fun _ => False) w (w.alloc (.cells #[.int .i64 r, .int .i64 v, sv] 24)) := Fr.alloc (Fr.refl _ _) _
  have HF0 := Lib.hid hf0
  have HC := Lib.hid (right_any (H.out.keep hf0) r v hq)
  clear hq hs hf0
  cases q with
  | false =>
    go_enter Tryd.func13, Tryd.ntmps13
    go_wp2_with fail
    refine HC.out.mono ?_
    rintro e w1 ⟨rfl, hf⟩
    have HF := Lib.hid (HF0.out.trans hf (fun _ _ h => h))
    clear hf
    go_wp2_with fail
    go_ret
    exact ⟨rfl, HF.out⟩
  | true =>
    obtain ⟨n, hn, hn1, hn2⟩ := seatsI r v (right_size HQ.out)
    rw [if_pos rfl, hn]
    go_enter Tryd.func13, Tryd.ntmps13
    go_wp2_with fail
    refine HC.out.mono ?_
    rintro e w1 ⟨rfl, hf⟩
    have hb := hf.get (heap_alloc_at w (.cells #[.int .i64 r, .int .i64 v, sv] 24)) id
    have c0 := (cell_of hb 0).trans (show _ = some (Value.int .i64 r) from rfl)
    have c1 := (cell_of hb 1).trans (show _ = some (Value.int .i64 v) from rfl)
    have HF := Lib.hid (HF0.out.trans hf (fun _ _ h => h))
    clear hf hb
    go_wp2_with fail
    go_ret
    exact ⟨rfl, HF.out⟩
/-- What stands while the set is filled. -/
structure Fill (w : World) (b1 bh : Nat) (bv : Value) (r v off : Int) (sv tv : Value) (B : List Bool) (W : World) : Prop where
  box : W.heap[b1]? = some (.cells #[.int .i64 r, .int .i64 v, sv, tv, .int .i64 off] 41 (0, 0))
  set : SetAt W bh bv B
  new : w.heap.size ≤ bh ∧ w.heap.size ≤ b1 ∧ b1 ≠ bh
  newv : ∀ b, bv.ownBlock = some b → w.heap.size ≤ b ∧ b ≠ bh ∧ b ≠ b1
  fr : Fr (fun _ => False) w W
set_option maxRecDepth 100000 in
set_option maxHeartbeats 1000000 in
theorem set_ok {w : World} {sv tv : Value} {L T : List Int} (hL : RI w sv L) (hT : RI w tv T) (r v off : Int) {z : Int} (hz : IntKind.i64.wrap (seatsN r v L + off) = z) {N : Nat} (hN : max 0 (min z 2000) = (N : Int)) :
    Calls Tryd.prog 12 #[.agg #[.int .i64 r, .int .i64 v, sv, tv, .int .i64 off]] w fun e w' => ∃ bh bv, e = .returned (.tuple #[.pointer (some ⟨bh, 0, none⟩), .int .i64 N, .bool true]) ∧ NewSet w w' bh bv (setL N T) := by
  have HL := Lib.hid hL
  have HT0 := Lib.hid hT
  obtain ⟨a, c, rfl, hTl, hcs⟩ := hT
  have HCS := Lib.hid hcs
  obtain ⟨s, hs⟩ : ∃ s, s = seatsN r v L := ⟨_, rfl⟩
  have HS := Lib.hid hs
  rw [← hs] at hz
  have hf0 : Fr (fun _ => False) w (w.alloc (.cells #[.int .i64 r, .int .i64 v, sv, .slice a T.length c, .int .i64 off] 41)) := Fr.alloc (Fr.refl _ _) _
  have hb0 : (w.alloc (.cells #[.int .i64 r, .int .i64 v, sv, .slice a T.length c, .int .i64 off] 41)).heap[w.heap.size]? = some (.cells #[.int .i64 r, .int .i64 v, sv, .slice a T.length c, .int .i64 off] 41 (0, 0)) := heap_alloc_at _ _
  obtain ⟨W0, hW0⟩ : ∃ W0, W0 = w.alloc (.cells #[.int .i64 r, .int .i64 v, sv, .slice a T.length c, .int .i64 off] 41) := ⟨_, rfl⟩
  obtain ⟨b1, hb1⟩ : ∃ b1, b1 = w.heap.size := ⟨_, rfl⟩
  rw [← hW0] at hf0 hb0
  rw [← hb1] at hb0
  have HF0 := Lib.hid hf0; have HB0 := Lib.hid hb0; have HB1 := Lib.hid hb1
  have c0 := (cell_of hb0 0).trans (show _ = some (Value.int .i64 r) from rfl)
  have c1 := (cell_of hb0 1).trans (show _ = some (Value.int .i64 v) from rfl)
  have c2 := (cell_of hb0 2).trans (show _ = some sv from rfl)
  have c4 := (cell_of hb0 4).trans (show _ = some (Value.int .i64 off) from rfl)
  have lb1 : b1 < W0.heap.size := lt_of_block hb0
  obtain ⟨y, hy⟩ : ∃ y, min z 2000 = y := ⟨_, rfl⟩
  rw [hy] at hN
  have HC := Lib.hid (seatsN_ok (HL.out.keep (hf0.trans (Fr.drew (Fr.refl (fun _ => False) W0)) (fun _ _ h => h))) r v)
  rw [← HS.out] at HC
  have hN1 : N ≤ 2000 := by omega
  clear hL hcs hs hf0 hb0
  go_enter Tryd.func12, Tryd.ntmps12
  go_upto_region 1 with fail
  rw [← hW0, ← hb1]
  clear hW0 hb1
  go_cut [5] (fun s5 wx => s5 = .int .i64 N ∧ Hid (Fr (fun _ => False) W0 wx))
  case first =>
    go_upto_region 1 with fail
    go_region_held3 (fun w' => w'.cell? ⟨b1, 0, none⟩ = some (.int .i64 r) ∧ w'.cell? ⟨b1, 1, none⟩ = some (.int .i64 v) ∧ w'.cell? ⟨b1, 2, none⟩ = some sv ∧ w'.cell? ⟨b1, 4, none⟩ = some (.int .i64 off))
      (first | (go_keep; done) | (refine ⟨?_, ?_, ?_, ?_⟩ <;> (first | exact (hf.cell lb1 id).trans c0 | exact (hf.cell lb1 id).trans c1 | exact (hf.cell lb1 id).trans c2 | exact (hf.cell lb1 id).trans c4)))
      (first | (go_at_call 13; refine HC.out.mono ?_; rintro e w1 ⟨rfl, hf⟩))
    go_wp2_with fail
    go_meet
    exact ⟨rfl, Lib.hid ((Fr.drew (Fr.refl _ _)).trans hf (fun _ _ h => h))⟩
  case rest =>
  obtain ⟨rfl, HF1⟩ := hcut
  clear c0 c1 c2 c4 hy hz hN
  have HNew := Lib.hid (new_ok wc (n := (N : Int)) (by omega) (by omega))
  go_wp2_with fail
  refine HNew.out.mono ?_
  rintro e w1 ⟨bh, bv, rfl, hset, hbh, hbv, hf⟩
  rw [Int.toNat_natCast] at hset
  have q1 := HF1.out.size
  have q2 := HB1.out
  have q3 := HF0.out.size
  have HFill : Hid (Fill w b1 bh bv r v off sv (.slice a T.length c) (setL N []) w1) := Lib.hid ⟨hf.get (HF1.out.get HB0.out id) id, hset, ⟨by omega, by omega, by omega⟩, fun b hb => by have := hbv b hb; omega, (HF0.out.trans HF1.out (fun _ _ h => h)).trans hf (fun _ _ h => h)⟩
  clear hset hbh hbv hf q1 q2 q3 HNew HC lb1
  go_wp2_with fail
  go_loopw [8] (fun s8 wr => ∃ k : Nat, s8 = .int .i64 k ∧ k ≤ T.length ∧ Hid (Fill w b1 bh bv r v off sv (.slice a T.length c) (setL N (T.take k)) wr)) (fun s8 _ => T.length - (intOf s8).toNat)
  case atStart => exact ⟨0, rfl, Nat.zero_le _, HFill⟩
  case round =>
    clear HFill
    obtain ⟨k, rfl, hk, HFill⟩ := hrel
    have c3 := (cell_of HFill.out.box 3).trans (show _ = some (Value.slice a T.length c) from rfl)
    by_cases hlt : k < T.length
    · have hlt' : (k : Int) < (T.length : Int) := by omega
      obtain ⟨b, o, rfl, hcc⟩ := HCS.out.resolve_left (by intro e; subst e; simp at hlt)
      have hck := hcc k hlt
      have hcw : wr.cell? ⟨b, o + k, none⟩ = some (.int .i64 T[k]) := by
        rw [HFill.out.fr.cell (World.block_lt_of_cell? _ _ hck) id]; exact hck
      obtain ⟨x, hx⟩ : ∃ x, x = T[k] := ⟨_, rfl⟩
      have HTK : Hid (setL N (T.take (k + 1)) = putB (setL N (T.take k)) x) := Lib.hid (by rw [snoc_take hlt, setL_snoc, ← hx])
      rw [← hx] at hcw
      have hBl := Lib.hid (setL_len N (T.take k))
      clear hck hcc hx
      by_cases t1 : 0 ≤ x
      · have d1 : decide (0 ≤ x) = true := by simpa using t1
        by_cases t2 : x < (N : Int)
        · have d2 : decide (x < (N : Int)) = true := by simpa using t2
          obtain ⟨j, rfl⟩ : ∃ j : Nat, x = (j : Int) := ⟨x.toNat, by omega⟩
          have d2' : decide (j < N) = true := by simpa using t2
          have HPut := Lib.hid (put_in HFill.out.set (fun e => (HFill.out.newv _ e).2.1 rfl) (j := j) (by rw [hBl.out]; omega))
          have HPB : Hid (setL N (T.take (k + 1)) = (setL N (T.take k)).set j true) := Lib.hid (by
            rw [HTK.out]; unfold putB; rw [if_pos ⟨by omega, by rw [hBl.out]; exact t2⟩]; simp)
          clear t1 t2
          go_wp2_with fail
          refine HPut.out.mono ?_
          rintro e w2 ⟨rfl, hset, hf⟩
          have HFill2 : Hid (Fill w b1 bh bv r v off sv (.slice (some ⟨b, o, none⟩) T.length c) (setL N (T.take (k + 1))) w2) := Lib.hid ⟨hf.get HFill.out.box (fun e => (HFill.out.newv _ e).2.2 rfl), by rw [HPB.out]; exact hset, HFill.out.new, HFill.out.newv,
            ((HFill.out.fr.mono (G := fun b => w.heap.size ≤ b) (fun _ _ h => h.elim)).trans hf (fun b _ h => (HFill.out.newv b h).1)).toNew⟩
          clear hset hf
          go_wp2_with fail
          go_roundw
          case rel => exact ⟨k + 1, by go_num, by omega, HFill2⟩
          case measure => simp [intOf]; omega
        · have d2 : decide (x < (N : Int)) = false := by simpa using t2
          have HFill2 : Hid (Fill w b1 bh bv r v off sv (.slice (some ⟨b, o, none⟩) T.length c) (setL N (T.take (k + 1))) wr) := Lib.hid (by
            rw [HTK.out]; unfold putB; rw [if_neg (fun h => t2 (by have := h.2; rw [hBl.out] at this; exact this))]; exact HFill.out)
          clear t1 t2
          go_wp2_with fail
          go_roundw
          case rel => exact ⟨k + 1, by go_num, by omega, HFill2⟩
          case measure => simp [intOf]; omega
      · have d1 : decide (0 ≤ x) = false := by simpa using t1
        have HFill2 : Hid (Fill w b1 bh bv r v off sv (.slice (some ⟨b, o, none⟩) T.length c) (setL N (T.take (k + 1))) wr) := Lib.hid (by
          rw [HTK.out]; unfold putB; rw [if_neg (fun h => t1 h.1)]; exact HFill.out)
        clear t1
        go_wp2_with fail
        go_roundw
        case rel => exact ⟨k + 1, by go_num, by omega, HFill2⟩
        case measure => simp [intOf]; omega
    · have hlt' : ¬ (k : Int) < (T.length : Int) := by omega
      obtain rfl : k = T.length := by omega
      go_wp2_with fail
      go_ret3
      refine ⟨bh, rfl, bv, ?_⟩
      have h1 := HFill.out
      rw [List.take_length] at h1
      exact ⟨h1.set, h1.new.1, fun b hb => ⟨(h1.newv b hb).1, (h1.newv b hb).2.1⟩, h1.fr⟩
end Go.Proofs.YthckfbfenfkdiaaDoor.Py
