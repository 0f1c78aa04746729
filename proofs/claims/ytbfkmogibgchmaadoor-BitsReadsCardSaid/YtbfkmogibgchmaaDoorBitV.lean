/- The document's set: Bytes. No condition. -/
import Derived.Test.YtbfkmogibgchmaaDoorBitU
namespace Go.Proofs.YtbfkmogibgchmaaDoor.Bt
open Go.RowKit
def bytesL (B : List Bool) (i : Nat) : List Nat := (List.range (nb B.length)).map (bytTo B i)
theorem bytesL_zero (B : List Bool) : (bytesL B 0).map u8v = List.replicate (nb B.length) (.int .u8 0) := by
  apply List.ext_getElem
  · simp [bytesL]
  · intro i h1 h2; simp [bytesL, bytTo_zero, u8v]
theorem bytesL_all (B : List Bool) : bytesL B B.length = bytes B := by
  unfold bytesL bytes
  apply List.map_congr_left
  intro k _
  exact bytTo_all B k
theorem bytesL_off {B : List Bool} {i : Nat} (h : B.getD i false = false) : bytesL B (i + 1) = bytesL B i := by
  unfold bytesL
  apply List.map_congr_left
  intro k _
  exact bytTo_off B h k
theorem bytesL_on {B : List Bool} {i : Nat} (h : B.getD i false = true) (hi : i < B.length) : (bytesL B (i + 1)).map u8v = ((bytesL B i).map u8v).set (i / 8) (.int .u8 (bytTo B i (i / 8) ||| 2 ^ (i % 8) : Nat)) := by
  have hq : i / 8 < nb B.length := by unfold nb; omega
  apply List.ext_getElem?
  intro k
  rw [List.getElem?_set]
  by_cases hk : k < nb B.length
  · by_cases e : i / 8 = k
    · subst e; simp [bytesL, u8v, hq, bytTo_on B h]
    · simp [bytesL, hk, e, bytTo_other B (fun h => e h.symm)]
  · have : ¬ i / 8 = k := by omega
    simp [bytesL, hk, this]
theorem bytTo_lt (B : List Bool) (i k : Nat) : bytTo B i k < 256 := num_lt _ 8
theorem or8 {x r : Nat} (hx : x < 256) (hr : r < 8) : bits BinOp.or IntKind.u8 (x : Int) (IntKind.u8.wrap (2 ^ r)) = ((x ||| 2 ^ r : Nat) : Int) := by
  have hp : (2 : Nat) ^ r < 2 ^ 8 := Nat.pow_lt_pow_right (by decide) hr
  have e : (2 : Int) ^ r = ((2 ^ r : Nat) : Int) := by rw [Int.natCast_pow]; rfl
  have e2 : IntKind.u8.wrap (2 ^ r) = ((2 ^ r : Nat) : Int) := by
    rw [e, IntKind.wrap_u8]
    generalize (2 : Nat) ^ r = p at hp ⊢
    omega
  rw [e2]
  exact (bits_nat .u8 8 (by decide) wraps_u8 x (2 ^ r) hx hp).2
section
variable {w : World} {rh : Nat} {v : Value} {th : Bool} {B : List Bool}
set_option maxRecDepth 100000 in
set_option maxHeartbeats 2000000 in
theorem rbytes_ok (h : RefAt w rh v th B) : Calls Tryd.prog 53 #[.pointer (some ⟨rh, 0, none⟩)] w fun e w' => ∃ a c, e = .returned (.slice a (nb B.length) c) ∧ Row w' 5 1 (.slice a (nb B.length) c) (nb B.length) ((bytes B).map u8v) ∧ (∀ b, (Value.slice a (nb B.length) c).ownBlock = some b → w.heap.size ≤ b) ∧ Fr (fun _ => False) w w' := by
  have c1 := h.c1
  obtain ⟨a, c, rfl⟩ := h.shape
  have hsm : (B.length : Int) ≤ 65536 := by have := h.small; omega
  obtain ⟨n, hn⟩ : ∃ n, n = nb B.length := ⟨_, rfl⟩
  have hn9 : n ≤ 10000 := by rw [hn]; unfold nb; omega
  obtain ⟨i0, hi, hz0, hz1, hz2⟩ := info_parts Tryd.infoU8
  have hq : wrap64 (((B.length : Int) + 7) / 8) = (n : Int) := by rw [hn]; unfold nb wrap64; omega
  have hqt : ((B.length : Int) + 7).tdiv 8 = (n : Int) := by rw [Int.tdiv_eq_ediv_of_nonneg (by omega), hn]; unfold nb; omega
  have hmk := run_make (P := Tryd.prog) w 30 5 i0 (.int .u8 0) Tryd.underlying30 hi hz0 .i64 .i64 (n : Int) (n : Int) (by omega) (Int.le_refl _) (by rw [hz2]; omega) (by omega)
  have hrow : Row (w.alloc (.cells (madeCells #[.int .u8 0] n) 5)) 5 1 (.slice (some ⟨w.heap.size, 0, none⟩) n n) n ((bytesL B 0).map u8v) := by
    refine ⟨by simp [bytesL, hn], .inr ⟨w.heap.size, n, madeCells #[.int .u8 0] n, rfl, Nat.zero_le _, ?_, ?_, ?_, ?_, ?_⟩⟩
    · rw [heap_alloc_get]; simp
    · exact Nat.le_refl _
    · unfold maxLen; omega
    · simp [size_madeCells]
    · rw [made_list, bytesL_zero, hn]; simp
  have H := Lib.hid h
  have Hrow := Lib.hid hrow; have Hn := Lib.hid hn
  rw [hz1] at hmk
  simp only [Nat.mul_one, Int.toNat_natCast] at hmk
  rw [← hn]
  clear h hi hz0 hz1 hz2 hrow hn
  go_enter Tryd.func53, Tryd.ntmps53
  go_upto_block 0 with fail
  go_cut [4] (fun _ wx => Row wx 5 1 (.slice (some ⟨w.heap.size, 0, none⟩) n n) n ((bytes B).map u8v) ∧ Fr (fun _ => False) w wx)
  case first =>
    go_wp2_with fail
    go_loopw [4] (fun s4 wr => ∃ i : Nat, i ≤ B.length ∧ s4 = .int .i64 i ∧ Row wr 5 1 (.slice (some ⟨w.heap.size, 0, none⟩) n n) n ((bytesL B i).map u8v) ∧ Fr (fun _ => False) w wr) (fun s4 _ => B.length - (intOf s4).toNat)
    case atStart => exact ⟨0, Nat.zero_le _, rfl, Hrow.out, Fr.alloc (Fr.refl _ _) _⟩
    case round =>
      obtain ⟨i, hi, rfl, hr, fr⟩ := hrel
      have H1 := Lib.hid (H.out.fr fr (fun h => h) (fun _ _ h => h))
      have c1 := H1.out.c1
      have Hr := Lib.hid hr; have Hfr := Lib.hid fr
      clear hr fr
      by_cases hlt : i < B.length
      · have hlt' : (i : Int) < (B.length : Int) := by omega
        obtain ⟨g, rfl, kb⟩ := H1.out.bit hlt
        have Hlt := Lib.hid hlt
        cases hb : B.getD i false with
        | true =>
          rw [hb] at kb
          obtain ⟨q, r, s, hq8, hqw, hr8, hrt, hs8, hq1, hs1, hs64⟩ := parts8 i (by omega)
          have hrr : r = i % 8 := by omega
          have hr7 : (r : Int) < 8 := by omega
          have hqn : q < n := by rw [Hn.out, hq1]; unfold nb; omega
          have hqn' : (q : Int) < (n : Int) := by omega
          obtain ⟨g2, e2, k1, k2, k3⟩ := row_set Hr.out hqn
          obtain rfl : w.heap.size = g2 := by simpa using e2
          have kc : ((bytesL B i).map u8v)[q]? = some (.int .u8 (bytTo B i q)) := by
            have : q < nb B.length := by rw [← Hn.out]; exact hqn
            simp [bytesL, this, u8v]
          rw [kc] at k1
          have hor := or8 (bytTo_lt B i q) (by omega : r < 8)
          have hnx := k3 (.int .u8 (bytTo B i q ||| 2 ^ r : Nat))
          rw [hq1, hrr, ← bytesL_on hb hlt] at hnx
          rw [← hrr, ← hq1] at hnx
          rw [← hor] at hnx
          have Hnx := Lib.hid hnx
          have r0 : (0 : Int) ≤ (r : Int) := by omega
          clear hb hlt hnx k3 kc hor hq1 hs1 hrr e2 hs8 hs64
          go_wp2_with fail
          go_roundw
          case rel => exact ⟨i + 1, Hlt.out, by first | (simp; done) | go_num, Hnx.out, Hfr.out.setCell (p := ⟨w.heap.size, q, none⟩) (fun h => by simp at h) _⟩
          case measure => have := Hlt.out; simp [intOf]; omega
        | false =>
          rw [hb] at kb
          have Ht := Lib.hid (bytesL_off hb)
          clear hb hlt
          go_wp2_with fail
          go_roundw
          case rel => exact ⟨i + 1, Hlt.out, by first | (simp; done) | go_num, by rw [Ht.out]; exact Hr.out, Hfr.out⟩
          case measure => have := Hlt.out; simp [intOf]; omega
      · obtain rfl : i = B.length := by omega
        clear hlt
        go_wp2_with fail
        go_meet
        have := Hr.out
        rw [bytesL_all] at this
        exact ⟨this, Hfr.out⟩
  case rest =>
  obtain ⟨hr, hf⟩ := hcut
  have Hr := Lib.hid hr; have Hf := Lib.hid hf
  clear hr hf
  go_wp2_with fail
  go_ret
  exact ⟨some ⟨w.heap.size, 0, none⟩, n, rfl, Hr.out, fun b hb => by simp [Value.ownBlock] at hb; omega, Hf.out⟩
end
end Go.Proofs.YtbfkmogibgchmaaDoor.Bt
