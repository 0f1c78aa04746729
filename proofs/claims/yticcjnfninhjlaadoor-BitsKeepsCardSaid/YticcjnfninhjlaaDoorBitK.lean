/- The bytes of a set. No condition. -/
import Derived.Test.YticcjnfninhjlaaDoorBitJ
namespace Go.Proofs.YticcjnfninhjlaaDoor.Bt
open Go.RowKit
def u8v (x : Nat) : Value := .int .u8 x
theorem Tryd.infoU8 : (Tryd.prog.info? 5).map (fun i => (i.zero, i.size, i.bytes)) = some (some (.int .u8 0), 1, 1) := by kernel_rfl
theorem parts8 (j : Nat) (h : j ≤ 1000000000) : ∃ q r s : Nat, wrap64 ((j : Int) / 8) = (q : Int) ∧ IntKind.i64.wrap ((j : Int) / 8) = (q : Int) ∧ (j : Int) % 8 = (r : Int) ∧ (j : Int).tmod 8 = (r : Int) ∧ (r : Int) * 8 = (s : Int) ∧ q = j / 8 ∧ s = j % 8 * 8 ∧ s < 64 :=
  ⟨j / 8, j % 8, j % 8 * 8, by unfold wrap64; omega, by rw [IntKind.wrap_i64]; omega, by omega, by rw [Int.tmod_eq_emod_of_nonneg (by omega)]; omega, by omega, rfl, rfl, by omega⟩
theorem row_set {w : World} {e : TypeId} {a : Option Addr} {n c : Nat} {xs : List Value} (h : Row w e 1 (.slice a n c) n xs) {i : Nat} (hi : i < n) : ∃ g, a = some ⟨g, 0, none⟩ ∧ w.cell? ⟨g, i, none⟩ = xs[i]? ∧ w.frozen? ⟨g, i, none⟩ = false ∧ ∀ x, Row (w.setCell ⟨g, i, none⟩ x) e 1 (.slice a n c) n (xs.set i x) := by
  rcases h.2 with ⟨_, h0⟩ | ⟨g, cap, cur, e1, _, k1, k2, k3, k4, k5⟩
  · omega
  · obtain ⟨rfl, _, rfl⟩ := Value.slice.inj e1
    refine ⟨g, rfl, ?_, free_of k1 i, ?_⟩
    · rw [cell_of k1 i, ← k5, List.getElem?_take, if_pos (by omega)]; simp
    · intro x
      refine ⟨by rw [List.length_set]; exact h.1, .inr ⟨g, c, _, rfl, Nat.zero_le _, setCell_blk (o := i) k1 x, k2, k3, by simpa using k4, ?_⟩⟩
      rw [← k5, Array.toList_setIfInBounds, List.take_set]
def bytesTo (B : List Bool) (i : Nat) : List Nat := (List.range (nb B.length)).map (fun k => if k < i then byt B k else 0)
theorem bytesTo_zero (B : List Bool) : (bytesTo B 0).map u8v = List.replicate (nb B.length) (.int .u8 0) := by
  apply List.ext_getElem
  · simp [bytesTo]
  · intro i h1 h2; simp [bytesTo, u8v]
theorem bytesTo_all (B : List Bool) : bytesTo B (nb B.length) = bytes B := by
  apply List.ext_getElem
  · simp [bytesTo, bytes]
  · intro i h1 h2
    have : i < nb B.length := by simpa [bytesTo] using h1
    simp [bytesTo, bytes, this]
theorem bytesTo_succ (B : List Bool) {i : Nat} (hi : i < nb B.length) : (bytesTo B (i + 1)).map u8v = ((bytesTo B i).map u8v).set i (.int .u8 (byt B i)) := by
  apply List.ext_getElem?
  intro k
  rw [List.getElem?_set]
  by_cases hk : k < nb B.length
  · by_cases e : i = k
    · subst e; simp [bytesTo, u8v, hi]
    · have : (k < i + 1) = (k < i) := propext ⟨fun h => by omega, fun h => by omega⟩
      simp [bytesTo, hk, e, this]
  · have : ¬ i = k := by omega
    simp [bytesTo, hk, this]
set_option maxRecDepth 100000 in
set_option maxHeartbeats 1000000 in
theorem bytes_ok {w : World} {bh : Nat} {v : Value} {B : List Bool} (h : SetAt w bh v B) : Calls Tryd.prog 12 #[.pointer (some ⟨bh, 0, none⟩)] w fun e w' => ∃ a c, e = .returned (.slice a (nb B.length) c) ∧ Row w' 5 1 (.slice a (nb B.length) c) (nb B.length) ((bytes B).map u8v) ∧ (∀ b, (Value.slice a (nb B.length) c).ownBlock = some b → w.heap.size ≤ b) ∧ Fr (fun _ => False) w w' := by
  have c1 := h.c1
  have H := Lib.hid h
  have hsm := h.small
  obtain ⟨n, hn⟩ : ∃ n, n = nb B.length := ⟨_, rfl⟩
  have hn9 : n ≤ 10000 := by rw [hn]; unfold nb; omega
  obtain ⟨i0, hi, hz0, hz1, hz2⟩ := info_parts Tryd.infoU8
  have hq : wrap64 (((B.length : Int) + 7) / 8) = (n : Int) := by rw [hn]; unfold nb wrap64; omega
  have hqt : ((B.length : Int) + 7).tdiv 8 = (n : Int) := by rw [Int.tdiv_eq_ediv_of_nonneg (by omega), hn]; unfold nb; omega
  have hsm' : (B.length : Int) ≤ 65536 := by omega
  have hmk := run_make (P := Tryd.prog) w 30 5 i0 (.int .u8 0) Tryd.underlying30 hi hz0 .i64 .i64 (n : Int) (n : Int) (by omega) (Int.le_refl _) (by rw [hz2]; omega) (by omega)
  have hrow : Row (w.alloc (.cells (madeCells #[.int .u8 0] n) 5)) 5 1 (.slice (some ⟨w.heap.size, 0, none⟩) n n) n ((bytesTo B 0).map u8v) := by
    refine ⟨by simp [bytesTo, hn], .inr ⟨w.heap.size, n, madeCells #[.int .u8 0] n, rfl, Nat.zero_le _, ?_, ?_, ?_, ?_, ?_⟩⟩
    · rw [heap_alloc_get]; simp
    · exact Nat.le_refl _
    · unfold maxLen; omega
    · simp [size_madeCells]
    · rw [made_list, bytesTo_zero, hn]; simp
  have Hrow := Lib.hid hrow; have Hn := Lib.hid hn; have Hsm := Lib.hid hsm
  have hz1' := hz1
  rw [hz1] at hmk
  simp only [Nat.mul_one, Int.toNat_natCast] at hmk
  rw [← hn]
  clear h hi hz0 hz1 hz2 hrow hn hsm hz1'
  go_enter Tryd.func12, Tryd.ntmps12
  go_wp2_with fail
  refine (there_ok H.out).mono ?_
  rintro e w1 ⟨rfl, rfl⟩
  go_upto_block 0 with fail
  go_cut [17] (fun _ wx => Row wx 5 1 (.slice (some ⟨w.heap.size, 0, none⟩) n n) n ((bytes B).map u8v) ∧ Fr (fun _ => False) w wx)
  case first =>
    go_wp2_with fail
    go_loopw [17] (fun s17 wr => ∃ i : Nat, i ≤ n ∧ s17 = .int .i64 i ∧ Row wr 5 1 (.slice (some ⟨w.heap.size, 0, none⟩) n n) n ((bytesTo B i).map u8v) ∧ Fr (fun _ => False) w wr) (fun s17 _ => n - (intOf s17).toNat)
    case atStart => exact ⟨0, Nat.zero_le _, rfl, Hrow.out, Fr.alloc (Fr.refl _ _) _⟩
    case round =>
      obtain ⟨i, hi, rfl, hr, fr⟩ := hrel
      have H1 := Lib.hid (H.out.fr fr (fun h => h) (fun _ _ h => h))
      have Hr := Lib.hid hr; have Hfr := Lib.hid fr
      clear hr fr
      by_cases hlt : i < n
      · have hlt' : (i : Int) < (n : Int) := by omega
        obtain ⟨q, r, s, hq8, hqw, hr8, hrt, hs8, hq1, hs1, hs64⟩ := parts8 i (by omega)
        have hqn : q < nw B.length := by have := Hn.out; unfold nb at this; unfold nw; omega
        obtain ⟨g, c, e, hc, _, _⟩ := row_u64 H1.out.row hqn
        have c2 := H1.out.c2
        rw [e] at c2
        obtain ⟨g2, e2, k1, k2, k3⟩ := row_set Hr.out hlt
        obtain rfl : w.heap.size = g2 := by simpa using e2
        have hx : IntKind.u8.wrap ((wd B q : Int) / 2 ^ s) = (byt B i : Int) := by
          rw [shr_nat, IntKind.wrap_u8, ← byt_wd B i, ← hq1, ← hs1]; omega
        obtain ⟨ol, hol⟩ : ∃ ol, ((bytesTo B i).map u8v)[i]? = some ol := ⟨_, List.getElem?_eq_getElem (by have := Hr.out.1; rw [this]; omega)⟩
        rw [hol] at k1
        have hnx := k3 (.int .u8 (byt B i))
        rw [← bytesTo_succ B (by rw [← Hn.out]; exact hlt)] at hnx
        have Hnx := Lib.hid hnx; have Hlt := Lib.hid hlt
        have hqn' : (q : Int) < (nw B.length : Int) := by omega
        clear e e2 k3 hol hnx hq1 hs1 hlt
        go_wp2_with fail
        go_roundw
        case rel => exact ⟨i + 1, Hlt.out, by first | (simp; done) | go_num, Hnx.out, Hfr.out.setCell (p := ⟨w.heap.size, i, none⟩) (fun h => by simp at h) _⟩
        case measure => have := Hlt.out; simp [intOf]; omega
      · obtain rfl : i = n := by omega
        clear hlt
        go_wp2_with fail
        go_meet
        have := Hr.out
        rw [Hn.out, bytesTo_all] at this
        rw [← Hn.out] at this
        exact ⟨this, Hfr.out⟩
  case rest =>
  obtain ⟨hr, hf⟩ := hcut
  have Hr := Lib.hid hr; have Hf := Lib.hid hf
  clear hr hf
  go_wp2_with fail
  go_ret
  exact ⟨some ⟨w.heap.size, 0, none⟩, n, rfl, Hr.out, fun b hb => by simp [Value.ownBlock] at hb; omega, Hf.out⟩
set_option maxRecDepth 100000 in
theorem bytes_no {w : World} {p : Option Addr} (h : NoSet w p) : Calls Tryd.prog 12 #[.pointer p] w fun e w' => e = .returned (.slice none 0 0) ∧ w = w' := by
  have H := Lib.hid h
  clear h
  go_enter Tryd.func12, Tryd.ntmps12
  go_wp2_with fail
  refine (there_no H.out).mono ?_
  rintro e w1 ⟨rfl, rfl⟩
  go_wp2_with fail
  go_ret
  exact ⟨rfl, rfl⟩
end Go.Proofs.YticcjnfninhjlaaDoor.Bt
