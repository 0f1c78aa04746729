/- Parties: copies of cabins, runs compared, the law's set. No condition. -/
import Derived.Test.YthckfbfenfkdiaaDoorPyL
import Derived.Test.YthckfbfenfkdiaaDoorPyM
namespace Go.Proofs.YthckfbfenfkdiaaDoor.Py
open Go.RowKit St Bt
set_option maxRecDepth 100000 in
theorem put_in {w : World} {bh : Nat} {v : Value} {B : List Bool} (h : SetAt w bh v B) (hne : v.ownBlock ≠ some bh) {j : Nat} (h1 : j < B.length) : Calls Tryd.prog 17 #[.pointer (some ⟨bh, 0, none⟩), .int .i64 j] w fun e w' => e = .returned (.int .i64 0) ∧ SetAt w' bh v (B.set j true) ∧ Fr (fun b => v.ownBlock = some b) w w' := by
  have HC := Lib.hid (change_true h hne h1)
  clear h hne h1
  go_enter Tryd.func17, Tryd.ntmps17
  go_wp2_with fail
  refine HC.out.mono ?_
  rintro e w1 ⟨rfl, h2, f2⟩
  go_wp2_with fail
  go_ret
  exact ⟨rfl, h2, f2⟩
theorem Ints.ri {w : World} {sv : Value} {L : List Int} (h : Ints w sv L) (hl : L.length ≤ 140737488355328) : RI w sv L := by
  rcases h.2 with ⟨rfl, h0⟩ | ⟨g, cap, cur, rfl, _, hb, hc1, hc2, hcs, htk⟩
  · have : L = [] := List.eq_nil_of_length_eq_zero h0
    subst this
    exact ⟨none, 0, rfl, Nat.zero_le _, .inl rfl⟩
  · refine ⟨some ⟨g, 0, none⟩, cap, rfl, hl, .inr ⟨g, 0, rfl, fun i hi => ?_⟩⟩
    rw [Nat.zero_add, cell_of hb]
    have : (cur.toList.take (L.length * 1))[i]? = (L.map i64v)[i]? := by rw [htk]
    rw [List.getElem?_take, if_pos (by omega), Array.getElem?_toList] at this
    rw [this]
    simp [hi, i64v]
set_option maxRecDepth 100000 in
theorem copyInts_ok {w : World} {sv : Value} {L : List Int} (h : RI w sv L) (hb : L.length * 8 ≤ 140737488355328) : Calls Tryd.prog 23 #[sv] w fun e w' => (∃ ov, e = .returned ov ∧ Ints w' ov L ∧ (∀ b, ov.ownBlock = some b → w.heap.size ≤ b)) ∧ Fr (fun _ => False) w w' := by
  obtain ⟨a, c, rfl, hlen, hcs⟩ := h
  obtain ⟨i0, hi, hz0, hz1, hz2⟩ := info_parts Tryd.infoIntP
  have key : ∃ ov w2, (Builtin.append_ #[22, 22] 22 #[.slice none 0 0, .slice a L.length c]).run Tryd.prog w = .ok ov w2 ∧ Ints w2 ov L ∧ (∀ b, ov.ownBlock = some b → w.heap.size ≤ b) ∧ Fr (fun _ => False) w w2 := by
    have hnil : Row w 3 1 (.slice none 0 0) 0 [] := World.ownsRow_nil w 0 _ 1
    have go : ∀ (p : Addr) (hp : ∀ j u, (L.map i64v)[j]? = some u → w.cell? (p.add j) = some u), ∃ ov w2, (Builtin.append_ #[22, 22] 22 #[.slice none 0 0, .slice (some p) L.length c]).run Tryd.prog w = .ok ov w2 ∧ Ints w2 ov L ∧ (∀ b, ov.ownBlock = some b → w.heap.size ≤ b) ∧ Fr (fun _ => False) w w2 := by
      intro p hp
      obtain ⟨v', w3, hrun, hR3, hf3, ho3⟩ := run_append_fr (P := Tryd.prog) w 22 22 3 i0 _ 1 8 Tryd.underlying22 hi hz0 hz1 hz2 rfl (by decide) _ _ _ hnil p L.length c (L.map i64v) (by simp) hp ints_one (by unfold maxLen; omega) (by omega)
      refine ⟨v', w3, hrun, by simpa using hR3, fun b hb => ?_, hf3.mono (fun x _ hx => by simp [Value.ownBlock] at hx)⟩
      rcases ho3 with h | h
      · rw [h] at hb; simp [Value.ownBlock] at hb
      · rw [h] at hb; simp at hb; omega
    rcases hcs with rfl | ⟨b, o, rfl, hc⟩
    · cases a with
      | none =>
        refine ⟨.slice none 0 0, w, ?_, World.ownsRow_nil w 0 _ 1, fun b hb => by simp [Value.ownBlock] at hb, Fr.refl _ _⟩
        exact run_append_nothing w 22 22 22 3 i0 Tryd.underlying22 hi none 0 0 (Nat.le_refl _) _ (Src.ofNil w Tryd.underlying22 c)
      | some p => exact go p (fun j u hu => by simp at hu)
    · refine go ⟨b, o, none⟩ (fun j u hu => ?_)
      have hj : j < L.length := by have := (List.getElem?_eq_some_iff.1 hu).1; simpa using this
      have e2 : (⟨b, o, none⟩ : Addr).add j = ⟨b, o + j, none⟩ := by
        by_cases h0 : j = 0
        · subst h0; simp [Addr.add]
        · simp [Addr.add, h0]
      rw [e2, hc j hj, ← hu]
      simp [hj, i64v]
  obtain ⟨ov, w2, hrun, hI, ho, hf⟩ := key
  have Hrun := Lib.hid hrun
  clear hrun hcs
  go_enter Tryd.func23, Tryd.ntmps23
  go_wp2_with (at_builtin; refine wpList_append_run rfl _ _ _ rfl rfl rfl Hrun.out ?_)
  go_ret
  exact ⟨⟨_, rfl, hI, ho⟩, hf⟩
theorem res_cell {w : World} {b : Nat} {arr : Array Value} (hb : w.heap[b]? = some (.cells arr 24 (0, 0))) (hs : arr.size = 3) : (loadVar 24 ⟨b, 0, none⟩).run Tryd.prog w = .ok (.agg arr) w :=
  run_loadVar_row (P := Tryd.prog) w b 24 24 arr (0, 0) _ hb Tryd.underlying24 rfl (by rw [hs]; kernel_rfl)
set_option maxRecDepth 100000 in
set_option maxHeartbeats 1000000 in
theorem copyCabin_ok {w : World} {sv : Value} {L : List Int} (h : RI w sv L) (hb : L.length * 8 ≤ 140737488355328) (r v : Int) : Calls Tryd.prog 9 #[.agg #[.int .i64 r, .int .i64 v, sv]] w fun e w' => (∃ ov, e = .returned (.agg #[.int .i64 r, .int .i64 v, ov]) ∧ Ints w' ov L ∧ (∀ b, ov.ownBlock = some b → w.heap.size ≤ b)) ∧ Fr (fun _ => False) w w' := by
  have H := Lib.hid h
  have HB := Lib.hid hb
  clear h hb
  have hf0 : Fr (fun _ => False) w ((w.alloc (.cells #[.int .i64 r, .int .i64 v, sv] 24)).alloc (.cells #[.int .i64 0, .int .i64 0, .slice none 0 0] 24)) := Fr.alloc (Fr.alloc (Fr.refl _ _) _) _
  have hz : ((w.alloc (.cells #[.int .i64 r, .int .i64 v, sv] 24)).alloc (.cells #[.int .i64 0, .int .i64 0, .slice none 0 0] 24)).heap.size = w.heap.size + 2 := by simp
  have hb1 : ((w.alloc (.cells #[.int .i64 r, .int .i64 v, sv] 24)).alloc (.cells #[.int .i64 0, .int .i64 0, .slice none 0 0] 24)).heap[w.heap.size]? = some (.cells #[.int .i64 r, .int .i64 v, sv] 24 (0, 0)) := by simp only [heap_alloc_get]; simp
  have hb2 : ((w.alloc (.cells #[.int .i64 r, .int .i64 v, sv] 24)).alloc (.cells #[.int .i64 0, .int .i64 0, .slice none 0 0] 24)).heap[w.heap.size + 1]? = some (.cells #[.int .i64 0, .int .i64 0, .slice none 0 0] 24 (0, 0)) := by simp only [heap_alloc_get]; simp
  have HF0 := Lib.hid hf0; have HZ := Lib.hid hz; have HB1 := Lib.hid hb1; have HB2 := Lib.hid hb2
  have HC := Lib.hid (copyInts_ok (H.out.keep hf0) HB.out)
  have c12 := (cell_of hb1 2).trans (show _ = some sv from rfl)
  clear hf0 hz hb1 hb2
  go_enter Tryd.func9, Tryd.ntmps9
  go_wp2_with fail
  refine HC.out.mono ?_
  rintro e w1 ⟨⟨ov, rfl, hI, ho⟩, hf⟩
  obtain ⟨oa, oc, rfl⟩ : ∃ oa oc, ov = .slice oa L.length oc := by
    rcases hI.2 with ⟨rfl, h0⟩ | ⟨g, cap, cur, rfl, _⟩
    · exact ⟨none, 0, by rw [h0]⟩
    · exact ⟨_, _, rfl⟩
  have hg1 := hf.get HB1.out id
  have hg2 := hf.get HB2.out id
  have HG1 := Lib.hid hg1
  have HG2 := Lib.hid hg2
  have HO := Lib.hid (show ∀ b, (Value.slice oa L.length oc).ownBlock = some b → w.heap.size + 2 ≤ b from fun b hb => by have := ho b hb; rw [HZ.out] at this; exact this)
  have x0 := (cell_of hg1 0).trans (show _ = some (Value.int .i64 r) from rfl)
  have x1 := (cell_of hg1 1).trans (show _ = some (Value.int .i64 v) from rfl)
  have x2 := (cell_of hg1 2).trans (show _ = some sv from rfl)
  have y0 := (cell_of hg2 0).trans (show _ = some (Value.int .i64 0) from rfl)
  have y1 := (cell_of hg2 1).trans (show _ = some (Value.int .i64 0) from rfl)
  have y2 := (cell_of hg2 2).trans (show _ = some (Value.slice none 0 0) from rfl)
  have z1 : ∀ o, w1.frozen? ⟨w.heap.size, o, none⟩ = false := free_of hg1
  have z2 : ∀ o, w1.frozen? ⟨w.heap.size + 1, o, none⟩ = false := free_of hg2
  have HI := Lib.hid hI
  have HF := Lib.hid (HF0.out.trans hf (fun _ _ h => h))
  clear hI ho hf hg1 hg2 HC c12
  go_wp2_with fail
  have hblk : ((((w1.setCell ⟨w.heap.size, 2, none⟩ (.slice oa L.length oc)).setCell ⟨w.heap.size + 1, 0, none⟩ (.int .i64 r)).setCell ⟨w.heap.size + 1, 1, none⟩ (.int .i64 v)).setCell ⟨w.heap.size + 1, 2, none⟩ (.slice oa L.length oc)).heap[w.heap.size + 1]? = some (.cells #[.int .i64 r, .int .i64 v, .slice oa L.length oc] 24 (0, 0)) := by
    rw [setCell_blk (o := 2) (setCell_blk (o := 1) (setCell_blk (o := 0) ((setCell_blk_ne (a := ⟨w.heap.size, 2, none⟩) (by simp) _).trans HG2.out) _) _) _]
    rfl
  have hfr : Fr (fun x => x = w.heap.size ∨ x = w.heap.size + 1) w1 ((((w1.setCell ⟨w.heap.size, 2, none⟩ (.slice oa L.length oc)).setCell ⟨w.heap.size + 1, 0, none⟩ (.int .i64 r)).setCell ⟨w.heap.size + 1, 1, none⟩ (.int .i64 v)).setCell ⟨w.heap.size + 1, 2, none⟩ (.slice oa L.length oc)) :=
    Fr.setCell (Fr.setCell (Fr.setCell (Fr.setCell (Fr.refl _ _) (fun _ => .inl rfl) _) (fun _ => .inr rfl) _) (fun _ => .inr rfl) _) (fun _ => .inr rfl) _
  refine bodyPost_ret (v := .agg #[.int .i64 r, .int .i64 v, .slice oa L.length oc]) (results_cell_row rfl _ _ (w.heap.size + 1) 24 _ (0, 0) _ rfl hblk Tryd.underlying24 rfl (by kernel_rfl)) rfl ⟨⟨_, rfl, Row.fr HI.out hfr (fun b hb hF => by have := HO.out b hb; omega), fun b hb => by have := HO.out b hb; omega⟩, ?_⟩
  exact ((HF.out.mono (G := fun b => w.heap.size ≤ b) (fun _ _ h => h.elim)).trans hfr (fun b _ h => by omega)).toNew
theorem eqIff (x y : Sp) : ((x.1 : Int) == (y.1 : Int) && ((x.2 : Int) == (y.2 : Int))) = decide (x = y) := by
  obtain ⟨a, b⟩ := x
  obtain ⟨a', b'⟩ := y
  by_cases h1 : a = a' <;> by_cases h2 : b = b' <;> (simp [h1, h2]; try omega)
theorem equalSp (w : World) (a b a' b' : Int) : (Op.equalIn 10000 45 (.agg #[.int .i64 a, .int .i64 b]) (.agg #[.int .i64 a', .int .i64 b'])).run Tryd.prog w = .ok (a == a' && b == b') w := by
  rw [run_equalIn_agg (P := Tryd.prog) w 9999 45 _ _ (by kernel_rfl) Tryd.stoodInHeld45]
  have hf : (Tryd.prog.fieldsOf 45).toList.map (fun f => (decide (f.name = "_"), f.type, f.offset)) = [(false, 3, 0), (false, 3, 1)] := by kernel_rfl
  revert hf
  generalize (Tryd.prog.fieldsOf 45).toList = fs
  intro hf
  rcases fs with _ | ⟨f1, _ | ⟨f2, _ | ⟨f3, fs⟩⟩⟩
  · simp at hf
  · simp at hf
  · simp only [List.map_cons, List.map_nil, List.cons.injEq, Prod.mk.injEq, and_true] at hf
    obtain ⟨⟨a1, a2, a3⟩, b1, b2, b3⟩ := hf
    cases h1 : (a == a') <;> cases h2 : (b == b') <;>
      simp [Op.eqFields, of_decide_eq_false a1, of_decide_eq_false b1, a2, a3, b2, b3, go_sem, h1, h2]
  · simp at hf
theorem neqSp (w : World) (x y : Sp) : (binOp .neq 45 (.agg #[.int .i64 (x.1 : Int), .int .i64 (x.2 : Int)]) (.agg #[.int .i64 (y.1 : Int), .int .i64 (y.2 : Int)])).run Tryd.prog w = .ok (.bool (!decide (x = y))) w := by
  rw [run_neq_struct, equalSp, eqIff]; rfl
theorem sps_slice {w : World} {v : Value} {S : List Sp} (h : Sps w v S) : ∃ a c, v = .slice a S.length c := by
  rcases h.2 with ⟨rfl, h0⟩ | ⟨g, cap, cur, rfl, _⟩
  · exact ⟨none, 0, by rw [h0]⟩
  · exact ⟨_, _, rfl⟩
theorem take_nxt {S T : List Sp} {k : Nat} (h : S.take k = T.take k) (h1 : k < S.length) (h2 : k < T.length) (e : S[k] = T[k]) : S.take (k + 1) = T.take (k + 1) := by
  rw [List.take_succ_eq_append_getElem h1, List.take_succ_eq_append_getElem h2, h, e]
set_option maxRecDepth 100000 in
set_option maxHeartbeats 1000000 in
theorem sameSpans_ok {w : World} {va vb : Value} {S T : List Sp} (h1 : Sps w va S) (h2 : Sps w vb T) (hn : S.length ≤ 1000000) (hm : T.length ≤ 1000000) {q : Bool} (hq : decide (S = T) = q) :
    Calls Tryd.prog 32 #[va, vb] w fun e w' => e = .returned (.bool q) ∧ Fr (fun _ => False) w w' := by
  obtain ⟨a1, c1, e1⟩ := sps_slice h1
  obtain ⟨a2, c2, e2⟩ := sps_slice h2
  subst e1; subst e2
  have H1 := Lib.hid h1; have H2 := Lib.hid h2; have HQ := Lib.hid hq
  obtain ⟨n, hnn⟩ : ∃ n, n = S.length := ⟨_, rfl⟩
  obtain ⟨m, hmm⟩ : ∃ m, m = T.length := ⟨_, rfl⟩
  rw [← hnn] at H1 hn
  rw [← hmm] at H2 hm
  rw [← hnn, ← hmm]
  clear h1 h2 hq
  by_cases hlen : n = m
  · subst hlen
    have HN := Lib.hid hnn; have HM := Lib.hid hmm
    have hne : ((n : Int) != (n : Int)) = false := by simp
    clear hnn hmm
    go_enter Tryd.func32, Tryd.ntmps32
    go_wp2_with fail
    go_loopw [5] (fun s5 wr => ∃ k : Nat, k ≤ n ∧ s5 = .int .i64 k ∧ Hid (S.take k = T.take k) ∧ Hid (Fr (fun _ => False) w wr)) (fun s5 _ => n - (intOf s5).toNat)
    case atStart => exact ⟨0, Nat.zero_le _, rfl, Lib.hid rfl, Lib.hid (Fr.refl _ _)⟩
    case round =>
      obtain ⟨k, hk, rfl, HT, HF⟩ := hrel
      clear hne
      by_cases hlt : k < n
      · have hlt' : (k : Int) < (n : Int) := by omega
        have k0 : (0 : Int) ≤ (k : Int) := by omega
        have g1 : Sps wr (.slice a1 n c1) S := Row.fr H1.out HF.out (fun _ _ h => h)
        have g2 : Sps wr (.slice a2 n c2) T := Row.fr H2.out HF.out (fun _ _ h => h)
        have hkS : k < S.length := by rw [← HN.out]; exact hlt
        have hkT : k < T.length := by rw [← HM.out]; exact hlt
        obtain ⟨g, cap, e1, d⟩ := Els.cells enc_len g1 hkS
        obtain ⟨g', cap', e2, d'⟩ := Els.cells enc_len g2 hkT
        obtain rfl : a1 = some ⟨g, 0, none⟩ := (Value.slice.inj e1).1
        obtain rfl : a2 = some ⟨g', 0, none⟩ := (Value.slice.inj e2).1
        have d0 : wr.cell? ⟨g, k * 2, none⟩ = some (.int .i64 S[k].1) := d 0 (by omega)
        have d1 : wr.cell? ⟨g, k * 2 + 1, none⟩ = some (.int .i64 S[k].2) := d 1 (by omega)
        have b0 : wr.cell? ⟨g', k * 2, none⟩ = some (.int .i64 T[k].1) := d' 0 (by omega)
        have b1 : wr.cell? ⟨g', k * 2 + 1, none⟩ = some (.int .i64 T[k].2) := d' 1 (by omega)
        obtain ⟨x, hx⟩ : ∃ x, x = S[k] := ⟨_, rfl⟩
        obtain ⟨y, hy⟩ : ∃ y, y = T[k] := ⟨_, rfl⟩
        rw [← hx] at d0 d1
        rw [← hy] at b0 b1
        have hq := fun W => neqSp W x y
        have HX := Lib.hid hx; have HY := Lib.hid hy
        clear d d' e1 e2 g1 g2 hx hy
        by_cases e : x = y
        · rw [decide_eq_true e] at hq
          have HE := Lib.hid e
          clear e
          go_upto_block 1 with fail
          go_upto_region 6 with fail
          go_still (by kernel_rfl)
          go_wp2_with fail
          go_roundw
          case rel => exact ⟨k + 1, by omega, by go_num, Lib.hid (take_nxt HT.out hkS hkT (by rw [← HX.out, ← HY.out]; exact HE.out)), Lib.hid HF.out.drew⟩
          case measure => simp [intOf]; omega
        · rw [decide_eq_false e] at hq
          have hqf : q = false := by
            rw [← HQ.out]
            exact decide_eq_false (fun h => e (by subst h; rw [HX.out, HY.out]))
          subst hqf
          clear e
          go_upto_block 1 with fail
          go_upto_region 6 with fail
          go_still (by kernel_rfl)
          go_wp2_with fail
          go_ret
          exact ⟨rfl, HF.out.drew⟩
      · have hlt' : ¬ (k : Int) < (n : Int) := by omega
        obtain rfl : k = n := by omega
        have hqt : q = true := by
          rw [← HQ.out]
          have := HT.out
          rw [List.take_of_length_le (by rw [← HN.out]; exact Nat.le_refl _), List.take_of_length_le (by rw [← HM.out]; exact Nat.le_refl _)] at this
          exact decide_eq_true this
        subst hqt
        go_wp2_with fail
        go_ret
        exact ⟨rfl, HF.out⟩
  · have hqf : q = false := by
      rw [← HQ.out]
      exact decide_eq_false (fun e => hlen (by rw [hnn, hmm, e]))
    subst hqf
    have hne : ((n : Int) != (m : Int)) = true := by simp; omega
    clear hnn hmm hlen
    go_enter Tryd.func32, Tryd.ntmps32
    go_wp2_with fail
    go_ret
    exact ⟨rfl, Fr.refl _ _⟩
end Go.Proofs.YthckfbfenfkdiaaDoor.Py
