/- WaitsWays: the walk. No condition. -/
import Derived.Test.YtiebcmlfppepaaaWtNo
import Derived.Test.YtiebcmlfppepaaaWtJo
import Derived.Test.YtiebcmlfppepaaaPick
namespace Go.Proofs.Ytiebcmlfppepaaa.Wt
open Go.Shelf Go.RowKit
theorem joinE_ok {M : List Int} {y : Int} (h : okW y) (hn : ∀ z ∈ M, wW z ≠ wW y) (hl : M.length ≠ 1024) : joinE M (wW y) (wS y) (wT y) (wC y) = 0 := by
  obtain ⟨a1, a2, a3, a4, a5, a6, a7, a8⟩ := h
  unfold joinE
  rw [if_neg, if_neg, if_neg hl]
  · rintro ⟨z, hz, e⟩; exact hn z hz e
  · rw [(mayB_true (by omega)).2 ⟨a1, a3, a4, a5, a6, a7, a8⟩]; decide
theorem joinE_th {M : List Int} {y o : Int} (h : okW y) (ho : o ∈ M) (e : wW o = wW y) : joinE M (wW y) (wS y) (wT y) (wC y) = 7 := by
  obtain ⟨a1, a2, a3, a4, a5, a6, a7, a8⟩ := h
  unfold joinE
  rw [if_neg, if_pos ⟨o, ho, e⟩]
  rw [(mayB_true (by omega)).2 ⟨a1, a3, a4, a5, a6, a7, a8⟩]; decide
theorem wtN_eta (x : Int) : wtN (wW x) (wS x) (wT x) (wC x) = x := wt_eta x
theorem tierW_back {x t : Int} (h : okW x) (h0 : 0 ≤ t) (h9 : t ≤ 9) : tierW (tierW x t) (wT x) = x := by
  obtain ⟨_, e1, e2, e3, e4⟩ := tierW_ok h h0 h9
  show wtN (wW (tierW x t)) (wS (tierW x t)) (wT x) (wC (tierW x t)) = x
  rw [e1, e2, e4]; exact wt_eta x
/-- Join in another tier, then Raise: the party lies among the others. -/
theorem ways_in {M : List Int} {x t : Int} (hx : okW x) (h0 : 0 ≤ t) (h9 : t ≤ 9) (hl : Lone M) (hn : ∀ z ∈ M, wW z ≠ wW x) :
    (raiseS (insW (tierW x t) M) (wW x) (wT x)).Perm (x :: M) ∧ raiseE (insW (tierW x t) M) (wW x) (wT x) = 0 := by
  obtain ⟨ok, e1, e2, e3, e4⟩ := tierW_ok hx h0 h9
  obtain ⟨a1, a2, a3, a4, a5, a6, a7, a8⟩ := hx
  have hm : tierW x t ∈ insW (tierW x t) M := (insW_perm _ _).mem_iff.2 (by simp)
  have hlone : Lone (insW (tierW x t) M) := lone_perm (insW_perm _ _).symm (List.pairwise_cons.2 ⟨fun z hz => by rw [e1]; exact fun e => hn z hz e.symm, hl⟩)
  have h1 := raiseS_there hlone (t := wT x) hm (by omega)
  rw [e1] at h1
  have h2 := outW_perm hlone hm
  rw [e1] at h2
  have h3 : (outW (wW x) (insW (tierW x t) M)).Perm M := (List.perm_cons _).1 (h2.trans (insW_perm _ _))
  refine ⟨?_, ?_⟩
  · rw [h1, tierW_back ⟨a1, a2, a3, a4, a5, a6, a7, a8⟩ h0 h9]
    exact (insW_perm _ _).trans (h3.cons x)
  · unfold raiseE leaveE
    rw [if_neg (by omega), if_pos ⟨_, hm, e1⟩]
/-- The law's two lists. -/
structure Wy (w : World) (G1 : Nat → Prop) (bl : Nat) (S J : List Int) (n1 : Int) (vi : Value) (G2 : Nat → Prop) (ml : Nat) (M : List Int) (n2 N : Int) (wr : World) : Prop where
  l : StAt G1 bl S n1 wr
  m : StAt G2 ml M n2 wr
  ri : Wts wr vi J
  oi : ∀ b, vi.ownBlock = some b → w.heap.size ≤ b ∧ ¬ G1 b ∧ ¬ G2 b
  ne : ∀ b, G2 b → ¬ G1 b
  w1 : ∀ b, G1 b → w.heap.size ≤ b
  w2 : ∀ b, G2 b → w.heap.size ≤ b
  nx1 : n1 ≤ 600
  nx : n2 ≤ N
  fr : Fr (fun _ => False) w wr
section
variable {w : World} {G1 : Nat → Prop} {bl : Nat} {S J : List Int} {n1 : Int} {vi : Value} {G2 : Nat → Prop} {ml : Nat} {M : List Int} {n2 N : Int} {wr : World}
theorem Wy.keep (h : Wy w G1 bl S J n1 vi G2 ml M n2 N wr) {w' : World} (hf : Fr (fun _ => False) wr w') : Wy w G1 bl S J n1 vi G2 ml M n2 N w' :=
  ⟨h.l.keep hf, h.m.keep hf, Row.fr h.ri hf (fun _ _ h => h), h.oi, h.ne, h.w1, h.w2, h.nx1, h.nx, h.fr.trans hf (fun _ _ h => h)⟩
theorem Wy.step (h : Wy w G1 bl S J n1 vi G2 ml M n2 N wr) {G3 : Nat → Prop} {M' : List Int} {n3 : Int} {w' : World} (h2 : StAt G3 ml M' n3 w') (hn : n3 ≤ n2 + 1) (f : Fr G2 wr w') (g : Grew wr G2 G3) : Wy w G1 bl S J n1 vi G3 ml M' n3 (N + 1) w' := by
  have z := h.fr.size
  refine ⟨h.l.fr f (fun b hb e => h.ne b e hb), h2, Row.fr h.ri f (fun b hb => (h.oi b hb).2.2), ?_, ?_, h.w1, ?_, h.nx1, by have := h.nx; omega, h.fr.trans f (fun b hb e => by have := h.w2 b e; omega)⟩
  · intro b hb
    refine ⟨(h.oi b hb).1, (h.oi b hb).2.1, fun e => ?_⟩
    rcases g b e with e | e
    · exact (h.oi b hb).2.2 e
    · have := Row.lt h.ri hb; omega
  · intro b hb e
    rcases g b hb with e2 | e2
    · exact h.ne b e2 e
    · have := h.l.bd b e; omega
  · intro b hb
    rcases g b hb with e | e
    · exact h.w2 b e
    · omega
theorem Wy.weak (h : Wy w G1 bl S J n1 vi G2 ml M n2 N wr) {N' : Int} (hN : N ≤ N') : Wy w G1 bl S J n1 vi G2 ml M n2 N' wr :=
  ⟨h.l, h.m, h.ri, h.oi, h.ne, h.w1, h.w2, h.nx1, by have := h.nx; omega, h.fr⟩
theorem Wy.frm (h : Wy w G1 bl S J n1 vi G2 ml M n2 N wr) {F : Nat → Prop} {w' : World} (f : Fr F wr w') (a : ∀ b, G1 b → ¬ F b) (b : ∀ b, G2 b → ¬ F b) (c : ∀ b, vi.ownBlock = some b → ¬ F b) (d : ∀ b, b < w.heap.size → ¬ F b) : Wy w G1 bl S J n1 vi G2 ml M n2 N w' :=
  ⟨h.l.fr f a, h.m.fr f b, Row.fr h.ri f c, h.oi, h.ne, h.w1, h.w2, h.nx1, h.nx, h.fr.trans f (fun b hb e => absurd e (d b hb))⟩
theorem Wy.same (h : Wy w G1 bl S J n1 vi G2 ml M n2 N wr) {M' : List Int} {w' : World} (h2 : StAt G2 ml M' n2 w') (f : Fr G2 wr w') : Wy w G1 bl S J n1 vi G2 ml M' n2 N w' :=
  ⟨h.l.fr f (fun b hb e => h.ne b e hb), h2, Row.fr h.ri f (fun b hb => (h.oi b hb).2.2), h.oi, h.ne, h.w1, h.w2, h.nx1, h.nx, h.fr.trans f (fun b hb e => by have := h.w2 b e; omega)⟩
end
theorem kF {k j : Nat} (h : k = j + 1) (hk : k ≤ 1024) : (k : Int) - 1 = (j : Int) ∧ wrap64 ((j : Int) - 1) = (j : Int) - 1 ∧ IntKind.i64.wrap ((j : Int) - 1) = (j : Int) - 1 ∧ (0 : Int) ≤ (j : Int) := by
  subst h
  exact ⟨by omega, by unfold wrap64; omega, by rw [IntKind.wrap_i64]; omega, by omega⟩
set_option maxRecDepth 100000 in
set_option maxHeartbeats 8000000 in
theorem ways_walk (w : World) {v1 : Value} {K1 : Nat → Nat → Int} {m1 : Nat} (h1 : KindsAt w v1 4 kW K1 m1) (t0 : Int) (ht : Fits t0) {oa ob oc od : Int} (ha : 0 ≤ oa) (ha2 : oa < 4294967296) :
    Calls Try.prog 7 #[v1, .int .i64 t0, rawW oa ob oc od] w fun e w' => e = .returned (.bool true) ∧ Fr (fun _ => False) w w' := by
  obtain ⟨W, hW⟩ : ∃ W, W = w.alloc (.cells #[.int .u32 oa, .int .i64 ob, .int .i64 oc, .int .i64 od] 51) := ⟨_, rfl⟩
  obtain ⟨ob5, hb5⟩ : ∃ b, b = w.heap.size := ⟨_, rfl⟩
  have fA : Fr (fun _ => False) w W := by rw [hW]; exact Fr.alloc (Fr.refl _ _) _
  have gO : W.heap[ob5]? = some (.cells #[.int .u32 oa, .int .i64 ob, .int .i64 oc, .int .i64 od] 51 (0, 0)) := by rw [hW, hb5]; exact heap_alloc_at _ _
  have h1' := h1.fr fA (fun _ _ h => h) (by omega)
  have H1 := Lib.hid h1'; have FA := Lib.hid fA; have GO := Lib.hid gO; have Ht := Lib.hid ht; have Ha := Lib.hid ha; have Ha2 := Lib.hid ha2; have Lo := Lib.hid (lt_of_block gO)
  clear h1 h1' fA gO ht ha ha2
  go_enter Try.func7, Try.ntmps7
  go_upto_region 1 with fail
  rw [← hW, ← hb5]
  clear hW hb5
  go_wp2_with fail
  refine (joined_ok H1.out).mono ?_
  rintro e w1 ⟨bl, G1, vi, n1, rfl, hJ⟩
  obtain ⟨S, hS⟩ : ∃ S, S = (JF K1 (min m1 600)).2 := ⟨_, rfl⟩
  obtain ⟨J, hJJ⟩ : ∃ J, J = (JF K1 (min m1 600)).1 := ⟨_, rfl⟩
  have hpm := JF_perm K1 (min m1 600)
  have hst := hJ.st; have hrow := hJ.row; have hown := hJ.own; have hnew := hJ.new; have hfr := hJ.fr
  have hnx : n1 ≤ 600 := by have := hJ.nx; omega
  have hJlen : J.length ≤ 600 := by rw [hJJ]; have := JF_len K1 (min m1 600); omega
  rw [← hS] at hst hpm
  rw [← hJJ] at hrow hpm
  have Hpm := Lib.hid hpm; have Hst := Lib.hid hst; have Hrow := Lib.hid hrow; have Hown := Lib.hid hown; have Hnew := Lib.hid hnew; have Hfr := Lib.hid hfr; have Hnx := Lib.hid hnx; have HJl := Lib.hid hJlen
  clear hpm hst hrow hown hnew hfr hnx hJlen hJ hS hJJ
  go_wp2_with fail
  refine (newL_ok _).mono ?_
  rintro e w2 ⟨ml, G2, rfl, hm, hmn, hmf⟩
  have hWy : Wy W G1 bl S J n1 vi G2 ml [] 0 0 w2 :=
    ⟨Hst.out.keep hmf, hm, Row.fr Hrow.out hmf (fun _ _ h => h), fun b hb => ⟨(Hown.out b hb).1, (Hown.out b hb).2, fun e => by have := hmn b e; have := Row.lt Hrow.out hb; omega⟩, fun b hb e => by have := hmn b hb; have := Hst.out.bd b e; omega, Hnew.out, fun b hb => by have := hmn b hb; have := Hfr.out.size; omega, Hnx.out, by omega, Hfr.out.trans hmf (fun _ _ h => h)⟩
  have HW := Lib.hid hWy
  obtain ⟨ai, ci, ei⟩ := wts_slice Hrow.out
  subst ei
  have go2 := hWy.fr.get GO.out (fun h => h)
  have o0 := (cell_of go2 0).trans (show _ = some (Value.int .u32 oa) from rfl)
  have o1 := (cell_of go2 1).trans (show _ = some (Value.int .i64 ob) from rfl)
  have o2 := (cell_of go2 2).trans (show _ = some (Value.int .i64 oc) from rfl)
  have o3 := (cell_of go2 3).trans (show _ = some (Value.int .i64 od) from rfl)
  have HP := Lib.hid (fun w => pick_ok t0 10 w Ht.out.1 Ht.out.2 (by decide) (by decide))
  obtain ⟨t, ht⟩ : ∃ t, t = t0 % 10 := ⟨_, rfl⟩
  have Ht0 := Lib.hid (show 0 ≤ t ∧ t ≤ 9 by omega)
  rw [← ht] at HP
  have HJo := Lib.hid (join_ok hWy.m (a := oa) (b := ob) (c := oc) (d := od) Ha.out Ha2.out (by decide))
  obtain ⟨cm, hcm⟩ : ∃ c : Bool, c = (joinE [] oa ob oc od == 0) := ⟨_, rfl⟩
  clear hm hmn hmf hWy go2 ht
  go_wp2_with fail
  refine (HP.out _).mono ?_
  rintro e w3 ⟨rfl, rfl⟩
  go_wp2_with fail
  refine HJo.out.mono ?_
  rintro e w4 ⟨rfl, G3, n3, h4, hn4, f4, g4⟩
  have hW4 := HW.out.step h4 hn4 f4 g4
  obtain ⟨o, hO⟩ : ∃ o, o = wtN oa ob oc od := ⟨_, rfl⟩
  have hoo : cm = true → okW o ∧ wW o = oa := by
    intro e
    rw [e] at hcm
    obtain ⟨q1, q2, q3, q4, q5, q6, q7⟩ := joinE_may Ha.out (show joinE [] oa ob oc od = 0 by simpa using hcm.symm)
    obtain ⟨k1, k2, _⟩ := okW_n q1 Ha2.out q2 q3 q4 q5 q6 q7
    rw [hO]; exact ⟨k1, k2⟩
  have hM0 : ∃ M, Wy W G1 bl S J n1 (.slice ai J.length ci) G3 ml M n3 1 w4 ∧ M.Perm (if cm then o :: J.drop J.length else J.drop J.length) := by
    refine ⟨_, hW4, ?_⟩
    rw [List.drop_length]
    cases hb : cm with
    | true =>
      have : joinE [] oa ob oc od = 0 := by rw [hb] at hcm; simpa using hcm.symm
      unfold joinS; rw [if_pos this, ← hO]; exact List.Perm.refl _
    | false =>
      have : joinE [] oa ob oc od ≠ 0 := by rw [hb] at hcm; simpa using hcm.symm
      unfold joinS; rw [if_neg this]; exact List.Perm.refl _
  have HM0 := Lib.hid hM0; have Hoo := Lib.hid hoo
  clear h4 hn4 f4 g4 hW4 hM0 hoo hO o0 o1 o2 o3 HW HJo
  go_upto_block 0 with fail
  rw [← hcm]
  clear hcm
  obtain ⟨len, hlen⟩ : ∃ n, n = J.length := ⟨_, rfl⟩
  rw [← hlen] at HM0 HJl ⊢
  have Hlen := Lib.hid hlen
  clear hlen
  go_cut [11, 12] (fun s11 _ wx => ∃ (c : Bool) (M : List Int) (G3 : Nat → Prop) (n3 : Int), s11 = .bool c ∧ Wy W G1 bl S J n1 (.slice ai len ci) G3 ml M n3 1201 wx ∧ M.Perm (if c then o :: J else J) ∧ (c = true → okW o ∧ wW o = oa))
  case first => as_aux_lemma =>
    have hl1 : wrap64 ((len : Int) - 1) = (len : Int) - 1 := by unfold wrap64; have := HJl.out; omega
    have hl2 : IntKind.i64.wrap ((len : Int) - 1) = (len : Int) - 1 := by rw [IntKind.wrap_i64]; have := HJl.out; omega
    go_wp2_with fail
    clear hl1 hl2
    go_loopw [11, 12] (fun s11 s12 wr => ∃ (k : Nat) (c : Bool) (M : List Int) (G3 : Nat → Prop) (n3 : Int), s11 = .bool c ∧ s12 = .int .i64 ((k : Int) - 1) ∧ k ≤ len ∧ Wy W G1 bl S J n1 (.slice ai len ci) G3 ml M n3 (1 + 2 * ((len : Int) - k)) wr ∧ M.Perm (if c then o :: J.drop k else J.drop k) ∧ (c = true → okW o ∧ wW o = oa)) (fun _ s12 _ => (intOf s12 + 1).toNat)
    case atStart =>
      obtain ⟨M, q1, q2⟩ := HM0.out
      refine ⟨len, cm, M, G3, n3, rfl, congrArg (Value.int .i64) (by unfold wrap64; have := HJl.out; omega), Nat.le_refl _, ?_, q2, Hoo.out⟩
      have e : (1 : Int) + 2 * ((len : Int) - len) = 1 := by omega
      rw [e]; exact q1
    case round =>
      obtain ⟨k, c, M, G3, n3, rfl, rfl, hk, hP, hM, hoc⟩ := hrel
      clear HM0 Hoo
      by_cases hk0 : 0 < k
      · obtain ⟨j, hj⟩ : ∃ j, k = j + 1 := ⟨k - 1, by omega⟩
        obtain ⟨e1, e2, e3, j0⟩ := kF hj (by have := HJl.out; omega)
        have hjJ : j < J.length := by rw [← Hlen.out]; omega
        have hjl : (j : Int) < (len : Int) := by omega
        obtain ⟨g, cap, eg, d0, d1, d2, d3⟩ := hP.ri.cells hjJ
        simp only [Value.slice.injEq] at eg
        obtain ⟨rfl, -, rfl⟩ := eg
        obtain ⟨x, hx⟩ : ∃ x, x = J.getD j 0 := ⟨_, rfl⟩
        rw [← hx] at d0 d1 d2 d3
        have hxJ : x ∈ J := by rw [hx]; simp [hjJ]
        have okx : okW x := Hst.out.ok x (Hpm.out.mem_iff.1 hxJ)
        have hJl : Lone J := lone_perm Hpm.out.symm Hst.out.lone
        have hdr : J.drop j = x :: J.drop k := by
          rw [hj, hx]
          have e : J.getD j 0 = J[j] := by simp [hjJ]
          rw [e]; exact List.drop_eq_getElem_cons hjJ
        have hxd : ∀ z ∈ J.drop k, wW z ≠ wW x := by
          have h2 : Lone (J.drop j) := hJl.sublist (List.drop_sublist _ _)
          rw [hdr] at h2
          exact fun z hz e => (List.pairwise_cons.1 h2).1 z hz e.symm
        have hMl : M.length ≤ 601 := by
          have := hM.length_eq
          have h3 := HJl.out
          have h4 : J.length - k ≤ len := by rw [← Hlen.out]; omega
          cases c <;> simp at this <;> omega
        have hg5 := hP.fr.get GO.out (fun h => h)
        have o0 := (cell_of hg5 0).trans (show _ = some (Value.int .u32 oa) from rfl)
        have lo5 := lt_of_block hg5
        have fB : Fr (fun _ => False) wr (wr.alloc (.cells #[.int .u32 (wW x), .int .i64 (wS x), .int .i64 (wT x), .int .i64 (wC x)] 51)) := Fr.alloc (Fr.refl _ _) _
        have gB : (wr.alloc (.cells #[.int .u32 (wW x), .int .i64 (wS x), .int .i64 (wT x), .int .i64 (wC x)] 51)).heap[wr.heap.size]? = some (.cells #[.int .u32 (wW x), .int .i64 (wS x), .int .i64 (wT x), .int .i64 (wC x)] 51 (0, 0)) := heap_alloc_at _ _
        have nB : ¬ G3 wr.heap.size := fun h => by have := hP.m.bd _ h; omega
        have NB1 := Lib.hid (show ¬ G1 wr.heap.size from fun h => by have := hP.l.bd _ h; omega)
        have NBv := Lib.hid (show (Value.slice (some ⟨g, 0, none⟩) len ci).ownBlock ≠ some wr.heap.size from fun h => by have := Row.lt hP.ri h; omega)
        have Hbx := Lib.hid (show W.heap.size ≤ wr.heap.size from hP.fr.size)
        replace o0 := (fB.cell lo5 (fun h => h)).trans o0
        have HP0 := Lib.hid (hP.keep fB)
        have Hj := Lib.hid hj; have Hx := Lib.hid okx; have Hdr := Lib.hid hdr; have Hxd := Lib.hid hxd; have HMl := Lib.hid hMl; have HM := Lib.hid hM; have Hoc := Lib.hid hoc; have Hk := Lib.hid hk; have GB := Lib.hid gB; have NB := Lib.hid nB
        clear hP hM hoc hk hk0 hj hjJ hxJ okx hJl hdr hxd hMl hg5 lo5 fB gB nB hx
        rw [e1]
        go_upto_region 11 with fail
        clear d0 d1 d2 d3
        generalize (wr.alloc (.cells #[.int .u32 (wW x), .int .i64 (wS x), .int .i64 (wT x), .int .i64 (wC x)] 51)) = WB at *
        generalize wr.heap.size = bx at *
        obtain ⟨x0, x1, x2, x3⟩ := boxW_cells GB.out
        have y0 := free_of GB.out 0; have y1 := free_of GB.out 1; have y2 := free_of GB.out 2; have y3 := free_of GB.out 3
        have Gb := Lib.hid GB.out
        cases c with
        | false =>
          have hMd : M.Perm (J.drop k) := by simpa using HM.out
          have hnn : ∀ z ∈ M, wW z ≠ wW x := fun z hz => Hxd.out z (hMd.mem_iff.1 hz)
          have HMd := Lib.hid hMd; have Hnn := Lib.hid hnn
          clear hMd hnn o0
          obtain ⟨tok, te1, te2, te3, te4⟩ := tierW_ok Hx.out Ht0.out.1 Ht0.out.2
          have fs : Fr (fun b => b = bx) WB (WB.setCell ⟨bx, 2, none⟩ (.int .i64 t)) := Fr.setCell (F := fun b => b = bx) (p := ⟨bx, 2, none⟩) (Fr.refl _ _) (fun _ => rfl) _
          have hp5 := HP0.out.frm fs (fun b hb e => NB1.out (e ▸ hb)) (fun b hb e => NB.out (e ▸ hb)) (fun b hb e => NBv.out (e ▸ hb)) (fun b hb e => by have := Hbx.out; omega)
          have g5 := setCell_blk (o := 2) GB.out (.int .i64 t)
          have z0 := (cell_of g5 0).trans (show _ = some (Value.int .u32 (wW x)) from rfl)
          have z1 := (cell_of g5 1).trans (show _ = some (Value.int .i64 (wS x)) from rfl)
          have z2 := (cell_of g5 2).trans (show _ = some (Value.int .i64 t) from rfl)
          have z3 := (cell_of g5 3).trans (show _ = some (Value.int .i64 (wC x)) from rfl)
          have hj0 := joinE_ok (M := M) tok (by rw [te1]; exact Hnn.out) (by have := HMl.out; omega)
          rw [te1, te2, te3, te4] at hj0
          have HJ := join_ok hp5.m (a := wW x) (b := wS x) (c := t) (d := wC x) (by have := Hx.out.1; omega) Hx.out.2.1 (by have := hp5.nx; have := HJl.out; omega)
          have hjs : joinS M (wW x) (wS x) t (wC x) = insW (tierW x t) M := by unfold joinS; rw [if_pos hj0]; rfl
          rw [hj0, hjs] at HJ
          obtain ⟨wi1, wi2⟩ := ways_in (t := t) Hx.out Ht0.out.1 Ht0.out.2 HP0.out.m.lone Hnn.out
          have HJ := Lib.hid HJ; have HP5 := Lib.hid hp5; have Wi1 := Lib.hid wi1; have Wi2 := Lib.hid wi2
          have L5 := Lib.hid (lt_of_block g5)
          clear fs hp5 g5 hj0 hjs wi1 wi2 tok te1 te2 te3 te4
          go_upto_region 17 with fail
          clear x0 x1 x2 x3 y0 y1 y2 y3
          generalize WB.setCell ⟨bx, 2, none⟩ (.int .i64 t) = W5 at *
          go_wp2_with fail
          refine HJ.out.mono ?_
          rintro e w6 ⟨rfl, G6, n6, h6, hn6, f6, g6⟩
          have hp6 := HP5.out.step h6 hn6 f6 g6
          have z0' := (f6.cell L5.out (fun h => NB.out h)).trans z0
          have HR := raise_ok hp6.m (wW x) (wT x)
          rw [Wi2.out] at HR
          have HR := Lib.hid HR; have HP6 := Lib.hid hp6
          clear h6 hn6 f6 g6 hp6 z0 z1 z2 z3
          go_wp2_with fail
          refine HR.out.mono ?_
          rintro e w7 ⟨rfl, h7, f7⟩
          have HP7 := Lib.hid (HP6.out.same h7 f7)
          clear h7 f7 z0'
          go_wp2_with fail
          go_roundw
          case rel =>
            refine ⟨j, false, _, G6, n6, rfl, rfl, by have := Hj.out; have := Hk.out; omega, HP7.out.weak (by have := Hj.out; push_cast; omega), ?_, fun e => by cases e⟩
            rw [Hdr.out]
            exact (Wi1.out).trans (HMd.out.cons x)
          case measure => simp [intOf] <;> omega
        | true =>
          obtain ⟨oko, ewo⟩ := Hoc.out rfl
          have hMd : M.Perm (o :: J.drop k) := by simpa using HM.out
          by_cases hw : wW x = oa
          · have hq : (wW x == oa) = true := by simpa using hw
            have hoM : o ∈ M := hMd.mem_iff.2 (by simp)
            have hj7 := joinE_th Hx.out hoM (ewo.trans hw.symm)
            have HA := join_ok HP0.out.m (a := wW x) (b := wS x) (c := wT x) (d := wC x) (by have := Hx.out.1; omega) Hx.out.2.1 (by have := HP0.out.nx; have := HJl.out; omega)
            rw [hj7, joinS_no (by rw [hj7]; decide)] at HA
            have HA := Lib.hid HA; have HMd := Lib.hid hMd; have HoM := Lib.hid hoM; have Ew := Lib.hid (ewo.trans hw.symm)
            clear hMd hoM hj7 hw
            go_wp2_with fail
            refine HA.out.mono ?_
            rintro e wA ⟨rfl, G4, n4, h4, hn4, f4, g4⟩
            have hpA := HP0.out.step h4 hn4 f4 g4
            have gA := f4.get GB.out NB.out
            have nbA : ¬ G4 bx := fun h => by
              rcases g4 bx h with e | e
              · exact NB.out e
              · have := lt_of_block GB.out; omega
            have a0 := (cell_of gA 0).trans (show _ = some (Value.int .u32 (wW x)) from rfl)
            have HLv := leave_ok hpA.m (wW x)
            have hl0 : leaveE M (wW x) = 0 := by unfold leaveE; rw [if_pos ⟨o, HoM.out, Ew.out⟩]
            rw [hl0] at HLv
            have HLv := Lib.hid HLv; have HPA := Lib.hid hpA; have GA := Lib.hid gA; have NBA := Lib.hid nbA
            clear h4 hn4 f4 g4 hpA gA nbA hl0 o0 hq x0 x1 x2 x3 y0 y1 y2 y3
            go_wp2_with fail
            refine HLv.out.mono ?_
            rintro e wD ⟨rfl, h5, f5⟩
            have hpC := HPA.out.same h5 f5
            have gC := f5.get GA.out NBA.out
            have hoc2 := outW_perm HPA.out.m.lone HoM.out
            rw [Ew.out] at hoc2
            have hMd2 : (outW (wW x) M).Perm (J.drop k) := (List.perm_cons o).1 (hoc2.trans HMd.out)
            have HPC := Lib.hid hpC; have GC := Lib.hid gC; have HMd2 := Lib.hid hMd2
            have Hnn := Lib.hid (show ∀ z ∈ outW (wW x) M, wW z ≠ wW x from fun z hz => outW_ne z hz)
            have Hl2 := Lib.hid (show (outW (wW x) M).length ≤ 601 from by have := (outW_sub (wW x) M).length_le; have := HMl.out; omega)
            obtain ⟨x0, x1, x2, x3⟩ := boxW_cells gC
            have y0 := free_of gC 0; have y1 := free_of gC 1; have y2 := free_of gC 2; have y3 := free_of gC 3
            clear h5 f5 hpC gC hoc2 hMd2 a0
            obtain ⟨tok, te1, te2, te3, te4⟩ := tierW_ok Hx.out Ht0.out.1 Ht0.out.2
            have fs : Fr (fun b => b = bx) wD (wD.setCell ⟨bx, 2, none⟩ (.int .i64 t)) := Fr.setCell (F := fun b => b = bx) (p := ⟨bx, 2, none⟩) (Fr.refl _ _) (fun _ => rfl) _
            have hp5 := HPC.out.frm fs (fun b hb e => NB1.out (e ▸ hb)) (fun b hb e => NBA.out (e ▸ hb)) (fun b hb e => NBv.out (e ▸ hb)) (fun b hb e => by have := Hbx.out; omega)
            have g5 := setCell_blk (o := 2) GC.out (.int .i64 t)
            have z0 := (cell_of g5 0).trans (show _ = some (Value.int .u32 (wW x)) from rfl)
            have z1 := (cell_of g5 1).trans (show _ = some (Value.int .i64 (wS x)) from rfl)
            have z2 := (cell_of g5 2).trans (show _ = some (Value.int .i64 t) from rfl)
            have z3 := (cell_of g5 3).trans (show _ = some (Value.int .i64 (wC x)) from rfl)
            have hj0 := joinE_ok (M := (outW (wW x) M)) tok (by rw [te1]; exact Hnn.out) (by have := Hl2.out; omega)
            rw [te1, te2, te3, te4] at hj0
            have HJ := join_ok hp5.m (a := wW x) (b := wS x) (c := t) (d := wC x) (by have := Hx.out.1; omega) Hx.out.2.1 (by have := hp5.nx; have := HJl.out; omega)
            have hjs : joinS (outW (wW x) M) (wW x) (wS x) t (wC x) = insW (tierW x t) (outW (wW x) M) := by unfold joinS; rw [if_pos hj0]; rfl
            rw [hj0, hjs] at HJ
            obtain ⟨wi1, wi2⟩ := ways_in (t := t) Hx.out Ht0.out.1 Ht0.out.2 HPC.out.m.lone Hnn.out
            have HJ := Lib.hid HJ; have HP5 := Lib.hid hp5; have Wi1 := Lib.hid wi1; have Wi2 := Lib.hid wi2
            have L5 := Lib.hid (lt_of_block g5)
            clear fs hp5 g5 hj0 hjs wi1 wi2 tok te1 te2 te3 te4
            go_upto_region 17 with fail
            clear x0 x1 x2 x3 y0 y1 y2 y3
            generalize wD.setCell ⟨bx, 2, none⟩ (.int .i64 t) = W5 at *
            go_wp2_with fail
            refine HJ.out.mono ?_
            rintro e w6 ⟨rfl, G6, n6, h6, hn6, f6, g6⟩
            have hp6 := HP5.out.step h6 hn6 f6 g6
            have z0' := (f6.cell L5.out (fun h => NBA.out h)).trans z0
            have HR := raise_ok hp6.m (wW x) (wT x)
            rw [Wi2.out] at HR
            have HR := Lib.hid HR; have HP6 := Lib.hid hp6
            clear h6 hn6 f6 g6 hp6 z0 z1 z2 z3
            go_wp2_with fail
            refine HR.out.mono ?_
            rintro e w7 ⟨rfl, h7, f7⟩
            have HP7 := Lib.hid (HP6.out.same h7 f7)
            clear h7 f7 z0'
            go_wp2_with fail
            go_roundw
            case rel =>
              refine ⟨j, false, _, G6, n6, rfl, rfl, by have := Hj.out; have := Hk.out; omega, HP7.out.weak (by have := Hj.out; push_cast; omega), ?_, fun e => by cases e⟩
              rw [Hdr.out]
              exact (Wi1.out).trans (HMd2.out.cons x)
            case measure => simp [intOf] <;> omega
          · have hq : (wW x == oa) = false := by simpa using hw
            have hnn : ∀ z ∈ M, wW z ≠ wW x := by
              intro z hz
              rcases List.mem_cons.1 (hMd.mem_iff.1 hz) with rfl | hz
              · rw [ewo]; exact fun e => hw e.symm
              · exact Hxd.out z hz
            have HMd := Lib.hid hMd; have Hnn := Lib.hid hnn
            clear hMd hnn hw oko ewo
            obtain ⟨tok, te1, te2, te3, te4⟩ := tierW_ok Hx.out Ht0.out.1 Ht0.out.2
            have fs : Fr (fun b => b = bx) WB (WB.setCell ⟨bx, 2, none⟩ (.int .i64 t)) := Fr.setCell (F := fun b => b = bx) (p := ⟨bx, 2, none⟩) (Fr.refl _ _) (fun _ => rfl) _
            have hp5 := HP0.out.frm fs (fun b hb e => NB1.out (e ▸ hb)) (fun b hb e => NB.out (e ▸ hb)) (fun b hb e => NBv.out (e ▸ hb)) (fun b hb e => by have := Hbx.out; omega)
            have g5 := setCell_blk (o := 2) GB.out (.int .i64 t)
            have z0 := (cell_of g5 0).trans (show _ = some (Value.int .u32 (wW x)) from rfl)
            have z1 := (cell_of g5 1).trans (show _ = some (Value.int .i64 (wS x)) from rfl)
            have z2 := (cell_of g5 2).trans (show _ = some (Value.int .i64 t) from rfl)
            have z3 := (cell_of g5 3).trans (show _ = some (Value.int .i64 (wC x)) from rfl)
            have hj0 := joinE_ok (M := M) tok (by rw [te1]; exact Hnn.out) (by have := HMl.out; omega)
            rw [te1, te2, te3, te4] at hj0
            have HJ := join_ok hp5.m (a := wW x) (b := wS x) (c := t) (d := wC x) (by have := Hx.out.1; omega) Hx.out.2.1 (by have := hp5.nx; have := HJl.out; omega)
            have hjs : joinS M (wW x) (wS x) t (wC x) = insW (tierW x t) M := by unfold joinS; rw [if_pos hj0]; rfl
            rw [hj0, hjs] at HJ
            obtain ⟨wi1, wi2⟩ := ways_in (t := t) Hx.out Ht0.out.1 Ht0.out.2 HP0.out.m.lone Hnn.out
            have HJ := Lib.hid HJ; have HP5 := Lib.hid hp5; have Wi1 := Lib.hid wi1; have Wi2 := Lib.hid wi2
            have L5 := Lib.hid (lt_of_block g5)
            clear fs hp5 g5 hj0 hjs wi1 wi2 tok te1 te2 te3 te4
            go_upto_region 17 with fail
            clear x0 x1 x2 x3 y0 y1 y2 y3
            generalize WB.setCell ⟨bx, 2, none⟩ (.int .i64 t) = W5 at *
            go_wp2_with fail
            refine HJ.out.mono ?_
            rintro e w6 ⟨rfl, G6, n6, h6, hn6, f6, g6⟩
            have hp6 := HP5.out.step h6 hn6 f6 g6
            have z0' := (f6.cell L5.out (fun h => NB.out h)).trans z0
            have HR := raise_ok hp6.m (wW x) (wT x)
            rw [Wi2.out] at HR
            have HR := Lib.hid HR; have HP6 := Lib.hid hp6
            clear h6 hn6 f6 g6 hp6 z0 z1 z2 z3
            go_wp2_with fail
            refine HR.out.mono ?_
            rintro e w7 ⟨rfl, h7, f7⟩
            have HP7 := Lib.hid (HP6.out.same h7 f7)
            clear h7 f7 z0'
            go_wp2_with fail
            go_roundw
            case rel =>
              refine ⟨j, true, _, G6, n6, rfl, rfl, by have := Hj.out; have := Hk.out; omega, HP7.out.weak (by have := Hj.out; push_cast; omega), ?_, fun _ => Hoc.out (by first | rfl | trivial)⟩
              rw [Hdr.out]
              exact ((Wi1.out).trans (HMd.out.cons x)).trans (List.Perm.swap o x _)
            case measure => simp [intOf] <;> omega
      · obtain rfl : k = 0 := by omega
        have HP := Lib.hid hP; have HM := Lib.hid hM; have Hoc := Lib.hid hoc
        have hneg : ((0 : Nat) : Int) - 1 = -1 := by decide
        rw [hneg]
        clear hP hM hoc hk hk0 hneg
        go_wp2_with fail
        go_meet
        refine ⟨c, M, G3, n3, rfl, ?_, by simpa using HM.out, Hoc.out⟩
        have h := HP.out
        exact ⟨h.l, h.m, h.ri, h.oi, h.ne, h.w1, h.w2, h.nx1, by have := h.nx; have := HJl.out; omega, h.fr⟩
  case rest =>
    obtain ⟨c, M, G3, n3, rfl, hP, hM, hoc⟩ := hcut
    clear HM0 Hoo
    have hg5 := hP.fr.get GO.out (fun h => h)
    have o0 := (cell_of hg5 0).trans (show _ = some (Value.int .u32 oa) from rfl)
    have lo5 := lt_of_block hg5
    have no5 : ¬ G3 ob5 := fun h => by have := hP.w2 _ h; have := Lo.out; omega
    have fin : ∀ (M1 : List Int) (wz : World), M1.Perm J → Wy W G1 bl S J n1 (.slice ai len ci) G3 ml M1 n3 1201 wz → True := fun _ _ _ _ => trivial
    clear fin
    cases c with
    | true =>
      obtain ⟨oko, ewo⟩ := hoc rfl
      have hMd : M.Perm (o :: J) := by simpa using hM
      have hoM : o ∈ M := hMd.mem_iff.2 (by simp)
      have hE1 : leaveE M oa = 0 := by unfold leaveE; rw [if_pos ⟨o, hoM, ewo⟩]
      have hN2 : ¬ ∃ z ∈ outW oa M, wW z = oa := fun ⟨z, hz, e⟩ => outW_ne z hz e
      have hE2 : leaveE (outW oa M) oa = 171 := by unfold leaveE; rw [if_neg hN2]
      have hE3 : raiseE (outW oa M) oa t = 171 := by unfold raiseE; rw [if_neg (by have := Ht0.out; omega), hE2]
      have hoc2 := outW_perm hP.m.lone hoM
      rw [ewo] at hoc2
      have hMd2 : (outW oa M).Perm J := (List.perm_cons o).1 (hoc2.trans hMd)
      have HL1 := leave_ok hP.m oa
      rw [hE1] at HL1
      have HL1 := Lib.hid HL1; have HP := Lib.hid hP; have HMd2 := Lib.hid hMd2; have E2 := Lib.hid hE2; have E3 := Lib.hid hE3; have N2 := Lib.hid hN2; have Lo5 := Lib.hid lo5; have No5 := Lib.hid no5
      clear hP hM hoc oko ewo hMd hoM hE1 hE2 hE3 hoc2 hMd2 hN2 hg5 lo5 no5
      go_wp2_with fail
      refine HL1.out.mono ?_
      rintro e w5 ⟨rfl, h5, f5⟩
      have hp5 := HP.out.same h5 f5
      have o0' := (f5.cell Lo5.out No5.out).trans o0
      have HL2 := leave_ok hp5.m oa
      rw [E2.out, outW_none N2.out] at HL2
      have HL2 := Lib.hid HL2; have HP5 := Lib.hid hp5; have Lo6 := Lib.hid (Nat.lt_of_lt_of_le Lo5.out f5.size)
      clear h5 f5 hp5 o0
      go_wp2_with fail
      refine HL2.out.mono ?_
      rintro e w6 ⟨rfl, h6, f6⟩
      have hp6 := HP5.out.same h6 f6
      have o0 := (f6.cell Lo6.out No5.out).trans o0'
      have HR := raise_not hp6.m (who := oa) (t := t) (.inr (.inr N2.out))
      rw [E3.out] at HR
      have HR := Lib.hid HR; have HP6 := Lib.hid hp6
      clear h6 f6 hp6 o0'
      go_wp2_with fail
      refine HR.out.mono ?_
      rintro e w7 ⟨rfl, rfl⟩
      clear o0
      have HPz := Lib.hid HP6.out
      have HMz := Lib.hid HMd2.out
      have HTo := Lib.hid (told_ok (S := S) (x := .pointer (some ⟨bl, 0, none⟩)) (by have := HPz.out.l.len; omega) (fun w1 hw => wall_ok (HPz.out.l.keep hw) (by have := HPz.out.nx1; omega)))
      go_wp2_with fail
      refine HTo.out.mono ?_
      rintro e w8 ⟨va, rfl, r8, o8, f8⟩
      have hI := is_ok (x := .pointer (some ⟨ml, 0, none⟩)) (by have := HPz.out.m.len; omega) (fun w1 hw => wall_ok ((HPz.out.m.keep f8).keep hw) (by have := HPz.out.nx; omega)) r8 (by have := HPz.out.l.len; omega)
      rw [decide_eq_true (ord_unique (HMz.out.trans Hpm.out) HPz.out.m.ord HPz.out.l.ord)] at hI
      have HI := Lib.hid hI; have F8 := Lib.hid ((FA.out.trans HPz.out.fr (fun _ _ h => h)).trans f8 (fun _ _ h => h))
      clear r8 o8 f8 hI
      go_wp2_with fail
      refine HI.out.mono ?_
      rintro e w9 ⟨rfl, f9⟩
      have F9 := Lib.hid (F8.out.trans f9 (fun _ _ h => h))
      clear f9
      go_wp2_with fail
      refine (awake_ok _).mono ?_
      rintro e wx ⟨rfl, fx⟩
      have FX := Lib.hid (F9.out.trans fx (fun _ _ h => h))
      clear fx
      go_wp2_with fail
      go_ret
      exact ⟨rfl, FX.out⟩
    | false =>
      have hMd : M.Perm J := by simpa using hM
      have HPz := Lib.hid hP; have HMz := Lib.hid hMd
      clear hP hM hoc hMd o0 hg5 lo5 no5
      have HTo := Lib.hid (told_ok (S := S) (x := .pointer (some ⟨bl, 0, none⟩)) (by have := HPz.out.l.len; omega) (fun w1 hw => wall_ok (HPz.out.l.keep hw) (by have := HPz.out.nx1; omega)))
      go_wp2_with fail
      refine HTo.out.mono ?_
      rintro e w8 ⟨va, rfl, r8, o8, f8⟩
      have hI := is_ok (x := .pointer (some ⟨ml, 0, none⟩)) (by have := HPz.out.m.len; omega) (fun w1 hw => wall_ok ((HPz.out.m.keep f8).keep hw) (by have := HPz.out.nx; omega)) r8 (by have := HPz.out.l.len; omega)
      rw [decide_eq_true (ord_unique (HMz.out.trans Hpm.out) HPz.out.m.ord HPz.out.l.ord)] at hI
      have HI := Lib.hid hI; have F8 := Lib.hid ((FA.out.trans HPz.out.fr (fun _ _ h => h)).trans f8 (fun _ _ h => h))
      clear r8 o8 f8 hI
      go_wp2_with fail
      refine HI.out.mono ?_
      rintro e w9 ⟨rfl, f9⟩
      have F9 := Lib.hid (F8.out.trans f9 (fun _ _ h => h))
      clear f9
      go_wp2_with fail
      refine (awake_ok _).mono ?_
      rintro e wx ⟨rfl, fx⟩
      have FX := Lib.hid (F9.out.trans fx (fun _ _ h => h))
      clear fx
      go_wp2_with fail
      go_ret
      exact ⟨rfl, FX.out⟩
end Go.Proofs.Ytiebcmlfppepaaa.Wt
