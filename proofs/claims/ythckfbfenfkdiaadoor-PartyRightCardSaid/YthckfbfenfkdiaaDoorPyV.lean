/- Parties: PartyRight's walk. Condition: the table of math/bits. -/
import Derived.Test.YthckfbfenfkdiaaDoorPyS
import Derived.Test.YthckfbfenfkdiaaDoorPyT
import Derived.Test.YthckfbfenfkdiaaDoorPyU
import Derived.Deep.QuietTactic
import Derived.BigQuiet
namespace Go.Proofs.YthckfbfenfkdiaaDoor.Py
open Go.RowKit St Bt
theorem ints_set {w : World} {g n c : Nat} {A : List Int} (h : Ints w (.slice (some ⟨g, 0, none⟩) n c) A) (hl : A.length = n) {i : Nat} (hi : i < n) :
    w.cell? ⟨g, i, none⟩ = some (.int .i64 (A.getD i 0)) ∧ w.frozen? ⟨g, i, none⟩ = false ∧ ∀ x : Int, Ints (w.setCell ⟨g, i, none⟩ (.int .i64 x)) (.slice (some ⟨g, 0, none⟩) n c) (A.set i x) := by
  rcases h.2 with ⟨e0, h0⟩ | ⟨g1, cap1, cur, e0, _, hb, hc1, hc2, hcs, htk⟩
  · simp at e0
  simp only [Value.slice.injEq, Option.some.injEq, Addr.mk.injEq, and_true] at e0
  obtain ⟨rfl, e2, rfl⟩ := e0
  have hiA : i < A.length := by omega
  refine ⟨?_, free_of hb _, fun x => ?_⟩
  · rw [cell_of hb]
    have : (cur.toList.take (A.length * 1))[i]? = (A.map i64v)[i]? := by rw [htk]
    rw [List.getElem?_take, if_pos (by omega), Array.getElem?_toList] at this
    rw [this]
    simp [hiA, i64v, List.getD_eq_getElem?_getD]
  · show Row _ _ _ _ _ _
    rw [List.length_set]
    refine ⟨by simp, .inr ⟨g, c, _, by rw [hl], Nat.zero_le _, setCell_blk (o := i) hb _, hc1, hc2, by simpa using hcs, ?_⟩⟩
    rw [Array.toList_setIfInBounds, List.take_set, htk, List.map_set]
    rfl
/-- What stands while the runs are looked at. -/
structure Rg (w : World) (b1 bh : Nat) (bv : Value) (r v : Int) (sv tv : Value) (B : List Bool) (lv : Value) (S : List Sp) (ga N : Nat) (A : List Int) (W : World) : Prop where
  gn : Gn w b1 bh bv r v sv tv B W
  sps : Sps W lv S
  ints : Ints W (.slice (some ⟨ga, 0, none⟩) N N) A
  newA : w.heap.size ≤ ga ∧ ga ≠ b1 ∧ ga ≠ bh ∧ (bv.ownBlock ≠ some ga) ∧ (lv.ownBlock ≠ some ga)
theorem Rg.keep {w : World} {b1 bh : Nat} {bv : Value} {r v : Int} {sv tv : Value} {B : List Bool} {lv : Value} {S : List Sp} {ga N : Nat} {A : List Int} {W W' : World} (h : Rg w b1 bh bv r v sv tv B lv S ga N A W) (f : Fr (fun _ => False) W W') : Rg w b1 bh bv r v sv tv B lv S ga N A W' :=
  ⟨h.gn.keep f, Row.fr h.sps f (fun _ _ h => h), Row.fr h.ints f (fun _ _ h => h), h.newA⟩
theorem Rg.put {w : World} {b1 bh : Nat} {bv : Value} {r v : Int} {sv tv : Value} {B : List Bool} {lv : Value} {S : List Sp} {ga N : Nat} {A : List Int} {W : World} (h : Rg w b1 bh bv r v sv tv B lv S ga N A W) (hl : A.length = N) {i : Nat} (hi : i < N) (x : Int) :
    Rg w b1 bh bv r v sv tv B lv S ga N (A.set i x) (W.setCell ⟨ga, i, none⟩ (.int .i64 x)) := by
  have f : Fr (fun b => b = ga) W (W.setCell ⟨ga, i, none⟩ (.int .i64 x)) := Fr.setCell (F := fun b => b = ga) (p := ⟨ga, i, none⟩) (Fr.refl _ _) (fun _ => rfl) _
  obtain ⟨n1, n2, n3, n4, n5⟩ := h.newA
  refine ⟨⟨h.gn.law.keep f (fun b hb => by subst hb; exact ⟨n1, n2⟩), h.gn.set.fr f (fun e => n3 e.symm) (fun b hb e => n4 (by rw [hb, e])), h.gn.new, h.gn.newv⟩, Row.fr h.sps f (fun b hb e => n5 (by rw [hb, e])), (ints_set h.ints hl hi).2.2 x, h.newA⟩
set_option maxRecDepth 100000 in
set_option maxHeartbeats 2000000 in
theorem right_walk {w : World} (hT : TabOk w) {sv tv : Value} {L T : List Int} (h : RI w sv L) (hb : L.length * 8 ≤ 140737488355328) (ht : RI w tv T) (r v off : Int) :
    Calls Tryd.prog 6 #[.agg #[.int .i64 r, .int .i64 v, sv, tv, .int .i64 off]] w fun e w' => e = .returned (.bool true) ∧ Fr (fun _ => False) w w' := by
  have HT := Lib.hid hT
  have H := Lib.hid h
  have HB := Lib.hid hb
  have HTk := Lib.hid ht
  have hf0 : Fr (fun _ => False) w (w.alloc (.cells #[.int .i64 r, .int .i64 v, sv, tv, .int .i64 off] 41)) := Fr.alloc (Fr.refl _ _) _
  have hb0 : (w.alloc (.cells #[.int .i64 r, .int .i64 v, sv, tv, .int .i64 off] 41)).heap[w.heap.size]? = some (.cells #[.int .i64 r, .int .i64 v, sv, tv, .int .i64 off] 41 (0, 0)) := heap_alloc_at _ _
  have HF0 := Lib.hid hf0; have HB0 := Lib.hid hb0
  have HAw := Lib.hid (awake_ok (hT.fr hf0 id))
  clear hT h hb ht hf0 hb0
  go_enter Tryd.func6, Tryd.ntmps6
  go_wp2_with fail
  refine HAw.out.mono ?_
  rintro e w1 ⟨rfl, hf1⟩
  have hb1 := hf1.get HB0.out id
  have c4 := (cell_of hb1 4).trans (show _ = some (Value.int .i64 off) from rfl)
  have z4 : w1.frozen? ⟨w.heap.size, 4, none⟩ = false := free_of hb1 4
  have HLaw := Lib.hid (box_head hb1 (Nat.le_refl _) (HF0.out.trans hf1 (fun _ _ h => h)))
  obtain ⟨b1, hb1e⟩ : ∃ b1, b1 = w.heap.size := ⟨_, rfl⟩
  rw [← hb1e] at HLaw c4 z4 ⊢
  clear hf1 hb1 HAw HF0 HB0 hb1e
  obtain ⟨N, hN, hN1⟩ := seatsN_small r v L
  obtain ⟨c0, c1, c2, c3, c4'⟩ := HLaw.out.c
  have HSet := Lib.hid (set_plain (H.out.keep HLaw.out.fr) (HTk.out.keep HLaw.out.fr) r v hN)
  have HN := Lib.hid hN
  clear hN
  go_wp2_with fail
  refine HSet.out.mono ?_
  rintro e w2 ⟨bh, bv, rfl, hNS⟩
  have q1 := HLaw.out.fr.size
  have q2 := lt_of_block HLaw.out.box
  have HGn : Hid (Gn w b1 bh bv r v sv tv (setL N T) w2) := Lib.hid ⟨HLaw.out.keep0 hNS.fr, hNS.at_, ⟨by have := hNS.new; omega, by have := hNS.new; omega⟩, fun b hb => by have := hNS.newv b hb; omega⟩
  have HBl : Hid ((setL N T).length = N) := Lib.hid (setL_len N T)
  clear hNS q1 q2 HSet HLaw c0 c1 c2 c3 c4 c4' z4
  obtain ⟨B, hB⟩ : ∃ B, B = setL N T := ⟨_, rfl⟩
  rw [← hB] at HGn HBl
  clear hB
  obtain ⟨c0, c1, c2, c3, c4⟩ := HGn.out.law.c
  have HCp := Lib.hid (copyCabin_ok (H.out.keep HGn.out.law.fr) HB.out r v)
  go_wp2_with fail
  refine HCp.out.mono ?_
  rintro e w3 ⟨⟨ov, rfl, hI, _⟩, hf3⟩
  have HGn3 := Lib.hid (HGn.out.keep hf3)
  have HRI := Lib.hid (Ints.ri hI (by have := HB.out; omega))
  clear hI hf3 HGn HCp c0 c1 c2 c3 c4
  cases hq : rightB r v L with
  | false =>
    have hN0 : N = 0 := by have := HN.out; unfold seatsN at this; rw [hq] at this; simp at this; omega
    subst hN0
    have HRn := Lib.hid (runs_err (fun w5 hf5 => checked_arg (HRI.out.keep hf5) hq (some ⟨bh, 0, none⟩)) (by rfl) rfl)
    clear hq
    go_wp2_with fail
    refine HRn.out.mono ?_
    rintro e w4 ⟨rfl, hf4⟩
    have HGn4 := Lib.hid (HGn3.out.keep hf4)
    clear hf4 HRn HGn3
    obtain ⟨c0, c1, c2, c3, c4⟩ := HGn4.out.law.c
    have HSe := Lib.hid (seatsN_ok (H.out.keep HGn4.out.law.fr) r v)
    rw [HN.out] at HSe
    go_wp2_with fail
    refine HSe.out.mono ?_
    rintro e w5 ⟨rfl, hf5⟩
    have HGn5 := Lib.hid (HGn4.out.keep hf5)
    clear hf5 HSe HGn4
    go_wp2_with fail
    go_ret
    exact ⟨rfl, HGn5.out.law.fr⟩
  | true =>
    obtain ⟨R, W, rfl, rfl, hRW, hRW1, hRWs, hW1, hW16⟩ := right_nat hq
    obtain rfl : N = R * W := by have := HN.out; omega
    obtain ⟨N, hNe⟩ : ∃ N, N = R * W := ⟨_, rfl⟩
    rw [← hNe] at hN1 HN HBl hRW1 ⊢
    have HNe := Lib.hid hNe
    have HQ := Lib.hid hq
    have HAsk : Hid (Ask w3 ov L R W bh bv B) := Lib.hid ⟨HT.out.fr HGn3.out.law.fr id, HRI.out, hq, HGn3.out.set, by rw [HBl.out, HNe.out]⟩
    have HRn := Lib.hid HAsk.out.runs
    clear hq hRW hRWs hNe
    go_wp2_with fail
    refine HRn.out.mono ?_
    rintro e w4 ⟨⟨lv, rfl, hS, hown⟩, hf4⟩
    obtain ⟨S, hSe⟩ : ∃ S, S = runs (freeF B) (beg W L) N := ⟨_, rfl⟩
    rw [← HNe.out, ← hSe] at hS
    have hok := runs_are (freeF B) (beg W L) N
    rw [← hSe] at hok
    have hSl : S.length ≤ 1024 := by rw [hSe]; exact runs_le _ _ _ _ hN1
    obtain ⟨la, lc, rfl⟩ := sps_slice hS
    have HGn4 := Lib.hid (HGn3.out.keep hf4)
    have HOk := Lib.hid hok
    obtain ⟨i0, hi, hz0, hz1, hz2⟩ := info_parts Tryd.infoIntP
    have hmk := run_make (P := Tryd.prog) w4 22 3 i0 (.int .i64 0) Tryd.underlying22 hi hz0 .i64 .i64 (N : Int) (N : Int) (by omega) (Int.le_refl _) (by rw [hz2]; omega) (by omega)
    have hfa : Fr (fun _ => False) w4 (w4.alloc (.cells (madeCells #[.int .i64 0] N) 3)) := Fr.alloc (Fr.refl _ _) _
    have hga : (w4.alloc (.cells (madeCells #[.int .i64 0] N) 3)).heap[w4.heap.size]? = some (.cells (madeCells #[.int .i64 0] N) 3 (0, 0)) := heap_alloc_at _ _
    have hbl := HGn4.out.set.lt
    have hb1l := lt_of_block HGn4.out.law.box
    have HRg : Hid (Rg w b1 bh bv R W sv tv B (.slice la S.length lc) S w4.heap.size N (List.replicate N 0) (w4.alloc (.cells (madeCells #[.int .i64 0] N) 3))) := Lib.hid ⟨HGn4.out.keep hfa, Row.fr hS hfa (fun _ _ h => h),
      ⟨by simp, .inr ⟨w4.heap.size, N, _, by simp, Nat.zero_le _, hga, by simp, by unfold maxLen; omega, by simp [size_madeCells], by rw [made_list]; simp [i64v]⟩⟩,
      ⟨by have := HGn4.out.law.fr.size; omega, by omega, by omega, fun e => by have := Row.lt HGn4.out.set.row e; omega, fun e => by have := Row.lt hS e; omega⟩⟩
    obtain ⟨ga, hgae⟩ : ∃ ga, ga = w4.heap.size := ⟨_, rfl⟩
    rw [← hgae] at HRg
    clear hS hown hf4 hSe hok hfa hga hbl hb1l HRn HAsk HGn3 HRI
    go_upto_block 0 with fail
    rw [← hgae]
    clear hgae hmk hi hz0 hz1 hz2
    have HN1 := Lib.hid hN1
    go_cut [] (fun wx => ∃ A, Hid (Cov S N S.length 0 A) ∧ Hid (Rg w b1 bh bv R W sv tv B (.slice la S.length lc) S ga N A wx))
    case first =>
     as_aux_lemma =>
      have HCov0 : Hid (Cov S N 0 0 (List.replicate N 0)) := Lib.hid (Cov.start S N)
      go_wp2_with fail
      go_loopw [9, 10] (fun s9 s10 wr => ∃ (i : Nat) (A : List Int), s9 = .int .i64 i ∧ i ≤ S.length ∧ Hid (Cov S N i 0 A) ∧ Hid (Rg w b1 bh bv R W sv tv B (.slice la S.length lc) S ga N A wr)) (fun s9 _ _ => S.length - (intOf s9).toNat)
      case atStart => exact ⟨0, _, rfl, Nat.zero_le _, HCov0, HRg⟩
      case round =>
        clear HRg HCov0
        obtain ⟨i, A, rfl, hi, HCov, HR⟩ := hrel
        by_cases hlt : i < S.length
        · have hlt' : (i : Int) < (S.length : Int) := by omega
          have i0 : (0 : Int) ≤ (i : Int) := by omega
          obtain ⟨g, cap, e1, d⟩ := Els.cells enc_len HR.out.sps hlt
          obtain rfl : la = some ⟨g, 0, none⟩ := (Value.slice.inj e1).1
          have d0 : wr.cell? ⟨g, i * 2, none⟩ = some (.int .i64 S[i].1) := d 0 (by omega)
          have d1 : wr.cell? ⟨g, i * 2 + 1, none⟩ = some (.int .i64 S[i].2) := d 1 (by omega)
          have p1 := HOk.out.pos _ (List.getElem_mem hlt)
          have p2 := HOk.out.fit _ (List.getElem_mem hlt)
          obtain ⟨f, hf⟩ : ∃ f, f = S[i].1 := ⟨_, rfl⟩
          obtain ⟨c, hc⟩ : ∃ c, c = S[i].2 := ⟨_, rfl⟩
          rw [← hf, ← hc] at p2
          rw [← hf] at d0
          rw [← hc] at d1 p1
          have HFc := Lib.hid (And.intro hf hc)
          have a1 : decide ((c : Int) < 1) = false := by simp; omega
          have a2 : decide ((N : Int) < (c : Int)) = false := by simp; omega
          have a2' : decide (N < c) = false := by simp; omega
          have a3 : decide ((f : Int) < 0) = false := by simp
          obtain ⟨u, hu⟩ : ∃ u, N - c = u := ⟨_, rfl⟩
          have hu1 : (N : Int) - (c : Int) = (u : Int) := by omega
          have hu2 := (wrap_small u (by omega)).2
          have a4 : decide ((u : Int) < (f : Int)) = false := by simp; omega
          have a4' : decide (u < f) = false := by simp; omega
          have HP := Lib.hid (And.intro p1 p2)
          clear d e1 hf hc hu p1 p2
          go_upto_block 1 with fail
          go_upto_region 14 with fail
          go_cut [118] (fun s118 wx => s118 = .bool false ∧ Hid (Fr (fun _ => False) wr wx))
          case first =>
           as_aux_lemma =>
            by_cases t : i = 0
            · have dk : decide ((i : Int) > 0) = false := by simp; omega
              have dk' : decide (0 < i) = false := by simp; omega
              clear t
              go_upto_region 14 with fail
              go_big_quiet (fail)
              go_wp2_with fail
              go_meet
              exact ⟨rfl, Lib.hid ⟨rfl, rfl, rfl, Nat.le_refl _, fun _ _ _ => rfl⟩⟩
            · obtain ⟨j, hj⟩ : ∃ j, i = j + 1 := ⟨i - 1, by omega⟩
              have hjl : j < S.length := by omega
              obtain ⟨g', cap', e2, d'⟩ := Els.cells enc_len HR.out.sps hjl
              obtain rfl : g = g' := by have := (Value.slice.inj e2).1; simpa using this
              have b0 : wr.cell? ⟨g, j * 2, none⟩ = some (.int .i64 S[j].1) := d' 0 (by omega)
              have b1' : wr.cell? ⟨g, j * 2 + 1, none⟩ = some (.int .i64 S[j].2) := d' 1 (by omega)
              have p3 := up_dj HOk.out.up hjl hlt (by omega)
              obtain ⟨pf, hpf⟩ : ∃ f, f = S[j].1 := ⟨_, rfl⟩
              obtain ⟨pc, hpc⟩ : ∃ c, c = S[j].2 := ⟨_, rfl⟩
              rw [← hpf, ← hpc, ← HFc.out.1] at p3
              rw [← hpf] at b0
              rw [← hpc] at b1'
              have hp2 := HP.out.2
              obtain ⟨e, he⟩ : ∃ e, pf + pc = e := ⟨_, rfl⟩
              have he1 : (pf : Int) + (pc : Int) = (e : Int) := by omega
              have he2 := (wrap_small e (by omega)).2
              have a5 : decide ((f : Int) < (e : Int)) = false := by simp; omega
              have a5' : decide (f < e) = false := by simp; omega
              have hkj : (i : Int) - 1 = (j : Int) := by omega
              have hkw := (wrap_small j (by omega)).2
              have hjl' : (j : Int) < (S.length : Int) := by omega
              have j0 : (0 : Int) ≤ (j : Int) := by omega
              have dk : decide ((i : Int) > 0) = true := by simp; omega
              have dk' : decide (0 < i) = true := by simp; omega
              clear t hj d' e2 hpf hpc p3 hp2 he hjl
              go_upto_region 14 with fail
              go_big_quiet (fail)
              go_wp2_with fail
              go_meet
              exact ⟨rfl, Lib.hid ⟨rfl, rfl, rfl, Nat.le_refl _, fun _ _ _ => rfl⟩⟩
          case rest =>
          obtain ⟨rfl, HF1⟩ := hcut
          have HR1 := Lib.hid (HR.out.keep HF1.out)
          clear d0 d1 a1 a2 a2' a3 hu1 hu2 a4 a4' HR HF1
          go_upto_block 2 with fail
          go_wp2_with fail
          go_loopw [10] (fun s10 wr => ∃ (k : Nat) (A2 : List Int), s10 = .int .i64 k ∧ k ≤ c ∧ Hid (Cov S N i k A2) ∧ Hid (Rg w b1 bh bv R W sv tv B (.slice (some ⟨g, 0, none⟩) S.length lc) S ga N A2 wr)) (fun s10 _ => c - (intOf s10).toNat)
          case atStart => exact ⟨0, A, rfl, Nat.zero_le _, HCov, HR1⟩
          case round =>
            clear HR1 HCov
            obtain ⟨k, A2, rfl, hk, HCov, HR⟩ := hrel
            obtain ⟨g', cap', e1, d⟩ := Els.cells enc_len HR.out.sps hlt
            obtain rfl : g = g' := by have := (Value.slice.inj e1).1; simpa using this
            have d0 : wr.cell? ⟨g, i * 2, none⟩ = some (.int .i64 S[i].1) := d 0 (by omega)
            have d1 : wr.cell? ⟨g, i * 2 + 1, none⟩ = some (.int .i64 S[i].2) := d 1 (by omega)
            rw [← HFc.out.1] at d0
            rw [← HFc.out.2] at d1
            clear d e1
            by_cases hkc : k < c
            · have hkc' : (k : Int) < (c : Int) := by omega
              have hp2 := HP.out.2
              obtain ⟨q, hq⟩ : ∃ q, f + k = q := ⟨_, rfl⟩
              have hq1 : (f : Int) + (k : Int) = (q : Int) := by omega
              have hq2 := (wrap_small q (by omega)).2
              have hqN : q < N := by omega
              have hqN' : (q : Int) < (N : Int) := by omega
              have q0 : (0 : Int) ≤ (q : Int) := by omega
              obtain ⟨i1, hi1⟩ : ∃ i1, i + 1 = i1 := ⟨_, rfl⟩
              have hi1' : (i : Int) + 1 = (i1 : Int) := by omega
              have hi2 := (wrap_small i1 (by omega)).2
              obtain ⟨z1, z2, _⟩ := ints_set HR.out.ints HCov.out.len hqN
              have HR3 := Lib.hid (HR.out.put HCov.out.len hqN (i1 : Int))
              have HC3 := Lib.hid (HCov.out.step HOk.out.up hlt (by rw [← HFc.out.2]; exact hkc) (by rw [← HFc.out.1, ← HFc.out.2]; exact hp2))
              rw [← HFc.out.1, hq, hi1] at HC3
              clear hq hi1 hp2 hqN
              go_wp2_with fail
              go_roundw
              case rel => exact ⟨k + 1, _, by go_num, by omega, HC3, HR3⟩
              case measure => simp [intOf]; omega
            · have hkc' : ¬ (k : Int) < (c : Int) := by omega
              obtain rfl : k = c := by omega
              have HC3 : Hid (Cov S N (i + 1) 0 A2) := Lib.hid (Cov.next hlt (by rw [← HFc.out.2]; exact HCov.out))
              go_wp2_with fail
              go_roundw
              case rel => exact ⟨i + 1, A2, by go_num, by omega, HC3, HR⟩
              case measure => simp [intOf]; omega
        · have hlt' : ¬ (i : Int) < (S.length : Int) := by omega
          have hie : i = S.length := by omega
          have HCov1 : Hid (Cov S N S.length 0 A) := Lib.hid (by rw [← hie]; exact HCov.out)
          clear hie HCov
          go_wp2_with fail
          go_meet
          exact ⟨A, HCov1, HR⟩
    case rest =>
    clear HRg
    obtain ⟨A, HCov, HR⟩ := hcut
    go_upto_block 4 with fail
    go_wp2_with fail
    go_loopw [11, 12, 13] (fun s11 s12 s13 wr => ∃ i : Nat, s11 = .int .i64 i ∧ i ≤ N ∧ Hid (Rg w b1 bh bv R W sv tv B (.slice la S.length lc) S ga N A wr)) (fun s11 _ _ _ => N - (intOf s11).toNat)
    case atStart => exact ⟨0, rfl, Nat.zero_le _, HR⟩
    case round =>
      clear HR
      obtain ⟨i, rfl, hi, HR⟩ := hrel
      by_cases hlt : i < N
      · have hlt' : (i : Int) < (N : Int) := by omega
        have i0 : (0 : Int) ≤ (i : Int) := by omega
        obtain ⟨z1, _, _⟩ := ints_set HR.out.ints HCov.out.len hlt
        have hpos := HCov.out.pos HOk.out hlt
        obtain ⟨x, hx⟩ : ∃ x, x = A.getD i 0 := ⟨_, rfl⟩
        rw [← hx] at z1 hpos
        have hpos' : decide (0 < x) = freeF B i := hpos
        obtain ⟨b, hb⟩ : ∃ b, freeF B i = b := ⟨_, rfl⟩
        rw [hb] at hpos'
        have HHas := Lib.hid (has_ok (HR.out.gn.keep (Fr.drew (Fr.refl (fun _ => False) wr))).set (i : Int))
        obtain ⟨nb, hnb⟩ : ∃ nb, (decide ((0 : Int) ≤ (i : Int)) && B.getD (i : Int).toNat false) = nb := ⟨_, rfl⟩
        rw [hnb] at HHas
        have hnn : b = !nb := by
          rw [← hb, ← hnb]; unfold freeF; simp
        have HX := Lib.hid hx; have HBe := Lib.hid hb
        clear hx hpos hb hnb
        go_upto_block 5 with fail
        go_upto_region 23 with fail
        go_cut [152] (fun s152 wx => s152 = .bool false ∧ Hid (Fr (fun _ => False) wr wx))
        case first =>
         as_aux_lemma =>
          cases nb with
          | true =>
            have hb0 : decide (0 < x) = false := by rw [hpos', hnn]; rfl
            clear hpos' hnn
            go_upto_region 23 with fail
            go_region_held3 (fun w' => w'.cell? ⟨ga, i, none⟩ = some (.int .i64 x)) (go_keep) (first | (go_at_call 16; refine HHas.out.mono ?_; rintro r w2 ⟨rfl, rfl⟩))
            go_wp2_with fail
            go_meet
            exact ⟨rfl, Lib.hid (Fr.drew (Fr.refl _ _))⟩
          | false =>
            have hb0 : decide (0 < x) = true := by rw [hpos', hnn]; rfl
            clear hpos' hnn
            go_upto_region 23 with fail
            go_region_held3 (fun w' => w'.cell? ⟨ga, i, none⟩ = some (.int .i64 x)) (go_keep) (first | (go_at_call 16; refine HHas.out.mono ?_; rintro r w2 ⟨rfl, rfl⟩))
            go_wp2_with fail
            go_meet
            exact ⟨rfl, Lib.hid (Fr.drew (Fr.refl _ _))⟩
        case rest =>
        obtain ⟨rfl, HF1⟩ := hcut
        have HR1 := Lib.hid (HR.out.keep HF1.out)
        have HPos := Lib.hid hpos'
        clear z1 HR HF1 HHas hnn hpos'
        by_cases t : i = 0
        · have t1 : ((i : Int) == 0) = true := by simp; omega
          clear t
          go_wp2_with fail
          go_roundw
          case rel => exact ⟨i + 1, by go_num, by omega, HR1⟩
          case measure => simp [intOf]; omega
        · have t1 : ((i : Int) == 0) = false := by simp; omega
          obtain ⟨j, hj⟩ : ∃ j, i - 1 = j := ⟨_, rfl⟩
          have hkj : (i : Int) - 1 = (j : Int) := by omega
          have hkw := (wrap_small j (by omega)).2
          have hjN : j < N := by omega
          have hjN' : (j : Int) < (N : Int) := by omega
          have j0 : (0 : Int) ≤ (j : Int) := by omega
          have HJ := Lib.hid hj
          have hi0 : 0 < i := by omega
          obtain ⟨c0, c1, c2, _, _⟩ := HR1.out.gn.law.c
          have HCp := Lib.hid (copyCabin_ok (H.out.keep HR1.out.gn.law.fr) HB.out (R : Int) (W : Int))
          clear t hj
          go_wp2_with fail
          refine HCp.out.mono ?_
          rintro e w4 ⟨⟨ov, rfl, hI, _⟩, hf4⟩
          obtain ⟨q, hq⟩ : ∃ q, beg W L i = !q := ⟨!beg W L i, by simp⟩
          have HBs := Lib.hid (beside_ok (Ints.ri hI (by have := HB.out; omega)) HQ.out hi0 (by rw [← HNe.out]; exact hlt) hq)
          rw [HJ.out] at HBs
          have HR4 := Lib.hid (HR1.out.keep hf4)
          have HQq := Lib.hid hq
          clear hI hf4 HCp HR1 hq c0 c1 c2
          go_wp2_with fail
          refine HBs.out.mono ?_
          rintro e w5 ⟨rfl, hf5⟩
          have HR5 := Lib.hid (HR4.out.keep hf5)
          clear hf5 HBs HR4
          obtain ⟨z1, _, _⟩ := ints_set HR5.out.ints HCov.out.len hlt
          obtain ⟨z2, _, _⟩ := ints_set HR5.out.ints HCov.out.len hjN
          rw [← HX.out] at z1
          have hpy := HCov.out.pos HOk.out hjN
          obtain ⟨y, hy⟩ : ∃ y, y = A.getD j 0 := ⟨_, rfl⟩
          rw [← hy] at z2 hpy
          have hpy' : decide (0 < y) = freeF B j := hpy
          have HY := Lib.hid hy
          clear hy hpy
          go_upto_region 27 with fail
          go_cut [195] (fun s195 wx => s195 = .bool false ∧ Hid (Fr (fun _ => False) w5 wx))
          case first =>
           as_aux_lemma =>
            cases hby : freeF B j with
            | false =>
              rw [hby] at hpy'
              clear hby
              go_upto_region 27 with fail
              go_big_quiet (fail)
              go_wp2_with fail
              go_meet
              exact ⟨rfl, Lib.hid ⟨rfl, rfl, rfl, Nat.le_refl _, fun _ _ _ => rfl⟩⟩
            | true =>
              rw [hby] at hpy'
              cases b with
              | false =>
                have hpx := HPos.out
                clear hby
                go_upto_region 27 with fail
                go_big_quiet (fail)
                go_wp2_with fail
                go_meet
                exact ⟨rfl, Lib.hid ⟨rfl, rfl, rfl, Nat.le_refl _, fun _ _ _ => rfl⟩⟩
              | true =>
                have hpx := HPos.out
                have hsm := HCov.out.same HOk.out hi0 hlt (by rw [HJ.out]; exact hby) HBe.out
                rw [HJ.out, ← HX.out, ← HY.out, HQq.out, Bool.not_not] at hsm
                clear hby
                cases q with
                | false =>
                  go_upto_region 27 with fail
                  go_big_quiet (fail)
                  go_wp2_with fail
                  go_meet
                  exact ⟨rfl, Lib.hid ⟨rfl, rfl, rfl, Nat.le_refl _, fun _ _ _ => rfl⟩⟩
                | true =>
                  go_upto_region 27 with fail
                  go_big_quiet (fail)
                  go_wp2_with fail
                  go_meet
                  exact ⟨rfl, Lib.hid ⟨rfl, rfl, rfl, Nat.le_refl _, fun _ _ _ => rfl⟩⟩
          case rest =>
          obtain ⟨rfl, HF6⟩ := hcut
          have HR6 := Lib.hid (HR5.out.keep HF6.out)
          clear z1 z2 hpy' HR5 HF6
          go_wp2_with fail
          go_roundw
          case rel => exact ⟨i + 1, by go_num, by omega, HR6⟩
          case measure => simp [intOf]; omega
      · have hlt' : ¬ (i : Int) < (N : Int) := by omega
        go_wp2_with fail
        go_ret
        exact ⟨rfl, HR.out.gn.law.fr⟩
end Go.Proofs.YthckfbfenfkdiaaDoor.Py
