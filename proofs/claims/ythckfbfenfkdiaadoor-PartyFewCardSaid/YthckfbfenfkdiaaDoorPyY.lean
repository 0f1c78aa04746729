/- Parties: PartyFew's walk. Condition: the table of math/bits. -/
import Derived.Test.YthckfbfenfkdiaaDoorPyX
import Derived.Deep.QuietTactic
import Derived.BigQuiet
namespace Go.Proofs.YthckfbfenfkdiaaDoor.Py
open Go.RowKit St Bt
set_option maxRecDepth 100000 in
set_option maxHeartbeats 2000000 in
theorem few_walk {w : World} (hT : TabOk w) {sv tv : Value} {L T : List Int} (h : RI w sv L) (hb : L.length * 8 ≤ 140737488355328) (ht : RI w tv T) (r v off n : Int) :
    Calls Tryd.prog 4 #[.agg #[.int .i64 r, .int .i64 v, sv, tv, .int .i64 off], .int .i64 n] w fun e w' => e = .returned (.bool true) ∧ Fr (fun _ => False) w w' := by
  have HT := Lib.hid hT
  have H := Lib.hid h
  have HB := Lib.hid hb
  have HTk := Lib.hid ht
  have hf0 : Fr (fun _ => False) w (w.alloc (.cells #[.int .i64 r, .int .i64 v, sv, tv, .int .i64 off] 41)) := Fr.alloc (Fr.refl _ _) _
  have hb0 : (w.alloc (.cells #[.int .i64 r, .int .i64 v, sv, tv, .int .i64 off] 41)).heap[w.heap.size]? = some (.cells #[.int .i64 r, .int .i64 v, sv, tv, .int .i64 off] 41 (0, 0)) := heap_alloc_at _ _
  have HF0 := Lib.hid hf0; have HB0 := Lib.hid hb0
  have HAw := Lib.hid (awake_ok (hT.fr hf0 id))
  clear hT h hb ht hf0 hb0
  go_enter Tryd.func4, Tryd.ntmps4
  go_wp2_with fail
  refine HAw.out.mono ?_
  rintro e w1 ⟨rfl, hf1⟩
  have hb1 := hf1.get HB0.out id
  have c4 := (cell_of hb1 4).trans (show _ = some (Value.int .i64 off) from rfl)
  have z4 : w1.frozen? ⟨w.heap.size, 4, none⟩ = false := free_of hb1 4
  have HLaw := Lib.hid (box_head hb1 (Nat.le_refl _) (HF0.out.trans hf1 (fun _ _ h => h)))
  obtain ⟨b1, hb1e⟩ : ∃ b1, b1 = w.heap.size := ⟨_, rfl⟩
  rw [← hb1e] at HLaw c4 z4 ⊢
  clear hf1 hb1 HAw HF0 HB0 hb1e
  obtain ⟨N, hN, hN1⟩ := seatsN_small r v L
  obtain ⟨c0, c1, c2, c3, c4'⟩ := HLaw.out.c
  have HSet := Lib.hid (set_plain (H.out.keep HLaw.out.fr) (HTk.out.keep HLaw.out.fr) r v hN)
  have HN := Lib.hid hN
  clear hN
  go_wp2_with fail
  refine HSet.out.mono ?_
  rintro e w2 ⟨bh, bv, rfl, hNS⟩
  have q1 := HLaw.out.fr.size
  have q2 := lt_of_block HLaw.out.box
  have HGn : Hid (Gn w b1 bh bv r v sv tv (setL N T) w2) := Lib.hid ⟨HLaw.out.keep0 hNS.fr, hNS.at_, ⟨by have := hNS.new; omega, by have := hNS.new; omega⟩, fun b hb => by have := hNS.newv b hb; omega⟩
  have HBl : Hid ((setL N T).length = N) := Lib.hid (setL_len N T)
  clear hNS q1 q2 HSet HLaw c0 c1 c2 c3 c4 c4' z4
  obtain ⟨B, hB⟩ : ∃ B, B = setL N T := ⟨_, rfl⟩
  rw [← hB] at HGn HBl
  clear hB
  obtain ⟨c0, c1, c2, c3, c4⟩ := HGn.out.law.c
  have HCp := Lib.hid (copyCabin_ok (H.out.keep HGn.out.law.fr) HB.out r v)
  go_wp2_with fail
  refine HCp.out.mono ?_
  rintro e w3 ⟨⟨ov, rfl, hI, _⟩, hf3⟩
  have HGn3 := Lib.hid (HGn.out.keep hf3)
  have HRI := Lib.hid (Ints.ri hI (by have := HB.out; omega))
  clear hI hf3 HGn HCp c0 c1 c2 c3 c4
  cases hq : rightB r v L with
  | false =>
    have hN0 : N = 0 := by have := HN.out; unfold seatsN at this; rw [hq] at this; simp at this; omega
    subst hN0
    have HRn := Lib.hid (runs_err (fun w5 hf5 => checked_arg (HRI.out.keep hf5) hq (some ⟨bh, 0, none⟩)) (by rfl) rfl)
    have HQ0 := Lib.hid hq
    clear hq
    go_wp2_with fail
    refine HRn.out.mono ?_
    rintro e w4 ⟨rfl, hf4⟩
    have HGn4 := Lib.hid (HGn3.out.keep hf4)
    clear hf4 HRn HGn3 HRI
    obtain ⟨c0, c1, c2, c3, c4⟩ := HGn4.out.law.c
    have HCp := Lib.hid (copyCabin_ok (H.out.keep HGn4.out.law.fr) HB.out r v)
    go_wp2_with fail
    refine HCp.out.mono ?_
    rintro e w5 ⟨⟨ov2, rfl, hI, _⟩, hf5⟩
    have HGn5 := Lib.hid (HGn4.out.keep hf5)
    have HRI := Lib.hid (Ints.ri hI (by have := HB.out; omega))
    have HSe := Lib.hid (seat_err (fun w6 hf6 => checked_arg (HRI.out.keep hf6) HQ0.out (some ⟨bh, 0, none⟩)) (by rfl) rfl n)
    clear hI hf5 HCp HGn4 c0 c1 c2 c3 c4
    go_wp2_with fail
    refine HSe.out.mono ?_
    rintro e w6 ⟨rfl, hf6⟩
    have HGn6 := Lib.hid (HGn5.out.keep hf6)
    clear hf6 HSe HGn5
    go_wp2_with fail
    go_ret
    exact ⟨rfl, HGn6.out.law.fr⟩
  | true =>
    obtain ⟨R, W, rfl, rfl, hRW, hRW1, hRWs, hW1, hW16⟩ := right_nat hq
    obtain rfl : N = R * W := by have := HN.out; omega
    obtain ⟨N, hNe⟩ : ∃ N, N = R * W := ⟨_, rfl⟩
    rw [← hNe] at hN1 HN HBl hRW1 ⊢
    have HNe := Lib.hid hNe
    have HQ := Lib.hid hq
    have HAsk : Hid (Ask w3 ov L R W bh bv B) := Lib.hid ⟨HT.out.fr HGn3.out.law.fr id, HRI.out, hq, HGn3.out.set, by rw [HBl.out, HNe.out]⟩
    have HRn := Lib.hid HAsk.out.runs
    clear hq hRW hRWs hNe
    go_wp2_with fail
    refine HRn.out.mono ?_
    rintro e w4 ⟨⟨lv, rfl, hS, _⟩, hf4⟩
    obtain ⟨T, hTe⟩ : ∃ T, T = runs (freeF B) (beg W L) N := ⟨_, rfl⟩
    rw [← HNe.out, ← hTe] at hS
    have hok := runs_are (freeF B) (beg W L) N
    rw [← hTe] at hok
    have hTl : T.length ≤ 1024 := by rw [hTe]; exact runs_le _ _ _ _ hN1
    have hTt : total T ≤ 1024 := by
      rw [hTe, total_runs]
      exact Nat.le_trans (List.countP_le_length) (by simpa using hN1)
    obtain ⟨la, lc, rfl⟩ := sps_slice hS
    have HGn4 := Lib.hid (HGn3.out.keep hf4)
    have HOk := Lib.hid hok
    have HTe := Lib.hid hTe
    have HS4 := Lib.hid hS
    clear hS hf4 hTe hok HRn HAsk HGn3 HRI
    obtain ⟨c0, c1, c2, c3, c4⟩ := HGn4.out.law.c
    have HCp := Lib.hid (copyCabin_ok (H.out.keep HGn4.out.law.fr) HB.out (R : Int) (W : Int))
    go_wp2_with fail
    refine HCp.out.mono ?_
    rintro e w5 ⟨⟨ov2, rfl, hI2, _⟩, hf5⟩
    have HGn5 := Lib.hid (HGn4.out.keep hf5)
    have HAsk2 : Hid (Ask w5 ov2 L R W bh bv B) := Lib.hid ⟨HT.out.fr HGn5.out.law.fr id, Ints.ri hI2 (by have := HB.out; omega), HQ.out, HGn5.out.set, by rw [HBl.out, HNe.out]⟩
    have HSe := Lib.hid (seat_any HAsk2.out n)
    rw [← HNe.out, ← HTe.out] at HSe
    have HS5 : Hid (Sps w5 (.slice la T.length lc) T) := Lib.hid (Row.fr HS4.out hf5 (fun _ _ h => h))
    clear hI2 hf5 HCp HGn4 HS4 HAsk2 c0 c1 c2 c3 c4
    go_wp2_with fail
    refine HSe.out.mono ?_
    rintro e w6 ⟨⟨ma, mc, M, x, rfl, hM, hSays⟩, hf6⟩
    obtain ⟨m, hm⟩ : ∃ m, m = M.length := ⟨_, rfl⟩
    rw [← hm] at hM ⊢
    have HFw : Hid (Fw w (.slice la T.length lc) T (.slice ma m mc) M w6) := Lib.hid ⟨Row.fr HS5.out hf6 (fun _ _ h => h), hM, (HGn5.out.keep hf6).law.fr⟩
    have HSays := Lib.hid hSays
    have HMl := Lib.hid hm
    clear hf6 hM hSays hm HSe HS5 HGn5 HBl HN hW1 hW16 hRW1
    obtain ⟨Q, hQ⟩ : ∃ Q, total T = Q := ⟨_, rfl⟩
    rw [hQ] at hTt
    have HQt := Lib.hid hQ
    clear hQ
    go_upto_block 0 with fail
    go_cut [12] (fun s12 wx => s12 = .int .i64 Q ∧ Hid (Fw w (.slice la T.length lc) T (.slice ma m mc) M wx))
    case first =>
     as_aux_lemma =>
      go_wp2_with fail
      go_loopw [12, 13] (fun s12 s13 wr => ∃ i p : Nat, s12 = .int .i64 p ∧ s13 = .int .i64 i ∧ i ≤ T.length ∧ Hid (total (T.take i) = p) ∧ Hid (Fw w (.slice la T.length lc) T (.slice ma m mc) M wr)) (fun _ s13 _ => T.length - (intOf s13).toNat)
      case atStart => exact ⟨0, 0, rfl, rfl, Nat.zero_le _, Lib.hid (by simp [total]), HFw⟩
      case round =>
        clear HFw
        obtain ⟨i, p, rfl, rfl, hi, HP, HFw⟩ := hrel
        by_cases hlt : i < T.length
        · have hlt' : (i : Int) < (T.length : Int) := by omega
          have i0 : (0 : Int) ≤ (i : Int) := by omega
          obtain ⟨g, cap, e1, d⟩ := Els.cells enc_len HFw.out.sps hlt
          obtain rfl : la = some ⟨g, 0, none⟩ := (Value.slice.inj e1).1
          have d1 : wr.cell? ⟨g, i * 2 + 1, none⟩ = some (.int .i64 T[i].2) := d 1 (by omega)
          have ht := total_take hlt
          have htl := total_take_le T (i + 1)
          obtain ⟨c, hc⟩ : ∃ c, c = T[i].2 := ⟨_, rfl⟩
          rw [← hc] at d1 ht
          rw [HP.out] at ht
          rw [HQt.out] at htl
          obtain ⟨q, hq⟩ : ∃ q, p + c = q := ⟨_, rfl⟩
          rw [hq] at ht
          have hq1 : (p : Int) + (c : Int) = (q : Int) := by omega
          have hq2 := (wrap_small q (by omega)).2
          have HP2 := Lib.hid ht
          clear d e1 hc ht htl hq
          go_wp2_with fail
          go_roundw
          case rel => exact ⟨i + 1, q, rfl, by go_num, by omega, HP2, HFw⟩
          case measure => simp [intOf]; omega
        · have hlt' : ¬ (i : Int) < (T.length : Int) := by omega
          have hie : i = T.length := by omega
          obtain rfl : p = Q := by rw [← HP.out, hie, List.take_length, HQt.out]
          clear hie
          go_wp2_with fail
          go_meet
          exact ⟨rfl, HFw⟩
    case rest =>
    clear HFw
    obtain ⟨rfl, HFw⟩ := hcut
    rcases HSays.out with ⟨h1, hM, he⟩ | ⟨m1, hm1, h1, hf, hM, he⟩ | ⟨m1, hm1, h1, hf, he, S, hp, hS, hM⟩
    · obtain rfl : m = 0 := by rw [HMl.out, hM]; rfl
      subst he
      have HFr := Lib.hid HFw.out.fr
      by_cases h2 : n < 1
      · have d1 : decide (n < 1) = true := by simpa using h2
        clear h1 h2 hM
        go_wp2_with fail
        go_ret
        exact ⟨rfl, HFr.out⟩
      · have d1 : decide (n < 1) = false := by simpa using h2
        have d2 : decide (16 < n) = true := by simp; omega
        clear h1 h2 hM
        go_wp2_with fail
        go_ret
        exact ⟨rfl, HFr.out⟩
    · obtain rfl : m = 0 := by rw [HMl.out, hM]; rfl
      subst he hm1
      have HFr := Lib.hid HFw.out.fr
      rw [HQt.out] at hf
      have d1 : decide ((m1 : Int) < 1) = false := by simp; omega
      have d2 : decide ((16 : Int) < (m1 : Int)) = false := by simp; omega
      have d3 : decide ((Q : Int) < (m1 : Int)) = true := by simp; omega
      have d3' : decide (Q < m1) = true := by simp; omega
      clear h1 hf hM
      go_wp2_with fail
      go_ret
      exact ⟨rfl, HFr.out⟩
    · obtain rfl : m = m1 := by rw [HMl.out, hM]; exact srtI_lenF (by rw [show total S = total T by unfold total; exact (hp.map _).sum_nat]; exact hf)
      subst he hm1
      obtain ⟨g, hL, hcnt⟩ := lies_of HOk.out hp hf
      rw [← hM] at hL
      obtain ⟨K, hK⟩ : ∃ K, steps S.length S m = K := ⟨_, rfl⟩
      rw [hK] at hcnt
      have hK1 : K ≤ 1024 := by rw [← hcnt]; exact Nat.le_trans List.countP_le_length hTl
      have hpos1 : ∀ x ∈ S, 1 ≤ x.2 := fun x hx => HOk.out.pos x (hp.mem_iff.1 hx)
      have hTn : 0 < T.length := by
        cases T with
        | nil => simp [total] at hf; omega
        | cons x T => simp
      have HSt : Hid (m ≤ 0 ∧ 0 = K ∨ 0 < m ∧ ∃ S', SrtS S' ∧ (∀ x ∈ S', 1 ≤ x.2) ∧ m - 0 ≤ total S' ∧ Holes (T.map (·.2)) S' ∧ 0 + steps S'.length S' (m - 0) = K) := Lib.hid (.inr ⟨by omega, S, hS, hpos1, by rw [show total S = total T by unfold total; exact (hp.map _).sum_nat]; exact hf, Holes.start hp, by rw [Nat.zero_add]; exact hK⟩)
      have HL := Lib.hid hL; have HCnt := Lib.hid hcnt
      rw [HQt.out] at hf
      have d1 : decide ((m : Int) < 1) = false := by simp; omega
      have d2 : decide ((16 : Int) < (m : Int)) = false := by simp; omega
      have d3 : decide ((Q : Int) < (m : Int)) = false := by simp; omega
      have d3' : decide (Q < m) = false := by simp; omega
      have d4 : ((m : Int) != (m : Int)) = false := by simp
      have hm16 := h1.2
      clear h1 hf hM hp hS hL hcnt hK hpos1 HSays
      go_upto_block 2 with fail
      clear d1 d2 d3 d3' d4
      go_cut [14, 15] (fun s14 s15 wx => s14 = .int .i64 K ∧ s15 = .int .i64 m ∧ Hid (Fw w (.slice la T.length lc) T (.slice ma m mc) M wx))
      case first =>
       as_aux_lemma =>
        clear HSt
        go_wp2_with fail
        go_loopw [14, 15, 16, 17] (fun s14 s15 s16 s17 wr => ∃ i o u : Nat, s14 = .int .i64 u ∧ s15 = .int .i64 o ∧ s16 = .int .i64 i ∧ i ≤ T.length ∧ o ≤ m ∧ u ≤ i ∧ Hid (offs g T i = o ∧ (T.take i).countP (fun x => decide (0 < g x)) = u) ∧ Hid (Fw w (.slice la T.length lc) T (.slice ma m mc) M wr)) (fun _ _ s16 _ _ => T.length - (intOf s16).toNat)
        case atStart => exact ⟨0, 0, 0, rfl, rfl, rfl, Nat.zero_le _, Nat.zero_le _, Nat.le_refl _, Lib.hid ⟨by simp [offs], by simp⟩, HFw⟩
        case round =>
          clear HFw
          obtain ⟨i, o, u, rfl, rfl, rfl, hi, ho, hu, HO, HFw⟩ := hrel
          by_cases hlt : i < T.length
          · have hlt' : (i : Int) < (T.length : Int) := by omega
            have i0 : (0 : Int) ≤ (i : Int) := by omega
            obtain ⟨g0, cap0, e1, _⟩ := Els.cells enc_len HFw.out.sps hlt
            obtain rfl : la = some ⟨g0, 0, none⟩ := (Value.slice.inj e1).1
            have p2 := HOk.out.fit _ (List.getElem_mem hlt)
            have p3 := HL.out.le i hlt
            have p4 := offs_succ (g := g) hlt
            have p5 := offs_le (g := g) (T := T) (i + 1)
            have p6 := count_take (p := fun x => decide (0 < g x)) hlt
            rw [HL.out.all] at p5
            rw [HO.out.1] at p4
            rw [HO.out.2] at p6
            obtain ⟨f, hf⟩ : ∃ f, f = T[i].1 := ⟨_, rfl⟩
            obtain ⟨c, hc⟩ : ∃ c, c = T[i].2 := ⟨_, rfl⟩
            obtain ⟨gi, hgi⟩ : ∃ gi, gi = g T[i] := ⟨_, rfl⟩
            rw [← hf, ← hc] at p2
            rw [← hgi, ← hc] at p3
            rw [← hgi] at p4 p6
            obtain ⟨o2, ho2⟩ : ∃ o2, offs g T (i + 1) = o2 := ⟨_, rfl⟩
            rw [ho2] at p4 p5
            have HFc := Lib.hid (And.intro hf (And.intro hc (And.intro hgi ho2)))
            have HP6 := Lib.hid p6
            have HP2 := Lib.hid (And.intro p2 p3)
            clear e1 hf hc hgi ho2 p6 p2 p3
            go_upto_block 4 with fail
            go_cut [15, 17] (fun s15 s17 wx => s15 = .int .i64 o2 ∧ s17 = .int .i64 gi ∧ Hid (Fw w (.slice (some ⟨g0, 0, none⟩) T.length lc) T (.slice ma m mc) M wx))
            case first =>
             as_aux_lemma =>
              go_wp2_with fail
              go_loopw [15, 17] (fun s15 s17 wr => ∃ k p : Nat, s15 = .int .i64 p ∧ s17 = .int .i64 k ∧ k ≤ gi ∧ o + k = p ∧ Hid (Fw w (.slice (some ⟨g0, 0, none⟩) T.length lc) T (.slice ma m mc) M wr)) (fun _ s17 _ => gi - (intOf s17).toNat)
              case atStart => exact ⟨0, o, rfl, rfl, Nat.zero_le _, rfl, HFw⟩
              case round =>
                clear HFw
                obtain ⟨k, p, rfl, rfl, hk, hp, HFw⟩ := hrel
                obtain ⟨g1, cap1, e1, d⟩ := Els.cells enc_len HFw.out.sps hlt
                obtain rfl : g0 = g1 := by have := (Value.slice.inj e1).1; simpa using this
                clear e1
                have d0 : wr.cell? ⟨g0, i * 2, none⟩ = some (.int .i64 T[i].1) := d 0 (by omega)
                have d1 : wr.cell? ⟨g0, i * 2 + 1, none⟩ = some (.int .i64 T[i].2) := d 1 (by omega)
                rw [← HFc.out.1] at d0
                rw [← HFc.out.2.1] at d1
                have p0 : (0 : Int) ≤ (p : Int) := by omega
                have hp2 := HP2.out
                obtain ⟨e, he⟩ : ∃ e, f + c = e := ⟨_, rfl⟩
                have he1 : (f : Int) + (c : Int) = (e : Int) := by omega
                have he2 := (wrap_small e (by omega)).2
                by_cases hkg : k < gi
                · have hpm : p < m := by omega
                  have hpm' : (p : Int) < (m : Int) := by omega
                  have a1 : decide ((p : Int) < (m : Int)) = true := by simp; omega
                  have a1' : decide (p < m) = true := by simp; omega
                  obtain ⟨gm, hgm, hmM, z⟩ := ints_at HFw.out.ints (i := p) (by rw [← HMl.out]; exact hpm)
                  have hget := HL.out.get i hlt k (by rw [← HFc.out.2.2.1]; exact hkg)
                  rw [HO.out.1, hp, ← HFc.out.1] at hget
                  obtain ⟨y, hy⟩ : ∃ y, f + k = y := ⟨_, rfl⟩
                  rw [hy] at hget
                  rw [hget] at z
                  have hy1 : (f : Int) + (k : Int) = (y : Int) := by omega
                  have hy2 := (wrap_small y (by omega)).2
                  have a2 : decide ((y : Int) < (e : Int)) = true := by simp; omega
                  have a2' : decide (y < e) = true := by simp; omega
                  have a3 : ((y : Int) != (y : Int)) = false := by simp
                  subst hgm
                  clear d hp2 he hget hy hpm hmM
                  go_upto_region 25 with fail
                  go_cut [138] (fun s138 wx => s138 = .bool true ∧ Hid (Fr (fun _ => False) wr wx))
                  case first =>
                   as_aux_lemma =>
                    go_upto_region 25 with fail
                    go_big_quiet (fail)
                    go_wp2_with fail
                    go_meet
                    exact ⟨rfl, Lib.hid ⟨rfl, rfl, rfl, Nat.le_refl _, fun _ _ _ => rfl⟩⟩
                  case rest =>
                  obtain ⟨rfl, HF1⟩ := hcut
                  have d0' := (HF1.out.cell (World.block_lt_of_cell? _ _ d0) id).trans d0
                  have z' := (HF1.out.cell (World.block_lt_of_cell? _ _ z) id).trans z
                  have HFw1 := Lib.hid (HFw.out.keep HF1.out)
                  clear d0 d1 z HFw HF1 a1 a1' a2 a2' he1 he2
                  go_upto_block 5 with fail
                  go_upto_region 26 with fail
                  go_still (by kernel_rfl)
                  go_wp2_with fail
                  go_roundw
                  case rel => exact ⟨k + 1, p + 1, by go_num, by go_num, by omega, by omega, Lib.hid (HFw1.out.keep (Fr.drew (Fr.refl _ _)))⟩
                  case measure => simp [intOf]; omega
                · obtain rfl : k = gi := by omega
                  obtain rfl : p = o2 := by omega
                  clear hp p4
                  go_upto_region 25 with fail
                  go_cut [138] (fun s138 wx => s138 = .bool false ∧ Hid (Fr (fun _ => False) wr wx))
                  case first =>
                   as_aux_lemma =>
                    by_cases hpm : p < m
                    · have hpm' : (p : Int) < (m : Int) := by omega
                      have a1 : decide ((p : Int) < (m : Int)) = true := by simp; omega
                      have a1' : decide (p < m) = true := by simp; omega
                      obtain ⟨gm, hgm, hmM, z⟩ := ints_at HFw.out.ints (i := p) (by rw [← HMl.out]; exact hpm)
                      have hnx := HL.out.next i hlt (by rw [HFc.out.2.2.2]; exact hpm)
                      rw [HFc.out.2.2.2, ← HFc.out.1, ← HFc.out.2.1, he] at hnx
                      obtain ⟨y, hy⟩ : ∃ y, y = M.getD p 0 := ⟨_, rfl⟩
                      rw [← hy] at hnx z
                      have a2 : decide (y < (e : Int)) = false := by simp; omega
                      subst hgm
                      clear d hp2 he hnx hy hpm hmM
                      go_upto_region 25 with fail
                      go_big_quiet (fail)
                      go_wp2_with fail
                      go_meet
                      exact ⟨rfl, Lib.hid ⟨rfl, rfl, rfl, Nat.le_refl _, fun _ _ _ => rfl⟩⟩
                    · have a1 : decide ((p : Int) < (m : Int)) = false := by simp; omega
                      have a1' : decide (p < m) = false := by simp; omega
                      clear d hp2 he hpm
                      go_upto_region 25 with fail
                      go_big_quiet (fail)
                      go_wp2_with fail
                      go_meet
                      exact ⟨rfl, Lib.hid ⟨rfl, rfl, rfl, Nat.le_refl _, fun _ _ _ => rfl⟩⟩
                  case rest =>
                  obtain ⟨rfl, HF1⟩ := hcut
                  have HFw1 := Lib.hid (HFw.out.keep HF1.out)
                  clear d0 d1 d HFw HF1 he1 he2 hp2 he
                  go_wp2_with fail
                  go_meet
                  exact ⟨rfl, rfl, HFw1⟩
            case rest =>
            clear HFw
            obtain ⟨rfl, rfl, HFw⟩ := hcut
            by_cases hg : 0 < gi
            · have a1 : decide ((0 : Int) < (gi : Int)) = true := by simp; omega
              have a1' : decide (0 < gi) = true := by simp; omega
              have HO2 : Hid (offs g T (i + 1) = o2 ∧ (T.take (i + 1)).countP (fun x => decide (0 < g x)) = u + 1) := Lib.hid ⟨HFc.out.2.2.2, by rw [HP6.out]; simp [hg]⟩
              clear hg
              go_wp2_with fail
              go_roundw
              case rel => exact ⟨i + 1, o2, u + 1, by go_num, rfl, by go_num, by omega, by omega, by omega, HO2, HFw⟩
              case measure => simp [intOf]; omega
            · have a1 : decide ((0 : Int) < (gi : Int)) = false := by simp; omega
              have a1' : decide (0 < gi) = false := by simp; omega
              have HO2 : Hid (offs g T (i + 1) = o2 ∧ (T.take (i + 1)).countP (fun x => decide (0 < g x)) = u) := Lib.hid ⟨HFc.out.2.2.2, by rw [HP6.out]; simp [hg]⟩
              clear hg
              go_wp2_with fail
              go_roundw
              case rel => exact ⟨i + 1, o2, u, rfl, rfl, by go_num, by omega, by omega, by omega, HO2, HFw⟩
              case measure => simp [intOf]; omega
          · have hlt' : ¬ (i : Int) < (T.length : Int) := by omega
            have hie : i = T.length := by omega
            obtain rfl : o = m := by rw [← HO.out.1, hie]; exact HL.out.all
            obtain rfl : u = K := by rw [← HO.out.2, hie, List.take_length]; exact HCnt.out
            clear hie
            go_wp2_with fail
            go_meet
            exact ⟨rfl, rfl, HFw⟩
      case rest =>
      clear HFw
      obtain ⟨rfl, rfl, HFw⟩ := hcut
      obtain ⟨i0, hi, hz0, hz1, hz2⟩ := info_parts Tryd.infoIntP
      have hmk := run_make (P := Tryd.prog) wc 22 3 i0 (.int .i64 0) Tryd.underlying22 hi hz0 .i64 .i64 0 (T.length : Int) (by omega) (by omega) (by rw [hz2]; omega) (by omega)
      have hfa : Fr (fun _ => False) wc (wc.alloc (.cells (madeCells #[.int .i64 0] T.length) 3)) := Fr.alloc (Fr.refl _ _) _
      have HFl : Hid (Fl w (.slice la T.length lc) T (.slice ma m mc) M (.slice (some ⟨wc.heap.size, 0, none⟩) 0 T.length) (List.map Int.ofNat []) (wc.alloc (.cells (madeCells #[.int .i64 0] T.length) 3))) := Lib.hid ⟨HFw.out.keep hfa,
        ⟨rfl, .inr ⟨wc.heap.size, T.length, madeCells #[.int .i64 0] T.length, rfl, Nat.zero_le _, (by rw [heap_alloc_get]; simp), Nat.zero_le _, (by unfold maxLen; omega), (by simp [size_madeCells]), rfl⟩⟩,
        fun b hb => by
          simp [Value.ownBlock] at hb
          subst hb
          exact ⟨HFw.out.fr.size, fun e => by have := Row.lt HFw.out.sps e; omega, fun e => by have := Row.lt HFw.out.ints e; omega⟩⟩
      clear hfa HFw
      go_upto_block 6 with fail
      clear hmk hi hz0 hz1 hz2
      go_cut [18] (fun s18 wx => ∃ (da : Option Addr) (dc : Nat), s18 = .slice da T.length dc ∧ Hid (Fl w (.slice la T.length lc) T (.slice ma m mc) M (.slice da T.length dc) (List.map Int.ofNat (List.map (·.2) T)) wx))
      case first =>
       as_aux_lemma =>
        clear HSt
        go_wp2_with fail
        go_loopw [18, 19] (fun s18 s19 wr => ∃ (i : Nat) (da : Option Addr) (dc : Nat), s18 = .slice da i dc ∧ s19 = .int .i64 i ∧ i ≤ T.length ∧ Hid (Fl w (.slice la T.length lc) T (.slice ma m mc) M (.slice da i dc) (List.map Int.ofNat (List.map (·.2) (T.take i))) wr)) (fun _ s19 _ => T.length - (intOf s19).toNat)
        case atStart => exact ⟨0, _, _, rfl, rfl, Nat.zero_le _, HFl⟩
        case round =>
          clear HFl
          obtain ⟨i, da, dc, rfl, rfl, hi, HFl⟩ := hrel
          by_cases hlt : i < T.length
          · have hlt' : (i : Int) < (T.length : Int) := by omega
            have i0 : (0 : Int) ≤ (i : Int) := by omega
            obtain ⟨g0, cap0, e1, d⟩ := Els.cells enc_len HFl.out.fw.sps hlt
            obtain rfl : la = some ⟨g0, 0, none⟩ := (Value.slice.inj e1).1
            have d1 : wr.cell? ⟨g0, i * 2 + 1, none⟩ = some (.int .i64 T[i].2) := d 1 (by omega)
            have hln : (List.map Int.ofNat (List.map (·.2) (T.take i))).length = i := by simp; omega
            obtain ⟨a', c', W2, hrun, hI, hf, ho⟩ := app_int HFl.out.left (by rw [hln]; omega) (T[i].2 : Int)
            have e3 : List.map Int.ofNat (List.map (·.2) (T.take i)) ++ [(T[i].2 : Int)] = List.map Int.ofNat (List.map (·.2) (T.take (i + 1))) := by
              rw [List.take_succ_eq_append_getElem hlt, List.map_append, List.map_append]; rfl
            rw [hln] at hrun hI ho
            rw [e3] at hI
            have HFl2 := Lib.hid (HFl.out.more hf hI ho)
            obtain ⟨c, hc⟩ : ∃ c, c = T[i].2 := ⟨_, rfl⟩
            rw [← hc] at d1 hrun
            have Hrun := Lib.hid hrun
            clear d e1 hln hrun hI hf ho e3 hc
            go_wp2_with (at_builtin; refine wpList_append_run rfl _ _ _ rfl rfl rfl Hrun.out ?_)
            go_roundw
            case rel => exact ⟨i + 1, a', c', rfl, by go_num, by omega, HFl2⟩
            case measure => simp [intOf]; omega
          · have hlt' : ¬ (i : Int) < (T.length : Int) := by omega
            have hie : i = T.length := by omega
            have HFl2 : Hid (Fl w (.slice la T.length lc) T (.slice ma m mc) M (.slice da T.length dc) (List.map Int.ofNat (List.map (·.2) T)) wr) := Lib.hid (by have := HFl.out; rw [hie, List.take_length] at this; exact this)
            subst hie
            go_wp2_with fail
            go_meet
            exact ⟨da, dc, rfl, HFl2⟩
      case rest =>
      clear HFl
      obtain ⟨da, dc, rfl, HFl⟩ := hcut
      go_upto_block 8 with fail
      go_cut [20] (fun s20 wx => s20 = .int .i64 K ∧ Hid (Fr (fun _ => False) w wx))
      case first =>
       as_aux_lemma =>
        have HA0 : Hid (∀ a ∈ List.map (·.2) T, a ≤ 1024) := Lib.hid (fun a ha => by
          obtain ⟨x, hx, rfl⟩ := List.mem_map.1 ha
          have := HOk.out.fit x hx
          omega)
        have hl0 : (List.map (·.2) T).length = T.length := List.length_map _
        go_wp2_with fail
        go_loopw [20, 21, 22, 23] (fun s20 s21 s22 s23 wr => ∃ (mu ro : Nat) (A : List Nat), s20 = .int .i64 mu ∧ s21 = .int .i64 ro ∧ mu ≤ K ∧ ro ≤ 2000 ∧ Hid (m ≤ ro ∧ mu = K ∨ ro < m ∧ ∃ S', SrtS S' ∧ (∀ x ∈ S', 1 ≤ x.2) ∧ m - ro ≤ total S' ∧ Holes A S' ∧ mu + steps S'.length S' (m - ro) = K) ∧ A.length = T.length ∧ Hid (∀ a ∈ A, a ≤ 1024) ∧ Hid (Fl w (.slice la T.length lc) T (.slice ma m mc) M (.slice da T.length dc) (List.map Int.ofNat A) wr)) (fun _ s21 _ _ _ => m - (intOf s21).toNat)
        case atStart => exact ⟨0, 0, _, rfl, rfl, Nat.zero_le _, by omega, HSt, hl0, HA0, HFl⟩
        case round =>
          clear HFl HSt HA0 hl0
          obtain ⟨mu, ro, A, rfl, rfl, hmu, hro, HR, hAl, HA, HFl⟩ := hrel
          by_cases hlt : ro < m
          · have hlt' : (ro : Int) < (m : Int) := by omega
            obtain ⟨gd, rfl, hx1, hx2⟩ := ints_at HFl.out.left (i := 0) (by simp; omega)
            clear hx1 hx2
            go_upto_block 10 with fail
            go_cut [22] (fun s22 wx => ∃ b : Nat, s22 = .int .i64 b ∧ Hid (Top A b) ∧ Hid (Fl w (.slice la T.length lc) T (.slice ma m mc) M (.slice (some ⟨gd, 0, none⟩) T.length dc) (List.map Int.ofNat A) wx))
            case first =>
             as_aux_lemma =>
              go_wp2_with fail
              go_loopw [22, 23] (fun s22 s23 wr => ∃ b j : Nat, s22 = .int .i64 b ∧ s23 = .int .i64 j ∧ b < j ∧ j ≤ T.length ∧ Hid (∀ q (h : q < A.length), q < j → ∀ hb : b < A.length, A[q] ≤ A[b]) ∧ Hid (Fl w (.slice la T.length lc) T (.slice ma m mc) M (.slice (some ⟨gd, 0, none⟩) T.length dc) (List.map Int.ofNat A) wr)) (fun _ s23 _ => T.length - (intOf s23).toNat)
              case atStart => exact ⟨0, 1, rfl, rfl, by omega, by omega, Lib.hid (fun q _ hq _ => by obtain rfl : q = 0 := by omega
                                                                                                     exact Nat.le_refl _), HFl⟩
              case round =>
                clear HFl
                obtain ⟨b, j, rfl, rfl, hbj, hj, HM, HFl⟩ := hrel
                by_cases hjl : j < T.length
                · have hjl' : (j : Int) < (T.length : Int) := by omega
                  have j0 : (0 : Int) ≤ (j : Int) := by omega
                  have b0 : (0 : Int) ≤ (b : Int) := by omega
                  have hbl' : (b : Int) < (T.length : Int) := by omega
                  have hjA : j < A.length := by omega
                  have hbA : b < A.length := by omega
                  obtain ⟨g1, e1, x1, z1⟩ := ints_at HFl.out.left (i := j) (by simp; omega)
                  obtain rfl : gd = g1 := by simpa using e1
                  obtain ⟨g1, e2, x2, z2⟩ := ints_at HFl.out.left (i := b) (by simp; omega)
                  obtain rfl : gd = g1 := by simpa using e2
                  rw [show (List.map Int.ofNat A).getD j 0 = ((A[j] : Nat) : Int) by simp [List.getD_eq_getElem?_getD, hjA]] at z1
                  rw [show (List.map Int.ofNat A).getD b 0 = ((A[b] : Nat) : Int) by simp [List.getD_eq_getElem?_getD, hbA]] at z2
                  obtain ⟨y, hy⟩ : ∃ y, y = A[j] := ⟨_, rfl⟩
                  obtain ⟨x, hx⟩ : ∃ x, x = A[b] := ⟨_, rfl⟩
                  rw [← hy] at z1
                  rw [← hx] at z2
                  by_cases hxy : x < y
                  · have a1 : decide ((x : Int) < (y : Int)) = true := by simp; omega
                    have a1' : decide (x < y) = true := by simp; omega
                    have HM2 : Hid (∀ q (h : q < A.length), q < j + 1 → ∀ hb : j < A.length, A[q] ≤ A[j]) := Lib.hid (fun q hq hqj _ => by
                      by_cases e : q = j
                      · subst e; exact Nat.le_refl _
                      · have := HM.out q hq (by omega) hbA
                        omega)
                    clear e1 e2 x1 x2 hy hx hxy
                    go_upto_block 11 with fail
                    go_upto_region 43 with fail
                    go_still (by kernel_rfl)
                    go_wp2_with fail
                    go_roundw
                    case rel => exact ⟨j, j + 1, by go_num, by go_num, by omega, by omega, HM2, Lib.hid (HFl.out.keep (Fr.drew (Fr.refl _ _)))⟩
                    case measure => simp [intOf]; omega
                  · have a1 : decide ((x : Int) < (y : Int)) = false := by simp; omega
                    have a1' : decide (x < y) = false := by simp; omega
                    have HM2 : Hid (∀ q (h : q < A.length), q < j + 1 → ∀ hb : b < A.length, A[q] ≤ A[b]) := Lib.hid (fun q hq hqj _ => by
                      by_cases e : q = j
                      · subst e; omega
                      · exact HM.out q hq (by omega) hbA)
                    clear e1 e2 x1 x2 hy hx hxy
                    go_upto_block 11 with fail
                    go_upto_region 43 with fail
                    go_still (by kernel_rfl)
                    go_wp2_with fail
                    go_roundw
                    case rel => exact ⟨b, j + 1, by go_num, by go_num, by omega, by omega, HM2, Lib.hid (HFl.out.keep (Fr.drew (Fr.refl _ _)))⟩
                    case measure => simp [intOf]; omega
                · have hjl' : ¬ (j : Int) < (T.length : Int) := by omega
                  have HTop : Hid (Top A b) := Lib.hid ⟨by omega, fun q hq => HM.out q hq (by omega) (by omega)⟩
                  go_wp2_with fail
                  go_meet
                  exact ⟨b, rfl, HTop, HFl⟩
            case rest =>
            clear HFl
            obtain ⟨b, rfl, HTop, HFl⟩ := hcut
            have hbA := HTop.out.lt
            have hbT : b < T.length := by omega
            have b0 : (0 : Int) ≤ (b : Int) := by omega
            have hbl' : (b : Int) < (T.length : Int) := by omega
            obtain ⟨g1, e2, x2, z2⟩ := ints_at HFl.out.left (i := b) (by simp; omega)
            obtain rfl : gd = g1 := by simpa using e2
            have z3 := (ints_put HFl.out.left (by simp; omega) hbT).1
            have HFl2 := Lib.hid (HFl.out.put (by simp; omega) hbT 0)
            rw [show (List.map Int.ofNat A).getD b 0 = ((A[b] : Nat) : Int) by simp [List.getD_eq_getElem?_getD, hbA]] at z2
            rw [show (List.map Int.ofNat A).set b 0 = List.map Int.ofNat (A.set b 0) by rw [List.map_set]; rfl] at HFl2
            have hx1 := HA.out _ (List.getElem_mem hbA)
            have HA2 : Hid (∀ a ∈ A.set b 0, a ≤ 1024) := Lib.hid (fun a ha => by
              rcases List.mem_or_eq_of_mem_set ha with h | h
              · exact HA.out a h
              · omega)
            have hAl2 : (A.set b 0).length = T.length := by simpa using hAl
            obtain ⟨S', s1, s2, s3, s4, s5⟩ := (HR.out.resolve_left (by omega)).2
            have hstep := s4.step s1 s2 (by omega) s3 HTop.out
            obtain ⟨x, hx⟩ : ∃ x, A[b] = x := ⟨_, rfl⟩
            rw [hx] at z2 hstep hx1
            obtain ⟨ro2, hr2⟩ : ∃ r, ro + x = r := ⟨_, rfl⟩
            have hr2' : (ro : Int) + (x : Int) = (ro2 : Int) := by omega
            have hr2w := (wrap_small ro2 (by omega)).2
            have HR2 : Hid (mu + 1 ≤ K ∧ 1 ≤ x ∧ (m ≤ ro2 ∧ mu + 1 = K ∨ ro2 < m ∧ ∃ S', SrtS S' ∧ (∀ x ∈ S', 1 ≤ x.2) ∧ m - ro2 ≤ total S' ∧ Holes (A.set b 0) S' ∧ mu + 1 + steps S'.length S' (m - ro2) = K)) := Lib.hid (by
              rcases hstep with ⟨k1, k2⟩ | ⟨k1, k0, S2, k3, k4, k5, k6, k7⟩
              · exact ⟨by omega, by omega, .inl ⟨by omega, by omega⟩⟩
              · have e : m - ro - x = m - ro2 := by omega
                rw [e] at k5 k7
                exact ⟨by omega, by omega, .inr ⟨by omega, S2, k3, k4, k5, k6, by omega⟩⟩)
            have hmuK := HR2.out.1
            have hx0 := HR2.out.2.1
            clear e2 x2 hbA hbT s1 s2 s3 s4 s5 hstep hx
            go_wp2_with fail
            go_roundw
            case rel => exact ⟨mu + 1, ro2, A.set b 0, by go_num, by go_num, by omega, by omega, Lib.hid HR2.out.2.2, hAl2, HA2, HFl2⟩
            case measure => simp [intOf]; omega
          · have hlt' : ¬ (ro : Int) < (m : Int) := by omega
            obtain rfl : mu = K := by
              rcases HR.out with ⟨_, h⟩ | ⟨h, _⟩
              · exact h
              · omega
            have HFr := Lib.hid HFl.out.fw.fr
            go_wp2_with fail
            go_meet
            exact ⟨rfl, HFr⟩
      case rest =>
      clear HFl HSt
      obtain ⟨rfl, HFr⟩ := hcut
      have k1 : ((m : Int) == (m : Int)) = true := by simp
      have k2 : ((K : Int) == (K : Int)) = true := by simp
      go_wp2_with fail
      go_ret
      exact ⟨rfl, HFr.out⟩
end Go.Proofs.YthckfbfenfkdiaaDoor.Py
