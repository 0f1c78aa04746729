/- Parties: the seats of a party, the loop. Condition: the table of math/bits. -/
import Derived.Test.YthckfbfenfkdiaaDoorPyK
namespace Go.Proofs.YthckfbfenfkdiaaDoor.Py
open Go.RowKit Go.Sort St Bt
/-- What stands while seats are taken: t5 is the block of the number that is left, b that of the list. -/
structure Sit (w : World) (t5 b cap : Nat) (S : List Sp) (m : Nat) (ov : Value) (out : List Int) (W : World) : Prop where
  sps : Sps W (.slice (some ⟨b, 0, none⟩) S.length cap) S
  box : W.heap[t5]? = some (.cells #[.int .i64 m] 3 (0, 0))
  ints : Ints W ov out
  own : ∀ x, ov.ownBlock = some x → w.heap.size ≤ x ∧ x ≠ b ∧ x ≠ t5
  new : w.heap.size ≤ t5 ∧ w.heap.size ≤ b ∧ t5 ≠ b
  fr : Fr (fun _ => False) w W
theorem Sit.keep {w : World} {t5 b cap : Nat} {S : List Sp} {m : Nat} {ov : Value} {out : List Int} {W W' : World} (h : Sit w t5 b cap S m ov out W) (f : Fr (fun _ => False) W W') : Sit w t5 b cap S m ov out W' :=
  ⟨Row.fr h.sps f (fun _ _ h => h), f.get h.box id, Row.fr h.ints f (fun _ _ h => h), h.own, h.new, h.fr.trans f (fun _ _ h => h)⟩
theorem Sit.more {w : World} {t5 b cap : Nat} {S : List Sp} {m : Nat} {ov ov' : Value} {out out' : List Int} {W W' : World} (h : Sit w t5 b cap S m ov out W) (f : Fr (fun x => ov.ownBlock = some x) W W') (hi : Ints W' ov' out') (ho : ∀ x, ov'.ownBlock = some x → ov.ownBlock = some x ∨ W.heap.size ≤ x) : Sit w t5 b cap S m ov' out' W' := by
  refine ⟨Row.fr h.sps f (fun x hx hF => ?_), f.get h.box (fun hF => (h.own _ hF).2.2 rfl), hi, fun x hx => ?_, h.new, ((h.fr.mono (G := fun b => w.heap.size ≤ b) (fun _ _ h => h.elim)).trans f (fun b _ hb => (h.own b hb).1)).toNew⟩
  · simp [Value.ownBlock] at hx; exact (h.own _ hF).2.1 hx.symm
  · rcases ho x hx with h1 | h1
    · exact h.own x h1
    · have q1 := h.fr.size; have q2 := lt_of_block h.box; have q3 := Row.lt h.sps (b := b) rfl
      omega
theorem cnt_free (B : List Bool) : (List.range B.length).countP (freeF B) = B.length - cnt B := by
  have h1 : (List.range B.length).map (fun j => B.getD j false) = B := by
    apply List.ext_getElem (by simp)
    intro i h1 h2
    simp [List.getD_eq_getElem?_getD, h2]
  have h2 : (List.range B.length).countP (freeF B) = B.countP (fun b => !b) := by
    conv => rhs; rw [← h1, List.countP_map]
    rfl
  have h3 : B.countP (fun b => !b) + (B.filter id).length = B.length := by
    clear h1 h2
    induction B with
    | nil => rfl
    | cons x B ih => cases x <;> simp at ih ⊢ <;> omega
  rw [h2]; unfold cnt; omega
/-- Sorted: by number, of like ones by place. -/
def SrtS (S : List Sp) : Prop := S.Pairwise fun x y => lex y x = false
theorem Sit.c5 {w : World} {t5 b cap : Nat} {S : List Sp} {m : Nat} {ov : Value} {out : List Int} {W : World} (h : Sit w t5 b cap S m ov out W) : W.cell? ⟨t5, 0, none⟩ = some (.int .i64 m) := (cell_of h.box 0).trans rfl
theorem Sit.at_ {w : World} {t5 b cap : Nat} {S : List Sp} {m : Nat} {ov : Value} {out : List Int} {W : World} (h : Sit w t5 b cap S m ov out W) {i : Nat} (hi : i < S.length) : W.cell? ⟨b, i * 2, none⟩ = some (.int .i64 S[i].1) ∧ W.cell? ⟨b, i * 2 + 1, none⟩ = some (.int .i64 S[i].2) := by
  obtain ⟨g, c, e, hc⟩ := Els.cells enc_len h.sps hi
  simp only [Value.slice.injEq, Option.some.injEq, Addr.mk.injEq, and_true, true_and] at e
  obtain ⟨rfl, _⟩ := e
  exact ⟨hc 0 (by omega), hc 1 (by omega)⟩
/-- The number that is left, anew. -/
theorem Sit.less {w : World} {t5 b cap : Nat} {S : List Sp} {m m' : Nat} {ov : Value} {out : List Int} {W : World} (h : Sit w t5 b cap S m ov out W) : Sit w t5 b cap S m' ov out (W.setCell ⟨t5, 0, none⟩ (.int .i64 m')) := by
  have f : Fr (fun x => x = t5) W (W.setCell ⟨t5, 0, none⟩ (.int .i64 m')) := Fr.setCell (F := fun x => x = t5) (p := ⟨t5, 0, none⟩) (Fr.refl _ _) (fun _ => rfl) _
  refine ⟨Row.fr h.sps f (fun x hx hF => ?_), ?_, Row.fr h.ints f (fun x hx hF => (h.own x hx).2.2 hF), h.own, h.new, ((h.fr.mono (G := fun b => w.heap.size ≤ b) (fun _ _ h => h.elim)).trans f (fun x _ hb => by subst hb; exact h.new.1)).toNew⟩
  · simp [Value.ownBlock] at hx; exact h.new.2.2 (hF.symm.trans hx.symm)
  · rw [setCell_blk (o := 0) h.box]; rfl
set_option maxRecDepth 100000 in
set_option maxHeartbeats 2000000 in
theorem seat_ok {w : World} {sv : Value} {L : List Int} {R W bh : Nat} {bv : Value} {B : List Bool} (h : Ask w sv L R W bh bv B) {n : Nat} (hn : 1 ≤ n ∧ n ≤ 16) (hf : n ≤ B.length - cnt B) :
    Calls Tryd.prog 10 #[.agg #[.int .i64 R, .int .i64 W, sv], .pointer (some ⟨bh, 0, none⟩), .int .i64 n] w fun e w' => (∃ ov S, e = .returned (.tuple #[ov, .int .i64 0]) ∧ S.Perm (runs (freeF B) (beg W L) (R * W)) ∧ SrtS S ∧ Ints w' ov (srtI ((seatF S.length S n).map Int.ofNat)) ∧ (∀ b, ov.ownBlock = some b → w.heap.size ≤ b)) ∧ Fr (fun _ => False) w w' := by
  have H := Lib.hid h
  have hcl := cnt_le B
  have hsm := h.set.small
  obtain ⟨Q, hQ⟩ : ∃ Q, Q = B.length - cnt B := ⟨_, rfl⟩
  have hQ' : (B.length : Int) - (cnt B : Int) = (Q : Int) := by omega
  have hQw : IntKind.i64.wrap (Q : Int) = (Q : Int) := by rw [IntKind.wrap_i64]; omega
  have dQ : decide ((Q : Int) < (n : Int)) = false := by simp; omega
  have dQ' : decide (Q < n) = false := by simp; omega
  have d1 : decide ((n : Int) < 1) = false := by simp; omega
  have d2 : decide ((16 : Int) < (n : Int)) = false := by simp; omega
  have HFree := Lib.hid (show n ≤ B.length - cnt B ∧ B.length ≤ 65536 from ⟨hf, hsm⟩)
  have hn1 := hn.1
  have hn2 := hn.2
  have f0 : Fr (fun _ => False) w ((w.alloc (.cells #[.int .i64 R, .int .i64 W, sv] 24)).alloc (.cells #[.int .i64 n] 3)) := Fr.alloc (Fr.alloc (Fr.refl _ _) _) _
  have hb0 : ((w.alloc (.cells #[.int .i64 R, .int .i64 W, sv] 24)).alloc (.cells #[.int .i64 n] 3)).heap[w.heap.size + 1]? = some (.cells #[.int .i64 n] 3 (0, 0)) := by simp only [heap_alloc_get]; simp
  have HF0 := Lib.hid f0
  have HB0 := Lib.hid hb0
  have HC := Lib.hid (H.out.keep f0).runs
  have hsz0 : ((w.alloc (.cells #[.int .i64 R, .int .i64 W, sv] 24)).alloc (.cells #[.int .i64 n] 3)).heap.size = w.heap.size + 2 := by simp
  have HSZ := Lib.hid hsz0
  clear h f0 hb0 hn hf hcl hsm hQ hsz0
  go_enter Tryd.func10, Tryd.ntmps10
  go_wp2_with fail
  refine HC.out.mono ?_
  rintro r0 w1 ⟨⟨ov, rfl, hSp, ho⟩, hf⟩
  obtain ⟨S0, hS0⟩ : ∃ S0, S0 = runs (freeF B) (beg W L) (R * W) := ⟨_, rfl⟩
  rw [← hS0] at hSp
  have hrun := runs_are (freeF B) (beg W L) (R * W)
  have htot := total_runs (freeF B) (beg W L) (R * W)
  rw [← hS0] at hrun htot
  rw [← H.out.len, cnt_free B] at htot
  have hlen0 : S0.length ≤ 1024 := by
    rw [hS0]
    obtain ⟨k, a1, a2, a3⟩ := seatsI R W (right_size H.out.right)
    have : ((R * W : Nat) : Int) = k := by rw [← a1]; simp
    have := runs_le (freeF B) (beg W L) (R * W) (R * W) (Nat.le_refl _)
    omega
  have hne0 : 0 < S0.length := by
    cases S0 with
    | nil => have := HFree.out.1; rw [← htot] at this; simp [total] at this; omega
    | cons x T => simp
  obtain ⟨b, cap, rfl⟩ : ∃ b cap, ov = .slice (some ⟨b, 0, none⟩) S0.length cap := by
    rcases hSp.2 with ⟨_, h0⟩ | ⟨g, cap, cur, rfl, _⟩
    · omega
    · exact ⟨_, _, rfl⟩
  have hbn := ho b rfl
  rw [HSZ.out] at hbn
  have HS0 := Lib.hid hS0; have HSp := Lib.hid hSp; have HRun := Lib.hid hrun; have HTot := Lib.hid htot
  have hb1 := hf.get HB0.out id
  have HB1 := Lib.hid hb1
  have c0 := (cell_of hb1 0).trans (show _ = some (Value.int .i64 n) from rfl)
  have HF := Lib.hid (HF0.out.trans hf (fun _ _ h => h))
  have HS := Lib.hid ((H.out.set.fr HF.out id (fun _ _ h => h)).fr (Fr.drew (Fr.refl (fun _ => False) w1)) id (fun _ _ h => h))
  clear hf hb1 hS0 hSp hrun htot ho HC
  go_wp2_with fail
  go_cut [35] (fun s35 wx => s35 = .bool false ∧ Hid (Fr (fun _ => False) w1 wx))
  case first =>
    go_region_held3 (fun w' => w'.cell? ⟨w.heap.size + 1, 0, none⟩ = some (.int .i64 n)) (go_keep) (first | (go_at_call 24; refine (bound_ok HS.out).mono ?_; rintro r w2 ⟨rfl, rfl⟩) | (go_at_call 15; refine (count_ok HS.out).mono ?_; rintro r w2 ⟨rfl, rfl⟩))
    go_wp2_with fail
    go_meet
    exact ⟨rfl, Lib.hid (Fr.drew (Fr.refl _ _))⟩
  case rest =>
  obtain ⟨rfl, HF1⟩ := hcut
  have HSp1 : Hid (Sps wc (.slice (some ⟨b, 0, none⟩) S0.length cap) S0) := Lib.hid (Row.fr HSp.out HF1.out (fun _ _ h => h))
  have hAll : AllOk S0.toArray := by
    intro p
    unfold St.Ok
    by_cases hp : p < S0.length
    · have e : S0.toArray[p]! = S0[p] := by simp [hp]
      rw [e]
      have := HRun.out.fit _ (List.getElem_mem hp)
      have h2 := HFree.out.2; have h3 := H.out.len
      omega
    · have e : S0.toArray[p]! = default := by simp [hp]
      rw [e]; exact Nat.zero_le _
  have hUp : Up 0 S0.length S0.toArray := by
    intro p q _ hpq hq
    have e1 : S0.toArray[p]! = S0[p] := by simp [show p < S0.length by omega]
    have e2 : S0.toArray[q]! = S0[q] := by simp [hq]
    rw [e1, e2]
    have := List.pairwise_iff_getElem.1 HRun.out.up p q (by omega) hq hpq
    have := HRun.out.pos _ (List.getElem_mem (show p < S0.length by omega))
    omega
  have HSort := Lib.hid (sortStable_ok (by omega) (Sps.ra HSp1.out) (by simp) hAll hUp)
  clear hAll hUp c0 dQ dQ' d1 d2 hQ' hQw
  go_wp2_with fail
  refine HSort.out.mono ?_
  rintro r0 w2 ⟨rfl, d', hD, hRA, hf2⟩
  obtain ⟨S, hS⟩ : ∃ S, S = d'.toList := ⟨_, rfl⟩
  have hSl : S.length = S0.length := by rw [hS]; have := hD.perm.1; simpa using this
  have hPerm : S.Perm S0 := by
    have := hD.perm.2.2
    have e1 : d'.extract 0 S0.length = d' := by have := hD.perm.1; simp at this; rw [← this]; simp
    have e2 : S0.toArray.extract 0 S0.length = S0.toArray := by simp
    rw [e1, e2] at this
    rw [hS]; simpa using this
  have hSrt : SrtS S := by
    unfold SrtS
    rw [List.pairwise_iff_getElem]
    intro i j hi hj hij
    have := hD.sorted i j (Nat.zero_le _) hij (by omega)
    have e1 : d'[i]! = S[i] := by subst hS; simp at hi; simp [hi]
    have e2 : d'[j]! = S[j] := by subst hS; simp at hj; simp [hj]
    rwa [e1, e2] at this
  have hSps := RA.sps hRA
  rw [← hS] at hSps
  have HPm := Lib.hid hPerm; have HSr := Lib.hid hSrt
  obtain ⟨t5, ht5⟩ : ∃ t5, t5 = w.heap.size + 1 := ⟨_, rfl⟩
  rw [← ht5] at HB1 ⊢
  have hTk : Tk 65536 S n := ⟨fun x hx => HRun.out.pos x (hPerm.mem_iff.1 hx), fun x hx => by
      have := HRun.out.fit x (hPerm.mem_iff.1 hx); have h2 := HFree.out.2; have h3 := H.out.len; omega, by
      have : total S = total S0 := by unfold total; exact (hPerm.map _).sum_nat
      rw [this, HTot.out]; exact HFree.out.1⟩
  have HSit : Hid (Sit w t5 b cap S n (.slice none 0 0) [] w2) := Lib.hid ⟨hSps, hf2.get (HF1.out.get HB1.out id) (fun e => by omega), World.ownsRow_nil _ 0 _ 1, fun x hx => by simp [Value.ownBlock] at hx, ⟨by omega, by omega, by omega⟩,
    (((HF.out.trans HF1.out (fun _ _ h => h)).mono (G := fun b => w.heap.size ≤ b) (fun _ _ h => h.elim)).trans hf2 (fun x _ hx => by subst hx; omega)).toNew⟩
  rw [← hSl] at hlen0 ⊢
  have HTk := Lib.hid hTk
  have HRoom := Lib.hid hTk.room
  have HT5 := Lib.hid ht5
  clear hD hRA hf2 hS hSl hPerm hSrt hSps hTk ht5 hne0 hbn HSort HB1 HSp1 HSp HF1 HF
  go_wp2_with fail
  go_loopg [8, 10, 11, 12, 13] n (fun g s8 s10 s11 s12 s13 wr => ∃ (S' : List Sp) (m : Nat) (out : List Nat), s8 = .slice (some ⟨b, 0, none⟩) S'.length cap ∧ m ≤ g ∧ m ≤ 16 ∧ S'.length ≤ 1024 ∧ out.length ≤ 16 - m ∧ Hid (Tk 65536 S' m) ∧ Hid (out ++ seatF S'.length S' m = seatF S.length S n) ∧ Hid (Sit w t5 b cap S' m s10 (out.map Int.ofNat) wr))
  case atStart => exact ⟨S, n, [], rfl, Nat.le_refl _, hn2, hlen0, Nat.zero_le _, HTk, Lib.hid rfl, HSit⟩
  case round =>
    clear HSit HTk
    obtain ⟨S', m, out, rfl, hmg, hm16, hl', hol, HTk, HT, HSit⟩ := hrel
    have c5 := HSit.out.c5
    by_cases hm0 : 0 < m
    · have hm0' : decide ((m : Int) > 0) = true := by simp; omega
      have hm0'' : decide (0 < m) = true := by simpa using hm0
      have hS0 : 0 < S'.length := HTk.out.ne hm0
      obtain ⟨i, hi⟩ : ∃ i, i = pick S' m := ⟨_, rfl⟩
      have hil : i < S'.length := by rw [hi]; exact pick_lt hS0
      have HI := Lib.hid hi
      have t5l : t5 < wr.heap.size := lt_of_block HSit.out.box
      have HIdx := Lib.hid (index_ok HSit.out.sps (by omega) 28 (.pointer (some ⟨t5, 0, none⟩)) (fun _ _ => rfl) (fun x => decide ((m : Int) ≤ (x.2 : Int))) (fun x _ W1 hf1 => atLeast_ok ((hf1.cell t5l id).trans c5) (Nat.lt_of_lt_of_le t5l hf1.size) x))
      obtain ⟨z, hz⟩ : ∃ z, idxI (fun x => decide ((m : Int) ≤ (x.2 : Int))) S' = z := ⟨_, rfl⟩
      rw [hz] at HIdx
      obtain ⟨q, hq⟩ : ∃ q, decide (z < 0) = q := ⟨_, rfl⟩
      have HZ := Lib.hid hz; have HQ := Lib.hid hq
      clear hz hi
      go_upto_if 44 with (go_at_call 27; refine HIdx.out.mono ?_; rintro e w3 ⟨rfl, hf3⟩)
      clear hq
      have HSit3 := Lib.hid (HSit.out.keep hf3)
      clear hf3 c5 HSit
      go_cut [11, 12] (fun s11 s12 wx => s11 = .int .i64 i ∧ Hid (Sit w t5 b cap S' m u10 (out.map Int.ofNat) wx))
      case first =>
       as_aux_lemma =>
        cases q with
        | false =>
          have hz1 : ∃ i', S'.findIdx? (fun x => decide ((m : Int) ≤ (x.2 : Int))) = some i' ∧ z = (i' : Int) := by
            cases hfi : S'.findIdx? (fun x => decide ((m : Int) ≤ (x.2 : Int))) with
            | some i' => exact ⟨i', rfl, by rw [← HZ.out]; exact idxI_some hfi⟩
            | none => exfalso; have h1 := HZ.out; rw [idxI_none hfi] at h1; have := HQ.out; rw [← h1] at this; simp at this
          obtain ⟨i', hi1, rfl⟩ := hz1
          have hii : i' = i := by rw [HI.out]; unfold pick; rw [hi1]
          subst hii
          clear hi1
          go_wp2_with fail
          go_meet
          exact ⟨rfl, HSit3⟩
        | true =>
          have hz1 : S'.findIdx? (fun x => decide ((m : Int) ≤ (x.2 : Int))) = none := by
            cases hfi : S'.findIdx? (fun x => decide ((m : Int) ≤ (x.2 : Int))) with
            | some i' => exfalso; have h1 := HZ.out; rw [idxI_some hfi] at h1; have := HQ.out; rw [← h1] at this; simp at this; omega
            | none => rfl
          obtain ⟨i', hi1, hi2⟩ := last_idx hS0
          have hii : i' = i := by rw [HI.out]; unfold pick; rw [hz1]; simp only [hi1, Option.getD_some]
          subst hii
          obtain ⟨l, hl⟩ : ∃ l, l + 1 = S'.length := ⟨S'.length - 1, by omega⟩
          have hll : (S'.length : Int) - 1 = (l : Int) := by omega
          have hlS : l < S'.length := by omega
          have hlS' : (l : Int) < (S'.length : Int) := by omega
          obtain ⟨x1, x2⟩ := HSit3.out.at_ hlS
          obtain ⟨M, hM⟩ : ∃ M, M = S'[l].2 := ⟨_, rfl⟩
          have hMl : (S'.getLastD (0, 0)).2 = M := by
            rw [List.getLastD_eq_getLast?, List.getLast?_eq_getElem?, show S'.length - 1 = l by omega, List.getElem?_eq_getElem hlS, hM]; rfl
          rw [hMl] at hi1
          rw [← hM] at x2
          have hs3 : w3.heap.size ≤ w3.heap.size := Nat.le_refl _
          have hfa : Fr (fun _ => False) w3 (w3.alloc (.cells #[.int .i64 M] 3)) := Fr.alloc (Fr.refl _ _) _
          have hba : (w3.alloc (.cells #[.int .i64 M] 3)).heap[w3.heap.size]? = some (.cells #[.int .i64 M] 3 (0, 0)) := heap_alloc_at _ _
          have hca := (cell_of hba 0).trans (show _ = some (Value.int .i64 M) from rfl)
          have HSit4 := Lib.hid (HSit3.out.keep hfa)
          have HIdx2 := Lib.hid (index_ok HSit4.out.sps (by omega) 29 (.pointer (some ⟨w3.heap.size, 0, none⟩)) (fun _ _ => rfl) (fun x => ((x.2 : Int) == (M : Int))) (fun x _ W1 hf1 => equals_ok ((hf1.cell (by simp) id).trans hca) (Nat.lt_of_lt_of_le (by simp) hf1.size) x))
          rw [idxI_some hi1] at HIdx2
          clear hz1 hi1 hi2 hl hM hMl hs3 hfa hba hca x1
          go_wp2_with fail
          refine HIdx2.out.mono ?_
          rintro e w4 ⟨rfl, hf4⟩
          have HSit5 := Lib.hid (HSit4.out.keep hf4)
          clear hf4
          go_wp2_with fail
          go_meet
          exact ⟨rfl, HSit5⟩
      case rest =>
      obtain ⟨rfl, HSit4⟩ := hcut
      clear HSit3 HIdx HZ HQ
      obtain ⟨y0, y1⟩ := HSit4.out.at_ hil
      have y5 := HSit4.out.c5
      obtain ⟨f, hf⟩ : ∃ f, f = S'[i].1 := ⟨_, rfl⟩
      obtain ⟨c, hc⟩ : ∃ c, c = S'[i].2 := ⟨_, rfl⟩
      have hfit := HTk.out.fit _ (List.getElem_mem hil)
      have hpos := HTk.out.pos _ (List.getElem_mem hil)
      have HStep := Lib.hid (seatF_step hm0 hS0 HI.out hil)
      have HTk2 := Lib.hid (HTk.out.step hil)
      rw [← hf, ← hc] at HStep hfit
      rw [← hc] at HTk2 hpos
      rw [← hf] at y0; rw [← hc] at y1
      obtain ⟨k, hk⟩ : ∃ k, min m c = k := ⟨_, rfl⟩
      rw [hk] at HStep HTk2
      have hk' : min (m : Int) (c : Int) = (k : Int) := by omega
      have hkm : k ≤ m := by omega
      have hk1 : 1 ≤ k := by omega
      have hil' : (i : Int) < (S'.length : Int) := by omega
      have HF1 := Lib.hid hf.symm; have HC1 := Lib.hid hc
      have hfb : f ≤ 65536 := by omega
      clear hf hc
      go_upto_region 15 with fail
      go_cut [61, 62] (fun s61 s62 wx => s61 = .int .i64 k ∧ s62 = .int .i64 0 ∧ Hid (Sit w t5 b cap S' m u10 (out.map Int.ofNat) wx))
      case first =>
        go_upto_region 15 with fail
        go_still (by kernel_rfl)
        go_wp2_with fail
        go_meet
        exact ⟨rfl, rfl, Lib.hid (HSit4.out.keep (Fr.drew (Fr.refl _ _)))⟩
      case rest =>
      obtain ⟨rfl, rfl, HSit5⟩ := hcut
      clear y0 y1 y5 hk' HSit4
      have hrl : out.length + k ≤ 16 := by omega
      go_upto_block 2 with fail
      go_cut [10, 13, 62] (fun s10 s13 s62 wx => Hid (Sit w t5 b cap S' m s10 ((out ++ List.range' f k).map Int.ofNat) wx))
      case first =>
       as_aux_lemma =>
        go_wp2_with fail
        go_loopw [10, 13, 62] (fun s10 s13 s62 wr => ∃ j : Nat, s62 = .int .i64 j ∧ j ≤ k ∧ Hid (Sit w t5 b cap S' m s10 ((out ++ List.range' f j).map Int.ofNat) wr)) (fun _ _ s62 _ => k - (intOf s62).toNat)
        case atStart => exact ⟨0, rfl, Nat.zero_le _, by simpa using HSit5⟩
        case round =>
          clear HSit5
          obtain ⟨j, rfl, hj, HSit⟩ := hrel
          by_cases hlt : j < k
          · have hlt' : (j : Int) < (k : Int) := by omega
            obtain ⟨y0, _⟩ := HSit.out.at_ hil
            have hf0 : S'[i].1 = f := HF1.out
            rw [hf0] at y0
            obtain ⟨x, hx⟩ : ∃ x, f + j = x := ⟨_, rfl⟩
            have hx' : (f : Int) + (j : Int) = (x : Int) := by omega
            have hxb : x ≤ 100000 := by omega
            obtain ⟨a2, c2, W2, hrun, hI2, hf2, ho2⟩ := app_int HSit.out.ints (by simp; omega) (x : Int)
            obtain ⟨ln, hln⟩ : ∃ ln, ((out ++ List.range' f j).map Int.ofNat).length = ln := ⟨_, rfl⟩
            rw [hln] at hrun hI2 ho2
            have e1 : (out ++ List.range' f j).map Int.ofNat ++ [(x : Int)] = (out ++ List.range' f (j + 1)).map Int.ofNat := by
              rw [List.range'_concat]; simp; omega
            rw [e1] at hI2
            have HS2 := Lib.hid (HSit.out.more hf2 hI2 ho2)
            have Hrun := Lib.hid hrun
            clear hrun hI2 hf2 ho2 e1 hf0 hx hln
            go_wp2_with (at_builtin; refine wpList_append_run rfl _ _ _ rfl rfl rfl Hrun.out ?_)
            go_roundw
            case rel => exact ⟨j + 1, by go_num, by omega, HS2⟩
            case measure => simp [intOf]; omega
          · have hlt' : ¬ (j : Int) < (k : Int) := by omega
            obtain rfl : j = k := by omega
            go_wp2_with fail
            go_meet
            exact HSit
      case rest =>
      clear HSit5
      have HSit5 := hcut
      clear hcut
      obtain ⟨y0, y1⟩ := HSit5.out.at_ hil
      have y5 := HSit5.out.c5
      rw [← HC1.out] at y1
      have z5 : wc.frozen? ⟨t5, 0, none⟩ = false := free_of HSit5.out.box 0
      have hk' : min (m : Int) (c : Int) = (k : Int) := by omega
      obtain ⟨m2, hm2⟩ : ∃ m2, m - k = m2 := ⟨_, rfl⟩
      have hm2' : (m : Int) - (k : Int) = (m2 : Int) := by omega
      have hm2w : IntKind.i64.wrap (m2 : Int) = (m2 : Int) := by rw [IntKind.wrap_i64]; omega
      rw [hm2] at HStep HTk2
      have HM2 := Lib.hid hm2
      clear hm2 y0
      go_upto_region 20 with fail
      go_cut [] (fun wx => Hid (Sit w t5 b cap S' m2 u10 ((out ++ List.range' f k).map Int.ofNat) wx))
      case first =>
        go_upto_region 20 with fail
        go_still_tail 9, (by kernel_rfl)
        go_wp2_with fail
        go_meet
        exact Lib.hid (HSit5.out.less.keep (Fr.drew (Fr.refl _ _)))
      case rest =>
      clear y1 y5 z5 HSit5 hk' hm2' hm2w
      have HSit6 := hcut
      clear hcut
      have HDel := Lib.hid (delete_ok HSit6.out.sps (by omega) hil)
      obtain ⟨i1, hi1⟩ : ∃ i1, i + 1 = i1 := ⟨_, rfl⟩
      have hi1' : (i : Int) + 1 = (i1 : Int) := by omega
      rw [hi1] at HDel
      have hdl : (S'.eraseIdx i).length = S'.length - 1 := List.length_eraseIdx_of_lt hil
      have HDL := Lib.hid hdl
      clear hi1 hdl
      go_wp2_with fail
      refine HDel.out.mono ?_
      rintro e w5 ⟨rfl, hS5, hf5⟩
      have HSit7 : Hid (Sit w t5 b cap (S'.eraseIdx i) m2 u10 ((out ++ List.range' f k).map Int.ofNat) w5) := Lib.hid ⟨by rw [HDL.out]; exact hS5, hf5.get HSit6.out.box (fun e => HSit6.out.new.2.2 e), Row.fr HSit6.out.ints hf5 (fun x hx hF => (HSit6.out.own x hx).2.1 hF), HSit6.out.own, HSit6.out.new,
        ((HSit6.out.fr.mono (G := fun b => w.heap.size ≤ b) (fun _ _ h => h.elim)).trans hf5 (fun x _ hb => by subst hb; exact HSit6.out.new.2.1)).toNew⟩
      clear hS5 hf5 HSit6 HDel
      go_wp2_with fail
      go_roundg m2
      case measure => have := HM2.out; omega
      case rel =>
        have e2 := HM2.out
        refine ⟨S'.eraseIdx i, m2, out ++ List.range' f k, by rw [HDL.out], Nat.le_refl _, by omega, by rw [HDL.out]; omega, by simp; omega, HTk2, Lib.hid ?_, HSit7⟩
        rw [List.append_assoc, ← HStep.out]; exact HT.out
    · have hm0' : decide ((m : Int) > 0) = false := by simp; omega
      have hm0'' : decide (0 < m) = false := by simpa using hm0
      obtain rfl : m = 0 := by omega
      have hout : out = seatF S.length S n := by rw [← HT.out, seatF_zero, List.append_nil]
      have houtl : 1 ≤ out.length := by rw [hout, seatF_len _ _ _ rfl HRoom.out]; exact hn1
      obtain ⟨ob, oc, rfl⟩ : ∃ ob oc, u10 = .slice (some ⟨ob, 0, none⟩) (out.map Int.ofNat).length oc := by
        rcases HSit.out.ints.2 with ⟨_, h0⟩ | ⟨g, cap, cur, rfl, _⟩
        · rw [List.length_map] at h0; omega
        · exact ⟨_, _, rfl⟩
      have HSrt := Lib.hid (sortInts_of Tryd.sortInts HSit.out.ints (by simp; omega))
      obtain ⟨ln, hln⟩ : ∃ ln, (out.map Int.ofNat).length = ln := ⟨_, rfl⟩
      have HLN := Lib.hid hln
      rw [hln] at HSrt ⊢
      have HOut := Lib.hid hout
      clear hln hout
      go_wp2_with fail
      refine HSrt.out.mono ?_
      rintro e w6 ⟨rfl, hI6, hf6⟩
      have hown := fun x hx => HSit.out.own (t5 := t5) x hx
      have HF6 := Lib.hid (((HSit.out.fr.mono (G := fun b => w.heap.size ≤ b) (fun _ _ h => h.elim)).trans hf6 (fun x _ hb => by subst hb; exact (HSit.out.own x rfl).1)).toNew)
      have HI6 : Hid (Ints w6 (.slice (some ⟨ob, 0, none⟩) ln oc) (srtI ((seatF S.length S n).map Int.ofNat))) := Lib.hid (by
        rw [← HOut.out]; exact hI6)
      clear hI6 hf6
      go_wp2_with fail
      go_ret2
      refine ⟨⟨_, S, rfl, ?_, HSr.out, HI6.out, fun x hx => (hown x hx).1⟩, HF6.out⟩
      rw [← HS0.out]; exact HPm.out
end Go.Proofs.YthckfbfenfkdiaaDoor.Py
