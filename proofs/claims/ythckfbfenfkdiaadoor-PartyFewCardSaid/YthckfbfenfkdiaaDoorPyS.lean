/- Parties: what the laws begin with; PartyGone's walk. Condition: the table of math/bits. -/
import Derived.Test.YthckfbfenfkdiaaDoorPyR
import Derived.Test.YthckfbfenfkdiaaDoorPick
namespace Go.Proofs.YthckfbfenfkdiaaDoor.Py
open Go.RowKit St Bt
/-- What stands in a law: the cabin that is asked about, with nothing off. -/
structure Law (w : World) (b1 : Nat) (r v : Int) (sv tv : Value) (W : World) : Prop where
  box : W.heap[b1]? = some (.cells #[.int .i64 r, .int .i64 v, sv, tv, .int .i64 0] 41 (0, 0))
  new : w.heap.size ≤ b1
  fr : Fr (fun _ => False) w W
theorem Law.keep {w : World} {b1 : Nat} {r v : Int} {sv tv : Value} {W W' : World} (h : Law w b1 r v sv tv W) {F : Nat → Prop} (f : Fr F W W') (hF : ∀ b, F b → w.heap.size ≤ b ∧ b ≠ b1) : Law w b1 r v sv tv W' :=
  ⟨f.get h.box (fun h => (hF _ h).2 rfl), h.new, ((h.fr.mono (G := fun b => w.heap.size ≤ b) (fun _ _ h => h.elim)).trans f (fun b _ h => (hF b h).1)).toNew⟩
theorem Law.keep0 {w : World} {b1 : Nat} {r v : Int} {sv tv : Value} {W W' : World} (h : Law w b1 r v sv tv W) (f : Fr (fun _ => False) W W') : Law w b1 r v sv tv W' := h.keep f (fun _ h => h.elim)
theorem Law.c {w : World} {b1 : Nat} {r v : Int} {sv tv : Value} {W : World} (h : Law w b1 r v sv tv W) : W.cell? ⟨b1, 0, none⟩ = some (.int .i64 r) ∧ W.cell? ⟨b1, 1, none⟩ = some (.int .i64 v) ∧ W.cell? ⟨b1, 2, none⟩ = some sv ∧ W.cell? ⟨b1, 3, none⟩ = some tv ∧ W.cell? ⟨b1, 4, none⟩ = some (.int .i64 0) :=
  ⟨(cell_of h.box 0).trans rfl, (cell_of h.box 1).trans rfl, (cell_of h.box 2).trans rfl, (cell_of h.box 3).trans rfl, (cell_of h.box 4).trans rfl⟩
/-- The law's set, with nothing off: as many numbers as there are seats. -/
theorem seatsN_small (r v : Int) (L : List Int) : ∃ n : Nat, seatsN r v L = (n : Int) ∧ n ≤ 1024 := by
  unfold seatsN
  cases hq : rightB r v L with
  | false => exact ⟨0, by simp, by omega⟩
  | true =>
    obtain ⟨n, h1, h2, _⟩ := seatsI r v (right_size hq)
    exact ⟨n, by simpa using h1, h2⟩
theorem set_plain {w : World} {sv tv : Value} {L T : List Int} (hL : RI w sv L) (hT : RI w tv T) (r v : Int) {N : Nat} (hN : seatsN r v L = (N : Int)) :
    Calls Tryd.prog 12 #[.agg #[.int .i64 r, .int .i64 v, sv, tv, .int .i64 0]] w fun e w' => ∃ bh bv, e = .returned (.tuple #[.pointer (some ⟨bh, 0, none⟩), .int .i64 N, .bool true]) ∧ NewSet w w' bh bv (setL N T) := by
  obtain ⟨n, h1, h2⟩ := seatsN_small r v L
  have : n = N := by omega
  subst this
  exact set_ok hL hT r v 0 (z := (n : Int)) (by rw [h1, Int.add_zero, IntKind.wrap_i64]; omega) (by omega)
theorem right_nat {r v : Int} {L : List Int} (h : rightB r v L = true) : ∃ R W : Nat, r = (R : Int) ∧ v = (W : Int) ∧ R * W ≤ 1024 ∧ 1 ≤ R * W ∧ seatsN r v L = ((R * W : Nat) : Int) ∧ 1 ≤ W ∧ W ≤ 16 := by
  have hs := right_size h
  obtain ⟨n, h1, h2, h3⟩ := seatsI r v hs
  simp only [sizeOk, decide_eq_true_eq] at hs
  obtain ⟨R, rfl⟩ : ∃ R : Nat, r = (R : Int) := ⟨r.toNat, by omega⟩
  obtain ⟨W, rfl⟩ : ∃ W : Nat, v = (W : Int) := ⟨v.toNat, by omega⟩
  have e : R * W = n := by have : ((R * W : Nat) : Int) = n := by rw [← h1]; simp
                           omega
  refine ⟨R, W, rfl, rfl, by omega, by omega, ?_, by omega, by omega⟩
  unfold seatsN; rw [h, e, ← h1]; rfl
/-- What stands while parties come. -/
structure Gn (w : World) (b1 bh : Nat) (bv : Value) (r v : Int) (sv tv : Value) (B : List Bool) (W : World) : Prop where
  law : Law w b1 r v sv tv W
  set : SetAt W bh bv B
  new : w.heap.size ≤ bh ∧ bh ≠ b1
  newv : ∀ b, bv.ownBlock = some b → w.heap.size ≤ b ∧ b ≠ bh ∧ b ≠ b1
theorem Gn.keep {w : World} {b1 bh : Nat} {bv : Value} {r v : Int} {sv tv : Value} {B : List Bool} {W W' : World} (h : Gn w b1 bh bv r v sv tv B W) (f : Fr (fun _ => False) W W') : Gn w b1 bh bv r v sv tv B W' :=
  ⟨h.law.keep0 f, h.set.fr f id (fun _ _ h => h), h.new, h.newv⟩
theorem Gn.put {w : World} {b1 bh : Nat} {bv : Value} {r v : Int} {sv tv : Value} {B B' : List Bool} {W W' : World} (h : Gn w b1 bh bv r v sv tv B W) (f : Fr (fun b => bv.ownBlock = some b) W W') (hs : SetAt W' bh bv B') : Gn w b1 bh bv r v sv tv B' W' :=
  ⟨h.law.keep f (fun b hb => ⟨(h.newv b hb).1, (h.newv b hb).2.2⟩), hs, h.new, h.newv⟩
/-- The head of a law: awake, nothing off, the set. -/
theorem box_head {w : World} {b1 : Nat} {r v off : Int} {sv tv : Value} {W : World} (hb : W.heap[b1]? = some (.cells #[.int .i64 r, .int .i64 v, sv, tv, .int .i64 off] 41 (0, 0))) (hn : w.heap.size ≤ b1) (hf : Fr (fun _ => False) w W) : Law w b1 r v sv tv (W.setCell ⟨b1, 4, none⟩ (.int .i64 0)) :=
  ⟨by rw [setCell_blk (o := 4) hb]; rfl, hn, hf.setCell (p := ⟨b1, 4, none⟩) (fun hlt => absurd hlt (by simp; omega)) _⟩
set_option maxRecDepth 100000 in
set_option maxHeartbeats 2000000 in
theorem gone_walk {w : World} (hT : TabOk w) {sv tv pv : Value} {L T P : List Int} (h : RI w sv L) (hb : L.length * 8 ≤ 140737488355328) (ht : RI w tv T) (r v off : Int) (hp : RI w pv P) (hfit : ∀ y ∈ P, -9223372036854775808 ≤ y ∧ y ≤ 9223372036854775807) :
    Calls Tryd.prog 5 #[.agg #[.int .i64 r, .int .i64 v, sv, tv, .int .i64 off], pv] w fun e w' => e = .returned (.bool true) ∧ Fr (fun _ => False) w w' := by
  have HT := Lib.hid hT
  have H := Lib.hid h
  have HB := Lib.hid hb
  have HTk := Lib.hid ht
  have HFit := Lib.hid hfit
  have HP0 := Lib.hid hp
  obtain ⟨pa, pc, rfl, hPl, hpcs⟩ := hp
  have HPC := Lib.hid hpcs
  have hf0 : Fr (fun _ => False) w (w.alloc (.cells #[.int .i64 r, .int .i64 v, sv, tv, .int .i64 off] 41)) := Fr.alloc (Fr.refl _ _) _
  have hb0 : (w.alloc (.cells #[.int .i64 r, .int .i64 v, sv, tv, .int .i64 off] 41)).heap[w.heap.size]? = some (.cells #[.int .i64 r, .int .i64 v, sv, tv, .int .i64 off] 41 (0, 0)) := heap_alloc_at _ _
  have HF0 := Lib.hid hf0; have HB0 := Lib.hid hb0
  have HAw := Lib.hid (awake_ok (hT.fr hf0 id))
  clear hT h hb ht hfit hpcs hf0 hb0
  go_enter Tryd.func5, Tryd.ntmps5
  go_wp2_with fail
  refine HAw.out.mono ?_
  rintro e w1 ⟨rfl, hf1⟩
  have hb1 := hf1.get HB0.out id
  have c4 := (cell_of hb1 4).trans (show _ = some (Value.int .i64 off) from rfl)
  have z4 : w1.frozen? ⟨w.heap.size, 4, none⟩ = false := free_of hb1 4
  have HLaw := Lib.hid (box_head hb1 (Nat.le_refl _) (HF0.out.trans hf1 (fun _ _ h => h)))
  obtain ⟨b1, hb1e⟩ : ∃ b1, b1 = w.heap.size := ⟨_, rfl⟩
  rw [← hb1e] at HLaw c4 z4 ⊢
  clear hf1 hb1 HAw HF0 HB0 hb1e
  obtain ⟨N, hN, hN1⟩ := seatsN_small r v L
  obtain ⟨c0, c1, c2, c3, c4'⟩ := HLaw.out.c
  have HSet := Lib.hid (set_plain (H.out.keep HLaw.out.fr) (HTk.out.keep HLaw.out.fr) r v hN)
  have HN := Lib.hid hN
  clear hN
  go_wp2_with fail
  refine HSet.out.mono ?_
  rintro e w2 ⟨bh, bv, rfl, hNS⟩
  have q1 := HLaw.out.fr.size
  have q2 := lt_of_block HLaw.out.box
  have HGn : Hid (Gn w b1 bh bv r v sv tv (setL N T) w2) := Lib.hid ⟨HLaw.out.keep0 hNS.fr, hNS.at_, ⟨by have := hNS.new; omega, by have := hNS.new; omega⟩, fun b hb => by have := hNS.newv b hb; omega⟩
  have HBl : Hid ((setL N T).length = N) := Lib.hid (setL_len N T)
  clear hNS q1 q2 HSet HLaw c0 c1 c2 c3 c4 c4' z4
  obtain ⟨c0, c1, c2, c3, c4⟩ := HGn.out.law.c
  have HSe := Lib.hid (seatsN_ok (H.out.keep HGn.out.law.fr) r v)
  rw [HN.out] at HSe
  obtain ⟨z, hz⟩ : ∃ z, ((N : Int) == 0) = z := ⟨_, rfl⟩
  have HZ := Lib.hid hz
  go_upto_if 30 with (go_at_call 13; refine HSe.out.mono ?_; rintro e w3 ⟨rfl, hf3⟩)
  have HGn3 := Lib.hid (HGn.out.keep hf3)
  clear hf3 HSe HGn hz c0 c1 c2 c3 c4
  cases z with
  | true =>
    go_wp2_with fail
    go_ret
    exact ⟨rfl, HGn3.out.law.fr⟩
  | false =>
    have hq : rightB r v L = true := by
      cases hq : rightB r v L with
      | true => rfl
      | false =>
        exfalso
        have h1 := HN.out
        unfold seatsN at h1
        rw [hq] at h1
        have h2 := HZ.out
        have : N = 0 := by simp at h1; omega
        subst this
        simp at h2
    obtain ⟨R, W, rfl, rfl, hRW, hRW1, hRWs, _, _⟩ := right_nat hq
    obtain rfl : N = R * W := by have := HN.out; omega
    obtain ⟨N, hNe⟩ : ∃ N, N = R * W := ⟨_, rfl⟩
    rw [← hNe] at hN1 HN HGn3 HBl ⊢
    have HNe := Lib.hid hNe
    have HQ := Lib.hid hq
    clear hq hRW hRW1 hRWs hNe HZ
    go_wp2_with fail
    go_loopw [8, 9, 10, 11, 12, 13] (fun s8 s9 s10 s11 s12 s13 wr => ∃ (i : Nat) (B : List Bool), s8 = .int .i64 i ∧ i ≤ 30 ∧ B.length = N ∧ Hid (Gn w b1 bh bv R W sv tv B wr)) (fun s8 _ _ _ _ _ _ => 30 - (intOf s8).toNat)
    case atStart => exact ⟨0, setL N T, rfl, by omega, HBl.out, HGn3⟩
    case round =>
      clear HGn3 HBl
      obtain ⟨i, B, rfl, hi, hBl, HG⟩ := hrel
      by_cases hend : i < P.length ∧ i < 30
      · obtain ⟨hiP, hi30⟩ := hend
        have hiP' : (i : Int) < (P.length : Int) := by omega
        have hi30' : decide ((i : Int) < 30) = true := by simp; omega
        have hi30'' : decide (i < 30) = true := by simp; omega
        obtain ⟨pb, po, rfl, hpcc⟩ := HPC.out.resolve_left (by intro e; subst e; simp at hiP)
        have hpk := hpcc i hiP
        have hpw : wr.cell? ⟨pb, po + i, none⟩ = some (.int .i64 P[i]) := by
          rw [HG.out.law.fr.cell (World.block_lt_of_cell? _ _ hpk) id]; exact hpk
        obtain ⟨x, hx⟩ : ∃ x, x = P[i] := ⟨_, rfl⟩
        have hxf := HFit.out x (by rw [hx]; exact List.getElem_mem hiP)
        rw [← hx] at hpw
        have HPick := Lib.hid (fun W0 => pick_ok x 16 W0 hxf.1 hxf.2 (by omega) (by omega))
        obtain ⟨y, hy⟩ : ∃ y : Nat, x % 16 = (y : Int) := ⟨(x % 16).toNat, by omega⟩
        have hy16 : y < 16 := by omega
        obtain ⟨n, hn⟩ : ∃ n : Nat, 1 + (y : Int) = (n : Int) := ⟨1 + y, by omega⟩
        have hn1 : 1 ≤ n := by omega
        have hn16 : n ≤ 16 := by omega
        have HY := Lib.hid hy
        have hcl := cnt_le B
        obtain ⟨fr, hfr⟩ : ∃ fr : Nat, N - cnt B = fr := ⟨_, rfl⟩
        have hfr' : (N : Int) - (cnt B : Int) = (fr : Int) := by omega
        have HFr := Lib.hid hfr
        have hfrN : fr ≤ N := by omega
        have HCl := Lib.hid (show cnt B ≤ N by omega)
        have HAsk : Hid (∀ W', Fr (fun _ => False) wr W' → ∀ ov, RI W' ov L → Ask W' ov L R W bh bv B) := Lib.hid (fun W' hf ov ho => ⟨HT.out.fr (HG.out.law.fr.trans hf (fun _ _ h => h)) id, ho, HQ.out, (HG.out.keep hf).set, by rw [hBl, HNe.out]⟩)
        clear hpk hpcc hx hxf hy hcl hfr
        go_upto_region 12 with (first | (go_at_call 14; refine (HPick.out _).mono ?_; rintro e w3 ⟨rfl, rfl⟩; rw [HY.out]) | (go_at_call 15; refine (count_ok HG.out.set).mono ?_; rintro e w3 ⟨rfl, rfl⟩))
        obtain ⟨c0, c1, c2, _, _⟩ := HG.out.law.c
        clear hpw
        go_cut [11, 12] (fun s11 s12 wx => ∃ (M : List Int) (a11 : Option Addr) (c11 : Nat) (q : Bool) (e0 : Int), s11 = .slice a11 M.length c11 ∧ s12 = .int .i64 e0 ∧ Hid (e0 = if q then 0 else 6) ∧ Hid (decide (n ≤ fr) = q) ∧ Hid (Ints wx (.slice a11 M.length c11) M ∧ ∀ b, (Value.slice a11 M.length c11).ownBlock = some b → bv.ownBlock ≠ some b) ∧ Hid (Part N B M 0 B ∧ M.Nodup) ∧ M.length ≤ 16 ∧ Hid (Gn w b1 bh bv R W sv tv B wx))
        case first =>
         as_aux_lemma =>
          have HCp := Lib.hid (copyCabin_ok (H.out.keep HG.out.law.fr) HB.out (R : Int) (W : Int))
          go_wp2_with fail
          refine HCp.out.mono ?_
          rintro e w4 ⟨⟨ov, rfl, hI, _⟩, hf4⟩
          have HAsk4 := Lib.hid (HAsk.out w4 hf4 ov (Ints.ri hI (by have := HB.out; omega)))
          have HG4 := Lib.hid (HG.out.keep hf4)
          have HF4 := Lib.hid hf4
          clear hI hf4 HCp HAsk c0 c1 c2
          by_cases hnf : n ≤ fr
          · have HSeat := Lib.hid (seat_ok HAsk4.out ⟨hn1, hn16⟩ (by rw [hBl, HFr.out]; exact hnf))
            have HQf := Lib.hid (show decide (n ≤ fr) = true by simpa using hnf)
            have HRoom : Hid (n ≤ total (runs (freeF B) (beg W L) (R * W))) := Lib.hid (by
              rw [total_runs, ← HNe.out, ← hBl, cnt_free, hBl, HFr.out]; exact hnf)
            clear hnf
            go_wp2_with fail
            refine HSeat.out.mono ?_
            rintro e w5 ⟨⟨mv, S, rfl, hP, _, hI, hown⟩, hf5⟩
            have hG := given_of (n := n) hP HRoom.out
            obtain ⟨M, hM⟩ : ∃ M, M = srtI ((seatF S.length S n).map Int.ofNat) := ⟨_, rfl⟩
            rw [← hM] at hI hG
            rw [← HNe.out] at hG
            obtain ⟨a11, c11, rfl⟩ : ∃ a11 c11, mv = .slice a11 M.length c11 := by
              rcases hI.2 with ⟨rfl, h0⟩ | ⟨g, cap, cur, rfl, _⟩
              · exact ⟨none, 0, by rw [h0]⟩
              · exact ⟨_, _, rfl⟩
            have HI := Lib.hid (show Ints w5 (.slice a11 M.length c11) M ∧ ∀ b, (Value.slice a11 M.length c11).ownBlock = some b → bv.ownBlock ≠ some b from ⟨hI, fun b hb e => by
              have h1 := hown b hb
              have h2 := Row.lt HG4.out.set.row e
              omega⟩)
            have HPt := Lib.hid (show Part N B M 0 B ∧ M.Nodup from ⟨Part.zero hG hBl, hG.nodup⟩)
            have hMl : M.length ≤ 16 := by rw [hG.len]; exact hn16
            have HG5 := Lib.hid (HG4.out.keep hf5)
            clear hM hI hG hP hown hf5
            go_wp2_with fail
            go_meet
            exact ⟨M, a11, c11, true, 0, rfl, rfl, Lib.hid rfl, HQf, HI, HPt, hMl, HG5⟩
          · have HSeat := Lib.hid (seat_full HAsk4.out ⟨hn1, hn16⟩ (by rw [hBl, HFr.out]; omega))
            have HQf := Lib.hid (show decide (n ≤ fr) = false by simpa using hnf)
            clear hnf
            go_wp2_with fail
            refine HSeat.out.mono ?_
            rintro e w5 ⟨rfl, hf5⟩
            have HG5 := Lib.hid (HG4.out.keep hf5)
            clear hf5
            go_wp2_with fail
            go_meet
            exact ⟨[], none, 0, false, 6, rfl, rfl, Lib.hid rfl, HQf, Lib.hid ⟨World.ownsRow_nil _ 0 _ 1, fun b hb => by simp [Value.ownBlock] at hb⟩, Lib.hid ⟨⟨hBl, rfl, fun j hj => by simp at hj⟩, List.nodup_nil⟩, by simp, HG5⟩
        case rest =>
        obtain ⟨M, a11, c11, q, e0, rfl, rfl, HE0, HQf, HI, HPt, hMl, HG2⟩ := hcut
        have hqf : decide ((n : Int) ≤ (fr : Int)) = q := by rw [← HQf.out]; simp
        have hqf' : decide (n ≤ fr) = q := HQf.out
        clear c0 c1 c2 HG HAsk HPick
        go_upto_region 13 with fail
        go_cut [74] (fun s74 wx => s74 = .bool false ∧ wc = wx)
        case first =>
          cases q
          · obtain rfl : e0 = 6 := by rw [HE0.out]; rfl
            go_wp2_with fail
            go_meet
            exact ⟨rfl, rfl⟩
          · obtain rfl : e0 = 0 := by rw [HE0.out]; rfl
            go_wp2_with fail
            go_meet
            exact ⟨rfl, rfl⟩
        case rest =>
        obtain ⟨rfl, rfl⟩ := hcut
        clear hqf hqf'
        go_upto_block 2 with fail
        go_cut [13] (fun s13 wx => ∃ BK, Hid (Part N B M M.length BK) ∧ Hid (Gn w b1 bh bv R W sv tv BK wx))
        case first =>
         as_aux_lemma =>
          go_wp2_with fail
          go_loopw [13] (fun s13 wr => ∃ (k : Nat) (BK : List Bool), s13 = .int .i64 k ∧ k ≤ M.length ∧ Hid (Part N B M k BK) ∧ Hid (Gn w b1 bh bv R W sv tv BK wr) ∧ Hid (Ints wr (.slice a11 M.length c11) M)) (fun s13 _ => M.length - (intOf s13).toNat)
          case atStart => exact ⟨0, B, rfl, Nat.zero_le _, Lib.hid HPt.out.1, HG2, Lib.hid HI.out.1⟩
          case round =>
            clear HG2
            obtain ⟨k, BK, rfl, hk, HPk, HG, HIk⟩ := hrel
            by_cases hlt : k < M.length
            · have hlt' : (k : Int) < (M.length : Int) := by omega
              obtain ⟨s, hs1, hs2, hs3⟩ := HPk.out.rest k hlt (Nat.le_refl _)
              obtain ⟨ga, gc, e1, hcell⟩ := row_cell HIk.out
              obtain ⟨g, e2, hck⟩ := hcell k hlt
              simp only [Value.slice.injEq] at e1
              obtain ⟨e3, -, e4⟩ := e1
              rw [e2] at e3
              subst e3
              have hcw : wr.cell? ⟨g, k, none⟩ = some (.int .i64 (s : Int)) := by
                rw [hck]; simp [hlt, i64v, hs1]
              have HHas : Hid (Calls Tryd.prog 16 #[.pointer (some ⟨bh, 0, none⟩), .int .i64 (s : Int)] wr fun e w' => e = .returned (.bool false) ∧ wr = w') := Lib.hid ((has_ok HG.out.set (s : Int)).mono fun _ _ hh => ⟨by rw [hh.1, Int.toNat_natCast, hs3, Bool.and_false], hh.2⟩)
              have HPut := Lib.hid (put_in HG.out.set (fun e => (HG.out.newv _ e).2.1 rfl) (j := s) (by rw [HPk.out.len]; exact hs2))
              have HPk2 := Lib.hid (HPk.out.succ HPt.out.2 hlt hs1)
              clear hs1 hs2 hs3 hcell hck e2 e4
              go_wp2_with fail
              refine HHas.out.mono ?_
              rintro e w3 ⟨rfl, rfl⟩
              go_wp2_with fail
              refine HPut.out.mono ?_
              rintro e w3 ⟨rfl, hset, hf⟩
              have HG3 := Lib.hid (HG.out.put hf hset)
              have HI3 : Hid (Ints w3 (.slice (some ⟨g, 0, none⟩) M.length c11) M) := Lib.hid (Row.fr HIk.out hf (fun b hb hF => HI.out.2 b hb hF))
              clear hset hf
              go_wp2_with fail
              go_roundw
              case rel => exact ⟨k + 1, _, by go_num, by omega, HPk2, HG3, HI3⟩
              case measure => simp [intOf]; omega
            · have hlt' : ¬ (k : Int) < (M.length : Int) := by omega
              obtain rfl : k = M.length := by omega
              go_wp2_with fail
              go_meet
              exact ⟨BK, HPk, HG⟩
        case rest =>
        obtain ⟨BK, HPk, HG3⟩ := hcut
        have hck : cnt BK = cnt B + M.length := HPk.out.cnt_
        obtain ⟨cK, hcK⟩ : ∃ cK, cK = cnt BK := ⟨_, rfl⟩
        obtain ⟨cB, hcB⟩ : ∃ cB, cB = cnt B := ⟨_, rfl⟩
        have hle := HCl.out
        have hfr2 := HFr.out
        have e1 : (N : Int) - (fr : Int) = (cB : Int) := by omega
        have e2 : (cB : Int) + (M.length : Int) = (cK : Int) := by omega
        have hcNb : cK ≤ 1040 := by omega
        have HCnt := Lib.hid (count_ok HG3.out.set)
        rw [← hcK] at HCnt
        clear hck hcK hcB hle hfr2 hfr' hn
        go_wp2_with fail
        refine HCnt.out.mono ?_
        rintro e w3 ⟨rfl, rfl⟩
        have hne : ((cK : Int) != (cK : Int)) = false := by simp
        go_wp2_with fail
        go_roundw
        case rel => exact ⟨i + 1, BK, by go_num, by omega, HPk.out.len, HG3⟩
        case measure => simp [intOf]; omega
      · by_cases hiP : i < P.length
        · have hiP' : (i : Int) < (P.length : Int) := by omega
          have hi30' : decide ((i : Int) < 30) = false := by simp; omega
          have hi30'' : decide (i < 30) = false := by simp; omega
          clear hend
          go_wp2_with fail
          go_ret
          exact ⟨rfl, HG.out.law.fr⟩
        · have hiP' : decide ((i : Int) < (P.length : Int)) = false := by simp; omega
          have hiP'' : decide (i < P.length) = false := by simp; omega
          clear hend
          go_wp2_with fail
          go_ret
          exact ⟨rfl, HG.out.law.fr⟩
end Go.Proofs.YthckfbfenfkdiaaDoor.Py
