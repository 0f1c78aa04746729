/- Parties: the runs. Condition: the table of math/bits. -/
import Derived.Test.YthckfbfenfkdiaaDoorPyE
namespace Go.Proofs.YthckfbfenfkdiaaDoor.Py
open Go.RowKit St Bt
set_option maxRecDepth 100000 in
set_option maxHeartbeats 1000000 in
theorem runs_err {w : World} {cv : Array Value} {p : Option Addr} {e : Int} (hc : ∀ w1, Fr (fun _ => False) w w1 → Calls Tryd.prog 19 #[.agg cv, .pointer p] w1 fun r w' => r = .returned (.int .i64 e) ∧ Fr (fun _ => False) w1 w') (he : (e != 0) = true) {r v : Int} {sv : Value} (hcv : cv = #[.int .i64 r, .int .i64 v, sv]) :
    Calls Tryd.prog 8 #[.agg cv, .pointer p] w fun r w' => r = .returned (.tuple #[.slice none 0 0, .int .i64 e]) ∧ Fr (fun _ => False) w w' := by
  subst hcv
  have HC := Lib.hid hc
  clear hc
  go_enter Tryd.func8, Tryd.ntmps8
  go_wp2_with fail
  go_step3
  go_wp2_with fail
  refine (HC.out _ (Fr.alloc (Fr.refl _ _) _)).mono ?_
  rintro r0 w1 ⟨rfl, hf⟩
  have HF := Lib.hid ((Fr.alloc (Fr.refl (fun _ => False) w) (.cells #[.int .i64 r, .int .i64 v, sv] 24)).trans hf (fun _ _ h => h))
  clear hf
  go_wp2_with fail
  try rw [Exit.noGoto_ret]
  go_ret2
  exact ⟨rfl, HF.out⟩
theorem parts_eq {B : Nat → Bool} {a b : Nat} {S : List Sp} (h1 : Parts B a S) (h2 : Parts B b S) : a = b := by
  cases h1 with
  | nil => generalize hS : ([] : List Sp) = S0 at h2; cases h2 with
    | nil => rfl
    | snoc _ _ _ _ => simp at hS
  | @snoc k c S p1 p2 p3 p4 => generalize hS : S ++ [(k, c)] = S0 at h2; cases h2 with
    | nil => simp at hS
    | snoc q1 q2 q3 q4 => simp at hS; obtain ⟨_, h1, h2⟩ := hS; omega
theorem bump_len : ∀ S : List Sp, (bump S).length = S.length
  | [] => rfl
  | [x] => rfl
  | x :: y :: t => by show (bump (y :: t)).length + 1 = _; rw [bump_len (y :: t)]; rfl
theorem runs_le (F B : Nat → Bool) : ∀ (k n : Nat), k ≤ n → (runs F B k).length ≤ n
  | 0, n, _ => Nat.zero_le _
  | k + 1, n, h => by
    have ih := runs_le F B k (n - 1) (by omega)
    unfold runs
    split
    · split
      · rw [bump_len]; omega
      · simp; omega
    · omega
/-- What stays while runs are gathered. -/
structure Rst (w : World) (gv : Value) (S : List Sp) (bh : Nat) (bv : Value) (B : List Bool) (W : World) : Prop where
  sps : Sps W gv S
  set : SetAt W bh bv B
  tab : TabOk W
  fr : Fr (fun _ => False) w W
theorem Rst.keep {w : World} {gv : Value} {S : List Sp} {bh : Nat} {bv : Value} {B : List Bool} {W W' : World} (h : Rst w gv S bh bv B W) {F : Nat → Prop} (f : Fr F W W') (hn : ∀ b, F b → w.heap.size ≤ b ∧ gv.ownBlock ≠ some b) (hlt : bh < w.heap.size) (hbv : ∀ b, bv.ownBlock = some b → b < w.heap.size) (h0 : 0 < w.heap.size) : Rst w gv S bh bv B W' :=
  ⟨Row.fr h.sps f (fun b hb hF => (hn b hF).2 hb), h.set.fr f (fun hF => by have := (hn _ hF).1; omega) (fun b hb hF => by have := (hn _ hF).1; have := hbv b hb; omega), h.tab.fr f (fun hF => by have := (hn _ hF).1; omega),
    ((h.fr.mono (G := fun b => w.heap.size ≤ b) (fun _ _ h => h.elim)).trans f (fun b _ h => (hn b h).1)).toNew⟩
/-- Runs under way. -/
structure Rout (w : World) (gv ov : Value) (T : List Sp) (W : World) : Prop where
  sps : Sps W ov T
  own : ∀ b, ov.ownBlock = some b → w.heap.size ≤ b ∧ gv.ownBlock ≠ some b
set_option maxRecDepth 100000 in
set_option maxHeartbeats 1000000 in
theorem runs_ok {w : World} (hT : TabOk w) {sv : Value} {L : List Int} (h : RI w sv L) {R W : Nat} (hq : rightB R W L = true) {bh : Nat} {bv : Value} {B : List Bool} (hB : SetAt w bh bv B) (hl : B.length = R * W) :
    Calls Tryd.prog 8 #[.agg #[.int .i64 R, .int .i64 W, sv], .pointer (some ⟨bh, 0, none⟩)] w fun e w' => (∃ ov, e = .returned (.tuple #[ov, .int .i64 0]) ∧ Sps w' ov (runs (freeF B) (beg W L) (R * W)) ∧ (∀ b, ov.ownBlock = some b → w.heap.size ≤ b)) ∧ Fr (fun _ => False) w w' := by
  have H := Lib.hid h
  have HQ := Lib.hid hq
  have HB := Lib.hid hB
  have HT := Lib.hid hT
  have HL := Lib.hid hl
  have hn1 : R * W ≤ 1024 := by
    obtain ⟨n, a1, a2, a3⟩ := seatsI R W (right_size hq)
    have : ((R * W : Nat) : Int) = n := by rw [← a1]; simp
    omega
  obtain ⟨N, hN⟩ : ∃ N, R * W = N := ⟨_, rfl⟩
  rw [hN] at hn1 HL ⊢
  have HN := Lib.hid hN
  clear h hq hB hT hl hN
  go_enter Tryd.func8, Tryd.ntmps8
  go_wp2_with fail
  go_step3
  go_wp2_with fail
  have f0 : Fr (fun _ => False) w (w.alloc (.cells #[.int .i64 R, .int .i64 W, sv] 24)) := Fr.alloc (Fr.refl _ _) _
  have hC := checked_any (q := true) (H.out.keep f0) HQ.out (HB.out.fr f0 id (fun _ _ h => h)) (by rw [HL.out, ← HN.out]; simp)
  have HC := Lib.hid hC
  have HF0 := Lib.hid f0
  clear f0 hC
  refine HC.out.mono ?_
  rintro r0 w1 ⟨rfl, hf⟩
  have hb1 : w1.heap[w.heap.size]? = some (.cells #[.int .i64 R, .int .i64 W, sv] 24 (0, 0)) := (hf.blk _ (by simp) id).trans (heap_alloc_at _ _)
  have c0 := (cell_of hb1 0).trans (show _ = some (Value.int .i64 R) from rfl)
  have c1 := (cell_of hb1 1).trans (show _ = some (Value.int .i64 W) from rfl)
  have c2 := (cell_of hb1 2).trans (show _ = some sv from rfl)
  have HF1 := Lib.hid (HF0.out.trans hf (fun _ _ h => h))
  clear hf hb1 HC HF0
  go_wp2_with fail
  refine (blocks_ok (H.out.keep HF1.out) HQ.out).mono ?_
  rintro r0 w2 ⟨⟨gv, S, rfl, hP, hS, ho⟩, hf⟩
  have HF2 := Lib.hid (HF1.out.trans hf (fun _ _ h => h))
  obtain ⟨ga, gc, rfl⟩ : ∃ a c, gv = .slice a S.length c := by
    rcases hS.2 with ⟨rfl, h0⟩ | ⟨g, cap, cur, rfl, _⟩
    · exact ⟨none, 0, by rw [h0]⟩
    · exact ⟨_, _, rfl⟩
  rw [HN.out] at hP
  have HP := Lib.hid hP; have HS := Lib.hid hS; have HO := Lib.hid ho
  have hSl : S.length ≤ 1024 := by have := hP.len; omega
  clear hf hP hS ho c0 c1 c2
  go_wp2_with fail
  go_step3
  go_wp2_with fail
  have hbl : bh < w.heap.size := HB.out.lt
  have hbv : ∀ b, bv.ownBlock = some b → b < w.heap.size := fun b hb => Row.lt HB.out.row hb
  have h0 : 0 < w.heap.size := by omega
  have HBV := Lib.hid hbv
  have HR0 : Hid (Rst w (.slice ga S.length gc) S bh bv B w2) := Lib.hid ⟨HS.out, HB.out.fr HF2.out id (fun _ _ h => h), HT.out.fr HF2.out id, HF2.out⟩
  clear hbv
  go_loopw [9, 11, 12, 13, 14, 15, 29] (fun s9 s11 s12 s13 s14 s15 s29 wr => ∃ (i k : Nat), s29 = .int .i64 i ∧ i ≤ S.length ∧ Hid (Parts (beg W L) k (S.take i)) ∧ Hid (Rout w (.slice ga S.length gc) s9 (runs (freeF B) (beg W L) k) wr) ∧ Hid (Rst w (.slice ga S.length gc) S bh bv B wr)) (fun _ _ _ _ _ _ s29 _ => S.length - (intOf s29).toNat)
  case atStart => exact ⟨0, 0, rfl, Nat.zero_le _, Lib.hid .nil, Lib.hid ⟨World.ownsRow_nil _ 0 _ 2, fun b hb => by simp [Value.ownBlock] at hb⟩, HR0⟩
  case round =>
    clear HR0
    obtain ⟨i, k, rfl, hi, HPk, HRo, HRs⟩ := hrel
    by_cases hlt : i < S.length
    · have hlt' : (i : Int) < (S.length : Int) := by omega
      obtain ⟨g, cap, hge, hcells⟩ := Els.cells enc_len HRs.out.sps hlt
      obtain ⟨g1, g2, g3, g4, g5, g6⟩ := HP.out.get i hlt
      obtain ⟨f, hf⟩ : ∃ f, f = S[i].1 := ⟨_, rfl⟩
      obtain ⟨c, hc⟩ : ∃ c, c = S[i].2 := ⟨_, rfl⟩
      have x1 := hcells 0 (by omega)
      have x2 := hcells 1 (by omega)
      have x1' : wr.cell? ⟨g, i * 2, none⟩ = some (.int .i64 f) := by rw [hf]; exact x1
      have x2' : wr.cell? ⟨g, i * 2 + 1, none⟩ = some (.int .i64 c) := by rw [hc]; exact x2
      rw [← hf, ← hc] at g4 g5 g6
      rw [← hf] at g1 g2
      rw [← hc] at g3
      obtain rfl : ga = some ⟨g, 0, none⟩ := (Value.slice.inj hge).1
      have hfk : k = f := by
        have h1 := HPk.out
        exact parts_eq h1 g1
      subst hfk
      obtain ⟨e, he⟩ : ∃ e, k + c = e := ⟨_, rfl⟩
      have he' : (k : Int) + (c : Int) = (e : Int) := by omega
      rw [he] at g4 g5 g6
      have HAt : Hid (At B (beg W L) k e k) := Lib.hid ⟨Nat.le_refl _, by omega, by rw [HL.out]; exact g5, g2, g4, .inl rfl⟩
      have HPe := Lib.hid g6
      have hke : k ≤ e := by omega
      have heN : e ≤ 1024 := by omega
      have hkN : k ≤ 1024 := by omega
      have hcN : c ≤ 1024 := by omega
      clear x1 x2 hcells g1 g2 g3 g4 g5 g6 hf hc hge he
      go_upto_block 2 with fail
      clear x1' x2'
      obtain ⟨W1, hW1⟩ : ∃ W1, W1 = wr.alloc (.cells #[.int .i64 k, .int .i64 c] 45) := ⟨_, rfl⟩
      rw [← hW1]
      have hfa : Fr (fun _ => False) wr W1 := by rw [hW1]; exact Fr.alloc (Fr.refl _ _) _
      have HRs1 := Lib.hid (HRs.out.keep hfa (fun _ h => h.elim) hbl HBV.out h0)
      have HRo1 : Hid (Rout w (.slice (some ⟨g, 0, none⟩) S.length gc) u9 (runs (freeF B) (beg W L) k) W1) := Lib.hid ⟨Row.fr HRo.out.sps hfa (fun _ _ h => h), HRo.out.own⟩
      clear hW1 hfa HRs HRo
      go_wp2_with fail
      go_loopw [9, 13, 14, 15] (fun s9 s13 s14 s15 wq => ∃ a, s13 = .int .i64 (a : Nat) ∧ Hid (At B (beg W L) k e a) ∧ Hid (Rout w (.slice (some ⟨g, 0, none⟩) S.length gc) s9 (runs (freeF B) (beg W L) a) wq) ∧ Hid (Rst w (.slice (some ⟨g, 0, none⟩) S.length gc) S bh bv B wq)) (fun _ s13 _ _ _ => e - (intOf s13).toNat)
      case atStart => exact ⟨k, rfl, HAt, HRo1, HRs1⟩
      case round =>
        clear HAt HRo1 HRs1
        obtain ⟨a, rfl, HA, HRo, HRs⟩ := hrel
        have ha1 := HA.out.fa; have ha2 := HA.out.ae
        have HTL : Hid ((runs (freeF B) (beg W L) a).length ≤ 1000000) := Lib.hid (runs_le _ _ a 1000000 (by omega))
        by_cases hae : a < e
        · have hae' : (a : Int) < (e : Int) := by omega
          have hFr := Lib.hid (free_ok HRs.out.tab HRs.out.set (a : Int))
          cases hs : seekO false B ((a : Int).toNat) with
          | none =>
            have hs1 := seekO_none hs
            have HX := Lib.hid (seekI_none hs)
            have HRn : Hid (runs (freeF B) (beg W L) e = runs (freeF B) (beg W L) a) := Lib.hid (HA.out.rest (fun j h1 h2 => hs1 j (by omega) (by have := HA.out.eb; omega)))
            clear hs hs1
            go_wp2_with fail
            refine hFr.out.mono ?_
            rintro r0 w3 ⟨rfl, rfl⟩
            rw [HX.out]
            go_wp2_with fail
            go_roundw
            case rel => exact ⟨i + 1, e, by go_num, by omega, HPe, Lib.hid (by rw [HRn.out]; exact HRo.out), HRs⟩
            case measure => simp [intOf]; omega
          | some x =>
            have hs1 := seekO_some hs
            have HX := Lib.hid (seekI_some hs)
            have hax : a ≤ x := by have := hs1.1; omega
            have hxb : x < 1024 := by have := hs1.2.1; have := HL.out; omega
            clear hs
            by_cases hxe : x < e
            · have hxe' : (x : Int) < (e : Int) := by omega
              have dx0 : decide ((x : Int) < 0) = false := by simp
              have dxe : decide ((e : Int) ≤ (x : Int)) = false := by simp; omega
              have dxe' : decide (e ≤ x) = false := by simp; omega
              have hNx := Lib.hid (next_ok HRs.out.tab HRs.out.set (x : Int))
              cases ht : seekO true B ((x : Int).toNat) with
              | none =>
                have ht1 := seekO_none ht
                have HY := Lib.hid (seekI_none ht)
                obtain ⟨y, hy⟩ : ∃ y, y = e := ⟨_, rfl⟩
                have hxy : x < y := by omega
                have hye : y ≤ e := by omega
                have hyr : ∀ j, x ≤ j → j < y → B.getD j false ≠ true := fun j h1 h2 => ht1 j (by omega) (by have := HA.out.eb; omega)
                have hyd : y = e ∨ B.getD y false = true := .inl hy
                have hyI : (e : Int) = (y : Int) := by rw [hy]
                clear ht ht1
                go_wp2_with fail
                refine hFr.out.mono ?_
                rintro r0 w3 ⟨rfl, rfl⟩
                rw [HX.out]
                go_wp2_with fail
                refine hNx.out.mono ?_
                rintro r0 w4 ⟨rfl, rfl⟩
                rw [HY.out]
                subst hy
                have hru := HA.out.run (y := y) (by omega) hxy hye (by have := hs1.2.2.1; exact this) (fun j h1 h2 => hs1.2.2.2 j (by omega) h2) hyr hyd
                have HA2 := Lib.hid hru.1
                have HRu := Lib.hid hru.2
                have hTl : (runs (freeF B) (beg W L) a).length ≤ 1000000 := HTL.out
                obtain ⟨a9, c9, w5, hrun, hS5, hf5, ho5⟩ := Sps.app HRo.out.sps hTl (x, y - x)
                obtain ⟨z, hz⟩ : ∃ z, y - x = z := ⟨_, rfl⟩
                have hz' : (y : Int) - (x : Int) = (z : Int) := by omega
                rw [hz] at hrun hS5 HRu
                have HRo5 : Hid (Rout w (.slice (some ⟨g, 0, none⟩) S.length gc) (.slice a9 ((runs (freeF B) (beg W L) a).length + 1) c9) (runs (freeF B) (beg W L) y) w5) := Lib.hid ⟨by rw [HRu.out]; exact hS5, fun b hb => by
                  rcases ho5 b hb with h | h
                  · exact HRo.out.own b h
                  · have q1 := HRs.out.fr.size
                    refine ⟨by omega, fun e => ?_⟩
                    have := Row.lt HRs.out.sps e; omega⟩
                have HRs5 := Lib.hid (HRs.out.keep hf5 (fun b hb => HRo.out.own b hb) hbl HBV.out h0)
                have Hrun := Lib.hid hrun
                have hyN : y ≤ 1024 := by omega
                have hya : a < y := by omega
                clear hru hrun hS5 hf5 ho5 hz hyd hyr hs1 hTl hyI
                go_wp2_with (at_builtin; refine wpList_append_run rfl _ _ _ rfl rfl rfl Hrun.out ?_)
                go_roundw
                case rel => exact ⟨y, rfl, HA2, HRo5, HRs5⟩
                case measure => simp [intOf]; omega
              | some t =>
                have ht1 := seekO_some ht
                have HY := Lib.hid (seekI_some ht)
                have htb : t < 1024 := by have := ht1.2.1; have := HL.out; omega
                have hxt : x ≤ t := by have := ht1.1; omega
                have hnt : x ≠ t := fun e => by have h1 := ht1.2.2.1; rw [← e, hs1.2.2.1] at h1; cases h1
                have dt0 : decide ((t : Int) < 0) = false := by simp
                have hyr0 : ∀ j, x ≤ j → j < t → B.getD j false ≠ true := fun j h1 h2 => ht1.2.2.2 j (by omega) h2
                have hyt := ht1.2.2.1
                clear ht ht1
                by_cases hte : e < t
                · have dte : decide ((e : Int) < (t : Int)) = true := by simp; omega
                  have dte' : decide (e < t) = true := by simp; omega
                  obtain ⟨y, hy⟩ : ∃ y, y = e := ⟨_, rfl⟩
                  have hxy : x < y := by omega
                  have hye : y ≤ e := by omega
                  have hyr : ∀ j, x ≤ j → j < y → B.getD j false ≠ true := fun j h1 h2 => hyr0 j h1 (by omega)
                  have hyd : y = e ∨ B.getD y false = true := .inl hy
                  clear hyr0 hyt
                  go_wp2_with fail
                  refine hFr.out.mono ?_
                  rintro r0 w3 ⟨rfl, rfl⟩
                  rw [HX.out]
                  go_wp2_with fail
                  refine hNx.out.mono ?_
                  rintro r0 w4 ⟨rfl, rfl⟩
                  rw [HY.out]
                  subst hy
                  have hru := HA.out.run (y := y) (by omega) hxy hye (by have := hs1.2.2.1; exact this) (fun j h1 h2 => hs1.2.2.2 j (by omega) h2) hyr hyd
                  have HA2 := Lib.hid hru.1
                  have HRu := Lib.hid hru.2
                  have hTl : (runs (freeF B) (beg W L) a).length ≤ 1000000 := HTL.out
                  obtain ⟨a9, c9, w5, hrun, hS5, hf5, ho5⟩ := Sps.app HRo.out.sps hTl (x, y - x)
                  obtain ⟨z, hz⟩ : ∃ z, y - x = z := ⟨_, rfl⟩
                  have hz' : (y : Int) - (x : Int) = (z : Int) := by omega
                  rw [hz] at hrun hS5 HRu
                  have HRo5 : Hid (Rout w (.slice (some ⟨g, 0, none⟩) S.length gc) (.slice a9 ((runs (freeF B) (beg W L) a).length + 1) c9) (runs (freeF B) (beg W L) y) w5) := Lib.hid ⟨by rw [HRu.out]; exact hS5, fun b hb => by
                    rcases ho5 b hb with h | h
                    · exact HRo.out.own b h
                    · have q1 := HRs.out.fr.size
                      refine ⟨by omega, fun e => ?_⟩
                      have := Row.lt HRs.out.sps e; omega⟩
                  have HRs5 := Lib.hid (HRs.out.keep hf5 (fun b hb => HRo.out.own b hb) hbl HBV.out h0)
                  have Hrun := Lib.hid hrun
                  have hyN : y ≤ 1024 := by omega
                  have hya : a < y := by omega
                  clear hru hrun hS5 hf5 ho5 hz hyd hyr hs1 hTl
                  go_wp2_with (at_builtin; refine wpList_append_run rfl _ _ _ rfl rfl rfl Hrun.out ?_)
                  go_roundw
                  case rel => exact ⟨y, rfl, HA2, HRo5, HRs5⟩
                  case measure => simp [intOf]; omega
                · have dte : decide ((e : Int) < (t : Int)) = false := by simp; omega
                  have dte' : decide (e < t) = false := by simp; omega
                  obtain ⟨y, rfl⟩ : ∃ y, y = t := ⟨_, rfl⟩
                  have hxy : x < y := by omega
                  have hye : y ≤ e := by omega
                  have hyr := hyr0
                  have hyd : y = e ∨ B.getD y false = true := .inr hyt
                  clear hyr0 hyt
                  go_wp2_with fail
                  refine hFr.out.mono ?_
                  rintro r0 w3 ⟨rfl, rfl⟩
                  rw [HX.out]
                  go_wp2_with fail
                  refine hNx.out.mono ?_
                  rintro r0 w4 ⟨rfl, rfl⟩
                  rw [HY.out]
                  have hru := HA.out.run (y := y) (by omega) hxy hye (by have := hs1.2.2.1; exact this) (fun j h1 h2 => hs1.2.2.2 j (by omega) h2) hyr hyd
                  have HA2 := Lib.hid hru.1
                  have HRu := Lib.hid hru.2
                  have hTl : (runs (freeF B) (beg W L) a).length ≤ 1000000 := HTL.out
                  obtain ⟨a9, c9, w5, hrun, hS5, hf5, ho5⟩ := Sps.app HRo.out.sps hTl (x, y - x)
                  obtain ⟨z, hz⟩ : ∃ z, y - x = z := ⟨_, rfl⟩
                  have hz' : (y : Int) - (x : Int) = (z : Int) := by omega
                  rw [hz] at hrun hS5 HRu
                  have HRo5 : Hid (Rout w (.slice (some ⟨g, 0, none⟩) S.length gc) (.slice a9 ((runs (freeF B) (beg W L) a).length + 1) c9) (runs (freeF B) (beg W L) y) w5) := Lib.hid ⟨by rw [HRu.out]; exact hS5, fun b hb => by
                    rcases ho5 b hb with h | h
                    · exact HRo.out.own b h
                    · have q1 := HRs.out.fr.size
                      refine ⟨by omega, fun e => ?_⟩
                      have := Row.lt HRs.out.sps e; omega⟩
                  have HRs5 := Lib.hid (HRs.out.keep hf5 (fun b hb => HRo.out.own b hb) hbl HBV.out h0)
                  have Hrun := Lib.hid hrun
                  have hyN : y ≤ 1024 := by omega
                  have hya : a < y := by omega
                  clear hru hrun hS5 hf5 ho5 hz hyd hyr hs1 hTl
                  go_wp2_with (at_builtin; refine wpList_append_run rfl _ _ _ rfl rfl rfl Hrun.out ?_)
                  go_roundw
                  case rel => exact ⟨y, rfl, HA2, HRo5, HRs5⟩
                  case measure => simp [intOf]; omega
            · have dx0 : decide ((x : Int) < 0) = false := by simp
              have dxe : decide ((e : Int) ≤ (x : Int)) = true := by simp; omega
              have dxe' : decide (e ≤ x) = true := by simp; omega
              have HRn : Hid (runs (freeF B) (beg W L) e = runs (freeF B) (beg W L) a) := Lib.hid (HA.out.rest (fun j h1 h2 => hs1.2.2.2 j (by omega) (by omega)))
              clear hs1
              go_wp2_with fail
              refine hFr.out.mono ?_
              rintro r0 w3 ⟨rfl, rfl⟩
              rw [HX.out]
              go_wp2_with fail
              go_roundw
              case rel => exact ⟨i + 1, e, by go_num, by omega, HPe, Lib.hid (by rw [HRn.out]; exact HRo.out), HRs⟩
              case measure => simp [intOf]; omega
        · have hae' : ¬ (a : Int) < (e : Int) := by omega
          obtain rfl : a = e := by omega
          go_wp2_with fail
          go_roundw
          case rel => exact ⟨i + 1, a, by go_num, by omega, HPe, HRo, HRs⟩
          case measure => simp [intOf]; omega
    · have hlt' : ¬ (i : Int) < (S.length : Int) := by omega
      obtain rfl : i = S.length := by omega
      have hkN : k = N := by
        have h1 := HPk.out
        rw [List.take_length] at h1
        exact parts_eq h1 HP.out
      have HKN := Lib.hid hkN
      clear hkN
      go_wp2_with fail
      try rw [Exit.noGoto_ret]
      go_ret2
      exact ⟨⟨_, rfl, by have := HRo.out.sps; rw [HKN.out] at this; exact this, fun b hb => (HRo.out.own b hb).1⟩, HRs.out.fr⟩
end Go.Proofs.YthckfbfenfkdiaaDoor.Py
