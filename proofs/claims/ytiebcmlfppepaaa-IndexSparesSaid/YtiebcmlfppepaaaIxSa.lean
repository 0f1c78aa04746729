/- IndexSpares: the walk. No condition. -/
import Derived.Test.YtiebcmlfppepaaaIxGc
import Derived.Test.YtiebcmlfppepaaaNest
import Derived.Deep.CutBlock
import Derived.Deep.CutRange
namespace Go.Proofs.Ytiebcmlfppepaaa.Ix
open Go.RowKit Go.Shelf
attribute [local go_sem] Oper.semAt_some
theorem run_store_func {P : Program} (w : World) (a : Addr) (m : Mode) (t : Fn) (x y : Array Value) : (store a (.func t x y) m).run P w = stored P w a (.func t x y) m := run_store P w a _ m rfl
attribute [local go_sem] run_store_func
/-- The elements with their ids as 64 bits. -/
def nrm (pre : List (Nat × Int)) : List (Nat × Int) := pre.map fun x => (idW x.1, x.2)
theorem nrm_small {pre : List (Nat × Int)} (h : ∀ x ∈ pre, x.1 < 4294967296) : nrm pre = pre := by
  unfold nrm
  conv => rhs; rw [← List.map_id pre]
  exact List.map_congr_left fun x hx => Prod.ext (idW_small (h x hx)) rfl
theorem nrm_next {L pre : List (Nat × Int)} (h : nrm pre <+: L) (hl : pre.length < L.length) (x : Nat × Int) : (nrm (pre ++ [x]) <+: L) ↔ (idW x.1 = (liAt L pre.length).1 ∧ x.2 = (liAt L pre.length).2) := by
  have hn : (nrm pre).length = pre.length := by simp [nrm]
  have ht : nrm pre = L.take pre.length := by rw [← hn]; exact List.prefix_iff_eq_take.1 h
  have e : nrm (pre ++ [x]) = nrm pre ++ [(idW x.1, x.2)] := by simp [nrm]
  rw [e, ht]
  constructor
  · intro hp
    have h2 := List.prefix_iff_eq_take.1 hp
    rw [List.length_append, List.length_take, Nat.min_eq_left (by omega), List.length_singleton, ← take_snocL hl, List.append_cancel_left_eq] at h2
    have : (idW x.1, x.2) = liAt L pre.length := by simpa using h2
    rw [← this]; exact ⟨rfl, rfl⟩
  · rintro ⟨h1, h2⟩
    rw [h1, h2, take_snocL hl]
    exact List.take_prefix _ _
/-- What IndexSpares has in cells: k, the answer, what was told, the iterator. -/
structure SpAt (kb rb ta tb fb cb : Nat) (va vb sv : Value) (L : List (Nat × Int)) (kv : Int) (rv : Bool) (W : World) : Prop where
  kc : W.heap[kb]? = some (.cells #[.int .i64 kv] 3 (0, 0))
  rc : W.heap[rb]? = some (.cells #[.bool rv] 4 (0, 0))
  tac : W.heap[ta]? = some (.cells #[va] 26 (0, 0))
  tbc : W.heap[tb]? = some (.cells #[vb] 27 (0, 0))
  fc : W.heap[fb]? = some (.cells #[allV cb] 31 (0, 0))
  rowa : Row W 38 1 va L.length ((idsOf L).map u64v)
  rowb : Row W 3 1 vb L.length ((valsOf L).map i64v)
  seq : Seq W cb sv L
def spP (kb rb ta tb fb cb : Nat) (va vb sv : Value) (b : Nat) : Prop := b = kb ∨ b = rb ∨ b = ta ∨ b = tb ∨ b = fb ∨ va.ownBlock = some b ∨ vb.ownBlock = some b ∨ seqP cb sv b
theorem SpAt.fr {kb rb ta tb fb cb : Nat} {va vb sv : Value} {L : List (Nat × Int)} {kv : Int} {rv : Bool} {W W' : World} (h : SpAt kb rb ta tb fb cb va vb sv L kv rv W) {F : Nat → Prop} (f : Fr F W W') (hF : ∀ b, spP kb rb ta tb fb cb va vb sv b → ¬ F b) : SpAt kb rb ta tb fb cb va vb sv L kv rv W' :=
  ⟨f.get h.kc (hF _ (.inl rfl)), f.get h.rc (hF _ (.inr (.inl rfl))), f.get h.tac (hF _ (.inr (.inr (.inl rfl)))), f.get h.tbc (hF _ (.inr (.inr (.inr (.inl rfl))))), f.get h.fc (hF _ (.inr (.inr (.inr (.inr (.inl rfl)))))),
   Row.fr h.rowa f (fun b hb => hF b (.inr (.inr (.inr (.inr (.inr (.inl hb))))))), Row.fr h.rowb f (fun b hb => hF b (.inr (.inr (.inr (.inr (.inr (.inr (.inl hb)))))))), h.seq.fr f (fun b hb => hF b (.inr (.inr (.inr (.inr (.inr (.inr (.inr hb)))))))) ⟩
theorem SpAt.lt {kb rb ta tb fb cb : Nat} {va vb sv : Value} {L : List (Nat × Int)} {kv : Int} {rv : Bool} {W : World} (h : SpAt kb rb ta tb fb cb va vb sv L kv rv W) : ∀ b, spP kb rb ta tb fb cb va vb sv b → b < W.heap.size := by
  rintro b (rfl | rfl | rfl | rfl | rfl | hb | hb | hb)
  · exact lt_of_block h.kc
  · exact lt_of_block h.rc
  · exact lt_of_block h.tac
  · exact lt_of_block h.tbc
  · exact lt_of_block h.fc
  · exact Row.lt h.rowa hb
  · exact Row.lt h.rowb hb
  · exact h.seq.lt b hb
theorem SpAt.setk {kb rb ta tb fb cb : Nat} {va vb sv : Value} {L : List (Nat × Int)} {kv : Int} {rv : Bool} {W : World} (h : SpAt kb rb ta tb fb cb va vb sv L kv rv W) (hk : kb ≠ rb ∧ kb ≠ ta ∧ kb ≠ tb ∧ kb ≠ fb ∧ va.ownBlock ≠ some kb ∧ vb.ownBlock ≠ some kb ∧ ¬ seqP cb sv kb) (x : Int) : SpAt kb rb ta tb fb cb va vb sv L x rv (W.setCell ⟨kb, 0, none⟩ (.int .i64 x)) := by
  have fs : Fr (fun b => b = kb) W (W.setCell ⟨kb, 0, none⟩ (.int .i64 x)) := Fr.setCell (F := fun b => b = kb) (p := ⟨kb, 0, none⟩) (Fr.refl _ _) (fun _ => rfl) _
  obtain ⟨h1, h2, h3, h4, h5, h6, h7⟩ := hk
  exact ⟨setCell_blk (o := 0) h.kc _, fs.get h.rc (fun e => h1 e.symm), fs.get h.tac (fun e => h2 e.symm), fs.get h.tbc (fun e => h3 e.symm), fs.get h.fc (fun e => h4 e.symm), Row.fr h.rowa fs (fun b hb e => h5 (e ▸ hb)), Row.fr h.rowb fs (fun b hb e => h6 (e ▸ hb)), h.seq.fr fs (fun b hb e => h7 (e ▸ hb))⟩
theorem rowa_cell' {w : World} {a : Option Addr} {n c k : Nat} {L : List (Nat × Int)} (h : Row w 38 1 (.slice a n c) L.length ((idsOf L).map u64v)) (hk : k < L.length) : ∃ g, a = some ⟨g, 0, none⟩ ∧ w.cell? ⟨g, k, none⟩ = some (.int .u64 ((liAt L k).1 : Int)) := by
  obtain ⟨a', c', e, hh⟩ := row_cell h
  obtain ⟨g, e2, k1⟩ := hh k hk
  obtain ⟨e3, -, -⟩ := Value.slice.inj e
  refine ⟨g, e3.trans e2, ?_⟩
  rw [k1]
  simp [idsOf, u64v, liAt, hk]
theorem rowb_cell' {w : World} {a : Option Addr} {n c k : Nat} {L : List (Nat × Int)} (h : Row w 3 1 (.slice a n c) L.length ((valsOf L).map i64v)) (hk : k < L.length) : ∃ g, a = some ⟨g, 0, none⟩ ∧ w.cell? ⟨g, k, none⟩ = some (.int .i64 (liAt L k).2) := by
  obtain ⟨a', c', e, hh⟩ := row_cell h
  obtain ⟨g, e2, k1⟩ := hh k hk
  obtain ⟨e3, -, -⟩ := Value.slice.inj e
  refine ⟨g, e3.trans e2, ?_⟩
  rw [k1]
  simp [valsOf, i64v, liAt, hk]
set_option maxRecDepth 100000 in
set_option maxHeartbeats 16000000 in
theorem spares_walk (w : World) (n : Int) (hn : Fits n) {v1 : Value} {K1 : Nat → Nat → Int} {n1 : Nat} (h1 : KindsAt w v1 3 kOp K1 n1) {v2 : Value} {K2 : Nat → Nat → Int} {n2 : Nat} (h2 : KindsAt w v2 3 kOp K2 n2) (kn : Int) (hkn : Fits kn) :
    Calls Try.prog 3 #[.int .i64 n, v1, v2, .int .i64 kn] w fun e w' => e = .returned (.bool true) ∧ Fr (fun _ => False) w w' := by
  have hro : Fence.wide.round = none := rfl
  have h19 : 1 ≤ 9 := by omega
  obtain ⟨W0, hW0⟩ : ∃ W0, W0 = (w.alloc (.cells #[.int .i64 kn] 3)).alloc (.cells #[.bool false] 4) := ⟨_, rfl⟩
  have f0 : Fr (fun _ => False) w W0 := by rw [hW0]; exact Fr.alloc (Fr.alloc (Fr.refl _ _) _) _
  have hkb : W0.heap[w.heap.size]? = some (.cells #[.int .i64 kn] 3 (0, 0)) := by rw [hW0, heap_alloc_get, heap_alloc_get]; simp
  have hrb : W0.heap[w.heap.size + 1]? = some (.cells #[.bool false] 4 (0, 0)) := by rw [hW0, heap_alloc_get]; simp
  have hsz : W0.heap.size = w.heap.size + 2 := by rw [hW0]; simp
  obtain ⟨a2, c2, rfl, hnc, hcm, hor⟩ := id h2
  have hn2 : (n2 : Int) ≤ 9223372036854775807 := by unfold maxLen at hcm; omega
  have HMd := Lib.hid (fun w' (f : Fr (fun _ => False) w w') => mades_ok (w := w') hn (h1.fr f (fun _ _ h => h) (by omega)))
  have F0 := Lib.hid f0; have HKb := Lib.hid hkb; have HRb := Lib.hid hrb; have Hsz := Lib.hid hsz; have H2 := Lib.hid h2; have Hkn := Lib.hid hkn
  generalize (n % 4096 + 1).toNat = m at HMd
  clear h1 h2 hor hcm hnc f0 hkb hrb hsz hn hkn
  refine (callsIn_wide (n := 9)).1 (callsIn_of_wp_marks Try.func3 rfl trivial ?_ hro)
  refine wpIn_wide.2 ?_
  simp only [Try.ntmps3, List.size_toArray, List.length_cons, List.length_nil, Nat.reduceAdd, Nat.reduceSub, Array.replicate_succ, Array.replicate_zero, List.push_toArray, List.append_toArray, List.nil_append, List.cons_append]
  go_wp2_with fail
  have hsa : (w.alloc (.cells #[.int .i64 kn] 3)).heap.size = w.heap.size + 1 := by simp
  try rw [hsa]
  rw [← hW0]
  refine (HMd.out _ F0.out).mono ?_
  rintro e w1 ⟨bh, g, N, st, rfl, hN1⟩
  generalize hLq : runL m K1 (min n1 3000) = L at hN1
  have HLq := Lib.hid hLq
  have HN1 := Lib.hid hN1
  clear hN1 hLq hW0 hsa
  go_wp2_with fail
  refine (HMd.out _ (F0.out.trans HN1.out.fr (fun _ _ h => h))).mono ?_
  rintro e w2 ⟨bh2, g2, N2, st2, rfl, hN2⟩
  rw [HLq.out] at hN2
  have HN2 := Lib.hid hN2
  have HX2 := Lib.hid (HN1.out.at_.fr hN2.fr (fun h => h) (fun h => h))
  have HT := Lib.hid (told_ok (x := .pointer (some ⟨bh, 0, none⟩)) (by have := HX2.out.few; omega) HX2.out.ids (fun w' f => all_ok (HX2.out.fr f (fun h => h) (fun h => h))))
  clear hN2
  go_wp2_with fail
  refine HT.out.mono ?_
  rintro e w3 ⟨va, vb, rfl, ra, rb, na, nb, nab, f3⟩
  obtain ⟨q, hq⟩ : ∃ q, q = L.length := ⟨_, rfl⟩
  obtain ⟨aa, ca, rfl, -⟩ := row_cell ra
  obtain ⟨ab, cb, rfl, -⟩ := row_cell rb
  have HRA := Lib.hid ra; have HRB := Lib.hid rb; have HNa := Lib.hid na; have HNb := Lib.hid nb; have HNab := Lib.hid nab; have F3 := Lib.hid f3; have Hq := Lib.hid hq
  clear ra rb na nb nab f3 hq HT
  obtain ⟨w4, hw4⟩ : ∃ w4, w4 = (w3.alloc (.cells #[.slice aa L.length ca] 26)).alloc (.cells #[.slice ab L.length cb] 27) := ⟨_, rfl⟩
  have f4 : Fr (fun _ => False) w3 w4 := by rw [hw4]; exact Fr.alloc (Fr.alloc (Fr.refl _ _) _) _
  have hta : w4.heap[w3.heap.size]? = some (.cells #[.slice aa L.length ca] 26 (0, 0)) := by rw [hw4, heap_alloc_get, heap_alloc_get]; simp
  have htb : w4.heap[w3.heap.size + 1]? = some (.cells #[.slice ab L.length cb] 27 (0, 0)) := by rw [hw4, heap_alloc_get]; simp
  have hs4 : w4.heap.size = w3.heap.size + 2 := by rw [hw4]; simp
  have HA := Lib.hid (all_ok (HX2.out.fr (F3.out.trans f4 (fun _ _ h => h)) (fun h => h) (fun h => h)))
  have F4 := Lib.hid f4; have HTa := Lib.hid hta; have HTb := Lib.hid htb; have Hs4 := Lib.hid hs4
  clear f4 hta htb hs4
  go_wp2_with fail
  rw [← hw4]
  clear hw4
  refine HA.out.mono ?_
  rintro e w5 ⟨sb, sv, rfl, hseq, hnew, f5⟩
  have HSq := Lib.hid hseq; have HSn := Lib.hid hnew; have F5 := Lib.hid f5
  clear hseq hnew f5 HA
  have q0 := fun w => run_eql_func_nil (P := Try.prog) Try.underlying31 w (.func 33) #[] #[.pointer (some ⟨sb, 0, none⟩)]
  go_upto_block 0 with fail
  change Code.wp _ _ _ _ (w5.alloc (.cells #[allV sb] 31))
  have f6 : Fr (fun _ => False) w5 (w5.alloc (.cells #[allV sb] 31)) := Fr.alloc (Fr.refl _ _) _
  have hfb : (w5.alloc (.cells #[allV sb] 31)).heap[w5.heap.size]? = some (.cells #[allV sb] 31 (0, 0)) := by rw [heap_alloc_get]; simp
  generalize w5.alloc (.cells #[allV sb] 31) = w6 at f6 hfb ⊢
  have f46 := F5.out.trans f6 (fun _ _ h => h)
  have f36 := F4.out.trans f46 (fun _ _ h => h)
  have f26 := F3.out.trans f36 (fun _ _ h => h)
  have f16 := HN2.out.fr.trans f26 (fun _ _ h => h)
  have f06 := HN1.out.fr.trans f16 (fun _ _ h => h)
  have hsp : SpAt w.heap.size (w.heap.size + 1) w3.heap.size (w3.heap.size + 1) w5.heap.size sb (.slice aa L.length ca) (.slice ab L.length cb) sv L kn false w6 :=
    ⟨f06.get HKb.out (fun h => h), f06.get HRb.out (fun h => h), f46.get HTa.out (fun h => h), f46.get HTb.out (fun h => h), hfb, Row.fr HRA.out f36 (fun _ _ h => h), Row.fr HRB.out f36 (fun _ _ h => h), HSq.out.fr f6 (fun _ _ h => h)⟩
  have s0 := Hsz.out; have s1 := HN1.out.fr.size; have s2 := HN2.out.fr.size; have s3 := F3.out.size; have s4 := Hs4.out; have s5 := F5.out.size
  have x1 := HN1.out.newh; have x2 := HN1.out.newg; have x3 := HN1.out.at_.lt; have y1 := HN2.out.newh; have y2 := HN2.out.newg; have y3 := HN2.out.at_.lt
  have hspb : ∀ b, spP w.heap.size (w.heap.size + 1) w3.heap.size (w3.heap.size + 1) w5.heap.size sb (.slice aa L.length ca) (.slice ab L.length cb) sv b → w.heap.size ≤ b ∧ b ≠ bh ∧ b ≠ g := by
    rintro b (rfl | rfl | rfl | rfl | rfl | hb | hb | hb)
    · omega
    · omega
    · omega
    · omega
    · omega
    · have := HNa.out b hb; omega
    · have := HNb.out b hb; omega
    · have := HSn.out b hb; omega
  have hkb : w.heap.size ≠ w.heap.size + 1 ∧ w.heap.size ≠ w3.heap.size ∧ w.heap.size ≠ w3.heap.size + 1 ∧ w.heap.size ≠ w5.heap.size ∧ (Value.slice aa L.length ca).ownBlock ≠ some w.heap.size ∧ (Value.slice ab L.length cb).ownBlock ≠ some w.heap.size ∧ ¬ seqP sb sv w.heap.size := by
    refine ⟨by omega, by omega, by omega, by omega, fun e => ?_, fun e => ?_, fun e => ?_⟩
    · have := HNa.out _ e; omega
    · have := HNb.out _ e; omega
    · have := HSn.out _ e; omega
  have HKB := Lib.hid hkb
  have hxy : bh2 ≠ bh ∧ bh2 ≠ g ∧ g2 ≠ bh ∧ g2 ≠ g := by omega
  have hyk : w.heap.size + 2 ≤ bh2 ∧ w.heap.size + 2 ≤ g2 ∧ w.heap.size ≤ bh ∧ w.heap.size ≤ g := by omega
  have HX6 := Lib.hid (HX2.out.fr f26 (fun h => h) (fun h => h)); have HY6 := Lib.hid (HN2.out.at_.fr f26 (fun h => h) (fun h => h))
  have HSp := Lib.hid hsp; have HSpb := Lib.hid hspb; have HXY := Lib.hid hxy; have HYK := Lib.hid hyk; have F06 := Lib.hid (F0.out.trans f06 (fun _ _ h => h))
  clear f6 hfb f46 f36 f26 f16 f06 hsp hspb hkb hxy hyk s0 s1 s2 s3 s4 s5 x1 x2 x3 y1 y2 y3 q0
  go_cut [17] from 26 (fun _ wx => ∃ L' st', IxAt wx bh g N m L' st' ∧ Fr (fun b => b = bh ∨ b = g) w6 wx)
  case first =>
    go_wp2_with fail
    go_loopw [17] (fun s17 wr => ∃ (i : Nat) (L' : List (Nat × Int)) (st' : Nat), s17 = .int .i64 (i : Int) ∧ i ≤ n2 ∧ IxAt wr bh g N m L' st' ∧ Fr (fun b => b = bh ∨ b = g) w6 wr) (fun s17 _ => n2 - (intOf s17).toNat)
    case atStart => exact ⟨0, L, _, rfl, Nat.zero_le _, HX6.out, Fr.refl _ _⟩
    case round =>
      obtain ⟨i, L', st', rfl, hi, hx, hf⟩ := hrel
      have hIv := H2.out.fr (F06.out.mono (G := fun b => w.heap.size ≤ b) (fun _ _ h => h.elim) |>.trans hf (fun b _ e => by have := HYK.out; rcases e with rfl | rfl <;> omega)) (fun b hb h => by omega) (by omega)
      have HX := Lib.hid hx; have HF := Lib.hid hf
      clear hx hf
      by_cases hlt : i < n2
      · have hlt' : (i : Int) < (n2 : Int) := by omega
        by_cases hc : i < 3000
        · have hc' : (i : Int) < 3000 := by omega
          have i0 : (0 : Int) ≤ (i : Int) := by omega
          obtain ⟨a', c', e1, _, _, hor⟩ := hIv
          simp only [Value.slice.injEq] at e1
          obtain ⟨rfl, _, rfl⟩ := e1
          obtain ⟨lb, lo, rfl, hcell⟩ := hor.resolve_left (by omega)
          have kd := (hcell i 0 hlt (by omega)).1
          have ko := (hcell i 1 hlt (by omega)).1
          have ki := (hcell i 2 hlt (by omega)).1
          have hu := wf_u32 (hcell i 1 hlt (by omega)).2
          simp only [Nat.add_zero] at kd
          obtain ⟨o, ho⟩ : ∃ o, o = opAt K2 i := ⟨_, rfl⟩
          have o1 : K2 i 0 = o.1 := by rw [ho]; rfl
          have o2 : K2 i 1 = (o.2.1 : Int) := by rw [ho]; show K2 i 1 = ((K2 i 1).toNat : Int); omega
          have o3 : K2 i 2 = o.2.2 := by rw [ho]; rfl
          rw [o1] at kd; rw [o2] at ko hu; rw [o3] at ki
          change wr.cell? _ = some (.int .i64 o.1) at kd
          change wr.cell? _ = some (.int .u32 (o.2.1 : Int)) at ko
          change wr.cell? _ = some (.int .i64 o.2.2) at ki
          have HD := Lib.hid (does_ok HX.out o (by omega))
          have Hlt := Lib.hid hlt
          clear hcell hor hlt hc hi hu ho o1 o2 o3
          obtain ⟨k, id, v⟩ := o
          simp only at kd ko ki
          go_wp2_with fail
          refine HD.out.mono ?_
          rintro e w8 ⟨rfl, st8, h8, f8⟩
          have HX8 := Lib.hid h8; have HF8 := Lib.hid (HF.out.trans f8 (fun _ _ h => h))
          clear h8 f8 kd ko ki
          go_wp2_with fail
          go_roundw
          case rel => exact ⟨i + 1, _, st8, by first | (simp; done) | go_num, Hlt.out, HX8.out, HF8.out⟩
          case measure => have := Hlt.out; simp [intOf]; omega
        · have hc' : ¬ (i : Int) < 3000 := by omega
          clear hc hlt hi hIv
          go_wp2_with fail
          go_meet
          exact ⟨L', st', HX.out, HF.out⟩
      · have hlt' : ¬ (i : Int) < (n2 : Int) := by omega
        clear hlt hi hIv
        go_wp2_with fail
        go_meet
        exact ⟨L', st', HX.out, HF.out⟩
  case rest =>
  obtain ⟨L', st', hx7, f7⟩ := hcut
  have hsp7 := HSp.out.fr f7 (fun b hb e => by have := (HSpb.out b hb).2; rcases e with e | e <;> simp [e] at this)
  have hy7 := HY6.out.fr f7 (fun e => by have := HXY.out; rcases e with e | e <;> simp [e] at this) (fun e => by have := HXY.out; rcases e with e | e <;> simp [e] at this)
  have f8 : Fr (fun _ => False) wc (wc.alloc (.cells #[.int .i64 0] 3)) := Fr.alloc (Fr.refl _ _) _
  have hat : (wc.alloc (.cells #[.int .i64 0] 3)).heap[wc.heap.size]? = some (.cells #[.int .i64 0] 3 (0, 0)) := by rw [heap_alloc_get]; simp
  have hsp8 := hsp7.fr f8 (fun _ _ h => h)
  have c7 := (cell_of hsp8.kc 0).trans (show _ = some (Value.int .i64 kn) from rfl)
  have c8 := (cell_of hsp8.tac 0).trans (show _ = some (Value.slice aa L.length ca) from rfl)
  have z7 := free_of hsp8.kc 0
  have hatb : w.heap.size < wc.heap.size ∧ ∀ b, spP w.heap.size (w.heap.size + 1) w3.heap.size (w3.heap.size + 1) w5.heap.size sb (.slice aa L.length ca) (.slice ab L.length cb) sv b → b ≠ wc.heap.size := ⟨hsp7.lt _ (.inl rfl), fun b hb e => by have := hsp7.lt b hb; omega⟩
  obtain ⟨q1, hq1⟩ : ∃ q1, q1 = L.length + 1 := ⟨_, rfl⟩
  have e1 : (L.length : Int) + 1 = (q1 : Int) := by omega
  obtain ⟨e2, e3, -⟩ := wrap_small (x := q1) (by have := HX6.out.few; omega)
  obtain ⟨kk, hkk, hkq⟩ : ∃ kk : Nat, kn % (q1 : Int) = (kk : Int) ∧ kk < q1 := ⟨(kn % (q1 : Int)).toNat, by have := Int.emod_nonneg kn (b := (q1 : Int)) (by omega); omega, by have := Int.emod_nonneg kn (b := (q1 : Int)) (by omega); have := Int.emod_lt_of_pos kn (b := (q1 : Int)) (by omega); omega⟩
  have HPk := Lib.hid (fun w0 => pick_ok kn (q1 : Int) w0 Hkn.out.1 Hkn.out.2 (by omega) (by have := HX6.out.few; omega))
  rw [hkk] at HPk
  have hsp9 := hsp8.setk HKB.out (kk : Int)
  have fs : Fr (fun b => b = w.heap.size) (wc.alloc (.cells #[.int .i64 0] 3)) ((wc.alloc (.cells #[.int .i64 0] 3)).setCell ⟨w.heap.size, 0, none⟩ (.int .i64 (kk : Int))) := Fr.setCell (F := fun b => b = w.heap.size) (p := ⟨w.heap.size, 0, none⟩) (Fr.refl _ _) (fun _ => rfl) _
  have hat9 := fs.get hat (fun e => by have := hatb.1; omega)
  have hy9 := (hy7.fr f8 (fun h => h) (fun h => h)).fr fs (fun e => by have := HYK.out; omega) (fun e => by have := HYK.out; omega)
  have c9 := (cell_of hsp9.fc 0).trans (show _ = some (allV sb) from rfl)
  have HYab := Lib.hid hy7.lt
  have F89 := Lib.hid ((f8.mono (G := fun b => b = w.heap.size) (fun _ _ h => h.elim)).trans fs (fun _ _ h => h))
  have HSp9 := Lib.hid hsp9; have HAt9 := Lib.hid hat9; have HY9 := Lib.hid hy9; have HAtb := Lib.hid hatb; have Hq1 := Lib.hid hq1; have Hkq := Lib.hid hkq; have F7 := Lib.hid f7
  clear hsp7 hy7 f8 hat hsp8 hatb hq1 hkk hkq hsp9 fs hat9 hy9 hx7 f7
  go_upto_block 2 with (refine (HPk.out _).mono ?_; rintro e w8 ⟨rfl, rfl⟩)
  change Code.wp _ _ _ _ ((wc.alloc (.cells #[.int .i64 0] 3)).setCell ⟨w.heap.size, 0, none⟩ (.int .i64 (kk : Int)))
  clear c7 c8 c9 z7 e1 e2 e3
  generalize hab : wc.heap.size = ab at HAt9 HAtb HYab ⊢
  generalize (wc.alloc (.cells #[.int .i64 0] 3)).setCell ⟨w.heap.size, 0, none⟩ (.int .i64 (kk : Int)) = w9 at HSp9 HAt9 HY9 F89 ⊢
  refine wp_cutD (fun ds' W' => ∃ D, ds' = [mark D] ∧ w9.heap.size ≤ D ∧ W'.heap[D]? = some (.deferred (some [])) ∧ Fr (fun b => b = ab) w9 W') ?rest ?first
  case first =>
    intro K' hK'
    go_wp2_with fail
    refine (wpIn_wide (n := 9)).1 ?_
    refine range_outer hro h19 (gf := 33) (lb := #[.pointer (some ⟨sb, 0, none⟩)]) rfl trivial (enters_of Try.func33 (by kernel_rfl) rfl)
      (all_stops Fence.wide (9 - 1) trivial hro (by omega) HSp9.out.seq (seqP sb sv) (fun _ h => h)) (fun b hb => HSp9.out.lt b (.inr (.inr (.inr (.inr (.inr (.inr (.inr hb)))))))) (Below.refl _ _) (fun _ => rfl)
      (fun pre W => W.heap[ab]? = some (.cells #[.int .i64 (pre.length : Int)] 3 (0, 0)) ∧ nrm pre <+: L ∧ Fr (fun b => b = ab) w9 W)
      (fun c pre W => (c = .ret ∧ ¬ nrm pre <+: L) ∨ (c = .exit 2 ∧ Fr (fun b => b = ab) w9 W))
      ?own ?ownx ⟨HAt9.out, List.nil_prefix, Fr.refl _ _⟩ ?a1 ?assign ?body ?done ?stop
    case own =>
      rintro s A B' row ⟨g1, g2, g3⟩ hg hr
      have f := grownBy.fr hg
      have hno : ∀ b, b < w9.heap.size → ¬ (row = some b) := fun b hb e => by have := (hr b e).1; omega
      exact ⟨f.get g1 (hno _ (lt_of_block HAt9.out)), g2, g3.trans f (fun i hi e => absurd e (hno i hi))⟩
    case ownx =>
      rintro c s A B' row h hg hr
      have f := grownBy.fr hg
      rcases h with h | ⟨h1, h2⟩
      · exact .inl h
      · exact .inr ⟨h1, h2.trans f (fun i hi e => by have := (hr i e).1; omega)⟩
    case assign =>
      intro l x W' K hK
      gi_wp2
      exact hK
    case body =>
      rintro l pre ⟨xi, xv⟩ W' hl hr ⟨g1, g2, g3⟩ hlt
      have hsp := HSp9.out.fr g3 (fun b hb e => HAtb.out.2 b hb e)
      obtain ⟨p, hp⟩ : ∃ p, p = pre.length := ⟨_, rfl⟩
      have hnx := nrm_next g2 hlt (xi, xv)
      obtain ⟨ga, rfl, q1a⟩ := rowa_cell' hsp.rowa hlt
      obtain ⟨gb, rfl, q1b⟩ := rowb_cell' hsp.rowb hlt
      obtain ⟨yi, hyi⟩ : ∃ yi, yi = (liAt L pre.length).1 := ⟨_, rfl⟩
      obtain ⟨yv, hyv⟩ : ∃ yv, yv = (liAt L pre.length).2 := ⟨_, rfl⟩
      obtain ⟨xw, hxw⟩ : ∃ xw, xw = idW xi := ⟨_, rfl⟩
      have hcv : IntKind.u64.wrap (xi : Int) = (xw : Int) := by rw [hxw]; exact idW_eq xi
      simp only at hnx
      rw [← hyi, ← hyv, ← hxw] at hnx
      rw [← hyi, ← hp] at q1a
      rw [← hyv, ← hp] at q1b
      rw [← hp] at g1
      have c0 := (cell_of g1 0).trans (show _ = some (Value.int .i64 (p : Int)) from rfl)
      have z0 := free_of g1 0
      have ck := (cell_of hsp.kc 0).trans (show _ = some (Value.int .i64 (kk : Int)) from rfl)
      have ca' := (cell_of hsp.tac 0).trans (show _ = some (Value.slice (some ⟨ga, 0, none⟩) L.length ca) from rfl)
      have cb' := (cell_of hsp.tbc 0).trans (show _ = some (Value.slice (some ⟨gb, 0, none⟩) L.length cb) from rfl)
      have cf' := (cell_of hsp.fc 0).trans (show _ = some (allV sb) from rfl)
      have cr := (cell_of hsp.rc 0).trans (show _ = some (Value.bool false) from rfl)
      have zr := free_of hsp.rc 0
      have hpl : (p : Int) < (L.length : Int) := by omega
      have hpl2 : ¬ (L.length : Int) ≤ (p : Int) := by omega
      have hpl3 : ¬ L.length ≤ p := by omega
      have hp0 : (0 : Int) ≤ (p : Int) := by omega
      have Hnx := Lib.hid hnx; have Hsp := Lib.hid hsp; have G1 := Lib.hid g1; have G3 := Lib.hid g3; have Hp := Lib.hid hp; have Hlt := Lib.hid hlt; have Hl := Lib.hid hl; have Hr := Lib.hid hr; have G2 := Lib.hid g2
      clear hnx hsp g1 g2 g3 hp hlt hl hr hyi hyv hxw
      obtain ⟨b1, hb1⟩ : ∃ b1, ((xw : Int) != (yi : Int)) = b1 := ⟨_, rfl⟩
      obtain ⟨b2, hb2⟩ : ∃ b2, (xv != yv) = b2 := ⟨_, rfl⟩
      have hm1 : b1 = false ↔ xw = yi := by rw [← hb1]; simp; omega
      have hm2 : b2 = false ↔ xv = yv := by rw [← hb2]; simp
      have Hm1 := Lib.hid hm1; have Hm2 := Lib.hid hm2
      clear hm1 hm2
      have hkf : KeepsFrom w9.heap.size W' (W'.setCell ⟨w.heap.size + 1, 0, none⟩ (.bool false)) := (KeepsOthers.setCell W' ⟨w.heap.size + 1, 0, none⟩ (.bool false)).from _
      have Hkf := Lib.hid hkf
      clear hkf
      cases b1 with
      | true =>
        have HN := Lib.hid (show ¬ nrm (pre ++ [(xi, xv)]) <+: L from fun h => by
          have := Hm1.out.2 (Hnx.out.1 h).1
          cases this)
        gi_wp2_with fail
        exact ⟨Hkf.out, .inl ⟨rfl, HN.out⟩⟩
      | false =>
        cases b2 with
        | true =>
          have HN := Lib.hid (show ¬ nrm (pre ++ [(xi, xv)]) <+: L from fun h => by
            have := Hm2.out.2 (Hnx.out.1 h).2
            cases this)
          gi_wp2_with fail
          exact ⟨Hkf.out, .inl ⟨rfl, HN.out⟩⟩
        | false =>
          have HN := Lib.hid (Hnx.out.2 ⟨Hm1.out.1 rfl, Hm2.out.1 rfl⟩)
          obtain ⟨p1, hp1⟩ : ∃ p1, p1 = p + 1 := ⟨_, rfl⟩
          have e1 : (p : Int) + 1 = (p1 : Int) := by omega
          obtain ⟨e2, e3, -⟩ := wrap_small (x := p1) (by have h1 := Hlt.out; have h2 := Hp.out; have h3 := HX2.out.few; omega)
          have hs1 : (W'.setCell ⟨ab, 0, none⟩ (.int .i64 (p1 : Int))).heap[ab]? = some (.cells #[.int .i64 ((pre ++ [(xi, xv)]).length : Int)] 3 (0, 0)) := by
            have e : ((pre ++ [(xi, xv)]).length : Int) = (p1 : Int) := by rw [List.length_append, List.length_singleton, ← Hp.out, ← hp1]
            rw [e]; exact setCell_blk (o := 0) G1.out _
          have fs : Fr (fun b => b = ab) W' (W'.setCell ⟨ab, 0, none⟩ (.int .i64 (p1 : Int))) := Fr.setCell (F := fun b => b = ab) (p := ⟨ab, 0, none⟩) (Fr.refl _ _) (fun _ => rfl) _
          have Hs1 := Lib.hid hs1; have Fs := Lib.hid fs; have Hp1 := Lib.hid hp1
          have hkf2 : KeepsFrom w9.heap.size W' (W'.setCell ⟨ab, 0, none⟩ (.int .i64 (p1 : Int))) := (KeepsOthers.setCell W' ⟨ab, 0, none⟩ (.int .i64 (p1 : Int))).from _
          have Hkf2 := Lib.hid hkf2
          clear hs1 fs hp1 hkf2
          by_cases h3 : p < 3
          · have h3' : (p : Int) < 3 := by omega
            clear h3
            have fi : Fr (fun _ => False) W' (W'.alloc (.cells #[.int .i64 0] 3)) := Fr.alloc (Fr.refl _ _) _
            have hib : (W'.alloc (.cells #[.int .i64 0] 3)).heap[W'.heap.size]? = some (.cells #[.int .i64 0] 3 (0, 0)) := by rw [heap_alloc_get]; simp
            have hlr : ∃ r, (W'.alloc (.cells #[.int .i64 0] 3)).heap[l]? = some (.loop r) := by
              obtain ⟨r, hr⟩ := Hr.out
              exact ⟨r, fi.get hr (fun h => h)⟩
            have hsi := Hsp.out.fr fi (fun _ _ h => h)
            have hibn : w9.heap.size ≤ W'.heap.size ∧ ab < W'.heap.size ∧ ∀ b, spP w.heap.size (w.heap.size + 1) w3.heap.size (w3.heap.size + 1) w5.heap.size sb (.slice (some ⟨ga, 0, none⟩) L.length ca) (.slice (some ⟨gb, 0, none⟩) L.length cb) sv b → b < W'.heap.size := ⟨G3.out.size, lt_of_block G1.out, Hsp.out.lt⟩
            have cfi := (cell_of hsi.fc 0).trans (show _ = some (allV sb) from rfl)
            have HIbn := Lib.hid hibn; have HIb := Lib.hid hib; have HLr := Lib.hid hlr; have HSi := Lib.hid hsi; have FI := Lib.hid fi
            clear fi hib hlr hsi hibn
            gi_wp2_with fail
            generalize hwi : W'.alloc (.cells #[.int .i64 0] 3) = wi at HIb HLr HSi FI ⊢
            generalize hibq : W'.heap.size = ib at HIb HIbn ⊢
            have HIbq := Lib.hid hibq
            clear hwi hibq c0 z0 ck ca' cb' cf' cr zr cfi
            refine range_inner rfl HLr.out (by omega) (gf := 33) (lb := #[.pointer (some ⟨sb, 0, none⟩)]) rfl trivial (enters_of Try.func33 (by kernel_rfl) rfl)
              (SeqStopsK.inRound l (all_stops Fence.wide (9 - 1 - 1 - 1) trivial hro (by omega) HSi.out.seq (seqP sb sv) (fun _ h => h))) (fun b hb => HSi.out.lt b (.inr (.inr (.inr (.inr (.inr (.inr (.inr hb)))))))) (Below.refl _ _) (fun _ => rfl)
              (fun pre2 W => W.heap[ib]? = some (.cells #[.int .i64 (pre2.length : Int)] 3 (0, 0)) ∧ Fr (fun b => b = ib) wi W)
              (fun _ _ _ => False)
              ?iown ?iownx ⟨HIb.out, Fr.refl _ _⟩ ?ia1 ?iassign ?ibody ?idone ?istop
            case iown =>
              rintro s A B' row ⟨g1, g3⟩ hg hr
              have f := grownBy.fr hg
              have hno : ∀ b, b < wi.heap.size → ¬ (row = some b) := fun b hb e => by have := (hr b e).1; omega
              exact ⟨f.get g1 (hno _ (lt_of_block HIb.out)), g3.trans f (fun i hi e => absurd e (hno i hi))⟩
            case iownx =>
              intro c s A B' row hs _ _
              exact hs
            case iassign =>
              intro l2 x W2 K hK
              gi_wp2
              exact hK
            case ibody =>
              rintro l2 pre2 x W2 ⟨i1, i2⟩ hlt2
              obtain ⟨r2, hr2⟩ : ∃ r2, r2 = pre2.length := ⟨_, rfl⟩
              obtain ⟨r3, hr3⟩ : ∃ r3, r3 = r2 + 1 := ⟨_, rfl⟩
              rw [← hr2] at i1
              have d0 := (cell_of i1 0).trans (show _ = some (Value.int .i64 (r2 : Int)) from rfl)
              have d1 := free_of i1 0
              have e4 : (r2 : Int) + 1 = (r3 : Int) := by omega
              obtain ⟨e5, e6, -⟩ := wrap_small (x := r3) (by have := HX2.out.few; omega)
              have hs3 : (W2.setCell ⟨ib, 0, none⟩ (.int .i64 (r3 : Int))).heap[ib]? = some (.cells #[.int .i64 ((pre2 ++ [x]).length : Int)] 3 (0, 0)) := by
                have e : ((pre2 ++ [x]).length : Int) = (r3 : Int) := by rw [List.length_append, List.length_singleton, ← hr2, ← hr3]
                rw [e]; exact setCell_blk (o := 0) i1 _
              have fs3 : Fr (fun b => b = ib) W2 (W2.setCell ⟨ib, 0, none⟩ (.int .i64 (r3 : Int))) := Fr.setCell (F := fun b => b = ib) (p := ⟨ib, 0, none⟩) (Fr.refl _ _) (fun _ => rfl) _
              have hkf3 : KeepsFrom wi.heap.size W2 (W2.setCell ⟨ib, 0, none⟩ (.int .i64 (r3 : Int))) := (KeepsOthers.setCell W2 ⟨ib, 0, none⟩ (.int .i64 (r3 : Int))).from _
              have Hs3 := Lib.hid hs3; have Fs3 := Lib.hid fs3; have Hkf3 := Lib.hid hkf3; have I2 := Lib.hid i2
              clear hs3 fs3 hkf3 i1 i2 hr2 hr3 hlt2
              gi_wp2_with fail
              exact ⟨Hkf3.out, KeepsB.of_fr Fs3.out (fun b hb e => by have := HIbn.out.2.2 b (.inr (.inr (.inr (.inr (.inr (.inr (.inr hb))))))); omega), Hs3.out, I2.out.trans Fs3.out (fun _ _ h => h)⟩
            case idone =>
              rintro ys W2 hys ⟨i1, i2⟩
              rw [hys] at i1
              have hWW : Fr (fun b => W'.heap.size ≤ b) W' W2 := (FI.out.mono (fun _ _ h => h.elim)).trans i2 (fun b _ e => by have := HIbq.out; omega)
              have hspo := Hsp.out.fr hWW (fun b hb e => by have := HIbn.out.2.2 b hb; have := HIbq.out; omega)
              have hatW : W2.heap[ab]? = some (.cells #[.int .i64 (p : Int)] 3 (0, 0)) := hWW.get G1.out (fun e => by have := HIbn.out.2.1; have := HIbq.out; omega)
              have d0 := (cell_of i1 0).trans (show _ = some (Value.int .i64 (L.length : Int)) from rfl)
              have d1 := (cell_of hspo.tac 0).trans (show _ = some (Value.slice (some ⟨ga, 0, none⟩) L.length ca) from rfl)
              have d2 := (cell_of hspo.kc 0).trans (show _ = some (Value.int .i64 (kk : Int)) from rfl)
              have d3 := (cell_of hatW 0).trans (show _ = some (Value.int .i64 (p : Int)) from rfl)
              have d4 := free_of hatW 0
              have fs5 : Fr (fun b => b = ab) W2 (W2.setCell ⟨ab, 0, none⟩ (.int .i64 (p1 : Int))) := Fr.setCell (F := fun b => b = ab) (p := ⟨ab, 0, none⟩) (Fr.refl _ _) (fun _ => rfl) _
              have hat5 : (W2.setCell ⟨ab, 0, none⟩ (.int .i64 (p1 : Int))).heap[ab]? = some (.cells #[.int .i64 ((pre ++ [(xi, xv)]).length : Int)] 3 (0, 0)) := by
                have e : ((pre ++ [(xi, xv)]).length : Int) = (p1 : Int) := by rw [List.length_append, List.length_singleton, ← Hp.out, Hp1.out]
                rw [e]; exact setCell_blk (o := 0) hatW _
              have hf5 : Fr (fun b => b = ab ∨ W'.heap.size ≤ b) W' (W2.setCell ⟨ab, 0, none⟩ (.int .i64 (p1 : Int))) := (hWW.mono (fun _ _ h => .inr h)).trans fs5 (fun b _ e => .inl e)
              have hkq5 : KeepsFrom w9.heap.size W' (W2.setCell ⟨ab, 0, none⟩ (.int .i64 (p1 : Int))) := ⟨hf5.size, fun k o _ ho hc => hf5.get ho (fun h => by
                rcases h with rfl | h
                · rw [G1.out] at ho; cases ho; simp [Obj.isCells] at hc
                · have := lt_of_block ho; omega)⟩
              have hkq6 : KeepsFrom w9.heap.size W' W2 := ⟨hWW.size, fun k o _ ho hc => hWW.get ho (fun h => by have := lt_of_block ho; omega)⟩
              have hF5 : Fr (fun b => b = ab) w9 (W2.setCell ⟨ab, 0, none⟩ (.int .i64 (p1 : Int))) := (G3.out.trans (hf5) (fun b hb h => by
                rcases h with h | h
                · exact h
                · have := G3.out.size; omega))
              have hF6 : Fr (fun b => b = ab) w9 W2 := G3.out.trans hWW (fun b hb h => by have := G3.out.size; omega)
              have hkb5 : KeepsB (seqP sb sv) W' (W2.setCell ⟨ab, 0, none⟩ (.int .i64 (p1 : Int))) := KeepsB.of_fr hf5 (fun b hb e => by
                have h1 := HAtb.out.2 b (.inr (.inr (.inr (.inr (.inr (.inr (.inr hb)))))))
                have h2 := HIbn.out.2.2 b (.inr (.inr (.inr (.inr (.inr (.inr (.inr hb)))))))
                have h3 := HIbq.out
                rcases e with e | e
                · exact h1 e
                · omega)
              have Hat5 := Lib.hid hat5; have Hkq5 := Lib.hid hkq5; have Hkq6 := Lib.hid hkq6; have HF5 := Lib.hid hF5; have HF6 := Lib.hid hF6; have Hkb5 := Lib.hid hkb5
              clear hWW hspo hatW fs5 hat5 hf5 hkq5 hkq6 hF5 hF6 hkb5 i1 i2 hys
              have bll : ((L.length : Int) != (L.length : Int)) = false := by simp
              by_cases hk : p = kk
              · have bk : ((p : Int) == (kk : Int)) = true := by rw [hk]; simp
                clear hk
                gi_wp2_with fail
                exact ⟨Hkq6.out, .inr ⟨rfl, HF6.out⟩⟩
              · have bk : ((p : Int) == (kk : Int)) = false := by simp; omega
                clear hk
                gi_wp2_with fail
                exact ⟨Hkq5.out, Hkb5.out, Hat5.out, HN.out, HF5.out⟩
            case istop =>
              rintro c pre2 W2 _ h
              exact h.elim
          · have h3' : ¬ (p : Int) < 3 := by omega
            by_cases hk : p = kk
            · have bk : ((p : Int) == (kk : Int)) = true := by rw [hk]; simp
              clear h3 hk
              gi_wp2_with fail
              exact ⟨KeepsFrom.refl _ _, .inr ⟨rfl, G3.out⟩⟩
            · have bk : ((p : Int) == (kk : Int)) = false := by simp; omega
              clear h3 hk
              gi_wp2_with fail
              exact ⟨Hkf2.out, KeepsB.of_fr Fs.out (fun b hb e => HAtb.out.2 b (.inr (.inr (.inr (.inr (.inr (.inr (.inr hb))))))) e), Hs1.out, HN.out, G3.out.trans Fs.out (fun _ _ h => h)⟩
    case done =>
      rintro D ys W' hD rfl ⟨g1, g2, g3⟩ hK
      exact hK' _ _ ⟨D, rfl, hD, hK, g3⟩
    case stop =>
      rintro D c pre W' hD hpre h hK
      rcases h with ⟨rfl, h⟩ | ⟨rfl, h⟩
      · exact absurd (by rw [nrm_small (fun x hx => HX2.out.ids x (hpre.subset hx))]; exact hpre) h
      · gi_wp2
        exact ⟨D, rfl, hD, hK, h⟩
  case rest =>
  rintro ds' W10 ⟨D, rfl, hD, hDk, f10⟩
  have hsp10 := HSp9.out.fr f10 (fun b hb e => HAtb.out.2 b hb e)
  have hy10 := HY9.out.fr f10 (fun e => by have := HYab.out; omega) (fun e => by have := HYab.out; omega)
  have HRD := Lib.hid (Nat.lt_of_lt_of_le (HSp9.out.lt _ (.inr (.inl rfl))) hD); have HYnb := Lib.hid hy10.lt
  have fA : Fr (fun _ => False) W10 (W10.alloc (.cells #[.int .i64 0] 3)) := Fr.alloc (Fr.refl _ _) _
  have hnb : (W10.alloc (.cells #[.int .i64 0] 3)).heap[W10.heap.size]? = some (.cells #[.int .i64 0] 3 (0, 0)) := by rw [heap_alloc_get]; simp
  have hspA := hsp10.fr fA (fun _ _ h => h)
  have hyA := hy10.fr fA (fun h => h) (fun h => h)
  have hDA := fA.get hDk (fun h => h)
  have cfA := (cell_of hspA.fc 0).trans (show _ = some (allV sb) from rfl)
  have HSpA := Lib.hid hspA; have HYA := Lib.hid hyA; have HDA := Lib.hid hDA; have HNb2 := Lib.hid hnb; have F10 := Lib.hid f10; have HD := Lib.hid hD; have FA2 := Lib.hid fA
  have HltA := Lib.hid hsp10.lt; have HDlt := Lib.hid (lt_of_block hDk)
  clear hsp10 hy10 fA hnb hspA hyA hDA hD hDk f10
  go_upto_block 6 with fail
  change Code.wp _ _ _ _ (W10.alloc (.cells #[.int .i64 0] 3))
  clear cfA
  generalize hnbq : W10.heap.size = nb at HNb2 HltA HDlt HYnb ⊢
  generalize W10.alloc (.cells #[.int .i64 0] 3) = wA at HSpA HYA HDA HNb2 FA2 ⊢
  refine wp_cutD (fun ds' W' => ∃ D2, ds' = [mark D2, mark D] ∧ wA.heap.size ≤ D2 ∧ W'.heap[D2]? = some (.deferred (some [])) ∧ W'.heap[nb]? = some (.cells #[.int .i64 (L.length : Int)] 3 (0, 0)) ∧ Fr (fun b => b = nb) wA W') ?rest2 ?first2
  case first2 =>
    intro K' hK'
    go_wp2_with fail
    refine (wpIn_wide (n := 9)).1 ?_
    refine range_outer hro h19 (gf := 33) (lb := #[.pointer (some ⟨sb, 0, none⟩)]) rfl trivial (enters_of Try.func33 (by kernel_rfl) rfl)
      (all_stops Fence.wide (9 - 1) trivial hro (by omega) HSpA.out.seq (seqP sb sv) (fun _ h => h)) (fun b hb => HSpA.out.lt b (.inr (.inr (.inr (.inr (.inr (.inr (.inr hb)))))))) (Below.refl _ _) (fun _ => rfl)
      (fun pre W => W.heap[nb]? = some (.cells #[.int .i64 (pre.length : Int)] 3 (0, 0)) ∧ Fr (fun b => b = nb) wA W)
      (fun _ _ _ => False)
      ?own2 ?ownx2 ⟨HNb2.out, Fr.refl _ _⟩ ?a12 ?assign2 ?body2 ?done2 ?stop2
    case own2 =>
      rintro s A B' row ⟨g1, g3⟩ hg hr
      have f := grownBy.fr hg
      have hno : ∀ b, b < wA.heap.size → ¬ (row = some b) := fun b hb e => by have := (hr b e).1; omega
      exact ⟨f.get g1 (hno _ (lt_of_block HNb2.out)), g3.trans f (fun i hi e => absurd e (hno i hi))⟩
    case ownx2 =>
      intro c s A B' row hs _ _
      exact hs
    case assign2 =>
      intro l2 x W2 K hK
      gi_wp2
      exact hK
    case body2 =>
      rintro l2 pre2 x W2 hl hr ⟨i1, i2⟩ hlt2
      obtain ⟨r2, hr2⟩ : ∃ r2, r2 = pre2.length := ⟨_, rfl⟩
      obtain ⟨r3, hr3⟩ : ∃ r3, r3 = r2 + 1 := ⟨_, rfl⟩
      rw [← hr2] at i1
      have d0 := (cell_of i1 0).trans (show _ = some (Value.int .i64 (r2 : Int)) from rfl)
      have d1 := free_of i1 0
      have e4 : (r2 : Int) + 1 = (r3 : Int) := by omega
      obtain ⟨e5, e6, -⟩ := wrap_small (x := r3) (by have := HX2.out.few; omega)
      have hs3 : (W2.setCell ⟨nb, 0, none⟩ (.int .i64 (r3 : Int))).heap[nb]? = some (.cells #[.int .i64 ((pre2 ++ [x]).length : Int)] 3 (0, 0)) := by
        have e : ((pre2 ++ [x]).length : Int) = (r3 : Int) := by rw [List.length_append, List.length_singleton, ← hr2, ← hr3]
        rw [e]; exact setCell_blk (o := 0) i1 _
      have fs3 : Fr (fun b => b = nb) W2 (W2.setCell ⟨nb, 0, none⟩ (.int .i64 (r3 : Int))) := Fr.setCell (F := fun b => b = nb) (p := ⟨nb, 0, none⟩) (Fr.refl _ _) (fun _ => rfl) _
      have hkf3 : KeepsFrom wA.heap.size W2 (W2.setCell ⟨nb, 0, none⟩ (.int .i64 (r3 : Int))) := (KeepsOthers.setCell W2 ⟨nb, 0, none⟩ (.int .i64 (r3 : Int))).from _
      have Hs3 := Lib.hid hs3; have Fs3 := Lib.hid fs3; have Hkf3 := Lib.hid hkf3; have I2 := Lib.hid i2
      clear hs3 fs3 hkf3 i1 i2 hr2 hr3 hlt2
      gi_wp2_with fail
      exact ⟨Hkf3.out, KeepsB.of_fr Fs3.out (fun b hb e => by have := HltA.out b (.inr (.inr (.inr (.inr (.inr (.inr (.inr hb))))))); omega), Hs3.out, I2.out.trans Fs3.out (fun _ _ h => h)⟩
    case done2 =>
      rintro D2 ys W2 hD2 hys ⟨i1, i2⟩ hK2
      rw [hys] at i1
      exact hK' _ _ ⟨D2, rfl, hD2, hK2, i1, i2⟩
    case stop2 =>
      rintro D2 c pre2 W2 _ _ h _
      exact h.elim
  case rest2 =>
  rintro ds' W11 ⟨D2, rfl, hD2, hDk2, hnb11, f11⟩
  have hsp11 := HSpA.out.fr f11 (fun b hb e => by have := HltA.out b hb; omega)
  have hy11 := HYA.out.fr f11 (fun e => by have := HYnb.out; omega) (fun e => by have := HYnb.out; omega)
  have HRD2 := Lib.hid (Nat.lt_of_lt_of_le (HSpA.out.lt _ (.inr (.inl rfl))) hD2)
  have hD11 := f11.get HDA.out (fun e => by have := HDlt.out; omega)
  have HTy := Lib.hid (told_at hy11)
  have HSp11 := Lib.hid hsp11; have HD11 := Lib.hid hD11; have HDk2 := Lib.hid hDk2; have HNb11 := Lib.hid hnb11; have HD2n := Lib.hid (show D ≠ D2 by have := HDlt.out; have := lt_of_block HNb2.out; omega)
  have F11 := Lib.hid f11
  clear hsp11 hy11 hD11 hDk2 hnb11 f11 hD2
  go_wp2_with fail
  refine HTy.out.mono ?_
  rintro e W12 ⟨vc, vd, rfl, rc, rd, -, -, -, f12⟩
  have hsp12 := HSp11.out.fr f12 (fun _ _ h => h)
  have d0 := (cell_of (f12.get HNb11.out (fun h => h)) 0).trans (show _ = some (Value.int .i64 (L.length : Int)) from rfl)
  have d1 := (cell_of hsp12.tac 0).trans (show _ = some (Value.slice aa L.length ca) from rfl)
  have HS1 := Lib.hid (same_limbs rc hsp12.rowa (by have := HX2.out.few; omega))
  have HRd := Lib.hid rd; have HSp12 := Lib.hid hsp12
  have HD12 := Lib.hid (f12.get HD11.out (fun h => h)); have HDk12 := Lib.hid (f12.get HDk2.out (fun h => h))
  have bll : ((L.length : Int) == (L.length : Int)) = true := by simp
  have F12 := Lib.hid f12
  clear rc rd hsp12 f12
  go_wp2_with fail
  refine HS1.out.mono ?_
  rintro e W13 ⟨rfl, f13⟩
  have hsp13 := HSp12.out.fr f13 (fun _ _ h => h)
  have d2 := (cell_of hsp13.tbc 0).trans rfl
  have HS2 := Lib.hid (same_ints (Row.fr HRd.out f13 (fun _ _ h => h)) hsp13.rowb (by have := HX2.out.few; omega))
  have HSp13 := Lib.hid hsp13
  have HD13 := Lib.hid (f13.get HD12.out (fun h => h)); have HDk13 := Lib.hid (f13.get HDk12.out (fun h => h))
  have F13 := Lib.hid f13
  clear hsp13 f13
  go_wp2_with fail
  refine HS2.out.mono ?_
  rintro e W14 ⟨rfl, f14⟩
  have HSp14 := Lib.hid (HSp13.out.fr f14 (fun _ _ h => h))
  have HD14 := Lib.hid (f14.get HD13.out (fun h => h)); have HDk14 := Lib.hid (f14.get HDk13.out (fun h => h))
  have F14 := Lib.hid f14
  clear f14
  go_wp2_with fail
  refine (awake_ok _).mono ?_
  rintro e W15 ⟨rfl, f15⟩
  have hsp15 := HSp14.out.fr f15 (fun _ _ h => h)
  have hD15 := f15.get HD14.out (fun h => h)
  have hDk15 := f15.get HDk14.out (fun h => h)
  have d5 := (cell_of hsp15.rc 0).trans (show _ = some (Value.bool false) from rfl)
  have z5 := free_of hsp15.rc 0
  have HSp15 := Lib.hid hsp15; have HD15 := Lib.hid hD15; have HDk15 := Lib.hid hDk15
  have F15 := Lib.hid f15
  clear hsp15 hD15 hDk15 f15
  go_wp2_with fail
  have hrt : (W15.setCell ⟨w.heap.size + 1, 0, none⟩ (.bool true)).heap[w.heap.size + 1]? = some (.cells #[.bool true] 4 (0, 0)) := setCell_blk (o := 0) HSp15.out.rc _
  have fz : Fr (fun b => b = w.heap.size + 1) W15 (W15.setCell ⟨w.heap.size + 1, 0, none⟩ (.bool true)) := Fr.setCell (F := fun b => b = w.heap.size + 1) (p := ⟨w.heap.size + 1, 0, none⟩) (Fr.refl _ _) (fun _ => rfl) _
  refine leaves_marks [D2, D] _ (((MarksOk.nil _).cons (fz.get HD15.out (fun e => by have := HRD.out; omega)) (by simp)).cons (fz.get HDk15.out (fun e => by have := HRD2.out; omega)) (by simp; exact fun e => HD2n.out e.symm)) ?_
  intro wl fl
  have hwl := fl.get hrt (fun e => by have := HRD.out; have := HRD2.out; simp at e; omega)
  have hcl := (cell_of hwl 0).trans (show _ = some (Value.bool true) from rfl)
  refine ⟨.bool true, ?_, rfl, ?_⟩
  · simp [results, Try.f3, go_sem, hcl]
  · have y := HYK.out; have r1 := HRD.out; have r2 := HRD2.out; have d := HDlt.out; have a := HAtb.out.1
    have no : ∀ {A B : World}, Fr (fun _ => False) A B → Fr (fun b => w.heap.size ≤ b) A B := fun h => h.mono (fun _ _ h => h.elim)
    have t1 := (no F06.out).trans F7.out (fun b _ e => by rcases e with rfl | rfl <;> omega)
    have t2 := t1.trans F89.out (fun b _ e => by omega)
    have t3 := t2.trans F10.out (fun b _ e => by omega)
    have t4 := t3.trans (no FA2.out) (fun _ _ h => h)
    have t5 := t4.trans F11.out (fun b _ e => by omega)
    have t6 := (((t5.trans (no F12.out) (fun _ _ h => h)).trans (no F13.out) (fun _ _ h => h)).trans (no F14.out) (fun _ _ h => h)).trans (no F15.out) (fun _ _ h => h)
    have t7 := t6.trans fz (fun b _ e => by omega)
    have t8 := t7.trans fl (fun b _ e => by simp at e; omega)
    exact Fr.toNew t8
end Go.Proofs.Ytiebcmlfppepaaa.Ix
