/- Texts put together: The index layer: anew, The index layer: Put, A book: put, A book: drop, A book: hold, A book: tick, A book: reseat, Which records may be, Which records may be: Check, A book: Apply, The index layer: New, Regions that draw their order, in a round of a range over a function, inside the wide fence: what is shown outside holds there too. Condition: no defer statement in the region; the body's way out is never 'outgrown', The marks that ranges over functions leave among the deferred calls; a cut that lets them grow. Plain rules, The index layer: All, and what it hands back, as a sequence, The index. No condition. -/
import Derived.Laws.Tables
import Derived.OrdersIn
import Derived.OrdersHeld
import Derived.Deep.Quiet
import Derived.Deep.RegionHeld3
import Derived.Deep.QuietTactic
import Derived.BigQuiet
import Derived.RangeFuncFrom
import Derived.RangeFuncWrites
import Derived.RangeFuncCalls
import Derived.Lib.Hide
import Derived.KernelRfl
import Derived.RangeFuncLeaves
import Derived.RangeFuncRecord
import Derived.Test.YtebdcahjlcgonaaGreatM1
import Derived.Test.YtebdcahjlcgonaaGreatM2
namespace Go.Proofs.YtebdcahjlcgonaaGreat.Ix
open Go.RowKit
/-- Where the laying anew stands. -/
structure AnewAt (w : World) (bh g b N most st : Nat) (S : List Sl) (L : List (Nat × Int)) (k : Nat) (wr : World) : Prop where
  head : HeadAt wr bh g N most L.length 0 st
  slots : SlotsAt wr g S
  buf : BufAt wr b (L.map fun x => (1, x))
  anew : Anew (home N) S L N k
  fr : Fr (fun i => i = bh ∨ i = g) w wr
set_option maxRecDepth 100000 in
set_option maxHeartbeats 2000000 in
theorem anew_ok {w : World} {bh g N most gr st : Nat} {S : List Sl} {L : List (Nat × Int)} (H : HeadAt w bh g N most L.length gr st) (HS : SlotsAt w g S) (hN : S.length = N) (M : Maps S L) (hids : ∀ x ∈ L, x.1 < 4294967296) (hne : bh ≠ g) (hL : L.length < N) (h8 : N ≤ 8192) :
    Calls Tryz.prog 120 #[.pointer (some ⟨bh, 0, none⟩)] w fun e w' => e = .returned (.tuple #[]) ∧ ∃ S', HeadAt w' bh g N most L.length 0 st ∧ SlotsAt w' g S' ∧ Anew (home N) S' L N L.length ∧ Fr (fun i => i = bh ∨ i = g) w w' := by
  obtain ⟨m, hm⟩ : ∃ m, m = L.length := ⟨_, rfl⟩
  have HI := Lib.hid (items_ok H HS hN M (by omega) h8)
  rw [← hm] at HI
  have HH := Lib.hid H; have HS := Lib.hid HS; have HN := Lib.hid hN; have HU := Lib.hid M.up; have Hids := Lib.hid hids; have Hne := Lib.hid hne; have HL := Lib.hid hL; have H8 := Lib.hid h8; have Hm := Lib.hid hm
  clear H hN M hids hne hL h8 hm
  go_enter Tryz.func120, Tryz.ntmps120
  go_wp2_with fail
  refine HI.out.mono ?_
  rintro e w1 ⟨b, cap, rfl, hb, hf, hnew⟩
  have hh := HH.out.fr hf (fun h => h)
  have hs := HS.out.fr hf (fun h => h)
  rw [← Hm.out] at hh
  obtain ⟨c0, -, -, -, c4⟩ := hh.cells
  have hbb : b ≠ bh ∧ b ≠ g := by have := HH.out.lt; have := HS.out.lt; omega
  have hcl := fun ty => run_clear3 w1 ty g 0 N N (by have := HL.out; omega) (fun j hj => by rw [Nat.zero_add, cell_of hs]; simp only [List.getElem?_toArray]; rw [List.getElem?_eq_getElem (by rw [flat3_length, HN.out]; exact hj)]; rfl) (fun j _ => hs.free _)
  have hs2 : SlotsAt (w1.setCells g 0 (flat3 (List.replicate N (0, 0, 0)))) g (List.replicate N (0, 0, 0)) := by
    have := setCells_blk (flat3 (List.replicate N (0, 0, 0))) [] (flat3 S) [] 0 w1 g 200 (by rw [List.nil_append, List.append_nil]; exact hs) rfl (by rw [flat3_length, flat3_length, List.length_replicate, HN.out])
    rw [List.nil_append, List.append_nil] at this
    exact this
  have hf2 : Fr (fun i => i = g) w1 (w1.setCells g 0 (flat3 (List.replicate N (0, 0, 0)))) := setCells_fr _ _ _ _
  have hh2 := hh.fr hf2 Hne.out
  have hb2 := hb.fr hf2 hbb.2
  have hf3 : Fr (fun i => i = bh ∨ i = g) w (w1.setCells g 0 (flat3 (List.replicate N (0, 0, 0)))) := (hf.mono (G := fun i => i = bh ∨ i = g) (fun _ _ h => h.elim)).trans hf2 (fun _ _ h => .inr h)
  have HS2 := Lib.hid hs2; have HF3 := Lib.hid hf3; have HH2 := Lib.hid hh2; have HB2 := Lib.hid hb2; have Hbb := Lib.hid hbb
  clear hh hs hb hf hnew hs2 hf2 hf3 hh2 hb2 hbb
  go_upto_region 3 with fail
  clear hcl c0 c4
  generalize w1.setCells g 0 (flat3 (List.replicate N (0, 0, 0))) = w2 at HS2 HF3 HH2 HB2 ⊢
  obtain ⟨c0, -, -, c3, c4⟩ := HH2.out.cells
  have z3 := HH2.out.free 3
  have hh3 := HH2.out.graves 0
  simp only [Int.natCast_zero] at hh3
  have hf4 : Fr (fun i => i = bh) w2 (w2.setCell ⟨bh, 3, none⟩ (.int .i64 0)) := Fr.setCell (F := fun i => i = bh) (p := ⟨bh, 3, none⟩) (Fr.refl _ w2) (fun _ => rfl) _
  have hst : AnewAt w bh g b N most st (List.replicate N (0, 0, 0)) L 0 (w2.setCell ⟨bh, 3, none⟩ (.int .i64 0)) := ⟨by rw [← Hm.out]; exact hh3, HS2.out.fr hf4 (fun e => Hne.out e.symm), HB2.out.fr hf4 Hbb.out.1, Anew.start _ _ _, HF3.out.trans hf4 (fun _ _ h => .inl h)⟩
  have HST := Lib.hid hst
  clear hh3 hf4 hst HS2 HF3 HH2 HB2
  go_upto_block 0 with fail
  clear c0 c3 c4 z3
  generalize w2.setCell ⟨bh, 3, none⟩ (.int .i64 0) = w3 at HST ⊢
  go_cut [23] (fun _ wx => ∃ S' st', AnewAt w bh g b N most st' S' L L.length wx)
  case first =>
    go_wp2_with fail
    go_loopw [23] (fun s23 wr => ∃ (k : Nat) (S' : List Sl) (st' : Nat), s23 = .int .i64 (k : Int) ∧ k ≤ m ∧ AnewAt w bh g b N most st' S' L k wr) (fun s23 _ => m - (intOf s23).toNat)
    case atStart => exact ⟨0, _, st, rfl, Nat.zero_le _, HST.out⟩
    case round =>
      obtain ⟨k, S', st', rfl, hk, hs⟩ := hrel
      have HA := Lib.hid hs
      clear hs
      by_cases hlt : k < m
      · have hlt' : (k : Int) < (m : Int) := by omega
        have k0 : (0 : Int) ≤ (k : Int) := by omega
        have hkL : k < L.length := by rw [← Hm.out]; exact hlt
        obtain ⟨d0, d1, d2⟩ := HA.out.buf.cells (p := k) (by rw [List.length_map]; exact hkL)
        have hx : slAt (L.map fun x => (1, x)) k = (1, L[k].1, L[k].2) := by simp [slAt, hkL]
        rw [hx] at d0 d1 d2
        simp only at d0 d1 d2
        obtain ⟨id, hid⟩ : ∃ id, id = L[k].1 := ⟨_, rfl⟩
        obtain ⟨v, hv⟩ : ∃ v, v = L[k].2 := ⟨_, rfl⟩
        rw [← hid] at d1
        rw [← hv] at d2
        have e0 : ((1 : Nat) : Int) = 1 := rfl
        rw [e0] at d0
        have Hid := Lib.hid hid; have Hv := Lib.hid hv; have Hlt := Lib.hid hlt
        have HidL := Lib.hid (show id < 4294967296 by rw [hid]; exact Hids.out _ (List.getElem_mem hkL))
        obtain ⟨k1, hk1⟩ : ∃ k1, k1 = k + 1 := ⟨_, rfl⟩
        have e1 : (k : Int) + 1 = (k1 : Int) := by omega
        obtain ⟨e2, e3, -⟩ := wrap_small (x := k1) (by have := H8.out; have := HL.out; omega)
        have HK1 := Lib.hid hk1
        clear hx hid hv hlt hk hk1 e0
        go_upto_region 7 with fail
        clear d0 d1 d2
        have hw4 : (wr.alloc (.cells #[.int .u8 1, .int .u32 (id : Int), .int .i64 v] 200)).heap[wr.heap.size]? = some (.cells #[.int .u8 1, .int .u32 (id : Int), .int .i64 v] 200 (0, 0)) := by rw [heap_alloc_get]; simp
        have hf4 : Fr (fun _ => False) wr (wr.alloc (.cells #[.int .u8 1, .int .u32 (id : Int), .int .i64 v] 200)) := Fr.alloc (Fr.refl _ _) _
        have hlb : wr.heap.size ≠ bh ∧ wr.heap.size ≠ g ∧ wr.heap.size ≠ b := by have := HA.out.head.lt; have := HA.out.slots.lt; have := HA.out.buf.lt; omega
        have hso : w.heap.size ≤ wr.heap.size := HA.out.fr.size
        generalize wr.alloc (.cells #[.int .u8 1, .int .u32 (id : Int), .int .i64 v] 200) = w4 at hw4 hf4 ⊢
        generalize wr.heap.size = lb at hw4 hlb hso ⊢
        have HA4 := Lib.hid (show AnewAt w bh g b N most st' S' L k w4 from ⟨HA.out.head.fr hf4 (fun h => h), HA.out.slots.fr hf4 (fun h => h), HA.out.buf.fr hf4 (fun h => h), HA.out.anew, HA.out.fr.trans hf4 (fun _ _ h => h.elim)⟩)
        have l1 := (cell_of hw4 1).trans (show _ = some (Value.int .u32 (id : Int)) from rfl)
        have HW4 := Lib.hid hw4; have Hlb := Lib.hid hlb
        clear hw4 hf4 hlb hso
        have hkN : k < N := by have := Hlt.out; have := HL.out; have := Hm.out; omega
        have HFd := Lib.hid (find_ok HA4.out.head HA4.out.slots HA4.out.anew.len HA4.out.anew.good (HA4.out.anew.gap hkN) Hne.out HidL.out H8.out)
        rw [← Hm.out] at HFd
        clear hkN
        go_wp2_with fail
        refine HFd.out.mono ?_
        rintro e w5 ⟨st5, -, -, hh5, hf5, hd⟩
        rcases hd with ⟨p, rfl, hp, hs⟩ | ⟨p, rfl, hpl, hab⟩
        · exact absurd (HA4.out.anew.not_there HU.out hkL (by rw [HA4.out.anew.len]; exact hp) (by rw [← Hid.out]; exact hs)) (fun h => h)
        have hpS : p < S'.length := hpl.1
        have hpN : p < N := by rw [← HA4.out.anew.len]; exact hpS
        have hpn : (p : Int) < (N : Int) := by omega
        have hp0 : (0 : Int) ≤ (p : Int) := by omega
        have c0 := hh5.cells.1
        have hs5 := HA4.out.slots.fr hf5 (fun e => Hne.out e.symm)
        obtain ⟨g0, g1, g2⟩ := hs5.cells hpS
        have z0 := hs5.free (p * 3); have z1 := hs5.free (p * 3 + 1); have z2 := hs5.free (p * 3 + 2)
        have hw5 := hf5.get HW4.out Hlb.out.1
        have l0 := (cell_of hw5 0).trans (show _ = some (Value.int .u8 1) from rfl)
        have l1 := (cell_of hw5 1).trans (show _ = some (Value.int .u32 (id : Int)) from rfl)
        have l2 := (cell_of hw5 2).trans (show _ = some (Value.int .i64 v) from rfl)
        have hs6 : SlotsAt (((w5.setCell ⟨g, p * 3, none⟩ (.int .u8 1)).setCell ⟨g, p * 3 + 1, none⟩ (.int .u32 (id : Int))).setCell ⟨g, p * 3 + 2, none⟩ (.int .i64 v)) g (S'.set p (1, id, v)) := hs5.set hpS (1, id, v)
        have hf6 := set3_fr w5 g p (.int .u8 1) (.int .u32 (id : Int)) (.int .i64 v)
        have ha6 : Anew (home N) (S'.set p (1, id, v)) L N (k + 1) := by
          rw [Hid.out, Hv.out]
          exact HA4.out.anew.more HU.out hkL (by rw [← Hid.out]; exact hpl) (by rw [← Hid.out]; exact hab)
        have HA6 := Lib.hid (show AnewAt w bh g b N most st5 (S'.set p (1, id, v)) L (k + 1) _ from ⟨by rw [← Hm.out]; exact hh5.fr hf6 Hne.out, hs6, (HA4.out.buf.fr hf5 Hbb.out.1).fr hf6 Hbb.out.2, ha6, (HA4.out.fr.trans hf5 (fun _ _ h => .inl h)).trans hf6 (fun _ _ h => .inr h)⟩)
        clear hh5 hf5 hpl hab hpS hpN hs5 hw5 hs6 hf6 ha6
        go_upto_region 8 with fail
        go_still_tail 7, (by kernel_rfl)
        go_wp2_with fail
        go_roundw
        case rel => exact ⟨k1, _, _, rfl, by have := HK1.out; have := Hlt.out; omega, by rw [HK1.out]; exact ⟨HA6.out.head, HA6.out.slots, HA6.out.buf, HA6.out.anew, HA6.out.fr.drew⟩⟩
        case measure => have := HK1.out; have := Hlt.out; simp [intOf]; omega
      · obtain rfl : k = m := by omega
        clear hlt hk
        go_wp2_with fail
        go_meet
        exact ⟨_, _, by rw [← Hm.out]; exact HA.out⟩
  case rest =>
  obtain ⟨S', st', hs⟩ := hcut
  obtain ⟨-, -, -, -, c4⟩ := hs.head.cells
  have z4 := hs.head.free 4
  have hf5 : Fr (fun i => i = bh) wc (wc.setCell ⟨bh, 4, none⟩ (.int .i64 (st : Int))) := Fr.setCell (F := fun i => i = bh) (p := ⟨bh, 4, none⟩) (Fr.refl _ wc) (fun _ => rfl) _
  have HR := Lib.hid (show HeadAt (wc.setCell ⟨bh, 4, none⟩ (.int .i64 (st : Int))) bh g N most L.length 0 st ∧ SlotsAt (wc.setCell ⟨bh, 4, none⟩ (.int .i64 (st : Int))) g S' ∧ Anew (home N) S' L N L.length ∧ Fr (fun i => i = bh ∨ i = g) w (wc.setCell ⟨bh, 4, none⟩ (.int .i64 (st : Int))) from ⟨hs.head.steps st, hs.slots.fr hf5 (fun e => Hne.out e.symm), hs.anew, hs.fr.trans hf5 (fun _ _ h => .inl h)⟩)
  clear hs hf5
  go_wp2_with fail
  go_end0
  exact ⟨rfl, S', HR.out⟩
end Go.Proofs.YtebdcahjlcgonaaGreat.Ix
namespace Go.Proofs.YtebdcahjlcgonaaGreat.Ix
open Go.RowKit
/-- What Put answers. -/
def putE (L : List (Nat × Int)) (most id : Nat) : Nat := if (look L id).isSome then 7 else if L.length = most then 6 else 0
/-- What is held behind a Put. -/
def putL (L : List (Nat × Int)) (most id : Nat) (v : Int) : List (Nat × Int) := if putE L most id = 0 then ins L id v else L
theorem mem_ins {L : List (Nat × Int)} {id : Nat} {v : Int} {x : Nat × Int} (h : x ∈ ins L id v) : x = (id, v) ∨ x ∈ L := by
  unfold ins at h
  rcases List.mem_append.1 h with h | h
  · exact .inr (List.mem_filter.1 h).1
  · rcases List.mem_cons.1 h with h | h
    · exact .inl h
    · exact .inr (List.mem_filter.1 h).1
theorem Raw.drew {w : World} {bh g N most : Nat} {S : List Sl} {L : List (Nat × Int)} {st : Nat} (h : Raw w bh g N most S L st) : Raw w.drew bh g N most S L st := ⟨h.head, h.slots, h.len, h.good, h.maps, h.ids, h.ne, h.lo, h.one, h.hi⟩
/-- Graves that are left when a place is taken. -/
def grL (S : List Sl) (p : Nat) : Nat := if (slAt S p).1 = 2 then graves S - 1 else graves S
theorem grL_ok {S : List Sl} {p id : Nat} {v : Int} (hp : p < S.length) : graves (S.set p (1, id, v)) = grL S p ∧ ((slAt S p).1 = 2 → 1 ≤ graves S) := by
  have := graves_set hp (1, id, v)
  rw [if_neg (show ¬ (1 = 2) by omega)] at this
  unfold grL
  by_cases h : (slAt S p).1 = 2
  · rw [if_pos h] at this; rw [if_pos h]; exact ⟨by omega, fun _ => by omega⟩
  · rw [if_neg h] at this; rw [if_neg h]; exact ⟨by omega, fun e => absurd e h⟩
set_option maxRecDepth 100000 in
set_option maxHeartbeats 2000000 in
theorem put_ok {w : World} {bh g N most st : Nat} {L : List (Nat × Int)} (h : IxAt w bh g N most L st) {id : Nat} (hid : id < 4294967296) (v : Int) :
    Calls Tryz.prog 88 #[.pointer (some ⟨bh, 0, none⟩), .int .u32 (id : Int), .int .i64 v] w fun e w' => ∃ st', 1 ≤ st' ∧ e = .returned (.int .i64 (putE L most id : Int)) ∧ IxAt w' bh g N most (putL L most id v) st' ∧ Fr (fun b => b = bh ∨ b = g) w w' := by
  obtain ⟨S, hr, hl1, hl2, hl3⟩ := h
  have HF := Lib.hid (find_raw hr (load_lt hr.lo hr.one hl1) hid)
  have H := Lib.hid hr.head; have HL := Lib.hid hl1; have HL2 := Lib.hid hl2; have Hid := Lib.hid hid
  have hN8 := hr.hi
  have hlo := hr.lo
  obtain ⟨q, hq⟩ : ∃ q, q = L.length := ⟨_, rfl⟩
  have hq6 : q ≤ 8192 := by omega
  have HQ := Lib.hid hq; have HQ6 := Lib.hid hq6; have HN8 := Lib.hid hN8; have Hlo := Lib.hid hlo
  clear hr hl1 hl2 hl3 hid hq hlo hN8 hq6
  go_enter Tryz.func88, Tryz.ntmps88
  go_wp2_with fail
  refine (made_ok H.out).mono ?_
  rintro e w1 ⟨rfl, rfl⟩
  go_wp2_with fail
  refine HF.out.mono ?_
  rintro e w1 ⟨st', h1, h2, hr, hf, hd⟩
  rcases hd with ⟨p, rfl, hp, hs⟩ | ⟨p, rfl, hpl, ha⟩
  · have hlk := hr.maps.found (by rw [hr.len]; exact hp) hs
    have HR := Lib.hid hr; have Hf := Lib.hid hf; have HK := Lib.hid hlk; have HS := Lib.hid (And.intro h1 h2)
    clear hr hf hlk h1 h2 hs hp
    go_wp2_with fail
    go_ret
    have e7 : putE L most id = 7 := by unfold putE; rw [HK.out]; rfl
    have eL : putL L most id v = L := by unfold putL; rw [e7]; rfl
    exact ⟨st', HS.out.1, by rw [e7]; rfl, by rw [eL]; exact ⟨S, HR.out, HL.out, HL2.out, HS.out.2⟩, Hf.out.mono (fun _ _ h => .inl h)⟩
  · have hlk := hr.maps.absent ha
    have hhd := hr.head
    rw [← HQ.out] at hhd
    obtain ⟨c0, c1, c2, -, -⟩ := hhd.cells
    have HR := Lib.hid hr; have Hf := Lib.hid hf; have HK := Lib.hid hlk; have HS := Lib.hid (And.intro h1 h2); have Hpl := Lib.hid hpl; have Ha := Lib.hid ha; have Hhd := Lib.hid hhd
    clear hr hf hlk h1 h2 ha hpl hhd
    by_cases hqm : q = most
    · have hb : ((q : Int) == (most : Int)) = true := by rw [hqm]; simp
      have Hqm := Lib.hid hqm
      clear hqm
      go_upto_region 6 with fail
      go_still (by kernel_rfl)
      go_wp2_with fail
      go_ret
      have e6 : putE L most id = 6 := by unfold putE; rw [HK.out, ← HQ.out, Hqm.out, if_neg (by simp), if_pos rfl]
      have eL : putL L most id v = L := by unfold putL; rw [e6]; rfl
      exact ⟨st', HS.out.1, by rw [e6]; rfl, by rw [eL]; exact ⟨S, HR.out.drew, HL.out, HL2.out, HS.out.2⟩, (Hf.out.mono (G := fun b => b = bh ∨ b = g) (fun _ _ h => .inl h)).drew⟩
    · have hb : ((q : Int) == (most : Int)) = false := by simp; omega
      have hqm2 : q + 1 ≤ most := by have := HL2.out; have := HQ.out; omega
      have Hqm := Lib.hid hqm2
      clear hqm hqm2
      have hp' : p < S.length := Hpl.out.1
      have hpN : p < N := by rw [← HR.out.len]; exact hp'
      have hpl : (p : Int) < (N : Int) := by omega
      have hp0 : (0 : Int) ≤ (p : Int) := by omega
      obtain ⟨k0, k1, k2⟩ := HR.out.slots.cells hp'
      obtain ⟨sa, hsa⟩ : ∃ sa, sa = (slAt S p).1 := ⟨_, rfl⟩
      rw [← hsa] at k0
      obtain ⟨-, hgr1⟩ := grL_ok (id := id) (v := v) hp'
      have HgL := Lib.hid (show graves S ≤ 8192 from Nat.le_trans (graves_le S) (by rw [HR.out.len]; exact HN8.out))
      have Hsa := Lib.hid hsa; have Hgr1 := Lib.hid hgr1; have Hp := Lib.hid hp'
      clear hsa hgr1 hp' hpN
      go_upto_region 6 with fail
      go_still (by kernel_rfl)
      go_upto_if 38 with fail
      have hh2 : HeadAt w1.drew bh g N most q (graves S) st' := Hhd.out
      have hs2 : SlotsAt w1.drew g S := HR.out.slots
      have hf2 : Fr (fun b => b = bh ∨ b = g) w w1.drew := (Hf.out.mono (G := fun b => b = bh ∨ b = g) (fun _ _ h => .inl h)).drew
      clear c0 c1 c2 k0 k1 k2 hb
      generalize w1.drew = w2 at hh2 hs2 hf2 ⊢
      obtain ⟨c0, -, c2, c3, -⟩ := hh2.cells
      have z3 := hh2.free 3
      have HH2 := Lib.hid hh2; have HS2 := Lib.hid hs2; have HF2 := Lib.hid hf2
      clear hh2 hs2 hf2
      go_cut [] (fun wx => HeadAt wx bh g N most q (grL S p) st' ∧ SlotsAt wx g S ∧ Fr (fun b => b = bh ∨ b = g) w wx)
      case first =>
        by_cases hs : sa = 2
        · subst hs
          obtain ⟨gr1, hgr1⟩ : ∃ gr1, graves S = gr1 + 1 := ⟨graves S - 1, by have := Hgr1.out Hsa.out.symm; omega⟩
          rw [hgr1] at c3
          have e1 : ((gr1 + 1 : Nat) : Int) - 1 = (gr1 : Int) := by omega
          obtain ⟨e2, e3, -⟩ := wrap_small (x := gr1) (by have := HgL.out; omega)
          have e4 : grL S p = gr1 := by unfold grL; rw [if_pos Hsa.out.symm, hgr1]; rfl
          have hf3 : Fr (fun b => b = bh) w2 (w2.setCell ⟨bh, 3, none⟩ (.int .i64 (gr1 : Int))) := Fr.setCell (F := fun b => b = bh) (p := ⟨bh, 3, none⟩) (Fr.refl _ w2) (fun _ => rfl) _
          have HX := Lib.hid (show HeadAt (w2.setCell ⟨bh, 3, none⟩ (.int .i64 (gr1 : Int))) bh g N most q (grL S p) st' ∧ SlotsAt (w2.setCell ⟨bh, 3, none⟩ (.int .i64 (gr1 : Int))) g S ∧ Fr (fun b => b = bh ∨ b = g) w (w2.setCell ⟨bh, 3, none⟩ (.int .i64 (gr1 : Int))) from ⟨by rw [e4]; exact HH2.out.graves gr1, HS2.out.fr hf3 (fun e => HR.out.ne e.symm), HF2.out.trans hf3 (fun _ _ h => .inl h)⟩)
          clear hgr1 e4 hf3
          go_wp2_with fail
          go_meet
          exact HX.out
        · have hb : ((sa : Int) == 2) = false := by simp; omega
          have e4 : grL S p = graves S := by unfold grL; rw [if_neg (by rw [← Hsa.out]; exact hs)]
          have HX := Lib.hid e4
          clear hs e4
          go_wp2_with fail
          go_meet
          exact ⟨by rw [HX.out]; exact HH2.out, HS2.out, HF2.out⟩
      case rest =>
      obtain ⟨hh3, hs3, hf3⟩ := hcut
      clear c0 c2 c3 z3
      obtain ⟨hgl, -⟩ := grL_ok (id := id) (v := v) Hp.out
      obtain ⟨gr, hgr⟩ : ∃ gr, gr = grL S p := ⟨_, rfl⟩
      rw [← hgr] at hh3 hgl
      have hg8 : gr ≤ 8192 := by rw [← hgl]; exact Nat.le_trans (graves_le _) (by rw [List.length_set, HR.out.len]; exact HN8.out)
      obtain ⟨c0, -, -, -, -⟩ := hh3.cells
      obtain ⟨k0, k1, k2⟩ := hs3.cells Hp.out
      have z0 := hs3.free (p * 3); have z1 := hs3.free (p * 3 + 1); have z2 := hs3.free (p * 3 + 2)
      have hsl : SlotsAt (((wc.setCell ⟨g, p * 3, none⟩ (.int .u8 1)).setCell ⟨g, p * 3 + 1, none⟩ (.int .u32 (id : Int))).setCell ⟨g, p * 3 + 2, none⟩ (.int .i64 v)) g (S.set p (1, id, v)) := hs3.set Hp.out (1, id, v)
      have fs := set3_fr wc g p (.int .u8 1) (.int .u32 (id : Int)) (.int .i64 v)
      have HH3 := Lib.hid hh3; have HSL := Lib.hid hsl; have FS := Lib.hid fs; have HF3 := Lib.hid hf3; have Hgl := Lib.hid hgl; have Hgr := Lib.hid hgr
      clear hh3 hs3 hf3 hgl hgr hsl fs
      go_upto_region 11 with fail
      have hh4 := HH3.out.fr FS.out HR.out.ne
      have hsl4 := HSL.out
      have hf4 := HF3.out.trans FS.out (fun _ _ h => .inr h)
      clear k0 k1 k2 z0 z1 z2 c0 hpl hp0
      generalize ((wc.setCell ⟨g, p * 3, none⟩ (.int .u8 1)).setCell ⟨g, p * 3 + 1, none⟩ (.int .u32 (id : Int))).setCell ⟨g, p * 3 + 2, none⟩ (.int .i64 v) = w4 at hh4 hsl4 hf4 ⊢
      obtain ⟨q1, hq1⟩ : ∃ q1, q1 = q + 1 := ⟨_, rfl⟩
      have e1 : (q : Int) + 1 = (q1 : Int) := by omega
      obtain ⟨e2, e3, -⟩ := wrap_small (x := q1) (by have := HQ6.out; omega)
      obtain ⟨-, -, c2, -, -⟩ := hh4.cells
      have z2 := hh4.free 2
      have hh5 := hh4.len q1
      have hf5 : Fr (fun b => b = bh) w4 (w4.setCell ⟨bh, 2, none⟩ (.int .i64 (q1 : Int))) := Fr.setCell (F := fun b => b = bh) (p := ⟨bh, 2, none⟩) (Fr.refl _ w4) (fun _ => rfl) _
      have hsl5 := hsl4.fr hf5 (fun e => HR.out.ne e.symm)
      have hf6 := hf4.trans hf5 (fun _ _ h => .inl h)
      have HH5 := Lib.hid hh5; have HSL5 := Lib.hid hsl5; have HF6 := Lib.hid hf6; have Hq1 := Lib.hid hq1; have Hg8 := Lib.hid hg8
      clear hh4 hsl4 hf4 hh5 hf5 hsl5 hf6 hq1 hg8
      go_upto_region 12 with fail
      clear c2 z2
      generalize w4.setCell ⟨bh, 2, none⟩ (.int .i64 (q1 : Int)) = w5 at HH5 HSL5 HF6 ⊢
      obtain ⟨c0, -, c2, c3, -⟩ := HH5.out.cells
      obtain ⟨s1, hs1⟩ : ∃ s1, s1 = q1 + gr := ⟨_, rfl⟩
      obtain ⟨s4, hs4⟩ : ∃ s4, s4 = 4 * s1 := ⟨_, rfl⟩
      obtain ⟨n3, hn3⟩ : ∃ n3, n3 = 3 * N := ⟨_, rfl⟩
      have hbd : s1 ≤ 20000 := by have := HQ6.out; have := Hg8.out; have := Hq1.out; omega
      have f1 : (q1 : Int) + (gr : Int) = (s1 : Int) := by omega
      obtain ⟨f2, f3, -⟩ := wrap_small (x := s1) (by omega)
      have f4 : 4 * (s1 : Int) = (s4 : Int) := by omega
      obtain ⟨f5, f6, -⟩ := wrap_small (x := s4) (by omega)
      have f7 : 3 * (N : Int) = (n3 : Int) := by omega
      obtain ⟨f8, f9, -⟩ := wrap_small (x := n3) (by have := HN8.out; omega)
      have Hs := Lib.hid (show s4 = 4 * (L.length + 1 + grL S p) by rw [hs4, hs1, Hq1.out, HQ.out, Hgr.out])
      have Hn3 := Lib.hid hn3
      clear hs1 hs4 hn3 hbd
      have e0 : putE L most id = 0 := by unfold putE; rw [HK.out, if_neg (by simp), ← HQ.out, if_neg (by have := Hqm.out; omega)]
      have eL : putL L most id v = ins L id v := by unfold putL; rw [if_pos e0]
      have il := ins_length (L := L) (id := id) v HK.out
      have hmaps := HR.out.maps.put (v := v) Hp.out Hpl.out.2.1 Ha.out
      have hgood := HR.out.good.put (v := v) Hpl.out Ha.out
      have hids : ∀ x ∈ ins L id v, x.1 < 4294967296 := fun x hx => by
        rcases mem_ins hx with rfl | hx
        · exact Hid.out
        · exact HR.out.ids x hx
      have E0 := Lib.hid e0; have EL := Lib.hid eL; have IL := Lib.hid il; have Hmaps := Lib.hid hmaps; have Hgood := Lib.hid hgood; have Hids := Lib.hid hids
      clear e0 eL il hmaps hgood hids
      by_cases hgt : n3 < s4
      · have hgt' : (n3 : Int) < (s4 : Int) := by omega
        have hh6 := HH5.out
        rw [show q1 = (ins L id v).length by rw [IL.out, Hq1.out, HQ.out]] at hh6
        have hlo := Hlo.out; have hqm := Hqm.out; have hq := HQ.out; have hil := IL.out; have h1 := HR.out.one
        have HA := Lib.hid (anew_ok (w := w5.drew) (by exact hh6) (by exact HSL5.out) (by rw [List.length_set]; exact HR.out.len) Hmaps.out Hids.out HR.out.ne (show (ins L id v).length < N by omega) HN8.out)
        clear hgt hh6 hlo hqm hq hil h1
        go_still (by kernel_rfl)
        go_wp2_with fail
        refine HA.out.mono ?_
        rintro e w6 ⟨rfl, S', hh7, hs7, ha7, hf7⟩
        have HH7 := Lib.hid hh7; have HS7 := Lib.hid hs7; have HA7 := Lib.hid ha7; have HF7 := Lib.hid hf7
        clear hh7 hs7 ha7 hf7
        go_wp2_with fail
        go_ret
        refine ⟨st', HS.out.1, by rw [E0.out]; rfl, ?_, HF6.out.drew.trans HF7.out (fun _ _ h => h)⟩
        rw [EL.out]
        have hm : (ins L id v).length ≤ most := by rw [IL.out]; have := Hqm.out; have := HQ.out; omega
        refine ⟨S', ⟨by rw [HA7.out.none]; exact HH7.out, HS7.out, HA7.out.len, HA7.out.good, HA7.out.whole, Hids.out, HR.out.ne, HR.out.lo, HR.out.one, HR.out.hi⟩, ?_, hm, HS.out.2⟩
        rw [HA7.out.none]; have := Hlo.out; omega
      · have hgt' : ¬ (n3 : Int) < (s4 : Int) := by omega
        have Hgt := Lib.hid hgt
        clear hgt
        go_still (by kernel_rfl)
        go_wp2_with fail
        go_ret
        refine ⟨st', HS.out.1, by rw [E0.out]; rfl, ?_, HF6.out.drew⟩
        rw [EL.out]
        refine ⟨S.set p (1, id, v), ⟨?_, HSL5.out, by rw [List.length_set]; exact HR.out.len, Hgood.out, Hmaps.out, Hids.out, HR.out.ne, HR.out.lo, HR.out.one, HR.out.hi⟩, ?_, by rw [IL.out]; have := Hqm.out; have := HQ.out; omega, HS.out.2⟩
        · have := HH5.out
          rw [IL.out, Hgl.out, ← HQ.out, ← Hq1.out]; exact this
        · have h1 := Hgt.out; have h2 := Hs.out; have h3 := Hn3.out
          rw [IL.out, Hgl.out, Hgr.out]; omega
end Go.Proofs.YtebdcahjlcgonaaGreat.Ix
namespace Go.Proofs.YtebdcahjlcgonaaGreat.Bk
open Go.RowKit
theorem putL_ids {b : Bk} {x : Bo} (hl : ∀ y ∈ b.L, y.1 < x.1) (hc : b.L.length < b.codes) : Ix.putL (idsOf b.L) b.codes x.1 x.2.1 = idsOf (b.L ++ [x]) := by
  have hn := ids_gone (b := b) hl
  have h0 : Ix.putE (idsOf b.L) b.codes x.1 = 0 := by
    unfold Ix.putE
    rw [hn, if_neg (by simp), if_neg (by simp [idsOf]; omega)]
  unfold Ix.putL
  rw [if_pos h0, ids_put hl]
theorem taken_put {n j : Nat} {L : List Bo} {x : Bo} (hx : x.2.1 = (j : Int)) : takenOf n (L ++ [x]) = (takenOf n L).set j true := by
  refine takenOf_set (fun k hk => ?_) ?_
  · rw [bSeat_put_ne (by rw [hx]; omega)]
  · rw [bSeat_append, if_pos hx]; cases bSeat L (j : Int) <;> rfl
theorem seats_put {n j : Nat} {L : List Bo} {x : Bo} (hx : x.2.1 = (j : Int)) (hf : ∀ y ∈ L, y.2.1 ≠ x.2.1) : seatsOf n (L ++ [x]) = (seatsOf n L).set j x := by
  refine seatsOf_set (fun k hk => ?_) ?_
  · rw [bSeat_put_ne (by rw [hx]; omega)]
  · rw [← hx, bSeat_put_eq hf]; rfl
theorem box_bo {w : World} {z : Nat} {x : Bo} (h : w.heap[z]? = some (.cells #[.int .u32 (x.1 : Int), .int .i64 x.2.1, .int .i64 x.2.2] 77 (0, 0))) :
    w.cell? ⟨z, 0, none⟩ = some (.int .u32 (x.1 : Int)) ∧ w.cell? ⟨z, 1, none⟩ = some (.int .i64 x.2.1) ∧ w.cell? ⟨z, 2, none⟩ = some (.int .i64 x.2.2) := ⟨(cell_of h 0).trans rfl, (cell_of h 1).trans rfl, (cell_of h 2).trans rfl⟩
set_option maxRecDepth 100000 in
set_option maxHeartbeats 4000000 in
theorem put_ok {p : Pt} {bb nx : Nat} {b : Bk} {w : World} (h : BkP p bb nx b b.L b.L w) {xi j : Nat} {xt : Int} {n : Nat} (hn : Raw { b with L := b.L ++ [(xi, (j : Int), xt)], next := n }) (hl : ∀ y ∈ b.L, y.1 < xi) (hf : ∀ y ∈ b.L, y.2.1 ≠ (j : Int)) (hnn : p.nh + 1 ≤ (n : Int)) :
    Calls Tryz.prog 45 #[.pointer (some ⟨bb, 0, none⟩), boV (xi, (j : Int), xt)] w fun e w' => e = .returned (.tuple #[]) ∧ ∃ p', BkP p' bb nx { b with L := b.L ++ [(xi, (j : Int), xt)], next := n } (b.L ++ [(xi, (j : Int), xt)]) (b.L ++ [(xi, (j : Int), xt)]) w' ∧ Fr (p.own bb) w w' ∧ (∀ y, p'.own bb y → p.own bb y ∨ w.heap.size ≤ y) ∧ p'.nh ≤ p.nh + 1 := by
  have hmem : ((xi, (j : Int), xt) : Bo) ∈ b.L ++ [(xi, (j : Int), xt)] := by simp
  have hjs : j < b.seats := by have := (hn.at_ _ hmem).2; simp only at this; omega
  have hxi : xi < 4294967296 := by have := (hn.ids _ hmem).2; have := hn.n1; simp only at *; omega
  have hcd : b.L.length < b.codes := by have := hn.few; simp at this; omega
  have htl := hn.till _ hmem
  obtain ⟨lab, hlb, h9⟩ := h.labs
  obtain ⟨W, hW⟩ : ∃ W, W = w.alloc (.cells #[.int .u32 (xi : Int), .int .i64 (j : Int), .int .i64 xt] 77) := ⟨_, rfl⟩
  obtain ⟨z, hz⟩ : ∃ z, z = w.heap.size := ⟨_, rfl⟩
  have f0 : Fr (fun _ => False) w W := by rw [hW]; exact Fr.alloc (Fr.refl _ _) _
  have hg : W.heap[z]? = some (.cells #[.int .u32 (xi : Int), .int .i64 (j : Int), .int .i64 xt] 77 (0, 0)) := by rw [hW, hz]; exact heap_alloc_at _ _
  have hz9 : lab z = 9 := h9 z (by omega)
  have hW' : BkP p bb nx b b.L b.L W.drew := (h.keep f0).keep (Fr.drew (Fr.refl _ _))
  have lbb := lt_of_block hW'.head
  have lz : z < W.drew.heap.size := lt_of_block hg
  -- the index
  have HI := Lib.hid (Ix.put_ok hW'.idx hxi (j : Int))
  rw [putL_ids (x := (xi, (j : Int), xt)) hl hcd] at HI
  obtain ⟨_, _, _, _, _, _, c6, c7, c8, c9, c10⟩ := hW'.c
  obtain ⟨z0, z1, z2⟩ := box_bo (x := (xi, (j : Int), xt)) hg
  have F0 := Lib.hid f0; have HL := Lib.hid hlb; have H9 := Lib.hid h9; have Hz9 := Lib.hid hz9; have H := Lib.hid hW'; have Hg := Lib.hid (show W.drew.heap[z]? = _ from hg); have Hn := Lib.hid hn; have Hh := Lib.hid h; have Hnn := Lib.hid hnn
  have Hf := Lib.hid hf; have Hl := Lib.hid hl
  clear f0 hlb h9 hz9 hW' hg hn h hnn hf hl hmem hcd
  go_enter Tryz.func45, Tryz.ntmps45
  go_upto_region 1 with fail
  rw [← hW, ← hz]
  clear hW hz
  go_still_tail 8, (by kernel_rfl)
  go_wp2_with fail
  refine HI.out.mono ?_
  rintro e w1 ⟨st', _, rfl, hix, f1⟩
  have fl1 : Fr (fun x => lab x = 2) W.drew w1 := f1.mono (fun x _ hx => by rcases hx with rfl | rfl; exact HL.out.l2; exact HL.out.l2g)
  have F1 := Lib.hid f1; have Fl1 := Lib.hid fl1; have Hix := Lib.hid hix
  have Hd1 := Lib.hid (HL.out.head fl1 (by decide) H.out.head)
  have St1 := Lib.hid (HL.out.set fl1 (by decide) H.out.set)
  have Bx1 := Lib.hid (fl1.get Hg.out (fun e => by rw [Hz9.out] at e; cases e))
  clear hix f1 fl1 HI c6 c7 c8 c9 c10 z0 z1 z2
  have c6 := (cell_of Hd1.out 6).trans (show _ = some (Value.pointer (some ⟨p.tp, 0, none⟩)) from rfl)
  have z1 := (cell_of Bx1.out 1).trans (show _ = some (Value.int .i64 (j : Int)) from rfl)
  have HS := Lib.hid (put_in (St1.out.fr (Fr.drew (Fr.refl (fun _ => False) _)) (fun h => h) (fun _ _ h => h)) (fun e => (HL.out.l1v _ e).2 rfl) (j := j) (by rw [takenOf_length]; exact hjs))
  rw [← taken_put (x := (xi, (j : Int), xt)) rfl] at HS
  go_upto_region 2 with fail
  go_still_tail 6, (by kernel_rfl)
  go_wp2_with fail
  refine HS.out.mono ?_
  rintro e w2 ⟨rfl, hst, f2⟩
  have fl2 : Fr (fun x => lab x = 1) w1 w2 := (Fr.undrew f2).mono (fun x _ hx => (HL.out.l1v x hx).1)
  have F2 := Lib.hid (Fr.undrew f2); have Fl2 := Lib.hid fl2; have Hst := Lib.hid hst
  have Hd2 := Lib.hid (HL.out.head fl2 (by decide) Hd1.out)
  have Rw2 := Lib.hid (HL.out.row fl2 (by decide) (HL.out.row Fl1.out (by decide) H.out.row))
  have Bx2 := Lib.hid (fl2.get Bx1.out (fun e => by rw [Hz9.out] at e; cases e))
  clear hst f2 fl2 HS c6 z1
  have c8 := (cell_of Hd2.out 8).trans (show _ = some p.sv from rfl)
  obtain ⟨z0, z1, z2⟩ := box_bo (x := (xi, (j : Int), xt)) Bx2.out
  obtain ⟨g, cap, ev, k0, k1, k2⟩ := Bos.cells Rw2.out (k := j) (by rw [seatsOf_length]; exact hjs)
  rw [seatsOf_length] at ev
  have hgf : ∀ k, w2.frozen? ⟨g, k, none⟩ = false := by
    rcases Rw2.out.2 with ⟨_, h0⟩ | ⟨g', c', cur, e, _, q1, _⟩
    · rw [seatsOf_length] at h0; omega
    · rw [ev] at e
      obtain ⟨e1, _, _⟩ := Value.slice.inj e
      obtain rfl : g = g' := by simpa using e1
      exact free_of q1
  have y0 := hgf (j * 3); have y1 := hgf (j * 3 + 1); have y2 := hgf (j * 3 + 2)
  have hrow := Bos.put (w := w2) (n := b.seats) (g := g) (cap := cap) (by rw [← ev]; exact Rw2.out) (p := j) (by rw [seatsOf_length]; exact hjs) (xi, (j : Int), xt)
  rw [← seats_put (x := (xi, (j : Int), xt)) rfl Hf.out] at hrow
  rw [ev] at c8
  have hgS : p.sv.ownBlock = some g := by rw [ev]; rfl
  have fs : Fr (fun x => x = g) w2 (((w2.setCell ⟨g, j * 3, none⟩ (.int .u32 (xi : Int))).setCell ⟨g, j * 3 + 1, none⟩ (.int .i64 (j : Int))).setCell ⟨g, j * 3 + 2, none⟩ (.int .i64 xt)) :=
    (((Fr.refl (fun y => y = g) _).setCell (p := ⟨g, j * 3, none⟩) (fun _ => rfl) _).setCell (p := ⟨g, j * 3 + 1, none⟩) (fun _ => rfl) _).setCell (p := ⟨g, j * 3 + 2, none⟩) (fun _ => rfl) _
  have Hev := Lib.hid ev; have Hrow := Lib.hid hrow; have Fs := Lib.hid fs; have HgS := Lib.hid hgS
  have Fl3 := Lib.hid (show Fr (fun x => lab x = 3) w2 (((w2.setCell ⟨g, j * 3, none⟩ (.int .u32 (xi : Int))).setCell ⟨g, j * 3 + 1, none⟩ (.int .i64 (j : Int))).setCell ⟨g, j * 3 + 2, none⟩ (.int .i64 xt)) from fs.mono (fun x _ hx => by rw [hx]; exact HL.out.l3 g hgS))
  have hjs' : (j : Int) < (b.seats : Int) := by omega
  have hsm : (b.seats : Int) ≤ 1024 := by have := H.out.raw.s1; omega
  clear ev hrow fs hgf hgS
  go_upto_region 3 with fail
  go_still_tail 8, (by kernel_rfl)
  obtain ⟨w3, hw3⟩ : ∃ w3, w3 = (((w2.setCell ⟨g, j * 3, none⟩ (.int .u32 (xi : Int))).setCell ⟨g, j * 3 + 1, none⟩ (.int .i64 (j : Int))).setCell ⟨g, j * 3 + 2, none⟩ (.int .i64 xt)) := ⟨_, rfl⟩
  rw [← hw3] at Hrow Fs Fl3
  have Hd3 := Lib.hid (HL.out.head Fl3.out (by decide) Hd2.out)
  have Bx3 := Lib.hid (Fl3.out.get Bx2.out (fun e => by rw [Hz9.out] at e; cases e))
  have Hp3 := Lib.hid (HL.out.heap Fl3.out (by decide) (HL.out.heap Fl2.out (by decide) (HL.out.heap Fl1.out (by decide) H.out.heap)))
  have Mp3 := Lib.hid (HL.out.map Fl3.out (by decide) (HL.out.map Fl2.out (by decide) (HL.out.map Fl1.out (by decide) H.out.map)))
  have Ix3 := Lib.hid (HL.out.idx Fl3.out (by decide) (HL.out.idx Fl2.out (by decide) Hix.out))
  have St3 := Lib.hid (HL.out.set Fl3.out (by decide) Hst.out)
  have Ff3 := Lib.hid (show Fr (p.own bb) w w3 from (((F0.out.mono (fun _ _ h => h.elim) : Fr (p.own bb) w W).trans (Fr.undrew F1.out) (fun x _ hx => Pt.ownI hx)).trans F2.out (fun x _ hx => Pt.ownT hx)).trans Fs.out (fun x _ hx => by rw [hx]; exact Pt.ownS HgS.out))
  go_upto_region 4 with fail
  rw [← hw3]
  have zt := (cell_of Bx3.out 2).trans (show _ = some (Value.int .i64 xt) from rfl)
  clear hw3 c8 z0 z1 z2 k0 k1 k2 y0 y1 y2
  by_cases hxt : 0 < xt
  · have hb : decide (0 < xt) = true := by simpa using hxt
    have lbb3 := lt_of_block Hd3.out
    have lz3 := lt_of_block Bx3.out
    have nbb : ¬ (False ∨ p.GH bb) := by rintro (h | h); exact h; have := HL.out.l4 _ h; rw [HL.out.l0] at this; cases this
    have nz : ¬ (False ∨ p.GH z) := by rintro (h | h); exact h; have := HL.out.l4 _ h; rw [Hz9.out] at this; cases this
    have hp := Du.push_room less_ok (w0 := w3.drew.drew) (Hp3.out.fr (Fr.drew (Fr.drew (Fr.refl (fun _ => False) _))) (fun _ _ h => h)) (by have := H.out.due.len; have := H.out.raw.few; have := H.out.raw.c1; omega) (by have := Hnn.out; have := Hn.out.n1; simp only at this; omega) (v := Du.dueN xt (xi : Int)) trivial
    simp only [Du.dueT, Du.dU_n (show (0 : Int) ≤ (xi : Int) by omega) (show (xi : Int) < 4294967296 by omega), Du.dI_n (show (0 : Int) ≤ (xi : Int) by omega) (show (xi : Int) < 4294967296 by omega)] at hp
    have HP := Lib.hid hp; have Hxt := Lib.hid hxt
    have c9 := (cell_of Hd3.out 9).trans (show _ = some (Value.pointer (some ⟨p.hp, 0, none⟩)) from rfl)
    have c10 := (cell_of Hd3.out 10).trans (show _ = some (Value.map (some p.mp)) from rfl)
    have z0 := (cell_of Bx3.out 0).trans (show _ = some (Value.int .u32 (xi : Int)) from rfl)
    clear hp hxt
    go_wp2_with fail
    go_region_held3 (fun w' => w'.cell? ⟨bb, 10, none⟩ = some (.map (some p.mp)) ∧ w'.cell? ⟨bb, 9, none⟩ = some (.pointer (some ⟨p.hp, 0, none⟩)) ∧ w'.cell? ⟨z, 0, none⟩ = some (.int .u32 (xi : Int)) ∧ w'.cell? ⟨z, 2, none⟩ = some (.int .i64 xt))
      (first | (go_keep; done) | exact ⟨(hf5.cell lbb3 nbb).trans c10, (hf5.cell lbb3 nbb).trans c9, (hf5.cell lz3 nz).trans z0, (hf5.cell lz3 nz).trans zt⟩ | exact ⟨(hcm _).trans ((hf5.cell lbb3 nbb).trans c10), (hcm _).trans ((hf5.cell lbb3 nbb).trans c9), (hcm _).trans ((hf5.cell lz3 nz).trans z0), (hcm _).trans ((hf5.cell lz3 nz).trans zt)⟩)
      (first | (go_at_call 90; refine HP.out.mono ?_; rintro e w5 ⟨rfl, G1, hH5, hf5, hg5⟩; obtain ⟨es, c, hrun, hM5⟩ := run_updateU (P := Tryz.prog) Tryz.underlying71 Tryz.underlying24 (HL.out.map ((Fr.undrew (Fr.undrew hf5)).mono (fun x _ hx => HL.out.l4 x (hx.elim False.elim (fun h => h)))) (by decide) Mp3.out) (xi : Int) p.nh; have hcm : ∀ a, (setMap w5 p.mp es c).cell? a = w5.cell? a := (by obtain ⟨l, c0, hb, _⟩ := HL.out.map ((Fr.undrew (Fr.undrew hf5)).mono (fun x _ hx => HL.out.l4 x (hx.elim False.elim (fun h => h)))) (show 4 ≠ 5 by decide) Mp3.out; exact fun a => setMap_cell hb es c a)))
    have fH : Fr p.GH w3 w5 := (Fr.undrew (Fr.undrew hf5)).mono (fun x _ hx => hx.elim False.elim (fun h => h))
    have fl5 : Fr (fun x => lab x = 4) w3 w5 := fH.mono (fun x _ hx => HL.out.l4 x hx)
    have fm : Fr (fun x => x = p.mp) w5 (setMap w5 p.mp es c) := Fr.setMap (F := fun x => x = p.mp) (b := p.mp) (Fr.refl _ _) (fun _ => rfl) _ _
    have fl6 : Fr (fun x => lab x = 5) w5 (setMap w5 p.mp es c) := fm.mono (fun x _ hx => by rw [hx]; exact HL.out.l5)
    have hsz : w.heap.size ≤ w3.heap.size := Ff3.out.size
    have hG1 : ∀ x, G1 x → p.GH x ∨ w.heap.size ≤ x := fun x hx => (hg5 x hx).elim .inl (fun h => .inr (Nat.le_trans hsz h))
    have hH6 : HpD G1 p.hp (Du.pushF ltD p.H (Du.dueN xt (xi : Int)) p.nh) (p.nh + 1) (setMap w5 p.mp es c) := HpD.fr hH5 fm (fun x hx e => by
      rcases hg5 x hx with h | h
      · have := HL.out.l4 x h; rw [e, HL.out.l5] at this; cases this
      · have h2 := Mp3.out.lt; rw [e] at h; exact absurd h2 (Nat.not_lt.2 h))
    have hdue := H.out.due.put H.out.raw.idlt (x := (xi, (j : Int), xt)) Hxt.out (by omega) (fun y hy => by have := Hl.out y hy; simp only; omega) p.nh
    have hE := Lib.hid (show ∃ p', BkP p' bb nx { b with L := b.L ++ [(xi, (j : Int), xt)], next := n } (b.L ++ [(xi, (j : Int), xt)]) (b.L ++ [(xi, (j : Int), xt)]) (setMap w5 p.mp es c) ∧ Fr (p.own bb) w (setMap w5 p.mp es c) ∧ (∀ y, p'.own bb y → p.own bb y ∨ w.heap.size ≤ y) ∧ p'.nh ≤ p.nh + 1 from
      ⟨_, HL.out.build (b' := { b with L := b.L ++ [(xi, (j : Int), xt)], next := n }) (LS' := b.L ++ [(xi, (j : Int), xt)]) (LD' := b.L ++ [(xi, (j : Int), xt)]) H9.out (HL.out.head fl6 (by decide) (HL.out.head fl5 (by decide) Hd3.out)) (HL.out.set fl6 (by decide) (HL.out.set fl5 (by decide) St3.out)) (HL.out.idx fl6 (by decide) (HL.out.idx fl5 (by decide) Ix3.out))
        (HL.out.row fl6 (by decide) (HL.out.row fl5 (by decide) (by rw [Hev.out]; exact Hrow.out))) hH6 hM5 hdue Hnn.out Hn.out hG1,
        (Ff3.out.trans fH (fun x _ hx => Pt.ownH hx)).trans fm (fun x _ hx => by rw [hx]; exact Pt.ownM), Pt.re_own hG1, Int.le_refl _⟩)
    clear hH5 hf5 hg5 hrun hM5 hcm fH fl5 fm fl6 hsz hG1 hH6 hdue c9 c10 z0 zt
    go_wp2_with fail
    go_end0
    exact ⟨rfl, hE.out⟩
  · have hb : decide (0 < xt) = false := by simpa using hxt
    have hE := Lib.hid (show ∃ p', BkP p' bb nx { b with L := b.L ++ [(xi, (j : Int), xt)], next := n } (b.L ++ [(xi, (j : Int), xt)]) (b.L ++ [(xi, (j : Int), xt)]) w3.drew ∧ Fr (p.own bb) w w3.drew ∧ (∀ y, p'.own bb y → p.own bb y ∨ w.heap.size ≤ y) ∧ p'.nh ≤ p.nh + 1 from
      ⟨_, (HL.out.build (b' := { b with L := b.L ++ [(xi, (j : Int), xt)], next := n }) (LS' := b.L ++ [(xi, (j : Int), xt)]) (LD' := b.L ++ [(xi, (j : Int), xt)]) H9.out Hd3.out St3.out Ix3.out (by rw [Hev.out]; exact Hrow.out) Hp3.out Mp3.out (H.out.due.put0 (x := (xi, (j : Int), xt)) hxt) (show p.nh ≤ (n : Int) by have := Hnn.out; omega) Hn.out (fun x hx => .inl hx)).keep (Fr.drew (Fr.refl _ _)),
        Fr.drew Ff3.out, Pt.re_own (fun x hx => .inl hx), (show p.nh ≤ p.nh + 1 by omega)⟩)
    clear hxt
    go_wp2_with fail
    go_end0
    exact ⟨rfl, hE.out⟩
end Go.Proofs.YtebdcahjlcgonaaGreat.Bk
namespace Go.Proofs.YtebdcahjlcgonaaGreat.Bk
open Go.RowKit
theorem taken_drop {b : Bk} (h : Raw b) {x : Bo} (hx : x ∈ b.L) {j : Nat} (hj : x.2.1 = (j : Int)) : takenOf b.seats (bDrop b.L x.1) = (takenOf b.seats b.L).set j false := by
  refine takenOf_set (fun k hk => ?_) ?_
  · rw [seat_drop h hx, if_neg (by rw [hj]; omega)]
  · rw [seat_drop h hx, if_pos hj.symm]; rfl
theorem seats_drop {b : Bk} (h : Raw b) {x : Bo} (hx : x ∈ b.L) {j : Nat} (hj : x.2.1 = (j : Int)) : seatsOf b.seats (bDrop b.L x.1) = (seatsOf b.seats b.L).set j (0, 0, 0) := by
  refine seatsOf_set (fun k hk => ?_) ?_
  · rw [seat_drop h hx, if_neg (by rw [hj]; omega)]
  · rw [seat_drop h hx, if_pos hj.symm]; rfl
set_option maxRecDepth 100000 in
set_option maxHeartbeats 4000000 in
theorem drop_ok {p : Pt} {bb nx : Nat} {b : Bk} {w : World} (h : BkP p bb nx b b.L b.L w) {x : Bo} (hx : x ∈ b.L) :
    Calls Tryz.prog 83 #[.pointer (some ⟨bb, 0, none⟩), boV x] w fun e w' => e = .returned (.tuple #[]) ∧ ∃ p', BkP p' bb nx { b with L := bDrop b.L x.1 } (bDrop b.L x.1) (bDrop b.L x.1) w' ∧ Fr (p.own bb) w w' ∧ ∀ y, p'.own bb y → p.own bb y := by
  obtain ⟨xi, xs, xt⟩ := x
  have hat := h.raw.at_ _ hx
  obtain ⟨j, rfl⟩ : ∃ j : Nat, xs = (j : Int) := ⟨xs.toNat, by simp only at hat; omega⟩
  have hjs : j < b.seats := by have := hat.2; simp only at this; omega
  have hxi : xi < 4294967296 := h.raw.idlt _ hx
  obtain ⟨W, hW⟩ : ∃ W, W = w.alloc (.cells #[.int .u32 (xi : Int), .int .i64 (j : Int), .int .i64 xt] 77) := ⟨_, rfl⟩
  obtain ⟨z, hz⟩ : ∃ z, z = w.heap.size := ⟨_, rfl⟩
  have f0 : Fr (fun _ => False) w W := by rw [hW]; exact Fr.alloc (Fr.refl _ _) _
  have hg : W.heap[z]? = some (.cells #[.int .u32 (xi : Int), .int .i64 (j : Int), .int .i64 xt] 77 (0, 0)) := by rw [hW, hz]; exact heap_alloc_at _ _
  have hW' := h.keep f0
  have HF := Lib.hid (firm_ok hW' h.raw.idlt h.raw.up (id := xi))
  have z0 := (cell_of hg 0).trans (show _ = some (Value.int .u32 (xi : Int)) from rfl)
  have hzo : ¬ p.own bb z := fun e => by have := h.lt e; omega
  have F0 := Lib.hid f0; have Hg := Lib.hid hg; have Hzo := Lib.hid hzo; have Hx := Lib.hid hx; have Hz := Lib.hid (show w.heap.size ≤ z by omega)
  clear f0 hg hzo hW' hat h
  go_enter Tryz.func83, Tryz.ntmps83
  go_upto_region 1 with fail
  rw [← hW, ← hz]
  clear hW hz
  go_wp2_with fail
  refine HF.out.mono ?_
  rintro e w1 ⟨rfl, q, hB, f1, ho⟩
  have hB2 := hB.keep (Fr.drew (Fr.refl (fun _ => False) _))
  obtain ⟨lab, hlb, h9⟩ := hB.labs
  have hqz : ¬ q.own bb z := fun e => Hzo.out (ho z e)
  have Ho := Lib.hid ho; have H := Lib.hid hB; have HL0 := Lib.hid hlb
  have Ff1 := Lib.hid ((F0.out.mono (fun _ _ h => h.elim) : Fr (p.own bb) w W).trans f1 (fun _ _ h => h))
  have Bx1 := Lib.hid (f1.get Hg.out Hzo.out)
  -- a label that sets the box apart
  have hlx : Lab q bb (fun y => if y = z then 9 else lab y) := by
    have ne : ∀ y, q.own bb y → y ≠ z := fun y hy e => hqz (e ▸ hy)
    refine ⟨?_, ?_, ?_, ?_, ?_, ?_, ?_, ?_⟩
    · simp only [if_neg (ne bb (.inl rfl))]; exact hlb.l0
    · simp only [if_neg (ne q.tp (.inr (.inl rfl)))]; exact hlb.l1
    · intro y hy; simp only [if_neg (ne y (Pt.ownT hy))]; exact hlb.l1v y hy
    · simp only [if_neg (ne q.ip (Pt.ownI (.inl rfl)))]; exact hlb.l2
    · simp only [if_neg (ne q.ig (Pt.ownI (.inr rfl)))]; exact hlb.l2g
    · intro y hy; simp only [if_neg (ne y (Pt.ownS hy))]; exact hlb.l3 y hy
    · intro y hy; simp only [if_neg (ne y (Pt.ownH hy))]; exact hlb.l4 y hy
    · simp only [if_neg (ne q.mp Pt.ownM)]; exact hlb.l5
  obtain ⟨lb, hlb2⟩ : ∃ lb, lb = fun y => if y = z then 9 else lab y := ⟨_, rfl⟩
  rw [← hlb2] at hlx
  have HL := Lib.hid hlx
  have Hz9 := Lib.hid (show lb z = 9 by rw [hlb2]; simp)
  have H9 := Lib.hid (show ∀ y, w1.heap.size ≤ y → lb y = 9 from fun y hy => by
    rw [hlb2]
    by_cases e : y = z
    · simp [e]
    · simp only [if_neg e]; exact h9 y hy)
  have HI := Lib.hid (Ix.drop_ok hB2.idx (id := xi) hxi)
  rw [ids_drop] at HI
  have c7 := hB.c.2.2.2.2.2.2.2.1
  have z0 := (cell_of Bx1.out 0).trans (show _ = some (Value.int .u32 (xi : Int)) from rfl)
  clear hB hB2 hlb h9 hqz ho f1 hlx hlb2 HL0
  go_upto_region 2 with fail
  go_still_tail 6, (by kernel_rfl)
  go_wp2_with fail
  refine HI.out.mono ?_
  rintro e w2 ⟨st', _, rfl, hix, f2⟩
  have fl2 : Fr (fun x => lb x = 2) w1 w2 := (Fr.undrew f2).mono (fun x _ hx => by rcases hx with rfl | rfl; exact HL.out.l2; exact HL.out.l2g)
  have F2 := Lib.hid (Fr.undrew f2); have Fl2 := Lib.hid fl2; have Hix := Lib.hid hix
  have Hd2 := Lib.hid (HL.out.head fl2 (by decide) H.out.head)
  have St2 := Lib.hid (HL.out.set fl2 (by decide) H.out.set)
  have Bx2 := Lib.hid (fl2.get Bx1.out (fun e => by rw [Hz9.out] at e; cases e))
  clear hix f2 fl2 HI c7 z0
  have c6 := (cell_of Hd2.out 6).trans (show _ = some (Value.pointer (some ⟨q.tp, 0, none⟩)) from rfl)
  have z1 := (cell_of Bx2.out 1).trans (show _ = some (Value.int .i64 (j : Int)) from rfl)
  have HS := Lib.hid (drop_in (St2.out.fr (Fr.drew (Fr.refl (fun _ => False) _)) (fun h => h) (fun _ _ h => h)) (fun e => (HL.out.l1v _ e).2 rfl) (j := j) (by rw [takenOf_length]; exact hjs))
  rw [← taken_drop H.out.raw Hx.out rfl] at HS
  go_upto_region 3 with fail
  go_still_tail 6, (by kernel_rfl)
  go_wp2_with fail
  refine HS.out.mono ?_
  rintro e w3 ⟨rfl, hst, f3⟩
  have fl3 : Fr (fun x => lb x = 1) w2 w3 := (Fr.undrew f3).mono (fun x _ hx => (HL.out.l1v x hx).1)
  have F3 := Lib.hid (Fr.undrew f3); have Fl3 := Lib.hid fl3; have Hst := Lib.hid hst
  have Hd3 := Lib.hid (HL.out.head fl3 (by decide) Hd2.out)
  have Rw3 := Lib.hid (HL.out.row fl3 (by decide) (HL.out.row Fl2.out (by decide) H.out.row))
  have Bx3 := Lib.hid (fl3.get Bx2.out (fun e => by rw [Hz9.out] at e; cases e))
  clear hst f3 fl3 HS c6 z1
  have c8 := (cell_of Hd3.out 8).trans (show _ = some q.sv from rfl)
  have z1 := (cell_of Bx3.out 1).trans (show _ = some (Value.int .i64 (j : Int)) from rfl)
  obtain ⟨g, cap, ev, k0, k1, k2⟩ := Bos.cells Rw3.out (k := j) (by rw [seatsOf_length]; exact hjs)
  rw [seatsOf_length] at ev
  have hgf : ∀ k, w3.frozen? ⟨g, k, none⟩ = false := by
    rcases Rw3.out.2 with ⟨_, h0⟩ | ⟨g', c', cur, e, _, q1, _⟩
    · rw [seatsOf_length] at h0; omega
    · rw [ev] at e
      obtain ⟨e1, _, _⟩ := Value.slice.inj e
      obtain rfl : g = g' := by simpa using e1
      exact free_of q1
  have y0 := hgf (j * 3); have y1 := hgf (j * 3 + 1); have y2 := hgf (j * 3 + 2)
  have hrow := Bos.put (w := w3) (n := b.seats) (g := g) (cap := cap) (by rw [← ev]; exact Rw3.out) (p := j) (by rw [seatsOf_length]; exact hjs) (0, 0, 0)
  rw [← seats_drop H.out.raw Hx.out rfl] at hrow
  rw [ev] at c8
  have hgS : q.sv.ownBlock = some g := by rw [ev]; rfl
  have fs : Fr (fun x => x = g) w3 (((w3.setCell ⟨g, j * 3, none⟩ (.int .u32 0)).setCell ⟨g, j * 3 + 1, none⟩ (.int .i64 0)).setCell ⟨g, j * 3 + 2, none⟩ (.int .i64 0)) :=
    (((Fr.refl (fun y => y = g) _).setCell (p := ⟨g, j * 3, none⟩) (fun _ => rfl) _).setCell (p := ⟨g, j * 3 + 1, none⟩) (fun _ => rfl) _).setCell (p := ⟨g, j * 3 + 2, none⟩) (fun _ => rfl) _
  have hrow : Bos (((w3.setCell ⟨g, j * 3, none⟩ (.int .u32 0)).setCell ⟨g, j * 3 + 1, none⟩ (.int .i64 0)).setCell ⟨g, j * 3 + 2, none⟩ (.int .i64 0)) (.slice (some ⟨g, 0, none⟩) b.seats cap) (seatsOf b.seats (bDrop b.L xi)) := hrow
  obtain ⟨w4, hw4⟩ : ∃ w4, w4 = (((w3.setCell ⟨g, j * 3, none⟩ (.int .u32 0)).setCell ⟨g, j * 3 + 1, none⟩ (.int .i64 0)).setCell ⟨g, j * 3 + 2, none⟩ (.int .i64 0)) := ⟨_, rfl⟩
  have hW4 := Lib.hid hw4
  rw [← hw4] at hrow fs
  have fl4 : Fr (fun x => lb x = 3) w3 w4 := fs.mono (fun x _ hx => by rw [hx]; exact HL.out.l3 g hgS)
  have ff : Fr (p.own bb) w w4 := ((Ff1.out.trans F2.out (fun x _ hx => Ho.out x (Pt.ownI hx))).trans F3.out (fun x _ hx => Ho.out x (Pt.ownT hx))).trans fs (fun x _ hx => by rw [hx]; exact Ho.out g (Pt.ownS hgS))
  have hraw : Raw { b with L := bDrop b.L xi } := H.out.raw.filt _
  have hE := Lib.hid (show ∃ p', BkP p' bb nx { b with L := bDrop b.L xi } (bDrop b.L xi) (bDrop b.L xi) w4.drew ∧ Fr (p.own bb) w w4.drew ∧ (∀ y, p'.own bb y → p.own bb y) from
    ⟨_, (HL.out.build (b' := { b with L := bDrop b.L xi }) (LS' := bDrop b.L xi) (LD' := bDrop b.L xi) H9.out (HL.out.head fl4 (by decide) Hd3.out) (HL.out.set fl4 (by decide) Hst.out) (HL.out.idx fl4 (by decide) (HL.out.idx Fl3.out (by decide) Hix.out)) (by rw [ev]; exact hrow)
        (HL.out.heap fl4 (by decide) (HL.out.heap Fl3.out (by decide) (HL.out.heap Fl2.out (by decide) H.out.heap))) (HL.out.map fl4 (by decide) (HL.out.map Fl3.out (by decide) (HL.out.map Fl2.out (by decide) H.out.map))) (H.out.due.same (dueOf_firm_drop b.L xi)) H.out.nh hraw (fun x hx => .inl hx)).keep (Fr.drew (Fr.refl _ _)),
      Fr.drew ff, fun y hy => Ho.out y (by
          rcases hy with h | h | h | h | h | h | h | h
          · exact .inl h
          · exact .inr (.inl h)
          · exact .inr (.inr (.inl h))
          · exact .inr (.inr (.inr (.inl h)))
          · exact .inr (.inr (.inr (.inr (.inl h))))
          · exact .inr (.inr (.inr (.inr (.inr (.inl h)))))
          · exact .inr (.inr (.inr (.inr (.inr (.inr (.inl h))))))
          · exact .inr (.inr (.inr (.inr (.inr (.inr (.inr h)))))))⟩)
  have hjs' : (j : Int) < (b.seats : Int) := by omega
  have hsm : (b.seats : Int) ≤ 1024 := by have := H.out.raw.s1; omega
  clear hrow fs fl4 ff hraw hgf hgS ev hw4
  go_upto_region 4 with fail
  go_still_tail 8, (by kernel_rfl)
  go_wp2_with fail
  go_end0
  rw [← hW4.out]
  exact ⟨rfl, hE.out⟩
end Go.Proofs.YtebdcahjlcgonaaGreat.Bk
namespace Go.Proofs.YtebdcahjlcgonaaGreat.Bk
open Go.RowKit
theorem Fr.drewN {F : Nat → Prop} {a w : World} (h : Fr F a w) (n : Nat) : Fr F a (w.drewN n) := ⟨h.os, h.tape, h.output, h.size, h.blk⟩
abbrev rcV (r : Rc) : Value := .agg #[.int .i64 r.kind, .int .u32 (r.id : Int), .int .i64 r.seat, .int .i64 r.till, .int .i64 r.clock]
abbrev rcC (r : Rc) : Obj := .cells #[.int .i64 r.kind, .int .u32 (r.id : Int), .int .i64 r.seat, .int .i64 r.till, .int .i64 r.clock] 46
/-- The book b' stands where the book was. -/
def Aft (p : Pt) (bb : Nat) (b' : Bk) (w w' : World) : Prop := ∃ p', BkP p' bb b'.next b' b'.L b'.L w' ∧ Fr (p.own bb) w w' ∧ ∀ y, p'.own bb y → p.own bb y ∨ w.heap.size ≤ y
section
variable {p : Pt} {bb nx : Nat} {b : Bk} {LS LD : List Bo} {w w' : World}
theorem Aft.same (h : BkP p bb b.next b b.L b.L w) (f : Fr (fun _ => False) w w') : Aft p bb b w w' := ⟨p, h.keep f, f.mono (fun _ _ h => h.elim), fun _ h => .inl h⟩
theorem BkP.setNext (h : BkP p bb nx b LS LD w) (n : Nat) : BkP p bb n b LS LD (w.setCell ⟨bb, 5, none⟩ (.int .u32 (n : Int))) := by
  obtain ⟨lab, hl⟩ := h.lab
  have f : Fr (fun x => x = bb) w (w.setCell ⟨bb, 5, none⟩ (.int .u32 (n : Int))) := Fr.setCell (F := fun x => x = bb) (p := ⟨bb, 5, none⟩) (Fr.refl _ _) (fun _ => rfl) _
  have fl : Fr (fun x => lab x = 0) w (w.setCell ⟨bb, 5, none⟩ (.int .u32 (n : Int))) := f.mono (fun x _ hx => by rw [hx]; exact hl.l0)
  exact ⟨setCell_blk (o := 5) h.head _, hl.set fl (by decide) h.set, hl.idx fl (by decide) h.idx, hl.row fl (by decide) h.row, hl.heap fl (by decide) h.heap, hl.map fl (by decide) h.map, h.due, h.nh, h.raw, lab, hl⟩
theorem BkP.setClock (h : BkP p bb nx b LS LD w) {c : Int} (c0 : 0 ≤ c) (c1 : c ≤ 1099511627776) : BkP p bb nx { b with clock := c } LS LD (w.setCell ⟨bb, 4, none⟩ (.int .i64 c)) := by
  obtain ⟨lab, hl⟩ := h.lab
  have f : Fr (fun x => x = bb) w (w.setCell ⟨bb, 4, none⟩ (.int .i64 c)) := Fr.setCell (F := fun x => x = bb) (p := ⟨bb, 4, none⟩) (Fr.refl _ _) (fun _ => rfl) _
  have fl : Fr (fun x => lab x = 0) w (w.setCell ⟨bb, 4, none⟩ (.int .i64 c)) := f.mono (fun x _ hx => by rw [hx]; exact hl.l0)
  have r := h.raw
  exact ⟨setCell_blk (o := 4) h.head _, hl.set fl (by decide) h.set, hl.idx fl (by decide) h.idx, hl.row fl (by decide) h.row, hl.heap fl (by decide) h.heap, hl.map fl (by decide) h.map, h.due, h.nh,
    ⟨r.s0, r.s1, r.c0, r.c1, r.n0, r.n1, c0, c1, r.up, r.ids, r.at_, r.lone, r.till, r.few⟩, lab, hl⟩
theorem has_seat (h : BkP p bb nx b LS LD w) {k : Int} (k0 : 0 ≤ k) (k1 : k < (b.seats : Int)) : Calls Tryz.prog 85 #[.pointer (some ⟨p.tp, 0, none⟩), .int .i64 k] w fun e w' => e = .returned (.bool (bSeat b.L k).isSome) ∧ w = w' := by
  obtain ⟨j, rfl⟩ : ∃ j : Nat, k = (j : Int) := ⟨k.toNat, by omega⟩
  have := Bt.has_ok h.set (j : Int)
  rw [Int.toNat_natCast, takenOf_get (by omega)] at this
  simpa using this
end
set_option maxRecDepth 100000 in
set_option maxHeartbeats 4000000 in
theorem hold_ok {p : Pt} {bb : Nat} {b : Bk} {w : World} (h : BkP p bb b.next b b.L b.L w) {r : Rc} (hr : recB r = true) (hk : r.kind = 1) (_hid : r.id < 4294967296) :
    Calls Tryz.prog 80 #[.pointer (some ⟨bb, 0, none⟩), rcV r] w fun e w' => e = .returned (.int .i64 (holdE b r : Nat)) ∧ Aft p bb (holdB b r) w w' := by
  have hq := recB_hold hr hk
  obtain ⟨W, hW⟩ : ∃ W, W = w.alloc (rcC r) := ⟨_, rfl⟩
  obtain ⟨z, hz⟩ : ∃ z, z = w.heap.size := ⟨_, rfl⟩
  have f0 : Fr (fun _ => False) w W := by rw [hW]; exact Fr.alloc (Fr.refl _ _) _
  have hg : W.heap[z]? = some (rcC r) := by rw [hW, hz]; exact heap_alloc_at _ _
  have hB := h.keep f0
  have z1 := (cell_of hg 1).trans (show _ = some (Value.int .u32 (r.id : Int)) from rfl)
  have z2 := (cell_of hg 2).trans (show _ = some (Value.int .i64 r.seat) from rfl)
  have z3 := (cell_of hg 3).trans (show _ = some (Value.int .i64 r.till) from rfl)
  obtain ⟨c0, c1, _, _, c4, c5, c6, c7, _⟩ := hB.c
  have HB := Lib.hid hB; have F0 := Lib.hid f0; have H := Lib.hid h; have Hq := Lib.hid hq; have Hz := Lib.hid (show w.heap.size ≤ z by omega)
  have Hg := Lib.hid hg
  have hsm : (b.seats : Int) ≤ 1024 := by have := h.raw.s1; omega
  have hcm : (b.codes : Int) ≤ 4096 := by have := h.raw.c1; omega
  have hlm : (b.L.length : Int) ≤ 4096 := by have := h.raw.few; have := h.raw.c1; omega
  obtain ⟨ri, hri⟩ : ∃ ri, ri = r.id := ⟨_, rfl⟩
  obtain ⟨rs, hrs⟩ : ∃ rs, rs = r.seat := ⟨_, rfl⟩
  obtain ⟨rt, hrt⟩ : ∃ rt, rt = r.till := ⟨_, rfl⟩
  obtain ⟨ll, hll⟩ : ∃ ll, ll = b.L.length := ⟨_, rfl⟩
  obtain ⟨bn, hbn⟩ : ∃ bn, bn = b.next := ⟨_, rfl⟩
  have hsame : holdE b r ≠ 0 → holdB b r = b := fun e => if_neg e
  have Hsame := Lib.hid (fun (e : holdE b r ≠ 0) (w' : World) (f : Fr (fun _ => False) w w') => show Aft p bb (holdB b r) w w' from by rw [hsame e]; exact Aft.same H.out f)
  rw [← hri] at z1; rw [← hrs] at z2; rw [← hrt] at z3; rw [← hbn] at c5; rw [← hll] at hlm
  have Hri := Lib.hid hri; have Hrs := Lib.hid hrs; have Hrt := Lib.hid hrt; have Hll := Lib.hid hll; have Hbn := Lib.hid hbn
  have HE := Lib.hid (show holdE b r = if ri ≠ bn then 2 else if (b.seats : Int) ≤ rs then 140 else if rt ≤ b.clock then 173 else if (bSeat b.L rs).isSome then 170 else if b.codes ≤ ll ∨ bn = 4294967295 then 6 else 0 from by rw [hri, hrs, hrt, hll, hbn]; rfl)
  have hn1 : bn < 4294967296 := by rw [hbn]; exact h.raw.n1
  have Hn1 := Lib.hid hn1
  clear f0 hg hB h hr hk hq hsame hri hrs hrt hll hbn hn1
  by_cases e1 : ri = bn
  · obtain rfl := e1
    have b1 : ((ri : Int) != (ri : Int)) = false := by simp
    by_cases e2 : (b.seats : Int) ≤ rs
    · have b2 : decide ((b.seats : Int) ≤ rs) = true := by simpa using e2
      have HC := Lib.hid e2
      clear e2
      go_enter Tryz.func80, Tryz.ntmps80
      go_upto_region 1 with fail
      rw [← hW]
      rw [← hz]
      clear hW hz
      go_region_held3 (fun w' => w'.cell? ⟨z, 1, none⟩ = some (.int .u32 (ri : Int)) ∧ w'.cell? ⟨bb, 5, none⟩ = some (.int .u32 (ri : Int))) (go_keep) (fail)
      go_upto_region 3 with fail
      go_region_held3 (fun w' => w'.cell? ⟨z, 2, none⟩ = some (.int .i64 rs) ∧ w'.cell? ⟨bb, 0, none⟩ = some (.int .i64 (b.seats : Int))) (go_keep) (fail)
      go_wp2_with fail
      go_ret
      have he : holdE b r = 140 := by rw [HE.out, if_neg (by simp), if_pos HC.out]
      exact ⟨by rw [he]; rfl, Hsame.out (by rw [he]; decide) _ (F0.out.trans (G := fun _ => False) (by exact ⟨rfl, rfl, rfl, Nat.le_refl _, fun _ _ _ => rfl⟩) (fun _ _ h => h))⟩
    · have b2 : decide ((b.seats : Int) ≤ rs) = false := by simpa using e2
      have HC2 := Lib.hid (show ¬ (b.seats : Int) ≤ rs from e2)
      clear e2
      by_cases e3 : rt ≤ b.clock
      · have b3 : decide (rt ≤ b.clock) = true := by simpa using e3
        have HC := Lib.hid e3
        clear e3
        go_enter Tryz.func80, Tryz.ntmps80
        go_upto_region 1 with fail
        rw [← hW]
        rw [← hz]
        clear hW hz
        go_region_held3 (fun w' => w'.cell? ⟨z, 1, none⟩ = some (.int .u32 (ri : Int)) ∧ w'.cell? ⟨bb, 5, none⟩ = some (.int .u32 (ri : Int))) (go_keep) (fail)
        go_upto_region 3 with fail
        go_region_held3 (fun w' => w'.cell? ⟨z, 2, none⟩ = some (.int .i64 rs) ∧ w'.cell? ⟨bb, 0, none⟩ = some (.int .i64 (b.seats : Int))) (go_keep) (fail)
        go_upto_region 5 with fail
        go_region_held3 (fun w' => w'.cell? ⟨z, 3, none⟩ = some (.int .i64 rt) ∧ w'.cell? ⟨bb, 4, none⟩ = some (.int .i64 b.clock)) (go_keep) (fail)
        go_wp2_with fail
        go_ret
        have he : holdE b r = 173 := by rw [HE.out, if_neg (by simp), if_neg (by have := HC2.out; omega), if_pos HC.out]
        exact ⟨by rw [he]; rfl, Hsame.out (by rw [he]; decide) _ (F0.out.trans (G := fun _ => False) (by exact ⟨rfl, rfl, rfl, Nat.le_refl _, fun _ _ _ => rfl⟩) (fun _ _ h => h))⟩
      · have b3 : decide (rt ≤ b.clock) = false := by simpa using e3
        have HC3 := Lib.hid (show ¬ rt ≤ b.clock from e3)
        clear e3
        have hs0 : 0 ≤ rs := by rw [Hrs.out]; exact Hq.out.2.1
        have HH0 : ∀ w', Fr (fun _ => False) W w' → Calls Tryz.prog 85 #[.pointer (some ⟨p.tp, 0, none⟩), .int .i64 rs] w' fun e w'' => e = .returned (.bool (bSeat b.L rs).isSome) ∧ w' = w'' := fun w' f => has_seat (HB.out.keep f) hs0 (by have := HC2.out; omega)
        obtain ⟨tk, htk⟩ : ∃ tk, tk = (bSeat b.L rs).isSome := ⟨_, rfl⟩
        rw [← htk] at HH0
        have HH := Lib.hid HH0; have Htk := Lib.hid htk
        clear HH0 htk hs0
        cases tk with
        | true =>
          go_enter Tryz.func80, Tryz.ntmps80
          go_upto_region 1 with fail
          rw [← hW]
          rw [← hz]
          clear hW hz
          go_region_held3 (fun w' => w'.cell? ⟨z, 1, none⟩ = some (.int .u32 (ri : Int)) ∧ w'.cell? ⟨bb, 5, none⟩ = some (.int .u32 (ri : Int))) (go_keep) (fail)
          go_upto_region 3 with fail
          go_region_held3 (fun w' => w'.cell? ⟨z, 2, none⟩ = some (.int .i64 rs) ∧ w'.cell? ⟨bb, 0, none⟩ = some (.int .i64 (b.seats : Int))) (go_keep) (fail)
          go_upto_region 5 with fail
          go_region_held3 (fun w' => w'.cell? ⟨z, 3, none⟩ = some (.int .i64 rt) ∧ w'.cell? ⟨bb, 4, none⟩ = some (.int .i64 b.clock)) (go_keep) (fail)
          go_upto_region 7 with fail
          go_region_held3 (fun w' => w'.cell? ⟨bb, 6, none⟩ = some (.pointer (some ⟨p.tp, 0, none⟩)) ∧ w'.cell? ⟨z, 2, none⟩ = some (.int .i64 rs)) (go_keep)
            (first | (go_at_call 85; refine (HH.out _ (by exact ⟨rfl, rfl, rfl, Nat.le_refl _, fun _ _ _ => rfl⟩)).mono ?_; rintro e w4 ⟨rfl, rfl⟩))
          go_wp2_with fail
          go_ret
          have he : holdE b r = 170 := by rw [HE.out, if_neg (by simp), if_neg (by have := HC2.out; omega), if_neg (by have := HC3.out; omega), if_pos Htk.out.symm]
          exact ⟨by rw [he]; rfl, Hsame.out (by rw [he]; decide) _ (F0.out.trans (G := fun _ => False) (by exact ⟨rfl, rfl, rfl, Nat.le_refl _, fun _ _ _ => rfl⟩) (fun _ _ h => h))⟩
        | false =>
          have HN := Lib.hid (show ∀ w', Fr (fun _ => False) W w' → Calls Tryz.prog 86 #[.pointer (some ⟨p.ip, 0, none⟩)] w' fun e w'' => e = .returned (.int .i64 (ll : Int)) ∧ w' = w'' from fun w' f => by
            have := Ix.len_ok (HB.out.keep f).idx
            rw [show (idsOf b.L).length = ll by rw [Hll.out]; simp [idsOf]] at this; exact this)
          have Ht0 := Lib.hid (show ¬ (bSeat b.L rs).isSome = true from by rw [← Htk.out]; simp)
          by_cases e4 : b.codes ≤ ll
          · have b4 : decide ((b.codes : Int) ≤ (ll : Int)) = true := by simpa using e4
            have b4' : decide (b.codes ≤ ll) = true := by simpa using e4
            have HC := Lib.hid e4
            clear e4
            go_enter Tryz.func80, Tryz.ntmps80
            go_upto_region 1 with fail
            rw [← hW]
            rw [← hz]
            clear hW hz
            go_region_held3 (fun w' => w'.cell? ⟨z, 1, none⟩ = some (.int .u32 (ri : Int)) ∧ w'.cell? ⟨bb, 5, none⟩ = some (.int .u32 (ri : Int))) (go_keep) (fail)
            go_upto_region 3 with fail
            go_region_held3 (fun w' => w'.cell? ⟨z, 2, none⟩ = some (.int .i64 rs) ∧ w'.cell? ⟨bb, 0, none⟩ = some (.int .i64 (b.seats : Int))) (go_keep) (fail)
            go_upto_region 5 with fail
            go_region_held3 (fun w' => w'.cell? ⟨z, 3, none⟩ = some (.int .i64 rt) ∧ w'.cell? ⟨bb, 4, none⟩ = some (.int .i64 b.clock)) (go_keep) (fail)
            go_upto_region 7 with fail
            go_region_held3 (fun w' => w'.cell? ⟨bb, 6, none⟩ = some (.pointer (some ⟨p.tp, 0, none⟩)) ∧ w'.cell? ⟨z, 2, none⟩ = some (.int .i64 rs)) (go_keep)
              (first | (go_at_call 85; refine (HH.out _ (by exact ⟨rfl, rfl, rfl, Nat.le_refl _, fun _ _ _ => rfl⟩)).mono ?_; rintro e w4 ⟨rfl, rfl⟩))
            go_upto_region 9 with fail
            go_region_held3 (fun w' => w'.cell? ⟨bb, 7, none⟩ = some (.pointer (some ⟨p.ip, 0, none⟩)) ∧ w'.cell? ⟨bb, 1, none⟩ = some (.int .i64 (b.codes : Int))) (go_keep)
              (first | (go_at_call 86; refine (HN.out _ (by exact ⟨rfl, rfl, rfl, Nat.le_refl _, fun _ _ _ => rfl⟩)).mono ?_; rintro e w4 ⟨rfl, rfl⟩))
            go_wp2_with fail
            go_ret
            have he : holdE b r = 6 := by rw [HE.out, if_neg (by simp), if_neg (by have := HC2.out; omega), if_neg (by have := HC3.out; omega), if_neg Ht0.out, if_pos (.inl HC.out)]
            exact ⟨by rw [he]; rfl, Hsame.out (by rw [he]; decide) _ (F0.out.trans (G := fun _ => False) (by exact ⟨rfl, rfl, rfl, Nat.le_refl _, fun _ _ _ => rfl⟩) (fun _ _ h => h))⟩
          · have b4 : decide ((b.codes : Int) ≤ (ll : Int)) = false := by simp; omega
            have b4' : decide (b.codes ≤ ll) = false := by simpa using e4
            have HC4 := Lib.hid e4
            clear e4
            by_cases e5 : ri = 4294967295
            · have b5 : ((ri : Int) == 4294967295) = true := by rw [e5]; rfl
              have HC := Lib.hid e5
              clear e5
              go_enter Tryz.func80, Tryz.ntmps80
              go_upto_region 1 with fail
              rw [← hW]
              rw [← hz]
              clear hW hz
              go_region_held3 (fun w' => w'.cell? ⟨z, 1, none⟩ = some (.int .u32 (ri : Int)) ∧ w'.cell? ⟨bb, 5, none⟩ = some (.int .u32 (ri : Int))) (go_keep) (fail)
              go_upto_region 3 with fail
              go_region_held3 (fun w' => w'.cell? ⟨z, 2, none⟩ = some (.int .i64 rs) ∧ w'.cell? ⟨bb, 0, none⟩ = some (.int .i64 (b.seats : Int))) (go_keep) (fail)
              go_upto_region 5 with fail
              go_region_held3 (fun w' => w'.cell? ⟨z, 3, none⟩ = some (.int .i64 rt) ∧ w'.cell? ⟨bb, 4, none⟩ = some (.int .i64 b.clock)) (go_keep) (fail)
              go_upto_region 7 with fail
              go_region_held3 (fun w' => w'.cell? ⟨bb, 6, none⟩ = some (.pointer (some ⟨p.tp, 0, none⟩)) ∧ w'.cell? ⟨z, 2, none⟩ = some (.int .i64 rs)) (go_keep)
                (first | (go_at_call 85; refine (HH.out _ (by exact ⟨rfl, rfl, rfl, Nat.le_refl _, fun _ _ _ => rfl⟩)).mono ?_; rintro e w4 ⟨rfl, rfl⟩))
              go_upto_region 9 with fail
              go_region_held3 (fun w' => w'.cell? ⟨bb, 7, none⟩ = some (.pointer (some ⟨p.ip, 0, none⟩)) ∧ w'.cell? ⟨bb, 1, none⟩ = some (.int .i64 (b.codes : Int))) (go_keep)
                (first | (go_at_call 86; refine (HN.out _ (by exact ⟨rfl, rfl, rfl, Nat.le_refl _, fun _ _ _ => rfl⟩)).mono ?_; rintro e w4 ⟨rfl, rfl⟩))
              go_wp2_with fail
              go_ret
              have he : holdE b r = 6 := by rw [HE.out, if_neg (by simp), if_neg (by have := HC2.out; omega), if_neg (by have := HC3.out; omega), if_neg Ht0.out, if_pos (.inr HC.out)]
              exact ⟨by rw [he]; rfl, Hsame.out (by rw [he]; decide) _ (F0.out.trans (G := fun _ => False) (by exact ⟨rfl, rfl, rfl, Nat.le_refl _, fun _ _ _ => rfl⟩) (fun _ _ h => h))⟩
            · have b5 : ((ri : Int) == 4294967295) = false := by simp; omega
              have hs0 : 0 ≤ rs := by rw [Hrs.out]; exact Hq.out.2.1
              obtain ⟨j, rfl⟩ : ∃ j : Nat, rs = (j : Int) := ⟨rs.toNat, by omega⟩
              have he : holdE b r = 0 := by rw [HE.out, if_neg (by simp), if_neg (by have := HC2.out; omega), if_neg (by have := HC3.out; omega), if_neg Ht0.out, if_neg (by rintro (h | h); exact HC4.out h; exact e5 h)]
              have hB' : holdB b r = { b with L := b.L ++ [(ri, (j : Int), rt)], next := ri + 1 } := by
                unfold holdB; rw [if_pos he, ← Hri.out, ← Hrs.out, ← Hrt.out, ← Hbn.out]
              have hraw : Raw { b with L := b.L ++ [(ri, (j : Int), rt)], next := ri + 1 } :=
                H.out.raw.put (x := (ri, (j : Int), rt)) (by rw [← Hbn.out]; omega) (by have := Hn1.out; omega) ⟨by simp only; have := H.out.raw.n0; have := Hbn.out; omega, by simp⟩ (fun y hy => by have := (H.out.raw.ids y hy).2; have := Hbn.out; simp only; omega)
                  ⟨by simp only; omega, by simp only; have := HC2.out; omega⟩ (bSeat_free (by rw [← Htk.out])) ⟨by simp only; rw [Hrt.out]; have := Hq.out.2.2.2.1; omega, by simp only; rw [Hrt.out]; exact Hq.out.2.2.2.2⟩ (by have := HC4.out; have := Hll.out; omega)
              have HP := Lib.hid (fun (w' : World) (f : Fr (fun _ => False) W w') => put_ok (n := ri + 1) (HB.out.keep f) hraw (fun y hy => by have := (H.out.raw.ids y hy).2; have := Hbn.out; omega) (bSeat_free (by rw [← Htk.out])) (by have := H.out.nh; have := Hbn.out; omega))
              have B7 := Lib.hid (show IntKind.u32.wrap ((ri : Int) + 1) = (ri : Int) + 1 by rw [IntKind.wrap_u32]; have := Hn1.out; omega)
              have b2n : decide (b.seats ≤ j) = false := by have := HC2.out; simp; omega
              have b5n : (ri == 4294967295) = false := by simpa using e5
              have b5d : decide (ri = 4294967295) = false := by simpa using e5
              have He := Lib.hid he; have HB' := Lib.hid hB'
              clear e5 hs0 he hB' hraw
              go_enter Tryz.func80, Tryz.ntmps80
              go_upto_region 1 with fail
              rw [← hW]
              rw [← hz]
              clear hW hz
              go_region_held3 (fun w' => w'.cell? ⟨z, 1, none⟩ = some (.int .u32 (ri : Int)) ∧ w'.cell? ⟨bb, 5, none⟩ = some (.int .u32 (ri : Int))) (go_keep) (fail)
              go_upto_region 3 with fail
              go_region_held3 (fun w' => w'.cell? ⟨z, 2, none⟩ = some (.int .i64 (j : Int)) ∧ w'.cell? ⟨bb, 0, none⟩ = some (.int .i64 (b.seats : Int))) (go_keep) (fail)
              go_upto_region 5 with fail
              go_region_held3 (fun w' => w'.cell? ⟨z, 3, none⟩ = some (.int .i64 rt) ∧ w'.cell? ⟨bb, 4, none⟩ = some (.int .i64 b.clock)) (go_keep) (fail)
              go_upto_region 7 with fail
              go_region_held3 (fun w' => w'.cell? ⟨bb, 6, none⟩ = some (.pointer (some ⟨p.tp, 0, none⟩)) ∧ w'.cell? ⟨z, 2, none⟩ = some (.int .i64 (j : Int))) (go_keep)
                (first | (go_at_call 85; refine (HH.out _ (by exact ⟨rfl, rfl, rfl, Nat.le_refl _, fun _ _ _ => rfl⟩)).mono ?_; rintro e w4 ⟨rfl, rfl⟩))
              go_upto_region 9 with fail
              go_region_held3 (fun w' => w'.cell? ⟨bb, 7, none⟩ = some (.pointer (some ⟨p.ip, 0, none⟩)) ∧ w'.cell? ⟨bb, 1, none⟩ = some (.int .i64 (b.codes : Int))) (go_keep)
                (first | (go_at_call 86; refine (HN.out _ (by exact ⟨rfl, rfl, rfl, Nat.le_refl _, fun _ _ _ => rfl⟩)).mono ?_; rintro e w4 ⟨rfl, rfl⟩))
              go_wp2_with fail
              refine (HP.out _ (by exact ⟨rfl, rfl, rfl, Nat.le_refl _, fun _ _ _ => rfl⟩)).mono ?_
              rintro e w1 ⟨rfl, q, hq1, f1, ho, hnh⟩
              have c5' := hq1.c.2.2.2.2.2.1
              rw [← Hbn.out] at c5'
              have y5 := hq1.z 5
              have Hs := Lib.hid (hq1.setNext (ri + 1))
              have Fq := Lib.hid (show Fr (p.own bb) w (w1.setCell ⟨bb, 5, none⟩ (.int .u32 ((ri + 1 : Nat) : Int))) from
                ((F0.out.mono (fun _ _ h => h.elim) : Fr (p.own bb) w W).trans (G := p.own bb) ⟨f1.os, f1.tape, f1.output, f1.size, f1.blk⟩ (fun _ _ h => h)).setCell (p := ⟨bb, 5, none⟩) (fun _ => .inl rfl) _)
              have Ho := Lib.hid ho
              have ec : ((ri + 1 : Nat) : Int) = (ri : Int) + 1 := by omega
              rw [ec] at Hs Fq
              have Hfin := Lib.hid (show Aft p bb (holdB b r) w (w1.setCell ⟨bb, 5, none⟩ (.int .u32 ((ri : Int) + 1))) from by
                rw [HB'.out]
                exact ⟨q, Hs.out, Fq.out, fun y hy => (Ho.out y hy).imp (fun h => h) (fun h => Nat.le_trans F0.out.size h)⟩)
              have b7 := B7.out
              clear hq1 f1 ho hnh ec b5 b5n b5d c0 c1 c4 c5 c6 c7 z1 z2 z3
              go_wp2_with fail
              go_ret
              exact ⟨by rw [He.out]; rfl, Hfin.out⟩
  · have b1 : ((ri : Int) != (bn : Int)) = true := by simp; omega
    have HC := Lib.hid e1
    clear e1
    go_enter Tryz.func80, Tryz.ntmps80
    go_upto_region 1 with fail
    rw [← hW]
    rw [← hz]
    clear hW hz
    go_region_held3 (fun w' => w'.cell? ⟨z, 1, none⟩ = some (.int .u32 (ri : Int)) ∧ w'.cell? ⟨bb, 5, none⟩ = some (.int .u32 (bn : Int))) (go_keep) (fail)
    go_wp2_with fail
    go_ret
    have he : holdE b r = 2 := by rw [HE.out, if_pos HC.out]
    exact ⟨by rw [he]; rfl, Hsame.out (by rw [he]; decide) _ (F0.out.trans (G := fun _ => False) (by exact ⟨rfl, rfl, rfl, Nat.le_refl _, fun _ _ _ => rfl⟩) (fun _ _ h => h))⟩
end Go.Proofs.YtebdcahjlcgonaaGreat.Bk
namespace Go.Proofs.YtebdcahjlcgonaaGreat.Bk
open Go.RowKit
theorem tick_all {L : List Bo} {c : Int} (h : ∀ x ∈ L, x.2.2 = 0 ∨ c < x.2.2) : bTick L c = L := by
  unfold bTick
  rw [List.filter_eq_self]
  intro x hx; simpa using h x hx
theorem tick_drop {L : List Bo} (hu : L.Pairwise fun x y => x.1 < y.1) {c : Int} {x : Bo} (hx : x ∈ L) (h0 : 0 < x.2.2) (h1 : x.2.2 ≤ c) : bTick (bDrop L x.1) c = bTick L c := by
  unfold bTick bDrop
  rw [List.filter_filter]
  apply List.filter_congr
  intro y hy
  by_cases e : y.1 = x.1
  · obtain rfl := uniq_id hu hy hx e
    have : decide (y.2.2 = 0 ∨ c < y.2.2) = false := by simp; omega
    rw [this]; rfl
  · simp [e]
theorem drop_less {L : List Bo} {x : Bo} (hx : x ∈ L) : (bDrop L x.1).length < L.length := by
  unfold bDrop
  rw [List.length_filter_lt_length_iff_exists]
  exact ⟨x, hx, by simp⟩
set_option maxRecDepth 100000 in
set_option maxHeartbeats 4000000 in
theorem tick_ok {p : Pt} {bb : Nat} {b : Bk} {w : World} (h : BkP p bb b.next b b.L b.L w) {c : Int} (k0 : 1 ≤ c) (k1 : c ≤ 1099511627776) :
    Calls Tryz.prog 81 #[.pointer (some ⟨bb, 0, none⟩), .int .i64 c] w fun e w' => e = .returned (.int .i64 (tickE b c : Nat)) ∧ Aft p bb (tickB b c) w w' := by
  have c4 := h.c.2.2.2.2.1
  have y4 := h.z 4
  by_cases hle : c ≤ b.clock
  · have b1 : decide (c ≤ b.clock) = true := by simpa using hle
    have hE : tickE b c = 173 := if_pos hle
    have hB : tickB b c = b := if_pos hle
    rw [hE, hB]
    have H := Lib.hid h
    clear h hle hE hB
    go_enter Tryz.func81, Tryz.ntmps81
    go_wp2_with fail
    go_ret
    exact ⟨rfl, Aft.same H.out (Fr.refl _ _)⟩
  · have b1 : decide (c ≤ b.clock) = false := by simpa using hle
    have hE : tickE b c = 0 := if_neg hle
    have hB : tickB b c = { b with L := bTick b.L c, clock := c } := if_neg hle
    rw [hE, hB]
    have hs := h.setClock (c := c) (by omega) k1
    have HS := Lib.hid hs
    have F0 := Lib.hid (show Fr (p.own bb) w (w.setCell ⟨bb, 4, none⟩ (.int .i64 c)) from (Fr.refl _ _).setCell (p := ⟨bb, 4, none⟩) (fun _ => .inl rfl) _)
    have H := Lib.hid h
    clear h hs hle hE hB
    go_enter Tryz.func81, Tryz.ntmps81
    go_wp2_with fail
    go_loopg [] (b.L.length) (fun k wr => ∃ (q : Pt) (M : List Bo), BkP q bb b.next { b with clock := c, L := M } M M wr ∧ bTick M c = bTick b.L c ∧ M.length ≤ k ∧ Fr (p.own bb) w wr ∧ ∀ y, q.own bb y → p.own bb y ∨ w.heap.size ≤ y)
    case atStart => exact ⟨p, b.L, HS.out, rfl, Nat.le_refl _, F0.out, fun _ h => .inl h⟩
    case round =>
      obtain ⟨q, M, hq, hM, hk, hf, ho⟩ := hrel
      have HQ := Lib.hid hq; have HM := Lib.hid hM; have Hk := Lib.hid hk; have Hf := Lib.hid hf; have Ho := Lib.hid ho
      have c9 := hq.c.2.2.2.2.2.2.2.2.2.1
      have hfin : (∀ x ∈ M, x.2.2 = 0 ∨ c < x.2.2) → ∀ w' : World, Fr (fun _ => False) wr w' → Aft p bb { b with L := bTick b.L c, clock := c } w w' := fun hx w' f => by
        rw [← HM.out, tick_all hx]
        exact ⟨q, HQ.out.keep f, Hf.out.trans f (fun _ _ h => h.elim), Ho.out⟩
      have HFin := Lib.hid hfin
      clear hM hk hf ho hfin
      have hidl : ∀ x ∈ M, x.1 < 4294967296 := hq.raw.idlt
      rcases hq.due.next hidl with ⟨h0, h1⟩ | ⟨h0, h1, h2⟩
      · have hh := hq.heap
        rw [h0] at hh
        have HL := Lib.hid (Du.least_none less_ok hh)
        have HN := Lib.hid (show ∀ x ∈ M, x.2.2 = 0 ∨ c < x.2.2 from fun x hx => by
          left
          have s1 := (hq.raw.till x hx).1
          have s2 := (bDue_spec M).2.2 x hx
          omega)
        clear hq h0 h1 hh hidl
        go_wp2_with fail
        refine HL.out.mono ?_
        rintro e w1 ⟨rfl, f1⟩
        have F1 := Lib.hid f1
        clear f1 c9
        go_wp2_with fail
        go_ret
        exact ⟨rfl, HFin.out HN.out _ (F1.out.alloc _)⟩
      · have hl0 : 0 < q.H.length := List.length_pos_iff.2 h0
        obtain ⟨x, hx, ht, e1, e2, e3⟩ := hq.due.mem hidl (itAt_mem hl0)
        have hl := Du.least_some less_ok hq.heap h0
        simp only [Du.dueT, e1, e2] at hl
        have HL := Lib.hid hl
        obtain ⟨xi, xs, xt⟩ := x
        simp only at HL
        have hd : bDue M = xt := by rw [h2, e1]
        by_cases hct : c < xt
        · have b2 : decide (c < xt) = true := by simpa using hct
          have HN := Lib.hid (show ∀ x ∈ M, x.2.2 = 0 ∨ c < x.2.2 from fun x hx => by
            have s1 := (hq.raw.till x hx).1
            have s2 := (bDue_spec M).2.2 x hx
            omega)
          clear hq h0 h1 h2 hidl hl0 hx ht e1 e2 e3 hl hd hct
          go_wp2_with fail
          refine HL.out.mono ?_
          rintro e w1 ⟨rfl, f1⟩
          have F1 := Lib.hid f1
          clear f1 c9
          go_wp2_with fail
          go_ret
          exact ⟨rfl, HFin.out HN.out _ (F1.out.alloc _)⟩
        · have b2 : decide (c < xt) = false := by simpa using hct
          have hxi : xi < 4294967296 := hidl _ hx
          have hfx : bFind M xi = some (xi, xs, xt) := (bFind_some hq.raw.up).2 hx
          have Hx := Lib.hid hx
          have Hup := Lib.hid hq.raw.up
          have HT := Lib.hid (show bTick (bDrop M xi) c = bTick M c from tick_drop hq.raw.up hx ht (by simp only; omega))
          have HLs := Lib.hid (drop_less hx)
          have Hxi := Lib.hid hxi; have Hfx := Lib.hid hfx
          clear hq h0 h1 h2 hidl hl0 hx ht e1 e2 e3 hl hd hct hxi hfx
          go_wp2_with fail
          refine HL.out.mono ?_
          rintro e w1 ⟨rfl, f1⟩
          have F1 := Lib.hid (f1.alloc (.cells #[.int .i64 xt, .int .u32 (xi : Int)] 114))
          have HG := Lib.hid (get_ok (HQ.out.keep F1.out) (id := xi) Hxi.out)
          rw [show bFind ({ b with clock := c, L := M } : Bk).L xi = some (xi, xs, xt) from Hfx.out] at HG
          clear f1 c9
          go_wp2_with fail
          refine HG.out.mono ?_
          rintro e w2 ⟨rfl, ⟨st, hq2⟩, f2⟩
          have F2 := Lib.hid (f2.alloc (.cells #[.int .u32 (xi : Int), .int .i64 xs, .int .i64 xt] 77))
          have HD := Lib.hid (drop_ok (b := { b with clock := c, L := M }) (hq2.keep (Fr.alloc (Fr.refl (fun _ => False) _) (.cells #[.int .u32 (xi : Int), .int .i64 xs, .int .i64 xt] 77))) Hx.out)
          clear hq2 f2
          unfold getE
          go_wp2_with fail
          refine HD.out.mono ?_
          rintro e w3 ⟨rfl, q3, hq3, f3, ho3⟩
          have HQ3 := Lib.hid hq3
          have Ff := Lib.hid (show Fr (p.own bb) w w3 from by
            have g1 : Fr (p.own bb) w _ := Hf.out.trans F1.out (fun _ _ h => h.elim)
            have g2 := g1.trans F2.out (fun y hy e => by
              rcases Ho.out y (by rw [e]; exact Pt.ownI (.inl rfl)) with h | h
              · exact h
              · omega)
            exact g2.trans f3 (fun y hy e => by
              rcases Ho.out y e with h | h
              · exact h
              · omega))
          have Ho3 := Lib.hid (show ∀ y, q3.own bb y → p.own bb y ∨ w.heap.size ≤ y from fun y hy => Ho.out y (ho3 y hy))
          clear hq3 f3 ho3
          go_wp2_with fail
          go_roundg (bDrop M xi).length
          case measure => exact Nat.lt_of_lt_of_le HLs.out Hk.out
          case rel => exact ⟨q3, _, HQ3.out, HT.out.trans HM.out, Nat.le_refl _, Ff.out, Ho3.out⟩
end Go.Proofs.YtebdcahjlcgonaaGreat.Bk
namespace Go.Proofs.YtebdcahjlcgonaaGreat.Bk
open Go.RowKit
section
variable {b : Bk} (h : Raw b) {xi : Nat} {i j : Nat} {xt : Int} (hx : (xi, (i : Int), xt) ∈ b.L) (h1 : (j : Int) < (b.seats : Int)) (hf : ∀ y ∈ b.L, y.2.1 ≠ (j : Int))
include h hx h1 hf
theorem taken_move : takenOf b.seats (bMove b.L xi (j : Int)) = ((takenOf b.seats b.L).set i false).set j true := by
  have hs := seat_move h hx (q := (j : Int)) (by omega) h1 hf
  have hij : i ≠ j := fun e => hf _ hx (by simp [e])
  have e1 : takenOf b.seats (bDrop b.L xi) = (takenOf b.seats b.L).set i false := taken_drop h hx rfl
  rw [← e1]
  refine takenOf_set (fun k hk => ?_) ?_
  · rw [hs, if_neg (by omega)]
    have := seat_drop h hx (k : Int)
    simp only at this
    rw [this]
  · rw [hs, if_pos rfl]; rfl
theorem seats_move : seatsOf b.seats (bMove b.L xi (j : Int)) = ((seatsOf b.seats b.L).set i (0, 0, 0)).set j (xi, (j : Int), xt) := by
  have hs := seat_move h hx (q := (j : Int)) (by omega) h1 hf
  have e1 : seatsOf b.seats (bDrop b.L xi) = (seatsOf b.seats b.L).set i (0, 0, 0) := seats_drop h hx rfl
  rw [← e1]
  refine seatsOf_set (fun k hk => ?_) ?_
  · rw [hs, if_neg (by omega)]
    have := seat_drop h hx (k : Int)
    simp only at this
    rw [this]
  · rw [hs, if_pos rfl]; rfl
end
set_option maxRecDepth 100000 in
set_option maxHeartbeats 4000000 in
theorem reseat_ok {p : Pt} {bb : Nat} {b : Bk} {w : World} (h : BkP p bb b.next b b.L b.L w) {x : Bo} (hx : x ∈ b.L) {k : Int} (k0 : 0 ≤ k) :
    Calls Tryz.prog 84 #[.pointer (some ⟨bb, 0, none⟩), boV x, .int .i64 k] w fun e w' => e = .returned (.int .i64 (seatE b x k : Nat)) ∧ Aft p bb (seatB b x k) w w' := by
  obtain ⟨xi, xs, xt⟩ := x
  have hat := h.raw.at_ _ hx
  obtain ⟨i, rfl⟩ : ∃ i : Nat, xs = (i : Int) := ⟨xs.toNat, by simp only at hat; omega⟩
  obtain ⟨j, rfl⟩ : ∃ j : Nat, k = (j : Int) := ⟨k.toNat, by omega⟩
  have his : i < b.seats := by have := hat.2; simp only at this; omega
  have hxi : xi < 4294967296 := h.raw.idlt _ hx
  obtain ⟨W, hW⟩ : ∃ W, W = w.alloc (.cells #[.int .u32 (xi : Int), .int .i64 (i : Int), .int .i64 xt] 77) := ⟨_, rfl⟩
  obtain ⟨z, hz⟩ : ∃ z, z = w.heap.size := ⟨_, rfl⟩
  have f0 : Fr (fun _ => False) w W := by rw [hW]; exact Fr.alloc (Fr.refl _ _) _
  have hg : W.heap[z]? = some (.cells #[.int .u32 (xi : Int), .int .i64 (i : Int), .int .i64 xt] 77 (0, 0)) := by rw [hW, hz]; exact heap_alloc_at _ _
  have hB := h.keep f0
  have c0 := hB.c.1
  have hsm : (b.seats : Int) ≤ 1024 := by have := h.raw.s1; omega
  have z1 := (cell_of hg 1).trans (show _ = some (Value.int .i64 (i : Int)) from rfl)
  have H := Lib.hid h; have HB := Lib.hid hB; have F0 := Lib.hid f0; have Hg := Lib.hid hg; have Hx := Lib.hid hx; have HZ := Lib.hid (show w.heap.size ≤ z by omega)
  by_cases e1 : b.seats ≤ j
  · have b1 : decide ((b.seats : Int) ≤ (j : Int)) = true := by simpa using e1
    have b1n : decide (b.seats ≤ j) = true := by simpa using e1
    have hE : seatE b (xi, (i : Int), xt) (j : Int) = 140 := if_pos (by omega)
    have hBb : seatB b (xi, (i : Int), xt) (j : Int) = b := by unfold seatB; rw [if_neg (by rw [hE]; decide)]
    rw [hE, hBb]
    clear f0 hg hB h hx hat e1 hE hBb
    go_enter Tryz.func84, Tryz.ntmps84
    go_upto_region 1 with fail
    rw [← hW, ← hz]
    clear hW hz
    go_wp2_with fail
    go_ret
    exact ⟨rfl, Aft.same H.out F0.out⟩
  · have b1 : decide ((b.seats : Int) ≤ (j : Int)) = false := by simp; omega
    have b1n : decide (b.seats ≤ j) = false := by simpa using e1
    by_cases e2 : j = i
    · subst e2
      have b2 : ((j : Int) == (j : Int)) = true := by simp
      have hE : seatE b (xi, (j : Int), xt) (j : Int) = 0 := by unfold seatE; rw [if_neg (by omega), if_pos rfl]
      have hBb : seatB b (xi, (j : Int), xt) (j : Int) = b := by
        unfold seatB; rw [if_pos hE]
        have : bMove b.L xi (j : Int) = b.L := by
          unfold bMove
          conv => rhs; rw [← List.map_id b.L]
          apply List.map_congr_left
          intro y hy
          by_cases e : y.1 = xi
          · rw [if_pos e]
            obtain rfl := uniq_id h.raw.up hy hx e
            rfl
          · rw [if_neg e]; rfl
        rw [this]
      rw [hE, hBb]
      clear f0 hg hB h hx hat e1 hE hBb
      go_enter Tryz.func84, Tryz.ntmps84
      go_upto_region 1 with fail
      rw [← hW, ← hz]
      clear hW hz
      go_wp2_with fail
      go_ret
      exact ⟨rfl, Aft.same H.out F0.out⟩
    · have b2 : ((j : Int) == (i : Int)) = false := by simp; omega
      have b2n : (j == i) = false := by simpa using e2
      have c6 := hB.c.2.2.2.2.2.2.1
      have HH0 := has_seat hB (k := (j : Int)) (by omega) (by omega)
      obtain ⟨tk, htk⟩ : ∃ tk, tk = (bSeat b.L (j : Int)).isSome := ⟨_, rfl⟩
      rw [← htk] at HH0
      have HH := Lib.hid HH0
      clear HH0
      cases tk with
      | true =>
        have hE : seatE b (xi, (i : Int), xt) (j : Int) = 170 := by unfold seatE; rw [if_neg (by omega), if_neg (by simp only; omega), if_pos htk.symm]
        have hBb : seatB b (xi, (i : Int), xt) (j : Int) = b := by unfold seatB; rw [if_neg (by rw [hE]; decide)]
        rw [hE, hBb]
        clear f0 hg hB h hx hat e1 e2 hE hBb htk
        go_enter Tryz.func84, Tryz.ntmps84
        go_upto_region 1 with fail
        rw [← hW, ← hz]
        clear hW hz
        go_wp2_with fail
        refine HH.out.mono ?_
        rintro e w1 ⟨rfl, rfl⟩
        go_wp2_with fail
        go_ret
        exact ⟨rfl, Aft.same H.out F0.out⟩
      | false =>
        have hfr := bSeat_free htk.symm
        have hjs : j < b.seats := by omega
        have hE : seatE b (xi, (i : Int), xt) (j : Int) = 0 := by unfold seatE; rw [if_neg (by omega), if_neg (by simp only; omega), if_neg (by rw [← htk]; simp)]
        have hBb : seatB b (xi, (i : Int), xt) (j : Int) = { b with L := bMove b.L xi (j : Int) } := by unfold seatB; rw [if_pos hE]
        rw [hE, hBb]
        have hraw : Raw { b with L := bMove b.L xi (j : Int) } := h.raw.move (by omega) (by omega) (fun y hy e => absurd e (hfr y hy))
        obtain ⟨lab, hlb, h9⟩ := h.labs
        have hz9 : lab z = 9 := h9 z (by omega)
        have HL := Lib.hid hlb; have H9 := Lib.hid h9; have Hz9 := Lib.hid hz9
        have Hraw := Lib.hid hraw
        have hij : i ≠ j := fun e => e2 e.symm
        have HS := Lib.hid (drop_in (hB.set.fr (Fr.drew (Fr.refl (fun _ => False) _)) (fun h => h) (fun _ _ h => h)) (fun e => (hlb.l1v _ e).2 rfl) (j := i) (by rw [takenOf_length]; exact his))
        have HT := Lib.hid (taken_move h.raw hx (by omega) hfr); have HM := Lib.hid (seats_move h.raw hx (by omega) hfr)
        clear f0 hg hB h hx hat e1 hE hBb htk hraw hlb h9 hz9 hfr
        go_enter Tryz.func84, Tryz.ntmps84
        go_upto_region 1 with fail
        rw [← hW, ← hz]
        clear hW hz
        go_wp2_with fail
        refine HH.out.mono ?_
        rintro e w1 ⟨rfl, rfl⟩
        go_upto_region 7 with fail
        go_still_tail 6, (by kernel_rfl)
        go_wp2_with fail
        refine HS.out.mono ?_
        rintro e w2 ⟨rfl, hst, f2⟩
        have fl2 : Fr (fun x => lab x = 1) W w2 := (Fr.undrew f2).mono (fun x _ hx => (HL.out.l1v x hx).1)
        have F2 := Lib.hid (Fr.undrew f2); have Fl2 := Lib.hid fl2; have Hst := Lib.hid hst
        have Hd2 := Lib.hid (HL.out.head fl2 (by decide) HB.out.head)
        have Rw2 := Lib.hid (HL.out.row fl2 (by decide) HB.out.row)
        have Bx2 := Lib.hid (fl2.get Hg.out (fun e => by rw [Hz9.out] at e; cases e))
        clear hst f2 fl2 HS c6 c0 z1
        have c8 := (cell_of Hd2.out 8).trans (show _ = some p.sv from rfl)
        have z1 := (cell_of Bx2.out 1).trans (show _ = some (Value.int .i64 (i : Int)) from rfl)
        obtain ⟨g, cap, ev, q0, q1, q2⟩ := Bos.cells Rw2.out (k := i) (by rw [seatsOf_length]; exact his)
        rw [seatsOf_length] at ev
        have hgf : ∀ k, w2.frozen? ⟨g, k, none⟩ = false := by
          rcases Rw2.out.2 with ⟨_, h0⟩ | ⟨g', c', cur, e, _, q1, _⟩
          · rw [seatsOf_length] at h0; omega
          · rw [ev] at e
            obtain ⟨e1, _, _⟩ := Value.slice.inj e
            obtain rfl : g = g' := by simpa using e1
            exact free_of q1
        have y0 := hgf (i * 3); have y1 := hgf (i * 3 + 1); have y2 := hgf (i * 3 + 2)
        have hrow : Bos (((w2.setCell ⟨g, i * 3, none⟩ (.int .u32 0)).setCell ⟨g, i * 3 + 1, none⟩ (.int .i64 0)).setCell ⟨g, i * 3 + 2, none⟩ (.int .i64 0)) (.slice (some ⟨g, 0, none⟩) b.seats cap) ((seatsOf b.seats b.L).set i (0, 0, 0)) :=
          Bos.put (w := w2) (n := b.seats) (g := g) (cap := cap) (by rw [← ev]; exact Rw2.out) (p := i) (by rw [seatsOf_length]; exact his) (0, 0, 0)
        rw [ev] at c8
        have hgS : p.sv.ownBlock = some g := by rw [ev]; rfl
        have fs : Fr (fun x => x = g) w2 (((w2.setCell ⟨g, i * 3, none⟩ (.int .u32 0)).setCell ⟨g, i * 3 + 1, none⟩ (.int .i64 0)).setCell ⟨g, i * 3 + 2, none⟩ (.int .i64 0)) :=
          (((Fr.refl (fun y => y = g) _).setCell (p := ⟨g, i * 3, none⟩) (fun _ => rfl) _).setCell (p := ⟨g, i * 3 + 1, none⟩) (fun _ => rfl) _).setCell (p := ⟨g, i * 3 + 2, none⟩) (fun _ => rfl) _
        obtain ⟨w3, hw3⟩ : ∃ w3, w3 = (((w2.setCell ⟨g, i * 3, none⟩ (.int .u32 0)).setCell ⟨g, i * 3 + 1, none⟩ (.int .i64 0)).setCell ⟨g, i * 3 + 2, none⟩ (.int .i64 0)) := ⟨_, rfl⟩
        rw [← hw3] at hrow fs
        have fl3 : Fr (fun x => lab x = 3) w2 w3 := fs.mono (fun x _ hx => by rw [hx]; exact HL.out.l3 g hgS)
        have Hev := Lib.hid ev; have HgS := Lib.hid hgS; have Hrow := Lib.hid hrow; have Fs := Lib.hid fs; have Fl3 := Lib.hid fl3
        have Hd3 := Lib.hid (HL.out.head fl3 (by decide) Hd2.out)
        have hb3 := fl3.get Bx2.out (fun e => by rw [Hz9.out] at e; cases e)
        have St3 := Lib.hid (HL.out.set fl3 (by decide) Hst.out)
        have hsi : (i : Int) < (b.seats : Int) := by omega
        clear ev hgf hrow fs fl3 hgS
        go_upto_region 8 with fail
        go_still_tail 8, (by kernel_rfl)
        go_upto_region 9 with fail
        rw [← hw3]
        clear hw3 c8 z1 q0 q1 q2 y0 y1 y2
        have z1 := (cell_of hb3 1).trans (show _ = some (Value.int .i64 (i : Int)) from rfl)
        have yz := free_of hb3 1
        have fz : Fr (fun x => x = z) w3 (w3.setCell ⟨z, 1, none⟩ (.int .i64 (j : Int))) := Fr.setCell (F := fun x => x = z) (p := ⟨z, 1, none⟩) (Fr.refl _ _) (fun _ => rfl) _
        have hb4 := setCell_blk (o := 1) hb3 (.int .i64 (j : Int))
        obtain ⟨w4, hw4⟩ : ∃ w4, w4 = w3.setCell ⟨z, 1, none⟩ (.int .i64 (j : Int)) := ⟨_, rfl⟩
        rw [← hw4] at fz hb4
        have hb4 : w4.heap[z]? = some (.cells #[.int .u32 (xi : Int), .int .i64 (j : Int), .int .i64 xt] 77 (0, 0)) := by simpa using hb4
        have fl4 : Fr (fun x => lab x = 9) w3 w4 := fz.mono (fun x _ hx => by rw [hx]; exact Hz9.out)
        have Fz := Lib.hid fz; have Hb4 := Lib.hid hb4; have Fl4 := Lib.hid fl4
        have Hd4 := Lib.hid (HL.out.head fl4 (by decide) Hd3.out)
        have St4 := HL.out.set fl4 (by decide) St3.out
        have HS := Lib.hid (put_in (St4.fr (Fr.drew (Fr.refl (fun _ => False) _)) (fun h => h) (fun _ _ h => h)) (fun e => (HL.out.l1v _ e).2 rfl) (j := j) (by rw [List.length_set, takenOf_length]; exact hjs))
        rw [← HT.out] at HS
        have c6 := (cell_of Hd4.out 6).trans (show _ = some (Value.pointer (some ⟨p.tp, 0, none⟩)) from rfl)
        clear hb3 fz hb4 fl4 St4
        go_upto_region 10 with fail
        rw [← hw4]
        clear hw4 z1 yz
        go_wp2_with fail
        refine HS.out.mono ?_
        rintro e w5 ⟨rfl, hst5, f5⟩
        have fl5 : Fr (fun x => lab x = 1) w4 w5 := (Fr.undrew f5).mono (fun x _ hx => (HL.out.l1v x hx).1)
        have F5 := Lib.hid (Fr.undrew f5); have Fl5 := Lib.hid fl5; have Hst5 := Lib.hid hst5
        have Hd5 := Lib.hid (HL.out.head fl5 (by decide) Hd4.out)
        have Rw5 := Lib.hid (HL.out.row fl5 (by decide) (HL.out.row Fl4.out (by decide) (show Bos w3 p.sv _ by rw [Hev.out]; exact Hrow.out)))
        have Bx5 := Lib.hid (fl5.get Hb4.out (fun e => by rw [Hz9.out] at e; cases e))
        clear hst5 f5 fl5 HS c6
        have c8 := (cell_of Hd5.out 8).trans (show _ = some p.sv from rfl)
        obtain ⟨x0, x1, x2⟩ := box_bo (x := (xi, (j : Int), xt)) Bx5.out
        have hl5 : ((seatsOf b.seats b.L).set i (0, 0, 0)).length = b.seats := by rw [List.length_set, seatsOf_length]
        obtain ⟨g', cap', ev', q0, q1, q2⟩ := Bos.cells Rw5.out (k := j) (by rw [hl5]; exact hjs)
        rw [Hev.out] at ev'
        obtain ⟨e1, e9, e3⟩ := Value.slice.inj ev'
        obtain rfl : g = g' := by simpa using e1
        obtain rfl := e3
        have hgf : ∀ k, w5.frozen? ⟨g, k, none⟩ = false := by
          rcases Rw5.out.2 with ⟨_, h0⟩ | ⟨g', c', cur, e, _, q1, _⟩
          · rw [hl5] at h0; omega
          · rw [Hev.out] at e
            obtain ⟨e1, _, _⟩ := Value.slice.inj e
            obtain rfl : g = g' := by simpa using e1
            exact free_of q1
        have y0 := hgf (j * 3); have y1 := hgf (j * 3 + 1); have y2 := hgf (j * 3 + 2)
        have hrow : Bos (((w5.setCell ⟨g, j * 3, none⟩ (.int .u32 (xi : Int))).setCell ⟨g, j * 3 + 1, none⟩ (.int .i64 (j : Int))).setCell ⟨g, j * 3 + 2, none⟩ (.int .i64 xt)) (.slice (some ⟨g, 0, none⟩) b.seats cap) (((seatsOf b.seats b.L).set i (0, 0, 0)).set j (xi, (j : Int), xt)) :=
          Bos.put (w := w5) (n := b.seats) (g := g) (cap := cap) (by rw [← Hev.out]; exact Rw5.out) (p := j) (by rw [hl5]; exact hjs) (xi, (j : Int), xt)
        rw [← HM.out] at hrow
        rw [Hev.out] at c8
        have fs : Fr (fun x => x = g) w5 (((w5.setCell ⟨g, j * 3, none⟩ (.int .u32 (xi : Int))).setCell ⟨g, j * 3 + 1, none⟩ (.int .i64 (j : Int))).setCell ⟨g, j * 3 + 2, none⟩ (.int .i64 xt)) :=
          (((Fr.refl (fun y => y = g) _).setCell (p := ⟨g, j * 3, none⟩) (fun _ => rfl) _).setCell (p := ⟨g, j * 3 + 1, none⟩) (fun _ => rfl) _).setCell (p := ⟨g, j * 3 + 2, none⟩) (fun _ => rfl) _
        obtain ⟨w6, hw6⟩ : ∃ w6, w6 = (((w5.setCell ⟨g, j * 3, none⟩ (.int .u32 (xi : Int))).setCell ⟨g, j * 3 + 1, none⟩ (.int .i64 (j : Int))).setCell ⟨g, j * 3 + 2, none⟩ (.int .i64 xt)) := ⟨_, rfl⟩
        rw [← hw6] at hrow fs
        have fl6 : Fr (fun x => lab x = 3) w5 w6 := fs.mono (fun x _ hx => by rw [hx]; exact HL.out.l3 g HgS.out)
        have Fs6 := Lib.hid fs; have Fl6 := Lib.hid fl6; have Hrow6 := Lib.hid hrow
        have Hd6 := Lib.hid (HL.out.head fl6 (by decide) Hd5.out)
        have hb6 := fl6.get Bx5.out (fun e => by rw [Hz9.out] at e; cases e)
        have ix6 := HL.out.idx Fl6.out (by decide) (HL.out.idx Fl5.out (by decide) (HL.out.idx Fl4.out (by decide) (HL.out.idx Fl3.out (by decide) (HL.out.idx Fl2.out (by decide) HB.out.idx))))
        have hjs' : (j : Int) < (b.seats : Int) := by omega
        obtain ⟨u0, t0⟩ : ∃ u, w5.cell? ⟨g, j * 3, none⟩ = some u := ⟨_, q0⟩
        obtain ⟨u1, t1⟩ : ∃ u, w5.cell? ⟨g, j * 3 + 1, none⟩ = some u := ⟨_, q1⟩
        obtain ⟨u2, t2⟩ : ∃ u, w5.cell? ⟨g, j * 3 + 2, none⟩ = some u := ⟨_, q2⟩
        clear ev' hgf hrow fs fl6 e1 q0 q1 q2 hl5 e9
        go_upto_region 11 with fail
        go_still_tail 7, (by kernel_rfl)
        go_upto_region 12 with fail
        rw [← hw6]
        clear hw6 c8 t0 t1 t2 y0 y1 y2 x0 x1 x2
        obtain ⟨v6, hv6⟩ : ∃ v6, v6 = w6.drew := ⟨_, rfl⟩
        rw [← hv6]
        have c7 : v6.cell? ⟨bb, 7, none⟩ = some (.pointer (some ⟨p.ip, 0, none⟩)) := by rw [hv6]; exact (cell_of Hd6.out 7).trans rfl
        have z0 : v6.cell? ⟨z, 0, none⟩ = some (.int .u32 (xi : Int)) := by rw [hv6]; exact (cell_of hb6 0).trans rfl
        have fv : Fr (fun _ => False) w6 v6 := by rw [hv6]; exact Fr.drew (Fr.refl _ _)
        have HI := Lib.hid (Ix.set_ok (ix6.fr (fv.drew) (fun h => h) (fun h => h)) (id := xi) hxi (j : Int))
        rw [ids_move] at HI
        have FV := Lib.hid fv
        clear hv6 ix6 fv
        clear hb6
        go_still_tail 7, (by kernel_rfl)
        go_wp2_with fail
        refine HI.out.mono ?_
        rintro e w7 ⟨st', _, rfl, hix, f7⟩
        have f7' := (FV.out.mono (fun _ _ h => h.elim) : Fr (fun x => x = p.ip ∨ x = p.ig) w6 v6).trans (Fr.undrew f7) (fun _ _ h => h)
        have fl7 : Fr (fun x => lab x = 2) w6 w7 := f7'.mono (fun x _ hx => by rcases hx with rfl | rfl; exact HL.out.l2; exact HL.out.l2g)
        have ff : Fr (p.own bb) w w7 := ((((((F0.out.mono (fun _ _ h => h.elim) : Fr (p.own bb) w W).trans F2.out (fun x _ hx => Pt.ownT hx)).trans Fs.out (fun x _ hx => by rw [hx]; exact Pt.ownS HgS.out)).trans Fz.out (fun x hx e => by have := HZ.out; omega)).trans F5.out (fun x _ hx => Pt.ownT hx)).trans Fs6.out (fun x _ hx => by rw [hx]; exact Pt.ownS HgS.out)).trans f7' (fun x _ hx => Pt.ownI hx)
        have hfin := Lib.hid (show Aft p bb { b with L := bMove b.L xi (j : Int) } w w7 from
          ⟨_, HL.out.build (b' := { b with L := bMove b.L xi (j : Int) }) (LS' := bMove b.L xi (j : Int)) (LD' := bMove b.L xi (j : Int)) H9.out (HL.out.head fl7 (by decide) Hd6.out) (HL.out.set fl7 (by decide) (HL.out.set Fl6.out (by decide) Hst5.out)) hix (HL.out.row fl7 (by decide) (by rw [Hev.out]; exact Hrow6.out))
            (HL.out.heap fl7 (by decide) (HL.out.heap Fl6.out (by decide) (HL.out.heap Fl5.out (by decide) (HL.out.heap Fl4.out (by decide) (HL.out.heap Fl3.out (by decide) (HL.out.heap Fl2.out (by decide) HB.out.heap))))))
            (HL.out.map fl7 (by decide) (HL.out.map Fl6.out (by decide) (HL.out.map Fl5.out (by decide) (HL.out.map Fl4.out (by decide) (HL.out.map Fl3.out (by decide) (HL.out.map Fl2.out (by decide) HB.out.map))))))
            (H.out.due.same (dueOf_move b.L xi (j : Int)).symm) H.out.nh Hraw.out (fun x hx => .inl hx), ff, Pt.re_own (fun x hx => .inl hx)⟩)
        clear hix f7 f7' fl7 ff c7 z0
        go_wp2_with fail
        go_ret
        exact ⟨rfl, hfin.out⟩
end Go.Proofs.YtebdcahjlcgonaaGreat.Bk
namespace Go.Proofs.YtebdcahjlcgonaaGreat.Bk
open Go.RowKit
set_option maxRecDepth 100000 in
theorem within_no (n a b : Int) (w : World) : Calls Tryz.prog 112 #[.bool false, .int .i64 n, .int .i64 a, .int .i64 b] w fun e w' => e = .returned (.bool (n == 0)) ∧ w = w' := by
  go_enter Tryz.func112, Tryz.ntmps112
  go_wp2_with fail
  go_ret
  exact ⟨rfl, rfl⟩
set_option maxRecDepth 100000 in
theorem within_yes (n a b : Int) (w : World) : Calls Tryz.prog 112 #[.bool true, .int .i64 n, .int .i64 a, .int .i64 b] w fun e w' => e = .returned (.bool (decide (a ≤ n) && decide (n ≤ b))) ∧ w = w' := by
  by_cases h : a ≤ n
  · have h1 : decide (a ≤ n) = true := by simpa using h
    rw [h1, Bool.true_and]
    clear h
    go_enter Tryz.func112, Tryz.ntmps112
    go_wp2_with fail
    go_ret
    exact ⟨rfl, rfl⟩
  · have h1 : decide (a ≤ n) = false := by simpa using h
    rw [h1, Bool.false_and]
    clear h
    go_enter Tryz.func112, Tryz.ntmps112
    go_wp2_with fail
    go_ret
    exact ⟨rfl, rfl⟩
abbrev shpV (a b c d : Bool) : Value := .agg #[.bool a, .bool b, .bool c, .bool d]
theorem wpList_build_at {P : Program} {ops : Array Oper} {Q : Exit → Act → World → Prop} {rest : List Oper} {o : Oper} {a : Act} {w : World} {t : TypeId} {parts : Array (Nat × Operand)} (vals : List (Nat × Value)) {cells : Array Value} (hgd : o.guard = none)
    (ho : o.op = .build t parts) (hp : parts.toList.map (fun (i, x) => (i, a.eval x)) = vals) (hc : P.built t vals = some cells) (h : wpList P ops Q rest (a.put o.dst (.agg cells)) w) : wpList P ops Q (o :: rest) a w :=
  wpList_plain hgd fun K hK => by
    unfold Oper.wp execOp
    have hc' : P.built t (parts.map (fun (i, x) => (i, a.eval x))).toList = some cells := by rw [Array.toList_map, hp]; exact hc
    simp only [ho, Sem.run_bind, run_build w t _ cells hc', Result.andThen_ok]
    exact hK _ _ h
theorem of_y (w : World) (A : Obj) (old cs : Array Value) (t : TypeId) : (((w.alloc A).alloc (.cells old t)).setRow (w.heap.size + 1) cs).heap[w.heap.size + 1]? = some (.cells cs t (0, 0)) := setRow_heap _ _ old cs t (0, 0) (heap_alloc2_new _ _ _)
theorem of_z (w : World) (A B : Obj) (cs : Array Value) : (((w.alloc A).alloc B).setRow (w.heap.size + 1) cs).heap[w.heap.size]? = some A := by
  rw [setRow_other _ _ _ _ (by omega)]; exact heap_alloc2_old _ _ _
theorem of_fr (w : World) (A B : Obj) (cs : Array Value) : Fr (fun _ => False) w (((w.alloc A).alloc B).setRow (w.heap.size + 1) cs) :=
  ⟨rfl, rfl, rfl, by simp [World.setRow, Array.size_modify]; omega, fun k hk _ => by rw [setRow_other _ _ _ _ (by omega)]; exact (heap_alloc_old _ _ k (by simp; omega)).trans (heap_alloc_old _ _ k hk)⟩
theorem built6 : Tryz.prog.built 189 ([(1, shpV true true true false), (2, shpV true false false false), (3, shpV true false false false), (4, shpV true true false false), (5, shpV false false false true)] : List (Nat × Value)) = some #[.bool false, .bool false, .bool false, .bool false, .bool true, .bool true, .bool true, .bool false, .bool true, .bool false, .bool false, .bool false, .bool true, .bool false, .bool false, .bool false, .bool true, .bool true, .bool false, .bool false, .bool false, .bool false, .bool false, .bool true] := by kernel_rfl
set_option maxRecDepth 100000 in
set_option maxHeartbeats 1000000 in
theorem of_1 (w : World) : Calls Tryz.prog 68 #[.int .i64 1] w fun e w' => e = .returned (.tuple #[shpV true true true false, .bool true]) ∧ Fr (fun _ => False) w w' := by
  obtain ⟨W, hW⟩ : ∃ W, W = ((w.alloc (.cells #[.bool false, .bool false, .bool false, .bool false] 137)).alloc (.cells #[.bool false, .bool false, .bool false, .bool false, .bool false, .bool false, .bool false, .bool false, .bool false, .bool false, .bool false, .bool false, .bool false, .bool false, .bool false, .bool false, .bool false, .bool false, .bool false, .bool false, .bool false, .bool false, .bool false, .bool false] 189)).setRow (w.heap.size + 1) #[.bool false, .bool false, .bool false, .bool false, .bool true, .bool true, .bool true, .bool false, .bool true, .bool false, .bool false, .bool false, .bool true, .bool false, .bool false, .bool false, .bool true, .bool true, .bool false, .bool false, .bool false, .bool false, .bool false, .bool true] := ⟨_, rfl⟩
  obtain ⟨z, hz⟩ : ∃ z, z = w.heap.size := ⟨_, rfl⟩
  have f0 : Fr (fun _ => False) w W := by rw [hW]; exact of_fr w _ _ _
  have hg : W.heap[z]? = some (.cells #[.bool false, .bool false, .bool false, .bool false] 137 (0, 0)) := by rw [hW, hz]; exact of_z w _ _ _
  have hy : W.heap[z + 1]? = some (.cells #[.bool false, .bool false, .bool false, .bool false, .bool true, .bool true, .bool true, .bool false, .bool true, .bool false, .bool false, .bool false, .bool true, .bool false, .bool false, .bool false, .bool true, .bool true, .bool false, .bool false, .bool false, .bool false, .bool false, .bool true] 189 (0, 0)) := by rw [hW, hz]; exact of_y w _ _ _ _
  have v0 := (cell_of hy 4).trans (show _ = some (Value.bool true) from rfl)
  have d0 := (cell_of hg 0).trans (show _ = some (Value.bool false) from rfl)
  have y0 := free_of hg 0
  have v1 := (cell_of hy 5).trans (show _ = some (Value.bool true) from rfl)
  have d1 := (cell_of hg 1).trans (show _ = some (Value.bool false) from rfl)
  have y1 := free_of hg 1
  have v2 := (cell_of hy 6).trans (show _ = some (Value.bool true) from rfl)
  have d2 := (cell_of hg 2).trans (show _ = some (Value.bool false) from rfl)
  have y2 := free_of hg 2
  have v3 := (cell_of hy 7).trans (show _ = some (Value.bool false) from rfl)
  have d3 := (cell_of hg 3).trans (show _ = some (Value.bool false) from rfl)
  have y3 := free_of hg 3
  have hfin := setCell_blk (o := 3) (setCell_blk (o := 2) (setCell_blk (o := 1) (setCell_blk (o := 0) hg (.bool true)) (.bool true)) (.bool true)) (.bool false)
  have e0 := (cell_of hfin 0).trans (show _ = some (Value.bool true) from rfl)
  have e1 := (cell_of hfin 1).trans (show _ = some (Value.bool true) from rfl)
  have e2 := (cell_of hfin 2).trans (show _ = some (Value.bool true) from rfl)
  have e3 := (cell_of hfin 3).trans (show _ = some (Value.bool false) from rfl)
  have Ff := Lib.hid (show Fr (fun _ => False) w ((((W.setCell ⟨z, 0, none⟩ (.bool true)).setCell ⟨z, 1, none⟩ (.bool true)).setCell ⟨z, 2, none⟩ (.bool true)).setCell ⟨z, 3, none⟩ (.bool false)) from
    (((f0.setCell (p := ⟨z, 0, none⟩) (fun e => by simp at e; omega) _).setCell (p := ⟨z, 1, none⟩) (fun e => by simp at e; omega) _).setCell (p := ⟨z, 2, none⟩) (fun e => by simp at e; omega) _).setCell (p := ⟨z, 3, none⟩) (fun e => by simp at e; omega) _)
  clear f0 hg hy hfin
  go_enter Tryz.func68, Tryz.ntmps68
  go_upto_region 2 with (first | refine wpList_build_at [(1, shpV true true true false), (2, shpV true false false false), (3, shpV true false false false), (4, shpV true true false false), (5, shpV false false false true)] (t := 189) (parts := #[(1, .tmp 5), (2, .tmp 6), (3, .tmp 7), (4, .tmp 8), (5, .tmp 9)]) rfl rfl rfl built6 ?_ | refine wpList_store_row rfl 189 (.tmp 4) (.tmp 10) rfl (w.heap.size + 1) #[.bool false, .bool false, .bool false, .bool false, .bool true, .bool true, .bool true, .bool false, .bool true, .bool false, .bool false, .bool false, .bool true, .bool false, .bool false, .bool false, .bool true, .bool true, .bool false, .bool false, .bool false, .bool false, .bool false, .bool true] rfl rfl 189 #[.bool false, .bool false, .bool false, .bool false, .bool false, .bool false, .bool false, .bool false, .bool false, .bool false, .bool false, .bool false, .bool false, .bool false, .bool false, .bool false, .bool false, .bool false, .bool false, .bool false, .bool false, .bool false, .bool false, .bool false] (heap_alloc2_new _ _ _) (by kernel_rfl) (by kernel_rfl) (by kernel_rfl) ?_)
  rw [← hW, ← hz]
  clear hW hz
  go_wp2_with fail
  refine bodyPost_ret (v := .tuple #[shpV true true true false, .bool true]) ?_ rfl ⟨rfl, Ff.out⟩
  simp [results, Tryz.f68, go_sem, e0, e1, e2, e3]
set_option maxRecDepth 100000 in
set_option maxHeartbeats 1000000 in
theorem of_2 (w : World) : Calls Tryz.prog 68 #[.int .i64 2] w fun e w' => e = .returned (.tuple #[shpV true false false false, .bool true]) ∧ Fr (fun _ => False) w w' := by
  obtain ⟨W, hW⟩ : ∃ W, W = ((w.alloc (.cells #[.bool false, .bool false, .bool false, .bool false] 137)).alloc (.cells #[.bool false, .bool false, .bool false, .bool false, .bool false, .bool false, .bool false, .bool false, .bool false, .bool false, .bool false, .bool false, .bool false, .bool false, .bool false, .bool false, .bool false, .bool false, .bool false, .bool false, .bool false, .bool false, .bool false, .bool false] 189)).setRow (w.heap.size + 1) #[.bool false, .bool false, .bool false, .bool false, .bool true, .bool true, .bool true, .bool false, .bool true, .bool false, .bool false, .bool false, .bool true, .bool false, .bool false, .bool false, .bool true, .bool true, .bool false, .bool false, .bool false, .bool false, .bool false, .bool true] := ⟨_, rfl⟩
  obtain ⟨z, hz⟩ : ∃ z, z = w.heap.size := ⟨_, rfl⟩
  have f0 : Fr (fun _ => False) w W := by rw [hW]; exact of_fr w _ _ _
  have hg : W.heap[z]? = some (.cells #[.bool false, .bool false, .bool false, .bool false] 137 (0, 0)) := by rw [hW, hz]; exact of_z w _ _ _
  have hy : W.heap[z + 1]? = some (.cells #[.bool false, .bool false, .bool false, .bool false, .bool true, .bool true, .bool true, .bool false, .bool true, .bool false, .bool false, .bool false, .bool true, .bool false, .bool false, .bool false, .bool true, .bool true, .bool false, .bool false, .bool false, .bool false, .bool false, .bool true] 189 (0, 0)) := by rw [hW, hz]; exact of_y w _ _ _ _
  have v0 := (cell_of hy 8).trans (show _ = some (Value.bool true) from rfl)
  have d0 := (cell_of hg 0).trans (show _ = some (Value.bool false) from rfl)
  have y0 := free_of hg 0
  have v1 := (cell_of hy 9).trans (show _ = some (Value.bool false) from rfl)
  have d1 := (cell_of hg 1).trans (show _ = some (Value.bool false) from rfl)
  have y1 := free_of hg 1
  have v2 := (cell_of hy 10).trans (show _ = some (Value.bool false) from rfl)
  have d2 := (cell_of hg 2).trans (show _ = some (Value.bool false) from rfl)
  have y2 := free_of hg 2
  have v3 := (cell_of hy 11).trans (show _ = some (Value.bool false) from rfl)
  have d3 := (cell_of hg 3).trans (show _ = some (Value.bool false) from rfl)
  have y3 := free_of hg 3
  have hfin := setCell_blk (o := 3) (setCell_blk (o := 2) (setCell_blk (o := 1) (setCell_blk (o := 0) hg (.bool true)) (.bool false)) (.bool false)) (.bool false)
  have e0 := (cell_of hfin 0).trans (show _ = some (Value.bool true) from rfl)
  have e1 := (cell_of hfin 1).trans (show _ = some (Value.bool false) from rfl)
  have e2 := (cell_of hfin 2).trans (show _ = some (Value.bool false) from rfl)
  have e3 := (cell_of hfin 3).trans (show _ = some (Value.bool false) from rfl)
  have Ff := Lib.hid (show Fr (fun _ => False) w ((((W.setCell ⟨z, 0, none⟩ (.bool true)).setCell ⟨z, 1, none⟩ (.bool false)).setCell ⟨z, 2, none⟩ (.bool false)).setCell ⟨z, 3, none⟩ (.bool false)) from
    (((f0.setCell (p := ⟨z, 0, none⟩) (fun e => by simp at e; omega) _).setCell (p := ⟨z, 1, none⟩) (fun e => by simp at e; omega) _).setCell (p := ⟨z, 2, none⟩) (fun e => by simp at e; omega) _).setCell (p := ⟨z, 3, none⟩) (fun e => by simp at e; omega) _)
  clear f0 hg hy hfin
  go_enter Tryz.func68, Tryz.ntmps68
  go_upto_region 2 with (first | refine wpList_build_at [(1, shpV true true true false), (2, shpV true false false false), (3, shpV true false false false), (4, shpV true true false false), (5, shpV false false false true)] (t := 189) (parts := #[(1, .tmp 5), (2, .tmp 6), (3, .tmp 7), (4, .tmp 8), (5, .tmp 9)]) rfl rfl rfl built6 ?_ | refine wpList_store_row rfl 189 (.tmp 4) (.tmp 10) rfl (w.heap.size + 1) #[.bool false, .bool false, .bool false, .bool false, .bool true, .bool true, .bool true, .bool false, .bool true, .bool false, .bool false, .bool false, .bool true, .bool false, .bool false, .bool false, .bool true, .bool true, .bool false, .bool false, .bool false, .bool false, .bool false, .bool true] rfl rfl 189 #[.bool false, .bool false, .bool false, .bool false, .bool false, .bool false, .bool false, .bool false, .bool false, .bool false, .bool false, .bool false, .bool false, .bool false, .bool false, .bool false, .bool false, .bool false, .bool false, .bool false, .bool false, .bool false, .bool false, .bool false] (heap_alloc2_new _ _ _) (by kernel_rfl) (by kernel_rfl) (by kernel_rfl) ?_)
  rw [← hW, ← hz]
  clear hW hz
  go_wp2_with fail
  refine bodyPost_ret (v := .tuple #[shpV true false false false, .bool true]) ?_ rfl ⟨rfl, Ff.out⟩
  simp [results, Tryz.f68, go_sem, e0, e1, e2, e3]
set_option maxRecDepth 100000 in
set_option maxHeartbeats 1000000 in
theorem of_3 (w : World) : Calls Tryz.prog 68 #[.int .i64 3] w fun e w' => e = .returned (.tuple #[shpV true false false false, .bool true]) ∧ Fr (fun _ => False) w w' := by
  obtain ⟨W, hW⟩ : ∃ W, W = ((w.alloc (.cells #[.bool false, .bool false, .bool false, .bool false] 137)).alloc (.cells #[.bool false, .bool false, .bool false, .bool false, .bool false, .bool false, .bool false, .bool false, .bool false, .bool false, .bool false, .bool false, .bool false, .bool false, .bool false, .bool false, .bool false, .bool false, .bool false, .bool false, .bool false, .bool false, .bool false, .bool false] 189)).setRow (w.heap.size + 1) #[.bool false, .bool false, .bool false, .bool false, .bool true, .bool true, .bool true, .bool false, .bool true, .bool false, .bool false, .bool false, .bool true, .bool false, .bool false, .bool false, .bool true, .bool true, .bool false, .bool false, .bool false, .bool false, .bool false, .bool true] := ⟨_, rfl⟩
  obtain ⟨z, hz⟩ : ∃ z, z = w.heap.size := ⟨_, rfl⟩
  have f0 : Fr (fun _ => False) w W := by rw [hW]; exact of_fr w _ _ _
  have hg : W.heap[z]? = some (.cells #[.bool false, .bool false, .bool false, .bool false] 137 (0, 0)) := by rw [hW, hz]; exact of_z w _ _ _
  have hy : W.heap[z + 1]? = some (.cells #[.bool false, .bool false, .bool false, .bool false, .bool true, .bool true, .bool true, .bool false, .bool true, .bool false, .bool false, .bool false, .bool true, .bool false, .bool false, .bool false, .bool true, .bool true, .bool false, .bool false, .bool false, .bool false, .bool false, .bool true] 189 (0, 0)) := by rw [hW, hz]; exact of_y w _ _ _ _
  have v0 := (cell_of hy 12).trans (show _ = some (Value.bool true) from rfl)
  have d0 := (cell_of hg 0).trans (show _ = some (Value.bool false) from rfl)
  have y0 := free_of hg 0
  have v1 := (cell_of hy 13).trans (show _ = some (Value.bool false) from rfl)
  have d1 := (cell_of hg 1).trans (show _ = some (Value.bool false) from rfl)
  have y1 := free_of hg 1
  have v2 := (cell_of hy 14).trans (show _ = some (Value.bool false) from rfl)
  have d2 := (cell_of hg 2).trans (show _ = some (Value.bool false) from rfl)
  have y2 := free_of hg 2
  have v3 := (cell_of hy 15).trans (show _ = some (Value.bool false) from rfl)
  have d3 := (cell_of hg 3).trans (show _ = some (Value.bool false) from rfl)
  have y3 := free_of hg 3
  have hfin := setCell_blk (o := 3) (setCell_blk (o := 2) (setCell_blk (o := 1) (setCell_blk (o := 0) hg (.bool true)) (.bool false)) (.bool false)) (.bool false)
  have e0 := (cell_of hfin 0).trans (show _ = some (Value.bool true) from rfl)
  have e1 := (cell_of hfin 1).trans (show _ = some (Value.bool false) from rfl)
  have e2 := (cell_of hfin 2).trans (show _ = some (Value.bool false) from rfl)
  have e3 := (cell_of hfin 3).trans (show _ = some (Value.bool false) from rfl)
  have Ff := Lib.hid (show Fr (fun _ => False) w ((((W.setCell ⟨z, 0, none⟩ (.bool true)).setCell ⟨z, 1, none⟩ (.bool false)).setCell ⟨z, 2, none⟩ (.bool false)).setCell ⟨z, 3, none⟩ (.bool false)) from
    (((f0.setCell (p := ⟨z, 0, none⟩) (fun e => by simp at e; omega) _).setCell (p := ⟨z, 1, none⟩) (fun e => by simp at e; omega) _).setCell (p := ⟨z, 2, none⟩) (fun e => by simp at e; omega) _).setCell (p := ⟨z, 3, none⟩) (fun e => by simp at e; omega) _)
  clear f0 hg hy hfin
  go_enter Tryz.func68, Tryz.ntmps68
  go_upto_region 2 with (first | refine wpList_build_at [(1, shpV true true true false), (2, shpV true false false false), (3, shpV true false false false), (4, shpV true true false false), (5, shpV false false false true)] (t := 189) (parts := #[(1, .tmp 5), (2, .tmp 6), (3, .tmp 7), (4, .tmp 8), (5, .tmp 9)]) rfl rfl rfl built6 ?_ | refine wpList_store_row rfl 189 (.tmp 4) (.tmp 10) rfl (w.heap.size + 1) #[.bool false, .bool false, .bool false, .bool false, .bool true, .bool true, .bool true, .bool false, .bool true, .bool false, .bool false, .bool false, .bool true, .bool false, .bool false, .bool false, .bool true, .bool true, .bool false, .bool false, .bool false, .bool false, .bool false, .bool true] rfl rfl 189 #[.bool false, .bool false, .bool false, .bool false, .bool false, .bool false, .bool false, .bool false, .bool false, .bool false, .bool false, .bool false, .bool false, .bool false, .bool false, .bool false, .bool false, .bool false, .bool false, .bool false, .bool false, .bool false, .bool false, .bool false] (heap_alloc2_new _ _ _) (by kernel_rfl) (by kernel_rfl) (by kernel_rfl) ?_)
  rw [← hW, ← hz]
  clear hW hz
  go_wp2_with fail
  refine bodyPost_ret (v := .tuple #[shpV true false false false, .bool true]) ?_ rfl ⟨rfl, Ff.out⟩
  simp [results, Tryz.f68, go_sem, e0, e1, e2, e3]
set_option maxRecDepth 100000 in
set_option maxHeartbeats 1000000 in
theorem of_4 (w : World) : Calls Tryz.prog 68 #[.int .i64 4] w fun e w' => e = .returned (.tuple #[shpV true true false false, .bool true]) ∧ Fr (fun _ => False) w w' := by
  obtain ⟨W, hW⟩ : ∃ W, W = ((w.alloc (.cells #[.bool false, .bool false, .bool false, .bool false] 137)).alloc (.cells #[.bool false, .bool false, .bool false, .bool false, .bool false, .bool false, .bool false, .bool false, .bool false, .bool false, .bool false, .bool false, .bool false, .bool false, .bool false, .bool false, .bool false, .bool false, .bool false, .bool false, .bool false, .bool false, .bool false, .bool false] 189)).setRow (w.heap.size + 1) #[.bool false, .bool false, .bool false, .bool false, .bool true, .bool true, .bool true, .bool false, .bool true, .bool false, .bool false, .bool false, .bool true, .bool false, .bool false, .bool false, .bool true, .bool true, .bool false, .bool false, .bool false, .bool false, .bool false, .bool true] := ⟨_, rfl⟩
  obtain ⟨z, hz⟩ : ∃ z, z = w.heap.size := ⟨_, rfl⟩
  have f0 : Fr (fun _ => False) w W := by rw [hW]; exact of_fr w _ _ _
  have hg : W.heap[z]? = some (.cells #[.bool false, .bool false, .bool false, .bool false] 137 (0, 0)) := by rw [hW, hz]; exact of_z w _ _ _
  have hy : W.heap[z + 1]? = some (.cells #[.bool false, .bool false, .bool false, .bool false, .bool true, .bool true, .bool true, .bool false, .bool true, .bool false, .bool false, .bool false, .bool true, .bool false, .bool false, .bool false, .bool true, .bool true, .bool false, .bool false, .bool false, .bool false, .bool false, .bool true] 189 (0, 0)) := by rw [hW, hz]; exact of_y w _ _ _ _
  have v0 := (cell_of hy 16).trans (show _ = some (Value.bool true) from rfl)
  have d0 := (cell_of hg 0).trans (show _ = some (Value.bool false) from rfl)
  have y0 := free_of hg 0
  have v1 := (cell_of hy 17).trans (show _ = some (Value.bool true) from rfl)
  have d1 := (cell_of hg 1).trans (show _ = some (Value.bool false) from rfl)
  have y1 := free_of hg 1
  have v2 := (cell_of hy 18).trans (show _ = some (Value.bool false) from rfl)
  have d2 := (cell_of hg 2).trans (show _ = some (Value.bool false) from rfl)
  have y2 := free_of hg 2
  have v3 := (cell_of hy 19).trans (show _ = some (Value.bool false) from rfl)
  have d3 := (cell_of hg 3).trans (show _ = some (Value.bool false) from rfl)
  have y3 := free_of hg 3
  have hfin := setCell_blk (o := 3) (setCell_blk (o := 2) (setCell_blk (o := 1) (setCell_blk (o := 0) hg (.bool true)) (.bool true)) (.bool false)) (.bool false)
  have e0 := (cell_of hfin 0).trans (show _ = some (Value.bool true) from rfl)
  have e1 := (cell_of hfin 1).trans (show _ = some (Value.bool true) from rfl)
  have e2 := (cell_of hfin 2).trans (show _ = some (Value.bool false) from rfl)
  have e3 := (cell_of hfin 3).trans (show _ = some (Value.bool false) from rfl)
  have Ff := Lib.hid (show Fr (fun _ => False) w ((((W.setCell ⟨z, 0, none⟩ (.bool true)).setCell ⟨z, 1, none⟩ (.bool true)).setCell ⟨z, 2, none⟩ (.bool false)).setCell ⟨z, 3, none⟩ (.bool false)) from
    (((f0.setCell (p := ⟨z, 0, none⟩) (fun e => by simp at e; omega) _).setCell (p := ⟨z, 1, none⟩) (fun e => by simp at e; omega) _).setCell (p := ⟨z, 2, none⟩) (fun e => by simp at e; omega) _).setCell (p := ⟨z, 3, none⟩) (fun e => by simp at e; omega) _)
  clear f0 hg hy hfin
  go_enter Tryz.func68, Tryz.ntmps68
  go_upto_region 2 with (first | refine wpList_build_at [(1, shpV true true true false), (2, shpV true false false false), (3, shpV true false false false), (4, shpV true true false false), (5, shpV false false false true)] (t := 189) (parts := #[(1, .tmp 5), (2, .tmp 6), (3, .tmp 7), (4, .tmp 8), (5, .tmp 9)]) rfl rfl rfl built6 ?_ | refine wpList_store_row rfl 189 (.tmp 4) (.tmp 10) rfl (w.heap.size + 1) #[.bool false, .bool false, .bool false, .bool false, .bool true, .bool true, .bool true, .bool false, .bool true, .bool false, .bool false, .bool false, .bool true, .bool false, .bool false, .bool false, .bool true, .bool true, .bool false, .bool false, .bool false, .bool false, .bool false, .bool true] rfl rfl 189 #[.bool false, .bool false, .bool false, .bool false, .bool false, .bool false, .bool false, .bool false, .bool false, .bool false, .bool false, .bool false, .bool false, .bool false, .bool false, .bool false, .bool false, .bool false, .bool false, .bool false, .bool false, .bool false, .bool false, .bool false] (heap_alloc2_new _ _ _) (by kernel_rfl) (by kernel_rfl) (by kernel_rfl) ?_)
  rw [← hW, ← hz]
  clear hW hz
  go_wp2_with fail
  refine bodyPost_ret (v := .tuple #[shpV true true false false, .bool true]) ?_ rfl ⟨rfl, Ff.out⟩
  simp [results, Tryz.f68, go_sem, e0, e1, e2, e3]
set_option maxRecDepth 100000 in
set_option maxHeartbeats 1000000 in
theorem of_5 (w : World) : Calls Tryz.prog 68 #[.int .i64 5] w fun e w' => e = .returned (.tuple #[shpV false false false true, .bool true]) ∧ Fr (fun _ => False) w w' := by
  obtain ⟨W, hW⟩ : ∃ W, W = ((w.alloc (.cells #[.bool false, .bool false, .bool false, .bool false] 137)).alloc (.cells #[.bool false, .bool false, .bool false, .bool false, .bool false, .bool false, .bool false, .bool false, .bool false, .bool false, .bool false, .bool false, .bool false, .bool false, .bool false, .bool false, .bool false, .bool false, .bool false, .bool false, .bool false, .bool false, .bool false, .bool false] 189)).setRow (w.heap.size + 1) #[.bool false, .bool false, .bool false, .bool false, .bool true, .bool true, .bool true, .bool false, .bool true, .bool false, .bool false, .bool false, .bool true, .bool false, .bool false, .bool false, .bool true, .bool true, .bool false, .bool false, .bool false, .bool false, .bool false, .bool true] := ⟨_, rfl⟩
  obtain ⟨z, hz⟩ : ∃ z, z = w.heap.size := ⟨_, rfl⟩
  have f0 : Fr (fun _ => False) w W := by rw [hW]; exact of_fr w _ _ _
  have hg : W.heap[z]? = some (.cells #[.bool false, .bool false, .bool false, .bool false] 137 (0, 0)) := by rw [hW, hz]; exact of_z w _ _ _
  have hy : W.heap[z + 1]? = some (.cells #[.bool false, .bool false, .bool false, .bool false, .bool true, .bool true, .bool true, .bool false, .bool true, .bool false, .bool false, .bool false, .bool true, .bool false, .bool false, .bool false, .bool true, .bool true, .bool false, .bool false, .bool false, .bool false, .bool false, .bool true] 189 (0, 0)) := by rw [hW, hz]; exact of_y w _ _ _ _
  have v0 := (cell_of hy 20).trans (show _ = some (Value.bool false) from rfl)
  have d0 := (cell_of hg 0).trans (show _ = some (Value.bool false) from rfl)
  have y0 := free_of hg 0
  have v1 := (cell_of hy 21).trans (show _ = some (Value.bool false) from rfl)
  have d1 := (cell_of hg 1).trans (show _ = some (Value.bool false) from rfl)
  have y1 := free_of hg 1
  have v2 := (cell_of hy 22).trans (show _ = some (Value.bool false) from rfl)
  have d2 := (cell_of hg 2).trans (show _ = some (Value.bool false) from rfl)
  have y2 := free_of hg 2
  have v3 := (cell_of hy 23).trans (show _ = some (Value.bool true) from rfl)
  have d3 := (cell_of hg 3).trans (show _ = some (Value.bool false) from rfl)
  have y3 := free_of hg 3
  have hfin := setCell_blk (o := 3) (setCell_blk (o := 2) (setCell_blk (o := 1) (setCell_blk (o := 0) hg (.bool false)) (.bool false)) (.bool false)) (.bool true)
  have e0 := (cell_of hfin 0).trans (show _ = some (Value.bool false) from rfl)
  have e1 := (cell_of hfin 1).trans (show _ = some (Value.bool false) from rfl)
  have e2 := (cell_of hfin 2).trans (show _ = some (Value.bool false) from rfl)
  have e3 := (cell_of hfin 3).trans (show _ = some (Value.bool true) from rfl)
  have Ff := Lib.hid (show Fr (fun _ => False) w ((((W.setCell ⟨z, 0, none⟩ (.bool false)).setCell ⟨z, 1, none⟩ (.bool false)).setCell ⟨z, 2, none⟩ (.bool false)).setCell ⟨z, 3, none⟩ (.bool true)) from
    (((f0.setCell (p := ⟨z, 0, none⟩) (fun e => by simp at e; omega) _).setCell (p := ⟨z, 1, none⟩) (fun e => by simp at e; omega) _).setCell (p := ⟨z, 2, none⟩) (fun e => by simp at e; omega) _).setCell (p := ⟨z, 3, none⟩) (fun e => by simp at e; omega) _)
  clear f0 hg hy hfin
  go_enter Tryz.func68, Tryz.ntmps68
  go_upto_region 2 with (first | refine wpList_build_at [(1, shpV true true true false), (2, shpV true false false false), (3, shpV true false false false), (4, shpV true true false false), (5, shpV false false false true)] (t := 189) (parts := #[(1, .tmp 5), (2, .tmp 6), (3, .tmp 7), (4, .tmp 8), (5, .tmp 9)]) rfl rfl rfl built6 ?_ | refine wpList_store_row rfl 189 (.tmp 4) (.tmp 10) rfl (w.heap.size + 1) #[.bool false, .bool false, .bool false, .bool false, .bool true, .bool true, .bool true, .bool false, .bool true, .bool false, .bool false, .bool false, .bool true, .bool false, .bool false, .bool false, .bool true, .bool true, .bool false, .bool false, .bool false, .bool false, .bool false, .bool true] rfl rfl 189 #[.bool false, .bool false, .bool false, .bool false, .bool false, .bool false, .bool false, .bool false, .bool false, .bool false, .bool false, .bool false, .bool false, .bool false, .bool false, .bool false, .bool false, .bool false, .bool false, .bool false, .bool false, .bool false, .bool false, .bool false] (heap_alloc2_new _ _ _) (by kernel_rfl) (by kernel_rfl) (by kernel_rfl) ?_)
  rw [← hW, ← hz]
  clear hW hz
  go_wp2_with fail
  refine bodyPost_ret (v := .tuple #[shpV false false false true, .bool true]) ?_ rfl ⟨rfl, Ff.out⟩
  simp [results, Tryz.f68, go_sem, e0, e1, e2, e3]
set_option maxRecDepth 100000 in
set_option maxHeartbeats 2000000 in
theorem of_none {k : Int} (h : k < 1 ∨ 5 < k) (w : World) : Calls Tryz.prog 68 #[.int .i64 k] w fun e w' => e = .returned (.tuple #[shpV false false false false, .bool false]) ∧ Fr (fun _ => False) w w' := by
  by_cases h1 : k < 1
  · have b1 : decide (k < 1) = true := by simpa using h1
    clear h h1
    obtain ⟨W, hW⟩ : ∃ W, W = ((w.alloc (.cells #[.bool false, .bool false, .bool false, .bool false] 137)).alloc (.cells #[.bool false, .bool false, .bool false, .bool false, .bool false, .bool false, .bool false, .bool false, .bool false, .bool false, .bool false, .bool false, .bool false, .bool false, .bool false, .bool false, .bool false, .bool false, .bool false, .bool false, .bool false, .bool false, .bool false, .bool false] 189)).setRow (w.heap.size + 1) #[.bool false, .bool false, .bool false, .bool false, .bool true, .bool true, .bool true, .bool false, .bool true, .bool false, .bool false, .bool false, .bool true, .bool false, .bool false, .bool false, .bool true, .bool true, .bool false, .bool false, .bool false, .bool false, .bool false, .bool true] := ⟨_, rfl⟩
    obtain ⟨z, hz⟩ : ∃ z, z = w.heap.size := ⟨_, rfl⟩
    have f0 : Fr (fun _ => False) w W := by rw [hW]; exact of_fr w _ _ _
    have hg : W.heap[z]? = some (.cells #[.bool false, .bool false, .bool false, .bool false] 137 (0, 0)) := by rw [hW, hz]; exact of_z w _ _ _
    have d0 := (cell_of hg 0).trans (show _ = some (Value.bool false) from rfl)
    have d1 := (cell_of hg 1).trans (show _ = some (Value.bool false) from rfl)
    have d2 := (cell_of hg 2).trans (show _ = some (Value.bool false) from rfl)
    have d3 := (cell_of hg 3).trans (show _ = some (Value.bool false) from rfl)
    have y0 := free_of hg 0; have y1 := free_of hg 1; have y2 := free_of hg 2; have y3 := free_of hg 3
    have hfin := setCell_blk (o := 3) (setCell_blk (o := 2) (setCell_blk (o := 1) (setCell_blk (o := 0) hg (.bool false)) (.bool false)) (.bool false)) (.bool false)
    have e0 := (cell_of hfin 0).trans (show _ = some (Value.bool false) from rfl)
    have e1 := (cell_of hfin 1).trans (show _ = some (Value.bool false) from rfl)
    have e2 := (cell_of hfin 2).trans (show _ = some (Value.bool false) from rfl)
    have e3 := (cell_of hfin 3).trans (show _ = some (Value.bool false) from rfl)
    have Ff := Lib.hid (show Fr (fun _ => False) w ((((W.setCell ⟨z, 0, none⟩ (.bool false)).setCell ⟨z, 1, none⟩ (.bool false)).setCell ⟨z, 2, none⟩ (.bool false)).setCell ⟨z, 3, none⟩ (.bool false)) from
      (((f0.setCell (p := ⟨z, 0, none⟩) (fun e => by simp at e; omega) _).setCell (p := ⟨z, 1, none⟩) (fun e => by simp at e; omega) _).setCell (p := ⟨z, 2, none⟩) (fun e => by simp at e; omega) _).setCell (p := ⟨z, 3, none⟩) (fun e => by simp at e; omega) _)
    clear f0 hg hfin
    go_enter Tryz.func68, Tryz.ntmps68
    go_upto_region 2 with (first | refine wpList_build_at [(1, shpV true true true false), (2, shpV true false false false), (3, shpV true false false false), (4, shpV true true false false), (5, shpV false false false true)] (t := 189) (parts := #[(1, .tmp 5), (2, .tmp 6), (3, .tmp 7), (4, .tmp 8), (5, .tmp 9)]) rfl rfl rfl built6 ?_ | refine wpList_store_row rfl 189 (.tmp 4) (.tmp 10) rfl (w.heap.size + 1) #[.bool false, .bool false, .bool false, .bool false, .bool true, .bool true, .bool true, .bool false, .bool true, .bool false, .bool false, .bool false, .bool true, .bool false, .bool false, .bool false, .bool true, .bool true, .bool false, .bool false, .bool false, .bool false, .bool false, .bool true] rfl rfl 189 #[.bool false, .bool false, .bool false, .bool false, .bool false, .bool false, .bool false, .bool false, .bool false, .bool false, .bool false, .bool false, .bool false, .bool false, .bool false, .bool false, .bool false, .bool false, .bool false, .bool false, .bool false, .bool false, .bool false, .bool false] (heap_alloc2_new _ _ _) (by kernel_rfl) (by kernel_rfl) (by kernel_rfl) ?_)
    rw [← hW, ← hz]
    clear hW hz
    go_wp2_with fail
    refine bodyPost_ret (v := .tuple #[shpV false false false false, .bool false]) ?_ rfl ⟨rfl, Ff.out⟩
    simp [results, Tryz.f68, go_sem, e0, e1, e2, e3]
  · have b1 : decide (k < 1) = false := by simpa using h1
    have h2 : 6 ≤ k := by omega
    have b2 : decide (6 ≤ k) = true := by simpa using h2
    clear h h1 h2
    obtain ⟨W, hW⟩ : ∃ W, W = ((w.alloc (.cells #[.bool false, .bool false, .bool false, .bool false] 137)).alloc (.cells #[.bool false, .bool false, .bool false, .bool false, .bool false, .bool false, .bool false, .bool false, .bool false, .bool false, .bool false, .bool false, .bool false, .bool false, .bool false, .bool false, .bool false, .bool false, .bool false, .bool false, .bool false, .bool false, .bool false, .bool false] 189)).setRow (w.heap.size + 1) #[.bool false, .bool false, .bool false, .bool false, .bool true, .bool true, .bool true, .bool false, .bool true, .bool false, .bool false, .bool false, .bool true, .bool false, .bool false, .bool false, .bool true, .bool true, .bool false, .bool false, .bool false, .bool false, .bool false, .bool true] := ⟨_, rfl⟩
    obtain ⟨z, hz⟩ : ∃ z, z = w.heap.size := ⟨_, rfl⟩
    have f0 : Fr (fun _ => False) w W := by rw [hW]; exact of_fr w _ _ _
    have hg : W.heap[z]? = some (.cells #[.bool false, .bool false, .bool false, .bool false] 137 (0, 0)) := by rw [hW, hz]; exact of_z w _ _ _
    have d0 := (cell_of hg 0).trans (show _ = some (Value.bool false) from rfl)
    have d1 := (cell_of hg 1).trans (show _ = some (Value.bool false) from rfl)
    have d2 := (cell_of hg 2).trans (show _ = some (Value.bool false) from rfl)
    have d3 := (cell_of hg 3).trans (show _ = some (Value.bool false) from rfl)
    have y0 := free_of hg 0; have y1 := free_of hg 1; have y2 := free_of hg 2; have y3 := free_of hg 3
    have hfin := setCell_blk (o := 3) (setCell_blk (o := 2) (setCell_blk (o := 1) (setCell_blk (o := 0) hg (.bool false)) (.bool false)) (.bool false)) (.bool false)
    have e0 := (cell_of hfin 0).trans (show _ = some (Value.bool false) from rfl)
    have e1 := (cell_of hfin 1).trans (show _ = some (Value.bool false) from rfl)
    have e2 := (cell_of hfin 2).trans (show _ = some (Value.bool false) from rfl)
    have e3 := (cell_of hfin 3).trans (show _ = some (Value.bool false) from rfl)
    have Ff := Lib.hid (show Fr (fun _ => False) w ((((W.setCell ⟨z, 0, none⟩ (.bool false)).setCell ⟨z, 1, none⟩ (.bool false)).setCell ⟨z, 2, none⟩ (.bool false)).setCell ⟨z, 3, none⟩ (.bool false)) from
      (((f0.setCell (p := ⟨z, 0, none⟩) (fun e => by simp at e; omega) _).setCell (p := ⟨z, 1, none⟩) (fun e => by simp at e; omega) _).setCell (p := ⟨z, 2, none⟩) (fun e => by simp at e; omega) _).setCell (p := ⟨z, 3, none⟩) (fun e => by simp at e; omega) _)
    clear f0 hg hfin
    go_enter Tryz.func68, Tryz.ntmps68
    go_upto_region 2 with (first | refine wpList_build_at [(1, shpV true true true false), (2, shpV true false false false), (3, shpV true false false false), (4, shpV true true false false), (5, shpV false false false true)] (t := 189) (parts := #[(1, .tmp 5), (2, .tmp 6), (3, .tmp 7), (4, .tmp 8), (5, .tmp 9)]) rfl rfl rfl built6 ?_ | refine wpList_store_row rfl 189 (.tmp 4) (.tmp 10) rfl (w.heap.size + 1) #[.bool false, .bool false, .bool false, .bool false, .bool true, .bool true, .bool true, .bool false, .bool true, .bool false, .bool false, .bool false, .bool true, .bool false, .bool false, .bool false, .bool true, .bool true, .bool false, .bool false, .bool false, .bool false, .bool false, .bool true] rfl rfl 189 #[.bool false, .bool false, .bool false, .bool false, .bool false, .bool false, .bool false, .bool false, .bool false, .bool false, .bool false, .bool false, .bool false, .bool false, .bool false, .bool false, .bool false, .bool false, .bool false, .bool false, .bool false, .bool false, .bool false, .bool false] (heap_alloc2_new _ _ _) (by kernel_rfl) (by kernel_rfl) (by kernel_rfl) ?_)
    rw [← hW, ← hz]
    clear hW hz
    go_wp2_with fail
    refine bodyPost_ret (v := .tuple #[shpV false false false false, .bool false]) ?_ rfl ⟨rfl, Ff.out⟩
    simp [results, Tryz.f68, go_sem, e0, e1, e2, e3]
end Go.Proofs.YtebdcahjlcgonaaGreat.Bk
namespace Go.Proofs.YtebdcahjlcgonaaGreat.Bk
open Go.RowKit
set_option maxRecDepth 100000 in
set_option maxHeartbeats 2000000 in
theorem check_walk {r : Rc} {w : World} {s1 s2 s3 s4 q1 q2 q3 q4 : Bool} (hid : r.id < 4294967296) (h0 : ∀ w, Calls Tryz.prog 68 #[.int .i64 r.kind] w fun e w' => e = .returned (.tuple #[shpV s1 s2 s3 s4, .bool true]) ∧ Fr (fun _ => False) w w')
    (h1 : ∀ w, Calls Tryz.prog 112 #[.bool s1, .int .i64 (r.id : Int), .int .i64 1, .int .i64 4294967295] w fun e w' => e = .returned (.bool q1) ∧ w = w')
    (h2 : ∀ w, Calls Tryz.prog 112 #[.bool s2, .int .i64 r.seat, .int .i64 0, .int .i64 1023] w fun e w' => e = .returned (.bool q2) ∧ w = w')
    (h3 : ∀ w, Calls Tryz.prog 112 #[.bool s3, .int .i64 r.till, .int .i64 1, .int .i64 1099511627776] w fun e w' => e = .returned (.bool q3) ∧ w = w')
    (h4 : ∀ w, Calls Tryz.prog 112 #[.bool s4, .int .i64 r.clock, .int .i64 1, .int .i64 1099511627776] w fun e w' => e = .returned (.bool q4) ∧ w = w') :
    Calls Tryz.prog 79 #[rcV r] w fun e w' => e = .returned (.int .i64 (if (q1 && (q2 && (q3 && q4))) = true then 0 else 160)) ∧ Fr (fun _ => False) w w' := by
  obtain ⟨W, hW⟩ : ∃ W, W = w.alloc (rcC r) := ⟨_, rfl⟩
  obtain ⟨z, hz⟩ : ∃ z, z = w.heap.size := ⟨_, rfl⟩
  have f0 : Fr (fun _ => False) w W := by rw [hW]; exact Fr.alloc (Fr.refl _ _) _
  have hg : W.heap[z]? = some (rcC r) := by rw [hW, hz]; exact heap_alloc_at _ _
  obtain ⟨ri, hri⟩ : ∃ ri, ri = (r.id : Int) := ⟨_, rfl⟩
  rw [← hri] at h1
  have z0 := (cell_of hg 0).trans (show _ = some (Value.int .i64 r.kind) from rfl)
  have Hc := Lib.hid (show IntKind.i64.wrap ri = ri by rw [IntKind.wrap_i64, hri]; omega)
  have H0 := Lib.hid h0; have H1 := Lib.hid h1; have H2 := Lib.hid h2; have H3 := Lib.hid h3; have H4 := Lib.hid h4; have F0 := Lib.hid f0; have Hg := Lib.hid hg
  have Hri := Lib.hid hri
  clear h0 h1 h2 h3 h4 hid f0 hg hri
  cases q1 with
  | false =>
    go_enter Tryz.func79, Tryz.ntmps79
    go_upto_region 1 with fail
    rw [← hW, ← hz]
    clear hW hz
    go_wp2_with fail
    refine (H0.out _).mono ?_
    rintro e w1 ⟨rfl, f1⟩
    have g1 := f1.get Hg.out (fun h => h)
    obtain ⟨w2, hw2⟩ : ∃ w2, w2 = w1.alloc (.cells #[.bool s1, .bool s2, .bool s3, .bool s4] 137) := ⟨_, rfl⟩
    obtain ⟨y, hy⟩ : ∃ y, y = w1.heap.size := ⟨_, rfl⟩
    have f2 : Fr (fun _ => False) w1 w2 := by rw [hw2]; exact Fr.alloc (Fr.refl _ _) _
    have g2 := f2.get g1 (fun h => h)
    have gy : w2.heap[y]? = some (.cells #[.bool s1, .bool s2, .bool s3, .bool s4] 137 (0, 0)) := by rw [hw2, hy]; exact heap_alloc_at _ _
    have x1 := (cell_of g2 1).trans (show _ = some (Value.int .u32 (r.id : Int)) from rfl)
    rw [← Hri.out] at x1
    have x2 := (cell_of g2 2).trans (show _ = some (Value.int .i64 r.seat) from rfl)
    have x3 := (cell_of g2 3).trans (show _ = some (Value.int .i64 r.till) from rfl)
    have x4 := (cell_of g2 4).trans (show _ = some (Value.int .i64 r.clock) from rfl)
    have v0 := (cell_of gy 0).trans (show _ = some (Value.bool s1) from rfl)
    have v1 := (cell_of gy 1).trans (show _ = some (Value.bool s2) from rfl)
    have v2 := (cell_of gy 2).trans (show _ = some (Value.bool s3) from rfl)
    have v3 := (cell_of gy 3).trans (show _ = some (Value.bool s4) from rfl)
    have hc := Hc.out
    have Ff := Lib.hid ((F0.out.trans f1 (fun _ _ h => h)).trans f2 (fun _ _ h => h))
    clear f1 g1 f2 g2 gy z0
    go_upto_region 2 with fail
    rw [← hw2, ← hy]
    clear hw2 hy
    go_wp2_with fail
    refine (H1.out _).mono ?_
    rintro e w5 ⟨rfl, rfl⟩
    go_wp2_with fail
    go_ret
    exact ⟨rfl, Ff.out⟩
  | true =>
    cases q2 with
    | false =>
      go_enter Tryz.func79, Tryz.ntmps79
      go_upto_region 1 with fail
      rw [← hW, ← hz]
      clear hW hz
      go_wp2_with fail
      refine (H0.out _).mono ?_
      rintro e w1 ⟨rfl, f1⟩
      have g1 := f1.get Hg.out (fun h => h)
      obtain ⟨w2, hw2⟩ : ∃ w2, w2 = w1.alloc (.cells #[.bool s1, .bool s2, .bool s3, .bool s4] 137) := ⟨_, rfl⟩
      obtain ⟨y, hy⟩ : ∃ y, y = w1.heap.size := ⟨_, rfl⟩
      have f2 : Fr (fun _ => False) w1 w2 := by rw [hw2]; exact Fr.alloc (Fr.refl _ _) _
      have g2 := f2.get g1 (fun h => h)
      have gy : w2.heap[y]? = some (.cells #[.bool s1, .bool s2, .bool s3, .bool s4] 137 (0, 0)) := by rw [hw2, hy]; exact heap_alloc_at _ _
      have x1 := (cell_of g2 1).trans (show _ = some (Value.int .u32 (r.id : Int)) from rfl)
      rw [← Hri.out] at x1
      have x2 := (cell_of g2 2).trans (show _ = some (Value.int .i64 r.seat) from rfl)
      have x3 := (cell_of g2 3).trans (show _ = some (Value.int .i64 r.till) from rfl)
      have x4 := (cell_of g2 4).trans (show _ = some (Value.int .i64 r.clock) from rfl)
      have v0 := (cell_of gy 0).trans (show _ = some (Value.bool s1) from rfl)
      have v1 := (cell_of gy 1).trans (show _ = some (Value.bool s2) from rfl)
      have v2 := (cell_of gy 2).trans (show _ = some (Value.bool s3) from rfl)
      have v3 := (cell_of gy 3).trans (show _ = some (Value.bool s4) from rfl)
      have hc := Hc.out
      have Ff := Lib.hid ((F0.out.trans f1 (fun _ _ h => h)).trans f2 (fun _ _ h => h))
      clear f1 g1 f2 g2 gy z0
      go_upto_region 2 with fail
      rw [← hw2, ← hy]
      clear hw2 hy
      go_wp2_with fail
      refine (H1.out _).mono ?_
      rintro e w5 ⟨rfl, rfl⟩
      go_wp2_with fail
      refine (H2.out _).mono ?_
      rintro e w5 ⟨rfl, rfl⟩
      go_wp2_with fail
      go_ret
      exact ⟨rfl, Ff.out⟩
    | true =>
      cases q3 with
      | false =>
        go_enter Tryz.func79, Tryz.ntmps79
        go_upto_region 1 with fail
        rw [← hW, ← hz]
        clear hW hz
        go_wp2_with fail
        refine (H0.out _).mono ?_
        rintro e w1 ⟨rfl, f1⟩
        have g1 := f1.get Hg.out (fun h => h)
        obtain ⟨w2, hw2⟩ : ∃ w2, w2 = w1.alloc (.cells #[.bool s1, .bool s2, .bool s3, .bool s4] 137) := ⟨_, rfl⟩
        obtain ⟨y, hy⟩ : ∃ y, y = w1.heap.size := ⟨_, rfl⟩
        have f2 : Fr (fun _ => False) w1 w2 := by rw [hw2]; exact Fr.alloc (Fr.refl _ _) _
        have g2 := f2.get g1 (fun h => h)
        have gy : w2.heap[y]? = some (.cells #[.bool s1, .bool s2, .bool s3, .bool s4] 137 (0, 0)) := by rw [hw2, hy]; exact heap_alloc_at _ _
        have x1 := (cell_of g2 1).trans (show _ = some (Value.int .u32 (r.id : Int)) from rfl)
        rw [← Hri.out] at x1
        have x2 := (cell_of g2 2).trans (show _ = some (Value.int .i64 r.seat) from rfl)
        have x3 := (cell_of g2 3).trans (show _ = some (Value.int .i64 r.till) from rfl)
        have x4 := (cell_of g2 4).trans (show _ = some (Value.int .i64 r.clock) from rfl)
        have v0 := (cell_of gy 0).trans (show _ = some (Value.bool s1) from rfl)
        have v1 := (cell_of gy 1).trans (show _ = some (Value.bool s2) from rfl)
        have v2 := (cell_of gy 2).trans (show _ = some (Value.bool s3) from rfl)
        have v3 := (cell_of gy 3).trans (show _ = some (Value.bool s4) from rfl)
        have hc := Hc.out
        have Ff := Lib.hid ((F0.out.trans f1 (fun _ _ h => h)).trans f2 (fun _ _ h => h))
        clear f1 g1 f2 g2 gy z0
        go_upto_region 2 with fail
        rw [← hw2, ← hy]
        clear hw2 hy
        go_wp2_with fail
        refine (H1.out _).mono ?_
        rintro e w5 ⟨rfl, rfl⟩
        go_wp2_with fail
        refine (H2.out _).mono ?_
        rintro e w5 ⟨rfl, rfl⟩
        go_wp2_with fail
        refine (H3.out _).mono ?_
        rintro e w5 ⟨rfl, rfl⟩
        go_wp2_with fail
        go_ret
        exact ⟨rfl, Ff.out⟩
      | true =>
        cases q4 with
        | false =>
          go_enter Tryz.func79, Tryz.ntmps79
          go_upto_region 1 with fail
          rw [← hW, ← hz]
          clear hW hz
          go_wp2_with fail
          refine (H0.out _).mono ?_
          rintro e w1 ⟨rfl, f1⟩
          have g1 := f1.get Hg.out (fun h => h)
          obtain ⟨w2, hw2⟩ : ∃ w2, w2 = w1.alloc (.cells #[.bool s1, .bool s2, .bool s3, .bool s4] 137) := ⟨_, rfl⟩
          obtain ⟨y, hy⟩ : ∃ y, y = w1.heap.size := ⟨_, rfl⟩
          have f2 : Fr (fun _ => False) w1 w2 := by rw [hw2]; exact Fr.alloc (Fr.refl _ _) _
          have g2 := f2.get g1 (fun h => h)
          have gy : w2.heap[y]? = some (.cells #[.bool s1, .bool s2, .bool s3, .bool s4] 137 (0, 0)) := by rw [hw2, hy]; exact heap_alloc_at _ _
          have x1 := (cell_of g2 1).trans (show _ = some (Value.int .u32 (r.id : Int)) from rfl)
          rw [← Hri.out] at x1
          have x2 := (cell_of g2 2).trans (show _ = some (Value.int .i64 r.seat) from rfl)
          have x3 := (cell_of g2 3).trans (show _ = some (Value.int .i64 r.till) from rfl)
          have x4 := (cell_of g2 4).trans (show _ = some (Value.int .i64 r.clock) from rfl)
          have v0 := (cell_of gy 0).trans (show _ = some (Value.bool s1) from rfl)
          have v1 := (cell_of gy 1).trans (show _ = some (Value.bool s2) from rfl)
          have v2 := (cell_of gy 2).trans (show _ = some (Value.bool s3) from rfl)
          have v3 := (cell_of gy 3).trans (show _ = some (Value.bool s4) from rfl)
          have hc := Hc.out
          have Ff := Lib.hid ((F0.out.trans f1 (fun _ _ h => h)).trans f2 (fun _ _ h => h))
          clear f1 g1 f2 g2 gy z0
          go_upto_region 2 with fail
          rw [← hw2, ← hy]
          clear hw2 hy
          go_wp2_with fail
          refine (H1.out _).mono ?_
          rintro e w5 ⟨rfl, rfl⟩
          go_wp2_with fail
          refine (H2.out _).mono ?_
          rintro e w5 ⟨rfl, rfl⟩
          go_wp2_with fail
          refine (H3.out _).mono ?_
          rintro e w5 ⟨rfl, rfl⟩
          go_wp2_with fail
          refine (H4.out _).mono ?_
          rintro e w5 ⟨rfl, rfl⟩
          go_wp2_with fail
          go_ret
          exact ⟨rfl, Ff.out⟩
        | true =>
          go_enter Tryz.func79, Tryz.ntmps79
          go_upto_region 1 with fail
          rw [← hW, ← hz]
          clear hW hz
          go_wp2_with fail
          refine (H0.out _).mono ?_
          rintro e w1 ⟨rfl, f1⟩
          have g1 := f1.get Hg.out (fun h => h)
          obtain ⟨w2, hw2⟩ : ∃ w2, w2 = w1.alloc (.cells #[.bool s1, .bool s2, .bool s3, .bool s4] 137) := ⟨_, rfl⟩
          obtain ⟨y, hy⟩ : ∃ y, y = w1.heap.size := ⟨_, rfl⟩
          have f2 : Fr (fun _ => False) w1 w2 := by rw [hw2]; exact Fr.alloc (Fr.refl _ _) _
          have g2 := f2.get g1 (fun h => h)
          have gy : w2.heap[y]? = some (.cells #[.bool s1, .bool s2, .bool s3, .bool s4] 137 (0, 0)) := by rw [hw2, hy]; exact heap_alloc_at _ _
          have x1 := (cell_of g2 1).trans (show _ = some (Value.int .u32 (r.id : Int)) from rfl)
          rw [← Hri.out] at x1
          have x2 := (cell_of g2 2).trans (show _ = some (Value.int .i64 r.seat) from rfl)
          have x3 := (cell_of g2 3).trans (show _ = some (Value.int .i64 r.till) from rfl)
          have x4 := (cell_of g2 4).trans (show _ = some (Value.int .i64 r.clock) from rfl)
          have v0 := (cell_of gy 0).trans (show _ = some (Value.bool s1) from rfl)
          have v1 := (cell_of gy 1).trans (show _ = some (Value.bool s2) from rfl)
          have v2 := (cell_of gy 2).trans (show _ = some (Value.bool s3) from rfl)
          have v3 := (cell_of gy 3).trans (show _ = some (Value.bool s4) from rfl)
          have hc := Hc.out
          have Ff := Lib.hid ((F0.out.trans f1 (fun _ _ h => h)).trans f2 (fun _ _ h => h))
          clear f1 g1 f2 g2 gy z0
          go_upto_region 2 with fail
          rw [← hw2, ← hy]
          clear hw2 hy
          go_wp2_with fail
          refine (H1.out _).mono ?_
          rintro e w5 ⟨rfl, rfl⟩
          go_wp2_with fail
          refine (H2.out _).mono ?_
          rintro e w5 ⟨rfl, rfl⟩
          go_wp2_with fail
          refine (H3.out _).mono ?_
          rintro e w5 ⟨rfl, rfl⟩
          go_wp2_with fail
          refine (H4.out _).mono ?_
          rintro e w5 ⟨rfl, rfl⟩
          go_wp2_with fail
          go_ret
          exact ⟨rfl, Ff.out⟩
set_option maxRecDepth 100000 in
theorem check_none {r : Rc} {w : World} (h : r.kind < 1 ∨ 5 < r.kind) :
    Calls Tryz.prog 79 #[rcV r] w fun e w' => e = .returned (.int .i64 160) ∧ Fr (fun _ => False) w w' := by
  obtain ⟨W, hW⟩ : ∃ W, W = w.alloc (rcC r) := ⟨_, rfl⟩
  obtain ⟨z, hz⟩ : ∃ z, z = w.heap.size := ⟨_, rfl⟩
  have f0 : Fr (fun _ => False) w W := by rw [hW]; exact Fr.alloc (Fr.refl _ _) _
  have hg : W.heap[z]? = some (rcC r) := by rw [hW, hz]; exact heap_alloc_at _ _
  have z0 := (cell_of hg 0).trans (show _ = some (Value.int .i64 r.kind) from rfl)
  have H0 := Lib.hid (of_none h); have F0 := Lib.hid f0
  clear h f0 hg
  go_enter Tryz.func79, Tryz.ntmps79
  go_upto_region 1 with fail
  rw [← hW, ← hz]
  clear hW hz
  go_wp2_with fail
  refine (H0.out _).mono ?_
  rintro e w1 ⟨rfl, f1⟩
  have Ff := Lib.hid ((F0.out.trans f1 (fun _ _ h => h)).alloc (.cells #[.bool false, .bool false, .bool false, .bool false] 137))
  clear f1 z0
  go_wp2_with fail
  go_ret
  exact ⟨rfl, Ff.out⟩
theorem recB_none {r : Rc} (h : r.kind < 1 ∨ 5 < r.kind) : recB r = false := by
  cases e : recB r
  · rfl
  · have := recB_kind e; omega
theorem check_ok {r : Rc} (hid : r.id < 4294967296) (w : World) :
    Calls Tryz.prog 79 #[rcV r] w fun e w' => e = .returned (.int .i64 (if recB r = true then 0 else 160)) ∧ Fr (fun _ => False) w w' := by
  by_cases hk : r.kind < 1 ∨ 5 < r.kind
  · rw [recB_none hk]; exact check_none hk
  · have hkk : r.kind = 1 ∨ r.kind = 2 ∨ r.kind = 3 ∨ r.kind = 4 ∨ r.kind = 5 := by omega
    clear hk
    have bb : ∀ a b : Bool, (a = true ↔ b = true) → a = b := fun a b h => by cases a <;> cases b <;> simp at h ⊢
    rcases hkk with k | k | k | k | k
    · refine (check_walk hid (fun w => by rw [k]; exact of_1 w) (fun w => within_yes _ _ _ w) (fun w => within_yes _ _ _ w) (fun w => within_yes _ _ _ w) (fun w => within_no _ _ _ w)).mono ?_
      rintro e w' ⟨rfl, f⟩
      refine ⟨?_, f⟩
      have e : recB r = ((decide (1 ≤ (r.id : Int)) && decide ((r.id : Int) ≤ 4294967295)) && ((decide (0 ≤ r.seat) && decide (r.seat ≤ 1023)) && ((decide (1 ≤ r.till) && decide (r.till ≤ 1099511627776)) && (r.clock == 0)))) := bb _ _ (by unfold recB; simp [k]; omega)
      rw [e]
    · refine (check_walk hid (fun w => by rw [k]; exact of_2 w) (fun w => within_yes _ _ _ w) (fun w => within_no _ _ _ w) (fun w => within_no _ _ _ w) (fun w => within_no _ _ _ w)).mono ?_
      rintro e w' ⟨rfl, f⟩
      refine ⟨?_, f⟩
      have e : recB r = ((decide (1 ≤ (r.id : Int)) && decide ((r.id : Int) ≤ 4294967295)) && ((r.seat == 0) && ((r.till == 0) && (r.clock == 0)))) := bb _ _ (by unfold recB; simp [k]; omega)
      rw [e]
    · refine (check_walk hid (fun w => by rw [k]; exact of_3 w) (fun w => within_yes _ _ _ w) (fun w => within_no _ _ _ w) (fun w => within_no _ _ _ w) (fun w => within_no _ _ _ w)).mono ?_
      rintro e w' ⟨rfl, f⟩
      refine ⟨?_, f⟩
      have e : recB r = ((decide (1 ≤ (r.id : Int)) && decide ((r.id : Int) ≤ 4294967295)) && ((r.seat == 0) && ((r.till == 0) && (r.clock == 0)))) := bb _ _ (by unfold recB; simp [k]; omega)
      rw [e]
    · refine (check_walk hid (fun w => by rw [k]; exact of_4 w) (fun w => within_yes _ _ _ w) (fun w => within_yes _ _ _ w) (fun w => within_no _ _ _ w) (fun w => within_no _ _ _ w)).mono ?_
      rintro e w' ⟨rfl, f⟩
      refine ⟨?_, f⟩
      have e : recB r = ((decide (1 ≤ (r.id : Int)) && decide ((r.id : Int) ≤ 4294967295)) && ((decide (0 ≤ r.seat) && decide (r.seat ≤ 1023)) && ((r.till == 0) && (r.clock == 0)))) := bb _ _ (by unfold recB; simp [k]; omega)
      rw [e]
    · refine (check_walk hid (fun w => by rw [k]; exact of_5 w) (fun w => within_no _ _ _ w) (fun w => within_no _ _ _ w) (fun w => within_no _ _ _ w) (fun w => within_yes _ _ _ w)).mono ?_
      rintro e w' ⟨rfl, f⟩
      refine ⟨?_, f⟩
      have e : recB r = (((r.id : Int) == 0) && ((r.seat == 0) && ((r.till == 0) && (decide (1 ≤ r.clock) && decide (r.clock ≤ 1099511627776))))) := bb _ _ (by unfold recB; simp [k]; omega)
      rw [e]
end Go.Proofs.YtebdcahjlcgonaaGreat.Bk
namespace Go.Proofs.YtebdcahjlcgonaaGreat.Bk
open Go.RowKit
theorem Aft.of {p q : Pt} {bb : Nat} {b : Bk} {w w1 w2 : World} (h : Aft q bb b w1 w2) (f : Fr (p.own bb) w w1) (ho : ∀ y, q.own bb y → p.own bb y ∨ w.heap.size ≤ y) : Aft p bb b w w2 := by
  obtain ⟨r, h1, h2, h3⟩ := h
  refine ⟨r, h1, f.trans h2 (fun y hy e => (ho y e).resolve_right (by omega)), fun y hy => ?_⟩
  rcases h3 y hy with h | h
  · exact ho y h
  · exact .inr (Nat.le_trans f.size h)
theorem seats_firm {b : Bk} (h : Raw b) {x : Bo} (hx : x ∈ b.L) {j : Nat} (hj : x.2.1 = (j : Int)) : seatsOf b.seats (bFirm b.L x.1) = (seatsOf b.seats b.L).set j (x.1, x.2.1, 0) := by
  refine seatsOf_set (fun k hk => ?_) ?_
  · rw [seat_firm h hx, if_neg (by rw [hj]; omega)]
  · rw [seat_firm h hx, if_pos hj.symm]; rfl
theorem taken_firm {b : Bk} (h : Raw b) {x : Bo} (hx : x ∈ b.L) : takenOf b.seats (bFirm b.L x.1) = takenOf b.seats b.L := by
  unfold takenOf
  apply List.map_congr_left
  intro k _
  rw [seat_firm h hx]
  by_cases e : (k : Int) = x.2.1
  · rw [if_pos e, e, (bSeat_some h.lone).2 hx]; rfl
  · rw [if_neg e]
set_option maxRecDepth 100000 in
theorem apply_no {w : World} {q : Option Addr} (h : NoBook w q) (r : Rc) : Calls Tryz.prog 38 #[.pointer q, rcV r] w fun e w' => e = .returned (.int .i64 1) ∧ Fr (fun _ => False) w w' := by
  obtain ⟨W, hW⟩ : ∃ W, W = w.alloc (rcC r) := ⟨_, rfl⟩
  have f0 : Fr (fun _ => False) w W := by rw [hW]; exact Fr.alloc (Fr.refl _ _) _
  have HT := Lib.hid (there_no (h.fr f0)); have F0 := Lib.hid f0
  clear h f0
  go_enter Tryz.func38, Tryz.ntmps38
  go_upto_region 1 with fail
  rw [← hW]
  clear hW
  go_wp2_with fail
  refine HT.out.mono ?_
  rintro e w1 ⟨rfl, rfl⟩
  go_wp2_with fail
  go_ret
  exact ⟨rfl, F0.out⟩
set_option maxRecDepth 100000 in
set_option maxHeartbeats 4000000 in
theorem apply_ok {p : Pt} {bb : Nat} {b : Bk} {w : World} (h : BkP p bb b.next b b.L b.L w) {r : Rc} (hid : r.id < 4294967296) :
    Calls Tryz.prog 38 #[.pointer (some ⟨bb, 0, none⟩), rcV r] w fun e w' => e = .returned (.int .i64 (appE b r : Nat)) ∧ Aft p bb (appB b r) w w' := by
  obtain ⟨W, hW⟩ : ∃ W, W = w.alloc (rcC r) := ⟨_, rfl⟩
  obtain ⟨z, hz⟩ : ∃ z, z = w.heap.size := ⟨_, rfl⟩
  have f0 : Fr (fun _ => False) w W := by rw [hW]; exact Fr.alloc (Fr.refl _ _) _
  have hg : W.heap[z]? = some (rcC r) := by rw [hW, hz]; exact heap_alloc_at _ _
  have hB := h.keep f0
  have z0 := (cell_of hg 0).trans (show _ = some (Value.int .i64 r.kind) from rfl)
  have z1 := (cell_of hg 1).trans (show _ = some (Value.int .u32 (r.id : Int)) from rfl)
  have z2 := (cell_of hg 2).trans (show _ = some (Value.int .i64 r.seat) from rfl)
  have z3 := (cell_of hg 3).trans (show _ = some (Value.int .i64 r.till) from rfl)
  have z4 := (cell_of hg 4).trans (show _ = some (Value.int .i64 r.clock) from rfl)
  have HT := Lib.hid (there_ok hB); have HB := Lib.hid hB; have F0 := Lib.hid f0; have H := Lib.hid h; have Hg := Lib.hid hg
  have HC := Lib.hid (fun w => check_ok (r := r) hid w)
  have HZ := Lib.hid (show w.heap.size ≤ z by omega); have Hid := Lib.hid hid
  have Fp := Lib.hid (f0.mono (fun _ _ h => h.elim) : Fr (p.own bb) w W)
  by_cases hr : recB r = true
  · have hap1 : appE b r = if r.kind = 1 then holdE b r else if r.kind = 5 then tickE b r.clock else match bFind b.L r.id with | none => 171 | some x => if r.kind = 4 then seatE b x r.seat else 0 := by
      unfold appE; rw [if_neg (by rw [hr]; simp)]; rfl
    have hap2 : appB b r = if r.kind = 1 then holdB b r else if r.kind = 5 then tickB b r.clock else match bFind b.L r.id with | none => b | some x => if r.kind = 2 then { b with L := bFirm b.L r.id } else if r.kind = 3 then { b with L := bDrop b.L r.id } else seatB b x r.seat := by
      unfold appB; rw [if_neg (by rw [hr]; simp)]; rfl
    have hkk := recB_kind hr
    rw [hr] at HC
    simp only [if_true] at HC
    by_cases k1 : r.kind = 1
    · rw [if_pos k1] at hap1 hap2
      rw [hap1, hap2]
      have HH := Lib.hid (fun (w' : World) (f : Fr (fun _ => False) W w') => hold_ok (hB.keep f) hr k1 hid)
      rw [k1] at z0
      have K1 := Lib.hid k1
      clear f0 hg hB h hid hr hap1 hap2 hkk k1
      go_enter Tryz.func38, Tryz.ntmps38
      go_upto_region 1 with fail
      rw [← hW, ← hz]
      clear hW hz
      go_wp2_with fail
      refine HT.out.mono ?_
      rintro e w1 ⟨rfl, rfl⟩
      go_wp2_with fail
      rw [← K1.out]
      refine (HC.out _).mono ?_
      rintro e w1 ⟨rfl, f1⟩
      have HG1 := Lib.hid (f1.get Hg.out (fun h => h)); have F1 := Lib.hid f1
      clear z0 z1 z2 z3 z4 f1
      have z0 := (cell_of HG1.out 0).trans (show _ = some (Value.int .i64 r.kind) from rfl)
      have z1 := (cell_of HG1.out 1).trans (show _ = some (Value.int .u32 (r.id : Int)) from rfl)
      have z2 := (cell_of HG1.out 2).trans (show _ = some (Value.int .i64 r.seat) from rfl)
      have z3 := (cell_of HG1.out 3).trans (show _ = some (Value.int .i64 r.till) from rfl)
      have z4 := (cell_of HG1.out 4).trans (show _ = some (Value.int .i64 r.clock) from rfl)
      rw [K1.out] at z0
      go_wp2_with fail
      rw [← K1.out]
      refine (HH.out _ F1.out).mono ?_
      rintro e w2 ⟨rfl, ha⟩
      have Hfin := Lib.hid (ha.of (Fp.out.trans F1.out (fun _ _ h => h.elim)) (fun _ h => .inl h))
      clear ha z0 z1 z2 z3 z4
      go_wp2_with fail
      go_ret
      exact ⟨rfl, Hfin.out⟩
    · rw [if_neg k1] at hap1 hap2
      have n1 := k1
      clear k1
      by_cases k1 : r.kind = 5
      · rw [if_pos k1] at hap1 hap2
        rw [hap1, hap2]
        have HH := Lib.hid (fun (w' : World) (f : Fr (fun _ => False) W w') => tick_ok (hB.keep f) (c := r.clock) (recB_tick hr k1).1 (recB_tick hr k1).2)
        rw [k1] at z0
        have K1 := Lib.hid k1
        clear f0 hg hB h hid hr hap1 hap2 hkk k1
        go_enter Tryz.func38, Tryz.ntmps38
        go_upto_region 1 with fail
        rw [← hW, ← hz]
        clear hW hz
        go_wp2_with fail
        refine HT.out.mono ?_
        rintro e w1 ⟨rfl, rfl⟩
        go_wp2_with fail
        rw [← K1.out]
        refine (HC.out _).mono ?_
        rintro e w1 ⟨rfl, f1⟩
        have HG1 := Lib.hid (f1.get Hg.out (fun h => h)); have F1 := Lib.hid f1
        clear z0 z1 z2 z3 z4 f1
        have z0 := (cell_of HG1.out 0).trans (show _ = some (Value.int .i64 r.kind) from rfl)
        have z1 := (cell_of HG1.out 1).trans (show _ = some (Value.int .u32 (r.id : Int)) from rfl)
        have z2 := (cell_of HG1.out 2).trans (show _ = some (Value.int .i64 r.seat) from rfl)
        have z3 := (cell_of HG1.out 3).trans (show _ = some (Value.int .i64 r.till) from rfl)
        have z4 := (cell_of HG1.out 4).trans (show _ = some (Value.int .i64 r.clock) from rfl)
        rw [K1.out] at z0
        go_wp2_with fail
        refine (HH.out _ F1.out).mono ?_
        rintro e w2 ⟨rfl, ha⟩
        have Hfin := Lib.hid (ha.of (Fp.out.trans F1.out (fun _ _ h => h.elim)) (fun _ h => .inl h))
        clear ha z0 z1 z2 z3 z4
        go_wp2_with fail
        go_ret
        exact ⟨rfl, Hfin.out⟩
      · rw [if_neg k1] at hap1 hap2
        have n5 := k1
        clear k1
        rcases (by omega : r.kind = 2 ∨ r.kind = 3 ∨ r.kind = 4) with k1 | k1 | k1
        · cases hfd : bFind b.L r.id with
          | none =>
            have HGet := Lib.hid (fun (w' : World) (f : Fr (fun _ => False) W w') => get_ok (hB.keep f) hid)
            rw [hfd] at HGet hap1 hap2
            rw [hap1, hap2]
            rw [k1] at z0
            have K1 := Lib.hid k1
            have Hsame := Lib.hid (fun (st : Nat) (w' : World) (h : BkP (p.steps st) bb b.next b b.L b.L w') (f : Fr (p.own bb) w w') => show Aft p bb b w w' from ⟨_, h, f, fun y hy => .inl hy⟩)
            clear f0 hg hB h hid hr hap1 hap2 hkk k1 hfd
            go_enter Tryz.func38, Tryz.ntmps38
            go_upto_region 1 with fail
            rw [← hW, ← hz]
            clear hW hz
            go_wp2_with fail
            refine HT.out.mono ?_
            rintro e w1 ⟨rfl, rfl⟩
            go_wp2_with fail
            rw [← K1.out]
            refine (HC.out _).mono ?_
            rintro e w1 ⟨rfl, f1⟩
            have HG1 := Lib.hid (f1.get Hg.out (fun h => h)); have F1 := Lib.hid f1
            clear z0 z1 z2 z3 z4 f1
            have z0 := (cell_of HG1.out 0).trans (show _ = some (Value.int .i64 r.kind) from rfl)
            have z1 := (cell_of HG1.out 1).trans (show _ = some (Value.int .u32 (r.id : Int)) from rfl)
            have z2 := (cell_of HG1.out 2).trans (show _ = some (Value.int .i64 r.seat) from rfl)
            have z3 := (cell_of HG1.out 3).trans (show _ = some (Value.int .i64 r.till) from rfl)
            have z4 := (cell_of HG1.out 4).trans (show _ = some (Value.int .i64 r.clock) from rfl)
            rw [K1.out] at z0
            go_wp2_with fail
            refine (HGet.out _ F1.out).mono ?_
            rintro e w2 ⟨rfl, ⟨st, hb2⟩, f2⟩
            have Hfin := Lib.hid (Hsame.out st _ (hb2.keep (Fr.alloc (Fr.refl _ _) (.cells #[.int .u32 0, .int .i64 0, .int .i64 0] 77))) (((Fp.out.trans F1.out (fun _ _ h => h.elim)).trans f2 (fun y _ e => by rw [e]; exact Pt.ownI (.inl rfl))).trans (G := fun _ => False) (Fr.alloc (Fr.refl _ _) (.cells #[.int .u32 0, .int .i64 0, .int .i64 0] 77)) (fun _ _ h => h.elim)))
            clear hb2 f2 z0 z1 z2 z3 z4
            simp only [getE]
            go_wp2_with fail
            go_ret
            exact ⟨rfl, Hfin.out⟩
          | some x =>
            have HGet := Lib.hid (fun (w' : World) (f : Fr (fun _ => False) W w') => get_ok (hB.keep f) hid)
            rw [hfd] at HGet hap1 hap2
            have hap1' : appE b r = 0 := by rw [hap1]; simp [k1]
            have hap2' : appB b r = { b with L := bFirm b.L r.id } := by rw [hap2]; simp [k1]
            rw [hap1', hap2']
            rw [k1] at z0
            have K1 := Lib.hid k1
            obtain ⟨hxi, hxm⟩ := bFind_id hfd
            have Hxm := Lib.hid hxm; have Hxi := Lib.hid hxi
            have lz : p.ip < z := by have := h.idx.lt.1; rw [hz]; exact this
            clear f0 hg hB h hid hr hap1 hap2 hap1' hap2' hkk k1 hfd hxi hxm
            go_enter Tryz.func38, Tryz.ntmps38
            go_upto_region 1 with fail
            rw [← hW, ← hz]
            clear hW hz
            go_wp2_with fail
            refine HT.out.mono ?_
            rintro e w1 ⟨rfl, rfl⟩
            go_wp2_with fail
            rw [← K1.out]
            refine (HC.out _).mono ?_
            rintro e w1 ⟨rfl, f1⟩
            have HG1 := Lib.hid (f1.get Hg.out (fun h => h)); have F1 := Lib.hid f1
            clear z0 z1 z2 z3 z4 f1
            have z0 := (cell_of HG1.out 0).trans (show _ = some (Value.int .i64 r.kind) from rfl)
            have z1 := (cell_of HG1.out 1).trans (show _ = some (Value.int .u32 (r.id : Int)) from rfl)
            have z2 := (cell_of HG1.out 2).trans (show _ = some (Value.int .i64 r.seat) from rfl)
            have z3 := (cell_of HG1.out 3).trans (show _ = some (Value.int .i64 r.till) from rfl)
            have z4 := (cell_of HG1.out 4).trans (show _ = some (Value.int .i64 r.clock) from rfl)
            rw [K1.out] at z0
            go_wp2_with fail
            refine (HGet.out _ F1.out).mono ?_
            rintro e w2 ⟨rfl, ⟨st, hb2⟩, f2⟩
            obtain ⟨w3, hw3⟩ : ∃ w3, w3 = w2.alloc (.cells #[.int .u32 (x.1 : Int), .int .i64 x.2.1, .int .i64 x.2.2] 77) := ⟨_, rfl⟩
            obtain ⟨y, hy⟩ : ∃ y, y = w2.heap.size := ⟨_, rfl⟩
            have f3 : Fr (fun _ => False) w2 w3 := by rw [hw3]; exact Fr.alloc (Fr.refl _ _) _
            have hgy : w3.heap[y]? = some (.cells #[.int .u32 (x.1 : Int), .int .i64 x.2.1, .int .i64 x.2.2] 77 (0, 0)) := by rw [hw3, hy]; exact heap_alloc_at _ _
            obtain ⟨y0, y1, y2⟩ := box_bo hgy
            have hb3 := hb2.keep f3
            have g3 := (f2.trans f3 (fun _ _ h => h.elim)).get HG1.out (fun e => by omega)
            have FF := Lib.hid (((Fp.out.trans F1.out (fun _ _ h => h.elim)).trans f2 (fun y _ e => by rw [e]; exact Pt.ownI (.inl rfl))).trans f3 (fun _ _ h => h.elim))
            clear z0 z1 z2 z3 z4
            have z0 := (cell_of g3 0).trans (show _ = some (Value.int .i64 r.kind) from rfl)
            have z2 := (cell_of g3 2).trans (show _ = some (Value.int .i64 r.seat) from rfl)
            rw [K1.out] at z0
            have YN := Lib.hid (show ¬ (p.steps st).own bb y from fun e => by have := hb2.lt e; omega)
            have HB3 := Lib.hid hb3; have HGy := Lib.hid hgy
            clear hb2 f2 f3 hgy hb3 g3
            simp only [getE]
            go_upto_region 12 with fail
            rw [← hw3, ← hy]
            clear hw3 hy
            go_wp2_with fail
            refine (firm_ok HB3.out HB3.out.raw.idlt HB3.out.raw.up (id := x.1)).mono ?_
            rintro e w4 ⟨rfl, q, hb4, f4, ho4⟩
            have raw := hb4.raw
            obtain ⟨s0, s1⟩ := raw.at_ x Hxm.out
            obtain ⟨j, hj⟩ : ∃ j : Nat, x.2.1 = (j : Int) := ⟨x.2.1.toNat, by omega⟩
            have gy := f4.get HGy.out YN.out
            obtain ⟨y0, y1, y2⟩ := box_bo gy
            rw [hj] at y1
            have hjs : j < b.seats := by omega
            obtain ⟨g, cap, ev⟩ : ∃ g cap, q.sv = .slice (some ⟨g, 0, none⟩) b.seats cap := by
              rcases hb4.row.2 with ⟨_, h0⟩ | ⟨g, c, cur, e, _⟩
              · rw [seatsOf_length] at h0; omega
              · rw [seatsOf_length] at e; exact ⟨_, _, e⟩
            have c8 := hb4.c.2.2.2.2.2.2.2.2.1
            rw [ev] at c8
            have hrow0 := hb4.row
            rw [ev] at hrow0
            obtain ⟨g', cap', e', d0, d1, d2⟩ := Bos.cells hrow0 (k := j) (by rw [seatsOf_length]; exact hjs)
            obtain ⟨rfl⟩ : g = g' := by have := (Value.slice.inj e').1; simpa using this
            have fz : w4.frozen? ⟨g, j * 3 + 2, none⟩ = false := by
              rcases hrow0.2 with ⟨e, _⟩ | ⟨g'', c, cur, e, _, q1, _⟩
              · cases e
              · obtain ⟨e1, _, _⟩ := Value.slice.inj e
                obtain rfl : g = g'' := by simpa using e1
                exact free_of q1 _
            have hrow := Bos.till hrow0 (p := j) (by rw [seatsOf_length]; exact hjs) 0
            have hget : (seatsOf b.seats b.L)[j]'(by rw [seatsOf_length]; exact hjs) = x := by
              rw [seatsOf_get, ← hj, (bSeat_some raw.lone).2 Hxm.out]; rfl
            rw [hget, ← seats_firm raw Hxm.out hj] at hrow
            obtain ⟨lab, hl, h9⟩ := hb4.labs
            have hgS : q.sv.ownBlock = some g := by rw [ev]; rfl
            have fs : Fr (fun x => x = g) w4 (w4.setCell ⟨g, j * 3 + 2, none⟩ (.int .i64 0)) := (Fr.refl (fun y => y = g) _).setCell (p := ⟨g, j * 3 + 2, none⟩) (fun _ => rfl) _
            obtain ⟨w5, hw5⟩ : ∃ w5, w5 = w4.setCell ⟨g, j * 3 + 2, none⟩ (.int .i64 0) := ⟨_, rfl⟩
            rw [← hw5] at hrow fs
            have fl : Fr (fun x => lab x = 3) w4 w5 := fs.mono (fun x _ hx => by rw [hx]; exact hl.l3 g hgS)
            have hrow' : Bos w5 q.sv (seatsOf b.seats (bFirm b.L x.1)) := by rw [ev]; exact hrow
            have Hfin := Lib.hid (show Aft p bb { b with L := bFirm b.L x.1 } w w5.drew from
              ⟨_, (hl.build (b' := { b with L := bFirm b.L x.1 }) (LS' := bFirm b.L x.1) (LD' := bFirm b.L x.1) h9 (hl.head fl (by decide) hb4.head) (by rw [show takenOf b.seats (bFirm b.L x.1) = takenOf b.seats b.L from taken_firm raw Hxm.out]; exact hl.set fl (by decide) hb4.set) (by rw [show idsOf (bFirm b.L x.1) = idsOf b.L from ids_firm _]; exact hl.idx fl (by decide) hb4.idx) hrow'
                  (hl.heap fl (by decide) hb4.heap) (hl.map fl (by decide) hb4.map) hb4.due hb4.nh (raw.firm x.1) (fun x hx => .inl hx)).keep (Fr.drew (Fr.refl _ _)),
                (FF.out.trans f4 (fun _ _ h => h)).trans (Fr.drew fs) (fun y _ e => by rw [e]; exact ho4 g (Pt.ownS hgS)), fun y hy => .inl (ho4 y (by
                      rcases hy with h | h | h | h | h | h | h | h
                      · exact .inl h
                      · exact .inr (.inl h)
                      · exact .inr (.inr (.inl h))
                      · exact .inr (.inr (.inr (.inl h)))
                      · exact .inr (.inr (.inr (.inr (.inl h))))
                      · exact .inr (.inr (.inr (.inr (.inr (.inl h)))))
                      · exact .inr (.inr (.inr (.inr (.inr (.inr (.inl h))))))
                      · exact .inr (.inr (.inr (.inr (.inr (.inr (.inr h))))))))⟩)
            have hjs' : (j : Int) < (b.seats : Int) := by omega
            have hsm : (b.seats : Int) ≤ 1024 := by have := raw.s1; omega
            have HW5 := Lib.hid hw5
            clear hb4 f4 ho4 raw hl h9 hrow hrow' fs fl hrow0 ev hget hgS gy z0 z2 hw5 e'
            go_upto_region 17 with fail
            go_still_tail 8, (by kernel_rfl)
            go_wp2_with fail
            go_ret
            rw [← HW5.out, ← Hxi.out]
            exact ⟨rfl, Hfin.out⟩
        · cases hfd : bFind b.L r.id with
          | none =>
            have HGet := Lib.hid (fun (w' : World) (f : Fr (fun _ => False) W w') => get_ok (hB.keep f) hid)
            rw [hfd] at HGet hap1 hap2
            rw [hap1, hap2]
            rw [k1] at z0
            have K1 := Lib.hid k1
            have Hsame := Lib.hid (fun (st : Nat) (w' : World) (h : BkP (p.steps st) bb b.next b b.L b.L w') (f : Fr (p.own bb) w w') => show Aft p bb b w w' from ⟨_, h, f, fun y hy => .inl hy⟩)
            clear f0 hg hB h hid hr hap1 hap2 hkk k1 hfd
            go_enter Tryz.func38, Tryz.ntmps38
            go_upto_region 1 with fail
            rw [← hW, ← hz]
            clear hW hz
            go_wp2_with fail
            refine HT.out.mono ?_
            rintro e w1 ⟨rfl, rfl⟩
            go_wp2_with fail
            rw [← K1.out]
            refine (HC.out _).mono ?_
            rintro e w1 ⟨rfl, f1⟩
            have HG1 := Lib.hid (f1.get Hg.out (fun h => h)); have F1 := Lib.hid f1
            clear z0 z1 z2 z3 z4 f1
            have z0 := (cell_of HG1.out 0).trans (show _ = some (Value.int .i64 r.kind) from rfl)
            have z1 := (cell_of HG1.out 1).trans (show _ = some (Value.int .u32 (r.id : Int)) from rfl)
            have z2 := (cell_of HG1.out 2).trans (show _ = some (Value.int .i64 r.seat) from rfl)
            have z3 := (cell_of HG1.out 3).trans (show _ = some (Value.int .i64 r.till) from rfl)
            have z4 := (cell_of HG1.out 4).trans (show _ = some (Value.int .i64 r.clock) from rfl)
            rw [K1.out] at z0
            go_wp2_with fail
            refine (HGet.out _ F1.out).mono ?_
            rintro e w2 ⟨rfl, ⟨st, hb2⟩, f2⟩
            have Hfin := Lib.hid (Hsame.out st _ (hb2.keep (Fr.alloc (Fr.refl _ _) (.cells #[.int .u32 0, .int .i64 0, .int .i64 0] 77))) (((Fp.out.trans F1.out (fun _ _ h => h.elim)).trans f2 (fun y _ e => by rw [e]; exact Pt.ownI (.inl rfl))).trans (G := fun _ => False) (Fr.alloc (Fr.refl _ _) (.cells #[.int .u32 0, .int .i64 0, .int .i64 0] 77)) (fun _ _ h => h.elim)))
            clear hb2 f2 z0 z1 z2 z3 z4
            simp only [getE]
            go_wp2_with fail
            go_ret
            exact ⟨rfl, Hfin.out⟩
          | some x =>
            have HGet := Lib.hid (fun (w' : World) (f : Fr (fun _ => False) W w') => get_ok (hB.keep f) hid)
            rw [hfd] at HGet hap1 hap2
            have hap1' : appE b r = 0 := by rw [hap1]; simp [k1]
            have hap2' : appB b r = { b with L := bDrop b.L r.id } := by rw [hap2]; simp [k1]
            rw [hap1', hap2']
            rw [k1] at z0
            have K1 := Lib.hid k1
            obtain ⟨hxi, hxm⟩ := bFind_id hfd
            have Hxm := Lib.hid hxm; have Hxi := Lib.hid hxi
            have lz : p.ip < z := by have := h.idx.lt.1; rw [hz]; exact this
            clear f0 hg hB h hid hr hap1 hap2 hap1' hap2' hkk k1 hfd hxi hxm
            go_enter Tryz.func38, Tryz.ntmps38
            go_upto_region 1 with fail
            rw [← hW, ← hz]
            clear hW hz
            go_wp2_with fail
            refine HT.out.mono ?_
            rintro e w1 ⟨rfl, rfl⟩
            go_wp2_with fail
            rw [← K1.out]
            refine (HC.out _).mono ?_
            rintro e w1 ⟨rfl, f1⟩
            have HG1 := Lib.hid (f1.get Hg.out (fun h => h)); have F1 := Lib.hid f1
            clear z0 z1 z2 z3 z4 f1
            have z0 := (cell_of HG1.out 0).trans (show _ = some (Value.int .i64 r.kind) from rfl)
            have z1 := (cell_of HG1.out 1).trans (show _ = some (Value.int .u32 (r.id : Int)) from rfl)
            have z2 := (cell_of HG1.out 2).trans (show _ = some (Value.int .i64 r.seat) from rfl)
            have z3 := (cell_of HG1.out 3).trans (show _ = some (Value.int .i64 r.till) from rfl)
            have z4 := (cell_of HG1.out 4).trans (show _ = some (Value.int .i64 r.clock) from rfl)
            rw [K1.out] at z0
            go_wp2_with fail
            refine (HGet.out _ F1.out).mono ?_
            rintro e w2 ⟨rfl, ⟨st, hb2⟩, f2⟩
            obtain ⟨w3, hw3⟩ : ∃ w3, w3 = w2.alloc (.cells #[.int .u32 (x.1 : Int), .int .i64 x.2.1, .int .i64 x.2.2] 77) := ⟨_, rfl⟩
            obtain ⟨y, hy⟩ : ∃ y, y = w2.heap.size := ⟨_, rfl⟩
            have f3 : Fr (fun _ => False) w2 w3 := by rw [hw3]; exact Fr.alloc (Fr.refl _ _) _
            have hgy : w3.heap[y]? = some (.cells #[.int .u32 (x.1 : Int), .int .i64 x.2.1, .int .i64 x.2.2] 77 (0, 0)) := by rw [hw3, hy]; exact heap_alloc_at _ _
            obtain ⟨y0, y1, y2⟩ := box_bo hgy
            have hb3 := hb2.keep f3
            have g3 := (f2.trans f3 (fun _ _ h => h.elim)).get HG1.out (fun e => by omega)
            have FF := Lib.hid (((Fp.out.trans F1.out (fun _ _ h => h.elim)).trans f2 (fun y _ e => by rw [e]; exact Pt.ownI (.inl rfl))).trans f3 (fun _ _ h => h.elim))
            clear z0 z1 z2 z3 z4
            have z0 := (cell_of g3 0).trans (show _ = some (Value.int .i64 r.kind) from rfl)
            have z2 := (cell_of g3 2).trans (show _ = some (Value.int .i64 r.seat) from rfl)
            rw [K1.out] at z0
            have YN := Lib.hid (show ¬ (p.steps st).own bb y from fun e => by have := hb2.lt e; omega)
            have HB3 := Lib.hid hb3; have HGy := Lib.hid hgy
            clear hb2 f2 f3 hgy hb3 g3
            simp only [getE]
            go_upto_region 12 with fail
            rw [← hw3, ← hy]
            clear hw3 hy
            go_wp2_with fail
            refine (drop_ok HB3.out Hxm.out).mono ?_
            rintro e w4 ⟨rfl, p', hb4, f4, ho4⟩
            rw [Hxi.out] at hb4
            have Hfin := Lib.hid (show Aft p bb { b with L := bDrop b.L r.id } w w4 from ⟨p', hb4, FF.out.trans f4 (fun _ _ h => h), fun y hy => .inl (ho4 y hy)⟩)
            clear hb4 f4 ho4 z0 z2 y0 y1 y2
            go_wp2_with fail
            go_ret
            exact ⟨rfl, Hfin.out⟩
        · cases hfd : bFind b.L r.id with
          | none =>
            have HGet := Lib.hid (fun (w' : World) (f : Fr (fun _ => False) W w') => get_ok (hB.keep f) hid)
            rw [hfd] at HGet hap1 hap2
            rw [hap1, hap2]
            rw [k1] at z0
            have K1 := Lib.hid k1
            have Hsame := Lib.hid (fun (st : Nat) (w' : World) (h : BkP (p.steps st) bb b.next b b.L b.L w') (f : Fr (p.own bb) w w') => show Aft p bb b w w' from ⟨_, h, f, fun y hy => .inl hy⟩)
            clear f0 hg hB h hid hr hap1 hap2 hkk k1 hfd
            go_enter Tryz.func38, Tryz.ntmps38
            go_upto_region 1 with fail
            rw [← hW, ← hz]
            clear hW hz
            go_wp2_with fail
            refine HT.out.mono ?_
            rintro e w1 ⟨rfl, rfl⟩
            go_wp2_with fail
            rw [← K1.out]
            refine (HC.out _).mono ?_
            rintro e w1 ⟨rfl, f1⟩
            have HG1 := Lib.hid (f1.get Hg.out (fun h => h)); have F1 := Lib.hid f1
            clear z0 z1 z2 z3 z4 f1
            have z0 := (cell_of HG1.out 0).trans (show _ = some (Value.int .i64 r.kind) from rfl)
            have z1 := (cell_of HG1.out 1).trans (show _ = some (Value.int .u32 (r.id : Int)) from rfl)
            have z2 := (cell_of HG1.out 2).trans (show _ = some (Value.int .i64 r.seat) from rfl)
            have z3 := (cell_of HG1.out 3).trans (show _ = some (Value.int .i64 r.till) from rfl)
            have z4 := (cell_of HG1.out 4).trans (show _ = some (Value.int .i64 r.clock) from rfl)
            rw [K1.out] at z0
            go_wp2_with fail
            refine (HGet.out _ F1.out).mono ?_
            rintro e w2 ⟨rfl, ⟨st, hb2⟩, f2⟩
            have Hfin := Lib.hid (Hsame.out st _ (hb2.keep (Fr.alloc (Fr.refl _ _) (.cells #[.int .u32 0, .int .i64 0, .int .i64 0] 77))) (((Fp.out.trans F1.out (fun _ _ h => h.elim)).trans f2 (fun y _ e => by rw [e]; exact Pt.ownI (.inl rfl))).trans (G := fun _ => False) (Fr.alloc (Fr.refl _ _) (.cells #[.int .u32 0, .int .i64 0, .int .i64 0] 77)) (fun _ _ h => h.elim)))
            clear hb2 f2 z0 z1 z2 z3 z4
            simp only [getE]
            go_wp2_with fail
            go_ret
            exact ⟨rfl, Hfin.out⟩
          | some x =>
            have HGet := Lib.hid (fun (w' : World) (f : Fr (fun _ => False) W w') => get_ok (hB.keep f) hid)
            rw [hfd] at HGet hap1 hap2
            have hap1' : appE b r = seatE b x r.seat := by rw [hap1]; simp [k1]
            have hap2' : appB b r = seatB b x r.seat := by rw [hap2]; simp [k1]
            rw [hap1', hap2']
            rw [k1] at z0
            have K1 := Lib.hid k1
            obtain ⟨hxi, hxm⟩ := bFind_id hfd
            have Hxm := Lib.hid hxm; have Hxi := Lib.hid hxi
            have Hk := Lib.hid (recB_move hr k1).1
            have lz : p.ip < z := by have := h.idx.lt.1; rw [hz]; exact this
            clear f0 hg hB h hid hr hap1 hap2 hap1' hap2' hkk k1 hfd hxi hxm
            go_enter Tryz.func38, Tryz.ntmps38
            go_upto_region 1 with fail
            rw [← hW, ← hz]
            clear hW hz
            go_wp2_with fail
            refine HT.out.mono ?_
            rintro e w1 ⟨rfl, rfl⟩
            go_wp2_with fail
            rw [← K1.out]
            refine (HC.out _).mono ?_
            rintro e w1 ⟨rfl, f1⟩
            have HG1 := Lib.hid (f1.get Hg.out (fun h => h)); have F1 := Lib.hid f1
            clear z0 z1 z2 z3 z4 f1
            have z0 := (cell_of HG1.out 0).trans (show _ = some (Value.int .i64 r.kind) from rfl)
            have z1 := (cell_of HG1.out 1).trans (show _ = some (Value.int .u32 (r.id : Int)) from rfl)
            have z2 := (cell_of HG1.out 2).trans (show _ = some (Value.int .i64 r.seat) from rfl)
            have z3 := (cell_of HG1.out 3).trans (show _ = some (Value.int .i64 r.till) from rfl)
            have z4 := (cell_of HG1.out 4).trans (show _ = some (Value.int .i64 r.clock) from rfl)
            rw [K1.out] at z0
            go_wp2_with fail
            refine (HGet.out _ F1.out).mono ?_
            rintro e w2 ⟨rfl, ⟨st, hb2⟩, f2⟩
            obtain ⟨w3, hw3⟩ : ∃ w3, w3 = w2.alloc (.cells #[.int .u32 (x.1 : Int), .int .i64 x.2.1, .int .i64 x.2.2] 77) := ⟨_, rfl⟩
            obtain ⟨y, hy⟩ : ∃ y, y = w2.heap.size := ⟨_, rfl⟩
            have f3 : Fr (fun _ => False) w2 w3 := by rw [hw3]; exact Fr.alloc (Fr.refl _ _) _
            have hgy : w3.heap[y]? = some (.cells #[.int .u32 (x.1 : Int), .int .i64 x.2.1, .int .i64 x.2.2] 77 (0, 0)) := by rw [hw3, hy]; exact heap_alloc_at _ _
            obtain ⟨y0, y1, y2⟩ := box_bo hgy
            have hb3 := hb2.keep f3
            have g3 := (f2.trans f3 (fun _ _ h => h.elim)).get HG1.out (fun e => by omega)
            have FF := Lib.hid (((Fp.out.trans F1.out (fun _ _ h => h.elim)).trans f2 (fun y _ e => by rw [e]; exact Pt.ownI (.inl rfl))).trans f3 (fun _ _ h => h.elim))
            clear z0 z1 z2 z3 z4
            have z0 := (cell_of g3 0).trans (show _ = some (Value.int .i64 r.kind) from rfl)
            have z2 := (cell_of g3 2).trans (show _ = some (Value.int .i64 r.seat) from rfl)
            rw [K1.out] at z0
            have YN := Lib.hid (show ¬ (p.steps st).own bb y from fun e => by have := hb2.lt e; omega)
            have HB3 := Lib.hid hb3; have HGy := Lib.hid hgy
            clear hb2 f2 f3 hgy hb3 g3
            simp only [getE]
            go_upto_region 12 with fail
            rw [← hw3, ← hy]
            clear hw3 hy
            go_wp2_with fail
            refine (reseat_ok HB3.out Hxm.out Hk.out).mono ?_
            rintro e w4 ⟨rfl, ha⟩
            have Hfin := Lib.hid (ha.of FF.out (fun _ h => .inl h))
            clear ha z0 z2 y0 y1 y2
            go_wp2_with fail
            go_ret
            exact ⟨rfl, Hfin.out⟩
  · have hr' : recB r = false := by simpa using hr
    have hap1 : appE b r = 160 := by unfold appE; rw [if_pos hr']
    have hap2 : appB b r = b := by unfold appB; rw [if_pos hr']
    rw [hap1, hap2]
    rw [hr'] at HC
    simp only [Bool.false_eq_true, if_false] at HC
    clear f0 hg hB h hid hr hr' hap1 hap2
    go_enter Tryz.func38, Tryz.ntmps38
    go_upto_region 1 with fail
    rw [← hW, ← hz]
    clear hW hz
    go_wp2_with fail
    refine HT.out.mono ?_
    rintro e w1 ⟨rfl, rfl⟩
    go_wp2_with fail
    refine (HC.out _).mono ?_
    rintro e w1 ⟨rfl, f1⟩
    have Hfin := Lib.hid (Aft.same H.out (F0.out.trans f1 (fun _ _ h => h)))
    clear f1 z0 z1 z2 z3 z4
    go_wp2_with fail
    go_ret
    exact ⟨rfl, Hfin.out⟩
end Go.Proofs.YtebdcahjlcgonaaGreat.Bk
namespace Go.Proofs.YtebdcahjlcgonaaGreat.Ix
open Go.RowKit
/-- The least power of two from t on. -/
def IsUp (n t : Nat) : Prop := ∃ k, n = 2 ^ k ∧ t ≤ n ∧ (k = 0 ∨ n < 2 * t)
theorem IsUp.same {n m t : Nat} (h : IsUp n t) (k : IsUp m t) : n = m := by
  obtain ⟨a, rfl, h1, h2⟩ := h
  obtain ⟨b, rfl, k1, k2⟩ := k
  have key : ∀ {a b : Nat}, t ≤ 2 ^ a → (b = 0 ∨ 2 ^ b < 2 * t) → ¬ a < b := by
    intro a b h1 k2 hab
    have : 2 ^ (a + 1) ≤ 2 ^ b := Nat.pow_le_pow_right (by decide) hab
    rw [Nat.pow_succ] at this
    rcases k2 with rfl | k2 <;> omega
  have := key h1 k2
  have := key k1 h2
  rw [show a = b by omega]
theorem IsUp.le {n t : Nat} (h : IsUp n t) (ht : t ≤ 8192) : n ≤ 8192 := by
  obtain ⟨k, rfl, h1, h2⟩ := h
  rcases h2 with rfl | h2
  · decide
  · have : k < 14 := by
      have : (2 : Nat) ^ k < 2 ^ 14 := by omega
      exact (Nat.pow_lt_pow_iff_right (by decide)).1 this
    exact Nat.pow_le_pow_right (n := 2) (by decide) (show k ≤ 13 by omega)
/-- On the way up. -/
def Way (n t : Nat) : Prop := ∃ k, n = 2 ^ k ∧ (k = 0 ∨ n < 2 * t)
theorem Way.one (t : Nat) : Way 1 t := ⟨0, rfl, .inl rfl⟩
theorem Way.next {n t : Nat} (h : Way n t) (hl : n < t) : Way (2 * n) t := by
  obtain ⟨k, rfl, _⟩ := h
  exact ⟨k + 1, by rw [Nat.pow_succ]; omega, .inr (by omega)⟩
theorem Way.up {n t : Nat} (h : Way n t) (hl : ¬ n < t) : IsUp n t := by
  obtain ⟨k, e, h⟩ := h
  exact ⟨k, e, by omega, h⟩
theorem Way.pos {n t : Nat} (h : Way n t) : 1 ≤ n := by
  obtain ⟨k, rfl, h⟩ := h
  exact Nat.one_le_two_pow
theorem zeros3 (n : Nat) : (madeCells (Value.cells (.agg #[.int .u8 0, .int .u32 0, .int .i64 0])) (n * 3)).toList = flat3 (List.replicate n (0, 0, 0)) := by
  apply List.ext_getElem?
  intro k
  by_cases hk : k < n * 3
  · have hs : slAt (List.replicate n ((0, 0, 0) : Sl)) (k / 3) = (0, 0, 0) := by unfold slAt; rw [List.getD_eq_getElem?_getD, List.getElem?_replicate]; split <;> rfl
    obtain ⟨g0, g1, g2⟩ := flat3_get (List.replicate n ((0, 0, 0) : Sl)) (k / 3) (by rw [List.length_replicate]; omega)
    rw [hs] at g0 g1 g2
    obtain ⟨i, hi, hki⟩ : ∃ i, i < 3 ∧ k = k / 3 * 3 + i := ⟨k % 3, Nat.mod_lt _ (by decide), by omega⟩
    have hm : k % 3 = i := by omega
    have hz : (madeCells (Value.cells (.agg #[.int .u8 0, .int .u32 0, .int .i64 0])) (n * 3)).toList[k]? = (#[Value.int .u8 0, Value.int .u32 0, Value.int .i64 0] : Array Value)[i]? := by
      rw [Array.getElem?_toList]
      simp only [madeCells, Value.cells]
      rw [Array.getElem?_map, Array.getElem?_range, if_pos hk]
      show some ((#[Value.int .u8 0, Value.int .u32 0, Value.int .i64 0] : Array Value)[k % 3]!) = _
      rw [hm]
      rcases (by omega : i = 0 ∨ i = 1 ∨ i = 2) with rfl | rfl | rfl <;> rfl
    rw [hz, hki]
    rcases (by omega : i = 0 ∨ i = 1 ∨ i = 2) with rfl | rfl | rfl
    · rw [Nat.add_zero, g0]; rfl
    · rw [g1]; rfl
    · rw [g2]; rfl
  · rw [List.getElem?_eq_none (by simp [size_madeCells]; omega), List.getElem?_eq_none (by rw [flat3_length, List.length_replicate]; omega)]
set_option maxRecDepth 100000 in
theorem new_ok (w : World) {m : Nat} (h1 : 1 ≤ m) (h2 : m ≤ 4096) : Calls Tryz.prog 48 #[.int .i64 (m : Int)] w fun e w' => ∃ bh g N, e = .returned (.tuple #[.pointer (some ⟨bh, 0, none⟩), .int .i64 0]) ∧ IsUp N (2 * m) ∧ IxAt w' bh g N m [] 0 ∧ w.heap.size ≤ bh ∧ w.heap.size ≤ g ∧ Fr (fun _ => False) w w' := by
  obtain ⟨i0, hi, hz0, hz1, hz2⟩ := info_parts Tryz.infoSlot
  have hmk := fun (w0 : World) (n : Nat) (hn : n ≤ 8192) => run_make (P := Tryz.prog) w0 159 200 i0 _ Tryz.underlying159 hi hz0 .i64 .i64 (n : Int) (n : Int) (by omega) (Int.le_refl _) (by rw [hz2]; omega) (by omega)
  rw [hz1] at hmk
  simp only [Int.toNat_natCast] at hmk
  have HMK := Lib.hid hmk
  clear hmk hi hz0 hz1 hz2
  have b1 : decide ((m : Int) < 1) = false := by simp; omega
  have b2 : decide ((4096 : Int) < (m : Int)) = false := by simp; omega
  obtain ⟨t, ht⟩ : ∃ t, t = 2 * m := ⟨_, rfl⟩
  have e1 : 2 * (m : Int) = (t : Int) := by omega
  obtain ⟨e2, e3, -⟩ := wrap_small (x := t) (by omega)
  have H1 := Lib.hid h1; have H2 := Lib.hid h2; have Ht := Lib.hid ht
  clear h1 h2 ht
  go_enter Tryz.func48, Tryz.ntmps48
  go_upto_block 0 with fail
  go_cut [4] (fun s4 wx => ∃ N : Nat, s4 = .int .i64 (N : Int) ∧ IsUp N t ∧ wx = w)
  case first =>
    go_wp2_with fail
    go_loopw [4] (fun s4 wr => ∃ n : Nat, s4 = .int .i64 (n : Int) ∧ Way n t ∧ wr = w) (fun s4 _ => t - (intOf s4).toNat)
    case atStart => exact ⟨1, rfl, Way.one _, rfl⟩
    case round =>
      obtain ⟨n, rfl, hw, rfl⟩ := hrel
      have HW := Lib.hid hw
      clear hw
      by_cases hlt : n < t
      · have hlt' : (n : Int) < (t : Int) := by omega
        obtain ⟨n2, hn2⟩ : ∃ n2, n2 = 2 * n := ⟨_, rfl⟩
        have f1 : (n : Int) * 2 = (n2 : Int) := by omega
        obtain ⟨f2, f3, -⟩ := wrap_small (x := n2) (by have := H2.out; have := Ht.out; omega)
        have Hn2 := Lib.hid hn2; have Hlt := Lib.hid hlt
        clear hn2 hlt
        go_wp2_with fail
        go_roundw
        case rel => exact ⟨n2, rfl, by rw [Hn2.out]; exact HW.out.next Hlt.out, by first | rfl | trivial⟩
        case measure => have := Hn2.out; have := Hlt.out; have := HW.out.pos; simp [intOf]; omega
      · have hlt' : ¬ (n : Int) < (t : Int) := by omega
        have Hlt := Lib.hid hlt
        clear hlt
        go_wp2_with fail
        go_meet
        exact ⟨n, rfl, HW.out.up Hlt.out, rfl⟩
  case rest =>
  obtain ⟨N, rfl, hu, rfl⟩ := hcut
  have hN8 := hu.le (by rw [Ht.out]; have := H2.out; omega)
  have hmk := fun w0 => HMK.out w0 N hN8
  have HU := Lib.hid hu; have HN8 := Lib.hid hN8
  clear hu hN8 b1 b2 e1 e2 e3
  go_wp2_with fail
  refine bodyPost_ret (v := .tuple #[.pointer (some ⟨wc.heap.size + 1, 0, none⟩), .int .i64 0]) ?_ rfl ?_
  · simp [results, Tryz.f48, go_sem]
  · have hlo : 2 * m ≤ N := by rw [← Ht.out]; obtain ⟨_, _, h, _⟩ := HU.out; exact h
    refine ⟨wc.heap.size + 1, wc.heap.size, N, rfl, by rw [← Ht.out]; exact HU.out, ⟨List.replicate N (0, 0, 0), ⟨?_, ?_, List.length_replicate, Good.nil _ _, Maps.nil _, (fun x hx => by simp at hx), by omega, hlo, H1.out, HN8.out⟩, ?_, Nat.zero_le _, Nat.zero_le _⟩, by omega, Nat.le_refl _, Fr.alloc (Fr.alloc (Fr.refl _ _) _) _⟩
    · unfold HeadAt
      rw [graves_nil, heap_alloc_get]; simp
    · unfold SlotsAt
      rw [← zeros3, heap_alloc_get, heap_alloc_get]; simp; rfl
    · rw [graves_nil]; simp
set_option maxRecDepth 100000 in
theorem new_err (w : World) {n : Int} (h : n < 1 ∨ 4096 < n) : Calls Tryz.prog 48 #[.int .i64 n] w fun e w' => e = .returned (.tuple #[.pointer none, .int .i64 2]) ∧ w = w' := by
  by_cases h0 : n < 1
  · have b1 : decide (n < 1) = true := by simpa using h0
    clear h
    go_enter Tryz.func48, Tryz.ntmps48
    go_wp2_with fail
    refine bodyPost_ret (v := .tuple #[.pointer none, .int .i64 2]) ?_ rfl ⟨rfl, rfl⟩
    simp [results, Tryz.f48, go_sem]
  · have b1 : decide (n < 1) = false := by simpa using h0
    have h1 : 4096 < n := by omega
    have b2 : decide (4096 < n) = true := by simpa using h1
    clear h h0 h1
    go_enter Tryz.func48, Tryz.ntmps48
    go_wp2_with fail
    refine bodyPost_ret (v := .tuple #[.pointer none, .int .i64 2]) ?_ rfl ⟨rfl, rfl⟩
    simp [results, Tryz.f48, go_sem]
end Go.Proofs.YtebdcahjlcgonaaGreat.Ix
namespace Go.Proofs.YtebdcahjlcgonaaGreat
open Go.RowKit
section
variable {n l : Nat} {P : Program} {ops : Array Oper} {Q : Exit → Act → World → Prop} {md : Region.Mode}
theorem operIn_round {o : Oper} {a : Act} {w : World} {K : Act → World → Prop} (hd : ∀ c, o.op ≠ .defer c) (hlo : ¬ LetsOut Q) (h : o.wp P a w K Q) : o.wpIn (Fence.wide.inRound l) n P a w K Q := by
  unfold Oper.wp at h
  refine ⟨fun _ _ => trivial, ?_⟩
  rw [Oper.semAt_eq _ _ _ hd]
  generalize (execOp a.eval o).run P w = r at h ⊢
  cases r with
  | ok x w' =>
    cases x <;> simp only [Oper.upon] at h <;> simp only [Oper.uponIn]
    case value v => exact h
    case skip => exact h
    case defer d => exact h
    case enter f args =>
      refine ⟨fun e => by simp [Fence.wide] at e, CallsIn.inRound l (callsIn_wide.2 (h.mono fun e w'' he => ?_))⟩
      cases e with
      | returned v => exact he
      | panicked c => exact he
      | outgrown => exact absurd he hlo
    case row row args =>
      refine ⟨fun e => by simp [Fence.wide] at e, fun c cs _ => ?_⟩
      obtain ⟨v, w', r, s⟩ := h c cs
      exact ⟨v, w', r, stepsIn_wide.2 s⟩
  | halt x w' => cases x <;> simp only [Oper.upon] at h <;> simp only [Oper.uponIn] <;> exact h
theorem anyIn_round (hd : ∀ o ∈ ops, ∀ c, o.op ≠ .defer c) (hlo : ¬ LetsOut Q) : ∀ (fuel : Nat) (listed : Array Bool) (a : Act) (w : World), wpAny P md ops Q fuel listed a w → wpAnyIn (Fence.wide.inRound l) n P md ops Q fuel listed a w := by
  have one : ∀ (i : Nat) (K K' : Act → World → Prop) (a : Act) (w : World), (∀ a w, K a w → K' a w) → wpOp P ops Q i K a w → wpOpIn (Fence.wide.inRound l) n P ops Q i K' a w := by
    intro i K K' a w hK h
    unfold wpOp at h
    unfold wpOpIn
    cases ho : ops[i]? with
    | none => simp only [ho] at h ⊢; exact hK _ _ h
    | some o =>
      simp only [ho] at h ⊢
      split
      · rename_i hw
        simp only [hw, if_true] at h
        rcases h with h | h
        · exact Oper.wpIn_mono hK (operIn_round (hd o (Array.mem_of_getElem? ho)) hlo h)
        · exact absurd h.2 hlo
      · rename_i hw
        simp only [hw] at h
        exact ⟨fun _ _ => trivial, hK _ _ h⟩
  intro fuel
  induction fuel with
  | zero => exact fun _ _ _ h => h
  | succ fuel ih => exact fun listed a w h => ⟨h.1, fun i hi => one i _ _ a w (fun a w => ih _ a w) (h.2 i hi)⟩
/-- No operation is a defer statement. -/
def noDefer (l : List Oper) : Bool := l.all fun o => match o.op with | .defer _ => false | _ => true
theorem noDefer_of {l : List Oper} (h : noDefer l = true) : ∀ o ∈ l.toArray, ∀ c, o.op ≠ .defer c := by
  intro o ho c e
  have := List.all_eq_true.1 h o (by simpa using ho)
  rw [e] at this
  exact absurd this (by simp)
theorem region_round_quiet {id : Nat} {a : Act} {w : World} {ls : List Oper} (hm : P.follows .mixedOrders = true) (hB : Region.lexB .any ls.toArray = true) (hd : noDefer ls = true) (hlo : ¬ LetsOut Q)
    (h : wpQuiet P ls.toArray (fun w' => ∃ n, w' = w.drewN n) (fun a' => ∀ w', (∃ n, w' = w.drewN n) → Q .normal a' w') ls a) : (Code.region id ls.toArray true).wpIn (Fence.wide.inRound l) n P Q a w := by
  refine wpIn_region_any hm (anyIn_round (noDefer_of hd) hlo _ _ _ _ ?_)
  simp only [Region.lexB, Bool.and_eq_true] at hB
  refine wpAny_of_quiet (C := fun w' => ∃ n, w' = w.drewN n) (Q := fun a' => ∀ w', (∃ n, w' = w.drewN n) → Q .normal a' w') (fun _ w' hw' h => h w' hw') _ _ _ _ ⟨1, rfl⟩ ?_
  have := wpAnyQ_lex (md := .any) hB.1 ls.toArray.toList 0 (Array.replicate ls.toArray.size false) a (by simp) (by simpa using hB.2) h
  simpa using this
theorem region_round_held {id : Nat} {a : Act} {w : World} {ls : List Oper} {S : World → Prop} (hm : P.follows .mixedOrders = true) (hd : noDefer ls = true) (hlo : ¬ LetsOut Q) (hS : S w.drew)
    (h : S w.drew → wpAnyH P .any ls.toArray Q S ls.toArray.size (Array.replicate ls.toArray.size false) a w.drew) : (Code.region id ls.toArray true).wpIn (Fence.wide.inRound l) n P Q a w :=
  wpIn_region_any hm (anyIn_round (noDefer_of hd) hlo _ _ _ _ (wpAny_of_held _ _ _ _ (h hS)))
end
end Go.Proofs.YtebdcahjlcgonaaGreat
namespace Go.Proofs.YtebdcahjlcgonaaGreat
open Go.RowKit
def mark (D : Nat) : Deferred := { target := .collected D, args := #[] }
/-- The marks' blocks are there, each once. -/
structure MarksOk (ds : List Nat) (w : World) : Prop where
  once : ds.Nodup
  open_ : ∀ D ∈ ds, w.heap[D]? = some (.deferred (some []))
theorem MarksOk.nil (w : World) : MarksOk [] w := ⟨List.nodup_nil, fun _ h => by simp at h⟩
theorem MarksOk.fr {ds : List Nat} {w w' : World} {F : Nat → Prop} (h : MarksOk ds w) (f : Fr F w w') (hF : ∀ D ∈ ds, ¬ F D) : MarksOk ds w' := ⟨h.once, fun D hD => f.get (h.open_ D hD) (hF D hD)⟩
theorem MarksOk.cons {ds : List Nat} {w : World} {D : Nat} (h : MarksOk ds w) (hD : w.heap[D]? = some (.deferred (some []))) (hn : D ∉ ds) : MarksOk (D :: ds) w :=
  ⟨List.nodup_cons.2 ⟨hn, h.once⟩, fun x hx => by
    rcases List.mem_cons.1 hx with rfl | hx
    · exact hD
    · exact h.open_ x hx⟩
theorem leaves_marks {F : Fence} {n : Nat} {P : Program} {fn : Func} {tmps : Array Value} {R : Ending → World → Prop} : ∀ (ds : List Nat) (w : World), MarksOk ds w →
    (∀ w', Fr (fun b => b ∈ ds) w w' → ∃ v, (results fn tmps).run P w' = .ok v w' ∧ R (.returned v) w') → LeavesInM F n P fn tmps R (ds.map mark) .returning w := by
  intro ds
  induction ds with
  | nil => exact fun w _ h => h w (Fr.refl _ _)
  | cons D ds ih =>
    intro w hm h
    have hD := hm.open_ D (by simp)
    have f : Fr (fun b => b = D) w (w.putObj D (.deferred none)) := (grownBy.fr (grownBy_putObj' w D (.deferred none))).mono (fun b _ e => by cases e; rfl)
    refine ⟨by simp, .inl ⟨D, _, rfl, run_takeDeferred hD, ih _ ⟨(List.nodup_cons.1 hm.once).2, fun x hx => f.get (hm.open_ x (by simp [hx])) (fun e => (List.nodup_cons.1 hm.once).1 (e ▸ hx))⟩ fun w' f2 => h w' ?_⟩⟩
    exact (f.mono (fun b _ e => by subst e; simp)).trans f2 (fun b _ hb => by simp [hb])
/-- A statement that leaves the temporaries as they are, and may leave marks. -/
theorem wp_cutD {P : Program} {s : Code} {K : Act → World → Prop} {Q' : Exit → Act → World → Prop} {tmps : Array Value} {ds : List Deferred} {w : World} (R : List Deferred → World → Prop)
    (rest : ∀ ds' w', R ds' w' → K ⟨tmps, ds'⟩ w') (first : ∀ K' : Act → World → Prop, (∀ ds' w', R ds' w' → K' ⟨tmps, ds'⟩ w') → s.wp P (Exit.then K' Q') ⟨tmps, ds⟩ w) : s.wp P (Exit.then K Q') ⟨tmps, ds⟩ w := by
  have h := first (fun a' w' => ∃ ds', a' = ⟨tmps, ds'⟩ ∧ R ds' w') (fun ds' w' h => ⟨ds', rfl, h⟩)
  refine wp_mono h ?_
  intro e a' w' hq
  cases e with
  | normal => obtain ⟨ds', rfl, hR⟩ := hq; exact rest _ _ hR
  | exit id => exact hq
  | goto l => exact hq
  | ret => exact hq
  | panic ch => exact hq
  | outgrown => exact hq
/-- A statement that ends as statements do. -/
theorem wp_noexit {P : Program} {s : Code} {K : Act → World → Prop} {Q' : Exit → Act → World → Prop} {a : Act} {w : World} (h : s.wp P (Exit.then K (fun _ _ _ => False)) a w) : s.wp P (Exit.then K Q') a w := by
  refine wp_mono h ?_
  intro e a' w' hq
  cases e with
  | normal => exact hq
  | exit id => exact hq.elim
  | goto l => exact hq.elim
  | ret => exact hq.elim
  | panic ch => exact hq.elim
  | outgrown => exact hq.elim
theorem wp_noexit2 {P : Program} {s : Code} {Q : Exit → Act → World → Prop} {a : Act} {w : World} (h : s.wp P (Exit.then (Q .normal) (fun _ _ _ => False)) a w) : s.wp P Q a w := by
  refine wp_mono h ?_
  intro e a' w' hq
  cases e with
  | normal => exact hq
  | exit id => exact hq.elim
  | goto l => exact hq.elim
  | ret => exact hq.elim
  | panic ch => exact hq.elim
  | outgrown => exact hq.elim
end Go.Proofs.YtebdcahjlcgonaaGreat
namespace Go.Proofs.YtebdcahjlcgonaaGreat.Ix
open Go.RowKit Go.Shelf
attribute [local go_sem] Oper.semAt_some
def fullOf (L : List (Nat × Int)) : List Sl := L.map fun x => (1, x)
/-- What All has captured: a cell that has a slice of the items. -/
structure Seq (w : World) (cb : Nat) (sv : Value) (L : List (Nat × Int)) : Prop where
  box : w.heap[cb]? = some (.cells #[sv] 159 (0, 0))
  row : (sv = .slice none 0 0 ∧ L = []) ∨ ∃ b cap, sv = .slice (some ⟨b, 0, none⟩) L.length cap ∧ BufAt w b (fullOf L)
  few : L.length ≤ 8192
def seqP (cb : Nat) (sv : Value) (b : Nat) : Prop := b = cb ∨ sv.ownBlock = some b
section seq
variable {w w' : World} {cb : Nat} {sv : Value} {L : List (Nat × Int)}
theorem Seq.same (h : Seq w cb sv L) (k : ∀ b, seqP cb sv b → b < w.heap.size → w'.heap[b]? = w.heap[b]?) : Seq w' cb sv L := by
  refine ⟨by rw [k cb (.inl rfl) (lt_of_block h.box)]; exact h.box, ?_, h.few⟩
  rcases h.row with h0 | ⟨b, cap, rfl, r, hb⟩
  · exact .inl h0
  · exact .inr ⟨b, cap, rfl, r, by rw [k b (.inr rfl) (lt_of_block hb)]; exact hb⟩
theorem Seq.keep (h : Seq w cb sv L) (k : KeepsB (seqP cb sv) w w') : Seq w' cb sv L := h.same k.blk
theorem Seq.below (h : Seq w cb sv L) (k : Below w.heap.size w w') : Seq w' cb sv L := h.same (fun b _ hl => k.block b hl)
theorem Seq.fr (h : Seq w cb sv L) {F : Nat → Prop} (f : Fr F w w') (hn : ∀ b, seqP cb sv b → ¬ F b) : Seq w' cb sv L := h.same (fun b hb hl => f.blk b hl (hn b hb))
theorem Seq.c0 (h : Seq w cb sv L) : w.cell? ⟨cb, 0, none⟩ = some sv := (cell_of h.box 0).trans rfl
theorem Seq.lt (h : Seq w cb sv L) : ∀ b, seqP cb sv b → b < w.heap.size := by
  rintro b (rfl | hb)
  · exact lt_of_block h.box
  · rcases h.row with ⟨rfl, _⟩ | ⟨b', cap, rfl, r⟩
    · simp [Value.ownBlock] at hb
    · simp [Value.ownBlock] at hb; subst hb; exact r.lt
end seq
def liAt (L : List (Nat × Int)) (k : Nat) : Nat × Int := L.getD k (0, 0)
theorem liAt_of {L : List (Nat × Int)} {k : Nat} (h : k < L.length) : L[k]? = some (liAt L k) := by simp [liAt, h]
theorem full_at {L : List (Nat × Int)} {k : Nat} (h : k < L.length) : slAt (fullOf L) k = (1, liAt L k) := by simp [slAt, fullOf, liAt, h]
theorem take_snocL {L : List (Nat × Int)} {k : Nat} (h : k < L.length) : L.take k ++ [liAt L k] = L.take (k + 1) := by
  rw [List.take_add_one, liAt_of h]; rfl
set_option maxRecDepth 100000 in
set_option maxHeartbeats 2000000 in
theorem all_stops (F : Fence) (n : Nat) (hF : F.fn 126) (hro : F.round = none) (hn : 1 ≤ n) {w : World} {cb : Nat} {sv : Value} {L : List (Nat × Int)} (hs : Seq w cb sv L) (p : Nat → Prop) (hp : ∀ b, seqP cb sv b → p b) :
    SeqStopsK F n Tryz.prog 126 #[.pointer (some ⟨cb, 0, none⟩)] (fun x : Nat × Int => #[Value.int .u32 (x.1 : Int), Value.int .i64 x.2]) (KeepsB p) (fun ys => ys = L) (fun pre => pre <+: L) L.length w := fun l J Jx W hW hJ _ hY h0 => by
  have hs := hs.below hW
  have c0 := hs.c0
  obtain ⟨m, hm⟩ : ∃ m, m = L.length := ⟨_, rfl⟩
  rcases hs.row with ⟨rfl, rfl⟩ | ⟨b, cap, rfl, hb⟩
  · clear hs hW hm
    refine callsIn_of_wp Tryz.func126 rfl hF ?_ hro
    simp only [Tryz.ntmps126, List.size_toArray, List.length_cons, List.length_nil, Nat.reduceAdd, Nat.reduceSub, Array.replicate_succ, Array.replicate_zero, List.push_toArray, List.append_toArray, List.nil_append, List.cons_append]
    gi_wp2
    gi_loopw [7] (fun i wr => i = .int .i64 0 ∧ J [] wr) (fun _ _ => 0)
    case atStart => exact ⟨rfl, h0⟩
    case round =>
      obtain ⟨rfl, hJs⟩ := hrel
      gi_wp2
      go_end0
      exact ⟨⟨_, rfl⟩, .inl ⟨_, rfl, hJs⟩⟩
  · have HB := Lib.hid hb; have Hm := Lib.hid hm; have Hp := Lib.hid (hp b (.inr rfl)); have H8 := Lib.hid hs.few; have HlW := Lib.hid hb.lt
    rw [← hm] at c0
    clear hs hW hm hb
    refine callsIn_of_wp Tryz.func126 rfl hF ?_ hro
    simp only [Tryz.ntmps126, List.size_toArray, List.length_cons, List.length_nil, Nat.reduceAdd, Nat.reduceSub, Array.replicate_succ, Array.replicate_zero, List.push_toArray, List.append_toArray, List.nil_append, List.cons_append]
    gi_wp2
    gi_loopw [7] (fun i wr => ∃ k : Nat, k ≤ m ∧ i = .int .i64 k ∧ J (L.take k) wr ∧ KeepsB p W wr)
      (fun i _ => m - (intOf i).toNat)
    case atStart => exact ⟨0, Nat.zero_le _, rfl, h0, KeepsB.refl _ _⟩
    case round =>
      obtain ⟨k, hk, rfl, hJs, hnx⟩ := hrel
      have Hnx := Lib.hid hnx
      clear hnx
      by_cases hlt : k < m
      · have hlt' : (k : Int) < (m : Int) := by omega
        have k0 : (0 : Int) ≤ (k : Int) := by omega
        have hkL : k < L.length := by rw [← Hm.out]; exact hlt
        have hbr : BufAt wr b (fullOf L) := by
          obtain ⟨r, hr⟩ := HB.out
          exact ⟨r, (Hnx.out.blk b Hp.out HlW.out).trans hr⟩
        obtain ⟨d0, d1, d2⟩ := hbr.cells (p := k) (by simp [fullOf]; exact hkL)
        rw [full_at hkL] at d0 d1 d2
        obtain ⟨x, hx⟩ : ∃ x, x = liAt L k := ⟨_, rfl⟩
        rw [← hx] at d0 d1 d2
        obtain ⟨id, v⟩ := x
        simp only at d0 d1 d2
        have e0 : ((1 : Nat) : Int) = 1 := rfl
        rw [e0] at d0
        have hJ1 : J (L.take k) (wr.alloc (.cells #[.int .u8 1, .int .u32 (id : Int), .int .i64 v] 200)) := hJ _ _ _ none hJs (World.grownBy_alloc _ _ none) (fun r e => by cases e)
        obtain ⟨fn, tmps, assign, body, hy, hR⟩ := hY _ (id, v) _ hJ1 (by rw [List.length_take]; omega)
        obtain ⟨k1, hk1⟩ : ∃ k1, k1 = k + 1 := ⟨_, rfl⟩
        have e1 : (k : Int) + 1 = (k1 : Int) := by omega
        obtain ⟨e2, e3, -⟩ := wrap_small (x := k1) (by have := H8.out; omega)
        have HK1 := Lib.hid hk1; have HX := Lib.hid hx; have Hlt := Lib.hid hlt; have HkL := Lib.hid hkL
        clear hk1 hx hlt hkL hk hbr e0
        gi_wp2
        refine hR.mono ?_
        rintro e W3 (⟨rfl, hJ3, hk3⟩ | ⟨rfl, hJx3⟩)
        · gi_wp2
          go_roundw
          case rel => exact ⟨k1, by have := HK1.out; have := Hlt.out; omega, rfl, by rw [HK1.out, ← take_snocL HkL.out, ← HX.out]; exact hJ3, (Hnx.out.alloc _).trans hk3⟩
          case measure => have := HK1.out; have := Hlt.out; simp [intOf]; omega
        · gi_wp2
          refine bodyPost_ret (results_none rfl _ _ _) rfl ?_
          exact ⟨⟨_, rfl⟩, .inr ⟨_, by rw [HX.out, take_snocL HkL.out]; exact List.take_prefix _ _, hJx3⟩⟩
      · obtain rfl : k = m := by omega
        clear hlt hk
        gi_wp2
        go_end0
        exact ⟨⟨_, rfl⟩, .inl ⟨_, rfl, by rw [Hm.out, List.take_length] at hJs; exact hJs⟩⟩
end Go.Proofs.YtebdcahjlcgonaaGreat.Ix
namespace Go.Proofs.YtebdcahjlcgonaaGreat.Ix
open Go.RowKit Go.Shelf
attribute [local go_sem] Oper.semAt_some
set_option maxRecDepth 100000 in
set_option maxHeartbeats 2000000 in
theorem all_stopsK (F : Fence) (n : Nat) (hF : F.fn 126) (hro : F.round = none) (hn : 1 ≤ n) {w : World} {cb : Nat} {sv : Value} {L : List (Nat × Int)} (hs : Seq w cb sv L) (p : Nat → Prop) (hp : ∀ b, seqP cb sv b → p b) :
    SeqStopsK F n Tryz.prog 126 #[.pointer (some ⟨cb, 0, none⟩)] (fun k : Nat => #[Value.int .u32 ((liAt L k).1 : Int), Value.int .i64 (liAt L k).2]) (KeepsB p) (fun ys => ys = List.range L.length) (fun pre => pre <+: List.range L.length) L.length w := fun l J Jx W hW hJ _ hY h0 => by
  have hs := hs.below hW
  have c0 := hs.c0
  obtain ⟨m, hm⟩ : ∃ m, m = L.length := ⟨_, rfl⟩
  rcases hs.row with ⟨rfl, rfl⟩ | ⟨b, cap, rfl, hb⟩
  · clear hs hW hm
    refine callsIn_of_wp Tryz.func126 rfl hF ?_ hro
    simp only [Tryz.ntmps126, List.size_toArray, List.length_cons, List.length_nil, Nat.reduceAdd, Nat.reduceSub, Array.replicate_succ, Array.replicate_zero, List.push_toArray, List.append_toArray, List.nil_append, List.cons_append]
    gi_wp2
    gi_loopw [7] (fun i wr => i = .int .i64 0 ∧ J [] wr) (fun _ _ => 0)
    case atStart => exact ⟨rfl, h0⟩
    case round =>
      obtain ⟨rfl, hJs⟩ := hrel
      gi_wp2
      go_end0
      exact ⟨⟨_, rfl⟩, .inl ⟨_, rfl, hJs⟩⟩
  · have HB := Lib.hid hb; have Hm := Lib.hid hm; have Hp := Lib.hid (hp b (.inr rfl)); have H8 := Lib.hid hs.few; have HlW := Lib.hid hb.lt
    rw [← hm] at c0
    clear hs hW hm hb
    refine callsIn_of_wp Tryz.func126 rfl hF ?_ hro
    simp only [Tryz.ntmps126, List.size_toArray, List.length_cons, List.length_nil, Nat.reduceAdd, Nat.reduceSub, Array.replicate_succ, Array.replicate_zero, List.push_toArray, List.append_toArray, List.nil_append, List.cons_append]
    gi_wp2
    gi_loopw [7] (fun i wr => ∃ k : Nat, k ≤ m ∧ i = .int .i64 k ∧ J (List.range k) wr ∧ KeepsB p W wr)
      (fun i _ => m - (intOf i).toNat)
    case atStart => exact ⟨0, Nat.zero_le _, rfl, h0, KeepsB.refl _ _⟩
    case round =>
      obtain ⟨k, hk, rfl, hJs, hnx⟩ := hrel
      have Hnx := Lib.hid hnx
      clear hnx
      by_cases hlt : k < m
      · have hlt' : (k : Int) < (m : Int) := by omega
        have k0 : (0 : Int) ≤ (k : Int) := by omega
        have hkL : k < L.length := by rw [← Hm.out]; exact hlt
        have hbr : BufAt wr b (fullOf L) := by
          obtain ⟨r, hr⟩ := HB.out
          exact ⟨r, (Hnx.out.blk b Hp.out HlW.out).trans hr⟩
        obtain ⟨d0, d1, d2⟩ := hbr.cells (p := k) (by simp [fullOf]; exact hkL)
        rw [full_at hkL] at d0 d1 d2
        obtain ⟨x, hx⟩ : ∃ x, x = liAt L k := ⟨_, rfl⟩
        rw [← hx] at d0 d1 d2
        obtain ⟨id, v⟩ := x
        simp only at d0 d1 d2
        have e0 : ((1 : Nat) : Int) = 1 := rfl
        rw [e0] at d0
        have hJ1 : J (List.range k) (wr.alloc (.cells #[.int .u8 1, .int .u32 (id : Int), .int .i64 v] 200)) := hJ _ _ _ none hJs (World.grownBy_alloc _ _ none) (fun r e => by cases e)
        obtain ⟨fn, tmps, assign, body, hy, hR⟩ := hY _ k _ hJ1 (by rw [List.length_range]; omega)
        have hy : _ := hy
        simp only [← hx] at hy
        obtain ⟨k1, hk1⟩ : ∃ k1, k1 = k + 1 := ⟨_, rfl⟩
        have e1 : (k : Int) + 1 = (k1 : Int) := by omega
        obtain ⟨e2, e3, -⟩ := wrap_small (x := k1) (by have := H8.out; omega)
        have HK1 := Lib.hid hk1; have HX := Lib.hid hx; have Hlt := Lib.hid hlt; have HkL := Lib.hid hkL
        clear hk1 hx hlt hkL hk hbr e0
        gi_wp2
        refine hR.mono ?_
        rintro e W3 (⟨rfl, hJ3, hk3⟩ | ⟨rfl, hJx3⟩)
        · gi_wp2
          go_roundw
          case rel => exact ⟨k1, by have := HK1.out; have := Hlt.out; omega, rfl, by rw [HK1.out, List.range_succ]; exact hJ3, (Hnx.out.alloc _).trans hk3⟩
          case measure => have := HK1.out; have := Hlt.out; simp [intOf]; omega
        · gi_wp2
          refine bodyPost_ret (results_none rfl _ _ _) rfl ?_
          exact ⟨⟨_, rfl⟩, .inr ⟨_, by have := HkL.out; rw [← List.range_succ, List.prefix_iff_eq_take, List.length_range, List.take_range]; congr 1; omega, hJx3⟩⟩
      · obtain rfl : k = m := by omega
        clear hlt hk
        gi_wp2
        go_end0
        exact ⟨⟨_, rfl⟩, .inl ⟨_, rfl, by rw [Hm.out] at hJs; exact hJs⟩⟩
end Go.Proofs.YtebdcahjlcgonaaGreat.Ix
namespace Go.Proofs.YtebdcahjlcgonaaGreat.Ix
open Go.RowKit Go.Shelf
attribute [local go_sem] Oper.semAt_some
abbrev allV (cb : Nat) : Value := .func (.func 126) #[] #[.pointer (some ⟨cb, 0, none⟩)]
/-- What All hands back. -/
def AllOf (w : World) (L : List (Nat × Int)) (e : Ending) (w' : World) : Prop := ∃ cb sv, e = .returned (allV cb) ∧ Seq w' cb sv L ∧ (∀ b, seqP cb sv b → w.heap.size ≤ b) ∧ Fr (fun _ => False) w w'
theorem Fr.toNew {G : Nat → Prop} {w w' : World} (h : Fr (fun b => w.heap.size ≤ b) w w') : Fr G w w' := h.mono (fun i hi e => by omega)
set_option maxRecDepth 100000 in
theorem all_ok {w : World} {bh g N most : Nat} {L : List (Nat × Int)} {st : Nat} (h : IxAt w bh g N most L st) : Calls Tryz.prog 98 #[.pointer (some ⟨bh, 0, none⟩)] w (AllOf w L) := by
  obtain ⟨S, hr, hl1, hl2, hl3⟩ := h
  have fa : Fr (fun _ => False) w (w.alloc (.cells #[.slice none 0 0] 159)) := Fr.alloc (Fr.refl _ _) _
  have hb0 : (w.alloc (.cells #[.slice none 0 0] 159)).heap[w.heap.size]? = some (.cells #[.slice none 0 0] 159 (0, 0)) := by rw [heap_alloc_get]; simp
  have hr1 := hr.fr fa (fun h => h) (fun h => h)
  have HM := Lib.hid (made_ok hr1.head)
  have HI := Lib.hid (items_ok hr1.head hr1.slots hr1.len hr1.maps (by have := hr.lo; have := hr.one; omega) hr.hi)
  have HL8 := Lib.hid (show L.length ≤ 8192 by have := hr.hi; have := hr.lo; omega)
  have HB0 := Lib.hid hb0; have FA := Lib.hid fa
  clear hr hl1 hl2 hl3 fa hb0 hr1
  go_enter Tryz.func98, Tryz.ntmps98
  go_wp2_with fail
  refine HM.out.mono ?_
  rintro e w1 ⟨rfl, rfl⟩
  go_wp2_with fail
  refine HI.out.mono ?_
  rintro e w2 ⟨b, cap, rfl, hb, hf, hn⟩
  have hb2 := hf.get HB0.out (fun h => h)
  have c0 := (cell_of hb2 0).trans (show _ = some (Value.slice none 0 0) from rfl)
  have z0 := free_of hb2 0
  have hsz : w.heap.size < b := by have : (w.alloc (.cells #[.slice none 0 0] 159)).heap.size = w.heap.size + 1 := by simp
                                   omega
  have fs : Fr (fun i => i = w.heap.size) w2 (w2.setCell ⟨w.heap.size, 0, none⟩ (.slice (some ⟨b, 0, none⟩) L.length cap)) := Fr.setCell (F := fun i => i = w.heap.size) (p := ⟨w.heap.size, 0, none⟩) (Fr.refl _ _) (fun _ => rfl) _
  have hs : Seq (w2.setCell ⟨w.heap.size, 0, none⟩ (.slice (some ⟨b, 0, none⟩) L.length cap)) w.heap.size (.slice (some ⟨b, 0, none⟩) L.length cap) L := ⟨setCell_blk (o := 0) hb2 _, .inr ⟨b, cap, rfl, hb.fr fs (by omega)⟩, HL8.out⟩
  have hfw : Fr (fun _ => False) w (w2.setCell ⟨w.heap.size, 0, none⟩ (.slice (some ⟨b, 0, none⟩) L.length cap)) := Fr.toNew (((FA.out.trans hf (fun _ _ h => h)).mono (G := fun b => w.heap.size ≤ b) (fun _ _ h => h.elim)).trans fs (fun i _ e => by omega))
  have HS := Lib.hid hs; have HF := Lib.hid hfw; have Hsz := Lib.hid hsz
  clear hb hf hn hb2 hsz fs hs hfw
  go_wp2_with fail
  go_ret
  refine ⟨w.heap.size, _, rfl, HS.out, ?_, HF.out⟩
  rintro i (rfl | hi)
  · exact Nat.le_refl _
  · simp [Value.ownBlock] at hi; have := Hsz.out; omega
set_option maxRecDepth 100000 in
theorem all_none {w : World} {p : Option Addr} (h : NoIdx w p) : Calls Tryz.prog 98 #[.pointer p] w (AllOf w []) := by
  have fa : Fr (fun _ => False) w (w.alloc (.cells #[.slice none 0 0] 159)) := Fr.alloc (Fr.refl _ _) _
  have hb0 : (w.alloc (.cells #[.slice none 0 0] 159)).heap[w.heap.size]? = some (.cells #[.slice none 0 0] 159 (0, 0)) := by rw [heap_alloc_get]; simp
  have h1 : NoIdx (w.alloc (.cells #[.slice none 0 0] 159)) p := by
    rcases h with rfl | ⟨b, v1, v2, v3, v4, rfl, h⟩
    · exact .inl rfl
    · exact .inr ⟨b, v1, v2, v3, v4, rfl, fa.get h (fun h => h)⟩
  have HM := Lib.hid (made_no h1)
  have HB0 := Lib.hid hb0; have FA := Lib.hid fa
  clear h h1 hb0 fa
  go_enter Tryz.func98, Tryz.ntmps98
  go_wp2_with fail
  refine HM.out.mono ?_
  rintro e w1 ⟨rfl, rfl⟩
  go_wp2_with fail
  go_ret
  refine ⟨w.heap.size, _, rfl, ⟨HB0.out, .inl ⟨rfl, rfl⟩, Nat.zero_le _⟩, ?_, FA.out⟩
  rintro i (rfl | hi)
  · exact Nat.le_refl _
  · simp [Value.ownBlock] at hi
theorem addr_add (g o k : Nat) : (⟨g, o, none⟩ : Addr).add k = ⟨g, o + k, none⟩ := by
  by_cases h0 : k = 0
  · subst h0; simp [Addr.add]
  · simp [Addr.add, h0]
/-- append of values of one cell that lie in a new block. -/
theorem app_row {e t : TypeId} {z : Value} (ht : Tryz.prog.underlying t = some (.slice e)) (hi : (Tryz.prog.info? e).map (fun i => (i.zero, i.size, i.bytes)) = some (some z, 1, 8)) (hz : z.cells.size = 1) (ty : TypeId) {W : World} {v : Value} {xs ys : List Value} (h : Row W e 1 v xs.length xs) (hb : xs.length + ys.length ≤ 1000000) (hy : ∀ u ∈ ys, u.oneCell' = true) {n : Nat} (hn : n = ys.length) :
    ∃ a c W2, (Builtin.append_ #[t, t] ty #[v, .slice (some ⟨W.heap.size, 0, none⟩) n n]).run Tryz.prog (W.alloc (.cells ys.toArray e)) = .ok (.slice a (xs.length + n) c) W2 ∧
      Row W2 e 1 (.slice a (xs.length + n) c) (xs ++ ys).length (xs ++ ys) ∧ Fr (fun b => v.ownBlock = some b) W W2 ∧ (∀ b, (Value.slice a (xs.length + n) c).ownBlock = some b → v.ownBlock = some b ∨ W.heap.size ≤ b) := by
  subst hn
  obtain ⟨i0, hi, hz0, hz1, hz2⟩ := info_parts hi
  have f0 : Fr (fun _ => False) W (W.alloc (.cells ys.toArray e)) := Fr.alloc (Fr.refl _ _) _
  have hg : (W.alloc (.cells ys.toArray e)).heap[W.heap.size]? = some (.cells ys.toArray e (0, 0)) := by rw [heap_alloc_get]; simp
  obtain ⟨v', w3, hrun, hR3, hf3, ho3⟩ := run_append_fr (P := Tryz.prog) _ t ty e i0 _ 1 8 ht hi hz0 hz1 hz2 hz (by decide) _ _ _ (Row.fr h f0 (fun _ _ h => h)) ⟨W.heap.size, 0, none⟩ ys.length ys.length ys (by simp)
    (by intro j u hu
        rw [addr_add, Nat.zero_add, cell_of hg j]
        simpa using hu)
    hy (by unfold maxLen; omega) (by omega)
  obtain ⟨a', c', rfl⟩ : ∃ a' c', v' = .slice a' (xs.length + ys.length) c' := by
    rcases hR3.2 with ⟨rfl, h0⟩ | ⟨g, cap, cur, rfl, _⟩
    · exact ⟨none, 0, by rw [h0]⟩
    · exact ⟨_, _, rfl⟩
  refine ⟨a', c', w3, hrun, by rw [List.length_append]; exact hR3, (f0.mono (fun _ _ h => h.elim)).trans hf3 (fun _ _ h => h), ?_⟩
  intro b hb
  rcases ho3 with h | h
  · rw [h] at hb; exact .inl hb
  · rw [h] at hb; simp at hb; right; omega
theorem row_obj {w : World} {e : TypeId} {size n : Nat} {v : Value} {xs : List Value} (h : Row w e size v n xs) {b : Nat} (hb : v.ownBlock = some b) : ∃ c t z, w.heap[b]? = some (.cells c t z) := by
  rcases h.2 with ⟨rfl, _⟩ | ⟨g, cap, cur, rfl, _, k1, _⟩
  · simp [Value.ownBlock] at hb
  · simp [Value.ownBlock] at hb; subst hb; exact ⟨_, _, _, k1⟩
end Go.Proofs.YtebdcahjlcgonaaGreat.Ix
