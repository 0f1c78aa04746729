/- The index layer: anew. No condition. -/
import Derived.Test.YtiebcmlfppepaaaIxL
namespace Go.Proofs.Ytiebcmlfppepaaa.Ix
open Go.RowKit
/-- Where the laying anew stands. -/
structure AnewAt (w : World) (bh g b N most st : Nat) (S : List Sl) (L : List (Nat × Int)) (k : Nat) (wr : World) : Prop where
  head : HeadAt wr bh g N most L.length 0 st
  slots : SlotsAt wr g S
  buf : BufAt wr b (L.map fun x => (1, x))
  anew : Anew (home N) S L N k
  fr : Fr (fun i => i = bh ∨ i = g) w wr
set_option maxRecDepth 100000 in
set_option maxHeartbeats 2000000 in
theorem anew_ok {w : World} {bh g N most gr st : Nat} {S : List Sl} {L : List (Nat × Int)} (H : HeadAt w bh g N most L.length gr st) (HS : SlotsAt w g S) (hN : S.length = N) (M : Maps S L) (hids : ∀ x ∈ L, x.1 < 4294967296) (hne : bh ≠ g) (hL : L.length < N) (h8 : N ≤ 8192) :
    Calls Try.prog 65 #[.pointer (some ⟨bh, 0, none⟩)] w fun e w' => e = .returned (.tuple #[]) ∧ ∃ S', HeadAt w' bh g N most L.length 0 st ∧ SlotsAt w' g S' ∧ Anew (home N) S' L N L.length ∧ Fr (fun i => i = bh ∨ i = g) w w' := by
  obtain ⟨m, hm⟩ : ∃ m, m = L.length := ⟨_, rfl⟩
  have HI := Lib.hid (items_ok H HS hN M (by omega) h8)
  rw [← hm] at HI
  have HH := Lib.hid H; have HS := Lib.hid HS; have HN := Lib.hid hN; have HU := Lib.hid M.up; have Hids := Lib.hid hids; have Hne := Lib.hid hne; have HL := Lib.hid hL; have H8 := Lib.hid h8; have Hm := Lib.hid hm
  clear H hN M hids hne hL h8 hm
  go_enter Try.func65, Try.ntmps65
  go_wp2_with fail
  refine HI.out.mono ?_
  rintro e w1 ⟨b, cap, rfl, hb, hf, hnew⟩
  have hh := HH.out.fr hf (fun h => h)
  have hs := HS.out.fr hf (fun h => h)
  rw [← Hm.out] at hh
  obtain ⟨c0, -, -, -, c4⟩ := hh.cells
  have hbb : b ≠ bh ∧ b ≠ g := by have := HH.out.lt; have := HS.out.lt; omega
  have hcl := fun ty => run_clear3 w1 ty g 0 N N (by have := HL.out; omega) (fun j hj => by rw [Nat.zero_add, cell_of hs]; simp only [List.getElem?_toArray]; rw [List.getElem?_eq_getElem (by rw [flat3_length, HN.out]; exact hj)]; rfl) (fun j _ => hs.free _)
  have hs2 : SlotsAt (w1.setCells g 0 (flat3 (List.replicate N (0, 0, 0)))) g (List.replicate N (0, 0, 0)) := by
    have := setCells_blk (flat3 (List.replicate N (0, 0, 0))) [] (flat3 S) [] 0 w1 g 86 (by rw [List.nil_append, List.append_nil]; exact hs) rfl (by rw [flat3_length, flat3_length, List.length_replicate, HN.out])
    rw [List.nil_append, List.append_nil] at this
    exact this
  have hf2 : Fr (fun i => i = g) w1 (w1.setCells g 0 (flat3 (List.replicate N (0, 0, 0)))) := setCells_fr _ _ _ _
  have hh2 := hh.fr hf2 Hne.out
  have hb2 := hb.fr hf2 hbb.2
  have hf3 : Fr (fun i => i = bh ∨ i = g) w (w1.setCells g 0 (flat3 (List.replicate N (0, 0, 0)))) := (hf.mono (G := fun i => i = bh ∨ i = g) (fun _ _ h => h.elim)).trans hf2 (fun _ _ h => .inr h)
  have HS2 := Lib.hid hs2; have HF3 := Lib.hid hf3; have HH2 := Lib.hid hh2; have HB2 := Lib.hid hb2; have Hbb := Lib.hid hbb
  clear hh hs hb hf hnew hs2 hf2 hf3 hh2 hb2 hbb
  go_upto_region 3 with fail
  clear hcl c0 c4
  generalize w1.setCells g 0 (flat3 (List.replicate N (0, 0, 0))) = w2 at HS2 HF3 HH2 HB2 ⊢
  obtain ⟨c0, -, -, c3, c4⟩ := HH2.out.cells
  have z3 := HH2.out.free 3
  have hh3 := HH2.out.graves 0
  simp only [Int.natCast_zero] at hh3
  have hf4 : Fr (fun i => i = bh) w2 (w2.setCell ⟨bh, 3, none⟩ (.int .i64 0)) := Fr.setCell (F := fun i => i = bh) (p := ⟨bh, 3, none⟩) (Fr.refl _ w2) (fun _ => rfl) _
  have hst : AnewAt w bh g b N most st (List.replicate N (0, 0, 0)) L 0 (w2.setCell ⟨bh, 3, none⟩ (.int .i64 0)) := ⟨by rw [← Hm.out]; exact hh3, HS2.out.fr hf4 (fun e => Hne.out e.symm), HB2.out.fr hf4 Hbb.out.1, Anew.start _ _ _, HF3.out.trans hf4 (fun _ _ h => .inl h)⟩
  have HST := Lib.hid hst
  clear hh3 hf4 hst HS2 HF3 HH2 HB2
  go_upto_block 0 with fail
  clear c0 c3 c4 z3
  generalize w2.setCell ⟨bh, 3, none⟩ (.int .i64 0) = w3 at HST ⊢
  go_cut [23] (fun _ wx => ∃ S' st', AnewAt w bh g b N most st' S' L L.length wx)
  case first =>
    go_wp2_with fail
    go_loopw [23] (fun s23 wr => ∃ (k : Nat) (S' : List Sl) (st' : Nat), s23 = .int .i64 (k : Int) ∧ k ≤ m ∧ AnewAt w bh g b N most st' S' L k wr) (fun s23 _ => m - (intOf s23).toNat)
    case atStart => exact ⟨0, _, st, rfl, Nat.zero_le _, HST.out⟩
    case round =>
      obtain ⟨k, S', st', rfl, hk, hs⟩ := hrel
      have HA := Lib.hid hs
      clear hs
      by_cases hlt : k < m
      · have hlt' : (k : Int) < (m : Int) := by omega
        have k0 : (0 : Int) ≤ (k : Int) := by omega
        have hkL : k < L.length := by rw [← Hm.out]; exact hlt
        obtain ⟨d0, d1, d2⟩ := HA.out.buf.cells (p := k) (by rw [List.length_map]; exact hkL)
        have hx : slAt (L.map fun x => (1, x)) k = (1, L[k].1, L[k].2) := by simp [slAt, hkL]
        rw [hx] at d0 d1 d2
        simp only at d0 d1 d2
        obtain ⟨id, hid⟩ : ∃ id, id = L[k].1 := ⟨_, rfl⟩
        obtain ⟨v, hv⟩ : ∃ v, v = L[k].2 := ⟨_, rfl⟩
        rw [← hid] at d1
        rw [← hv] at d2
        have e0 : ((1 : Nat) : Int) = 1 := rfl
        rw [e0] at d0
        have Hid := Lib.hid hid; have Hv := Lib.hid hv; have Hlt := Lib.hid hlt
        have HidL := Lib.hid (show id < 4294967296 by rw [hid]; exact Hids.out _ (List.getElem_mem hkL))
        obtain ⟨k1, hk1⟩ : ∃ k1, k1 = k + 1 := ⟨_, rfl⟩
        have e1 : (k : Int) + 1 = (k1 : Int) := by omega
        obtain ⟨e2, e3, -⟩ := wrap_small (x := k1) (by have := H8.out; have := HL.out; omega)
        have HK1 := Lib.hid hk1
        clear hx hid hv hlt hk hk1 e0
        go_upto_region 7 with fail
        clear d0 d1 d2
        have hw4 : (wr.alloc (.cells #[.int .u8 1, .int .u32 (id : Int), .int .i64 v] 86)).heap[wr.heap.size]? = some (.cells #[.int .u8 1, .int .u32 (id : Int), .int .i64 v] 86 (0, 0)) := by rw [heap_alloc_get]; simp
        have hf4 : Fr (fun _ => False) wr (wr.alloc (.cells #[.int .u8 1, .int .u32 (id : Int), .int .i64 v] 86)) := Fr.alloc (Fr.refl _ _) _
        have hlb : wr.heap.size ≠ bh ∧ wr.heap.size ≠ g ∧ wr.heap.size ≠ b := by have := HA.out.head.lt; have := HA.out.slots.lt; have := HA.out.buf.lt; omega
        have hso : w.heap.size ≤ wr.heap.size := HA.out.fr.size
        generalize wr.alloc (.cells #[.int .u8 1, .int .u32 (id : Int), .int .i64 v] 86) = w4 at hw4 hf4 ⊢
        generalize wr.heap.size = lb at hw4 hlb hso ⊢
        have HA4 := Lib.hid (show AnewAt w bh g b N most st' S' L k w4 from ⟨HA.out.head.fr hf4 (fun h => h), HA.out.slots.fr hf4 (fun h => h), HA.out.buf.fr hf4 (fun h => h), HA.out.anew, HA.out.fr.trans hf4 (fun _ _ h => h.elim)⟩)
        have l1 := (cell_of hw4 1).trans (show _ = some (Value.int .u32 (id : Int)) from rfl)
        have HW4 := Lib.hid hw4; have Hlb := Lib.hid hlb
        clear hw4 hf4 hlb hso
        have hkN : k < N := by have := Hlt.out; have := HL.out; have := Hm.out; omega
        have HFd := Lib.hid (find_ok HA4.out.head HA4.out.slots HA4.out.anew.len HA4.out.anew.good (HA4.out.anew.gap hkN) Hne.out HidL.out H8.out)
        rw [← Hm.out] at HFd
        clear hkN
        go_wp2_with fail
        refine HFd.out.mono ?_
        rintro e w5 ⟨st5, -, -, hh5, hf5, hd⟩
        rcases hd with ⟨p, rfl, hp, hs⟩ | ⟨p, rfl, hpl, hab⟩
        · exact absurd (HA4.out.anew.not_there HU.out hkL (by rw [HA4.out.anew.len]; exact hp) (by rw [← Hid.out]; exact hs)) (fun h => h)
        have hpS : p < S'.length := hpl.1
        have hpN : p < N := by rw [← HA4.out.anew.len]; exact hpS
        have hpn : (p : Int) < (N : Int) := by omega
        have hp0 : (0 : Int) ≤ (p : Int) := by omega
        have c0 := hh5.cells.1
        have hs5 := HA4.out.slots.fr hf5 (fun e => Hne.out e.symm)
        obtain ⟨g0, g1, g2⟩ := hs5.cells hpS
        have z0 := hs5.free (p * 3); have z1 := hs5.free (p * 3 + 1); have z2 := hs5.free (p * 3 + 2)
        have hw5 := hf5.get HW4.out Hlb.out.1
        have l0 := (cell_of hw5 0).trans (show _ = some (Value.int .u8 1) from rfl)
        have l1 := (cell_of hw5 1).trans (show _ = some (Value.int .u32 (id : Int)) from rfl)
        have l2 := (cell_of hw5 2).trans (show _ = some (Value.int .i64 v) from rfl)
        have hs6 : SlotsAt (((w5.setCell ⟨g, p * 3, none⟩ (.int .u8 1)).setCell ⟨g, p * 3 + 1, none⟩ (.int .u32 (id : Int))).setCell ⟨g, p * 3 + 2, none⟩ (.int .i64 v)) g (S'.set p (1, id, v)) := hs5.set hpS (1, id, v)
        have hf6 := set3_fr w5 g p (.int .u8 1) (.int .u32 (id : Int)) (.int .i64 v)
        have ha6 : Anew (home N) (S'.set p (1, id, v)) L N (k + 1) := by
          rw [Hid.out, Hv.out]
          exact HA4.out.anew.more HU.out hkL (by rw [← Hid.out]; exact hpl) (by rw [← Hid.out]; exact hab)
        have HA6 := Lib.hid (show AnewAt w bh g b N most st5 (S'.set p (1, id, v)) L (k + 1) _ from ⟨by rw [← Hm.out]; exact hh5.fr hf6 Hne.out, hs6, (HA4.out.buf.fr hf5 Hbb.out.1).fr hf6 Hbb.out.2, ha6, (HA4.out.fr.trans hf5 (fun _ _ h => .inl h)).trans hf6 (fun _ _ h => .inr h)⟩)
        clear hh5 hf5 hpl hab hpS hpN hs5 hw5 hs6 hf6 ha6
        go_upto_region 8 with fail
        go_still_tail 7, (by kernel_rfl)
        go_wp2_with fail
        go_roundw
        case rel => exact ⟨k1, _, _, rfl, by have := HK1.out; have := Hlt.out; omega, by rw [HK1.out]; exact ⟨HA6.out.head, HA6.out.slots, HA6.out.buf, HA6.out.anew, HA6.out.fr.drew⟩⟩
        case measure => have := HK1.out; have := Hlt.out; simp [intOf]; omega
      · obtain rfl : k = m := by omega
        clear hlt hk
        go_wp2_with fail
        go_meet
        exact ⟨_, _, by rw [← Hm.out]; exact HA.out⟩
  case rest =>
  obtain ⟨S', st', hs⟩ := hcut
  obtain ⟨-, -, -, -, c4⟩ := hs.head.cells
  have z4 := hs.head.free 4
  have hf5 : Fr (fun i => i = bh) wc (wc.setCell ⟨bh, 4, none⟩ (.int .i64 (st : Int))) := Fr.setCell (F := fun i => i = bh) (p := ⟨bh, 4, none⟩) (Fr.refl _ wc) (fun _ => rfl) _
  have HR := Lib.hid (show HeadAt (wc.setCell ⟨bh, 4, none⟩ (.int .i64 (st : Int))) bh g N most L.length 0 st ∧ SlotsAt (wc.setCell ⟨bh, 4, none⟩ (.int .i64 (st : Int))) g S' ∧ Anew (home N) S' L N L.length ∧ Fr (fun i => i = bh ∨ i = g) w (wc.setCell ⟨bh, 4, none⟩ (.int .i64 (st : Int))) from ⟨hs.head.steps st, hs.slots.fr hf5 (fun e => Hne.out e.symm), hs.anew, hs.fr.trans hf5 (fun _ _ h => .inl h)⟩)
  clear hs hf5
  go_wp2_with fail
  go_end0
  exact ⟨rfl, S', HR.out⟩
end Go.Proofs.Ytiebcmlfppepaaa.Ix
