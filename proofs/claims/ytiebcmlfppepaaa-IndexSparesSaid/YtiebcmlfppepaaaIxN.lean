/- The index layer: Put. No condition. -/
import Derived.Test.YtiebcmlfppepaaaIxM
namespace Go.Proofs.Ytiebcmlfppepaaa.Ix
open Go.RowKit
/-- What Put answers. -/
def putE (L : List (Nat × Int)) (most id : Nat) : Nat := if (look L id).isSome then 7 else if L.length = most then 6 else 0
/-- What is held behind a Put. -/
def putL (L : List (Nat × Int)) (most id : Nat) (v : Int) : List (Nat × Int) := if putE L most id = 0 then ins L id v else L
theorem mem_ins {L : List (Nat × Int)} {id : Nat} {v : Int} {x : Nat × Int} (h : x ∈ ins L id v) : x = (id, v) ∨ x ∈ L := by
  unfold ins at h
  rcases List.mem_append.1 h with h | h
  · exact .inr (List.mem_filter.1 h).1
  · rcases List.mem_cons.1 h with h | h
    · exact .inl h
    · exact .inr (List.mem_filter.1 h).1
theorem Raw.drew {w : World} {bh g N most : Nat} {S : List Sl} {L : List (Nat × Int)} {st : Nat} (h : Raw w bh g N most S L st) : Raw w.drew bh g N most S L st := ⟨h.head, h.slots, h.len, h.good, h.maps, h.ids, h.ne, h.lo, h.one, h.hi⟩
/-- Graves that are left when a place is taken. -/
def grL (S : List Sl) (p : Nat) : Nat := if (slAt S p).1 = 2 then graves S - 1 else graves S
theorem grL_ok {S : List Sl} {p id : Nat} {v : Int} (hp : p < S.length) : graves (S.set p (1, id, v)) = grL S p ∧ ((slAt S p).1 = 2 → 1 ≤ graves S) := by
  have := graves_set hp (1, id, v)
  rw [if_neg (show ¬ (1 = 2) by omega)] at this
  unfold grL
  by_cases h : (slAt S p).1 = 2
  · rw [if_pos h] at this; rw [if_pos h]; exact ⟨by omega, fun _ => by omega⟩
  · rw [if_neg h] at this; rw [if_neg h]; exact ⟨by omega, fun e => absurd e h⟩
set_option maxRecDepth 100000 in
set_option maxHeartbeats 2000000 in
theorem put_ok {w : World} {bh g N most st : Nat} {L : List (Nat × Int)} (h : IxAt w bh g N most L st) {id : Nat} (hid : id < 4294967296) (v : Int) :
    Calls Try.prog 34 #[.pointer (some ⟨bh, 0, none⟩), .int .u32 (id : Int), .int .i64 v] w fun e w' => ∃ st', 1 ≤ st' ∧ e = .returned (.int .i64 (putE L most id : Int)) ∧ IxAt w' bh g N most (putL L most id v) st' ∧ Fr (fun b => b = bh ∨ b = g) w w' := by
  obtain ⟨S, hr, hl1, hl2, hl3⟩ := h
  have HF := Lib.hid (find_raw hr (load_lt hr.lo hr.one hl1) hid)
  have H := Lib.hid hr.head; have HL := Lib.hid hl1; have HL2 := Lib.hid hl2; have Hid := Lib.hid hid
  have hN8 := hr.hi
  have hlo := hr.lo
  obtain ⟨q, hq⟩ : ∃ q, q = L.length := ⟨_, rfl⟩
  have hq6 : q ≤ 8192 := by omega
  have HQ := Lib.hid hq; have HQ6 := Lib.hid hq6; have HN8 := Lib.hid hN8; have Hlo := Lib.hid hlo
  clear hr hl1 hl2 hl3 hid hq hlo hN8 hq6
  go_enter Try.func34, Try.ntmps34
  go_wp2_with fail
  refine (made_ok H.out).mono ?_
  rintro e w1 ⟨rfl, rfl⟩
  go_wp2_with fail
  refine HF.out.mono ?_
  rintro e w1 ⟨st', h1, h2, hr, hf, hd⟩
  rcases hd with ⟨p, rfl, hp, hs⟩ | ⟨p, rfl, hpl, ha⟩
  · have hlk := hr.maps.found (by rw [hr.len]; exact hp) hs
    have HR := Lib.hid hr; have Hf := Lib.hid hf; have HK := Lib.hid hlk; have HS := Lib.hid (And.intro h1 h2)
    clear hr hf hlk h1 h2 hs hp
    go_wp2_with fail
    go_ret
    have e7 : putE L most id = 7 := by unfold putE; rw [HK.out]; rfl
    have eL : putL L most id v = L := by unfold putL; rw [e7]; rfl
    exact ⟨st', HS.out.1, by rw [e7]; rfl, by rw [eL]; exact ⟨S, HR.out, HL.out, HL2.out, HS.out.2⟩, Hf.out.mono (fun _ _ h => .inl h)⟩
  · have hlk := hr.maps.absent ha
    have hhd := hr.head
    rw [← HQ.out] at hhd
    obtain ⟨c0, c1, c2, -, -⟩ := hhd.cells
    have HR := Lib.hid hr; have Hf := Lib.hid hf; have HK := Lib.hid hlk; have HS := Lib.hid (And.intro h1 h2); have Hpl := Lib.hid hpl; have Ha := Lib.hid ha; have Hhd := Lib.hid hhd
    clear hr hf hlk h1 h2 ha hpl hhd
    by_cases hqm : q = most
    · have hb : ((q : Int) == (most : Int)) = true := by rw [hqm]; simp
      have Hqm := Lib.hid hqm
      clear hqm
      go_upto_region 6 with fail
      go_still (by kernel_rfl)
      go_wp2_with fail
      go_ret
      have e6 : putE L most id = 6 := by unfold putE; rw [HK.out, ← HQ.out, Hqm.out, if_neg (by simp), if_pos rfl]
      have eL : putL L most id v = L := by unfold putL; rw [e6]; rfl
      exact ⟨st', HS.out.1, by rw [e6]; rfl, by rw [eL]; exact ⟨S, HR.out.drew, HL.out, HL2.out, HS.out.2⟩, (Hf.out.mono (G := fun b => b = bh ∨ b = g) (fun _ _ h => .inl h)).drew⟩
    · have hb : ((q : Int) == (most : Int)) = false := by simp; omega
      have hqm2 : q + 1 ≤ most := by have := HL2.out; have := HQ.out; omega
      have Hqm := Lib.hid hqm2
      clear hqm hqm2
      have hp' : p < S.length := Hpl.out.1
      have hpN : p < N := by rw [← HR.out.len]; exact hp'
      have hpl : (p : Int) < (N : Int) := by omega
      have hp0 : (0 : Int) ≤ (p : Int) := by omega
      obtain ⟨k0, k1, k2⟩ := HR.out.slots.cells hp'
      obtain ⟨sa, hsa⟩ : ∃ sa, sa = (slAt S p).1 := ⟨_, rfl⟩
      rw [← hsa] at k0
      obtain ⟨-, hgr1⟩ := grL_ok (id := id) (v := v) hp'
      have HgL := Lib.hid (show graves S ≤ 8192 from Nat.le_trans (graves_le S) (by rw [HR.out.len]; exact HN8.out))
      have Hsa := Lib.hid hsa; have Hgr1 := Lib.hid hgr1; have Hp := Lib.hid hp'
      clear hsa hgr1 hp' hpN
      go_upto_region 6 with fail
      go_still (by kernel_rfl)
      go_upto_if 38 with fail
      have hh2 : HeadAt w1.drew bh g N most q (graves S) st' := Hhd.out
      have hs2 : SlotsAt w1.drew g S := HR.out.slots
      have hf2 : Fr (fun b => b = bh ∨ b = g) w w1.drew := (Hf.out.mono (G := fun b => b = bh ∨ b = g) (fun _ _ h => .inl h)).drew
      clear c0 c1 c2 k0 k1 k2 hb
      generalize w1.drew = w2 at hh2 hs2 hf2 ⊢
      obtain ⟨c0, -, c2, c3, -⟩ := hh2.cells
      have z3 := hh2.free 3
      have HH2 := Lib.hid hh2; have HS2 := Lib.hid hs2; have HF2 := Lib.hid hf2
      clear hh2 hs2 hf2
      go_cut [] (fun wx => HeadAt wx bh g N most q (grL S p) st' ∧ SlotsAt wx g S ∧ Fr (fun b => b = bh ∨ b = g) w wx)
      case first =>
        by_cases hs : sa = 2
        · subst hs
          obtain ⟨gr1, hgr1⟩ : ∃ gr1, graves S = gr1 + 1 := ⟨graves S - 1, by have := Hgr1.out Hsa.out.symm; omega⟩
          rw [hgr1] at c3
          have e1 : ((gr1 + 1 : Nat) : Int) - 1 = (gr1 : Int) := by omega
          obtain ⟨e2, e3, -⟩ := wrap_small (x := gr1) (by have := HgL.out; omega)
          have e4 : grL S p = gr1 := by unfold grL; rw [if_pos Hsa.out.symm, hgr1]; rfl
          have hf3 : Fr (fun b => b = bh) w2 (w2.setCell ⟨bh, 3, none⟩ (.int .i64 (gr1 : Int))) := Fr.setCell (F := fun b => b = bh) (p := ⟨bh, 3, none⟩) (Fr.refl _ w2) (fun _ => rfl) _
          have HX := Lib.hid (show HeadAt (w2.setCell ⟨bh, 3, none⟩ (.int .i64 (gr1 : Int))) bh g N most q (grL S p) st' ∧ SlotsAt (w2.setCell ⟨bh, 3, none⟩ (.int .i64 (gr1 : Int))) g S ∧ Fr (fun b => b = bh ∨ b = g) w (w2.setCell ⟨bh, 3, none⟩ (.int .i64 (gr1 : Int))) from ⟨by rw [e4]; exact HH2.out.graves gr1, HS2.out.fr hf3 (fun e => HR.out.ne e.symm), HF2.out.trans hf3 (fun _ _ h => .inl h)⟩)
          clear hgr1 e4 hf3
          go_wp2_with fail
          go_meet
          exact HX.out
        · have hb : ((sa : Int) == 2) = false := by simp; omega
          have e4 : grL S p = graves S := by unfold grL; rw [if_neg (by rw [← Hsa.out]; exact hs)]
          have HX := Lib.hid e4
          clear hs e4
          go_wp2_with fail
          go_meet
          exact ⟨by rw [HX.out]; exact HH2.out, HS2.out, HF2.out⟩
      case rest =>
      obtain ⟨hh3, hs3, hf3⟩ := hcut
      clear c0 c2 c3 z3
      obtain ⟨hgl, -⟩ := grL_ok (id := id) (v := v) Hp.out
      obtain ⟨gr, hgr⟩ : ∃ gr, gr = grL S p := ⟨_, rfl⟩
      rw [← hgr] at hh3 hgl
      have hg8 : gr ≤ 8192 := by rw [← hgl]; exact Nat.le_trans (graves_le _) (by rw [List.length_set, HR.out.len]; exact HN8.out)
      obtain ⟨c0, -, -, -, -⟩ := hh3.cells
      obtain ⟨k0, k1, k2⟩ := hs3.cells Hp.out
      have z0 := hs3.free (p * 3); have z1 := hs3.free (p * 3 + 1); have z2 := hs3.free (p * 3 + 2)
      have hsl : SlotsAt (((wc.setCell ⟨g, p * 3, none⟩ (.int .u8 1)).setCell ⟨g, p * 3 + 1, none⟩ (.int .u32 (id : Int))).setCell ⟨g, p * 3 + 2, none⟩ (.int .i64 v)) g (S.set p (1, id, v)) := hs3.set Hp.out (1, id, v)
      have fs := set3_fr wc g p (.int .u8 1) (.int .u32 (id : Int)) (.int .i64 v)
      have HH3 := Lib.hid hh3; have HSL := Lib.hid hsl; have FS := Lib.hid fs; have HF3 := Lib.hid hf3; have Hgl := Lib.hid hgl; have Hgr := Lib.hid hgr
      clear hh3 hs3 hf3 hgl hgr hsl fs
      go_upto_region 11 with fail
      have hh4 := HH3.out.fr FS.out HR.out.ne
      have hsl4 := HSL.out
      have hf4 := HF3.out.trans FS.out (fun _ _ h => .inr h)
      clear k0 k1 k2 z0 z1 z2 c0 hpl hp0
      generalize ((wc.setCell ⟨g, p * 3, none⟩ (.int .u8 1)).setCell ⟨g, p * 3 + 1, none⟩ (.int .u32 (id : Int))).setCell ⟨g, p * 3 + 2, none⟩ (.int .i64 v) = w4 at hh4 hsl4 hf4 ⊢
      obtain ⟨q1, hq1⟩ : ∃ q1, q1 = q + 1 := ⟨_, rfl⟩
      have e1 : (q : Int) + 1 = (q1 : Int) := by omega
      obtain ⟨e2, e3, -⟩ := wrap_small (x := q1) (by have := HQ6.out; omega)
      obtain ⟨-, -, c2, -, -⟩ := hh4.cells
      have z2 := hh4.free 2
      have hh5 := hh4.len q1
      have hf5 : Fr (fun b => b = bh) w4 (w4.setCell ⟨bh, 2, none⟩ (.int .i64 (q1 : Int))) := Fr.setCell (F := fun b => b = bh) (p := ⟨bh, 2, none⟩) (Fr.refl _ w4) (fun _ => rfl) _
      have hsl5 := hsl4.fr hf5 (fun e => HR.out.ne e.symm)
      have hf6 := hf4.trans hf5 (fun _ _ h => .inl h)
      have HH5 := Lib.hid hh5; have HSL5 := Lib.hid hsl5; have HF6 := Lib.hid hf6; have Hq1 := Lib.hid hq1; have Hg8 := Lib.hid hg8
      clear hh4 hsl4 hf4 hh5 hf5 hsl5 hf6 hq1 hg8
      go_upto_region 12 with fail
      clear c2 z2
      generalize w4.setCell ⟨bh, 2, none⟩ (.int .i64 (q1 : Int)) = w5 at HH5 HSL5 HF6 ⊢
      obtain ⟨c0, -, c2, c3, -⟩ := HH5.out.cells
      obtain ⟨s1, hs1⟩ : ∃ s1, s1 = q1 + gr := ⟨_, rfl⟩
      obtain ⟨s4, hs4⟩ : ∃ s4, s4 = 4 * s1 := ⟨_, rfl⟩
      obtain ⟨n3, hn3⟩ : ∃ n3, n3 = 3 * N := ⟨_, rfl⟩
      have hbd : s1 ≤ 20000 := by have := HQ6.out; have := Hg8.out; have := Hq1.out; omega
      have f1 : (q1 : Int) + (gr : Int) = (s1 : Int) := by omega
      obtain ⟨f2, f3, -⟩ := wrap_small (x := s1) (by omega)
      have f4 : 4 * (s1 : Int) = (s4 : Int) := by omega
      obtain ⟨f5, f6, -⟩ := wrap_small (x := s4) (by omega)
      have f7 : 3 * (N : Int) = (n3 : Int) := by omega
      obtain ⟨f8, f9, -⟩ := wrap_small (x := n3) (by have := HN8.out; omega)
      have Hs := Lib.hid (show s4 = 4 * (L.length + 1 + grL S p) by rw [hs4, hs1, Hq1.out, HQ.out, Hgr.out])
      have Hn3 := Lib.hid hn3
      clear hs1 hs4 hn3 hbd
      have e0 : putE L most id = 0 := by unfold putE; rw [HK.out, if_neg (by simp), ← HQ.out, if_neg (by have := Hqm.out; omega)]
      have eL : putL L most id v = ins L id v := by unfold putL; rw [if_pos e0]
      have il := ins_length (L := L) (id := id) v HK.out
      have hmaps := HR.out.maps.put (v := v) Hp.out Hpl.out.2.1 Ha.out
      have hgood := HR.out.good.put (v := v) Hpl.out Ha.out
      have hids : ∀ x ∈ ins L id v, x.1 < 4294967296 := fun x hx => by
        rcases mem_ins hx with rfl | hx
        · exact Hid.out
        · exact HR.out.ids x hx
      have E0 := Lib.hid e0; have EL := Lib.hid eL; have IL := Lib.hid il; have Hmaps := Lib.hid hmaps; have Hgood := Lib.hid hgood; have Hids := Lib.hid hids
      clear e0 eL il hmaps hgood hids
      by_cases hgt : n3 < s4
      · have hgt' : (n3 : Int) < (s4 : Int) := by omega
        have hh6 := HH5.out
        rw [show q1 = (ins L id v).length by rw [IL.out, Hq1.out, HQ.out]] at hh6
        have hlo := Hlo.out; have hqm := Hqm.out; have hq := HQ.out; have hil := IL.out; have h1 := HR.out.one
        have HA := Lib.hid (anew_ok (w := w5.drew) (by exact hh6) (by exact HSL5.out) (by rw [List.length_set]; exact HR.out.len) Hmaps.out Hids.out HR.out.ne (show (ins L id v).length < N by omega) HN8.out)
        clear hgt hh6 hlo hqm hq hil h1
        go_still (by kernel_rfl)
        go_wp2_with fail
        refine HA.out.mono ?_
        rintro e w6 ⟨rfl, S', hh7, hs7, ha7, hf7⟩
        have HH7 := Lib.hid hh7; have HS7 := Lib.hid hs7; have HA7 := Lib.hid ha7; have HF7 := Lib.hid hf7
        clear hh7 hs7 ha7 hf7
        go_wp2_with fail
        go_ret
        refine ⟨st', HS.out.1, by rw [E0.out]; rfl, ?_, HF6.out.drew.trans HF7.out (fun _ _ h => h)⟩
        rw [EL.out]
        have hm : (ins L id v).length ≤ most := by rw [IL.out]; have := Hqm.out; have := HQ.out; omega
        refine ⟨S', ⟨by rw [HA7.out.none]; exact HH7.out, HS7.out, HA7.out.len, HA7.out.good, HA7.out.whole, Hids.out, HR.out.ne, HR.out.lo, HR.out.one, HR.out.hi⟩, ?_, hm, HS.out.2⟩
        rw [HA7.out.none]; have := Hlo.out; omega
      · have hgt' : ¬ (n3 : Int) < (s4 : Int) := by omega
        have Hgt := Lib.hid hgt
        clear hgt
        go_still (by kernel_rfl)
        go_wp2_with fail
        go_ret
        refine ⟨st', HS.out.1, by rw [E0.out]; rfl, ?_, HF6.out.drew⟩
        rw [EL.out]
        refine ⟨S.set p (1, id, v), ⟨?_, HSL5.out, by rw [List.length_set]; exact HR.out.len, Hgood.out, Hmaps.out, Hids.out, HR.out.ne, HR.out.lo, HR.out.one, HR.out.hi⟩, ?_, by rw [IL.out]; have := Hqm.out; have := HQ.out; omega, HS.out.2⟩
        · have := HH5.out
          rw [IL.out, Hgl.out, ← HQ.out, ← Hq1.out]; exact this
        · have h1 := Hgt.out; have h2 := Hs.out; have h3 := Hn3.out
          rw [IL.out, Hgl.out, Hgr.out]; omega
end Go.Proofs.Ytiebcmlfppepaaa.Ix
