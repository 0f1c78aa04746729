/- Texts put together: The index layer: find, The index layer: what an index is in memory; Most, Len, Steps, Slots, Get, Set, Drop, The contract of ahead, over a heap of what is due and whatever function that is kept in its field. Conditions: both places are in the heap, The contract of swap, over a heap of what is due. Conditions: both places are in the heap, and not one, The contracts of ahead and swap by the items' list; the contract of settle. Condition: at most 65536 items, The contract of settle. Condition: at most 65536 items, A whole heap of numbers in memory, and what it is made of, The contract of take of . No condition. -/
import Derived.Lib.Hide
import Derived.WalkMore
import Derived.Deep.CutBlock
import Derived.Deep.DeepCutAuto
import Derived.Deep.RegionHeld3
import Derived.Deep.QuietTactic
import Derived.BigQuiet
import Derived.Deep.LoopGhost
import Derived.Test.YtebdcahjlcgonaaGreatProg
import Derived.BigRegion
import Derived.StillTailTactics
import Derived.RangeFuncNested
import Derived.RangeFuncBound
import Derived.RangeFuncCalls
import Derived.RangeFuncLeaves
import Derived.RangeFuncBox
import Derived.Shelf.Abstract
import Derived.Shelf.RegionOpen
import Derived.OwnWalkIn
import Derived.TacticsInMore
import Derived.LoopNIn
import Derived.LoopIn
import Derived.RangeFuncFrom
import Derived.RangeFuncWrites
import Derived.Laws.IdiomCopy
import Derived.Shelf.SlSortCmp.WholeK
import Derived.Shelf.SlSortCmp.NoneTotal
import Derived.Test.YtebdcahjlcgonaaGreatM1
namespace Go.Proofs.YtebdcahjlcgonaaGreat.Ix
open Go.RowKit
def frV (f : Option Nat) : Int := match f with | none => -1 | some p => (p : Int)
/-- What a search comes to. -/
def Found (S : List Sl) (N id : Nat) (e : Ending) : Prop :=
  (∃ p : Nat, e = .returned (.tuple #[.int .i64 (p : Int), .bool true]) ∧ p < N ∧ (slAt S p).1 = 1 ∧ (slAt S p).2.1 = id) ∨
  (∃ p : Nat, e = .returned (.tuple #[.int .i64 (p : Int), .bool false]) ∧ Place S (home N id) p ∧ ∀ q, q < S.length → ¬ ((slAt S q).1 = 1 ∧ (slAt S q).2.1 = id))
def stepsOf (w : World) (bh : Nat) : Nat := match w.cell? ⟨bh, 4, none⟩ with | some (.int _ x) => x.toNat | _ => 0
theorem stepsOf_head {w : World} {bh g N most len gr st : Nat} (h : HeadAt w bh g N most len gr st) : stepsOf w bh = st := by unfold stepsOf; rw [h.cells.2.2.2.2]; rfl
/-- Where the search stands. -/
structure Stand (w : World) (bh g N most len gr id : Nat) (S : List Sl) (t : Nat) (f : Option Nat) (wr : World) : Prop where
  look : Look S (home N id) id t f
  le : t ≤ N
  head : HeadAt wr bh g N most len gr t
  fr : Fr (fun b => b = bh) w wr
theorem wrap_small {x : Nat} (h : x ≤ 1000000) : wrap64 (x : Int) = (x : Int) ∧ IntKind.i64.wrap (x : Int) = (x : Int) ∧ IntKind.u64.wrap (x : Int) = (x : Int) := by
  refine ⟨by unfold wrap64; omega, by rw [IntKind.wrap_i64]; omega, by rw [IntKind.wrap_u64]; omega⟩
theorem mod_small {x n : Nat} : (x : Int).tmod (n : Int) = ((x % n : Nat) : Int) ∧ (x : Int) % (n : Int) = ((x % n : Nat) : Int) := by
  rw [Int.tmod_eq_emod_of_nonneg (by omega)]; exact ⟨(Int.natCast_emod _ _).symm, (Int.natCast_emod _ _).symm⟩
set_option maxRecDepth 100000 in
set_option maxHeartbeats 2000000 in
theorem find_ok {w : World} {bh g N most len gr st id : Nat} {S : List Sl} (H : HeadAt w bh g N most len gr st) (HS : SlotsAt w g S) (hN : S.length = N) (G : Good (home N) S) (hg : ∃ p, p < N ∧ (slAt S p).1 = 0) (hne : bh ≠ g) (hid : id < 4294967296) (hN2 : N ≤ 8192) :
    Calls Tryz.prog 119 #[.pointer (some ⟨bh, 0, none⟩), .int .u32 (id : Int)] w fun e w' => ∃ st', 1 ≤ st' ∧ st' ≤ N ∧ HeadAt w' bh g N most len gr st' ∧ Fr (fun b => b = bh) w w' ∧ Found S N id e := by
  obtain ⟨p0, hp0, hz⟩ := hg
  have hN0 : 0 < N := by omega
  obtain ⟨c0, -, -, -, c4⟩ := H.cells
  have hcv : IntKind.u64.wrap (id : Int) = (id : Int) := by rw [IntKind.wrap_u64]; omega
  have hcn : IntKind.u64.wrap (N : Int) = (N : Int) := by rw [IntKind.wrap_u64]; omega
  obtain ⟨hx, hhx⟩ : ∃ hx, hx = hash id := ⟨_, rfl⟩
  obtain ⟨h0, hh0⟩ : ∃ h0, h0 = home N id := ⟨_, rfl⟩
  have hhl := hash_lt id
  have hhm : h0 = hx % N := by rw [hh0, hhx]; rfl
  have hq : (hx : Int).tmod (N : Int) = (h0 : Int) := by rw [Int.tmod_eq_emod_of_nonneg (by omega), hhm]; rfl
  have hq2 : (hx : Int) % (N : Int) = (h0 : Int) := by rw [hhm]; rfl
  have hh : h0 < N := by rw [hhm]; exact Nat.mod_lt _ hN0
  have hw0 : IntKind.i64.wrap (h0 : Int) = (h0 : Int) := by rw [IntKind.wrap_i64]; omega
  have hwu : IntKind.u64.wrap (h0 : Int) = (h0 : Int) := by rw [IntKind.wrap_u64]; omega
  have hn0 : ((N : Int) == 0) = false := by simp; omega
  have fz := H.free 4
  have HH := Lib.hid H; have HHS := Lib.hid HS; have HG := Lib.hid G; have HZ := Lib.hid (show p0 < S.length ∧ (slAt S p0).1 = 0 from ⟨by omega, hz⟩); have HN := Lib.hid hN; have HN2 := Lib.hid hN2; have Hne := Lib.hid hne
  have HK := Lib.hid (hash_ok w (x := id) (by omega))
  rw [← hhx] at HK
  have Hh0 := Lib.hid hh0; have Hh := Lib.hid hh; have Hhl := Lib.hid hhl
  clear H HS G hz hN hN2 hne hh0 hhm hh hhl hp0 hhx hid
  go_enter Tryz.func119, Tryz.ntmps119
  go_wp2_with fail
  apply wp_scope_straight
  go_wp2_with fail
  refine HK.out.mono ?_
  rintro e w1 ⟨rfl, rfl⟩
  go_wp2_with fail
  apply wp_label
  have HH1 := Lib.hid (HH.out.steps 0)
  have hf1 : Fr (fun b => b = bh) w (w.setCell ⟨bh, 4, none⟩ (.int .i64 0)) := Fr.setCell (F := fun b => b = bh) (p := ⟨bh, 4, none⟩) (Fr.refl _ _) (fun _ => rfl) _
  simp only [Int.natCast_zero] at HH1
  have HF1 := Lib.hid hf1
  clear c0 c4 fz hf1 hq hq2 hcv hcn
  generalize w.setCell ⟨bh, 4, none⟩ (.int .i64 0) = w2 at HH1 HF1 ⊢
  go_upto_block 0 with fail
  go_cut [7, 8] (fun _ s8 wx => ∃ (p st' : Nat), s8 = .int .i64 (p : Int) ∧ 1 ≤ st' ∧ st' ≤ N ∧ HeadAt wx bh g N most len gr st' ∧ Fr (fun b => b = bh) w wx ∧ Place S (home N id) p ∧ ∀ q, q < S.length → ¬ ((slAt S q).1 = 1 ∧ (slAt S q).2.1 = id))
  case first =>
    go_wp2_with fail
    go_loopw [7, 8] (fun s7 s8 wr => ∃ (t p : Nat) (f : Option Nat) (y : Int), s7 = .int .i64 (p : Int) ∧ s8 = .int .i64 y ∧ y = frV f ∧ p = (home N id + t) % N ∧ Stand w bh g N most len gr id S t f wr) (fun _ _ wr => N - stepsOf wr bh)
    case atStart => exact ⟨0, h0, none, -1, rfl, rfl, rfl, by rw [Hh0.out, Nat.add_zero, Nat.mod_eq_of_lt (by rw [← Hh0.out]; exact Hh.out)], ⟨Look.start _ _ _, Nat.zero_le _, HH1.out, HF1.out⟩⟩
    case round =>
      obtain ⟨t, p, f, y, rfl, rfl, hy, hp, hs⟩ := hrel
      have hpN : p < N := by rw [hp]; exact Nat.mod_lt _ (Nat.lt_of_le_of_lt (Nat.zero_le _) Hh.out)
      have htN : t < N := by
        refine Nat.lt_of_le_of_ne hs.le fun e => ?_
        have h : Look S (home N id) id S.length f := by rw [HN.out.trans e.symm]; exact hs.look
        exact h.full HZ.out.1 HZ.out.2
      obtain ⟨x, hx⟩ : ∃ x, x = slAt S p := ⟨_, rfl⟩
      have hle2 : x.1 ≤ 2 := by
        refine HG.out.le2 x ?_
        have := slAt_of (S := S) (p := p) (by rw [HN.out]; exact hpN)
        rw [← hx] at this
        exact List.mem_of_getElem? this
      obtain ⟨sa, si, sv⟩ := x
      simp only at hle2
      obtain ⟨c0, -, -, -, c4⟩ := hs.head.cells
      have fz := hs.head.free 4
      have htl : (t : Int) < (N : Int) := by omega
      have hpl : (p : Int) < (N : Int) := by omega
      have hp0 : (0 : Int) ≤ (p : Int) := by omega
      obtain ⟨t1, ht1⟩ : ∃ t1, t1 = t + 1 := ⟨_, rfl⟩
      have ht2 : (t : Int) + 1 = (t1 : Int) := by omega
      obtain ⟨ht3, ht4, -⟩ := wrap_small (x := t1) (by have := HN2.out; omega)
      obtain ⟨p1, hp1⟩ : ∃ p1, p1 = p + 1 := ⟨_, rfl⟩
      have hp2 : (p : Int) + 1 = (p1 : Int) := by omega
      obtain ⟨hp3, hp4, -⟩ := wrap_small (x := p1) (by have := HN2.out; omega)
      obtain ⟨pn, hpn⟩ : ∃ pn, pn = p1 % N := ⟨_, rfl⟩
      obtain ⟨hpn1, hpn2⟩ := mod_small (x := p1) (n := N)
      rw [← hpn] at hpn1 hpn2
      have hnext : pn = (home N id + t1) % N := by rw [hpn, hp1, hp, ht1]; exact next_turn _ _ _
      have hpnl : pn < N := by rw [hpn]; exact Nat.mod_lt _ (Nat.lt_of_le_of_lt (Nat.zero_le _) hpN)
      obtain ⟨hp5, hp6, -⟩ := wrap_small (x := pn) (Nat.le_trans (Nat.le_of_lt hpnl) (Nat.le_trans HN2.out (by decide)))
      have Hp := Lib.hid hp; have Hs := Lib.hid hs; have HpN := Lib.hid hpN; have HtN := Lib.hid htN; have HX := Lib.hid hx; have Hnext := Lib.hid hnext; have Ht1 := Lib.hid ht1
      clear hp hs hpN htN hx hnext ht1 hp1 hpn hpnl
      go_upto_region 7 with fail
      have hf3 : Fr (fun b => b = bh) w (wr.setCell ⟨bh, 4, none⟩ (.int .i64 t1)) := Fr.setCell (F := fun b => b = bh) (p := ⟨bh, 4, none⟩) Hs.out.fr (fun _ => rfl) _
      have hh3 := Hs.out.head.steps t1
      clear c0 c4 fz htl ht2 ht3 ht4
      generalize wr.setCell ⟨bh, 4, none⟩ (.int .i64 t1) = w3 at hf3 hh3 ⊢
      obtain ⟨k0, k1, k2⟩ := (HHS.out.fr hf3 (fun e => Hne.out e.symm)).cells (p := p) (by rw [HN.out]; exact HpN.out)
      rw [← HX.out] at k0 k1 k2
      simp only at k0 k1 k2
      have c0 := hh3.cells.1
      have HF3 := Lib.hid hf3; have HH3 := Lib.hid hh3
      clear hf3 hh3
      go_upto_region 8 with fail
      have hw4 : (w3.alloc (.cells #[.int .u8 (sa : Int), .int .u32 (si : Int), .int .i64 sv] 200)).heap[w3.heap.size]? = some (.cells #[.int .u8 (sa : Int), .int .u32 (si : Int), .int .i64 sv] 200 (0, 0)) := by rw [heap_alloc_get]; simp
      have hf4 : Fr (fun b => b = bh) w (w3.alloc (.cells #[.int .u8 (sa : Int), .int .u32 (si : Int), .int .i64 sv] 200)) := Fr.alloc HF3.out _
      have hh4 : HeadAt (w3.alloc (.cells #[.int .u8 (sa : Int), .int .u32 (si : Int), .int .i64 sv] 200)) bh g N most len gr t1 := HH3.out.fr (Fr.alloc (Fr.refl (fun _ => False) _) _) (fun h => h)
      clear k0 k1 k2 c0
      generalize w3.alloc (.cells #[.int .u8 (sa : Int), .int .u32 (si : Int), .int .i64 sv] 200) = w4 at hw4 hf4 hh4 ⊢
      generalize w3.heap.size = lb at hw4 ⊢
      have HF4 := Lib.hid hf4; have HH4 := Lib.hid hh4
      have ht1 : t1 ≤ N ∧ 1 ≤ t1 := by have := Ht1.out; have := HtN.out; omega
      have HT1 := Lib.hid ht1
      have hx2 : slAt S ((home N id + t) % S.length) = (sa, si, sv) := by rw [HN.out, ← Hp.out]; exact HX.out.symm
      have HX2 := Lib.hid hx2
      clear hf4 hh4 ht1 hx2
      rcases (by omega : sa = 0 ∨ sa = 2 ∨ sa = 1) with rfl | rfl | rfl
      · have b0 : w4.cell? ⟨lb, 0, none⟩ = some (.int .u8 0) := (cell_of hw4 0).trans rfl
        have HE := Lib.hid (Hs.out.look.ends HG.out (by rw [HN.out]; exact HtN.out) (by rw [HX2.out]))
        clear hw4
        cases f with
        | none =>
          obtain rfl : y = -1 := hy
          go_wp2_with fail
          go_meet
          refine ⟨p, t1, rfl, HT1.out.2, HT1.out.1, HH4.out, HF4.out, ?_, HE.out.2⟩
          have := HE.out.1
          rw [Option.getD_none, HN.out, ← Hp.out] at this
          exact this
        | some q =>
          obtain rfl : y = (q : Int) := hy
          have hq0 : decide ((q : Int) < 0) = false := by simp
          go_wp2_with fail
          go_meet
          exact ⟨q, t1, rfl, HT1.out.2, HT1.out.1, HH4.out, HF4.out, HE.out.1, HE.out.2⟩
      · have b0 : w4.cell? ⟨lb, 0, none⟩ = some (.int .u8 2) := (cell_of hw4 0).trans rfl
        clear hw4
        cases f with
        | none =>
          obtain rfl : y = -1 := hy
          have HL := Lib.hid (Hs.out.look.grave (by rw [HX2.out]))
          go_wp2_with fail
          go_roundw
          case rel => exact ⟨t1, pn, some p, _, rfl, rfl, rfl, Hnext.out, ⟨by have := HL.out; rw [HN.out, ← Hp.out, ← Ht1.out] at this; exact this, HT1.out.1, HH4.out, HF4.out⟩⟩
          case measure => have h1 := stepsOf_head Hs.out.head; have h2 := stepsOf_head HH4.out; have := HtN.out; have := Ht1.out; rw [h1, h2]; omega
        | some q =>
          obtain rfl : y = (q : Int) := hy
          have hq0 : decide ((q : Int) < 0) = false := by simp
          have HL := Lib.hid (Hs.out.look.more (by rw [HX2.out]; simp) (by rw [HX2.out]; simp))
          go_wp2_with fail
          go_roundw
          case rel => exact ⟨t1, pn, some q, _, rfl, rfl, rfl, Hnext.out, ⟨by rw [Ht1.out]; exact HL.out, HT1.out.1, HH4.out, HF4.out⟩⟩
          case measure => have h1 := stepsOf_head Hs.out.head; have h2 := stepsOf_head HH4.out; have := HtN.out; have := Ht1.out; rw [h1, h2]; omega
      · have b0 : w4.cell? ⟨lb, 0, none⟩ = some (.int .u8 1) := (cell_of hw4 0).trans rfl
        have b1 : w4.cell? ⟨lb, 1, none⟩ = some (.int .u32 (si : Int)) := (cell_of hw4 1).trans rfl
        clear hw4
        by_cases hi : si = id
        · subst hi
          have hb : ((si : Int) == (si : Int)) = true := by simp
          go_wp2_with fail
          rw [Exit.noGoto_ret]
          refine bodyPost_ret (v := .tuple #[.int .i64 (p : Int), .bool true]) ?_ rfl ?_
          · simp [results, Tryz.f119, go_sem]
          · exact ⟨t1, HT1.out.2, HT1.out.1, HH4.out, HF4.out, .inl ⟨p, rfl, HpN.out, by rw [← HX.out], by rw [← HX.out]⟩⟩
        · have hb : ((si : Int) == (id : Int)) = false := by simp; omega
          have HL := Lib.hid (Hs.out.look.more (by rw [HX2.out]; simp) (by rw [HX2.out]; exact fun h => hi h.2))
          clear hi
          go_wp2_with fail
          go_roundw
          case rel => exact ⟨t1, pn, f, y, rfl, rfl, hy, Hnext.out, ⟨by rw [Ht1.out]; exact HL.out, HT1.out.1, HH4.out, HF4.out⟩⟩
          case measure => have h1 := stepsOf_head Hs.out.head; have h2 := stepsOf_head HH4.out; have := HtN.out; have := Ht1.out; rw [h1, h2]; omega
  case rest =>
  obtain ⟨p, st', rfl, h1, h2, hh, hf, hpl, hab⟩ := hcut
  have HR := Lib.hid (show 1 ≤ st' ∧ st' ≤ N ∧ HeadAt _ bh g N most len gr st' ∧ Fr (fun b => b = bh) w _ ∧ Place S (home N id) p ∧ ∀ q, q < S.length → ¬ ((slAt S q).1 = 1 ∧ (slAt S q).2.1 = id) from ⟨h1, h2, hh, hf, hpl, hab⟩)
  clear h1 h2 hh hf hpl hab
  go_wp2_with fail
  rw [Exit.noGoto_ret]
  refine bodyPost_ret (v := .tuple #[.int .i64 (p : Int), .bool false]) ?_ rfl ?_
  · simp [results, Tryz.f119, go_sem]
  · obtain ⟨h1, h2, hh, hf, hpl, hab⟩ := HR.out
    exact ⟨st', h1, h2, hh, hf, .inr ⟨p, rfl, hpl, hab⟩⟩
end Go.Proofs.YtebdcahjlcgonaaGreat.Ix
namespace Go.Proofs.YtebdcahjlcgonaaGreat.Ix
open Go.RowKit
/-- An index's parts, whatever it is laden with. -/
structure Raw (w : World) (bh g N most : Nat) (S : List Sl) (L : List (Nat × Int)) (st : Nat) : Prop where
  head : HeadAt w bh g N most L.length (graves S) st
  slots : SlotsAt w g S
  len : S.length = N
  good : Good (home N) S
  maps : Maps S L
  ids : ∀ x ∈ L, x.1 < 4294967296
  ne : bh ≠ g
  lo : 2 * most ≤ N
  one : 1 ≤ most
  hi : N ≤ 8192
/-- An index that holds L, for at most so many; st: the last search's steps. -/
def IxAt (w : World) (bh g N most : Nat) (L : List (Nat × Int)) (st : Nat) : Prop := ∃ S, Raw w bh g N most S L st ∧ 4 * (L.length + graves S) ≤ 3 * N ∧ L.length ≤ most ∧ st ≤ N
theorem Raw.fr {w w' : World} {bh g N most : Nat} {S : List Sl} {L : List (Nat × Int)} {st : Nat} (h : Raw w bh g N most S L st) {F : Nat → Prop} (f : Fr F w w') (h1 : ¬ F bh) (h2 : ¬ F g) : Raw w' bh g N most S L st :=
  ⟨h.head.fr f h1, h.slots.fr f h2, h.len, h.good, h.maps, h.ids, h.ne, h.lo, h.one, h.hi⟩
theorem IxAt.fr {w w' : World} {bh g N most : Nat} {L : List (Nat × Int)} {st : Nat} (h : IxAt w bh g N most L st) {F : Nat → Prop} (f : Fr F w w') (h1 : ¬ F bh) (h2 : ¬ F g) : IxAt w' bh g N most L st := by
  obtain ⟨S, hr, h3⟩ := h; exact ⟨S, hr.fr f h1 h2, h3⟩
theorem Raw.gap {w : World} {bh g N most : Nat} {S : List Sl} {L : List (Nat × Int)} {st : Nat} (h : Raw w bh g N most S L st) (hl : L.length + graves S < N) : ∃ p, p < N ∧ (slAt S p).1 = 0 := by
  have := _root_.Go.Proofs.YtebdcahjlcgonaaGreat.Ix.gap h.good.le2 (by rw [← h.maps.length, h.len]; exact hl)
  rwa [h.len] at this
theorem IxAt.lt {w : World} {bh g N most : Nat} {L : List (Nat × Int)} {st : Nat} (h : IxAt w bh g N most L st) : bh < w.heap.size ∧ g < w.heap.size := by
  obtain ⟨S, hr, _⟩ := h; exact ⟨hr.head.lt, hr.slots.lt⟩
theorem IxAt.ne {w : World} {bh g N most : Nat} {L : List (Nat × Int)} {st : Nat} (h : IxAt w bh g N most L st) : bh ≠ g := by
  obtain ⟨S, hr, _⟩ := h; exact hr.ne
theorem IxAt.up {w : World} {bh g N most : Nat} {L : List (Nat × Int)} {st : Nat} (h : IxAt w bh g N most L st) : L.Pairwise fun a b => a.1 < b.1 := by
  obtain ⟨S, hr, _⟩ := h; exact hr.maps.up
theorem IxAt.load {w : World} {bh g N most : Nat} {L : List (Nat × Int)} {st : Nat} (h : IxAt w bh g N most L st) : L.length ≤ most := by
  obtain ⟨S, hr, _, h2, _⟩ := h; exact h2
/-- Find, over an index's parts. -/
theorem find_raw {w : World} {bh g N most st id : Nat} {S : List Sl} {L : List (Nat × Int)} (H : Raw w bh g N most S L st) (hl : L.length + graves S < N) (hid : id < 4294967296) :
    Calls Tryz.prog 119 #[.pointer (some ⟨bh, 0, none⟩), .int .u32 (id : Int)] w fun e w' => ∃ st', 1 ≤ st' ∧ st' ≤ N ∧ Raw w' bh g N most S L st' ∧ Fr (fun b => b = bh) w w' ∧ Found S N id e := by
  refine (find_ok H.head H.slots H.len H.good (H.gap hl) H.ne hid H.hi).mono ?_
  rintro e w' ⟨st', h1, h2, h3, h4, h5⟩
  exact ⟨st', h1, h2, ⟨h3, H.slots.fr h4 (fun e => H.ne e.symm), H.len, H.good, H.maps, H.ids, H.ne, H.lo, H.one, H.hi⟩, h4, h5⟩
theorem upd_none {L : List (Nat × Int)} {id : Nat} (v : Int) (h : look L id = none) : upd L id v = L := by
  unfold upd
  conv => rhs; rw [← List.map_id L]
  apply List.map_congr_left
  intro x hx
  rw [if_neg (look_none.1 h x hx)]; rfl
theorem del_none {L : List (Nat × Int)} {id : Nat} (h : look L id = none) : del L id = L := by
  unfold del
  rw [List.filter_eq_self]
  intro x hx
  simpa using look_none.1 h x hx
section simple
variable {w : World} {bh g N most : Nat} {L : List (Nat × Int)} {st : Nat}
set_option maxRecDepth 100000 in
theorem len_ok (h : IxAt w bh g N most L st) : Calls Tryz.prog 86 #[.pointer (some ⟨bh, 0, none⟩)] w fun e w' => e = .returned (.int .i64 (L.length : Int)) ∧ w = w' := by
  obtain ⟨S, hr, _⟩ := h
  have c := hr.head.cells.2.2.1
  have H := Lib.hid hr.head
  clear hr
  go_enter Tryz.func86, Tryz.ntmps86
  go_wp2_with fail
  refine (made_ok H.out).mono ?_
  rintro e w1 ⟨rfl, rfl⟩
  go_wp2_with fail
  go_ret
  exact ⟨rfl, rfl⟩
theorem load_lt (hr : 2 * most ≤ N) (h1 : 1 ≤ most) {l gr : Nat} (h : 4 * (l + gr) ≤ 3 * N) : l + gr < N := by omega
set_option maxRecDepth 100000 in
theorem get_ok (h : IxAt w bh g N most L st) {id : Nat} (hid : id < 4294967296) : Calls Tryz.prog 97 #[.pointer (some ⟨bh, 0, none⟩), .int .u32 (id : Int)] w fun e w' => ∃ st', 1 ≤ st' ∧ e = .returned (.tuple #[.int .i64 ((look L id).getD 0), .bool (look L id).isSome]) ∧ IxAt w' bh g N most L st' ∧ Fr (fun b => b = bh) w w' := by
  obtain ⟨S, hr, hl1, hl2, hl3⟩ := h
  have HF := Lib.hid (find_raw hr (load_lt hr.lo hr.one hl1) hid)
  have H := Lib.hid hr.head; have HL := Lib.hid hl1; have HL2 := Lib.hid hl2
  clear hr hl1 hl2 hl3 hid
  go_enter Tryz.func97, Tryz.ntmps97
  go_wp2_with fail
  refine (made_ok H.out).mono ?_
  rintro e w1 ⟨rfl, rfl⟩
  go_wp2_with fail
  refine HF.out.mono ?_
  rintro e w1 ⟨st', h1, h2, hr, hf, hd⟩
  rcases hd with ⟨p, rfl, hp, hs⟩ | ⟨p, rfl, -, ha⟩
  · have hlk := hr.maps.found (by rw [hr.len]; exact hp) hs
    have c0 := hr.head.cells.1
    have c2 := (hr.slots.cells (p := p) (by rw [hr.len]; exact hp)).2.2
    have hpl : (p : Int) < (N : Int) := by omega
    have HR := Lib.hid hr; have Hf := Lib.hid hf; have HK := Lib.hid hlk; have HS := Lib.hid (And.intro h1 h2)
    clear hr hf hlk h1 h2 hs hp
    go_wp2_with fail
    refine bodyPost_ret (v := .tuple #[.int .i64 (slAt S p).2.2, .bool true]) ?_ rfl ?_
    · simp [results, Tryz.f97, go_sem]
    · exact ⟨st', HS.out.1, by rw [HK.out]; rfl, ⟨S, HR.out, HL.out, HL2.out, HS.out.2⟩, Hf.out⟩
  · have hlk := hr.maps.absent ha
    have HR := Lib.hid hr; have Hf := Lib.hid hf; have HK := Lib.hid hlk; have HS := Lib.hid (And.intro h1 h2)
    clear hr hf hlk h1 h2 ha
    go_wp2_with fail
    refine bodyPost_ret (v := .tuple #[.int .i64 0, .bool false]) ?_ rfl ?_
    · simp [results, Tryz.f97, go_sem]
    · exact ⟨st', HS.out.1, by rw [HK.out]; rfl, ⟨S, HR.out, HL.out, HL2.out, HS.out.2⟩, Hf.out⟩
theorem look_mem (hu : L.Pairwise fun a b => a.1 < b.1) {id : Nat} {v : Int} (h : look L id = some v) : ∃ x ∈ L, x.1 = id := ⟨(id, v), (look_of hu).1 h, rfl⟩
theorem Raw.upd {S : List Sl} {w' : World} (hr : Raw w bh g N most S L st) {p id : Nat} (v : Int) (hp : p < N) (hs : (slAt S p).1 = 1 ∧ (slAt S p).2.1 = id) (hh : HeadAt w' bh g N most L.length (graves S) st) (hsl : SlotsAt w' g (S.set p (1, id, v))) : Raw w' bh g N most (S.set p (1, id, v)) (upd L id v) st ∧ graves (S.set p (1, id, v)) = graves S := by
  have hp' : p < S.length := by rw [hr.len]; exact hp
  have hg : graves (S.set p (1, id, v)) = graves S := by
    have := graves_set hp' (1, id, v)
    rw [if_neg (by rw [hs.1]; simp), if_neg (by simp)] at this; omega
  refine ⟨⟨?_, hsl, by rw [List.length_set]; exact hr.len, hr.good.setv hp' hs, hr.maps.setv hr.good hp' hs, ?_, hr.ne, hr.lo, hr.one, hr.hi⟩, hg⟩
  · rw [upd_length, hg]; exact hh
  · intro x hx
    obtain ⟨y, hy, rfl⟩ := List.mem_map.1 hx
    obtain ⟨z, hz, hzi⟩ := look_mem hr.maps.up (hr.maps.found hp' hs)
    split
    · exact hzi ▸ hr.ids z hz
    · exact hr.ids y hy
set_option maxRecDepth 100000 in
theorem set_ok (h : IxAt w bh g N most L st) {id : Nat} (hid : id < 4294967296) (v : Int) : Calls Tryz.prog 116 #[.pointer (some ⟨bh, 0, none⟩), .int .u32 (id : Int), .int .i64 v] w fun e w' => ∃ st', 1 ≤ st' ∧ e = .returned (.bool (look L id).isSome) ∧ IxAt w' bh g N most (upd L id v) st' ∧ Fr (fun b => b = bh ∨ b = g) w w' := by
  obtain ⟨S, hr, hl1, hl2, hl3⟩ := h
  have HF := Lib.hid (find_raw hr (load_lt hr.lo hr.one hl1) hid)
  have H := Lib.hid hr.head; have HL := Lib.hid hl1; have HL2 := Lib.hid hl2
  clear hr hl1 hl2 hl3 hid
  go_enter Tryz.func116, Tryz.ntmps116
  go_wp2_with fail
  refine (made_ok H.out).mono ?_
  rintro e w1 ⟨rfl, rfl⟩
  go_wp2_with fail
  refine HF.out.mono ?_
  rintro e w1 ⟨st', h1, h2, hr, hf, hd⟩
  rcases hd with ⟨p, rfl, hp, hs⟩ | ⟨p, rfl, -, ha⟩
  · have hlk := hr.maps.found (by rw [hr.len]; exact hp) hs
    have c0 := hr.head.cells.1
    have c2 := (hr.slots.cells (p := p) (by rw [hr.len]; exact hp)).2.2
    have fz := hr.slots.free (p * 3 + 2)
    have hpl : (p : Int) < (N : Int) := by omega
    have hsl := hr.slots.setv (p := p) (by rw [hr.len]; exact hp) v
    rw [hs.1, hs.2] at hsl
    have hfs : Fr (fun b => b = bh ∨ b = g) w (w1.setCell ⟨g, p * 3 + 2, none⟩ (.int .i64 v)) := Fr.setCell (F := fun b => b = bh ∨ b = g) (p := ⟨g, p * 3 + 2, none⟩) (hf.mono (fun _ _ h => .inl h)) (fun _ => .inr rfl) _
    have hh := hr.head.fr (Fr.setCell (F := fun b => b = g) (p := ⟨g, p * 3 + 2, none⟩) (Fr.refl _ w1) (fun _ => rfl) (.int .i64 v)) hr.ne
    have HR := Lib.hid (hr.upd v hp hs hh hsl); have Hf := Lib.hid hfs; have HK := Lib.hid hlk; have HS := Lib.hid (And.intro h1 h2)
    clear hr hf hlk h1 h2 hs hp hsl hfs hh
    go_wp2_with fail
    go_ret
    obtain ⟨hr, hg⟩ := HR.out
    exact ⟨st', HS.out.1, by rw [HK.out]; rfl, ⟨_, hr, by rw [hg, upd_length]; exact HL.out, by rw [upd_length]; exact HL2.out, HS.out.2⟩, Hf.out⟩
  · have hlk := hr.maps.absent ha
    have HR := Lib.hid hr; have Hf := Lib.hid hf; have HK := Lib.hid hlk; have HS := Lib.hid (And.intro h1 h2)
    clear hr hf hlk h1 h2 ha
    go_wp2_with fail
    go_ret
    exact ⟨st', HS.out.1, by rw [HK.out]; rfl, by rw [upd_none v HK.out]; exact ⟨S, HR.out, HL.out, HL2.out, HS.out.2⟩, Hf.out.mono (fun _ _ h => .inl h)⟩
theorem Raw.del {S : List Sl} {w' : World} (hr : Raw w bh g N most S L st) {p id : Nat} (hp : p < N) (hs : (slAt S p).1 = 1 ∧ (slAt S p).2.1 = id) (hh : HeadAt w' bh g N most (L.length - 1) (graves S + 1) st) (hsl : SlotsAt w' g (S.set p (2, 0, 0))) : Raw w' bh g N most (S.set p (2, 0, 0)) (del L id) st ∧ graves (S.set p (2, 0, 0)) = graves S + 1 ∧ (del L id).length + 1 = L.length := by
  have hp' : p < S.length := by rw [hr.len]; exact hp
  have hg : graves (S.set p (2, 0, 0)) = graves S + 1 := by
    have := graves_set hp' (2, 0, 0)
    rw [if_neg (by rw [hs.1]; simp), if_pos (by simp)] at this; omega
  have hd := del_length hr.maps.up (hr.maps.found hp' hs)
  refine ⟨⟨?_, hsl, by rw [List.length_set]; exact hr.len, hr.good.drop hp', hr.maps.drop hr.good hp' hs, ?_, hr.ne, hr.lo, hr.one, hr.hi⟩, hg, hd⟩
  · rw [hg, show (Ix.del L id).length = L.length - 1 by omega]; exact hh
  · intro x hx
    exact hr.ids x (List.mem_filter.1 hx).1
set_option maxRecDepth 100000 in
theorem drop_ok (h : IxAt w bh g N most L st) {id : Nat} (hid : id < 4294967296) : Calls Tryz.prog 114 #[.pointer (some ⟨bh, 0, none⟩), .int .u32 (id : Int)] w fun e w' => ∃ st', 1 ≤ st' ∧ e = .returned (.bool (look L id).isSome) ∧ IxAt w' bh g N most (del L id) st' ∧ Fr (fun b => b = bh ∨ b = g) w w' := by
  obtain ⟨S, hr, hl1, hl2, hl3⟩ := h
  have HF := Lib.hid (find_raw hr (load_lt hr.lo hr.one hl1) hid)
  have H := Lib.hid hr.head; have HL := Lib.hid hl1; have HL2 := Lib.hid hl2
  have hN8 := hr.hi
  have hm : L.length ≤ most := hl2
  have hlo := hr.lo
  obtain ⟨q, hq⟩ : ∃ q, q = L.length := ⟨_, rfl⟩
  obtain ⟨gr, hgr⟩ : ∃ gr, gr = graves S := ⟨_, rfl⟩
  have hq6 : q ≤ 8192 := by omega
  have hgr6 : gr ≤ 8192 := by rw [hgr]; exact Nat.le_trans (graves_le S) (by rw [hr.len]; exact hr.hi)
  have HQ := Lib.hid hq; have HGR := Lib.hid hgr
  clear hr hl1 hl2 hl3 hid hm hq hgr hlo hN8
  go_enter Tryz.func114, Tryz.ntmps114
  go_wp2_with fail
  refine (made_ok H.out).mono ?_
  rintro e w1 ⟨rfl, rfl⟩
  go_wp2_with fail
  refine HF.out.mono ?_
  rintro e w1 ⟨st', h1, h2, hr, hf, hd⟩
  rcases hd with ⟨p, rfl, hp, hs⟩ | ⟨p, rfl, -, ha⟩
  · have hp' : p < S.length := by rw [hr.len]; exact hp
    have hlk := hr.maps.found hp' hs
    have hq1 : 1 ≤ q := by have := del_length hr.maps.up hlk; rw [HQ.out]; omega
    have hhd := hr.head
    rw [← HQ.out, ← HGR.out] at hhd
    have c0 := hhd.cells.1
    obtain ⟨k0, k1, k2⟩ := hr.slots.cells hp'
    have z0 := hr.slots.free (p * 3); have z1 := hr.slots.free (p * 3 + 1); have z2 := hr.slots.free (p * 3 + 2)
    have hpl : (p : Int) < (N : Int) := by omega
    have hsl : SlotsAt (((w1.setCell ⟨g, p * 3, none⟩ (.int .u8 2)).setCell ⟨g, p * 3 + 1, none⟩ (.int .u32 0)).setCell ⟨g, p * 3 + 2, none⟩ (.int .i64 0)) g (S.set p (2, 0, 0)) := hr.slots.set hp' (2, 0, 0)
    have fs : Fr (fun b => b = g) w1 (((w1.setCell ⟨g, p * 3, none⟩ (.int .u8 2)).setCell ⟨g, p * 3 + 1, none⟩ (.int .u32 0)).setCell ⟨g, p * 3 + 2, none⟩ (.int .i64 0)) := Fr.setCell (F := fun b => b = g) (p := ⟨g, p * 3 + 2, none⟩) (Fr.setCell (F := fun b => b = g) (p := ⟨g, p * 3 + 1, none⟩) (Fr.setCell (F := fun b => b = g) (p := ⟨g, p * 3, none⟩) (Fr.refl _ w1) (fun _ => rfl) _) (fun _ => rfl) _) (fun _ => rfl) _
    have HR := Lib.hid hr; have Hf := Lib.hid hf; have HK := Lib.hid hlk; have HS := Lib.hid (And.intro h1 h2); have Hhd := Lib.hid hhd; have Hsl := Lib.hid hsl; have Fs := Lib.hid fs; have Hp := Lib.hid hp; have Hs := Lib.hid hs
    clear hr hf hlk h1 h2 hp hp' hhd hsl fs hs
    go_upto_region 6 with fail
    have hh2 := Hhd.out.fr Fs.out HR.out.ne
    have hsl2 := Hsl.out
    have hf2 := Hf.out.mono (G := fun b => b = bh ∨ b = g) (fun _ _ h => .inl h) |>.trans Fs.out (fun _ _ h => .inr h)
    clear k0 k1 k2 z0 z1 z2 c0 hpl
    generalize ((w1.setCell ⟨g, p * 3, none⟩ (.int .u8 2)).setCell ⟨g, p * 3 + 1, none⟩ (.int .u32 0)).setCell ⟨g, p * 3 + 2, none⟩ (.int .i64 0) = w3 at hh2 hsl2 hf2 ⊢
    obtain ⟨q1, hq2⟩ : ∃ q1, q = q1 + 1 := ⟨q - 1, by omega⟩
    have e1 : (q : Int) - 1 = (q1 : Int) := by omega
    obtain ⟨e2, e3, -⟩ := wrap_small (x := q1) (by omega)
    have e4 : (gr : Int) + 1 = ((gr + 1 : Nat) : Int) := by omega
    obtain ⟨e5, e6, -⟩ := wrap_small (x := gr + 1) (by omega)
    obtain ⟨gr1, hgr1⟩ : ∃ gr1, gr1 = gr + 1 := ⟨_, rfl⟩
    rw [← hgr1] at e4 e5 e6
    obtain ⟨-, -, c2, c3, -⟩ := hh2.cells
    have z2 := hh2.free 2; have z3 := hh2.free 3
    have hh3 := (hh2.len q1).graves gr1
    have hsl3 : SlotsAt ((w3.setCell ⟨bh, 2, none⟩ (.int .i64 (q1 : Int))).setCell ⟨bh, 3, none⟩ (.int .i64 (gr1 : Int))) g (S.set p (2, 0, 0)) := hsl2.fr (Fr.setCell (F := fun b => b = bh) (p := ⟨bh, 3, none⟩) (Fr.setCell (F := fun b => b = bh) (p := ⟨bh, 2, none⟩) (Fr.refl _ w3) (fun _ => rfl) _) (fun _ => rfl) _) (fun e => HR.out.ne e.symm)
    have hf3 : Fr (fun b => b = bh ∨ b = g) w ((w3.setCell ⟨bh, 2, none⟩ (.int .i64 (q1 : Int))).setCell ⟨bh, 3, none⟩ (.int .i64 (gr1 : Int))) := Fr.setCell (F := fun b => b = bh ∨ b = g) (p := ⟨bh, 3, none⟩) (Fr.setCell (F := fun b => b = bh ∨ b = g) (p := ⟨bh, 2, none⟩) hf2 (fun _ => .inl rfl) _) (fun _ => .inl rfl) _
    have hq1e : q1 = L.length - 1 := by rw [← HQ.out]; omega
    rw [hq1e, hgr1, HGR.out, ← hq1e] at hh3
    have HRD := Lib.hid (HR.out.del Hp.out Hs.out (by rw [← hq1e]; exact hh3) (by have h := hsl3; rw [hgr1, HGR.out] at h; exact h))
    have Hf3 := Lib.hid hf3; have Hg1 := Lib.hid hgr1
    clear hh2 hsl2 hf2 hh3 hsl3 hf3 hq1e hq2 hgr1 hq6 hgr6 hq1
    go_wp2_with fail
    go_ret
    obtain ⟨hr, hg, hd⟩ := HRD.out
    refine ⟨st', HS.out.1, by rw [HK.out]; rfl, ⟨_, ?_, by rw [hg]; have := HL.out; omega, by have := HL2.out; omega, HS.out.2⟩, Hf3.out⟩
    have e := Hg1.out
    rw [HGR.out] at e
    rw [e]; exact hr
  · have hlk := hr.maps.absent ha
    have HR := Lib.hid hr; have Hf := Lib.hid hf; have HK := Lib.hid hlk; have HS := Lib.hid (And.intro h1 h2)
    clear hr hf hlk h1 h2 ha hq6 hgr6
    go_wp2_with fail
    go_ret
    exact ⟨st', HS.out.1, by rw [HK.out]; rfl, by rw [del_none HK.out]; exact ⟨S, HR.out, HL.out, HL2.out, HS.out.2⟩, Hf.out.mono (fun _ _ h => .inl h)⟩
end simple
end Go.Proofs.YtebdcahjlcgonaaGreat.Ix
namespace Go.Proofs.YtebdcahjlcgonaaGreat.Du
open Go.RowKit
/-- fv is a function value that answers lt of items in A; it keeps J, and writes no blocks but those in FJ. -/
structure LessOk (P : Program) (fv : Value) (lt : Int → Int → Bool) (J : World → Prop) (FJ : Nat → Prop) (A : Int → Prop) (fl : Nat) (caps : Array Value) : Prop where
  eq : fv = .func (.func fl) #[] caps
  enter : ∀ args w, (callFunc fl args).run P w = .ok (.enter fl args) w
  call : ∀ w x y, J w → A x → A y → Calls P fl (#[.agg #[.int .i64 (dU x), .int .u32 (dI x)], .agg #[.int .i64 (dU y), .int .u32 (dI y)]] ++ caps) w fun e w' => e = .returned (.bool (lt x y)) ∧ J w' ∧ Fr FJ w w'
  keep : ∀ w w', J w → Fr (fun b => ¬ FJ b) w w' → J w'
  bound : ∀ w b, J w → FJ b → b < w.heap.size
set_option maxRecDepth 100000 in
set_option maxHeartbeats 1000000 in
theorem ahead_spec {fv : Value} {lt : Int → Int → Bool} {J : World → Prop} {FJ : Nat → Prop} {A : Int → Prop} {fl : Nat} {caps : Array Value} (hL : LessOk Tryz.prog fv lt J FJ A fl caps)
    {w : World} (hJ : J w) {bh bi n cap : Nat} {mv nv : Value} {arr : Array Value}
    (hH : w.heap[bh]? = some (.cells #[fv, .slice (some ⟨bi, 0, none⟩) n cap, mv, nv] 165 (0, 0)))
    (hI : w.heap[bi]? = some (.cells arr 203 (0, 0))) (hbh : ¬ FJ bh) (_hbi : ¬ FJ bi)
    {i k : Nat} (hi : (i : Int) < n) (hk : (k : Int) < n) (_hn : n ≤ 9223372036854775807) {xv xh yv yh : Int}
    (h1 : arr[i * 3]? = some (.int .i64 (dU xv))) (h1' : arr[i * 3 + 1]? = some (.int .u32 (dI xv))) (h2 : arr[i * 3 + 2]? = some (.int .i64 xh)) (h3 : arr[k * 3]? = some (.int .i64 (dU yv))) (h3' : arr[k * 3 + 1]? = some (.int .u32 (dI yv))) (h4 : arr[k * 3 + 2]? = some (.int .i64 yh))
    (hx : A xv) (hy : A yv) :
    Calls Tryz.prog 147 #[.pointer (some ⟨bh, 0, none⟩), .int .i64 i, .int .i64 k] w fun e w' => e = .returned (.bool (aheadB lt xv xh yv yh)) ∧ J w' ∧ Fr FJ w w' := by
  have hfv := hL.eq
  subst hfv
  have c0 := (cell_of hH 0); have c1 := (cell_of hH 1)
  simp at c0 c1
  have d1 := (cell_of hI (i * 3)).trans h1
  have d1' := (cell_of hI (i * 3 + 1)).trans h1'
  have d2 := (cell_of hI (i * 3 + 2)).trans h2
  have d3 := (cell_of hI (k * 3)).trans h3
  have d3' := (cell_of hI (k * 3 + 1)).trans h3'
  have d4 := (cell_of hI (k * 3 + 2)).trans h4
  have lh := lt_of_block hH
  have li := lt_of_block hI
  have hent := hL.enter
  have hB := Lib.hid (hL.bound w)
  have HL := Lib.hid hL
  have HH := Lib.hid hH; have HI := Lib.hid hI
  clear hH hI h1 h1' h2 h3 h3' h4 hL
  go_enter Tryz.func147, Tryz.ntmps147
  go_upto_region 1 with fail
  go_cut [7, 8] (fun a b wx => ∃ ba bb : Nat, a = .pointer (some ⟨ba, 0, none⟩) ∧ b = .pointer (some ⟨bb, 0, none⟩) ∧ w.heap.size ≤ ba ∧ w.heap.size ≤ bb ∧ wx.heap[ba]? = some (.cells #[.int .i64 (dU xv), .int .u32 (dI xv), .int .i64 xh] 203 (0, 0)) ∧ wx.heap[bb]? = some (.cells #[.int .i64 (dU yv), .int .u32 (dI yv), .int .i64 yh] 203 (0, 0)) ∧ Fr (fun _ => False) w wx)
  case first =>
    go_region_held3 (fun w' => w'.cell? ⟨bh,0,none⟩ = some (.func (.func fl) #[] caps) ∧ w'.cell? ⟨bh,1,none⟩ = some (.slice (some ⟨bi,0,none⟩) n cap) ∧ w'.cell? ⟨bi, i*3, none⟩ = some (.int .i64 (dU xv)) ∧ w'.cell? ⟨bi, i*3+1, none⟩ = some (.int .u32 (dI xv)) ∧ w'.cell? ⟨bi, i*3+2, none⟩ = some (.int .i64 xh) ∧ w'.cell? ⟨bi, k*3, none⟩ = some (.int .i64 (dU yv)) ∧ w'.cell? ⟨bi, k*3+1, none⟩ = some (.int .u32 (dI yv)) ∧ w'.cell? ⟨bi, k*3+2, none⟩ = some (.int .i64 yh)) (go_keep) (fail)
    all_goals (go_wp2_with fail; go_meet)
    · exact ⟨_, _, rfl, rfl, by simp, by simp, by simp only [heap_alloc_get, heap_drew, World.size_alloc]; simp, by simp only [heap_alloc_get, heap_drew, World.size_alloc]; simp, (((Fr.refl _ _).alloc _).alloc _).drew⟩
    · exact ⟨_, _, rfl, rfl, by simp, by simp, by simp only [heap_alloc_get, heap_drew, World.size_alloc]; simp, by simp only [heap_alloc_get, heap_drew, World.size_alloc]; simp, (((Fr.refl _ _).alloc _).alloc _).drew⟩
  case rest =>
    obtain ⟨ba, bb, rfl, rfl, ga, gb, ha, hb, hf⟩ := hcut
    have e0 := (hf.cell (o := 0) (s := none) lh (fun h => h)).trans c0
    have a0 := cell_of ha 0; have a1 := cell_of ha 1; have a2 := cell_of ha 2
    have b0 := cell_of hb 0; have b1 := cell_of hb 1; have b2 := cell_of hb 2
    simp at a0 a1 a2 b0 b1 b2
    have lca := lt_of_block ha; have lcb := lt_of_block hb
    have hJc := Lib.hid (HL.out.keep w wc hJ (hf.mono (fun _ _ h => h.elim)))
    have na : ¬ FJ ba := fun h => by have := hB.out ba hJ h; omega
    have nb : ¬ FJ bb := fun h => by have := hB.out bb hJ h; omega
    have lhc : bh < wc.heap.size := Nat.lt_of_lt_of_le lh hf.size
    have Hf := Lib.hid hf
    clear c0 c1 d1 d1' d2 d3 d3' d4 ha hb hf hJ
    cases hxy : lt xv yv
    · cases hyx : lt yv xv
      · go_wp2_with fail
        go_region_held3 (fun w' => w'.cell? ⟨bh,0,none⟩ = some (.func (.func fl) #[] caps) ∧ w'.cell? ⟨ba,0,none⟩ = some (.int .i64 (dU xv)) ∧ w'.cell? ⟨ba,1,none⟩ = some (.int .u32 (dI xv)) ∧ w'.cell? ⟨ba,2,none⟩ = some (.int .i64 xh) ∧ w'.cell? ⟨bb,0,none⟩ = some (.int .i64 (dU yv)) ∧ w'.cell? ⟨bb,1,none⟩ = some (.int .u32 (dI yv)) ∧ w'.cell? ⟨bb,2,none⟩ = some (.int .i64 yh))
          (first | (go_keep; done) | (refine ⟨?_, ?_, ?_, ?_, ?_, ?_, ?_⟩ <;> (first | exact (hf1.cell lhc hbh).trans e0 | exact (hf1.cell lca na).trans a0 | exact (hf1.cell lca na).trans a1 | exact (hf1.cell lca na).trans a2 | exact (hf1.cell lcb nb).trans b0 | exact (hf1.cell lcb nb).trans b1 | exact (hf1.cell lcb nb).trans b2)))
          (first | (refine (HL.out.call _ xv yv (HL.out.keep _ _ hJc.out (Fr.drew (Fr.refl _ _))) hx hy).mono ?_; rintro e w1 ⟨rfl, hJ1, hf1⟩))
        have f0 := (hf1.cell (o := 0) (s := none) lhc hbh).trans e0
        have f1 := (hf1.cell (o := 0) (s := none) lca na).trans a0
        have f2 := (hf1.cell (o := 1) (s := none) lca na).trans a1
        have f2' := (hf1.cell (o := 2) (s := none) lca na).trans a2
        have f3 := (hf1.cell (o := 0) (s := none) lcb nb).trans b0
        have f4 := (hf1.cell (o := 1) (s := none) lcb nb).trans b1
        have f4' := (hf1.cell (o := 2) (s := none) lcb nb).trans b2
        have HJ1 := Lib.hid hJ1; have HF1 := Lib.hid hf1; clear hJ1
        go_wp2_with fail
        go_region_held3 (fun w' => w'.cell? ⟨bh,0,none⟩ = some (.func (.func fl) #[] caps) ∧ w'.cell? ⟨ba,0,none⟩ = some (.int .i64 (dU xv)) ∧ w'.cell? ⟨ba,1,none⟩ = some (.int .u32 (dI xv)) ∧ w'.cell? ⟨ba,2,none⟩ = some (.int .i64 xh) ∧ w'.cell? ⟨bb,0,none⟩ = some (.int .i64 (dU yv)) ∧ w'.cell? ⟨bb,1,none⟩ = some (.int .u32 (dI yv)) ∧ w'.cell? ⟨bb,2,none⟩ = some (.int .i64 yh))
          (first | (go_keep; done) | (refine ⟨?_, ?_, ?_, ?_, ?_, ?_, ?_⟩ <;> (first | exact (hf2.cell (Nat.lt_of_lt_of_le lhc hf1.size) hbh).trans f0 | exact (hf2.cell (Nat.lt_of_lt_of_le lca hf1.size) na).trans f1 | exact (hf2.cell (Nat.lt_of_lt_of_le lca hf1.size) na).trans f2 | exact (hf2.cell (Nat.lt_of_lt_of_le lca hf1.size) na).trans f2' | exact (hf2.cell (Nat.lt_of_lt_of_le lcb hf1.size) nb).trans f3 | exact (hf2.cell (Nat.lt_of_lt_of_le lcb hf1.size) nb).trans f4 | exact (hf2.cell (Nat.lt_of_lt_of_le lcb hf1.size) nb).trans f4')))
          (first | (refine (HL.out.call _ yv xv (HL.out.keep _ _ HJ1.out (Fr.drew (Fr.refl _ _))) hy hx).mono ?_; rintro e w2 ⟨rfl, hJ2, hf2⟩))
        go_wp2_with fail
        go_ret
        exact ⟨by simp [aheadB, hxy, hyx], hJ2, ((Hf.out.mono (fun _ _ h => h.elim)).drew.trans HF1.out (fun _ _ h => h)).drew.trans hf2 (fun _ _ h => h)⟩
      · go_wp2_with fail
        go_region_held3 (fun w' => w'.cell? ⟨bh,0,none⟩ = some (.func (.func fl) #[] caps) ∧ w'.cell? ⟨ba,0,none⟩ = some (.int .i64 (dU xv)) ∧ w'.cell? ⟨ba,1,none⟩ = some (.int .u32 (dI xv)) ∧ w'.cell? ⟨ba,2,none⟩ = some (.int .i64 xh) ∧ w'.cell? ⟨bb,0,none⟩ = some (.int .i64 (dU yv)) ∧ w'.cell? ⟨bb,1,none⟩ = some (.int .u32 (dI yv)) ∧ w'.cell? ⟨bb,2,none⟩ = some (.int .i64 yh))
          (first | (go_keep; done) | (refine ⟨?_, ?_, ?_, ?_, ?_, ?_, ?_⟩ <;> (first | exact (hf1.cell lhc hbh).trans e0 | exact (hf1.cell lca na).trans a0 | exact (hf1.cell lca na).trans a1 | exact (hf1.cell lca na).trans a2 | exact (hf1.cell lcb nb).trans b0 | exact (hf1.cell lcb nb).trans b1 | exact (hf1.cell lcb nb).trans b2)))
          (first | (refine (HL.out.call _ xv yv (HL.out.keep _ _ hJc.out (Fr.drew (Fr.refl _ _))) hx hy).mono ?_; rintro e w1 ⟨rfl, hJ1, hf1⟩))
        have f0 := (hf1.cell (o := 0) (s := none) lhc hbh).trans e0
        have f1 := (hf1.cell (o := 0) (s := none) lca na).trans a0
        have f2 := (hf1.cell (o := 1) (s := none) lca na).trans a1
        have f2' := (hf1.cell (o := 2) (s := none) lca na).trans a2
        have f3 := (hf1.cell (o := 0) (s := none) lcb nb).trans b0
        have f4 := (hf1.cell (o := 1) (s := none) lcb nb).trans b1
        have f4' := (hf1.cell (o := 2) (s := none) lcb nb).trans b2
        have HJ1 := Lib.hid hJ1; have HF1 := Lib.hid hf1; clear hJ1
        go_wp2_with fail
        refine wp_region_held_drew (S := (fun w' => w'.cell? ⟨bh,0,none⟩ = some (.func (.func fl) #[] caps) ∧ w'.cell? ⟨ba,0,none⟩ = some (.int .i64 (dU xv)) ∧ w'.cell? ⟨ba,1,none⟩ = some (.int .u32 (dI xv)) ∧ w'.cell? ⟨ba,2,none⟩ = some (.int .i64 xh) ∧ w'.cell? ⟨bb,0,none⟩ = some (.int .i64 (dU yv)) ∧ w'.cell? ⟨bb,1,none⟩ = some (.int .u32 (dI yv)) ∧ w'.cell? ⟨bb,2,none⟩ = some (.int .i64 yh))) (by kernel_rfl) (by go_keep) (fun hHeld => ?_)
        refine wpAnyH_take (i := 0) (v := ?_) rfl (by kernel_rfl) (by kernel_rfl) (by kernel_rfl) (fun _ _ _ h => h) (Or.inl ⟨by rfl, ?_⟩) (by assumption) ?_
        rotate_left
        · intro w' hSw; (try dsimp only at hSw); go_simp; try with_reducible rfl
        try simp only [Act.put, List.getElem_toArray, List.getElem_cons_zero, List.setIfInBounds_toArray, List.set_cons_zero, List.set_cons_succ]
        refine wpAnyH_take (i := 1) (v := ?_) rfl (by kernel_rfl) (by kernel_rfl) (by kernel_rfl) (fun _ _ _ h => h) (Or.inl ⟨by rfl, ?_⟩) (by assumption) ?_
        rotate_left
        · intro w' hSw; (try dsimp only at hSw); go_simp; try with_reducible rfl
        try simp only [Act.put, List.getElem_toArray, List.getElem_cons_zero, List.getElem_cons_succ, List.setIfInBounds_toArray, List.set_cons_zero, List.set_cons_succ]
        refine wpAnyH_take (i := 2) (v := ?_) rfl (by kernel_rfl) (by kernel_rfl) (by kernel_rfl) (fun _ _ _ h => h) (Or.inl ⟨by rfl, ?_⟩) (by assumption) ?_
        rotate_left
        · intro w' hSw; (try dsimp only at hSw); go_simp; try with_reducible rfl
        try simp only [Act.put, List.getElem_toArray, List.getElem_cons_zero, List.getElem_cons_succ, List.setIfInBounds_toArray, List.set_cons_zero, List.set_cons_succ]
        refine wpAnyH_take (i := 3) (v := ?_) rfl (by kernel_rfl) (by kernel_rfl) (by kernel_rfl) (fun _ _ _ h => h) (Or.inl ⟨by rfl, ?_⟩) (by assumption) ?_
        rotate_left
        · intro w' hSw; (try dsimp only at hSw); go_simp; try with_reducible rfl
        try simp only [Act.put, List.getElem_toArray, List.getElem_cons_zero, List.getElem_cons_succ, List.setIfInBounds_toArray, List.set_cons_zero, List.set_cons_succ]
        refine wpAnyH_take (i := 4) (v := ?_) rfl (by kernel_rfl) (by kernel_rfl) (by kernel_rfl) (fun _ _ _ h => h) (Or.inl ⟨by rfl, ?_⟩) (by assumption) ?_
        rotate_left
        · intro w' hSw; (try dsimp only at hSw); go_simp; try with_reducible rfl
        try simp only [Act.put, List.getElem_toArray, List.getElem_cons_zero, List.getElem_cons_succ, List.setIfInBounds_toArray, List.set_cons_zero, List.set_cons_succ]
        refine wpAnyH_take (i := 5) (v := ?_) rfl (by kernel_rfl) (by kernel_rfl) (by kernel_rfl) (fun _ _ _ h => h) (Or.inl ⟨by rfl, ?_⟩) (by assumption) ?_
        rotate_left
        · intro w' hSw; (try dsimp only at hSw); go_simp; try with_reducible rfl
        try simp only [Act.put, List.getElem_toArray, List.getElem_cons_zero, List.getElem_cons_succ, List.setIfInBounds_toArray, List.set_cons_zero, List.set_cons_succ]
        refine wpAnyH_take (i := 6) (v := ?_) rfl (by kernel_rfl) (by kernel_rfl) (by kernel_rfl) (fun _ _ _ h => h) (Or.inl ⟨by rfl, ?_⟩) (by assumption) ?_
        rotate_left
        · intro w' hSw; (try dsimp only at hSw); go_simp; try with_reducible rfl
        try simp only [Act.put, List.getElem_toArray, List.getElem_cons_zero, List.getElem_cons_succ, List.setIfInBounds_toArray, List.set_cons_zero, List.set_cons_succ]
        refine wpAnyH_take (i := 7) (v := ?_) rfl (by kernel_rfl) (by kernel_rfl) (by kernel_rfl) (fun _ _ _ h => h) (Or.inl ⟨by rfl, ?_⟩) (by assumption) ?_
        rotate_left
        · intro w' hSw; (try dsimp only at hSw); go_simp; try with_reducible rfl
        try simp only [Act.put, List.getElem_toArray, List.getElem_cons_zero, List.getElem_cons_succ, List.setIfInBounds_toArray, List.set_cons_zero, List.set_cons_succ]
        refine wpAnyH_ready (rs := [8]) (by kernel_rfl) (by simp) ?_
        refine AllReadyH.cons rfl (fun K hK => ?_) AllReadyH.nil
        go_simp
        refine (HL.out.call _ yv xv (HL.out.keep _ _ HJ1.out (Fr.drew (Fr.refl _ _))) hy hx).mono ?_; rintro e w2 ⟨rfl, hJ2, hf2⟩
        try go_simp
        refine hK.out _ _ ?_ (fun hHeld => ?_)
        · (try dsimp only); (refine ⟨?_, ?_, ?_, ?_, ?_, ?_, ?_⟩ <;> (first | exact (hf2.cell (Nat.lt_of_lt_of_le lhc hf1.size) hbh).trans f0 | exact (hf2.cell (Nat.lt_of_lt_of_le lca hf1.size) na).trans f1 | exact (hf2.cell (Nat.lt_of_lt_of_le lca hf1.size) na).trans f2 | exact (hf2.cell (Nat.lt_of_lt_of_le lca hf1.size) na).trans f2' | exact (hf2.cell (Nat.lt_of_lt_of_le lcb hf1.size) nb).trans f3 | exact (hf2.cell (Nat.lt_of_lt_of_le lcb hf1.size) nb).trans f4 | exact (hf2.cell (Nat.lt_of_lt_of_le lcb hf1.size) nb).trans f4'))
        clear hK K
        try simp only [Act.put, List.getElem_toArray, List.getElem_cons_zero, List.getElem_cons_succ, List.setIfInBounds_toArray, List.set_cons_zero, List.set_cons_succ]
        refine wpAnyH_take (i := 9) (v := ?_) rfl (by kernel_rfl) (by kernel_rfl) (by kernel_rfl) (fun _ _ _ h => h) (Or.inl ⟨by rfl, ?_⟩) (by assumption) ?_
        rotate_left
        · intro w' hSw; (try dsimp only at hSw); go_simp; try with_reducible rfl
        try simp only [Act.put, List.getElem_toArray, List.getElem_cons_zero, List.getElem_cons_succ, List.setIfInBounds_toArray, List.set_cons_zero, List.set_cons_succ]
        refine wpAnyH_take (i := 10) (v := ?_) rfl (by kernel_rfl) (by kernel_rfl) (by kernel_rfl) (fun _ _ _ h => h) (Or.inl ⟨by rfl, ?_⟩) (by assumption) ?_
        rotate_left
        · intro w' hSw; (try dsimp only at hSw); go_simp; try with_reducible rfl
        try simp only [Act.put, List.getElem_toArray, List.getElem_cons_zero, List.getElem_cons_succ, List.setIfInBounds_toArray, List.set_cons_zero, List.set_cons_succ]
        refine wpAnyH_take (i := 11) (v := undef) rfl (by kernel_rfl) (by kernel_rfl) (by kernel_rfl) (fun _ _ _ h => h) (Or.inr ⟨rfl, rfl⟩) (by assumption) ?_
        try simp only [Act.put, List.getElem_toArray, List.getElem_cons_zero, List.getElem_cons_succ, List.setIfInBounds_toArray, List.set_cons_zero, List.set_cons_succ]
        refine wpAnyH_take (i := 12) (v := undef) rfl (by kernel_rfl) (by kernel_rfl) (by kernel_rfl) (fun _ _ _ h => h) (Or.inr ⟨rfl, rfl⟩) (by assumption) ?_
        try simp only [Act.put, List.getElem_toArray, List.getElem_cons_zero, List.getElem_cons_succ, List.setIfInBounds_toArray, List.set_cons_zero, List.set_cons_succ]
        refine wpAnyH_take (i := 13) (v := undef) rfl (by kernel_rfl) (by kernel_rfl) (by kernel_rfl) (fun _ _ _ h => h) (Or.inr ⟨rfl, rfl⟩) (by assumption) ?_
        try simp only [Act.put, List.getElem_toArray, List.getElem_cons_zero, List.getElem_cons_succ, List.setIfInBounds_toArray, List.set_cons_zero, List.set_cons_succ]
        refine wpAnyH_take (i := 14) (v := undef) rfl (by kernel_rfl) (by kernel_rfl) (by kernel_rfl) (fun _ _ _ h => h) (Or.inr ⟨rfl, rfl⟩) (by assumption) ?_
        try simp only [Act.put, List.getElem_toArray, List.getElem_cons_zero, List.getElem_cons_succ, List.setIfInBounds_toArray, List.set_cons_zero, List.set_cons_succ]
        refine wpAnyH_take (i := 15) (v := undef) rfl (by kernel_rfl) (by kernel_rfl) (by kernel_rfl) (fun _ _ _ h => h) (Or.inr ⟨rfl, rfl⟩) (by assumption) ?_
        try simp only [Act.put, List.getElem_toArray, List.getElem_cons_zero, List.getElem_cons_succ, List.setIfInBounds_toArray, List.set_cons_zero, List.set_cons_succ]
        refine wpAnyH_take (i := 16) (v := ?_) rfl (by kernel_rfl) (by kernel_rfl) (by kernel_rfl) (fun _ _ _ h => h) (Or.inl ⟨by rfl, ?_⟩) (by assumption) ?_
        rotate_left
        · intro w' hSw; (try dsimp only at hSw); go_simp; try with_reducible rfl
        try simp only [Act.put, List.getElem_toArray, List.getElem_cons_zero, List.getElem_cons_succ, List.setIfInBounds_toArray, List.set_cons_zero, List.set_cons_succ]
        refine wpAnyH_take (i := 17) (v := ?_) rfl (by kernel_rfl) (by kernel_rfl) (by kernel_rfl) (fun _ _ _ h => h) (Or.inl ⟨by rfl, ?_⟩) (by assumption) ?_
        rotate_left
        · intro w' hSw; (try dsimp only at hSw); go_simp; try with_reducible rfl
        try simp only [Act.put, List.getElem_toArray, List.getElem_cons_zero, List.getElem_cons_succ, List.setIfInBounds_toArray, List.set_cons_zero, List.set_cons_succ]
        refine wpAnyH_done (by kernel_rfl) ?_ _
        go_wp2_with fail
        go_ret
        exact ⟨by simp [aheadB, hxy, hyx], hJ2, ((Hf.out.mono (fun _ _ h => h.elim)).drew.trans HF1.out (fun _ _ h => h)).drew.trans hf2 (fun _ _ h => h)⟩
    · have hyx : True := trivial
      go_wp2_with fail
      go_region_held3 (fun w' => w'.cell? ⟨bh,0,none⟩ = some (.func (.func fl) #[] caps) ∧ w'.cell? ⟨ba,0,none⟩ = some (.int .i64 (dU xv)) ∧ w'.cell? ⟨ba,1,none⟩ = some (.int .u32 (dI xv)) ∧ w'.cell? ⟨ba,2,none⟩ = some (.int .i64 xh) ∧ w'.cell? ⟨bb,0,none⟩ = some (.int .i64 (dU yv)) ∧ w'.cell? ⟨bb,1,none⟩ = some (.int .u32 (dI yv)) ∧ w'.cell? ⟨bb,2,none⟩ = some (.int .i64 yh))
        (first | (go_keep; done) | (refine ⟨?_, ?_, ?_, ?_, ?_, ?_, ?_⟩ <;> (first | exact (hf1.cell lhc hbh).trans e0 | exact (hf1.cell lca na).trans a0 | exact (hf1.cell lca na).trans a1 | exact (hf1.cell lca na).trans a2 | exact (hf1.cell lcb nb).trans b0 | exact (hf1.cell lcb nb).trans b1 | exact (hf1.cell lcb nb).trans b2)))
        (first | (refine (HL.out.call _ xv yv (HL.out.keep _ _ hJc.out (Fr.drew (Fr.refl _ _))) hx hy).mono ?_; rintro e w1 ⟨rfl, hJ1, hf1⟩))
      go_wp2_with fail
      go_ret
      exact ⟨by simp [aheadB, hxy], hJ1, (Hf.out.mono (fun _ _ h => h.elim)).drew.trans hf1 (fun _ _ h => h)⟩
end Go.Proofs.YtebdcahjlcgonaaGreat.Du
namespace Go.Proofs.YtebdcahjlcgonaaGreat.Du
open Go.RowKit
/-- The row with the items at two places exchanged. -/
noncomputable def swp (arr : Array Value) (i k : Nat) (xv xh yv yh : Int) : Array Value :=
  (((((arr.setIfInBounds (i * 3) (.int .i64 (dU yv))).setIfInBounds (i * 3 + 1) (.int .u32 (dI yv))).setIfInBounds (i * 3 + 2) (.int .i64 yh)).setIfInBounds (k * 3) (.int .i64 (dU xv))).setIfInBounds (k * 3 + 1) (.int .u32 (dI xv))).setIfInBounds (k * 3 + 2) (.int .i64 xh)
theorem swp_get {arr : Array Value} {i k : Nat} {xv xh yv yh : Int} (hi : i * 3 + 2 < arr.size) (hk : k * 3 + 2 < arr.size) (j : Nat) :
    (swp arr i k xv xh yv yh)[j]? = if j = k * 3 + 2 then some (.int .i64 xh) else if j = k * 3 + 1 then some (.int .u32 (dI xv)) else if j = k * 3 then some (.int .i64 (dU xv)) else if j = i * 3 + 2 then some (.int .i64 yh) else if j = i * 3 + 1 then some (.int .u32 (dI yv)) else if j = i * 3 then some (.int .i64 (dU yv)) else arr[j]? := by
  unfold swp
  simp only [Array.getElem?_setIfInBounds, Array.size_setIfInBounds]
  repeat' split
  all_goals first | rfl | omega
theorem swp_size {arr : Array Value} {i k : Nat} {xv xh yv yh : Int} : (swp arr i k xv xh yv yh).size = arr.size := by simp [swp]
theorem swp_blk {w : World} {bi : Nat} {arr : Array Value} {t : TypeId} {z : Nat × Nat} (h : w.heap[bi]? = some (.cells arr t z)) (xv xh yv yh : Int) (i k : Nat) :
    ((((((w.setCell ⟨bi, i * 3, none⟩ (.int .i64 (dU yv))).setCell ⟨bi, i * 3 + 1, none⟩ (.int .u32 (dI yv))).setCell ⟨bi, i * 3 + 2, none⟩ (.int .i64 yh)).setCell ⟨bi, k * 3, none⟩ (.int .i64 (dU xv))).setCell ⟨bi, k * 3 + 1, none⟩ (.int .u32 (dI xv))).setCell ⟨bi, k * 3 + 2, none⟩ (.int .i64 xh)).heap[bi]? = some (.cells (swp arr i k xv xh yv yh) t z) := by
  have h1 := setCell_blk (o := i * 3) h (.int .i64 (dU yv))
  have h2 := setCell_blk (o := i * 3 + 1) h1 (.int .u32 (dI yv))
  have h3 := setCell_blk (o := i * 3 + 2) h2 (.int .i64 yh)
  have h4 := setCell_blk (o := k * 3) h3 (.int .i64 (dU xv))
  have h5 := setCell_blk (o := k * 3 + 1) h4 (.int .u32 (dI xv))
  exact setCell_blk (o := k * 3 + 2) h5 (.int .i64 xh)
theorem lt_of_get {arr : Array Value} {j : Nat} {v : Value} (h : arr[j]? = some v) : j < arr.size := by
  rcases Nat.lt_or_ge j arr.size with h' | h'
  · exact h'
  · simp [Array.getElem?_eq_none h'] at h
set_option maxRecDepth 100000 in
set_option maxHeartbeats 1000000 in
theorem swap_spec {w : World} {bh bi bm n cap : Nat} {fv nv : Value} {arr : Array Value} {f : Int → Option Int}
    (hH : w.heap[bh]? = some (.cells #[fv, .slice (some ⟨bi, 0, none⟩) n cap, .map (some bm), nv] 165 (0, 0)))
    (hI : w.heap[bi]? = some (.cells arr 203 (0, 0))) (hM : IMap w bm f) (hbi : bh ≠ bi) (hbm : bm ≠ bi)
    {i k : Nat} (hi : (i : Int) < n) (hk : (k : Int) < n) (hik : i ≠ k) (_hn : n ≤ 9223372036854775807) {xv xh yv yh : Int}
    (h1 : arr[i * 3]? = some (.int .i64 (dU xv))) (h1' : arr[i * 3 + 1]? = some (.int .u32 (dI xv))) (h2 : arr[i * 3 + 2]? = some (.int .i64 xh)) (h3 : arr[k * 3]? = some (.int .i64 (dU yv))) (h3' : arr[k * 3 + 1]? = some (.int .u32 (dI yv))) (h4 : arr[k * 3 + 2]? = some (.int .i64 yh)) :
    Calls Tryz.prog 148 #[.pointer (some ⟨bh, 0, none⟩), .int .i64 i, .int .i64 k] w fun e w' => e = .returned (.tuple #[]) ∧ Fr (fun b => b = bi ∨ b = bm) w w' ∧
      w'.heap[bi]? = some (.cells (swp arr i k xv xh yv yh) 203 (0, 0)) ∧
      IMap w' bm (fun j => if j = xh then some (k : Int) else if j = yh then some (i : Int) else f j) := by
  have c1 := (cell_of hH 1)
  have c2 := (cell_of hH 2)
  simp at c1 c2
  have d1 := (cell_of hI (i * 3)).trans h1
  have d1' := (cell_of hI (i * 3 + 1)).trans h1'
  have d2 := (cell_of hI (i * 3 + 2)).trans h2
  have d3 := (cell_of hI (k * 3)).trans h3
  have d3' := (cell_of hI (k * 3 + 1)).trans h3'
  have d4 := (cell_of hI (k * 3 + 2)).trans h4
  have z1 := free_of hI (i * 3)
  have z1' := free_of hI (i * 3 + 1)
  have z2 := free_of hI (i * 3 + 2)
  have z3 := free_of hI (k * 3)
  have z3' := free_of hI (k * 3 + 1)
  have z4 := free_of hI (k * 3 + 2)
  have lh := lt_of_block hH
  have h2' := h2; have h4' := h4
  have HH := Lib.hid hH; have HI := Lib.hid hI
  clear hH hI h1 h1' h2 h3 h3' h4
  go_enter Tryz.func148, Tryz.ntmps148
  go_upto_region 0 with fail
  go_cut [6] (fun _ wx => wx.heap[bi]? = some (.cells (swp arr i k xv xh yv yh) 203 (0, 0)) ∧ Fr (fun b => b = bi) w wx)
  case first =>
    go_region
    go_wp2_with fail
    go_meet
    refine ⟨?_, ?_⟩
    · rw [heap_drew]; exact swp_blk HI.out xv xh yv yh i k
    refine Fr.drew ?_
    iterate 6 refine Fr.setCell ?_ (by intro _; rfl) _
    exact Fr.refl _ _
  case rest =>
    obtain ⟨gI, gf⟩ := hcut
    have s1 := lt_of_get h2'; have s2 := lt_of_get h4'
    have e1 := (gf.cell (o := 1) (s := none) lh hbi).trans c1
    have e2 := (gf.cell (o := 2) (s := none) lh hbi).trans c2
    have x1 : wc.cell? ⟨bi, i * 3 + 2, none⟩ = some (.int .i64 yh) := by
      rw [cell_of gI, swp_get s1 s2, if_neg (by omega), if_neg (by omega), if_neg (by omega), if_pos rfl]
    have x2 : wc.cell? ⟨bi, k * 3 + 2, none⟩ = some (.int .i64 xh) := by
      rw [cell_of gI, swp_get s1 s2, if_pos rfl]
    have hMc : IMap wc bm f := IMap.fr hM gf hbm
    obtain ⟨es, c, hrun, hM1⟩ := run_update (P := Tryz.prog) Tryz.underlying162 Tryz.underlying3 (w := wc.drew) hMc yh i
    have hc1 : ∀ a, (setMap wc.drew bm es c).cell? a = wc.cell? a := by
      obtain ⟨l, c0, hb, _⟩ := hMc; exact fun a => setMap_cell (w := wc.drew) hb es c a
    clear c1 c2 d1 d1' d2 d3 d3' d4 z1 z1' z2 z3 z3' z4
    go_wp2_with fail
    go_region_held3 (fun w' => w'.cell? ⟨bh,1,none⟩ = some (.slice (some ⟨bi,0,none⟩) n cap) ∧ w'.cell? ⟨bh,2,none⟩ = some (.map (some bm)) ∧ w'.cell? ⟨bi, i*3+2, none⟩ = some (.int .i64 yh) ∧ w'.cell? ⟨bi, k*3+2, none⟩ = some (.int .i64 xh)) (go_keep) (fail)
    obtain ⟨es2, c2, hrun2, hM2⟩ := run_update (P := Tryz.prog) Tryz.underlying162 Tryz.underlying3 (w := (setMap wc.drew bm es c).drew) hM1 xh k
    have hc2 : ∀ a, (setMap (setMap wc.drew bm es c).drew bm es2 c2).cell? a = wc.cell? a := by
      obtain ⟨l, c0, hb, _⟩ := hM1; exact fun a => (setMap_cell (w := (setMap wc.drew bm es c).drew) hb es2 c2 a).trans (hc1 a)
    have HM2 := Lib.hid hM2; have HF := Lib.hid gf; have HG := Lib.hid gI
    clear hM2 gf gI hM1 hMc hrun
    go_wp2_with fail
    go_region_held3 (fun w' => w'.cell? ⟨bh,1,none⟩ = some (.slice (some ⟨bi,0,none⟩) n cap) ∧ w'.cell? ⟨bh,2,none⟩ = some (.map (some bm)) ∧ w'.cell? ⟨bi, i*3+2, none⟩ = some (.int .i64 yh) ∧ w'.cell? ⟨bi, k*3+2, none⟩ = some (.int .i64 xh)) (go_keep) (fail)
    go_wp2_with fail
    go_end0
    refine ⟨rfl, ?_, ?_, ?_⟩
    · refine Fr.setMap (Fr.drew (Fr.setMap (Fr.drew ?_) (fun _ => Or.inr rfl) _ _)) (fun _ => Or.inr rfl) _ _
      exact HF.out.mono (fun _ _ h => Or.inl h)
    · rw [setMap_ne (Ne.symm hbm), heap_drew, setMap_ne (Ne.symm hbm), heap_drew]; exact HG.out
    · exact HM2.out
end Go.Proofs.YtebdcahjlcgonaaGreat.Du
namespace Go.Proofs.YtebdcahjlcgonaaGreat.Du
open Go.RowKit
/-- The heap in block bh has the items L (n of them); its row is block bi, of capacity cap; its map is block bm. -/
structure Hp (J : World → Prop) (A : Int → Prop) (fv nv : Value) (bh bi bm n cap : Nat) (L : List It) (w : World) : Prop where
  j : J w
  hH : w.heap[bh]? = some (.cells #[fv, .slice (some ⟨bi, 0, none⟩) n cap, .map (some bm), nv] 165 (0, 0))
  row : ∃ arr, w.heap[bi]? = some (.cells arr 203 (0, 0)) ∧ arr.size = cap * 3 ∧ Cells3 arr L
  map : ∃ f, IMap w bm f ∧ PlaceOf f L
  all : ∀ i, i < n → A (itAt L i).1
  len : L.length = n
section
variable {fv : Value} {lt : Int → Int → Bool} {J : World → Prop} {FJ : Nat → Prop} {A : Int → Prop} {fl : Nat} {caps : Array Value}
variable {nv : Value} {bh bi bm n cap : Nat} {L : List It} {w : World}
theorem Hp.ne1 (h : Hp J A fv nv bh bi bm n cap L w) : bh ≠ bi := by
  intro e
  obtain ⟨arr, h1, _⟩ := h.row
  have := h.hH
  rw [e, h1] at this
  simp at this
theorem Hp.ne2 (h : Hp J A fv nv bh bi bm n cap L w) : bm ≠ bi := by
  intro e
  obtain ⟨arr, h1, _⟩ := h.row
  obtain ⟨f, ⟨l, c, h2, _⟩, _⟩ := h.map
  rw [e, h1] at h2
  simp at h2
theorem Hp.ne3 (h : Hp J A fv nv bh bi bm n cap L w) : bm ≠ bh := by
  intro e
  obtain ⟨f, ⟨l, c, h2, _⟩, _⟩ := h.map
  rw [e, h.hH] at h2
  simp at h2
theorem Hp.fr (h : Hp J A fv nv bh bi bm n cap L w) {F : Nat → Prop} {w' : World} (hf : Fr F w w') (hj : J w') (h1 : ¬ F bh) (h2 : ¬ F bi) (h3 : ¬ F bm) : Hp J A fv nv bh bi bm n cap L w' := by
  obtain ⟨arr, r1, r2, r3⟩ := h.row
  obtain ⟨f, m1, m2⟩ := h.map
  exact ⟨hj, hf.get h.hH h1, ⟨arr, hf.get r1 h2, r2, r3⟩, ⟨f, m1.fr hf h3, m2⟩, h.all, h.len⟩
theorem cells3_swp {arr : Array Value} {L : List It} (h : Cells3 arr L) {i k : Nat} (hi : i < L.length) (hk : k < L.length) (_hik : i ≠ k) :
    Cells3 (swp arr i k (itAt L i).1 (itAt L i).2 (itAt L k).1 (itAt L k).2) (swapL L i k) := by
  intro j hj
  rw [swapL_length] at hj
  have s1 := lt_of_get (h i hi).2.2
  have s2 := lt_of_get (h k hk).2.2
  rw [swp_get s1 s2, swp_get s1 s2, swp_get s1 s2, itAt_swap hi hk]
  refine ⟨?_, ?_, ?_⟩ <;> (repeat' split) <;> first | rfl | (exfalso; omega) | exact (h j hj).1 | exact (h j hj).2.1 | exact (h j hj).2.2
variable (hL : LessOk Tryz.prog fv lt J FJ A fl caps) (nh : ¬ FJ bh) (ni : ¬ FJ bi) (nm : ¬ FJ bm)
include hL nh ni nm
theorem Hp.ahead (h : Hp J A fv nv bh bi bm n cap L w) (hn : n ≤ 65536) {i k : Nat} (hi : i < n) (hk : k < n) :
    Calls Tryz.prog 147 #[.pointer (some ⟨bh, 0, none⟩), .int .i64 i, .int .i64 k] w fun e w' => e = .returned (.bool (aheadL lt L i k)) ∧ Hp J A fv nv bh bi bm n cap L w' ∧ Fr FJ w w' := by
  obtain ⟨arr, r1, r2, r3⟩ := h.row
  have hl := h.len
  refine (ahead_spec hL h.j h.hH r1 nh ni (i := i) (k := k) (by omega) (by omega) (by omega) (r3 i (by omega)).1 (r3 i (by omega)).2.1 (r3 i (by omega)).2.2 (r3 k (by omega)).1 (r3 k (by omega)).2.1 (r3 k (by omega)).2.2 (h.all i hi) (h.all k hk)).mono ?_
  rintro e w' ⟨rfl, hj, hf⟩
  exact ⟨rfl, h.fr hf hj nh ni nm, hf⟩
omit nh in
theorem Hp.swap (h : Hp J A fv nv bh bi bm n cap L w) (hn : n ≤ 65536) {i k : Nat} (hi : i < n) (hk : k < n) (hik : i ≠ k) :
    Calls Tryz.prog 148 #[.pointer (some ⟨bh, 0, none⟩), .int .i64 i, .int .i64 k] w fun e w' => e = .returned (.tuple #[]) ∧ Hp J A fv nv bh bi bm n cap (swapL L i k) w' ∧ Fr (fun b => b = bi ∨ b = bm) w w' := by
  obtain ⟨arr, r1, r2, r3⟩ := h.row
  obtain ⟨f, m1, m2⟩ := h.map
  have hl := h.len
  refine (swap_spec h.hH r1 m1 h.ne1 h.ne2 (i := i) (k := k) (by omega) (by omega) hik (by omega) (r3 i (by omega)).1 (r3 i (by omega)).2.1 (r3 i (by omega)).2.2 (r3 k (by omega)).1 (r3 k (by omega)).2.1 (r3 k (by omega)).2.2).mono ?_
  rintro e w' ⟨rfl, hf, hr, hm⟩
  have hj : J w' := hL.keep w w' h.j (hf.mono (fun b _ hb hF => by rcases hb with rfl | rfl <;> contradiction))
  refine ⟨rfl, ⟨hj, hf.get h.hH (by have := h.ne1; have := h.ne3; intro hb; rcases hb with hb | hb <;> omega), ⟨_, hr, by rw [swp_size]; exact r2, cells3_swp r3 (by omega) (by omega) hik⟩,
    ⟨_, hm, m2.swap (by omega) (by omega) hik⟩, ?_, by rw [swapL_length]; exact hl⟩, hf⟩
  intro j hj
  rw [itAt_swap (by omega) (by omega)]
  split
  · exact h.all i hi
  · split
    · exact h.all k hk
    · exact h.all j hj
end
end Go.Proofs.YtebdcahjlcgonaaGreat.Du
namespace Go.Proofs.YtebdcahjlcgonaaGreat.Du
open Go.RowKit
section
variable {fv : Value} {lt : Int → Int → Bool} {J : World → Prop} {FJ : Nat → Prop} {A : Int → Prop} {fl : Nat} {caps : Array Value}
variable {nv : Value} {bh bi bm n cap : Nat} {L : List It} {w : World}
variable (hL : LessOk Tryz.prog fv lt J FJ A fl caps) (nh : ¬ FJ bh) (ni : ¬ FJ bi) (nm : ¬ FJ bm)
include hL nh ni nm
set_option maxRecDepth 100000 in
set_option maxHeartbeats 1000000 in
theorem Hp.settle (h : Hp J A fv nv bh bi bm n cap L w) (hn : n ≤ 65536) {at_ : Nat} (ha : at_ < n) :
    Calls Tryz.prog 123 #[.pointer (some ⟨bh, 0, none⟩), .int .i64 at_] w fun e w' => e = .returned (.tuple #[]) ∧ Hp J A fv nv bh bi bm n cap (settleF lt L at_) w' ∧ Fr (fun b => FJ b ∨ b = bi ∨ b = bm) w w' := by
  have HL := Lib.hid hL
  clear hL
  have hlen := h.len
  have Hlen := Lib.hid hlen
  go_enter Tryz.func123, Tryz.ntmps123
  go_upto_block 0 with fail
  go_cut [1] (fun s1 wx => ∃ (m : Nat) (L' : List It), s1 = .int .i64 m ∧ m < n ∧ Hp J A fv nv bh bi bm n cap L' wx ∧ Fr (fun b => FJ b ∨ b = bi ∨ b = bm) w wx ∧ upF lt at_ L at_ = (L', m))
  case first =>
    go_wp2_with fail
    go_loopw [1] (fun s1 wr => ∃ (m : Nat) (L' : List It), s1 = .int .i64 m ∧ m < n ∧ Hp J A fv nv bh bi bm n cap L' wr ∧ Fr (fun b => FJ b ∨ b = bi ∨ b = bm) w wr ∧ upF lt m L' m = upF lt at_ L at_) (fun s1 _ => (intOf s1).toNat)
    case atStart => exact ⟨at_, L, rfl, ha, h, Fr.refl _ _, rfl⟩
    case round =>
      obtain ⟨m, L', rfl, hm, hp, hf, hu⟩ := hrel
      have Hp' := Lib.hid hp; have Hf := Lib.hid hf; have Hu := Lib.hid hu
      clear h hlen hp hf hu
      obtain ⟨p, hp⟩ : ∃ p, p = (m - 1) / 2 := ⟨_, rfl⟩
      cases hc : (decide (m > 0) && aheadL lt L' m p)
      · have hstop : upF lt m L' m = (L', m) := upF_stop (by rw [← hp]; exact hc)
        rw [Hu.out] at hstop
        have Hs := Lib.hid hstop; clear hstop
        by_cases h0 : 0 < m
        · have h0' : (0 : Int) < (m : Int) := by omega
          have ht : aheadL lt L' m p = false := by simpa [h0] using hc
          have e : ((m : Int) - 1) / 2 = (p : Int) := by omega
          have hpm : p < m := by omega
          have hpn : p < n := by omega
          clear hc hp
          go_wp2_with fail
          refine (Hp'.out.ahead HL.out nh ni nm hn hm hpn).mono ?_
          rintro e1 w1 ⟨rfl, h1, f1⟩
          have H1 := Lib.hid h1; have F1 := Lib.hid f1; clear h1 f1
          go_wp2_with fail
          go_meet
          exact ⟨m, L', rfl, hm, H1.out, Hf.out.trans F1.out (fun _ _ h => Or.inl h), Hs.out⟩
        · obtain rfl : m = 0 := by omega
          clear hc hp
          go_wp2_with fail
          go_meet
          exact ⟨0, L', rfl, hm, Hp'.out, Hf.out, Hs.out⟩
      · have h0 : 0 < m := by simp at hc; exact hc.1
        have ht : aheadL lt L' m p = true := by simp at hc; exact hc.2
        have h0' : (0 : Int) < (m : Int) := by omega
        have e : ((m : Int) - 1) / 2 = (p : Int) := by omega
        have hpm : p < m := by omega
        have Hgo := Lib.hid (upF_go h0 (by rw [← hp]; exact ht) : upF lt m L' m = _)
        rw [← hp] at Hgo
        have hpn : p < n := by omega
        clear hc hp
        go_wp2_with fail
        refine (Hp'.out.ahead HL.out nh ni nm hn hm hpn).mono ?_
        rintro e1 w1 ⟨rfl, h1, f1⟩
        have H1 := Lib.hid h1; have F1 := Lib.hid f1; clear h1 f1
        go_wp2_with fail
        refine (H1.out.swap HL.out ni nm hn hm hpn (by omega)).mono ?_
        rintro e2 w2 ⟨rfl, h2, f2⟩
        have H2 := Lib.hid h2; have F2 := Lib.hid f2; clear h2 f2
        go_wp2_with fail
        go_roundw
        case rel => exact ⟨p, swapL L' m p, by rw [e], hpn, H2.out, (Hf.out.trans F1.out (fun _ _ h => Or.inl h)).trans F2.out (fun _ _ h => Or.inr h), by rw [← Hgo.out]; exact Hu.out⟩
        case measure => simp [intOf]; omega
  case rest =>
    obtain ⟨m, L1, rfl, hm, hp, hf, hu⟩ := hcut
    have hlm := hp.len
    have Hu := Lib.hid hu; have Hp1 := Lib.hid hp; have Hf := Lib.hid hf
    have hS : downF lt (L1.length - m) L1 m = settleF lt L at_ := by unfold settleF; rw [hu, hlm, Hlen.out]
    have HS := Lib.hid hS
    clear hu hp hf hS
    go_wp2_with fail
    go_loopw [1] (fun s1 wr => ∃ (m : Nat) (L' : List It), s1 = .int .i64 m ∧ m < n ∧ Hp J A fv nv bh bi bm n cap L' wr ∧ Fr (fun b => FJ b ∨ b = bi ∨ b = bm) w wr ∧ downF lt (L'.length - m) L' m = settleF lt L at_) (fun s1 _ => n - (intOf s1).toNat)
    case atStart => exact ⟨m, L1, rfl, hm, Hp1.out, Hf.out, HS.out⟩
    case round =>
      clear Hp1 Hf HS Hu hm hlm
      obtain ⟨m, L', rfl, hm, hp, hf, hu⟩ := hrel
      have hlm := hp.len
      have Hp' := Lib.hid hp; have Hf := Lib.hid hf; have Hu := Lib.hid hu
      have HLm := Lib.hid hlm
      clear hp hf hu hlm
      obtain ⟨wo, rfl⟩ : ∃ wo : World, wo = wr := ⟨_, rfl⟩
      go_upto_block 4 with fail
      go_cut [4] (fun s4 wx => s4 = .int .i64 (lstF lt L' m 2 : Nat) ∧ Hp J A fv nv bh bi bm n cap L' wx ∧ Fr FJ wo wx)
      case first =>
        go_wp2_with fail
        go_loopw [4, 5] (fun s4 s5 wr => ∃ j : Nat, j ≤ 2 ∧ s5 = .int .i64 (2 * m + 1 + j : Nat) ∧ s4 = .int .i64 (lstF lt L' m j : Nat) ∧ Hp J A fv nv bh bi bm n cap L' wr ∧ Fr FJ wo wr) (fun _ s5 _ => 2 * m + 3 - (intOf s5).toNat)
        case atStart => exact ⟨0, by omega, by simp, by simp [lstF], Hp'.out, Fr.refl _ _⟩
        case round =>
          obtain ⟨j, hj, rfl, rfl, hp, hf2⟩ := hrel
          obtain ⟨q, hq⟩ : ∃ q, q = lstF lt L' m j := ⟨_, rfl⟩
          have hqn : q < n := by rw [hq, ← HLm.out]; exact lstF_lt lt L' m j (by rw [HLm.out]; exact hm)
          rw [← hq]
          have Hq := Lib.hid hq
          have c1 := cell_of hp.hH 1
          simp at c1
          have Hr := Lib.hid hp; have Hf2 := Lib.hid hf2
          clear hp hf2 hq
          by_cases hj2 : j = 2
          · subst hj2
            go_wp2_with fail
            go_meet
            exact ⟨by rw [Hq.out], Hr.out, Hf2.out⟩
          · have hjl : (j : Int) < 2 := by omega
            by_cases hk : 2 * m + 1 + j < n
            · have hk' : 2 * (m : Int) + 1 + j < n := by omega
              cases ht : aheadL lt L' (2 * m + 1 + j) q
              · have Hn := Lib.hid (lstF_step (lt := lt) (L := L') (n := m) (j := j) (by rw [HLm.out]; exact hk))
                go_wp2_with fail
                refine (Hr.out.ahead (i := 2 * m + 1 + j) (k := q) HL.out nh ni nm hn hk hqn).mono ?_
                rintro e1 w1 ⟨rfl, h1, f1⟩
                have H1 := Lib.hid h1; have F1 := Lib.hid f1; clear h1 f1
                go_wp2_with fail
                go_roundw
                case rel => exact ⟨j + 1, by omega, by go_num, by rw [Hn.out, ← Hq.out, ht]; simp, H1.out, Hf2.out.trans F1.out (fun _ _ h => h)⟩
                case measure => simp [intOf]; omega
              · have Hn := Lib.hid (lstF_step (lt := lt) (L := L') (n := m) (j := j) (by rw [HLm.out]; exact hk))
                go_wp2_with fail
                refine (Hr.out.ahead (i := 2 * m + 1 + j) (k := q) HL.out nh ni nm hn hk hqn).mono ?_
                rintro e1 w1 ⟨rfl, h1, f1⟩
                have H1 := Lib.hid h1; have F1 := Lib.hid f1; clear h1 f1
                go_wp2_with fail
                go_roundw
                case rel => exact ⟨j + 1, by omega, by go_num, by rw [Hn.out, ← Hq.out, ht]; simp, H1.out, Hf2.out.trans F1.out (fun _ _ h => h)⟩
                case measure => simp [intOf]; omega
            · have hk' : ¬ (2 * (m : Int) + 1 + j < n) := by omega
              go_wp2_with fail
              go_meet
              refine ⟨?_, Hr.out, Hf2.out⟩
              rw [Hq.out]
              have hl := HLm.out
              have e2 : lstF lt L' m 2 = lstF lt L' m 1 := by
                by_cases h0 : j = 1
                · subst h0; exact lstF_past (by omega)
                · exact lstF_past (by omega)
              rw [e2]
              by_cases h0 : j = 1
              · subst h0; rfl
              · obtain rfl : j = 0 := by omega
                rw [lstF_past (by omega)]
      case rest =>
        obtain ⟨rfl, hp, hf2⟩ := hcut
        obtain ⟨q, hq⟩ : ∃ q, q = lstF lt L' m 2 := ⟨_, rfl⟩
        have hqn : q < n := by rw [hq, ← HLm.out]; exact lstF_lt lt L' m 2 (by rw [HLm.out]; exact hm)
        have hqm : m ≤ q := by rw [hq]; exact lstF_ge lt L' m 2
        rw [← hq]
        have Hq := Lib.hid hq
        have Hr := Lib.hid hp; have Hf2 := Lib.hid hf2
        clear hp hf2 hq
        by_cases he : q = m
        · subst he
          have Hd := Lib.hid (downF_stop (lt := lt) (L := L') (n := q) (f := L'.length - q) Hq.out.symm)
          go_wp2_with fail
          refine bodyPost_ret (results_none rfl _ _ _) rfl ?_
          rw [← Hu.out, Hd.out]
          exact ⟨rfl, Hr.out, Hf.out.trans Hf2.out (fun _ _ h => Or.inl h)⟩
        · have hlt : m < q := by omega
          have Hd := Lib.hid (downF_go (lt := lt) (L := L') (n := m) (by rw [HLm.out]; exact hm) (by rw [← Hq.out]; exact he))
          have hb : ((q : Int) == (m : Int)) = false := by simp; omega
          clear he
          go_wp2_with fail
          refine (Hr.out.swap HL.out ni nm hn hm hqn (by omega)).mono ?_
          rintro e2 w2 ⟨rfl, h2, f2⟩
          have H2 := Lib.hid h2; have F2 := Lib.hid f2; clear h2 f2
          go_wp2_with fail
          go_roundw
          case rel => exact ⟨q, swapL L' m q, rfl, hqn, H2.out, (Hf.out.trans Hf2.out (fun _ _ h => Or.inl h)).trans F2.out (fun _ _ h => Or.inr h), by rw [← Hu.out, Hd.out, ← Hq.out]⟩
          case measure => simp [intOf]; omega
end
end Go.Proofs.YtebdcahjlcgonaaGreat.Du
namespace Go.Proofs.YtebdcahjlcgonaaGreat.Du
open Go.RowKit
noncomputable def flat (L : List It) : List Value := L.flatMap fun x => [.int .i64 (dU x.1), .int .u32 (dI x.1), .int .i64 x.2]
theorem flat_length (L : List It) : (flat L).length = L.length * 3 := by
  induction L with
  | nil => rfl
  | cons x L ih => simp only [flat, List.flatMap_cons, List.length_append, List.length_cons, List.length_nil] at ih ⊢; omega
theorem flat_get (L : List It) : ∀ i, i < L.length → (flat L)[i * 3]? = some (.int .i64 (dU (itAt L i).1)) ∧ (flat L)[i * 3 + 1]? = some (.int .u32 (dI (itAt L i).1)) ∧ (flat L)[i * 3 + 2]? = some (.int .i64 (itAt L i).2) := by
  induction L with
  | nil => intro i hi; simp at hi
  | cons x L ih =>
    intro i hi
    have e : flat (x :: L) = .int .i64 (dU x.1) :: .int .u32 (dI x.1) :: .int .i64 x.2 :: flat L := rfl
    rw [e]
    cases i with
    | zero => simp [itAt]
    | succ i =>
      have := ih i (by simpa using hi)
      have e1 : (i + 1) * 3 = i * 3 + 1 + 1 + 1 := by omega
      rw [e1]
      simpa [itAt] using this
theorem cells3_of_take {arr : Array Value} {L : List It} (h : arr.toList.take (L.length * 3) = flat L) : Cells3 arr L := by
  intro i hi
  have g := flat_get L i hi
  rw [← h, List.getElem?_take, List.getElem?_take, List.getElem?_take, if_pos (by omega), if_pos (by omega), if_pos (by omega)] at g
  simpa using g
theorem take_of_cells3 {arr : Array Value} {L : List It} (h : Cells3 arr L) (_hs : L.length * 3 ≤ arr.size) : arr.toList.take (L.length * 3) = flat L := by
  apply List.ext_getElem?
  intro j
  rw [List.getElem?_take]
  split
  · rename_i hj
    obtain ⟨i, hi | hi | hi⟩ : ∃ i, j = i * 3 ∨ j = i * 3 + 1 ∨ j = i * 3 + 2 := ⟨j / 3, by omega⟩
    · subst hi; rw [(flat_get L i (by omega)).1]; simpa using (h i (by omega)).1
    · subst hi; rw [(flat_get L i (by omega)).2.1]; simpa using (h i (by omega)).2.1
    · subst hi; rw [(flat_get L i (by omega)).2.2]; simpa using (h i (by omega)).2.2
  · rename_i hj
    rw [List.getElem?_eq_none (by rw [flat_length]; omega)]
theorem flat_append (L M : List It) : flat (L ++ M) = flat L ++ flat M := by simp [flat]
/-- The value of the field place and items and next, under G: all blocks that are the heap's own. -/
structure HeapIs (J : World → Prop) (FJ : Nat → Prop) (A : Int → Prop) (fv : Value) (G : Nat → Prop) (bh : Nat) (L : List It) (next : Int) (w : World) : Prop where
  ex : ∃ sv bm, w.heap[bh]? = some (.cells #[fv, sv, .map (some bm), .int .i64 next] 165 (0, 0)) ∧ Row w 203 3 sv L.length (flat L) ∧ (∃ f, IMap w bm f ∧ PlaceOf f L) ∧ G bm ∧ (∀ b, sv.ownBlock = some b → G b)
  gh : G bh
  bd : ∀ b, G b → b < w.heap.size
  nj : ∀ b, G b → ¬ FJ b
  j : J w
  all : ∀ i, i < L.length → A (itAt L i).1
  hs : ∀ i, i < L.length → 0 ≤ (itAt L i).2 ∧ (itAt L i).2 < next
  len : L.length ≤ 65536
  nx : 0 ≤ next
/-- The blocks of G' were G's, or are new. -/
def Grew (w : World) (G G' : Nat → Prop) : Prop := ∀ b, G' b → G b ∨ w.heap.size ≤ b
section
variable {J : World → Prop} {FJ : Nat → Prop} {A : Int → Prop} {fv : Value} {G : Nat → Prop} {bh : Nat} {L : List It} {next : Int} {w : World}
theorem HeapIs.fr (h : HeapIs J FJ A fv G bh L next w) {F : Nat → Prop} {w' : World} (hf : Fr F w w') (hj : J w') (hn : ∀ b, G b → ¬ F b) : HeapIs J FJ A fv G bh L next w' := by
  obtain ⟨sv, bm, h1, h2, ⟨f, h3, h4⟩, h5, h6⟩ := h.ex
  exact ⟨⟨sv, bm, hf.get h1 (hn _ h.gh), Row.fr h2 hf (fun b hb => hn b (h6 b hb)), ⟨f, h3.fr hf (hn _ h5), h4⟩, h5, h6⟩, h.gh, fun b hb => Nat.lt_of_lt_of_le (h.bd b hb) hf.size, h.nj, hj, h.all, h.hs, h.len, h.nx⟩
end
end Go.Proofs.YtebdcahjlcgonaaGreat.Du
namespace Go.Proofs.YtebdcahjlcgonaaGreat.Du
open Go.RowKit
section
variable {fv : Value} {lt : Int → Int → Bool} {J : World → Prop} {FJ : Nat → Prop} {A : Int → Prop} {fl : Nat} {caps : Array Value}
variable {nv : Value} {bh bi bm n cap : Nat} {L : List It} {w : World}
variable (hL : LessOk Tryz.prog fv lt J FJ A fl caps) (nh : ¬ FJ bh) (ni : ¬ FJ bi) (nm : ¬ FJ bm)
include hL nh ni nm
set_option maxRecDepth 100000 in
set_option maxHeartbeats 2000000 in
theorem Hp.take (h : Hp J A fv nv bh bi bm n cap L w) (hn : n ≤ 65536) (hcn : n ≤ cap) {at_ : Nat} (ha : at_ < n) :
    Calls Tryz.prog 145 #[.pointer (some ⟨bh, 0, none⟩), .int .i64 at_] w fun e w' => e = .returned (.agg #[.int .i64 (dU (itAt L at_).1), .int .u32 (dI (itAt L at_).1), .int .i64 (itAt L at_).2]) ∧ Hp J A fv nv bh bi bm (n - 1) cap (takeF lt L at_) w' ∧ Fr (fun b => FJ b ∨ b = bh ∨ b = bi ∨ b = bm) w w' := by
  have hlen := h.len
  obtain ⟨arr, r1, r2, r3⟩ := h.row
  have c1 := cell_of h.hH 1
  simp at c1
  have d1 := (cell_of r1 (at_ * 3)).trans (r3 at_ (by omega)).1
  have d1' := (cell_of r1 (at_ * 3 + 1)).trans (r3 at_ (by omega)).2.1
  have d2 := (cell_of r1 (at_ * 3 + 2)).trans (r3 at_ (by omega)).2.2
  obtain ⟨xv, hxv⟩ : ∃ x, x = (itAt L at_).1 := ⟨_, rfl⟩
  obtain ⟨xh, hxh⟩ : ∃ x, x = (itAt L at_).2 := ⟨_, rfl⟩
  rw [← hxv] at d1 d1' ⊢
  rw [← hxh] at d2 ⊢
  obtain ⟨m, hm⟩ : ∃ m, n = m + 1 := ⟨n - 1, by omega⟩
  subst hm
  have hai : (at_ : Int) < ((m + 1 : Nat) : Int) := by omega
  have lh := lt_of_block h.hH; have li := lt_of_block r1
  have HL := Lib.hid hL; have Hh := Lib.hid h; have Hlen := Lib.hid hlen
  have Hx := Lib.hid hxv; have Hy := Lib.hid hxh
  clear hL h hlen r1 r2 r3 hxv hxh
  go_enter Tryz.func145, Tryz.ntmps145
  go_upto_region 2 with fail
  go_cut [4, 5, 6] (fun s4 s5 s6 wx => ∃ b4 b5 : Nat, s4 = .pointer (some ⟨b4, 0, none⟩) ∧ s5 = .pointer (some ⟨b5, 0, none⟩) ∧ s6 = .int .i64 m ∧ w.heap.size ≤ b4 ∧ w.heap.size ≤ b5 ∧ b4 ≠ b5 ∧
      wx.heap[b4]? = some (.cells #[.int .i64 0, .int .u32 0, .int .i64 0] 203 (0, 0)) ∧ wx.heap[b5]? = some (.cells #[.int .i64 (dU xv), .int .u32 (dI xv), .int .i64 xh] 203 (0, 0)) ∧ Fr (fun _ => False) w wx)
  case first =>
    go_wp2_with fail
    go_meet
    refine ⟨_, _, rfl, rfl, by go_num, by simp, by simp, by omega, ?_, ?_, Fr.alloc (Fr.alloc (Fr.refl _ _) _) _⟩
    · simp only [heap_alloc_get, World.size_alloc]; simp
    · simp only [heap_alloc_get, World.size_alloc]; simp
  case rest =>
    obtain ⟨b4, b5, rfl, rfl, rfl, g4, g5, hne, hb4, hb5, hf⟩ := hcut
    have hp : Hp J A fv nv bh bi bm (m + 1) cap L wc := Hh.out.fr hf (HL.out.keep _ _ Hh.out.j (hf.mono (fun _ _ x => x.elim))) (fun x => x) (fun x => x) (fun x => x)
    have Hp0 := Lib.hid hp; have Hb4 := Lib.hid hb4; have Hb5 := Lib.hid hb5; have Hf := Lib.hid hf
    have lm := Hp0.out.map.elim (fun f x => x.1.lt)
    have lm0 := Hh.out.map.elim (fun f x => x.1.lt)
    obtain ⟨bq, hx5⟩ : ∃ b : Bool, ((at_ : Int) != (m : Int)) = b := ⟨_, rfl⟩
    have hx7 : (bq = false ∧ at_ = m) ∨ (bq = true ∧ at_ < m) := by
      by_cases e : at_ = m
      · subst e; left; simp at hx5; exact ⟨hx5, rfl⟩
      · right; have : ¬ ((at_ : Int) = (m : Int)) := by omega
        refine ⟨?_, by omega⟩; rw [← hx5]; simp [bne, this]
    have Hx7 := Lib.hid hx7; clear hx7
    clear hp hb4 hb5 hf c1 d1 d1' d2
    go_upto_if 23 with fail
    go_cut [27] from 24 to 27 (fun _ wx => Hp J A fv nv bh bi bm (m + 1) cap (if at_ = m then L else swapL L at_ m) wx ∧ Fr (fun b => b = bi ∨ b = bm) wc wx)
    case first =>
      clear hx5
      rcases Hx7.out with ⟨rfl, e⟩ | ⟨rfl, e⟩
      · have He := Lib.hid e; clear e
        go_wp2_with fail
        go_meet
        exact ⟨by rw [if_pos He.out]; exact Hp0.out, Fr.refl _ _⟩
      · have He := Lib.hid e; clear e
        go_wp2_with fail
        refine (Hp0.out.swap HL.out ni nm hn ha (by omega : m < m + 1) (by have := He.out; omega)).mono ?_
        rintro e1 w1 ⟨rfl, h1, f1⟩
        have H1 := Lib.hid h1; have F1 := Lib.hid f1; clear h1 f1
        go_wp2_with fail
        go_meet
        exact ⟨by rw [if_neg (by have := He.out; omega)]; exact H1.out, F1.out⟩
    case rest =>
      obtain ⟨hp, hf⟩ := hcut
      obtain ⟨L1, hL1⟩ : ∃ L1, L1 = if at_ = m then L else swapL L at_ m := ⟨_, rfl⟩
      rw [← hL1] at hp
      have hl1 : L1.length = m + 1 := hp.len
      have hx1 : itAt L1 m = itAt L at_ := by
        rw [hL1]
        split
        · rename_i e; rw [e]
        · rw [itAt_swap (by rw [Hlen.out]; omega) (by rw [Hlen.out]; omega), if_pos rfl]
      obtain ⟨arr, r1, r2, r3⟩ := hp.row
      obtain ⟨f, m1, m2⟩ := hp.map
      have lw := Hf.out.size
      have n4 : ¬ (b4 = bi ∨ b4 = bm) := by omega
      have n5 : ¬ (b5 = bi ∨ b5 = bm) := by omega
      have q4 := hf.get Hb4.out n4
      have q5 := hf.get Hb5.out n5
      have c1 := cell_of hp.hH 1
      have c2 := cell_of hp.hH 2
      simp at c1 c2
      have d1 := (cell_of r1 (m * 3)).trans (r3 m (by omega)).1
      have d1' := (cell_of r1 (m * 3 + 1)).trans (r3 m (by omega)).2.1
      have d2 := (cell_of r1 (m * 3 + 2)).trans (r3 m (by omega)).2.2
      have z1 := free_of r1 (m * 3)
      have z1' := free_of r1 (m * 3 + 1)
      have z2 := free_of r1 (m * 3 + 2)
      have zh := free_of hp.hH 1
      have a51 := cell_of q5 2
      simp at a51
      have lh2 := lt_of_block hp.hH; have li2 := lt_of_block r1; have l42 := lt_of_block q4; have l52 := lt_of_block q5
      have n1 := hp.ne1; have n2 := hp.ne2; have n3 := hp.ne3
      have Hq := Lib.hid hp; have Hf1 := Lib.hid hf; have R1 := Lib.hid r1; have R2 := Lib.hid r2; have R3 := Lib.hid r3; have M1 := Lib.hid m1; have M2 := Lib.hid m2
      have Q4 := Lib.hid q4; have Q5 := Lib.hid q5; have HL1 := Lib.hid hL1; have Hl1 := Lib.hid hl1; have Hx1 := Lib.hid hx1
      clear hp hf r1 r2 r3 m1 m2 q4 q5 hL1 hl1 hx1 hx5
      have hmc : (m : Int) < ((m + 1 : Nat) : Int) := by omega
      go_upto_region 6 with fail
      go_cut [28] (fun _ wx => wx.heap[bi]? = some (.cells (((arr.setIfInBounds (m * 3) (.int .i64 0)).setIfInBounds (m * 3 + 1) (.int .u32 0)).setIfInBounds (m * 3 + 2) (.int .i64 0)) 203 (0, 0)) ∧ Fr (fun b => b = bi) wc wx)
      case first =>
        go_region
        all_goals (go_wp2_with fail; go_meet)
        refine ⟨?_, ?_⟩
        · rw [heap_drew, heap_alloc_old _ _ _ (by simpa using li2)]
          exact setCell_blk (setCell_blk (setCell_blk R1.out _) _) _
        · refine Fr.drew (Fr.alloc ?_ _)
          iterate 3 refine Fr.setCell ?_ (by intro _; rfl) _
          exact Fr.refl _ _
      case rest =>
        obtain ⟨hI2, hf2⟩ := hcut
        have k1 := (hf2.cell (o := 1) (s := none) lh2 n1).trans c1
        have k2 := (hf2.cell (o := 2) (s := none) lh2 n1).trans c2
        have kz := (hf2.frozen (o := 1) (s := none) lh2 n1).trans zh
        have n6 : b5 ≠ bi := by omega
        have n7 : b4 ≠ bi := by omega
        have k5 := (hf2.cell (o := 2) (s := none) l52 n6).trans a51
        have K5 := Lib.hid (hf2.get Q5.out n6)
        have K4 := Lib.hid (hf2.get Q4.out n7)
        have KH := Lib.hid (hf2.get Hq.out.hH n1)
        have KM := Lib.hid (IMap.fr M1.out hf2 n2)
        have lh3 := lt_of_block KH.out; have l53 := lt_of_block K5.out; have l43 := lt_of_block K4.out; have li3 := lt_of_block hI2
        have n8 : b5 ≠ bh := by omega
        have n9 : b4 ≠ bh := by omega
        have HI2 := Lib.hid hI2; have Hf2 := Lib.hid hf2
        have hmcap : (m : Int) ≤ (cap : Int) := by omega
        clear hI2 hf2 c1 c2 d1 d1' d2 z1 z1' z2 zh a51 lh2 li2 l42 l52 hmc
        have hM3 : IMap (wc.setCell ⟨bh, 1, none⟩ (.slice (some ⟨bi, 0, none⟩) m cap)).drew bm f := IMap.fr (F := fun b => b = bh) KM.out (Fr.drew (Fr.setCell (Fr.refl _ _) (by intro _; rfl) _)) n3
        obtain ⟨es, c, hrun, hM4⟩ := run_delete (P := Tryz.prog) Tryz.underlying162 Tryz.underlying3 hM3 xh #[162, 3] rfl 0
        have hc4 : ∀ a, (setMap (wc.setCell ⟨bh, 1, none⟩ (.slice (some ⟨bi, 0, none⟩) m cap)).drew bm es c).cell? a = (wc.setCell ⟨bh, 1, none⟩ (.slice (some ⟨bi, 0, none⟩) m cap)).cell? a := by
          obtain ⟨l, c0, hb, _⟩ := hM3; exact fun a => setMap_cell hb es c a
        have e2 := (World.cell?_setCell_other wc ⟨bh, 1, none⟩ ⟨bh, 2, none⟩ (.slice (some ⟨bi, 0, none⟩) m cap) (by simp)).trans k2
        have e5 := (World.cell?_setCell_other wc ⟨bh, 1, none⟩ ⟨b5, 2, none⟩ (.slice (some ⟨bi, 0, none⟩) m cap) (by simp)).trans k5
        have HM4 := Lib.hid hM4
        clear hM3 hM4
        go_upto_region 8 with fail
        go_region_held3 (fun w' => w'.cell? ⟨bh, 2, none⟩ = some (.map (some bm)) ∧ w'.cell? ⟨b5, 2, none⟩ = some (.int .i64 xh)) (go_keep) ((rw [if_pos rfl]; refine wp_delete_run rfl rfl rfl hrun ?_))
        obtain ⟨W, hW⟩ : ∃ W, W = setMap (wc.setCell ⟨bh, 1, none⟩ (.slice (some ⟨bi, 0, none⟩) m cap)).drew bm es c := ⟨_, rfl⟩
        have hfW : Fr (fun b => b = bh ∨ b = bm) wc W := by
          rw [hW]
          exact Fr.setMap (Fr.drew (Fr.setCell (Fr.refl _ _) (by intro _; exact Or.inl rfl) _)) (fun _ => Or.inr rfl) _ _
        have hWh : W.heap[bh]? = some (.cells #[fv, .slice (some ⟨bi, 0, none⟩) m cap, .map (some bm), nv] 165 (0, 0)) := by
          rw [hW, setMap_ne n3.symm, heap_drew]; exact setCell_blk KH.out _
        have hWi := hfW.get HI2.out (by omega)
        have hWJ : J W := HL.out.keep _ W Hq.out.j ((((Hf2.out.mono (G := fun b => ¬ FJ b) (fun b _ hb => by subst hb; exact ni)).trans hfW (fun b _ hb => by rcases hb with rfl | rfl <;> assumption))))
        have hWp : Hp J A fv nv bh bi bm m cap (L1.take m) W := by
          have hl1 := Hl1.out
          refine ⟨hWJ, hWh, ⟨_, hWi, by simp [R2.out], ?_⟩, ⟨_, by rw [hW]; exact HM4.out, ?_⟩, ?_, by simp [hl1]⟩
          · intro i hi
            have him : i < m := by simp at hi; omega
            rw [itAt_take him]
            have := R3.out i (by omega)
            simp only [Array.getElem?_setIfInBounds_ne (show m * 3 + 2 ≠ i * 3 by omega), Array.getElem?_setIfInBounds_ne (show m * 3 + 2 ≠ i * 3 + 1 by omega), Array.getElem?_setIfInBounds_ne (show m * 3 + 2 ≠ i * 3 + 2 by omega), Array.getElem?_setIfInBounds_ne (show m * 3 + 1 ≠ i * 3 by omega), Array.getElem?_setIfInBounds_ne (show m * 3 + 1 ≠ i * 3 + 1 by omega), Array.getElem?_setIfInBounds_ne (show m * 3 + 1 ≠ i * 3 + 2 by omega), Array.getElem?_setIfInBounds_ne (show m * 3 ≠ i * 3 by omega), Array.getElem?_setIfInBounds_ne (show m * 3 ≠ i * 3 + 1 by omega), Array.getElem?_setIfInBounds_ne (show m * 3 ≠ i * 3 + 2 by omega)]
            exact this
          · have := M2.out.pop hl1
            rw [Hx1.out, ← Hy.out] at this
            exact this
          · intro i hi
            rw [itAt_take hi]
            exact Hq.out.all i (by omega)
        have w5 := hfW.get K5.out (by omega)
        have w4 := hfW.get K4.out (by omega)
        rw [← hW]
        have Hwp := Lib.hid hWp; have W5 := Lib.hid w5; have W4 := Lib.hid w4; have HfW := Lib.hid hfW
        clear hfW hWh hWi hWJ hWp w5 w4 hc4 hrun HM4 e2 e5 k1 k2 kz k5
        clear hW
        obtain ⟨bq, hx5⟩ : ∃ b : Bool, decide (at_ < m) = b := ⟨_, rfl⟩
        have hx7 : (bq = false ∧ ¬ at_ < m) ∨ (bq = true ∧ at_ < m) := by
          by_cases e : at_ < m
          · right; simp [e] at hx5; exact ⟨hx5, e⟩
          · left; simp [e] at hx5; exact ⟨hx5, e⟩
        have Hx7 := Lib.hid hx7; clear hx7
        go_upto_if 52 with fail
        go_cut [55] from 53 to 55 (fun _ wx => Hp J A fv nv bh bi bm m cap (takeF lt L at_) wx ∧ Fr (fun b => FJ b ∨ b = bi ∨ b = bm) W wx)
        case first =>
          clear hx5
          have hT : takeF lt L at_ = if at_ < m then settleF lt (L1.take m) at_ else L1.take m := by
            unfold takeF
            dsimp only
            rw [Hlen.out, Nat.add_sub_cancel, ← HL1.out]
          have HT := Lib.hid hT; clear hT
          rcases Hx7.out with ⟨rfl, e⟩ | ⟨rfl, e⟩
          · have He := Lib.hid e; clear e
            go_wp2_with fail
            go_meet
            exact ⟨by rw [HT.out, if_neg He.out]; exact Hwp.out, Fr.refl _ _⟩
          · have He := Lib.hid e; clear e
            go_wp2_with fail
            refine (Hwp.out.settle HL.out nh ni nm (by omega) He.out).mono ?_
            rintro e1 w1 ⟨rfl, h1, f1⟩
            have H1 := Lib.hid h1; have F1 := Lib.hid f1; clear h1 f1
            go_wp2_with fail
            go_meet
            exact ⟨by rw [HT.out, if_pos He.out]; exact H1.out, F1.out⟩
        case rest =>
          obtain ⟨hq, hf9⟩ := hcut
          have b9 : ∀ b, w.heap.size ≤ b → ¬ (FJ b ∨ b = bi ∨ b = bm) := by
            rintro b hb (h | h | h)
            · have := HL.out.bound w b Hh.out.j h; omega
            · omega
            · omega
          have v5 := hf9.get W5.out (b9 b5 g5)
          have v4 := hf9.get W4.out (b9 b4 g4)
          have v50 := cell_of v5 0
          have v51 := cell_of v5 1
          have v52 := cell_of v5 2
          have v40 := cell_of v4 0
          have v41 := cell_of v4 1
          have v42 := cell_of v4 2
          have y40 := free_of v4 0
          have y41 := free_of v4 1
          have y42 := free_of v4 2
          simp at v50 v51 v52 v40 v41 v42
          have V4 := Lib.hid v4; have HQ := Lib.hid hq; have Hf9 := Lib.hid hf9
          clear v5 v4 hq hf9 b9
          go_wp2_with fail
          have hb4 : ∀ b, b = b4 → b < w.heap.size → False := by omega
          have hfin := setCell_blk (o := 2) (setCell_blk (o := 1) (setCell_blk (o := 0) V4.out (.int .i64 (dU xv))) (.int .u32 (dI xv))) (.int .i64 xh)
          have g0 := cell_of hfin 0
          have g1 := cell_of hfin 1
          have g2 := cell_of hfin 2
          simp at g0 g1 g2
          refine bodyPost_ret (v := .agg #[.int .i64 (dU xv), .int .u32 (dI xv), .int .i64 xh]) (by simp [results, Tryz.results145, go_sem, g0, g1, g2]) rfl ⟨rfl, ?_, ?_⟩
          · show Hp J A fv nv bh bi bm m cap (takeF lt L at_) _
            have hfr : Fr (fun b => b = b4) _ _ := Fr.setCell (Fr.setCell (Fr.setCell (p := ⟨b4, 0, none⟩) (Fr.refl (fun b => b = b4) wc) (by intro _; rfl) (.int .i64 (dU xv))) (p := ⟨b4, 1, none⟩) (by intro _; rfl) (.int .u32 (dI xv))) (p := ⟨b4, 2, none⟩) (by intro _; rfl) (.int .i64 xh)
            exact HQ.out.fr hfr (HL.out.keep _ _ HQ.out.j (hfr.mono (fun b _ hb hF => by subst hb; have := HL.out.bound w b Hh.out.j hF; omega))) (by omega) (by omega) (by omega)
          · refine Fr.setCell (Fr.setCell (Fr.setCell ?_ (by intro h; exact (hb4 _ rfl h).elim) _) (by intro h; exact (hb4 _ rfl h).elim) _) (by intro h; exact (hb4 _ rfl h).elim) _
            refine ((((Hf.out.mono (G := fun b => FJ b ∨ b = bh ∨ b = bi ∨ b = bm) (fun _ _ h => h.elim)).trans Hf1.out ?_).trans Hf2.out ?_).trans HfW.out ?_).trans Hf9.out ?_
            · rintro b _ (h | h)
              · exact .inr (.inr (.inl h))
              · exact .inr (.inr (.inr h))
            · rintro b _ h; exact .inr (.inr (.inl h))
            · rintro b _ (h | h)
              · exact .inr (.inl h)
              · exact .inr (.inr (.inr h))
            · rintro b _ (h | h | h)
              · exact .inl h
              · exact .inr (.inr (.inl h))
              · exact .inr (.inr (.inr h))
end
end Go.Proofs.YtebdcahjlcgonaaGreat.Du
namespace Go.Proofs.YtebdcahjlcgonaaGreat.Du
open Go.RowKit
section
variable {J : World → Prop} {FJ : Nat → Prop} {A : Int → Prop} {fv : Value} {G : Nat → Prop} {bh : Nat} {L : List It} {next : Int} {w : World}
variable {lt : Int → Int → Bool} {fl : Nat} {caps : Array Value} (hL : LessOk Tryz.prog fv lt J FJ A fl caps)
include hL
theorem none_ok (h : HeapIs J FJ A fv G bh L next w) : Calls Tryz.prog 122 #[.pointer (some ⟨bh, 0, none⟩)] w fun e w' => e = .returned (.bool false) ∧ w = w' := by
  obtain ⟨sv, bm, hH, _⟩ := h.ex
  have hfv := hL.eq
  subst hfv
  have c0 := cell_of hH 0
  simp at c0
  have q := fun w => run_eql_func_nil (P := Tryz.prog) Tryz.underlying115 w (.func fl) #[] caps
  clear hL h hH
  go_enter Tryz.func122, Tryz.ntmps122
  go_wp2_with fail
  go_ret
  exact ⟨rfl, rfl⟩
theorem HeapIs.keepFr (h : HeapIs J FJ A fv G bh L next w) {w' : World} (hf : Fr (fun _ => False) w w') : HeapIs J FJ A fv G bh L next w' :=
  h.fr hf (hL.keep _ _ h.j (hf.mono (fun _ _ x => x.elim))) (fun _ _ x => x)
omit hL in
theorem row_at {sv : Value} (h : Row w 203 3 sv L.length (flat L)) (h0 : L ≠ []) : ∃ bi cap arr, sv = .slice (some ⟨bi, 0, none⟩) L.length cap ∧ L.length ≤ cap ∧ cap ≤ maxLen ∧ w.heap[bi]? = some (.cells arr 203 (0, 0)) ∧ arr.size = cap * 3 ∧ Cells3 arr L := by
  rcases h.2 with ⟨_, h1⟩ | ⟨g, cap, cur, rfl, _, h1, h2, h3, h4, h5⟩
  · exact absurd (List.eq_nil_of_length_eq_zero h1) h0
  · exact ⟨g, cap, cur, rfl, h2, h3, h1, h4, cells3_of_take h5⟩
abbrev zeroT : Value := .agg #[.int .i64 0, .int .u32 0]
noncomputable abbrev dueT (x : Int) : Value := .agg #[.int .i64 (dU x), .int .u32 (dI x)]
theorem least_none (h : HeapIs J FJ A fv G bh [] next w) : Calls Tryz.prog 99 #[.pointer (some ⟨bh, 0, none⟩)] w fun e w' => e = .returned (.tuple #[zeroT, .int .i64 0, .bool false]) ∧ Fr (fun _ => False) w w' := by
  have f0 : Fr (fun _ => False) w (w.alloc (.cells #[.int .i64 0, .int .u32 0] 114)) := Fr.alloc (Fr.refl _ _) _
  have h' := HeapIs.keepFr hL h f0
  obtain ⟨sv, bm, hH, hR, _⟩ := h'.ex
  have c1 := cell_of hH 1
  simp at c1
  obtain ⟨sa, sc, hsv⟩ : ∃ a c, sv = .slice a 0 c := by
    rcases hR.2 with ⟨rfl, h0⟩ | ⟨g, cap, cur, rfl, _⟩
    · exact ⟨none, 0, rfl⟩
    · exact ⟨_, _, rfl⟩
  subst hsv
  have HL := Lib.hid hL; have Hh := Lib.hid h'
  clear hL h h' hH hR f0
  go_enter Tryz.func99, Tryz.ntmps99
  go_wp2_with fail
  refine (none_ok HL.out Hh.out).mono ?_
  rintro e w' ⟨rfl, rfl⟩
  go_wp2_with fail
  have g0 : ((w.alloc (.cells #[.int .i64 0, .int .u32 0] 114)).alloc (.cells #[.int .i64 0, .int .u32 0] 114)).heap[w.heap.size]? = some (.cells #[.int .i64 0, .int .u32 0] 114 (0, 0)) := by
    simp only [heap_alloc_get, World.size_alloc]; simp
  have g1 := cell_of g0 0
  have g2 := cell_of g0 1
  simp at g1 g2
  refine bodyPost_ret (v := .tuple #[zeroT, .int .i64 0, .bool false]) ?_ rfl ⟨rfl, Fr.alloc (Fr.alloc (Fr.refl _ _) _) _⟩
  simp [results, Tryz.f99, go_sem]
theorem least_some (h : HeapIs J FJ A fv G bh L next w) (h0 : L ≠ []) : Calls Tryz.prog 99 #[.pointer (some ⟨bh, 0, none⟩)] w fun e w' => e = .returned (.tuple #[dueT (itAt L 0).1, .int .i64 (itAt L 0).2, .bool true]) ∧ Fr (fun _ => False) w w' := by
  have f0 : Fr (fun _ => False) w (w.alloc (.cells #[.int .i64 0, .int .u32 0] 114)) := Fr.alloc (Fr.refl _ _) _
  have h' := HeapIs.keepFr hL h f0
  have gz : (w.alloc (.cells #[.int .i64 0, .int .u32 0] 114)).heap[w.heap.size]? = some (.cells #[.int .i64 0, .int .u32 0] 114 (0, 0)) := heap_alloc_at _ _
  obtain ⟨sv, bm, hH, hR, _⟩ := h'.ex
  obtain ⟨bi, cap, arr, rfl, _, _, hI, hs, hc⟩ := row_at hR h0
  have c1 := cell_of hH 1
  simp at c1
  have hlen := h.len
  have hpos : 0 < L.length := List.length_pos_iff.2 h0
  have d0 := (cell_of hI (0 * 3)).trans (hc 0 hpos).1
  have d1 := (cell_of hI (0 * 3 + 1)).trans (hc 0 hpos).2.1
  have d2 := (cell_of hI (0 * 3 + 2)).trans (hc 0 hpos).2.2
  simp only [Nat.zero_mul, Nat.zero_add] at d0 d1 d2
  have z0 : (w.alloc (.cells #[.int .i64 0, .int .u32 0] 114)).cell? ⟨w.heap.size, 0, none⟩ = some (.int .i64 0) := (cell_of gz 0).trans (by rfl)
  have z1 : (w.alloc (.cells #[.int .i64 0, .int .u32 0] 114)).cell? ⟨w.heap.size, 1, none⟩ = some (.int .u32 0) := (cell_of gz 1).trans (by rfl)
  have y0 := free_of gz 0
  have y1 := free_of gz 1
  have hpos' : (0 : Int) < (L.length : Int) := by omega
  have hne : ((L.length : Int) == 0) = false := by simp; omega
  obtain ⟨xv, hxv⟩ : ∃ x, x = (itAt L 0).1 := ⟨_, rfl⟩
  obtain ⟨xh, hxh⟩ : ∃ x, x = (itAt L 0).2 := ⟨_, rfl⟩
  rw [← hxv] at d0 d1 ⊢
  rw [← hxh] at d2 ⊢
  have n1 : ¬ bh = w.heap.size := fun e => by have := h.bd bh h.gh; omega
  have n2 : ¬ w.heap.size = bh := fun e => n1 e.symm
  have n3 : ¬ bi = w.heap.size := fun e => by rw [e, gz] at hI; simp at hI
  have n4 : ¬ w.heap.size = bi := fun e => n3 e.symm
  have HL := Lib.hid hL; have Hh := Lib.hid h'; have F0 := Lib.hid f0; have Gz := Lib.hid gz
  clear hL h h' hH hR hs hc h0 f0 gz hxv hxh hI
  go_enter Tryz.func99, Tryz.ntmps99
  go_upto_region 1 with fail
  generalize (w.alloc (.cells #[.int .i64 0, .int .u32 0] 114)) = W at *
  generalize hbz : w.heap.size = bz at *
  go_wp2_with fail
  refine (none_ok HL.out Hh.out).mono ?_
  rintro e w' ⟨rfl, rfl⟩
  go_wp2_with fail
  go_region
  go_wp2_with fail
  have hfin := setCell_blk (o := 1) (setCell_blk (o := 0) Gz.out (.int .i64 (dU xv))) (.int .u32 (dI xv))
  have g1 := cell_of hfin 0
  have g2 := cell_of hfin 1
  simp at g1 g2
  refine bodyPost_ret (v := .tuple #[dueT xv, .int .i64 xh, .bool true]) ?_ rfl ⟨rfl, ?_⟩
  · simp [results, Tryz.f99, go_sem, g1, g2]
  · refine Fr.toNew (Fr.drew (Fr.setCell (p := ⟨bz, 1, none⟩) (Fr.setCell (p := ⟨bz, 0, none⟩) (F0.out.mono (fun _ _ h => h.elim)) (fun _ => ?_) _) (fun _ => ?_) _))
    all_goals (rw [hbz]; exact Nat.le_refl _)
end
end Go.Proofs.YtebdcahjlcgonaaGreat.Du
namespace Go.Proofs.YtebdcahjlcgonaaGreat.Du
open Go.RowKit
def pushF (lt : Int → Int → Bool) (L : List It) (v next : Int) : List It := settleF lt (L ++ [(v, next)]) L.length
theorem Tryz.infoDueItem : (Tryz.prog.info? 203).map (fun i => (i.zero, i.size, i.bytes)) = some (some (.agg #[.int .i64 0, .int .u32 0, .int .i64 0]), 3, 24) := by kernel_rfl
section
variable {J : World → Prop} {FJ : Nat → Prop} {A : Int → Prop} {fv : Value} {G : Nat → Prop} {bh : Nat} {L : List It} {next : Int} {w : World}
variable {lt : Int → Int → Bool} {fl : Nat} {caps : Array Value} (hL : LessOk Tryz.prog fv lt J FJ A fl caps)
include hL
set_option maxRecDepth 100000 in
set_option maxHeartbeats 1000000 in
theorem push_room {w0 : World} (h0' : HeapIs J FJ A fv G bh L next w0) (hn : L.length < 65536) (hx : next < 5000000000) {v : Int} (hv : A v) :
    Calls Tryz.prog 90 #[.pointer (some ⟨bh, 0, none⟩), dueT v] w0 fun e w' => e = .returned (.tuple #[.int .i64 next, .int .i64 0]) ∧
      ∃ G', HeapIs J FJ A fv G' bh (pushF lt L v next) (next + 1) w' ∧ Fr (fun b => FJ b ∨ G b) w0 w' ∧ Grew w0 G G' := by
  have f01 : Fr (fun _ => False) w0 (w0.alloc (.cells #[.int .i64 (dU v), .int .u32 (dI v)] 114)) := Fr.alloc (Fr.refl _ _) _
  have gz : (w0.alloc (.cells #[.int .i64 (dU v), .int .u32 (dI v)] 114)).heap[w0.heap.size]? = some (.cells #[.int .i64 (dU v), .int .u32 (dI v)] 114 (0, 0)) := heap_alloc_at _ _
  have h := HeapIs.keepFr hL h0' f01
  have hxG : ∀ b, G b → b < w0.heap.size := h0'.bd
  refine Calls.mono (R := fun e w' => ∃ w1 : World, Fr (fun _ => False) w0 w1 ∧ e = .returned (.tuple #[.int .i64 next, .int .i64 0]) ∧ ∃ G', HeapIs J FJ A fv G' bh (pushF lt L v next) (next + 1) w' ∧ Fr (fun b => FJ b ∨ G b) w1 w' ∧ Grew w1 G G') ?_ (by
    rintro e w' ⟨w1, f1, rfl, G', a1, a2, a3⟩
    exact ⟨rfl, G', a1, (f1.mono (fun _ _ h => h.elim)).trans a2 (fun _ _ h => h), fun b hb => (a3 b hb).imp id (fun h => Nat.le_trans f1.size h)⟩)
  go_enter Tryz.func90, Tryz.ntmps90
  go_upto_region 1 with fail
  obtain ⟨w, hwe⟩ : ∃ w, w = w0.alloc (.cells #[.int .i64 (dU v), .int .u32 (dI v)] 114) := ⟨_, rfl⟩
  rw [← hwe] at f01 gz h ⊢
  obtain ⟨bx, hbx⟩ : ∃ bx, bx = w0.heap.size := ⟨_, rfl⟩
  rw [← hbx] at gz hxG ⊢
  have bz0 : w.cell? ⟨bx, 0, none⟩ = some (.int .i64 (dU v)) := (cell_of gz 0).trans (by rfl)
  have bz1 : w.cell? ⟨bx, 1, none⟩ = some (.int .u32 (dI v)) := (cell_of gz 1).trans (by rfl)
  have nbx : ¬ bh = bx := fun e => by have := hxG bh h.gh; omega
  have nbx' : ¬ bx = bh := fun e => nbx e.symm
  have F01 := Lib.hid f01; have HxG := Lib.hid hxG; have Gz := Lib.hid gz
  clear f01 hxG hwe hbx h0' gz
  obtain ⟨sv, bm, hH, hR, ⟨f, hM, hP⟩, gm, gs⟩ := h.ex
  have c1 := cell_of hH 1
  have c2 := cell_of hH 2
  have c3 := cell_of hH 3
  have z1 := free_of hH 1
  have z3 := free_of hH 3
  simp at c1 c2 c3
  obtain ⟨sa, sc, hsv⟩ : ∃ a c, sv = .slice a L.length c := by
    rcases hR.2 with ⟨rfl, h0⟩ | ⟨g, cap, cur, rfl, _⟩
    · exact ⟨none, 0, by rw [h0]⟩
    · exact ⟨_, _, rfl⟩
  have h0 := h.nx
  have hge : decide (65536 ≤ L.length) = false := by simp; omega
  have hge' : decide ((65536 : Int) ≤ (L.length : Int)) = false := by simp; omega
  have Hn := Lib.hid hn; clear hn
  have HL := Lib.hid hL; have Hh := Lib.hid h; have HR := Lib.hid hR; have HH := Lib.hid hH
  have HM := Lib.hid hM; have HP := Lib.hid hP; have Gs := Lib.hid gs; have Gm := Lib.hid gm
  clear hL h hH hR hM hP gs gm
  subst hsv
  go_wp2_with fail
  refine (none_ok HL.out Hh.out).mono ?_
  rintro e w' ⟨rfl, rfl⟩
  go_upto_region 7 with fail
  go_cut [6] (fun s6 wx => s6 = .int .i64 next ∧ ∃ sv', wx.heap[bh]? = some (.cells #[fv, sv', .map (some bm), .int .i64 (next + 1)] 165 (0, 0)) ∧ Row wx 203 3 sv' (L.length + 1) (flat (L ++ [(v, next)])) ∧ Fr (fun b => b = bh ∨ (Value.slice sa L.length sc).ownBlock = some b) w wx ∧
    (sv'.ownBlock = (Value.slice sa L.length sc).ownBlock ∨ ∃ b, sv'.ownBlock = some b ∧ w.heap.size ≤ b))
  case first =>
    obtain ⟨i0, hi, hz0, hz1, hz2⟩ := info_parts Tryz.infoDueItem
    have hfr : Fr (fun b => b = bh) w ((w.setCell ⟨bh, 3, none⟩ (.int .i64 (next + 1))).drew.alloc (.cells #[.int .i64 (dU v), .int .u32 (dI v), .int .i64 next] 203)) := Fr.alloc (Fr.drew (Fr.setCell (Fr.refl _ _) (by intro _; rfl) _)) _
    have hne : (Value.slice sa L.length sc).ownBlock ≠ some bh := by
      intro e
      rcases HR.out.2 with ⟨e2, _⟩ | ⟨g, cap, cur, e2, _, h2, _⟩
      · rw [e2] at e; simp [Value.ownBlock] at e
      · rw [e2] at e; simp only [Value.ownBlock, Option.some.injEq] at e
        rw [e, HH.out] at h2; simp at h2
    have hR2 := Row.fr HR.out hfr (fun b hb e => hne (by rw [hb, e]))
    obtain ⟨v', w3, hrun, hR3, hf3, ho3⟩ := run_append_fr (P := Tryz.prog) _ 163 163 203 i0 _ 3 24 Tryz.underlying163 hi hz0 hz1 hz2 rfl (by decide) _ _ _ hR2 ⟨w.heap.size, 0, none⟩ 1 1 [.int .i64 (dU v), .int .u32 (dI v), .int .i64 next] rfl
      (by intro j u hu; match j, hu with
          | 0, hu => simp at hu; subst hu; simp [Addr.add, World.cell?_alloc_at]
          | 1, hu => simp at hu; subst hu; simp [Addr.add, World.cell?_alloc_at]
          | 2, hu => simp at hu; subst hu; simp [Addr.add, World.cell?_alloc_at])
      (by intro u hu; simp at hu; rcases hu with rfl | rfl | rfl <;> rfl) (by unfold maxLen; have := Hn.out; omega) (by have := Hn.out; omega)
    have hW2 : ((w.setCell ⟨bh, 3, none⟩ (.int .i64 (next + 1))).drew.alloc (.cells #[.int .i64 (dU v), .int .u32 (dI v), .int .i64 next] 203)).heap[bh]? = some (.cells #[fv, .slice sa L.length sc, .map (some bm), .int .i64 (next + 1)] 165 (0, 0)) := by
      rw [heap_alloc_old _ _ _ (by simpa using lt_of_block HH.out)]
      exact setCell_blk HH.out _
    have e1A : (World.alloc (w.setCell ⟨bh, 3, none⟩ (.int .i64 (next + 1))) (.cells #[.int .i64 (dU v), .int .u32 (dI v), .int .i64 next] 203)).cell? ⟨bh, 1, none⟩ = some (.slice sa L.length sc) := (cell_of hW2 1).trans (by rfl)
    have hw3 := hf3.get hW2 hne
    obtain ⟨a', c', hv'⟩ : ∃ a' c', v' = .slice a' (L.length + 1) c' := by
      rcases hR3.2 with ⟨rfl, h0⟩ | ⟨g, cap, cur, rfl, _⟩
      · exact ⟨none, 0, by rw [h0]⟩
      · exact ⟨_, _, rfl⟩
    subst hv'
    have x1 := cell_of hw3 1
    have y1 := free_of hw3 1
    simp at x1
    have Hw3 := Lib.hid hw3; have HR3 := Lib.hid hR3; have Hf3 := Lib.hid hf3; have Ho3 := Lib.hid ho3; have Hfr := Lib.hid hfr; have Hne := Lib.hid hne
    clear hw3 hR3 hf3 ho3 hfr hne hR2 hW2 hi hz0 hz1 hz2 hge hge'
    have Hrun := Lib.hid hrun; clear hrun
    go_upto_region 7 with fail
    refine region_any (by kernel_rfl) ?_
    refine wpAny_take (i := 0) (v := ?_) rfl (by kernel_rfl) (by kernel_rfl) (by kernel_rfl) (fun _ _ _ h => h) (Or.inl ⟨by rfl, ?_⟩) ?_
    rotate_left
    · intro w'; go_simp; try with_reducible rfl
    try simp only [Act.put, List.getElem_toArray, List.getElem_cons_zero, List.setIfInBounds_toArray, List.set_cons_zero, List.set_cons_succ]
    refine wpAny_take (i := 1) (v := ?_) rfl (by kernel_rfl) (by kernel_rfl) (by kernel_rfl) (fun _ _ _ h => h) (Or.inl ⟨by rfl, ?_⟩) ?_
    rotate_left
    · intro w'; go_simp; try with_reducible rfl
    try simp only [Act.put, List.getElem_toArray, List.getElem_cons_zero, List.getElem_cons_succ, List.setIfInBounds_toArray, List.set_cons_zero, List.set_cons_succ]
    refine wpAny_take (i := 2) (v := ?_) rfl (by kernel_rfl) (by kernel_rfl) (by kernel_rfl) (fun _ _ _ h => h) (Or.inl ⟨by rfl, ?_⟩) ?_
    rotate_left
    · intro w'; go_simp; try with_reducible rfl
    try simp only [Act.put, List.getElem_toArray, List.getElem_cons_zero, List.getElem_cons_succ, List.setIfInBounds_toArray, List.set_cons_zero, List.set_cons_succ]
    refine wpAny_take (i := 3) (v := ?_) rfl (by kernel_rfl) (by kernel_rfl) (by kernel_rfl) (fun _ _ _ h => h) (Or.inl ⟨by rfl, ?_⟩) ?_
    rotate_left
    · intro w'; go_simp; try with_reducible rfl
    try simp only [Act.put, List.getElem_toArray, List.getElem_cons_zero, List.getElem_cons_succ, List.setIfInBounds_toArray, List.set_cons_zero, List.set_cons_succ]
    refine wpAny_take (i := 6) (v := ?_) rfl (by kernel_rfl) (by kernel_rfl) (by kernel_rfl) (fun _ _ _ h => h) (Or.inl ⟨by rfl, ?_⟩) ?_
    rotate_left
    · intro w'; go_simp; try with_reducible rfl
    try simp only [Act.put, List.getElem_toArray, List.getElem_cons_zero, List.getElem_cons_succ, List.setIfInBounds_toArray, List.set_cons_zero, List.set_cons_succ]
    refine wpAny_ready (rs := [4, 5]) (by kernel_rfl) (by simp) ?_
    refine AllReady.cons rfl (fun K hK => ?_) (AllReady.cons rfl (fun K hK => ?_) AllReady.nil)
    · have HK := Lib.hid hK; clear hK
      go_simp
      refine HK.out _ _ ?_
      clear HK K
      try simp only [Act.put, List.getElem_toArray, List.getElem_cons_zero, List.getElem_cons_succ, List.setIfInBounds_toArray, List.set_cons_zero, List.set_cons_succ]
      refine wpAny_ready (rs := [5]) (by kernel_rfl) (by simp) ?_
      refine AllReady.cons rfl (fun K hK => ?_) AllReady.nil
      have HK := Lib.hid hK; clear hK
      go_simp
      refine HK.out _ _ ?_
      clear HK K
      try simp only [Act.put, List.getElem_toArray, List.getElem_cons_zero, List.getElem_cons_succ, List.setIfInBounds_toArray, List.set_cons_zero, List.set_cons_succ]
      refine wpAny_take (i := 7) (v := ?_) rfl (by kernel_rfl) (by kernel_rfl) (by kernel_rfl) (fun _ _ _ h => h) (Or.inl ⟨by rfl, ?_⟩) ?_
      rotate_left
      · intro w'; go_simp; try with_reducible rfl
      try simp only [Act.put, List.getElem_toArray, List.getElem_cons_zero, List.getElem_cons_succ, List.setIfInBounds_toArray, List.set_cons_zero, List.set_cons_succ]
      refine wpAny_ready (rs := [8]) (by kernel_rfl) (by simp) ?_
      refine AllReady.cons rfl (fun K hK => ?_) AllReady.nil
      have HK := Lib.hid hK; clear hK
      go_simp
      refine HK.out _ _ ?_
      clear HK K
      try simp only [Act.put, List.getElem_toArray, List.getElem_cons_zero, List.getElem_cons_succ, List.setIfInBounds_toArray, List.set_cons_zero, List.set_cons_succ]
      refine wpAny_ready (rs := [9]) (by kernel_rfl) (by simp) ?_
      refine AllReady.cons rfl (fun K hK => ?_) AllReady.nil
      refine ite_take (by kernel_rfl) ?_
      refine wp_append_run rfl rfl rfl Hrun.out ?_
      refine hK _ _ ?_
      clear hK K
      try simp only [Act.put, List.getElem_toArray, List.getElem_cons_zero, List.getElem_cons_succ, List.setIfInBounds_toArray, List.set_cons_zero, List.set_cons_succ]
      refine wpAny_take (i := 10) (v := ?_) rfl (by kernel_rfl) (by kernel_rfl) (by kernel_rfl) (fun _ _ _ h => h) (Or.inl ⟨by rfl, ?_⟩) ?_
      rotate_left
      · intro w'; go_simp; try with_reducible rfl
      try simp only [Act.put, List.getElem_toArray, List.getElem_cons_zero, List.getElem_cons_succ, List.setIfInBounds_toArray, List.set_cons_zero, List.set_cons_succ]
      refine wpAny_take (i := 11) (v := ?_) rfl (by kernel_rfl) (by kernel_rfl) (by kernel_rfl) (fun _ _ _ h => h) (Or.inl ⟨by rfl, ?_⟩) ?_
      rotate_left
      · intro w'; go_simp; try with_reducible rfl
      try simp only [Act.put, List.getElem_toArray, List.getElem_cons_zero, List.getElem_cons_succ, List.setIfInBounds_toArray, List.set_cons_zero, List.set_cons_succ]
      refine wpAny_ready (rs := [12]) (by kernel_rfl) (by simp) ?_
      refine AllReady.cons rfl (fun K hK => ?_) AllReady.nil
      have HK := Lib.hid hK; clear hK
      go_simp
      refine HK.out _ _ ?_
      clear HK K
      try simp only [Act.put, List.getElem_toArray, List.getElem_cons_zero, List.getElem_cons_succ, List.setIfInBounds_toArray, List.set_cons_zero, List.set_cons_succ]
      refine wpAny_done (by kernel_rfl) ?_ _
      go_wp2_with fail
      go_meet
      have hlb := lt_of_block HH.out
      have hne3 : ∀ b, (Value.slice a' (L.length + 1) c').ownBlock = some b → b ≠ bh := by
        intro b hb e
        rcases Ho3.out with h | h
        · exact Hne.out (by rw [← h, hb, e])
        · rw [h] at hb; simp at hb; omega
      refine ⟨rfl, .slice a' (L.length + 1) c', ?_, ?_, ?_, ?_⟩
      · exact setCell_blk Hw3.out _
      · rw [flat_append]
        exact Row.fr HR3.out (Fr.setCell (F := fun b => b = bh) (Fr.refl _ _) (by intro _; rfl) _) (fun b hb => hne3 b hb)
      · exact Fr.setCell ((Hfr.out.mono (fun _ _ h => Or.inl h)).trans Hf3.out (fun _ _ h => Or.inr h)) (by intro _; exact Or.inl rfl) _
      · rcases Ho3.out with h | h
        · exact .inl h
        · refine .inr ⟨_, h, by simp⟩
    · have HK := Lib.hid hK; clear hK
      go_simp
      refine HK.out _ _ ?_
      clear HK K
      try simp only [Act.put, List.getElem_toArray, List.getElem_cons_zero, List.getElem_cons_succ, List.setIfInBounds_toArray, List.set_cons_zero, List.set_cons_succ]
      refine wpAny_take (i := 7) (v := ?_) rfl (by kernel_rfl) (by kernel_rfl) (by kernel_rfl) (fun _ _ _ h => h) (Or.inl ⟨by rfl, ?_⟩) ?_
      rotate_left
      · intro w'; go_simp; try with_reducible rfl
      try simp only [Act.put, List.getElem_toArray, List.getElem_cons_zero, List.getElem_cons_succ, List.setIfInBounds_toArray, List.set_cons_zero, List.set_cons_succ]
      refine wpAny_ready (rs := [4, 8]) (by kernel_rfl) (by simp) ?_
      refine AllReady.cons rfl (fun K hK => ?_) (AllReady.cons rfl (fun K hK => ?_) AllReady.nil)
      · have HK := Lib.hid hK; clear hK
        go_simp
        refine HK.out _ _ ?_
        clear HK K
        try simp only [Act.put, List.getElem_toArray, List.getElem_cons_zero, List.getElem_cons_succ, List.setIfInBounds_toArray, List.set_cons_zero, List.set_cons_succ]
        refine wpAny_ready (rs := [8]) (by kernel_rfl) (by simp) ?_
        refine AllReady.cons rfl (fun K hK => ?_) AllReady.nil
        have HK := Lib.hid hK; clear hK
        go_simp
        refine HK.out _ _ ?_
        clear HK K
        try simp only [Act.put, List.getElem_toArray, List.getElem_cons_zero, List.getElem_cons_succ, List.setIfInBounds_toArray, List.set_cons_zero, List.set_cons_succ]
        refine wpAny_ready (rs := [9]) (by kernel_rfl) (by simp) ?_
        refine AllReady.cons rfl (fun K hK => ?_) AllReady.nil
        refine ite_take (by kernel_rfl) ?_
        refine wp_append_run rfl rfl rfl Hrun.out ?_
        refine hK _ _ ?_
        clear hK K
        try simp only [Act.put, List.getElem_toArray, List.getElem_cons_zero, List.getElem_cons_succ, List.setIfInBounds_toArray, List.set_cons_zero, List.set_cons_succ]
        refine wpAny_take (i := 10) (v := ?_) rfl (by kernel_rfl) (by kernel_rfl) (by kernel_rfl) (fun _ _ _ h => h) (Or.inl ⟨by rfl, ?_⟩) ?_
        rotate_left
        · intro w'; go_simp; try with_reducible rfl
        try simp only [Act.put, List.getElem_toArray, List.getElem_cons_zero, List.getElem_cons_succ, List.setIfInBounds_toArray, List.set_cons_zero, List.set_cons_succ]
        refine wpAny_take (i := 11) (v := ?_) rfl (by kernel_rfl) (by kernel_rfl) (by kernel_rfl) (fun _ _ _ h => h) (Or.inl ⟨by rfl, ?_⟩) ?_
        rotate_left
        · intro w'; go_simp; try with_reducible rfl
        try simp only [Act.put, List.getElem_toArray, List.getElem_cons_zero, List.getElem_cons_succ, List.setIfInBounds_toArray, List.set_cons_zero, List.set_cons_succ]
        refine wpAny_ready (rs := [12]) (by kernel_rfl) (by simp) ?_
        refine AllReady.cons rfl (fun K hK => ?_) AllReady.nil
        have HK := Lib.hid hK; clear hK
        go_simp
        refine HK.out _ _ ?_
        clear HK K
        try simp only [Act.put, List.getElem_toArray, List.getElem_cons_zero, List.getElem_cons_succ, List.setIfInBounds_toArray, List.set_cons_zero, List.set_cons_succ]
        refine wpAny_done (by kernel_rfl) ?_ _
        go_wp2_with fail
        go_meet
        have hlb := lt_of_block HH.out
        have hne3 : ∀ b, (Value.slice a' (L.length + 1) c').ownBlock = some b → b ≠ bh := by
          intro b hb e
          rcases Ho3.out with h | h
          · exact Hne.out (by rw [← h, hb, e])
          · rw [h] at hb; simp at hb; omega
        refine ⟨rfl, .slice a' (L.length + 1) c', ?_, ?_, ?_, ?_⟩
        · exact setCell_blk Hw3.out _
        · rw [flat_append]
          exact Row.fr HR3.out (Fr.setCell (F := fun b => b = bh) (Fr.refl _ _) (by intro _; rfl) _) (fun b hb => hne3 b hb)
        · exact Fr.setCell ((Hfr.out.mono (fun _ _ h => Or.inl h)).trans Hf3.out (fun _ _ h => Or.inr h)) (by intro _; exact Or.inl rfl) _
        · rcases Ho3.out with h | h
          · exact .inl h
          · refine .inr ⟨_, h, by simp⟩
      · have HK := Lib.hid hK; clear hK
        go_simp
        refine HK.out _ _ ?_
        clear HK K
        try simp only [Act.put, List.getElem_toArray, List.getElem_cons_zero, List.getElem_cons_succ, List.setIfInBounds_toArray, List.set_cons_zero, List.set_cons_succ]
        refine wpAny_ready (rs := [4]) (by kernel_rfl) (by simp) ?_
        refine AllReady.cons rfl (fun K hK => ?_) AllReady.nil
        have HK := Lib.hid hK; clear hK
        go_simp
        refine HK.out _ _ ?_
        clear HK K
        try simp only [Act.put, List.getElem_toArray, List.getElem_cons_zero, List.getElem_cons_succ, List.setIfInBounds_toArray, List.set_cons_zero, List.set_cons_succ]
        refine wpAny_ready (rs := [9]) (by kernel_rfl) (by simp) ?_
        refine AllReady.cons rfl (fun K hK => ?_) AllReady.nil
        refine ite_take (by kernel_rfl) ?_
        refine wp_append_run rfl rfl rfl Hrun.out ?_
        refine hK _ _ ?_
        clear hK K
        try simp only [Act.put, List.getElem_toArray, List.getElem_cons_zero, List.getElem_cons_succ, List.setIfInBounds_toArray, List.set_cons_zero, List.set_cons_succ]
        refine wpAny_take (i := 10) (v := ?_) rfl (by kernel_rfl) (by kernel_rfl) (by kernel_rfl) (fun _ _ _ h => h) (Or.inl ⟨by rfl, ?_⟩) ?_
        rotate_left
        · intro w'; go_simp; try with_reducible rfl
        try simp only [Act.put, List.getElem_toArray, List.getElem_cons_zero, List.getElem_cons_succ, List.setIfInBounds_toArray, List.set_cons_zero, List.set_cons_succ]
        refine wpAny_take (i := 11) (v := ?_) rfl (by kernel_rfl) (by kernel_rfl) (by kernel_rfl) (fun _ _ _ h => h) (Or.inl ⟨by rfl, ?_⟩) ?_
        rotate_left
        · intro w'; go_simp; try with_reducible rfl
        try simp only [Act.put, List.getElem_toArray, List.getElem_cons_zero, List.getElem_cons_succ, List.setIfInBounds_toArray, List.set_cons_zero, List.set_cons_succ]
        refine wpAny_ready (rs := [12]) (by kernel_rfl) (by simp) ?_
        refine AllReady.cons rfl (fun K hK => ?_) AllReady.nil
        have HK := Lib.hid hK; clear hK
        go_simp
        refine HK.out _ _ ?_
        clear HK K
        try simp only [Act.put, List.getElem_toArray, List.getElem_cons_zero, List.getElem_cons_succ, List.setIfInBounds_toArray, List.set_cons_zero, List.set_cons_succ]
        refine wpAny_done (by kernel_rfl) ?_ _
        go_wp2_with fail
        go_meet
        have hlb := lt_of_block HH.out
        have hne3 : ∀ b, (Value.slice a' (L.length + 1) c').ownBlock = some b → b ≠ bh := by
          intro b hb e
          rcases Ho3.out with h | h
          · exact Hne.out (by rw [← h, hb, e])
          · rw [h] at hb; simp at hb; omega
        refine ⟨rfl, .slice a' (L.length + 1) c', ?_, ?_, ?_, ?_⟩
        · exact setCell_blk Hw3.out _
        · rw [flat_append]
          exact Row.fr HR3.out (Fr.setCell (F := fun b => b = bh) (Fr.refl _ _) (by intro _; rfl) _) (fun b hb => hne3 b hb)
        · exact Fr.setCell ((Hfr.out.mono (fun _ _ h => Or.inl h)).trans Hf3.out (fun _ _ h => Or.inr h)) (by intro _; exact Or.inl rfl) _
        · rcases Ho3.out with h | h
          · exact .inl h
          · refine .inr ⟨_, h, by simp⟩
  case rest =>
    obtain ⟨rfl, sv', hH2, hR2, hf2, ho2⟩ := hcut
    have e1 := cell_of hH2 1
    have e2 := cell_of hH2 2
    simp at e1 e2
    have hne2 : L.length + 1 ≠ 0 := by omega
    obtain ⟨bi, cap, arr, rfl, hcl, hcm, hI, hs, hc⟩ := row_at (L := L ++ [(v, next)]) (by simpa using hR2) (by simp)
    simp only [List.length_append, List.length_cons, List.length_nil, Nat.zero_add] at e1 hcl
    have gbm : bm < w.heap.size := HM.out.lt
    have nbm : ¬ (bm = bh ∨ (Value.slice sa L.length sc).ownBlock = some bm) := by
      rintro (e | e)
      · obtain ⟨l, c, hb, _⟩ := HM.out; rw [e, HH.out] at hb; simp at hb
      · obtain ⟨l, c, hb, _⟩ := HM.out
        rcases HR.out.2 with ⟨e3, _⟩ | ⟨g, cap2, cur, e3, _, h2, _⟩
        · rw [e3] at e; simp [Value.ownBlock] at e
        · rw [e3] at e; simp only [Value.ownBlock, Option.some.injEq] at e
          rw [e, hb] at h2; simp at h2
    have hM2 : IMap wc bm f := HM.out.fr hf2 nbm
    obtain ⟨es, c, hrun, hM3⟩ := run_update (P := Tryz.prog) Tryz.underlying162 Tryz.underlying3 (w := wc.drew) hM2 next (L.length : Int)
    have hc1 : ∀ a, (setMap wc.drew bm es c).cell? a = wc.cell? a := by
      obtain ⟨l, c0, hb, _⟩ := hM2; exact fun a => setMap_cell (w := wc.drew) hb es c a
    have ew : IntKind.i64.wrap (L.length : Int) = (L.length : Int) := IntWalk.i64_in _ (by have := Hn.out; omega)
    have HM3 := Lib.hid hM3; have HH2 := Lib.hid hH2; have Hf2 := Lib.hid hf2; have HI := Lib.hid hI; have Hs := Lib.hid hs; have Hc := Lib.hid hc; have Ho2 := Lib.hid ho2
    clear hM2 hM3 hH2 hf2 hI hs hc hR2 ho2 c1 c2 c3 z1 z3
    go_wp2_with fail
    go_region_held3 (fun w' => w'.cell? ⟨bh,1,none⟩ = some (.slice (some ⟨bi,0,none⟩) (L.length + 1) cap) ∧ w'.cell? ⟨bh,2,none⟩ = some (.map (some bm))) (go_keep) (fail)
    go_wp2_with fail
    have hpl : PlaceOf (fun j => if j = next then some (L.length : Int) else f j) (L ++ [(v, next)]) :=
      HP.out.push (fun i hi e => by have := Hh.out.hs i hi; omega)
    have hfx : Fr (fun b => b = bh ∨ (Value.slice sa L.length sc).ownBlock = some b ∨ b = bm) w (setMap wc.drew bm es c) := by
      refine Fr.setMap (Fr.drew (Hf2.out.mono ?_)) (fun _ => Or.inr (Or.inr rfl)) _ _
      rintro b _ (h | h)
      · exact .inl h
      · exact .inr (.inl h)
    have hg : ∀ b, (b = bh ∨ (Value.slice sa L.length sc).ownBlock = some b ∨ b = bm) → G b := by
      rintro b (rfl | h | rfl)
      · exact Hh.out.gh
      · exact Gs.out b h
      · exact Gm.out
    have hJ : J (setMap wc.drew bm es c) := HL.out.keep w _ Hh.out.j (hfx.mono (fun b _ hb => Hh.out.nj b (hg b hb)))
    have nbh : bh ≠ bm := by
      intro e
      obtain ⟨l, c, hb, _⟩ := HM.out; rw [← e, HH.out] at hb; simp at hb
    have hbiG : G bi ∨ w.heap.size ≤ bi := by
      rcases Ho2.out with h | ⟨b, h, h'⟩
      · exact .inl (Gs.out bi (by rw [← h]; rfl))
      · simp only [Value.ownBlock, Option.some.injEq] at h; subst h; exact .inr h'
    have nbi : ¬ FJ bi := by
      rcases hbiG with h | h
      · exact Hh.out.nj bi h
      · intro hF; have := HL.out.bound w bi Hh.out.j hF; omega
    have nbib : bi ≠ bm := by
      intro e
      obtain ⟨l, c, hb, _⟩ := HM3.out
      have h3 := setMap_ne (w := wc.drew) nbh es c
      have hIb := HI.out
      obtain ⟨l2, c2, hb2, _⟩ := HM.out.fr Hf2.out nbm
      rw [e, hb2] at hIb; simp at hIb
    have hHp : Hp J A fv (.int .i64 (next + 1)) bh bi bm (L.length + 1) cap (L ++ [(v, next)]) (setMap wc.drew bm es c) :=
      ⟨hJ, by rw [setMap_ne nbh, heap_drew]; exact (by simpa using HH2.out), ⟨arr, by rw [setMap_ne nbib, heap_drew]; exact HI.out, Hs.out, Hc.out⟩, ⟨_, HM3.out, hpl⟩,
        by have := all_append (p := fun x => A x.1) (x := (v, next)) Hh.out.all hv; simpa using this, by simp⟩
    refine (hHp.settle HL.out (Hh.out.nj _ Hh.out.gh) nbi (Hh.out.nj _ Gm.out) (by have := Hn.out; omega) (at_ := L.length) (by omega)).mono ?_
    rintro e1 w1 ⟨rfl, h1, f1⟩
    have H1 := Lib.hid h1; have F1 := Lib.hid f1; have Hfx := Lib.hid hfx; have Hg := Lib.hid hg; have HbiG := Lib.hid hbiG; have Nbi := Lib.hid nbi
    clear h1 f1 hfx hg hHp hJ hpl hbiG nbi
    go_wp2_with fail
    go_ret2
    have hperm : (pushF lt L v next).Perm (L ++ [(v, next)]) := settleF_perm lt (by simp)
    obtain ⟨arr', r1, r2, r3⟩ := H1.out.row
    obtain ⟨f', m1, m2⟩ := H1.out.map
    have hlen' : (pushF lt L v next).length = L.length + 1 := by rw [hperm.length_eq]; simp
    have hle : w.heap.size ≤ w1.heap.size := Nat.le_trans Hfx.out.size F1.out.size
    refine ⟨w, F01.out, rfl, fun b => G b ∨ b = bi, ⟨⟨.slice (some ⟨bi, 0, none⟩) (L.length + 1) cap, bm, H1.out.hH, ?_, ⟨f', m1, m2⟩, .inl Gm.out, ?_⟩, .inl Hh.out.gh, ?_, ?_, H1.out.j, ?_, ?_, ?_, by omega⟩, ?_, ?_⟩
    · show Row w1 _ 3 _ (pushF lt L v next).length _
      rw [hlen']
      refine ⟨by rw [flat_length]; exact congrArg (· * 3) hlen', .inr ⟨bi, cap, arr', rfl, Nat.zero_le _, r1, hcl, ?_, r2, ?_⟩⟩
      · exact hcm
      · rw [← hlen']; exact take_of_cells3 r3 (by show (pushF lt L v next).length * 3 ≤ _; rw [r2, hlen']; omega)
    · intro b hb; simp only [Value.ownBlock, Option.some.injEq] at hb; exact .inr hb.symm
    · rintro b (h | rfl)
      · exact Nat.lt_of_lt_of_le (Hh.out.bd b h) hle
      · exact lt_of_block r1
    · rintro b (h | rfl)
      · exact Hh.out.nj b h
      · exact Nbi.out
    · exact all_perm hperm (p := fun x => A x.1) (all_append (p := fun x => A x.1) Hh.out.all hv)
    · exact all_perm hperm (p := fun x => 0 ≤ x.2 ∧ x.2 < next + 1) (all_append (p := fun x => 0 ≤ x.2 ∧ x.2 < next + 1) (fun i hi => by have := Hh.out.hs i hi; omega) ⟨h0, by dsimp only; omega⟩)
    · rw [hlen']; have := Hn.out; omega
    · refine (Hfx.out.mono (fun b _ hb => .inr (Hg.out b hb))).trans F1.out ?_
      rintro b hb (h | h | h)
      · exact .inl h
      · subst h; rcases HbiG.out with h | h
        · exact .inr h
        · omega
      · subst h; exact .inr Gm.out
    · rintro b (h | rfl)
      · exact .inl h
      · exact HbiG.out
end
end Go.Proofs.YtebdcahjlcgonaaGreat.Du
namespace Go.Proofs.YtebdcahjlcgonaaGreat.Du
open Go.RowKit
section
variable {J : World → Prop} {FJ : Nat → Prop} {A : Int → Prop} {fv : Value} {G : Nat → Prop} {bh : Nat} {L : List It} {next : Int} {w : World}
variable {lt : Int → Int → Bool} {fl : Nat} {caps : Array Value}
theorem HeapIs.toHp (h : HeapIs J FJ A fv G bh L next w) (h0 : 0 < L.length) : ∃ bi bm cap, Hp J A fv (.int .i64 next) bh bi bm L.length cap L w ∧ L.length ≤ cap ∧ cap ≤ maxLen ∧ G bi ∧ G bm := by
  obtain ⟨sv, bm, hH, hR, hM, gm, gs⟩ := h.ex
  obtain ⟨bi, cap, arr, rfl, hcl, hcm, hI, hs, hc⟩ := row_at hR (List.length_pos_iff.1 h0)
  exact ⟨bi, bm, cap, ⟨h.j, hH, ⟨arr, hI, hs, hc⟩, hM, h.all, rfl⟩, hcl, hcm, gs bi rfl, gm⟩
/-- The heap behind a step that keeps its blocks. -/
theorem HeapIs.ofHp (h : HeapIs J FJ A fv G bh L next w) {L' : List It} {n bi bm cap : Nat} {w' : World} (hp : Hp J A fv (.int .i64 next) bh bi bm n cap L' w') (hn : n ≤ cap) (hc : cap ≤ maxLen) (gi : G bi) (gm : G bm)
    (hl : n ≤ L.length) (hsz : w.heap.size ≤ w'.heap.size) (hs : ∀ i, i < n → 0 ≤ (itAt L' i).2 ∧ (itAt L' i).2 < next) : HeapIs J FJ A fv G bh L' next w' := by
  have hlen := hp.len
  subst hlen
  obtain ⟨arr, r1, r2, r3⟩ := hp.row
  refine ⟨⟨_, bm, hp.hH, ⟨flat_length _, .inr ⟨bi, cap, arr, rfl, Nat.zero_le _, r1, hn, hc, r2, take_of_cells3 r3 (by rw [r2]; omega)⟩⟩, hp.map, gm, ?_⟩, h.gh, fun b hb => Nat.lt_of_lt_of_le (h.bd b hb) hsz, h.nj, hp.j, hp.all, hs, Nat.le_trans hl h.len, h.nx⟩
  intro b hb; simp only [Value.ownBlock, Option.some.injEq] at hb; rw [← hb]; exact gi
variable (hL : LessOk Tryz.prog fv lt J FJ A fl caps)
include hL
theorem drop_gone (h : HeapIs J FJ A fv G bh L next w) {hd : Int} (hg : ∀ i, i < L.length → (itAt L i).2 ≠ hd) :
    Calls Tryz.prog 113 #[.pointer (some ⟨bh, 0, none⟩), .int .i64 hd] w fun e w' => e = .returned (.bool false) ∧ w = w' := by
  obtain ⟨sv, bm, hH, hR, ⟨f, hM, hP⟩, gm, gs⟩ := h.ex
  have c2 := cell_of hH 2
  simp at c2
  have hlk := run_lookup2 (P := Tryz.prog) Tryz.underlying162 Tryz.underlying3 hM (Tryz.zeroValue3 w) hd
  rw [hP.gone hd hg] at hlk
  simp only [Option.getD_none, Option.isSome_none] at hlk
  have HL := Lib.hid hL; have Hh := Lib.hid h
  clear hL h hH hR hM hP gm gs hg
  go_enter Tryz.func113, Tryz.ntmps113
  go_wp2_with fail
  refine (none_ok HL.out Hh.out).mono ?_
  rintro e w' ⟨rfl, rfl⟩
  go_wp2_with fail
  go_ret
  exact ⟨rfl, rfl⟩
omit hL in
theorem takeF_sub {x : Nat} (hx : x < L.length) {p : It → Prop} (hp : ∀ i, i < L.length → p (itAt L i)) : ∀ i, i < L.length - 1 → p (itAt (takeF lt L x) i) := by
  have hq : ∀ i, i < L.length - 1 → p (itAt ((if x = L.length - 1 then L else swapL L x (L.length - 1)).take (L.length - 1)) i) := by
    intro i hi
    rw [itAt_take hi]
    split
    · exact hp i (by omega)
    · rw [itAt_swap hx (by omega)]
      split
      · exact hp x hx
      · split
        · exact hp _ (by omega)
        · exact hp i (by omega)
  have hl : ((if x = L.length - 1 then L else swapL L x (L.length - 1)).take (L.length - 1)).length = L.length - 1 := by
    split <;> simp [swapL_length]
  intro i hi
  unfold takeF
  dsimp only
  split
  · rename_i h1
    exact all_perm (settleF_perm lt (by rw [hl]; exact h1)) (by rw [hl]; exact hq) i (by rw [settleF_length lt (by rw [hl]; exact h1), hl]; exact hi)
  · exact hq i hi
theorem HeapIs.take (h : HeapIs J FJ A fv G bh L next w) {x : Nat} (hx : x < L.length) :
    Calls Tryz.prog 145 #[.pointer (some ⟨bh, 0, none⟩), .int .i64 x] w fun e w' => e = .returned (.agg #[.int .i64 (dU (itAt L x).1), .int .u32 (dI (itAt L x).1), .int .i64 (itAt L x).2]) ∧ HeapIs J FJ A fv G bh (takeF lt L x) next w' ∧ Fr (fun b => FJ b ∨ G b) w w' := by
  obtain ⟨bi, bm, cap, hp, hcl, hcm, gi, gm⟩ := h.toHp (by omega)
  refine (hp.take hL (h.nj _ h.gh) (h.nj _ gi) (h.nj _ gm) h.len hcl hx).mono ?_
  rintro e w' ⟨rfl, h1, f1⟩
  refine ⟨rfl, h.ofHp h1 (by omega) hcm gi gm (by omega) f1.size (takeF_sub hx (p := fun y => 0 ≤ y.2 ∧ y.2 < next) h.hs), f1.mono ?_⟩
  rintro b _ (hb | rfl | rfl | rfl)
  · exact .inl hb
  · exact .inr h.gh
  · exact .inr gi
  · exact .inr gm
theorem drop_there (h : HeapIs J FJ A fv G bh L next w) {i : Nat} (hi : i < L.length) :
    Calls Tryz.prog 113 #[.pointer (some ⟨bh, 0, none⟩), .int .i64 (itAt L i).2] w fun e w' => e = .returned (.bool true) ∧ HeapIs J FJ A fv G bh (takeF lt L i) next w' ∧ Fr (fun b => FJ b ∨ G b) w w' := by
  obtain ⟨bi, bm, cap, hp, hcl, hcm, gi, gm⟩ := h.toHp (by omega)
  obtain ⟨f, hM, hP⟩ := hp.map
  have c2 := cell_of hp.hH 2
  simp at c2
  have hlk := run_lookup2 (P := Tryz.prog) Tryz.underlying162 Tryz.underlying3 hM (Tryz.zeroValue3 w) (itAt L i).2
  rw [hP.here i hi] at hlk
  simp only [Option.getD_some, Option.isSome_some] at hlk
  obtain ⟨x, hx⟩ : ∃ x, x = (itAt L i).2 := ⟨_, rfl⟩
  rw [← hx] at hlk ⊢
  have HL := Lib.hid hL; have Hh := Lib.hid h
  clear hL h hM hP gm gi hp hcl hcm hx
  go_enter Tryz.func113, Tryz.ntmps113
  go_wp2_with fail
  refine (none_ok HL.out Hh.out).mono ?_
  rintro e w' ⟨rfl, rfl⟩
  go_wp2_with fail
  refine (Hh.out.take HL.out hi).mono ?_
  rintro e1 w1 ⟨rfl, h1, f1⟩
  have H1 := Lib.hid h1; have F1 := Lib.hid f1; clear h1 f1
  go_wp2_with fail
  go_ret
  exact ⟨rfl, H1.out, F1.out⟩
end
end Go.Proofs.YtebdcahjlcgonaaGreat.Du
namespace Go.Proofs.YtebdcahjlcgonaaGreat.Du
open Go.RowKit
def setF (lt : Int → Int → Bool) (L : List It) (i : Nat) (v : Int) : List It := settleF lt (L.set i (v, (itAt L i).2)) i
theorem PlaceOf.setv {f : Int → Option Int} {L : List It} (h : PlaceOf f L) {i : Nat} (hi : i < L.length) (v : Int) : PlaceOf f (L.set i (v, (itAt L i).2)) := by
  have e : ∀ n, (itAt (L.set i (v, (itAt L i).2)) n).2 = (itAt L n).2 := by
    intro n; rw [itAt_set _ _ _ _ hi]; split
    · rename_i h; rw [h]
    · rfl
  constructor
  · intro n hn; rw [e]; exact h.here n (by simpa using hn)
  · intro hd hg; apply h.gone; intro n hn; rw [← e]; exact hg n (by simpa using hn)
section
variable {J : World → Prop} {FJ : Nat → Prop} {A : Int → Prop} {fv : Value} {G : Nat → Prop} {bh : Nat} {L : List It} {next : Int} {w : World}
variable {lt : Int → Int → Bool} {fl : Nat} {caps : Array Value}
variable (hL : LessOk Tryz.prog fv lt J FJ A fl caps)
include hL
theorem new_ok (hj : J w) :
    Calls Tryz.prog 49 #[fv] w fun e w' => ∃ bh, e = .returned (.pointer (some ⟨bh, 0, none⟩)) ∧ w.heap.size ≤ bh ∧ Fr (fun _ => False) w w' ∧ ∃ G, HeapIs J FJ A fv G bh [] 0 w' ∧ ∀ b, G b → w.heap.size ≤ b := by
  have hfv := hL.eq
  have q := fun w => run_eql_func_nil (P := Tryz.prog) Tryz.underlying115 w (.func fl) #[] caps
  have hmm := @run_makeMap Tryz.prog
  have HL := Lib.hid hL; have Hj := Lib.hid hj
  subst hfv
  clear hL hj
  go_enter Tryz.func49, Tryz.ntmps49
  go_wp2_with fail
  go_ret
  have hf : Fr (fun _ => False) w ((w.alloc (.map #[] 0)).alloc (.cells #[.func (.func fl) #[] caps, .slice none 0 0, .map (some w.heap.size), .int .i64 0] 165)) := Fr.alloc (Fr.alloc (Fr.refl _ _) _) _
  have hJ := HL.out.keep _ _ Hj.out (hf.mono (fun _ _ h => h.elim))
  refine ⟨w.heap.size + 1, rfl, by omega, hf, fun b => b = w.heap.size ∨ b = w.heap.size + 1, ⟨⟨.slice none 0 0, w.heap.size, ?_, World.ownsRow_nil _ _ _ _, ⟨fun _ => none, ⟨[], 0, ?_, by simp, fun _ => rfl⟩, ⟨by simp, fun _ _ => rfl⟩⟩, .inl rfl, by simp [Value.ownBlock]⟩, .inr rfl, ?_, ?_, hJ, by simp, by simp, by simp, by omega⟩, by omega⟩
  · simp only [heap_alloc_get, World.size_alloc]; simp
  · simp only [heap_alloc_get, World.size_alloc]; simp
  · intro b hb; simp; omega
  · intro b hb hF
    have := HL.out.bound w b Hj.out hF
    omega
end
end Go.Proofs.YtebdcahjlcgonaaGreat.Du
namespace Go.Proofs.YtebdcahjlcgonaaGreat.Bk
open Go.RowKit
def encB (x : Bo) : List Value := [.int .u32 (x.1 : Int), .int .i64 x.2.1, .int .i64 x.2.2]
theorem encB_len (x : Bo) : (encB x).length = 3 := rfl
theorem encB_one (x : Bo) : ∀ v ∈ encB x, v.oneCell' = true := by
  intro v hv
  simp only [encB, List.mem_cons, List.not_mem_nil, or_false] at hv
  rcases hv with rfl | rfl | rfl <;> rfl
abbrev boV (x : Bo) : Value := .agg #[.int .u32 (x.1 : Int), .int .i64 x.2.1, .int .i64 x.2.2]
/-- A slice of bookings. -/
abbrev Bos (w : World) (sv : Value) (L : List Bo) : Prop := Els w 77 3 encB sv L
theorem Bos.cells {w : World} {sv : Value} {L : List Bo} (h : Bos w sv L) {k : Nat} (hk : k < L.length) :
    ∃ g cap, sv = .slice (some ⟨g, 0, none⟩) L.length cap ∧ w.cell? ⟨g, k * 3, none⟩ = some (.int .u32 (L[k].1 : Int)) ∧ w.cell? ⟨g, k * 3 + 1, none⟩ = some (.int .i64 L[k].2.1) ∧ w.cell? ⟨g, k * 3 + 2, none⟩ = some (.int .i64 L[k].2.2) := by
  obtain ⟨g, cap, e, hc⟩ := Els.cells encB_len h hk
  exact ⟨g, cap, e, hc 0 (by omega), hc 1 (by omega), hc 2 (by omega)⟩
theorem flatB_set {L : List Bo} {p : Nat} (hp : p < L.length) (x : Bo) : (L.set p x).flatMap encB = (((L.flatMap encB).set (p * 3) (.int .u32 (x.1 : Int))).set (p * 3 + 1) (.int .i64 x.2.1)).set (p * 3 + 2) (.int .i64 x.2.2) := by
  induction L generalizing p with
  | nil => simp at hp
  | cons y L ih =>
    cases p with
    | zero => simp [encB]
    | succ p =>
      have e1 : (p + 1) * 3 = p * 3 + 3 := by omega
      rw [List.set_cons_succ, List.flatMap_cons, List.flatMap_cons, ih (by simpa using hp), e1]
      simp [encB, List.set_cons_succ]
/-- A booking is laid over another one. -/
theorem Bos.put {w : World} {g n cap : Nat} {L : List Bo} (h : Bos w (.slice (some ⟨g, 0, none⟩) n cap) L) {p : Nat} (hp : p < L.length) (x : Bo) :
    Bos (((w.setCell ⟨g, p * 3, none⟩ (.int .u32 (x.1 : Int))).setCell ⟨g, p * 3 + 1, none⟩ (.int .i64 x.2.1)).setCell ⟨g, p * 3 + 2, none⟩ (.int .i64 x.2.2)) (.slice (some ⟨g, 0, none⟩) n cap) (L.set p x) := by
  rcases h.2 with ⟨_, h0⟩ | ⟨g', c', cur, e, _, h1, h2, h3, h4, h5⟩
  · omega
  · obtain ⟨e1, e2, e3⟩ := Value.slice.inj e
    obtain rfl : g = g' := by simpa using e1
    subst e2; subst e3
    refine ⟨by rw [flatB_set hp, List.length_set, List.length_set, List.length_set, List.length_set]; exact h.1, .inr ⟨g, cap, _, by rw [List.length_set], Nat.zero_le _, setCell_blk (setCell_blk (setCell_blk h1 _) _) _, by rw [List.length_set]; exact h2, h3, by simpa using h4, ?_⟩⟩
    rw [List.length_set, flatB_set hp, ← h5]
    simp only [Array.toList_setIfInBounds, List.take_set]
theorem Bos.till {w : World} {g n cap : Nat} {L : List Bo} (h : Bos w (.slice (some ⟨g, 0, none⟩) n cap) L) {p : Nat} (hp : p < L.length) (t : Int) :
    Bos (w.setCell ⟨g, p * 3 + 2, none⟩ (.int .i64 t)) (.slice (some ⟨g, 0, none⟩) n cap) (L.set p (L[p].1, L[p].2.1, t)) := by
  rcases h.2 with ⟨_, h0⟩ | ⟨g', c', cur, e, _, h1, h2, h3, h4, h5⟩
  · omega
  · obtain ⟨e1, e2, e3⟩ := Value.slice.inj e
    obtain rfl : g = g' := by simpa using e1
    subst e2; subst e3
    have hl : (L.flatMap encB).length = L.length * 3 := flatK_length encB_len L
    have k0 := flatK_get encB_len L p hp 0 (by omega)
    have k1 := flatK_get encB_len L p hp 1 (by omega)
    have e0 : (L.set p (L[p].1, L[p].2.1, t)).flatMap encB = (L.flatMap encB).set (p * 3 + 2) (.int .i64 t) := by
      rw [flatB_set hp]
      have s0 : (L.flatMap encB).set (p * 3) (.int .u32 (L[p].1 : Int)) = L.flatMap encB := by
        apply List.ext_getElem?
        intro j
        rw [List.getElem?_set]
        by_cases ej : p * 3 = j
        · subst ej; rw [if_pos rfl, if_pos (by omega)]; rw [Nat.add_zero] at k0; rw [k0]; rfl
        · rw [if_neg ej]
      have s1 : (L.flatMap encB).set (p * 3 + 1) (.int .i64 L[p].2.1) = L.flatMap encB := by
        apply List.ext_getElem?
        intro j
        rw [List.getElem?_set]
        by_cases ej : p * 3 + 1 = j
        · subst ej; rw [if_pos rfl, if_pos (by omega)]; rw [k1]; rfl
        · rw [if_neg ej]
      rw [s0, s1]
    refine ⟨by rw [e0, List.length_set, List.length_set]; exact h.1, .inr ⟨g, cap, _, by rw [List.length_set], Nat.zero_le _, setCell_blk h1 _, by rw [List.length_set]; exact h2, h3, by simpa using h4, ?_⟩⟩
    rw [List.length_set, e0, ← h5]
    simp only [Array.toList_setIfInBounds, List.take_set]
/-! ### The order of what is due -/
abbrev fvD : Value := .func (.func 50) #[] #[]
theorem due_box {w : World} {b : Nat} {x : Int} (h : w.heap[b]? = some (.cells #[.int .i64 (Du.dU x), .int .u32 (Du.dI x)] 114 (0, 0))) :
    w.cell? ⟨b, 0, none⟩ = some (.int .i64 (Du.dU x)) ∧ w.cell? ⟨b, 1, none⟩ = some (.int .u32 (Du.dI x)) := ⟨(cell_of h 0).trans rfl, (cell_of h 1).trans rfl⟩
abbrev HpD := Du.HeapIs (fun _ => True) (fun _ => False) (fun _ => True) fvD
theorem HpD.fr {G F : Nat → Prop} {bh : Nat} {L : List It} {next : Int} {w w' : World} (h : HpD G bh L next w) (f : Fr F w w') (hn : ∀ b, G b → ¬ F b) : HpD G bh L next w' := Du.HeapIs.fr h f trivial hn
/-! ### The book -/
/-- Where the parts of a book lie. -/
structure Pt where
  tp : Nat
  tv : Value
  ip : Nat
  ig : Nat
  N : Nat
  st : Nat
  sv : Value
  hp : Nat
  GH : Nat → Prop
  mp : Nat
  H : List It
  nh : Int
  f : Int → Option Int
/-- The blocks of a book. -/
def Pt.own (p : Pt) (bb x : Nat) : Prop := x = bb ∨ x = p.tp ∨ p.tv.ownBlock = some x ∨ x = p.ip ∨ x = p.ig ∨ p.sv.ownBlock = some x ∨ p.GH x ∨ x = p.mp
/-- Each block belongs to one part. -/
structure Lab (p : Pt) (bb : Nat) (lab : Nat → Nat) : Prop where
  l0 : lab bb = 0
  l1 : lab p.tp = 1
  l1v : ∀ x, p.tv.ownBlock = some x → lab x = 1 ∧ x ≠ p.tp
  l2 : lab p.ip = 2
  l2g : lab p.ig = 2
  l3 : ∀ x, p.sv.ownBlock = some x → lab x = 3
  l4 : ∀ x, p.GH x → lab x = 4
  l5 : lab p.mp = 5
abbrev headB (p : Pt) (b : Bk) (nx : Nat) : Obj := .cells #[.int .i64 (b.seats : Int), .int .i64 (b.codes : Int), .int .i64 (b.group : Int), .bool true, .int .i64 b.clock, .int .u32 (nx : Int), .pointer (some ⟨p.tp, 0, none⟩), .pointer (some ⟨p.ip, 0, none⟩), p.sv, .pointer (some ⟨p.hp, 0, none⟩), .map (some p.mp)] 73 (0, 0)
/-- The book b in block bb; nx stands in its head as the next id; of what is due LD is laid, of the seats LS. -/
structure BkP (p : Pt) (bb nx : Nat) (b : Bk) (LS LD : List Bo) (w : World) : Prop where
  head : w.heap[bb]? = some (headB p b nx)
  set : Bt.SetAt w p.tp p.tv (takenOf b.seats b.L)
  idx : Ix.IxAt w p.ip p.ig p.N b.codes (idsOf b.L) p.st
  row : Bos w p.sv (seatsOf b.seats LS)
  heap : HpD p.GH p.hp p.H p.nh w
  map : UMap w p.mp p.f
  due : Due LD p.H p.f
  nh : p.nh ≤ (b.next : Int)
  raw : Raw b
  lab : ∃ lab, Lab p bb lab
section
variable {p : Pt} {bb nx : Nat} {b : Bk} {LS LD : List Bo} {w w' : World}
theorem BkP.fr (h : BkP p bb nx b LS LD w) {F : Nat → Prop} (f : Fr F w w') (hn : ∀ x, p.own bb x → ¬ F x) : BkP p bb nx b LS LD w' :=
  ⟨f.get h.head (hn _ (.inl rfl)), h.set.fr f (hn _ (.inr (.inl rfl))) (fun _x hx => hn _ (.inr (.inr (.inl hx)))), h.idx.fr f (hn _ (.inr (.inr (.inr (.inl rfl))))) (hn _ (.inr (.inr (.inr (.inr (.inl rfl)))))),
   Row.fr h.row f (fun _x hx => hn _ (.inr (.inr (.inr (.inr (.inr (.inl hx))))))), h.heap.fr f (fun _x hx => hn _ (.inr (.inr (.inr (.inr (.inr (.inr (.inl hx)))))))), h.map.fr f (hn _ (.inr (.inr (.inr (.inr (.inr (.inr (.inr rfl)))))))), h.due, h.nh, h.raw, h.lab⟩
theorem BkP.keep (h : BkP p bb nx b LS LD w) (f : Fr (fun _ => False) w w') : BkP p bb nx b LS LD w' := h.fr f (fun _ _ h => h)
theorem BkP.lt (h : BkP p bb nx b LS LD w) {x : Nat} (hx : p.own bb x) : x < w.heap.size := by
  rcases hx with rfl | rfl | hx | rfl | rfl | hx | hx | rfl
  · exact lt_of_block h.head
  · exact h.set.lt
  · exact Row.lt h.set.row hx
  · obtain ⟨S, hr, _⟩ := h.idx; exact hr.head.lt
  · obtain ⟨S, hr, _⟩ := h.idx; exact hr.slots.lt
  · exact Row.lt h.row hx
  · exact h.heap.bd _ hx
  · exact h.map.lt
theorem BkP.c (h : BkP p bb nx b LS LD w) : w.cell? ⟨bb, 0, none⟩ = some (.int .i64 (b.seats : Int)) ∧ w.cell? ⟨bb, 1, none⟩ = some (.int .i64 (b.codes : Int)) ∧ w.cell? ⟨bb, 2, none⟩ = some (.int .i64 (b.group : Int)) ∧ w.cell? ⟨bb, 3, none⟩ = some (.bool true) ∧ w.cell? ⟨bb, 4, none⟩ = some (.int .i64 b.clock) ∧ w.cell? ⟨bb, 5, none⟩ = some (.int .u32 (nx : Int)) ∧ w.cell? ⟨bb, 6, none⟩ = some (.pointer (some ⟨p.tp, 0, none⟩)) ∧ w.cell? ⟨bb, 7, none⟩ = some (.pointer (some ⟨p.ip, 0, none⟩)) ∧ w.cell? ⟨bb, 8, none⟩ = some p.sv ∧ w.cell? ⟨bb, 9, none⟩ = some (.pointer (some ⟨p.hp, 0, none⟩)) ∧ w.cell? ⟨bb, 10, none⟩ = some (.map (some p.mp)) :=
  ⟨(cell_of h.head 0).trans rfl, (cell_of h.head 1).trans rfl, (cell_of h.head 2).trans rfl, (cell_of h.head 3).trans rfl, (cell_of h.head 4).trans rfl, (cell_of h.head 5).trans rfl, (cell_of h.head 6).trans rfl, (cell_of h.head 7).trans rfl, (cell_of h.head 8).trans rfl, (cell_of h.head 9).trans rfl, (cell_of h.head 10).trans rfl⟩
theorem BkP.z (h : BkP p bb nx b LS LD w) (k : Nat) : w.frozen? ⟨bb, k, none⟩ = false := free_of h.head k
/-- The row of the seats lies in a block of its own. -/
theorem BkP.seats (h : BkP p bb nx b LS LD w) : ∃ g cap, p.sv = .slice (some ⟨g, 0, none⟩) b.seats cap ∧ p.sv.ownBlock = some g ∧ (∀ k, w.frozen? ⟨g, k, none⟩ = false) ∧ ∀ k (_hk : k < b.seats), w.cell? ⟨g, k * 3, none⟩ = some (.int .u32 (((bSeat LS (k : Int)).getD (0, 0, 0)).1 : Int)) ∧ w.cell? ⟨g, k * 3 + 1, none⟩ = some (.int .i64 ((bSeat LS (k : Int)).getD (0, 0, 0)).2.1) ∧ w.cell? ⟨g, k * 3 + 2, none⟩ = some (.int .i64 ((bSeat LS (k : Int)).getD (0, 0, 0)).2.2) := by
  have hl := seatsOf_length b.seats LS
  have h0 : 0 < (seatsOf b.seats LS).length := by rw [hl]; exact h.raw.s0
  rcases h.row.2 with ⟨_, h00⟩ | ⟨g, cap, cur, e, _, h1, h2, h3, h4, h5⟩
  · omega
  · refine ⟨g, cap, by rw [e, hl], by rw [e]; rfl, free_of h1, fun k hk => ?_⟩
    obtain ⟨g', cap', e', c0, c1, c2⟩ := Bos.cells h.row (k := k) (by rw [hl]; exact hk)
    rw [e] at e'
    obtain ⟨e1, _, _⟩ := Value.slice.inj e'
    obtain rfl : g = g' := by simpa using e1
    rw [seatsOf_get] at c0 c1 c2
    exact ⟨c0, c1, c2⟩
end
/-- The book b in block bb, under G: its own blocks. -/
def BkAt (G : Nat → Prop) (bb : Nat) (b : Bk) (w : World) : Prop := ∃ p, BkP p bb b.next b b.L b.L w ∧ (∀ x, p.own bb x → G x) ∧ ∀ x, G x → x < w.heap.size
/-- The blocks of G' were G's, or are new. -/
def Grew (w : World) (G G' : Nat → Prop) : Prop := ∀ b, G' b → G b ∨ w.heap.size ≤ b
theorem Grew.refl (w : World) (G : Nat → Prop) : Grew w G G := fun _ h => .inl h
theorem Grew.trans {a b : World} {G H K : Nat → Prop} (h : Grew a G H) (k : Grew b H K) (hs : a.heap.size ≤ b.heap.size) : Grew a G K := fun x hx => by
  rcases k x hx with h1 | h1
  · exact h x h1
  · exact .inr (Nat.le_trans hs h1)
section
variable {G : Nat → Prop} {bb : Nat} {b : Bk} {w w' : World}
theorem BkAt.fr (h : BkAt G bb b w) {F : Nat → Prop} (f : Fr F w w') (hn : ∀ x, G x → ¬ F x) : BkAt G bb b w' := by
  obtain ⟨p, h1, h2, h3⟩ := h
  exact ⟨p, h1.fr f (fun x hx => hn x (h2 x hx)), h2, fun x hx => Nat.lt_of_lt_of_le (h3 x hx) f.size⟩
theorem BkAt.keep (h : BkAt G bb b w) (f : Fr (fun _ => False) w w') : BkAt G bb b w' := h.fr f (fun _ _ h => h)
theorem BkAt.raw (h : BkAt G bb b w) : Raw b := by obtain ⟨p, h1, _⟩ := h; exact h1.raw
theorem BkAt.bd (h : BkAt G bb b w) : ∀ x, G x → x < w.heap.size := by obtain ⟨p, _, _, h3⟩ := h; exact h3
theorem BkAt.gb (h : BkAt G bb b w) : G bb := by obtain ⟨p, _, h2, _⟩ := h; exact h2 _ (.inl rfl)
end
/-- A pointer at no book: nil, or at one that nobody made. -/
def NoBook (w : World) (p : Option Addr) : Prop := p = none ∨ ∃ b cs, p = some ⟨b, 0, none⟩ ∧ w.heap[b]? = some (.cells cs 73 (0, 0)) ∧ cs[3]? = some (.bool false)
theorem NoBook.fr {w w' : World} {p : Option Addr} (h : NoBook w p) (f : Fr (fun _ => False) w w') : NoBook w' p := by
  rcases h with h | ⟨b, cs, h1, h2, h3⟩
  · exact .inl h
  · exact .inr ⟨b, cs, h1, f.get h2 (fun h => h), h3⟩
end Go.Proofs.YtebdcahjlcgonaaGreat.Bk
namespace Go.Proofs.YtebdcahjlcgonaaGreat
open Go.RowKit Go.Shelf
/-- The blocks of p lie as they lay. -/
structure KeepsB (p : Nat → Prop) (W W' : World) : Prop where
  size : W.heap.size ≤ W'.heap.size
  blk : ∀ b, p b → b < W.heap.size → W'.heap[b]? = W.heap[b]?
theorem KeepsB.refl (p : Nat → Prop) (W : World) : KeepsB p W W := ⟨Nat.le_refl _, fun _ _ _ => rfl⟩
theorem KeepsB.trans {p : Nat → Prop} {A B C : World} (h : KeepsB p A B) (k : KeepsB p B C) : KeepsB p A C :=
  ⟨Nat.le_trans h.size k.size, fun b hb hl => (k.blk b hb (Nat.lt_of_lt_of_le hl h.size)).trans (h.blk b hb hl)⟩
theorem KeepsB.alloc {p : Nat → Prop} {A B : World} (h : KeepsB p A B) (o : Obj) : KeepsB p A (B.alloc o) :=
  h.trans ⟨by simp, fun b _ hl => Below.heap_alloc B o b hl⟩
theorem KeepsB.cell {p : Nat → Prop} {A B : World} (h : KeepsB p A B) {q : Addr} (hq : p q.block) (hl : q.block < A.heap.size) : B.cell? q = A.cell? q := World.cell?_of_block (w := A) (h.blk q.block hq hl)
theorem KeepsB.setCell {p : Nat → Prop} (W : World) {q : Addr} (hq : ¬ p q.block) (v : Value) : KeepsB p W (W.setCell q v) :=
  ⟨by simp, fun b hb _ => Below.heap_setCell W q v b (fun e => hq (e ▸ hb))⟩
theorem KeepsB.drewN {p : Nat → Prop} {A B : World} (h : KeepsB p A B) (n : Nat) : KeepsB p A (B.drewN n) := ⟨h.size, h.blk⟩
theorem KeepsB.of_fr {p F : Nat → Prop} {A B : World} (h : Fr F A B) (hp : ∀ b, p b → ¬ F b) : KeepsB p A B := ⟨h.size, fun b hb hl => h.blk b hl (hp b hb)⟩
theorem KeepsB.of_below {p : Nat → Prop} {n : Nat} {A B : World} (h : Below n A B) (hp : ∀ b, p b → b < n) : KeepsB p A B := ⟨h.size, fun b hb _ => h.block b (hp b hb)⟩
theorem keepsB_b {p : Nat → Prop} {w : World} (hp : ∀ b, p b → b < w.heap.size) (W : World) (l : Nat) (o o' : Obj) (hl : w.heap.size ≤ l) (_ : W.heap[l]? = some o) (_ : o.isCells = false) (_ : o.isWalk = false) : KeepsB p W (W.putObj l o') :=
  ⟨by simp [World.putObj], fun b hb _ => World.putObj_heap_other (by have := hp b hb; omega)⟩
end Go.Proofs.YtebdcahjlcgonaaGreat
namespace Go.Proofs.YtebdcahjlcgonaaGreat.Bk
open Go.RowKit
noncomputable abbrev dueV (x : Int) : Value := .agg #[.int .i64 (Du.dU x), .int .u32 (Du.dI x)]
set_option maxRecDepth 100000 in
theorem less_call (x y : Int) (w : World) : Calls Tryz.prog 50 #[dueV x, dueV y] w fun e w' => e = .returned (.bool (ltD x y)) ∧ True ∧ Fr (fun _ => False) w w' := by
  obtain ⟨W, hW⟩ : ∃ W, W = (w.alloc (.cells #[.int .i64 (Du.dU x), .int .u32 (Du.dI x)] 114)).alloc (.cells #[.int .i64 (Du.dU y), .int .u32 (Du.dI y)] 114) := ⟨_, rfl⟩
  obtain ⟨p, hp⟩ : ∃ p, p = w.heap.size := ⟨_, rfl⟩
  have f0 : Fr (fun _ => False) w W := by rw [hW]; exact Fr.alloc (Fr.alloc (Fr.refl _ _) _) _
  have g2 : W.heap[p]? = some (.cells #[.int .i64 (Du.dU x), .int .u32 (Du.dI x)] 114 (0, 0)) := by rw [hW, hp]; simp only [heap_alloc_get, World.size_alloc]; simp
  have g3 : W.heap[p + 1]? = some (.cells #[.int .i64 (Du.dU y), .int .u32 (Du.dI y)] 114 (0, 0)) := by rw [hW, hp]; simp only [heap_alloc_get, World.size_alloc]; simp
  obtain ⟨a0, a1⟩ := due_box g2
  obtain ⟨d0, d1⟩ := due_box g3
  have F0 := Lib.hid f0
  obtain ⟨r, hr⟩ : ∃ r, r = ltD x y := ⟨_, rfl⟩
  rw [← hr]
  have hc : (decide (Du.dU x < Du.dU y) = true ∧ r = true) ∨ (decide (Du.dU x < Du.dU y) = false ∧ (Du.dU x == Du.dU y) = false ∧ r = false) ∨ (decide (Du.dU x < Du.dU y) = false ∧ (Du.dU x == Du.dU y) = true ∧ decide (Du.dI x < Du.dI y) = r) := by
    have h1 := Du.due_lt x y
    have h2 : r = true ↔ x < y := by rw [hr]; simp [ltD]
    by_cases e1 : Du.dU x < Du.dU y
    · left; exact ⟨by simpa using e1, h2.2 (h1.2 (.inl e1))⟩
    · right
      by_cases e2 : Du.dU x = Du.dU y
      · right
        refine ⟨by simpa using e1, by simpa using e2, ?_⟩
        cases r <;> simp at h2 ⊢ <;> omega
      · left
        refine ⟨by simpa using e1, by simpa using e2, ?_⟩
        cases r
        · rfl
        · simp at h2; omega
  clear hr g2 g3 f0
  go_enter Tryz.func50, Tryz.ntmps50
  go_upto_region 1 with fail
  rw [← hp, ← hW]
  clear hW hp
  rcases hc with ⟨t1, t2⟩ | ⟨t1, t2, t3⟩ | ⟨t1, t2, t3⟩
  all_goals
    go_wp2_with fail
    go_ret
    refine ⟨?_, trivial, F0.out⟩
  · rw [t2]; rfl
  · rw [t3]; rfl
  · rw [← t3]; rfl
theorem less_ok : Du.LessOk Tryz.prog fvD ltD (fun _ => True) (fun _ => False) (fun _ => True) 50 #[] where
  eq := rfl
  enter := enters_of Tryz.func50 (by kernel_rfl) rfl
  call := fun w x y _ _ _ => less_call x y w
  keep := fun _ _ _ _ => trivial
  bound := fun _ _ _ h => h.elim
section
variable {p : Pt} {bb nx : Nat} {b : Bk} {LS LD : List Bo} {w : World} {q : Option Addr}
set_option maxRecDepth 100000 in
theorem there_ok (h : BkP p bb nx b LS LD w) : Calls Tryz.prog 56 #[.pointer (some ⟨bb, 0, none⟩)] w fun e w' => e = .returned (.bool true) ∧ w = w' := by
  have c3 := h.c.2.2.2.1
  clear h
  go_enter Tryz.func56, Tryz.ntmps56
  go_wp2_with fail
  go_ret
  exact ⟨rfl, rfl⟩
set_option maxRecDepth 100000 in
theorem there_no (h : NoBook w q) : Calls Tryz.prog 56 #[.pointer q] w fun e w' => e = .returned (.bool false) ∧ w = w' := by
  rcases h with rfl | ⟨b, cs, rfl, h1, h2⟩
  · go_enter Tryz.func56, Tryz.ntmps56
    go_wp2_with fail
    go_ret
    exact ⟨rfl, rfl⟩
  · have c3 := (cell_of h1 3).trans h2
    clear h1 h2
    go_enter Tryz.func56, Tryz.ntmps56
    go_wp2_with fail
    go_ret
    exact ⟨rfl, rfl⟩
abbrev shV (a b c : Int) : Value := .agg #[.int .i64 a, .int .i64 b, .int .i64 c]
set_option maxRecDepth 100000 in
theorem told_ok (h : BkP p bb nx b LS LD w) : Calls Tryz.prog 71 #[.pointer (some ⟨bb, 0, none⟩)] w fun e w' => e = .returned (shV b.seats b.codes b.group) ∧ Fr (fun _ => False) w w' := by
  obtain ⟨W, hW⟩ : ∃ W, W = w.alloc (.cells #[.int .i64 0, .int .i64 0, .int .i64 0] 23) := ⟨_, rfl⟩
  obtain ⟨z, hz⟩ : ∃ z, z = w.heap.size := ⟨_, rfl⟩
  have f0 : Fr (fun _ => False) w W := by rw [hW]; exact Fr.alloc (Fr.refl _ _) _
  have hg : W.heap[z]? = some (.cells #[.int .i64 0, .int .i64 0, .int .i64 0] 23 (0, 0)) := by rw [hW, hz]; exact heap_alloc_at _ _
  obtain ⟨c0, c1, c2, _⟩ := (h.keep f0).c
  have d0 := (cell_of hg 0).trans (show _ = some (Value.int .i64 0) from rfl)
  have d1 := (cell_of hg 1).trans (show _ = some (Value.int .i64 0) from rfl)
  have d2 := (cell_of hg 2).trans (show _ = some (Value.int .i64 0) from rfl)
  have y0 := free_of hg 0; have y1 := free_of hg 1; have y2 := free_of hg 2
  have hfin := setCell_blk (o := 2) (setCell_blk (o := 1) (setCell_blk (o := 0) hg (.int .i64 (b.seats : Int))) (.int .i64 (b.codes : Int))) (.int .i64 (b.group : Int))
  have e0 := (cell_of hfin 0).trans (show _ = some (Value.int .i64 (b.seats : Int)) from rfl)
  have e1 := (cell_of hfin 1).trans (show _ = some (Value.int .i64 (b.codes : Int)) from rfl)
  have e2 := (cell_of hfin 2).trans (show _ = some (Value.int .i64 (b.group : Int)) from rfl)
  have Ff := Lib.hid (show Fr (fun _ => False) w (((W.setCell ⟨z, 0, none⟩ (.int .i64 (b.seats : Int))).setCell ⟨z, 1, none⟩ (.int .i64 (b.codes : Int))).setCell ⟨z, 2, none⟩ (.int .i64 (b.group : Int))) from
    ((f0.setCell (p := ⟨z, 0, none⟩) (fun e => by simp at e; omega) _).setCell (p := ⟨z, 1, none⟩) (fun e => by simp at e; omega) _).setCell (p := ⟨z, 2, none⟩) (fun e => by simp at e; omega) _)
  clear h f0 hg hfin
  go_enter Tryz.func71, Tryz.ntmps71
  go_upto_region 1 with fail
  rw [← hW, ← hz]
  clear hW hz
  go_wp2_with fail
  refine bodyPost_ret (v := shV b.seats b.codes b.group) ?_ rfl ⟨rfl, Ff.out⟩
  simp [results, Tryz.f71, go_sem, e0, e1, e2]
set_option maxRecDepth 100000 in
theorem len_ok (h : BkP p bb nx b LS LD w) : Calls Tryz.prog 40 #[.pointer (some ⟨bb, 0, none⟩)] w fun e w' => e = .returned (.int .i64 (b.L.length : Int)) ∧ w = w' := by
  have c7 := h.c.2.2.2.2.2.2.2.1
  have HT := Lib.hid (there_ok h)
  have HL := Lib.hid (Ix.len_ok h.idx)
  have hl : (idsOf b.L).length = b.L.length := by simp [idsOf]
  rw [hl] at HL
  clear h hl
  go_enter Tryz.func40, Tryz.ntmps40
  go_wp2_with fail
  refine HT.out.mono ?_
  rintro e w1 ⟨rfl, rfl⟩
  go_wp2_with fail
  refine HL.out.mono ?_
  rintro e w1 ⟨rfl, rfl⟩
  go_wp2_with fail
  go_ret
  exact ⟨rfl, rfl⟩
set_option maxRecDepth 100000 in
theorem len_no (h : NoBook w q) : Calls Tryz.prog 40 #[.pointer q] w fun e w' => e = .returned (.int .i64 0) ∧ w = w' := by
  have HT := Lib.hid (there_no h)
  clear h
  go_enter Tryz.func40, Tryz.ntmps40
  go_wp2_with fail
  refine HT.out.mono ?_
  rintro e w1 ⟨rfl, rfl⟩
  go_wp2_with fail
  go_ret
  exact ⟨rfl, rfl⟩
set_option maxRecDepth 100000 in
theorem next_ok (h : BkP p bb nx b LS LD w) : Calls Tryz.prog 41 #[.pointer (some ⟨bb, 0, none⟩)] w fun e w' => e = .returned (.int .u32 (nx : Int)) ∧ w = w' := by
  have c5 := h.c.2.2.2.2.2.1
  have HT := Lib.hid (there_ok h)
  clear h
  go_enter Tryz.func41, Tryz.ntmps41
  go_wp2_with fail
  refine HT.out.mono ?_
  rintro e w1 ⟨rfl, rfl⟩
  go_wp2_with fail
  go_ret
  exact ⟨rfl, rfl⟩
set_option maxRecDepth 100000 in
theorem next_no (h : NoBook w q) : Calls Tryz.prog 41 #[.pointer q] w fun e w' => e = .returned (.int .u32 0) ∧ w = w' := by
  have HT := Lib.hid (there_no h)
  clear h
  go_enter Tryz.func41, Tryz.ntmps41
  go_wp2_with fail
  refine HT.out.mono ?_
  rintro e w1 ⟨rfl, rfl⟩
  go_wp2_with fail
  go_ret
  exact ⟨rfl, rfl⟩
set_option maxRecDepth 100000 in
theorem clock_ok (h : BkP p bb nx b LS LD w) : Calls Tryz.prog 42 #[.pointer (some ⟨bb, 0, none⟩)] w fun e w' => e = .returned (.int .i64 b.clock) ∧ w = w' := by
  have c4 := h.c.2.2.2.2.1
  have HT := Lib.hid (there_ok h)
  clear h
  go_enter Tryz.func42, Tryz.ntmps42
  go_wp2_with fail
  refine HT.out.mono ?_
  rintro e w1 ⟨rfl, rfl⟩
  go_wp2_with fail
  go_ret
  exact ⟨rfl, rfl⟩
set_option maxRecDepth 100000 in
theorem clock_no (h : NoBook w q) : Calls Tryz.prog 42 #[.pointer q] w fun e w' => e = .returned (.int .i64 0) ∧ w = w' := by
  have HT := Lib.hid (there_no h)
  clear h
  go_enter Tryz.func42, Tryz.ntmps42
  go_wp2_with fail
  refine HT.out.mono ?_
  rintro e w1 ⟨rfl, rfl⟩
  go_wp2_with fail
  go_ret
  exact ⟨rfl, rfl⟩
end
end Go.Proofs.YtebdcahjlcgonaaGreat.Bk
namespace Go.Proofs.YtebdcahjlcgonaaGreat.Bk
open Go.RowKit
/-! ### When the next one goes -/
def dueStep (d : Int) (x : Bo) : Int := if 0 < x.2.2 ∧ (d = 0 ∨ x.2.2 < d) then x.2.2 else d
def bDue (L : List Bo) : Int := L.foldl dueStep 0
theorem bDue_app (L : List Bo) (x : Bo) : bDue (L ++ [x]) = dueStep (bDue L) x := by simp [bDue, List.foldl_append]
theorem dueStep_spec (d : Int) (h : 0 ≤ d) (x : Bo) : 0 ≤ dueStep d x ∧ (dueStep d x = d ∨ (0 < x.2.2 ∧ dueStep d x = x.2.2)) ∧ (0 < x.2.2 → 0 < dueStep d x ∧ dueStep d x ≤ x.2.2) ∧ (0 < d → 0 < dueStep d x ∧ dueStep d x ≤ d) := by
  unfold dueStep; split <;> omega
theorem bDue_spec (L : List Bo) : 0 ≤ bDue L ∧ (0 < bDue L → ∃ x ∈ L, x.2.2 = bDue L) ∧ ∀ x ∈ L, 0 < x.2.2 → 0 < bDue L ∧ bDue L ≤ x.2.2 := by
  have h : ∀ k, k ≤ L.length → 0 ≤ bDue (L.take k) ∧ (0 < bDue (L.take k) → ∃ x ∈ L.take k, x.2.2 = bDue (L.take k)) ∧ ∀ x ∈ L.take k, 0 < x.2.2 → 0 < bDue (L.take k) ∧ bDue (L.take k) ≤ x.2.2 := by
    intro k
    induction k with
    | zero => intro _; simp [bDue]
    | succ k ih =>
      intro hk
      obtain ⟨i1, i2, i3⟩ := ih (by omega)
      have e : L.take (k + 1) = L.take k ++ [L[k]] := (List.take_succ_eq_append_getElem hk)
      rw [e, bDue_app]
      obtain ⟨s1, s2, s3, s4⟩ := dueStep_spec _ i1 L[k]
      refine ⟨s1, ?_, ?_⟩
      · intro hp
        rcases s2 with s2 | ⟨s2, s5⟩
        · rw [s2] at hp ⊢
          obtain ⟨x, hx, ex⟩ := i2 hp
          exact ⟨x, List.mem_append.2 (.inl hx), ex⟩
        · exact ⟨L[k], List.mem_append.2 (.inr (by simp)), s5.symm⟩
      · intro x hx ht
        rcases List.mem_append.1 hx with hx | hx
        · have := i3 x hx ht
          have := s4 this.1
          omega
        · obtain rfl : x = L[k] := by simpa using hx
          exact s3 ht
  have := h L.length (Nat.le_refl _)
  rwa [List.take_length] at this
theorem bDue_none {L : List Bo} (h : ∀ x ∈ L, ¬ 0 < x.2.2) : bDue L = 0 := by
  obtain ⟨h1, h2, _⟩ := bDue_spec L
  by_cases h0 : 0 < bDue L
  · obtain ⟨x, hx, e⟩ := h2 h0
    exact absurd (by omega) (h x hx)
  · omega
/-- The heap's least is the one that goes next. -/
theorem Due.next {L : List Bo} {H : List It} {f : Int → Option Int} (h : Due L H f) (hi : ∀ x ∈ L, x.1 < 4294967296) : (H = [] ∧ bDue L = 0) ∨ (H ≠ [] ∧ 0 < bDue L ∧ bDue L = Du.dU (itAt H 0).1) := by
  by_cases h0 : H = []
  · left
    refine ⟨h0, bDue_none ?_⟩
    intro x hx ht
    obtain ⟨y, hy, _⟩ := h.held hx ht
    rw [h0] at hy; simp at hy
  · right
    have hl : 0 < H.length := List.length_pos_iff.2 h0
    obtain ⟨x, hx, ht, e1, e2, e3⟩ := h.mem hi (itAt_mem hl)
    obtain ⟨s1, s2, s3⟩ := bDue_spec L
    have h3 := s3 x hx ht
    obtain ⟨y, hy, ey⟩ := s2 h3.1
    have h4 := h.least hi hl y hy (by omega)
    exact ⟨h0, h3.1, by omega⟩
section
variable {p : Pt} {bb nx : Nat} {b : Bk} {LS LD : List Bo} {w : World} {q : Option Addr}
theorem Raw.idlt (h : Raw b) : ∀ x ∈ b.L, x.1 < 4294967296 := fun x hx => Nat.lt_trans (h.ids x hx).2 h.n1
set_option maxRecDepth 100000 in
theorem shape_ok (h : BkP p bb nx b LS LD w) : Calls Tryz.prog 35 #[.pointer (some ⟨bb, 0, none⟩)] w fun e w' => e = .returned (shV b.seats b.codes b.group) ∧ Fr (fun _ => False) w w' := by
  obtain ⟨W, hW⟩ : ∃ W, W = w.alloc (.cells #[.int .i64 0, .int .i64 0, .int .i64 0] 23) := ⟨_, rfl⟩
  obtain ⟨z, hz⟩ : ∃ z, z = w.heap.size := ⟨_, rfl⟩
  have f0 : Fr (fun _ => False) w W := by rw [hW]; exact Fr.alloc (Fr.refl _ _) _
  have hg : W.heap[z]? = some (.cells #[.int .i64 0, .int .i64 0, .int .i64 0] 23 (0, 0)) := by rw [hW, hz]; exact heap_alloc_at _ _
  have HT := Lib.hid (there_ok (h.keep f0)); have HS := Lib.hid (told_ok (h.keep f0))
  have c0 := (h.keep f0).c.1
  have F0 := Lib.hid f0; have HG := Lib.hid hg; have HZ := Lib.hid (show w.heap.size ≤ z by omega)
  clear h f0 hg
  go_enter Tryz.func35, Tryz.ntmps35
  go_upto_region 1 with fail
  rw [← hW, ← hz]
  clear hW hz
  go_wp2_with fail
  refine HT.out.mono ?_
  rintro e w1 ⟨rfl, rfl⟩
  go_wp2_with fail
  refine HS.out.mono ?_
  rintro e w1 ⟨rfl, f1⟩
  have hg := f1.get HG.out (fun h => h)
  have d0 := (cell_of hg 0).trans (show _ = some (Value.int .i64 0) from rfl)
  have d1 := (cell_of hg 1).trans (show _ = some (Value.int .i64 0) from rfl)
  have d2 := (cell_of hg 2).trans (show _ = some (Value.int .i64 0) from rfl)
  have y0 := free_of hg 0; have y1 := free_of hg 1; have y2 := free_of hg 2
  have hfin := setCell_blk (o := 2) (setCell_blk (o := 1) (setCell_blk (o := 0) hg (.int .i64 (b.seats : Int))) (.int .i64 (b.codes : Int))) (.int .i64 (b.group : Int))
  have e0 := (cell_of hfin 0).trans (show _ = some (Value.int .i64 (b.seats : Int)) from rfl)
  have e1 := (cell_of hfin 1).trans (show _ = some (Value.int .i64 (b.codes : Int)) from rfl)
  have e2 := (cell_of hfin 2).trans (show _ = some (Value.int .i64 (b.group : Int)) from rfl)
  have Ff := Lib.hid (show Fr (fun _ => False) w (((w1.setCell ⟨z, 0, none⟩ (.int .i64 (b.seats : Int))).setCell ⟨z, 1, none⟩ (.int .i64 (b.codes : Int))).setCell ⟨z, 2, none⟩ (.int .i64 (b.group : Int))) from
    (((F0.out.trans f1 (fun _ _ h => h)).setCell (p := ⟨z, 0, none⟩) (fun e => by have := HZ.out; simp at e; omega) _).setCell (p := ⟨z, 1, none⟩) (fun e => by have := HZ.out; simp at e; omega) _).setCell (p := ⟨z, 2, none⟩) (fun e => by have := HZ.out; simp at e; omega) _)
  clear f1 hg hfin c0
  go_wp2_with fail
  refine bodyPost_ret (v := shV b.seats b.codes b.group) ?_ rfl ⟨rfl, Ff.out⟩
  simp [results, Tryz.f35, go_sem, e0, e1, e2]
set_option maxRecDepth 100000 in
theorem shape_no (h : NoBook w q) : Calls Tryz.prog 35 #[.pointer q] w fun e w' => e = .returned (shV 0 0 0) ∧ Fr (fun _ => False) w w' := by
  obtain ⟨W, hW⟩ : ∃ W, W = w.alloc (.cells #[.int .i64 0, .int .i64 0, .int .i64 0] 23) := ⟨_, rfl⟩
  obtain ⟨z, hz⟩ : ∃ z, z = w.heap.size := ⟨_, rfl⟩
  have f0 : Fr (fun _ => False) w W := by rw [hW]; exact Fr.alloc (Fr.refl _ _) _
  have hg : W.heap[z]? = some (.cells #[.int .i64 0, .int .i64 0, .int .i64 0] 23 (0, 0)) := by rw [hW, hz]; exact heap_alloc_at _ _
  have HT := Lib.hid (there_no (h.fr f0))
  have d0 := (cell_of hg 0).trans (show _ = some (Value.int .i64 0) from rfl)
  have d1 := (cell_of hg 1).trans (show _ = some (Value.int .i64 0) from rfl)
  have d2 := (cell_of hg 2).trans (show _ = some (Value.int .i64 0) from rfl)
  have y0 := free_of hg 0; have y1 := free_of hg 1; have y2 := free_of hg 2
  have hfin := setCell_blk (o := 2) (setCell_blk (o := 1) (setCell_blk (o := 0) hg (.int .i64 0)) (.int .i64 0)) (.int .i64 0)
  have e0 := (cell_of hfin 0).trans (show _ = some (Value.int .i64 0) from rfl)
  have e1 := (cell_of hfin 1).trans (show _ = some (Value.int .i64 0) from rfl)
  have e2 := (cell_of hfin 2).trans (show _ = some (Value.int .i64 0) from rfl)
  have Ff := Lib.hid (show Fr (fun _ => False) w (((W.setCell ⟨z, 0, none⟩ (.int .i64 0)).setCell ⟨z, 1, none⟩ (.int .i64 0)).setCell ⟨z, 2, none⟩ (.int .i64 0)) from
    ((f0.setCell (p := ⟨z, 0, none⟩) (fun e => by simp at e; omega) _).setCell (p := ⟨z, 1, none⟩) (fun e => by simp at e; omega) _).setCell (p := ⟨z, 2, none⟩) (fun e => by simp at e; omega) _)
  clear h f0 hg hfin
  go_enter Tryz.func35, Tryz.ntmps35
  go_upto_region 1 with fail
  rw [← hW, ← hz]
  clear hW hz
  go_wp2_with fail
  refine HT.out.mono ?_
  rintro e w1 ⟨rfl, rfl⟩
  go_wp2_with fail
  refine bodyPost_ret (v := shV 0 0 0) ?_ rfl ⟨rfl, Ff.out⟩
  simp [results, Tryz.f35, go_sem, e0, e1, e2]
set_option maxRecDepth 100000 in
theorem due_ok (h : BkP p bb nx b LS b.L w) : Calls Tryz.prog 60 #[.pointer (some ⟨bb, 0, none⟩)] w fun e w' => e = .returned (.tuple #[.int .i64 (bDue b.L), .bool (decide (0 < bDue b.L))]) ∧ Fr (fun _ => False) w w' := by
  have c9 := h.c.2.2.2.2.2.2.2.2.2.1
  have HT := Lib.hid (there_ok h)
  rcases h.due.next h.raw.idlt with ⟨h0, h1⟩ | ⟨h0, h1, h2⟩
  · have hh := h.heap
    rw [h0] at hh
    have HL := Lib.hid (Du.least_none less_ok hh)
    rw [h1]
    clear h h0 h1 hh
    go_enter Tryz.func60, Tryz.ntmps60
    go_wp2_with fail
    refine HT.out.mono ?_
    rintro e w1 ⟨rfl, rfl⟩
    go_wp2_with fail
    refine HL.out.mono ?_
    rintro e w1 ⟨rfl, f1⟩
    have F1 := Lib.hid f1
    clear f1 c9
    go_wp2_with fail
    go_ret2
    exact ⟨rfl, F1.out.alloc _⟩
  · have HL := Lib.hid (Du.least_some less_ok h.heap h0)
    rw [decide_eq_true h1, h2]
    obtain ⟨x, hx⟩ : ∃ x, x = (itAt p.H 0).1 := ⟨_, rfl⟩
    rw [← hx] at HL ⊢
    clear h h0 h1 h2 hx
    go_enter Tryz.func60, Tryz.ntmps60
    go_wp2_with fail
    refine HT.out.mono ?_
    rintro e w1 ⟨rfl, rfl⟩
    go_wp2_with fail
    refine HL.out.mono ?_
    rintro e w1 ⟨rfl, f1⟩
    have F1 := Lib.hid f1
    clear f1 c9
    go_wp2_with fail
    go_ret2
    exact ⟨rfl, F1.out.alloc _⟩
set_option maxRecDepth 100000 in
theorem due_no (h : NoBook w q) : Calls Tryz.prog 60 #[.pointer q] w fun e w' => e = .returned (.tuple #[.int .i64 0, .bool false]) ∧ w = w' := by
  have HT := Lib.hid (there_no h)
  clear h
  go_enter Tryz.func60, Tryz.ntmps60
  go_wp2_with fail
  refine HT.out.mono ?_
  rintro e w1 ⟨rfl, rfl⟩
  go_wp2_with fail
  go_ret2
  exact ⟨rfl, rfl⟩
/-! ### Get, At -/
def getE (o : Option Bo) : Ending := match o with
  | some x => .returned (.tuple #[boV x, .int .i64 0])
  | none => .returned (.tuple #[boV (0, 0, 0), .int .i64 171])
def Pt.steps (p : Pt) (st : Nat) : Pt := { p with st := st }
theorem BkP.steps (h : BkP p bb nx b LS LD w) {w' : World} {st : Nat} (hi : Ix.IxAt w' p.ip p.ig p.N b.codes (idsOf b.L) st) (f : Fr (fun x => x = p.ip) w w') : BkP (p.steps st) bb nx b LS LD w' := by
  obtain ⟨lab, hl⟩ := h.lab
  have n0 : bb ≠ p.ip := fun e => by have := hl.l0; rw [e, hl.l2] at this; cases this
  have n1 : p.tp ≠ p.ip := fun e => by have := hl.l1; rw [e, hl.l2] at this; cases this
  have n5 : p.mp ≠ p.ip := fun e => by have := hl.l5; rw [e, hl.l2] at this; cases this
  exact ⟨f.get h.head n0, h.set.fr f n1 (fun x hx e => by have := (hl.l1v x hx).1; rw [e, hl.l2] at this; cases this), hi, Row.fr h.row f (fun x hx e => by have := hl.l3 x hx; rw [e, hl.l2] at this; cases this),
    h.heap.fr f (fun x hx e => by have := hl.l4 x hx; rw [e, hl.l2] at this; cases this), h.map.fr f n5, h.due, h.nh, h.raw, lab, ⟨hl.l0, hl.l1, hl.l1v, hl.l2, hl.l2g, hl.l3, hl.l4, hl.l5⟩⟩
theorem Pt.steps_own (p : Pt) (st bb : Nat) : (p.steps st).own bb = p.own bb := rfl
set_option maxRecDepth 100000 in
set_option maxHeartbeats 400000 in
theorem get_ok (h : BkP p bb nx b b.L LD w) {id : Nat} (hid : id < 4294967296) : Calls Tryz.prog 53 #[.pointer (some ⟨bb, 0, none⟩), .int .u32 (id : Int)] w fun e w' => e = getE (bFind b.L id) ∧ (∃ st, BkP (p.steps st) bb nx b b.L LD w') ∧ Fr (fun x => x = p.ip) w w' := by
  obtain ⟨W, hW⟩ : ∃ W, W = w.alloc (.cells #[.int .u32 0, .int .i64 0, .int .i64 0] 77) := ⟨_, rfl⟩
  obtain ⟨z, hz⟩ : ∃ z, z = w.heap.size := ⟨_, rfl⟩
  have f0 : Fr (fun _ => False) w W := by rw [hW]; exact Fr.alloc (Fr.refl _ _) _
  have hg : W.heap[z]? = some (.cells #[.int .u32 0, .int .i64 0, .int .i64 0] 77 (0, 0)) := by rw [hW, hz]; exact heap_alloc_at _ _
  have h1 := h.keep f0
  have c7 := h1.c.2.2.2.2.2.2.2.1
  have HT := Lib.hid (there_ok h1)
  have HG := Lib.hid (Ix.get_ok h1.idx hid)
  rw [ids_look] at HG
  have Hg := Lib.hid hg; have F0 := Lib.hid f0; have H1 := Lib.hid h1; have HZ := Lib.hid (show w.heap.size ≤ z by omega)
  have Hzi := Lib.hid (show z ≠ p.ip from fun e => by have := h.lt (x := p.ip) (.inr (.inr (.inr (.inl rfl)))); omega)
  clear f0 hg h1
  go_enter Tryz.func53, Tryz.ntmps53
  go_upto_region 1 with fail
  rw [← hW, ← hz]
  clear hW hz
  go_wp2_with fail
  refine HT.out.mono ?_
  rintro e w1 ⟨rfl, rfl⟩
  go_wp2_with fail
  refine HG.out.mono ?_
  rintro e w1 ⟨st', _, rfl, hi, f1⟩
  have h2 := H1.out.steps hi f1
  have hg2 := f1.get Hg.out Hzi.out
  have H2 := Lib.hid h2
  have Fq := Lib.hid ((F0.out.mono (fun _ _ h => h.elim) : Fr (fun x => x = p.ip) w _).trans f1 (fun _ _ h => h))
  have d0 := (cell_of hg2 0).trans (show _ = some (Value.int .u32 0) from rfl)
  have d1 := (cell_of hg2 1).trans (show _ = some (Value.int .i64 0) from rfl)
  have d2 := (cell_of hg2 2).trans (show _ = some (Value.int .i64 0) from rfl)
  have y0 := free_of hg2 0; have y1 := free_of hg2 1; have y2 := free_of hg2 2
  have key : ∀ x : Bo, ∃ W', W' = ((w1.setCell ⟨z, 0, none⟩ (.int .u32 (x.1 : Int))).setCell ⟨z, 1, none⟩ (.int .i64 x.2.1)).setCell ⟨z, 2, none⟩ (.int .i64 x.2.2) ∧ W'.cell? ⟨z, 0, none⟩ = some (.int .u32 (x.1 : Int)) ∧ W'.cell? ⟨z, 1, none⟩ = some (.int .i64 x.2.1) ∧ W'.cell? ⟨z, 2, none⟩ = some (.int .i64 x.2.2) ∧ BkP (p.steps st') bb nx b b.L LD W' ∧ Fr (fun x => x = p.ip) w W' := by
    intro x
    have hfin := setCell_blk (o := 2) (setCell_blk (o := 1) (setCell_blk (o := 0) hg2 (.int .u32 (x.1 : Int))) (.int .i64 x.2.1)) (.int .i64 x.2.2)
    have fz : Fr (fun y => y = z) w1 (((w1.setCell ⟨z, 0, none⟩ (.int .u32 (x.1 : Int))).setCell ⟨z, 1, none⟩ (.int .i64 x.2.1)).setCell ⟨z, 2, none⟩ (.int .i64 x.2.2)) :=
      (((Fr.refl (fun y => y = z) _).setCell (p := ⟨z, 0, none⟩) (fun _ => rfl) _).setCell (p := ⟨z, 1, none⟩) (fun _ => rfl) _).setCell (p := ⟨z, 2, none⟩) (fun _ => rfl) _
    exact ⟨_, rfl, (cell_of hfin 0).trans rfl, (cell_of hfin 1).trans rfl, (cell_of hfin 2).trans rfl,
      h2.fr fz (fun y hy e => by have := h.lt (x := y) (by rw [Pt.steps_own] at hy; exact hy); have := HZ.out; omega), Fq.out.trans fz (fun y hy e => by have := HZ.out; omega)⟩
  cases hf : bFind b.L id with
  | none =>
    have he : getE (bFind b.L id) = .returned (.tuple #[boV (0, 0, 0), .int .i64 171]) := by rw [hf]; rfl
    obtain ⟨W', e', k0, k1, k2, k3, k4⟩ := key (0, 0, 0)
    have K3 := Lib.hid k3; have K4 := Lib.hid k4
    rw [e'] at k0 k1 k2 K3 K4
    clear key hf e' k3 k4 hi f1 h2 hg2 h c7
    go_wp2_with fail
    refine bodyPost_ret (v := .tuple #[boV (0, 0, 0), .int .i64 171]) ?_ rfl ⟨he.symm, ⟨_, K3.out⟩, K4.out⟩
    simp at k0 k1 k2
    simp [results, Tryz.f53, go_sem, k0, k1, k2]
  | some x =>
    have he : getE (bFind b.L id) = .returned (.tuple #[boV x, .int .i64 0]) := by rw [hf]; rfl
    obtain ⟨W', e', k0, k1, k2, k3, k4⟩ := key x
    have K3 := Lib.hid k3; have K4 := Lib.hid k4
    rw [e'] at k0 k1 k2 K3 K4
    have hx := bFind_id hf
    have hs := h.raw.at_ x hx.2
    obtain ⟨k, hk⟩ : ∃ k : Nat, x.2.1 = (k : Int) := ⟨x.2.1.toNat, by omega⟩
    obtain ⟨g, cap, ev, _, _, hc⟩ := h2.seats
    have hkn : k < b.seats := by omega
    obtain ⟨s0, s1, s2⟩ := hc k hkn
    have hb : bSeat b.L (k : Int) = some x := by rw [← hk]; exact (bSeat_some h.raw.lone).2 hx.2
    rw [hb] at s0 s1 s2
    simp only [Option.getD_some] at s0 s1 s2
    have c8 := h2.c.2.2.2.2.2.2.2.2.1
    rw [ev] at c8
    have hkn' : (k : Int) < (b.seats : Int) := by omega
    have hsm : (b.seats : Int) ≤ 1024 := by have := h.raw.s1; omega
    simp only [Option.map_some, Option.getD_some, Option.isSome_some]
    rw [hk] at k0 k1 k2 K3 K4 s1
    clear key hf e' k3 k4 hi f1 h2 hg2 h hx hs hc hkn hb ev
    go_wp2_with fail
    refine bodyPost_ret (v := .tuple #[boV x, .int .i64 0]) ?_ rfl ⟨he.symm, ⟨_, K3.out⟩, K4.out⟩
    try simp at k0 k1 k2
    simp [hk, results, Tryz.f53, go_sem, k0, k1, k2]
end
end Go.Proofs.YtebdcahjlcgonaaGreat.Bk
namespace Go.Proofs.YtebdcahjlcgonaaGreat.Bk
open Go.RowKit
theorem Fr.undrew {F : Nat → Prop} {w w' : World} (h : Fr F w.drew w') : Fr F w w' := ⟨h.os, h.tape, h.output, h.size, h.blk⟩
theorem Fr.todrew {F : Nat → Prop} {w w' : World} (h : Fr F w w') : Fr F w.drew w' := ⟨h.os, h.tape, h.output, h.size, h.blk⟩
section
variable {p : Pt} {bb nx : Nat} {b : Bk} {LS LD : List Bo} {w w' : World} {lab : Nat → Nat}
/-- What is new has a label of its own. -/
theorem BkP.labs (h : BkP p bb nx b LS LD w) : ∃ lab, Lab p bb lab ∧ ∀ x, w.heap.size ≤ x → lab x = 9 := by
  obtain ⟨lab, hl⟩ := h.lab
  have lt : ∀ x, p.own bb x → x < w.heap.size := fun x hx => h.lt hx
  refine ⟨fun x => if x < w.heap.size then lab x else 9, ⟨?_, ?_, ?_, ?_, ?_, ?_, ?_, ?_⟩, fun x hx => if_neg (by omega)⟩
  · simp only [if_pos (lt bb (.inl rfl))]; exact hl.l0
  · simp only [if_pos (lt p.tp (.inr (.inl rfl)))]; exact hl.l1
  · intro x hx
    simp only [if_pos (lt x (.inr (.inr (.inl hx))))]; exact hl.l1v x hx
  · simp only [if_pos (lt p.ip (.inr (.inr (.inr (.inl rfl)))))]; exact hl.l2
  · simp only [if_pos (lt p.ig (.inr (.inr (.inr (.inr (.inl rfl))))))]; exact hl.l2g
  · intro x hx
    simp only [if_pos (lt x (.inr (.inr (.inr (.inr (.inr (.inl hx)))))))]; exact hl.l3 x hx
  · intro x hx
    simp only [if_pos (lt x (.inr (.inr (.inr (.inr (.inr (.inr (.inl hx))))))))]; exact hl.l4 x hx
  · simp only [if_pos (lt p.mp (.inr (.inr (.inr (.inr (.inr (.inr (.inr rfl))))))))]; exact hl.l5
variable (hl : Lab p bb lab) {k : Nat} (f : Fr (fun x => lab x = k) w w')
include hl f
theorem Lab.head (hk : k ≠ 0) {o : Obj} (h : w.heap[bb]? = some o) : w'.heap[bb]? = some o := f.get h (fun e => hk (by rw [← e, hl.l0]))
theorem Lab.set (hk : k ≠ 1) {B : List Bool} (h : Bt.SetAt w p.tp p.tv B) : Bt.SetAt w' p.tp p.tv B := h.fr f (fun e => hk (by rw [← e, hl.l1])) (fun x hx e => hk (by rw [← e, (hl.l1v x hx).1]))
theorem Lab.idx (hk : k ≠ 2) {N most : Nat} {L : List (Nat × Int)} {st : Nat} (h : Ix.IxAt w p.ip p.ig N most L st) : Ix.IxAt w' p.ip p.ig N most L st := h.fr f (fun e => hk (by rw [← e, hl.l2])) (fun e => hk (by rw [← e, hl.l2g]))
theorem Lab.row (hk : k ≠ 3) {L : List Bo} (h : Bos w p.sv L) : Bos w' p.sv L := Row.fr h f (fun x hx e => hk (by rw [← e, hl.l3 x hx]))
theorem Lab.heap (hk : k ≠ 4) {H : List It} {nh : Int} (h : HpD p.GH p.hp H nh w) : HpD p.GH p.hp H nh w' := h.fr f (fun x hx e => hk (by rw [← e, hl.l4 x hx]))
theorem Lab.map (hk : k ≠ 5) {g : Int → Option Int} (h : UMap w p.mp g) : UMap w' p.mp g := h.fr f (fun e => hk (by rw [← e, hl.l5]))
end
/-- The same places, other contents. -/
def Pt.re (p : Pt) (GH : Nat → Prop) (H : List It) (nh : Int) (g : Int → Option Int) (st : Nat) : Pt := { p with GH := GH, H := H, nh := nh, f := g, st := st }
section
variable {p : Pt} {bb nx : Nat} {b : Bk} {LS LD : List Bo} {w w' : World}
/-- A book made anew of its parts. -/
theorem Lab.build {lab : Nat → Nat} (hl : Lab p bb lab) (h9 : ∀ x, w.heap.size ≤ x → lab x = 9) {nx' : Nat} {b' : Bk} {LS' LD' : List Bo} {GH : Nat → Prop} {H : List It} {nh : Int} {g : Int → Option Int} {st : Nat}
    (head : w'.heap[bb]? = some (headB p b' nx')) (set : Bt.SetAt w' p.tp p.tv (takenOf b'.seats b'.L)) (idx : Ix.IxAt w' p.ip p.ig p.N b'.codes (idsOf b'.L) st) (row : Bos w' p.sv (seatsOf b'.seats LS'))
    (heap : HpD GH p.hp H nh w') (map : UMap w' p.mp g) (due : Due LD' H g) (hnh : nh ≤ (b'.next : Int)) (raw : Raw b') (hg : ∀ x, GH x → p.GH x ∨ w.heap.size ≤ x) : BkP (p.re GH H nh g st) bb nx' b' LS' LD' w' := by
  refine ⟨head, set, idx, row, heap, map, due, hnh, raw, fun x => if lab x = 9 then 4 else lab x, ⟨?_, ?_, ?_, ?_, ?_, ?_, ?_, ?_⟩⟩
  · simp only [hl.l0]; rfl
  · show (if lab p.tp = 9 then 4 else lab p.tp) = 1; rw [hl.l1]; rfl
  · intro x hx; have := hl.l1v x hx; simp only [this.1]; exact ⟨rfl, this.2⟩
  · show (if lab p.ip = 9 then 4 else lab p.ip) = 2; rw [hl.l2]; rfl
  · show (if lab p.ig = 9 then 4 else lab p.ig) = 2; rw [hl.l2g]; rfl
  · intro x hx; have := hl.l3 x hx; simp only [this]; rfl
  · intro x hx
    rcases hg x hx with h | h
    · simp only [hl.l4 x h]; rfl
    · simp only [h9 x h]; rfl
  · show (if lab p.mp = 9 then 4 else lab p.mp) = 5; rw [hl.l5]; rfl
theorem Pt.re_own {GH : Nat → Prop} {H : List It} {nh : Int} {g : Int → Option Int} {st : Nat} {n : Nat} (hg : ∀ x, GH x → p.GH x ∨ n ≤ x) : ∀ x, (p.re GH H nh g st).own bb x → p.own bb x ∨ n ≤ x := by
  intro x hx
  rcases hx with h | h | h | h | h | h | h | h
  · exact .inl (.inl h)
  · exact .inl (.inr (.inl h))
  · exact .inl (.inr (.inr (.inl h)))
  · exact .inl (.inr (.inr (.inr (.inl h))))
  · exact .inl (.inr (.inr (.inr (.inr (.inl h)))))
  · exact .inl (.inr (.inr (.inr (.inr (.inr (.inl h))))))
  · rcases hg x h with h | h
    · exact .inl (.inr (.inr (.inr (.inr (.inr (.inr (.inl h)))))))
    · exact .inr h
  · exact .inl (.inr (.inr (.inr (.inr (.inr (.inr (.inr h)))))))
/-- The blocks of a part are the book's. -/
theorem Pt.ownH {x : Nat} (h : p.GH x) : p.own bb x := .inr (.inr (.inr (.inr (.inr (.inr (.inl h))))))
theorem Pt.ownM : p.own bb p.mp := .inr (.inr (.inr (.inr (.inr (.inr (.inr rfl))))))
theorem Pt.ownS {x : Nat} (h : p.sv.ownBlock = some x) : p.own bb x := .inr (.inr (.inr (.inr (.inr (.inl h)))))
theorem Pt.ownT {x : Nat} (h : p.tv.ownBlock = some x) : p.own bb x := .inr (.inr (.inl h))
theorem Pt.ownI {x : Nat} (h : x = p.ip ∨ x = p.ig) : p.own bb x := h.elim (fun h => .inr (.inr (.inr (.inl h)))) (fun h => .inr (.inr (.inr (.inr (.inl h)))))
set_option maxRecDepth 100000 in
set_option maxHeartbeats 1000000 in
theorem firm_ok (h : BkP p bb nx b LS LD w) (hi : ∀ x ∈ LD, x.1 < 4294967296) (hu : LD.Pairwise fun x y => x.1 < y.1) {id : Nat} :
    Calls Tryz.prog 82 #[.pointer (some ⟨bb, 0, none⟩), .int .u32 (id : Int)] w fun e w' => e = .returned (.tuple #[]) ∧ ∃ p', BkP p' bb nx b LS (bFirm LD id) w' ∧ Fr (p.own bb) w w' ∧ ∀ x, p'.own bb x → p.own bb x := by
  have c9 := h.c.2.2.2.2.2.2.2.2.2.1
  have c10 := h.c.2.2.2.2.2.2.2.2.2.2
  have hlk := run_lookup2U (P := Tryz.prog) Tryz.underlying71 Tryz.underlying24 h.map (Tryz.zeroValue3 _) (id : Int)
  cases hf : p.f (id : Int) with
  | none =>
    have hE := Lib.hid (show ∃ p', BkP p' bb nx b LS (bFirm LD id) w ∧ Fr (p.own bb) w w ∧ ∀ x, p'.own bb x → p.own bb x from
      ⟨p, ⟨h.head, h.set, h.idx, h.row, h.heap, h.map, h.due.firm0 hi hf, h.nh, h.raw, h.lab⟩, Fr.refl _ _, fun _ h => h⟩)
    rw [hf] at hlk
    simp only [Option.getD_none, Option.isSome_none] at hlk
    clear h hi hu hf c9
    go_enter Tryz.func82, Tryz.ntmps82
    go_wp2_with fail
    go_end0
    exact ⟨rfl, hE.out⟩
  | some hh =>
    obtain ⟨i, hil, e1, e2⟩ := h.due.find hf
    rw [hf] at hlk
    simp only [Option.getD_some, Option.isSome_some] at hlk
    have HD := Lib.hid (Du.drop_there less_ok h.heap hil)
    rw [e1] at HD
    obtain ⟨lab, hl, h9⟩ := h.labs
    have H := Lib.hid h; have HL := Lib.hid hl; have H9 := Lib.hid h9
    have HDu := Lib.hid (h.due.firm hi hu hil e2)
    have lbl := lt_of_block h.head
    have nbl : ¬ (False ∨ p.GH bb) := by rintro (h | h); exact h; have := hl.l4 _ h; rw [hl.l0] at this; cases this
    clear h hi hu hf hil e1 e2 hl h9
    go_enter Tryz.func82, Tryz.ntmps82
    go_wp2_with fail
    refine HD.out.mono ?_
    rintro e w1 ⟨rfl, hH1, hf1⟩
    have k1 := (hf1.cell (o := 10) (s := none) lbl nbl).trans c10
    have fl1 : Fr (fun x => lab x = 4) w w1 := hf1.mono (fun x _ hx => HL.out.l4 x (hx.elim False.elim (fun h => h)))
    obtain ⟨es, c, hrun, hM1⟩ := run_deleteU (P := Tryz.prog) Tryz.underlying71 Tryz.underlying24 (HL.out.map fl1 (by decide) H.out.map) (id : Int) #[71, 24] rfl 0
    have fm : Fr (fun x => x = p.mp) w1 (setMap w1 p.mp es c) := Fr.setMap (F := fun x => x = p.mp) (b := p.mp) (Fr.refl _ _) (fun _ => rfl) _ _
    have fl2 : Fr (fun x => lab x = 5) w1 (setMap w1 p.mp es c) := fm.mono (fun x _ hx => by rw [hx]; exact HL.out.l5)
    have hE := Lib.hid (show ∃ p', BkP p' bb nx b LS (bFirm LD id) (setMap w1 p.mp es c) ∧ Fr (p.own bb) w (setMap w1 p.mp es c) ∧ ∀ x, p'.own bb x → p.own bb x from
      ⟨_, HL.out.build H9.out (HL.out.head fl2 (by decide) (HL.out.head fl1 (by decide) H.out.head)) (HL.out.set fl2 (by decide) (HL.out.set fl1 (by decide) H.out.set)) (HL.out.idx fl2 (by decide) (HL.out.idx fl1 (by decide) H.out.idx))
        (HL.out.row fl2 (by decide) (HL.out.row fl1 (by decide) H.out.row)) (HL.out.heap fl2 (by decide) hH1) hM1 HDu.out H.out.nh H.out.raw (fun x hx => .inl hx),
        (hf1.mono (fun x _ hx => Pt.ownH (hx.elim False.elim (fun h => h)))).trans fm (fun x _ hx => by rw [hx]; exact Pt.ownM), fun x hx => by
          rcases hx with h | h | h | h | h | h | h | h
          · exact .inl h
          · exact .inr (.inl h)
          · exact .inr (.inr (.inl h))
          · exact .inr (.inr (.inr (.inl h)))
          · exact .inr (.inr (.inr (.inr (.inl h))))
          · exact .inr (.inr (.inr (.inr (.inr (.inl h)))))
          · exact .inr (.inr (.inr (.inr (.inr (.inr (.inl h))))))
          · exact .inr (.inr (.inr (.inr (.inr (.inr (.inr h))))))⟩)
    clear c9 c10 hlk hH1 hf1 hM1 fl1 fm fl2
    go_wp2_with fail
    go_end0
    exact ⟨rfl, hE.out⟩
end
end Go.Proofs.YtebdcahjlcgonaaGreat.Bk
namespace Go.Proofs.YtebdcahjlcgonaaGreat.Ix
open Go.RowKit
theorem setCells_blk : ∀ (vs A M R : List Value) (o : Nat) (w : World) (b : Nat) (t : TypeId), w.heap[b]? = some (.cells (A ++ M ++ R).toArray t (0, 0)) → A.length = o → M.length = vs.length → (w.setCells b o vs).heap[b]? = some (.cells (A ++ vs ++ R).toArray t (0, 0))
  | [], A, M, R, o, w, b, t, h, _, hM => by
    obtain rfl : M = [] := List.length_eq_zero_iff.1 hM
    exact h
  | v :: vs, A, M, R, o, w, b, t, h, hA, hM => by
    cases M with
    | nil => simp at hM
    | cons m M =>
      have h1 := setCell_blk (o := o) h v
      have e : ((A ++ m :: M ++ R).toArray.setIfInBounds o v) = (A ++ [v] ++ M ++ R).toArray := by
        subst hA
        simp
      rw [e] at h1
      have := setCells_blk vs (A ++ [v]) M R (o + 1) _ b t h1 (by simp [hA]) (by simpa using hM)
      simpa [World.setCells] using this
theorem setCells_fr : ∀ (vs : List Value) (o : Nat) (w : World) (b : Nat), Fr (fun k => k = b) w (w.setCells b o vs)
  | [], o, w, b => Fr.refl _ _
  | v :: vs, o, w, b => by
    have h1 : Fr (fun k => k = b) w (w.setCell ⟨b, o, none⟩ v) := Fr.setCell (F := fun k => k = b) (p := ⟨b, o, none⟩) (Fr.refl _ w) (fun _ => rfl) v
    have := h1.trans (setCells_fr vs (o + 1) _ b) (fun _ _ h => h)
    simpa [World.setCells] using this
/-- The slots lie at the head of block b. -/
def BufAt (w : World) (b : Nat) (S : List Sl) : Prop := ∃ rest, w.heap[b]? = some (.cells (flat3 S ++ rest).toArray 200 (0, 0))
section buf
variable {w : World} {b : Nat} {S : List Sl}
theorem BufAt.fr {w' : World} (h : BufAt w b S) {F : Nat → Prop} (f : Fr F w w') (hn : ¬ F b) : BufAt w' b S := by
  obtain ⟨r, h⟩ := h; exact ⟨r, f.get h hn⟩
theorem BufAt.lt (h : BufAt w b S) : b < w.heap.size := by
  obtain ⟨r, h⟩ := h; exact lt_of_block h
theorem BufAt.cells (h : BufAt w b S) {p : Nat} (hp : p < S.length) : w.cell? ⟨b, p * 3, none⟩ = some (.int .u8 ((slAt S p).1 : Int)) ∧ w.cell? ⟨b, p * 3 + 1, none⟩ = some (.int .u32 ((slAt S p).2.1 : Int)) ∧ w.cell? ⟨b, p * 3 + 2, none⟩ = some (.int .i64 (slAt S p).2.2) := by
  obtain ⟨r, h⟩ := h
  have := flat3_get S p hp
  have hl : p * 3 + 2 < (flat3 S).length := by rw [flat3_length]; omega
  rw [cell_of h, cell_of h, cell_of h]
  simp only [List.getElem?_toArray]
  rw [List.getElem?_append_left (by omega), List.getElem?_append_left (by omega), List.getElem?_append_left (by omega)]
  exact this
theorem BufAt.free (h : BufAt w b S) (k : Nat) : w.frozen? ⟨b, k, none⟩ = false := by
  obtain ⟨r, h⟩ := h; exact free_of h k
theorem BufAt.set (h : BufAt w b S) {p : Nat} (hp : p < S.length) (x : Sl) :
    BufAt (((w.setCell ⟨b, p * 3, none⟩ (.int .u8 (x.1 : Int))).setCell ⟨b, p * 3 + 1, none⟩ (.int .u32 (x.2.1 : Int))).setCell ⟨b, p * 3 + 2, none⟩ (.int .i64 x.2.2)) b (S.set p x) := by
  obtain ⟨r, h⟩ := h
  have hl : p * 3 + 2 < (flat3 S).length := by rw [flat3_length]; omega
  refine ⟨r, ?_⟩
  rw [flat3_set hp]
  have h1 := setCell_blk (o := p * 3) h (.int .u8 (x.1 : Int))
  have h2 := setCell_blk (o := p * 3 + 1) h1 (.int .u32 (x.2.1 : Int))
  have h3 := setCell_blk (o := p * 3 + 2) h2 (.int .i64 x.2.2)
  rw [h3]
  simp only [List.setIfInBounds_toArray]
  rw [List.set_append_left _ _ (by omega), List.set_append_left _ _ (by rw [List.length_set]; omega), List.set_append_left _ _ (by rw [List.length_set, List.length_set]; omega)]
theorem set3_fr (w : World) (b p : Nat) (u v x : Value) : Fr (fun k => k = b) w (((w.setCell ⟨b, p * 3, none⟩ u).setCell ⟨b, p * 3 + 1, none⟩ v).setCell ⟨b, p * 3 + 2, none⟩ x) :=
  Fr.setCell (F := fun k => k = b) (p := ⟨b, p * 3 + 2, none⟩) (Fr.setCell (F := fun k => k = b) (p := ⟨b, p * 3 + 1, none⟩) (Fr.setCell (F := fun k => k = b) (p := ⟨b, p * 3, none⟩) (Fr.refl _ w) (fun _ => rfl) _) (fun _ => rfl) _) (fun _ => rfl) _
end buf
abbrev aggOf (x : Sl) : Value := .agg #[.int .u8 (x.1 : Int), .int .u32 (x.2.1 : Int), .int .i64 x.2.2]
/-- Is a slot not full? -/
def gone (x : Sl) : Bool := !(x.1 == 1)
set_option maxRecDepth 100000 in
theorem del_fn (x : Sl) (w : World) : Calls Tryz.prog 152 #[aggOf x] w fun e w' => e = .returned (.bool (gone x)) ∧ Fr (fun _ => False) w w' := by
  obtain ⟨a, i, v⟩ := x
  obtain ⟨q, hq⟩ : ∃ q, q = gone (a, i, v) := ⟨_, rfl⟩
  have hb : ((a : Int) != 1) = q := by
    rw [hq]
    show (!((a : Int) == 1)) = !(a == 1)
    congr 1
    rw [Bool.eq_iff_iff]
    simp only [beq_iff_eq]
    omega
  rw [← hq]
  clear hq
  go_enter Tryz.func152, Tryz.ntmps152
  go_wp2_with fail
  go_ret
  exact ⟨rfl, Fr.alloc (Fr.refl _ _) _⟩
abbrev delV : Value := .func (.func 152) #[] #[]
/-- What IndexFunc tells. -/
def First (S : List Sl) (e : Ending) : Prop := (∃ k : Nat, e = .returned (.int .i64 (k : Int)) ∧ k < S.length ∧ gone (slAt S k) = true ∧ ∀ j, j < k → gone (slAt S j) = false) ∨ (e = .returned (.int .i64 (-1)) ∧ ∀ j, j < S.length → gone (slAt S j) = false)
set_option maxRecDepth 100000 in
theorem indexFunc_ok {w : World} {b n cap : Nat} {S : List Sl} (H : BufAt w b S) (hn : S.length = n) (h8 : n ≤ 8192) :
    Calls Tryz.prog 158 #[.slice (some ⟨b, 0, none⟩) n cap, delV] w fun e w' => Fr (fun _ => False) w w' ∧ First S e := by
  have HB := Lib.hid H; have HN := Lib.hid hn; have H8 := Lib.hid h8
  clear H hn h8
  go_enter Tryz.func158, Tryz.ntmps158
  go_upto_block 0 with fail
  go_cut [8] (fun _ wx => Fr (fun _ => False) w wx ∧ ∀ j, j < S.length → gone (slAt S j) = false)
  case first =>
    go_wp2_with fail
    go_loopw [8] (fun s8 wr => ∃ k : Nat, s8 = .int .i64 (k : Int) ∧ k ≤ n ∧ Fr (fun _ => False) w wr ∧ ∀ j, j < k → gone (slAt S j) = false) (fun s8 _ => n - (intOf s8).toNat)
    case atStart => exact ⟨0, rfl, Nat.zero_le _, Fr.refl _ _, fun j hj => absurd hj (Nat.not_lt_zero _)⟩
    case round =>
      obtain ⟨k, rfl, hk, hf, hj⟩ := hrel
      have HF := Lib.hid hf; have HJ := Lib.hid hj
      clear hf hj
      by_cases hlt : k < n
      · have hlt' : (k : Int) < (n : Int) := by omega
        have k0 : (0 : Int) ≤ (k : Int) := by omega
        obtain ⟨c0, c1, c2⟩ := (HB.out.fr HF.out (fun h => h)).cells (p := k) (by rw [HN.out]; exact hlt)
        obtain ⟨x, hx⟩ : ∃ x, x = slAt S k := ⟨_, rfl⟩
        rw [← hx] at c0 c1 c2
        obtain ⟨xa, xi, xv⟩ := x
        simp only at c0 c1 c2
        have HX := Lib.hid hx; have HL := Lib.hid hlt
        obtain ⟨k1, hk1⟩ : ∃ k1, k1 = k + 1 := ⟨_, rfl⟩
        have e1 : (k : Int) + 1 = (k1 : Int) := by omega
        obtain ⟨e2, e3, -⟩ := wrap_small (x := k1) (by have := H8.out; omega)
        have HK := Lib.hid hk1
        clear hx hlt hk hk1
        go_wp2_with fail
        refine (del_fn (xa, xi, xv) wr).mono ?_
        rintro e w1 ⟨rfl, f1⟩
        have F1 := Lib.hid f1
        clear f1
        cases hg : gone (xa, xi, xv) with
        | true =>
          have HG := Lib.hid hg
          clear hg
          go_wp2_with fail
          go_ret
          exact ⟨HF.out.trans F1.out (fun _ _ h => h), .inl ⟨k, rfl, by rw [HN.out]; exact HL.out, by rw [← HX.out]; exact HG.out, HJ.out⟩⟩
        | false =>
          have HG := Lib.hid hg
          clear hg
          go_wp2_with fail
          go_roundw
          case rel => exact ⟨k1, rfl, by have := HK.out; have := HL.out; omega, HF.out.trans F1.out (fun _ _ h => h), fun j hj => by
            have := HK.out
            rcases (by omega : j < k ∨ j = k) with h | rfl
            · exact HJ.out j h
            · rw [← HX.out]; exact HG.out⟩
          case measure => have := HK.out; have := HL.out; simp [intOf]; omega
      · obtain rfl : k = n := by omega
        clear hlt hk
        go_wp2_with fail
        go_meet
        exact ⟨HF.out, by rw [HN.out]; exact HJ.out⟩
  case rest =>
  obtain ⟨hf, hj⟩ := hcut
  have HF := Lib.hid hf; have HJ := Lib.hid hj
  clear hf hj
  go_wp2_with fail
  go_ret
  exact ⟨HF.out, .inr ⟨rfl, HJ.out⟩⟩
end Go.Proofs.YtebdcahjlcgonaaGreat.Ix
namespace Go.Proofs.YtebdcahjlcgonaaGreat.Ix
open Go.RowKit
def live (x : Sl) : Bool := x.1 == 1
theorem gone_live (x : Sl) : gone x = !live x := rfl
theorem BufAt.take {w : World} {b : Nat} {A B : List Sl} (h : BufAt w b (A ++ B)) : BufAt w b A := by
  obtain ⟨r, h⟩ := h
  exact ⟨flat3 B ++ r, by rw [h, flat3_append, List.append_assoc]⟩
/-- Behind j slots: those that stay, what is done with, what is left. -/
def Shape (S T : List Sl) (i j : Nat) : Prop := ∃ mid, T = (S.take j).filter live ++ mid ++ S.drop j ∧ i = ((S.take j).filter live).length ∧ mid ≠ [] ∧ j ≤ S.length ∧ T.length = S.length
theorem take_succ_slAt {S : List Sl} {j : Nat} (hj : j < S.length) : S.take (j + 1) = S.take j ++ [slAt S j] := by
  rw [List.take_add_one, slAt_of hj]; rfl
theorem drop_slAt {S : List Sl} {j : Nat} (hj : j < S.length) : S.drop j = slAt S j :: S.drop (j + 1) := by
  have := slAt_of hj
  obtain ⟨h, e⟩ := List.getElem?_eq_some_iff.1 this
  rw [← e]; exact List.drop_eq_getElem_cons h
theorem Shape.len1 {S T : List Sl} {i j : Nat} (h : Shape S T i j) : i < j ∧ i < T.length := by
  obtain ⟨mid, rfl, rfl, hm, hj, hl⟩ := h
  have : 0 < mid.length := by cases mid with | nil => exact absurd rfl hm | cons => simp
  simp only [List.length_append, List.length_drop] at hl ⊢
  omega
theorem Shape.at_ {S T : List Sl} {i j : Nat} (h : Shape S T i j) (hj : j < S.length) : slAt T j = slAt S j := by
  obtain ⟨mid, rfl, rfl, hm, _, hl⟩ := h
  have hp : ((S.take j).filter live ++ mid).length = j := by
    simp only [List.length_append, List.length_drop] at hl ⊢
    omega
  have e : ((S.take j).filter live ++ mid ++ S.drop j)[j]? = some (slAt S j) := by
    rw [List.getElem?_append_right (by omega), hp, Nat.sub_self, drop_slAt hj]; rfl
  unfold slAt at e ⊢
  rw [List.getD_eq_getElem?_getD, e]; rfl
theorem Shape.skip {S T : List Sl} {i j : Nat} (h : Shape S T i j) (hj : j < S.length) (hx : live (slAt S j) = false) : Shape S T i (j + 1) := by
  obtain ⟨mid, rfl, rfl, hm, _, hl⟩ := h
  refine ⟨mid ++ [slAt S j], ?_, ?_, by simp, hj, hl⟩
  · rw [take_succ_slAt hj, List.filter_append, List.filter_cons_of_neg (by rw [hx]; simp), List.filter_nil, drop_slAt hj]; simp
  · rw [take_succ_slAt hj, List.filter_append, List.filter_cons_of_neg (by rw [hx]; simp), List.filter_nil]; simp
theorem Shape.keep {S T : List Sl} {i j : Nat} (h : Shape S T i j) (hj : j < S.length) (hx : live (slAt S j) = true) : Shape S (T.set i (slAt S j)) (i + 1) (j + 1) := by
  obtain ⟨mid, rfl, rfl, hm, _, hl⟩ := h
  cases mid with
  | nil => exact absurd rfl hm
  | cons m mid =>
    refine ⟨mid ++ [slAt S j], ?_, ?_, by simp, hj, by rw [List.length_set]; exact hl⟩
    · rw [take_succ_slAt hj, List.filter_append, List.filter_cons_of_pos hx, List.filter_nil, drop_slAt hj]; simp
    · rw [take_succ_slAt hj, List.filter_append, List.filter_cons_of_pos hx, List.filter_nil]; simp
theorem Shape.first {S : List Sl} {k : Nat} (hk : k < S.length) (h1 : gone (slAt S k) = true) (h2 : ∀ j, j < k → gone (slAt S j) = false) : Shape S S k (k + 1) := by
  have hf : (S.take k).filter live = S.take k := by
    rw [List.filter_eq_self]
    intro x hx
    obtain ⟨j, hj, rfl⟩ := List.mem_iff_getElem.1 hx
    rw [List.length_take] at hj
    have e : slAt S j = (S.take k)[j] := by rw [List.getElem_take]; simp [slAt, show j < S.length by omega]
    have := h2 j (by omega)
    rw [e, gone_live] at this
    simpa using this
  have hg : live (slAt S k) = false := by rw [gone_live] at h1; simpa using h1
  refine ⟨[slAt S k], ?_, ?_, by simp, hk, rfl⟩
  · rw [take_succ_slAt hk, List.filter_append, List.filter_cons_of_neg (by rw [hg]; simp), List.filter_nil, hf, List.append_nil, List.append_assoc, List.singleton_append, ← drop_slAt hk, List.take_append_drop]
  · rw [take_succ_slAt hk, List.filter_append, List.filter_cons_of_neg (by rw [hg]; simp), List.filter_nil, hf, List.append_nil, List.length_take]; omega
theorem Shape.done {S T : List Sl} {i : Nat} (h : Shape S T i S.length) : ∃ mid, T = S.filter live ++ mid ∧ i = (S.filter live).length ∧ mid.length = S.length - i ∧ i < S.length := by
  have hl := h.len1
  obtain ⟨mid, rfl, rfl, hm, _, hll⟩ := h
  simp only [List.take_length, List.drop_length, List.append_nil] at hl hll ⊢
  refine ⟨mid, rfl, by trivial, ?_, hl.1⟩
  rw [List.length_append] at hll; omega
theorem all_live {S : List Sl} (h : ∀ j, j < S.length → gone (slAt S j) = false) : S.filter live = S := by
  rw [List.filter_eq_self]
  intro x hx
  obtain ⟨j, hj, rfl⟩ := List.mem_iff_getElem.1 hx
  have e : slAt S j = S[j] := by simp [slAt, hj]
  have := h j hj
  rw [e, gone_live] at this
  simpa using this
theorem Tryz.infoSlot : (Tryz.prog.info? 200).map (fun i => (i.zero, i.size, i.bytes)) = some (some (.agg #[.int .u8 0, .int .u32 0, .int .i64 0]), 3, 16) := by kernel_rfl
/-- clear of slots. -/
theorem run_clear3 (w : World) (ty : TypeId) (b o n c : Nat) (hn : 0 < n) (hc : ∀ j, j < n * 3 → (w.cell? ⟨b, o + j, none⟩).isSome = true) (hf : ∀ j, j < n * 3 → w.frozen? ⟨b, o + j, none⟩ = false) :
    (Builtin.clear_ #[159] ty #[.slice (some ⟨b, o, none⟩) n c]).run Tryz.prog w = .ok (.tuple #[]) (w.setCells b o (flat3 (List.replicate n (0, 0, 0)))) := by
  have hz : (Builtin.zeroCells (Value.cells (.agg #[.int .u8 0, .int .u32 0, .int .i64 0])) n).toList = flat3 (List.replicate n (0, 0, 0)) := by
    apply List.ext_getElem?
    intro k
    by_cases hk : k < n * 3
    · have hl : k < (flat3 (List.replicate n ((0, 0, 0) : Sl))).length := by rw [flat3_length, List.length_replicate]; exact hk
      have hs : slAt (List.replicate n ((0, 0, 0) : Sl)) (k / 3) = (0, 0, 0) := by unfold slAt; rw [List.getD_eq_getElem?_getD, List.getElem?_replicate]; split <;> rfl
      obtain ⟨g0, g1, g2⟩ := flat3_get (List.replicate n ((0, 0, 0) : Sl)) (k / 3) (by rw [List.length_replicate]; omega)
      rw [hs] at g0 g1 g2
      have h3 : ∃ i, i < 3 ∧ k = k / 3 * 3 + i := ⟨k % 3, Nat.mod_lt _ (by decide), by omega⟩
      obtain ⟨i, hi, hki⟩ := h3
      have hm : k % 3 = i := by omega
      have hz : (Builtin.zeroCells (Value.cells (.agg #[.int .u8 0, .int .u32 0, .int .i64 0])) n).toList[k]? = (#[Value.int .u8 0, Value.int .u32 0, Value.int .i64 0] : Array Value)[i]? := by
        rw [Array.getElem?_toList]
        simp only [Builtin.zeroCells, Value.cells]
        rw [Array.getElem?_map, Array.getElem?_range, if_pos (by show k < n * 3; exact hk)]
        show some ((#[Value.int .u8 0, Value.int .u32 0, Value.int .i64 0] : Array Value)[k % 3]!) = _
        rw [hm]
        rcases (by omega : i = 0 ∨ i = 1 ∨ i = 2) with rfl | rfl | rfl <;> rfl
      rw [hz, hki]
      rcases (by omega : i = 0 ∨ i = 1 ∨ i = 2) with rfl | rfl | rfl
      · rw [Nat.add_zero, g0]; rfl
      · rw [g1]; rfl
      · rw [g2]; rfl
    · rw [List.getElem?_eq_none (by simp [Builtin.zeroCells, Value.cells]; omega), List.getElem?_eq_none (by rw [flat3_length, List.length_replicate]; omega)]
  have hst := run_storeCells_cells (P := Tryz.prog) b o (flat3 (List.replicate n (0, 0, 0))) 0 w (by intro j hj; rw [flat3_length, List.length_replicate] at hj; simpa using hc j hj) (by intro j hj; rw [flat3_length, List.length_replicate] at hj; first | (simp; done) | simpa using hf j hj)
    (by
      intro v hv
      obtain ⟨x, hx, hv⟩ := List.mem_flatMap.1 hv
      simp only [cells3, List.mem_cons, List.not_mem_nil, or_false] at hv
      rcases hv with rfl | rfl | rfl <;> rfl)
  simp only [Nat.add_zero] at hst
  obtain ⟨m, rfl⟩ : ∃ m, n = m + 1 := ⟨n - 1, by omega⟩
  have hv := fun w => Tryz.zeroValue200 (w := w)
  simp [Builtin.clear_, run_underlying Tryz.underlying159, hv, hz, hst]
end Go.Proofs.YtebdcahjlcgonaaGreat.Ix
namespace Go.Proofs.YtebdcahjlcgonaaGreat.Ix
open Go.RowKit
theorem BufAt.some {w : World} {b : Nat} {S : List Sl} (h : BufAt w b S) {k : Nat} (hk : k < S.length * 3) : (w.cell? ⟨b, k, none⟩).isSome = true := by
  obtain ⟨r, h⟩ := h
  rw [cell_of h]
  simp only [List.getElem?_toArray]
  rw [List.getElem?_append_left (by rw [flat3_length]; exact hk), List.getElem?_eq_getElem (by rw [flat3_length]; exact hk)]
  rfl
theorem BufAt.clear {w : World} {b : Nat} {A M : List Sl} (h : BufAt w b (A ++ M)) : BufAt (w.setCells b (A.length * 3) (flat3 (List.replicate M.length (0, 0, 0)))) b A := by
  obtain ⟨r, h⟩ := h
  rw [flat3_append] at h
  have := setCells_blk (flat3 (List.replicate M.length (0, 0, 0))) (flat3 A) (flat3 M) r (A.length * 3) w b _ h (flat3_length A) (by rw [flat3_length, flat3_length, List.length_replicate])
  exact ⟨flat3 (List.replicate M.length (0, 0, 0)) ++ r, by rw [this, List.append_assoc]⟩
theorem agg_eq (x : Sl) : (.agg #[.int .u8 (x.1 : Int), .int .u32 (x.2.1 : Int), .int .i64 x.2.2] : Value) = aggOf x := rfl
set_option maxRecDepth 100000 in
set_option maxHeartbeats 2000000 in
theorem deleteFunc_ok {w : World} {b n cap : Nat} {S : List Sl} (H : BufAt w b S) (hn : S.length = n) (h8 : n ≤ 8192) (hcap : n ≤ cap) (hc6 : cap ≤ 9223372036854775807) :
    Calls Tryz.prog 150 #[.slice (some ⟨b, 0, none⟩) n cap, delV] w fun e w' => ∃ m, e = .returned (.slice (some ⟨b, 0, none⟩) m cap) ∧ m = (S.filter live).length ∧ BufAt w' b (S.filter live) ∧ Fr (fun k => k = b) w w' := by
  have HB := Lib.hid H; have HN := Lib.hid hn; have H8 := Lib.hid h8; have HC := Lib.hid hcap; have HC6 := Lib.hid hc6
  clear H hn h8 hcap hc6
  go_enter Tryz.func150, Tryz.ntmps150
  go_wp2_with fail
  refine (indexFunc_ok HB.out HN.out H8.out).mono ?_
  rintro e w1 ⟨f1, hfirst⟩
  have F1 := Lib.hid f1
  clear f1
  rcases hfirst with ⟨k, rfl, hk, hg, hj⟩ | ⟨rfl, hj⟩
  · have HS := Lib.hid (Shape.first hk hg hj)
    have HK := Lib.hid hk
    have hkm : ((k : Int) == -1) = false := by simp
    have hkm2 : ((k : Int) == (-1 : Int)) = false := hkm
    obtain ⟨j0, hj0⟩ : ∃ j0, j0 = k + 1 := ⟨_, rfl⟩
    have e1 : (k : Int) + 1 = (j0 : Int) := by omega
    obtain ⟨e2, e3, -⟩ := wrap_small (x := j0) (by have := H8.out; have := HN.out; omega)
    have HJ0 := Lib.hid hj0
    clear hk hg hj hj0
    go_upto_block 0 with fail
    clear hkm hkm2 e1 e2 e3
    go_cut [5, 6] (fun s5 s6 wx => ∃ (i : Nat) (T : List Sl), s5 = .int .i64 (i : Int) ∧ Shape S T i S.length ∧ BufAt wx b T ∧ Fr (fun k => k = b) w wx)
    case first =>
      go_wp2_with fail
      go_loopw [5, 6] (fun s5 s6 wr => ∃ (i j : Nat) (T : List Sl), s5 = .int .i64 (i : Int) ∧ s6 = .int .i64 (j : Int) ∧ j ≤ n ∧ Shape S T i j ∧ BufAt wr b T ∧ Fr (fun k => k = b) w wr) (fun _ s6 _ => n - (intOf s6).toNat)
      case atStart => exact ⟨k, j0, S, rfl, rfl, by have := HJ0.out; have := HK.out; have := HN.out; omega, by rw [HJ0.out]; exact HS.out, HB.out.fr F1.out (fun h => h), F1.out.mono (fun _ _ h => h.elim)⟩
      case round =>
        obtain ⟨i, j, T, rfl, rfl, hjn, hs, hb, hf⟩ := hrel
        have HSh := Lib.hid hs; have HBf := Lib.hid hb; have HF := Lib.hid hf
        clear hs hb hf
        by_cases hlt : j < n
        · have hlt' : (j : Int) < (n : Int) := by omega
          have hi1 := HSh.out.len1
          have hTl : T.length = n := by obtain ⟨_, _, _, _, _, h⟩ := HSh.out; rw [h, HN.out]
          have hil : (i : Int) < (n : Int) := by omega
          obtain ⟨c0, c1, c2⟩ := HBf.out.cells (p := j) (by omega)
          rw [HSh.out.at_ (by rw [HN.out]; exact hlt)] at c0 c1 c2
          obtain ⟨x, hx⟩ : ∃ x, x = slAt S j := ⟨_, rfl⟩
          rw [← hx] at c0 c1 c2
          obtain ⟨xa, xi, xv⟩ := x
          simp only at c0 c1 c2
          obtain ⟨j1, hj1⟩ : ∃ j1, j1 = j + 1 := ⟨_, rfl⟩
          have e1 : (j : Int) + 1 = (j1 : Int) := by omega
          obtain ⟨e2, e3, -⟩ := wrap_small (x := j1) (by have := H8.out; omega)
          obtain ⟨i1, hi1'⟩ : ∃ i1, i1 = i + 1 := ⟨_, rfl⟩
          have e4 : (i : Int) + 1 = (i1 : Int) := by omega
          obtain ⟨e5, e6, -⟩ := wrap_small (x := i1) (by have := H8.out; omega)
          have HX := Lib.hid hx; have HL := Lib.hid hlt; have HJ1 := Lib.hid hj1; have HI1 := Lib.hid hi1'; have HTl := Lib.hid hTl; have HI := Lib.hid (show i < T.length from hi1.2)
          clear hx hlt hjn hj1 hi1' hTl hi1
          go_upto_region 8 with fail
          clear c0 c1 c2
          have hw4 : (wr.alloc (.cells #[.int .u8 (xa : Int), .int .u32 (xi : Int), .int .i64 xv] 200)).heap[wr.heap.size]? = some (.cells #[.int .u8 (xa : Int), .int .u32 (xi : Int), .int .i64 xv] 200 (0, 0)) := by rw [heap_alloc_get]; simp
          have hf4 : Fr (fun _ => False) wr (wr.alloc (.cells #[.int .u8 (xa : Int), .int .u32 (xi : Int), .int .i64 xv] 200)) := Fr.alloc (Fr.refl _ _) _
          generalize wr.alloc (.cells #[.int .u8 (xa : Int), .int .u32 (xi : Int), .int .i64 xv] 200) = w4 at hw4 hf4 ⊢
          generalize wr.heap.size = lb at hw4 ⊢
          have l0 := (cell_of hw4 0).trans (show _ = some (Value.int .u8 (xa : Int)) from rfl)
          have l1 := (cell_of hw4 1).trans (show _ = some (Value.int .u32 (xi : Int)) from rfl)
          have l2 := (cell_of hw4 2).trans (show _ = some (Value.int .i64 xv) from rfl)
          have HW4 := Lib.hid hw4; have HF4 := Lib.hid hf4
          clear hw4 hf4
          go_wp2_with fail
          refine (del_fn (xa, xi, xv) w4).mono ?_
          rintro e w5 ⟨rfl, f5⟩
          have hw5 := f5.get HW4.out (fun h => h)
          have hb5 := (HBf.out.fr HF4.out (fun h => h)).fr f5 (fun h => h)
          have hf5 := (HF.out.trans (HF4.out.mono (G := fun k => k = b) (fun _ _ h => h.elim)) (fun _ _ h => h)).trans (f5.mono (G := fun k => k = b) (fun _ _ h => h.elim)) (fun _ _ h => h)
          have HB5 := Lib.hid hb5; have HF5 := Lib.hid hf5
          clear f5 l0 l1 l2 hb5 hf5
          cases hg : gone (xa, xi, xv) with
          | true =>
            have HSk := Lib.hid (HSh.out.skip (by rw [HN.out]; exact HL.out) (by rw [← HX.out]; rw [gone_live] at hg; simpa using hg))
            clear hg hw5
            go_wp2_with fail
            go_roundw
            case rel => exact ⟨i, j1, T, rfl, rfl, by have := HJ1.out; have := HL.out; omega, by rw [HJ1.out]; exact HSk.out, HB5.out, HF5.out⟩
            case measure => have := HJ1.out; have := HL.out; simp [intOf]; omega
          | false =>
            have HSk := Lib.hid (HSh.out.keep (by rw [HN.out]; exact HL.out) (by rw [← HX.out]; rw [gone_live] at hg; simpa using hg))
            have l0 := (cell_of hw5 0).trans (show _ = some (Value.int .u8 (xa : Int)) from rfl)
            have l1 := (cell_of hw5 1).trans (show _ = some (Value.int .u32 (xi : Int)) from rfl)
            have l2 := (cell_of hw5 2).trans (show _ = some (Value.int .i64 xv) from rfl)
            obtain ⟨k0, k1, k2⟩ := HB5.out.cells HI.out
            have z0 := HB5.out.free (i * 3); have z1 := HB5.out.free (i * 3 + 1); have z2 := HB5.out.free (i * 3 + 2)
            have hb6 := HB5.out.set HI.out (xa, xi, xv)
            have hf6 := HF5.out.trans (set3_fr w5 b i (.int .u8 (xa : Int)) (.int .u32 (xi : Int)) (.int .i64 xv)) (fun _ _ h => h)
            rw [HX.out] at hb6
            simp only [← HX.out] at hb6
            have HB6 := Lib.hid hb6; have HF6 := Lib.hid hf6
            clear hg hw5 hb6 hf6
            go_wp2_with fail
            go_roundw
            case rel => exact ⟨i1, j1, _, rfl, rfl, by have := HJ1.out; have := HL.out; omega, by rw [HJ1.out, HI1.out]; exact HSk.out, by rw [← HX.out]; exact HB6.out, HF6.out⟩
            case measure => have := HJ1.out; have := HL.out; simp [intOf]; omega
        · obtain rfl : j = n := by omega
          clear hlt hjn
          go_wp2_with fail
          go_meet
          exact ⟨i, T, rfl, by rw [HN.out]; exact HSh.out, HBf.out, HF.out⟩
    case rest =>
    obtain ⟨i, T, rfl, hs, hb, hf⟩ := hcut
    obtain ⟨mid, hT, hi, hml, hil⟩ := hs.done
    have hin : i < n := by rw [← HN.out]; exact hil
    have hin' : (i : Int) < (n : Int) := by omega
    have hin2 : i ≤ n := by omega
    have hic : i ≤ cap := by have := HC.out; omega
    have hne : ¬ cap = i := by have := HC.out; omega
    have hne2 : ¬ (cap : Int) = (i : Int) := by omega
    have hnc := HC.out
    have HT := Lib.hid hT; have Hi := Lib.hid hi; have Hml := Lib.hid hml; have HBf := Lib.hid hb; have HF := Lib.hid hf; have Hin := Lib.hid hin
    have hcl := fun ty => run_clear3 wc ty b (i * 3) (n - i) (cap - i) (by omega) (fun j hj => hb.some (by rw [hT, List.length_append, hml, ← hi, HN.out]; omega)) (fun j _ => hb.free _)
    have hcb : BufAt (wc.setCells b (i * 3) (flat3 (List.replicate (n - i) (0, 0, 0)))) b (S.filter live) := by
      have := hb
      rw [hT] at this
      have := this.clear
      rwa [hml, ← hi, HN.out] at this
    have hcf : Fr (fun k => k = b) w (wc.setCells b (i * 3) (flat3 (List.replicate (n - i) (0, 0, 0)))) := hf.trans (setCells_fr _ _ _ _) (fun _ _ h => h)
    have HCB := Lib.hid hcb; have HCF := Lib.hid hcf
    clear hs hb hf hT hi hml hil hin hcb hcf
    go_wp2_with fail
    go_ret
    exact ⟨i, rfl, Hi.out, HCB.out, HCF.out⟩
  · have HA := Lib.hid (all_live hj)
    clear hj
    go_wp2_with fail
    go_ret
    exact ⟨n, rfl, by rw [HA.out, HN.out], by rw [HA.out]; exact HB.out.fr F1.out (fun h => h), F1.out.mono (fun _ _ h => h.elim)⟩
end Go.Proofs.YtebdcahjlcgonaaGreat.Ix
namespace Go.Proofs.YtebdcahjlcgonaaGreat.Ix
open Go.RowKit
theorem info_parts {i : Option TypeInfo} {z : Option Value} {s b : Nat} (h : i.map (fun i => (i.zero, i.size, i.bytes)) = some (z, s, b)) : ∃ i0, i = some i0 ∧ i0.zero = z ∧ i0.size = s ∧ i0.bytes = b := by
  cases i with
  | none => simp at h
  | some i0 => simp at h; exact ⟨i0, rfl, h⟩
theorem cells3_one {S : List Sl} {u : Value} (h : u ∈ flat3 S) : u.oneCell' = true := by
  obtain ⟨x, _, hx⟩ := List.mem_flatMap.1 h
  simp only [cells3, List.mem_cons, List.not_mem_nil, or_false] at hx
  rcases hx with rfl | rfl | rfl <;> rfl
set_option maxRecDepth 100000 in
theorem clone_ok {w : World} {g N : Nat} {S : List Sl} (h1 : SlotsAt w g S) (hN : S.length = N) (h8 : N ≤ 8192) (h0 : 0 < N) :
    Calls Tryz.prog 151 #[.slice (some ⟨g, 0, none⟩) N N] w fun e w' => ∃ b cap, e = .returned (.slice (some ⟨b, 0, none⟩) N cap) ∧ N ≤ cap ∧ cap ≤ 9223372036854775807 ∧ BufAt w' b S ∧ Fr (fun _ => False) w w' ∧ w.heap.size ≤ b := by
  have q := fun w a n c => Lib.run_eql_slice_nil (P := Tryz.prog) w _ _ a n c 0 0 Tryz.underlying159
  obtain ⟨i0, hi, hz0, hz1, hz2⟩ := info_parts Tryz.infoSlot
  have hfr : Fr (fun _ => False) w (w.alloc (.cells #[] 200)) := Fr.alloc (Fr.refl _ _) _
  have hR1 : Row (w.alloc (.cells #[] 200)) 200 3 (.slice (some ⟨w.heap.size, 0, none⟩) 0 0) 0 [] :=
    ⟨rfl, .inr ⟨w.heap.size, 0, #[], rfl, Nat.zero_le _, (by simp only [heap_alloc_get]; simp), Nat.le_refl _, Nat.zero_le _, rfl, rfl⟩⟩
  have hl3 : (flat3 S).length = N * 3 := by rw [flat3_length, hN]
  obtain ⟨v', w3, hrun, hR3, hf3, ho3⟩ := run_append_fr (P := Tryz.prog) _ 159 159 200 i0 _ 3 16 Tryz.underlying159 hi hz0 hz1 hz2 rfl (by decide) _ _ _ hR1 ⟨g, 0, none⟩ N N (flat3 S) hl3
    (by
      intro j u hu
      have hb := hfr.get h1 (fun h => h)
      have := cell_of hb j
      have e : (⟨g, 0, none⟩ : Addr).add j = ⟨g, j, none⟩ := by
        by_cases h0 : j = 0
        · subst h0; simp [Addr.add]
        · simp [Addr.add, h0]
      rw [e, this]; simpa using hu)
    (fun u hu => cells3_one hu) (by unfold maxLen; omega) (by omega)
  simp only [Nat.zero_add, List.nil_append] at hR3
  have HR3 := Lib.hid hR3; have Hf3 := Lib.hid hf3; have Ho3 := Lib.hid ho3; have Hfr := Lib.hid hfr
  have Hrun := Lib.hid hrun; have HN := Lib.hid h0
  clear h1 hR3 hf3 ho3 hfr hR1 hi hz0 hz1 hz2 hrun hl3 hN h8 h0
  go_enter Tryz.func151, Tryz.ntmps151
  go_wp2_with (at_builtin; refine wpList_append_run rfl _ _ _ rfl rfl rfl Hrun.out ?_)
  go_ret
  have hN := HN.out
  rcases HR3.out.2 with ⟨-, e0⟩ | ⟨g', cap, cur, rfl, -, k1, k2, k3, k4, k5⟩
  · omega
  refine ⟨g', cap, rfl, k2, by simp only [maxLen] at k3; omega, ⟨cur.toList.drop (N * 3), by rw [k1, ← k5, List.take_append_drop]⟩, ?_, ?_⟩
  · refine Fr.trans Hfr.out Hf3.out ?_
    intro b hb e
    simp [Value.ownBlock] at e; omega
  · rcases Ho3.out with h | h
    · simp [Value.ownBlock] at h; omega
    · simp [Value.ownBlock] at h; omega
end Go.Proofs.YtebdcahjlcgonaaGreat.Ix
namespace Go.Proofs
open Go.Shelf
def Tryz.sortSlot_ren : Go.Shelf.Ren := ⟨fun | 6 => 153 | 15 => 160 | 14 => 159 | 28 => 173 | 29 => 174 | 20 => 165 | 21 => 166 | 22 => 167 | 23 => 168 | 24 => 169 | 25 => 170 | 26 => 171 | 27 => 172 | 46 => 176 | 47 => 177 | 48 => 178 | 49 => 179 | 50 => 180 | 57 => 181 | n => n, fun | 22 => 159 | 24 => 200 | 25 => 226 | 3 => 3 | 39 => 229 | 0 => 0 | 53 => 24 | 55 => 197 | 4 => 4 | 46 => 240 | 45 => 239 | 50 => 168 | 5 => 5 | 9 => 9 | 66 => 249 | 70 => 252 | 76 => 256 | 77 => 257 | n => n, fun | n => n⟩
theorem Tryz.sortSlot : Go.Proofs.SlLaysF0.n6 Tryz.prog Tryz.sortSlot_ren := {
  mixed := by kernel_rfl
  f6 := ⟨Tryz.f153.name, by decide, Tryz.func153.trans (congrArg some (by kernel_rfl))⟩
  f14 := ⟨Tryz.f159.name, by decide, Tryz.func159.trans (congrArg some (by kernel_rfl))⟩
  f15 := Tryz.func160.trans (congrArg some (by kernel_rfl))
  f20 := ⟨Tryz.f165.name, by decide, Tryz.func165.trans (congrArg some (by kernel_rfl))⟩
  f21 := ⟨Tryz.f166.name, by decide, Tryz.func166.trans (congrArg some (by kernel_rfl))⟩
  f22 := ⟨Tryz.f167.name, by decide, Tryz.func167.trans (congrArg some (by kernel_rfl))⟩
  f23 := ⟨Tryz.f168.name, by decide, Tryz.func168.trans (congrArg some (by kernel_rfl))⟩
  f24 := ⟨Tryz.f169.name, by decide, Tryz.func169.trans (congrArg some (by kernel_rfl))⟩
  f25 := ⟨Tryz.f170.name, by decide, Tryz.func170.trans (congrArg some (by kernel_rfl))⟩
  f26 := ⟨Tryz.f171.name, by decide, Tryz.func171.trans (congrArg some (by kernel_rfl))⟩
  f27 := ⟨Tryz.f172.name, by decide, Tryz.func172.trans (congrArg some (by kernel_rfl))⟩
  f28 := Tryz.func173.trans (congrArg some (by kernel_rfl))
  f29 := Tryz.func174.trans (congrArg some (by kernel_rfl))
  f46 := ⟨Tryz.f176.name, by decide, Tryz.func176.trans (congrArg some (by kernel_rfl))⟩
  f47 := Tryz.func177.trans (congrArg some (by kernel_rfl))
  f48 := Tryz.func178.trans (congrArg some (by kernel_rfl))
  f49 := ⟨Tryz.f179.name, by decide, Tryz.func179.trans (congrArg some (by kernel_rfl))⟩
  f50 := ⟨Tryz.f180.name, by decide, Tryz.func180.trans (congrArg some (by kernel_rfl))⟩
  f57 := ⟨Tryz.f181.name, by decide, Tryz.func181.trans (congrArg some (by kernel_rfl))⟩
  t0 := Tryz.underlying0
  a0 := Tryz.isAgg0
  z0 := Tryz.sizeOf0
  v0 := Tryz.zeroValue0
  t3 := Tryz.underlying3
  a3 := Tryz.isAgg3
  z3 := Tryz.sizeOf3
  v3 := Tryz.zeroValue3
  t4 := Tryz.underlying4
  a4 := Tryz.isAgg4
  z4 := Tryz.sizeOf4
  v4 := Tryz.zeroValue4
  t5 := Tryz.underlying5
  a5 := Tryz.isAgg5
  z5 := Tryz.sizeOf5
  v5 := Tryz.zeroValue5
  t9 := Tryz.underlying9
  a9 := Tryz.isAgg9
  z9 := Tryz.sizeOf9
  v9 := Tryz.zeroValue9
  t22 := Tryz.underlying159
  a22 := Tryz.isAgg159
  z22 := Tryz.sizeOf159
  v22 := Tryz.zeroValue159
  t25 := Tryz.underlying226
  a25 := Tryz.isAgg226
  z25 := Tryz.sizeOf226
  v25 := Tryz.zeroValue226
  t39 := Tryz.underlying229
  a39 := Tryz.isAgg229
  z39 := Tryz.sizeOf229
  v39 := Tryz.zeroValue229
  t45 := Tryz.underlying239
  a45 := Tryz.isAgg239
  z45 := Tryz.sizeOf239
  v45 := Tryz.zeroValue239
  t46 := Tryz.underlying240
  a46 := Tryz.isAgg240
  z46 := Tryz.sizeOf240
  v46 := Tryz.zeroValue240
  t50 := Tryz.underlying168
  a50 := Tryz.isAgg168
  z50 := Tryz.sizeOf168
  v50 := Tryz.zeroValue168
  t53 := Tryz.underlying24
  a53 := Tryz.isAgg24
  z53 := Tryz.sizeOf24
  v53 := Tryz.zeroValue24
  t55 := Tryz.underlying197
  a55 := Tryz.isAgg197
  z55 := Tryz.sizeOf197
  v55 := Tryz.zeroValue197
  t66 := Tryz.underlying249
  a66 := Tryz.isAgg249
  z66 := Tryz.sizeOf249
  v66 := Tryz.zeroValue249
  t70 := Tryz.underlying252
  a70 := Tryz.isAgg252
  z70 := Tryz.sizeOf252
  v70 := Tryz.zeroValue252
  t76 := Tryz.underlying256
  a76 := Tryz.isAgg256
  z76 := Tryz.sizeOf256
  v76 := Tryz.zeroValue256
  t77 := Tryz.underlying257
  a77 := Tryz.isAgg257
  z77 := Tryz.sizeOf257
  v77 := Tryz.zeroValue257 }
end Go.Proofs
namespace Go.Proofs.YtebdcahjlcgonaaGreat.Ix
open Go.Shelf Go.RowKit Go.Lib Go.Sort
def cmpSl (x y : Sl) : Int := if x.2.1 < y.2.1 then -1 else if y.2.1 < x.2.1 then 1 else 0
theorem ltOf_cmp (x y : Sl) : ltOf cmpSl x y = decide (x.2.1 < y.2.1) := by
  have h : cmpSl x y < 0 ↔ x.2.1 < y.2.1 := by
    unfold cmpSl
    split
    · omega
    · split <;> omega
  show decide (cmpSl x y < 0) = _
  exact decide_eq_decide.2 h
theorem cmpSl_swo : SWO (ltOf cmpSl) where
  irrefl x := by rw [ltOf_cmp]; simp
  trans x y z h1 h2 := by rw [ltOf_cmp] at *; have a1 := of_decide_eq_true h1; have a2 := of_decide_eq_true h2; exact decide_eq_true (by omega)
  ntrans x y z h1 h2 := by rw [ltOf_cmp] at *; have a1 := of_decide_eq_false h1; have a2 := of_decide_eq_false h2; exact decide_eq_false (by omega)
set_option maxRecDepth 100000 in
theorem isNaN_ok (x : Nat) (w : World) : Calls Tryz.prog 161 #[.int .u32 (x : Int)] w fun e w' => e = .returned (.bool false) ∧ w = w' := by
  have hb : ((x : Int) != (x : Int)) = false := by simp
  go_enter Tryz.func161, Tryz.ntmps161
  go_wp2_with fail
  go_ret
  exact ⟨rfl, rfl⟩
def cmpN (x y : Nat) : Int := if x < y then -1 else if y < x then 1 else 0
set_option maxRecDepth 100000 in
theorem compare_ok (x y : Nat) (w : World) : Calls Tryz.prog 155 #[.int .u32 (x : Int), .int .u32 (y : Int)] w fun e w' => e = .returned (.int .i64 (cmpN x y)) ∧ w = w' := by
  have hx := isNaN_ok x w
  have hy := isNaN_ok y w
  rcases Nat.lt_trichotomy x y with h | h | h
  · have e : cmpN x y = -1 := by unfold cmpN; rw [if_pos h]
    rw [e]
    have h1 : (x : Int) < (y : Int) := by omega
    clear e h
    go_enter Tryz.func155, Tryz.ntmps155
    go_wp2_with fail
    refine hx.mono ?_
    rintro e w1 ⟨rfl, rfl⟩
    go_wp2_with fail
    refine hy.mono ?_
    rintro e w1 ⟨rfl, rfl⟩
    go_wp2_with fail
    go_ret
    exact ⟨rfl, rfl⟩
  · subst h
    have e : cmpN x x = 0 := by unfold cmpN; rw [if_neg (by omega), if_neg (by omega)]
    rw [e]
    clear e
    have h1 : ¬ (x : Int) < (x : Int) := by omega
    have h2 : decide ((x : Int) < (x : Int)) = false := by simp
    go_enter Tryz.func155, Tryz.ntmps155
    go_wp2_with fail
    refine hx.mono ?_
    rintro e w1 ⟨rfl, rfl⟩
    go_wp2_with fail
    refine hy.mono ?_
    rintro e w1 ⟨rfl, rfl⟩
    go_wp2_with fail
    go_ret
    exact ⟨rfl, rfl⟩
  · have e : cmpN x y = 1 := by unfold cmpN; rw [if_neg (by omega), if_pos h]
    rw [e]
    have h1 : ¬ (x : Int) < (y : Int) := by omega
    have h2 : (y : Int) < (x : Int) := by omega
    clear e h
    go_enter Tryz.func155, Tryz.ntmps155
    go_wp2_with fail
    refine hx.mono ?_
    rintro e w1 ⟨rfl, rfl⟩
    go_wp2_with fail
    refine hy.mono ?_
    rintro e w1 ⟨rfl, rfl⟩
    go_wp2_with fail
    go_ret
    exact ⟨rfl, rfl⟩
set_option maxRecDepth 100000 in
theorem cmp_ok (x y : Sl) (W : World) : Calls Tryz.prog 154 #[aggOf x, aggOf y] W fun e w' => e = .returned (.int .i64 (cmpSl x y)) ∧ ∃ q os', w' = grow (W.drewN q) os' := by
  obtain ⟨a, i, v⟩ := x
  obtain ⟨a2, i2, v2⟩ := y
  show Calls Tryz.prog 154 _ W fun e w' => e = .returned (.int .i64 (cmpN i i2)) ∧ _
  have hc := compare_ok i i2
  go_enter Tryz.func154, Tryz.ntmps154
  go_wp2_with fail
  refine (hc _).mono ?_
  rintro e w1 ⟨rfl, rfl⟩
  go_wp2_with fail
  go_ret
  exact ⟨rfl, 0, _, by rw [alloc_eq_grow, alloc_eq_grow, grow_grow]; rfl⟩
theorem enters_cmp : ∀ args w, (callFunc 154 args).run Tryz.prog w = .ok (.enter 154 args) w := enters_of Tryz.func154 (by kernel_rfl) rfl
theorem get_flat3 (d : Array Sl) (j : Nat) (hj : j < d.size) : (flatK cells3 3 d)[j * 3]! = .int .u8 (d[j]!.1 : Int) ∧ (flatK cells3 3 d)[j * 3 + 1]! = .int .u32 (d[j]!.2.1 : Int) ∧ (flatK cells3 3 d)[j * 3 + 2]! = .int .i64 d[j]!.2.2 := by
  rw [get_flatK _ _ _ _ (by omega), get_flatK _ _ _ _ (by omega), get_flatK _ _ _ _ (by omega)]
  have e1 : j * 3 / 3 = j := by omega
  have e2 : j * 3 % 3 = 0 := by omega
  have e3 : (j * 3 + 1) / 3 = j := by omega
  have e4 : (j * 3 + 1) % 3 = 1 := by omega
  have e5 : (j * 3 + 2) / 3 = j := by omega
  have e6 : (j * 3 + 2) % 3 = 2 := by omega
  rw [e1, e2, e3, e4, e5, e6]
  exact ⟨rfl, rfl, rfl⟩
/-- A block whose cells are known, slot by slot. -/
theorem bufAt_of {w : World} {b : Nat} {arr : Array Value} {S : List Sl} (hb : w.heap[b]? = some (.cells arr 200 (0, 0))) (_hs : S.length * 3 ≤ arr.size)
    (h : ∀ p, p < S.length → w.cell? ⟨b, p * 3, none⟩ = some (.int .u8 ((slAt S p).1 : Int)) ∧ w.cell? ⟨b, p * 3 + 1, none⟩ = some (.int .u32 ((slAt S p).2.1 : Int)) ∧ w.cell? ⟨b, p * 3 + 2, none⟩ = some (.int .i64 (slAt S p).2.2)) : BufAt w b S := by
  refine ⟨arr.toList.drop (S.length * 3), ?_⟩
  have e : arr.toList.take (S.length * 3) = flat3 S := by
    apply List.ext_getElem?
    intro k
    by_cases hk : k < S.length * 3
    · rw [List.getElem?_take, if_pos hk]
      obtain ⟨g0, g1, g2⟩ := flat3_get S (k / 3) (by omega)
      obtain ⟨h0, h1, h2⟩ := h (k / 3) (by omega)
      rw [cell_of hb] at h0 h1 h2
      obtain ⟨i, hi, hki⟩ : ∃ i, i < 3 ∧ k = k / 3 * 3 + i := ⟨k % 3, Nat.mod_lt _ (by decide), by omega⟩
      rw [hki, Array.getElem?_toList]
      rcases (by omega : i = 0 ∨ i = 1 ∨ i = 2) with rfl | rfl | rfl
      · rw [Nat.add_zero, g0, h0]
      · rw [g1, h1]
      · rw [g2, h2]
    · rw [List.getElem?_eq_none (by rw [List.length_take]; omega), List.getElem?_eq_none (by rw [flat3_length]; omega)]
  rw [← e, List.take_append_drop]
  exact hb
set_option maxHeartbeats 1000000 in
theorem sort_ok {w : World} {b cap m : Nat} {L : List Sl} (hB : BufAt w b L) (hm : L.length = m) (hn : m ≤ 8192) :
    Calls Tryz.prog 153 #[.slice (some ⟨b, 0, none⟩) m cap, .func (.func 154) #[] #[]] w fun e w' => e = .returned (.tuple #[]) ∧
      ∃ S : List Sl, S.Perm L ∧ (S.Pairwise fun x y => x.2.1 ≤ y.2.1) ∧ Fr (fun k => k = b) w w' ∧ BufAt w' b S := by
  subst hm
  obtain ⟨rest, hblk⟩ := hB
  obtain ⟨d, hd⟩ : ∃ d : Array Sl, d.toList = L := ⟨L.toArray, by simp⟩
  have hsz : d.size = L.length := by rw [← hd]; simp
  have hget : ∀ (e : Array Sl) j, j < e.size → slAt e.toList j = e[j]! := by
    intro e j hj
    simp [slAt, hj]
  have hcl : ∀ j, j < L.length → w.cell? ⟨b, j * 3, none⟩ = some (.int .u8 ((slAt L j).1 : Int)) ∧ w.cell? ⟨b, j * 3 + 1, none⟩ = some (.int .u32 ((slAt L j).2.1 : Int)) ∧ w.cell? ⟨b, j * 3 + 2, none⟩ = some (.int .i64 (slAt L j).2.2) := fun j hj => BufAt.cells ⟨rest, hblk⟩ hj
  have hH : HoldsK cells3 3 w b 0 d := by
    intro j hj
    rw [size_flatK] at hj
    have hlt : ∀ k, w.frozen? ⟨b, k, none⟩ = false := fun k => by simp [World.frozen?, hblk]
    refine ⟨?_, hlt _⟩
    have hj3 : j / 3 < d.size := by omega
    obtain ⟨c0, c1, c2⟩ := hcl (j / 3) (by omega)
    obtain ⟨f0, f1, f2⟩ := get_flat3 d (j / 3) hj3
    rw [← hd, hget d (j / 3) hj3] at c0 c1 c2
    obtain ⟨i, hi, hji⟩ : ∃ i, i < 3 ∧ j = j / 3 * 3 + i := ⟨j % 3, Nat.mod_lt _ (by decide), by omega⟩
    rw [Nat.zero_add, hji]
    rcases (by omega : i = 0 ∨ i = 1 ∨ i = 2) with rfl | rfl | rfl
    · rw [Nat.add_zero, f0, c0]; rfl
    · rw [f1, c1]; rfl
    · rw [f2, c2]; rfl
  have hb : b < w.heap.size := lt_of_block hblk
  have h := AnyQ.slices_SortFunc Tryz.sortSlot 3 Tryz.isAgg200 Tryz.sizeOf200 cells3 (fun _ => rfl) (fun x v hv => by simp [cells3] at hv; rcases hv with rfl | rfl | rfl <;> rfl) cmpSl cmpSl_swo 154 #[] b 0 cap d w enters_cmp (fun _ _ _ _ x y => cmp_ok x y _) hH hb (by omega)
  rw [hsz] at h
  refine Calls.mono h ?_
  rintro e w' ⟨rfl, d', n, os, hp, hso, rfl⟩
  obtain ⟨hps, -, hpp⟩ := hp
  have hsz' : d'.size = L.length := hps.trans hsz
  have hwb : ∃ arr : Array Value, (sortWorldK cells3 3 w b 0 n d' os).heap[b]? = some (Obj.cells arr 200 (0, 0)) ∧ d'.toList.length * 3 ≤ arr.size := by
    simp only [sortWorldK]
    rw [heap_grow_old _ _ (by simp [putRowK]; exact hb)]
    simp only [putRowK, putRow, mapBlock]
    simp [Array.getElem?_modify, hblk]
    refine ⟨_, rfl, ?_⟩
    simp only [putCells, Array.size_mapIdx, List.size_toArray, List.length_append]
    rw [flat3_length]; omega
  refine ⟨rfl, d'.toList, ?_, ?_, ?_, ?_⟩
  · have : d'.toList.Perm d.toList := by
      have e1 : d'.extract 0 L.length = d' := by rw [← hsz']; simp
      have e2 : d.extract 0 L.length = d := by rw [← hsz]; simp
      rwa [e1, e2] at hpp
    rw [← hd]; exact this
  · rw [List.pairwise_iff_getElem]
    intro i j hi hj hij
    have := hso i j (Nat.zero_le _) hij (by simpa [hsz'] using hj)
    simp at hi hj
    rw [ltOf_cmp] at this
    simp [hi, hj] at this
    simp; omega
  · refine ⟨rfl, rfl, rfl, by simp [sortWorldK, putRowK], ?_⟩
    intro k hk hne
    simp only [sortWorldK]
    rw [heap_grow_old _ _ (by simp [putRowK]; exact hk)]
    have hne' : b ≠ k := fun e => hne e.symm
    simp [putRowK, putRow, mapBlock, Array.getElem?_modify, hne']
  · obtain ⟨arr, hw, hl⟩ := hwb
    refine bufAt_of hw hl fun j hj => ?_
    have hj' : j < d'.size := by simpa using hj
    have hg := get_flat3 d' j hj'
    have hH' := holds_putRow id (Sort.ahead w n) b 0 (flatK cells3 3 d) (flatK cells3 3 d') (fun j hj => hH j hj) (by simp [hps])
    have h0 := (hH' (j * 3) (by simp; omega)).1
    have h1 := (hH' (j * 3 + 1) (by simp; omega)).1
    have h2 := (hH' (j * 3 + 2) (by simp; omega)).1
    rw [hg.1, Nat.zero_add] at h0
    rw [hg.2.1, Nat.zero_add] at h1
    rw [hg.2.2, Nat.zero_add] at h2
    rw [hget d' j hj']
    simp only [sortWorldK]
    rw [cell?_grow _ _ _ (by simp [putRowK]; exact hb), cell?_grow _ _ _ (by simp [putRowK]; exact hb), cell?_grow _ _ _ (by simp [putRowK]; exact hb)]
    exact ⟨h0, h1, h2⟩
end Go.Proofs.YtebdcahjlcgonaaGreat.Ix
namespace Go.Proofs.YtebdcahjlcgonaaGreat.Ix
theorem ent_live (S : List Sl) : (S.filter live).map (·.2) = ent S := rfl
/-- The live slots by rising ids are the items. -/
theorem sorted_eq {S T : List Sl} {L : List (Nat × Int)} (M : Maps S L) (hp : T.Perm (S.filter live)) (hs : T.Pairwise fun x y => x.2.1 ≤ y.2.1) : T = L.map fun x => (1, x) := by
  have h1 : ∀ x ∈ T, x.1 = 1 := fun x hx => by
    have := (List.mem_filter.1 (hp.subset hx)).2
    simpa [live] using this
  have h2 : (T.map (·.2)).Perm L := by
    refine (hp.map _).trans ?_
    rw [ent_live]; exact M.perm.symm
  have hn : ((T.map (·.2)).map (·.1)).Nodup := by
    rw [(h2.map _).nodup_iff]
    rw [List.Nodup, List.pairwise_map]
    exact M.up.imp fun h => Nat.ne_of_lt h
  have h3 : (T.map (·.2)).Pairwise fun a b => a.1 < b.1 := by
    rw [List.pairwise_map]
    rw [List.map_map, List.Nodup, List.pairwise_map] at hn
    exact (hs.and hn).imp fun h => Nat.lt_of_le_of_ne h.1 h.2
  have h4 := up_eq h3 M.up h2
  rw [← h4, List.map_map]
  conv => lhs; rw [← List.map_id T]
  exact List.map_congr_left fun x hx => Prod.ext (h1 x hx) rfl
theorem ins_last {L : List (Nat × Int)} {id : Nat} (v : Int) (h : ∀ x ∈ L, x.1 < id) : ins L id v = L ++ [(id, v)] := by
  unfold ins
  rw [List.filter_eq_self.2 (fun x hx => by simpa using h x hx), List.filter_eq_nil_iff.2 (fun x hx => by have := h x hx; simp; omega)]
theorem take_up {L : List (Nat × Int)} (h : L.Pairwise fun a b => a.1 < b.1) {k : Nat} (hk : k < L.length) : ∀ x ∈ L.take k, x.1 < L[k].1 := by
  intro x hx
  obtain ⟨i, hi, rfl⟩ := List.mem_iff_getElem.1 hx
  rw [List.length_take] at hi
  rw [List.getElem_take]
  exact List.pairwise_iff_getElem.1 h i k (by omega) hk (by omega)
/-- Behind k items laid anew. -/
structure Anew (hm : Nat → Nat) (S : List Sl) (L : List (Nat × Int)) (N k : Nat) : Prop where
  len : S.length = N
  good : Good hm S
  maps : Maps S (L.take k)
  none : graves S = 0
theorem graves_nil (N : Nat) : graves (List.replicate N (0, 0, 0)) = 0 := by
  unfold graves
  rw [List.countP_replicate, if_neg (by simp)]
theorem Anew.start (hm : Nat → Nat) (L : List (Nat × Int)) (N : Nat) : Anew hm (List.replicate N (0, 0, 0)) L N 0 := ⟨List.length_replicate, Good.nil hm N, by rw [List.take_zero]; exact Maps.nil N, graves_nil N⟩
theorem Anew.not_there {hm : Nat → Nat} {S : List Sl} {L : List (Nat × Int)} {N k : Nat} (H : Anew hm S L N k) (hu : L.Pairwise fun a b => a.1 < b.1) (hk : k < L.length) {p : Nat} (hp : p < S.length) (hf : (slAt S p).1 = 1 ∧ (slAt S p).2.1 = L[k].1) : False := by
  have := (look_of H.maps.up).1 (H.maps.found hp hf)
  exact absurd (take_up hu hk _ this) (Nat.lt_irrefl _)
theorem Anew.more {hm : Nat → Nat} {S : List Sl} {L : List (Nat × Int)} {N k : Nat} (H : Anew hm S L N k) (hu : L.Pairwise fun a b => a.1 < b.1) (hk : k < L.length) {p : Nat} (hp : Place S (hm L[k].1) p) (ha : ∀ q, q < S.length → ¬ ((slAt S q).1 = 1 ∧ (slAt S q).2.1 = L[k].1)) : Anew hm (S.set p (1, L[k].1, L[k].2)) L N (k + 1) := by
  refine ⟨by rw [List.length_set]; exact H.len, H.good.put hp ha, ?_, ?_⟩
  · have := H.maps.put (v := L[k].2) hp.1 hp.2.1 ha
    rw [ins_last _ (take_up hu hk)] at this
    have e : L.take k ++ [(L[k].1, L[k].2)] = L.take (k + 1) := by rw [List.take_add_one, List.getElem?_eq_getElem hk]; rfl
    rwa [e] at this
  · have h := graves_set hp.1 (1, L[k].1, L[k].2)
    have h2 : (slAt S p).1 ≠ 2 := by
      intro e
      have hp' := H.none
      unfold graves at hp'
      rw [List.countP_eq_zero] at hp'
      have := hp' (slAt S p) (List.mem_of_getElem? (slAt_of hp.1))
      rw [e] at this; simp at this
    rw [if_neg h2, H.none, if_neg (by simp)] at h
    exact h
theorem Anew.gap {hm : Nat → Nat} {S : List Sl} {L : List (Nat × Int)} {N k : Nat} (H : Anew hm S L N k) (hk : k < N) : ∃ p, p < N ∧ (slAt S p).1 = 0 := by
  have := Ix.gap H.good.le2 (by rw [← H.maps.length, H.none, H.len, List.length_take]; omega)
  rwa [H.len] at this
theorem Anew.whole {hm : Nat → Nat} {S : List Sl} {L : List (Nat × Int)} {N : Nat} (H : Anew hm S L N L.length) : Maps S L := by
  have := H.maps
  rwa [List.take_length] at this
end Go.Proofs.YtebdcahjlcgonaaGreat.Ix
namespace Go.Proofs.YtebdcahjlcgonaaGreat.Ix
open Go.RowKit
set_option maxRecDepth 100000 in
theorem items_ok {w : World} {bh g N most len gr st : Nat} {S : List Sl} {L : List (Nat × Int)} (H : HeadAt w bh g N most len gr st) (HS : SlotsAt w g S) (hN : S.length = N) (M : Maps S L) (h0 : 0 < N) (h8 : N ≤ 8192) :
    Calls Tryz.prog 125 #[.pointer (some ⟨bh, 0, none⟩)] w fun e w' => ∃ b cap, e = .returned (.slice (some ⟨b, 0, none⟩) L.length cap) ∧ BufAt w' b (L.map fun x => (1, x)) ∧ Fr (fun _ => False) w w' ∧ w.heap.size ≤ b := by
  have c0 := H.cells.1
  have HK := Lib.hid (clone_ok HS hN h8 h0); have HN := Lib.hid hN; have HM := Lib.hid M; have H8 := Lib.hid h8
  clear H HS hN M h0 h8
  go_enter Tryz.func125, Tryz.ntmps125
  go_wp2_with fail
  refine HK.out.mono ?_
  rintro e w1 ⟨b, cap, rfl, hc1, hc2, hb, hf, hnew⟩
  have HD := Lib.hid (deleteFunc_ok hb HN.out H8.out hc1 hc2)
  have HF := Lib.hid hf; have HW := Lib.hid hnew
  clear hc1 hc2 hb hf hnew c0
  go_wp2_with fail
  refine HD.out.mono ?_
  rintro e w2 ⟨m, rfl, hm, hb2, hf2⟩
  have hm8 : m ≤ 8192 := by
    have := List.length_filter_le live S
    have := HN.out; have := H8.out; omega
  have HS := Lib.hid (sort_ok (cap := cap) hb2 hm.symm hm8)
  have HF2 := Lib.hid hf2; have Hm := Lib.hid hm
  clear hm hb2 hf2 hm8
  go_wp2_with fail
  refine HS.out.mono ?_
  rintro e w3 ⟨rfl, T, hp, hs, hf3, hb3⟩
  have hT := sorted_eq HM.out hp hs
  have HB3 := Lib.hid hb3; have HF3 := Lib.hid hf3; have HT := Lib.hid hT; have HP := Lib.hid hp
  clear hp hs hf3 hb3 hT
  go_wp2_with fail
  go_ret
  have e : m = L.length := by
    have h1 := HP.out.length_eq
    rw [HT.out, List.length_map] at h1
    rw [Hm.out]; exact h1.symm
  have hw := HW.out
  exact ⟨b, cap, by rw [e]; rfl, by rw [← HT.out]; exact HB3.out, (HF.out.trans HF2.out (fun i hi h => by omega)).trans HF3.out (fun i hi h => by omega), hw⟩
end Go.Proofs.YtebdcahjlcgonaaGreat.Ix
