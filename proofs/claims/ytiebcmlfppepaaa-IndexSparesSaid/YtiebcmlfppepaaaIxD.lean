/- The index layer: find. No condition. -/
import Derived.Test.YtiebcmlfppepaaaIxC
import Derived.Lib.Hide
import Derived.WalkMore
import Derived.Deep.CutBlock
import Derived.Deep.DeepCutAuto
import Derived.Deep.RegionHeld3
import Derived.Deep.QuietTactic
import Derived.BigQuiet
import Derived.Deep.LoopGhost
namespace Go.Proofs.Ytiebcmlfppepaaa.Ix
open Go.RowKit
def frV (f : Option Nat) : Int := match f with | none => -1 | some p => (p : Int)
/-- What a search comes to. -/
def Found (S : List Sl) (N id : Nat) (e : Ending) : Prop :=
  (∃ p : Nat, e = .returned (.tuple #[.int .i64 (p : Int), .bool true]) ∧ p < N ∧ (slAt S p).1 = 1 ∧ (slAt S p).2.1 = id) ∨
  (∃ p : Nat, e = .returned (.tuple #[.int .i64 (p : Int), .bool false]) ∧ Place S (home N id) p ∧ ∀ q, q < S.length → ¬ ((slAt S q).1 = 1 ∧ (slAt S q).2.1 = id))
def stepsOf (w : World) (bh : Nat) : Nat := match w.cell? ⟨bh, 4, none⟩ with | some (.int _ x) => x.toNat | _ => 0
theorem stepsOf_head {w : World} {bh g N most len gr st : Nat} (h : HeadAt w bh g N most len gr st) : stepsOf w bh = st := by unfold stepsOf; rw [h.cells.2.2.2.2]; rfl
/-- Where the search stands. -/
structure Stand (w : World) (bh g N most len gr id : Nat) (S : List Sl) (t : Nat) (f : Option Nat) (wr : World) : Prop where
  look : Look S (home N id) id t f
  le : t ≤ N
  head : HeadAt wr bh g N most len gr t
  fr : Fr (fun b => b = bh) w wr
theorem wrap_small {x : Nat} (h : x ≤ 1000000) : wrap64 (x : Int) = (x : Int) ∧ IntKind.i64.wrap (x : Int) = (x : Int) ∧ IntKind.u64.wrap (x : Int) = (x : Int) := by
  refine ⟨by unfold wrap64; omega, by rw [IntKind.wrap_i64]; omega, by rw [IntKind.wrap_u64]; omega⟩
theorem mod_small {x n : Nat} : (x : Int).tmod (n : Int) = ((x % n : Nat) : Int) ∧ (x : Int) % (n : Int) = ((x % n : Nat) : Int) := by
  rw [Int.tmod_eq_emod_of_nonneg (by omega)]; exact ⟨(Int.natCast_emod _ _).symm, (Int.natCast_emod _ _).symm⟩
set_option maxRecDepth 100000 in
set_option maxHeartbeats 2000000 in
theorem find_ok {w : World} {bh g N most len gr st id : Nat} {S : List Sl} (H : HeadAt w bh g N most len gr st) (HS : SlotsAt w g S) (hN : S.length = N) (G : Good (home N) S) (hg : ∃ p, p < N ∧ (slAt S p).1 = 0) (hne : bh ≠ g) (hid : id < 4294967296) (hN2 : N ≤ 8192) :
    Calls Try.prog 64 #[.pointer (some ⟨bh, 0, none⟩), .int .u32 (id : Int)] w fun e w' => ∃ st', 1 ≤ st' ∧ st' ≤ N ∧ HeadAt w' bh g N most len gr st' ∧ Fr (fun b => b = bh) w w' ∧ Found S N id e := by
  obtain ⟨p0, hp0, hz⟩ := hg
  have hN0 : 0 < N := by omega
  obtain ⟨c0, -, -, -, c4⟩ := H.cells
  have hcv : IntKind.u64.wrap (id : Int) = (id : Int) := by rw [IntKind.wrap_u64]; omega
  have hcn : IntKind.u64.wrap (N : Int) = (N : Int) := by rw [IntKind.wrap_u64]; omega
  obtain ⟨hx, hhx⟩ : ∃ hx, hx = hash id := ⟨_, rfl⟩
  obtain ⟨h0, hh0⟩ : ∃ h0, h0 = home N id := ⟨_, rfl⟩
  have hhl := hash_lt id
  have hhm : h0 = hx % N := by rw [hh0, hhx]; rfl
  have hq : (hx : Int).tmod (N : Int) = (h0 : Int) := by rw [Int.tmod_eq_emod_of_nonneg (by omega), hhm]; rfl
  have hq2 : (hx : Int) % (N : Int) = (h0 : Int) := by rw [hhm]; rfl
  have hh : h0 < N := by rw [hhm]; exact Nat.mod_lt _ hN0
  have hw0 : IntKind.i64.wrap (h0 : Int) = (h0 : Int) := by rw [IntKind.wrap_i64]; omega
  have hwu : IntKind.u64.wrap (h0 : Int) = (h0 : Int) := by rw [IntKind.wrap_u64]; omega
  have hn0 : ((N : Int) == 0) = false := by simp; omega
  have fz := H.free 4
  have HH := Lib.hid H; have HHS := Lib.hid HS; have HG := Lib.hid G; have HZ := Lib.hid (show p0 < S.length ∧ (slAt S p0).1 = 0 from ⟨by omega, hz⟩); have HN := Lib.hid hN; have HN2 := Lib.hid hN2; have Hne := Lib.hid hne
  have HK := Lib.hid (hash_ok w (x := id) (by omega))
  rw [← hhx] at HK
  have Hh0 := Lib.hid hh0; have Hh := Lib.hid hh; have Hhl := Lib.hid hhl
  clear H HS G hz hN hN2 hne hh0 hhm hh hhl hp0 hhx hid
  go_enter Try.func64, Try.ntmps64
  go_wp2_with fail
  apply wp_scope_straight
  go_wp2_with fail
  refine HK.out.mono ?_
  rintro e w1 ⟨rfl, rfl⟩
  go_wp2_with fail
  apply wp_label
  have HH1 := Lib.hid (HH.out.steps 0)
  have hf1 : Fr (fun b => b = bh) w (w.setCell ⟨bh, 4, none⟩ (.int .i64 0)) := Fr.setCell (F := fun b => b = bh) (p := ⟨bh, 4, none⟩) (Fr.refl _ _) (fun _ => rfl) _
  simp only [Int.natCast_zero] at HH1
  have HF1 := Lib.hid hf1
  clear c0 c4 fz hf1 hq hq2 hcv hcn
  generalize w.setCell ⟨bh, 4, none⟩ (.int .i64 0) = w2 at HH1 HF1 ⊢
  go_upto_block 0 with fail
  go_cut [7, 8] (fun _ s8 wx => ∃ (p st' : Nat), s8 = .int .i64 (p : Int) ∧ 1 ≤ st' ∧ st' ≤ N ∧ HeadAt wx bh g N most len gr st' ∧ Fr (fun b => b = bh) w wx ∧ Place S (home N id) p ∧ ∀ q, q < S.length → ¬ ((slAt S q).1 = 1 ∧ (slAt S q).2.1 = id))
  case first =>
    go_wp2_with fail
    go_loopw [7, 8] (fun s7 s8 wr => ∃ (t p : Nat) (f : Option Nat) (y : Int), s7 = .int .i64 (p : Int) ∧ s8 = .int .i64 y ∧ y = frV f ∧ p = (home N id + t) % N ∧ Stand w bh g N most len gr id S t f wr) (fun _ _ wr => N - stepsOf wr bh)
    case atStart => exact ⟨0, h0, none, -1, rfl, rfl, rfl, by rw [Hh0.out, Nat.add_zero, Nat.mod_eq_of_lt (by rw [← Hh0.out]; exact Hh.out)], ⟨Look.start _ _ _, Nat.zero_le _, HH1.out, HF1.out⟩⟩
    case round =>
      obtain ⟨t, p, f, y, rfl, rfl, hy, hp, hs⟩ := hrel
      have hpN : p < N := by rw [hp]; exact Nat.mod_lt _ (Nat.lt_of_le_of_lt (Nat.zero_le _) Hh.out)
      have htN : t < N := by
        refine Nat.lt_of_le_of_ne hs.le fun e => ?_
        have h : Look S (home N id) id S.length f := by rw [HN.out.trans e.symm]; exact hs.look
        exact h.full HZ.out.1 HZ.out.2
      obtain ⟨x, hx⟩ : ∃ x, x = slAt S p := ⟨_, rfl⟩
      have hle2 : x.1 ≤ 2 := by
        refine HG.out.le2 x ?_
        have := slAt_of (S := S) (p := p) (by rw [HN.out]; exact hpN)
        rw [← hx] at this
        exact List.mem_of_getElem? this
      obtain ⟨sa, si, sv⟩ := x
      simp only at hle2
      obtain ⟨c0, -, -, -, c4⟩ := hs.head.cells
      have fz := hs.head.free 4
      have htl : (t : Int) < (N : Int) := by omega
      have hpl : (p : Int) < (N : Int) := by omega
      have hp0 : (0 : Int) ≤ (p : Int) := by omega
      obtain ⟨t1, ht1⟩ : ∃ t1, t1 = t + 1 := ⟨_, rfl⟩
      have ht2 : (t : Int) + 1 = (t1 : Int) := by omega
      obtain ⟨ht3, ht4, -⟩ := wrap_small (x := t1) (by have := HN2.out; omega)
      obtain ⟨p1, hp1⟩ : ∃ p1, p1 = p + 1 := ⟨_, rfl⟩
      have hp2 : (p : Int) + 1 = (p1 : Int) := by omega
      obtain ⟨hp3, hp4, -⟩ := wrap_small (x := p1) (by have := HN2.out; omega)
      obtain ⟨pn, hpn⟩ : ∃ pn, pn = p1 % N := ⟨_, rfl⟩
      obtain ⟨hpn1, hpn2⟩ := mod_small (x := p1) (n := N)
      rw [← hpn] at hpn1 hpn2
      have hnext : pn = (home N id + t1) % N := by rw [hpn, hp1, hp, ht1]; exact next_turn _ _ _
      have hpnl : pn < N := by rw [hpn]; exact Nat.mod_lt _ (Nat.lt_of_le_of_lt (Nat.zero_le _) hpN)
      obtain ⟨hp5, hp6, -⟩ := wrap_small (x := pn) (Nat.le_trans (Nat.le_of_lt hpnl) (Nat.le_trans HN2.out (by decide)))
      have Hp := Lib.hid hp; have Hs := Lib.hid hs; have HpN := Lib.hid hpN; have HtN := Lib.hid htN; have HX := Lib.hid hx; have Hnext := Lib.hid hnext; have Ht1 := Lib.hid ht1
      clear hp hs hpN htN hx hnext ht1 hp1 hpn hpnl
      go_upto_region 7 with fail
      have hf3 : Fr (fun b => b = bh) w (wr.setCell ⟨bh, 4, none⟩ (.int .i64 t1)) := Fr.setCell (F := fun b => b = bh) (p := ⟨bh, 4, none⟩) Hs.out.fr (fun _ => rfl) _
      have hh3 := Hs.out.head.steps t1
      clear c0 c4 fz htl ht2 ht3 ht4
      generalize wr.setCell ⟨bh, 4, none⟩ (.int .i64 t1) = w3 at hf3 hh3 ⊢
      obtain ⟨k0, k1, k2⟩ := (HHS.out.fr hf3 (fun e => Hne.out e.symm)).cells (p := p) (by rw [HN.out]; exact HpN.out)
      rw [← HX.out] at k0 k1 k2
      simp only at k0 k1 k2
      have c0 := hh3.cells.1
      have HF3 := Lib.hid hf3; have HH3 := Lib.hid hh3
      clear hf3 hh3
      go_upto_region 8 with fail
      have hw4 : (w3.alloc (.cells #[.int .u8 (sa : Int), .int .u32 (si : Int), .int .i64 sv] 86)).heap[w3.heap.size]? = some (.cells #[.int .u8 (sa : Int), .int .u32 (si : Int), .int .i64 sv] 86 (0, 0)) := by rw [heap_alloc_get]; simp
      have hf4 : Fr (fun b => b = bh) w (w3.alloc (.cells #[.int .u8 (sa : Int), .int .u32 (si : Int), .int .i64 sv] 86)) := Fr.alloc HF3.out _
      have hh4 : HeadAt (w3.alloc (.cells #[.int .u8 (sa : Int), .int .u32 (si : Int), .int .i64 sv] 86)) bh g N most len gr t1 := HH3.out.fr (Fr.alloc (Fr.refl (fun _ => False) _) _) (fun h => h)
      clear k0 k1 k2 c0
      generalize w3.alloc (.cells #[.int .u8 (sa : Int), .int .u32 (si : Int), .int .i64 sv] 86) = w4 at hw4 hf4 hh4 ⊢
      generalize w3.heap.size = lb at hw4 ⊢
      have HF4 := Lib.hid hf4; have HH4 := Lib.hid hh4
      have ht1 : t1 ≤ N ∧ 1 ≤ t1 := by have := Ht1.out; have := HtN.out; omega
      have HT1 := Lib.hid ht1
      have hx2 : slAt S ((home N id + t) % S.length) = (sa, si, sv) := by rw [HN.out, ← Hp.out]; exact HX.out.symm
      have HX2 := Lib.hid hx2
      clear hf4 hh4 ht1 hx2
      rcases (by omega : sa = 0 ∨ sa = 2 ∨ sa = 1) with rfl | rfl | rfl
      · have b0 : w4.cell? ⟨lb, 0, none⟩ = some (.int .u8 0) := (cell_of hw4 0).trans rfl
        have HE := Lib.hid (Hs.out.look.ends HG.out (by rw [HN.out]; exact HtN.out) (by rw [HX2.out]))
        clear hw4
        cases f with
        | none =>
          obtain rfl : y = -1 := hy
          go_wp2_with fail
          go_meet
          refine ⟨p, t1, rfl, HT1.out.2, HT1.out.1, HH4.out, HF4.out, ?_, HE.out.2⟩
          have := HE.out.1
          rw [Option.getD_none, HN.out, ← Hp.out] at this
          exact this
        | some q =>
          obtain rfl : y = (q : Int) := hy
          have hq0 : decide ((q : Int) < 0) = false := by simp
          go_wp2_with fail
          go_meet
          exact ⟨q, t1, rfl, HT1.out.2, HT1.out.1, HH4.out, HF4.out, HE.out.1, HE.out.2⟩
      · have b0 : w4.cell? ⟨lb, 0, none⟩ = some (.int .u8 2) := (cell_of hw4 0).trans rfl
        clear hw4
        cases f with
        | none =>
          obtain rfl : y = -1 := hy
          have HL := Lib.hid (Hs.out.look.grave (by rw [HX2.out]))
          go_wp2_with fail
          go_roundw
          case rel => exact ⟨t1, pn, some p, _, rfl, rfl, rfl, Hnext.out, ⟨by have := HL.out; rw [HN.out, ← Hp.out, ← Ht1.out] at this; exact this, HT1.out.1, HH4.out, HF4.out⟩⟩
          case measure => have h1 := stepsOf_head Hs.out.head; have h2 := stepsOf_head HH4.out; have := HtN.out; have := Ht1.out; rw [h1, h2]; omega
        | some q =>
          obtain rfl : y = (q : Int) := hy
          have hq0 : decide ((q : Int) < 0) = false := by simp
          have HL := Lib.hid (Hs.out.look.more (by rw [HX2.out]; simp) (by rw [HX2.out]; simp))
          go_wp2_with fail
          go_roundw
          case rel => exact ⟨t1, pn, some q, _, rfl, rfl, rfl, Hnext.out, ⟨by rw [Ht1.out]; exact HL.out, HT1.out.1, HH4.out, HF4.out⟩⟩
          case measure => have h1 := stepsOf_head Hs.out.head; have h2 := stepsOf_head HH4.out; have := HtN.out; have := Ht1.out; rw [h1, h2]; omega
      · have b0 : w4.cell? ⟨lb, 0, none⟩ = some (.int .u8 1) := (cell_of hw4 0).trans rfl
        have b1 : w4.cell? ⟨lb, 1, none⟩ = some (.int .u32 (si : Int)) := (cell_of hw4 1).trans rfl
        clear hw4
        by_cases hi : si = id
        · subst hi
          have hb : ((si : Int) == (si : Int)) = true := by simp
          go_wp2_with fail
          rw [Exit.noGoto_ret]
          refine bodyPost_ret (v := .tuple #[.int .i64 (p : Int), .bool true]) ?_ rfl ?_
          · simp [results, Try.results64, Try.f64, go_sem]
          · exact ⟨t1, HT1.out.2, HT1.out.1, HH4.out, HF4.out, .inl ⟨p, rfl, HpN.out, by rw [← HX.out], by rw [← HX.out]⟩⟩
        · have hb : ((si : Int) == (id : Int)) = false := by simp; omega
          have HL := Lib.hid (Hs.out.look.more (by rw [HX2.out]; simp) (by rw [HX2.out]; exact fun h => hi h.2))
          clear hi
          go_wp2_with fail
          go_roundw
          case rel => exact ⟨t1, pn, f, y, rfl, rfl, hy, Hnext.out, ⟨by rw [Ht1.out]; exact HL.out, HT1.out.1, HH4.out, HF4.out⟩⟩
          case measure => have h1 := stepsOf_head Hs.out.head; have h2 := stepsOf_head HH4.out; have := HtN.out; have := Ht1.out; rw [h1, h2]; omega
  case rest =>
  obtain ⟨p, st', rfl, h1, h2, hh, hf, hpl, hab⟩ := hcut
  have HR := Lib.hid (show 1 ≤ st' ∧ st' ≤ N ∧ HeadAt _ bh g N most len gr st' ∧ Fr (fun b => b = bh) w _ ∧ Place S (home N id) p ∧ ∀ q, q < S.length → ¬ ((slAt S q).1 = 1 ∧ (slAt S q).2.1 = id) from ⟨h1, h2, hh, hf, hpl, hab⟩)
  clear h1 h2 hh hf hpl hab
  go_wp2_with fail
  rw [Exit.noGoto_ret]
  refine bodyPost_ret (v := .tuple #[.int .i64 (p : Int), .bool false]) ?_ rfl ?_
  · simp [results, Try.results64, Try.f64, go_sem]
  · obtain ⟨h1, h2, hh, hf, hpl, hab⟩ := HR.out
    exact ⟨st', h1, h2, hh, hf, .inr ⟨p, rfl, hpl, hab⟩⟩
end Go.Proofs.Ytiebcmlfppepaaa.Ix
