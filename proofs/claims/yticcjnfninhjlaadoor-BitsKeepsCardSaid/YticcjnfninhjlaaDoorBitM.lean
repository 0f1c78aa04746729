/- The iterators of a set, as sequences. Condition: the table of math/bits. -/
import Derived.Test.YticcjnfninhjlaaDoorBitL
import Derived.Test.YticcjnfninhjlaaDoorKeepB
namespace Go.Proofs.YticcjnfninhjlaaDoor.Bt
open Go.RowKit Go.Shelf
attribute [local go_sem] Oper.semAt_some
/-- What an iterator has captured: a cell that points to a set. -/
structure Seq (w : World) (cb bh : Nat) (v : Value) (B : List Bool) : Prop where
  box : w.heap[cb]? = some (.cells #[.pointer (some ⟨bh, 0, none⟩)] 24 (0, 0))
  set : SetAt w bh v B
  tab : TabOk w
def seqP (cb bh : Nat) (v : Value) (b : Nat) : Prop := b = 0 ∨ b = cb ∨ b = bh ∨ v.ownBlock = some b
theorem TabOk.lt {w : World} (h : TabOk w) : 0 < w.heap.size := World.block_lt_of_cell? _ _ (h 0 (by decide))
theorem Seq.same {w w' : World} {cb bh : Nat} {v : Value} {B : List Bool} (h : Seq w cb bh v B) (k : ∀ b, seqP cb bh v b → b < w.heap.size → w'.heap[b]? = w.heap[b]?) : Seq w' cb bh v B := by
  refine ⟨?_, ⟨?_, ?_, h.set.small⟩, ?_⟩
  · rw [k cb (.inr (.inl rfl)) (World.block_lt_of_cell? _ _ ((cell_of h.box 0).trans (show _ = some _ from rfl)))]; exact h.box
  · rw [k bh (.inr (.inr (.inl rfl))) h.set.lt]; exact h.set.head
  · have hr := h.set.row
    refine ⟨hr.1, ?_⟩
    rcases hr.2 with h0 | ⟨g, cap, cur, e, a1, a2, a3⟩
    · exact .inl h0
    · exact .inr ⟨g, cap, cur, e, a1, by rw [k g (.inr (.inr (.inr (by rw [e]; rfl)))) (Array.getElem?_eq_some_iff.1 a2).1]; exact a2, a3⟩
  · intro j hj
    have e := World.cell?_of_block (w := w) (w' := w') (a := ⟨0, j, none⟩) (k 0 (.inl rfl) h.tab.lt)
    rw [e]; exact h.tab j hj
theorem Seq.keep {w w' : World} {cb bh : Nat} {v : Value} {B : List Bool} (h : Seq w cb bh v B) (k : KeepsB (seqP cb bh v) w w') : Seq w' cb bh v B := h.same k.blk
theorem Seq.below {w w' : World} {cb bh : Nat} {v : Value} {B : List Bool} (h : Seq w cb bh v B) (k : Below w.heap.size w w') : Seq w' cb bh v B := h.same (fun b _ hl => k.block b hl)
theorem Seq.fr {w w' : World} {cb bh : Nat} {v : Value} {B : List Bool} (h : Seq w cb bh v B) {F : Nat → Prop} (f : Fr F w w') (hn : ∀ b, seqP cb bh v b → ¬ F b) : Seq w' cb bh v B := h.same (fun b hb hl => f.blk b hl (hn b hb))
theorem Seq.cb0 {w : World} {cb bh : Nat} {v : Value} {B : List Bool} (h : Seq w cb bh v B) : w.cell? ⟨cb, 0, none⟩ = some (.pointer (some ⟨bh, 0, none⟩)) := (cell_of h.box 0).trans rfl
def mz (n : Nat) (s : Value) : Nat := if intOf s < 0 then 0 else n - (intOf s).toNat
theorem mz_nat (n k : Nat) : mz n (.int .i64 (k : Int)) = n - k := by
  unfold mz
  have : intOf (.int .i64 (k : Int)) = (k : Int) := rfl
  rw [this, if_neg (by omega), Int.toNat_natCast]
theorem mz_neg (n : Nat) : mz n (.int .i64 (-1)) = 0 := by
  unfold mz
  have : intOf (.int .i64 (-1)) = -1 := rfl
  rw [this, if_pos (by omega)]
theorem seekI_s {b : Bool} {B : List Bool} {i : Int} {j k : Nat} (e : i = (j : Int)) (h : seekO b B j = some k) : seekI b B i = (k : Int) := seekI_some (by rw [e, Int.toNat_natCast]; exact h)
theorem seekI_n {b : Bool} {B : List Bool} {i : Int} {j : Nat} (e : i = (j : Int)) (h : seekO b B j = none) : seekI b B i = -1 := seekI_none (by rw [e, Int.toNat_natCast]; exact h)
theorem edge_prefix {B : List Bool} : ∀ (f i : Nat), B.length - i ≤ f → i ≤ B.length → Edge B i → gapsTo B i <+: gapsL B
  | 0, i, hf, hi, h => by
    have : seekO false B i = none := seekO_not (fun j h1 h2 => by omega)
    rw [edge_none hi this]
    exact List.prefix_refl _
  | f + 1, i, hf, hi, h => by
    cases hso : seekO false B i with
    | none => rw [edge_none hi hso]; exact List.prefix_refl _
    | some a =>
      have a1 := (seekO_some hso).1
      cases he : seekO true B a with
      | none => rw [edge_last h hso he]; exact List.prefix_append _ _
      | some e =>
        obtain ⟨hst, hed, hlt, hel⟩ := edge_end h hso he
        have := edge_prefix f e (by omega) (by omega) hed
        rw [hst] at this
        exact (List.prefix_append _ _).trans this
def encG (x : Nat × Nat) : Array Value := #[.int .i64 x.1, .int .i64 x.2]
set_option maxRecDepth 100000 in
set_option maxHeartbeats 2000000 in
theorem gaps_stops (n : Nat) (hn : 1 ≤ n) {w : World} {cb bh : Nat} {v : Value} {B : List Bool} (hs : Seq w cb bh v B) :
    SeqStopsK Fence.wide n Tryd.prog 51 #[.pointer (some ⟨cb, 0, none⟩)] encG (KeepsB (seqP cb bh v)) (fun ys => ys = gapsL B) (fun pre => pre <+: gapsL B) (gapsL B).length w := fun l J Jx W hW hJ _ hY h0 => by
  have hro : Fence.wide.round = none := rfl
  have HS := Lib.hid (hs.below hW)
  have c0 := HS.out.cb0
  have hsm : (B.length : Int) ≤ 65536 := by have := HS.out.set.small; omega
  clear hs hW
  refine callsIn_of_wp Tryd.func51 rfl trivial ?_ hro
  simp only [Tryd.ntmps51, List.size_toArray, List.length_cons, List.length_nil, Nat.reduceAdd, Nat.reduceSub, Array.replicate_succ, Array.replicate_zero, List.push_toArray, List.append_toArray, List.nil_append, List.cons_append]
  have Hnx := Lib.hid (free_ok HS.out.tab HS.out.set 0)
  gi_wp2_with (first
    | (refine ⟨trivial, ?_⟩; gi_at_call 29; refine (callsIn_wide.2 Hnx.out).mono ?_; rintro e w' ⟨rfl, rfl⟩))
  gi_loopw [3] (fun s3 wr => ∃ i : Nat, i ≤ B.length ∧ s3 = .int .i64 (seekI false B i) ∧ Edge B i ∧ J (gapsTo B i) wr ∧ KeepsB (seqP cb bh v) W wr) (fun s3 _ => mz B.length s3)
  case atStart => exact ⟨0, Nat.zero_le _, rfl, .inl rfl, h0, KeepsB.refl _ _⟩
  case round =>
    obtain ⟨i, hi, rfl, hed, hJs, hk⟩ := hrel
    have HR := Lib.hid (HS.out.keep hk)
    have Hk := Lib.hid hk
    clear hk Hnx
    cases hso : seekO false B i with
    | none =>
      have hv := seekI_n (b := false) (B := B) (i := (i : Int)) rfl hso
      have hend := edge_none hi hso
      rw [hv]
      clear hv hso
      gi_wp2
      go_end0
      exact ⟨⟨_, rfl⟩, .inl ⟨_, rfl, by rw [hend]; exact hJs⟩⟩
    | some k =>
      have hv := seekI_s (b := false) (B := B) (i := (i : Int)) rfl hso
      obtain ⟨a1, a2, _, _⟩ := seekO_some hso
      rw [hv]
      have c0 := HR.out.cb0
      have Hnx := Lib.hid (next_ok HR.out.tab HR.out.set (k : Int))
      have hk65 : (k : Int) ≤ 65536 := by omega
      have Ha1 := Lib.hid a1; have Ha2 := Lib.hid a2; have Hso := Lib.hid hso
      clear hv a1 a2 hso
      cases he : seekO true B k with
      | none =>
        have hv := seekI_n (b := true) (B := B) (i := (k : Int)) rfl he
        rw [hv] at Hnx
        have hst := edge_last hed Hso.out he
        have hpl : (gapsTo B i).length < (gapsL B).length := by rw [hst]; simp
        obtain ⟨fn, tmps, assign, body, hy, hR⟩ := hY _ (k, B.length - k) _ hJs hpl
        have hck : ((B.length - k : Nat) : Int) = (B.length : Int) - (k : Int) := by have := Ha2.out; omega
        simp only [encG, hck] at hy
        have Hst := Lib.hid hst
        have c1 := HR.out.set.c1
        have hkn : (k : Int) < (B.length : Int) := by have := Ha2.out; omega
        clear hv he hst hpl hck
        gi_wp2_with (first
          | (refine ⟨trivial, ?_⟩; gi_at_call 28; refine (callsIn_wide.2 Hnx.out).mono ?_; rintro e w' ⟨rfl, rfl⟩))
        refine hR.mono ?_
        rintro e W3 (⟨rfl, hJ3, hk3⟩ | ⟨rfl, hJx3⟩)
        · gi_wp2
          refine bodyPost_ret (results_none rfl _ _ _) rfl ?_
          exact ⟨⟨_, rfl⟩, .inl ⟨_, rfl, by rw [Hst.out]; exact hJ3⟩⟩
        · gi_wp2
          refine bodyPost_ret (results_none rfl _ _ _) rfl ?_
          exact ⟨⟨_, rfl⟩, .inr ⟨_, by rw [Hst.out]; exact List.prefix_refl _, hJx3⟩⟩
      | some e =>
        have hv := seekI_s (b := true) (B := B) (i := (k : Int)) rfl he
        rw [hv] at Hnx
        obtain ⟨hst, hed2, hlt, hel⟩ := edge_end hed Hso.out he
        have hpre := edge_prefix _ e (Nat.le_refl _) (by omega) hed2
        rw [hst] at hpre
        have hpl : (gapsTo B i).length < (gapsL B).length := by
          have := hpre.length_le
          simp at this; omega
        obtain ⟨fn, tmps, assign, body, hy, hR⟩ := hY _ (k, e - k) _ hJs hpl
        have hck : ((e - k : Nat) : Int) = (e : Int) - (k : Int) := by omega
        simp only [encG, hck] at hy
        have Hst := Lib.hid hst; have Hpre := Lib.hid hpre; have Hed2 := Lib.hid hed2; have Hlt := Lib.hid hlt; have Hel := Lib.hid hel
        have hke : (k : Int) < (e : Int) := by omega
        have he65 : (e : Int) ≤ 65536 := by omega
        clear hv he hst hpl hck hpre hed2 hlt hel
        gi_wp2_with (first
          | (refine ⟨trivial, ?_⟩; gi_at_call 28; refine (callsIn_wide.2 Hnx.out).mono ?_; rintro e w' ⟨rfl, rfl⟩))
        refine hR.mono ?_
        rintro e W3 (⟨rfl, hJ3, hk3⟩ | ⟨rfl, hJx3⟩)
        · have HR3 := Lib.hid (HR.out.keep hk3)
          have c0 := HR3.out.cb0
          have Hk3 := Lib.hid (Hk.out.trans hk3)
          have Hfr := Lib.hid (free_ok HR3.out.tab HR3.out.set (e : Int))
          clear hk3 hR hy
          gi_wp2_with (first
            | (refine ⟨trivial, ?_⟩; gi_at_call 29; refine (callsIn_wide.2 Hfr.out).mono ?_; rintro e w' ⟨rfl, rfl⟩))
          go_roundw
          case rel => exact ⟨e, by have := Hel.out; omega, rfl, Hed2.out, by rw [Hst.out]; exact hJ3, Hk3.out⟩
          case measure =>
            have h1 := Hel.out; have h2 := Hlt.out
            cases hs2 : seekO false B e with
            | none => rw [seekI_n (j := e) rfl hs2, mz_neg, mz_nat]; omega
            | some k2 =>
              obtain ⟨b1, b2, _, _⟩ := seekO_some hs2
              rw [seekI_s (j := e) rfl hs2, mz_nat, mz_nat]; omega
        · gi_wp2
          refine bodyPost_ret (results_none rfl _ _ _) rfl ?_
          exact ⟨⟨_, rfl⟩, .inr ⟨_, Hpre.out, hJx3⟩⟩
end Go.Proofs.YticcjnfninhjlaaDoor.Bt
