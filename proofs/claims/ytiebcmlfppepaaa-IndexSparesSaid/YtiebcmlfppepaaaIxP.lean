/- The index layer: All, and what it hands back, as a sequence. No condition. -/
import Derived.Test.YtiebcmlfppepaaaIxO
import Derived.Test.YtiebcmlfppepaaaKeepB
import Derived.Test.YtiebcmlfppepaaaMarks
namespace Go.Proofs.Ytiebcmlfppepaaa.Ix
open Go.RowKit Go.Shelf
attribute [local go_sem] Oper.semAt_some
def fullOf (L : List (Nat × Int)) : List Sl := L.map fun x => (1, x)
/-- What All has captured: a cell that has a slice of the items. -/
structure Seq (w : World) (cb : Nat) (sv : Value) (L : List (Nat × Int)) : Prop where
  box : w.heap[cb]? = some (.cells #[sv] 81 (0, 0))
  row : (sv = .slice none 0 0 ∧ L = []) ∨ ∃ b cap, sv = .slice (some ⟨b, 0, none⟩) L.length cap ∧ BufAt w b (fullOf L)
  few : L.length ≤ 8192
def seqP (cb : Nat) (sv : Value) (b : Nat) : Prop := b = cb ∨ sv.ownBlock = some b
section seq
variable {w w' : World} {cb : Nat} {sv : Value} {L : List (Nat × Int)}
theorem Seq.same (h : Seq w cb sv L) (k : ∀ b, seqP cb sv b → b < w.heap.size → w'.heap[b]? = w.heap[b]?) : Seq w' cb sv L := by
  refine ⟨by rw [k cb (.inl rfl) (lt_of_block h.box)]; exact h.box, ?_, h.few⟩
  rcases h.row with h0 | ⟨b, cap, rfl, r, hb⟩
  · exact .inl h0
  · exact .inr ⟨b, cap, rfl, r, by rw [k b (.inr rfl) (lt_of_block hb)]; exact hb⟩
theorem Seq.keep (h : Seq w cb sv L) (k : KeepsB (seqP cb sv) w w') : Seq w' cb sv L := h.same k.blk
theorem Seq.below (h : Seq w cb sv L) (k : Below w.heap.size w w') : Seq w' cb sv L := h.same (fun b _ hl => k.block b hl)
theorem Seq.fr (h : Seq w cb sv L) {F : Nat → Prop} (f : Fr F w w') (hn : ∀ b, seqP cb sv b → ¬ F b) : Seq w' cb sv L := h.same (fun b hb hl => f.blk b hl (hn b hb))
theorem Seq.c0 (h : Seq w cb sv L) : w.cell? ⟨cb, 0, none⟩ = some sv := (cell_of h.box 0).trans rfl
theorem Seq.lt (h : Seq w cb sv L) : ∀ b, seqP cb sv b → b < w.heap.size := by
  rintro b (rfl | hb)
  · exact lt_of_block h.box
  · rcases h.row with ⟨rfl, _⟩ | ⟨b', cap, rfl, r⟩
    · simp [Value.ownBlock] at hb
    · simp [Value.ownBlock] at hb; subst hb; exact r.lt
end seq
def liAt (L : List (Nat × Int)) (k : Nat) : Nat × Int := L.getD k (0, 0)
theorem liAt_of {L : List (Nat × Int)} {k : Nat} (h : k < L.length) : L[k]? = some (liAt L k) := by simp [liAt, h]
theorem full_at {L : List (Nat × Int)} {k : Nat} (h : k < L.length) : slAt (fullOf L) k = (1, liAt L k) := by simp [slAt, fullOf, liAt, h]
theorem take_snocL {L : List (Nat × Int)} {k : Nat} (h : k < L.length) : L.take k ++ [liAt L k] = L.take (k + 1) := by
  rw [List.take_add_one, liAt_of h]; rfl
set_option maxRecDepth 100000 in
set_option maxHeartbeats 2000000 in
theorem all_stops (F : Fence) (n : Nat) (hF : F.fn 33) (hro : F.round = none) (hn : 1 ≤ n) {w : World} {cb : Nat} {sv : Value} {L : List (Nat × Int)} (hs : Seq w cb sv L) (p : Nat → Prop) (hp : ∀ b, seqP cb sv b → p b) :
    SeqStopsK F n Try.prog 33 #[.pointer (some ⟨cb, 0, none⟩)] (fun x : Nat × Int => #[Value.int .u32 (x.1 : Int), Value.int .i64 x.2]) (KeepsB p) (fun ys => ys = L) (fun pre => pre <+: L) L.length w := fun l J Jx W hW hJ _ hY h0 => by
  have hs := hs.below hW
  have c0 := hs.c0
  obtain ⟨m, hm⟩ : ∃ m, m = L.length := ⟨_, rfl⟩
  rcases hs.row with ⟨rfl, rfl⟩ | ⟨b, cap, rfl, hb⟩
  · clear hs hW hm
    refine callsIn_of_wp Try.func33 rfl hF ?_ hro
    simp only [Try.ntmps33, List.size_toArray, List.length_cons, List.length_nil, Nat.reduceAdd, Nat.reduceSub, Array.replicate_succ, Array.replicate_zero, List.push_toArray, List.append_toArray, List.nil_append, List.cons_append]
    gi_wp2
    gi_loopw [7] (fun i wr => i = .int .i64 0 ∧ J [] wr) (fun _ _ => 0)
    case atStart => exact ⟨rfl, h0⟩
    case round =>
      obtain ⟨rfl, hJs⟩ := hrel
      gi_wp2
      go_end0
      exact ⟨⟨_, rfl⟩, .inl ⟨_, rfl, hJs⟩⟩
  · have HB := Lib.hid hb; have Hm := Lib.hid hm; have Hp := Lib.hid (hp b (.inr rfl)); have H8 := Lib.hid hs.few; have HlW := Lib.hid hb.lt
    rw [← hm] at c0
    clear hs hW hm hb
    refine callsIn_of_wp Try.func33 rfl hF ?_ hro
    simp only [Try.ntmps33, List.size_toArray, List.length_cons, List.length_nil, Nat.reduceAdd, Nat.reduceSub, Array.replicate_succ, Array.replicate_zero, List.push_toArray, List.append_toArray, List.nil_append, List.cons_append]
    gi_wp2
    gi_loopw [7] (fun i wr => ∃ k : Nat, k ≤ m ∧ i = .int .i64 k ∧ J (L.take k) wr ∧ KeepsB p W wr)
      (fun i _ => m - (intOf i).toNat)
    case atStart => exact ⟨0, Nat.zero_le _, rfl, h0, KeepsB.refl _ _⟩
    case round =>
      obtain ⟨k, hk, rfl, hJs, hnx⟩ := hrel
      have Hnx := Lib.hid hnx
      clear hnx
      by_cases hlt : k < m
      · have hlt' : (k : Int) < (m : Int) := by omega
        have k0 : (0 : Int) ≤ (k : Int) := by omega
        have hkL : k < L.length := by rw [← Hm.out]; exact hlt
        have hbr : BufAt wr b (fullOf L) := by
          obtain ⟨r, hr⟩ := HB.out
          exact ⟨r, (Hnx.out.blk b Hp.out HlW.out).trans hr⟩
        obtain ⟨d0, d1, d2⟩ := hbr.cells (p := k) (by simp [fullOf]; exact hkL)
        rw [full_at hkL] at d0 d1 d2
        obtain ⟨x, hx⟩ : ∃ x, x = liAt L k := ⟨_, rfl⟩
        rw [← hx] at d0 d1 d2
        obtain ⟨id, v⟩ := x
        simp only at d0 d1 d2
        have e0 : ((1 : Nat) : Int) = 1 := rfl
        rw [e0] at d0
        have hJ1 : J (L.take k) (wr.alloc (.cells #[.int .u8 1, .int .u32 (id : Int), .int .i64 v] 86)) := hJ _ _ _ none hJs (World.grownBy_alloc _ _ none) (fun r e => by cases e)
        obtain ⟨fn, tmps, assign, body, hy, hR⟩ := hY _ (id, v) _ hJ1 (by rw [List.length_take]; omega)
        obtain ⟨k1, hk1⟩ : ∃ k1, k1 = k + 1 := ⟨_, rfl⟩
        have e1 : (k : Int) + 1 = (k1 : Int) := by omega
        obtain ⟨e2, e3, -⟩ := wrap_small (x := k1) (by have := H8.out; omega)
        have HK1 := Lib.hid hk1; have HX := Lib.hid hx; have Hlt := Lib.hid hlt; have HkL := Lib.hid hkL
        clear hk1 hx hlt hkL hk hbr e0
        gi_wp2
        refine hR.mono ?_
        rintro e W3 (⟨rfl, hJ3, hk3⟩ | ⟨rfl, hJx3⟩)
        · gi_wp2
          go_roundw
          case rel => exact ⟨k1, by have := HK1.out; have := Hlt.out; omega, rfl, by rw [HK1.out, ← take_snocL HkL.out, ← HX.out]; exact hJ3, (Hnx.out.alloc _).trans hk3⟩
          case measure => have := HK1.out; have := Hlt.out; simp [intOf]; omega
        · gi_wp2
          refine bodyPost_ret (results_none rfl _ _ _) rfl ?_
          exact ⟨⟨_, rfl⟩, .inr ⟨_, by rw [HX.out, take_snocL HkL.out]; exact List.take_prefix _ _, hJx3⟩⟩
      · obtain rfl : k = m := by omega
        clear hlt hk
        gi_wp2
        go_end0
        exact ⟨⟨_, rfl⟩, .inl ⟨_, rfl, by rw [Hm.out, List.take_length] at hJs; exact hJs⟩⟩
end Go.Proofs.Ytiebcmlfppepaaa.Ix
