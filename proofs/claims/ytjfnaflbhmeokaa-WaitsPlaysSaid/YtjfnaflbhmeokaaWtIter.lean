/- What a heap's All hands back: its sequence. No condition. -/
import Derived.Test.YtjfnaflbhmeokaaWtSort
import Derived.Test.YtjfnaflbhmeokaaKeepB
import Derived.Test.YtjfnaflbhmeokaaMarks
namespace Go.Proofs.Ytjfnaflbhmeokaa.Wt
open Go.RowKit Go.Shelf
attribute [local go_sem] Oper.semAt_some
/-- What All has captured: a cell that has a slice of the items. -/
structure Seq (w : World) (cb : Nat) (sv : Value) (L : List It) : Prop where
  box : w.heap[cb]? = some (.cells #[sv] 116 (0, 0))
  row : Row w 179 5 sv L.length (flat L)
  few : L.length ≤ 70000
def seqP (cb : Nat) (sv : Value) (b : Nat) : Prop := b = cb ∨ sv.ownBlock = some b
section seq
variable {w w' : World} {cb : Nat} {sv : Value} {L : List It}
theorem Seq.same (h : Seq w cb sv L) (k : ∀ b, seqP cb sv b → b < w.heap.size → w'.heap[b]? = w.heap[b]?) : Seq w' cb sv L := by
  refine ⟨by rw [k cb (.inl rfl) (lt_of_block h.box)]; exact h.box, ?_, h.few⟩
  rcases h.row with ⟨h1, h2 | ⟨g, cap, cur, rfl, h3, h4, h5⟩⟩
  · exact ⟨h1, .inl h2⟩
  · exact ⟨h1, .inr ⟨g, cap, cur, rfl, h3, by rw [k g (.inr rfl) (lt_of_block h4)]; exact h4, h5⟩⟩
theorem Seq.keep (h : Seq w cb sv L) (k : KeepsB (seqP cb sv) w w') : Seq w' cb sv L := h.same k.blk
theorem Seq.below (h : Seq w cb sv L) (k : Below w.heap.size w w') : Seq w' cb sv L := h.same (fun b _ hl => k.block b hl)
theorem Seq.fr (h : Seq w cb sv L) {F : Nat → Prop} (f : Fr F w w') (hn : ∀ b, seqP cb sv b → ¬ F b) : Seq w' cb sv L := h.same (fun b hb hl => f.blk b hl (hn b hb))
theorem Seq.c0 (h : Seq w cb sv L) : w.cell? ⟨cb, 0, none⟩ = some sv := (cell_of h.box 0).trans rfl
theorem Seq.lt (h : Seq w cb sv L) : ∀ b, seqP cb sv b → b < w.heap.size := by
  rintro b (rfl | hb)
  · exact lt_of_block h.box
  · exact Row.lt h.row hb
end seq
theorem take_snocI {L : List It} {k : Nat} (h : k < L.length) : L.take k ++ [itAt L k] = L.take (k + 1) := by
  rw [List.take_add_one, List.getElem?_eq_getElem h]; simp [itAt, h]
/-- What the iterator hands to its body: handle and party. -/
noncomputable def encS (x : It) : Array Value := #[.int .i64 x.2, .agg #[.int .u32 (wW x.1), .int .i64 (wS x.1), .int .i64 (wT x.1), .int .i64 (wC x.1)]]
theorem item_cells {w : World} {sv : Value} {L : List It} (h : Row w 179 5 sv L.length (flat L)) {k : Nat} (hk : k < L.length) :
    ∃ g cap, sv = .slice (some ⟨g, 0, none⟩) L.length cap ∧ w.cell? ⟨g, k * 5, none⟩ = some (.int .u32 (wW (itAt L k).1)) ∧ w.cell? ⟨g, k * 5 + 1, none⟩ = some (.int .i64 (wS (itAt L k).1)) ∧ w.cell? ⟨g, k * 5 + 2, none⟩ = some (.int .i64 (wT (itAt L k).1)) ∧ w.cell? ⟨g, k * 5 + 3, none⟩ = some (.int .i64 (wC (itAt L k).1)) ∧ w.cell? ⟨g, k * 5 + 4, none⟩ = some (.int .i64 (itAt L k).2) := by
  obtain ⟨bi, cap, arr, rfl, _, _, hI, hs, hc⟩ := row_at h (by intro e; subst e; simp at hk)
  obtain ⟨h0, h1, h2, h3, h4⟩ := hc k hk
  exact ⟨bi, cap, rfl, (cell_of hI _).trans h0, (cell_of hI _).trans h1, (cell_of hI _).trans h2, (cell_of hI _).trans h3, (cell_of hI _).trans h4⟩
set_option maxRecDepth 100000 in
set_option maxHeartbeats 2000000 in
theorem all_stops (F : Fence) (n : Nat) (hF : F.fn 112) (hro : F.round = none) (hn : 1 ≤ n) {w : World} {cb : Nat} {sv : Value} {L : List It} (hs : Seq w cb sv L) (p : Nat → Prop) (hp : ∀ b, seqP cb sv b → p b) :
    SeqStopsK F n Try.prog 112 #[.pointer (some ⟨cb, 0, none⟩)] encS (KeepsB p) (fun ys => ys = L) (fun pre => pre <+: L) L.length w := fun l J Jx W hW hJ _ hY h0 => by
  have hs := hs.below hW
  have c0 := hs.c0
  obtain ⟨m, hm⟩ : ∃ m, m = L.length := ⟨_, rfl⟩
  rcases id hs.row.2 with ⟨e0, e1⟩ | ⟨b, cap, cur, e0, -, hb, -⟩
  · obtain rfl : L = [] := List.eq_nil_of_length_eq_zero e1
    subst e0
    clear hs hW hm
    refine callsIn_of_wp Try.func112 rfl hF ?_ hro
    simp only [Try.ntmps112, List.size_toArray, List.length_cons, List.length_nil, Nat.reduceAdd, Nat.reduceSub, Array.replicate_succ, Array.replicate_zero, List.push_toArray, List.append_toArray, List.nil_append, List.cons_append]
    gi_wp2
    gi_loopw [7] (fun i wr => i = .int .i64 0 ∧ J [] wr) (fun _ _ => 0)
    case atStart => exact ⟨rfl, h0⟩
    case round =>
      obtain ⟨rfl, hJs⟩ := hrel
      gi_wp2
      go_end0
      exact ⟨⟨_, rfl⟩, .inl ⟨_, rfl, hJs⟩⟩
  · subst e0
    have HB := Lib.hid hs.row; have Hm := Lib.hid hm; have Hp := Lib.hid (hp b (.inr rfl)); have H8 := Lib.hid hs.few; have HlW := Lib.hid (lt_of_block hb); have Hb := Lib.hid hb
    rw [← hm] at c0
    clear hs hW hm hb
    refine callsIn_of_wp Try.func112 rfl hF ?_ hro
    simp only [Try.ntmps112, List.size_toArray, List.length_cons, List.length_nil, Nat.reduceAdd, Nat.reduceSub, Array.replicate_succ, Array.replicate_zero, List.push_toArray, List.append_toArray, List.nil_append, List.cons_append]
    gi_wp2
    gi_loopw [7] (fun i wr => ∃ k : Nat, k ≤ m ∧ i = .int .i64 k ∧ J (L.take k) wr ∧ KeepsB p W wr)
      (fun i _ => m - (intOf i).toNat)
    case atStart => exact ⟨0, Nat.zero_le _, rfl, h0, KeepsB.refl _ _⟩
    case round =>
      obtain ⟨k, hk, rfl, hJs, hnx⟩ := hrel
      have Hnx := Lib.hid hnx
      clear hnx
      by_cases hlt : k < m
      · have hlt' : (k : Int) < (m : Int) := by omega
        have k0 : (0 : Int) ≤ (k : Int) := by omega
        have hkL : k < L.length := by rw [← Hm.out]; exact hlt
        have hbr : Row wr 179 5 (.slice (some ⟨b, 0, none⟩) L.length cap) L.length (flat L) := by
          obtain ⟨h1, h2 | ⟨g, cap', cur', e, h3, h4, h5⟩⟩ := HB.out
          · exact ⟨h1, .inl h2⟩
          · refine ⟨h1, .inr ⟨g, cap', cur', e, h3, ?_, h5⟩⟩
            simp only [Value.slice.injEq, Option.some.injEq, Addr.mk.injEq] at e
            obtain ⟨⟨rfl, -⟩, -⟩ := e
            exact (Hnx.out.blk _ Hp.out HlW.out).trans h4
        obtain ⟨g, cap', e, d0, d1, d2, d3, d4⟩ := item_cells hbr hkL
        simp only [Value.slice.injEq, Option.some.injEq, Addr.mk.injEq] at e
        obtain ⟨⟨rfl, -⟩, -, -⟩ := e
        obtain ⟨x, hx⟩ : ∃ x, x = itAt L k := ⟨_, rfl⟩
        rw [← hx] at d0 d1 d2 d3 d4
        obtain ⟨v, hd⟩ := x
        simp only at d0 d1 d2 d3 d4
        have hJ1 : J (L.take k) (wr.alloc (.cells #[.int .u32 (wW v), .int .i64 (wS v), .int .i64 (wT v), .int .i64 (wC v), .int .i64 hd] 179)) := hJ _ _ _ none hJs (World.grownBy_alloc _ _ none) (fun r e => by cases e)
        obtain ⟨fn, tmps, assign, body, hy, hR⟩ := hY _ (v, hd) _ hJ1 (by rw [List.length_take]; omega)
        simp only [encS] at hy
        obtain ⟨k1, hk1⟩ : ∃ k1, k1 = k + 1 := ⟨_, rfl⟩
        have e1 : (k : Int) + 1 = (k1 : Int) := by omega
        have e2 : wrap64 (k1 : Int) = (k1 : Int) := by unfold wrap64; have := H8.out; omega
        have e3 : IntKind.i64.wrap (k1 : Int) = (k1 : Int) := by rw [IntKind.wrap_i64]; have := H8.out; omega
        have HK1 := Lib.hid hk1; have HX := Lib.hid hx; have Hlt := Lib.hid hlt; have HkL := Lib.hid hkL
        clear hk1 hx hlt hkL hk hbr
        gi_wp2
        refine hR.mono ?_
        rintro e W3 (⟨rfl, hJ3, hk3⟩ | ⟨rfl, hJx3⟩)
        · gi_wp2
          go_roundw
          case rel => exact ⟨k1, by have := HK1.out; have := Hlt.out; omega, rfl, by rw [HK1.out, ← take_snocI HkL.out, ← HX.out]; exact hJ3, (Hnx.out.alloc _).trans hk3⟩
          case measure => have := HK1.out; have := Hlt.out; simp [intOf]; omega
        · gi_wp2
          refine bodyPost_ret (results_none rfl _ _ _) rfl ?_
          exact ⟨⟨_, rfl⟩, .inr ⟨_, by rw [HX.out, take_snocI HkL.out]; exact List.take_prefix _ _, hJx3⟩⟩
      · obtain rfl : k = m := by omega
        clear hlt hk
        gi_wp2
        go_end0
        exact ⟨⟨_, rfl⟩, .inl ⟨_, rfl, by rw [Hm.out, List.take_length] at hJs; exact hJs⟩⟩
end Go.Proofs.Ytjfnaflbhmeokaa.Wt
