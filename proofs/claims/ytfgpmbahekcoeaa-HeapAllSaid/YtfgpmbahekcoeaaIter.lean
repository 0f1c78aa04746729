/- The iterator that a heap's All hands back: what it gives, over any slice of items. No condition. -/
import Derived.RangeFuncNested
import Derived.RangeFuncBound
import Derived.RangeFuncCalls
import Derived.RangeFuncLeaves
import Derived.RangeFuncBox
import Derived.Shelf.Abstract
import Derived.Shelf.RegionOpen
import Derived.OwnWalkIn
import Derived.TacticsInMore
import Derived.LoopNIn
import Derived.LoopIn
import Derived.Test.YtfgpmbahekcoeaaNil
namespace Go.Proofs.Ytfgpmbahekcoeaa
open Go.RowKit Go.Shelf
attribute [local go_sem] Oper.semAt_some
/-- The slice sv holds the items L, in a block below n₀. -/
def ItemsAt (n₀ : Nat) (W : World) (sv : Value) (L : List It) : Prop :=
  (sv = .slice none 0 0 ∧ L = []) ∨ ∃ b cap, sv = .slice (some ⟨b, 0, none⟩) L.length cap ∧ b < n₀ ∧ ∀ j, j < L.length → W.cell? ⟨b, j * 2, none⟩ = some (.int .i64 (itAt L j).1) ∧ W.cell? ⟨b, j * 2 + 1, none⟩ = some (.int .i64 (itAt L j).2)
theorem ItemsAt.below {n₀ : Nat} {A B : World} (h : Below n₀ A B) {sv : Value} {L : List It} : ItemsAt n₀ A sv L → ItemsAt n₀ B sv L
  | .inl e => .inl e
  | .inr ⟨b, cap, e, hb, hc⟩ => .inr ⟨b, cap, e, hb, fun j hj => ⟨(h.cell (p := ⟨b, j * 2, none⟩) hb).trans (hc j hj).1, (h.cell (p := ⟨b, j * 2 + 1, none⟩) hb).trans (hc j hj).2⟩⟩
theorem take_snoc (L : List It) {k : Nat} (h : k < L.length) : L.take (k + 1) = L.take k ++ [itAt L k] := by
  rw [List.take_add_one, List.getElem?_eq_getElem h]; simp [itAt, h]
/-- The blocks of p lie as they lay. -/
structure KeepsB (p : Nat → Prop) (W W' : World) : Prop where
  size : W.heap.size ≤ W'.heap.size
  blk : ∀ b, p b → b < W.heap.size → W'.heap[b]? = W.heap[b]?
theorem KeepsB.refl (p : Nat → Prop) (W : World) : KeepsB p W W := ⟨Nat.le_refl _, fun _ _ _ => rfl⟩
theorem KeepsB.trans {p : Nat → Prop} {A B C : World} (h : KeepsB p A B) (k : KeepsB p B C) : KeepsB p A C :=
  ⟨Nat.le_trans h.size k.size, fun b hb hl => (k.blk b hb (Nat.lt_of_lt_of_le hl h.size)).trans (h.blk b hb hl)⟩
theorem KeepsB.alloc {p : Nat → Prop} {A B : World} (h : KeepsB p A B) (o : Obj) : KeepsB p A (B.alloc o) :=
  h.trans ⟨by simp, fun b _ hl => Below.heap_alloc B o b hl⟩
theorem KeepsB.cell {p : Nat → Prop} {A B : World} (h : KeepsB p A B) {q : Addr} (hq : p q.block) (hl : q.block < A.heap.size) : B.cell? q = A.cell? q := World.cell?_of_block (w := A) (h.blk q.block hq hl)
theorem KeepsB.setCell {p : Nat → Prop} (W : World) {q : Addr} (hq : ¬ p q.block) (v : Value) : KeepsB p W (W.setCell q v) :=
  ⟨by simp, fun b hb _ => Below.heap_setCell W q v b (fun e => hq (e ▸ hb))⟩
theorem KeepsB.drewN {p : Nat → Prop} {A B : World} (h : KeepsB p A B) (n : Nat) : KeepsB p A (B.drewN n) := ⟨h.size, h.blk⟩
theorem KeepsB.of_fr {p F : Nat → Prop} {A B : World} (h : Fr F A B) (hp : ∀ b, p b → ¬ F b) : KeepsB p A B := ⟨h.size, fun b hb hl => h.blk b hl (hp b hb)⟩
theorem KeepsB.of_below {p : Nat → Prop} {n : Nat} {A B : World} (h : Below n A B) (hp : ∀ b, p b → b < n) : KeepsB p A B := ⟨h.size, fun b hb _ => h.block b (hp b hb)⟩
theorem keepsB_b {p : Nat → Prop} {w : World} (hp : ∀ b, p b → b < w.heap.size) (W : World) (l : Nat) (o o' : Obj) (hl : w.heap.size ≤ l) (_ : W.heap[l]? = some o) (_ : o.isCells = false) (_ : o.isWalk = false) : KeepsB p W (W.putObj l o') :=
  ⟨by simp [World.putObj], fun b hb _ => World.putObj_heap_other (by have := hp b hb; omega)⟩
set_option maxRecDepth 100000 in
set_option maxHeartbeats 2000000 in
theorem iter_in (F : Fence) (n : Nat) (hF : F.fn 67) (hro : F.round = none) (hn : 1 ≤ n) (l Bs b cap : Nat) (p : Nat → Prop) (L : List It) (hreach : L.length * 16 ≤ 140737488351232) (hb : p b) (J Jx : List It → World → Prop) (hJ : ∀ s A B, J s A → A.grownBy B none → J s B)
    (hY : ∀ pre x W, J pre W → pre.length < L.length → YieldAt F (n - 1) Try.prog l #[.int .i64 x.2, .int .i64 x.1] W fun e W' =>
      (e = .returned (.bool true) ∧ J (pre ++ [x]) W' ∧ KeepsB p W W') ∨ (e = .returned (.bool false) ∧ Jx (pre ++ [x]) W'))
    (W : World) (hBs : W.cell? ⟨Bs, 0, none⟩ = some (.slice (some ⟨b, 0, none⟩) L.length cap)) (hw : b < W.heap.size) (hc : ∀ j, j < L.length → W.cell? ⟨b, j * 2, none⟩ = some (.int .i64 (itAt L j).1) ∧ W.cell? ⟨b, j * 2 + 1, none⟩ = some (.int .i64 (itAt L j).2)) (h0 : J [] W) :
    CallsIn F n Try.prog 67 #[.func (.yield l) #[] #[], .pointer (some ⟨Bs, 0, none⟩)] W fun e W' => (∃ v, e = .returned v) ∧
      ((∃ ys, ys = L ∧ J ys W') ∨ (∃ pre, pre <+: L ∧ Jx pre W')) := by
  refine callsIn_of_wp Try.func67 rfl hF ?_ hro
  simp only [Try.ntmps67, List.size_toArray, List.length_cons, List.length_nil, Nat.reduceAdd, Nat.reduceSub, Array.replicate_succ, Array.replicate_zero, List.push_toArray, List.append_toArray, List.nil_append, List.cons_append]
  gi_wp2
  gi_loopw [7] (fun i wr => ∃ k : Nat, k ≤ L.length ∧ i = .int .i64 k ∧ J (L.take k) wr ∧ KeepsB p W wr)
    (fun i _ => L.length - (intOf i).toNat)
  case atStart => exact ⟨0, Nat.zero_le _, rfl, h0, KeepsB.refl _ _⟩
  case round =>
    obtain ⟨k, hk, rfl, hJs, hnx⟩ := hrel
    by_cases hlt : k < L.length
    · have hcx1 := (hnx.cell (q := ⟨b, k * 2, none⟩) hb hw).trans (hc k hlt).1
      have hcx2 := (hnx.cell (q := ⟨b, k * 2 + 1, none⟩) hb hw).trans (hc k hlt).2
      have hJ1 : J (L.take k) (wr.alloc (.cells #[.int .i64 (itAt L k).1, .int .i64 (itAt L k).2] 127)) := hJ _ _ _ hJs (World.grownBy_alloc _ _ none)
      obtain ⟨fn, tmps, assign, body, hy, hR⟩ := hY _ (itAt L k) _ hJ1 (by rw [List.length_take]; omega)
      gi_wp2
      refine hR.mono ?_
      rintro e W3 (⟨rfl, hJ3, hk3⟩ | ⟨rfl, hJx3⟩)
      · gi_wp2
        go_roundw
        case rel => exact ⟨k + 1, by omega, by simp, by rw [take_snoc L hlt]; exact hJ3, (hnx.alloc _).trans hk3⟩
        case measure => simp [intOf]; omega
      · gi_wp2
        refine bodyPost_ret (results_none rfl _ _ _) rfl ?_
        exact ⟨⟨_, rfl⟩, .inr ⟨_, by rw [← take_snoc L hlt]; exact List.take_prefix _ _, hJx3⟩⟩
    · obtain rfl : k = L.length := by omega
      gi_wp2
      go_end0
      exact ⟨⟨_, rfl⟩, .inl ⟨_, rfl, by simpa using hJs⟩⟩
set_option maxRecDepth 100000 in
set_option maxHeartbeats 1000000 in
theorem iter_nil_in (F : Fence) (n : Nat) (hF : F.fn 67) (hro : F.round = none) (l Bs : Nat) (J : List It → World → Prop) (W : World) (hBs : W.cell? ⟨Bs, 0, none⟩ = some (.slice none 0 0)) (h0 : J [] W) :
    CallsIn F n Try.prog 67 #[.func (.yield l) #[] #[], .pointer (some ⟨Bs, 0, none⟩)] W fun e W' => (∃ v, e = .returned v) ∧ J [] W' := by
  refine callsIn_of_wp Try.func67 rfl hF ?_ hro
  simp only [Try.ntmps67, List.size_toArray, List.length_cons, List.length_nil, Nat.reduceAdd, Nat.reduceSub, Array.replicate_succ, Array.replicate_zero, List.push_toArray, List.append_toArray, List.nil_append, List.cons_append]
  gi_wp2
  gi_loopw [7] (fun i wr => i = .int .i64 0 ∧ J [] wr) (fun _ _ => 0)
  case atStart => exact ⟨rfl, h0⟩
  case round =>
    obtain ⟨rfl, hJs⟩ := hrel
    gi_wp2
    go_end0
    exact ⟨⟨_, rfl⟩, hJs⟩
/-- What All hands back gives the items of the slice that it has captured, in order: whatever the body does, if only the slice's own block lies as it lay. -/
theorem iter_stopsK (F : Fence) (n : Nat) (hF : F.fn 67) (hro : F.round = none) (hn : 1 ≤ n) (Bs n₀ : Nat) (sv : Value) (L : List It) (hreach : L.length * 16 ≤ 140737488351232) (w : World) (hBs : Bs < w.heap.size) (hn₀ : n₀ ≤ w.heap.size)
    (hc : w.cell? ⟨Bs, 0, none⟩ = some sv) (hI : ItemsAt n₀ w sv L) (p : Nat → Prop) (hp : ∀ b, sv.ownBlock = some b → p b) :
    SeqStopsK F n Try.prog 67 #[.pointer (some ⟨Bs, 0, none⟩)] (fun x : It => #[Value.int .i64 x.2, Value.int .i64 x.1]) (KeepsB p) (fun ys => ys = L) (fun pre => pre <+: L) L.length w := fun l J Jx W hW hJ _ hY h0 => by
  have hc' := (hW.cell (p := ⟨Bs, 0, none⟩) hBs).trans hc
  rcases hI.below (hW.mono hn₀) with ⟨rfl, rfl⟩ | ⟨b, cap, rfl, hb, hcs⟩
  · exact (iter_nil_in F n hF hro l Bs J W hc' h0).mono fun e W' ⟨he, hj⟩ => ⟨he, .inl ⟨_, rfl, hj⟩⟩
  · have hw : b < W.heap.size := Nat.lt_of_lt_of_le hb (Nat.le_trans hn₀ hW.size)
    exact iter_in F n hF hro hn l Bs b cap p L hreach (hp b rfl) J Jx (fun s A B h1 h2 => hJ s A B none h1 h2 (fun r e => by cases e)) hY W hc' hw hcs h0
theorem iter_stops (F : Fence) (n : Nat) (hF : F.fn 67) (hro : F.round = none) (hn : 1 ≤ n) (Bs n₀ : Nat) (sv : Value) (L : List It) (hreach : L.length * 16 ≤ 140737488351232) (w : World) (hBs : Bs < w.heap.size) (hn₀ : n₀ ≤ w.heap.size)
    (hc : w.cell? ⟨Bs, 0, none⟩ = some sv) (hI : ItemsAt n₀ w sv L) :
    SeqStopsK F n Try.prog 67 #[.pointer (some ⟨Bs, 0, none⟩)] (fun x : It => #[Value.int .i64 x.2, Value.int .i64 x.1]) (Below n₀) (fun ys => ys = L) (fun pre => pre <+: L) L.length w := fun l J Jx W hW hJ hJx hY h0 =>
  iter_stopsK F n hF hro hn Bs n₀ sv L hreach w hBs hn₀ hc hI (fun b => b < n₀) (fun b e => by
    rcases hI with ⟨rfl, _⟩ | ⟨b', cap, rfl, hb, _⟩
    · simp [Value.ownBlock] at e
    · simp [Value.ownBlock] at e; omega) l J Jx W hW hJ hJx (fun pre x W1 h1 h2 => by
      obtain ⟨fn, tmps, assign, body, hy, hR⟩ := hY pre x W1 h1 h2
      refine ⟨fn, tmps, assign, body, hy, hR.mono ?_⟩
      rintro e W' (⟨a1, a2, a3⟩ | h)
      · exact .inl ⟨a1, a2, KeepsB.of_below a3 (fun _ h => h)⟩
      · exact .inr h) h0
end Go.Proofs.Ytfgpmbahekcoeaa
