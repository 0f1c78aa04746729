/- Blocks that lie as they lay. No condition. -/
import Derived.RangeFuncNested
import Derived.RangeFuncBound
import Derived.RangeFuncCalls
import Derived.RangeFuncLeaves
import Derived.RangeFuncBox
import Derived.Shelf.Abstract
import Derived.Shelf.RegionOpen
import Derived.OwnWalkIn
import Derived.TacticsInMore
import Derived.LoopNIn
import Derived.LoopIn
import Derived.RangeFuncFrom
import Derived.RangeFuncWrites
import Derived.Test.YtjfnaflbhmeokaaMore
import Derived.Test.YtjfnaflbhmeokaaProg
namespace Go.Proofs.Ytjfnaflbhmeokaa
open Go.RowKit Go.Shelf
/-- The blocks of p lie as they lay. -/
structure KeepsB (p : Nat → Prop) (W W' : World) : Prop where
  size : W.heap.size ≤ W'.heap.size
  blk : ∀ b, p b → b < W.heap.size → W'.heap[b]? = W.heap[b]?
theorem KeepsB.refl (p : Nat → Prop) (W : World) : KeepsB p W W := ⟨Nat.le_refl _, fun _ _ _ => rfl⟩
theorem KeepsB.trans {p : Nat → Prop} {A B C : World} (h : KeepsB p A B) (k : KeepsB p B C) : KeepsB p A C :=
  ⟨Nat.le_trans h.size k.size, fun b hb hl => (k.blk b hb (Nat.lt_of_lt_of_le hl h.size)).trans (h.blk b hb hl)⟩
theorem KeepsB.alloc {p : Nat → Prop} {A B : World} (h : KeepsB p A B) (o : Obj) : KeepsB p A (B.alloc o) :=
  h.trans ⟨by simp, fun b _ hl => Below.heap_alloc B o b hl⟩
theorem KeepsB.cell {p : Nat → Prop} {A B : World} (h : KeepsB p A B) {q : Addr} (hq : p q.block) (hl : q.block < A.heap.size) : B.cell? q = A.cell? q := World.cell?_of_block (w := A) (h.blk q.block hq hl)
theorem KeepsB.setCell {p : Nat → Prop} (W : World) {q : Addr} (hq : ¬ p q.block) (v : Value) : KeepsB p W (W.setCell q v) :=
  ⟨by simp, fun b hb _ => Below.heap_setCell W q v b (fun e => hq (e ▸ hb))⟩
theorem KeepsB.drewN {p : Nat → Prop} {A B : World} (h : KeepsB p A B) (n : Nat) : KeepsB p A (B.drewN n) := ⟨h.size, h.blk⟩
theorem KeepsB.of_fr {p F : Nat → Prop} {A B : World} (h : Fr F A B) (hp : ∀ b, p b → ¬ F b) : KeepsB p A B := ⟨h.size, fun b hb hl => h.blk b hl (hp b hb)⟩
theorem KeepsB.of_below {p : Nat → Prop} {n : Nat} {A B : World} (h : Below n A B) (hp : ∀ b, p b → b < n) : KeepsB p A B := ⟨h.size, fun b hb _ => h.block b (hp b hb)⟩
theorem keepsB_b {p : Nat → Prop} {w : World} (hp : ∀ b, p b → b < w.heap.size) (W : World) (l : Nat) (o o' : Obj) (hl : w.heap.size ≤ l) (_ : W.heap[l]? = some o) (_ : o.isCells = false) (_ : o.isWalk = false) : KeepsB p W (W.putObj l o') :=
  ⟨by simp [World.putObj], fun b hb _ => World.putObj_heap_other (by have := hp b hb; omega)⟩
end Go.Proofs.Ytjfnaflbhmeokaa
