/- A range over a function whose element is boxed anew in each round. No condition. -/
import Derived.RangeFuncNested
import Derived.Test.YtjfnaflbhmeokaaKeepB
namespace Go.Proofs.Ytjfnaflbhmeokaa
open Go.RowKit Go.Shelf
section
variable {α : Type} {F : Fence} {n : Nat} {P : Program} {g : Operand} {ps : Array Tmp} {assign body : Code} {Q : Exit → Act → World → Prop} {a : Act} {w : World}
variable {gf : Nat} {lb : Array Value} {encs : α → Array Value} {p : Nat → Prop} {S Sp : List α → Prop} {N : Nat} {w0 : World}
theorem no_cells {A B : World} {row : Option Nat} (hr : ∀ r, row = some r → ∃ o : Obj, A.heap[r]? = some o ∧ o.isCells = false) (hg : A.grownBy B row) {b : Nat} {c : Array Value} {t : TypeId} {z : Nat × Nat} (h : A.heap[b]? = some (.cells c t z)) : B.heap[b]? = some (.cells c t z) := by
  refine (grownBy.fr hg).get h fun e => ?_
  obtain ⟨o, h1, h2⟩ := hr b e
  rw [h] at h1; cases h1; simp [Obj.isCells] at h2
theorem range_boxed (hro : F.round = none) (h1 : 1 ≤ n) (hg : a.eval g = .func (.func gf) #[] lb) (hFg : F.fn gf) (eg : ∀ args w, (callFunc gf args).run P w = .ok (.enter gf args) w)
    (hseq : SeqStopsK F (n - 1) P gf lb encs (KeepsB p) S Sp N w0) (hp : ∀ b, p b → b < w.heap.size) (hb0 : Below w0.heap.size w0 w) (hps : ∀ x, (encs x).size = ps.size)
    (I : List α → World → Prop) (Ix : Code → List α → World → Prop) (hI : OwnFrom w.heap.size I) (hIx : ∀ c, OwnFrom w.heap.size (Ix c)) (h0 : I [] w) (hsz : ∀ pre W, I pre W → w.heap.size ≤ W.heap.size)
    (cl : α → Array Value) (bt : TypeId) (a1 : α → Nat → Act)
    (hassign : ∀ (l : Nat) (x : α) (W : World) (K : Act → World → Prop), (∀ b, b = W.heap.size → K (a1 x b) (W.alloc (.cells (cl x) bt))) → assign.wpIn (F.inRound l) (n - 1 - 1) P (Exit.then K (fun _ _ _ => False)) { tmps := (ps.zip (encs x)).foldl (fun t (p, v) => t.setIfInBounds p v) a.tmps, defers := [] } W)
    (hbody : ∀ (l : Nat) (pre : List α) (x : α) (b : Nat) (W : World), w.heap.size ≤ b → W.heap[b]? = some (.cells (cl x) bt (0, 0)) → I pre W → pre.length < N → body.wpIn (F.inRound l) (n - 1 - 1) P (ownPostG w.heap.size (KeepsB p) I Ix (pre ++ [x]) W) (a1 x b) W)
    (hdone : ∀ (D : Nat) (xs : List α) (W : World), w.heap.size ≤ D → S xs → I xs W → W.heap[D]? = some (.deferred (some [])) → Q .normal { a with defers := { target := .collected D, args := #[] } :: a.defers } W)
    (hstop : ∀ (D : Nat) (c : Code) (pre : List α) (W : World), w.heap.size ≤ D → Sp pre → Ix c pre W → W.heap[D]? = some (.deferred (some [])) → c.wpIn F n P Q { a with defers := { target := .collected D, args := #[] } :: a.defers } W) :
    (Code.rangeFunc g ps assign body).wpIn F n P Q a w :=
  wpIn_rangeFunc_ownH hro h1 hg hFg eg hseq KeepsB.trans (keepsB_b hp) hb0 hps I Ix hI hIx h0 (fun x a' W => ∃ b, a' = a1 x b ∧ w.heap.size ≤ b ∧ W.heap[b]? = some (.cells (cl x) bt (0, 0)))
    (by
      rintro x a' _ A B row ⟨b, e, hb, hc⟩ hgr hr
      exact ⟨b, e, hb, no_cells (fun r e => (hr r e).2) hgr hc⟩)
    (fun l pre x W K hi hK => hassign l x W K (fun b hb => hK _ _ (KeepsFrom.of_grownBy (row := none) (World.grownBy_alloc _ _ none) (fun j e => by cases e)) (KeepsB.alloc (KeepsB.refl _ _) _)
      (hI _ _ _ none hi (World.grownBy_alloc _ _ none) (fun r e => by cases e)) ⟨b, rfl, by rw [hb]; exact hsz _ _ hi, by rw [hb]; exact heap_alloc_at _ _⟩))
    (fun l pre x a' W hl hr hi => by
      rintro ⟨b, rfl, hb, hc⟩
      exact hbody l pre x b W hb hc hi) hdone hstop
end
end Go.Proofs.Ytjfnaflbhmeokaa
