/- HeapAll's state while its script runs. No condition. -/
import Derived.Test.YtfgpmbahekcoeaaDuo
import Derived.Test.YtfgpmbahekcoeaaMarks
import Derived.Test.YtfgpmbahekcoeaaHeapX
namespace Go.Proofs.Ytfgpmbahekcoeaa
open Go.RowKit
structure Main (w : World) (bt : Nat) (at_ : Int) (a : Pl) (i : Nat) (wr : World) : Prop where
  ex : ∃ G L R n, PairAt G a L R n wr ∧ n ≤ (i : Int) ∧ ∀ x, G x → w.heap.size + 2 ≤ x ∧ x ≠ bt
  two : wr.heap[bt]? = some (.cells #[.pointer (some ⟨a.2.1, 0, none⟩), .pointer (some ⟨a.2.2.1, 0, none⟩), .bool (decide (a.2.2.2 < 4))] 51 (0, 0))
  at_ : wr.heap[w.heap.size]? = some (.cells #[.int .i64 at_] 3 (0, 0))
  res : wr.heap[w.heap.size + 1]? = some (.cells #[.bool false] 4 (0, 0))
  fr : Fr (fun x => w.heap.size ≤ x) w wr
theorem Main.keep {w wr w' : World} {bt i : Nat} {at_ : Int} {a : Pl} (h : Main w bt at_ a i wr) (f : Fr (fun _ => False) wr w') : Main w bt at_ a i w' := by
  obtain ⟨G, L, R, n, p, hn, s⟩ := h.ex
  exact ⟨⟨G, L, R, n, PairIs.fr p f (fun _ _ h => h), hn, s⟩, f.get h.two (fun h => h), f.get h.at_ (fun h => h), f.get h.res (fun h => h), h.fr.trans (nofr f) (fun _ _ h => h)⟩
/-- A step of the script. -/
theorem Main.step {w W w' : World} {bt i : Nat} {at_ : Int} {a : Pl} (h : Main w bt at_ a i W) {G G' : Nat → Prop} {L' R' : List It} {n n' : Int} (s : ∀ x, G x → w.heap.size + 2 ≤ x ∧ x ≠ bt) (hn : n ≤ (i : Int))
    (q : PairAt G' a L' R' n' w') (hn' : n' ≤ n + 1) (f : Fr G W w') (g : Grew W G G') : Main w bt at_ a (i + 1) w' := by
  have hbt := lt_of_block h.two
  have hres := lt_of_block h.res
  refine ⟨⟨G', L', R', n', q, by omega, ?_⟩, f.get h.two (fun hg => (s _ hg).2 rfl), f.get h.at_ (fun hg => by have := (s _ hg).1; omega), f.get h.res (fun hg => by have := (s _ hg).1; omega), h.fr.trans f (fun x _ hg => by have := (s _ hg).1; omega)⟩
  intro x hx
  rcases g x hx with hx | hx
  · exact s x hx
  · exact ⟨by omega, by omega⟩
theorem ItemsAt.fr {n₀ : Nat} {A B : World} {F : Nat → Prop} {sv : Value} {L : List It} (h : ItemsAt n₀ A sv L) (f : Fr F A B) (hF : ∀ b, sv.ownBlock = some b → ¬ F b) : ItemsAt n₀ B sv L := by
  rcases h with h | ⟨b, cap, rfl, hb, hc⟩
  · exact .inl h
  · refine .inr ⟨b, cap, rfl, hb, fun j hj => ?_⟩
    have hl := World.block_lt_of_cell? A _ (hc j hj).1
    exact ⟨(f.cell hl (hF b rfl)).trans (hc j hj).1, (f.cell hl (hF b rfl)).trans (hc j hj).2⟩
/-- What HealAll's later part reads, all of it laid ahead of the heap's last steps. -/
structure Kept (n0 bt b9 B : Nat) (at_ : Int) (a : Pl) (v9 sv : Value) (R : List It) (n1 : Nat) (W : World) : Prop where
  two : W.heap[bt]? = some (.cells #[.pointer (some ⟨a.2.1, 0, none⟩), .pointer (some ⟨a.2.2.1, 0, none⟩), .bool (decide (a.2.2.2 < 4))] 51 (0, 0))
  nine : W.heap[b9]? = some (.cells #[v9] 54 (0, 0))
  row : Row W 65 2 v9 R.length (flat R)
  at_ : W.heap[n0]? = some (.cells #[.int .i64 at_] 3 (0, 0))
  res : W.heap[n0 + 1]? = some (.cells #[.bool false] 4 (0, 0))
  box : W.heap[B]? = some (.cells #[sv] 70 (0, 0))
  items : ItemsAt n1 W sv (R.map sw)
  n1 : n1 ≤ W.heap.size
theorem Kept.fr {n0 bt b9 B n1 : Nat} {at_ : Int} {a : Pl} {v9 sv : Value} {R : List It} {W W' : World} {F : Nat → Prop} (h : Kept n0 bt b9 B at_ a v9 sv R n1 W) (f : Fr F W W')
    (hF : ∀ b, (b = bt ∨ b = b9 ∨ b = B ∨ b = n0 ∨ b = n0 + 1 ∨ v9.ownBlock = some b ∨ sv.ownBlock = some b) → ¬ F b) : Kept n0 bt b9 B at_ a v9 sv R n1 W' :=
  ⟨f.get h.two (hF _ (by simp)), f.get h.nine (hF _ (by simp)), Row.fr h.row f (fun b hb => hF b (by simp [hb])), f.get h.at_ (hF _ (by simp)), f.get h.res (hF _ (by simp)), f.get h.box (hF _ (by simp)), h.items.fr f (fun b hb => hF b (by simp [hb])), Nat.le_trans h.n1 f.size⟩
/-- HeapAll between two of its rounds. -/
structure RoundSt (n0 : Nat) (x : Pl) (G3 : Nat → Prop) (n3 : Int) (W3 : World) (r b12 : Nat) (ds : List Nat) (wr : World) : Prop where
  hp : ∃ L, HeapIs (KindAt x.1 x.2.2.2) (fun b => b = x.1) Fits (ordFn x.1) G3 x.2.1 L n3 wr
  fr : Fr (fun b => b = x.1 ∨ G3 b) W3 wr
  cell : wr.heap[b12]? = some (.cells #[.int .i64 r] 3 (0, 0))
  b12 : W3.heap.size ≤ b12
  marks : MarksOk ds wr
  apart : ∀ D ∈ ds, ¬ (D = x.1 ∨ G3 D)
  old : ∀ D ∈ ds, n0 ≤ D
  r2 : r ≤ 2
/-- The round's number, read off the world. -/
def intAt (w : World) (p : Addr) : Int := match w.cell? p with
  | some (Value.int _ r) => r
  | _ => 0
def addrOf : Value → Addr
  | Value.pointer (some p) => p
  | _ => ⟨0, 0, none⟩
def roundAt (a : Act) (wr : World) : Nat := (intAt wr (addrOf (a.tmps.getD 12 undef))).toNat
/-- What a loop over the iterator leaves in a round. -/
structure Ranged (x : Pl) (G3 : Nat → Prop) (n3 : Int) (Wi : World) (b13 pl : Nat) (W' : World) : Prop where
  hp : ∃ L, HeapIs (KindAt x.1 x.2.2.2) (fun b => b = x.1) Fits (ordFn x.1) G3 x.2.1 L n3 W'
  fr : Fr (fun b => (b = x.1 ∨ G3 b) ∨ b = b13) Wi W'
  cell : W'.heap[b13]? = some (.cells #[.int .i64 pl] 3 (0, 0))
theorem Ranged.grown {x : Pl} {G3 : Nat → Prop} {n3 : Int} {Wi : World} {b13 pl : Nat} {A B : World} {row : Option Nat} (h : Ranged x G3 n3 Wi b13 pl A) (hg : A.grownBy B row) (hr : ∀ r, row = some r → Wi.heap.size ≤ r) (hU : ∀ b, (b = x.1 ∨ G3 b) → b < Wi.heap.size) (h13 : b13 < Wi.heap.size) : Ranged x G3 n3 Wi b13 pl B := by
  have f := grownBy.fr hg
  obtain ⟨L, hL⟩ := h.hp
  refine ⟨⟨L, hL.fr f (f.get hL.j ?_) ?_⟩, h.fr.trans f ?_, f.get h.cell ?_⟩
  · intro e; have := hr _ e; have := hU x.1 (.inl rfl); omega
  · intro b hb e; have := hr _ e; have := hU b (.inr hb); omega
  · intro i hi e; have := hr _ e; omega
  · intro e; have := hr _ e; omega
theorem Ranged.bump {x : Pl} {G3 : Nat → Prop} {n3 : Int} {Wi : World} {b13 pl : Nat} {A : World} (h : Ranged x G3 n3 Wi b13 pl A) (hU : ∀ b, (b = x.1 ∨ G3 b) → b < b13) : Ranged x G3 n3 Wi b13 (pl + 1) (A.setCell ⟨b13, 0, none⟩ (.int .i64 ((pl : Int) + 1))) := by
  have f : Fr (fun b => b = b13) A (A.setCell ⟨b13, 0, none⟩ (.int .i64 ((pl : Int) + 1))) := Fr.setCell (F := fun b => b = b13) (p := ⟨b13, 0, none⟩) (Fr.refl _ _) (fun _ => rfl) _
  obtain ⟨L, hL⟩ := h.hp
  refine ⟨⟨L, hL.fr f (f.get hL.j ?_) ?_⟩, h.fr.trans f (fun i _ e => .inr e), ?_⟩
  · intro e; have := hU x.1 (.inl rfl); omega
  · intro b hb e; have := hU b (.inr hb); omega
  · refine (setCell_blk (o := 0) h.cell _).trans ?_
    simp
theorem Ranged.stepped {x : Pl} {G3 : Nat → Prop} {n3 : Int} {Wi : World} {b13 pl : Nat} {A B : World} (h : Ranged x G3 n3 Wi b13 pl A) (hU : ∀ b, (b = x.1 ∨ G3 b) → b < b13) {L : List It} (hL : HeapIs (KindAt x.1 x.2.2.2) (fun b => b = x.1) Fits (ordFn x.1) G3 x.2.1 L n3 B) (f : Fr (fun b => b = x.1 ∨ G3 b) A B) : Ranged x G3 n3 Wi b13 pl B :=
  ⟨⟨L, hL⟩, h.fr.trans f (fun i _ e => .inl e), f.get h.cell (fun e => by have := hU b13 e; omega)⟩
theorem KeepsFrom.of_fr {B : Nat} {W W' : World} {F : Nat → Prop} (f : Fr F W W') (h : ∀ b, F b → b < B) : KeepsFrom B W W' :=
  ⟨f.size, fun k o hB hk _ => f.get hk (fun hF => by have := h k hF; omega)⟩
end Go.Proofs.Ytfgpmbahekcoeaa
