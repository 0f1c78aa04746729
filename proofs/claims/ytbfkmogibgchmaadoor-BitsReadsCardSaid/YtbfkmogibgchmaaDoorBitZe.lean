/- Two sets and the document's two, in two slices. No condition. -/
import Derived.Test.YtbfkmogibgchmaaDoorBitZd
namespace Go.Proofs.YtbfkmogibgchmaaDoor.Bt
open Go.RowKit
structure Pr where
  bh : Nat
  v : Value
  rh : Nat
  rv : Value
def Pr.own (p : Pr) (b : Nat) : Prop := pairO p.v p.rv b
def Pr.all (p : Pr) (b : Nat) : Prop := b = p.bh ∨ b = p.rh ∨ p.own b
structure PairIn (n0 : Nat) (w : World) (p : Pr) (B : List Bool) : Prop where
  at_ : PairAt w p.bh p.v p.rh p.rv B
  new : ∀ b, p.all b → n0 ≤ b
  some_ : ∃ g n c, p.rv = .slice (some ⟨g, 0, none⟩) n c
theorem PairIn.lt {n0 : Nat} {w : World} {p : Pr} {B : List Bool} (h : PairIn n0 w p B) : ∀ b, p.all b → b < w.heap.size := by
  rintro b (hb | hb | hb)
  · subst hb; exact h.at_.s.lt
  · subst hb; exact h.at_.r.lt
  · exact h.at_.lt b hb
theorem PairIn.fr {n0 : Nat} {w w' : World} {p : Pr} {B : List Bool} (h : PairIn n0 w p B) {F : Nat → Prop} (f : Fr F w w') (hn : ∀ b, p.all b → ¬ F b) : PairIn n0 w' p B :=
  ⟨h.at_.fr f (hn _ (.inl rfl)) (hn _ (.inr (.inl rfl))) (fun b hb => hn b (.inr (.inr hb))), h.new, h.some_⟩
def ptr (b : Nat) : Value := .pointer (some ⟨b, 0, none⟩)
structure Two (n0 : Nat) (w : World) (xb yb : Nat) (pk : Nat → Pr) (Bk : Nat → List Bool) : Prop where
  hx : w.heap[xb]? = some (.cells #[ptr (pk 0).bh, ptr (pk 1).bh] 24 (0, 0))
  hy : w.heap[yb]? = some (.cells #[ptr (pk 0).rh, ptr (pk 1).rh] 53 (0, 0))
  pin : ∀ k, k < 2 → PairIn n0 w (pk k) (Bk k)
  dis : ∀ k, k < 2 → ∀ b, (pk k).own b → ¬ (pk (1 - k)).all b
  nx : ∀ k, k < 2 → ∀ b, (pk k).all b → b ≠ xb ∧ b ≠ yb
  xn : n0 ≤ xb ∧ n0 ≤ yb ∧ xb ≠ yb
section
variable {n0 xb yb : Nat} {w w' : World} {pk : Nat → Pr} {Bk : Nat → List Bool}
theorem Two.xlt (h : Two n0 w xb yb pk Bk) : xb < w.heap.size := World.block_lt_of_cell? _ _ ((cell_of h.hx 0).trans (show _ = some (ptr (pk 0).bh) from rfl))
theorem Two.ylt (h : Two n0 w xb yb pk Bk) : yb < w.heap.size := World.block_lt_of_cell? _ _ ((cell_of h.hy 0).trans (show _ = some (ptr (pk 0).rh) from rfl))
theorem Two.xc (h : Two n0 w xb yb pk Bk) {k : Nat} (hk : k < 2) : w.cell? ⟨xb, k, none⟩ = some (ptr (pk k).bh) := by
  rcases (by omega : k = 0 ∨ k = 1) with rfl | rfl
  · exact (cell_of h.hx 0).trans rfl
  · exact (cell_of h.hx 1).trans rfl
theorem Two.yc (h : Two n0 w xb yb pk Bk) {k : Nat} (hk : k < 2) : w.cell? ⟨yb, k, none⟩ = some (ptr (pk k).rh) := by
  rcases (by omega : k = 0 ∨ k = 1) with rfl | rfl
  · exact (cell_of h.hy 0).trans rfl
  · exact (cell_of h.hy 1).trans rfl
theorem Two.keep (h : Two n0 w xb yb pk Bk) (f : Fr (fun _ => False) w w') : Two n0 w' xb yb pk Bk :=
  ⟨f.get h.hx (fun h => h), f.get h.hy (fun h => h), fun k hk => (h.pin k hk).fr f (fun _ _ h => h), h.dis, h.nx, h.xn⟩
def upd {α : Type} (f : Nat → α) (k : Nat) (x : α) : Nat → α := fun j => if j = k then x else f j
theorem upd_same {α : Type} (f : Nat → α) (k : Nat) (x : α) : upd f k x k = x := by simp [upd]
theorem upd_other {α : Type} (f : Nat → α) {k j : Nat} (x : α) (h : j ≠ k) : upd f k x j = f j := by simp [upd, h]
/-- Behind a call on the k-th pair. -/
theorem Two.one (h : Two n0 w xb yb pk Bk) {k : Nat} (hk : k < 2) {B' : List Bool} (hp : PairAt w' (pk k).bh (pk k).v (pk k).rh (pk k).rv B') (f : Fr (pairO (pk k).v (pk k).rv) w w') :
    Two n0 w' xb yb pk (upd Bk k B') ∧ Fr (fun b => n0 ≤ b) w w' := by
  have hpk := h.pin k hk
  refine ⟨⟨f.get h.hx (fun e => (h.nx k hk _ (.inr (.inr e))).1 rfl), f.get h.hy (fun e => (h.nx k hk _ (.inr (.inr e))).2 rfl), ?_, h.dis, h.nx, h.xn⟩, f.mono (fun b _ e => hpk.new b (.inr (.inr e)))⟩
  intro j hj
  by_cases e : j = k
  · subst e; rw [upd_same]; exact ⟨hp, hpk.new, hpk.some_⟩
  · rw [upd_other _ _ e]
    have ej : j = 1 - k := by omega
    exact (h.pin j hj).fr f (fun b hb hc => h.dis k hk b hc (ej ▸ hb))
/-- The k-th pair's copy takes the other's place. -/
theorem Two.copy (h : Two n0 w xb yb pk Bk) {k m : Nat} (hk : k < 2) (hm : m = 1 - k) {w1 w2 : World} {bh rh g c : Nat} {v : Value} (hn0 : n0 ≤ w.heap.size) (hs : NewSet w w1 bh v (Bk k)) (hr : NewRef w1 w2 rh (.slice (some ⟨g, 0, none⟩) (Bk k).length c) true (Bk k)) :
    Two n0 ((w2.setCell ⟨xb, m, none⟩ (ptr bh)).setCell ⟨yb, m, none⟩ (ptr rh)) xb yb (upd pk m ⟨bh, v, rh, .slice (some ⟨g, 0, none⟩) (Bk k).length c⟩) (upd Bk m (Bk k)) ∧
      Fr (fun b => n0 ≤ b) w ((w2.setCell ⟨xb, m, none⟩ (ptr bh)).setCell ⟨yb, m, none⟩ (ptr rh)) := by
  have hm2 : m < 2 := by omega
  have hmk : k ≠ m := by omega
  have f2 := hs.fr.trans hr.fr (fun _ _ h => h)
  have h2 := h.keep f2
  have hxl := h.xlt; have hyl := h.ylt
  have s1 := hs.fr.size
  have fx : Fr (fun b => b = xb ∨ b = yb) w2 ((w2.setCell ⟨xb, m, none⟩ (ptr bh)).setCell ⟨yb, m, none⟩ (ptr rh)) :=
    (Fr.setCell (F := fun b => b = xb ∨ b = yb) (p := ⟨xb, m, none⟩) (Fr.refl _ _) (fun _ => .inl rfl) _).setCell (p := ⟨yb, m, none⟩) (fun _ => .inr rfl) _
  have hx1 : (w2.setCell ⟨xb, m, none⟩ (ptr bh)).heap[xb]? = some (.cells (#[ptr (pk 0).bh, ptr (pk 1).bh].setIfInBounds m (ptr bh)) 24 (0, 0)) := setCell_blk (o := m) h2.hx _
  have hy1 : ((w2.setCell ⟨xb, m, none⟩ (ptr bh)).setCell ⟨yb, m, none⟩ (ptr rh)).heap[yb]? = some (.cells (#[ptr (pk 0).rh, ptr (pk 1).rh].setIfInBounds m (ptr rh)) 53 (0, 0)) :=
    setCell_blk (o := m) ((setCell_blk_ne (by exact fun e => h.xn.2.2 e.symm) _).trans h2.hy) _
  have lv : ∀ b, v.ownBlock = some b → b < w1.heap.size := fun b hb => Row.lt hs.at_.row hb
  have lb : bh < w1.heap.size := hs.at_.lt
  have hsz1 := hr.fr.size
  -- the new pair
  have newp : PairIn n0 w2 ⟨bh, v, rh, .slice (some ⟨g, 0, none⟩) (Bk k).length c⟩ (Bk k) := by
    refine ⟨⟨hs.at_.fr hr.fr (fun h => h) (fun _ _ h => h), hr.at_, hs.ne, hr.ne, ?_, ?_, ?_⟩, ?_, ⟨g, _, c, rfl⟩⟩
    · intro b hb e; have e' : b = rh := e; have := lv b hb; have := hr.new; omega
    · intro b hb e; have e' : b = bh := e; have := (hr.newv b hb).1; omega
    · intro b hb e; have := lv b hb; have := (hr.newv b e).1; omega
    · rintro b (hb | hb | hb | hb)
      · have := hs.new; simp only at hb; omega
      · have := hr.new; simp only at hb; omega
      · have := (hs.newv b hb).1; omega
      · have := (hr.newv b hb).1; omega
  have hnew : ∀ b, (Pr.mk bh v rh (.slice (some ⟨g, 0, none⟩) (Bk k).length c)).all b → w.heap.size ≤ b := by
    rintro b (hb | hb | hb | hb)
    · have := hs.new; simp only at hb; omega
    · have := hr.new; simp only at hb; omega
    · exact (hs.newv b hb).1
    · have := (hr.newv b hb).1; omega
  have nxn : ∀ b, (Pr.mk bh v rh (.slice (some ⟨g, 0, none⟩) (Bk k).length c)).all b → b ≠ xb ∧ b ≠ yb := fun b hb => by have := hnew b hb; omega
  refine ⟨⟨?_, ?_, ?_, ?_, ?_, h.xn⟩, ?_⟩
  · rw [setCell_blk_ne (by exact h.xn.2.2), hx1]
    rcases (by omega : m = 0 ∨ m = 1) with e | e <;> subst e <;> simp [upd]
  · rw [hy1]
    rcases (by omega : m = 0 ∨ m = 1) with e | e <;> subst e <;> simp [upd]
  · intro j hj
    by_cases e : j = m
    · subst e; rw [upd_same, upd_same]
      exact newp.fr fx (fun b hb hc => by have := nxn b hb; rcases hc with hc | hc <;> simp_all)
    · rw [upd_other _ _ e, upd_other _ _ e]
      exact (h2.pin j hj).fr fx (fun b hb hc => by have := h.nx j hj b hb; rcases hc with hc | hc <;> simp_all)
  · intro j hj b hb
    by_cases e : j = m
    · subst e
      rw [upd_same] at hb
      have e2 : 1 - j ≠ j := by omega
      rw [upd_other _ _ e2]
      intro hc
      have := hnew b (.inr (.inr hb))
      have := (h.pin (1 - j) (by omega)).lt b hc
      omega
    · rw [upd_other _ _ e] at hb
      have e2 : 1 - j = m := by omega
      rw [e2, upd_same]
      intro hc
      have := hnew b hc
      have := (h.pin j hj).lt b (.inr (.inr hb))
      omega
  · intro j hj b hb
    by_cases e : j = m
    · subst e; rw [upd_same] at hb; exact nxn b hb
    · rw [upd_other _ _ e] at hb; exact h.nx j hj b hb
  · refine ((f2.mono (fun _ _ h => h.elim)).trans fx ?_)
    rintro b _ (e | e)
    · subst e; exact h.xn.1
    · subst e; exact h.xn.2.1
end
end Go.Proofs.YtbfkmogibgchmaaDoor.Bt
