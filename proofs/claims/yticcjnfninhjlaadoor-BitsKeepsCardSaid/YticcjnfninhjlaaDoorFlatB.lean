/- Lists that lie apart, and longer ones made of them. No condition. -/
import Derived.Test.YticcjnfninhjlaaDoorFlatA
namespace Go.Proofs.YticcjnfninhjlaaDoor
open Go.RowKit
/-- K lists lv (cells f), and K lists gv (cells g): a block belongs to the lists of one number. -/
structure Fl2 (w : World) (e : TypeId) (size K lb gb : Nat) (lv gv : Nat → Value) (n m : Nat → Nat) (f g : Nat → List Value) : Prop where
  lh : ∀ k, k < K → w.cell? ⟨lb, k, none⟩ = some (lv k)
  lr : ∀ k, k < K → Row w e size (lv k) (n k) (f k)
  gr : ∀ k, k < K → Row w e size (gv k) (m k) (g k)
  ap : ∀ j k b, j < K → k < K → j ≠ k → ((lv j).ownBlock = some b ∨ (gv j).ownBlock = some b) → ¬ ((lv k).ownBlock = some b ∨ (gv k).ownBlock = some b)
  hb : ∀ k b, k < K → ((lv k).ownBlock = some b ∨ (gv k).ownBlock = some b) → b ≠ lb ∧ b ≠ gb
  sh : ∀ k b, k < K → (lv k).ownBlock = some b → (gv k).ownBlock = some b → ∃ c ys, lv k = .slice (some ⟨b, 0, none⟩) (n k) c ∧ gv k = .slice (some ⟨b, 0, none⟩) (m k) c ∧ g k = f k ++ ys ∧ n k ≤ m k
  lt : lb < w.heap.size ∧ gb < w.heap.size
/-- The blocks of the lists. -/
def flP (K : Nat) (lv gv : Nat → Value) (b : Nat) : Prop := ∃ k, k < K ∧ ((lv k).ownBlock = some b ∨ (gv k).ownBlock = some b)
section
variable {w w' : World} {e : TypeId} {size K lb gb : Nat} {lv gv : Nat → Value} {n m : Nat → Nat} {f g : Nat → List Value}
theorem Fl2.fr (h : Fl2 w e size K lb gb lv gv n m f g) {F : Nat → Prop} (hf : Fr F w w') (h1 : ¬ F lb) (h2 : ∀ b, flP K lv gv b → ¬ F b) : Fl2 w' e size K lb gb lv gv n m f g :=
  ⟨fun k hk => (hf.cell h.lt.1 h1).trans (h.lh k hk), fun k hk => Row.fr (h.lr k hk) hf (fun b hb => h2 b ⟨k, hk, .inl hb⟩), fun k hk => Row.fr (h.gr k hk) hf (fun b hb => h2 b ⟨k, hk, .inr hb⟩), h.ap, h.hb, h.sh, ⟨Nat.lt_of_lt_of_le h.lt.1 hf.size, Nat.lt_of_lt_of_le h.lt.2 hf.size⟩⟩
theorem Fl2.below (h : Fl2 w e size K lb gb lv gv n m f g) {b : Nat} (hb : flP K lv gv b) : b < w.heap.size := by
  obtain ⟨k, hk, hb | hb⟩ := hb
  · exact Row.lt (h.lr k hk) hb
  · exact Row.lt (h.gr k hk) hb
theorem Fl2.congr (h : Fl2 w e size K lb gb lv gv n m f g) {f' g' : Nat → List Value} {gv' : Nat → Value} {m' : Nat → Nat} (h1 : ∀ k, k < K → f k = f' k) (h2 : ∀ k, k < K → g k = g' k) (h3 : ∀ k, k < K → gv k = gv' k) (h4 : ∀ k, k < K → m k = m' k) : Fl2 w e size K lb gb lv gv' n m' f' g' :=
  ⟨h.lh, fun k hk => h1 k hk ▸ h.lr k hk, fun k hk => h2 k hk ▸ h3 k hk ▸ h4 k hk ▸ h.gr k hk, fun j k b hj hk => h3 k hk ▸ h3 j hj ▸ h.ap j k b hj hk, fun k b hk => h3 k hk ▸ h.hb k b hk, fun k b hk => h1 k hk ▸ h2 k hk ▸ h3 k hk ▸ h4 k hk ▸ h.sh k b hk, h.lt⟩
theorem Fl2.keep (h : Fl2 w e size K lb gb lv gv n m f g) (hf : Fr (fun _ => False) w w') : Fl2 w' e size K lb gb lv gv n m f g := h.fr hf (fun h => h) (fun _ _ h => h)
/-- One list's longer one becomes v2, which is the list itself grown in place, or new. -/
theorem Fl2.put (h : Fl2 w e size K lb gb lv gv n m f g) {k m2 : Nat} (hk : k < K) {v2 : Value} {g2 : List Value} {ys : List Value} (hg2 : g2 = f k ++ ys) (hnm : n k ≤ m2)
    (hr : Row w' e size v2 m2 g2) (h0 : 0 < m2)
    (hor : (∃ b c, (lv k).ownBlock = some b ∧ lv k = .slice (some ⟨b, 0, none⟩) (n k) c ∧ v2 = .slice (some ⟨b, 0, none⟩) m2 c ∧ Fr (fun x => x = b) w w') ∨
      (∃ b, v2.ownBlock = some b ∧ (gv k).ownBlock = some b ∧ (lv k).ownBlock ≠ some b ∧ Fr (fun x => x = b) w w') ∨ (v2.ownBlock = some w.heap.size ∧ Fr (fun _ => False) w w')) :
    Fl2 w' e size K lb gb lv (fun j => if j = k then v2 else gv j) n (fun j => if j = k then m2 else m j) f (fun j => if j = k then g2 else g j) := by
  have hown : ∀ b, v2.ownBlock = some b → (lv k).ownBlock = some b ∨ (gv k).ownBlock = some b ∨ b = w.heap.size := by
    intro b hb
    rcases hor with ⟨b', c, e1, e2, e3, _⟩ | ⟨b', e1, e2, e3, _⟩ | ⟨e1, _⟩
    · rw [e3] at hb; simp [Value.ownBlock] at hb; subst hb; exact .inl e1
    · rw [e1] at hb; cases hb; exact .inr (.inl e2)
    · rw [e1] at hb; cases hb; exact .inr (.inr rfl)
  obtain ⟨F, hF, hfr, hFk⟩ : ∃ F : Nat → Prop, (∀ b, F b → (lv k).ownBlock = some b ∨ (gv k).ownBlock = some b) ∧ Fr F w w' ∧ (∀ b, F b → v2.ownBlock = some b) := by
    rcases hor with ⟨b', c, e1, e2, e3, fr⟩ | ⟨b', e1, e2, e3, fr⟩ | ⟨e1, fr⟩
    · exact ⟨_, fun b hb => .inl (by rw [hb]; exact e1), fr, fun b hb => by rw [hb, e3]; rfl⟩
    · exact ⟨_, fun b hb => .inr (by rw [hb]; exact e2), fr, fun b hb => by rw [hb]; exact e1⟩
    · exact ⟨_, fun _ hb => hb.elim, fr, fun _ hb => hb.elim⟩
  have hnF : ∀ j b, j < K → j ≠ k → ((lv j).ownBlock = some b ∨ (gv j).ownBlock = some b) → ¬ F b := fun j b hj hne hb hf => h.ap j k b hj hk hne hb (hF b hf)
  refine ⟨fun j hj => (hfr.cell h.lt.1 (fun hf => (h.hb k _ hk (hF _ hf)).1 rfl)).trans (h.lh j hj), ?_, ?_, ?_, ?_, ?_, ⟨Nat.lt_of_lt_of_le h.lt.1 hfr.size, Nat.lt_of_lt_of_le h.lt.2 hfr.size⟩⟩
  · intro j hj
    by_cases e : j = k
    · subst e
      by_cases hsame : ∃ b, (lv j).ownBlock = some b ∧ F b
      · obtain ⟨b, hb, hf⟩ := hsame
        rcases hor with ⟨b', c, e1, e2, e3, fr⟩ | ⟨b', e1, e2, e3, fr⟩ | ⟨e1, fr⟩
        · rw [e3, hg2] at hr
          obtain ⟨q, rfl⟩ : ∃ q, m2 = n j + q := ⟨m2 - n j, by omega⟩
          rw [e2]; exact Row.head hr (h.lr j hj).1 h0
        · have := hFk b hf
          rw [e1] at this; cases this
          exact absurd hb e3
        · have := hFk b hf
          rw [e1] at this; cases this
          have := Row.lt (h.lr j hj) hb; omega
      · exact Row.fr (h.lr j hj) hfr (fun b hb hf => hsame ⟨b, hb, hf⟩)
    · exact Row.fr (h.lr j hj) hfr (fun b hb => hnF j b hj e (.inl hb))
  · intro j hj
    by_cases e : j = k
    · subst e; simp only [if_pos]; exact hr
    · simp only [if_neg e]; exact Row.fr (h.gr j hj) hfr (fun b hb => hnF j b hj e (.inr hb))
  · have hx : ∀ j b, j < K → ((lv j).ownBlock = some b ∨ (if j = k then v2 else gv j).ownBlock = some b) → ((lv j).ownBlock = some b ∨ (gv j).ownBlock = some b) ∨ (j = k ∧ b = w.heap.size) := by
      intro j b hj hb
      by_cases e : j = k
      · subst e
        simp only [if_pos] at hb
        rcases hb with hb | hb
        · exact .inl (.inl hb)
        · rcases hown b hb with h1 | h1 | h1
          · exact .inl (.inl h1)
          · exact .inl (.inr h1)
          · exact .inr ⟨rfl, h1⟩
      · simp only [if_neg e] at hb; exact .inl hb
    have hlt : ∀ j b, j < K → ((lv j).ownBlock = some b ∨ (gv j).ownBlock = some b) → b < w.heap.size := fun j b hj hb => h.below ⟨j, hj, hb⟩
    intro j i b hj hi hne h1 h2
    rcases hx j b hj h1 with h1 | ⟨e1, h1⟩ <;> rcases hx i b hi h2 with h2 | ⟨e2, h2⟩
    · exact h.ap j i b hj hi hne h1 h2
    · have := hlt j b hj h1; omega
    · have := hlt i b hi h2; omega
    · exact hne (e1.trans e2.symm)
  · intro j b hj hb
    by_cases e : j = k
    · subst e
      simp only [if_pos] at hb
      rcases hb with hb | hb
      · exact h.hb j b hj (.inl hb)
      · rcases hown b hb with h1 | h1 | h1
        · exact h.hb j b hj (.inl h1)
        · exact h.hb j b hj (.inr h1)
        · have := h.lt; omega
    · simp only [if_neg e] at hb; exact h.hb j b hj hb
  · intro j b hj hb1 hb2
    by_cases e : j = k
    · subst e
      simp only [if_pos] at hb2 ⊢
      rcases hor with ⟨b', c, e1, e2, e3, fr⟩ | ⟨b', e1, e2, e3, fr⟩ | ⟨e1, fr⟩
      · rw [e1] at hb1; cases hb1
        exact ⟨c, ys, e2, e3, hg2, hnm⟩
      · rw [e1] at hb2; cases hb2; exact absurd hb1 e3
      · rw [e1] at hb2; cases hb2
        have := Row.lt (h.lr j hj) hb1; omega
    · simp only [if_neg e] at hb2 ⊢; exact h.sh j b hj hb1 hb2
end
end Go.Proofs.YticcjnfninhjlaaDoor
