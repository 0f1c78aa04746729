/- Pieces of BitsGoes: what stays while the set is changed. No condition. -/
import Derived.Test.YtkndhcimgcmihaaDoorBitP
import Derived.Test.YtkndhcimgcmihaaDoorArgi
import Derived.Test.YtkndhcimgcmihaaDoorPick
namespace Go.Proofs.YtkndhcimgcmihaaDoor.Bt
open Go.RowKit
theorem put_any {w : World} {bh : Nat} {v : Value} {B : List Bool} (h : SetAt w bh v B) (hne : v.ownBlock ≠ some bh) (i : Int) : Calls Tryd.prog 7 #[.pointer (some ⟨bh, 0, none⟩), .int .i64 i] w fun e w' => ∃ r C, e = .returned (.int .i64 r) ∧ C.length = B.length ∧ SetAt w' bh v C ∧ Fr (fun b => v.ownBlock = some b) w w' := by
  by_cases hi : 0 ≤ i ∧ i < (B.length : Int)
  · obtain ⟨j, rfl⟩ : ∃ j : Nat, i = (j : Int) := ⟨i.toNat, by omega⟩
    refine (put_in h hne (j := j) (by omega)).mono ?_
    rintro e w' ⟨rfl, h1, h2⟩
    exact ⟨0, _, rfl, by simp, h1, h2⟩
  · refine (put_out h (i := i) (by omega)).mono ?_
    rintro e w' ⟨rfl, rfl⟩
    exact ⟨2, B, rfl, rfl, h, Fr.refl _ _⟩
theorem drop_any {w : World} {bh : Nat} {v : Value} {B : List Bool} (h : SetAt w bh v B) (hne : v.ownBlock ≠ some bh) (i : Int) : Calls Tryd.prog 18 #[.pointer (some ⟨bh, 0, none⟩), .int .i64 i] w fun e w' => ∃ r C, e = .returned (.int .i64 r) ∧ C.length = B.length ∧ SetAt w' bh v C ∧ Fr (fun b => v.ownBlock = some b) w w' := by
  by_cases hi : 0 ≤ i ∧ i < (B.length : Int)
  · obtain ⟨j, rfl⟩ : ∃ j : Nat, i = (j : Int) := ⟨i.toNat, by omega⟩
    refine (drop_in h hne (j := j) (by omega)).mono ?_
    rintro e w' ⟨rfl, h1, h2⟩
    exact ⟨0, _, rfl, by simp, h1, h2⟩
  · refine (drop_out h (i := i) (by omega)).mono ?_
    rintro e w' ⟨rfl, rfl⟩
    exact ⟨2, B, rfl, rfl, h, Fr.refl _ _⟩
theorem row_i {w : World} {a : Option Addr} {n c : Nat} {L : List Int} (h : Row w 3 1 (.slice a n c) n (L.map i64v)) {i : Nat} {x : Int} (hx : L[i]? = some x) : ∃ g, a = some ⟨g, 0, none⟩ ∧ w.cell? ⟨g, i, none⟩ = some (.int .i64 x) ∧ i < n := by
  obtain ⟨a', c', e, hc⟩ := row_cell h
  obtain ⟨rfl, -, -⟩ := Value.slice.inj e
  have hl : L.length = n := by have := h.1; simpa using this
  have hi : i < L.length := (List.getElem?_eq_some_iff.1 hx).1
  obtain ⟨g, e1, e2⟩ := hc i (by omega)
  refine ⟨g, e1, ?_, by omega⟩
  rw [e2, List.getElem?_map, hx]; rfl
theorem ints_one {w : World} {a : Option Addr} {c n k : Nat} {K : Nat → Nat → Int} (h : IntsAt w (.slice a n c) 1 K n) (hk : k < n) :
    ∃ b o, a = some ⟨b, o, none⟩ ∧ w.cell? ⟨b, o + k, none⟩ = some (.int .i64 (K k 0)) ∧ -9223372036854775808 ≤ K k 0 ∧ K k 0 ≤ 9223372036854775807 := by
  obtain ⟨a', c', e, _, _, hor⟩ := h
  simp only [Value.slice.injEq] at e
  obtain ⟨rfl, _, rfl⟩ := e
  obtain ⟨b, o, rfl, hc⟩ := hor.resolve_left (by omega)
  have := hc k 0 hk (by omega)
  simp only [Nat.mul_one, Nat.add_zero] at this
  exact ⟨b, o, rfl, this.1, this.2.1, this.2.2⟩
/-- The blocks of what stays. -/
def goP (b5 b7 b13 b15 cA hA : Nat) (vA : Value) (cG hG : Nat) (vG : Value) (ch : Nat) (cv s1 s2 : Value) (b : Nat) : Prop :=
  b = b5 ∨ b = b7 ∨ b = b13 ∨ b = b15 ∨ seqP cA hA vA b ∨ seqP cG hG vG b ∨ b = ch ∨ cv.ownBlock = some b ∨ s1.ownBlock = some b ∨ s2.ownBlock = some b
/-- What stays while the set is changed. -/
structure Goe (b5 b7 b13 b15 cA hA : Nat) (vA : Value) (cG hG : Nat) (vG : Value) (ch : Nat) (cv s1 s2 : Value) (left : Int) (bh : Nat) (B : List Bool) (W : World) : Prop where
  k5 : W.heap[b5]? = some (.cells #[.int .i64 left] 3 (0, 0))
  k7 : W.heap[b7]? = some (.cells #[.pointer (some ⟨bh, 0, none⟩)] 24 (0, 0))
  k13 : W.heap[b13]? = some (.cells #[s1] 22 (0, 0))
  k15 : W.heap[b15]? = some (.cells #[s2] 22 (0, 0))
  sA : Seq W cA hA vA B
  sG : Seq W cG hG vG B
  cp : SetAt W ch cv B
  r1 : Row W 3 1 s1 (asInts (allL B)).length ((asInts (allL B)).map i64v)
  r2 : Row W 3 1 s2 (flatG (gapsL B)).length ((flatG (gapsL B)).map i64v)
section
variable {b5 b7 b13 b15 cA hA : Nat} {vA : Value} {cG hG : Nat} {vG : Value} {ch : Nat} {cv s1 s2 : Value} {left : Int} {bh : Nat} {B : List Bool} {W W' : World}
theorem Goe.fr (h : Goe b5 b7 b13 b15 cA hA vA cG hG vG ch cv s1 s2 left bh B W) {F : Nat → Prop} (f : Fr F W W') (hn : ∀ b, goP b5 b7 b13 b15 cA hA vA cG hG vG ch cv s1 s2 b → ¬ F b) : Goe b5 b7 b13 b15 cA hA vA cG hG vG ch cv s1 s2 left bh B W' :=
  ⟨f.get h.k5 (hn _ (.inl rfl)), f.get h.k7 (hn _ (.inr (.inl rfl))), f.get h.k13 (hn _ (.inr (.inr (.inl rfl)))), f.get h.k15 (hn _ (.inr (.inr (.inr (.inl rfl))))),
   h.sA.fr f (fun b hb => hn _ (.inr (.inr (.inr (.inr (.inl hb)))))), h.sG.fr f (fun b hb => hn _ (.inr (.inr (.inr (.inr (.inr (.inl hb))))))),
   h.cp.fr f (hn _ (.inr (.inr (.inr (.inr (.inr (.inr (.inl rfl))))))) ) (fun b hb => hn _ (.inr (.inr (.inr (.inr (.inr (.inr (.inr (.inl hb))))))))),
   Row.fr h.r1 f (fun b hb => hn _ (.inr (.inr (.inr (.inr (.inr (.inr (.inr (.inr (.inl hb)))))))))), Row.fr h.r2 f (fun b hb => hn _ (.inr (.inr (.inr (.inr (.inr (.inr (.inr (.inr (.inr hb))))))))))⟩
theorem Goe.keep (h : Goe b5 b7 b13 b15 cA hA vA cG hG vG ch cv s1 s2 left bh B W) (f : Fr (fun _ => False) W W') : Goe b5 b7 b13 b15 cA hA vA cG hG vG ch cv s1 s2 left bh B W' := h.fr f (fun _ _ h => h)
theorem Goe.lt (h : Goe b5 b7 b13 b15 cA hA vA cG hG vG ch cv s1 s2 left bh B W) : ∀ b, goP b5 b7 b13 b15 cA hA vA cG hG vG ch cv s1 s2 b → b < W.heap.size := by
  have hs : ∀ {cb hb : Nat} {vb : Value}, Seq W cb hb vb B → ∀ b, seqP cb hb vb b → b < W.heap.size := by
    intro cb hb vb s b hb
    rcases hb with hb | hb | hb | hb
    · subst hb; exact s.tab.lt
    · subst hb; exact lt_of_block s.box
    · subst hb; exact s.set.lt
    · exact Row.lt s.set.row hb
  rintro b (e | e | e | e | e | e | e | e | e | e)
  · subst e; exact lt_of_block h.k5
  · subst e; exact lt_of_block h.k7
  · subst e; exact lt_of_block h.k13
  · subst e; exact lt_of_block h.k15
  · exact hs h.sA b e
  · exact hs h.sG b e
  · subst e; exact h.cp.lt
  · exact Row.lt h.cp.row e
  · exact Row.lt h.r1 e
  · exact Row.lt h.r2 e
end
end Go.Proofs.YtkndhcimgcmihaaDoor.Bt
