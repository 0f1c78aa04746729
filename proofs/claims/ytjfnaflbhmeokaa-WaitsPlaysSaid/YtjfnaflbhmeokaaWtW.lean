/- The contracts of ahead and swap by the items' list; the contract of settle. Condition: at most 65536 items. -/
import Derived.Test.YtjfnaflbhmeokaaWtA
import Derived.Test.YtjfnaflbhmeokaaWtS
namespace Go.Proofs.Ytjfnaflbhmeokaa.Wt
open Go.RowKit
/-- The heap in block bh has the items L (n of them); its row is block bi, of capacity cap; its map is block bm. -/
structure Hp (J : World → Prop) (A : Int → Prop) (fv nv : Value) (bh bi bm n cap : Nat) (L : List It) (w : World) : Prop where
  j : J w
  hH : w.heap[bh]? = some (.cells #[fv, .slice (some ⟨bi, 0, none⟩) n cap, .map (some bm), nv] 118 (0, 0))
  row : ∃ arr, w.heap[bi]? = some (.cells arr 179 (0, 0)) ∧ arr.size = cap * 5 ∧ Cells5 arr L
  map : ∃ f, IMap w bm f ∧ PlaceOf f L
  all : ∀ i, i < n → A (itAt L i).1
  len : L.length = n
section
variable {fv : Value} {lt : Int → Int → Bool} {J : World → Prop} {FJ : Nat → Prop} {A : Int → Prop} {fl : Nat} {caps : Array Value}
variable {nv : Value} {bh bi bm n cap : Nat} {L : List It} {w : World}
theorem Hp.ne1 (h : Hp J A fv nv bh bi bm n cap L w) : bh ≠ bi := by
  intro e
  obtain ⟨arr, h1, _⟩ := h.row
  have := h.hH
  rw [e, h1] at this
  simp at this
theorem Hp.ne2 (h : Hp J A fv nv bh bi bm n cap L w) : bm ≠ bi := by
  intro e
  obtain ⟨arr, h1, _⟩ := h.row
  obtain ⟨f, ⟨l, c, h2, _⟩, _⟩ := h.map
  rw [e, h1] at h2
  simp at h2
theorem Hp.ne3 (h : Hp J A fv nv bh bi bm n cap L w) : bm ≠ bh := by
  intro e
  obtain ⟨f, ⟨l, c, h2, _⟩, _⟩ := h.map
  rw [e, h.hH] at h2
  simp at h2
theorem Hp.fr (h : Hp J A fv nv bh bi bm n cap L w) {F : Nat → Prop} {w' : World} (hf : Fr F w w') (hj : J w') (h1 : ¬ F bh) (h2 : ¬ F bi) (h3 : ¬ F bm) : Hp J A fv nv bh bi bm n cap L w' := by
  obtain ⟨arr, r1, r2, r3⟩ := h.row
  obtain ⟨f, m1, m2⟩ := h.map
  exact ⟨hj, hf.get h.hH h1, ⟨arr, hf.get r1 h2, r2, r3⟩, ⟨f, m1.fr hf h3, m2⟩, h.all, h.len⟩
theorem cells5_swp {arr : Array Value} {L : List It} (h : Cells5 arr L) {i k : Nat} (hi : i < L.length) (hk : k < L.length) (hik : i ≠ k) :
    Cells5 (swp arr i k (itAt L i).1 (itAt L i).2 (itAt L k).1 (itAt L k).2) (swapL L i k) := by
  intro j hj
  rw [swapL_length] at hj
  have s1 := lt_of_get (h i hi).2.2.2.2
  have s2 := lt_of_get (h k hk).2.2.2.2
  rw [swp_get s1 s2, swp_get s1 s2, swp_get s1 s2, swp_get s1 s2, swp_get s1 s2, itAt_swap hi hk]
  by_cases e1 : j = k
  · rw [if_pos (c := j = k) e1]
    refine ⟨?_, ?_, ?_, ?_, ?_⟩
    · rw [if_neg (by omega), if_neg (by omega), if_neg (by omega), if_neg (by omega), if_pos (by omega)]
    · rw [if_neg (by omega), if_neg (by omega), if_neg (by omega), if_pos (by omega)]
    · rw [if_neg (by omega), if_neg (by omega), if_pos (by omega)]
    · rw [if_neg (by omega), if_pos (by omega)]
    · rw [if_pos (by omega)]
  · rw [if_neg (c := j = k) e1]
    by_cases e2 : j = i
    · rw [if_pos (c := j = i) e2]
      refine ⟨?_, ?_, ?_, ?_, ?_⟩
      · rw [if_neg (by omega), if_neg (by omega), if_neg (by omega), if_neg (by omega), if_neg (by omega), if_neg (by omega), if_neg (by omega), if_neg (by omega), if_neg (by omega), if_pos (by omega)]
      · rw [if_neg (by omega), if_neg (by omega), if_neg (by omega), if_neg (by omega), if_neg (by omega), if_neg (by omega), if_neg (by omega), if_neg (by omega), if_pos (by omega)]
      · rw [if_neg (by omega), if_neg (by omega), if_neg (by omega), if_neg (by omega), if_neg (by omega), if_neg (by omega), if_neg (by omega), if_pos (by omega)]
      · rw [if_neg (by omega), if_neg (by omega), if_neg (by omega), if_neg (by omega), if_neg (by omega), if_neg (by omega), if_pos (by omega)]
      · rw [if_neg (by omega), if_neg (by omega), if_neg (by omega), if_neg (by omega), if_neg (by omega), if_pos (by omega)]
    · rw [if_neg (c := j = i) e2]
      refine ⟨?_, ?_, ?_, ?_, ?_⟩
      · rw [if_neg (by omega), if_neg (by omega), if_neg (by omega), if_neg (by omega), if_neg (by omega), if_neg (by omega), if_neg (by omega), if_neg (by omega), if_neg (by omega), if_neg (by omega)]; exact (h j hj).1
      · rw [if_neg (by omega), if_neg (by omega), if_neg (by omega), if_neg (by omega), if_neg (by omega), if_neg (by omega), if_neg (by omega), if_neg (by omega), if_neg (by omega), if_neg (by omega)]; exact (h j hj).2.1
      · rw [if_neg (by omega), if_neg (by omega), if_neg (by omega), if_neg (by omega), if_neg (by omega), if_neg (by omega), if_neg (by omega), if_neg (by omega), if_neg (by omega), if_neg (by omega)]; exact (h j hj).2.2.1
      · rw [if_neg (by omega), if_neg (by omega), if_neg (by omega), if_neg (by omega), if_neg (by omega), if_neg (by omega), if_neg (by omega), if_neg (by omega), if_neg (by omega), if_neg (by omega)]; exact (h j hj).2.2.2.1
      · rw [if_neg (by omega), if_neg (by omega), if_neg (by omega), if_neg (by omega), if_neg (by omega), if_neg (by omega), if_neg (by omega), if_neg (by omega), if_neg (by omega), if_neg (by omega)]; exact (h j hj).2.2.2.2
variable (hL : LessOk Try.prog fv lt J FJ A fl caps) (nh : ¬ FJ bh) (ni : ¬ FJ bi) (nm : ¬ FJ bm)
include hL nh ni nm
theorem Hp.ahead (h : Hp J A fv nv bh bi bm n cap L w) (hn : n ≤ 65536) {i k : Nat} (hi : i < n) (hk : k < n) :
    Calls Try.prog 125 #[.pointer (some ⟨bh, 0, none⟩), .int .i64 i, .int .i64 k] w fun e w' => e = .returned (.bool (aheadL lt L i k)) ∧ Hp J A fv nv bh bi bm n cap L w' ∧ Fr FJ w w' := by
  obtain ⟨arr, r1, r2, r3⟩ := h.row
  have hl := h.len
  refine (ahead_spec hL h.j h.hH r1 nh ni (i := i) (k := k) (by omega) (by omega) (by omega) (r3 i (by omega)).1 (r3 i (by omega)).2.1 (r3 i (by omega)).2.2.1 (r3 i (by omega)).2.2.2.1 (r3 i (by omega)).2.2.2.2 (r3 k (by omega)).1 (r3 k (by omega)).2.1 (r3 k (by omega)).2.2.1 (r3 k (by omega)).2.2.2.1 (r3 k (by omega)).2.2.2.2 (h.all i hi) (h.all k hk)).mono ?_
  rintro e w' ⟨rfl, hj, hf⟩
  exact ⟨rfl, h.fr hf hj nh ni nm, hf⟩
omit nh in
theorem Hp.swap (h : Hp J A fv nv bh bi bm n cap L w) (hn : n ≤ 65536) {i k : Nat} (hi : i < n) (hk : k < n) (hik : i ≠ k) :
    Calls Try.prog 124 #[.pointer (some ⟨bh, 0, none⟩), .int .i64 i, .int .i64 k] w fun e w' => e = .returned (.tuple #[]) ∧ Hp J A fv nv bh bi bm n cap (swapL L i k) w' ∧ Fr (fun b => b = bi ∨ b = bm) w w' := by
  obtain ⟨arr, r1, r2, r3⟩ := h.row
  obtain ⟨f, m1, m2⟩ := h.map
  have hl := h.len
  refine (swap_spec h.hH r1 m1 h.ne1 h.ne2 (i := i) (k := k) (by omega) (by omega) hik (by omega) (r3 i (by omega)).1 (r3 i (by omega)).2.1 (r3 i (by omega)).2.2.1 (r3 i (by omega)).2.2.2.1 (r3 i (by omega)).2.2.2.2 (r3 k (by omega)).1 (r3 k (by omega)).2.1 (r3 k (by omega)).2.2.1 (r3 k (by omega)).2.2.2.1 (r3 k (by omega)).2.2.2.2).mono ?_
  rintro e w' ⟨rfl, hf, hr, hm⟩
  have hj : J w' := hL.keep w w' h.j (hf.mono (fun b _ hb hF => by rcases hb with rfl | rfl <;> contradiction))
  refine ⟨rfl, ⟨hj, hf.get h.hH (by have := h.ne1; have := h.ne3; intro hb; rcases hb with hb | hb <;> omega), ⟨_, hr, by rw [swp_size]; exact r2, cells5_swp r3 (by omega) (by omega) hik⟩,
    ⟨_, hm, m2.swap (by omega) (by omega) hik⟩, ?_, by rw [swapL_length]; exact hl⟩, hf⟩
  intro j hj
  rw [itAt_swap (by omega) (by omega)]
  split
  · exact h.all i hi
  · split
    · exact h.all k hk
    · exact h.all j hj
end
end Go.Proofs.Ytjfnaflbhmeokaa.Wt
