/- A whole heap of numbers in memory, and what it is made of. No condition. -/
import Derived.Test.YtjfnaflbhmeokaaWtT
namespace Go.Proofs.Ytjfnaflbhmeokaa.Wt
open Go.RowKit
noncomputable def flat (L : List It) : List Value := L.flatMap fun x => [.int .u32 (wW x.1), .int .i64 (wS x.1), .int .i64 (wT x.1), .int .i64 (wC x.1), .int .i64 x.2]
theorem flat_length (L : List It) : (flat L).length = L.length * 5 := by
  induction L with
  | nil => rfl
  | cons x L ih => simp only [flat, List.flatMap_cons, List.length_append, List.length_cons, List.length_nil] at ih ⊢; omega
theorem flat_get (L : List It) : ∀ i, i < L.length → (flat L)[i * 5]? = some (.int .u32 (wW (itAt L i).1)) ∧ (flat L)[i * 5 + 1]? = some (.int .i64 (wS (itAt L i).1)) ∧ (flat L)[i * 5 + 2]? = some (.int .i64 (wT (itAt L i).1)) ∧ (flat L)[i * 5 + 3]? = some (.int .i64 (wC (itAt L i).1)) ∧ (flat L)[i * 5 + 4]? = some (.int .i64 (itAt L i).2) := by
  induction L with
  | nil => intro i hi; simp at hi
  | cons x L ih =>
    intro i hi
    have e : flat (x :: L) = .int .u32 (wW x.1) :: .int .i64 (wS x.1) :: .int .i64 (wT x.1) :: .int .i64 (wC x.1) :: .int .i64 x.2 :: flat L := rfl
    rw [e]
    cases i with
    | zero => simp [itAt]
    | succ i =>
      have := ih i (by simpa using hi)
      have e1 : (i + 1) * 5 = i * 5 + 1 + 1 + 1 + 1 + 1 := by omega
      rw [e1]
      simpa [itAt] using this
theorem cells5_of_take {arr : Array Value} {L : List It} (h : arr.toList.take (L.length * 5) = flat L) : Cells5 arr L := by
  intro i hi
  have g := flat_get L i hi
  rw [← h, List.getElem?_take, List.getElem?_take, List.getElem?_take, List.getElem?_take, List.getElem?_take, if_pos (by omega), if_pos (by omega), if_pos (by omega), if_pos (by omega), if_pos (by omega)] at g
  simpa using g
theorem take_of_cells5 {arr : Array Value} {L : List It} (h : Cells5 arr L) (hs : L.length * 5 ≤ arr.size) : arr.toList.take (L.length * 5) = flat L := by
  apply List.ext_getElem?
  intro j
  rw [List.getElem?_take]
  split
  · rename_i hj
    obtain ⟨i, hi | hi | hi | hi | hi⟩ : ∃ i, j = i * 5 ∨ j = i * 5 + 1 ∨ j = i * 5 + 2 ∨ j = i * 5 + 3 ∨ j = i * 5 + 4 := ⟨j / 5, by omega⟩
    · subst hi; rw [(flat_get L i (by omega)).1]; simpa using (h i (by omega)).1
    · subst hi; rw [(flat_get L i (by omega)).2.1]; simpa using (h i (by omega)).2.1
    · subst hi; rw [(flat_get L i (by omega)).2.2.1]; simpa using (h i (by omega)).2.2.1
    · subst hi; rw [(flat_get L i (by omega)).2.2.2.1]; simpa using (h i (by omega)).2.2.2.1
    · subst hi; rw [(flat_get L i (by omega)).2.2.2.2]; simpa using (h i (by omega)).2.2.2.2
  · rename_i hj
    rw [List.getElem?_eq_none (by rw [flat_length]; omega)]
theorem flat_append (L M : List It) : flat (L ++ M) = flat L ++ flat M := by simp [flat]
/-- The value of the field place and items and next, under G: all blocks that are the heap's own. -/
structure HeapIs (J : World → Prop) (FJ : Nat → Prop) (A : Int → Prop) (fv : Value) (G : Nat → Prop) (bh : Nat) (L : List It) (next : Int) (w : World) : Prop where
  ex : ∃ sv bm, w.heap[bh]? = some (.cells #[fv, sv, .map (some bm), .int .i64 next] 118 (0, 0)) ∧ Row w 179 5 sv L.length (flat L) ∧ (∃ f, IMap w bm f ∧ PlaceOf f L) ∧ G bm ∧ (∀ b, sv.ownBlock = some b → G b)
  gh : G bh
  bd : ∀ b, G b → b < w.heap.size
  nj : ∀ b, G b → ¬ FJ b
  j : J w
  all : ∀ i, i < L.length → A (itAt L i).1
  hs : ∀ i, i < L.length → 0 ≤ (itAt L i).2 ∧ (itAt L i).2 < next
  len : L.length ≤ 65536
  nx : 0 ≤ next
/-- The blocks of G' were G's, or are new. -/
def Grew (w : World) (G G' : Nat → Prop) : Prop := ∀ b, G' b → G b ∨ w.heap.size ≤ b
section
variable {J : World → Prop} {FJ : Nat → Prop} {A : Int → Prop} {fv : Value} {G : Nat → Prop} {bh : Nat} {L : List It} {next : Int} {w : World}
theorem HeapIs.fr (h : HeapIs J FJ A fv G bh L next w) {F : Nat → Prop} {w' : World} (hf : Fr F w w') (hj : J w') (hn : ∀ b, G b → ¬ F b) : HeapIs J FJ A fv G bh L next w' := by
  obtain ⟨sv, bm, h1, h2, ⟨f, h3, h4⟩, h5, h6⟩ := h.ex
  exact ⟨⟨sv, bm, hf.get h1 (hn _ h.gh), Row.fr h2 hf (fun b hb => hn b (h6 b hb)), ⟨f, h3.fr hf (hn _ h5), h4⟩, h5, h6⟩, h.gh, fun b hb => Nat.lt_of_lt_of_le (h.bd b hb) hf.size, h.nj, hj, h.all, h.hs, h.len, h.nx⟩
end
end Go.Proofs.Ytjfnaflbhmeokaa.Wt
