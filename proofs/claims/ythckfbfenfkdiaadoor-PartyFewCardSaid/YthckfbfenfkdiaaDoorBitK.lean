/- The bytes of a set. No condition. -/
import Derived.Test.YthckfbfenfkdiaaDoorBitJ
namespace Go.Proofs.YthckfbfenfkdiaaDoor.Bt
open Go.RowKit
def u8v (x : Nat) : Value := .int .u8 x
theorem Tryd.infoU8 : (Tryd.prog.info? 5).map (fun i => (i.zero, i.size, i.bytes)) = some (some (.int .u8 0), 1, 1) := by kernel_rfl
theorem parts8 (j : Nat) (h : j ≤ 1000000000) : ∃ q r s : Nat, wrap64 ((j : Int) / 8) = (q : Int) ∧ IntKind.i64.wrap ((j : Int) / 8) = (q : Int) ∧ (j : Int) % 8 = (r : Int) ∧ (j : Int).tmod 8 = (r : Int) ∧ (r : Int) * 8 = (s : Int) ∧ q = j / 8 ∧ s = j % 8 * 8 ∧ s < 64 :=
  ⟨j / 8, j % 8, j % 8 * 8, by unfold wrap64; omega, by rw [IntKind.wrap_i64]; omega, by omega, by rw [Int.tmod_eq_emod_of_nonneg (by omega)]; omega, by omega, rfl, rfl, by omega⟩
theorem row_set {w : World} {e : TypeId} {a : Option Addr} {n c : Nat} {xs : List Value} (h : Row w e 1 (.slice a n c) n xs) {i : Nat} (hi : i < n) : ∃ g, a = some ⟨g, 0, none⟩ ∧ w.cell? ⟨g, i, none⟩ = xs[i]? ∧ w.frozen? ⟨g, i, none⟩ = false ∧ ∀ x, Row (w.setCell ⟨g, i, none⟩ x) e 1 (.slice a n c) n (xs.set i x) := by
  rcases h.2 with ⟨_, h0⟩ | ⟨g, cap, cur, e1, _, k1, k2, k3, k4, k5⟩
  · omega
  · obtain ⟨rfl, _, rfl⟩ := Value.slice.inj e1
    refine ⟨g, rfl, ?_, free_of k1 i, ?_⟩
    · rw [cell_of k1 i, ← k5, List.getElem?_take, if_pos (by omega)]; simp
    · intro x
      refine ⟨by rw [List.length_set]; exact h.1, .inr ⟨g, c, _, rfl, Nat.zero_le _, setCell_blk (o := i) k1 x, k2, k3, by simpa using k4, ?_⟩⟩
      rw [← k5, Array.toList_setIfInBounds, List.take_set]
def bytesTo (B : List Bool) (i : Nat) : List Nat := (List.range (nb B.length)).map (fun k => if k < i then byt B k else 0)
theorem bytesTo_zero (B : List Bool) : (bytesTo B 0).map u8v = List.replicate (nb B.length) (.int .u8 0) := by
  apply List.ext_getElem
  · simp [bytesTo]
  · intro i h1 h2; simp [bytesTo, u8v]
theorem bytesTo_all (B : List Bool) : bytesTo B (nb B.length) = bytes B := by
  apply List.ext_getElem
  · simp [bytesTo, bytes]
  · intro i h1 h2
    have : i < nb B.length := by simpa [bytesTo] using h1
    simp [bytesTo, bytes, this]
theorem bytesTo_succ (B : List Bool) {i : Nat} (hi : i < nb B.length) : (bytesTo B (i + 1)).map u8v = ((bytesTo B i).map u8v).set i (.int .u8 (byt B i)) := by
  apply List.ext_getElem?
  intro k
  rw [List.getElem?_set]
  by_cases hk : k < nb B.length
  · by_cases e : i = k
    · subst e; simp [bytesTo, u8v, hi]
    · have : (k < i + 1) = (k < i) := propext ⟨fun h => by omega, fun h => by omega⟩
      simp [bytesTo, hk, e, this]
  · have : ¬ i = k := by omega
    simp [bytesTo, hk, this]
end Go.Proofs.YthckfbfenfkdiaaDoor.Bt
