/- Whether two sets are the same; bytes. No condition. -/
import Derived.Test.YthckfbfenfkdiaaDoorBitH
namespace Go.Proofs.YthckfbfenfkdiaaDoor.Bt
open Go.RowKit
theorem row_cell {w : World} {e : TypeId} {v : Value} {n : Nat} {xs : List Value} (h : Row w e 1 v n xs) : ∃ a c, v = .slice a n c ∧ ∀ i, i < n → ∃ g, a = some ⟨g, 0, none⟩ ∧ w.cell? ⟨g, i, none⟩ = xs[i]? := by
  rcases h.2 with ⟨rfl, h0⟩ | ⟨g, cap, cur, rfl, _, k1, k2, k3, k4, k5⟩
  · exact ⟨none, 0, by rw [h0], fun i hi => by omega⟩
  · refine ⟨_, cap, rfl, fun i hi => ⟨g, rfl, ?_⟩⟩
    rw [cell_of k1 i, ← k5, List.getElem?_take, if_pos (by omega)]; simp
theorem u64_get {L : List Nat} {i : Nat} (h : i < L.length) : (L.map u64v)[i]? = some (.int .u64 ((L.getD i 0 : Nat) : Int)) := by
  rw [List.getElem?_map, List.getElem?_eq_getElem h, List.getD_eq_getElem?_getD, List.getElem?_eq_getElem h]; rfl
theorem take_step {La Lb : List Nat} {i : Nat} (h : La.take i = Lb.take i) (ha : i < La.length) (hb : i < Lb.length) (e : La.getD i 0 = Lb.getD i 0) : La.take (i + 1) = Lb.take (i + 1) := by
  rw [List.take_add_one, List.take_add_one, h, List.getElem?_eq_getElem ha, List.getElem?_eq_getElem hb]
  rw [List.getD_eq_getElem?_getD, List.getD_eq_getElem?_getD, List.getElem?_eq_getElem ha, List.getElem?_eq_getElem hb] at e
  simp at e
  rw [e]
end Go.Proofs.YthckfbfenfkdiaaDoor.Bt
