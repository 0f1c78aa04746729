/- Arguments that are a waiting party by value. No condition. -/
import Derived.Test.YtiebcmlfppepaaaWtJo
import Derived.Test.YtiebcmlfppepaaaArgk
namespace Go.Proofs.Ytiebcmlfppepaaa.Wt
open Go.ChangeShapes Go.WideShapes Go.ChangeAt Go.RowKit Go.Deep
variable {H : Type} {enc : TypeId × Value → H} {P : Program} {w : World} {base : Nat} {spare : Nat → Bool} {held : Bool}
/-- A struct of four numbers, by value. -/
theorem structW {t : TypeId} {fs : Array Field} {v : Value} {d : DataW H} {p : List MemPlace} (ht : P.underlying t = some (.struct fs)) (hone : allKinds P kW fs = true) (hC : P.cellsOf t = 4) (h4 : fs.size = 4)
    (h : DataW.Trod enc P w base spare held t v d p) : ∃ a b c e, v = .agg #[.int .u32 a, .int .i64 b, .int .i64 c, .int .i64 e] ∧ 0 ≤ a ∧ a < 4294967296 := by
  obtain ⟨fuel, hf⟩ := h
  obtain ⟨ys, n', _, _, hlen, hyl, hff⟩ := DataW.trod_struct ht hf
  rw [hC] at hlen
  have key : ∀ j, (hj : j < 4) → ∃ x, v.cells.toList[j]? = some (.int (kW j) x) ∧ (Lit.int (kW j) x).wf = true := by
    intro j hj
    have hjs : j < fs.size := by omega
    have hj' := Array.getElem?_eq_getElem hjs
    obtain ⟨ho, hk, hu⟩ := allKinds_of hone j _ hj'
    have h1 := hff j _ hj'
    rw [ho, hk] at h1
    have hone' : (v.cells.toList.drop j).take 1 = [v.cells.toList[j]'(by omega)] := by
      rw [List.drop_eq_getElem_cons (by omega)]
      rfl
    rw [hone'] at h1
    have hys : ys[j]? = some (ys[j]'(by omega)) := List.getElem?_eq_getElem (by omega)
    obtain ⟨x, hx1, _, hx3⟩ := DataW.trod_int hu (h1.trans hys)
    refine ⟨x, ?_, hx3⟩
    rw [List.getElem?_eq_getElem (by omega)]
    simpa using hx1
  obtain ⟨a, ha, fa⟩ := key 0 (by omega)
  obtain ⟨b, hb, _⟩ := key 1 (by omega)
  obtain ⟨c, hc, _⟩ := key 2 (by omega)
  obtain ⟨e, he, _⟩ := key 3 (by omega)
  have hw := wf_u32 fa
  refine ⟨a, b, c, e, ?_, hw.1, hw.2⟩
  have hcs : v.cells = #[.int .u32 a, .int .i64 b, .int .i64 c, .int .i64 e] := by
    apply Array.ext'
    apply List.ext_getElem?
    intro i
    match i with
    | 0 => rw [ha]; rfl
    | 1 => rw [hb]; rfl
    | 2 => rw [hc]; rfl
    | 3 => rw [he]; rfl
    | i + 4 => rw [List.getElem?_eq_none (by omega), List.getElem?_eq_none (by simp)]
  cases v with
  | agg cs => simp [Value.cells] at hcs; rw [hcs]
  | _ => simp [Value.cells] at hcs
end Go.Proofs.Ytiebcmlfppepaaa.Wt
