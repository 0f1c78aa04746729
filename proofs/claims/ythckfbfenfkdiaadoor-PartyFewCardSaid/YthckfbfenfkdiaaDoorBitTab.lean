/- From a card's condition to the table of math/bits. Condition: the table is laid. -/
import Derived.Test.YthckfbfenfkdiaaDoorRows
import Derived.Test.YthckfbfenfkdiaaDoorBitF
import Derived.Test.YthckfbfenfkdiaaDoorArgs
import Derived.Lib.LaidTab
import Derived.LaidMore
import Derived.Stop.Joined
import Derived.OpenShut
namespace Go.Proofs.YthckfbfenfkdiaaDoor.Bt
open Go.ChangeShapes Go.WideShapes Go.ChangeAt Go.RowKit
theorem gTab : Tryd.prog.globalNamed "math/bits.deBruijn64tab" = some 0 := by kernel_rfl
theorem tTab : (Tryd.prog.globals[0]?).map (·.type) = some 101 := by kernel_rfl
def tabL : List Int := Lib.deBruijn64tab.map fun (x : Nat) => (x : Int)
theorem tab_of_laid {W : World} (h : laidMetH Tryd.prog [("math/bits.deBruijn64tab", Rows.laid_math_bits_deBruijn64tab)] W) : TabOk W := by
  rw [MakeChecks.laidMetH_plain _ _ _ (by kernel_rfl)] at h
  have e : (Rows.laid_math_bits_deBruijn64tab : DataW Unit) = Lib.tabData .u8 tabL := rfl
  rw [e] at h
  have hT := Lib.tabIs_of_head gTab tTab Tryd.underlying101 Tryd.underlying5 (by kernel_rfl) (by kernel_rfl) h
  intro j hj
  have := hT.cell gTab j (by have e : tabL.length = 64 := rfl; omega)
  rw [this]
  have hl : tabL.getD j 0 = ((Lib.deBruijn64tab.getD j 0 : Nat) : Int) := by
    unfold tabL
    rw [List.getD_eq_getElem?_getD, List.getElem?_map, List.getD_eq_getElem?_getD]
    cases Lib.deBruijn64tab[j]? <;> rfl
  rw [hl]
end Go.Proofs.YthckfbfenfkdiaaDoor.Bt
