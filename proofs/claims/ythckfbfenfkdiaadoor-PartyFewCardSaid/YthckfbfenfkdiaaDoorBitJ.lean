/- Same: have two sets the same? No condition. -/
import Derived.Test.YthckfbfenfkdiaaDoorBitI
namespace Go.Proofs.YthckfbfenfkdiaaDoor.Bt
open Go.RowKit
section
variable {w : World}
theorem there_at {bh : Nat} {v : Value} {B : List Bool} (h : SetAt w bh v B) : ∀ w0, Fr (fun _ => False) w w0 → Calls Tryd.prog 35 #[.pointer (some ⟨bh, 0, none⟩)] w0 fun e w' => e = .returned (.bool true) ∧ w0 = w' :=
  fun _ f => there_ok (h.fr f (fun h => h) (fun _ _ h => h))
theorem NoSet.fr {p : Option Addr} {w' : World} (h : NoSet w p) (f : Fr (fun _ => False) w w') : NoSet w' p := by
  rcases h with rfl | ⟨b, v1, v2, rfl, h⟩
  · exact .inl rfl
  · exact .inr ⟨b, v1, v2, rfl, f.get h (fun h => h)⟩
theorem no_at {p : Option Addr} (h : NoSet w p) : ∀ w0, Fr (fun _ => False) w w0 → Calls Tryd.prog 35 #[.pointer p] w0 fun e w' => e = .returned (.bool false) ∧ w0 = w' :=
  fun _ f => there_no (h.fr f)
end
end Go.Proofs.YthckfbfenfkdiaaDoor.Bt
