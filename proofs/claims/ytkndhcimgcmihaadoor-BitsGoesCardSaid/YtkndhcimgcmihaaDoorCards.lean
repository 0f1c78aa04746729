/-
  DERIVED. GIVEN WITH THE SEED: THE CARDS: each row of YtkndhcimgcmihaaDoorRows.lean that lists a variable, with what it lists TIED to the program's text (the seventh form; the later family's looks); each row that meets fmt, with fmt's text TOLD by the authors' own Lean function (tested against real Go, not proved from fmt's source: count such statements apart). THE CARD IS WHAT COUNTS. Prove the row's statement (the work); the ties are given (YtkndhcimgcmihaaDoorTie.lean); close each card by the builder's one call (the guide's Derived/Test/ToyasCard.lean, 'card_holds'). Laid BY PROGRAM, IN A SANDBOX (cutbox-door.mjs). By AI agents, Wed Nov 11 2026. No macro, syntax, notation, axiom, sorry.
-/
import Derived.Test.YtkndhcimgcmihaaDoorRows
import GoSem.ClaimSeven
namespace Go.Proofs.YtkndhcimgcmihaaDoor
namespace Rows

/-- THE TIED CARD OF 'gangwaylaw02.BitsKeeps'. -/
def bitsKeepsCard : Claim7 := { stood := { row := bitsKeepsRow, standIns := [], harness := (true, "38a0445a7448a7143c0472f55d90fab34256102df8ec436f85901335468f52fb"), looks := false }, kinds := [], alts := [], laidByText := true, laidKinds := [.data], laidTests := true, laidLooks := .later }
def BitsKeepsCardSaid : Prop := Claim7.holds Tryd.pinned (.plain (OpenSpec.ofChange bitsKeepsSpec)) bitsKeepsCard

/-- THE TIED CARD OF 'gangwaylaw02.BitsGoes'. -/
def bitsGoesCard : Claim7 := { stood := { row := bitsGoesRow, standIns := [], harness := (true, "38a0445a7448a7143c0472f55d90fab34256102df8ec436f85901335468f52fb"), looks := false }, kinds := [], alts := [], laidByText := true, laidKinds := [.data], laidTests := true, laidLooks := .later }
def BitsGoesCardSaid : Prop := Claim7.holds Tryd.pinned (.plain (OpenSpec.ofChange bitsGoesSpec)) bitsGoesCard

/-- THE SECOND FORM's CARD OF 'gangwaylaw02.BitsKeeps'. -/
def bitsKeepsUptoCard : Claim7 := { stood := { row := bitsKeepsUptoRow, standIns := [], harness := (true, "38a0445a7448a7143c0472f55d90fab34256102df8ec436f85901335468f52fb"), looks := false }, kinds := [], alts := [], laidByText := true, laidKinds := [.data], laidTests := true, laidLooks := .later }
def BitsKeepsUptoCardSaid : Prop := Claim7.holds Tryd.pinned (.plain (OpenSpec.upto bitsKeepsSpec)) bitsKeepsUptoCard

/-- THE SECOND FORM's CARD OF 'gangwaylaw02.BitsGoes'. -/
def bitsGoesUptoCard : Claim7 := { stood := { row := bitsGoesUptoRow, standIns := [], harness := (true, "38a0445a7448a7143c0472f55d90fab34256102df8ec436f85901335468f52fb"), looks := false }, kinds := [], alts := [], laidByText := true, laidKinds := [.data], laidTests := true, laidLooks := .later }
def BitsGoesUptoCardSaid : Prop := Claim7.holds Tryd.pinned (.plain (OpenSpec.upto bitsGoesSpec)) bitsGoesUptoCard
end Rows
end Go.Proofs.YtkndhcimgcmihaaDoor
