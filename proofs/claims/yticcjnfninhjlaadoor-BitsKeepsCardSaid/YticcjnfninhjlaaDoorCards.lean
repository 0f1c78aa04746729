/-
  DERIVED. GIVEN WITH THE SEED: THE CARDS: each row of YticcjnfninhjlaaDoorRows.lean that lists a variable, with what it lists TIED to the program's text (the seventh form; the later family's looks); each row that meets fmt, with fmt's text TOLD by the authors' own Lean function (tested against real Go, not proved from fmt's source: count such statements apart). THE CARD IS WHAT COUNTS. Prove the row's statement (the work); the ties are given (YticcjnfninhjlaaDoorTie.lean); close each card by the builder's one call (the guide's Derived/Test/ToyasCard.lean, 'card_holds'). Laid BY PROGRAM, IN A SANDBOX (cutbox-door.mjs). By AI agents, Wed Nov 11 2026. No macro, syntax, notation, axiom, sorry.
-/
import Derived.Test.YticcjnfninhjlaaDoorRows
import GoSem.ClaimSeven
namespace Go.Proofs.YticcjnfninhjlaaDoor
namespace Rows

/-- THE TIED CARD OF 'gangwaylaw02.BitsKeeps'. -/
def bitsKeepsCard : Claim7 := { stood := { row := bitsKeepsRow, standIns := [], harness := (true, "7dfd481a2d41d7f1eb07944809e5bc037b047f699efa0825f531ffb28c460b62"), looks := false }, kinds := [], alts := [], laidByText := true, laidKinds := [.data], laidTests := true, laidLooks := .later }
def BitsKeepsCardSaid : Prop := Claim7.holds Tryd.pinned (.plain (OpenSpec.ofChange bitsKeepsSpec)) bitsKeepsCard

/-- THE TIED CARD OF 'gangwaylaw27.PartyNil'. -/
def partyNilCard : Claim7 := { stood := { row := partyNilRow, standIns := [], harness := (true, "7dfd481a2d41d7f1eb07944809e5bc037b047f699efa0825f531ffb28c460b62"), looks := false }, kinds := [], alts := [], laidByText := true, laidKinds := [.data], laidTests := true, laidLooks := .later }
def PartyNilCardSaid : Prop := Claim7.holds Tryd.pinned (.plain (OpenSpec.ofChange partyNilSpec)) partyNilCard

/-- THE TIED CARD OF 'gangwaylaw27.PartyFew'. -/
def partyFewCard : Claim7 := { stood := { row := partyFewRow, standIns := [], harness := (true, "7dfd481a2d41d7f1eb07944809e5bc037b047f699efa0825f531ffb28c460b62"), looks := false }, kinds := [], alts := [], laidByText := true, laidKinds := [.data], laidTests := true, laidLooks := .later }
def PartyFewCardSaid : Prop := Claim7.holds Tryd.pinned (.plain (OpenSpec.ofChange partyFewSpec)) partyFewCard

/-- THE TIED CARD OF 'gangwaylaw27.PartyGone'. -/
def partyGoneCard : Claim7 := { stood := { row := partyGoneRow, standIns := [], harness := (true, "7dfd481a2d41d7f1eb07944809e5bc037b047f699efa0825f531ffb28c460b62"), looks := false }, kinds := [], alts := [], laidByText := true, laidKinds := [.data], laidTests := true, laidLooks := .later }
def PartyGoneCardSaid : Prop := Claim7.holds Tryd.pinned (.plain (OpenSpec.ofChange partyGoneSpec)) partyGoneCard

/-- THE TIED CARD OF 'gangwaylaw27.PartyRight'. -/
def partyRightCard : Claim7 := { stood := { row := partyRightRow, standIns := [], harness := (true, "7dfd481a2d41d7f1eb07944809e5bc037b047f699efa0825f531ffb28c460b62"), looks := false }, kinds := [], alts := [], laidByText := true, laidKinds := [.data], laidTests := true, laidLooks := .later }
def PartyRightCardSaid : Prop := Claim7.holds Tryd.pinned (.plain (OpenSpec.ofChange partyRightSpec)) partyRightCard

/-- THE SECOND FORM's CARD OF 'gangwaylaw02.BitsKeeps'. -/
def bitsKeepsUptoCard : Claim7 := { stood := { row := bitsKeepsUptoRow, standIns := [], harness := (true, "7dfd481a2d41d7f1eb07944809e5bc037b047f699efa0825f531ffb28c460b62"), looks := false }, kinds := [], alts := [], laidByText := true, laidKinds := [.data], laidTests := true, laidLooks := .later }
def BitsKeepsUptoCardSaid : Prop := Claim7.holds Tryd.pinned (.plain (OpenSpec.upto bitsKeepsSpec)) bitsKeepsUptoCard

/-- THE SECOND FORM's CARD OF 'gangwaylaw27.PartyNil'. -/
def partyNilUptoCard : Claim7 := { stood := { row := partyNilUptoRow, standIns := [], harness := (true, "7dfd481a2d41d7f1eb07944809e5bc037b047f699efa0825f531ffb28c460b62"), looks := false }, kinds := [], alts := [], laidByText := true, laidKinds := [.data], laidTests := true, laidLooks := .later }
def PartyNilUptoCardSaid : Prop := Claim7.holds Tryd.pinned (.plain (OpenSpec.upto partyNilSpec)) partyNilUptoCard

/-- THE SECOND FORM's CARD OF 'gangwaylaw27.PartyFew'. -/
def partyFewUptoCard : Claim7 := { stood := { row := partyFewUptoRow, standIns := [], harness := (true, "7dfd481a2d41d7f1eb07944809e5bc037b047f699efa0825f531ffb28c460b62"), looks := false }, kinds := [], alts := [], laidByText := true, laidKinds := [.data], laidTests := true, laidLooks := .later }
def PartyFewUptoCardSaid : Prop := Claim7.holds Tryd.pinned (.plain (OpenSpec.upto partyFewSpec)) partyFewUptoCard

/-- THE SECOND FORM's CARD OF 'gangwaylaw27.PartyGone'. -/
def partyGoneUptoCard : Claim7 := { stood := { row := partyGoneUptoRow, standIns := [], harness := (true, "7dfd481a2d41d7f1eb07944809e5bc037b047f699efa0825f531ffb28c460b62"), looks := false }, kinds := [], alts := [], laidByText := true, laidKinds := [.data], laidTests := true, laidLooks := .later }
def PartyGoneUptoCardSaid : Prop := Claim7.holds Tryd.pinned (.plain (OpenSpec.upto partyGoneSpec)) partyGoneUptoCard

/-- THE SECOND FORM's CARD OF 'gangwaylaw27.PartyRight'. -/
def partyRightUptoCard : Claim7 := { stood := { row := partyRightUptoRow, standIns := [], harness := (true, "7dfd481a2d41d7f1eb07944809e5bc037b047f699efa0825f531ffb28c460b62"), looks := false }, kinds := [], alts := [], laidByText := true, laidKinds := [.data], laidTests := true, laidLooks := .later }
def PartyRightUptoCardSaid : Prop := Claim7.holds Tryd.pinned (.plain (OpenSpec.upto partyRightSpec)) partyRightUptoCard
end Rows
end Go.Proofs.YticcjnfninhjlaaDoor
