/-
  DERIVED. GIVEN WITH THE SEED: THE CARDS: each row of YthckfbfenfkdiaaDoorRows.lean that lists a variable, with what it lists TIED to the program's text (the seventh form; the later family's looks); each row that meets fmt, with fmt's text TOLD by the authors' own Lean function (tested against real Go, not proved from fmt's source: count such statements apart). THE CARD IS WHAT COUNTS. Prove the row's statement (the work); the ties are given (YthckfbfenfkdiaaDoorTie.lean); close each card by the builder's one call (the guide's Derived/Test/ToyasCard.lean, 'card_holds'). Laid BY PROGRAM, IN A SANDBOX (cutbox-door.mjs). By AI agents, Wed Nov 11 2026. No macro, syntax, notation, axiom, sorry.
-/
import Derived.Test.YthckfbfenfkdiaaDoorRows
import GoSem.ClaimSeven
namespace Go.Proofs.YthckfbfenfkdiaaDoor
namespace Rows

/-- THE TIED CARD OF 'gangwaylaw27.PartyNil'. -/
def partyNilCard : Claim7 := { stood := { row := partyNilRow, standIns := [], harness := (true, "de5f0534a92c451428fc57420f347b2569f9542bf9de87eaf42f77b43a1022b4"), looks := false }, kinds := [], alts := [], laidByText := true, laidKinds := [.data], laidTests := true, laidLooks := .later }
def PartyNilCardSaid : Prop := Claim7.holds Tryd.pinned (.plain (OpenSpec.ofChange partyNilSpec)) partyNilCard

/-- THE TIED CARD OF 'gangwaylaw27.PartyFew'. -/
def partyFewCard : Claim7 := { stood := { row := partyFewRow, standIns := [], harness := (true, "de5f0534a92c451428fc57420f347b2569f9542bf9de87eaf42f77b43a1022b4"), looks := false }, kinds := [], alts := [], laidByText := true, laidKinds := [.data], laidTests := true, laidLooks := .later }
def PartyFewCardSaid : Prop := Claim7.holds Tryd.pinned (.plain (OpenSpec.ofChange partyFewSpec)) partyFewCard

/-- THE TIED CARD OF 'gangwaylaw27.PartyGone'. -/
def partyGoneCard : Claim7 := { stood := { row := partyGoneRow, standIns := [], harness := (true, "de5f0534a92c451428fc57420f347b2569f9542bf9de87eaf42f77b43a1022b4"), looks := false }, kinds := [], alts := [], laidByText := true, laidKinds := [.data], laidTests := true, laidLooks := .later }
def PartyGoneCardSaid : Prop := Claim7.holds Tryd.pinned (.plain (OpenSpec.ofChange partyGoneSpec)) partyGoneCard

/-- THE TIED CARD OF 'gangwaylaw27.PartyRight'. -/
def partyRightCard : Claim7 := { stood := { row := partyRightRow, standIns := [], harness := (true, "de5f0534a92c451428fc57420f347b2569f9542bf9de87eaf42f77b43a1022b4"), looks := false }, kinds := [], alts := [], laidByText := true, laidKinds := [.data], laidTests := true, laidLooks := .later }
def PartyRightCardSaid : Prop := Claim7.holds Tryd.pinned (.plain (OpenSpec.ofChange partyRightSpec)) partyRightCard

/-- THE SECOND FORM's CARD OF 'gangwaylaw27.PartyNil'. -/
def partyNilUptoCard : Claim7 := { stood := { row := partyNilUptoRow, standIns := [], harness := (true, "de5f0534a92c451428fc57420f347b2569f9542bf9de87eaf42f77b43a1022b4"), looks := false }, kinds := [], alts := [], laidByText := true, laidKinds := [.data], laidTests := true, laidLooks := .later }
def PartyNilUptoCardSaid : Prop := Claim7.holds Tryd.pinned (.plain (OpenSpec.upto partyNilSpec)) partyNilUptoCard

/-- THE SECOND FORM's CARD OF 'gangwaylaw27.PartyFew'. -/
def partyFewUptoCard : Claim7 := { stood := { row := partyFewUptoRow, standIns := [], harness := (true, "de5f0534a92c451428fc57420f347b2569f9542bf9de87eaf42f77b43a1022b4"), looks := false }, kinds := [], alts := [], laidByText := true, laidKinds := [.data], laidTests := true, laidLooks := .later }
def PartyFewUptoCardSaid : Prop := Claim7.holds Tryd.pinned (.plain (OpenSpec.upto partyFewSpec)) partyFewUptoCard

/-- THE SECOND FORM's CARD OF 'gangwaylaw27.PartyGone'. -/
def partyGoneUptoCard : Claim7 := { stood := { row := partyGoneUptoRow, standIns := [], harness := (true, "de5f0534a92c451428fc57420f347b2569f9542bf9de87eaf42f77b43a1022b4"), looks := false }, kinds := [], alts := [], laidByText := true, laidKinds := [.data], laidTests := true, laidLooks := .later }
def PartyGoneUptoCardSaid : Prop := Claim7.holds Tryd.pinned (.plain (OpenSpec.upto partyGoneSpec)) partyGoneUptoCard

/-- THE SECOND FORM's CARD OF 'gangwaylaw27.PartyRight'. -/
def partyRightUptoCard : Claim7 := { stood := { row := partyRightUptoRow, standIns := [], harness := (true, "de5f0534a92c451428fc57420f347b2569f9542bf9de87eaf42f77b43a1022b4"), looks := false }, kinds := [], alts := [], laidByText := true, laidKinds := [.data], laidTests := true, laidLooks := .later }
def PartyRightUptoCardSaid : Prop := Claim7.holds Tryd.pinned (.plain (OpenSpec.upto partyRightSpec)) partyRightUptoCard
end Rows
end Go.Proofs.YthckfbfenfkdiaaDoor
