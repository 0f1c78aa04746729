/-
  DERIVED. GIVEN WITH THE SEED: THE CARDS: each row of YtbfkmogibgchmaaDoorRows.lean that lists a variable, with what it lists TIED to the program's text (the seventh form; the later family's looks); each row that meets fmt, with fmt's text TOLD by the authors' own Lean function (tested against real Go, not proved from fmt's source: count such statements apart). THE CARD IS WHAT COUNTS. Prove the row's statement (the work); the ties are given (YtbfkmogibgchmaaDoorTie.lean); close each card by the builder's one call (the guide's Derived/Test/ToyasCard.lean, 'card_holds'). Laid BY PROGRAM, IN A SANDBOX (cutbox-door.mjs). By AI agents, Wed Nov 11 2026. No macro, syntax, notation, axiom, sorry.
-/
import Derived.Test.YtbfkmogibgchmaaDoorRows
import GoSem.ClaimSeven
namespace Go.Proofs.YtbfkmogibgchmaaDoor
namespace Rows

/-- THE TIED CARD OF 'gangwaylaw02.BitsKeeps'. -/
def bitsKeepsCard : Claim7 := { stood := { row := bitsKeepsRow, standIns := [], harness := (true, "ba2c6a7f6a6d508379f4ff0f20ae651228f6b2e2b28beb2ebb1c5af20c6b0999"), looks := false }, kinds := [], alts := [], laidByText := true, laidKinds := [.data], laidTests := true, laidLooks := .later }
def BitsKeepsCardSaid : Prop := Claim7.holds Tryd.pinned (.plain (OpenSpec.ofChange bitsKeepsSpec)) bitsKeepsCard

/-- THE TIED CARD OF 'gangwaylaw02.BitsSeeks'. -/
def bitsSeeksCard : Claim7 := { stood := { row := bitsSeeksRow, standIns := [], harness := (true, "ba2c6a7f6a6d508379f4ff0f20ae651228f6b2e2b28beb2ebb1c5af20c6b0999"), looks := false }, kinds := [], alts := [], laidByText := true, laidKinds := [.data], laidTests := true, laidLooks := .later }
def BitsSeeksCardSaid : Prop := Claim7.holds Tryd.pinned (.plain (OpenSpec.ofChange bitsSeeksSpec)) bitsSeeksCard

/-- THE TIED CARD OF 'gangwaylaw02.BitsGoes'. -/
def bitsGoesCard : Claim7 := { stood := { row := bitsGoesRow, standIns := [], harness := (true, "ba2c6a7f6a6d508379f4ff0f20ae651228f6b2e2b28beb2ebb1c5af20c6b0999"), looks := false }, kinds := [], alts := [], laidByText := true, laidKinds := [.data], laidTests := true, laidLooks := .later }
def BitsGoesCardSaid : Prop := Claim7.holds Tryd.pinned (.plain (OpenSpec.ofChange bitsGoesSpec)) bitsGoesCard

/-- THE TIED CARD OF 'gangwaylaw02.BitsReads'. -/
def bitsReadsCard : Claim7 := { stood := { row := bitsReadsRow, standIns := [], harness := (true, "ba2c6a7f6a6d508379f4ff0f20ae651228f6b2e2b28beb2ebb1c5af20c6b0999"), looks := false }, kinds := [], alts := [], laidByText := true, laidKinds := [.data], laidTests := true, laidLooks := .later }
def BitsReadsCardSaid : Prop := Claim7.holds Tryd.pinned (.plain (OpenSpec.ofChange bitsReadsSpec)) bitsReadsCard

/-- THE TIED CARD OF 'gangwaylaw02.BitsPlays'. -/
def bitsPlaysCard : Claim7 := { stood := { row := bitsPlaysRow, standIns := [], harness := (true, "ba2c6a7f6a6d508379f4ff0f20ae651228f6b2e2b28beb2ebb1c5af20c6b0999"), looks := false }, kinds := [], alts := [], laidByText := true, laidKinds := [.data], laidTests := true, laidLooks := .later }
def BitsPlaysCardSaid : Prop := Claim7.holds Tryd.pinned (.plain (OpenSpec.ofChange bitsPlaysSpec)) bitsPlaysCard

/-- THE TIED CARD OF 'gangwaylaw02.BitsNone'. -/
def bitsNoneCard : Claim7 := { stood := { row := bitsNoneRow, standIns := [], harness := (true, "ba2c6a7f6a6d508379f4ff0f20ae651228f6b2e2b28beb2ebb1c5af20c6b0999"), looks := false }, kinds := [], alts := [], laidByText := true, laidKinds := [.data], laidTests := true, laidLooks := .later }
def BitsNoneCardSaid : Prop := Claim7.holds Tryd.pinned (.plain (OpenSpec.ofChange bitsNoneSpec)) bitsNoneCard

/-- THE TIED CARD OF 'gangwaylaw02.BitsBack'. -/
def bitsBackCard : Claim7 := { stood := { row := bitsBackRow, standIns := [], harness := (true, "ba2c6a7f6a6d508379f4ff0f20ae651228f6b2e2b28beb2ebb1c5af20c6b0999"), looks := false }, kinds := [], alts := [], laidByText := true, laidKinds := [.data], laidTests := true, laidLooks := .later }
def BitsBackCardSaid : Prop := Claim7.holds Tryd.pinned (.plain (OpenSpec.ofChange bitsBackSpec)) bitsBackCard

/-- THE SECOND FORM's CARD OF 'gangwaylaw02.BitsKeeps'. -/
def bitsKeepsUptoCard : Claim7 := { stood := { row := bitsKeepsUptoRow, standIns := [], harness := (true, "ba2c6a7f6a6d508379f4ff0f20ae651228f6b2e2b28beb2ebb1c5af20c6b0999"), looks := false }, kinds := [], alts := [], laidByText := true, laidKinds := [.data], laidTests := true, laidLooks := .later }
def BitsKeepsUptoCardSaid : Prop := Claim7.holds Tryd.pinned (.plain (OpenSpec.upto bitsKeepsSpec)) bitsKeepsUptoCard

/-- THE SECOND FORM's CARD OF 'gangwaylaw02.BitsSeeks'. -/
def bitsSeeksUptoCard : Claim7 := { stood := { row := bitsSeeksUptoRow, standIns := [], harness := (true, "ba2c6a7f6a6d508379f4ff0f20ae651228f6b2e2b28beb2ebb1c5af20c6b0999"), looks := false }, kinds := [], alts := [], laidByText := true, laidKinds := [.data], laidTests := true, laidLooks := .later }
def BitsSeeksUptoCardSaid : Prop := Claim7.holds Tryd.pinned (.plain (OpenSpec.upto bitsSeeksSpec)) bitsSeeksUptoCard

/-- THE SECOND FORM's CARD OF 'gangwaylaw02.BitsGoes'. -/
def bitsGoesUptoCard : Claim7 := { stood := { row := bitsGoesUptoRow, standIns := [], harness := (true, "ba2c6a7f6a6d508379f4ff0f20ae651228f6b2e2b28beb2ebb1c5af20c6b0999"), looks := false }, kinds := [], alts := [], laidByText := true, laidKinds := [.data], laidTests := true, laidLooks := .later }
def BitsGoesUptoCardSaid : Prop := Claim7.holds Tryd.pinned (.plain (OpenSpec.upto bitsGoesSpec)) bitsGoesUptoCard

/-- THE SECOND FORM's CARD OF 'gangwaylaw02.BitsReads'. -/
def bitsReadsUptoCard : Claim7 := { stood := { row := bitsReadsUptoRow, standIns := [], harness := (true, "ba2c6a7f6a6d508379f4ff0f20ae651228f6b2e2b28beb2ebb1c5af20c6b0999"), looks := false }, kinds := [], alts := [], laidByText := true, laidKinds := [.data], laidTests := true, laidLooks := .later }
def BitsReadsUptoCardSaid : Prop := Claim7.holds Tryd.pinned (.plain (OpenSpec.upto bitsReadsSpec)) bitsReadsUptoCard

/-- THE SECOND FORM's CARD OF 'gangwaylaw02.BitsPlays'. -/
def bitsPlaysUptoCard : Claim7 := { stood := { row := bitsPlaysUptoRow, standIns := [], harness := (true, "ba2c6a7f6a6d508379f4ff0f20ae651228f6b2e2b28beb2ebb1c5af20c6b0999"), looks := false }, kinds := [], alts := [], laidByText := true, laidKinds := [.data], laidTests := true, laidLooks := .later }
def BitsPlaysUptoCardSaid : Prop := Claim7.holds Tryd.pinned (.plain (OpenSpec.upto bitsPlaysSpec)) bitsPlaysUptoCard

/-- THE SECOND FORM's CARD OF 'gangwaylaw02.BitsNone'. -/
def bitsNoneUptoCard : Claim7 := { stood := { row := bitsNoneUptoRow, standIns := [], harness := (true, "ba2c6a7f6a6d508379f4ff0f20ae651228f6b2e2b28beb2ebb1c5af20c6b0999"), looks := false }, kinds := [], alts := [], laidByText := true, laidKinds := [.data], laidTests := true, laidLooks := .later }
def BitsNoneUptoCardSaid : Prop := Claim7.holds Tryd.pinned (.plain (OpenSpec.upto bitsNoneSpec)) bitsNoneUptoCard

/-- THE SECOND FORM's CARD OF 'gangwaylaw02.BitsBack'. -/
def bitsBackUptoCard : Claim7 := { stood := { row := bitsBackUptoRow, standIns := [], harness := (true, "ba2c6a7f6a6d508379f4ff0f20ae651228f6b2e2b28beb2ebb1c5af20c6b0999"), looks := false }, kinds := [], alts := [], laidByText := true, laidKinds := [.data], laidTests := true, laidLooks := .later }
def BitsBackUptoCardSaid : Prop := Claim7.holds Tryd.pinned (.plain (OpenSpec.upto bitsBackSpec)) bitsBackUptoCard
end Rows
end Go.Proofs.YtbfkmogibgchmaaDoor
