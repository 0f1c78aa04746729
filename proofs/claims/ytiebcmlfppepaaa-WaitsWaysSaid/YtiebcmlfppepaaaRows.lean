/-
  No cell of these rows narrows 'for every input' (looked for: loops, veiled, ifaces, maps, wideKeys, modest, calm, conditions, laid).
  DERIVED. THE GIVEN ROWS OF THIS SEAT. 5 by the template 'for every input the law returns true; each argument reads behind the call as it read before'; 0 by the template 'total and deterministic' (their statements: YtiebcmlfppepaaaTotals.lean).
  GIVEN WITH THE SEED: the statements are not yours to turn. If you find one false, say at which input.
  Laid BY PROGRAM, IN A SANDBOX (cutbox-rows.mjs): the forced cells as the released guide's own fill.sh prints them over the translation 5e1ea01b62217697… (all of the seat's roots in one cut). By AI agents, Wed Nov 11 2026. No macro, syntax, notation, axiom, sorry.
-/
import Derived.Test.YtiebcmlfppepaaaChecked
import GoSem.Claim
import GoSem.ClaimJoined
import GoSem.ClaimMapViews
import Derived.JoinedTies
import Derived.KernelRfl
namespace Go.Proofs.Ytiebcmlfppepaaa
/- THE CELL 'sum', in the pinned program and in every row, IS THE sha256 OF THE DUMP (.gsa) THAT YtiebcmlfppepaaaProg.lean LOADS. Nothing in Lean hashes anything: it is a label: what it is worth is what the hold of that sum in a sandbox is worth. -/
noncomputable def Try.pinned : Pinned := { name := "ytiebcmlfppepaaa", sum := "5e1ea01b62217697e82593387d3f0b179603acf7cadb33e519477a55499854ef", checked := Try.checked }
namespace Rows
def none {H : Type} : Left H := { results := [], args := [] }

/-- 'gangwaylaw13.IndexSpares': WHATEVER THE INPUT: true; the input reads as it did. -/
def indexSparesSpec : ChangeSpec := { name := "indexSpares", fn := fun _ => fun
  | [d1, d2, d3, d4] => { results := [.lit (.bool true)], args := [d1, d2, d3, d4] }
  | _ => none }
def indexSparesRow : OpenClaim := { program := "ytiebcmlfppepaaa", sum := "5e1ea01b62217697e82593387d3f0b179603acf7cadb33e519477a55499854ef", func := "gangway/gangwaylaw13.IndexSpares", spec := "indexSpares", unfollowed := true, recurses := true, apart := false }
def IndexSparesSaid : Prop := indexSparesRow.holds Try.pinned (OpenSpec.ofChange indexSparesSpec)

/-- ITS FALSE NEIGHBOUR: 'it returns false'. Refute it at one input. -/
def indexSparesWrong : ChangeSpec := { name := "indexSpares", fn := fun _ => fun
  | [d1, d2, d3, d4] => { results := [.lit (.bool false)], args := [d1, d2, d3, d4] }
  | _ => none }
def IndexSparesWrongFalsely : Prop := indexSparesRow.holds Try.pinned (OpenSpec.ofChange indexSparesWrong)

/-- 'gangwaylaw28.WaitsServe': WHATEVER THE INPUT: true; the input reads as it did. -/
def waitsServeSpec : ChangeSpec := { name := "waitsServe", fn := fun _ => fun
  | [d1, d2] => { results := [.lit (.bool true)], args := [d1, d2] }
  | _ => none }
def waitsServeRow : OpenClaim := { program := "ytiebcmlfppepaaa", sum := "5e1ea01b62217697e82593387d3f0b179603acf7cadb33e519477a55499854ef", func := "gangway/gangwaylaw28.WaitsServe", spec := "waitsServe", unfollowed := true, recurses := true, apart := false }
def WaitsServeSaid : Prop := waitsServeRow.holds Try.pinned (OpenSpec.ofChange waitsServeSpec)

/-- ITS FALSE NEIGHBOUR: 'it returns false'. Refute it at one input. -/
def waitsServeWrong : ChangeSpec := { name := "waitsServe", fn := fun _ => fun
  | [d1, d2] => { results := [.lit (.bool false)], args := [d1, d2] }
  | _ => none }
def WaitsServeWrongFalsely : Prop := waitsServeRow.holds Try.pinned (OpenSpec.ofChange waitsServeWrong)

/-- 'gangwaylaw28.WaitsNumbers': WHATEVER THE INPUT: true; the input reads as it did. -/
def waitsNumbersSpec : ChangeSpec := { name := "waitsNumbers", fn := fun _ => fun
  | [] => { results := [.lit (.bool true)], args := [] }
  | _ => none }
def waitsNumbersRow : OpenClaim := { program := "ytiebcmlfppepaaa", sum := "5e1ea01b62217697e82593387d3f0b179603acf7cadb33e519477a55499854ef", func := "gangway/gangwaylaw28.WaitsNumbers", spec := "waitsNumbers", unfollowed := true, recurses := true, apart := false }
def WaitsNumbersSaid : Prop := waitsNumbersRow.holds Try.pinned (OpenSpec.ofChange waitsNumbersSpec)

/-- ITS FALSE NEIGHBOUR: 'it returns false'. Refute it at one input. -/
def waitsNumbersWrong : ChangeSpec := { name := "waitsNumbers", fn := fun _ => fun
  | [] => { results := [.lit (.bool false)], args := [] }
  | _ => none }
def WaitsNumbersWrongFalsely : Prop := waitsNumbersRow.holds Try.pinned (OpenSpec.ofChange waitsNumbersWrong)

/-- 'gangwaylaw28.WaitsPlays': WHATEVER THE INPUT: true; the input reads as it did. -/
def waitsPlaysSpec : ChangeSpec := { name := "waitsPlays", fn := fun _ => fun
  | [d] => { results := [.lit (.bool true)], args := [d] }
  | _ => none }
def waitsPlaysRow : OpenClaim := { program := "ytiebcmlfppepaaa", sum := "5e1ea01b62217697e82593387d3f0b179603acf7cadb33e519477a55499854ef", func := "gangway/gangwaylaw28.WaitsPlays", spec := "waitsPlays", unfollowed := true, recurses := true, apart := false }
def WaitsPlaysSaid : Prop := waitsPlaysRow.holds Try.pinned (OpenSpec.ofChange waitsPlaysSpec)

/-- ITS FALSE NEIGHBOUR: 'it returns false'. Refute it at one input. -/
def waitsPlaysWrong : ChangeSpec := { name := "waitsPlays", fn := fun _ => fun
  | [d] => { results := [.lit (.bool false)], args := [d] }
  | _ => none }
def WaitsPlaysWrongFalsely : Prop := waitsPlaysRow.holds Try.pinned (OpenSpec.ofChange waitsPlaysWrong)

/-- 'gangwaylaw28.WaitsWays': WHATEVER THE INPUT: true; the input reads as it did. -/
def waitsWaysSpec : ChangeSpec := { name := "waitsWays", fn := fun _ => fun
  | [d1, d2, d3] => { results := [.lit (.bool true)], args := [d1, d2, d3] }
  | _ => none }
def waitsWaysRow : OpenClaim := { program := "ytiebcmlfppepaaa", sum := "5e1ea01b62217697e82593387d3f0b179603acf7cadb33e519477a55499854ef", func := "gangway/gangwaylaw28.WaitsWays", spec := "waitsWays", unfollowed := true, recurses := true, apart := false }
def WaitsWaysSaid : Prop := waitsWaysRow.holds Try.pinned (OpenSpec.ofChange waitsWaysSpec)

/-- ITS FALSE NEIGHBOUR: 'it returns false'. Refute it at one input. -/
def waitsWaysWrong : ChangeSpec := { name := "waitsWays", fn := fun _ => fun
  | [d1, d2, d3] => { results := [.lit (.bool false)], args := [d1, d2, d3] }
  | _ => none }
def WaitsWaysWrongFalsely : Prop := waitsWaysRow.holds Try.pinned (OpenSpec.ofChange waitsWaysWrong)

/- THE SECOND FORM. 'bulk': how many values and letters a reading holds, each counted each time it is reached (what is shared counts as often as it is met; a slice's spare places count too). A statement '..UptoSaid' is the law's where the arguments, and the package variables that the reading takes, are together of bulk at most 1048576: NARROWER than '..Said'. Prove '..Said' where nothing that the law and all that it calls make is longer than what came in: it says more and counts as full. Else prove '..UptoSaid'. A law counts once. -/
mutual
def uptoBulk {H : Type} : DataW H → Nat
  | .lit (.string bytes) => bytes.length + 1
  | .lit _ => 1
  | .nil => 1
  | .ptr d => uptoBulk d + 1
  | .slice elems spare => uptoBulkAll elems + uptoBulkAll spare + 1
  | .agg parts => uptoBulkAll parts + 1
  | .iface _ d => uptoBulk d + 1
  | .map entries => uptoBulkEntries entries + 1
  | .held _ => 1
def uptoBulkAll {H : Type} : List (DataW H) → Nat
  | [] => 0
  | d :: r => uptoBulk d + uptoBulkAll r
def uptoBulkEntries {H : Type} : List (Lit × DataW H) → Nat
  | [] => 0
  | x :: r => uptoBulkEntry x + uptoBulkEntries r
def uptoBulkEntry {H : Type} : Lit × DataW H → Nat
  | (.string bytes, d) => bytes.length + uptoBulk d + 1
  | (_, d) => uptoBulk d + 1
 end
def uptoSmall : (H : Type) → List (DataW H) → Bool := fun _ ds => decide (uptoBulkAll ds ≤ 1048576)
def OpenSpec.upto (s : _root_.Go.ChangeSpec) : _root_.Go.OpenSpec := { _root_.Go.OpenSpec.ofChange s with cond := some uptoSmall }

/-- 'gangwaylaw13.IndexSpares', WHERE WHAT IT READS IS OF BULK AT MOST 1048576: true; the input reads as it did. -/
def indexSparesUptoRow : OpenClaim := { program := "ytiebcmlfppepaaa", sum := "5e1ea01b62217697e82593387d3f0b179603acf7cadb33e519477a55499854ef", func := "gangway/gangwaylaw13.IndexSpares", spec := "indexSpares", unfollowed := true, recurses := true, apart := false, narrowed := true }
def IndexSparesUptoSaid : Prop := indexSparesUptoRow.holds Try.pinned (OpenSpec.upto indexSparesSpec)

/-- 'gangwaylaw28.WaitsServe', WHERE WHAT IT READS IS OF BULK AT MOST 1048576: true; the input reads as it did. -/
def waitsServeUptoRow : OpenClaim := { program := "ytiebcmlfppepaaa", sum := "5e1ea01b62217697e82593387d3f0b179603acf7cadb33e519477a55499854ef", func := "gangway/gangwaylaw28.WaitsServe", spec := "waitsServe", unfollowed := true, recurses := true, apart := false, narrowed := true }
def WaitsServeUptoSaid : Prop := waitsServeUptoRow.holds Try.pinned (OpenSpec.upto waitsServeSpec)

/-- 'gangwaylaw28.WaitsNumbers', WHERE WHAT IT READS IS OF BULK AT MOST 1048576: true; the input reads as it did. -/
def waitsNumbersUptoRow : OpenClaim := { program := "ytiebcmlfppepaaa", sum := "5e1ea01b62217697e82593387d3f0b179603acf7cadb33e519477a55499854ef", func := "gangway/gangwaylaw28.WaitsNumbers", spec := "waitsNumbers", unfollowed := true, recurses := true, apart := false, narrowed := true }
def WaitsNumbersUptoSaid : Prop := waitsNumbersUptoRow.holds Try.pinned (OpenSpec.upto waitsNumbersSpec)

/-- 'gangwaylaw28.WaitsPlays', WHERE WHAT IT READS IS OF BULK AT MOST 1048576: true; the input reads as it did. -/
def waitsPlaysUptoRow : OpenClaim := { program := "ytiebcmlfppepaaa", sum := "5e1ea01b62217697e82593387d3f0b179603acf7cadb33e519477a55499854ef", func := "gangway/gangwaylaw28.WaitsPlays", spec := "waitsPlays", unfollowed := true, recurses := true, apart := false, narrowed := true }
def WaitsPlaysUptoSaid : Prop := waitsPlaysUptoRow.holds Try.pinned (OpenSpec.upto waitsPlaysSpec)

/-- 'gangwaylaw28.WaitsWays', WHERE WHAT IT READS IS OF BULK AT MOST 1048576: true; the input reads as it did. -/
def waitsWaysUptoRow : OpenClaim := { program := "ytiebcmlfppepaaa", sum := "5e1ea01b62217697e82593387d3f0b179603acf7cadb33e519477a55499854ef", func := "gangway/gangwaylaw28.WaitsWays", spec := "waitsWays", unfollowed := true, recurses := true, apart := false, narrowed := true }
def WaitsWaysUptoSaid : Prop := waitsWaysUptoRow.holds Try.pinned (OpenSpec.upto waitsWaysSpec)

end Rows
end Go.Proofs.Ytiebcmlfppepaaa
