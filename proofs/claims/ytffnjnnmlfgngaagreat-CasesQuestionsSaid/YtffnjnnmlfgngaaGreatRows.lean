/-
  No cell of these rows narrows 'for every input' (looked for: loops, veiled, ifaces, maps, wideKeys, modest, calm, conditions, laid).
  DERIVED. THE GIVEN ROWS OF THIS SEAT. 4 by the template 'for every input the law returns true; each argument reads behind the call as it read before'; 0 by the template 'total and deterministic' (their statements: YtffnjnnmlfgngaaGreatTotals.lean).
  GIVEN WITH THE SEED: the statements are not yours to turn. If you find one false, say at which input.
  Laid BY PROGRAM, IN A SANDBOX (cutbox-rows.mjs): the forced cells as the released guide's own fill.sh prints them over the translation d7a0a75c57b4ab26… (all of the seat's roots in one cut). By AI agents, Wed Nov 11 2026. No macro, syntax, notation, axiom, sorry.
-/
import Derived.Test.YtffnjnnmlfgngaaGreatChecked
import GoSem.Claim
import GoSem.ClaimJoined
import GoSem.ClaimMapViews
import Derived.JoinedTies
import Derived.KernelRfl
namespace Go.Proofs.YtffnjnnmlfgngaaGreat
/- THE CELL 'sum', in the pinned program and in every row, IS THE sha256 OF THE DUMP (.gsa) THAT YtffnjnnmlfgngaaGreatProg.lean LOADS. Nothing in Lean hashes anything: it is a label: what it is worth is what the hold of that sum in a sandbox is worth. -/
noncomputable def Tryz.pinned : Pinned := { name := "ytffnjnnmlfgngaagreat", sum := "d7a0a75c57b4ab266793818c64f2556d173bc77a00c9e6cdb5f09ddcd9e1570c", checked := Tryz.checked }
namespace Rows
def none {H : Type} : Left H := { results := [], args := [] }

/-- 'gangwaylaw17.BookPlays': WHATEVER THE INPUT: true; the input reads as it did. -/
def bookPlaysSpec : ChangeSpec := { name := "bookPlays", fn := fun _ => fun
  | [d1, d2] => { results := [.lit (.bool true)], args := [d1, d2] }
  | _ => none }
def bookPlaysRow : OpenClaim := { program := "ytffnjnnmlfgngaagreat", sum := "d7a0a75c57b4ab266793818c64f2556d173bc77a00c9e6cdb5f09ddcd9e1570c", func := "gangway/gangwaylaw17.BookPlays", spec := "bookPlays", unfollowed := true, recurses := true, apart := false }
def BookPlaysSaid : Prop := bookPlaysRow.holds Tryz.pinned (OpenSpec.ofChange bookPlaysSpec)

/-- ITS FALSE NEIGHBOUR: 'it returns false'. Refute it at one input. -/
def bookPlaysWrong : ChangeSpec := { name := "bookPlays", fn := fun _ => fun
  | [d1, d2] => { results := [.lit (.bool false)], args := [d1, d2] }
  | _ => none }
def BookPlaysWrongFalsely : Prop := bookPlaysRow.holds Tryz.pinned (OpenSpec.ofChange bookPlaysWrong)

/-- 'gangwaylaw22.CasesQuestions': WHATEVER THE INPUT: true; the input reads as it did. -/
def casesQuestionsSpec : ChangeSpec := { name := "casesQuestions", fn := fun _ => fun
  | [d1, d2] => { results := [.lit (.bool true)], args := [d1, d2] }
  | _ => none }
def casesQuestionsRow : OpenClaim := { program := "ytffnjnnmlfgngaagreat", sum := "d7a0a75c57b4ab266793818c64f2556d173bc77a00c9e6cdb5f09ddcd9e1570c", func := "gangway/gangwaylaw22.CasesQuestions", spec := "casesQuestions", unfollowed := true, recurses := true, apart := false }
def CasesQuestionsSaid : Prop := casesQuestionsRow.holds Tryz.pinned (OpenSpec.ofChange casesQuestionsSpec)

/-- ITS FALSE NEIGHBOUR: 'it returns false'. Refute it at one input. -/
def casesQuestionsWrong : ChangeSpec := { name := "casesQuestions", fn := fun _ => fun
  | [d1, d2] => { results := [.lit (.bool false)], args := [d1, d2] }
  | _ => none }
def CasesQuestionsWrongFalsely : Prop := casesQuestionsRow.holds Tryz.pinned (OpenSpec.ofChange casesQuestionsWrong)

/-- 'gangwaylaw22.CasesDecides': WHATEVER THE INPUT: true; the input reads as it did. -/
def casesDecidesSpec : ChangeSpec := { name := "casesDecides", fn := fun _ => fun
  | [d1, d2, d3] => { results := [.lit (.bool true)], args := [d1, d2, d3] }
  | _ => none }
def casesDecidesRow : OpenClaim := { program := "ytffnjnnmlfgngaagreat", sum := "d7a0a75c57b4ab266793818c64f2556d173bc77a00c9e6cdb5f09ddcd9e1570c", func := "gangway/gangwaylaw22.CasesDecides", spec := "casesDecides", unfollowed := true, recurses := true, apart := false }
def CasesDecidesSaid : Prop := casesDecidesRow.holds Tryz.pinned (OpenSpec.ofChange casesDecidesSpec)

/-- ITS FALSE NEIGHBOUR: 'it returns false'. Refute it at one input. -/
def casesDecidesWrong : ChangeSpec := { name := "casesDecides", fn := fun _ => fun
  | [d1, d2, d3] => { results := [.lit (.bool false)], args := [d1, d2, d3] }
  | _ => none }
def CasesDecidesWrongFalsely : Prop := casesDecidesRow.holds Tryz.pinned (OpenSpec.ofChange casesDecidesWrong)

/-- 'gangwaylaw22.CasesAsks': WHATEVER THE INPUT: true; the input reads as it did. -/
def casesAsksSpec : ChangeSpec := { name := "casesAsks", fn := fun _ => fun
  | [d1, d2, d3] => { results := [.lit (.bool true)], args := [d1, d2, d3] }
  | _ => none }
def casesAsksRow : OpenClaim := { program := "ytffnjnnmlfgngaagreat", sum := "d7a0a75c57b4ab266793818c64f2556d173bc77a00c9e6cdb5f09ddcd9e1570c", func := "gangway/gangwaylaw22.CasesAsks", spec := "casesAsks", unfollowed := true, recurses := true, apart := false }
def CasesAsksSaid : Prop := casesAsksRow.holds Tryz.pinned (OpenSpec.ofChange casesAsksSpec)

/-- ITS FALSE NEIGHBOUR: 'it returns false'. Refute it at one input. -/
def casesAsksWrong : ChangeSpec := { name := "casesAsks", fn := fun _ => fun
  | [d1, d2, d3] => { results := [.lit (.bool false)], args := [d1, d2, d3] }
  | _ => none }
def CasesAsksWrongFalsely : Prop := casesAsksRow.holds Tryz.pinned (OpenSpec.ofChange casesAsksWrong)

/- THE SECOND FORM. 'bulk': how many values and letters a reading holds, each counted each time it is reached (what is shared counts as often as it is met; a slice's spare places count too). A statement '..UptoSaid' is the law's where the arguments, and the package variables that the reading takes, are together of bulk at most 1048576: NARROWER than '..Said'. Prove '..Said' where nothing that the law and all that it calls make is longer than what came in: it says more and counts as full. Else prove '..UptoSaid'. A law counts once. -/
mutual
def uptoBulk {H : Type} : DataW H → Nat
  | .lit (.string bytes) => bytes.length + 1
  | .lit _ => 1
  | .nil => 1
  | .ptr d => uptoBulk d + 1
  | .slice elems spare => uptoBulkAll elems + uptoBulkAll spare + 1
  | .agg parts => uptoBulkAll parts + 1
  | .iface _ d => uptoBulk d + 1
  | .map entries => uptoBulkEntries entries + 1
  | .held _ => 1
def uptoBulkAll {H : Type} : List (DataW H) → Nat
  | [] => 0
  | d :: r => uptoBulk d + uptoBulkAll r
def uptoBulkEntries {H : Type} : List (Lit × DataW H) → Nat
  | [] => 0
  | x :: r => uptoBulkEntry x + uptoBulkEntries r
def uptoBulkEntry {H : Type} : Lit × DataW H → Nat
  | (.string bytes, d) => bytes.length + uptoBulk d + 1
  | (_, d) => uptoBulk d + 1
 end
def uptoSmall : (H : Type) → List (DataW H) → Bool := fun _ ds => decide (uptoBulkAll ds ≤ 1048576)
def OpenSpec.upto (s : _root_.Go.ChangeSpec) : _root_.Go.OpenSpec := { _root_.Go.OpenSpec.ofChange s with cond := some uptoSmall }

/-- 'gangwaylaw17.BookPlays', WHERE WHAT IT READS IS OF BULK AT MOST 1048576: true; the input reads as it did. -/
def bookPlaysUptoRow : OpenClaim := { program := "ytffnjnnmlfgngaagreat", sum := "d7a0a75c57b4ab266793818c64f2556d173bc77a00c9e6cdb5f09ddcd9e1570c", func := "gangway/gangwaylaw17.BookPlays", spec := "bookPlays", unfollowed := true, recurses := true, apart := false, narrowed := true }
def BookPlaysUptoSaid : Prop := bookPlaysUptoRow.holds Tryz.pinned (OpenSpec.upto bookPlaysSpec)

/-- 'gangwaylaw22.CasesQuestions', WHERE WHAT IT READS IS OF BULK AT MOST 1048576: true; the input reads as it did. -/
def casesQuestionsUptoRow : OpenClaim := { program := "ytffnjnnmlfgngaagreat", sum := "d7a0a75c57b4ab266793818c64f2556d173bc77a00c9e6cdb5f09ddcd9e1570c", func := "gangway/gangwaylaw22.CasesQuestions", spec := "casesQuestions", unfollowed := true, recurses := true, apart := false, narrowed := true }
def CasesQuestionsUptoSaid : Prop := casesQuestionsUptoRow.holds Tryz.pinned (OpenSpec.upto casesQuestionsSpec)

/-- 'gangwaylaw22.CasesDecides', WHERE WHAT IT READS IS OF BULK AT MOST 1048576: true; the input reads as it did. -/
def casesDecidesUptoRow : OpenClaim := { program := "ytffnjnnmlfgngaagreat", sum := "d7a0a75c57b4ab266793818c64f2556d173bc77a00c9e6cdb5f09ddcd9e1570c", func := "gangway/gangwaylaw22.CasesDecides", spec := "casesDecides", unfollowed := true, recurses := true, apart := false, narrowed := true }
def CasesDecidesUptoSaid : Prop := casesDecidesUptoRow.holds Tryz.pinned (OpenSpec.upto casesDecidesSpec)

/-- 'gangwaylaw22.CasesAsks', WHERE WHAT IT READS IS OF BULK AT MOST 1048576: true; the input reads as it did. -/
def casesAsksUptoRow : OpenClaim := { program := "ytffnjnnmlfgngaagreat", sum := "d7a0a75c57b4ab266793818c64f2556d173bc77a00c9e6cdb5f09ddcd9e1570c", func := "gangway/gangwaylaw22.CasesAsks", spec := "casesAsks", unfollowed := true, recurses := true, apart := false, narrowed := true }
def CasesAsksUptoSaid : Prop := casesAsksUptoRow.holds Tryz.pinned (OpenSpec.upto casesAsksSpec)

end Rows
end Go.Proofs.YtffnjnnmlfgngaaGreat
