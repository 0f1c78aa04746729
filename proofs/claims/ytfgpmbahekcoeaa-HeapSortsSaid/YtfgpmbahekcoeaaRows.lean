/-
  No cell of these rows narrows 'for every input' (looked for: loops, veiled, ifaces, maps, wideKeys, modest, calm, conditions, laid).
  DERIVED. THE GIVEN ROWS OF THIS SEAT. 9 by the template 'for every input the law returns true; each argument reads behind the call as it read before'; 0 by the template 'total and deterministic' (their statements: YtfgpmbahekcoeaaTotals.lean).
  GIVEN WITH THE SEED: the statements are not yours to turn. If you find one false, say at which input.
  Laid BY PROGRAM, IN A SANDBOX (cutbox-rows.mjs): the forced cells as the released guide's own fill.sh prints them over the translation 2de0807cfa2aa95b… (all of the seat's roots in one cut). By AI agents, Wed Nov 11 2026. No macro, syntax, notation, axiom, sorry.
-/
import Derived.Test.YtfgpmbahekcoeaaChecked
import GoSem.Claim
import GoSem.ClaimJoined
import GoSem.ClaimMapViews
import Derived.JoinedTies
import Derived.KernelRfl
namespace Go.Proofs.Ytfgpmbahekcoeaa
/- THE CELL 'sum', in the pinned program and in every row, IS THE sha256 OF THE DUMP (.gsa) THAT YtfgpmbahekcoeaaProg.lean LOADS. Nothing in Lean hashes anything: it is a label: what it is worth is what the hold of that sum in a sandbox is worth. -/
noncomputable def Try.pinned : Pinned := { name := "ytfgpmbahekcoeaa", sum := "2de0807cfa2aa95b9a706fed79f37517072d769c6d7c55308f660a1823afeeb4", checked := Try.checked }
namespace Rows
def none {H : Type} : Left H := { results := [], args := [] }

/-- 'gangwaylaw12.HeapSorts': WHATEVER THE INPUT: true; the input reads as it did. -/
def heapSortsSpec : ChangeSpec := { name := "heapSorts", fn := fun _ => fun
  | [d1, d2] => { results := [.lit (.bool true)], args := [d1, d2] }
  | _ => none }
def heapSortsRow : OpenClaim := { program := "ytfgpmbahekcoeaa", sum := "2de0807cfa2aa95b9a706fed79f37517072d769c6d7c55308f660a1823afeeb4", func := "gangway/gangwaylaw12.HeapSorts", spec := "heapSorts", unfollowed := true, recurses := true, apart := false }
def HeapSortsSaid : Prop := heapSortsRow.holds Try.pinned (OpenSpec.ofChange heapSortsSpec)

/-- ITS FALSE NEIGHBOUR: 'it returns false'. Refute it at one input. -/
def heapSortsWrong : ChangeSpec := { name := "heapSorts", fn := fun _ => fun
  | [d1, d2] => { results := [.lit (.bool false)], args := [d1, d2] }
  | _ => none }
def HeapSortsWrongFalsely : Prop := heapSortsRow.holds Try.pinned (OpenSpec.ofChange heapSortsWrong)

/-- 'gangwaylaw12.HeapAll': WHATEVER THE INPUT: true; the input reads as it did. -/
def heapAllSpec : ChangeSpec := { name := "heapAll", fn := fun _ => fun
  | [d1, d2, d3] => { results := [.lit (.bool true)], args := [d1, d2, d3] }
  | _ => none }
def heapAllRow : OpenClaim := { program := "ytfgpmbahekcoeaa", sum := "2de0807cfa2aa95b9a706fed79f37517072d769c6d7c55308f660a1823afeeb4", func := "gangway/gangwaylaw12.HeapAll", spec := "heapAll", unfollowed := true, recurses := true, apart := false }
def HeapAllSaid : Prop := heapAllRow.holds Try.pinned (OpenSpec.ofChange heapAllSpec)

/-- ITS FALSE NEIGHBOUR: 'it returns false'. Refute it at one input. -/
def heapAllWrong : ChangeSpec := { name := "heapAll", fn := fun _ => fun
  | [d1, d2, d3] => { results := [.lit (.bool false)], args := [d1, d2, d3] }
  | _ => none }
def HeapAllWrongFalsely : Prop := heapAllRow.holds Try.pinned (OpenSpec.ofChange heapAllWrong)

/-- 'gangwaylaw12.HeapPlays': WHATEVER THE INPUT: true; the input reads as it did. -/
def heapPlaysSpec : ChangeSpec := { name := "heapPlays", fn := fun _ => fun
  | [d1, d2, d3] => { results := [.lit (.bool true)], args := [d1, d2, d3] }
  | _ => none }
def heapPlaysRow : OpenClaim := { program := "ytfgpmbahekcoeaa", sum := "2de0807cfa2aa95b9a706fed79f37517072d769c6d7c55308f660a1823afeeb4", func := "gangway/gangwaylaw12.HeapPlays", spec := "heapPlays", unfollowed := true, recurses := true, apart := false }
def HeapPlaysSaid : Prop := heapPlaysRow.holds Try.pinned (OpenSpec.ofChange heapPlaysSpec)

/-- ITS FALSE NEIGHBOUR: 'it returns false'. Refute it at one input. -/
def heapPlaysWrong : ChangeSpec := { name := "heapPlays", fn := fun _ => fun
  | [d1, d2, d3] => { results := [.lit (.bool false)], args := [d1, d2, d3] }
  | _ => none }
def HeapPlaysWrongFalsely : Prop := heapPlaysRow.holds Try.pinned (OpenSpec.ofChange heapPlaysWrong)

/-- 'gangwaylaw12.HeapNil': WHATEVER THE INPUT: true; the input reads as it did. -/
def heapNilSpec : ChangeSpec := { name := "heapNil", fn := fun _ => fun
  | [d] => { results := [.lit (.bool true)], args := [d] }
  | _ => none }
def heapNilRow : OpenClaim := { program := "ytfgpmbahekcoeaa", sum := "2de0807cfa2aa95b9a706fed79f37517072d769c6d7c55308f660a1823afeeb4", func := "gangway/gangwaylaw12.HeapNil", spec := "heapNil", unfollowed := true, recurses := true, apart := false }
def HeapNilSaid : Prop := heapNilRow.holds Try.pinned (OpenSpec.ofChange heapNilSpec)

/-- ITS FALSE NEIGHBOUR: 'it returns false'. Refute it at one input. -/
def heapNilWrong : ChangeSpec := { name := "heapNil", fn := fun _ => fun
  | [d] => { results := [.lit (.bool false)], args := [d] }
  | _ => none }
def HeapNilWrongFalsely : Prop := heapNilRow.holds Try.pinned (OpenSpec.ofChange heapNilWrong)

/-- 'gangwaylaw13.IndexSpares': WHATEVER THE INPUT: true; the input reads as it did. -/
def indexSparesSpec : ChangeSpec := { name := "indexSpares", fn := fun _ => fun
  | [d1, d2, d3, d4] => { results := [.lit (.bool true)], args := [d1, d2, d3, d4] }
  | _ => none }
def indexSparesRow : OpenClaim := { program := "ytfgpmbahekcoeaa", sum := "2de0807cfa2aa95b9a706fed79f37517072d769c6d7c55308f660a1823afeeb4", func := "gangway/gangwaylaw13.IndexSpares", spec := "indexSpares", unfollowed := true, recurses := true, apart := false }
def IndexSparesSaid : Prop := indexSparesRow.holds Try.pinned (OpenSpec.ofChange indexSparesSpec)

/-- ITS FALSE NEIGHBOUR: 'it returns false'. Refute it at one input. -/
def indexSparesWrong : ChangeSpec := { name := "indexSpares", fn := fun _ => fun
  | [d1, d2, d3, d4] => { results := [.lit (.bool false)], args := [d1, d2, d3, d4] }
  | _ => none }
def IndexSparesWrongFalsely : Prop := indexSparesRow.holds Try.pinned (OpenSpec.ofChange indexSparesWrong)

/-- 'gangwaylaw13.IndexFinds': WHATEVER THE INPUT: true; the input reads as it did. -/
def indexFindsSpec : ChangeSpec := { name := "indexFinds", fn := fun _ => fun
  | [d1, d2, d3, d4] => { results := [.lit (.bool true)], args := [d1, d2, d3, d4] }
  | _ => none }
def indexFindsRow : OpenClaim := { program := "ytfgpmbahekcoeaa", sum := "2de0807cfa2aa95b9a706fed79f37517072d769c6d7c55308f660a1823afeeb4", func := "gangway/gangwaylaw13.IndexFinds", spec := "indexFinds", unfollowed := true, recurses := true, apart := false }
def IndexFindsSaid : Prop := indexFindsRow.holds Try.pinned (OpenSpec.ofChange indexFindsSpec)

/-- ITS FALSE NEIGHBOUR: 'it returns false'. Refute it at one input. -/
def indexFindsWrong : ChangeSpec := { name := "indexFinds", fn := fun _ => fun
  | [d1, d2, d3, d4] => { results := [.lit (.bool false)], args := [d1, d2, d3, d4] }
  | _ => none }
def IndexFindsWrongFalsely : Prop := indexFindsRow.holds Try.pinned (OpenSpec.ofChange indexFindsWrong)

/-- 'gangwaylaw13.IndexGraves': WHATEVER THE INPUT: true; the input reads as it did. -/
def indexGravesSpec : ChangeSpec := { name := "indexGraves", fn := fun _ => fun
  | [d1, d2, d3] => { results := [.lit (.bool true)], args := [d1, d2, d3] }
  | _ => none }
def indexGravesRow : OpenClaim := { program := "ytfgpmbahekcoeaa", sum := "2de0807cfa2aa95b9a706fed79f37517072d769c6d7c55308f660a1823afeeb4", func := "gangway/gangwaylaw13.IndexGraves", spec := "indexGraves", unfollowed := true, recurses := true, apart := false }
def IndexGravesSaid : Prop := indexGravesRow.holds Try.pinned (OpenSpec.ofChange indexGravesSpec)

/-- ITS FALSE NEIGHBOUR: 'it returns false'. Refute it at one input. -/
def indexGravesWrong : ChangeSpec := { name := "indexGraves", fn := fun _ => fun
  | [d1, d2, d3] => { results := [.lit (.bool false)], args := [d1, d2, d3] }
  | _ => none }
def IndexGravesWrongFalsely : Prop := indexGravesRow.holds Try.pinned (OpenSpec.ofChange indexGravesWrong)

/-- 'gangwaylaw13.IndexNumbers': WHATEVER THE INPUT: true; the input reads as it did. -/
def indexNumbersSpec : ChangeSpec := { name := "indexNumbers", fn := fun _ => fun
  | [] => { results := [.lit (.bool true)], args := [] }
  | _ => none }
def indexNumbersRow : OpenClaim := { program := "ytfgpmbahekcoeaa", sum := "2de0807cfa2aa95b9a706fed79f37517072d769c6d7c55308f660a1823afeeb4", func := "gangway/gangwaylaw13.IndexNumbers", spec := "indexNumbers", unfollowed := true, recurses := true, apart := false }
def IndexNumbersSaid : Prop := indexNumbersRow.holds Try.pinned (OpenSpec.ofChange indexNumbersSpec)

/-- ITS FALSE NEIGHBOUR: 'it returns false'. Refute it at one input. -/
def indexNumbersWrong : ChangeSpec := { name := "indexNumbers", fn := fun _ => fun
  | [] => { results := [.lit (.bool false)], args := [] }
  | _ => none }
def IndexNumbersWrongFalsely : Prop := indexNumbersRow.holds Try.pinned (OpenSpec.ofChange indexNumbersWrong)

/-- 'gangwaylaw13.IndexPlays': WHATEVER THE INPUT: true; the input reads as it did. -/
def indexPlaysSpec : ChangeSpec := { name := "indexPlays", fn := fun _ => fun
  | [d1, d2] => { results := [.lit (.bool true)], args := [d1, d2] }
  | _ => none }
def indexPlaysRow : OpenClaim := { program := "ytfgpmbahekcoeaa", sum := "2de0807cfa2aa95b9a706fed79f37517072d769c6d7c55308f660a1823afeeb4", func := "gangway/gangwaylaw13.IndexPlays", spec := "indexPlays", unfollowed := true, recurses := true, apart := false }
def IndexPlaysSaid : Prop := indexPlaysRow.holds Try.pinned (OpenSpec.ofChange indexPlaysSpec)

/-- ITS FALSE NEIGHBOUR: 'it returns false'. Refute it at one input. -/
def indexPlaysWrong : ChangeSpec := { name := "indexPlays", fn := fun _ => fun
  | [d1, d2] => { results := [.lit (.bool false)], args := [d1, d2] }
  | _ => none }
def IndexPlaysWrongFalsely : Prop := indexPlaysRow.holds Try.pinned (OpenSpec.ofChange indexPlaysWrong)

/- THE SECOND FORM. 'bulk': how many values and letters a reading holds, each counted each time it is reached (what is shared counts as often as it is met; a slice's spare places count too). A statement '..UptoSaid' is the law's where the arguments, and the package variables that the reading takes, are together of bulk at most 1048576: NARROWER than '..Said'. Prove '..Said' where nothing that the law and all that it calls make is longer than what came in: it says more and counts as full. Else prove '..UptoSaid'. A law counts once. -/
mutual
def uptoBulk {H : Type} : DataW H → Nat
  | .lit (.string bytes) => bytes.length + 1
  | .lit _ => 1
  | .nil => 1
  | .ptr d => uptoBulk d + 1
  | .slice elems spare => uptoBulkAll elems + uptoBulkAll spare + 1
  | .agg parts => uptoBulkAll parts + 1
  | .iface _ d => uptoBulk d + 1
  | .map entries => uptoBulkEntries entries + 1
  | .held _ => 1
def uptoBulkAll {H : Type} : List (DataW H) → Nat
  | [] => 0
  | d :: r => uptoBulk d + uptoBulkAll r
def uptoBulkEntries {H : Type} : List (Lit × DataW H) → Nat
  | [] => 0
  | x :: r => uptoBulkEntry x + uptoBulkEntries r
def uptoBulkEntry {H : Type} : Lit × DataW H → Nat
  | (.string bytes, d) => bytes.length + uptoBulk d + 1
  | (_, d) => uptoBulk d + 1
 end
def uptoSmall : (H : Type) → List (DataW H) → Bool := fun _ ds => decide (uptoBulkAll ds ≤ 1048576)
def OpenSpec.upto (s : _root_.Go.ChangeSpec) : _root_.Go.OpenSpec := { _root_.Go.OpenSpec.ofChange s with cond := some uptoSmall }

/-- 'gangwaylaw12.HeapSorts', WHERE WHAT IT READS IS OF BULK AT MOST 1048576: true; the input reads as it did. -/
def heapSortsUptoRow : OpenClaim := { program := "ytfgpmbahekcoeaa", sum := "2de0807cfa2aa95b9a706fed79f37517072d769c6d7c55308f660a1823afeeb4", func := "gangway/gangwaylaw12.HeapSorts", spec := "heapSorts", unfollowed := true, recurses := true, apart := false, narrowed := true }
def HeapSortsUptoSaid : Prop := heapSortsUptoRow.holds Try.pinned (OpenSpec.upto heapSortsSpec)

/-- 'gangwaylaw12.HeapAll', WHERE WHAT IT READS IS OF BULK AT MOST 1048576: true; the input reads as it did. -/
def heapAllUptoRow : OpenClaim := { program := "ytfgpmbahekcoeaa", sum := "2de0807cfa2aa95b9a706fed79f37517072d769c6d7c55308f660a1823afeeb4", func := "gangway/gangwaylaw12.HeapAll", spec := "heapAll", unfollowed := true, recurses := true, apart := false, narrowed := true }
def HeapAllUptoSaid : Prop := heapAllUptoRow.holds Try.pinned (OpenSpec.upto heapAllSpec)

/-- 'gangwaylaw12.HeapPlays', WHERE WHAT IT READS IS OF BULK AT MOST 1048576: true; the input reads as it did. -/
def heapPlaysUptoRow : OpenClaim := { program := "ytfgpmbahekcoeaa", sum := "2de0807cfa2aa95b9a706fed79f37517072d769c6d7c55308f660a1823afeeb4", func := "gangway/gangwaylaw12.HeapPlays", spec := "heapPlays", unfollowed := true, recurses := true, apart := false, narrowed := true }
def HeapPlaysUptoSaid : Prop := heapPlaysUptoRow.holds Try.pinned (OpenSpec.upto heapPlaysSpec)

/-- 'gangwaylaw12.HeapNil', WHERE WHAT IT READS IS OF BULK AT MOST 1048576: true; the input reads as it did. -/
def heapNilUptoRow : OpenClaim := { program := "ytfgpmbahekcoeaa", sum := "2de0807cfa2aa95b9a706fed79f37517072d769c6d7c55308f660a1823afeeb4", func := "gangway/gangwaylaw12.HeapNil", spec := "heapNil", unfollowed := true, recurses := true, apart := false, narrowed := true }
def HeapNilUptoSaid : Prop := heapNilUptoRow.holds Try.pinned (OpenSpec.upto heapNilSpec)

/-- 'gangwaylaw13.IndexSpares', WHERE WHAT IT READS IS OF BULK AT MOST 1048576: true; the input reads as it did. -/
def indexSparesUptoRow : OpenClaim := { program := "ytfgpmbahekcoeaa", sum := "2de0807cfa2aa95b9a706fed79f37517072d769c6d7c55308f660a1823afeeb4", func := "gangway/gangwaylaw13.IndexSpares", spec := "indexSpares", unfollowed := true, recurses := true, apart := false, narrowed := true }
def IndexSparesUptoSaid : Prop := indexSparesUptoRow.holds Try.pinned (OpenSpec.upto indexSparesSpec)

/-- 'gangwaylaw13.IndexFinds', WHERE WHAT IT READS IS OF BULK AT MOST 1048576: true; the input reads as it did. -/
def indexFindsUptoRow : OpenClaim := { program := "ytfgpmbahekcoeaa", sum := "2de0807cfa2aa95b9a706fed79f37517072d769c6d7c55308f660a1823afeeb4", func := "gangway/gangwaylaw13.IndexFinds", spec := "indexFinds", unfollowed := true, recurses := true, apart := false, narrowed := true }
def IndexFindsUptoSaid : Prop := indexFindsUptoRow.holds Try.pinned (OpenSpec.upto indexFindsSpec)

/-- 'gangwaylaw13.IndexGraves', WHERE WHAT IT READS IS OF BULK AT MOST 1048576: true; the input reads as it did. -/
def indexGravesUptoRow : OpenClaim := { program := "ytfgpmbahekcoeaa", sum := "2de0807cfa2aa95b9a706fed79f37517072d769c6d7c55308f660a1823afeeb4", func := "gangway/gangwaylaw13.IndexGraves", spec := "indexGraves", unfollowed := true, recurses := true, apart := false, narrowed := true }
def IndexGravesUptoSaid : Prop := indexGravesUptoRow.holds Try.pinned (OpenSpec.upto indexGravesSpec)

/-- 'gangwaylaw13.IndexNumbers', WHERE WHAT IT READS IS OF BULK AT MOST 1048576: true; the input reads as it did. -/
def indexNumbersUptoRow : OpenClaim := { program := "ytfgpmbahekcoeaa", sum := "2de0807cfa2aa95b9a706fed79f37517072d769c6d7c55308f660a1823afeeb4", func := "gangway/gangwaylaw13.IndexNumbers", spec := "indexNumbers", unfollowed := true, recurses := true, apart := false, narrowed := true }
def IndexNumbersUptoSaid : Prop := indexNumbersUptoRow.holds Try.pinned (OpenSpec.upto indexNumbersSpec)

/-- 'gangwaylaw13.IndexPlays', WHERE WHAT IT READS IS OF BULK AT MOST 1048576: true; the input reads as it did. -/
def indexPlaysUptoRow : OpenClaim := { program := "ytfgpmbahekcoeaa", sum := "2de0807cfa2aa95b9a706fed79f37517072d769c6d7c55308f660a1823afeeb4", func := "gangway/gangwaylaw13.IndexPlays", spec := "indexPlays", unfollowed := true, recurses := true, apart := false, narrowed := true }
def IndexPlaysUptoSaid : Prop := indexPlaysUptoRow.holds Try.pinned (OpenSpec.upto indexPlaysSpec)

end Rows
end Go.Proofs.Ytfgpmbahekcoeaa
