/-
  No cell of these rows narrows 'for every input' (looked for: loops, veiled, ifaces, maps, wideKeys, modest, calm, conditions, laid).
  DERIVED. THE GIVEN ROWS OF THIS SEAT. 4 by the template 'for every input the law returns true; each argument reads behind the call as it read before'; 0 by the template 'total and deterministic' (their statements: YtmmjlnicfndmcaaTotals.lean).
  GIVEN WITH THE SEED: the statements are not yours to turn. If you find one false, say at which input.
  Laid BY PROGRAM, IN A SANDBOX (cutbox-rows.mjs): the forced cells as the released guide's own fill.sh prints them over the translation 0f9a6bc0bbaeee9a… (all of the seat's roots in one cut). By AI agents, Wed Nov 11 2026. No macro, syntax, notation, axiom, sorry.
-/
import Derived.Test.YtmmjlnicfndmcaaChecked
import GoSem.Claim
import GoSem.ClaimJoined
import GoSem.ClaimMapViews
import Derived.JoinedTies
import Derived.KernelRfl
namespace Go.Proofs.Ytmmjlnicfndmcaa
/- THE CELL 'sum', in the pinned program and in every row, IS THE sha256 OF THE DUMP (.gsa) THAT YtmmjlnicfndmcaaProg.lean LOADS. Nothing in Lean hashes anything: it is a label: what it is worth is what the hold of that sum in a sandbox is worth. -/
noncomputable def Try.pinned : Pinned := { name := "ytmmjlnicfndmcaa", sum := "0f9a6bc0bbaeee9ad54871b391403305f6ed5a0f08cd170268297df3dcb3d832", checked := Try.checked }
namespace Rows
def none {H : Type} : Left H := { results := [], args := [] }

/-- 'gangwaylaw17.BookTicks': WHATEVER THE INPUT: true; the input reads as it did. -/
def bookTicksSpec : ChangeSpec := { name := "bookTicks", fn := fun _ => fun
  | [d1, d2, d3] => { results := [.lit (.bool true)], args := [d1, d2, d3] }
  | _ => none }
def bookTicksRow : OpenClaim := { program := "ytmmjlnicfndmcaa", sum := "0f9a6bc0bbaeee9ad54871b391403305f6ed5a0f08cd170268297df3dcb3d832", func := "gangway/gangwaylaw17.BookTicks", spec := "bookTicks", unfollowed := true, recurses := true, apart := false }
def BookTicksSaid : Prop := bookTicksRow.holds Try.pinned (OpenSpec.ofChange bookTicksSpec)

/-- ITS FALSE NEIGHBOUR: 'it returns false'. Refute it at one input. -/
def bookTicksWrong : ChangeSpec := { name := "bookTicks", fn := fun _ => fun
  | [d1, d2, d3] => { results := [.lit (.bool false)], args := [d1, d2, d3] }
  | _ => none }
def BookTicksWrongFalsely : Prop := bookTicksRow.holds Try.pinned (OpenSpec.ofChange bookTicksWrong)

/-- 'gangwaylaw17.BookGoes': WHATEVER THE INPUT: true; the input reads as it did. -/
def bookGoesSpec : ChangeSpec := { name := "bookGoes", fn := fun _ => fun
  | [d1, d2, d3] => { results := [.lit (.bool true)], args := [d1, d2, d3] }
  | _ => none }
def bookGoesRow : OpenClaim := { program := "ytmmjlnicfndmcaa", sum := "0f9a6bc0bbaeee9ad54871b391403305f6ed5a0f08cd170268297df3dcb3d832", func := "gangway/gangwaylaw17.BookGoes", spec := "bookGoes", unfollowed := true, recurses := true, apart := false }
def BookGoesSaid : Prop := bookGoesRow.holds Try.pinned (OpenSpec.ofChange bookGoesSpec)

/-- ITS FALSE NEIGHBOUR: 'it returns false'. Refute it at one input. -/
def bookGoesWrong : ChangeSpec := { name := "bookGoes", fn := fun _ => fun
  | [d1, d2, d3] => { results := [.lit (.bool false)], args := [d1, d2, d3] }
  | _ => none }
def BookGoesWrongFalsely : Prop := bookGoesRow.holds Try.pinned (OpenSpec.ofChange bookGoesWrong)

/-- 'gangwaylaw17.BookSound': WHATEVER THE INPUT: true; the input reads as it did. -/
def bookSoundSpec : ChangeSpec := { name := "bookSound", fn := fun _ => fun
  | [d] => { results := [.lit (.bool true)], args := [d] }
  | _ => none }
def bookSoundRow : OpenClaim := { program := "ytmmjlnicfndmcaa", sum := "0f9a6bc0bbaeee9ad54871b391403305f6ed5a0f08cd170268297df3dcb3d832", func := "gangway/gangwaylaw17.BookSound", spec := "bookSound", unfollowed := true, recurses := true, apart := false }
def BookSoundSaid : Prop := bookSoundRow.holds Try.pinned (OpenSpec.ofChange bookSoundSpec)

/-- ITS FALSE NEIGHBOUR: 'it returns false'. Refute it at one input. -/
def bookSoundWrong : ChangeSpec := { name := "bookSound", fn := fun _ => fun
  | [d] => { results := [.lit (.bool false)], args := [d] }
  | _ => none }
def BookSoundWrongFalsely : Prop := bookSoundRow.holds Try.pinned (OpenSpec.ofChange bookSoundWrong)

/-- 'gangwaylaw17.BookBack': WHATEVER THE INPUT: true; the input reads as it did. -/
def bookBackSpec : ChangeSpec := { name := "bookBack", fn := fun _ => fun
  | [d1, d2] => { results := [.lit (.bool true)], args := [d1, d2] }
  | _ => none }
def bookBackRow : OpenClaim := { program := "ytmmjlnicfndmcaa", sum := "0f9a6bc0bbaeee9ad54871b391403305f6ed5a0f08cd170268297df3dcb3d832", func := "gangway/gangwaylaw17.BookBack", spec := "bookBack", unfollowed := true, recurses := true, apart := false }
def BookBackSaid : Prop := bookBackRow.holds Try.pinned (OpenSpec.ofChange bookBackSpec)

/-- ITS FALSE NEIGHBOUR: 'it returns false'. Refute it at one input. -/
def bookBackWrong : ChangeSpec := { name := "bookBack", fn := fun _ => fun
  | [d1, d2] => { results := [.lit (.bool false)], args := [d1, d2] }
  | _ => none }
def BookBackWrongFalsely : Prop := bookBackRow.holds Try.pinned (OpenSpec.ofChange bookBackWrong)

/- THE SECOND FORM. 'bulk': how many values and letters a reading holds, each counted each time it is reached (what is shared counts as often as it is met; a slice's spare places count too). A statement '..UptoSaid' is the law's where the arguments, and the package variables that the reading takes, are together of bulk at most 1048576: NARROWER than '..Said'. Prove '..Said' where nothing that the law and all that it calls make is longer than what came in: it says more and counts as full. Else prove '..UptoSaid'. A law counts once. -/
mutual
def uptoBulk {H : Type} : DataW H → Nat
  | .lit (.string bytes) => bytes.length + 1
  | .lit _ => 1
  | .nil => 1
  | .ptr d => uptoBulk d + 1
  | .slice elems spare => uptoBulkAll elems + uptoBulkAll spare + 1
  | .agg parts => uptoBulkAll parts + 1
  | .iface _ d => uptoBulk d + 1
  | .map entries => uptoBulkEntries entries + 1
  | .held _ => 1
def uptoBulkAll {H : Type} : List (DataW H) → Nat
  | [] => 0
  | d :: r => uptoBulk d + uptoBulkAll r
def uptoBulkEntries {H : Type} : List (Lit × DataW H) → Nat
  | [] => 0
  | x :: r => uptoBulkEntry x + uptoBulkEntries r
def uptoBulkEntry {H : Type} : Lit × DataW H → Nat
  | (.string bytes, d) => bytes.length + uptoBulk d + 1
  | (_, d) => uptoBulk d + 1
 end
def uptoSmall : (H : Type) → List (DataW H) → Bool := fun _ ds => decide (uptoBulkAll ds ≤ 1048576)
def OpenSpec.upto (s : _root_.Go.ChangeSpec) : _root_.Go.OpenSpec := { _root_.Go.OpenSpec.ofChange s with cond := some uptoSmall }

/-- 'gangwaylaw17.BookTicks', WHERE WHAT IT READS IS OF BULK AT MOST 1048576: true; the input reads as it did. -/
def bookTicksUptoRow : OpenClaim := { program := "ytmmjlnicfndmcaa", sum := "0f9a6bc0bbaeee9ad54871b391403305f6ed5a0f08cd170268297df3dcb3d832", func := "gangway/gangwaylaw17.BookTicks", spec := "bookTicks", unfollowed := true, recurses := true, apart := false, narrowed := true }
def BookTicksUptoSaid : Prop := bookTicksUptoRow.holds Try.pinned (OpenSpec.upto bookTicksSpec)

/-- 'gangwaylaw17.BookGoes', WHERE WHAT IT READS IS OF BULK AT MOST 1048576: true; the input reads as it did. -/
def bookGoesUptoRow : OpenClaim := { program := "ytmmjlnicfndmcaa", sum := "0f9a6bc0bbaeee9ad54871b391403305f6ed5a0f08cd170268297df3dcb3d832", func := "gangway/gangwaylaw17.BookGoes", spec := "bookGoes", unfollowed := true, recurses := true, apart := false, narrowed := true }
def BookGoesUptoSaid : Prop := bookGoesUptoRow.holds Try.pinned (OpenSpec.upto bookGoesSpec)

/-- 'gangwaylaw17.BookSound', WHERE WHAT IT READS IS OF BULK AT MOST 1048576: true; the input reads as it did. -/
def bookSoundUptoRow : OpenClaim := { program := "ytmmjlnicfndmcaa", sum := "0f9a6bc0bbaeee9ad54871b391403305f6ed5a0f08cd170268297df3dcb3d832", func := "gangway/gangwaylaw17.BookSound", spec := "bookSound", unfollowed := true, recurses := true, apart := false, narrowed := true }
def BookSoundUptoSaid : Prop := bookSoundUptoRow.holds Try.pinned (OpenSpec.upto bookSoundSpec)

/-- 'gangwaylaw17.BookBack', WHERE WHAT IT READS IS OF BULK AT MOST 1048576: true; the input reads as it did. -/
def bookBackUptoRow : OpenClaim := { program := "ytmmjlnicfndmcaa", sum := "0f9a6bc0bbaeee9ad54871b391403305f6ed5a0f08cd170268297df3dcb3d832", func := "gangway/gangwaylaw17.BookBack", spec := "bookBack", unfollowed := true, recurses := true, apart := false, narrowed := true }
def BookBackUptoSaid : Prop := bookBackUptoRow.holds Try.pinned (OpenSpec.upto bookBackSpec)

end Rows
end Go.Proofs.Ytmmjlnicfndmcaa
