/- BitsSeeks' walk. Condition: the table of math/bits. -/
import Derived.Test.YticcjnfninhjlaaDoorBitP
import Derived.Test.YticcjnfninhjlaaDoorArgi
import Derived.Test.YticcjnfninhjlaaDoorPick
namespace Go.Proofs.YticcjnfninhjlaaDoor.Bt
open Go.RowKit
theorem put_some {w : World} {bh : Nat} {v : Value} {B : List Bool} (h : SetAt w bh v B) (hne : v.ownBlock ≠ some bh) (i : Int) : Calls Tryd.prog 10 #[.pointer (some ⟨bh, 0, none⟩), .int .i64 i] w fun e w' => ∃ r C, e = .returned (.int .i64 r) ∧ C.length = B.length ∧ SetAt w' bh v C ∧ Fr (fun b => v.ownBlock = some b) w w' := by
  by_cases hi : 0 ≤ i ∧ i < (B.length : Int)
  · obtain ⟨j, rfl⟩ : ∃ j : Nat, i = (j : Int) := ⟨i.toNat, by omega⟩
    refine (put_in h hne (j := j) (by omega)).mono ?_
    rintro e w' ⟨rfl, h1, h2⟩
    exact ⟨0, _, rfl, by simp, h1, h2⟩
  · refine (put_out h (i := i) (by omega)).mono ?_
    rintro e w' ⟨rfl, rfl⟩
    exact ⟨2, B, rfl, rfl, h, Fr.refl _ _⟩
/-- What a search tells. -/
theorem seek_facts (b : Bool) (B : List Bool) (i : Int) : (seekI b B i = -1 ∧ ∀ k : Nat, i ≤ (k : Int) → k < B.length → B.getD k false ≠ b) ∨
    ∃ q : Nat, seekI b B i = (q : Int) ∧ i ≤ (q : Int) ∧ q < B.length ∧ B.getD q false = b ∧ ∀ k : Nat, i ≤ (k : Int) → k < B.length → B.getD k false = b → q ≤ k := by
  cases h : seekO b B i.toNat with
  | none => exact .inl ⟨seekI_none h, fun k h1 h2 => seekO_none h k (by omega) h2⟩
  | some q =>
    obtain ⟨a1, a2, a3, a4⟩ := seekO_some h
    refine .inr ⟨q, seekI_some h, by omega, a2, a3, fun k h1 h2 h3 => ?_⟩
    apply Nat.le_of_not_lt
    intro hlt
    exact a4 k (by omega) hlt h3
end Go.Proofs.YticcjnfninhjlaaDoor.Bt
