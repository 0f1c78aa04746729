/- Two pairs of heaps side by side. No condition. -/
import Derived.Test.YtfgpmbahekcoeaaIs
namespace Go.Proofs.Ytfgpmbahekcoeaa
open Go.RowKit
theorem and1 (x : Int) : bits .and .i64 x 1 = 0 ∨ bits .and .i64 x 1 = 1 := by
  unfold bits
  simp only [IntKind.wrap_i64]
  have h1 : (BitVec.ofInt IntKind.i64.bits 1).toNat = 1 := by decide
  rw [BitVec.toNat_and, h1, Nat.and_one_is_mod]
  omega
theorem PairIs.nx {G : Nat → Prop} {bk bh rh : Nat} {k next : Int} {L R : List It} {w : World} (h : PairIs G bk bh rh k L R next w) : 0 ≤ next := by
  obtain ⟨G1, G2, h1, _⟩ := h.ex
  exact h1.nx
theorem PairIs.nextCell {G : Nat → Prop} {bk bh rh : Nat} {k next : Int} {L R : List It} {w : World} (h : PairIs G bk bh rh k L R next w) : w.cell? ⟨rh, 2, none⟩ = some (.int .i64 next) := by
  obtain ⟨G1, G2, h1, h2, _⟩ := h.ex
  obtain ⟨sv, hr, _⟩ := h2.ex
  exact (cell_of hr 2).trans (by simp)
/-- A pair's places: the kind's block, the heap, the document's heap, the kind. -/
abbrev Pl := Nat × Nat × Nat × Int
abbrev PairAt (G : Nat → Prop) (a : Pl) (L R : List It) (n : Int) (w : World) : Prop := PairIs G a.1 a.2.1 a.2.2.1 a.2.2.2 L R n w
structure Duo (n0 bt : Nat) (i : Nat) (a b : Pl) (wr : World) : Prop where
  ex : ∃ G1 L1 R1 n1 G2 L2 R2 n2, PairAt G1 a L1 R1 n1 wr ∧ PairAt G2 b L2 R2 n2 wr ∧ (∀ x, G1 x → ¬ G2 x) ∧ (∀ x, G1 x → n0 ≤ x ∧ x ≠ bt) ∧ (∀ x, G2 x → n0 ≤ x ∧ x ≠ bt) ∧ n1 ≤ (i : Int) ∧ n2 ≤ (i : Int)
theorem Duo.symm {n0 bt i : Nat} {a b : Pl} {wr : World} (h : Duo n0 bt i a b wr) : Duo n0 bt i b a wr := by
  obtain ⟨G1, L1, R1, n1, G2, L2, R2, n2, p1, p2, d, s1, s2, b1, b2⟩ := h.ex
  exact ⟨G2, L2, R2, n2, G1, L1, R1, n1, p2, p1, fun x h2 h1 => d x h1 h2, s2, s1, b2, b1⟩
theorem Duo.fr {n0 bt i : Nat} {a b : Pl} {w w' : World} (h : Duo n0 bt i a b w) (f : Fr (fun _ => False) w w') : Duo n0 bt i a b w' := by
  obtain ⟨G1, L1, R1, n1, G2, L2, R2, n2, p1, p2, d, s1, s2, b1, b2⟩ := h.ex
  exact ⟨G1, L1, R1, n1, G2, L2, R2, n2, PairIs.fr p1 f (fun _ _ h => h), PairIs.fr p2 f (fun _ _ h => h), d, s1, s2, b1, b2⟩
/-- One pair's step leaves the other as it was. -/
theorem Duo.step {n0 bt i : Nat} {a b : Pl} {w w' : World} {G1 G2 : Nat → Prop} {L1 R1 L2 R2 : List It} {n1 n2 : Int} (_ : PairAt G1 a L1 R1 n1 w) (p2 : PairAt G2 b L2 R2 n2 w)
    (d : ∀ x, G1 x → ¬ G2 x) (s1 : ∀ x, G1 x → n0 ≤ x ∧ x ≠ bt) (s2 : ∀ x, G2 x → n0 ≤ x ∧ x ≠ bt) (b1 : n1 ≤ (i : Int)) (b2 : n2 ≤ (i : Int)) (hbt : bt < w.heap.size) (hn0 : n0 ≤ w.heap.size)
    {G' : Nat → Prop} {L' R' : List It} {n' : Int} (q : PairAt G' a L' R' n' w') (hn : n' ≤ n1 + 1) (f : Fr G1 w w') (g : Grew w G1 G') : Duo n0 bt (i + 1) a b w' := by
  refine ⟨G', L', R', n', G2, L2, R2, n2, q, PairIs.fr p2 f (fun x h2 h1 => d x h1 h2), ?_, ?_, s2, by omega, by omega⟩
  · intro x hx h2
    rcases g x hx with h | h
    · exact d x h h2
    · have := p2.bd x h2; omega
  · intro x hx
    rcases g x hx with h | h
    · exact s1 x h
    · exact ⟨by omega, by omega⟩
/-- The array of both. -/
abbrev duoCells (a b : Pl) : Array Value := #[.pointer (some ⟨a.2.1, 0, none⟩), .pointer (some ⟨a.2.2.1, 0, none⟩), .bool (decide (a.2.2.2 < 4)), .pointer (some ⟨b.2.1, 0, none⟩), .pointer (some ⟨b.2.2.1, 0, none⟩), .bool (decide (b.2.2.2 < 4))]
theorem pick_any (x n : Int) (w : World) (hx : Fits x) (hn : 1 ≤ n) (hn2 : n ≤ 1099511627776) :
    Calls Try.prog 15 #[.int .i64 x, .int .i64 n] w fun e w' => ∃ m, e = .returned (.int .i64 m) ∧ 0 ≤ m ∧ m < n ∧ w = w' := by
  refine (pick_ok x n w hx.1 hx.2 hn hn2).mono ?_
  rintro e w' ⟨rfl, rfl⟩
  exact ⟨_, rfl, Int.emod_nonneg x (by omega), Int.emod_lt_of_pos x (by omega), rfl⟩
end Go.Proofs.Ytfgpmbahekcoeaa
