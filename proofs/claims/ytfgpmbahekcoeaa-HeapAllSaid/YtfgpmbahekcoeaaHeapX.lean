/- The heap's methods where what they answer does not matter. Condition: a small next handle, numbers that fit. -/
import Derived.Test.YtfgpmbahekcoeaaTwo
namespace Go.Proofs.Ytfgpmbahekcoeaa
open Go.RowKit
section
variable {J : World → Prop} {FJ : Nat → Prop} {A : Int → Prop} {fv : Value} {G : Nat → Prop} {bh : Nat} {L : List It} {next : Int} {w : World}
variable {lt : Int → Int → Bool} {fl : Nat} {caps : Array Value} (hL : LessOk Try.prog fv lt J FJ A fl caps)
include hL
theorem pop_any (h : HeapIs J FJ A fv G bh L next w) : Calls Try.prog 25 #[.pointer (some ⟨bh, 0, none⟩)] w fun e w' => ∃ v m ok L', e = .returned (.tuple #[.int .i64 v, .int .i64 m, .bool ok]) ∧ HeapIs J FJ A fv G bh L' next w' ∧ Fr (fun b => FJ b ∨ G b) w w' := by
  by_cases h0 : L = []
  · subst h0
    refine (pop_none hL h).mono ?_
    rintro e w' ⟨rfl, rfl⟩
    exact ⟨0, 0, false, _, rfl, h, Fr.refl _ _⟩
  · refine (pop_some hL h (List.length_pos_iff.2 h0)).mono ?_
    rintro e w' ⟨rfl, h1, f1⟩
    exact ⟨_, _, _, _, rfl, h1, f1⟩
theorem push_any (h : HeapIs J FJ A fv G bh L next w) (hx : next < 1000000000) {v : Int} (hv : A v) : Calls Try.prog 26 #[.pointer (some ⟨bh, 0, none⟩), .int .i64 v] w fun e w' => ∃ a er L' n' G', e = .returned (.tuple #[.int .i64 a, .int .i64 er]) ∧ n' ≤ next + 1 ∧ HeapIs J FJ A fv G' bh L' n' w' ∧ Fr (fun b => FJ b ∨ G b) w w' ∧ Grew w G G' := by
  by_cases h0 : L.length = 65536
  · refine (push_full hL h h0 v).mono ?_
    rintro e w' ⟨rfl, rfl⟩
    exact ⟨_, _, L, next, G, rfl, by omega, h, Fr.refl _ _, fun _ h => .inl h⟩
  · refine (push_room hL h (by have := h.len; omega) hx hv).mono ?_
    rintro e w' ⟨rfl, G', h1, f1, g1⟩
    exact ⟨_, _, _, _, G', rfl, by omega, h1, f1, g1⟩
theorem set_any (h : HeapIs J FJ A fv G bh L next w) (n : Int) {v : Int} (hv : A v) : Calls Try.prog 27 #[.pointer (some ⟨bh, 0, none⟩), .int .i64 n, .int .i64 v] w fun e w' => ∃ b L', e = .returned (.bool b) ∧ HeapIs J FJ A fv G bh L' next w' ∧ Fr (fun b => FJ b ∨ G b) w w' := by
  by_cases hh : ∃ i, i < L.length ∧ (itAt L i).2 = n
  · obtain ⟨i, hi, rfl⟩ := hh
    refine (set_there hL h hi hv).mono ?_
    rintro e w' ⟨rfl, h1, f1⟩
    exact ⟨_, _, rfl, h1, f1⟩
  · refine (set_gone hL h (fun i hi e => hh ⟨i, hi, e⟩) v).mono ?_
    rintro e w' ⟨rfl, rfl⟩
    exact ⟨_, _, rfl, h, Fr.refl _ _⟩
theorem drop_any (h : HeapIs J FJ A fv G bh L next w) (n : Int) : Calls Try.prog 28 #[.pointer (some ⟨bh, 0, none⟩), .int .i64 n] w fun e w' => ∃ b L', e = .returned (.bool b) ∧ HeapIs J FJ A fv G bh L' next w' ∧ Fr (fun b => FJ b ∨ G b) w w' := by
  by_cases hh : ∃ i, i < L.length ∧ (itAt L i).2 = n
  · obtain ⟨i, hi, rfl⟩ := hh
    refine (drop_there hL h hi).mono ?_
    rintro e w' ⟨rfl, h1, f1⟩
    exact ⟨_, _, rfl, h1, f1⟩
  · refine (drop_gone hL h (fun i hi e => hh ⟨i, hi, e⟩)).mono ?_
    rintro e w' ⟨rfl, rfl⟩
    exact ⟨_, _, rfl, h, Fr.refl _ _⟩
end
end Go.Proofs.Ytfgpmbahekcoeaa
