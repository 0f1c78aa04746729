/- The document's heap in memory; place, Get, Set. An item is (handle, v) here. No condition. -/
import Derived.Test.YtfgpmbahekcoeaaHeapE
namespace Go.Proofs.Ytfgpmbahekcoeaa
open Go.RowKit
/-- The document's heap of a kind, with the items R and the next handle. -/
structure RefIs (G : Nat → Prop) (rh : Nat) (kind : Int) (R : List It) (next : Int) (w : World) : Prop where
  ex : ∃ sv, w.heap[rh]? = some (.cells #[.int .i64 kind, sv, .int .i64 next] 56 (0, 0)) ∧ Row w 65 2 sv R.length (flat R) ∧ ∀ b, sv.ownBlock = some b → G b ∧ b ≠ rh
  gh : G rh
  bd : ∀ b, G b → b < w.heap.size
  len : R.length ≤ 65536
theorem RefIs.fr {G : Nat → Prop} {rh : Nat} {kind next : Int} {R : List It} {w w' : World} {F : Nat → Prop} (h : RefIs G rh kind R next w) (hf : Fr F w w') (hn : ∀ b, G b → ¬ F b) : RefIs G rh kind R next w' := by
  obtain ⟨sv, h1, h2, h3⟩ := h.ex
  exact ⟨⟨sv, hf.get h1 (hn _ h.gh), Row.fr h2 hf (fun b hb => hn b (h3 b hb).1), h3⟩, h.gh, fun b hb => Nat.lt_of_lt_of_le (h.bd b hb) hf.size, h.len⟩
theorem row_cells {w : World} {t : TypeId} {sv : Value} {R : List It} (h : Row w t 2 sv R.length (flat R)) : ∃ a c, sv = .slice a R.length c ∧ ∀ i, i < R.length → ∃ g, a = some ⟨g, 0, none⟩ ∧ w.cell? ⟨g, i * 2, none⟩ = some (.int .i64 (itAt R i).1) ∧ w.cell? ⟨g, i * 2 + 1, none⟩ = some (.int .i64 (itAt R i).2) := by
  rcases h.2 with ⟨rfl, h0⟩ | ⟨g, cap, cur, rfl, hg, h1, h2, h3, h4, h5⟩
  · exact ⟨none, 0, by rw [h0], fun i hi => by omega⟩
  · refine ⟨_, _, rfl, fun i hi => ⟨g, rfl, ?_⟩⟩
    have := cells2_of_take h5 i hi
    exact ⟨(cell_of h1 _).trans this.1, (cell_of h1 _).trans this.2⟩
/-- The place of a handle: the first, or -1. -/
def RefAt (R : List It) (hd at_ : Int) : Prop := (at_ = -1 ∧ ∀ i, i < R.length → (itAt R i).1 ≠ hd) ∨ ∃ k : Nat, at_ = k ∧ k < R.length ∧ (itAt R k).1 = hd ∧ ∀ i, i < k → (itAt R i).1 ≠ hd
section
variable {G : Nat → Prop} {rh : Nat} {kind next : Int} {R : List It} {w : World}
set_option maxRecDepth 100000 in
theorem place_ok (h : RefIs G rh kind R next w) (hd : Int) : Calls Try.prog 87 #[.pointer (some ⟨rh, 0, none⟩), .int .i64 hd] w fun e w' => ∃ a, e = .returned (.int .i64 a) ∧ RefAt R hd a ∧ w = w' := by
  obtain ⟨sv, h1, h2, h3⟩ := h.ex
  obtain ⟨a, c, rfl, hc⟩ := row_cells h2
  have c1 := cell_of h1 1
  simp at c1
  have hlen := h.len
  have HC := Lib.hid hc; have Hlen := Lib.hid hlen
  clear h h1 h2 h3 hc hlen
  go_enter Try.func87, Try.ntmps87
  go_wp2_with fail
  go_loopw [5] (fun s wr => ∃ k : Nat, k ≤ R.length ∧ s = .int .i64 k ∧ (∀ i, i < k → (itAt R i).1 ≠ hd) ∧ w = wr) (fun s _ => R.length - (intOf s).toNat)
  case atStart => exact ⟨0, by omega, rfl, fun i hi => by omega, rfl⟩
  case round =>
    obtain ⟨k, hk, rfl, hno, rfl⟩ := hrel
    have HN := Lib.hid hno; clear hno
    have Hk := Lib.hid hk
    by_cases hlt : k < R.length
    · obtain ⟨g, rfl, d0, d1⟩ := HC.out k hlt
      have hl1 : (k : Int) < (R.length : Int) := by omega
      have hl0 : (0 : Int) ≤ (k : Int) := by omega
      have hl2 : (k : Int) ≤ 70000 := by have := Hlen.out; omega
      have Hlt := Lib.hid hlt
      clear hlt hk
      by_cases he : (itAt R k).1 = hd
      · have hb : ((itAt R k).1 == hd) = true := by simpa using he
        have He := Lib.hid he; clear he
        go_wp2_with fail
        go_ret
        exact ⟨_, rfl, .inr ⟨k, rfl, Hlt.out, He.out, HN.out⟩, rfl⟩
      · have hb : ((itAt R k).1 == hd) = false := by simpa using he
        have He := Lib.hid he; clear he
        go_wp2_with fail
        go_roundw
        case rel =>
          refine ⟨k + 1, Hlt.out, by simp, ?_, by first | rfl | trivial⟩
          intro i hi
          rcases Nat.lt_succ_iff_lt_or_eq.1 hi with h | h
          · exact HN.out i h
          · subst h; exact He.out
        case measure => have := Hlt.out; simp [intOf]; omega
    · have hl1 : ¬ (k : Int) < (R.length : Int) := by omega
      have hno : ∀ i, i < R.length → (itAt R i).1 ≠ hd := fun i hi => HN.out i (by omega)
      have HNO := Lib.hid hno; clear hno hlt hk
      go_wp2_with fail
      go_ret
      exact ⟨_, rfl, .inl ⟨rfl, HNO.out⟩, rfl⟩
end
end Go.Proofs.Ytfgpmbahekcoeaa
