/- The ways in which the laws of layer 12 hold numbers against one another. Conditions: numbers fit an int. -/
import Derived.Test.YtfgpmbahekcoeaaHeapE
import Derived.Test.YtfgpmbahekcoeaaPick
namespace Go.Proofs.Ytfgpmbahekcoeaa
open Go.RowKit
def xorI (a b : Int) : Int := bits .xor .i64 a b
def lessK (k a b : Int) : Bool :=
  if k = 0 then decide (a < b) else if k = 1 then decide (b < a) else if k = 2 then decide (a.tdiv 4 < b.tdiv 4) else if k = 3 then false else if k = 4 then true else if k = 5 then decide (a ≤ b) else (xorI a b).tmod 3 == 1
theorem less_ok (k a b : Int) (hk : 0 ≤ k) (hk2 : k < 7) (ha : Fits a) (hb : Fits b) (w : World) :
    Calls Try.prog 83 #[.int .i64 k, .int .i64 a, .int .i64 b] w fun e w' => e = .returned (.bool (lessK k a b)) ∧ w = w' := by
  obtain ⟨a1, a2⟩ := ha
  obtain ⟨b1, b2⟩ := hb
  rcases (by omega : k = 0 ∨ k = 1 ∨ k = 2 ∨ k = 3 ∨ k = 4 ∨ k = 5 ∨ k = 6) with rfl | rfl | rfl | rfl | rfl | rfl | rfl
  all_goals
    go_enter Try.func83, Try.ntmps83
    go_wp2
  all_goals try (go_ret; exact ⟨by simp [lessK, xorI], rfl⟩)
/-- Block bk holds the kind k. -/
def KindAt (bk : Nat) (k : Int) (w : World) : Prop := w.heap[bk]? = some (.cells #[.int .i64 k] 3 (0, 0))
abbrev ordFn (bk : Nat) : Value := .func (.func 82) #[] #[.pointer (some ⟨bk, 0, none⟩)]
theorem ord_less (bk : Nat) (k : Int) (hk : 0 ≤ k) (hk2 : k < 7) : LessOk Try.prog (ordFn bk) (lessK k) (KindAt bk k) (fun b => b = bk) Fits 82 #[.pointer (some ⟨bk, 0, none⟩)] where
  eq := rfl
  enter := fun args w => Try.call82 args w
  call := by
    intro w x y hj hx hy
    have c0 := cell_of hj 0
    simp at c0
    have Hj := Lib.hid hj
    clear hj
    show Calls Try.prog 82 #[.int .i64 x, .int .i64 y, .pointer (some ⟨bk, 0, none⟩)] w _
    have Hx := Lib.hid hx; have Hy := Lib.hid hy
    clear hx hy
    go_enter Try.func82, Try.ntmps82
    go_wp2_with fail
    refine (less_ok k x y hk hk2 Hx.out Hy.out _).mono ?_
    rintro e w' ⟨rfl, rfl⟩
    go_wp2_with fail
    go_ret
    exact ⟨rfl, Hj.out, Fr.refl _ _⟩
  keep := fun w w' hj hf => hf.get hj (by simp)
  bound := fun w b hj hb => by subst hb; exact lt_of_block hj
theorem orders_ok (kind : Int) (hf : Fits kind) (w : World) :
    Calls Try.prog 52 #[.int .i64 kind] w fun e w' => ∃ bk, e = .returned (.tuple #[ordFn bk, .bool (decide (kind % 7 < 4))]) ∧ w.heap.size ≤ bk ∧ KindAt bk (kind % 7) w' ∧ Fr (fun _ => False) w w' := by
  obtain ⟨a1, a2⟩ := hf
  go_enter Try.func52, Try.ntmps52
  go_wp2_with fail
  refine (pick_ok kind 7 _ a1 a2 (by omega) (by omega)).mono ?_
  rintro e w' ⟨rfl, rfl⟩
  obtain ⟨k, hk⟩ : ∃ k, k = kind % 7 := ⟨_, rfl⟩
  rw [← hk]
  have Hk := Lib.hid hk
  clear hk
  go_wp2_with fail
  go_quiet (fail)
  go_wp2_with fail
  go_ret2
  rw [← Hk.out]
  refine ⟨w.heap.size, rfl, by omega, ?_, (Fr.alloc (Fr.refl _ _) _).drewN _⟩
  exact heap_alloc_at _ _
end Go.Proofs.Ytfgpmbahekcoeaa
