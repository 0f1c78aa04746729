/- Parties: what is asked of a cabin and a set; the runs, plain. No condition. -/
import Derived.Test.YthckfbfenfkdiaaDoorPyD
import Derived.Test.YthckfbfenfkdiaaDoorBitG
import Derived.Test.YthckfbfenfkdiaaDoorBitH
namespace Go.Proofs.YthckfbfenfkdiaaDoor.Py
open Go.RowKit St Bt
/-- Which seats are free. -/
def freeF (B : List Bool) (j : Nat) : Bool := !B.getD j false
/-- Where the search within a block stands. -/
structure At (B : List Bool) (Bg : Nat → Bool) (f e a : Nat) : Prop where
  fa : f ≤ a
  ae : a ≤ e
  eb : e ≤ B.length
  beg : Bg f = true
  none : ∀ j, f < j → j < e → Bg j = false
  at_ : a = f ∨ a = e ∨ B.getD a false = true
theorem At.rest {B : List Bool} {Bg : Nat → Bool} {f e a : Nat} (h : At B Bg f e a) (hf : ∀ j, a ≤ j → j < e → B.getD j false ≠ false) : runs (freeF B) Bg e = runs (freeF B) Bg a :=
  runs_none h.ae (fun j h1 h2 => by have := hf j h1 h2; unfold freeF; cases hb : B.getD j false <;> simp_all)
theorem At.run {B : List Bool} {Bg : Nat → Bool} {f e a x y : Nat} (h : At B Bg f e a) (h1 : a ≤ x) (h2 : x < y) (h3 : y ≤ e) (hx : B.getD x false = false) (hn : ∀ j, a ≤ j → j < x → B.getD j false ≠ false) (hr : ∀ j, x ≤ j → j < y → B.getD j false ≠ true) (hy : y = e ∨ B.getD y false = true) :
    At B Bg f e y ∧ runs (freeF B) Bg y = runs (freeF B) Bg a ++ [(x, y - x)] := by
  obtain ⟨k1, k2, k3, k4, k5, k6⟩ := h
  refine ⟨⟨by omega, h3, k3, k4, k5, by rcases hy with h | h; exact .inr (.inl h); exact .inr (.inr h)⟩, ?_⟩
  have e1 : runs (freeF B) Bg x = runs (freeF B) Bg a := runs_none h1 (fun j g1 g2 => by have := hn j g1 g2; unfold freeF; cases hb : B.getD j false <;> simp_all)
  rw [← e1]
  refine runs_step h2 (fun j g1 g2 => ?_) (fun j g1 g2 => k5 j (by omega) (by omega)) ?_
  · have := hr j g1 g2
    unfold freeF; cases hb : B.getD j false <;> simp_all
  · by_cases e2 : x = a
    · subst e2
      rcases k6 with k6 | k6 | k6
      · right; right; rw [k6]; exact k4
      · omega
      · rw [hx] at k6; cases k6
    · right; left
      have := hn (x - 1) (by omega) (by omega)
      unfold freeF; cases hb : B.getD (x - 1) false <;> simp_all
set_option maxRecDepth 100000 in
set_option maxHeartbeats 1000000 in
theorem checked_arg {w : World} {sv : Value} {L : List Int} (h : RI w sv L) {r v : Int} (hq : rightB r v L = false) (p : Option Addr) : Calls Tryd.prog 19 #[.agg #[.int .i64 r, .int .i64 v, sv], .pointer p] w fun e w' => e = .returned (.int .i64 2) ∧ Fr (fun _ => False) w w' := by
  have H := Lib.hid h
  have HQ := Lib.hid hq
  clear h hq
  go_enter Tryd.func19, Tryd.ntmps19
  go_wp2_with fail
  refine (seats_no (H.out.keep (Fr.alloc (Fr.refl _ _) _)) HQ.out).mono ?_
  rintro e w1 ⟨rfl, hf⟩
  have HF := Lib.hid ((Fr.alloc (Fr.refl (fun _ => False) w) (.cells #[.int .i64 r, .int .i64 v, sv] 24)).trans hf (fun _ _ h => h))
  clear hf
  go_wp2_with fail
  go_ret
  exact ⟨rfl, HF.out⟩
set_option maxRecDepth 100000 in
set_option maxHeartbeats 1000000 in
theorem checked_nil {w : World} {sv : Value} {L : List Int} (h : RI w sv L) {r v : Int} (hq : rightB r v L = true) {p : Option Addr} (hp : NoSet w p) : Calls Tryd.prog 19 #[.agg #[.int .i64 r, .int .i64 v, sv], .pointer p] w fun e w' => e = .returned (.int .i64 1) ∧ Fr (fun _ => False) w w' := by
  have H := Lib.hid h
  have HQ := Lib.hid hq
  have HP := Lib.hid hp
  clear h hq hp
  go_enter Tryd.func19, Tryd.ntmps19
  go_wp2_with fail
  refine (seats_ok (H.out.keep (Fr.alloc (Fr.refl _ _) _)) HQ.out).mono ?_
  rintro e w1 ⟨rfl, hf⟩
  have hf' := (Fr.alloc (Fr.refl (fun _ => False) w) (.cells #[.int .i64 r, .int .i64 v, sv] 24)).trans hf (fun _ _ h => h)
  have HF := Lib.hid hf'
  have HP1 : Hid (NoSet w1 p) := Lib.hid (by
    rcases HP.out with h | ⟨b, v1, v2, e, h⟩
    · exact .inl h
    · exact .inr ⟨b, v1, v2, e, hf'.get h id⟩)
  clear hf hf'
  go_wp2_with fail
  refine (copy_no HP1.out).mono ?_
  rintro e w2 ⟨rfl, rfl⟩
  go_wp2_with fail
  go_ret
  exact ⟨rfl, HF.out⟩
set_option maxRecDepth 100000 in
set_option maxHeartbeats 1000000 in
theorem checked_any {w : World} {sv : Value} {L : List Int} (h : RI w sv L) {r v : Int} (hq : rightB r v L = true) {bh : Nat} {bv : Value} {B : List Bool} (hB : SetAt w bh bv B) {q : Bool} (hl : decide ((B.length : Int) = r * v) = q) : Calls Tryd.prog 19 #[.agg #[.int .i64 r, .int .i64 v, sv], .pointer (some ⟨bh, 0, none⟩)] w fun e w' => e = .returned (.int .i64 (if q then 0 else 3)) ∧ Fr (fun _ => False) w w' := by
  have H := Lib.hid h
  have HQ := Lib.hid hq
  have HB := Lib.hid hB
  obtain ⟨n, hn, hn1, hn2⟩ := seatsI r v (right_size hq)
  have HN := Lib.hid hn
  rw [hn] at hl
  have hl1 : ((B.length : Int) != (n : Int)) = !q := by
    rw [← hl]
    by_cases e : (B.length : Int) = (n : Int)
    · rw [e]; simp
    · rw [decide_eq_false e]; simpa using e
  have HL := Lib.hid hl1
  clear h hq hB hl hn hl1
  go_enter Tryd.func19, Tryd.ntmps19
  go_wp2_with fail
  refine (seats_ok (H.out.keep (Fr.alloc (Fr.refl _ _) _)) HQ.out).mono ?_
  rintro e w1 ⟨rfl, hf⟩
  have hf' := (Fr.alloc (Fr.refl (fun _ => False) w) (.cells #[.int .i64 r, .int .i64 v, sv] 24)).trans hf (fun _ _ h => h)
  have HF := Lib.hid hf'
  have HB1 := Lib.hid (HB.out.fr hf' id (fun _ _ h => h))
  rw [HN.out]
  clear hf hf'
  go_wp2_with fail
  refine (copy_ok HB1.out).mono ?_
  rintro e w2 ⟨bh', v', rfl, hN⟩
  have HF2 := Lib.hid (HF.out.trans hN.fr (fun _ _ h => h))
  have HB2 := Lib.hid (HB1.out.fr hN.fr id (fun _ _ h => h))
  clear hN
  go_wp2_with fail
  refine (bound_ok HB2.out).mono ?_
  rintro e w3 ⟨rfl, rfl⟩
  have hl1 := HL.out
  cases q
  · go_wp2_with fail
    go_ret
    exact ⟨rfl, HF2.out⟩
  · go_wp2_with fail
    go_ret
    exact ⟨rfl, HF2.out⟩
end Go.Proofs.YthckfbfenfkdiaaDoor.Py
