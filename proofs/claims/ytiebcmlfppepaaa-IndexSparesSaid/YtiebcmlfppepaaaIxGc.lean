/- IndexGraves: the walk. No condition. -/
import Derived.Test.YtiebcmlfppepaaaIxGb
import Derived.Deep.Draws
namespace Go.Proofs.Ytiebcmlfppepaaa.Ix
open Go.RowKit
/-- An index of one's own, and the ids that are held beside it. -/
structure GrAt (w : World) (bh g N m : Nat) (v : Value) (H : List Nat) (L : List (Nat × Int)) (st : Nat) (w' : World) : Prop where
  ix : NewIx w w' bh g N m L st
  que : QueAt w' v H
  hold : Hold L H
  own : ∀ b, v.ownBlock = some b → w.heap.size ≤ b ∧ b ≠ bh ∧ b ≠ g
section gr
variable {w w1 w2 : World} {bh g N m st st' : Nat} {L L' : List (Nat × Int)} {v : Value} {H : List Nat}
theorem GrAt.fr (h : GrAt w bh g N m v H L st w1) (f : Fr (fun _ => False) w1 w2) : GrAt w bh g N m v H L st w2 :=
  ⟨h.ix.then (h.ix.at_.fr f (fun h => h) (fun h => h)) f (fun _ h => h.elim), h.que.fr f (fun _ _ h => h), h.hold, h.own⟩
theorem GrAt.step {H' : List Nat} (h : GrAt w bh g N m v H L st w1) (k : IxAt w2 bh g N m L' st') (f : Fr (fun b => b = bh ∨ b = g) w1 w2) (hh : Hold L' H') (hq : QueAt w1 v H → QueAt w1 v H') : GrAt w bh g N m v H' L' st' w2 :=
  ⟨h.ix.then k f (fun b hb => by rcases hb with e | e <;> simp [e]), (hq h.que).fr f (fun b hb e => by have := (h.own b hb).2; rcases e with e | e <;> simp [e] at this), hh, h.own⟩
theorem GrAt.few (h : GrAt w bh g N m v H L st w1) : H.length ≤ m ∧ H.length ≤ 4096 := by
  have := h.ix.at_.load; have := h.ix.at_.few; have := h.hold.len; omega
end gr
theorem GrAt.fr2 {w : World} {bh g N m : Nat} {v : Value} {H : List Nat} {L : List (Nat × Int)} {st : Nat} {w1 w2 : World} (h : GrAt w bh g N m v H L st w1) {F : Nat → Prop} (f : Fr F w1 w2) (h1 : ¬ F bh) (h2 : ¬ F g) (h3 : ∀ b, v.ownBlock = some b → ¬ F b) (h4 : ∀ b, F b → w.heap.size ≤ b) : GrAt w bh g N m v H L st w2 :=
  ⟨h.ix.then (h.ix.at_.fr f h1 h2) f (fun b hb => .inr (.inr (h4 b hb))), h.que.fr f h3, h.hold, h.own⟩
theorem told_at {w : World} {bh g N m st : Nat} {L : List (Nat × Int)} (h : IxAt w bh g N m L st) : Calls Try.prog 9 #[.pointer (some ⟨bh, 0, none⟩)] w (ToldOf w L) :=
  told_ok (by have := h.few; omega) h.ids (fun w2 f => all_ok (h.fr f (fun h => h) (fun h => h)))
theorem n_neg : ¬ (0 : Int) ≤ -1 ∧ decide ((0 : Int) ≤ -1) = false := ⟨by decide, by decide⟩
theorem same_limbs {w : World} {va vb : Value} {n : Nat} {A : List Nat} (ha : Row w 38 1 va n (A.map u64v)) (hb : Row w 38 1 vb n (A.map u64v)) (hn : n ≤ 8192) : Calls Try.prog 13 #[va, vb] w fun e w' => e = .returned (.bool true) ∧ Fr (fun _ => False) w w' := by
  refine (sameLimbs_ok ha hb (by omega) (by omega)).mono ?_
  rintro e w' ⟨rfl, f⟩
  exact ⟨by rw [decide_eq_true rfl], f⟩
theorem same_ints {w : World} {va vb : Value} {n : Nat} {A : List Int} (ha : Row w 3 1 va n (A.map i64v)) (hb : Row w 3 1 vb n (A.map i64v)) (hn : n ≤ 8192) : Calls Try.prog 14 #[va, vb] w fun e w' => e = .returned (.bool true) ∧ Fr (fun _ => False) w w' := by
  refine (sameInts_ok ha hb (by omega) (by omega)).mono ?_
  rintro e w' ⟨rfl, f⟩
  exact ⟨by rw [decide_eq_true rfl], f⟩
theorem mod3 (x : Nat) : (x : Int).tmod 3 = ((x % 3 : Nat) : Int) ∧ (x : Int) % 3 = ((x % 3 : Nat) : Int) := ⟨by rw [Int.tmod_eq_emod_of_nonneg (by omega)]; omega, by omega⟩
theorem fits12 (n : Int) : Fits (n.tmod 12) := by
  unfold Fits
  rw [Int.tmod_eq_emod]
  split <;> omega
theorem wrap_fits {x : Int} (h : Fits x) : wrap64 x = x ∧ IntKind.i64.wrap x = x := by
  obtain ⟨h1, h2⟩ := h
  exact ⟨by unfold wrap64; omega, by rw [IntKind.wrap_i64]; omega⟩
/-- Is an id among the first j? -/
def amongH (H : List Nat) (id j : Nat) : Bool := (H.take j).any fun x => x == id
theorem amongH_zero (H : List Nat) (id : Nat) : amongH H id 0 = false := by simp [amongH]
theorem amongH_succ {H : List Nat} {id j : Nat} (h : j < H.length) : amongH H id (j + 1) = (amongH H id j || (H.getD j 0 == id)) := by
  unfold amongH
  rw [List.take_add_one, List.any_append, List.getElem?_eq_getElem h]; simp [h]
theorem amongH_all {L : List (Nat × Int)} {H : List Nat} (h : Hold L H) (id : Nat) : amongH H id H.length = (look L id).isSome := by
  unfold amongH
  rw [List.take_length, Bool.eq_iff_iff, List.any_eq_true, ← h.mem]
  constructor
  · rintro ⟨x, hx, e⟩
    have : x = id := by simpa using e
    exact this ▸ hx
  · exact fun hx => ⟨id, hx, by simp⟩
end Go.Proofs.Ytiebcmlfppepaaa.Ix
