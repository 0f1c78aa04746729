/- Parties, plain: each seat and its run. No condition. -/
import Derived.Test.YthckfbfenfkdiaaDoorPyA
namespace Go.Proofs.YthckfbfenfkdiaaDoor.Py
open St
/-- A seat lies in a run. -/
def InR (x : Sp) (j : Nat) : Prop := x.1 ≤ j ∧ j < x.1 + x.2
/-- By seat its run, from 1 on: i runs are entered, and of the next one k seats. -/
structure Cov (S : List Sp) (n i k : Nat) (A : List Int) : Prop where
  len : A.length = n
  hit : ∀ p (hp : p < S.length), p < i → ∀ j, InR S[p] j → A.getD j 0 = ((p + 1 : Nat) : Int)
  now : ∀ (hi : i < S.length) j, S[i].1 ≤ j → j < S[i].1 + k → A.getD j 0 = ((i + 1 : Nat) : Int)
  miss : ∀ j, j < n → (∀ p (hp : p < S.length), p < i → ¬ InR S[p] j) → (∀ (hi : i < S.length), ¬ (S[i].1 ≤ j ∧ j < S[i].1 + k)) → A.getD j 0 = 0
theorem Cov.start (S : List Sp) (n : Nat) : Cov S n 0 0 (List.replicate n 0) := by
  refine ⟨by simp, fun p _ hp => by omega, fun _ j h1 h2 => by omega, fun j hj _ _ => by simp [List.getD_eq_getElem?_getD, hj]⟩
theorem up_dj {S : List Sp} (h : S.Pairwise fun x y => x.1 + x.2 ≤ y.1) {p q : Nat} (hp : p < S.length) (hq : q < S.length) (hpq : p < q) : S[p].1 + S[p].2 ≤ S[q].1 := List.pairwise_iff_getElem.1 h p q hp hq hpq
theorem Cov.step {S : List Sp} {n i k : Nat} {A : List Int} (h : Cov S n i k A) (hu : S.Pairwise fun x y => x.1 + x.2 ≤ y.1) (hi : i < S.length) (hk : k < S[i].2) (hf : S[i].1 + S[i].2 ≤ n) : Cov S n i (k + 1) (A.set (S[i].1 + k) ((i + 1 : Nat) : Int)) := by
  obtain ⟨h1, h2, h3, h4⟩ := h
  have hl : S[i].1 + k < A.length := by omega
  have get : ∀ j, (A.set (S[i].1 + k) ((i + 1 : Nat) : Int)).getD j 0 = if S[i].1 + k = j then ((i + 1 : Nat) : Int) else A.getD j 0 := by
    intro j
    simp only [List.getD_eq_getElem?_getD, List.getElem?_set]
    split
    · simp
    · rfl
  refine ⟨by simpa using h1, fun p hp hpi j hj => ?_, fun hi' j hj1 hj2 => ?_, fun j hj hm1 hm2 => ?_⟩
  · rw [get, if_neg]
    · exact h2 p hp hpi j hj
    · have := up_dj hu hp hi hpi
      unfold InR at hj
      omega
  · rw [get]
    split
    · rfl
    · exact h3 hi j hj1 (by omega)
  · rw [get, if_neg]
    · exact h4 j hj hm1 (fun hi' hh => hm2 hi' ⟨hh.1, by omega⟩)
    · intro e
      exact hm2 hi ⟨by omega, by omega⟩
theorem Cov.next {S : List Sp} {n i : Nat} {A : List Int} (hi : i < S.length) (h : Cov S n i S[i].2 A) : Cov S n (i + 1) 0 A := by
  obtain ⟨h1, h2, h3, h4⟩ := h
  refine ⟨h1, fun p hp hpi j hj => ?_, fun _ j hj1 hj2 => by omega, fun j hj hm1 _ => ?_⟩
  · by_cases e : p = i
    · subst e; exact h3 hp j hj.1 hj.2
    · exact h2 p hp (by omega) j hj
  · exact h4 j hj (fun p hp hpi => hm1 p hp (by omega)) (fun hi' hh => hm1 i hi (by omega) hh)
/-- All runs are entered. -/
theorem Cov.pos {S : List Sp} {F B : Nat → Bool} {n : Nat} {A : List Int} (h : Cov S n S.length 0 A) (hr : RunsOk F B n S) {j : Nat} (hj : j < n) : decide (A.getD j 0 > 0) = F j := by
  cases hF : F j with
  | true =>
    obtain ⟨x, hx, h1, h2⟩ := (hr.free j).2 ⟨hj, hF⟩
    obtain ⟨p, hp, rfl⟩ := List.mem_iff_getElem.1 hx
    rw [h.hit p hp hp j ⟨h1, h2⟩]
    simp
  | false =>
    rw [h.miss j hj (fun p hp _ hin => ?_) (fun hi => by omega)]
    · simp
    · have := ((hr.free j).1 ⟨_, List.getElem_mem hp, hin.1, hin.2⟩).2
      rw [hF] at this; cases this
theorem Cov.same {S : List Sp} {F B : Nat → Bool} {n : Nat} {A : List Int} (h : Cov S n S.length 0 A) (hr : RunsOk F B n S) {i : Nat} (hi0 : 0 < i) (hi : i < n) (h1 : F (i - 1) = true) (h2 : F i = true) : (A.getD (i - 1) 0 == A.getD i 0) = !B i := by
  obtain ⟨x, hx, x1, x2⟩ := (hr.free (i - 1)).2 ⟨by omega, h1⟩
  obtain ⟨y, hy, y1, y2⟩ := (hr.free i).2 ⟨hi, h2⟩
  obtain ⟨p, hp, rfl⟩ := List.mem_iff_getElem.1 hx
  obtain ⟨q, hq, rfl⟩ := List.mem_iff_getElem.1 hy
  rw [h.hit p hp hp _ ⟨x1, x2⟩, h.hit q hq hq _ ⟨y1, y2⟩]
  cases hB : B i with
  | true =>
    have hne : p ≠ q := by
      intro e; subst e
      have := hr.one _ (List.getElem_mem hp) i (by omega) y2
      rw [hB] at this; cases this
    simp; omega
  | false =>
    have he : p = q := by
      rcases Nat.lt_trichotomy p q with hlt | he | hlt
      · exfalso
        have h3 := up_dj hr.up hp hq hlt
        have h4 := List.pairwise_iff_getElem.1 hr.sep p q hp hq hlt (by omega)
        have e : S[q].1 = i := by omega
        rw [e, hB] at h4; cases h4
      · exact he
      · exfalso
        have h3 := up_dj hr.up hq hp hlt
        omega
    subst he
    simp
end Go.Proofs.YthckfbfenfkdiaaDoor.Py
