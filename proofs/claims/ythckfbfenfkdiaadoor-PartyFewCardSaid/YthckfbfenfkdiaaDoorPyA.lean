/- Cabins, plain: which may be, blocks, runs. No condition. -/
import Derived.Test.YthckfbfenfkdiaaDoorStA
namespace Go.Proofs.YthckfbfenfkdiaaDoor.Py
open St
/-- Aisles rise, from what has been told on, below the width. -/
def aisOk (w : Int) : Int → List Int → Bool
  | _, [] => true
  | l, a :: t => decide (l < a) && decide (a < w) && aisOk w a t
/-- The last one told. -/
def lastOf (l : Int) : List Int → Int
  | [] => l
  | a :: t => lastOf a t
theorem lastOf_snoc (l : Int) (P : List Int) (a : Int) : lastOf l (P ++ [a]) = a := by
  induction P generalizing l with
  | nil => rfl
  | cons x P ih => exact ih x
theorem aisOk_snoc (w l : Int) (P : List Int) (a : Int) : aisOk w l (P ++ [a]) = (aisOk w l P && (decide (lastOf l P < a) && decide (a < w))) := by
  induction P generalizing l with
  | nil => show (decide (l < a) && decide (a < w) && true) = (true && (decide (l < a) && decide (a < w))); rw [Bool.and_true, Bool.true_and]
  | cons x P ih =>
    show (decide (l < x) && decide (x < w) && aisOk w x (P ++ [a])) = (decide (l < x) && decide (x < w) && aisOk w x P && (decide (lastOf x P < a) && decide (a < w)))
    rw [ih]; simp only [Bool.and_assoc]
theorem aisOk_take (w l : Int) (P Q : List Int) (h : aisOk w l P = false) : aisOk w l (P ++ Q) = false := by
  induction P generalizing l with
  | nil => simp [aisOk] at h
  | cons x P ih =>
    simp only [aisOk, List.cons_append] at h ⊢
    by_cases h1 : (decide (l < x) && decide (x < w)) = true
    · rw [h1, Bool.true_and] at h
      rw [ih x h, Bool.and_false]
    · rw [Bool.not_eq_true] at h1
      rw [h1, Bool.false_and]
/-- The seats of a cabin, by its rows and its width. -/
def sizeOk (r w : Int) : Bool := decide (1 ≤ r ∧ r ≤ 64 ∧ 1 ≤ w ∧ w ≤ 16)
/-- May it be? -/
def rightB (r w : Int) (L : List Int) : Bool := sizeOk r w && aisOk w 0 L
theorem aisOk_mem {w : Int} : ∀ {l : Int} {L : List Int}, aisOk w l L = true → ∀ a, a ∈ L → l < a ∧ a < w
  | _, [], _, a, ha => by simp at ha
  | l, x :: L, h, a, ha => by
    simp only [aisOk, Bool.and_eq_true, decide_eq_true_eq] at h
    rcases List.mem_cons.1 ha with rfl | ha
    · exact h.1
    · have := aisOk_mem h.2 a ha
      exact ⟨by omega, this.2⟩
theorem lastOf_pos {w : Int} : ∀ {l : Int} {L : List Int}, aisOk w l L = true → l ≤ lastOf l L
  | l, [], _ => Int.le_refl _
  | l, x :: L, h => by
    simp only [aisOk, Bool.and_eq_true, decide_eq_true_eq] at h
    have := lastOf_pos h.2
    show l ≤ lastOf x L
    omega
/-! ### Blocks -/
/-- Does a block begin with the seat? -/
def beg (w : Nat) (L : List Int) (s : Nat) : Bool := decide (s % w = 0) || decide (((s % w : Nat) : Int) ∈ L)
/-- Blocks, one behind the other, up to k. -/
inductive Parts (B : Nat → Bool) : Nat → List Sp → Prop
  | nil : Parts B 0 []
  | snoc {k c : Nat} {S : List Sp} : Parts B k S → B k = true → 1 ≤ c → (∀ j, k < j → j < k + c → B j = false) → Parts B (k + c) (S ++ [(k, c)])
/-- The blocks ahead of the i-th, and that one. -/
theorem Parts.get {B : Nat → Bool} {n : Nat} {S : List Sp} (h : Parts B n S) : ∀ i (hi : i < S.length), Parts B S[i].1 (S.take i) ∧ B S[i].1 = true ∧ 1 ≤ S[i].2 ∧ (∀ j, S[i].1 < j → j < S[i].1 + S[i].2 → B j = false) ∧ S[i].1 + S[i].2 ≤ n ∧ Parts B (S[i].1 + S[i].2) (S.take (i + 1)) := by
  induction h with
  | nil => intro i hi; simp at hi
  | @snoc k c S hp hb hc hj ih =>
    intro i hi
    by_cases h1 : i < S.length
    · obtain ⟨g1, g2, g3, g4, g5, g6⟩ := ih i h1
      have e : (S ++ [(k, c)])[i] = S[i] := List.getElem_append_left h1
      rw [e, List.take_append_of_le_length (by omega), List.take_append_of_le_length (by omega)]
      exact ⟨g1, g2, g3, g4, by omega, g6⟩
    · have h2 : i = S.length := by simp at hi; omega
      subst h2
      have e : (S ++ [(k, c)])[S.length] = (k, c) := by simp
      rw [e, List.take_left]
      refine ⟨hp, hb, hc, hj, Nat.le_refl _, ?_⟩
      rw [List.take_of_length_le (by simp)]
      exact .snoc hp hb hc hj
theorem Parts.len {B : Nat → Bool} {n : Nat} {S : List Sp} (h : Parts B n S) : S.length ≤ n := by
  induction h with
  | nil => simp
  | snoc _ _ hc _ ih => simp; omega
/-! ### Runs -/
/-- One seat more in the last run. -/
def bump : List Sp → List Sp
  | [] => []
  | [x] => [(x.1, x.2 + 1)]
  | x :: y :: t => x :: bump (y :: t)
theorem bump_snoc (S : List Sp) (x : Sp) : bump (S ++ [x]) = S ++ [(x.1, x.2 + 1)] := by
  induction S with
  | nil => rfl
  | cons y S ih =>
    cases S with
    | nil => rfl
    | cons z S => simp only [List.cons_append, bump] at ih ⊢; rw [ih]
/-- The runs in the first k seats: F says which are free, B where blocks begin. -/
def runs (F B : Nat → Bool) : Nat → List Sp
  | 0 => []
  | k + 1 => if F k then (if decide (0 < k) && F (k - 1) && !B k then bump (runs F B k) else runs F B k ++ [(k, 1)]) else runs F B k
theorem runs_none {F B : Nat → Bool} {a : Nat} : ∀ {b : Nat}, a ≤ b → (∀ j, a ≤ j → j < b → F j = false) → runs F B b = runs F B a
  | 0, h, _ => by
    obtain rfl : a = 0 := by omega
    rfl
  | b + 1, h, hf => by
    by_cases e : a = b + 1
    · subst e; rfl
    · have := hf b (by omega) (by omega)
      rw [runs, this, if_neg (by simp)]
      exact runs_none (by omega) (fun j h1 h2 => hf j h1 (by omega))
/-- A run that begins at a, as long as seats are free and no block begins. -/
theorem runs_run {F B : Nat → Bool} {a : Nat} (h0 : F a = true) (hb : a = 0 ∨ F (a - 1) = false ∨ B a = true) : ∀ c, (∀ j, a < j → j < a + 1 + c → F j = true ∧ B j = false) → runs F B (a + 1 + c) = runs F B a ++ [(a, c + 1)]
  | 0, _ => by
    show runs F B (a + 1) = _
    rw [runs, if_pos h0, if_neg]
    rcases hb with rfl | hb | hb
    · simp
    · simp [hb]
    · simp [hb]
  | c + 1, h => by
    have ih := runs_run h0 hb c (fun j h1 h2 => h j h1 (by omega))
    obtain ⟨g1, g2⟩ := h (a + 1 + c) (by omega) (by omega)
    have g3 : F (a + 1 + c - 1) = true := by
      by_cases e : c = 0
      · subst e; simpa using h0
      · exact (h (a + 1 + c - 1) (by omega) (by omega)).1
    show runs F B ((a + 1 + c) + 1) = _
    have g4 : decide (0 < a + 1 + c) = true := by simp; omega
    rw [runs, if_pos g1, if_pos (by rw [g4, g3, g2]; rfl), ih, bump_snoc]
theorem runs_step {F B : Nat → Bool} {a b : Nat} (hab : a < b) (hf : ∀ j, a ≤ j → j < b → F j = true) (hb : ∀ j, a < j → j < b → B j = false) (h0 : a = 0 ∨ F (a - 1) = false ∨ B a = true) : runs F B b = runs F B a ++ [(a, b - a)] := by
  have := runs_run (hf a (Nat.le_refl _) hab) h0 (b - a - 1) (fun j h1 h2 => ⟨hf j (by omega) (by omega), hb j h1 (by omega)⟩)
  have e1 : a + 1 + (b - a - 1) = b := by omega
  have e2 : b - a - 1 + 1 = b - a := by omega
  rwa [e1, e2] at this
/-- Runs rise, none is empty, all of their seats are free, and no other one is. -/
structure RunsOk (F B : Nat → Bool) (n : Nat) (S : List Sp) : Prop where
  pos : ∀ x ∈ S, 1 ≤ x.2
  fit : ∀ x ∈ S, x.1 + x.2 ≤ n
  up : S.Pairwise fun x y => x.1 + x.2 ≤ y.1
  free : ∀ j, (∃ x ∈ S, x.1 ≤ j ∧ j < x.1 + x.2) ↔ (j < n ∧ F j = true)
  sep : S.Pairwise fun x y => x.1 + x.2 = y.1 → B y.1 = true
  one : ∀ x ∈ S, ∀ j, x.1 < j → j < x.1 + x.2 → B j = false
theorem runsOk_last {F B : Nat → Bool} {n : Nat} {S : List Sp} (h : RunsOk F B n S) (hn : 0 < n) (hf : F (n - 1) = true) : ∃ T x, S = T ++ [x] ∧ x.1 + x.2 = n := by
  obtain ⟨x, hx, h1, h2⟩ := (h.free (n - 1)).2 ⟨by omega, hf⟩
  rcases List.eq_nil_or_concat S with rfl | ⟨T, y, rfl⟩
  · simp at hx
  · rw [List.concat_eq_append] at h hx ⊢
    refine ⟨T, y, rfl, ?_⟩
    rcases List.mem_append.1 hx with hxT | hxy
    · have g1 := (List.pairwise_append.1 h.up).2.2 x hxT y (by simp)
      have g2 := h.fit y (by simp)
      have g3 := h.pos y (by simp)
      omega
    · simp at hxy; subst hxy
      have := h.fit x (by simp)
      omega
theorem runs_are (F B : Nat → Bool) : ∀ k, RunsOk F B k (runs F B k)
  | 0 => ⟨by simp [runs], by simp [runs], by simp [runs], by simp [runs], by simp [runs], by simp [runs]⟩
  | k + 1 => by
    have ih := runs_are F B k
    unfold runs
    by_cases hF : F k = true
    · rw [if_pos hF]
      by_cases hb : (decide (0 < k) && F (k - 1) && !B k) = true
      · rw [if_pos hb]
        simp only [Bool.and_eq_true, decide_eq_true_eq, Bool.not_eq_true'] at hb
        obtain ⟨⟨hk, hF1⟩, hB⟩ := hb
        obtain ⟨T, x, e, hx⟩ := runsOk_last ih hk hF1
        rw [e] at ih ⊢
        rw [bump_snoc]
        obtain ⟨h1, h2, h3, h4, h5, h6⟩ := ih
        rw [List.pairwise_append] at h3 h5
        refine ⟨fun y hy => ?_, fun y hy => ?_, ?_, fun j => ?_, ?_, fun y hy j hj1 hj2 => ?_⟩
        · rcases List.mem_append.1 hy with hy | hy
          · exact h1 y (by simp [hy])
          · simp at hy; subst hy; simp
        · rcases List.mem_append.1 hy with hy | hy
          · have := h2 y (by simp [hy]); omega
          · simp at hy; subst hy; simp; omega
        · rw [List.pairwise_append]
          exact ⟨h3.1, by simp, fun a ha b hb => by simp at hb; subst hb; exact h3.2.2 a ha x (by simp)⟩
        · have h4j := h4 j
          constructor
          · rintro ⟨y, hy, g1, g2⟩
            rcases List.mem_append.1 hy with hy | hy
            · have := h4j.1 ⟨y, by simp [hy], g1, g2⟩; exact ⟨by omega, this.2⟩
            · simp at hy; subst hy
              simp only at g1 g2
              by_cases ej : j = k
              · subst ej; exact ⟨by omega, hF⟩
              · have := h4j.1 ⟨x, by simp, g1, by omega⟩; exact ⟨by omega, this.2⟩
          · rintro ⟨g1, g2⟩
            by_cases ej : j = k
            · subst ej; exact ⟨(x.1, x.2 + 1), by simp, by simp; omega, by simp; omega⟩
            · obtain ⟨y, hy, q1, q2⟩ := h4j.2 ⟨by omega, g2⟩
              rcases List.mem_append.1 hy with hy | hy
              · exact ⟨y, by simp [hy], q1, q2⟩
              · simp at hy; subst hy; exact ⟨(y.1, y.2 + 1), by simp, q1, by simp; omega⟩
        · rw [List.pairwise_append]
          exact ⟨h5.1, by simp, fun a ha b hb => by simp at hb; subst hb; exact h5.2.2 a ha x (by simp)⟩
        · rcases List.mem_append.1 hy with hy | hy
          · exact h6 y (by simp [hy]) j hj1 hj2
          · simp at hy; subst hy
            simp only at hj1 hj2
            by_cases ej : j = k
            · subst ej; exact hB
            · exact h6 x (by simp) j hj1 (by omega)
      · rw [if_neg hb]
        have hb' : k = 0 ∨ F (k - 1) = false ∨ B k = true := by
          by_cases h1 : k = 0
          · exact .inl h1
          · by_cases h2 : F (k - 1) = true
            · by_cases h3 : B k = true
              · exact .inr (.inr h3)
              · exfalso; exact hb (by rw [decide_eq_true (show 0 < k by omega), h2]; simpa using h3)
            · exact .inr (.inl (by simpa using h2))
        obtain ⟨h1, h2, h3, h4, h5, h6⟩ := ih
        refine ⟨fun y hy => ?_, fun y hy => ?_, ?_, fun j => ?_, ?_, fun y hy j hj1 hj2 => ?_⟩
        · rcases List.mem_append.1 hy with hy | hy
          · exact h1 y hy
          · simp at hy; subst hy; simp
        · rcases List.mem_append.1 hy with hy | hy
          · have := h2 y hy; omega
          · simp at hy; subst hy; simp
        · rw [List.pairwise_append]
          exact ⟨h3, by simp, fun a ha b hb => by simp at hb; subst hb; exact h2 a ha⟩
        · have h4j := h4 j
          constructor
          · rintro ⟨y, hy, g1, g2⟩
            rcases List.mem_append.1 hy with hy | hy
            · have := h4j.1 ⟨y, hy, g1, g2⟩; exact ⟨by omega, this.2⟩
            · simp at hy; subst hy
              simp only at g1 g2
              obtain rfl : j = k := by omega
              exact ⟨by omega, hF⟩
          · rintro ⟨g1, g2⟩
            by_cases ej : j = k
            · subst ej; exact ⟨(j, 1), by simp, by simp, by simp⟩
            · obtain ⟨y, hy, q1, q2⟩ := h4j.2 ⟨by omega, g2⟩
              exact ⟨y, by simp [hy], q1, q2⟩
        · rw [List.pairwise_append]
          refine ⟨h5, by simp, fun a ha b hb => ?_⟩
          simp at hb; subst hb
          intro e
          simp only at e
          have p1 := h1 a ha
          have := (h4 (k - 1)).1 ⟨a, ha, by omega, by omega⟩
          rcases hb' with h | h | h
          · omega
          · rw [this.2] at h; cases h
          · exact h
        · rcases List.mem_append.1 hy with hy | hy
          · exact h6 y hy j hj1 hj2
          · simp at hy; subst hy; simp only at hj1 hj2; omega
    · rw [if_neg hF]
      obtain ⟨h1, h2, h3, h4, h5, h6⟩ := ih
      refine ⟨h1, fun y hy => by have := h2 y hy; omega, h3, fun j => ?_, h5, h6⟩
      rw [h4 j]
      constructor
      · rintro ⟨g1, g2⟩; exact ⟨by omega, g2⟩
      · rintro ⟨g1, g2⟩
        refine ⟨?_, g2⟩
        by_cases ej : j = k
        · subst ej; exact absurd g2 hF
        · omega
/-- How many seats there are in all. -/
def total (S : List Sp) : Nat := (S.map (·.2)).sum
theorem total_app (S T : List Sp) : total (S ++ T) = total S + total T := by simp [total]
theorem total_runs (F B : Nat → Bool) : ∀ k, total (runs F B k) = (List.range k).countP F
  | 0 => rfl
  | k + 1 => by
    have ih := total_runs F B k
    rw [List.range_succ, List.countP_append]
    unfold runs
    by_cases hF : F k = true
    · rw [if_pos hF]
      have e1 : List.countP F [k] = 1 := by simp [hF]
      rw [e1, ← ih]
      by_cases hb : (decide (0 < k) && F (k - 1) && !B k) = true
      · rw [if_pos hb]
        simp only [Bool.and_eq_true, decide_eq_true_eq] at hb
        obtain ⟨T, x, e, hx⟩ := runsOk_last (runs_are F B k) hb.1.1 hb.1.2
        rw [e, bump_snoc, total_app, total_app]
        simp [total]; omega
      · rw [if_neg hb, total_app]; simp [total]
    · rw [if_neg hF, ih]
      simp [hF]
end Go.Proofs.YthckfbfenfkdiaaDoor.Py
