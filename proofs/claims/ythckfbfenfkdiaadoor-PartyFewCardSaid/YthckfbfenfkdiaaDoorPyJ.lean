/- Parties, plain: the seats of a party. No condition. -/
import Derived.Test.YthckfbfenfkdiaaDoorPyH
namespace Go.Proofs.YthckfbfenfkdiaaDoor.Py
open St Go.Sort
/-- Which run is taken next. -/
def pick (S : List Sp) (n : Nat) : Nat := match S.findIdx? (fun x => decide ((n : Int) ≤ (x.2 : Int))) with
  | some i => i
  | none => (S.findIdx? (fun x => ((x.2 : Int) == ((S.getLastD (0, 0)).2 : Int)))).getD 0
/-- The seats that are taken, run by run. -/
def seatF : Nat → List Sp → Nat → List Nat
  | 0, _, _ => []
  | f + 1, S, n => if n = 0 then [] else List.range' (S.getD (pick S n) (0, 0)).1 (min n (S.getD (pick S n) (0, 0)).2) ++ seatF f (S.eraseIdx (pick S n)) (n - min n (S.getD (pick S n) (0, 0)).2)
theorem total_erase {S : List Sp} {i : Nat} (h : i < S.length) : total S = S[i].2 + total (S.eraseIdx i) := by
  induction S generalizing i with
  | nil => simp at h
  | cons x S ih =>
    cases i with
    | zero => simp [total]
    | succ i =>
      have := ih (i := i) (by simpa using h)
      simp only [total, List.eraseIdx_cons_succ, List.map_cons, List.sum_cons, List.getElem_cons_succ] at this ⊢
      omega
/-- What holds while seats are taken. -/
structure Tk (N : Nat) (S : List Sp) (n : Nat) : Prop where
  pos : ∀ x ∈ S, 1 ≤ x.2
  fit : ∀ x ∈ S, x.1 + x.2 ≤ N
  room : n ≤ total S
theorem Tk.ne {N : Nat} {S : List Sp} {n : Nat} (h : Tk N S n) (hn : 0 < n) : 0 < S.length := by
  cases S with
  | nil => have := h.room; simp [total] at this; omega
  | cons x S => simp
theorem last_idx {S : List Sp} (h : 0 < S.length) : ∃ i, S.findIdx? (fun x => ((x.2 : Int) == ((S.getLastD (0, 0)).2 : Int))) = some i ∧ i < S.length := by
  cases hf : S.findIdx? (fun x => ((x.2 : Int) == ((S.getLastD (0, 0)).2 : Int))) with
  | some i =>
    obtain ⟨hi, _⟩ := List.findIdx?_eq_some_iff_getElem.1 hf
    exact ⟨i, rfl, hi⟩
  | none =>
    exfalso
    rw [List.findIdx?_eq_none_iff] at hf
    have hne : S ≠ [] := by intro e; subst e; simp at h
    have := hf (S.getLast hne) (List.getLast_mem hne)
    rw [List.getLastD_eq_getLast?, List.getLast?_eq_some_getLast hne] at this
    simp at this
theorem pick_lt {S : List Sp} {n : Nat} (h : 0 < S.length) : pick S n < S.length := by
  unfold pick
  cases hf : S.findIdx? (fun x => decide ((n : Int) ≤ (x.2 : Int))) with
  | some i =>
    obtain ⟨hi, _⟩ := List.findIdx?_eq_some_iff_getElem.1 hf
    exact hi
  | none =>
    obtain ⟨i, h1, h2⟩ := last_idx h
    simp only [h1, Option.getD_some]; exact h2
theorem mem_eraseIdx' {S : List Sp} {i : Nat} {x : Sp} (h : x ∈ S.eraseIdx i) : x ∈ S := List.mem_of_mem_eraseIdx h
theorem Tk.step {N : Nat} {S : List Sp} {n : Nat} (h : Tk N S n) {i : Nat} (hi : i < S.length) : Tk N (S.eraseIdx i) (n - min n S[i].2) := by
  refine ⟨fun x hx => h.pos x (mem_eraseIdx' hx), fun x hx => h.fit x (mem_eraseIdx' hx), ?_⟩
  have := h.room
  have := total_erase hi
  omega
theorem seatF_zero (f : Nat) (S : List Sp) : seatF f S 0 = [] := by
  cases f <;> simp [seatF]
theorem seatF_step {S : List Sp} {n : Nat} (hn : 0 < n) (hS : 0 < S.length) {i : Nat} (hi : i = pick S n) (hl : i < S.length) : seatF S.length S n = List.range' S[i].1 (min n S[i].2) ++ seatF (S.eraseIdx i).length (S.eraseIdx i) (n - min n S[i].2) := by
  subst hi
  obtain ⟨m, hm⟩ : ∃ m, S.length = m + 1 := ⟨S.length - 1, by omega⟩
  have e1 : (S.eraseIdx (pick S n)).length = m := by rw [List.length_eraseIdx_of_lt hl]; omega
  rw [e1, hm]
  have e2 : S.getD (pick S n) (0, 0) = S[pick S n] := by simp [List.getD_eq_getElem?_getD, hl]
  rw [seatF, if_neg (by omega), e2]
theorem seatF_len : ∀ (f : Nat) (S : List Sp) (n : Nat), S.length = f → n ≤ total S → (seatF f S n).length = n
  | 0, S, n, h, hr => by
    have : S = [] := List.eq_nil_of_length_eq_zero h
    subst this
    simp [total] at hr
    subst hr; rfl
  | f + 1, S, n, h, hr => by
    by_cases hn : n = 0
    · subst hn; rw [seatF_zero]; rfl
    · have hl := pick_lt (S := S) (n := n) (by omega)
      have e := seatF_step (by omega) (by omega) rfl hl
      have e3 : (S.eraseIdx (pick S n)).length = f := by rw [List.length_eraseIdx_of_lt hl]; omega
      rw [h, e3] at e
      rw [e, List.length_append, List.length_range']
      have := total_erase hl
      rw [seatF_len f _ _ e3 (by omega)]
      omega
/-- All seats that are taken are seats of runs. -/
theorem seatF_mem : ∀ (f : Nat) (S : List Sp) (n s : Nat), S.length = f → s ∈ seatF f S n → ∃ x ∈ S, x.1 ≤ s ∧ s < x.1 + x.2
  | 0, S, n, s, _, hs => by simp [seatF] at hs
  | f + 1, S, n, s, h, hs => by
    by_cases hn : n = 0
    · subst hn; rw [seatF_zero] at hs; simp at hs
    · have hl := pick_lt (S := S) (n := n) (by omega)
      have e := seatF_step (by omega) (by omega) rfl hl
      have e3 : (S.eraseIdx (pick S n)).length = f := by rw [List.length_eraseIdx_of_lt hl]; omega
      rw [h, e3] at e
      rw [e] at hs
      rcases List.mem_append.1 hs with hs | hs
      · rw [List.mem_range'_1] at hs
        exact ⟨_, List.getElem_mem hl, hs.1, by omega⟩
      · obtain ⟨x, hx, h1, h2⟩ := seatF_mem f _ _ s e3 hs
        exact ⟨x, mem_eraseIdx' hx, h1, h2⟩
end Go.Proofs.YthckfbfenfkdiaaDoor.Py
