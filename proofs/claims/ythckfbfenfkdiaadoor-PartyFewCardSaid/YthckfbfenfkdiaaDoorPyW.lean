/- Parties, plain: in how few runs the seats of a party lie. No condition. -/
import Derived.Test.YthckfbfenfkdiaaDoorPyR
namespace Go.Proofs.YthckfbfenfkdiaaDoor.Py
open St Bt
/-- In how many steps the seats are taken. -/
def steps : Nat → List Sp → Nat → Nat
  | 0, _, _ => 0
  | f + 1, S, n => if n = 0 then 0 else 1 + steps f (S.eraseIdx (pick S n)) (n - min n (S.getD (pick S n) (0, 0)).2)
theorem steps_zero (f : Nat) (S : List Sp) : steps f S 0 = 0 := by cases f <;> simp [steps]
theorem steps_step {S : List Sp} {n : Nat} (hn : 0 < n) {i : Nat} (hi : i = pick S n) (hl : i < S.length) : steps S.length S n = 1 + steps (S.eraseIdx i).length (S.eraseIdx i) (n - min n S[i].2) := by
  subst hi
  obtain ⟨m, hm⟩ : ∃ m, S.length = m + 1 := ⟨S.length - 1, by omega⟩
  have e1 : (S.eraseIdx (pick S n)).length = m := by rw [List.length_eraseIdx_of_lt hl]; omega
  rw [e1, hm]
  have e2 : S.getD (pick S n) (0, 0) = S[pick S n] := by simp [List.getD_eq_getElem?_getD, hl]
  rw [steps, if_neg (by omega), e2]
/-- Of each run the first seats are taken. -/
theorem taken : ∀ (f : Nat) (S : List Sp) (n : Nat), S.length = f → S.Pairwise Dj → (∀ x ∈ S, 1 ≤ x.2) → n ≤ total S → ∃ g : Sp → Nat, (∀ x ∈ S, g x ≤ x.2) ∧ (seatF f S n).Perm (S.flatMap fun x => List.range' x.1 (g x)) ∧ S.countP (fun x => decide (0 < g x)) = steps f S n
  | 0, S, n, h, _, _, _ => by
    have : S = [] := List.eq_nil_of_length_eq_zero h
    subst this
    exact ⟨fun _ => 0, by simp, by simp [seatF], by simp [steps]⟩
  | f + 1, S, n, h, hd, hp, hr => by
    by_cases hn : n = 0
    · subst hn
      refine ⟨fun _ => 0, by simp, ?_, ?_⟩
      · rw [seatF_zero]; simp
      · rw [steps_zero]; simp
    · have hl := pick_lt (S := S) (n := n) (by omega)
      have e := seatF_step (by omega) (by omega) rfl hl
      have es := steps_step (S := S) (by omega) rfl hl
      have e3 : (S.eraseIdx (pick S n)).length = f := by rw [List.length_eraseIdx_of_lt hl]; omega
      rw [h, e3] at e es
      obtain ⟨x0, hx0⟩ : ∃ x0, x0 = S[pick S n] := ⟨_, rfl⟩
      have hpm := getElem_cons_eraseIdx_perm' hl
      have ht := total_erase hl
      have hx0m : x0 ∈ S := by rw [hx0]; exact List.getElem_mem hl
      rw [← hx0] at e es hpm ht
      obtain ⟨S', hS'⟩ : ∃ S', S' = S.eraseIdx (pick S n) := ⟨_, rfl⟩
      rw [← hS'] at e es hpm ht e3
      have hd' := (hpm.pairwise_iff (R := Dj) (fun h => dj_symm h)).2 hd
      rw [List.pairwise_cons] at hd'
      obtain ⟨g, g1, g2, g3⟩ := taken f S' (n - min n x0.2) e3 hd'.2 (fun x hx => hp x (hpm.mem_iff.1 (by simp [hx]))) (by omega)
      have hni : x0 ∉ S' := fun hm => by
        have := hd'.1 x0 hm
        have := hp x0 hx0m
        unfold Dj at *; omega
      refine ⟨fun x => if x = x0 then min n x0.2 else g x, fun x hx => ?_, ?_, ?_⟩
      · show (if x = x0 then min n x0.2 else g x) ≤ x.2
        split
        · rename_i he; subst he; omega
        · rename_i he
          refine g1 x ?_
          rcases List.mem_cons.1 (hpm.mem_iff.2 hx) with h1 | h1
          · exact absurd h1 he
          · exact h1
      · rw [e]
        refine List.Perm.trans ?_ (hpm.flatMap_right _)
        have ex : (if x0 = x0 then min n x0.2 else g x0) = min n x0.2 := if_pos rfl
        rw [List.flatMap_cons]
        show List.Perm (List.range' x0.1 (min n x0.2) ++ seatF f S' (n - min n x0.2)) (List.range' x0.1 (if x0 = x0 then min n x0.2 else g x0) ++ S'.flatMap fun x => List.range' x.1 (if x = x0 then min n x0.2 else g x))
        rw [ex]
        refine List.Perm.append_left _ (g2.trans (List.Perm.of_eq ?_))
        rw [List.flatMap_def, List.flatMap_def]
        congr 1
        apply List.map_congr_left
        intro x hx
        have : x ≠ x0 := fun e => hni (e ▸ hx)
        show _ = List.range' x.1 (if x = x0 then min n x0.2 else g x)
        rw [if_neg this]
      · have h1 := hp x0 hx0m
        have ec : S'.countP (fun x => decide (0 < if x = x0 then min n x0.2 else g x)) = S'.countP (fun x => decide (0 < g x)) := by
          apply List.countP_congr
          intro x hx
          have : x ≠ x0 := fun e => hni (e ▸ hx)
          rw [if_neg this]
        have ex : (if x0 = x0 then min n x0.2 else g x0) = min n x0.2 := if_pos rfl
        have et : decide (0 < if x0 = x0 then min n x0.2 else g x0) = true := by rw [ex]; simp; omega
        show S.countP (fun x => decide (0 < if x = x0 then min n x0.2 else g x)) = _
        rw [← hpm.countP_eq, List.countP_cons, ec, et, es, ← g3, if_pos rfl, Nat.add_comm]
/-- The most of a list, its first place. -/
structure Top (A : List Nat) (b : Nat) : Prop where
  lt : b < A.length
  most : ∀ j (h : j < A.length), A[j] ≤ A[b]
/-- What is left of the runs: those that stand, and holes. -/
def Holes (A : List Nat) (S : List Sp) : Prop := ∃ z, A.Perm (S.map (·.2) ++ List.replicate z 0)
theorem sorted_last {S : List Sp} (h : SrtS S) : ∀ x ∈ S, x.2 ≤ (S.getLastD (0, 0)).2 := by
  rcases List.eq_nil_or_concat S with rfl | ⟨T, y, rfl⟩
  · simp
  · rw [List.concat_eq_append] at h ⊢
    intro x hx
    simp only [List.getLastD_eq_getLast?, List.getLast?_append, List.getLast?_singleton, Option.some_or, Option.getD_some]
    rcases List.mem_append.1 hx with h1 | h1
    · have := (List.pairwise_append.1 h).2.2 x h1 y (by simp)
      rw [lex_no] at this; omega
    · simp at h1; subst h1; exact Nat.le_refl _
theorem Holes.top {A : List Nat} {S : List Sp} (h : Holes A S) (hS : SrtS S) (hne : 0 < S.length) {b : Nat} (ht : Top A b) : A[b]'ht.lt = (S.getLastD (0, 0)).2 := by
  obtain ⟨z, hz⟩ := h
  have h1 : ∀ y ∈ A, y ≤ (S.getLastD (0, 0)).2 := by
    intro y hy
    rcases List.mem_append.1 (hz.mem_iff.1 hy) with h1 | h1
    · obtain ⟨x, hx, rfl⟩ := List.mem_map.1 h1
      exact sorted_last hS x hx
    · rw [(List.mem_replicate.1 h1).2]; exact Nat.zero_le _
  have h2 : (S.getLastD (0, 0)).2 ∈ A := by
    rw [hz.mem_iff, List.mem_append]
    left
    rw [List.mem_map]
    have hne' : S ≠ [] := by intro e; subst e; simp at hne
    refine ⟨S.getLastD (0, 0), ?_, rfl⟩
    rw [List.getLastD_eq_getLast?, List.getLast?_eq_some_getLast hne']
    exact List.getLast_mem hne'
  obtain ⟨j, hj, e⟩ := List.mem_iff_getElem.1 h2
  have h3 := ht.most j hj
  have h4 := h1 _ (List.getElem_mem ht.lt)
  omega
theorem set_perm {A : List Nat} {b : Nat} (h : b < A.length) : ∃ R, A.Perm (A[b] :: R) ∧ (A.set b 0).Perm (0 :: R) := by
  refine ⟨A.take b ++ A.drop (b + 1), ?_, ?_⟩
  · have e : A = A.take b ++ A[b] :: A.drop (b + 1) := by simp
    conv => lhs; rw [e]
    exact List.perm_middle
  · rw [List.set_eq_take_append_cons_drop, if_pos h]
    exact List.perm_middle
/-- A step: the most is enough, or is all taken. -/
theorem Holes.step {A : List Nat} {S : List Sp} {n : Nat} (h : Holes A S) (hS : SrtS S) (hp : ∀ x ∈ S, 1 ≤ x.2) (hn : 0 < n) (hr : n ≤ total S) {b : Nat} (ht : Top A b) :
    (n ≤ A[b]'ht.lt ∧ steps S.length S n = 1) ∨ (A[b]'ht.lt < n ∧ 0 < A[b]'ht.lt ∧ ∃ S', SrtS S' ∧ (∀ x ∈ S', 1 ≤ x.2) ∧ n - A[b]'ht.lt ≤ total S' ∧ Holes (A.set b 0) S' ∧ steps S.length S n = 1 + steps S'.length S' (n - A[b]'ht.lt)) := by
  have hne : 0 < S.length := by
    cases S with
    | nil => simp [total] at hr; omega
    | cons x S => simp
  have e := h.top hS hne ht
  have hl := pick_lt (S := S) (n := n) hne
  have es := steps_step (S := S) hn rfl hl
  obtain ⟨m, hm⟩ : ∃ m, A[b]'ht.lt = m := ⟨_, rfl⟩
  rw [hm] at e ⊢
  by_cases hnm : n ≤ m
  · left
    refine ⟨hnm, ?_⟩
    have hpk : n ≤ (S[pick S n]).2 := by
      have hx : ∃ x ∈ S, n ≤ x.2 := by
        have hne' : S ≠ [] := by intro e; subst e; simp at hne
        refine ⟨S.getLast hne', List.getLast_mem hne', ?_⟩
        rw [List.getLastD_eq_getLast?, List.getLast?_eq_some_getLast hne'] at e
        simp only [Option.getD_some] at e
        omega
      cases hf : S.findIdx? (fun x => decide ((n : Int) ≤ (x.2 : Int))) with
      | none =>
        exfalso
        rw [List.findIdx?_eq_none_iff] at hf
        obtain ⟨x, hx, hx2⟩ := hx
        have := hf x hx
        simp at this; omega
      | some i =>
        have e5 : pick S n = i := by unfold pick; rw [hf]
        obtain ⟨hi, h2, _⟩ := List.findIdx?_eq_some_iff_getElem.1 hf
        have e6 : S[pick S n] = S[i] := by simp only [e5]
        rw [e6]
        simpa using h2
    rw [es, Nat.min_eq_left hpk, Nat.sub_self, steps_zero]
  · right
    have hpk : (S[pick S n]).2 = m := by
      cases hf : S.findIdx? (fun x => decide ((n : Int) ≤ (x.2 : Int))) with
      | some i =>
        exfalso
        obtain ⟨hi, h2, _⟩ := List.findIdx?_eq_some_iff_getElem.1 hf
        have := sorted_last hS _ (List.getElem_mem hi)
        simp at h2; omega
      | none =>
        obtain ⟨i, h1, h2⟩ := last_idx hne
        have e5 : pick S n = i := by unfold pick; rw [hf]; simp only [h1, Option.getD_some]
        obtain ⟨hi, h3, _⟩ := List.findIdx?_eq_some_iff_getElem.1 h1
        have e6 : S[pick S n] = S[i] := by simp only [e5]
        rw [e6]
        have h4 : (S[i].2 : Int) = ((S.getLastD (0, 0)).2 : Int) := by simpa using h3
        omega
    have hm1 : 1 ≤ m := by rw [← hpk]; exact hp _ (List.getElem_mem hl)
    have htot := total_erase hl
    have hpm := getElem_cons_eraseIdx_perm' hl
    rw [hpk] at es htot
    refine ⟨by omega, by omega, S.eraseIdx (pick S n), hS.sublist (List.eraseIdx_sublist _ _), fun x hx => hp x (mem_eraseIdx' hx), by omega, ?_, ?_⟩
    · obtain ⟨z, hz⟩ := h
      obtain ⟨R, r1, r2⟩ := set_perm ht.lt
      rw [hm] at r1
      refine ⟨z + 1, r2.trans ?_⟩
      have h5 : (S.map (·.2)).Perm (m :: (S.eraseIdx (pick S n)).map (·.2)) := by
        have := (hpm.map (·.2)).symm
        rw [List.map_cons, hpk] at this
        exact this
      have h6 : (m :: R).Perm (m :: ((S.eraseIdx (pick S n)).map (·.2) ++ List.replicate z 0)) := r1.symm.trans (hz.trans (h5.append_right _))
      have h7 := (List.perm_cons m).1 h6
      refine (h7.cons 0).trans ?_
      rw [List.replicate_succ]
      exact List.perm_middle.symm
    · rw [es, Nat.min_eq_right (by omega)]
theorem Holes.start {T S : List Sp} (h : S.Perm T) : Holes (T.map (·.2)) S := ⟨0, by simpa using (h.map (·.2)).symm⟩
/-- Where the seats of each run begin. -/
def offs (g : Sp → Nat) (T : List Sp) (i : Nat) : Nat := ((T.take i).map g).sum
theorem offs_succ {g : Sp → Nat} {T : List Sp} {i : Nat} (h : i < T.length) : offs g T (i + 1) = offs g T i + g T[i] := by
  unfold offs
  rw [List.take_succ_eq_append_getElem h, List.map_append, List.sum_append]; simp
/-- How the seats of a party lie in the runs. -/
structure Lies (g : Sp → Nat) (T : List Sp) (n : Nat) (M : List Int) : Prop where
  len : M.length = n
  all : offs g T T.length = n
  le : ∀ i (h : i < T.length), g T[i] ≤ T[i].2
  get : ∀ i (h : i < T.length) k, k < g T[i] → M.getD (offs g T i + k) 0 = ((T[i].1 + k : Nat) : Int)
  next : ∀ i (h : i < T.length), offs g T (i + 1) < n → ((T[i].1 + T[i].2 : Nat) : Int) ≤ M.getD (offs g T (i + 1)) 0
theorem flat_get {g : Sp → Nat} : ∀ (T : List Sp) (i : Nat) (h : i < T.length) (k : Nat), k < g T[i] → (T.flatMap fun x => List.range' x.1 (g x))[offs g T i + k]? = some (T[i].1 + k)
  | [], i, h, _, _ => by simp at h
  | x :: T, 0, h, k, hk => by
    simp only [List.getElem_cons_zero] at hk ⊢
    rw [List.flatMap_cons]
    have : offs g (x :: T) 0 = 0 := by simp [offs]
    rw [this, Nat.zero_add, List.getElem?_append_left (by simpa using hk), List.getElem?_range' hk]; simp
  | x :: T, i + 1, h, k, hk => by
    simp only [List.getElem_cons_succ] at hk ⊢
    have ih := flat_get T i (by simpa using h) k hk
    have : offs g (x :: T) (i + 1) = g x + offs g T i := by simp [offs]
    rw [List.flatMap_cons, this, List.getElem?_append_right (by simp; omega), List.length_range', ← ih]
    congr 1; omega
theorem flat_len {g : Sp → Nat} (T : List Sp) : (T.flatMap fun x => List.range' x.1 (g x)).length = offs g T T.length := by
  simp [offs, List.length_flatMap]
theorem flat_up {g : Sp → Nat} : ∀ (T : List Sp), (T.Pairwise fun x y => x.1 + x.2 ≤ y.1) → (∀ x ∈ T, g x ≤ x.2) → (T.flatMap fun x => List.range' x.1 (g x)).Pairwise (· ≤ ·)
  | [], _, _ => by simp
  | x :: T, h, hg => by
    rw [List.pairwise_cons] at h
    rw [List.flatMap_cons, List.pairwise_append]
    refine ⟨(List.pairwise_lt_range' (s := x.1) (n := g x)).imp (fun h => Nat.le_of_lt h), flat_up T h.2 (fun y hy => hg y (by simp [hy])), fun a ha b hb => ?_⟩
    rw [List.mem_range'_1] at ha
    obtain ⟨y, hy, hyb⟩ := List.mem_flatMap.1 hb
    rw [List.mem_range'_1] at hyb
    have h1 := h.1 y hy
    have h2 := hg x (by simp)
    omega
/-- The next seat lies in a later run. -/
theorem offs_next {g : Sp → Nat} {T : List Sp} : ∀ (d i : Nat), i + d = T.length → offs g T i < offs g T T.length → ∃ j, ∃ h : j < T.length, i ≤ j ∧ offs g T j = offs g T i ∧ 0 < g T[j]
  | 0, i, hi, h => by
    rw [Nat.add_zero] at hi; subst hi; omega
  | d + 1, i, hi, h => by
    have hl : i < T.length := by omega
    have e := offs_succ (g := g) hl
    by_cases h0 : 0 < g T[i]
    · exact ⟨i, hl, Nat.le_refl _, rfl, h0⟩
    · obtain ⟨j, hj, h1, h2, h3⟩ := offs_next (g := g) (T := T) d (i + 1) (by omega) (by omega)
      exact ⟨j, hj, by omega, by omega, h3⟩
theorem lies_of {S T : List Sp} {F B : Nat → Bool} {N n : Nat} (hT : RunsOk F B N T) (hp : S.Perm T) (hn : n ≤ total T) :
    ∃ g, Lies g T n (srtI ((seatF S.length S n).map Int.ofNat)) ∧ T.countP (fun x => decide (0 < g x)) = steps S.length S n := by
  have hd := runs_dj hT hp
  have ht : total S = total T := by unfold total; exact (hp.map _).sum_nat
  obtain ⟨g, g1, g2, g3⟩ := taken S.length S n rfl hd (fun x hx => hT.pos x (hp.mem_iff.1 hx)) (by omega)
  have g1' : ∀ x ∈ T, g x ≤ x.2 := fun x hx => g1 x (hp.mem_iff.2 hx)
  have hpm := g2.trans (hp.flatMap_right (fun x => List.range' x.1 (g x)))
  have hup := flat_up T hT.up g1'
  have e : srtI ((seatF S.length S n).map Int.ofNat) = (T.flatMap fun x => List.range' x.1 (g x)).map Int.ofNat :=
    srtI_uniq (hpm.map _) (List.pairwise_map.2 (hup.imp (fun h => Int.ofNat_le.2 h)))
  have hlen : (T.flatMap fun x => List.range' x.1 (g x)).length = n := by
    rw [← hpm.length_eq, seatF_len _ _ _ rfl (by omega)]
  have hall : offs g T T.length = n := by rw [← flat_len]; exact hlen
  rw [e]
  have get : ∀ i (h : i < T.length) k, k < g T[i] → ((T.flatMap fun x => List.range' x.1 (g x)).map Int.ofNat).getD (offs g T i + k) 0 = ((T[i].1 + k : Nat) : Int) := by
    intro i h k hk
    rw [List.getD_eq_getElem?_getD, List.getElem?_map, flat_get T i h k hk]; rfl
  refine ⟨g, ⟨by simpa using hlen, hall, fun i h => g1' _ (List.getElem_mem h), get, fun i h hlt => ?_⟩, ?_⟩
  · obtain ⟨j, hj, h1, h2, h3⟩ := offs_next (g := g) (T := T) (T.length - (i + 1)) (i + 1) (by omega) (by omega)
    have h4 := get j hj 0 h3
    rw [Nat.add_zero, h2] at h4
    rw [h4]
    have h5 := List.pairwise_iff_getElem.1 hT.up i j h hj (by omega)
    omega
  · rw [← hp.countP_eq]; exact g3
end Go.Proofs.YthckfbfenfkdiaaDoor.Py
