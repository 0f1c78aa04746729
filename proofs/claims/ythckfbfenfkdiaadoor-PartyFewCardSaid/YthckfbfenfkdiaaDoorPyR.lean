/- Parties, plain: seats that are taken are free, and none is taken twice. No condition. -/
import Derived.Test.YthckfbfenfkdiaaDoorPyP
namespace Go.Proofs.YthckfbfenfkdiaaDoor.Py
open St Bt
/-- Two runs have no seat in common. -/
def Dj (x y : Sp) : Prop := x.1 + x.2 ≤ y.1 ∨ y.1 + y.2 ≤ x.1
theorem dj_symm {x y : Sp} (h : Dj x y) : Dj y x := h.symm
theorem runs_dj {F B : Nat → Bool} {n : Nat} {S T : List Sp} (h : RunsOk F B n T) (hp : S.Perm T) : S.Pairwise Dj :=
  (hp.pairwise_iff (fun h => dj_symm h)).2 (h.up.imp (fun h => .inl h))
theorem getElem_cons_eraseIdx_perm' {S : List Sp} {i : Nat} (h : i < S.length) : (S[i] :: S.eraseIdx i).Perm S := by
  rw [List.eraseIdx_eq_take_drop_succ]
  have e : S = S.take i ++ S[i] :: S.drop (i + 1) := by simp
  conv => rhs; rw [e]
  exact List.perm_middle.symm
theorem seatF_nodup : ∀ (f : Nat) (S : List Sp) (n : Nat), S.length = f → S.Pairwise Dj → (seatF f S n).Nodup
  | 0, S, n, _, _ => by simp [seatF]
  | f + 1, S, n, h, hd => by
    by_cases hn : n = 0
    · subst hn; rw [seatF_zero]; exact List.nodup_nil
    · have hl := pick_lt (S := S) (n := n) (by omega)
      have e := seatF_step (by omega) (by omega) rfl hl
      have e3 : (S.eraseIdx (pick S n)).length = f := by rw [List.length_eraseIdx_of_lt hl]; omega
      rw [h, e3] at e
      rw [e]
      have hp := (getElem_cons_eraseIdx_perm' hl).pairwise_iff (R := Dj) (fun h => dj_symm h)
      have hc := hp.2 hd
      rw [List.pairwise_cons] at hc
      rw [List.nodup_append]
      refine ⟨List.nodup_range' , seatF_nodup f _ _ e3 hc.2, ?_⟩
      intro a ha b hb hab
      subst hab
      obtain ⟨y, hy, h1, h2⟩ := seatF_mem f _ _ a e3 hb
      rw [List.mem_range'_1] at ha
      rcases hc.1 y hy with h3 | h3 <;> omega
/-- What is handed back as the seats of a party. -/
structure Given (N : Nat) (B : List Bool) (n : Nat) (M : List Int) : Prop where
  len : M.length = n
  up : M.Pairwise (· ≤ ·)
  nodup : M.Nodup
  free : ∀ x ∈ M, ∃ s : Nat, x = (s : Int) ∧ s < N ∧ B.getD s false = false
theorem given_of {N n : Nat} {B : List Bool} {Bg : Nat → Bool} {S : List Sp} (hp : S.Perm (runs (freeF B) Bg N)) (hn : n ≤ total (runs (freeF B) Bg N)) : Given N B n (srtI ((seatF S.length S n).map Int.ofNat)) := by
  have hr := runs_are (freeF B) Bg N
  have ht : total S = total (runs (freeF B) Bg N) := by unfold total; exact (hp.map _).sum_nat
  have hd := runs_dj hr hp
  refine ⟨?_, srtI_pair _, ?_, fun x hx => ?_⟩
  · rw [srtI_len, List.length_map, seatF_len _ _ _ rfl (by omega)]
  · rw [(srtI_perm _).nodup_iff]
    have := seatF_nodup S.length S n rfl hd
    rw [List.Nodup, List.pairwise_map]
    exact this.imp (fun h e => h (Int.ofNat.inj e))
  · rw [(srtI_perm _).mem_iff] at hx
    obtain ⟨s, hs, rfl⟩ := List.mem_map.1 hx
    obtain ⟨y, hy, h1, h2⟩ := seatF_mem _ _ _ s rfl hs
    have := (hr.free s).1 ⟨y, hp.mem_iff.1 hy, h1, h2⟩
    refine ⟨s, rfl, this.1, ?_⟩
    have h3 := this.2
    unfold freeF at h3
    cases hb : B.getD s false <;> simp_all
theorem cnt_set : ∀ (B : List Bool) (j : Nat), j < B.length → B.getD j false = false → cnt (B.set j true) = cnt B + 1
  | [], j, h, _ => by simp at h
  | b :: B, 0, _, hb => by
    simp at hb
    subst hb
    simp [cnt]
  | b :: B, j + 1, h, hb => by
    have ih := cnt_set B j (by simpa using h) (by simpa [List.getD_eq_getElem?_getD] using hb)
    unfold cnt at ih ⊢
    rw [List.set_cons_succ]
    cases b <;> simp at ih ⊢ <;> omega
/-- Some of the seats have been put into the set. -/
structure Part (N : Nat) (B0 : List Bool) (M : List Int) (k : Nat) (B : List Bool) : Prop where
  len : B.length = N
  cnt_ : cnt B = cnt B0 + k
  rest : ∀ j (hj : j < M.length), k ≤ j → ∃ s : Nat, M[j] = (s : Int) ∧ s < N ∧ B.getD s false = false
theorem Part.zero {N n : Nat} {B : List Bool} {M : List Int} (h : Given N B n M) (hl : B.length = N) : Part N B M 0 B :=
  ⟨hl, rfl, fun _ hj _ => h.free _ (List.getElem_mem hj)⟩
theorem Part.succ {N k : Nat} {B0 B : List Bool} {M : List Int} (h : Part N B0 M k B) (hM : M.Nodup) (hk : k < M.length) {s : Nat} (hs : M[k] = (s : Int)) : Part N B0 M (k + 1) (B.set s true) := by
  obtain ⟨s', e1, e2, e3⟩ := h.rest k hk (Nat.le_refl _)
  have : s = s' := by rw [hs] at e1; omega
  subst this
  refine ⟨by simpa using h.len, ?_, fun j hj hkj => ?_⟩
  · rw [cnt_set B s (by rw [h.len]; exact e2) e3, h.cnt_]; omega
  · obtain ⟨t, t1, t2, t3⟩ := h.rest j hj (by omega)
    refine ⟨t, t1, t2, ?_⟩
    have hne : s ≠ t := by
      intro e
      have := (List.pairwise_iff_getElem.1 hM) k j hk hj (by omega)
      exact this (by rw [hs, t1, e])
    rw [List.getD_eq_getElem?_getD, List.getElem?_set_ne hne, ← List.getD_eq_getElem?_getD]; exact t3
end Go.Proofs.YthckfbfenfkdiaaDoor.Py
