/- Waiting parties in their order, as lists of numbers. No condition. -/
import Derived.Test.YtjfnaflbhmeokaaWtD
import Derived.Test.YtjfnaflbhmeokaaHeapO
namespace Go.Proofs.Ytjfnaflbhmeokaa.Wt
def cmpI (x y : Int) : Int := if x < y then -1 else if y < x then 1 else 0
def orI (a b : Int) : Int := if a = 0 then b else a
noncomputable def ordW (x y : Int) : Int := orI (cmpI (wT y) (wT x)) (orI (cmpI (wC x) (wC y)) (cmpI (wW x) (wW y)))
noncomputable def ltW (x y : Int) : Bool := decide (ordW x y < 0)
theorem cmpI_neg {x y : Int} : cmpI x y < 0 ↔ x < y := by unfold cmpI; split <;> (try split) <;> omega
theorem cmpI_zero {x y : Int} : cmpI x y = 0 ↔ x = y := by unfold cmpI; split <;> (try split) <;> omega
theorem ordW_neg {x y : Int} : ordW x y < 0 ↔ wT y < wT x ∨ (wT x = wT y ∧ (wC x < wC y ∨ (wC x = wC y ∧ wW x < wW y))) := by
  unfold ordW orI
  by_cases h1 : cmpI (wT y) (wT x) = 0
  · rw [if_pos h1]
    have e := cmpI_zero.1 h1
    by_cases h2 : cmpI (wC x) (wC y) = 0
    · rw [if_pos h2, cmpI_neg]
      have e2 := cmpI_zero.1 h2
      omega
    · rw [if_neg h2, cmpI_neg]
      have : ¬ wC x = wC y := fun e => h2 (cmpI_zero.2 e)
      omega
  · rw [if_neg h1, cmpI_neg]
    have : ¬ wT y = wT x := fun e => h1 (cmpI_zero.2 e)
    omega
theorem ltW_iff {x y : Int} : ltW x y = true ↔ wT y < wT x ∨ (wT x = wT y ∧ (wC x < wC y ∨ (wC x = wC y ∧ wW x < wW y))) := by
  unfold ltW; rw [decide_eq_true_iff, ordW_neg]
theorem ltW_false {x y : Int} : ltW x y = false ↔ ¬ (wT y < wT x ∨ (wT x = wT y ∧ (wC x < wC y ∨ (wC x = wC y ∧ wW x < wW y)))) := by
  rw [← ltW_iff]; simp
theorem ltW_swo : Swo ltW where
  asymm x y h := by rw [ltW_iff] at h; rw [ltW_false]; omega
  split x y z h := by rw [ltW_iff] at h; rw [ltW_iff, ltW_iff]; omega
theorem ltW_trans {x y z : Int} (h1 : ltW x y = true) (h2 : ltW y z = true) : ltW x z = true := by rw [ltW_iff] at *; omega
theorem ltW_irr (x : Int) : ltW x x = false := by rw [ltW_false]; omega
theorem ltW_total {x y : Int} (h : wW x ≠ wW y) : ltW x y = true ∨ ltW y x = true := by rw [ltW_iff, ltW_iff]; omega
/-- A party that may be. -/
def okW (x : Int) : Prop := 1 ≤ wW x ∧ wW x < 4294967296 ∧ 1 ≤ wS x ∧ wS x ≤ 16 ∧ 0 ≤ wT x ∧ wT x ≤ 9 ∧ 0 ≤ wC x ∧ wC x ≤ 1099511627776
/-- In their order. -/
abbrev Ord (S : List Int) : Prop := S.Pairwise fun x y => ltW x y = true
theorem ord_unique : ∀ {S T : List Int}, S.Perm T → Ord S → Ord T → S = T
  | [], T, hp, _, _ => (List.nil_perm.1 hp).symm
  | x :: S, [], hp, _, _ => absurd hp.length_eq (by simp)
  | x :: S, y :: T, hp, hs, ht => by
    have hs' := List.pairwise_cons.1 hs
    have ht' := List.pairwise_cons.1 ht
    have hx : x ∈ y :: T := hp.mem_iff.1 (by simp)
    have hy : y ∈ x :: S := hp.mem_iff.2 (by simp)
    have e : x = y := by
      rcases List.mem_cons.1 hx with e | hx
      · exact e
      · rcases List.mem_cons.1 hy with e | hy
        · exact e.symm
        · have h1 := ht'.1 _ hx
          have h2 := hs'.1 _ hy
          rw [ltW_swo.asymm _ _ h1] at h2; cases h2
    subst e
    rw [ord_unique ((List.perm_cons x).1 hp) hs'.2 ht'.2]
/-- A party in its place. -/
noncomputable def insW (x : Int) : List Int → List Int
  | [] => [x]
  | y :: S => if ltW y x then y :: insW x S else x :: y :: S
theorem insW_perm (x : Int) : ∀ S, (insW x S).Perm (x :: S)
  | [] => List.Perm.refl _
  | y :: S => by
    unfold insW
    split
    · exact ((insW_perm x S).cons y).trans (List.Perm.swap x y S)
    · exact List.Perm.refl _
theorem insW_ord {x : Int} : ∀ {S}, Ord S → (∀ y ∈ S, wW y ≠ wW x) → Ord (insW x S)
  | [], _, _ => List.pairwise_singleton _ _
  | y :: S, hs, hn => by
    have hs' := List.pairwise_cons.1 hs
    unfold insW
    split
    · rename_i h
      refine List.pairwise_cons.2 ⟨?_, insW_ord hs'.2 (fun z hz => hn z (by simp [hz]))⟩
      intro z hz
      rcases List.mem_cons.1 ((insW_perm x S).mem_iff.1 hz) with e | hz
      · subst e; exact h
      · exact hs'.1 z hz
    · rename_i h
      have hxy : ltW x y = true := (ltW_total (hn y (by simp))).resolve_left h
      refine List.pairwise_cons.2 ⟨?_, hs⟩
      intro z hz
      rcases List.mem_cons.1 hz with e | hz
      · subst e; exact hxy
      · exact ltW_trans hxy (hs'.1 z hz)
theorem insW_length (x : Int) (S : List Int) : (insW x S).length = S.length + 1 := by rw [(insW_perm x S).length_eq]; simp
/-- Without the party of that name. -/
noncomputable def outW (who : Int) (S : List Int) : List Int := S.filter fun x => decide (wW x ≠ who)
/-- Names are not twice there. -/
abbrev Lone (S : List Int) : Prop := S.Pairwise fun x y => wW x ≠ wW y
theorem lone_perm {S T : List Int} (h : S.Perm T) (hs : Lone S) : Lone T := h.pairwise hs (fun h e => h e.symm)
theorem outW_perm {x : Int} : ∀ {S}, Lone S → x ∈ S → (x :: outW (wW x) S).Perm S
  | [], _, h => by simp at h
  | y :: S, hs, h => by
    have hs' := List.pairwise_cons.1 hs
    by_cases e : y = x
    · subst e
      have : outW (wW y) (y :: S) = S := by
        unfold outW
        rw [List.filter_cons_of_neg (by simp)]
        exact List.filter_eq_self.2 fun z hz => by simpa using fun e => hs'.1 z hz e.symm
      rw [this]
    · have hx : x ∈ S := by rcases List.mem_cons.1 h with e2 | h
                            · exact absurd e2.symm e
                            · exact h
      have : outW (wW x) (y :: S) = y :: outW (wW x) S := by
        unfold outW
        rw [List.filter_cons_of_pos (by simpa using hs'.1 x hx)]
      rw [this]
      exact (List.Perm.swap y x _).trans ((outW_perm hs'.2 hx).cons y)
theorem outW_sub (who : Int) (S : List Int) : (outW who S).Sublist S := List.filter_sublist
theorem outW_ord {who : Int} {S : List Int} (h : Ord S) : Ord (outW who S) := h.sublist (outW_sub who S)
theorem outW_lone {who : Int} {S : List Int} (h : Lone S) : Lone (outW who S) := h.sublist (outW_sub who S)
theorem outW_ne {who : Int} {S : List Int} : ∀ x ∈ outW who S, wW x ≠ who := by
  intro x hx; simpa using (List.mem_filter.1 hx).2
theorem outW_mem {who x : Int} {S : List Int} : x ∈ outW who S ↔ x ∈ S ∧ wW x ≠ who := by unfold outW; rw [List.mem_filter]; simp
theorem lone_mem {S : List Int} (h : Lone S) {x y : Int} (hx : x ∈ S) (hy : y ∈ S) (e : wW x = wW y) : x = y := by
  by_cases hxy : x = y
  · exact hxy
  · obtain ⟨i, hi, rfl⟩ := List.getElem_of_mem hx
    obtain ⟨j, hj, rfl⟩ := List.getElem_of_mem hy
    have hp := List.pairwise_iff_getElem.1 h
    rcases Nat.lt_trichotomy i j with h1 | h1 | h1
    · exact absurd e (hp i j hi hj h1)
    · subst h1; rfl
    · exact absurd e.symm (hp j i hj hi h1)
/-- Another tier. -/
noncomputable def tierW (x t : Int) : Int := wtN (wW x) (wS x) t (wC x)
theorem okW_n {a b c d : Int} (h1 : 1 ≤ a) (h2 : a < 4294967296) (h3 : 1 ≤ b) (h4 : b ≤ 16) (h5 : 0 ≤ c) (h6 : c ≤ 9) (h7 : 0 ≤ d) (h8 : d ≤ 1099511627776) :
    okW (wtN a b c d) ∧ wW (wtN a b c d) = a ∧ wS (wtN a b c d) = b ∧ wT (wtN a b c d) = c ∧ wC (wtN a b c d) = d := by
  have e1 : wW (wtN a b c d) = a := wW_n (by omega) h2
  have e2 : wS (wtN a b c d) = b := wS_n (by omega) h2 h5 (by omega) h7 (by omega)
  have e3 : wT (wtN a b c d) = c := wT_n (by omega) h2 h5 (by omega) h7 (by omega)
  have e4 : wC (wtN a b c d) = d := wC_n (by omega) h2 h7 (by omega)
  exact ⟨⟨by omega, by omega, by omega, by omega, by omega, by omega, by omega, by omega⟩, e1, e2, e3, e4⟩
theorem tierW_ok {x t : Int} (h : okW x) (h0 : 0 ≤ t) (h9 : t ≤ 9) : okW (tierW x t) ∧ wW (tierW x t) = wW x ∧ wS (tierW x t) = wS x ∧ wT (tierW x t) = t ∧ wC (tierW x t) = wC x := by
  obtain ⟨a1, a2, a3, a4, a5, a6, a7, a8⟩ := h
  exact okW_n a1 a2 a3 a4 h0 h9 a7 a8
/-- Who of them gets seats, and who stays. -/
noncomputable def serveF : Int → List Int → List Int × List Int
  | _, [] => ([], [])
  | n, x :: S => if wS x ≤ n then (x :: (serveF (n - wS x) S).1, (serveF (n - wS x) S).2) else ((serveF n S).1, x :: (serveF n S).2)
theorem serveF_le {n : Int} (hn : n ≤ 0) : ∀ {S : List Int}, (∀ x ∈ S, okW x) → serveF n S = ([], S)
  | [], _ => rfl
  | x :: S, h => by
    have hx := h x (by simp)
    unfold serveF
    rw [if_neg (by unfold okW at hx; omega), serveF_le hn (fun y hy => h y (by simp [hy]))]
theorem serveF_sub1 : ∀ (n : Int) (S : List Int), ((serveF n S).1).Sublist S
  | _, [] => List.Sublist.refl _
  | n, x :: S => by
    unfold serveF
    split
    · exact (serveF_sub1 _ S).cons_cons x
    · exact (serveF_sub1 _ S).cons x
theorem serveF_sub2 : ∀ (n : Int) (S : List Int), ((serveF n S).2).Sublist S
  | _, [] => List.Sublist.refl _
  | n, x :: S => by
    unfold serveF
    split
    · exact (serveF_sub2 _ S).cons x
    · exact (serveF_sub2 _ S).cons_cons x
theorem serveF_perm : ∀ (n : Int) (S : List Int), ((serveF n S).1 ++ (serveF n S).2).Perm S
  | _, [] => List.Perm.refl _
  | n, x :: S => by
    unfold serveF
    split
    · exact (serveF_perm _ S).cons x
    · exact (List.perm_middle).trans ((serveF_perm _ S).cons x)
/-- At which place a party stands. -/
noncomputable def placeW (S : List Int) (x : Int) : Nat := S.countP fun y => ltW y x
theorem placeW_at : ∀ {S : List Int} (_ : Ord S) {k : Nat} (hk : k < S.length), placeW S S[k] = k
  | [], _, _, hk => by simp at hk
  | y :: S, hs, 0, _ => by
    have hs' := List.pairwise_cons.1 hs
    unfold placeW
    rw [List.countP_eq_zero]
    intro z hz
    simp only [List.getElem_cons_zero]
    rcases List.mem_cons.1 hz with e | hz
    · subst e; rw [ltW_irr]; simp
    · rw [ltW_swo.asymm _ _ (hs'.1 z hz)]; simp
  | y :: S, hs, k + 1, hk => by
    have hs' := List.pairwise_cons.1 hs
    have hk' : k < S.length := by simpa using hk
    have ih := placeW_at hs'.2 hk'
    unfold placeW at ih ⊢
    simp only [List.getElem_cons_succ]
    rw [List.countP_cons_of_pos (by exact hs'.1 _ (List.getElem_mem hk')), ih]
end Go.Proofs.Ytjfnaflbhmeokaa.Wt
