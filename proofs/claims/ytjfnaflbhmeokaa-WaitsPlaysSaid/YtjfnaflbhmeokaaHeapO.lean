/- A heap whose less is an order: the first item is ahead of all others, whatever was done. Condition: less is a strict weak order. -/
import Derived.Test.YtjfnaflbhmeokaaHeapN
namespace Go.Proofs.Ytjfnaflbhmeokaa
/-- lt is a strict weak order. -/
structure Swo (lt : Int → Int → Bool) : Prop where
  asymm : ∀ x y, lt x y = true → lt y x = false
  split : ∀ x y z, lt x z = true → lt x y = true ∨ lt y z = true
/-- y is not ahead of x. -/
def leI (lt : Int → Int → Bool) (x y : It) : Prop := aheadB lt y.1 y.2 x.1 x.2 = false
theorem leI_iff {lt : Int → Int → Bool} {x y : It} : leI lt x y ↔ lt y.1 x.1 = false ∧ (lt x.1 y.1 = true ∨ x.2 ≤ y.2) := by
  unfold leI aheadB
  cases h1 : lt y.1 x.1 <;> cases h2 : lt x.1 y.1 <;> simp
theorem leI_trans {lt : Int → Int → Bool} (hs : Swo lt) {x y z : It} (h1 : leI lt x y) (h2 : leI lt y z) : leI lt x z := by
  rw [leI_iff] at h1 h2 ⊢
  obtain ⟨a1, a2⟩ := h1
  obtain ⟨b1, b2⟩ := h2
  have c1 : lt z.1 x.1 = false := by
    cases h : lt z.1 x.1 with
    | false => rfl
    | true => rcases hs.split _ y.1 _ h with h' | h'
              · rw [b1] at h'; cases h'
              · rw [a1] at h'; cases h'
  refine ⟨c1, ?_⟩
  rcases a2 with a2 | a2
  · rcases hs.split _ z.1 _ a2 with h' | h'
    · exact .inl h'
    · rw [b1] at h'; cases h'
  · rcases b2 with b2 | b2
    · rcases hs.split _ x.1 _ b2 with h' | h'
      · rw [a1] at h'; cases h'
      · exact .inl h'
    · exact .inr (by omega)
theorem leI_of_ahead {lt : Int → Int → Bool} (hs : Swo lt) {x y : It} (h : aheadB lt x.1 x.2 y.1 y.2 = true) : leI lt x y := by
  rw [leI_iff]
  unfold aheadB at h
  cases h1 : lt x.1 y.1 with
  | true => exact ⟨hs.asymm _ _ h1, .inl rfl⟩
  | false => rw [h1] at h; simp at h; exact ⟨h.1, .inr (by omega)⟩
theorem leI_refl {lt : Int → Int → Bool} (hs : Swo lt) (x : It) : leI lt x x := by
  rw [leI_iff]
  refine ⟨?_, .inr (by omega)⟩
  cases h : lt x.1 x.1 with
  | false => rfl
  | true => have := hs.asymm _ _ h; rw [h] at this; cases this
/-- The item at i is not ahead of the one above it. -/
def Edge (lt : Int → Int → Bool) (L : List It) (i : Nat) : Prop := leI lt (itAt L ((i - 1) / 2)) (itAt L i)
def Heaped (lt : Int → Int → Bool) (L : List It) : Prop := ∀ i, 0 < i → i < L.length → Edge lt L i
/-- All is in order but around n: what stands below n is not ahead of what stands above n. -/
structure Around (lt : Int → Int → Bool) (L : List It) (n : Nat) : Prop where
  far : ∀ i, 0 < i → i < L.length → i ≠ n → (i - 1) / 2 ≠ n → Edge lt L i
  near : ∀ i, i < L.length → 0 < i → (i - 1) / 2 = n → 0 < n → leI lt (itAt L ((n - 1) / 2)) (itAt L i)
/-- All is in order but below n. -/
structure Below_ (lt : Int → Int → Bool) (L : List It) (n : Nat) : Prop where
  far : ∀ i, 0 < i → i < L.length → (i - 1) / 2 ≠ n → Edge lt L i
  near : ∀ i, i < L.length → 0 < i → (i - 1) / 2 = n → 0 < n → leI lt (itAt L ((n - 1) / 2)) (itAt L i)
theorem Around.of_heaped {lt : Int → Int → Bool} (hs : Swo lt) {L : List It} (h : Heaped lt L) (n : Nat) : Around lt L n :=
  ⟨fun i h0 h1 _ _ => h i h0 h1, fun i h1 h0 e hn => by
    have a := h i h0 h1
    unfold Edge at a
    rw [e] at a
    exact leI_trans hs (h n hn (by omega)) a⟩
theorem Around.up {lt : Int → Int → Bool} (hs : Swo lt) {L : List It} {n : Nat} (h : Around lt L n) (hn : n < L.length) (h0 : 0 < n) (ha : aheadL lt L n ((n - 1) / 2) = true) :
    Around lt (swapL L n ((n - 1) / 2)) ((n - 1) / 2) := by
  have hp : (n - 1) / 2 < L.length := by omega
  have hg := itAt_swap hn hp
  have hle : leI lt (itAt L n) (itAt L ((n - 1) / 2)) := leI_of_ahead hs ha
  constructor
  · intro i h1 h2 h3 h4
    rw [swapL_length] at h2
    unfold Edge
    rw [hg, hg]
    rw [if_neg h4, if_neg h3]
    by_cases e : (i - 1) / 2 = n
    · rw [if_pos e, if_neg (by omega)]
      exact h.near i h2 h1 e h0
    · rw [if_neg e]
      have hin : i ≠ n := by intro e2; subst e2; exact h4 rfl
      rw [if_neg hin]
      exact h.far i h1 h2 hin e
  · intro i h2 h1 e hp0
    rw [swapL_length] at h2
    rw [hg, hg]
    rw [if_neg (by omega : ¬ (((n - 1) / 2 - 1) / 2 = (n - 1) / 2)), if_neg (by omega : ¬ (((n - 1) / 2 - 1) / 2 = n)), if_neg (by omega : ¬ i = (n - 1) / 2)]
    have hE := h.far ((n - 1) / 2) hp0 hp (by omega) (by omega)
    by_cases e2 : i = n
    · rw [if_pos e2]; exact hE
    · rw [if_neg e2]
      have hEi := h.far i h1 h2 e2 (by omega)
      unfold Edge at hEi hE
      rw [e] at hEi
      exact leI_trans hs hE hEi
theorem up_below {lt : Int → Int → Bool} (hs : Swo lt) : ∀ (f : Nat) (L : List It) (n : Nat), n < L.length → n ≤ f → Around lt L n → Below_ lt (upF lt f L n).1 (upF lt f L n).2 := by
  intro f
  induction f with
  | zero =>
    intro L n hn hf h
    have : n = 0 := by omega
    subst this
    exact ⟨fun i h1 h2 h3 => h.far i h1 h2 (by omega) h3, h.near⟩
  | succ f ih =>
    intro L n hn hf h
    simp only [upF]
    split
    · rename_i hc
      have h0 : 0 < n := by simp at hc; exact hc.1
      have ha : aheadL lt L n ((n - 1) / 2) = true := by simp at hc; exact hc.2
      exact ih _ _ (by rw [swapL_length]; omega) (by omega) (h.up hs hn h0 ha)
    · rename_i hc
      refine ⟨fun i h1 h2 h3 => ?_, h.near⟩
      by_cases e : i = n
      · subst e
        unfold Edge leI
        have : 0 < i := h1
        simp only [gt_iff_lt, this, decide_true, Bool.true_and, Bool.not_eq_true] at hc
        exact hc
      · exact h.far i h1 h2 e h3
theorem lst_cases (lt : Int → Int → Bool) (L : List It) (n : Nat) : (lstF lt L n 2 = n ∨ lstF lt L n 2 = 2 * n + 1 ∨ lstF lt L n 2 = 2 * n + 2) := by
  have h1 : lstF lt L n 1 = n ∨ lstF lt L n 1 = 2 * n + 1 := by
    rw [lstF, lstF]; split
    · right; omega
    · left; rfl
  rw [lstF]
  split
  · right; right; omega
  · omega
theorem lst_least {lt : Int → Int → Bool} (hs : Swo lt) {L : List It} {n : Nat} : ∀ i, i < L.length → (i = n ∨ i = 2 * n + 1 ∨ i = 2 * n + 2) → leI lt (itAt L (lstF lt L n 2)) (itAt L i) := by
  have step : ∀ j i, 2 * n + 1 + j < L.length → leI lt (itAt L (lstF lt L n j)) (itAt L i) → leI lt (itAt L (lstF lt L n (j + 1))) (itAt L i) ∧ leI lt (itAt L (lstF lt L n (j + 1))) (itAt L (2 * n + 1 + j)) := by
    intro j i hj h
    rw [lstF_step hj]
    split
    · rename_i ha
      exact ⟨leI_trans hs (leI_of_ahead hs ha) h, leI_refl hs _⟩
    · rename_i ha
      refine ⟨h, ?_⟩
      simp only [Bool.not_eq_true] at ha
      exact ha
  have base : leI lt (itAt L (lstF lt L n 0)) (itAt L n) := by rw [lstF]; exact leI_refl hs _
  intro i hi hc
  by_cases h1 : 2 * n + 1 < L.length
  · have s1 := step 0 n h1 base
    by_cases h2 : 2 * n + 2 < L.length
    · have s2 := step 1 n h2 s1.1
      have s3 := step 1 (2 * n + 1) h2 s1.2
      rcases hc with rfl | rfl | rfl
      · exact s2.1
      · exact s3.1
      · exact s2.2
    · rw [lstF_past (by omega)]
      rcases hc with rfl | rfl | rfl
      · exact s1.1
      · exact s1.2
      · omega
  · rw [lstF_past (by omega), lstF_past (by omega)]
    rcases hc with rfl | rfl | rfl
    · exact base
    · omega
    · omega
theorem Below_.down {lt : Int → Int → Bool} (hs : Swo lt) {L : List It} {n : Nat} (h : Below_ lt L n) (hn : n < L.length) (hl : lstF lt L n 2 ≠ n) : Below_ lt (swapL L n (lstF lt L n 2)) (lstF lt L n 2) := by
  have hll := lstF_lt lt L n 2 hn
  have hc := lst_cases lt L n
  have least := lst_least hs (L := L) (n := n)
  obtain ⟨l, hl'⟩ : ∃ l, l = lstF lt L n 2 := ⟨_, rfl⟩
  rw [← hl'] at hl hll hc least ⊢
  have hg := itAt_swap hn hll
  constructor
  · intro i h1 h2 h3
    rw [swapL_length] at h2
    unfold Edge
    rw [hg, hg, if_neg h3]
    by_cases e : (i - 1) / 2 = n
    · rw [if_pos e]
      by_cases e2 : i = l
      · rw [if_pos e2]; exact least n hn (.inl rfl)
      · rw [if_neg e2, if_neg (by omega)]
        exact least i h2 (by omega)
    · rw [if_neg e, if_neg (by omega : ¬ i = l)]
      by_cases e3 : i = n
      · subst e3
        rw [if_pos rfl]
        exact h.near l hll (by omega) (by omega) h1
      · rw [if_neg e3]
        exact h.far i h1 h2 e
  · intro i h2 h1 e h0
    rw [swapL_length] at h2
    rw [hg, hg]
    rw [if_neg (by omega : ¬ ((l - 1) / 2 = l)), if_pos (by omega : (l - 1) / 2 = n), if_neg (by omega : ¬ i = l), if_neg (by omega : ¬ i = n)]
    have := h.far i h1 h2 (by omega)
    unfold Edge at this
    rw [e] at this
    exact this
theorem down_heaped {lt : Int → Int → Bool} (hs : Swo lt) : ∀ (f : Nat) (L : List It) (n : Nat), n < L.length → L.length - n ≤ f → Below_ lt L n → Heaped lt (downF lt f L n) := by
  intro f
  induction f with
  | zero => intro L n hn hf; omega
  | succ f ih =>
    intro L n hn hf h
    simp only [downF]
    split
    · rename_i e
      intro i h1 h2
      by_cases e2 : (i - 1) / 2 = n
      · have := lst_least hs (L := L) (n := n) i h2 (by omega)
        rw [e] at this
        unfold Edge; rw [e2]; exact this
      · exact h.far i h1 h2 e2
    · rename_i e
      have h1 := lstF_ge lt L n 2
      have h2 := lstF_lt lt L n 2 hn
      exact ih _ _ (by rw [swapL_length]; exact h2) (by rw [swapL_length]; omega) (h.down hs hn e)
theorem settle_heaped {lt : Int → Int → Bool} (hs : Swo lt) {L : List It} {n : Nat} (hn : n < L.length) (h : Around lt L n) : Heaped lt (settleF lt L n) := by
  unfold settleF
  have hp := (upF_perm lt n L n hn).length_eq
  have h2 := upF_lt lt n L n hn
  exact down_heaped hs _ _ _ (by rw [hp]; exact h2) (by rw [hp]; omega) (up_below hs n L n hn (by omega) h)
theorem push_heaped {lt : Int → Int → Bool} (hs : Swo lt) {L : List It} (h : Heaped lt L) (x : It) : Heaped lt (settleF lt (L ++ [x]) L.length) := by
  refine settle_heaped hs (by simp) ⟨?_, ?_⟩
  · intro i h1 h2 h3 h4
    simp only [List.length_append, List.length_cons, List.length_nil, Nat.zero_add] at h2
    unfold Edge
    rw [itAt_append_lt (by omega), itAt_append_lt (by omega)]
    exact h i h1 (by omega)
  · intro i h1 h2 h3 h4
    simp only [List.length_append, List.length_cons, List.length_nil, Nat.zero_add] at h1
    omega
theorem set_heaped {lt : Int → Int → Bool} (hs : Swo lt) {L : List It} (h : Heaped lt L) {n : Nat} (hn : n < L.length) (x : It) : Heaped lt (settleF lt (L.set n x) n) := by
  refine settle_heaped hs (by simpa using hn) ⟨?_, ?_⟩
  · intro i h1 h2 h3 h4
    unfold Edge
    rw [itAt_set _ _ _ _ hn, itAt_set _ _ _ _ hn, if_neg h3, if_neg h4]
    exact h i h1 (by simpa using h2)
  · intro i h1 h2 h3 h4
    simp only [List.length_set] at h1
    rw [itAt_set _ _ _ _ hn, itAt_set _ _ _ _ hn, if_neg (by omega), if_neg (by omega)]
    have a := h i h2 h1
    unfold Edge at a
    rw [h3] at a
    exact leI_trans hs (h n h4 hn) a
theorem take_heaped {lt : Int → Int → Bool} (hs : Swo lt) {L : List It} (h : Heaped lt L) {n : Nat} (hn : n < L.length) : Heaped lt (takeF lt L n) := by
  obtain ⟨m, hm⟩ : ∃ m, L.length = m + 1 := ⟨L.length - 1, by omega⟩
  have hl : ((if n = m then L else swapL L n m).take m).length = m := by split <;> simp [swapL_length, hm]
  unfold takeF
  dsimp only
  rw [hm, Nat.add_sub_cancel]
  split
  · rename_i hnm
    have hne : n ≠ m := by omega
    refine settle_heaped hs (by rw [hl]; exact hnm) ⟨?_, ?_⟩
    · intro i h1 h2 h3 h4
      rw [hl] at h2
      unfold Edge
      rw [itAt_take h2, itAt_take (by omega), if_neg hne, itAt_swap hn (by omega), itAt_swap hn (by omega), if_neg (by omega), if_neg h4, if_neg (by omega), if_neg h3]
      exact h i h1 (by omega)
    · intro i h1 h2 h3 h4
      rw [hl] at h1
      rw [itAt_take h1, itAt_take (by omega), if_neg hne, itAt_swap hn (by omega), itAt_swap hn (by omega), if_neg (by omega), if_neg (by omega), if_neg (by omega), if_neg (by omega)]
      have a := h i h2 (by omega)
      unfold Edge at a
      rw [h3] at a
      exact leI_trans hs (h n h4 hn) a
  · rename_i hnm
    have e : n = m := by omega
    rw [if_pos e]
    intro i h1 h2
    have h2' : i < m := by simp at h2; omega
    unfold Edge
    rw [itAt_take h2', itAt_take (by omega)]
    exact h i h1 (by omega)
/-- The first item is ahead of all. -/
theorem heaped_least {lt : Int → Int → Bool} (hs : Swo lt) {L : List It} (h : Heaped lt L) : ∀ i, i < L.length → leI lt (itAt L 0) (itAt L i) := by
  intro i
  induction i using Nat.strongRecOn with
  | _ i ih =>
    intro hi
    by_cases h0 : i = 0
    · subst h0; exact leI_refl hs _
    · exact leI_trans hs (ih ((i - 1) / 2) (by omega) (by omega)) (h i (by omega) hi)
theorem heaped_nil (lt : Int → Int → Bool) : Heaped lt [] := fun i _ h => by simp at h
end Go.Proofs.Ytjfnaflbhmeokaa
