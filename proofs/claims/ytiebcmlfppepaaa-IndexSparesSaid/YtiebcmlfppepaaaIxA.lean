/- The index layer, plain: slots, what a search meets, what is held. No condition. -/
import Derived.Lib.Hide
namespace Go.Proofs.Ytiebcmlfppepaaa.Ix
/-- A slot: state (0 empty, 1 full, 2 grave), id, number. -/
abbrev Sl := Nat × Nat × Int
def slAt (S : List Sl) (p : Nat) : Sl := S.getD p (0, 0, 0)
def ent (S : List Sl) : List (Nat × Int) := (S.filter fun x => x.1 == 1).map (·.2)
theorem slAt_of {S : List Sl} {p : Nat} (h : p < S.length) : S[p]? = some (slAt S p) := by
  simp [slAt, h]
theorem slAt_set {S : List Sl} {p q : Nat} {x : Sl} (h : p < S.length) : slAt (S.set p x) q = if p = q then x else slAt S q := by
  unfold slAt
  rw [List.getD_eq_getElem?_getD, List.getElem?_set, List.getD_eq_getElem?_getD]
  by_cases e : p = q
  · subst e; simp [h]
  · simp [e]
/-- Every item is met from its home. -/
structure Good (hm : Nat → Nat) (S : List Sl) : Prop where
  met : ∀ p, p < S.length → (slAt S p).1 = 1 → ∃ j, j < S.length ∧ p = (hm (slAt S p).2.1 + j) % S.length ∧ ∀ i, i < j → (slAt S ((hm (slAt S p).2.1 + i) % S.length)).1 ≠ 0
  uniq : ∀ p q, p < S.length → q < S.length → (slAt S p).1 = 1 → (slAt S q).1 = 1 → (slAt S p).2.1 = (slAt S q).2.1 → p = q
  le2 : ∀ x ∈ S, x.1 ≤ 2
/-- What a search has seen behind t slots: no empty one, not the id; the first grave. -/
structure Look (S : List Sl) (h id t : Nat) (f : Option Nat) : Prop where
  none0 : ∀ i, i < t → (slAt S ((h + i) % S.length)).1 ≠ 0
  noid : ∀ i, i < t → ¬ ((slAt S ((h + i) % S.length)).1 = 1 ∧ (slAt S ((h + i) % S.length)).2.1 = id)
  free : ∀ p, f = some p → ∃ i, i < t ∧ p = (h + i) % S.length ∧ (slAt S p).1 = 2
/-- A place for an id that isn't there. -/
def Place (S : List Sl) (h p : Nat) : Prop := p < S.length ∧ (slAt S p).1 ≠ 1 ∧ ∃ j, j < S.length ∧ p = (h + j) % S.length ∧ ∀ i, i < j → (slAt S ((h + i) % S.length)).1 ≠ 0
theorem Look.start (S : List Sl) (h id : Nat) : Look S h id 0 none := ⟨fun i hi => absurd hi (Nat.not_lt_zero _), fun i hi => absurd hi (Nat.not_lt_zero _), fun _ h => by simp at h⟩
theorem Look.more {S : List Sl} {h id t : Nat} {f : Option Nat} (H : Look S h id t f) (h0 : (slAt S ((h + t) % S.length)).1 ≠ 0) (h1 : ¬ ((slAt S ((h + t) % S.length)).1 = 1 ∧ (slAt S ((h + t) % S.length)).2.1 = id)) : Look S h id (t + 1) f := by
  refine ⟨fun i hi => ?_, fun i hi => ?_, fun p e => ?_⟩
  · rcases Nat.lt_succ_iff_lt_or_eq.1 hi with h | rfl
    · exact H.none0 i h
    · exact h0
  · rcases Nat.lt_succ_iff_lt_or_eq.1 hi with h | rfl
    · exact H.noid i h
    · exact h1
  · obtain ⟨i, h1, h2⟩ := H.free p e
    exact ⟨i, by omega, h2⟩
theorem Look.grave {S : List Sl} {h id t : Nat} (H : Look S h id t none) (h2 : (slAt S ((h + t) % S.length)).1 = 2) : Look S h id (t + 1) (some ((h + t) % S.length)) := by
  have := H.more (by omega) (by omega)
  refine ⟨this.none0, this.noid, fun p e => ?_⟩
  simp only [Option.some.injEq] at e
  subst e
  exact ⟨t, by omega, rfl, h2⟩
theorem turn_all {N h p : Nat} (hN : 0 < N) (hp : p < N) : ∃ i, i < N ∧ (h + i) % N = p := by
  refine ⟨(p + (N - h % N)) % N, Nat.mod_lt _ hN, ?_⟩
  rw [Nat.add_mod_mod, Nat.add_mod]
  have hh : h % N < N := Nat.mod_lt _ hN
  by_cases e : h % N = 0
  · rw [e]; simp; exact Nat.mod_eq_of_lt hp
  · have h2 : (p + (N - h % N)) % N = if p < h % N then p + (N - h % N) else p - h % N := by
      by_cases c : p < h % N
      · rw [if_pos c, Nat.mod_eq_of_lt (by omega)]
      · rw [if_neg c, Nat.mod_eq_sub_mod (by omega), Nat.mod_eq_of_lt (by omega)]; omega
    rw [h2]
    by_cases c : p < h % N
    · rw [if_pos c, Nat.mod_eq_sub_mod (by omega), Nat.mod_eq_of_lt (by omega)]; omega
    · rw [if_neg c, Nat.mod_eq_of_lt (by omega)]; omega
/-- A search that meets an empty slot. -/
theorem Look.ends {S : List Sl} {hm : Nat → Nat} {id t : Nat} {f : Option Nat} (G : Good hm S) (H : Look S (hm id) id t f) (ht : t < S.length) (h0 : (slAt S ((hm id + t) % S.length)).1 = 0) :
    Place S (hm id) (f.getD ((hm id + t) % S.length)) ∧ ∀ p, p < S.length → ¬ ((slAt S p).1 = 1 ∧ (slAt S p).2.1 = id) := by
  have hN : 0 < S.length := by omega
  constructor
  · cases f with
    | none => exact ⟨Nat.mod_lt _ hN, by rw [Option.getD_none]; omega, t, ht, rfl, H.none0⟩
    | some p =>
      obtain ⟨i, hi, e, h2⟩ := H.free p rfl
      exact ⟨by rw [Option.getD_some, e]; exact Nat.mod_lt _ hN, by rw [Option.getD_some]; omega, i, by omega, e, fun k hk => H.none0 k (by omega)⟩
  · rintro p hp ⟨h1, rfl⟩
    obtain ⟨j, hj, e, hn⟩ := G.met p hp h1
    have : j ≤ t := by
      refine Nat.le_of_not_lt fun hlt => ?_
      exact hn t hlt h0
    rcases Nat.lt_or_eq_of_le this with h | rfl
    · exact H.noid j h ⟨by rw [← e]; exact h1, by rw [← e]⟩
    · rw [← e] at h0; omega
/-- A search over all slots would have met an empty one. -/
theorem Look.full {S : List Sl} {h id : Nat} {f : Option Nat} (H : Look S h id S.length f) {p : Nat} (hp : p < S.length) (h0 : (slAt S p).1 = 0) : False := by
  obtain ⟨i, hi, e⟩ := turn_all (h := h) (by omega) hp
  exact H.none0 i hi (by rw [e]; exact h0)
theorem next_turn (h t N : Nat) : ((h + t) % N + 1) % N = (h + (t + 1)) % N := by rw [Nat.mod_add_mod]; rfl
/-- An item laid into a place. -/
theorem Good.put {hm : Nat → Nat} {S : List Sl} (G : Good hm S) {id : Nat} {v : Int} {p : Nat} (hp : Place S (hm id) p) (ha : ∀ q, q < S.length → ¬ ((slAt S q).1 = 1 ∧ (slAt S q).2.1 = id)) : Good hm (S.set p (1, id, v)) := by
  obtain ⟨h1, h2, j, hj, e, hn⟩ := hp
  have keep : ∀ q, (slAt S q).1 ≠ 0 → (slAt (S.set p (1, id, v)) q).1 ≠ 0 := by
    intro q hq; rw [slAt_set h1]; split
    · simp
    · exact hq
  refine ⟨fun q hq => ?_, fun a b ha' hb' => ?_, fun x hx => ?_⟩
  · rw [List.length_set] at hq
    rw [slAt_set h1, List.length_set]
    by_cases c : p = q
    · subst c
      rw [if_pos rfl]
      intro _
      exact ⟨j, hj, e, fun i hi => keep _ (hn i hi)⟩
    · rw [if_neg c]
      intro hf
      obtain ⟨k, hk, e2, hn2⟩ := G.met q hq hf
      exact ⟨k, hk, e2, fun i hi => keep _ (hn2 i hi)⟩
  · rw [List.length_set] at ha' hb'
    rw [slAt_set h1, slAt_set h1]
    by_cases ca : p = a
    · by_cases cb : p = b
      · intro _ _ _; omega
      · rw [if_pos ca, if_neg cb]
        intro _ hb2 hb3
        exact absurd ⟨hb2, hb3.symm⟩ (ha b hb')
    · by_cases cb : p = b
      · rw [if_neg ca, if_pos cb]
        intro ha2 _ ha3
        exact absurd ⟨ha2, ha3⟩ (ha a ha')
      · rw [if_neg ca, if_neg cb]
        exact G.uniq a b ha' hb'
  · rcases List.mem_or_eq_of_mem_set hx with h | rfl
    · exact G.le2 x h
    · simp
/-- Another number under an id that is there. -/
theorem Good.setv {hm : Nat → Nat} {S : List Sl} (G : Good hm S) {id : Nat} {v : Int} {p : Nat} (h1 : p < S.length) (hf : (slAt S p).1 = 1 ∧ (slAt S p).2.1 = id) : Good hm (S.set p (1, id, v)) := by
  have same : ∀ q, (slAt (S.set p (1, id, v)) q).1 = (slAt S q).1 ∧ ((slAt S q).1 = 1 → (slAt (S.set p (1, id, v)) q).2.1 = (slAt S q).2.1) := by
    intro q; rw [slAt_set h1]
    by_cases c : p = q
    · subst c; rw [if_pos rfl]; exact ⟨hf.1.symm, fun _ => hf.2.symm⟩
    · rw [if_neg c]; exact ⟨rfl, fun _ => rfl⟩
  refine ⟨fun q hq => ?_, fun a b ha hb h1 h2 h3 => ?_, fun x hx => ?_⟩
  · rw [List.length_set] at hq ⊢
    rw [(same q).1]
    intro hq1
    rw [(same q).2 hq1]
    obtain ⟨k, hk, e2, hn2⟩ := G.met q hq hq1
    exact ⟨k, hk, e2, fun i hi => by rw [(same _).1]; exact hn2 i hi⟩
  · rw [List.length_set] at ha hb
    rw [(same a).1] at h1
    rw [(same b).1] at h2
    rw [(same a).2 h1, (same b).2 h2] at h3
    exact G.uniq a b ha hb h1 h2 h3
  · rcases List.mem_or_eq_of_mem_set hx with h | rfl
    · exact G.le2 x h
    · simp
/-- An item that goes. -/
theorem Good.drop {hm : Nat → Nat} {S : List Sl} (G : Good hm S) {p : Nat} (h1 : p < S.length) : Good hm (S.set p (2, 0, 0)) := by
  have keep : ∀ q, (slAt S q).1 ≠ 0 → (slAt (S.set p (2, 0, 0)) q).1 ≠ 0 := by
    intro q hq; rw [slAt_set h1]; split
    · simp
    · exact hq
  have was : ∀ q, (slAt (S.set p (2, 0, 0)) q).1 = 1 → slAt (S.set p (2, 0, 0)) q = slAt S q := by
    intro q; rw [slAt_set h1]; split
    · simp
    · intro _; rfl
  refine ⟨fun q hq hf => ?_, fun a b ha hb hfa hfb => ?_, fun x hx => ?_⟩
  · have e := was q hf
    rw [List.length_set] at hq ⊢
    rw [e] at hf ⊢
    obtain ⟨k, hk, e2, hn2⟩ := G.met q hq hf
    exact ⟨k, hk, e2, fun i hi => keep _ (hn2 i hi)⟩
  · have e1 := was a hfa
    have e2 := was b hfb
    rw [List.length_set] at ha hb
    rw [e1] at hfa ⊢
    rw [e2] at hfb ⊢
    exact G.uniq a b ha hb hfa hfb
  · rcases List.mem_or_eq_of_mem_set hx with h | rfl
    · exact G.le2 x h
    · simp
theorem Good.nil (hm : Nat → Nat) (N : Nat) : Good hm (List.replicate N (0, 0, 0)) := by
  have h0 : ∀ p, (slAt (List.replicate N ((0, 0, 0) : Sl)) p).1 = 0 := by
    intro p
    unfold slAt
    rw [List.getD_eq_getElem?_getD, List.getElem?_replicate]
    split <;> rfl
  refine ⟨fun p _ h => ?_, fun p q _ _ h => ?_, fun x hx => ?_⟩
  · rw [h0] at h; omega
  · rw [h0] at h; omega
  · rw [List.mem_replicate] at hx; rw [hx.2]; simp
end Go.Proofs.Ytiebcmlfppepaaa.Ix
