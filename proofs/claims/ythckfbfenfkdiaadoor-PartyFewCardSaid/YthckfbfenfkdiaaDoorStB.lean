/- The stable sort of slices, plain: merging, and the blocks that grow. No condition. -/
import Derived.Test.YthckfbfenfkdiaaDoorStA
namespace Go.Proofs.YthckfbfenfkdiaaDoor.St
open Go.Sort
/-- What merging asks. -/
structure Two (a m b : Nat) (d : Array Sp) : Prop where
  am : a ≤ m
  mb : m ≤ b
  bs : b ≤ d.size
  one : SortedIn lex a m d
  two : SortedIn lex m b d
  ahead : Ahead a m b d
/-- What merging does. -/
structure Done (a b : Nat) (d d' : Array Sp) : Prop where
  perm : PermIn a b d d'
  sorted : SortedIn lex a b d'
theorem srt_part {a b a' b' : Nat} {d : Array Sp} (h : SortedIn lex a b d) (h1 : a ≤ a') (h2 : b' ≤ b) : SortedIn lex a' b' d := fun i j hi hij hj => h i j (by omega) hij (by omega)
theorem srt_get {a b : Nat} {d : Array Sp} (h : SortedIn lex a b d) {i j : Nat} (hi : a ≤ i) (hij : i ≤ j) (hj : j < b) : lex d[j]! d[i]! = false := by
  rcases Nat.lt_or_ge i j with h1 | h1
  · exact h i j hi h1 hj
  · obtain rfl : i = j := by omega
    exact swo_lex.irrefl _
theorem lex_lt_le {x y z : Sp} (h : lex x y = true) (k : lex z y = false) : lex x z = true := by rw [lex_iff] at h ⊢; rw [lex_no] at k; omega
theorem lex_le_lt {x y z : Sp} (h : lex y x = false) (k : lex y z = true) : lex x z = true := by rw [lex_no] at h; rw [lex_iff] at k ⊢; omega
/-- A rotation at a place where it may be parted. -/
structure Cut (a s m e b : Nat) (d : Array Sp) : Prop where
  as' : a ≤ s
  sm : s ≤ m
  me : m ≤ e
  eb : e ≤ b
  low : ∀ p q, a ≤ p → p < s → e ≤ q → q < b → lex d[q]! d[p]! = false
  high : ∀ p q, s ≤ p → p < m → m ≤ q → q < e → lex d[q]! d[p]! = true
section
variable {a s m e b : Nat} {d d' : Array Sp}
theorem Cut.left (c : Cut a s m e b d) (h : Two a m b d) (r : Ro s m e d d') : Two a s (s + (e - m)) d' := by
  obtain ⟨c1, c2, c3, c4, _, _⟩ := c
  have hz := r.size; have hb := h.bs
  refine ⟨c1, by omega, by omega, fun i j hi hij hj => ?_, fun i j hi hij hj => ?_, fun p q h1 h2 h3 h4 => ?_⟩
  · rw [r.get, r.get, if_neg (by omega), if_neg (by omega)]; exact h.one i j hi hij (by omega)
  · rw [r.get, r.get, if_pos (by omega), if_pos (by omega), if_pos (by omega), if_pos (by omega)]; exact h.two _ _ (by omega) (by omega) (by omega)
  · rw [r.get, r.get, if_neg (by omega), if_pos (by omega), if_pos (by omega)]; exact h.ahead _ _ h1 (by omega) (by omega) (by omega)
theorem Cut.right (c : Cut a s m e b d) (h : Two a m b d) (r : Ro s m e d d') : Two (s + (e - m)) e b d' := by
  obtain ⟨c1, c2, c3, c4, _, _⟩ := c
  have hz := r.size; have hb := h.bs
  refine ⟨by omega, by omega, by omega, fun i j hi hij hj => ?_, fun i j hi hij hj => ?_, fun p q h1 h2 h3 h4 => ?_⟩
  · rw [r.get, r.get, if_pos (by omega), if_neg (by omega), if_pos (by omega), if_neg (by omega)]; exact h.one _ _ (by omega) (by omega) (by omega)
  · rw [r.get, r.get, if_neg (by omega), if_neg (by omega)]; exact h.two _ _ (by omega) (by omega) (by omega)
  · rw [r.get, r.get, if_pos (by omega), if_neg (by omega), if_neg (by omega)]; exact h.ahead _ _ (by omega) (by omega) (by omega) h4
theorem Cut.leq (c : Cut a s m e b d) (h : Two a m b d) (r : Ro s m e d d') : LeqP a (s + (e - m)) b d' := by
  obtain ⟨c1, c2, c3, c4, lo, hi⟩ := c
  intro p q h1 h2 h3 h4
  rw [r.get p, r.get q]
  by_cases hp : p < s
  · rw [if_neg (by omega : ¬ (s ≤ p ∧ p < e))]
    by_cases hq : q < e
    · rw [if_pos (by omega : s ≤ q ∧ q < e), if_neg (by omega : ¬ q < s + (e - m))]
      exact srt_get h.one h1 (by omega) (by omega)
    · rw [if_neg (by omega : ¬ (s ≤ q ∧ q < e))]
      exact lo p q h1 hp (by omega) h4
  · rw [if_pos (by omega : s ≤ p ∧ p < e), if_pos (by omega : p < s + (e - m))]
    by_cases hq : q < e
    · rw [if_pos (by omega : s ≤ q ∧ q < e), if_neg (by omega : ¬ q < s + (e - m))]
      exact swo_lex.asymmA (hi _ _ (by omega) (by omega) (by omega) (by omega))
    · rw [if_neg (by omega : ¬ (s ≤ q ∧ q < e))]
      exact srt_get h.two (by omega) (by omega) h4
end
theorem LeqP.perm {a m b : Nat} {d d' : Array Sp} (h : LeqP a m b d) (hb : b ≤ d.size) (_h1 : a ≤ m) (h2 : m ≤ b) (k : PermIn a m d d' ∨ PermIn m b d d') : LeqP a m b d' := by
  intro p q hp1 hp2 hq1 hq2
  rcases k with k | k
  · obtain ⟨x, hx1, hx2, e⟩ := permIn_get k (by omega) hp1 hp2
    rw [e, k.2.1 q (by omega)]; exact h x q hx1 hx2 hq1 hq2
  · obtain ⟨x, hx1, hx2, e⟩ := permIn_get k hb hq1 hq2
    rw [e, k.2.1 p (by omega)]; exact h p x hp1 hp2 hx1 hx2
theorem sorted_join {a m b : Nat} {d : Array Sp} (h : SortedIn lex a m d) (k : SortedIn lex m b d) (l : LeqP a m b d) : SortedIn lex a b d := by
  intro i j hi hij hj
  by_cases h1 : j < m
  · exact h i j hi hij h1
  · by_cases h2 : i < m
    · exact l i j hi h2 (by omega) hj
    · exact k i j (by omega) hij hj
theorem sorted_out {a b a' b' : Nat} {d d' : Array Sp} (h : SortedIn lex a b d) (k : PermIn a' b' d d') (ho : b ≤ a' ∨ b' ≤ a) : SortedIn lex a b d' := by
  intro i j hi hij hj
  rw [k.2.1 i (by omega), k.2.1 j (by omega)]
  exact h i j hi hij hj
theorem Two.out {a m b a' b' : Nat} {d d' : Array Sp} (h : Two a m b d) (k : PermIn a' b' d d') (ho : b ≤ a' ∨ b' ≤ a) : Two a m b d' := by
  obtain ⟨h1, h2, h3, h4, h5, h6⟩ := h
  refine ⟨h1, h2, by rw [k.1]; exact h3, sorted_out h4 k (by omega), sorted_out h5 k (by omega), fun p q hp1 hp2 hq1 hq2 => ?_⟩
  rw [k.2.1 p (by omega), k.2.1 q (by omega)]
  exact h6 p q hp1 hp2 hq1 hq2
theorem Two.none {a m b : Nat} {d : Array Sp} (h : Two a m b d) (e : a = m ∨ m = b) : Done a b d d := by
  refine ⟨permIn_refl _ _ _, ?_⟩
  rcases e with rfl | rfl
  · exact h.two
  · exact h.one
/-- Behind the rotation, and the parts merged. -/
theorem Cut.done {a s m e b : Nat} {d d1 d2 d3 : Array Sp} (c : Cut a s m e b d) (h : Two a m b d) (r : Ro s m e d d1) (h2 : Done a (s + (e - m)) d1 d2) (h3 : Done (s + (e - m)) b d2 d3) : Done a b d d3 := by
  have hl := c.leq h r
  obtain ⟨c1, c2, c3, c4, _, _⟩ := c
  have hb := h.bs
  have hp1 := r.perm c2 c3 (by omega)
  have z1 := r.size
  have z2 := h2.perm.1
  have g1 := permIn_mono d d1 s e a b c1 c4 hb hp1
  have g2 := permIn_mono d1 d2 a (s + (e - m)) a b (Nat.le_refl _) (by omega) (by omega) h2.perm
  have g3 := permIn_mono d2 d3 (s + (e - m)) b a b (by omega) (Nat.le_refl _) (by omega) h3.perm
  refine ⟨permIn_trans _ _ _ _ _ (permIn_trans _ _ _ _ _ g1 g2) g3, ?_⟩
  have hl2 := hl.perm (by omega) (by omega) (by omega) (.inl h2.perm)
  have hl3 := hl2.perm (by omega) (by omega) (by omega) (.inr h3.perm)
  exact sorted_join (sorted_out h2.sorted h3.perm (.inl (Nat.le_refl _))) h3.sorted hl3
/-! ### One alone, to the left: how far it goes -/
/-- The search for the place of one that lies ahead. -/
structure Sr1 (a m b i j : Nat) (d : Array Sp) : Prop where
  mi : m ≤ i
  ij : i ≤ j
  jb : j ≤ b
  lo : ∀ q, m ≤ q → q < i → lex d[q]! d[a]! = true
  hi : ∀ q, j ≤ q → q < b → lex d[q]! d[a]! = false
theorem Sr1.start {a m b : Nat} {d : Array Sp} (h : Two a m b d) : Sr1 a m b m b d := ⟨Nat.le_refl _, h.mb, Nat.le_refl _, fun q h1 h2 => by omega, fun q h1 h2 => by omega⟩
theorem Sr1.more {a m b i j k : Nat} {d : Array Sp} (h : Two a m b d) (s : Sr1 a m b i j d) (hk1 : i ≤ k) (hk2 : k < j) (hl : lex d[k]! d[a]! = true) : Sr1 a m b (k + 1) j d := by
  obtain ⟨h1, h2, h3, h4, h5⟩ := s
  refine ⟨by omega, by omega, h3, fun q hq1 hq2 => ?_, h5⟩
  exact lex_le_lt (srt_get h.two hq1 (by omega) (by omega)) hl
theorem Sr1.less {a m b i j k : Nat} {d : Array Sp} (h : Two a m b d) (s : Sr1 a m b i j d) (hk1 : i ≤ k) (hk2 : k < j) (hl : lex d[k]! d[a]! = false) : Sr1 a m b i k d := by
  obtain ⟨h1, h2, h3, h4, h5⟩ := s
  refine ⟨h1, hk1, by omega, h4, fun q hq1 hq2 => ?_⟩
  exact swo_lex.ntrans _ _ _ (srt_get h.two (by omega) hq1 hq2) hl
theorem Sr1.done {a b i : Nat} {d d' : Array Sp} (h : Two a (a + 1) b d) (s : Sr1 a (a + 1) b i i d) (r : Ro a (a + 1) i d d') : Done a b d d' := by
  obtain ⟨h1, h2, h3, h4, h5⟩ := s
  have hb := h.bs
  have c : Cut a a (a + 1) i b d := ⟨Nat.le_refl _, by omega, h1, h3, fun p q hp1 hp2 => by omega, fun p q hp1 hp2 hq1 hq2 => (show p = a by omega).symm ▸ h4 q hq1 hq2⟩
  have ha := (c.left h r).two
  have hp := c.right h r
  have z := r.size
  refine c.done h r ⟨permIn_refl _ _ _, ha⟩ ⟨permIn_refl _ _ _, ?_⟩
  refine sorted_join hp.one hp.two (fun p q hp1 hp2 hq1 hq2 => ?_)
  have hpe : p = a + (i - (a + 1)) := by omega
  rw [r.get p, r.get q, if_pos (show a ≤ p ∧ p < i by omega), if_neg (show ¬ p < a + (i - (a + 1)) by omega), if_neg (show ¬ (a ≤ q ∧ q < i) by omega)]
  have : p - (i - (a + 1)) = a := by omega
  rw [this]
  exact h5 q (by omega) hq2
/-- The search for the place of one that lies behind. -/
structure Sr2 (a m i j : Nat) (d : Array Sp) : Prop where
  ai : a ≤ i
  ij : i ≤ j
  jm : j ≤ m
  lo : ∀ p, a ≤ p → p < i → lex d[m]! d[p]! = false
  hi : ∀ p, j ≤ p → p < m → lex d[m]! d[p]! = true
theorem Sr2.start {a m b : Nat} {d : Array Sp} (h : Two a m b d) : Sr2 a m a m d := ⟨Nat.le_refl _, h.am, Nat.le_refl _, fun q h1 h2 => by omega, fun q h1 h2 => by omega⟩
theorem Sr2.more {a m b i j k : Nat} {d : Array Sp} (h : Two a m b d) (s : Sr2 a m i j d) (hk1 : i ≤ k) (hk2 : k < j) (hl : lex d[m]! d[k]! = false) : Sr2 a m (k + 1) j d := by
  obtain ⟨h1, h2, h3, h4, h5⟩ := s
  refine ⟨by omega, by omega, h3, fun q hq1 hq2 => ?_, h5⟩
  exact swo_lex.ntrans _ _ _ hl (srt_get h.one hq1 (by omega) (by omega))
theorem Sr2.less {a m b i j k : Nat} {d : Array Sp} (h : Two a m b d) (s : Sr2 a m i j d) (hk1 : i ≤ k) (hk2 : k < j) (hl : lex d[m]! d[k]! = true) : Sr2 a m i k d := by
  obtain ⟨h1, h2, h3, h4, h5⟩ := s
  refine ⟨h1, hk1, by omega, h4, fun q hq1 hq2 => ?_⟩
  exact lex_lt_le hl (srt_get h.one (by omega) hq1 hq2)
theorem Sr2.done {a m i : Nat} {d d' : Array Sp} (h : Two a m (m + 1) d) (s : Sr2 a m i i d) (r : Ro i m (m + 1) d d') : Done a (m + 1) d d' := by
  obtain ⟨h1, h2, h3, h4, h5⟩ := s
  have hb := h.bs
  have c : Cut a i m (m + 1) (m + 1) d := ⟨h1, h3, by omega, Nat.le_refl _, fun p q hp1 hp2 => by omega, fun p q hp1 hp2 hq1 hq2 => (show q = m by omega).symm ▸ h5 p hp1 hp2⟩
  have hp := c.left h r
  have ha := (c.right h r).one
  have z := r.size
  refine c.done h r ⟨permIn_refl _ _ _, ?_⟩ ⟨permIn_refl _ _ _, ha⟩
  refine sorted_join hp.one hp.two (fun p q hp1 hp2 hq1 hq2 => ?_)
  have hqe : q = i := by omega
  rw [r.get p, r.get q, if_neg (show ¬ (i ≤ p ∧ p < m + 1) by omega), if_pos (show i ≤ q ∧ q < m + 1 by omega), if_pos (show q < i + (m + 1 - m) by omega)]
  have : q - i + m = m := by omega
  rw [this]
  exact h4 p hp1 hp2
/-! ### The search of the symmetric merge: n is mid + m, p is n - 1 -/
/-- lo and hi: where it began. -/
structure Sr (lo hi n s r : Nat) (d : Array Sp) : Prop where
  ls : lo ≤ s
  sr : s ≤ r
  rh : r ≤ hi
  low : ∀ c, lo ≤ c → c < s → lex d[n - 1 - c]! d[c]! = false
  high : ∀ c, r ≤ c → c < hi → lex d[n - 1 - c]! d[c]! = true
/-- Where the search may go. -/
structure SrR (a m b lo hi n : Nat) : Prop where
  alo : a ≤ lo
  him : hi ≤ m
  loh : lo ≤ hi
  bn : n ≤ b + lo
  mn : m + hi ≤ n
theorem Sr.start {lo hi n : Nat} {d : Array Sp} (h : lo ≤ hi) : Sr lo hi n lo hi d := ⟨Nat.le_refl _, h, Nat.le_refl _, fun q h1 h2 => by omega, fun q h1 h2 => by omega⟩
theorem Sr.more {a m b lo hi n s r c : Nat} {d : Array Sp} (h : Two a m b d) (R : SrR a m b lo hi n) (S : Sr lo hi n s r d) (h1 : s ≤ c) (h2 : c < r) (hl : lex d[n - 1 - c]! d[c]! = false) : Sr lo hi n (c + 1) r d := by
  obtain ⟨s1, s2, s3, s4, s5⟩ := S
  obtain ⟨r1, r2, r3, r4, r5⟩ := R
  refine ⟨by omega, by omega, s3, fun q hq1 hq2 => ?_, s5⟩
  have k1 := srt_get h.one (i := q) (j := c) (by omega) (by omega) (by omega)
  have k2 := srt_get h.two (i := n - 1 - c) (j := n - 1 - q) (by omega) (by omega) (by omega)
  exact swo_lex.ntrans _ _ _ (swo_lex.ntrans _ _ _ k2 hl) k1
theorem Sr.less {a m b lo hi n s r c : Nat} {d : Array Sp} (h : Two a m b d) (R : SrR a m b lo hi n) (S : Sr lo hi n s r d) (h1 : s ≤ c) (h2 : c < r) (hl : lex d[n - 1 - c]! d[c]! = true) : Sr lo hi n s c d := by
  obtain ⟨s1, s2, s3, s4, s5⟩ := S
  obtain ⟨r1, r2, r3, r4, r5⟩ := R
  refine ⟨s1, h1, by omega, s4, fun q hq1 hq2 => ?_⟩
  have k1 := srt_get h.one (i := c) (j := q) (by omega) (by omega) (by omega)
  have k2 := srt_get h.two (i := n - 1 - q) (j := n - 1 - c) (by omega) (by omega) (by omega)
  exact lex_le_lt k2 (lex_lt_le hl k1)
/-- Where the search ends the rotation may be parted; at the ends of where it began there is nothing. -/
theorem Sr.cut {a m b lo hi n s : Nat} {d : Array Sp} (h : Two a m b d) (R : SrR a m b lo hi n) (hlo : lo = a ∨ n = b + lo) (hhi : hi = m ∨ n = m + hi) (S : Sr lo hi n s s d) : Cut a s m (n - s) b d := by
  obtain ⟨s1, s2, s3, s4, s5⟩ := S
  obtain ⟨r1, r2, r3, r4, r5⟩ := R
  refine ⟨by omega, by omega, by omega, by omega, fun p q h1 h2 h3 h4 => ?_, fun p q h1 h2 h3 h4 => ?_⟩
  · by_cases e : s = lo
    · omega
    · have k := s4 (s - 1) (by omega) (by omega)
      have e1 : n - 1 - (s - 1) = n - s := by omega
      rw [e1] at k
      exact swo_lex.ntrans _ _ _ (swo_lex.ntrans _ _ _ (srt_get h.two (by omega) h3 h4) k) (srt_get h.one h1 (by omega) (by omega))
  · by_cases e : s = hi
    · omega
    · have k := s5 s (Nat.le_refl _) (by omega)
      exact lex_le_lt (srt_get h.two h3 (by omega) (by omega)) (lex_lt_le k (srt_get h.one (by omega) h1 h2))
/-! ### Blocks -/
/-- All that lies ahead of c has come from ahead of c. -/
def CutAt (n c : Nat) (d : Array Sp) : Prop := Ahead 0 c n d
theorem CutAt.perm {n c a b : Nat} {d d' : Array Sp} (h : CutAt n c d) (hn : d.size = n) (hb : b ≤ n) (k : PermIn a b d d') (ho : b ≤ c ∨ c ≤ a) : CutAt n c d' := by
  intro p q h1 h2 h3 h4
  rcases ho with ho | ho
  · rw [k.2.1 q (by omega)]
    by_cases hp : a ≤ p ∧ p < b
    · obtain ⟨x, hx1, hx2, e⟩ := permIn_get k (by omega) hp.1 hp.2
      rw [e]; exact h x q (by omega) (by omega) h3 h4
    · rw [k.2.1 p (by omega)]; exact h p q h1 h2 h3 h4
  · rw [k.2.1 p (by omega)]
    by_cases hq : a ≤ q ∧ q < b
    · obtain ⟨x, hx1, hx2, e⟩ := permIn_get k (by omega) hq.1 hq.2
      rw [e]; exact h p x h1 h2 (by omega) (by omega)
    · rw [k.2.1 q (by omega)]; exact h p q h1 h2 h3 h4
/-- From block k on, blocks of s are sorted and keep their places. -/
structure From (n s k0 : Nat) (d : Array Sp) : Prop where
  srt : ∀ k, k0 ≤ k → SortedIn lex (k * s) (min n (k * s + s)) d
  cut : ∀ k, k0 ≤ k → CutAt n (k * s) d
/-- Up to block k. -/
structure Upto (n s k1 : Nat) (d : Array Sp) : Prop where
  srt : ∀ k, k < k1 → SortedIn lex (k * s) (min n (k * s + s)) d
  cut : ∀ k, k ≤ k1 → CutAt n (k * s) d
theorem blk_le {k k' s : Nat} (h : k < k') : k * s + s ≤ k' * s := by
  have := Nat.mul_le_mul_right s (show k + 1 ≤ k' from h)
  rwa [Nat.add_mul, Nat.one_mul] at this
theorem Upto.zero (n s : Nat) (d : Array Sp) : Upto n s 0 d := ⟨fun k h => by omega, fun k h => by
  obtain rfl : k = 0 := by omega
  intro p q h1 h2; omega⟩
/-- The first blocks: of what rises, block by block sorted. -/
theorem Upto.ins {n s k : Nat} {d d' : Array Sp} {b : Nat} (h : Upto n s k d) (hn : d.size = n) (hb : b = min n (k * s + s)) (hp : Done (k * s) b d d') (hc : CutAt n (k * s + s) d) : Upto n s (k + 1) d' := by
  have hbn : b ≤ n := by omega
  refine ⟨fun j hj => ?_, fun j hj => ?_⟩
  · by_cases e : j = k
    · subst e; rw [← hb]; exact hp.sorted
    · have := blk_le (s := s) (show j < k by omega)
      exact sorted_out (h.srt j (by omega)) hp.perm (by omega)
  · by_cases e : j = k + 1
    · subst e
      rw [Nat.add_mul, Nat.one_mul]
      exact hc.perm hn hbn hp.perm (by omega)
    · have := Nat.mul_le_mul_right s (show j ≤ k by omega)
      exact (h.cut j (by omega)).perm hn hbn hp.perm (by omega)
theorem Upto.all {n s k : Nat} {d : Array Sp} (h : Upto n s k d) (hk : n ≤ k * s) (hu : d.size = n) : From n s 0 d := by
  have _ := hu
  refine ⟨fun j _ => ?_, fun j _ => ?_⟩
  · by_cases hj : j < k
    · exact h.srt j hj
    · have := Nat.mul_le_mul_right s (show k ≤ j by omega)
      intro p q h1 h2 h3; omega
  · by_cases hj : j ≤ k
    · exact h.cut j hj
    · have := Nat.mul_le_mul_right s (show k ≤ j by omega)
      intro p q h1 h2 h3 h4; omega
/-- Blocks of s and of 2s: as far as they have been merged. -/
structure Half (n s k : Nat) (d : Array Sp) : Prop where
  up : Upto n (2 * s) k d
  fr : From n s (2 * k) d
theorem Half.start {n s : Nat} {d : Array Sp} (h : From n s 0 d) : Half n s 0 d := ⟨Upto.zero _ _ _, ⟨fun k _ => h.srt k (Nat.zero_le _), fun k _ => h.cut k (Nat.zero_le _)⟩⟩
theorem mul2 (k s : Nat) : k * (2 * s) = 2 * k * s ∧ (2 * k + 1) * s = 2 * k * s + s ∧ (2 * (k + 1)) * s = 2 * k * s + s + s ∧ (k + 1) * (2 * s) = 2 * k * s + s + s := by
  have h1 : k * (2 * s) = 2 * k * s := by rw [← Nat.mul_assoc, Nat.mul_comm k 2]
  refine ⟨h1, by rw [Nat.add_mul, Nat.one_mul], by rw [Nat.mul_add, Nat.add_mul]; omega, by rw [Nat.add_mul, h1]; omega⟩
theorem Half.two {n s k b : Nat} {d : Array Sp} (h : Half n s k d) (hn : d.size = n) (hm : k * (2 * s) + s < n) (hb : b = min n (k * (2 * s) + 2 * s)) : Two (k * (2 * s)) (k * (2 * s) + s) b d := by
  obtain ⟨e1, e2, e3, e4⟩ := mul2 k s
  have h1 := h.fr.srt (2 * k) (Nat.le_refl _)
  have h2 := h.fr.srt (2 * k + 1) (by omega)
  have h3 := h.fr.cut (2 * k + 1) (by omega)
  rw [e2] at h2 h3
  rw [e1] at hm hb ⊢
  refine ⟨by omega, by omega, by omega, srt_part h1 (Nat.le_refl _) (by omega), srt_part h2 (Nat.le_refl _) (by omega), fun p q g1 g2 g3 g4 => h3 p q (by omega) g2 g3 (by omega)⟩
theorem Half.step {n s k b : Nat} {d d' : Array Sp} (h : Half n s k d) (hn : d.size = n) (hb : b = min n (k * (2 * s) + 2 * s)) (hp : Done (k * (2 * s)) b d d') : Half n s (k + 1) d' := by
  obtain ⟨e1, e2, e3, e4⟩ := mul2 k s
  refine ⟨h.up.ins hn hb hp ?_, ⟨fun j hj => ?_, fun j hj => ?_⟩⟩
  · have := h.fr.cut (2 * (k + 1)) (by omega)
    rw [e3] at this
    rw [e1]
    have e5 : 2 * k * s + 2 * s = 2 * k * s + s + s := by omega
    rw [e5]; exact this
  · have := Nat.mul_le_mul_right s hj
    rw [e1] at hp hb
    exact sorted_out (h.fr.srt j (by omega)) hp.perm (by omega)
  · have := Nat.mul_le_mul_right s hj
    rw [e1] at hp hb
    exact (h.fr.cut j (by omega)).perm hn (by omega) hp.perm (by omega)
/-- The last part may be one block alone. -/
theorem Half.last {n s k : Nat} {d : Array Sp} (h : Half n s k d) (hn : d.size = n) (hm : n ≤ k * (2 * s) + s) : From n (2 * s) 0 d := by
  obtain ⟨e1, e2, e3, e4⟩ := mul2 k s
  have h1 := h.fr.srt (2 * k) (Nat.le_refl _)
  refine (h.up.ins (b := min n (k * (2 * s) + 2 * s)) hn rfl ⟨permIn_refl _ _ _, ?_⟩ ?_).all (k := k + 1) (by rw [e4]; omega) hn
  · rw [e1]; exact srt_part h1 (Nat.le_refl _) (by omega)
  · intro p q g1 g2 g3 g4; omega
theorem From.done {n s : Nat} {d : Array Sp} (h : From n s 0 d) (hs : n ≤ s) : SortedIn lex 0 n d := by
  have := h.srt 0 (Nat.le_refl _)
  rw [Nat.zero_mul, Nat.zero_add, Nat.min_eq_left hs] at this
  exact this
end Go.Proofs.YthckfbfenfkdiaaDoor.St
