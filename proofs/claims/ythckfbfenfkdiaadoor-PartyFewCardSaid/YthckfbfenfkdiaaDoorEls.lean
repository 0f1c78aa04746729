/- Slices of elements of K cells: reading them, appending. No condition. -/
import Derived.Test.YthckfbfenfkdiaaDoorMore
import Derived.Deep.Upon
namespace Go.Proofs.YthckfbfenfkdiaaDoor
open Go.RowKit
/-- The slice sv has the elements L, K cells each, at the head of its row. -/
abbrev Els {α : Type} (w : World) (e : TypeId) (K : Nat) (enc : α → List Value) (sv : Value) (L : List α) : Prop := Row w e K sv L.length (L.flatMap enc)
section
variable {α : Type} {enc : α → List Value} {K : Nat} (hk : ∀ x, (enc x).length = K)
include hk
theorem flatK_length (L : List α) : (L.flatMap enc).length = L.length * K := by
  induction L with
  | nil => simp
  | cons x L ih => rw [List.flatMap_cons, List.length_append, ih, hk, List.length_cons, Nat.add_mul, Nat.one_mul, Nat.add_comm]
theorem flatK_get (L : List α) : ∀ i (hi : i < L.length) j, j < K → (L.flatMap enc)[i * K + j]? = (enc L[i])[j]? := by
  induction L with
  | nil => intro i hi; simp at hi
  | cons x L ih =>
    intro i hi j hj
    rw [List.flatMap_cons]
    cases i with
    | zero =>
      rw [Nat.zero_mul, Nat.zero_add, List.getElem?_append_left (by rw [hk]; exact hj)]
      rfl
    | succ i =>
      have e : (i + 1) * K + j = K + (i * K + j) := by rw [Nat.add_mul, Nat.one_mul]; omega
      rw [e, List.getElem?_append_right (by rw [hk]; omega), hk, Nat.add_sub_cancel_left]
      exact ih i (by simpa using hi) j hj
theorem Els.cells {w : World} {e : TypeId} {sv : Value} {L : List α} (h : Els w e K enc sv L) {i : Nat} (hi : i < L.length) :
    ∃ g cap, sv = .slice (some ⟨g, 0, none⟩) L.length cap ∧ ∀ j, j < K → w.cell? ⟨g, i * K + j, none⟩ = (enc L[i])[j]? := by
  rcases h.2 with ⟨_, h0⟩ | ⟨g, cap, cur, rfl, _, h1, h2, h3, h4, h5⟩
  · omega
  · refine ⟨g, cap, rfl, fun j hj => ?_⟩
    have hl : i * K + j < (L.flatMap enc).length := by
      rw [flatK_length hk]
      have := Nat.mul_le_mul_right K (show i + 1 ≤ L.length from hi)
      rw [Nat.add_mul, Nat.one_mul] at this
      omega
    have h5' : cur.toList.take (L.flatMap enc).length = L.flatMap enc := by rw [flatK_length hk]; exact h5
    rw [cell_of h1, ← flatK_get hk L i hi j hj]
    conv => rhs; rw [← h5']
    rw [List.getElem?_take, if_pos hl, Array.getElem?_toList]
/-- append of one element that lies in a new block. -/
theorem Els.app {P : Program} {w : World} {e t ty : TypeId} {z : Value} {B : Nat} {sv : Value} {L : List α} (h : Els w e K enc sv L) (ht : P.underlying t = some (.slice e))
    (hi : (P.info? e).map (fun i => (i.zero, i.size, i.bytes)) = some (some z, K, B)) (hz : z.cells.size = K) (hK : 0 < K) (h1 : ∀ x, ∀ v ∈ enc x, v.oneCell' = true) (x : α)
    (hn : L.length ≤ 1000000) (hB : B ≤ 1000) {arr : Array Value} (ha : arr = (enc x).toArray) :
    ∃ a c w2, (Builtin.append_ #[t, t] ty #[sv, .slice (some ⟨w.heap.size, 0, none⟩) 1 1]).run P (w.alloc (.cells arr e)) = .ok (.slice a (L.length + 1) c) w2 ∧
      Els w2 e K enc (.slice a (L.length + 1) c) (L ++ [x]) ∧ Fr (fun b => sv.ownBlock = some b) w w2 ∧ (∀ b, (Value.slice a (L.length + 1) c).ownBlock = some b → sv.ownBlock = some b ∨ w.heap.size ≤ b) := by
  subst ha
  obtain ⟨i0, hi, hz0, hz1, hz2⟩ := info_parts hi
  have f0 : Fr (fun _ => False) w (w.alloc (.cells (enc x).toArray e)) := Fr.alloc (Fr.refl _ _) _
  have hg : (w.alloc (.cells (enc x).toArray e)).heap[w.heap.size]? = some (.cells (enc x).toArray e (0, 0)) := heap_alloc_at _ _
  have hb : (L.length + 1) * B ≤ 140737488355328 := by
    have := Nat.mul_le_mul (show L.length + 1 ≤ 1000001 by omega) hB
    omega
  obtain ⟨v', w3, hrun, hR3, hf3, ho3⟩ := run_append_fr (P := P) _ t ty e i0 z K B ht hi hz0 hz1 hz2 hz hK _ _ _ (Row.fr h f0 (fun _ _ h => h)) ⟨w.heap.size, 0, none⟩ 1 1 (enc x) (by rw [hk]; omega)
    (by intro j u hu
        have e2 : (⟨w.heap.size, 0, none⟩ : Addr).add j = ⟨w.heap.size, j, none⟩ := by
          by_cases h0 : j = 0
          · subst h0; simp [Addr.add]
          · simp [Addr.add, h0]
        rw [e2, cell_of hg j]
        simpa using hu)
    (h1 x) (by unfold maxLen; omega) hb
  obtain ⟨a', c', rfl⟩ : ∃ a' c', v' = .slice a' (L.length + 1) c' := by
    rcases hR3.2 with ⟨rfl, h0⟩ | ⟨g, cap, cur, rfl, _⟩
    · exact ⟨none, 0, by rw [h0]⟩
    · exact ⟨_, _, rfl⟩
  refine ⟨a', c', w3, hrun, ?_, (f0.mono (fun _ _ h => h.elim)).trans hf3 (fun _ _ h => h), ?_⟩
  · show Row _ _ _ _ _ _
    rw [List.length_append, List.flatMap_append, List.flatMap_singleton]
    exact hR3
  · intro b hb
    rcases ho3 with h | h
    · rw [h] at hb; exact .inl hb
    · rw [h] at hb; simp at hb; right; omega
/-- Where the source of an append lies: m elements M, at a (at none, where there are none). -/
def SrcAt (w : World) (K : Nat) (enc : α → List Value) (a : Option Addr) (M : List α) : Prop := (M = [] ∧ a = none) ∨ ∃ g o, a = some ⟨g, o, none⟩ ∧ ∀ j, j < M.length * K → w.cell? ⟨g, o + j, none⟩ = (M.flatMap enc)[j]?
omit hk in
theorem SrcAt.fr {w w' : World} {a : Option Addr} {M : List α} (h : SrcAt w K enc a M) {F : Nat → Prop} (f : Fr F w w') (hn : ∀ g o, a = some ⟨g, o, none⟩ → ¬ F g) (hl : ∀ g o, a = some ⟨g, o, none⟩ → g < w.heap.size) : SrcAt w' K enc a M := by
  rcases h with h | ⟨g, o, e, h⟩
  · exact .inl h
  · exact .inr ⟨g, o, e, fun j hj => (f.cell (hl g o e) (hn g o e)).trans (h j hj)⟩
theorem Els.srcTake {w : World} {e : TypeId} {n c : Nat} {a : Option Addr} {L : List α} (h : Els w e K enc (.slice a n c) L) (k : Nat) : SrcAt w K enc a (L.take k) := by
  rcases h.2 with ⟨e0, h0⟩ | ⟨g, cap, cur, e0, _, h1, h2, h3, h4, h5⟩
  · simp only [Value.slice.injEq] at e0
    have : L = [] := List.eq_nil_of_length_eq_zero h0
    subst this
    exact .inl ⟨by simp, e0.1⟩
  · simp only [Value.slice.injEq] at e0
    refine .inr ⟨g, 0, e0.1, fun j hj => ?_⟩
    have hjl : j < L.length * K := Nat.lt_of_lt_of_le hj (Nat.mul_le_mul_right K (by rw [List.length_take]; omega))
    have h5' : cur.toList.take (L.flatMap enc).length = L.flatMap enc := by rw [flatK_length hk]; exact h5
    have e2 : ((L.take k).flatMap enc)[j]? = (L.flatMap enc)[j]? := by
      conv => rhs; rw [← List.take_append_drop k L, List.flatMap_append]
      rw [List.getElem?_append_left (by rw [flatK_length hk]; exact hj)]
    rw [Nat.zero_add, cell_of h1, e2]
    conv => rhs; rw [← h5']
    rw [List.getElem?_take, if_pos (by rw [flatK_length hk]; exact hjl), Array.getElem?_toList]
theorem Els.srcDrop {w : World} {e : TypeId} {g n c : Nat} {L : List α} (h : Els w e K enc (.slice (some ⟨g, 0, none⟩) n c) L) (k : Nat) : SrcAt w K enc (some ⟨g, k * K, none⟩) (L.drop k) := by
  rcases h.2 with ⟨e0, h0⟩ | ⟨g, cap, cur, e0, _, h1, h2, h3, h4, h5⟩
  · simp at e0
  · simp only [Value.slice.injEq, Option.some.injEq, Addr.mk.injEq] at e0
    obtain ⟨⟨rfl, -⟩, -⟩ := e0
    refine .inr ⟨_, k * K, rfl, fun j hj => ?_⟩
    have h5' : cur.toList.take (L.flatMap enc).length = L.flatMap enc := by rw [flatK_length hk]; exact h5
    by_cases hkl : k ≤ L.length
    · have hjl : k * K + j < L.length * K := by
        rw [List.length_drop, Nat.sub_mul] at hj
        have := Nat.mul_le_mul_right K hkl
        omega
      have e2 : ((L.drop k).flatMap enc)[j]? = (L.flatMap enc)[k * K + j]? := by
        conv => rhs; rw [← List.take_append_drop k L, List.flatMap_append]
        have e3 : ((L.take k).flatMap enc).length = k * K := by rw [flatK_length hk, List.length_take, Nat.min_eq_left hkl]
        rw [List.getElem?_append_right (by omega), e3, Nat.add_sub_cancel_left]
      rw [cell_of h1, e2]
      conv => rhs; rw [← h5']
      rw [List.getElem?_take, if_pos (by rw [flatK_length hk]; exact hjl), Array.getElem?_toList]
    · rw [List.length_drop, Nat.sub_eq_zero_of_le (by omega), Nat.zero_mul] at hj; omega
omit hk in
theorem SrcAt.nil {w : World} {a : Option Addr} (h : a = none ∨ ∃ g o, a = some ⟨g, o, none⟩) : SrcAt w K enc a ([] : List α) := by
  rcases h with h | ⟨g, o, h⟩
  · exact .inl ⟨rfl, h⟩
  · exact .inr ⟨g, o, h, fun j hj => by simp at hj⟩
/-- append of the elements of another slice. -/
theorem Els.apps {P : Program} {w : World} {e t ty : TypeId} {z : Value} {B : Nat} {sv : Value} {L M : List α} (h : Els w e K enc sv L) (ht : P.underlying t = some (.slice e))
    (hi : (P.info? e).map (fun i => (i.zero, i.size, i.bytes)) = some (some z, K, B)) (hz : z.cells.size = K) (hK : 0 < K) (h1 : ∀ x, ∀ v ∈ enc x, v.oneCell' = true)
    {a : Option Addr} {m c : Nat} (hs : SrcAt w K enc a M) (hm : m = M.length) (hn : L.length + M.length ≤ 1000000) (hB : B ≤ 1000) :
    ∃ a' c' w2, (Builtin.append_ #[t, t] ty #[sv, .slice a m c]).run P w = .ok (.slice a' (L.length + m) c') w2 ∧
      Els w2 e K enc (.slice a' (L.length + m) c') (L ++ M) ∧ Fr (fun b => sv.ownBlock = some b) w w2 ∧ (∀ b, (Value.slice a' (L.length + m) c').ownBlock = some b → sv.ownBlock = some b ∨ w.heap.size = b) := by
  subst hm
  obtain ⟨i0, hi, hz0, hz1, hz2⟩ := info_parts hi
  have hb : (L.length + M.length) * B ≤ 140737488355328 := by
    have := Nat.mul_le_mul hn hB
    omega
  rcases hs with ⟨rfl, rfl⟩ | ⟨g, o, rfl, hc⟩
  · have hsv : ∃ a' c', sv = .slice a' L.length c' ∧ L.length ≤ c' := by
      rcases h.2 with ⟨rfl, h0⟩ | ⟨g, cap, cur, rfl, _, _, h2, _⟩
      · exact ⟨none, 0, by rw [h0], by omega⟩
      · exact ⟨_, _, rfl, h2⟩
    obtain ⟨a', c', rfl, hle⟩ := hsv
    refine ⟨a', c', w, ?_, by simpa using h, Fr.refl _ _, fun b hb => .inl hb⟩
    exact run_append_nothing w t t ty e i0 ht hi a' L.length c' hle _ (Src.ofNil w ht c)
  · obtain ⟨v', w3, hrun, hR3, hf3, ho3⟩ := run_append_fr (P := P) w t ty e i0 z K B ht hi hz0 hz1 hz2 hz hK _ _ _ h ⟨g, o, none⟩ M.length c (M.flatMap enc) (flatK_length hk M)
      (by intro j u hu
          have e2 : (⟨g, o, none⟩ : Addr).add j = ⟨g, o + j, none⟩ := by
            by_cases h0 : j = 0
            · subst h0; simp [Addr.add]
            · simp [Addr.add, h0]
          have hj : j < (M.flatMap enc).length := (List.getElem?_eq_some_iff.1 hu).1
          rw [flatK_length hk] at hj
          rw [e2, hc j hj, hu])
      (by intro u hu
          obtain ⟨x, _, hx⟩ := List.mem_flatMap.1 hu
          exact h1 x u hx) (by unfold maxLen; omega) hb
    obtain ⟨a', c', rfl⟩ : ∃ a' c', v' = .slice a' (L.length + M.length) c' := by
      rcases hR3.2 with ⟨rfl, h0⟩ | ⟨g, cap, cur, rfl, _⟩
      · exact ⟨none, 0, by rw [h0]⟩
      · exact ⟨_, _, rfl⟩
    refine ⟨a', c', w3, hrun, ?_, hf3, ?_⟩
    · show Row _ _ _ _ _ _
      rw [List.length_append, List.flatMap_append]
      exact hR3
    · intro b hb
      rcases ho3 with h | h
      · rw [h] at hb; exact .inl hb
      · rw [h] at hb; simp at hb; right; omega
end
end Go.Proofs.YthckfbfenfkdiaaDoor
