/- Pieces of BitsBack: the numbers laid in one by one; a set's bytes. No condition. -/
import Derived.Test.YtbfkmogibgchmaaDoorBackA
import Derived.Test.YtbfkmogibgchmaaDoorBofB
import Derived.Test.YtbfkmogibgchmaaDoorBitQ
import Derived.Test.YtbfkmogibgchmaaDoorBitT
namespace Go.Proofs.YtbfkmogibgchmaaDoor.Bt
open Go.RowKit
def ofAll (m : Nat) (l : List Nat) : List Bool := (List.range m).map (fun j => decide (j ∈ l))
theorem ofAll_length (m : Nat) (l : List Nat) : (ofAll m l).length = m := by simp [ofAll]
theorem ofAll_nil (m : Nat) : ofAll m [] = List.replicate m false := by
  apply List.ext_getElem
  · simp [ofAll]
  · intro i h1 h2; simp [ofAll]
theorem ofAll_in {m : Nat} {l : List Nat} {x : Nat} (h : x < m) : (ofAll m l).set x true = ofAll m (l ++ [x]) := by
  apply List.ext_getElem?
  intro p
  rw [List.getElem?_set]
  by_cases hp : p < m
  · by_cases e : x = p
    · subst e; simp [ofAll, h]
    · have e2 : ¬ p = x := fun h => e h.symm
      simp [ofAll, hp, e, e2]
  · have : ¬ x = p := by omega
    simp [ofAll, hp, this]
theorem ofAll_out {m : Nat} {l : List Nat} {x : Nat} (h : m ≤ x) : ofAll m l = ofAll m (l ++ [x]) := by
  unfold ofAll
  apply List.map_congr_left
  intro j hj
  have := List.mem_range.1 hj
  have e2 : ¬ j = x := by omega
  simp [e2]
theorem mem_allL {B : List Bool} {j : Nat} : j ∈ allL B ↔ B.getD j false = true := by
  unfold allL allTo
  rw [List.mem_filter, List.mem_range]
  constructor
  · intro h; exact h.2
  · intro h; exact ⟨getD_lt h, h⟩
theorem ofAll_all (B : List Bool) : ofAll (B.length + 1) (allL B) = B ++ [false] := by
  apply List.ext_getElem
  · simp [ofAll]
  · intro i h1 h2
    simp only [ofAll, List.getElem_map, List.getElem_range]
    by_cases h : i < B.length
    · rw [List.getElem_append_left h]
      have : B.getD i false = B[i] := by rw [List.getD_eq_getElem?_getD, List.getElem?_eq_getElem h]; rfl
      cases hb : B[i] with
      | true => simp only [decide_eq_true_eq]; rw [mem_allL, this, hb]
      | false => simp only [decide_eq_false_iff_not]; rw [mem_allL, this, hb]; simp
    · have : i = B.length := by simp at h2; omega
      subst this
      rw [List.getElem_append_right (Nat.le_refl _)]
      simp only [Nat.sub_self, List.getElem_cons_zero, decide_eq_false_iff_not]
      rw [mem_allL, List.getD_eq_getElem?_getD, List.getElem?_eq_none (Nat.le_refl _)]; simp
theorem cnt_more (B : List Bool) : cnt (B ++ [false]) = cnt B := by simp [cnt]
theorem put_all {w : World} {bh : Nat} {v : Value} {m : Nat} {l : List Nat} (h : SetAt w bh v (ofAll m l)) (hne : v.ownBlock ≠ some bh) (x : Nat) :
    Calls Tryd.prog 12 #[.pointer (some ⟨bh, 0, none⟩), .int .i64 x] w fun e w' => ∃ r : Int, e = .returned (.int .i64 r) ∧ SetAt w' bh v (ofAll m (l ++ [x])) ∧ Fr (fun b => v.ownBlock = some b) w w' := by
  by_cases hi : x < m
  · refine (put_in h hne (j := x) (by rw [ofAll_length]; exact hi)).mono ?_
    rintro e w' ⟨rfl, h1, h2⟩
    rw [ofAll_in hi] at h1
    exact ⟨0, rfl, h1, h2⟩
  · refine (put_out h (i := x) (by right; rw [ofAll_length]; omega)).mono ?_
    rintro e w' ⟨rfl, rfl⟩
    rw [ofAll_out (x := x) (by omega)] at h
    exact ⟨2, rfl, h, Fr.refl _ _⟩
theorem bitOf_bytes {B : List Bool} {p : Nat} (h : p < 8 * nb B.length) : bitOf (bytes B) p = B.getD p false := by
  unfold bitOf bytes
  have hi : p / 8 < nb B.length := by omega
  rw [List.getD_eq_getElem?_getD, List.getElem?_map, List.getElem?_range hi]
  simp only [Option.map_some, Option.getD_some]
  unfold byt
  rw [num_testBit]
  have : 8 * (p / 8) + p % 8 = p := by omega
  rw [this]; simp [Nat.mod_lt]
theorem bytes_length (B : List Bool) : (bytes B).length = nb B.length := by simp [bytes]
theorem bytes_lt (B : List Bool) : ∀ b ∈ bytes B, b < 256 := by
  intro b hb
  obtain ⟨k, _, rfl⟩ := List.mem_map.1 hb
  exact byt_lt B k
theorem back_of {w : World} {a : Option Addr} {c m : Nat} {B : List Bool} (hB : B.length = m) (h6 : m ≤ 65536) (hr : Row w 5 1 (.slice a (nb B.length) c) (nb B.length) ((bytes B).map u8v)) :
    Calls Tryd.prog 29 #[.int .i64 m, .slice a (nb B.length) c] w fun e w' => ∃ bh v, e = .returned (.tuple #[.pointer (some ⟨bh, 0, none⟩), .int .i64 0]) ∧ NewSet w w' bh v B := by
  subst hB
  have hmore := (more_iff (n := B.length) (bs := bytes B) (bytes_length B) (bytes_lt B)).1 (by
    intro p h1 h2
    rw [bytes_length] at h2
    rw [bitOf_bytes h2, List.getD_eq_getElem?_getD, List.getElem?_eq_none h1]; rfl)
  rw [bytes_length] at hmore
  have := of_ok hr (bytes_lt B) h6 rfl hmore
  rwa [setOf_bytes] at this
theorem NewSet.keepF {w w1 w2 : World} {bh : Nat} {v : Value} {B : List Bool} {F : Nat → Prop} (h : NewSet w w1 bh v B) (f : Fr F w1 w2) (h1 : ¬ F bh) (h2 : ∀ b, v.ownBlock = some b → ¬ F b) (h3 : ∀ b, F b → w.heap.size ≤ b) : NewSet w w2 bh v B :=
  ⟨h.at_.fr f h1 h2, h.new, h.newv, ((h.fr.mono (G := fun b => w.heap.size ≤ b) (fun _ _ h => h.elim)).trans f (fun b _ e => h3 b e)).toNew⟩
theorem row_i64 {w : World} {a : Option Addr} {n c : Nat} {L : List Int} (h : Row w 3 1 (.slice a n c) n (L.map i64v)) {i : Nat} {x : Int} (hx : L[i]? = some x) : ∃ g, a = some ⟨g, 0, none⟩ ∧ w.cell? ⟨g, i, none⟩ = some (.int .i64 x) ∧ i < n := by
  obtain ⟨a', c', e, hc⟩ := row_cell h
  obtain ⟨rfl, -, -⟩ := Value.slice.inj e
  have hl : L.length = n := by have := h.1; simpa using this
  have hi : i < L.length := (List.getElem?_eq_some_iff.1 hx).1
  obtain ⟨g, e1, e2⟩ := hc i (by omega)
  refine ⟨g, e1, ?_, by omega⟩
  rw [e2, List.getElem?_map, hx]; rfl
theorem _root_.Go.Proofs.YtbfkmogibgchmaaDoor.IntsAt.at1 {w : World} {a : Option Addr} {c n k : Nat} {K : Nat → Nat → Int} (h : IntsAt w (.slice a n c) 1 K n) (hk : k < n) :
    ∃ b o, a = some ⟨b, o, none⟩ ∧ w.cell? ⟨b, o + k, none⟩ = some (.int .i64 (K k 0)) ∧ -9223372036854775808 ≤ K k 0 ∧ K k 0 ≤ 9223372036854775807 := by
  obtain ⟨a', c', e, _, _, hor⟩ := h
  simp only [Value.slice.injEq] at e
  obtain ⟨rfl, _, rfl⟩ := e
  obtain ⟨b, o, rfl, hc⟩ := hor.resolve_left (by omega)
  have := hc k 0 hk (by omega)
  simp only [Nat.mul_one, Nat.add_zero] at this
  exact ⟨b, o, rfl, this.1, this.2.1, this.2.2⟩
theorem asInts_get {L : List Nat} {i x : Nat} (h : L[i]? = some x) : (asInts L)[i]? = some (x : Int) := by simp [asInts, h]
end Go.Proofs.YtbfkmogibgchmaaDoor.Bt
