/- Parties: lists of ints that are appended to and sorted, by the kit's contract. No condition. -/
import Derived.Test.YthckfbfenfkdiaaDoorPyJ
import Derived.Test.YthckfbfenfkdiaaDoorBitL
import Derived.Shelf.Sort.Plain
namespace Go.Proofs.YthckfbfenfkdiaaDoor.Py
open Go.RowKit Go.Sort Go.Shelf St Bt
/-- The slice sv has the ints L, from the head of its row. -/
abbrev Ints (w : World) (sv : Value) (L : List Int) : Prop := Row w 3 1 sv L.length (L.map i64v)
theorem ints_one {L : List Int} : ∀ u ∈ L.map i64v, u.oneCell' = true := by
  intro u hu
  obtain ⟨x, _, rfl⟩ := List.mem_map.1 hu
  rfl
theorem Tryd.infoIntP : (Tryd.prog.info? 3).map (fun i => (i.zero, i.size, i.bytes)) = some (some (.int .i64 0), 1, 8) := by kernel_rfl
/-- append of one int that lies in a new block. -/
theorem app_int {W : World} {v : Value} {L : List Int} (h : Ints W v L) (hb : L.length ≤ 100000) (x : Int) :
    ∃ a c W2, (Builtin.append_ #[22, 22] 22 #[v, .slice (some ⟨W.heap.size, 0, none⟩) 1 1]).run Tryd.prog (W.alloc (.cells #[.int .i64 x] 3)) = .ok (.slice a (L.length + 1) c) W2 ∧
      Ints W2 (.slice a (L.length + 1) c) (L ++ [x]) ∧ Fr (fun b => v.ownBlock = some b) W W2 ∧ (∀ b, (Value.slice a (L.length + 1) c).ownBlock = some b → v.ownBlock = some b ∨ W.heap.size ≤ b) := by
  obtain ⟨i0, hi, hz0, hz1, hz2⟩ := info_parts Tryd.infoIntP
  have f0 : Fr (fun _ => False) W (W.alloc (.cells #[.int .i64 x] 3)) := Fr.alloc (Fr.refl _ _) _
  have hg : (W.alloc (.cells #[.int .i64 x] 3)).heap[W.heap.size]? = some (.cells #[.int .i64 x] 3 (0, 0)) := by rw [heap_alloc_get]; simp
  obtain ⟨v', w3, hrun, hR3, hf3, ho3⟩ := run_append_fr (P := Tryd.prog) _ 22 22 3 i0 _ 1 8 Tryd.underlying22 hi hz0 hz1 hz2 rfl (by decide) _ _ _ (Row.fr h f0 (fun _ _ h => h)) ⟨W.heap.size, 0, none⟩ 1 1 ([x].map i64v) (by simp)
    (by intro j u hu
        have hj : j = 0 := by have := (List.getElem?_eq_some_iff.1 hu).1; simp at this; omega
        subst hj
        have e2 : (⟨W.heap.size, 0, none⟩ : Addr).add 0 = ⟨W.heap.size, 0, none⟩ := by simp [Addr.add]
        rw [e2, cell_of hg 0]
        simpa [i64v] using hu)
    ints_one (by unfold maxLen; omega) (by omega)
  obtain ⟨a', c', rfl⟩ : ∃ a' c', v' = .slice a' (L.length + 1) c' := by
    rcases hR3.2 with ⟨rfl, h0⟩ | ⟨g, cap, cur, rfl, _⟩
    · exact ⟨none, 0, by rw [h0]⟩
    · exact ⟨_, _, rfl⟩
  refine ⟨a', c', w3, hrun, ?_, (f0.mono (fun _ _ h => h.elim)).trans hf3 (fun _ _ h => h), ?_⟩
  · show Row _ _ _ _ _ _
    rw [List.map_append, List.length_append]; exact hR3
  · intro b hb
    rcases ho3 with h | h
    · rw [h] at hb; exact .inl hb
    · rw [h] at hb; simp at hb; right; omega
/-- An order of ints. -/
def srtI (L : List Int) : List Int := L.mergeSort fun x y => decide (x ≤ y)
theorem srtI_perm (L : List Int) : (srtI L).Perm L := List.mergeSort_perm _ _
theorem srtI_len (L : List Int) : (srtI L).length = L.length := (srtI_perm L).length_eq
theorem srtI_pair (L : List Int) : (srtI L).Pairwise (· ≤ ·) := by
  have := List.pairwise_mergeSort (le := fun x y : Int => decide (x ≤ y)) (fun a b c h1 h2 => by simp at h1 h2 ⊢; omega) (fun a b => by simp; omega) L
  exact this.imp (fun h => by simpa using h)
theorem Ints.holds {w : World} {b cap : Nat} {L : List Int} (h : Ints w (.slice (some ⟨b, 0, none⟩) L.length cap) L) : Holds (Value.int .i64) w b 0 L.toArray := by
  rcases h.2 with ⟨e0, h0⟩ | ⟨g1, cap1, cur, e0, _, hb, hc1, hc2, hcs, htk⟩
  · simp at e0
  simp only [Value.slice.injEq, Option.some.injEq, Addr.mk.injEq, and_true, true_and] at e0
  obtain ⟨rfl, rfl⟩ := e0
  intro j hj
  have hj' : j < L.length := by simpa using hj
  refine ⟨?_, free_of hb _⟩
  rw [Nat.zero_add, cell_of hb]
  have : (cur.toList.take (L.length * 1))[j]? = (L.map i64v)[j]? := by rw [htk]
  rw [List.getElem?_take, if_pos (by omega), Array.getElem?_toList] at this
  rw [this]
  simp [hj', i64v]
theorem sortInts_of {ρ : Ren} (Ly : Lays.n189 Tryd.prog ρ) {w : World} {b cap : Nat} {L : List Int} (h : Ints w (.slice (some ⟨b, 0, none⟩) L.length cap) L) (hn : L.length ≤ 1000000) :
    Calls Tryd.prog (ρ.f 189) #[.slice (some ⟨b, 0, none⟩) L.length cap] w fun e w' => e = .returned (.tuple #[]) ∧ Ints w' (.slice (some ⟨b, 0, none⟩) L.length cap) (srtI L) ∧ Fr (fun k => k = b) w w' := by
  have hH := Ints.holds h
  rcases h.2 with ⟨e0, h0⟩ | ⟨g1, cap1, cur, e0, _, hb, hc1, hc2, hcs, htk⟩
  · simp at e0
  simp only [Value.slice.injEq, Option.some.injEq, Addr.mk.injEq, and_true, true_and] at e0
  obtain ⟨rfl, rfl⟩ := e0
  have hbl : b < w.heap.size := lt_of_block hb
  refine Calls.mono (Any.slices_Sort_int Ly b 0 cap L w hH hbl (by omega)) ?_
  rintro e w' ⟨rfl, m, os, rfl⟩
  obtain ⟨S, hS⟩ : ∃ S, S = srtI L := ⟨_, rfl⟩
  have hSl : S.length = L.length := by rw [hS]; exact srtI_len L
  rw [show (L.mergeSort fun x y => decide (x ≤ y)) = S from hS.symm, ← hS]
  have hwb : ∃ arr : Array Value, (grow (putRow (Value.int .i64) (Sort.ahead w m) b 0 S.toArray) os).heap[b]? = some (Obj.cells arr 3 (0, 0)) ∧ arr.size = cur.size := by
    rw [heap_grow_old _ _ (by simp [putRow, mapBlock]; exact hbl)]
    simp only [putRow, mapBlock]
    simp [Array.getElem?_modify, hb]
    exact ⟨_, rfl, by simp [putCells]⟩
  obtain ⟨arr, hw, hl⟩ := hwb
  have hH' : Holds (Value.int .i64) (putRow (Value.int .i64) (Sort.ahead w m) b 0 S.toArray) b 0 S.toArray := holds_putRow (Value.int .i64) (Sort.ahead w m) b 0 L.toArray S.toArray (fun j hj => hH j hj) (by simp [hSl])
  refine ⟨rfl, ?_, ⟨rfl, rfl, rfl, by simp [putRow, mapBlock], fun k hkk hne => ?_⟩⟩
  · show Row _ _ _ _ _ _
    refine ⟨by simp, .inr ⟨b, cap, arr, by rw [hSl], Nat.zero_le _, hw, by omega, hc2, by omega, ?_⟩⟩
    apply List.ext_getElem?
    intro j
    rw [List.getElem?_take]
    split
    · rename_i hj
      have hj' : j < S.length := by omega
      rw [Array.getElem?_toList, ← cell_of hw, cell?_grow _ _ _ (by simp [putRow, mapBlock]; exact hbl)]
      have := (hH' j (by simpa using hj')).1
      rw [Nat.zero_add] at this
      rw [this]
      simp [hj', i64v]
    · rename_i hj
      rw [List.getElem?_eq_none (by simp; omega)]
  · rw [heap_grow_old _ _ (by simp [putRow, mapBlock]; exact hkk)]
    have hne' : b ≠ k := fun e => hne e.symm
    simp [putRow, mapBlock, Array.getElem?_modify, hne']
end Go.Proofs.YthckfbfenfkdiaaDoor.Py
