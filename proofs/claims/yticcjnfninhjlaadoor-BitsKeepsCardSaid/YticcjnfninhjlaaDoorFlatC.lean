/- The row of the longer lists; a list made longer. No condition. -/
import Derived.Test.YticcjnfninhjlaaDoorFlatB
import Derived.Laws.MakeOwn
import Derived.Laws.OwnMore
namespace Go.Proofs.YticcjnfninhjlaaDoor
open Go.RowKit
/-- Block gb is a row of K values gv. -/
structure Hd (w : World) (t : TypeId) (gb K : Nat) (gv : Nat → Value) : Prop where
  blk : ∃ cs : Array Value, w.heap[gb]? = some (.cells cs t (0, 0)) ∧ cs.size = K ∧ ∀ k, k < K → cs[k]? = some (gv k)
section
variable {w w' : World} {t : TypeId} {gb K : Nat} {gv : Nat → Value}
theorem Hd.cell (h : Hd w t gb K gv) {k : Nat} (hk : k < K) : w.cell? ⟨gb, k, none⟩ = some (gv k) := by
  obtain ⟨cs, h1, h2, h3⟩ := h.blk
  rw [cell_of h1]; exact h3 k hk
theorem Hd.free (h : Hd w t gb K gv) (k : Nat) : w.frozen? ⟨gb, k, none⟩ = false := by
  obtain ⟨cs, h1, h2, h3⟩ := h.blk
  exact free_of h1 k
theorem Hd.lt (h : Hd w t gb K gv) : gb < w.heap.size := by
  obtain ⟨cs, h1, h2, h3⟩ := h.blk
  exact lt_of_block h1
theorem Hd.fr (h : Hd w t gb K gv) {F : Nat → Prop} (f : Fr F w w') (hn : ¬ F gb) : Hd w' t gb K gv := by
  obtain ⟨cs, h1, h2, h3⟩ := h.blk
  exact ⟨cs, f.get h1 hn, h2, h3⟩
theorem Hd.set (h : Hd w t gb K gv) {k : Nat} (hk : k < K) (x : Value) : Hd (w.setCell ⟨gb, k, none⟩ x) t gb K (fun j => if j = k then x else gv j) := by
  obtain ⟨cs, h1, h2, h3⟩ := h.blk
  refine ⟨_, setCell_blk (o := k) h1 x, by simpa using h2, ?_⟩
  intro j hj
  rw [Array.getElem?_setIfInBounds]
  by_cases e : j = k
  · subst e; simp [h2, hj]
  · have e2 : ¬ k = j := fun h => e h.symm
    rw [if_neg e2, if_neg e]; exact h3 j hj
theorem Hd.congr (h : Hd w t gb K gv) {gv' : Nat → Value} (e : ∀ k, k < K → gv k = gv' k) : Hd w t gb K gv' := by
  obtain ⟨cs, h1, h2, h3⟩ := h.blk
  exact ⟨cs, h1, h2, fun k hk => e k hk ▸ h3 k hk⟩
theorem Hd.made (w : World) (t : TypeId) (K : Nat) (z : Value) : Hd (w.alloc (.cells (madeCells #[z] K) t)) t w.heap.size K (fun _ => z) := by
  refine ⟨madeCells #[z] K, by rw [heap_alloc_get]; simp, size_madeCells _ _, ?_⟩
  intro k hk
  rw [← Array.getElem?_toList, toList_madeCells_one, List.getElem?_replicate, if_pos hk]
end
section
variable {w : World} {e : TypeId} {size K lb gb : Nat} {lv gv : Nat → Value} {n m : Nat → Nat} {f g : Nat → List Value}
/-- A row laid for the longer lists. -/
theorem Fl2.row {w' : World} {f0 : Nat → List Value} (h : Fl2 w e size K lb lb lv gv n m f f0) (hfr : Fr (fun _ => False) w w') (hl : w.heap.size < w'.heap.size) : Fl2 w' e size K lb w.heap.size lv gv n m f f0 :=
  ⟨(h.keep hfr).lh, (h.keep hfr).lr, (h.keep hfr).gr, h.ap, fun k b hk hb => ⟨(h.hb k b hk hb).1, fun e => by have := h.below ⟨k, hk, hb⟩; omega⟩, h.sh, ⟨Nat.lt_of_lt_of_le h.lt.1 hfr.size, hl⟩⟩
theorem info_three {i : Option TypeInfo} {z : Option Value} {s b : Nat} (h : i.map (fun i => (i.zero, i.size, i.bytes)) = some (z, s, b)) : ∃ i0, i = some i0 ∧ i0.zero = z ∧ i0.size = s ∧ i0.bytes = b := by
  cases i with
  | none => simp at h
  | some i0 => simp at h; exact ⟨i0, rfl, h⟩
/-- The longer list begins as the list. -/
theorem Fl2.same (h : Fl2 w e size K lb gb lv gv n m f g) {k : Nat} (hk : k < K) :
    Fl2 w e size K lb gb lv (fun j => if j = k then lv k else gv j) n (fun j => if j = k then n k else m j) f (fun j => if j = k then f k else g j) := by
  have hx : ∀ j b, ((lv j).ownBlock = some b ∨ (if j = k then lv k else gv j).ownBlock = some b) → ((lv j).ownBlock = some b ∨ (gv j).ownBlock = some b) := by
    intro j b hb
    by_cases ej : j = k
    · subst ej; simp only [if_pos] at hb; exact .inl (hb.elim id id)
    · simp only [if_neg ej] at hb; exact hb
  refine ⟨h.lh, h.lr, ?_, fun j i b hj hi hne h1 h2 => h.ap j i b hj hi hne (hx j b h1) (hx i b h2), fun j b hj hb => h.hb j b hj (hx j b hb), ?_, h.lt⟩
  · intro j hj
    by_cases ej : j = k
    · subst ej; simp only [if_pos]; exact h.lr j hj
    · simp only [if_neg ej]; exact h.gr j hj
  · intro j b hj h1 h2
    by_cases ej : j = k
    · subst ej
      simp only [if_pos]
      rcases (h.lr j hj).2 with ⟨e1, e2⟩ | ⟨b', c, cur, e1, _⟩
      · rw [e1] at h1; cases h1
      · rw [e1] at h1; cases h1
        exact ⟨c, [], e1, e1, by simp, Nat.le_refl _⟩
    · simp only [if_neg ej] at h2 ⊢; exact h.sh j b hj h1 h2
/-- An append to the longer list. -/
theorem Fl2.app {P : Program} (h : Fl2 w e size K lb gb lv gv n m f g) (T : TypeId) (i : TypeInfo) (z : Value) (bytes : Nat) (ht : P.underlying T = some (.slice e)) (hi : P.info? e = some i) (hz : i.zero = some z)
    (hsize : i.size = size) (hby : i.bytes = bytes) (hzs : z.cells.size = size) (hsz : 0 < size) {k : Nat} (hk : k < K) (hpre : ∃ ys, g k = f k ++ ys) (hnm : n k ≤ m k)
    (a : Addr) (q c : Nat) (hq : 0 < q) (news : List Value) (hl : news.length = q * size) (hnews : ∀ j u, news[j]? = some u → w.cell? (a.add j) = some u) (h1 : ∀ u ∈ news, u.oneCell' = true)
    (h63 : m k + q ≤ maxLen) (hbytes : (m k + q) * bytes ≤ 140737488355328) :
    ∃ v' w', (Builtin.append_ #[T, T] T #[gv k, .slice (some a) q c]).run P w = .ok v' w' ∧
      Fl2 w' e size K lb gb lv (fun j => if j = k then v' else gv j) n (fun j => if j = k then m k + q else m j) f (fun j => if j = k then g k ++ news else g j) ∧
      Fr (fun b => (gv k).ownBlock = some b) w w' ∧ (v'.ownBlock = (gv k).ownBlock ∨ v'.ownBlock = some w.heap.size) ∧ ∃ a' c', v' = .slice a' (m k + q) c' := by
  obtain ⟨ys, hys⟩ := hpre
  obtain ⟨v', w', hrun, hR, hR0, hor⟩ := run_append_two (P := P) w T T e i z size bytes ht hi hz hsize hby hzs hsz (gv k) (m k) (g k) (h.gr k hk) a q c hq news hl hnews h1 h63 hbytes
  have hs : ∃ a' c', v' = .slice a' (m k + q) c' := by
    rcases hR.2 with ⟨e1, e2⟩ | ⟨g', cap, cur, e1, _⟩
    · exact ⟨none, 0, by rw [e1, e2]⟩
    · exact ⟨_, _, e1⟩
  refine ⟨v', w', hrun, ?_, ?_, ?_, hs⟩
  · refine h.put hk (ys := ys ++ news) (by rw [hys, List.append_assoc]) (by omega) hR (by omega) ?_
    rcases hor with ⟨b, cap, e1, e2, fr⟩ | ⟨fr, e2⟩
    · by_cases hb : (lv k).ownBlock = some b
      · obtain ⟨c2, ys2, e3, e4, _⟩ := h.sh k b hk hb (by rw [e1]; rfl)
        rw [e1] at e4
        obtain ⟨-, -, rfl⟩ := Value.slice.inj e4
        exact .inl ⟨b, _, hb, e3, e2, fr⟩
      · exact .inr (.inl ⟨b, by rw [e2]; rfl, by rw [e1]; rfl, hb, fr⟩)
    · exact .inr (.inr ⟨e2, fr⟩)
  · rcases hor with ⟨b, cap, e1, e2, fr⟩ | ⟨fr, e2⟩
    · exact fr.mono (fun x _ ex => by rw [ex, e1]; rfl)
    · exact fr.mono (fun _ _ h => h.elim)
  · rcases hor with ⟨b, cap, e1, e2, fr⟩ | ⟨fr, e2⟩
    · left; rw [e1, e2]; rfl
    · exact .inr e2
/-- The longer list is made anew of the list, by one append. -/
theorem Fl2.anew {P : Program} (h : Fl2 w e size K lb gb lv gv n m f g) (T : TypeId) (i : TypeInfo) (z : Value) (bytes : Nat) (ht : P.underlying T = some (.slice e)) (hi : P.info? e = some i) (hz : i.zero = some z)
    (hsize : i.size = size) (hby : i.bytes = bytes) (hzs : z.cells.size = size) (hsz : 0 < size) {k : Nat} (hk : k < K)
    (a : Addr) (q c : Nat) (hq : 0 < q) (news : List Value) (hl : news.length = q * size) (hnews : ∀ j u, news[j]? = some u → w.cell? (a.add j) = some u) (h1 : ∀ u ∈ news, u.oneCell' = true)
    (h63 : n k + q ≤ maxLen) (hbytes : (n k + q) * bytes ≤ 140737488355328) :
    ∃ v' w', (Builtin.append_ #[T, T] T #[lv k, .slice (some a) q c]).run P w = .ok v' w' ∧
      Fl2 w' e size K lb gb lv (fun j => if j = k then v' else gv j) n (fun j => if j = k then n k + q else m j) f (fun j => if j = k then f k ++ news else g j) ∧
      Fr (fun b => (lv k).ownBlock = some b) w w' ∧ (v'.ownBlock = (lv k).ownBlock ∨ v'.ownBlock = some w.heap.size) ∧ ∃ a' c', v' = .slice a' (n k + q) c' := by
  have hS := h.same hk
  obtain ⟨v', w', r1, r2, r3, r4, r5⟩ := hS.app T i z bytes ht hi hz hsize hby hzs hsz hk ⟨[], by simp⟩ (by simp) a q c hq news hl hnews h1 (by simpa using h63) (by simpa using hbytes)
  simp only [if_pos] at r1 r3 r4 r5
  refine ⟨v', w', r1, ?_, r3, r4, r5⟩
  refine r2.congr (fun _ _ => rfl) ?_ ?_ ?_
  · intro j hj; by_cases ej : j = k <;> simp [ej]
  · intro j hj; by_cases ej : j = k <;> simp [ej]
  · intro j hj; by_cases ej : j = k <;> simp [ej]
end
end Go.Proofs.YticcjnfninhjlaaDoor
