/- HeapSorts' steps: drop and set on the heap and on the rows. No condition. -/
import Derived.Test.YtfgpmbahekcoeaaThgM
namespace Go.Proofs.Ytfgpmbahekcoeaa.Th
open Go.RowKit
structure Hq (bh : Nat) (V : List Int) (T : List Bool) (G : Nat → Prop) (wr : World) : Prop where
  ex : ∃ L, HpS G bh L (V.length : Int) wr ∧ L.length ≤ V.length ∧ Items V T L ∧ Heaped ltT L
theorem Hq.fr {bh : Nat} {V : List Int} {T : List Bool} {G F : Nat → Prop} {w w' : World} (h : Hq bh V T G w) (f : Fr F w w') (hn : ∀ b, G b → ¬ F b) : Hq bh V T G w' := by
  obtain ⟨L, h1, h2, h3, h4⟩ := h.ex
  exact ⟨L, HpS.fr h1 f hn, h2, h3, h4⟩
theorem set_self {T : List Bool} {j : Nat} (h : T.getD j false = false) : T.set j false = T := by
  apply List.ext_getElem?
  intro k
  rw [List.getElem?_set]
  split
  · rename_i e; subst e
    split
    · rename_i hl
      rw [List.getD_eq_getElem?_getD, List.getElem?_eq_getElem hl] at h
      rw [List.getElem?_eq_getElem hl]
      simpa using h.symm
    · rename_i hl; rw [List.getElem?_eq_none (by omega)]
  · rfl
theorem Hq.drop {bh : Nat} {V : List Int} {T : List Bool} {G : Nat → Prop} {wr : World} (h : Hq bh V T G wr) {j : Nat} (_ : j < V.length) :
    Calls Try.prog 18 #[.pointer (some ⟨bh, 0, none⟩), .int .i64 j] wr fun e w' => e = .returned (.bool (T.getD j false)) ∧ Hq bh V (T.set j false) G w' ∧ Fr G wr w' := by
  obtain ⟨L, h1, h2, h3, h4⟩ := h.ex
  cases ht : T.getD j false
  · refine (drop_gone sorts_less h1 (h3.gone ht)).mono ?_
    rintro e w' ⟨rfl, rfl⟩
    exact ⟨rfl, by rw [set_self ht]; exact h, Fr.refl _ _⟩
  · obtain ⟨i, hi, e⟩ := h3.there (by assumption) ht
    have := drop_there sorts_less h1 hi
    rw [e] at this
    refine this.mono ?_
    rintro e2 w' ⟨rfl, a1, a2⟩
    exact ⟨rfl, ⟨_, a1, by rw [takeF_length ltT hi]; omega, h3.take hi e, take_heaped ltT_swo h4 hi⟩, a2.mono (fun b _ h => h.elim (fun h => h.elim) id)⟩
theorem Hq.set {bh : Nat} {V : List Int} {T : List Bool} {G : Nat → Prop} {wr : World} (h : Hq bh V T G wr) {j : Nat} (hj : j < V.length) (v : Int) :
    Calls Try.prog 19 #[.pointer (some ⟨bh, 0, none⟩), .int .i64 j, thgT v] wr fun e w' => e = .returned (.bool (T.getD j false)) ∧ Hq bh (V.set j v) T G w' ∧ Fr G wr w' := by
  obtain ⟨L, h1, h2, h3, h4⟩ := h.ex
  cases ht : T.getD j false
  · refine (set_gone sorts_less h1 (h3.gone ht) v).mono ?_
    rintro e w' ⟨rfl, f⟩
    exact ⟨rfl, ⟨L, by rw [List.length_set]; exact HpS.fr h1 f (fun _ _ h => h), by rw [List.length_set]; exact h2, h3.setGone ht v, h4⟩, f.mono (fun _ _ h => h.elim)⟩
  · obtain ⟨i, hi, e⟩ := h3.there hj ht
    have := set_there sorts_less h1 hi (v := v) trivial
    rw [e] at this
    refine this.mono ?_
    rintro e2 w' ⟨rfl, a1, a2⟩
    have hl : (setF ltT L i v).length = L.length := by unfold setF; rw [settleF_length ltT (by simpa using hi)]; simp
    exact ⟨rfl, ⟨_, by rw [List.length_set]; exact a1, by rw [List.length_set, hl]; exact h2, h3.setThere hj hi e ht v, set_heaped ltT_swo h4 hi _⟩, a2.mono (fun b _ h => h.elim (fun h => h.elim) id)⟩
theorem row_bool {w : World} {st : Value} {T : List Bool} (h : Row w 4 1 st T.length (T.map Value.bool)) {j : Nat} (hj : j < T.length) : ∃ g c, st = .slice (some ⟨g, 0, none⟩) T.length c ∧ w.cell? ⟨g, j, none⟩ = some (.bool (T.getD j false)) ∧ w.frozen? ⟨g, j, none⟩ = false ∧
    ∀ b, Row (w.setCell ⟨g, j, none⟩ (.bool b)) 4 1 st T.length ((T.set j b).map Value.bool) := by
  rcases h.2 with ⟨_, h0⟩ | ⟨g, cap, cur, rfl, _, k1, k2, k3, k4, k5⟩
  · omega
  · refine ⟨g, cap, rfl, ?_, free_of k1 j, ?_⟩
    · rw [cell_of k1 j]
      have : (cur.toList.take (T.length * 1))[j]? = (T.map Value.bool)[j]? := by rw [k5]
      rw [List.getElem?_take, if_pos (by omega), List.getElem?_map, List.getElem?_eq_getElem hj] at this
      simp at this
      rw [this, List.getD_eq_getElem?_getD, List.getElem?_eq_getElem hj]; rfl
    · intro b
      refine ⟨by simp, .inr ⟨g, cap, _, rfl, Nat.zero_le _, setCell_blk (o := j) k1 (.bool b), k2, k3, by simpa using k4, ?_⟩⟩
      rw [List.map_set, ← k5]
      rw [Array.toList_setIfInBounds, List.take_set]
theorem row_thing {w : World} {sa : Value} {V : List Int} (h : Row w 29 2 sa V.length (flatV V)) {j : Nat} (hj : j < V.length) : ∃ g c, sa = .slice (some ⟨g, 0, none⟩) V.length c ∧ w.cell? ⟨g, j * 2, none⟩ = some (.string (tS (V.getD j 0))) ∧ w.cell? ⟨g, j * 2 + 1, none⟩ = some (.float .f64 (tW (V.getD j 0))) ∧ w.frozen? ⟨g, j * 2 + 1, none⟩ = false ∧
    ∀ v, v / 20 = V.getD j 0 / 20 → Row (w.setCell ⟨g, j * 2 + 1, none⟩ (.float .f64 (tW v))) 29 2 sa V.length (flatV (V.set j v)) := by
  rcases h.2 with ⟨_, h0⟩ | ⟨g, cap, cur, rfl, _, k1, k2, k3, k4, k5⟩
  · omega
  · have gg := flatV_get V j hj
    have cel : ∀ o, o < V.length * 2 → w.cell? ⟨g, o, none⟩ = (flatV V)[o]? := by
      intro o ho
      rw [cell_of k1 o, ← k5, List.getElem?_take, if_pos ho]; simp
    refine ⟨g, cap, rfl, (cel _ (by omega)).trans gg.1, (cel _ (by omega)).trans gg.2, free_of k1 _, ?_⟩
    intro v hv
    refine ⟨by rw [flatV_length]; simp, .inr ⟨g, cap, _, rfl, Nat.zero_le _, setCell_blk (o := j * 2 + 1) k1 (.float .f64 (tW v)), k2, k3, by simpa using k4, ?_⟩⟩
    rw [Array.toList_setIfInBounds, List.take_set, k5]
    apply List.ext_getElem?
    intro o
    rw [List.getElem?_set]
    by_cases ho : o < V.length * 2
    · obtain ⟨q, hq | hq⟩ : ∃ q, o = q * 2 ∨ o = q * 2 + 1 := ⟨o / 2, by omega⟩
      · subst hq
        have a := (flatV_get (V.set j v) q (by simp; omega)).1
        have b := (flatV_get V q (by omega)).1
        rw [a, if_neg (by omega), b, getD_set_i]
        by_cases e : q = j ∧ j < V.length
        · rw [if_pos e, e.1, tS_eq, tS_eq, hv]
        · rw [if_neg e]
      · subst hq
        have a := (flatV_get (V.set j v) q (by simp; omega)).2
        have b := (flatV_get V q (by omega)).2
        rw [a, getD_set_i]
        by_cases e : q = j ∧ j < V.length
        · rw [if_pos e, if_pos (by rw [e.1]), if_pos (by rw [flatV_length]; omega)]
        · rw [if_neg e, if_neg (by intro h; exact e ⟨by omega, hj⟩), b]
    · have e1 : (flatV (V.set j v))[o]? = none := List.getElem?_eq_none (by rw [flatV_length, List.length_set]; omega)
      have e2 : (flatV V)[o]? = none := List.getElem?_eq_none (by rw [flatV_length]; omega)
      rw [e1, if_neg (by omega), e2]
/-- St in parts. -/
structure Own (w : World) (G : Nat → Prop) (sa st : Value) : Prop where
  g1 : ∀ b, G b → w.heap.size ≤ b
  g2 : ∀ b, sa.ownBlock = some b → ¬ G b
  g3 : ∀ b, st.ownBlock = some b → ¬ G b
  oa : ∀ b, sa.ownBlock = some b → w.heap.size ≤ b
  ot : ∀ b, st.ownBlock = some b → w.heap.size ≤ b
  ne : ∀ b, sa.ownBlock = some b → st.ownBlock ≠ some b
theorem St.parts {w wr : World} {bh : Nat} {V : List Int} {T : List Bool} {sa st : Value} (h : St w bh V T sa st wr) : ∃ G, Hq bh V T G wr ∧ Own w G sa st := by
  obtain ⟨G, L, h1, hl, h2, h3, h4, h5, h6⟩ := h.hp
  exact ⟨G, ⟨L, h1, hl, h2, h3⟩, h4, h5, h6, h.oa, h.ot, h.ne⟩
theorem St.of {w wr : World} {bh : Nat} {V : List Int} {T : List Bool} {sa st : Value} {G : Nat → Prop} (h : Hq bh V T G wr) (o : Own w G sa st) (ra : Row wr 29 2 sa V.length (flatV V)) (rt : Row wr 4 1 st T.length (T.map Value.bool)) (fr : Fr (fun b => w.heap.size ≤ b) w wr) : St w bh V T sa st wr := by
  obtain ⟨L, h1, hl, h2, h3⟩ := h.ex
  exact ⟨⟨G, L, h1, hl, h2, h3, o.g1, o.g2, o.g3⟩, ra, rt, o.oa, o.ot, o.ne, fr⟩
theorem Hq.len {bh : Nat} {V : List Int} {T : List Bool} {G : Nat → Prop} {wr : World} (h : Hq bh V T G wr) : T.length = V.length := by
  obtain ⟨L, _, _, h3, _⟩ := h.ex
  exact h3.len
/-- Behind Drop, and the mark struck. -/
theorem St.dropped {w wr w1 : World} {bh : Nat} {V : List Int} {T : List Bool} {sa st : Value} {G : Nat → Prop} {j : Nat} (Hs : St w bh V T sa st wr) (o : Own w G sa st) (hj : j < V.length) (hT : T.length = V.length) (hq : Hq bh V (T.set j false) G w1) (f1 : Fr G wr w1) :
    ∃ g c, st = .slice (some ⟨g, 0, none⟩) T.length c ∧ w1.cell? ⟨g, j, none⟩ = some (.bool (T.getD j false)) ∧ w1.frozen? ⟨g, j, none⟩ = false ∧ St w bh V (T.set j false) sa st (w1.setCell ⟨g, j, none⟩ (.bool false)) := by
  have rt1 := Row.fr Hs.rt f1 (fun b hb h => o.g3 b hb h)
  have ra1 := Row.fr Hs.ra f1 (fun b hb h => o.g2 b hb h)
  obtain ⟨g, c, e, c1, c2, c3⟩ := row_bool rt1 (j := j) (by omega)
  have eo : st.ownBlock = some g := by rw [e]; rfl
  have fs : Fr (fun b => b = g) w1 (w1.setCell ⟨g, j, none⟩ (.bool false)) := Fr.setCell (F := fun b => b = g) (p := ⟨g, j, none⟩) (Fr.refl _ _) (fun _ => rfl) _
  refine ⟨g, c, e, c1, c2, St.of (hq.fr fs (fun b hb h => o.g3 g eo (h ▸ hb))) o (Row.fr ra1 fs (fun b hb h => o.ne b hb (h ▸ eo))) ?_ ?_⟩
  · have := c3 false
    rw [List.length_set]; exact this
  · exact (Hs.fr.trans f1 (fun b _ h => o.g1 b h)).trans fs (fun b _ h => by subst h; exact o.ot _ eo)
/-- The thing's worth stored, then Set. -/
theorem St.stored {w wr : World} {bh : Nat} {V : List Int} {T : List Bool} {sa st : Value} {G : Nat → Prop} {j : Nat} (Hs : St w bh V T sa st wr) (o : Own w G sa st) (hq : Hq bh V T G wr) (hj : j < V.length) {v : Int} (hv : v / 20 = V.getD j 0 / 20) :
    ∃ g c, sa = .slice (some ⟨g, 0, none⟩) V.length c ∧ wr.cell? ⟨g, j * 2 + 1, none⟩ = some (.float .f64 (tW (V.getD j 0))) ∧ wr.frozen? ⟨g, j * 2 + 1, none⟩ = false ∧
      (wr.setCell ⟨g, j * 2 + 1, none⟩ (.float .f64 (tW v))).cell? ⟨g, j * 2, none⟩ = some (.string (tS v)) ∧ (wr.setCell ⟨g, j * 2 + 1, none⟩ (.float .f64 (tW v))).cell? ⟨g, j * 2 + 1, none⟩ = some (.float .f64 (tW v)) ∧
      Row (wr.setCell ⟨g, j * 2 + 1, none⟩ (.float .f64 (tW v))) 29 2 sa (V.set j v).length (flatV (V.set j v)) ∧ Row (wr.setCell ⟨g, j * 2 + 1, none⟩ (.float .f64 (tW v))) 4 1 st T.length (T.map Value.bool) ∧
      Hq bh V T G (wr.setCell ⟨g, j * 2 + 1, none⟩ (.float .f64 (tW v))) ∧ Fr (fun b => w.heap.size ≤ b) w (wr.setCell ⟨g, j * 2 + 1, none⟩ (.float .f64 (tW v))) := by
  obtain ⟨g, c, e, c0, c1, c2, c3⟩ := row_thing Hs.ra (j := j) hj
  have eo : sa.ownBlock = some g := by rw [e]; rfl
  have fs : Fr (fun b => b = g) wr (wr.setCell ⟨g, j * 2 + 1, none⟩ (.float .f64 (tW v))) := Fr.setCell (F := fun b => b = g) (p := ⟨g, j * 2 + 1, none⟩) (Fr.refl _ _) (fun _ => rfl) _
  have r1 := c3 v hv
  refine ⟨g, c, e, c1, c2, ?_, ?_, by rw [List.length_set]; exact r1, Row.fr Hs.rt fs (fun b hb h => o.ne g eo (h ▸ hb)), hq.fr fs (fun b hb h => o.g2 g eo (h ▸ hb)), Hs.fr.trans fs (fun b _ h => by subst h; exact o.oa _ eo)⟩
  · have hr := r1.2
    rw [World.cell?_setCell_other wr ⟨g, j * 2 + 1, none⟩ ⟨g, j * 2, none⟩ _ (by simp), c0, tS_eq, tS_eq, hv]
  · exact World.cell?_setCell_same _ _ _ c1
theorem St.setBack {w w0 w1 : World} {bh : Nat} {V : List Int} {T : List Bool} {sa st : Value} {G : Nat → Prop} (o : Own w G sa st) (ra : Row w0 29 2 sa V.length (flatV V)) (rt : Row w0 4 1 st T.length (T.map Value.bool)) (fr : Fr (fun b => w.heap.size ≤ b) w w0) (hq : Hq bh V T G w1) (f1 : Fr G w0 w1) : St w bh V T sa st w1 :=
  St.of hq o (Row.fr ra f1 (fun b hb h => o.g2 b hb h)) (Row.fr rt f1 (fun b hb h => o.g3 b hb h)) (fr.trans f1 (fun b _ h => o.g1 b h))
end Go.Proofs.Ytfgpmbahekcoeaa.Th
