/- HeapSorts: the state while all is popped. No condition. -/
import Derived.Test.YtfgpmbahekcoeaaThgO
namespace Go.Proofs.Ytfgpmbahekcoeaa.Th
open Go.RowKit
theorem run_equalIn_float {P : Program} (w : World) (d : Nat) (t : TypeId) (k k' : FloatKind) (a b : Nat) (h : P.underlying t = some (.float k')) : (Op.equalIn (d + 1) t (.float k a) (.float k b)).run P w = .ok (k.format.order a b == some .eq) w := by
  simp [Op.equalIn, run_underlying h, Op.floatEq]
theorem run_neq_thing (w : World) (x : Int) : (binOp .neq 29 (.agg #[.string (tS x), .float .f64 (tW x)]) (.agg #[.string (tS x), .float .f64 (tW x)])).run Try.prog w = .ok (.bool false) w := by
  rw [run_neq_struct, run_equalIn_agg (P := Try.prog) w 9999 29 _ _ (by kernel_rfl) Try.stoodInHeld29]
  have he : (FloatKind.f64.format.order (tW x) (tW x) == some .eq) = true := by rw [eqlT]; simp
  have hf : (Try.prog.fieldsOf 29).toList.map (fun f => (decide (f.name = "_"), f.type, f.offset)) = [(false, 9, 0), (false, 27, 1)] := by kernel_rfl
  revert hf
  generalize (Try.prog.fieldsOf 29).toList = fs
  intro hf
  rcases fs with _ | ⟨f1, _ | ⟨f2, _ | ⟨f3, fs⟩⟩⟩
  · simp at hf
  · simp at hf
  · simp only [List.map_cons, List.map_nil, List.cons.injEq, Prod.mk.injEq, and_true] at hf
    obtain ⟨⟨a1, a2, a3⟩, b1, b2, b3⟩ := hf
    simp [Op.eqFields, of_decide_eq_false a1, of_decide_eq_false b1, a2, a3, b2, b3, go_sem, run_equalIn_float, he]
  · simp at hf
structure St3 (w : World) (bh lb : Nat) (V : List Int) (left f : Nat) (at_ : Int) (sa st : Value) (wr : World) : Prop where
  ex : ∃ (G : Nat → Prop) (T : List Bool) (L : List It) (s : ByteArray), HqL bh V T G L wr ∧ L.length = left ∧ Own w G sa st ∧ Row wr 29 2 sa V.length (flatV V) ∧ Row wr 4 1 st T.length (T.map Value.bool) ∧ Fr (fun b => w.heap.size ≤ b) w wr ∧ Good f at_ L ∧ wr.heap[lb]? = some (.cells #[.string s, .float .f64 f] 29 (0, 0)) ∧ w.heap.size ≤ lb ∧ ¬ G lb ∧ sa.ownBlock ≠ some lb ∧ st.ownBlock ≠ some lb
theorem St3.start {w wc : World} {bh : Nat} {V : List Int} {T : List Bool} {sa st : Value} {G : Nat → Prop} {L : List It} (Hs : St w bh V T sa st wc) (HL : HqL bh V T G L wc) (Ow : Own w G sa st) (s : ByteArray) :
    St3 w bh wc.heap.size V L.length 13830554455654793216 (-1) sa st (wc.alloc (.cells #[.string s, .float .f64 13830554455654793216] 29)) := by
  have fa : Fr (fun _ => False) wc (wc.alloc (.cells #[.string s, .float .f64 13830554455654793216] 29)) := Fr.alloc (Fr.refl _ _) _
  refine ⟨G, T, L, s, HL.fr fa (fun _ _ h => h), rfl, Ow, Row.fr Hs.ra fa (fun _ _ h => h), Row.fr Hs.rt fa (fun _ _ h => h), Hs.fr.trans fa (fun _ _ h => h.elim), good_start L, by rw [heap_alloc_get]; simp, Hs.fr.size, ?_, ?_, ?_⟩
  · intro h
    have := HL.hp.bd _ h
    omega
  · intro h; have := Row.lt Hs.ra h; omega
  · intro h; have := Row.lt Hs.rt h; omega
/-- Behind the pop. -/
structure Rd (w : World) (bh lb : Nat) (V : List Int) (left f j : Nat) (vj : Int) (sa st : Value) (wr : World) : Prop where
  ex : ∃ (G : Nat → Prop) (T : List Bool) (L : List It) (s : ByteArray), HqL bh V (T.set j false) G L wr ∧ L.length + 1 = left ∧ Own w G sa st ∧ Row wr 29 2 sa V.length (flatV V) ∧ Row wr 4 1 st T.length (T.map Value.bool) ∧ T.getD j false = true ∧ Fr (fun b => w.heap.size ≤ b) w wr ∧ Good (tW vj) j L ∧ wr.heap[lb]? = some (.cells #[.string s, .float .f64 f] 29 (0, 0)) ∧ w.heap.size ≤ lb ∧ ¬ G lb ∧ sa.ownBlock ≠ some lb ∧ st.ownBlock ≠ some lb
  vj : vj = V.getD j 0
  lt : j < V.length
theorem St3.round {w wr : World} {bh lb : Nat} {V : List Int} {left f : Nat} {at_ : Int} {sa st : Value} (h : St3 w bh lb V left f at_ sa st wr) (h0 : 0 < left) :
    ∃ (j : Nat) (vj : Int), j < V.length ∧ (FloatKind.f64.format.order (tW vj) f == some .lt) = false ∧ ((FloatKind.f64.format.order (tW vj) f == some .eq) = true → at_ ≤ (j : Int)) ∧
      Calls Try.prog 21 #[.pointer (some ⟨bh, 0, none⟩)] wr fun e w' => e = .returned (.tuple #[thgT vj, .int .i64 j, .bool true]) ∧ Rd w bh lb V left f j vj sa st w' := by
  obtain ⟨G, T, L, s, hq, hl, ow, ra, rt, fr, gd, hb, hb1, hb2, hb3, hb4⟩ := h.ex
  obtain ⟨j, hj, ht, o1, o2, hc⟩ := hq.pop (by omega) gd
  refine ⟨j, _, hj, o1, o2, hc.mono ?_⟩
  rintro e w' ⟨rfl, f1, L', q1, q2, q3⟩
  exact ⟨rfl, ⟨G, T, L', s, q1, by omega, ow, Row.fr ra f1 (fun b hb h => ow.g2 b hb h), Row.fr rt f1 (fun b hb h => ow.g3 b hb h), ht, fr.trans f1 (fun b _ h => ow.g1 b h), q3, f1.get hb hb2, hb1, hb2, hb3, hb4⟩, rfl, hj⟩
theorem Rd.fr {w wr w' : World} {bh lb : Nat} {V : List Int} {left f j : Nat} {vj : Int} {sa st : Value} (h : Rd w bh lb V left f j vj sa st wr) (fa : Fr (fun _ => False) wr w') : Rd w bh lb V left f j vj sa st w' := by
  obtain ⟨G, T, L, s, hq, hl, ow, ra, rt, ht, fr, gd, hb, hb1, hb2, hb3, hb4⟩ := h.ex
  exact ⟨⟨G, T, L, s, hq.fr fa (fun _ _ h => h), hl, ow, Row.fr ra fa (fun _ _ h => h), Row.fr rt fa (fun _ _ h => h), ht, fr.trans fa (fun _ _ h => h.elim), gd, fa.get hb (fun h => h), hb1, hb2, hb3, hb4⟩, h.vj, h.lt⟩
theorem Rd.parts {w wr : World} {bh lb : Nat} {V : List Int} {left f j : Nat} {vj : Int} {sa st : Value} (h : Rd w bh lb V left f j vj sa st wr) :
    ∃ (tb tc ab ac : Nat) (s : ByteArray), st = .slice (some ⟨tb, 0, none⟩) V.length tc ∧ sa = .slice (some ⟨ab, 0, none⟩) V.length ac ∧ wr.heap[lb]? = some (.cells #[.string s, .float .f64 f] 29 (0, 0)) ∧ tb ≠ lb ∧ tb < wr.heap.size ∧ lb < wr.heap.size ∧
      ∀ w', Fr (fun _ => False) wr w' → w'.cell? ⟨tb, j, none⟩ = some (.bool true) ∧ w'.frozen? ⟨tb, j, none⟩ = false ∧ w'.cell? ⟨ab, j * 2, none⟩ = some (.string (tS vj)) ∧ w'.cell? ⟨ab, j * 2 + 1, none⟩ = some (.float .f64 (tW vj)) ∧ w'.cell? ⟨lb, 0, none⟩ = some (.string s) ∧ w'.cell? ⟨lb, 1, none⟩ = some (.float .f64 f) ∧ w'.frozen? ⟨lb, 0, none⟩ = false ∧ w'.frozen? ⟨lb, 1, none⟩ = false ∧
        St3 w bh lb V (left - 1) (tW vj) j sa st (((w'.setCell ⟨tb, j, none⟩ (.bool false)).setCell ⟨lb, 0, none⟩ (.string (tS vj))).setCell ⟨lb, 1, none⟩ (.float .f64 (tW vj))) := by
  obtain ⟨G, T, L, s, hq, hl, ow, ra, rt, ht, fr, gd, hb, hb1, hb2, hb3, hb4⟩ := h.ex
  have hT : T.length = V.length := by have := hq.it.len; simpa using this
  have hj := h.lt
  obtain ⟨tb, tc, e1, _, _, _⟩ := row_bool rt (j := j) (by omega)
  obtain ⟨ab, ac, e2, _, _, _⟩ := row_thing ra (j := j) hj
  subst e1; subst e2
  have ne : tb ≠ lb := fun e => hb4 (by rw [e]; rfl)
  refine ⟨tb, tc, ab, ac, s, by rw [hT], rfl, hb, ne, Row.lt rt rfl, (by have := cell_of hb 0; exact World.block_lt_of_cell? _ _ this), ?_⟩
  intro w' fa
  have rt' := Row.fr rt fa (fun _ _ h => h)
  have ra' := Row.fr ra fa (fun _ _ h => h)
  have hb' := fa.get hb (fun h => h)
  obtain ⟨tb', tc', e1, c1, c2, c3⟩ := row_bool rt' (j := j) (by omega)
  obtain ⟨ab', ac', e2, d1, d2, _, _⟩ := row_thing ra' (j := j) hj
  have : tb = tb' := by simpa using (Value.slice.inj e1).1
  subst this
  have : ab = ab' := by simpa using (Value.slice.inj e2).1
  subst this
  rw [ht] at c1
  rw [← h.vj] at d1 d2
  refine ⟨c1, c2, d1, d2, (cell_of hb' 0).trans rfl, (cell_of hb' 1).trans rfl, free_of hb' 0, free_of hb' 1, ?_⟩
  have fs : Fr (fun b => b = tb) w' (w'.setCell ⟨tb, j, none⟩ (.bool false)) := Fr.setCell (F := fun b => b = tb) (p := ⟨tb, j, none⟩) (Fr.refl _ _) (fun _ => rfl) _
  have hb2' := fs.get hb' (fun h => ne h.symm)
  have fl : Fr (fun b => b = lb) (w'.setCell ⟨tb, j, none⟩ (.bool false)) (((w'.setCell ⟨tb, j, none⟩ (.bool false)).setCell ⟨lb, 0, none⟩ (.string (tS vj))).setCell ⟨lb, 1, none⟩ (.float .f64 (tW vj))) :=
    (Fr.setCell (F := fun b => b = lb) (p := ⟨lb, 0, none⟩) (Fr.refl _ _) (fun _ => rfl) _).setCell (p := ⟨lb, 1, none⟩) (fun _ => rfl) _
  have hbf : (((w'.setCell ⟨tb, j, none⟩ (.bool false)).setCell ⟨lb, 0, none⟩ (.string (tS vj))).setCell ⟨lb, 1, none⟩ (.float .f64 (tW vj))).heap[lb]? = some (.cells #[.string (tS vj), .float .f64 (tW vj)] 29 (0, 0)) :=
    setCell_blk (o := 1) (setCell_blk (o := 0) hb2' _) _
  have rt2 : Row (w'.setCell ⟨tb, j, none⟩ (.bool false)) 4 1 (.slice (some ⟨tb, 0, none⟩) T.length tc) (T.set j false).length ((T.set j false).map Value.bool) := by
    rw [List.length_set]; exact c3 false
  have ra2 := Row.fr ra' fs (fun b hb h => by subst h; exact ow.ne _ hb rfl)
  refine ⟨G, T.set j false, L, tS vj, ((hq.fr fa (fun _ _ h => h)).fr fs (fun b hb h => ow.g3 tb rfl (h ▸ hb))).fr fl (fun b hb h => hb2 (h ▸ hb)), by omega, ow, Row.fr ra2 fl (fun b hb h => hb3 (h ▸ hb)), Row.fr rt2 fl (fun b hb h => hb4 (h ▸ hb)), ?_, gd, hbf, hb1, hb2, hb3, hb4⟩
  exact ((fr.trans fa (fun _ _ h => h.elim)).trans fs (fun b _ h => by subst h; exact ow.ot _ rfl)).trans fl (fun b _ h => by subst h; exact hb1)
/-- At the end. -/
theorem St3.last {w wr : World} {bh lb : Nat} {V : List Int} {f : Nat} {at_ : Int} {sa st : Value} (h : St3 w bh lb V 0 f at_ sa st wr) :
    ∃ (G : Nat → Prop) (T : List Bool), HqL bh V T G [] wr ∧ T.length = V.length ∧ Row wr 4 1 st V.length (T.map Value.bool) ∧ (∀ j, j < V.length → T.getD j false = false) ∧ Fr (fun b => w.heap.size ≤ b) w wr := by
  obtain ⟨G, T, L, s, hq, hl, ow, ra, rt, fr, _⟩ := h.ex
  have hT : T.length = V.length := hq.it.len
  have he := hq.empty hl
  have e : L = [] := List.length_eq_zero_iff.1 hl
  subst e
  exact ⟨G, T, hq, hT, hT ▸ rt, he, fr⟩
end Go.Proofs.Ytfgpmbahekcoeaa.Th
