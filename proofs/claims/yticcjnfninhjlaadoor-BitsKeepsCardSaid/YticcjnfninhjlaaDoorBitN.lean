/- All and Gaps hand back sequences; what told and pairs make of them. Condition: the table of math/bits. -/
import Derived.Test.YticcjnfninhjlaaDoorBitM
import Derived.Test.YticcjnfninhjlaaDoorMarks
namespace Go.Proofs.YticcjnfninhjlaaDoor.Bt
open Go.RowKit Go.Shelf
attribute [local go_sem] Oper.semAt_some
/-- A builtin append whose run is known, inside a fence. -/
theorem wpListIn_append_run {F : Fence} {n : Nat} {P : Program} {ops : Array Oper} {Q : Exit → Act → World → Prop} {rest : List Oper} {o : Oper} {a : Act} {w : World} (hgd : o.guard = none) (s x : Operand) (t : TypeId)
    (ho : o.op = .call { callee := .builtin .append, args := #[s, x], argTypes := #[t, t] }) {v u v' : Value} {w' : World} (hs : a.eval s = v) (hx : a.eval x = u)
    (hrun : (Builtin.append_ #[t, t] o.type #[v, u]).run P w = .ok v' w') (h : wpListIn F n P ops Q rest (a.put o.dst v') w') : wpListIn F n P ops Q (o :: rest) a w :=
  wpListIn_plain hgd fun K hK => by
    unfold Oper.wpIn
    refine ⟨?_, ?_⟩
    · simp [Oper.about, ho, resolve, Target.leads, Sem.run_pure]
    · rw [Oper.semAt_plain F _ _ (by rw [ho]; intro c hc'; cases hc')]
      simp [execOp, ho, resolve, invoke, builtin, hs, hx, hrun, Result.andThen]
      exact hK _ _ h
/-- What All or Gaps hands back: its own copy. -/
structure NewSeq (w w' : World) (cb bh : Nat) (v : Value) (B : List Bool) : Prop where
  seq : Seq w' cb bh v B
  new : ∀ b, seqP cb bh v b → b = 0 ∨ w.heap.size ≤ b
  fr : Fr (fun _ => False) w w'
theorem NewSet.seq {w w1 : World} {bh : Nat} {v : Value} {B : List Bool} (h : NewSet w w1 bh v B) (hT : TabOk w) : NewSeq w (w1.alloc (.cells #[.pointer (some ⟨bh, 0, none⟩)] 24)) w1.heap.size bh v B := by
  have fa : Fr (fun _ => False) w1 (w1.alloc (.cells #[.pointer (some ⟨bh, 0, none⟩)] 24)) := Fr.alloc (Fr.refl _ _) _
  have f := h.fr.trans fa (fun _ _ h => h)
  refine ⟨⟨?_, h.at_.fr fa (fun h => h) (fun _ _ h => h), hT.fr f (fun h => h)⟩, ?_, f⟩
  · rw [heap_alloc_get]; simp
  · rintro b (hb | hb | hb | hb)
    · exact .inl hb
    · right; have := h.fr.size; omega
    · right; have := h.new; omega
    · right; exact (h.newv b hb).1
set_option maxRecDepth 100000 in
theorem gaps_ok {w : World} (hT : TabOk w) {bh : Nat} {v : Value} {B : List Bool} (h : SetAt w bh v B) : Calls Tryd.prog 27 #[.pointer (some ⟨bh, 0, none⟩)] w fun e w' => ∃ cb bh' v', e = .returned (.func (.func 51) #[] #[.pointer (some ⟨cb, 0, none⟩)]) ∧ NewSeq w w' cb bh' v' B := by
  have HT := Lib.hid hT
  have HC := Lib.hid (copy_ok h)
  clear h hT
  go_enter Tryd.func27, Tryd.ntmps27
  go_wp2_with fail
  refine HC.out.mono ?_
  rintro e w1 ⟨bh', v', rfl, hn⟩
  have Hn := Lib.hid hn
  clear hn
  go_wp2_with fail
  go_ret
  exact ⟨w1.heap.size, bh', v', rfl, Hn.out.seq HT.out⟩
/-- A list under way, in a cell of its own. -/
structure Told (n0 tb : Nat) (L : List Int) (W : World) : Prop where
  ex : ∃ v, W.heap[tb]? = some (.cells #[v] 22 (0, 0)) ∧ Row W 3 1 v L.length (L.map i64v) ∧ ∀ b, v.ownBlock = some b → n0 ≤ b ∧ b ≠ tb
theorem Told.fr {n0 tb : Nat} {L : List Int} {w w' : World} (h : Told n0 tb L w) {F : Nat → Prop} (f : Fr F w w') (h1 : ¬ F tb) (h2 : ∀ b, n0 ≤ b → b < w.heap.size → ¬ F b) : Told n0 tb L w' := by
  obtain ⟨v, a1, a2, a3⟩ := h.ex
  exact ⟨v, f.get a1 h1, Row.fr a2 f (fun b hb => h2 b (a3 b hb).1 (Row.lt a2 hb)), a3⟩
def asInts (L : List Nat) : List Int := L.map fun (x : Nat) => (x : Int)
theorem Tryd.infoInt : (Tryd.prog.info? 3).map (fun i => (i.zero, i.size, i.bytes)) = some (some (.int .i64 0), 1, 8) := by kernel_rfl
theorem i64_one {L : List Int} : ∀ u ∈ L.map i64v, u.oneCell' = true := by
  intro u hu
  obtain ⟨x, _, rfl⟩ := List.mem_map.1 hu
  rfl
/-- append of ints that lie in a new block. -/
theorem app_ints {W : World} {v : Value} {L M : List Int} (h : Row W 3 1 v L.length (L.map i64v)) (hb : L.length + M.length ≤ 1000000) {n : Nat} (hn : n = M.length) :
    ∃ a c W2, (Builtin.append_ #[22, 22] 22 #[v, .slice (some ⟨W.heap.size, 0, none⟩) n n]).run Tryd.prog (W.alloc (.cells (M.map i64v).toArray 3)) = .ok (.slice a (L.length + n) c) W2 ∧
      Row W2 3 1 (.slice a (L.length + n) c) (L ++ M).length ((L ++ M).map i64v) ∧ Fr (fun b => v.ownBlock = some b) W W2 ∧ (∀ b, (Value.slice a (L.length + n) c).ownBlock = some b → v.ownBlock = some b ∨ W.heap.size ≤ b) := by
  subst hn
  obtain ⟨i0, hi, hz0, hz1, hz2⟩ := info_parts Tryd.infoInt
  have f0 : Fr (fun _ => False) W (W.alloc (.cells (M.map i64v).toArray 3)) := Fr.alloc (Fr.refl _ _) _
  have hg : (W.alloc (.cells (M.map i64v).toArray 3)).heap[W.heap.size]? = some (.cells (M.map i64v).toArray 3 (0, 0)) := by rw [heap_alloc_get]; simp
  obtain ⟨v', w3, hrun, hR3, hf3, ho3⟩ := run_append_fr (P := Tryd.prog) _ 22 22 3 i0 _ 1 8 Tryd.underlying22 hi hz0 hz1 hz2 rfl (by decide) _ _ _ (Row.fr h f0 (fun _ _ h => h)) ⟨W.heap.size, 0, none⟩ M.length M.length (M.map i64v) (by simp)
    (by intro j u hu
        rw [addr_add, Nat.zero_add, cell_of hg j]
        simpa using hu)
    i64_one (by unfold maxLen; omega) (by omega)
  obtain ⟨a', c', rfl⟩ : ∃ a' c', v' = .slice a' (L.length + M.length) c' := by
    rcases hR3.2 with ⟨rfl, h0⟩ | ⟨g, cap, cur, rfl, _⟩
    · exact ⟨none, 0, by rw [h0]⟩
    · exact ⟨_, _, rfl⟩
  refine ⟨a', c', w3, hrun, by rw [List.map_append, List.length_append]; exact hR3, (f0.mono (fun _ _ h => h.elim)).trans hf3 (fun _ _ h => h), ?_⟩
  intro b hb
  rcases ho3 with h | h
  · rw [h] at hb; exact .inl hb
  · rw [h] at hb; simp at hb; right; omega
/-- After an append, stored in the list's cell. -/
theorem Told.app {n0 tb : Nat} {L M : List Int} {W W2 : World} {v v2 : Value} (h1 : W.heap[tb]? = some (.cells #[v] 22 (0, 0))) (h3 : ∀ b, v.ownBlock = some b → n0 ≤ b ∧ b ≠ tb) (hn : n0 ≤ W.heap.size)
    (r : Row W2 3 1 v2 (L ++ M).length ((L ++ M).map i64v)) (f : Fr (fun b => v.ownBlock = some b) W W2) (o : ∀ b, v2.ownBlock = some b → v.ownBlock = some b ∨ W.heap.size ≤ b) :
    W2.heap[tb]? = some (.cells #[v] 22 (0, 0)) ∧ Told n0 tb (L ++ M) (W2.setCell ⟨tb, 0, none⟩ v2) ∧ Fr (fun b => b = tb ∨ n0 ≤ b) W (W2.setCell ⟨tb, 0, none⟩ v2) := by
  have htl : tb < W.heap.size := World.block_lt_of_cell? _ _ ((cell_of h1 0).trans (show _ = some v from rfl))
  have h2 := f.get h1 (fun e => (h3 tb e).2 rfl)
  have hn2 : ∀ b, v2.ownBlock = some b → n0 ≤ b ∧ b ≠ tb := by
    intro b hb
    rcases o b hb with e | e
    · exact h3 b e
    · exact ⟨by omega, by omega⟩
  have fs : Fr (fun b => b = tb) W2 (W2.setCell ⟨tb, 0, none⟩ v2) := Fr.setCell (F := fun b => b = tb) (p := ⟨tb, 0, none⟩) (Fr.refl _ _) (fun _ => rfl) _
  refine ⟨h2, ⟨v2, ?_, Row.fr r fs (fun b hb e => (hn2 b hb).2 e), hn2⟩, (f.mono (fun b _ e => .inr (h3 b e).1)).trans fs (fun b _ e => .inl e)⟩
  exact setCell_blk (o := 0) h2 v2
theorem row_obj {w : World} {e : TypeId} {size n : Nat} {v : Value} {xs : List Value} (h : Row w e size v n xs) {b : Nat} (hb : v.ownBlock = some b) : ∃ c t z, w.heap[b]? = some (.cells c t z) := by
  rcases h.2 with ⟨rfl, _⟩ | ⟨g, cap, cur, rfl, _, k1, _⟩
  · simp [Value.ownBlock] at hb
  · simp [Value.ownBlock] at hb; subst hb; exact ⟨_, _, _, k1⟩
theorem Told.grown {n0 tb : Nat} {L : List Int} {A B' : World} {row : Option Nat} (h : Told n0 tb L A) (hg : A.grownBy B' row) (hr : ∀ r, row = some r → ∃ o : Obj, A.heap[r]? = some o ∧ o.isCells = false) : Told n0 tb L B' := by
  obtain ⟨v, a1, a2, a3⟩ := h.ex
  have f := grownBy.fr hg
  refine ⟨v, f.get a1 ?_, Row.fr a2 f ?_, a3⟩
  · intro e
    obtain ⟨o, h1, h2⟩ := hr tb e
    rw [a1] at h1; cases h1; simp [Obj.isCells] at h2
  · intro b hb e
    obtain ⟨o, h1, h2⟩ := hr b e
    obtain ⟨c, t, z, h3⟩ := row_obj a2 hb
    rw [h3] at h1; cases h1; simp [Obj.isCells] at h2
theorem keepsOthers_row {W W2 : World} {e : TypeId} {size n : Nat} {v : Value} {xs : List Value} (h : Row W e size v n xs) (f : Fr (fun b => v.ownBlock = some b) W W2) : KeepsOthers W W2 :=
  ⟨f.size, fun k o hk ho => f.get hk (fun e => by obtain ⟨c, t, z, h3⟩ := row_obj h e; rw [h3] at hk; cases hk; simp [Obj.isCells] at ho)⟩
end Go.Proofs.YticcjnfninhjlaaDoor.Bt
