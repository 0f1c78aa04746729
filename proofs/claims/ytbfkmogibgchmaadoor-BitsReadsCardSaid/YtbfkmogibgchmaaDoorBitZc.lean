/- The document's Copy and Same. No condition. -/
import Derived.Test.YtbfkmogibgchmaaDoorBitZb
namespace Go.Proofs.YtbfkmogibgchmaaDoor.Bt
open Go.RowKit
theorem ite_take {c : Prop} [Decidable c] {a b : Prop} (h : c) (ha : a) : if c then a else b := by rw [if_pos h]; exact ha
/-- A builtin append whose run is known, as one operation. -/
theorem wp_append_run {P : Program} {Q : Exit → Act → World → Prop} {K : Act → World → Prop} {o : Oper} {a : Act} {w : World} {s x : Operand} {t : TypeId}
    (ho : o.op = .call { callee := .builtin .append, args := #[s, x], argTypes := #[t, t] }) {v u r : Value} {w' : World} (hs : a.eval s = v) (hx : a.eval x = u)
    (hrun : (Builtin.append_ #[t, t] o.type #[v, u]).run P w = .ok r w') (h : K (a.put o.dst r) w') : o.wp P a w K Q := by
  unfold Oper.wp execOp
  simp only [ho, resolve, invoke, builtin, Sem.run_bind, Sem.run_pure, Result.andThen_ok, List.map_toArray, List.map_cons, List.map_nil, hs, hx, hrun]
  exact h
theorem bool_one {L : List Bool} : ∀ u ∈ L.map Value.bool, u.oneCell' = true := by
  intro u hu
  obtain ⟨x, _, rfl⟩ := List.mem_map.1 hu
  rfl
theorem rcopy_run {w : World} {q n c : Nat} {L : List Bool} (hR : Row w 4 1 (.slice (some ⟨q, 0, none⟩) n c) n (L.map Value.bool)) (hn : n ≤ 70000) :
    ∃ a c' W3, (Builtin.append_ #[57, 57] 57 #[.slice (some ⟨w.heap.size, 0, none⟩) 0 0, .slice (some ⟨q, 0, none⟩) n c]).run Tryd.prog (w.alloc (.cells #[] 4)) = .ok (.slice a n c') W3 ∧ Row W3 4 1 (.slice a n c') n (L.map Value.bool) ∧ Fr (fun b => b = w.heap.size) (w.alloc (.cells #[] 4)) W3 ∧ (∀ b, (Value.slice a n c').ownBlock = some b → w.heap.size ≤ b) ∧ ∃ g, a = some ⟨g, 0, none⟩ := by
  obtain ⟨i0, hi, hz0, hz1, hz2⟩ := info_parts Tryd.infoBool
  rcases hR.2 with ⟨e, _⟩ | ⟨g, cap, cur, e, hg, h1, h2, h3, h4, h5⟩
  · simp at e
  obtain ⟨e1, -, rfl⟩ := Value.slice.inj e
  obtain rfl : q = g := by simpa using e1
  have hfr : Fr (fun _ => False) w (w.alloc (.cells #[] 4)) := Fr.alloc (Fr.refl _ _) _
  have hR1 : Row (w.alloc (.cells #[] 4)) 4 1 (.slice (some ⟨w.heap.size, 0, none⟩) 0 0) 0 [] :=
    ⟨rfl, .inr ⟨w.heap.size, 0, #[], rfl, Nat.zero_le _, (by simp only [heap_alloc_get]; simp), Nat.le_refl _, Nat.zero_le _, rfl, rfl⟩⟩
  obtain ⟨v', w3, hrun, hR3, hf3, ho3⟩ := run_append_fr (P := Tryd.prog) _ 57 57 4 i0 _ 1 1 Tryd.underlying57 hi hz0 hz1 hz2 rfl (by decide) _ _ _ hR1 ⟨q, 0, none⟩ n c (L.map Value.bool) hR.1
    (by
      intro j u hu
      have hj : j < (L.map Value.bool).length := (List.getElem?_eq_some_iff.1 hu).1
      rw [hR.1] at hj
      have hb := hfr.get h1 (fun h => h)
      rw [← h5, List.getElem?_take, if_pos hj] at hu
      have := cell_of hb j
      rw [addr_add, Nat.zero_add, this]; simpa using hu)
    bool_one (by unfold maxLen; omega) (by omega)
  simp only [Nat.zero_add, List.nil_append] at hR3
  have key : ∃ a' c', v' = .slice a' n c' ∧ ∃ g, a' = some ⟨g, 0, none⟩ := by
    rcases hR3.2 with ⟨rfl, h0⟩ | ⟨g, cap, cur, rfl, _⟩
    · exfalso
      rcases ho3 with h | h <;> simp [Value.ownBlock] at h
    · exact ⟨_, _, rfl, g, rfl⟩
  obtain ⟨a', c', rfl, hga⟩ := key
  refine ⟨a', c', w3, hrun, hR3, hf3.mono (fun b _ e => by simp [Value.ownBlock] at e; exact e.symm), ?_, hga⟩
  intro b hb
  rcases ho3 with h | h
  · rw [h] at hb; simp [Value.ownBlock] at hb; omega
  · rw [h] at hb; simp at hb; omega
theorem rcopy_end {w W3 w2 : World} {th : Bool} {a : Option Addr} {c : Nat} {B : List Bool} (hr : Row W3 4 1 (.slice a B.length c) B.length (B.map Value.bool)) (hf : Fr (fun b => b = w.drew.heap.size) (w.drew.alloc (.cells #[] 4)) W3) (ho : ∀ b, (Value.slice a B.length c).ownBlock = some b → w.drew.heap.size ≤ b) (hs : B.length ≤ 65536)
    (e : w2 = W3.alloc (.cells #[.bool th, .slice a B.length c] 59)) : NewRef w w2 W3.heap.size (.slice a B.length c) th B := by
  have f1 : Fr (fun _ => False) w (w.drew.alloc (.cells #[] 4)) := Fr.alloc (Fr.drew (Fr.refl _ _)) _
  have f2 : Fr (fun _ => False) w W3 := ((f1.mono (G := fun b => w.heap.size ≤ b) (fun _ _ h => h.elim)).trans hf (fun b _ h => by subst h; exact Nat.le_refl _)).toNew
  have fa : Fr (fun _ => False) W3 w2 := by rw [e]; exact Fr.alloc (Fr.refl _ _) _
  refine ⟨⟨?_, Row.fr hr fa (fun _ _ h => h), hs⟩, f2.size, ?_, f2.trans fa (fun _ _ h => h)⟩
  · rw [e, heap_alloc_get]; simp
  · intro b hb
    have := Row.lt hr hb
    exact ⟨ho b hb, by omega⟩
set_option maxRecDepth 100000 in
set_option maxHeartbeats 4000000 in
theorem rcopy_ok {w : World} {rh q n c : Nat} {th : Bool} {B : List Bool} (h : RefAt w rh (.slice (some ⟨q, 0, none⟩) n c) th B) : Calls Tryd.prog 38 #[.pointer (some ⟨rh, 0, none⟩)] w fun e w' => ∃ rh' g' c', e = .returned (.pointer (some ⟨rh', 0, none⟩)) ∧ NewRef w w' rh' (.slice (some ⟨g', 0, none⟩) B.length c') th B := by
  have hnB : n = B.length := by obtain ⟨a, c, e⟩ := h.shape; exact (Value.slice.inj e).2.1
  subst hnB
  have d0 := h.c0; have d1 := h.c1
  have hsm := h.small
  obtain ⟨a3, c3, W3, hrun, r3, f3, o3, g3, rfl⟩ := rcopy_run (w := w.drew) (Row.fr h.row (Fr.drew (Fr.refl (fun _ => False) w)) (fun _ _ h => h)) (by omega)
  have hlt0 : ¬ w.heap.size < w.heap.size := Nat.lt_irrefl _
  have Hrun := Lib.hid hrun; have R3 := Lib.hid r3; have F9 := Lib.hid f3; have O3 := Lib.hid o3; have Hsm := Lib.hid hsm
  clear h hrun r3 f3 o3 hsm
  go_enter Tryd.func38, Tryd.ntmps38
  go_upto_region 1 with fail
  refine wp_region_held_drew (S := fun w' => w'.cell? ⟨rh, 0, none⟩ = some (.bool th) ∧ w'.cell? ⟨rh, 1, none⟩ = some (.slice (some ⟨q, 0, none⟩) B.length c)) (by kernel_rfl) (by exact ⟨d0, d1⟩) (fun hHeld => ?_)
  refine wpAnyH_take (i := 0) (v := ?_) rfl (by kernel_rfl) (by kernel_rfl) (by kernel_rfl) (fun _ _ _ h => h) (Or.inl ⟨by rfl, ?_⟩) (by assumption) ?_
  rotate_left
  · intro w' hSw; (try dsimp only at hSw); go_simp; try with_reducible rfl
  try simp only [Act.put, List.getElem_toArray, List.getElem_cons_zero, List.getElem_cons_succ, List.setIfInBounds_toArray, List.set_cons_zero, List.set_cons_succ]
  refine wpAnyH_take (i := 1) (v := ?_) rfl (by kernel_rfl) (by kernel_rfl) (by kernel_rfl) (fun _ _ _ h => h) (Or.inl ⟨by rfl, ?_⟩) (by assumption) ?_
  rotate_left
  · intro w' hSw; (try dsimp only at hSw); go_simp; try with_reducible rfl
  try simp only [Act.put, List.getElem_toArray, List.getElem_cons_zero, List.getElem_cons_succ, List.setIfInBounds_toArray, List.set_cons_zero, List.set_cons_succ]
  refine wpAnyH_take (i := 2) (v := ?_) rfl (by kernel_rfl) (by kernel_rfl) (by kernel_rfl) (fun _ _ _ h => h) (Or.inl ⟨by rfl, ?_⟩) (by assumption) ?_
  rotate_left
  · intro w' hSw; (try dsimp only at hSw); go_simp; try with_reducible rfl
  try simp only [Act.put, List.getElem_toArray, List.getElem_cons_zero, List.getElem_cons_succ, List.setIfInBounds_toArray, List.set_cons_zero, List.set_cons_succ]
  refine wpAnyH_take (i := 3) (v := ?_) rfl (by kernel_rfl) (by kernel_rfl) (by kernel_rfl) (fun _ _ _ h => h) (Or.inl ⟨by rfl, ?_⟩) (by assumption) ?_
  rotate_left
  · intro w' hSw; (try dsimp only at hSw); go_simp; try with_reducible rfl
  try simp only [Act.put, List.getElem_toArray, List.getElem_cons_zero, List.getElem_cons_succ, List.setIfInBounds_toArray, List.set_cons_zero, List.set_cons_succ]
  refine wpAnyH_take (i := 5) (v := ?_) rfl (by kernel_rfl) (by kernel_rfl) (by kernel_rfl) (fun _ _ _ h => h) (Or.inl ⟨by rfl, ?_⟩) (by assumption) ?_
  rotate_left
  · intro w' hSw; (try dsimp only at hSw); go_simp; try with_reducible rfl
  try simp only [Act.put, List.getElem_toArray, List.getElem_cons_zero, List.getElem_cons_succ, List.setIfInBounds_toArray, List.set_cons_zero, List.set_cons_succ]
  refine wpAnyH_take (i := 6) (v := ?_) rfl (by kernel_rfl) (by kernel_rfl) (by kernel_rfl) (fun _ _ _ h => h) (Or.inl ⟨by rfl, ?_⟩) (by assumption) ?_
  rotate_left
  · intro w' hSw; (try dsimp only at hSw); go_simp; try with_reducible rfl
  try simp only [Act.put, List.getElem_toArray, List.getElem_cons_zero, List.getElem_cons_succ, List.setIfInBounds_toArray, List.set_cons_zero, List.set_cons_succ]
  refine wpAnyH_take (i := 7) (v := ?_) rfl (by kernel_rfl) (by kernel_rfl) (by kernel_rfl) (fun _ _ _ h => h) (Or.inl ⟨by rfl, ?_⟩) (by assumption) ?_
  rotate_left
  · intro w' hSw; (try dsimp only at hSw); go_simp; try with_reducible rfl
  try simp only [Act.put, List.getElem_toArray, List.getElem_cons_zero, List.getElem_cons_succ, List.setIfInBounds_toArray, List.set_cons_zero, List.set_cons_succ]
  refine wpAnyH_take (i := 8) (v := ?_) rfl (by kernel_rfl) (by kernel_rfl) (by kernel_rfl) (fun _ _ _ h => h) (Or.inl ⟨by rfl, ?_⟩) (by assumption) ?_
  rotate_left
  · intro w' hSw; (try dsimp only at hSw); go_simp; try with_reducible rfl
  try simp only [Act.put, List.getElem_toArray, List.getElem_cons_zero, List.getElem_cons_succ, List.setIfInBounds_toArray, List.set_cons_zero, List.set_cons_succ]
  refine wpAnyH_ready (rs := [4]) (by kernel_rfl) (by simp) ?_
  refine AllReadyH.cons rfl (fun K hK => ?_) AllReadyH.nil
  go_simp
  skip
  try go_simp
  refine hK.out _ _ ?_ (fun hHeld => ?_)
  · (try dsimp only); first | exact hHeld | go_keep
  clear hK K
  try simp only [Act.put, List.getElem_toArray, List.getElem_cons_zero, List.getElem_cons_succ, List.setIfInBounds_toArray, List.set_cons_zero, List.set_cons_succ]
  refine wpAnyH_ready (rs := [9]) (by kernel_rfl) (by simp) ?_
  refine AllReadyH.cons rfl (fun K hK => ?_) AllReadyH.nil
  refine ite_take (by kernel_rfl) ?_
  refine wp_append_run rfl rfl rfl Hrun.out ?_
  refine hK.out _ _ ?_ (fun hHeld => ?_)
  · (try dsimp only); exact ⟨(F9.out.cell (World.block_lt_of_cell? _ _ hHeld.1) (fun e => hlt0 (e ▸ World.block_lt_of_cell? _ _ d0))).trans hHeld.1, (F9.out.cell (World.block_lt_of_cell? _ _ hHeld.2) (fun e => hlt0 (e ▸ World.block_lt_of_cell? _ _ d0))).trans hHeld.2⟩
  clear hK K
  try simp only [Act.put, List.getElem_toArray, List.getElem_cons_zero, List.getElem_cons_succ, List.setIfInBounds_toArray, List.set_cons_zero, List.set_cons_succ]
  refine wpAnyH_take (i := 10) (v := ?_) rfl (by kernel_rfl) (by kernel_rfl) (by kernel_rfl) (fun _ _ _ h => h) (Or.inl ⟨by rfl, ?_⟩) (by assumption) ?_
  rotate_left
  · intro w' hSw; (try dsimp only at hSw); go_simp; try with_reducible rfl
  try simp only [Act.put, List.getElem_toArray, List.getElem_cons_zero, List.getElem_cons_succ, List.setIfInBounds_toArray, List.set_cons_zero, List.set_cons_succ]
  refine wpAnyH_ready (rs := [11]) (by kernel_rfl) (by simp) ?_
  refine AllReadyH.cons rfl (fun K hK => ?_) AllReadyH.nil
  go_simp
  skip
  try go_simp
  refine hK.out _ _ ?_ (fun hHeld => ?_)
  · (try dsimp only); first | exact hHeld | go_keep
  clear hK K
  try simp only [Act.put, List.getElem_toArray, List.getElem_cons_zero, List.getElem_cons_succ, List.setIfInBounds_toArray, List.set_cons_zero, List.set_cons_succ]
  refine wpAnyH_take (i := 12) (v := ?_) rfl (by kernel_rfl) (by kernel_rfl) (by kernel_rfl) (fun _ _ _ h => h) (Or.inl ⟨by rfl, ?_⟩) (by assumption) ?_
  rotate_left
  · intro w' hSw; (try dsimp only at hSw); go_simp; try with_reducible rfl
  try simp only [Act.put, List.getElem_toArray, List.getElem_cons_zero, List.getElem_cons_succ, List.setIfInBounds_toArray, List.set_cons_zero, List.set_cons_succ]
  refine wpAnyH_done (by kernel_rfl) ?_ _
  go_wp2_with fail
  go_ret
  exact ⟨W3.heap.size, g3, c3, rfl, rcopy_end R3.out F9.out O3.out Hsm.out rfl⟩
end Go.Proofs.YtbfkmogibgchmaaDoor.Bt
