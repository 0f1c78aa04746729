/- All and Gaps hand back sequences; what told and pairs make of them. Condition: the table of math/bits. -/
import Derived.Test.YtkndhcimgcmihaaDoorBitM
import Derived.Test.YtkndhcimgcmihaaDoorMarks
namespace Go.Proofs.YtkndhcimgcmihaaDoor.Bt
open Go.RowKit Go.Shelf
attribute [local go_sem] Oper.semAt_some
/-- A builtin append whose run is known, inside a fence. -/
theorem wpListIn_append_run {F : Fence} {n : Nat} {P : Program} {ops : Array Oper} {Q : Exit → Act → World → Prop} {rest : List Oper} {o : Oper} {a : Act} {w : World} (hgd : o.guard = none) (s x : Operand) (t : TypeId)
    (ho : o.op = .call { callee := .builtin .append, args := #[s, x], argTypes := #[t, t] }) {v u v' : Value} {w' : World} (hs : a.eval s = v) (hx : a.eval x = u)
    (hrun : (Builtin.append_ #[t, t] o.type #[v, u]).run P w = .ok v' w') (h : wpListIn F n P ops Q rest (a.put o.dst v') w') : wpListIn F n P ops Q (o :: rest) a w :=
  wpListIn_plain hgd fun K hK => by
    unfold Oper.wpIn
    refine ⟨?_, ?_⟩
    · simp [Oper.about, ho, resolve, Target.leads, Sem.run_pure]
    · rw [Oper.semAt_plain F _ _ (by rw [ho]; intro c hc'; cases hc')]
      simp [execOp, ho, resolve, invoke, builtin, hs, hx, hrun, Result.andThen]
      exact hK _ _ h
/-- What All or Gaps hands back: its own copy. -/
structure NewSeq (w w' : World) (cb bh : Nat) (v : Value) (B : List Bool) : Prop where
  seq : Seq w' cb bh v B
  new : ∀ b, seqP cb bh v b → b = 0 ∨ w.heap.size ≤ b
  fr : Fr (fun _ => False) w w'
theorem NewSet.seq {w w1 : World} {bh : Nat} {v : Value} {B : List Bool} (h : NewSet w w1 bh v B) (hT : TabOk w) : NewSeq w (w1.alloc (.cells #[.pointer (some ⟨bh, 0, none⟩)] 24)) w1.heap.size bh v B := by
  have fa : Fr (fun _ => False) w1 (w1.alloc (.cells #[.pointer (some ⟨bh, 0, none⟩)] 24)) := Fr.alloc (Fr.refl _ _) _
  have f := h.fr.trans fa (fun _ _ h => h)
  refine ⟨⟨?_, h.at_.fr fa (fun h => h) (fun _ _ h => h), hT.fr f (fun h => h)⟩, ?_, f⟩
  · rw [heap_alloc_get]; simp
  · rintro b (hb | hb | hb | hb)
    · exact .inl hb
    · right; have := h.fr.size; omega
    · right; have := h.new; omega
    · right; exact (h.newv b hb).1
set_option maxRecDepth 100000 in
theorem all_ok {w : World} (hT : TabOk w) {bh : Nat} {v : Value} {B : List Bool} (h : SetAt w bh v B) : Calls Tryd.prog 13 #[.pointer (some ⟨bh, 0, none⟩)] w fun e w' => ∃ cb bh' v', e = .returned (.func (.func 27) #[] #[.pointer (some ⟨cb, 0, none⟩)]) ∧ NewSeq w w' cb bh' v' B := by
  have HT := Lib.hid hT
  have HC := Lib.hid (copy_ok h)
  clear h hT
  go_enter Tryd.func13, Tryd.ntmps13
  go_wp2_with fail
  refine HC.out.mono ?_
  rintro e w1 ⟨bh', v', rfl, hn⟩
  have Hn := Lib.hid hn
  clear hn
  go_wp2_with fail
  go_ret
  exact ⟨w1.heap.size, bh', v', rfl, Hn.out.seq HT.out⟩
set_option maxRecDepth 100000 in
theorem gaps_ok {w : World} (hT : TabOk w) {bh : Nat} {v : Value} {B : List Bool} (h : SetAt w bh v B) : Calls Tryd.prog 14 #[.pointer (some ⟨bh, 0, none⟩)] w fun e w' => ∃ cb bh' v', e = .returned (.func (.func 28) #[] #[.pointer (some ⟨cb, 0, none⟩)]) ∧ NewSeq w w' cb bh' v' B := by
  have HT := Lib.hid hT
  have HC := Lib.hid (copy_ok h)
  clear h hT
  go_enter Tryd.func14, Tryd.ntmps14
  go_wp2_with fail
  refine HC.out.mono ?_
  rintro e w1 ⟨bh', v', rfl, hn⟩
  have Hn := Lib.hid hn
  clear hn
  go_wp2_with fail
  go_ret
  exact ⟨w1.heap.size, bh', v', rfl, Hn.out.seq HT.out⟩
/-- A list under way, in a cell of its own. -/
structure Told (n0 tb : Nat) (L : List Int) (W : World) : Prop where
  ex : ∃ v, W.heap[tb]? = some (.cells #[v] 22 (0, 0)) ∧ Row W 3 1 v L.length (L.map i64v) ∧ ∀ b, v.ownBlock = some b → n0 ≤ b ∧ b ≠ tb
theorem Told.fr {n0 tb : Nat} {L : List Int} {w w' : World} (h : Told n0 tb L w) {F : Nat → Prop} (f : Fr F w w') (h1 : ¬ F tb) (h2 : ∀ b, n0 ≤ b → b < w.heap.size → ¬ F b) : Told n0 tb L w' := by
  obtain ⟨v, a1, a2, a3⟩ := h.ex
  exact ⟨v, f.get a1 h1, Row.fr a2 f (fun b hb => h2 b (a3 b hb).1 (Row.lt a2 hb)), a3⟩
def asInts (L : List Nat) : List Int := L.map fun (x : Nat) => (x : Int)
theorem Tryd.infoInt : (Tryd.prog.info? 3).map (fun i => (i.zero, i.size, i.bytes)) = some (some (.int .i64 0), 1, 8) := by kernel_rfl
theorem i64_one {L : List Int} : ∀ u ∈ L.map i64v, u.oneCell' = true := by
  intro u hu
  obtain ⟨x, _, rfl⟩ := List.mem_map.1 hu
  rfl
/-- append of ints that lie in a new block. -/
theorem app_ints {W : World} {v : Value} {L M : List Int} (h : Row W 3 1 v L.length (L.map i64v)) (hb : L.length + M.length ≤ 1000000) {n : Nat} (hn : n = M.length) :
    ∃ a c W2, (Builtin.append_ #[22, 22] 22 #[v, .slice (some ⟨W.heap.size, 0, none⟩) n n]).run Tryd.prog (W.alloc (.cells (M.map i64v).toArray 3)) = .ok (.slice a (L.length + n) c) W2 ∧
      Row W2 3 1 (.slice a (L.length + n) c) (L ++ M).length ((L ++ M).map i64v) ∧ Fr (fun b => v.ownBlock = some b) W W2 ∧ (∀ b, (Value.slice a (L.length + n) c).ownBlock = some b → v.ownBlock = some b ∨ W.heap.size ≤ b) := by
  subst hn
  obtain ⟨i0, hi, hz0, hz1, hz2⟩ := info_parts Tryd.infoInt
  have f0 : Fr (fun _ => False) W (W.alloc (.cells (M.map i64v).toArray 3)) := Fr.alloc (Fr.refl _ _) _
  have hg : (W.alloc (.cells (M.map i64v).toArray 3)).heap[W.heap.size]? = some (.cells (M.map i64v).toArray 3 (0, 0)) := by rw [heap_alloc_get]; simp
  obtain ⟨v', w3, hrun, hR3, hf3, ho3⟩ := run_append_fr (P := Tryd.prog) _ 22 22 3 i0 _ 1 8 Tryd.underlying22 hi hz0 hz1 hz2 rfl (by decide) _ _ _ (Row.fr h f0 (fun _ _ h => h)) ⟨W.heap.size, 0, none⟩ M.length M.length (M.map i64v) (by simp)
    (by intro j u hu
        rw [addr_add, Nat.zero_add, cell_of hg j]
        simpa using hu)
    i64_one (by unfold maxLen; omega) (by omega)
  obtain ⟨a', c', rfl⟩ : ∃ a' c', v' = .slice a' (L.length + M.length) c' := by
    rcases hR3.2 with ⟨rfl, h0⟩ | ⟨g, cap, cur, rfl, _⟩
    · exact ⟨none, 0, by rw [h0]⟩
    · exact ⟨_, _, rfl⟩
  refine ⟨a', c', w3, hrun, by rw [List.map_append, List.length_append]; exact hR3, (f0.mono (fun _ _ h => h.elim)).trans hf3 (fun _ _ h => h), ?_⟩
  intro b hb
  rcases ho3 with h | h
  · rw [h] at hb; exact .inl hb
  · rw [h] at hb; simp at hb; right; omega
/-- After an append, stored in the list's cell. -/
theorem Told.app {n0 tb : Nat} {L M : List Int} {W W2 : World} {v v2 : Value} (h1 : W.heap[tb]? = some (.cells #[v] 22 (0, 0))) (h3 : ∀ b, v.ownBlock = some b → n0 ≤ b ∧ b ≠ tb) (hn : n0 ≤ W.heap.size)
    (r : Row W2 3 1 v2 (L ++ M).length ((L ++ M).map i64v)) (f : Fr (fun b => v.ownBlock = some b) W W2) (o : ∀ b, v2.ownBlock = some b → v.ownBlock = some b ∨ W.heap.size ≤ b) :
    W2.heap[tb]? = some (.cells #[v] 22 (0, 0)) ∧ Told n0 tb (L ++ M) (W2.setCell ⟨tb, 0, none⟩ v2) ∧ Fr (fun b => b = tb ∨ n0 ≤ b) W (W2.setCell ⟨tb, 0, none⟩ v2) := by
  have htl : tb < W.heap.size := World.block_lt_of_cell? _ _ ((cell_of h1 0).trans (show _ = some v from rfl))
  have h2 := f.get h1 (fun e => (h3 tb e).2 rfl)
  have hn2 : ∀ b, v2.ownBlock = some b → n0 ≤ b ∧ b ≠ tb := by
    intro b hb
    rcases o b hb with e | e
    · exact h3 b e
    · exact ⟨by omega, by omega⟩
  have fs : Fr (fun b => b = tb) W2 (W2.setCell ⟨tb, 0, none⟩ v2) := Fr.setCell (F := fun b => b = tb) (p := ⟨tb, 0, none⟩) (Fr.refl _ _) (fun _ => rfl) _
  refine ⟨h2, ⟨v2, ?_, Row.fr r fs (fun b hb e => (hn2 b hb).2 e), hn2⟩, (f.mono (fun b _ e => .inr (h3 b e).1)).trans fs (fun b _ e => .inl e)⟩
  exact setCell_blk (o := 0) h2 v2
theorem row_obj {w : World} {e : TypeId} {size n : Nat} {v : Value} {xs : List Value} (h : Row w e size v n xs) {b : Nat} (hb : v.ownBlock = some b) : ∃ c t z, w.heap[b]? = some (.cells c t z) := by
  rcases h.2 with ⟨rfl, _⟩ | ⟨g, cap, cur, rfl, _, k1, _⟩
  · simp [Value.ownBlock] at hb
  · simp [Value.ownBlock] at hb; subst hb; exact ⟨_, _, _, k1⟩
theorem Told.grown {n0 tb : Nat} {L : List Int} {A B' : World} {row : Option Nat} (h : Told n0 tb L A) (hg : A.grownBy B' row) (hr : ∀ r, row = some r → ∃ o : Obj, A.heap[r]? = some o ∧ o.isCells = false) : Told n0 tb L B' := by
  obtain ⟨v, a1, a2, a3⟩ := h.ex
  have f := grownBy.fr hg
  refine ⟨v, f.get a1 ?_, Row.fr a2 f ?_, a3⟩
  · intro e
    obtain ⟨o, h1, h2⟩ := hr tb e
    rw [a1] at h1; cases h1; simp [Obj.isCells] at h2
  · intro b hb e
    obtain ⟨o, h1, h2⟩ := hr b e
    obtain ⟨c, t, z, h3⟩ := row_obj a2 hb
    rw [h3] at h1; cases h1; simp [Obj.isCells] at h2
theorem keepsOthers_row {W W2 : World} {e : TypeId} {size n : Nat} {v : Value} {xs : List Value} (h : Row W e size v n xs) (f : Fr (fun b => v.ownBlock = some b) W W2) : KeepsOthers W W2 :=
  ⟨f.size, fun k o hk ho => f.get hk (fun e => by obtain ⟨c, t, z, h3⟩ := row_obj h e; rw [h3] at hk; cases hk; simp [Obj.isCells] at ho)⟩
set_option maxRecDepth 100000 in
set_option maxHeartbeats 4000000 in
theorem told_ok {w : World} {cb bh : Nat} {v : Value} {B : List Bool} (hs : Seq w cb bh v B) :
    Calls Tryd.prog 16 #[.func (.func 27) #[] #[.pointer (some ⟨cb, 0, none⟩)]] w fun e w' => ∃ sv, e = .returned (.tuple #[sv, .bool true]) ∧ Row w' 3 1 sv (asInts (allL B)).length ((asInts (allL B)).map i64v) ∧ (∀ b, sv.ownBlock = some b → w.heap.size ≤ b) ∧ Fr (fun _ => False) w w' := by
  have hro : Fence.wide.round = none := rfl
  have h1 : 1 ≤ 3 := by omega
  have f0 : Fr (fun _ => False) w (w.alloc (.cells #[.slice none 0 0] 22)) := Fr.alloc (Fr.refl _ _) _
  have ht0 : Told w.heap.size w.heap.size [] (w.alloc (.cells #[.slice none 0 0] 22)) := by
    refine ⟨.slice none 0 0, by rw [heap_alloc_get]; simp, World.ownsRow_nil _ _ _ _, by simp [Value.ownBlock]⟩
  have hs1 := hs.fr f0 (fun _ _ h => h)
  have q := fun w => run_eql_func_nil (P := Tryd.prog) Tryd.underlying38 w (.func 27) #[] #[.pointer (some ⟨cb, 0, none⟩)]
  have hsz : (w.alloc (.cells #[.slice none 0 0] 22)).heap.size = w.heap.size + 1 := by simp
  generalize hW : (w.alloc (.cells #[.slice none 0 0] 22)) = W1 at f0 ht0 hs1 hsz
  have HW := Lib.hid hW; have Hsz := Lib.hid hsz; have F0 := Lib.hid f0; have HT0 := Lib.hid ht0; have HS1 := Lib.hid hs1
  have hn1 : ∀ b, seqP cb bh v b → b < w.heap.size := by
    intro b hb
    rcases hb with hb | hb | hb | hb
    · subst hb; exact hs.tab.lt
    · subst hb; exact World.block_lt_of_cell? _ _ hs.cb0
    · subst hb; exact hs.set.lt
    · exact Row.lt hs.set.row hb
  have Hn1 := Lib.hid hn1
  have hsmall : (allL B).length ≤ 70000 := by have := (allL_cnt B); have h2 : cnt B ≤ B.length := List.length_filter_le _ _; have := hs.set.small; omega
  have Hsm := Lib.hid hsmall
  clear hs hsz f0 ht0 hs1 hn1 hsmall
  refine (callsIn_wide (n := 3)).1 (callsIn_of_wp_marks Tryd.func16 rfl trivial ?_ hro)
  refine wpIn_wide.2 ?_
  simp only [Tryd.ntmps16, List.size_toArray, List.length_cons, List.length_nil, Nat.reduceAdd, Nat.reduceSub, Array.replicate_succ, Array.replicate_zero, List.push_toArray, List.append_toArray, List.nil_append, List.cons_append]
  go_wp2_with fail
  clear hW
  refine (wpIn_wide (n := 3)).1 ?_
  refine wpIn_rangeFunc_ownG hro h1 (gf := 27) (lb := #[.pointer (some ⟨cb, 0, none⟩)]) rfl trivial (enters_of Tryd.func27 (by kernel_rfl) rfl)
    (all_stops (3 - 1) (by omega) HS1.out) KeepsB.trans (keepsB_b (fun b hb => by have := Hn1.out b hb; have := Hsz.out; omega)) (Below.refl _ _) (fun _ => rfl)
    (fun pre W => Told w.heap.size w.heap.size (asInts pre) W ∧ Fr (fun b => w.heap.size ≤ b) W1 W)
    (fun _ _ _ => False)
    ?own ?ownx ⟨HT0.out, Fr.refl _ _⟩ ?a1 ?assign ?body ?done ?stop
  case own =>
    intro s A B' row hs hg hr
    have f := grownBy.fr hg
    refine ⟨hs.1.grown hg (fun r e => (hr r e).2), hs.2.trans f ?_⟩
    intro i hi e; have := (hr _ e).1; have := Hsz.out; omega
  case ownx =>
    intro c s A B' row hs _ _
    exact hs
  case assign =>
    intro l x W' K hK
    gi_wp2
    exact hK
  case body =>
    rintro l pre x W' ⟨ht, hfr⟩ hlt
    obtain ⟨tv, k1, k2, k3⟩ := ht.ex
    have hwW : w.heap.size ≤ W'.heap.size := by have := hfr.size; have := Hsz.out; omega
    obtain ⟨a, c, W2, hrun, r2, f2, o2⟩ := app_ints (M := [(x : Int)]) k2 (by have := Hsm.out; simp [asInts]; omega) (n := 1) rfl
    have hrun : (Builtin.append_ #[22, 22] 22 #[tv, .slice (some ⟨W'.heap.size, 0, none⟩) 1 1]).run Tryd.prog (W'.alloc (.cells #[.int .i64 x] 3)) = .ok (.slice a ((asInts pre).length + 1) c) W2 := hrun
    obtain ⟨g1, g2, g3⟩ := Told.app (n0 := w.heap.size) k1 k3 hwW r2 f2 o2
    have e1 : asInts pre ++ [(x : Int)] = asInts (pre ++ [x]) := by simp [asInts]
    rw [e1] at g2
    have c4 := (cell_of k1 0).trans (show _ = some tv from rfl)
    have c5 := (cell_of g1 0).trans (show _ = some tv from rfl)
    have y5 := free_of g1 0
    have hko := (keepsOthers_row k2 f2).trans (KeepsOthers.setCell W2 ⟨w.heap.size, 0, none⟩ (.slice a ((asInts pre).length + 1) c))
    have hkb : KeepsB (seqP cb bh v) W' (W2.setCell ⟨w.heap.size, 0, none⟩ (.slice a ((asInts pre).length + 1) c)) := KeepsB.of_fr g3 (fun b hb => by have := Hn1.out b hb; omega)
    have Hrun := Lib.hid hrun; have G2 := Lib.hid g2; have G3 := Lib.hid g3; have Hko := Lib.hid hko; have Hkb := Lib.hid hkb; have Hfr := Lib.hid hfr
    clear hrun g1 g2 g3 k1 k2 k3 r2 f2 o2 ht hfr hko hkb e1 hlt
    gi_wp2_with (gi_at_builtin; refine wpListIn_append_run rfl _ _ _ rfl rfl rfl Hrun.out ?_)
    exact ⟨Hko.out.from _, Hkb.out, G2.out, Hfr.out.trans G3.out (fun b _ h => by rcases h with h | h <;> omega)⟩
  case done =>
    rintro D ys W' hD rfl ⟨ht, hfr⟩ hK
    obtain ⟨tv, k1, k2, k3⟩ := ht.ex
    have c4 := (cell_of k1 0).trans (show _ = some tv from rfl)
    have fD : Fr (fun b => b = D) W' (W'.putObj D (.deferred none)) := (grownBy.fr (grownBy_putObj' W' D (.deferred none))).mono (fun b _ e => by cases e; rfl)
    have hD1 : w.heap.size ≤ D := by have := Hsz.out; omega
    have hrow : Row (W'.putObj D (.deferred none)) 3 1 tv (asInts (allL B)).length ((asInts (allL B)).map i64v) := Row.fr k2 fD (fun b hb e => by
      subst e; obtain ⟨c, t, z, h3⟩ := row_obj k2 hb; rw [hK] at h3; cases h3)
    have Hrow := Lib.hid hrow; have Hfr := Lib.hid hfr; have HK := Lib.hid hK; have HD1 := Lib.hid hD1; have K3 := Lib.hid k3; have FD := Lib.hid fD
    clear hrow hfr hK hD hD1 k1 k2 k3 fD ht
    go_wp2_with fail
    refine ⟨by simp, .inl ⟨_, _, rfl, run_takeDeferred HK.out, ?_⟩⟩
    refine ⟨.tuple #[tv, .bool true], ?_, tv, rfl, Hrow.out, fun b hb => (K3.out b hb).1, ?_⟩
    · simp [results, Tryd.f16, go_sem]
    · refine Fr.toNew ((F0.out.mono (fun _ _ h => h.elim)).trans (Hfr.out.trans (FD.out.mono (G := fun b => w.heap.size ≤ b) (fun b _ e => by subst e; exact HD1.out)) (fun _ _ h => h)) (fun b _ h => h))
  case stop =>
    rintro D c pre W' hD hpre h hK
    exact h.elim
end Go.Proofs.YtkndhcimgcmihaaDoor.Bt
