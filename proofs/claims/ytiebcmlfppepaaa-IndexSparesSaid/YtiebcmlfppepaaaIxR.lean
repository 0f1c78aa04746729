/- The index layer: told. No condition. -/
import Derived.Test.YtiebcmlfppepaaaIxQ
namespace Go.Proofs.Ytiebcmlfppepaaa.Ix
open Go.RowKit Go.Shelf
attribute [local go_sem] Oper.semAt_some
/-- A builtin append whose run is known, inside a fence. -/
theorem wpListIn_append_run {F : Fence} {n : Nat} {P : Program} {ops : Array Oper} {Q : Exit → Act → World → Prop} {rest : List Oper} {o : Oper} {a : Act} {w : World} (hgd : o.guard = none) (s x : Operand) (t : TypeId)
    (ho : o.op = .call { callee := .builtin .append, args := #[s, x], argTypes := #[t, t] }) {v u v' : Value} {w' : World} (hs : a.eval s = v) (hx : a.eval x = u)
    (hrun : (Builtin.append_ #[t, t] o.type #[v, u]).run P w = .ok v' w') (h : wpListIn F n P ops Q rest (a.put o.dst v') w') : wpListIn F n P ops Q (o :: rest) a w :=
  wpListIn_plain hgd fun K hK => by
    unfold Oper.wpIn
    refine ⟨?_, ?_⟩
    · simp [Oper.about, ho, resolve, Target.leads, Sem.run_pure]
    · rw [Oper.semAt_plain F _ _ (by rw [ho]; intro c hc'; cases hc')]
      simp [execOp, ho, resolve, invoke, builtin, hs, hx, hrun, Result.andThen]
      exact hK _ _ h
def idsOf (L : List (Nat × Int)) : List Nat := L.map (·.1)
def valsOf (L : List (Nat × Int)) : List Int := L.map (·.2)
/-- What told hands back. -/
def ToldOf (w : World) (L : List (Nat × Int)) (e : Ending) (w' : World) : Prop := ∃ va vb, e = .returned (.tuple #[va, vb, .bool true]) ∧ Row w' 38 1 va L.length ((idsOf L).map u64v) ∧ Row w' 3 1 vb L.length ((valsOf L).map i64v) ∧ (∀ b, va.ownBlock = some b → w.heap.size ≤ b) ∧ (∀ b, vb.ownBlock = some b → w.heap.size ≤ b) ∧ (∀ b, va.ownBlock = some b → vb.ownBlock ≠ some b) ∧ Fr (fun _ => False) w w'
/-- An id as 64 bits. -/
def idW (x : Nat) : Nat := (IntKind.u64.wrap (x : Int)).toNat
theorem idW_eq (x : Nat) : IntKind.u64.wrap (x : Int) = (idW x : Int) := by unfold idW; rw [IntKind.wrap_u64]; omega
theorem idW_small {x : Nat} (h : x < 4294967296) : idW x = x := by unfold idW; rw [IntKind.wrap_u64]; omega
def idsW (L : List (Nat × Int)) : List Nat := L.map fun x => idW x.1
theorem idsW_eq {L : List (Nat × Int)} (h : ∀ x ∈ L, x.1 < 4294967296) : idsW L = idsOf L := List.map_congr_left fun x hx => idW_small (h x hx)
set_option maxRecDepth 100000 in
set_option maxHeartbeats 4000000 in
theorem told_ok {w : World} {x : Value} {L : List (Nat × Int)} (hL : L.length ≤ 8192) (hids : ∀ y ∈ L, y.1 < 4294967296) (hA : ∀ w1, Fr (fun _ => False) w w1 → Calls Try.prog 10 #[x] w1 (AllOf w1 L)) :
    Calls Try.prog 9 #[x] w (ToldOf w L) := by
  have hro : Fence.wide.round = none := rfl
  have h1 : 1 ≤ 3 := by omega
  obtain ⟨W0, hW0⟩ : ∃ W0, W0 = (w.alloc (.cells #[.slice none 0 0] 26)).alloc (.cells #[.slice none 0 0] 27) := ⟨_, rfl⟩
  have f0 : Fr (fun _ => False) w W0 := by rw [hW0]; exact Fr.alloc (Fr.alloc (Fr.refl _ _) _) _
  have hsz : W0.heap.size = w.heap.size + 2 := by rw [hW0]; simp
  have ht0 : Told w.heap.size w.heap.size (w.heap.size + 1) [] [] W0 (.slice none 0 0) (.slice none 0 0) := by
    rw [hW0]
    exact ⟨by rw [heap_alloc_get, heap_alloc_get]; simp, by rw [heap_alloc_get]; simp, World.ownsRow_nil _ _ _ _, World.ownsRow_nil _ _ _ _, by omega, by simp [Value.ownBlock], by simp [Value.ownBlock], by simp [Value.ownBlock]⟩
  have HA := Lib.hid (hA W0 f0)
  have F0 := Lib.hid f0; have HT0 := Lib.hid ht0; have Hsz := Lib.hid hsz; have HL := Lib.hid hL; have Hids := Lib.hid hids
  clear hL hA f0 hsz ht0 hids
  refine (callsIn_wide (n := 3)).1 (callsIn_of_wp_marks Try.func9 rfl trivial ?_ hro)
  refine wpIn_wide.2 ?_
  simp only [Try.ntmps9, List.size_toArray, List.length_cons, List.length_nil, Nat.reduceAdd, Nat.reduceSub, Array.replicate_succ, Array.replicate_zero, List.push_toArray, List.append_toArray, List.nil_append, List.cons_append]
  go_wp2_with fail
  have hsa : (w.alloc (.cells #[.slice none 0 0] 26)).heap.size = w.heap.size + 1 := by simp
  try rw [hsa]
  rw [← hW0]
  refine HA.out.mono ?_
  rintro e W1 ⟨cb, sv, rfl, hs, hnew, hf1⟩
  have q := fun w => run_eql_func_nil (P := Try.prog) Try.underlying31 w (.func 33) #[] #[.pointer (some ⟨cb, 0, none⟩)]
  obtain ⟨n1, hn1⟩ : ∃ n1, n1 = W1.heap.size := ⟨_, rfl⟩
  have ht1 := HT0.out.fr hf1 (fun h => h) (fun h => h) (fun _ _ _ h => h)
  have ht1 : Told n1 w.heap.size (w.heap.size + 1) [] [] W1 (.slice none 0 0) (.slice none 0 0) := ⟨ht1.boxa, ht1.boxb, ht1.rowa, ht1.rowb, ht1.ne, by simp [Value.ownBlock], by simp [Value.ownBlock], by simp [Value.ownBlock]⟩
  have HS := Lib.hid hs; have HT1 := Lib.hid ht1; have Hn1 := Lib.hid hn1
  have Hq := Lib.hid (show ∀ b, seqP cb sv b → w.heap.size + 2 ≤ b ∧ b < n1 from fun b hb => ⟨by have := hnew b hb; have := Hsz.out; omega, by rw [hn1]; exact hs.lt b hb⟩)
  have F1 := Lib.hid (F0.out.trans hf1 (fun _ _ h => h))
  have Hsz1 := Lib.hid (show w.heap.size + 2 ≤ n1 by have := hf1.size; have := Hsz.out; omega)
  clear hs hnew hf1 hW0 hsa ht1 hn1
  go_wp2_with fail
  refine (wpIn_wide (n := 3)).1 ?_
  refine wpIn_rangeFunc_ownG hro h1 (gf := 33) (lb := #[.pointer (some ⟨cb, 0, none⟩)]) rfl trivial (enters_of Try.func33 (by kernel_rfl) rfl)
    (all_stops Fence.wide (3 - 1) trivial hro (by omega) HS.out (seqP cb sv) (fun _ h => h)) KeepsB.trans (keepsB_b (fun b hb => by have := Hq.out b hb; have := Hn1.out; omega)) (Below.refl _ _) (fun _ => rfl)
    (fun pre W => (∃ va vb, Told n1 w.heap.size (w.heap.size + 1) (idsW pre) (valsOf pre) W va vb) ∧ Fr (fun b => w.heap.size ≤ b) W1 W)
    (fun _ _ _ => False)
    ?own ?ownx ⟨⟨_, _, HT1.out⟩, Fr.refl _ _⟩ ?a1 ?assign ?body ?done ?stop
  case own =>
    rintro s A B' row ⟨⟨va, vb, hs⟩, hf⟩ hg hr
    have f := grownBy.fr hg
    refine ⟨⟨va, vb, hs.grown hg (fun r e => (hr r e).2)⟩, hf.trans f ?_⟩
    intro i hi e; have := (hr _ e).1; have := Hsz1.out; have := Hn1.out; omega
  case ownx =>
    intro c s A B' row hs _ _
    exact hs
  case assign =>
    intro l x W' K hK
    gi_wp2
    exact hK
  case body =>
    rintro l pre ⟨xi, xv⟩ W' ⟨⟨va, vb, ht⟩, hfr⟩ hlt
    have hnW : n1 ≤ W'.heap.size := by have := hfr.size; have := Hn1.out; omega
    have hpl : (idsW pre).length = pre.length := by simp [idsW]
    have hpl2 : (valsOf pre).length = pre.length := by simp [valsOf]
    obtain ⟨xw, hxw⟩ : ∃ xw, xw = idW xi := ⟨_, rfl⟩
    have hcv : IntKind.u64.wrap (xi : Int) = (xw : Int) := by rw [hxw]; exact idW_eq xi
    obtain ⟨a, c, W2, hrun, g1, g2, g3, g4⟩ := ht.appa hnW (by have := HL.out; omega) xw
    have hnW2 : n1 ≤ (W2.setCell ⟨w.heap.size, 0, none⟩ (.slice a ((idsW pre).length + 1) c)).heap.size := Nat.le_trans hnW g3.size
    obtain ⟨a3, c3, W3, hrun3, k1, k2, k3, k4⟩ := g2.appb hnW2 (by have := HL.out; omega) xv
    have e1 : idsW pre ++ [xw] = idsW (pre ++ [(xi, xv)]) := by rw [hxw]; simp [idsW]
    have e2 : valsOf pre ++ [xv] = valsOf (pre ++ [(xi, xv)]) := by simp [valsOf]
    rw [e1, e2] at k2
    have c4 := (cell_of ht.boxa 0).trans (show _ = some va from rfl)
    have c5 := (cell_of g1 0).trans (show _ = some va from rfl)
    have y5 := free_of g1 0
    have c6 := (cell_of g2.boxb 0).trans (show _ = some vb from rfl)
    have c7 := (cell_of k1 0).trans (show _ = some vb from rfl)
    have y7 := free_of k1 0
    have hk12 := (g4.trans k4)
    have hkb : KeepsB (seqP cb sv) W' (W3.setCell ⟨w.heap.size + 1, 0, none⟩ (.slice a3 ((valsOf pre).length + 1) c3)) := (KeepsB.of_fr g3 (fun b hb => by have := Hq.out b hb; omega)).trans (KeepsB.of_fr k3 (fun b hb => by have := Hq.out b hb; omega))
    have hfw := (hfr.trans g3 (fun b _ h => show w.heap.size ≤ b by have := Hsz1.out; omega)).trans k3 (fun b _ h => show w.heap.size ≤ b by have := Hsz1.out; omega)
    rw [World.size_setCell] at hrun3
    have Hrun := Lib.hid hrun; have Hrun3 := Lib.hid hrun3; have K2 := Lib.hid k2; have Hko := Lib.hid hk12; have Hkb := Lib.hid hkb; have Hfw := Lib.hid hfw
    clear hrun hrun3 g1 g2 g3 g4 k1 k2 k3 k4 ht hfr hk12 hkb hfw e1 e2 hlt hpl hpl2 hxw hnW hnW2
    gi_wp2_with (first | (gi_at_builtin; refine wpListIn_append_run rfl _ _ 26 rfl rfl rfl Hrun.out ?_) | (gi_at_builtin; refine wpListIn_append_run rfl _ _ 27 rfl rfl rfl Hrun3.out ?_))
    exact ⟨Hko.out.from _, Hkb.out, ⟨_, _, K2.out⟩, Hfw.out⟩
  case done =>
    rintro D ys W' hD rfl ⟨⟨va, vb, ht⟩, hfr⟩ hK
    have fD : Fr (fun b => b = D) W' (W'.putObj D (.deferred none)) := (grownBy.fr (grownBy_putObj' W' D (.deferred none))).mono (fun b _ e => by cases e; rfl)
    have hD1 : w.heap.size ≤ D := by have := Hsz1.out; have := Hn1.out; omega
    have nD : ∀ {c : Array Value} {t : TypeId} {z : Nat × Nat} {b : Nat}, W'.heap[b]? = some (.cells c t z) → ¬ b = D := by
      rintro c t z b hb rfl
      rw [hK] at hb; cases hb
    have ht2 := ht.fr fD (nD ht.boxa) (nD ht.boxb)
    have c4 := (cell_of ht.boxa 0).trans (show _ = some va from rfl)
    have c5 := (cell_of ht.boxb 0).trans (show _ = some vb from rfl)
    have hra : Row (W'.putObj D (.deferred none)) 38 1 va ys.length ((idsOf ys).map u64v) := by
      have := Row.fr ht.rowa fD (fun b hb e => by subst e; obtain ⟨c, t, z, h3⟩ := row_obj ht.rowa hb; exact nD h3 rfl)
      rw [idsW_eq Hids.out] at this
      simpa [idsOf] using this
    have hrb : Row (W'.putObj D (.deferred none)) 3 1 vb ys.length ((valsOf ys).map i64v) := by
      have := Row.fr ht.rowb fD (fun b hb e => by subst e; obtain ⟨c, t, z, h3⟩ := row_obj ht.rowb hb; exact nD h3 rfl)
      simpa [valsOf] using this
    have HRA := Lib.hid hra; have HRB := Lib.hid hrb; have HT := Lib.hid ht; have Hfr := Lib.hid hfr; have HK := Lib.hid hK; have HD1 := Lib.hid hD1; have FD := Lib.hid fD
    clear hra hrb ht hfr hK hD hD1 fD nD ht2
    go_upto_region 11 with fail
    go_still (by kernel_rfl)
    go_wp2_with fail
    refine ⟨by simp, .inl ⟨_, _, rfl, run_takeDeferred (w := W'.drew) HK.out, ?_⟩⟩
    refine ⟨.tuple #[va, vb, .bool true], ?_, va, vb, rfl, HRA.out, HRB.out, ?_, ?_, HT.out.apart, ?_⟩
    · simp [results, Try.results9, Try.f9, go_sem]
    · intro b hb; have := (HT.out.owna b hb).1; have := Hsz1.out; omega
    · intro b hb; have := (HT.out.ownb b hb).1; have := Hsz1.out; omega
    · have f := (F1.out.mono (fun _ _ h => h.elim)).trans (Hfr.out.trans (FD.out.mono (G := fun b => w.heap.size ≤ b) (fun b _ e => by subst e; exact HD1.out)) (fun _ _ h => h)) (fun b _ h => h)
      exact (Fr.toNew (G := fun _ => False) f).drew
  case stop =>
    rintro D c pre W' hD hpre h hK
    exact h.elim
end Go.Proofs.Ytiebcmlfppepaaa.Ix
