/- A list of waiting parties: All; told. No condition. -/
import Derived.Test.YtjfnaflbhmeokaaWtV
import Derived.Test.YtjfnaflbhmeokaaElsS
import Derived.Test.YtjfnaflbhmeokaaWsLay
namespace Go.Proofs.Ytjfnaflbhmeokaa.Wt
open Go.Shelf Go.RowKit Go.Lib Go.Sort
attribute [local go_sem] Oper.semAt_some
/-- A builtin append whose run is known, inside a fence. -/
theorem wpListIn_append_run {F : Fence} {n : Nat} {P : Program} {ops : Array Oper} {Q : Exit → Act → World → Prop} {rest : List Oper} {o : Oper} {a : Act} {w : World} (hgd : o.guard = none) (s x : Operand) (t : TypeId)
    (ho : o.op = .call { callee := .builtin .append, args := #[s, x], argTypes := #[t, t] }) {v u v' : Value} {w' : World} (hs : a.eval s = v) (hx : a.eval x = u)
    (hrun : (Builtin.append_ #[t, t] o.type #[v, u]).run P w = .ok v' w') (h : wpListIn F n P ops Q rest (a.put o.dst v') w') : wpListIn F n P ops Q (o :: rest) a w :=
  wpListIn_plain hgd fun K hK => by
    unfold Oper.wpIn
    refine ⟨?_, ?_⟩
    · simp [Oper.about, ho, resolve, Target.leads, Sem.run_pure]
    · rw [Oper.semAt_plain F _ _ (by rw [ho]; intro c hc'; cases hc')]
      simp [execOp, ho, resolve, invoke, builtin, hs, hx, hrun, Result.andThen]
      exact hK _ _ h
theorem ordW_swo : SWO (ltOf fun x y : { x : Int // True } => ordW x.1 y.1) where
  irrefl x := by have := ltW_irr x.1; unfold ltW at this; exact this
  trans x y z h1 h2 := ltW_trans (x := x.1) (y := y.1) (z := z.1) h1 h2
  ntrans x y z h1 h2 := by
    have h1' : ltW x.1 y.1 = false := h1
    have h2' : ltW y.1 z.1 = false := h2
    show ltW x.1 z.1 = false
    rw [ltW_false] at *; omega
theorem enters_order : ∀ args w, (callFunc 32 args).run Try.prog w = .ok (.enter 32 args) w := enters_of Try.func32 (by kernel_rfl) rfl
theorem sortW_ok {w : World} {v : Value} {L : List Int} (h : Wts w v L) (hl : Lone L) (hn : L.length ≤ 70000) :
    Calls Try.prog 114 #[v, .func (.func 32) #[] #[]] w fun e w' => e = .returned (.tuple #[]) ∧ ∃ S, S.Perm L ∧ Ord S ∧ Fr (fun b => v.ownBlock = some b) w w' ∧ Wts w' v S := by
  rcases id h.2 with ⟨e0, e1⟩ | ⟨b, cap, cur, e0, -, hb, -⟩
  · obtain rfl : L = [] := List.eq_nil_of_length_eq_zero e1
    subst e0
    have hs := AnyF.slices_SortFunc_none Try.sortWait none 0 (.func (.func 32) #[] #[]) w
    change Calls Try.prog 114 _ w _ at hs
    refine hs.mono ?_
    rintro e w' ⟨rfl, rfl⟩
    exact ⟨rfl, [], List.Perm.refl _, List.Pairwise.nil, Fr.refl _ _, World.ownsRow_nil _ _ _ _⟩
  · subst e0
    have hq := els_sort encW_len Try.sortWait Try.isAgg32 Try.sizeOf32 encW_one (by decide) (fun _ => True) 0 trivial ordW ordW_swo 32 #[] rfl enters_order (fun x y _ _ W _ => order_ok x y W) h (fun _ _ => trivial) (by omega)
    refine Calls.mono hq ?_
    rintro e w' ⟨rfl, S, hp, hs, hf, hr⟩
    refine ⟨rfl, S, hp, ?_, hf.mono (fun k _ e => by rw [e]; rfl), ?_⟩
    · have hl2 := lone_perm hp.symm hl
      unfold Lone at hl2
      unfold Ord
      rw [List.pairwise_iff_getElem] at hs hl2 ⊢
      intro i j hi hj hij
      refine (ltW_total (hl2 i j hi hj hij)).resolve_right fun e => hs i j hi hj hij ?_
      unfold ltW at e; exact of_decide_eq_true e
    · exact hr
/-- What a list's All hands back. -/
def VAllOf (w : World) (S : List Int) (e : Ending) (w' : World) : Prop := ∃ cb sv, e = .returned (valsV cb) ∧ VSeq w' cb sv S ∧ (∀ b, seqP cb sv b → w.heap.size ≤ b) ∧ Fr (fun _ => False) w w'
theorem putObj_fr (W : World) (D : Nat) (o : Obj) : Fr (fun b => b = D) W (W.putObj D o) := (grownBy.fr (grownBy_putObj' W D o)).mono (fun b _ e => by cases e; rfl)
section
variable {G : Nat → Prop} {bl : Nat} {L : List It} {S : List Int} {next : Int} {f : Int → Option Int} {w : World}
set_option maxRecDepth 100000 in
set_option maxHeartbeats 4000000 in
theorem wall_ok (h : StAt G bl S next w) (hx : next ≤ 1000000000) : Calls Try.prog 81 #[.pointer (some ⟨bl, 0, none⟩)] w (VAllOf w S) := by
  have hro : Fence.wide.round = none := rfl
  have h13 : 1 ≤ 3 := by omega
  obtain ⟨L, f, q1, q2, q3, q4⟩ := id h
  obtain ⟨bh, bm, GH, g1, g2, g3, g4, g5⟩ := id q1.ex
  obtain ⟨W0, hW0⟩ : ∃ W0, W0 = w.alloc (.cells #[.slice none 0 0] 26) := ⟨_, rfl⟩
  have f0 : Fr (fun _ => False) w W0 := by rw [hW0]; exact Fr.alloc (Fr.refl _ _) _
  have hsz : W0.heap.size = w.heap.size + 1 := by rw [hW0]; simp
  have ht0 : Told w.heap.size w.heap.size [] W0 (.slice none 0 0) := by
    rw [hW0]
    exact ⟨heap_alloc_at _ _, World.ownsRow_nil _ _ _ _, by simp [Value.ownBlock]⟩
  have c0 := (cell_of (f0.get g1 (fun h => h)) 0).trans (show _ = some (Value.pointer (some ⟨bh, 0, none⟩)) from rfl)
  have HM := Lib.hid (made_ok (f0.get g1 (fun h => h)))
  have HA := Lib.hid (all_ok less_ok (HpW.fr g2 f0 (fun _ _ h => h)) hx)
  have hln : L.length ≤ 1024 := q1.few
  have F0 := Lib.hid f0; have HT0 := Lib.hid ht0; have Hsz := Lib.hid hsz; have Q1 := Lib.hid q1; have Q3 := Lib.hid q3; have Q4 := Lib.hid q4; have Hln := Lib.hid hln; have HW0 := Lib.hid hW0
  clear h q1 q2 q3 q4 g1 g2 g3 g4 g5 f0 hsz ht0 hx hln
  refine (callsIn_wide (n := 3)).1 (callsIn_of_wp_marks Try.func81 rfl trivial ?_ hro)
  refine wpIn_wide.2 ?_
  simp only [Try.ntmps81, List.size_toArray, List.length_cons, List.length_nil, Nat.reduceAdd, Nat.reduceSub, Array.replicate_succ, Array.replicate_zero, List.push_toArray, List.append_toArray, List.nil_append, List.cons_append]
  go_wp2_with fail
  rw [← hW0]
  clear hW0
  refine HM.out.mono ?_
  rintro e W1 ⟨rfl, rfl⟩
  go_wp2_with fail
  refine HA.out.mono ?_
  rintro e W1 ⟨cb, sv, L', rfl, hBH, hs, hnew, hf1⟩
  obtain ⟨n1, hn1⟩ : ∃ n1, n1 = W1.heap.size := ⟨_, rfl⟩
  have ht1 := HT0.out.fr hf1 (fun h => h) (fun _ _ _ h => h)
  have ht1 : Told n1 w.heap.size [] W1 (.slice none 0 0) := ⟨ht1.box, ht1.row, by simp [Value.ownBlock]⟩
  have HS := Lib.hid hs; have HT1 := Lib.hid ht1; have Hn1 := Lib.hid hn1; have HBH := Lib.hid hBH
  have Hq := Lib.hid (show ∀ b, seqP cb sv b → w.heap.size + 1 ≤ b ∧ b < n1 from fun b hb => ⟨by have := hnew b hb; have := Hsz.out; omega, by rw [hn1]; exact hs.lt b hb⟩)
  have F1 := Lib.hid (F0.out.trans hf1 (fun _ _ h => h))
  have Hsz1 := Lib.hid (show w.heap.size + 1 ≤ n1 by have := hf1.size; have := Hsz.out; omega)
  have HL' := Lib.hid (show L'.length ≤ 1024 by have := hBH.1.length_eq; have := Hln.out; omega)
  clear hs hnew hf1 ht1 hn1 hBH c0
  go_wp2_with fail
  refine (wpIn_wide (n := 3)).1 ?_
  refine range_boxed hro h13 (gf := 112) (lb := #[.pointer (some ⟨cb, 0, none⟩)]) rfl trivial (enters_of Try.func112 (by kernel_rfl) rfl)
    (all_stops Fence.wide (3 - 1) trivial hro (by omega) HS.out (seqP cb sv) (fun _ h => h)) (fun b hb => by have := Hq.out b hb; have := Hn1.out; omega) (Below.refl _ _) (fun _ => rfl)
    (fun pre W => (∃ v, Told n1 w.heap.size (pre.map Prod.fst) W v) ∧ Fr (fun b => w.heap.size ≤ b) W1 W)
    (fun _ _ _ => False)
    ?own ?ownx ⟨⟨_, HT1.out⟩, Fr.refl _ _⟩ (fun _ _ h => h.2.size) (fun x => #[.int .u32 (wW x.1), .int .i64 (wS x.1), .int .i64 (wT x.1), .int .i64 (wC x.1)]) 32 ?a1 ?assign ?body ?done ?stop
  case own =>
    rintro s A B' row ⟨⟨v, hs⟩, hf⟩ hg hr
    have f := grownBy.fr hg
    refine ⟨⟨v, hs.grown hg (fun r e => (hr r e).2)⟩, hf.trans f ?_⟩
    intro i hi e; have := (hr _ e).1; have := Hsz1.out; have := Hn1.out; omega
  case ownx =>
    intro c s A B' row hs _ _
    exact hs
  case assign =>
    intro l x W' K hK
    obtain ⟨b, hb⟩ : ∃ b, b = W'.heap.size := ⟨_, rfl⟩
    simp only [encS]
    gi_wp2
    rw [← hb]
    exact hK b hb
  case body =>
    rintro l pre ⟨x, xh⟩ b W' hbw hbx ⟨⟨v, ht⟩, hfr⟩ hlt
    have hnW : n1 ≤ W'.heap.size := by have := hfr.size; have := Hn1.out; omega
    have hpl : (pre.map Prod.fst).length = pre.length := by simp
    obtain ⟨a, c, W2, hrun, g1, g2, g3, g4⟩ := ht.app hnW (by have := HL'.out; omega) x
    have e1 : pre.map Prod.fst ++ [x] = (pre ++ [(x, xh)]).map Prod.fst := by simp
    rw [e1] at g2
    rw [hpl] at hrun g2 g3 g4
    have c3 := (cell_of ht.box 0).trans (show _ = some v from rfl)
    have c4 := (cell_of g1 0).trans (show _ = some v from rfl)
    have y4 := free_of g1 0
    obtain ⟨x0, x1, x2, x3⟩ := boxW_cells hbx
    have hkb : KeepsB (seqP cb sv) W' (W2.setCell ⟨w.heap.size, 0, none⟩ (.slice a (pre.length + 1) c)) := KeepsB.of_fr g3 (fun b hb => by have := Hq.out b hb; omega)
    have hfw := hfr.trans g3 (fun b _ h => show w.heap.size ≤ b by have := Hsz1.out; omega)
    have Hrun := Lib.hid hrun; have G2 := Lib.hid g2; have Hko := Lib.hid g4; have Hkb := Lib.hid hkb; have Hfw := Lib.hid hfw
    clear hrun g1 g2 g3 g4 ht hfr hkb hfw e1 hlt hpl hnW hbx hbw
    gi_wp2_with (gi_at_builtin; refine wpListIn_append_run rfl _ _ 26 rfl rfl rfl Hrun.out ?_)
    exact ⟨Hko.out.from _, Hkb.out, ⟨_, G2.out⟩, Hfw.out⟩
  case done =>
    rintro D ys W' hD rfl ⟨⟨v, ht⟩, hfr⟩ hK
    have hD1 : w.heap.size ≤ D := by have := Hsz1.out; have := Hn1.out; omega
    have hpp : (ys.map Prod.fst).Perm S := (HBH.out.1.map Prod.fst).trans Q3.out
    have c3 := (cell_of ht.box 0).trans (show _ = some v from rfl)
    have HSo := Lib.hid (sortW_ok ht.row (lone_perm (HBH.out.1.symm.map Prod.fst) Q1.out.lone) (by simp; have := HL'.out; omega))
    have hvD : v.ownBlock ≠ some D := by
      intro e
      obtain ⟨c, t, z, h3⟩ := row_obj ht.row e
      rw [hK] at h3; cases h3
    have HT := Lib.hid ht; have Hfr := Lib.hid hfr; have HK := Lib.hid hK; have HD1 := Lib.hid hD1; have Hpp := Lib.hid hpp; have HvD := Lib.hid hvD
    clear ht hfr hK hD hD1 hpp hvD
    go_wp2_with fail
    refine HSo.out.mono ?_
    rintro e W3 ⟨rfl, S', hp', ho', hf3, hr3⟩
    have hb3 := hf3.get HT.out.box (fun e => (HT.out.own _ e).2 rfl)
    have hK3 := hf3.get HK.out HvD.out
    have hSS : S' = S := ord_unique (hp'.trans Hpp.out) ho' Q4.out
    subst hSS
    have c3 := (cell_of hb3 0).trans (show _ = some v from rfl)
    have HV := Lib.hid (values_ok hr3 (by have := Hpp.out.length_eq; simp at this; have := HL'.out; omega))
    have HF3 := Lib.hid hf3; have HK3 := Lib.hid hK3
    clear hf3 hK3 hr3 hp' ho' hb3
    go_wp2_with fail
    refine HV.out.mono ?_
    rintro e W4 ⟨cb', rfl, hvs, hcb, hf4⟩
    have hK4 := hf4.get HK3.out (fun h => h)
    have HVS := Lib.hid hvs; have Hcb := Lib.hid hcb; have HF4 := Lib.hid hf4; have HK4 := Lib.hid hK4
    clear hvs hcb hf4 hK4 c3
    go_wp2_with fail
    refine ⟨by simp, .inl ⟨_, _, rfl, run_takeDeferred HK4.out, ?_⟩⟩
    have fD := putObj_fr W4 D (.deferred none)
    have hnD : ∀ b, seqP cb' v b → ¬ b = D := by
      rintro b (rfl | hb) e
      · subst e
        have := HVS.out.box; rw [HK4.out] at this; cases this
      · subst e; exact HvD.out hb
    refine ⟨valsV cb', ?_, cb', v, rfl, HVS.out.fr fD hnD, ?_, ?_⟩
    · simp [results, Try.results81, Try.f81, go_sem]
    · rintro b (rfl | hb)
      · have := Hfr.out.size; have := HF3.out.size; have := Hcb.out; have := Hn1.out; have := Hsz1.out; omega
      · have := (HT.out.own b hb).1; have := Hsz1.out; omega
    · refine Fr.toNew ((((F1.out.mono (fun _ _ h => h.elim)).trans Hfr.out (fun b _ h => h)).trans HF3.out (fun b _ h => ?_)).trans HF4.out (fun _ _ h => h.elim) |>.trans fD (fun b _ e => by subst e; exact HD1.out))
      have := (HT.out.own b h).1; have := Hsz1.out; omega
  case stop =>
    rintro D c pre W' hD hpre h hK
    exact h.elim
set_option maxRecDepth 100000 in
theorem wall_no {p : Option Addr} (h : NoList w p) : Calls Try.prog 81 #[.pointer p] w (VAllOf w []) := by
  have fa : Fr (fun _ => False) w (w.alloc (.cells #[.slice none 0 0] 26)) := Fr.alloc (Fr.refl _ _) _
  have hb0 : (w.alloc (.cells #[.slice none 0 0] 26)).heap[w.heap.size]? = some (.cells #[.slice none 0 0] 26 (0, 0)) := heap_alloc_at _ _
  have c3 := (cell_of hb0 0).trans (show _ = some (Value.slice none 0 0) from rfl)
  have HM := Lib.hid (made_no (h.fr fa))
  have HV := Lib.hid (fun W => values_ok (w := W) (sv := .slice none 0 0) (S := []) (World.ownsRow_nil _ _ _ _) (by simp))
  have FA := Lib.hid fa
  clear h fa hb0
  go_enter Try.func81, Try.ntmps81
  go_wp2_with fail
  refine HM.out.mono ?_
  rintro e w1 ⟨rfl, rfl⟩
  go_wp2_with fail
  refine (HV.out _).mono ?_
  rintro e w2 ⟨cb, rfl, hs, hcb, hf⟩
  have HS := Lib.hid hs; have HF := Lib.hid hf; have Hcb := Lib.hid hcb
  clear hs hf hcb c3
  go_wp2_with fail
  go_ret
  refine ⟨cb, _, rfl, HS.out, ?_, FA.out.trans HF.out (fun _ _ h => h)⟩
  rintro b (rfl | hb)
  · rw [Hcb.out]; simp
  · simp [Value.ownBlock] at hb
end
end Go.Proofs.Ytjfnaflbhmeokaa.Wt
