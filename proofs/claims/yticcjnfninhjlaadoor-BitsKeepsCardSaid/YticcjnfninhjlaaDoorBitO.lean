/- What pairs makes of a sequence of gaps. Condition: the table of math/bits. -/
import Derived.Test.YticcjnfninhjlaaDoorBitN
namespace Go.Proofs.YticcjnfninhjlaaDoor.Bt
open Go.RowKit Go.Shelf
attribute [local go_sem] Oper.semAt_some encG
def flatG (L : List (Nat × Nat)) : List Int := L.flatMap fun x => [(x.1 : Int), (x.2 : Int)]
theorem flatG_length (L : List (Nat × Nat)) : (flatG L).length = 2 * L.length := by
  induction L with
  | nil => rfl
  | cons x L ih => simp only [flatG, List.flatMap_cons, List.length_append, List.length_cons, List.length_nil] at ih ⊢; omega
theorem bump_len : ∀ L : List (Nat × Nat), (bump L).length = L.length
  | [] => rfl
  | [_] => rfl
  | x :: y :: r => by simp only [bump, List.length_cons]; rw [bump_len (y :: r)]; rfl
theorem gapsTo_len (B : List Bool) : ∀ i, (gapsTo B i).length ≤ i
  | 0 => Nat.le_refl _
  | i + 1 => by
    have := gapsTo_len B i
    unfold gapsTo
    split
    · omega
    · split
      · simp; omega
      · rw [bump_len]; omega
theorem gapsL_len (B : List Bool) : (gapsL B).length ≤ B.length := gapsTo_len B _
set_option maxRecDepth 100000 in
set_option maxHeartbeats 4000000 in
theorem pairs_ok {w : World} {cb bh : Nat} {v : Value} {B : List Bool} (hs : Seq w cb bh v B) :
    Calls Tryd.prog 26 #[.func (.func 51) #[] #[.pointer (some ⟨cb, 0, none⟩)]] w fun e w' => ∃ sv, e = .returned (.tuple #[sv, .bool true]) ∧ Row w' 3 1 sv (flatG (gapsL B)).length ((flatG (gapsL B)).map i64v) ∧ (∀ b, sv.ownBlock = some b → w.heap.size ≤ b) ∧ Fr (fun _ => False) w w' := by
  have hro : Fence.wide.round = none := rfl
  have h1 : 1 ≤ 3 := by omega
  have f0 : Fr (fun _ => False) w (w.alloc (.cells #[.slice none 0 0] 22)) := Fr.alloc (Fr.refl _ _) _
  have ht0 : Told w.heap.size w.heap.size [] (w.alloc (.cells #[.slice none 0 0] 22)) := by
    refine ⟨.slice none 0 0, by rw [heap_alloc_get]; simp, World.ownsRow_nil _ _ _ _, by simp [Value.ownBlock]⟩
  have hs1 := hs.fr f0 (fun _ _ h => h)
  have q := fun w => run_eql_func_nil (P := Tryd.prog) Tryd.underlying68 w (.func 51) #[] #[.pointer (some ⟨cb, 0, none⟩)]
  have hsz : (w.alloc (.cells #[.slice none 0 0] 22)).heap.size = w.heap.size + 1 := by simp
  generalize hW : (w.alloc (.cells #[.slice none 0 0] 22)) = W1 at f0 ht0 hs1 hsz
  have HW := Lib.hid hW; have Hsz := Lib.hid hsz; have F0 := Lib.hid f0; have HT0 := Lib.hid ht0; have HS1 := Lib.hid hs1
  have hn1 : ∀ b, seqP cb bh v b → b < w.heap.size := by
    intro b hb
    rcases hb with hb | hb | hb | hb
    · subst hb; exact hs.tab.lt
    · subst hb; exact World.block_lt_of_cell? _ _ hs.cb0
    · subst hb; exact hs.set.lt
    · exact Row.lt hs.set.row hb
  have Hn1 := Lib.hid hn1
  have hsmall : (gapsL B).length ≤ 70000 := by have := gapsL_len B; have := hs.set.small; omega
  have Hsm := Lib.hid hsmall
  clear hs hsz f0 ht0 hs1 hn1 hsmall
  refine (callsIn_wide (n := 3)).1 (callsIn_of_wp_marks Tryd.func26 rfl trivial ?_ hro)
  refine wpIn_wide.2 ?_
  simp only [Tryd.ntmps26, List.size_toArray, List.length_cons, List.length_nil, Nat.reduceAdd, Nat.reduceSub, Array.replicate_succ, Array.replicate_zero, List.push_toArray, List.append_toArray, List.nil_append, List.cons_append]
  go_wp2_with fail
  clear hW
  refine (wpIn_wide (n := 3)).1 ?_
  refine wpIn_rangeFunc_ownG hro h1 (gf := 51) (lb := #[.pointer (some ⟨cb, 0, none⟩)]) rfl trivial (enters_of Tryd.func51 (by kernel_rfl) rfl)
    (gaps_stops (3 - 1) (by omega) HS1.out) KeepsB.trans (keepsB_b (fun b hb => by have := Hn1.out b hb; have := Hsz.out; omega)) (Below.refl _ _) (fun _ => rfl)
    (fun pre W => Told w.heap.size w.heap.size (flatG pre) W ∧ Fr (fun b => w.heap.size ≤ b) W1 W)
    (fun _ _ _ => False)
    ?own ?ownx ⟨HT0.out, Fr.refl _ _⟩ ?a1 ?assign ?body ?done ?stop
  case own =>
    intro s A B' row hs hg hr
    have f := grownBy.fr hg
    refine ⟨hs.1.grown hg (fun r e => (hr r e).2), hs.2.trans f ?_⟩
    intro i hi e; have := (hr _ e).1; have := Hsz.out; omega
  case ownx =>
    intro c s A B' row hs _ _
    exact hs
  case assign =>
    intro l x W' K hK
    gi_wp2
    exact hK
  case body =>
    rintro l pre x W' ⟨ht, hfr⟩ hlt
    obtain ⟨tv, k1, k2, k3⟩ := ht.ex
    have hwW : w.heap.size ≤ W'.heap.size := by have := hfr.size; have := Hsz.out; omega
    obtain ⟨a, c, W2, hrun, r2, f2, o2⟩ := app_ints (M := [(x.1 : Int), (x.2 : Int)]) k2 (by have := Hsm.out; rw [flatG_length]; simp; omega) (n := 2) rfl
    have hrun : (Builtin.append_ #[22, 22] 22 #[tv, .slice (some ⟨W'.heap.size, 0, none⟩) 2 2]).run Tryd.prog (W'.alloc (.cells #[.int .i64 x.1, .int .i64 x.2] 3)) = .ok (.slice a ((flatG pre).length + 2) c) W2 := hrun
    obtain ⟨g1, g2, g3⟩ := Told.app (n0 := w.heap.size) k1 k3 hwW r2 f2 o2
    have e1 : flatG pre ++ [(x.1 : Int), (x.2 : Int)] = flatG (pre ++ [x]) := by simp [flatG]
    rw [e1] at g2
    have c4 := (cell_of k1 0).trans (show _ = some tv from rfl)
    have c5 := (cell_of g1 0).trans (show _ = some tv from rfl)
    have y5 := free_of g1 0
    have hko := (keepsOthers_row k2 f2).trans (KeepsOthers.setCell W2 ⟨w.heap.size, 0, none⟩ (.slice a ((flatG pre).length + 2) c))
    have hkb : KeepsB (seqP cb bh v) W' (W2.setCell ⟨w.heap.size, 0, none⟩ (.slice a ((flatG pre).length + 2) c)) := KeepsB.of_fr g3 (fun b hb => by have := Hn1.out b hb; omega)
    have Hrun := Lib.hid hrun; have G2 := Lib.hid g2; have G3 := Lib.hid g3; have Hko := Lib.hid hko; have Hkb := Lib.hid hkb; have Hfr := Lib.hid hfr
    clear hrun g1 g2 g3 k1 k2 k3 r2 f2 o2 ht hfr hko hkb e1 hlt
    gi_wp2_with (gi_at_builtin; refine wpListIn_append_run rfl _ _ _ rfl rfl rfl Hrun.out ?_)
    exact ⟨Hko.out.from _, Hkb.out, G2.out, Hfr.out.trans G3.out (fun b _ h => by rcases h with h | h <;> omega)⟩
  case done =>
    rintro D ys W' hD rfl ⟨ht, hfr⟩ hK
    obtain ⟨tv, k1, k2, k3⟩ := ht.ex
    have c4 := (cell_of k1 0).trans (show _ = some tv from rfl)
    have fD : Fr (fun b => b = D) W' (W'.putObj D (.deferred none)) := (grownBy.fr (grownBy_putObj' W' D (.deferred none))).mono (fun b _ e => by cases e; rfl)
    have hD1 : w.heap.size ≤ D := by have := Hsz.out; omega
    have hrow : Row (W'.putObj D (.deferred none)) 3 1 tv (flatG (gapsL B)).length ((flatG (gapsL B)).map i64v) := Row.fr k2 fD (fun b hb e => by
      subst e; obtain ⟨c, t, z, h3⟩ := row_obj k2 hb; rw [hK] at h3; cases h3)
    have Hrow := Lib.hid hrow; have Hfr := Lib.hid hfr; have HK := Lib.hid hK; have HD1 := Lib.hid hD1; have K3 := Lib.hid k3; have FD := Lib.hid fD
    clear hrow hfr hK hD hD1 k1 k2 k3 fD ht
    go_wp2_with fail
    refine ⟨by simp, .inl ⟨_, _, rfl, run_takeDeferred HK.out, ?_⟩⟩
    refine ⟨.tuple #[tv, .bool true], ?_, tv, rfl, Hrow.out, fun b hb => (K3.out b hb).1, ?_⟩
    · simp [results, Tryd.f26, go_sem]
    · refine Fr.toNew ((F0.out.mono (fun _ _ h => h.elim)).trans (Hfr.out.trans (FD.out.mono (G := fun b => w.heap.size ≤ b) (fun b _ e => by subst e; exact HD1.out)) (fun _ _ h => h)) (fun b _ h => h))
  case stop =>
    rintro D c pre W' hD hpre h hK
    exact h.elim
end Go.Proofs.YticcjnfninhjlaaDoor.Bt
