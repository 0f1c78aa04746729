/- The marks that ranges over functions leave among the deferred calls; a cut that lets them grow. Plain rules. No condition. -/
import Derived.RangeFuncLeaves
import Derived.RangeFuncRecord
import Derived.Test.YtjfnaflbhmeokaaRound
import Derived.Test.YtjfnaflbhmeokaaLib
namespace Go.Proofs.Ytjfnaflbhmeokaa
open Go.RowKit
def mark (D : Nat) : Deferred := { target := .collected D, args := #[] }
/-- The marks' blocks are there, each once. -/
structure MarksOk (ds : List Nat) (w : World) : Prop where
  once : ds.Nodup
  open_ : ∀ D ∈ ds, w.heap[D]? = some (.deferred (some []))
theorem MarksOk.nil (w : World) : MarksOk [] w := ⟨List.nodup_nil, fun _ h => by simp at h⟩
theorem MarksOk.fr {ds : List Nat} {w w' : World} {F : Nat → Prop} (h : MarksOk ds w) (f : Fr F w w') (hF : ∀ D ∈ ds, ¬ F D) : MarksOk ds w' := ⟨h.once, fun D hD => f.get (h.open_ D hD) (hF D hD)⟩
theorem MarksOk.cons {ds : List Nat} {w : World} {D : Nat} (h : MarksOk ds w) (hD : w.heap[D]? = some (.deferred (some []))) (hn : D ∉ ds) : MarksOk (D :: ds) w :=
  ⟨List.nodup_cons.2 ⟨hn, h.once⟩, fun x hx => by
    rcases List.mem_cons.1 hx with rfl | hx
    · exact hD
    · exact h.open_ x hx⟩
theorem leaves_marks {F : Fence} {n : Nat} {P : Program} {fn : Func} {tmps : Array Value} {R : Ending → World → Prop} : ∀ (ds : List Nat) (w : World), MarksOk ds w →
    (∀ w', Fr (fun b => b ∈ ds) w w' → ∃ v, (results fn tmps).run P w' = .ok v w' ∧ R (.returned v) w') → LeavesInM F n P fn tmps R (ds.map mark) .returning w := by
  intro ds
  induction ds with
  | nil => exact fun w _ h => h w (Fr.refl _ _)
  | cons D ds ih =>
    intro w hm h
    have hD := hm.open_ D (by simp)
    have f : Fr (fun b => b = D) w (w.putObj D (.deferred none)) := (grownBy.fr (grownBy_putObj' w D (.deferred none))).mono (fun b _ e => by cases e; rfl)
    refine ⟨by simp, .inl ⟨D, _, rfl, run_takeDeferred hD, ih _ ⟨(List.nodup_cons.1 hm.once).2, fun x hx => f.get (hm.open_ x (by simp [hx])) (fun e => (List.nodup_cons.1 hm.once).1 (e ▸ hx))⟩ fun w' f2 => h w' ?_⟩⟩
    exact (f.mono (fun b _ e => by subst e; simp)).trans f2 (fun b _ hb => by simp [hb])
/-- A statement that leaves the temporaries as they are, and may leave marks. -/
theorem wp_cutD {P : Program} {s : Code} {K : Act → World → Prop} {Q' : Exit → Act → World → Prop} {tmps : Array Value} {ds : List Deferred} {w : World} (R : List Deferred → World → Prop)
    (rest : ∀ ds' w', R ds' w' → K ⟨tmps, ds'⟩ w') (first : ∀ K' : Act → World → Prop, (∀ ds' w', R ds' w' → K' ⟨tmps, ds'⟩ w') → s.wp P (Exit.then K' Q') ⟨tmps, ds⟩ w) : s.wp P (Exit.then K Q') ⟨tmps, ds⟩ w := by
  have h := first (fun a' w' => ∃ ds', a' = ⟨tmps, ds'⟩ ∧ R ds' w') (fun ds' w' h => ⟨ds', rfl, h⟩)
  refine wp_mono h ?_
  intro e a' w' hq
  cases e with
  | normal => obtain ⟨ds', rfl, hR⟩ := hq; exact rest _ _ hR
  | exit id => exact hq
  | goto l => exact hq
  | ret => exact hq
  | panic ch => exact hq
  | outgrown => exact hq
/-- A statement that ends as statements do. -/
theorem wp_noexit {P : Program} {s : Code} {K : Act → World → Prop} {Q' : Exit → Act → World → Prop} {a : Act} {w : World} (h : s.wp P (Exit.then K (fun _ _ _ => False)) a w) : s.wp P (Exit.then K Q') a w := by
  refine wp_mono h ?_
  intro e a' w' hq
  cases e with
  | normal => exact hq
  | exit id => exact hq.elim
  | goto l => exact hq.elim
  | ret => exact hq.elim
  | panic ch => exact hq.elim
  | outgrown => exact hq.elim
theorem wp_noexit2 {P : Program} {s : Code} {Q : Exit → Act → World → Prop} {a : Act} {w : World} (h : s.wp P (Exit.then (Q .normal) (fun _ _ _ => False)) a w) : s.wp P Q a w := by
  refine wp_mono h ?_
  intro e a' w' hq
  cases e with
  | normal => exact hq
  | exit id => exact hq.elim
  | goto l => exact hq.elim
  | ret => exact hq.elim
  | panic ch => exact hq.elim
  | outgrown => exact hq.elim
end Go.Proofs.Ytjfnaflbhmeokaa
