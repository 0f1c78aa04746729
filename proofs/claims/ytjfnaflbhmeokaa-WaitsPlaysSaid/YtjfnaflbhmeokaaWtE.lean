/- The contracts of Set and New. No condition. -/
import Derived.Test.YtjfnaflbhmeokaaWtG
namespace Go.Proofs.Ytjfnaflbhmeokaa.Wt
open Go.RowKit
def setF (lt : Int → Int → Bool) (L : List It) (i : Nat) (v : Int) : List It := settleF lt (L.set i (v, (itAt L i).2)) i
theorem PlaceOf.setv {f : Int → Option Int} {L : List It} (h : PlaceOf f L) {i : Nat} (hi : i < L.length) (v : Int) : PlaceOf f (L.set i (v, (itAt L i).2)) := by
  have e : ∀ n, (itAt (L.set i (v, (itAt L i).2)) n).2 = (itAt L n).2 := by
    intro n; rw [itAt_set _ _ _ _ hi]; split
    · rename_i h; rw [h]
    · rfl
  constructor
  · intro n hn; rw [e]; exact h.here n (by simpa using hn)
  · intro hd hg; apply h.gone; intro n hn; rw [← e]; exact hg n (by simpa using hn)
section
variable {J : World → Prop} {FJ : Nat → Prop} {A : Int → Prop} {fv : Value} {G : Nat → Prop} {bh : Nat} {L : List It} {next : Int} {w : World}
variable {lt : Int → Int → Bool} {fl : Nat} {caps : Array Value}
variable (hL : LessOk Try.prog fv lt J FJ A fl caps)
include hL
set_option maxRecDepth 100000 in
theorem set_gone (h0 : HeapIs J FJ A fv G bh L next w) {hd : Int} (hg : ∀ i, i < L.length → (itAt L i).2 ≠ hd) (v : Int) :
    Calls Try.prog 77 #[.pointer (some ⟨bh, 0, none⟩), .int .i64 hd, wtT v] w fun e w' => e = .returned (.bool false) ∧ Fr (fun _ => False) w w' := by
  have f0 : Fr (fun _ => False) w (w.alloc (.cells #[.int .u32 (wW v), .int .i64 (wS v), .int .i64 (wT v), .int .i64 (wC v)] 32)) := Fr.alloc (Fr.refl _ _) _
  have h := HeapIs.keepFr hL h0 f0
  obtain ⟨sv, bm, hH, hR, ⟨f, hM, hP⟩, gm, gs⟩ := h.ex
  have c2 := cell_of hH 2
  simp at c2
  have hlk := run_lookup2 (P := Try.prog) Try.underlying115 Try.underlying3 hM (Try.zeroValue3 _) hd
  rw [hP.gone hd hg] at hlk
  simp only [Option.getD_none, Option.isSome_none] at hlk
  have HL := Lib.hid hL; have Hh := Lib.hid h; have F0 := Lib.hid f0
  clear hL h h0 hH hR hM hP gm gs hg f0
  go_enter Try.func77, Try.ntmps77
  go_upto_region 1 with fail
  generalize (w.alloc (.cells #[.int .u32 (wW v), .int .i64 (wS v), .int .i64 (wT v), .int .i64 (wC v)] 32)) = W at *
  go_wp2_with fail
  refine (none_ok HL.out Hh.out).mono ?_
  rintro e w' ⟨rfl, rfl⟩
  go_wp2_with fail
  go_ret
  exact ⟨rfl, F0.out⟩
set_option maxRecDepth 100000 in
set_option maxHeartbeats 1000000 in
theorem set_there (h0 : HeapIs J FJ A fv G bh L next w) {i : Nat} (hi : i < L.length) {v : Int} (hv : A v) :
    Calls Try.prog 77 #[.pointer (some ⟨bh, 0, none⟩), .int .i64 (itAt L i).2, wtT v] w fun e w' => e = .returned (.bool true) ∧ HeapIs J FJ A fv G bh (setF lt L i v) next w' ∧ Fr (fun b => FJ b ∨ G b) w w' := by
  have f0 : Fr (fun _ => False) w (w.alloc (.cells #[.int .u32 (wW v), .int .i64 (wS v), .int .i64 (wT v), .int .i64 (wC v)] 32)) := Fr.alloc (Fr.refl _ _) _
  have h := HeapIs.keepFr hL h0 f0
  have gz : (w.alloc (.cells #[.int .u32 (wW v), .int .i64 (wS v), .int .i64 (wT v), .int .i64 (wC v)] 32)).heap[w.heap.size]? = some (.cells #[.int .u32 (wW v), .int .i64 (wS v), .int .i64 (wT v), .int .i64 (wC v)] 32 (0, 0)) := heap_alloc_at _ _
  have hbG : ¬ G w.heap.size := fun hg => by have := h0.bd _ hg; omega
  obtain ⟨x, hx⟩ : ∃ x, x = (itAt L i).2 := ⟨_, rfl⟩
  rw [← hx]
  have Hx := Lib.hid hx
  have F0 := Lib.hid f0
  have HL0 := Lib.hid hL; have Hh0 := Lib.hid h; have Gz := Lib.hid gz; have HbG := Lib.hid hbG
  clear hx f0 h0 gz h hbG
  refine Calls.mono (R := fun e w' => ∃ w1 : World, Fr (fun _ => False) w w1 ∧ e = .returned (.bool true) ∧ HeapIs J FJ A fv G bh (setF lt L i v) next w' ∧ Fr (fun b => FJ b ∨ G b) w1 w') ?_ (by
    rintro e w' ⟨w1, f1, rfl, a1, a2⟩
    exact ⟨rfl, a1, (f1.mono (fun _ _ h => h.elim)).trans a2 (fun _ _ h => h)⟩)
  go_enter Try.func77, Try.ntmps77
  go_upto_region 1 with fail
  have FW := Lib.hid F0.out
  generalize (w.alloc (.cells #[.int .u32 (wW v), .int .i64 (wS v), .int .i64 (wT v), .int .i64 (wC v)] 32)) = W at *
  generalize hbz : w.heap.size = bz at *
  have h := Hh0.out
  obtain ⟨bi, bm, cap, hp, hcl, hcm, gi, gm⟩ := h.toHp (by omega)
  obtain ⟨f, hM, hP⟩ := hp.map
  obtain ⟨arr, r1, r2, r3⟩ := hp.row
  have n1 := hp.ne1; have n2 := hp.ne2
  have nj := h.nj
  have nb := nj _ h.gh; have nib := nj _ gi; have nmb := nj _ gm
  have hlen := h.len
  have c1 := cell_of hp.hH 1
  have c2 := cell_of hp.hH 2
  simp at c1 c2
  have hlk := run_lookup2 (P := Try.prog) Try.underlying115 Try.underlying3 hM (Try.zeroValue3 W) (itAt L i).2
  rw [hP.here i hi, ← Hx.out] at hlk
  simp only [Option.getD_some, Option.isSome_some] at hlk
  have d1 := (cell_of r1 (i * 5)).trans (r3 i hi).1
  have d2 := (cell_of r1 (i * 5 + 1)).trans (r3 i hi).2.1
  have d3 := (cell_of r1 (i * 5 + 2)).trans (r3 i hi).2.2.1
  have d4 := (cell_of r1 (i * 5 + 3)).trans (r3 i hi).2.2.2.1
  have z1 := free_of r1 (i * 5)
  have z2 := free_of r1 (i * 5 + 1)
  have z3 := free_of r1 (i * 5 + 2)
  have z4 := free_of r1 (i * 5 + 3)
  have x0 := (cell_of Gz.out 0).trans (show _ = some (Value.int .u32 (wW v)) from rfl)
  have x1 := (cell_of Gz.out 1).trans (show _ = some (Value.int .i64 (wS v)) from rfl)
  have x2 := (cell_of Gz.out 2).trans (show _ = some (Value.int .i64 (wT v)) from rfl)
  have x3 := (cell_of Gz.out 3).trans (show _ = some (Value.int .i64 (wC v)) from rfl)
  have hi' : (i : Int) < (L.length : Int) := by omega
  have hfr : Fr (fun b => b = bi) W ((((W.setCell ⟨bi, i * 5, none⟩ (.int .u32 (wW v))).setCell ⟨bi, i * 5 + 1, none⟩ (.int .i64 (wS v))).setCell ⟨bi, i * 5 + 2, none⟩ (.int .i64 (wT v))).setCell ⟨bi, i * 5 + 3, none⟩ (.int .i64 (wC v))).drew := Fr.drew (Fr.setCell (F := fun b => b = bi) (p := ⟨bi, i * 5 + 3, none⟩) (Fr.setCell (F := fun b => b = bi) (p := ⟨bi, i * 5 + 2, none⟩) (Fr.setCell (F := fun b => b = bi) (p := ⟨bi, i * 5 + 1, none⟩) (Fr.setCell (F := fun b => b = bi) (p := ⟨bi, i * 5, none⟩) (Fr.refl _ _) (by intro _; rfl) _) (by intro _; rfl) _) (by intro _; rfl) _) (by intro _; rfl) _)
  have hJ : J ((((W.setCell ⟨bi, i * 5, none⟩ (.int .u32 (wW v))).setCell ⟨bi, i * 5 + 1, none⟩ (.int .i64 (wS v))).setCell ⟨bi, i * 5 + 2, none⟩ (.int .i64 (wT v))).setCell ⟨bi, i * 5 + 3, none⟩ (.int .i64 (wC v))).drew := HL0.out.keep _ _ h.j (hfr.mono (fun b _ hb => by subst hb; exact nib))
  have hp2 : Hp J A fv (.int .i64 next) bh bi bm L.length cap (L.set i (v, (itAt L i).2)) ((((W.setCell ⟨bi, i * 5, none⟩ (.int .u32 (wW v))).setCell ⟨bi, i * 5 + 1, none⟩ (.int .i64 (wS v))).setCell ⟨bi, i * 5 + 2, none⟩ (.int .i64 (wT v))).setCell ⟨bi, i * 5 + 3, none⟩ (.int .i64 (wC v))).drew := by
    refine ⟨hJ, hfr.get hp.hH n1, ⟨_, (setCell_blk (o := i * 5 + 3) (setCell_blk (o := i * 5 + 2) (setCell_blk (o := i * 5 + 1) (setCell_blk (o := i * 5) r1 (.int .u32 (wW v))) (.int .i64 (wS v))) (.int .i64 (wT v))) (.int .i64 (wC v))), by simpa using r2, ?_⟩, ⟨f, hM.fr hfr n2, PlaceOf.setv hP hi v⟩, ?_, by simp⟩
    · intro j hj
      have hj' : j < L.length := by simpa using hj
      have hsz := lt_of_get (r3 i hi).2.2.2.2
      rw [itAt_set _ _ _ _ hi]
      simp only [Array.getElem?_setIfInBounds, Array.size_setIfInBounds]
      by_cases e : j = i
      · subst e
        rw [if_pos rfl]
        refine ⟨?_, ?_, ?_, ?_, ?_⟩ <;> (repeat' split) <;> first | rfl | (exfalso; omega) | exact (r3 j hj').2.2.2.2
      · rw [if_neg e]
        refine ⟨?_, ?_, ?_, ?_, ?_⟩ <;> (repeat' split) <;> first | (exfalso; omega) | exact (r3 j hj').1 | exact (r3 j hj').2.1 | exact (r3 j hj').2.2.1 | exact (r3 j hj').2.2.2.1 | exact (r3 j hj').2.2.2.2
    · intro j hj
      rw [itAt_set _ _ _ _ hi]
      split
      · exact hv
      · exact h.all j hj
  have hsL : ∀ j, j < (L.set i (v, (itAt L i).2)).length → 0 ≤ (itAt (L.set i (v, (itAt L i).2)) j).2 ∧ (itAt (L.set i (v, (itAt L i).2)) j).2 < next := by
    intro j hj
    rw [itAt_set _ _ _ _ hi]
    split
    · exact h.hs i hi
    · exact h.hs j (by simpa using hj)
  have HsL := Lib.hid hsL
  have HL := Lib.hid HL0.out; have Hh := Lib.hid h; have H2 := Lib.hid hp2; have Hfr := Lib.hid hfr; have Gi := Lib.hid gi; have Gm := Lib.hid gm
  have Hcl := Lib.hid hcl; have Hcm := Lib.hid hcm; have Nb := Lib.hid nb; have Nib := Lib.hid nib; have Nmb := Lib.hid nmb
  clear hL h hM hP gm gi hp hcl hcm hp2 hfr hJ nj nb nib nmb r1 r2 r3 hsL
  go_wp2_with fail
  refine (none_ok HL.out Hh.out).mono ?_
  rintro e w' ⟨rfl, rfl⟩
  go_upto_region 5 with fail
  go_region
  go_wp2_with fail
  refine (Hp.settle HL.out Nb.out Nib.out Nmb.out H2.out hlen hi).mono ?_
  rintro e1 w1 ⟨rfl, h1, f1⟩
  have H1 := Lib.hid h1; have F1 := Lib.hid f1; clear h1 f1
  go_wp2_with fail
  go_ret
  have hlL : (L.set i (v, (itAt L i).2)).length = L.length := by simp
  refine ⟨W, FW.out, rfl, Hh.out.ofHp H1.out Hcl.out Hcm.out Gi.out Gm.out (Nat.le_refl _) (Nat.le_trans Hfr.out.size F1.out.size) ?_, ?_⟩
  · intro j hj
    exact all_perm (settleF_perm lt (by rw [hlL]; exact hi)) (p := fun y => 0 ≤ y.2 ∧ y.2 < next) HsL.out j (by rw [settleF_length lt (by rw [hlL]; exact hi), hlL]; exact hj)
  · refine (Hfr.out.mono (fun b _ hb => by subst hb; exact .inr Gi.out)).trans F1.out ?_
    rintro b _ (hb | rfl | rfl)
    · exact .inl hb
    · exact .inr Gi.out
    · exact .inr Gm.out
theorem new_ok (hj : J w) :
    Calls Try.prog 30 #[fv] w fun e w' => ∃ bh, e = .returned (.pointer (some ⟨bh, 0, none⟩)) ∧ w.heap.size ≤ bh ∧ Fr (fun _ => False) w w' ∧ ∃ G, HeapIs J FJ A fv G bh [] 0 w' ∧ ∀ b, G b → w.heap.size ≤ b := by
  have hfv := hL.eq
  have q := fun w => run_eql_func_nil (P := Try.prog) Try.underlying79 w (.func fl) #[] caps
  have hmm := @run_makeMap Try.prog
  have HL := Lib.hid hL; have Hj := Lib.hid hj
  subst hfv
  clear hL hj
  go_enter Try.func30, Try.ntmps30
  go_wp2_with fail
  go_ret
  have hf : Fr (fun _ => False) w ((w.alloc (.map #[] 0)).alloc (.cells #[.func (.func fl) #[] caps, .slice none 0 0, .map (some w.heap.size), .int .i64 0] 118)) := Fr.alloc (Fr.alloc (Fr.refl _ _) _) _
  have hJ := HL.out.keep _ _ Hj.out (hf.mono (fun _ _ h => h.elim))
  refine ⟨w.heap.size + 1, rfl, by omega, hf, fun b => b = w.heap.size ∨ b = w.heap.size + 1, ⟨⟨.slice none 0 0, w.heap.size, ?_, World.ownsRow_nil _ _ _ _, ⟨fun _ => none, ⟨[], 0, ?_, by simp, fun _ => rfl⟩, ⟨by simp, fun _ _ => rfl⟩⟩, .inl rfl, by simp [Value.ownBlock]⟩, .inr rfl, ?_, ?_, hJ, by simp, by simp, by simp, by omega⟩, by omega⟩
  · simp only [heap_alloc_get, World.size_alloc]; simp
  · simp only [heap_alloc_get, World.size_alloc]; simp
  · intro b hb; simp; omega
  · intro b hb hF
    have := HL.out.bound w b Hj.out hF
    omega
end
end Go.Proofs.Ytjfnaflbhmeokaa.Wt
