/- The contract of swap, over a heap of waiting parties. Conditions: both places are in the heap, and not one. -/
import Derived.Test.YtjfnaflbhmeokaaWtD
import Derived.Test.YtjfnaflbhmeokaaProg
import Derived.Deep.RegionHeld3
import Derived.Deep.QuietTactic
import Derived.BigQuiet
import Derived.BigRegion
import Derived.Lib.Hide
import Derived.Deep.DeepCutAuto
namespace Go.Proofs.Ytjfnaflbhmeokaa.Wt
open Go.RowKit
/-- The row with the items at two places exchanged. -/
theorem set_get {arr : Array Value} {o : Nat} {v : Value} (ho : o < arr.size) (j : Nat) : (arr.setIfInBounds o v)[j]? = if j = o then some v else arr[j]? := by
  rw [Array.getElem?_setIfInBounds]
  by_cases h : o = j
  · subst h; simp [ho]
  · rw [if_neg h, if_neg (fun e => h e.symm)]
noncomputable def swp (arr : Array Value) (i k : Nat) (xv xh yv yh : Int) : Array Value :=
  ((((((((((arr.setIfInBounds (i * 5) (.int .u32 (wW yv))).setIfInBounds (i * 5 + 1) (.int .i64 (wS yv))).setIfInBounds (i * 5 + 2) (.int .i64 (wT yv))).setIfInBounds (i * 5 + 3) (.int .i64 (wC yv))).setIfInBounds (i * 5 + 4) (.int .i64 yh)).setIfInBounds (k * 5) (.int .u32 (wW xv))).setIfInBounds (k * 5 + 1) (.int .i64 (wS xv))).setIfInBounds (k * 5 + 2) (.int .i64 (wT xv))).setIfInBounds (k * 5 + 3) (.int .i64 (wC xv))).setIfInBounds (k * 5 + 4) (.int .i64 xh))
theorem swp_get {arr : Array Value} {i k : Nat} {xv xh yv yh : Int} (hi : i * 5 + 4 < arr.size) (hk : k * 5 + 4 < arr.size) (j : Nat) :
    (swp arr i k xv xh yv yh)[j]? = if j = k * 5 + 4 then some (.int .i64 xh) else if j = k * 5 + 3 then some (.int .i64 (wC xv)) else if j = k * 5 + 2 then some (.int .i64 (wT xv)) else if j = k * 5 + 1 then some (.int .i64 (wS xv)) else if j = k * 5 then some (.int .u32 (wW xv)) else if j = i * 5 + 4 then some (.int .i64 yh) else if j = i * 5 + 3 then some (.int .i64 (wC yv)) else if j = i * 5 + 2 then some (.int .i64 (wT yv)) else if j = i * 5 + 1 then some (.int .i64 (wS yv)) else if j = i * 5 then some (.int .u32 (wW yv)) else arr[j]? := by
  unfold swp
  rw [set_get, set_get, set_get, set_get, set_get, set_get, set_get, set_get, set_get, set_get]
  all_goals ((try simp only [Array.size_setIfInBounds]); omega)
theorem swp_size {arr : Array Value} {i k : Nat} {xv xh yv yh : Int} : (swp arr i k xv xh yv yh).size = arr.size := by simp [swp]
theorem swp_blk {w : World} {bi : Nat} {arr : Array Value} {t : TypeId} {z : Nat × Nat} (h : w.heap[bi]? = some (.cells arr t z)) (xv xh yv yh : Int) (i k : Nat) :
    ((((((((((w.setCell ⟨bi, i * 5, none⟩ (.int .u32 (wW yv))).setCell ⟨bi, i * 5 + 1, none⟩ (.int .i64 (wS yv))).setCell ⟨bi, i * 5 + 2, none⟩ (.int .i64 (wT yv))).setCell ⟨bi, i * 5 + 3, none⟩ (.int .i64 (wC yv))).setCell ⟨bi, i * 5 + 4, none⟩ (.int .i64 yh)).setCell ⟨bi, k * 5, none⟩ (.int .u32 (wW xv))).setCell ⟨bi, k * 5 + 1, none⟩ (.int .i64 (wS xv))).setCell ⟨bi, k * 5 + 2, none⟩ (.int .i64 (wT xv))).setCell ⟨bi, k * 5 + 3, none⟩ (.int .i64 (wC xv))).setCell ⟨bi, k * 5 + 4, none⟩ (.int .i64 xh)).heap[bi]? = some (.cells (swp arr i k xv xh yv yh) t z) := by
  have h1 := setCell_blk (o := i * 5) h (.int .u32 (wW yv))
  have h2 := setCell_blk (o := i * 5 + 1) h1 (.int .i64 (wS yv))
  have h3 := setCell_blk (o := i * 5 + 2) h2 (.int .i64 (wT yv))
  have h4 := setCell_blk (o := i * 5 + 3) h3 (.int .i64 (wC yv))
  have h5 := setCell_blk (o := i * 5 + 4) h4 (.int .i64 yh)
  have h6 := setCell_blk (o := k * 5) h5 (.int .u32 (wW xv))
  have h7 := setCell_blk (o := k * 5 + 1) h6 (.int .i64 (wS xv))
  have h8 := setCell_blk (o := k * 5 + 2) h7 (.int .i64 (wT xv))
  have h9 := setCell_blk (o := k * 5 + 3) h8 (.int .i64 (wC xv))
  exact setCell_blk (o := k * 5 + 4) h9 (.int .i64 xh)
theorem lt_of_get {arr : Array Value} {j : Nat} {v : Value} (h : arr[j]? = some v) : j < arr.size := by
  rcases Nat.lt_or_ge j arr.size with h' | h'
  · exact h'
  · simp [Array.getElem?_eq_none h'] at h
set_option maxRecDepth 100000 in
set_option maxHeartbeats 1000000 in
theorem swap_spec {w : World} {bh bi bm n cap : Nat} {fv nv : Value} {arr : Array Value} {f : Int → Option Int}
    (hH : w.heap[bh]? = some (.cells #[fv, .slice (some ⟨bi, 0, none⟩) n cap, .map (some bm), nv] 118 (0, 0)))
    (hI : w.heap[bi]? = some (.cells arr 179 (0, 0))) (hM : IMap w bm f) (hbi : bh ≠ bi) (hbm : bm ≠ bi)
    {i k : Nat} (hi : (i : Int) < n) (hk : (k : Int) < n) (hik : i ≠ k) (hn : n ≤ 9223372036854775807) {xv xh yv yh : Int}
    (h1 : arr[i * 5]? = some (.int .u32 (wW xv))) (h1' : arr[i * 5 + 1]? = some (.int .i64 (wS xv))) (h1b : arr[i * 5 + 2]? = some (.int .i64 (wT xv))) (h1c : arr[i * 5 + 3]? = some (.int .i64 (wC xv))) (h2 : arr[i * 5 + 4]? = some (.int .i64 xh)) (h3 : arr[k * 5]? = some (.int .u32 (wW yv))) (h3' : arr[k * 5 + 1]? = some (.int .i64 (wS yv))) (h3b : arr[k * 5 + 2]? = some (.int .i64 (wT yv))) (h3c : arr[k * 5 + 3]? = some (.int .i64 (wC yv))) (h4 : arr[k * 5 + 4]? = some (.int .i64 yh)) :
    Calls Try.prog 124 #[.pointer (some ⟨bh, 0, none⟩), .int .i64 i, .int .i64 k] w fun e w' => e = .returned (.tuple #[]) ∧ Fr (fun b => b = bi ∨ b = bm) w w' ∧
      w'.heap[bi]? = some (.cells (swp arr i k xv xh yv yh) 179 (0, 0)) ∧
      IMap w' bm (fun j => if j = xh then some (k : Int) else if j = yh then some (i : Int) else f j) := by
  have c1 := (cell_of hH 1)
  have c2 := (cell_of hH 2)
  simp at c1 c2
  have d1 := (cell_of hI (i * 5)).trans h1
  have d1' := (cell_of hI (i * 5 + 1)).trans h1'
  have d1b := (cell_of hI (i * 5 + 2)).trans h1b
  have d1c := (cell_of hI (i * 5 + 3)).trans h1c
  have d2 := (cell_of hI (i * 5 + 4)).trans h2
  have d3 := (cell_of hI (k * 5)).trans h3
  have d3' := (cell_of hI (k * 5 + 1)).trans h3'
  have d3b := (cell_of hI (k * 5 + 2)).trans h3b
  have d3c := (cell_of hI (k * 5 + 3)).trans h3c
  have d4 := (cell_of hI (k * 5 + 4)).trans h4
  have z1 := free_of hI (i * 5)
  have z1' := free_of hI (i * 5 + 1)
  have z1b := free_of hI (i * 5 + 2)
  have z1c := free_of hI (i * 5 + 3)
  have z2 := free_of hI (i * 5 + 4)
  have z3 := free_of hI (k * 5)
  have z3' := free_of hI (k * 5 + 1)
  have z3b := free_of hI (k * 5 + 2)
  have z3c := free_of hI (k * 5 + 3)
  have z4 := free_of hI (k * 5 + 4)
  have lh := lt_of_block hH
  have h2' := h2; have h4' := h4
  have HH := Lib.hid hH; have HI := Lib.hid hI
  clear hH hI h1 h1' h1b h1c h2 h3 h3' h3b h3c h4
  go_enter Try.func124, Try.ntmps124
  go_upto_region 0 with fail
  go_cut [6] (fun _ wx => wx.heap[bi]? = some (.cells (swp arr i k xv xh yv yh) 179 (0, 0)) ∧ Fr (fun b => b = bi) w wx)
  case first =>
    go_region
    go_wp2_with fail
    go_meet
    refine ⟨?_, ?_⟩
    · rw [heap_drew]; exact swp_blk HI.out xv xh yv yh i k
    refine Fr.drew ?_
    iterate 10 refine Fr.setCell ?_ (by intro _; rfl) _
    exact Fr.refl _ _
  case rest =>
    obtain ⟨gI, gf⟩ := hcut
    have s1 := lt_of_get h2'; have s2 := lt_of_get h4'
    have e1 := (gf.cell (o := 1) (s := none) lh hbi).trans c1
    have e2 := (gf.cell (o := 2) (s := none) lh hbi).trans c2
    have x1 : wc.cell? ⟨bi, i * 5 + 4, none⟩ = some (.int .i64 yh) := by
      rw [cell_of gI, swp_get s1 s2, if_neg (by omega), if_neg (by omega), if_neg (by omega), if_neg (by omega), if_neg (by omega), if_pos rfl]
    have x2 : wc.cell? ⟨bi, k * 5 + 4, none⟩ = some (.int .i64 xh) := by
      rw [cell_of gI, swp_get s1 s2, if_pos rfl]
    have hMc : IMap wc bm f := IMap.fr hM gf hbm
    obtain ⟨es, c, hrun, hM1⟩ := run_update (P := Try.prog) Try.underlying115 Try.underlying3 (w := wc.drew) hMc yh i
    have hc1 : ∀ a, (setMap wc.drew bm es c).cell? a = wc.cell? a := by
      obtain ⟨l, c0, hb, _⟩ := hMc; exact fun a => setMap_cell (w := wc.drew) hb es c a
    clear c1 c2 d1 d1' d1b d1c d2 d3 d3' d3b d3c d4 z1 z1' z1b z1c z2 z3 z3' z3b z3c z4
    go_wp2_with fail
    go_region_held3 (fun w' => w'.cell? ⟨bh,1,none⟩ = some (.slice (some ⟨bi,0,none⟩) n cap) ∧ w'.cell? ⟨bh,2,none⟩ = some (.map (some bm)) ∧ w'.cell? ⟨bi, i*5+4, none⟩ = some (.int .i64 yh) ∧ w'.cell? ⟨bi, k*5+4, none⟩ = some (.int .i64 xh)) (go_keep) (fail)
    obtain ⟨es2, c2, hrun2, hM2⟩ := run_update (P := Try.prog) Try.underlying115 Try.underlying3 (w := (setMap wc.drew bm es c).drew) hM1 xh k
    have hc2 : ∀ a, (setMap (setMap wc.drew bm es c).drew bm es2 c2).cell? a = wc.cell? a := by
      obtain ⟨l, c0, hb, _⟩ := hM1; exact fun a => (setMap_cell (w := (setMap wc.drew bm es c).drew) hb es2 c2 a).trans (hc1 a)
    have HM2 := Lib.hid hM2; have HF := Lib.hid gf; have HG := Lib.hid gI
    clear hM2 gf gI hM1 hMc hrun
    go_wp2_with fail
    go_region_held3 (fun w' => w'.cell? ⟨bh,1,none⟩ = some (.slice (some ⟨bi,0,none⟩) n cap) ∧ w'.cell? ⟨bh,2,none⟩ = some (.map (some bm)) ∧ w'.cell? ⟨bi, i*5+4, none⟩ = some (.int .i64 yh) ∧ w'.cell? ⟨bi, k*5+4, none⟩ = some (.int .i64 xh)) (go_keep) (fail)
    go_wp2_with fail
    go_end0
    refine ⟨rfl, ?_, ?_, ?_⟩
    · refine Fr.setMap (Fr.drew (Fr.setMap (Fr.drew ?_) (fun _ => Or.inr rfl) _ _)) (fun _ => Or.inr rfl) _ _
      exact HF.out.mono (fun _ _ h => Or.inl h)
    · rw [setMap_ne (Ne.symm hbm), heap_drew, setMap_ne (Ne.symm hbm), heap_drew]; exact HG.out
    · exact HM2.out
end Go.Proofs.Ytjfnaflbhmeokaa.Wt
