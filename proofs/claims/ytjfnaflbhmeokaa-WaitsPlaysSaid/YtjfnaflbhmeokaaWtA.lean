/- The contract of ahead, over a heap of waiting parties and whatever function that is kept in its field. Conditions: both places are in the heap. -/
import Derived.Test.YtjfnaflbhmeokaaWtD
import Derived.Test.YtjfnaflbhmeokaaProg
import Derived.Deep.RegionHeld3
import Derived.Deep.QuietTactic
import Derived.BigQuiet
import Derived.Lib.Hide
import Derived.Deep.DeepCutAuto
namespace Go.Proofs.Ytjfnaflbhmeokaa.Wt
open Go.RowKit
/-- fv is a function value that answers lt of items in A; it keeps J, and writes no blocks but those in FJ. -/
structure LessOk (P : Program) (fv : Value) (lt : Int → Int → Bool) (J : World → Prop) (FJ : Nat → Prop) (A : Int → Prop) (fl : Nat) (caps : Array Value) : Prop where
  eq : fv = .func (.func fl) #[] caps
  enter : ∀ args w, (callFunc fl args).run P w = .ok (.enter fl args) w
  call : ∀ w x y, J w → A x → A y → Calls P fl (#[.agg #[.int .u32 (wW x), .int .i64 (wS x), .int .i64 (wT x), .int .i64 (wC x)], .agg #[.int .u32 (wW y), .int .i64 (wS y), .int .i64 (wT y), .int .i64 (wC y)]] ++ caps) w fun e w' => e = .returned (.bool (lt x y)) ∧ J w' ∧ Fr FJ w w'
  keep : ∀ w w', J w → Fr (fun b => ¬ FJ b) w w' → J w'
  bound : ∀ w b, J w → FJ b → b < w.heap.size
set_option maxRecDepth 100000 in
set_option maxHeartbeats 1000000 in
theorem ahead_spec {fv : Value} {lt : Int → Int → Bool} {J : World → Prop} {FJ : Nat → Prop} {A : Int → Prop} {fl : Nat} {caps : Array Value} (hL : LessOk Try.prog fv lt J FJ A fl caps)
    {w : World} (hJ : J w) {bh bi n cap : Nat} {mv nv : Value} {arr : Array Value}
    (hH : w.heap[bh]? = some (.cells #[fv, .slice (some ⟨bi, 0, none⟩) n cap, mv, nv] 118 (0, 0)))
    (hI : w.heap[bi]? = some (.cells arr 179 (0, 0))) (hbh : ¬ FJ bh) (hbi : ¬ FJ bi)
    {i k : Nat} (hi : (i : Int) < n) (hk : (k : Int) < n) (hn : n ≤ 9223372036854775807) {xv xh yv yh : Int}
    (h1 : arr[i * 5]? = some (.int .u32 (wW xv))) (h1' : arr[i * 5 + 1]? = some (.int .i64 (wS xv))) (h1b : arr[i * 5 + 2]? = some (.int .i64 (wT xv))) (h1c : arr[i * 5 + 3]? = some (.int .i64 (wC xv))) (h2 : arr[i * 5 + 4]? = some (.int .i64 xh)) (h3 : arr[k * 5]? = some (.int .u32 (wW yv))) (h3' : arr[k * 5 + 1]? = some (.int .i64 (wS yv))) (h3b : arr[k * 5 + 2]? = some (.int .i64 (wT yv))) (h3c : arr[k * 5 + 3]? = some (.int .i64 (wC yv))) (h4 : arr[k * 5 + 4]? = some (.int .i64 yh))
    (hx : A xv) (hy : A yv) :
    Calls Try.prog 125 #[.pointer (some ⟨bh, 0, none⟩), .int .i64 i, .int .i64 k] w fun e w' => e = .returned (.bool (aheadB lt xv xh yv yh)) ∧ J w' ∧ Fr FJ w w' := by
  have hfv := hL.eq
  subst hfv
  have c0 := (cell_of hH 0); have c1 := (cell_of hH 1)
  simp at c0 c1
  have d1 := (cell_of hI (i * 5)).trans h1
  have d1' := (cell_of hI (i * 5 + 1)).trans h1'
  have d1b := (cell_of hI (i * 5 + 2)).trans h1b
  have d1c := (cell_of hI (i * 5 + 3)).trans h1c
  have d2 := (cell_of hI (i * 5 + 4)).trans h2
  have d3 := (cell_of hI (k * 5)).trans h3
  have d3' := (cell_of hI (k * 5 + 1)).trans h3'
  have d3b := (cell_of hI (k * 5 + 2)).trans h3b
  have d3c := (cell_of hI (k * 5 + 3)).trans h3c
  have d4 := (cell_of hI (k * 5 + 4)).trans h4
  have lh := lt_of_block hH
  have li := lt_of_block hI
  have hent := hL.enter
  have hB := Lib.hid (hL.bound w)
  have HL := Lib.hid hL
  have HH := Lib.hid hH; have HI := Lib.hid hI
  clear hH hI h1 h1' h1b h1c h2 h3 h3' h3b h3c h4 hL
  go_enter Try.func125, Try.ntmps125
  go_upto_region 1 with fail
  go_cut [7, 8] (fun a b wx => ∃ ba bb : Nat, a = .pointer (some ⟨ba, 0, none⟩) ∧ b = .pointer (some ⟨bb, 0, none⟩) ∧ w.heap.size ≤ ba ∧ w.heap.size ≤ bb ∧ wx.heap[ba]? = some (.cells #[.int .u32 (wW xv), .int .i64 (wS xv), .int .i64 (wT xv), .int .i64 (wC xv), .int .i64 xh] 179 (0, 0)) ∧ wx.heap[bb]? = some (.cells #[.int .u32 (wW yv), .int .i64 (wS yv), .int .i64 (wT yv), .int .i64 (wC yv), .int .i64 yh] 179 (0, 0)) ∧ Fr (fun _ => False) w wx)
  case first =>
    go_region_held3 (fun w' => w'.cell? ⟨bh,0,none⟩ = some (.func (.func fl) #[] caps) ∧ w'.cell? ⟨bh,1,none⟩ = some (.slice (some ⟨bi,0,none⟩) n cap) ∧ w'.cell? ⟨bi, i*5, none⟩ = some (.int .u32 (wW xv)) ∧ w'.cell? ⟨bi, i*5+1, none⟩ = some (.int .i64 (wS xv)) ∧ w'.cell? ⟨bi, i*5+2, none⟩ = some (.int .i64 (wT xv)) ∧ w'.cell? ⟨bi, i*5+3, none⟩ = some (.int .i64 (wC xv)) ∧ w'.cell? ⟨bi, i*5+4, none⟩ = some (.int .i64 xh) ∧ w'.cell? ⟨bi, k*5, none⟩ = some (.int .u32 (wW yv)) ∧ w'.cell? ⟨bi, k*5+1, none⟩ = some (.int .i64 (wS yv)) ∧ w'.cell? ⟨bi, k*5+2, none⟩ = some (.int .i64 (wT yv)) ∧ w'.cell? ⟨bi, k*5+3, none⟩ = some (.int .i64 (wC yv)) ∧ w'.cell? ⟨bi, k*5+4, none⟩ = some (.int .i64 yh)) (go_keep) (fail)
    all_goals (go_wp2_with fail; go_meet)
    · exact ⟨_, _, rfl, rfl, by simp, by simp, by simp only [heap_alloc_get, heap_drew, World.size_alloc]; simp, by simp only [heap_alloc_get, heap_drew, World.size_alloc]; simp, (((Fr.refl _ _).alloc _).alloc _).drew⟩
    · exact ⟨_, _, rfl, rfl, by simp, by simp, by simp only [heap_alloc_get, heap_drew, World.size_alloc]; simp, by simp only [heap_alloc_get, heap_drew, World.size_alloc]; simp, (((Fr.refl _ _).alloc _).alloc _).drew⟩
  case rest =>
    obtain ⟨ba, bb, rfl, rfl, ga, gb, ha, hb, hf⟩ := hcut
    have e0 := (hf.cell (o := 0) (s := none) lh (fun h => h)).trans c0
    have a0 := cell_of ha 0; have a1 := cell_of ha 1; have a2 := cell_of ha 2; have a3 := cell_of ha 3; have a4 := cell_of ha 4
    have b0 := cell_of hb 0; have b1 := cell_of hb 1; have b2 := cell_of hb 2; have b3 := cell_of hb 3; have b4 := cell_of hb 4
    simp at a0 a1 a2 a3 a4 b0 b1 b2 b3 b4
    have lca := lt_of_block ha; have lcb := lt_of_block hb
    have hJc := Lib.hid (HL.out.keep w wc hJ (hf.mono (fun _ _ h => h.elim)))
    have na : ¬ FJ ba := fun h => by have := hB.out ba hJ h; omega
    have nb : ¬ FJ bb := fun h => by have := hB.out bb hJ h; omega
    have lhc : bh < wc.heap.size := Nat.lt_of_lt_of_le lh hf.size
    have Hf := Lib.hid hf
    clear c0 c1 d1 d1' d1b d1c d2 d3 d3' d3b d3c d4 ha hb hf hJ
    cases hxy : lt xv yv
    · cases hyx : lt yv xv
      · go_wp2_with fail
        go_region_held3 (fun w' => w'.cell? ⟨bh,0,none⟩ = some (.func (.func fl) #[] caps) ∧ w'.cell? ⟨ba,0,none⟩ = some (.int .u32 (wW xv)) ∧ w'.cell? ⟨ba,1,none⟩ = some (.int .i64 (wS xv)) ∧ w'.cell? ⟨ba,2,none⟩ = some (.int .i64 (wT xv)) ∧ w'.cell? ⟨ba,3,none⟩ = some (.int .i64 (wC xv)) ∧ w'.cell? ⟨ba,4,none⟩ = some (.int .i64 xh) ∧ w'.cell? ⟨bb,0,none⟩ = some (.int .u32 (wW yv)) ∧ w'.cell? ⟨bb,1,none⟩ = some (.int .i64 (wS yv)) ∧ w'.cell? ⟨bb,2,none⟩ = some (.int .i64 (wT yv)) ∧ w'.cell? ⟨bb,3,none⟩ = some (.int .i64 (wC yv)) ∧ w'.cell? ⟨bb,4,none⟩ = some (.int .i64 yh))
          (first | (go_keep; done) | (refine ⟨?_, ?_, ?_, ?_, ?_, ?_, ?_, ?_, ?_, ?_, ?_⟩ <;> (first | exact (hf1.cell lhc hbh).trans e0 | exact (hf1.cell lca na).trans a0 | exact (hf1.cell lca na).trans a1 | exact (hf1.cell lca na).trans a2 | exact (hf1.cell lca na).trans a3 | exact (hf1.cell lca na).trans a4 | exact (hf1.cell lcb nb).trans b0 | exact (hf1.cell lcb nb).trans b1 | exact (hf1.cell lcb nb).trans b2 | exact (hf1.cell lcb nb).trans b3 | exact (hf1.cell lcb nb).trans b4)))
          (first | (refine (HL.out.call _ xv yv (HL.out.keep _ _ hJc.out (Fr.drew (Fr.refl _ _))) hx hy).mono ?_; rintro e w1 ⟨rfl, hJ1, hf1⟩))
        have f0 := (hf1.cell (o := 0) (s := none) lhc hbh).trans e0
        have f1 := (hf1.cell (o := 0) (s := none) lca na).trans a0
        have f2 := (hf1.cell (o := 1) (s := none) lca na).trans a1
        have f2' := (hf1.cell (o := 2) (s := none) lca na).trans a2
        have f2b := (hf1.cell (o := 3) (s := none) lca na).trans a3
        have f2c := (hf1.cell (o := 4) (s := none) lca na).trans a4
        have f3 := (hf1.cell (o := 0) (s := none) lcb nb).trans b0
        have f4 := (hf1.cell (o := 1) (s := none) lcb nb).trans b1
        have f4' := (hf1.cell (o := 2) (s := none) lcb nb).trans b2
        have f4b := (hf1.cell (o := 3) (s := none) lcb nb).trans b3
        have f4c := (hf1.cell (o := 4) (s := none) lcb nb).trans b4
        have HJ1 := Lib.hid hJ1; have HF1 := Lib.hid hf1; clear hJ1
        go_wp2_with fail
        go_region_held3 (fun w' => w'.cell? ⟨bh,0,none⟩ = some (.func (.func fl) #[] caps) ∧ w'.cell? ⟨ba,0,none⟩ = some (.int .u32 (wW xv)) ∧ w'.cell? ⟨ba,1,none⟩ = some (.int .i64 (wS xv)) ∧ w'.cell? ⟨ba,2,none⟩ = some (.int .i64 (wT xv)) ∧ w'.cell? ⟨ba,3,none⟩ = some (.int .i64 (wC xv)) ∧ w'.cell? ⟨ba,4,none⟩ = some (.int .i64 xh) ∧ w'.cell? ⟨bb,0,none⟩ = some (.int .u32 (wW yv)) ∧ w'.cell? ⟨bb,1,none⟩ = some (.int .i64 (wS yv)) ∧ w'.cell? ⟨bb,2,none⟩ = some (.int .i64 (wT yv)) ∧ w'.cell? ⟨bb,3,none⟩ = some (.int .i64 (wC yv)) ∧ w'.cell? ⟨bb,4,none⟩ = some (.int .i64 yh))
          (first | (go_keep; done) | (refine ⟨?_, ?_, ?_, ?_, ?_, ?_, ?_, ?_, ?_, ?_, ?_⟩ <;> (first | exact (hf2.cell (Nat.lt_of_lt_of_le lhc hf1.size) hbh).trans f0 | exact (hf2.cell (Nat.lt_of_lt_of_le lca hf1.size) na).trans f1 | exact (hf2.cell (Nat.lt_of_lt_of_le lca hf1.size) na).trans f2 | exact (hf2.cell (Nat.lt_of_lt_of_le lca hf1.size) na).trans f2' | exact (hf2.cell (Nat.lt_of_lt_of_le lca hf1.size) na).trans f2b | exact (hf2.cell (Nat.lt_of_lt_of_le lca hf1.size) na).trans f2c | exact (hf2.cell (Nat.lt_of_lt_of_le lcb hf1.size) nb).trans f3 | exact (hf2.cell (Nat.lt_of_lt_of_le lcb hf1.size) nb).trans f4 | exact (hf2.cell (Nat.lt_of_lt_of_le lcb hf1.size) nb).trans f4' | exact (hf2.cell (Nat.lt_of_lt_of_le lcb hf1.size) nb).trans f4b | exact (hf2.cell (Nat.lt_of_lt_of_le lcb hf1.size) nb).trans f4c )))
          (first | (refine (HL.out.call _ yv xv (HL.out.keep _ _ HJ1.out (Fr.drew (Fr.refl _ _))) hy hx).mono ?_; rintro e w2 ⟨rfl, hJ2, hf2⟩))
        go_wp2_with fail
        go_ret
        exact ⟨by simp [aheadB, hxy, hyx], hJ2, ((Hf.out.mono (fun _ _ h => h.elim)).drew.trans HF1.out (fun _ _ h => h)).drew.trans hf2 (fun _ _ h => h)⟩
      · go_wp2_with fail
        go_region_held3 (fun w' => w'.cell? ⟨bh,0,none⟩ = some (.func (.func fl) #[] caps) ∧ w'.cell? ⟨ba,0,none⟩ = some (.int .u32 (wW xv)) ∧ w'.cell? ⟨ba,1,none⟩ = some (.int .i64 (wS xv)) ∧ w'.cell? ⟨ba,2,none⟩ = some (.int .i64 (wT xv)) ∧ w'.cell? ⟨ba,3,none⟩ = some (.int .i64 (wC xv)) ∧ w'.cell? ⟨ba,4,none⟩ = some (.int .i64 xh) ∧ w'.cell? ⟨bb,0,none⟩ = some (.int .u32 (wW yv)) ∧ w'.cell? ⟨bb,1,none⟩ = some (.int .i64 (wS yv)) ∧ w'.cell? ⟨bb,2,none⟩ = some (.int .i64 (wT yv)) ∧ w'.cell? ⟨bb,3,none⟩ = some (.int .i64 (wC yv)) ∧ w'.cell? ⟨bb,4,none⟩ = some (.int .i64 yh))
          (first | (go_keep; done) | (refine ⟨?_, ?_, ?_, ?_, ?_, ?_, ?_, ?_, ?_, ?_, ?_⟩ <;> (first | exact (hf1.cell lhc hbh).trans e0 | exact (hf1.cell lca na).trans a0 | exact (hf1.cell lca na).trans a1 | exact (hf1.cell lca na).trans a2 | exact (hf1.cell lca na).trans a3 | exact (hf1.cell lca na).trans a4 | exact (hf1.cell lcb nb).trans b0 | exact (hf1.cell lcb nb).trans b1 | exact (hf1.cell lcb nb).trans b2 | exact (hf1.cell lcb nb).trans b3 | exact (hf1.cell lcb nb).trans b4)))
          (first | (refine (HL.out.call _ xv yv (HL.out.keep _ _ hJc.out (Fr.drew (Fr.refl _ _))) hx hy).mono ?_; rintro e w1 ⟨rfl, hJ1, hf1⟩))
        have f0 := (hf1.cell (o := 0) (s := none) lhc hbh).trans e0
        have f1 := (hf1.cell (o := 0) (s := none) lca na).trans a0
        have f2 := (hf1.cell (o := 1) (s := none) lca na).trans a1
        have f2' := (hf1.cell (o := 2) (s := none) lca na).trans a2
        have f2b := (hf1.cell (o := 3) (s := none) lca na).trans a3
        have f2c := (hf1.cell (o := 4) (s := none) lca na).trans a4
        have f3 := (hf1.cell (o := 0) (s := none) lcb nb).trans b0
        have f4 := (hf1.cell (o := 1) (s := none) lcb nb).trans b1
        have f4' := (hf1.cell (o := 2) (s := none) lcb nb).trans b2
        have f4b := (hf1.cell (o := 3) (s := none) lcb nb).trans b3
        have f4c := (hf1.cell (o := 4) (s := none) lcb nb).trans b4
        have HJ1 := Lib.hid hJ1; have HF1 := Lib.hid hf1; clear hJ1
        go_wp2_with fail
        refine wp_region_held_drew (S := (fun w' => w'.cell? ⟨bh,0,none⟩ = some (.func (.func fl) #[] caps) ∧ w'.cell? ⟨ba,0,none⟩ = some (.int .u32 (wW xv)) ∧ w'.cell? ⟨ba,1,none⟩ = some (.int .i64 (wS xv)) ∧ w'.cell? ⟨ba,2,none⟩ = some (.int .i64 (wT xv)) ∧ w'.cell? ⟨ba,3,none⟩ = some (.int .i64 (wC xv)) ∧ w'.cell? ⟨ba,4,none⟩ = some (.int .i64 xh) ∧ w'.cell? ⟨bb,0,none⟩ = some (.int .u32 (wW yv)) ∧ w'.cell? ⟨bb,1,none⟩ = some (.int .i64 (wS yv)) ∧ w'.cell? ⟨bb,2,none⟩ = some (.int .i64 (wT yv)) ∧ w'.cell? ⟨bb,3,none⟩ = some (.int .i64 (wC yv)) ∧ w'.cell? ⟨bb,4,none⟩ = some (.int .i64 yh))) (by kernel_rfl) (by go_keep) (fun hHeld => ?_)
        refine wpAnyH_take (i := 0) (v := ?_) rfl (by kernel_rfl) (by kernel_rfl) (by kernel_rfl) (fun _ _ _ h => h) (Or.inl ⟨by rfl, ?_⟩) (by assumption) ?_
        rotate_left
        · intro w' hSw; (try dsimp only at hSw); go_simp; try with_reducible rfl
        try simp only [Act.put, List.getElem_toArray, List.getElem_cons_zero, List.getElem_cons_succ, List.setIfInBounds_toArray, List.set_cons_zero, List.set_cons_succ]
        refine wpAnyH_take (i := 1) (v := ?_) rfl (by kernel_rfl) (by kernel_rfl) (by kernel_rfl) (fun _ _ _ h => h) (Or.inl ⟨by rfl, ?_⟩) (by assumption) ?_
        rotate_left
        · intro w' hSw; (try dsimp only at hSw); go_simp; try with_reducible rfl
        try simp only [Act.put, List.getElem_toArray, List.getElem_cons_zero, List.getElem_cons_succ, List.setIfInBounds_toArray, List.set_cons_zero, List.set_cons_succ]
        refine wpAnyH_take (i := 2) (v := ?_) rfl (by kernel_rfl) (by kernel_rfl) (by kernel_rfl) (fun _ _ _ h => h) (Or.inl ⟨by rfl, ?_⟩) (by assumption) ?_
        rotate_left
        · intro w' hSw; (try dsimp only at hSw); go_simp; try with_reducible rfl
        try simp only [Act.put, List.getElem_toArray, List.getElem_cons_zero, List.getElem_cons_succ, List.setIfInBounds_toArray, List.set_cons_zero, List.set_cons_succ]
        refine wpAnyH_take (i := 3) (v := ?_) rfl (by kernel_rfl) (by kernel_rfl) (by kernel_rfl) (fun _ _ _ h => h) (Or.inl ⟨by rfl, ?_⟩) (by assumption) ?_
        rotate_left
        · intro w' hSw; (try dsimp only at hSw); go_simp; try with_reducible rfl
        try simp only [Act.put, List.getElem_toArray, List.getElem_cons_zero, List.getElem_cons_succ, List.setIfInBounds_toArray, List.set_cons_zero, List.set_cons_succ]
        refine wpAnyH_take (i := 4) (v := ?_) rfl (by kernel_rfl) (by kernel_rfl) (by kernel_rfl) (fun _ _ _ h => h) (Or.inl ⟨by rfl, ?_⟩) (by assumption) ?_
        rotate_left
        · intro w' hSw; (try dsimp only at hSw); go_simp; try with_reducible rfl
        try simp only [Act.put, List.getElem_toArray, List.getElem_cons_zero, List.getElem_cons_succ, List.setIfInBounds_toArray, List.set_cons_zero, List.set_cons_succ]
        refine wpAnyH_take (i := 5) (v := ?_) rfl (by kernel_rfl) (by kernel_rfl) (by kernel_rfl) (fun _ _ _ h => h) (Or.inl ⟨by rfl, ?_⟩) (by assumption) ?_
        rotate_left
        · intro w' hSw; (try dsimp only at hSw); go_simp; try with_reducible rfl
        try simp only [Act.put, List.getElem_toArray, List.getElem_cons_zero, List.getElem_cons_succ, List.setIfInBounds_toArray, List.set_cons_zero, List.set_cons_succ]
        refine wpAnyH_take (i := 6) (v := ?_) rfl (by kernel_rfl) (by kernel_rfl) (by kernel_rfl) (fun _ _ _ h => h) (Or.inl ⟨by rfl, ?_⟩) (by assumption) ?_
        rotate_left
        · intro w' hSw; (try dsimp only at hSw); go_simp; try with_reducible rfl
        try simp only [Act.put, List.getElem_toArray, List.getElem_cons_zero, List.getElem_cons_succ, List.setIfInBounds_toArray, List.set_cons_zero, List.set_cons_succ]
        refine wpAnyH_take (i := 7) (v := ?_) rfl (by kernel_rfl) (by kernel_rfl) (by kernel_rfl) (fun _ _ _ h => h) (Or.inl ⟨by rfl, ?_⟩) (by assumption) ?_
        rotate_left
        · intro w' hSw; (try dsimp only at hSw); go_simp; try with_reducible rfl
        try simp only [Act.put, List.getElem_toArray, List.getElem_cons_zero, List.getElem_cons_succ, List.setIfInBounds_toArray, List.set_cons_zero, List.set_cons_succ]
        refine wpAnyH_ready (rs := [8]) (by kernel_rfl) (by simp) ?_
        refine AllReadyH.cons rfl (fun K hK => ?_) AllReadyH.nil
        go_simp
        refine (HL.out.call _ yv xv (HL.out.keep _ _ HJ1.out (Fr.drew (Fr.refl _ _))) hy hx).mono ?_; rintro e w2 ⟨rfl, hJ2, hf2⟩
        try go_simp
        refine hK.out _ _ ?_ (fun hHeld => ?_)
        · (try dsimp only); (refine ⟨?_, ?_, ?_, ?_, ?_, ?_, ?_, ?_, ?_, ?_, ?_⟩ <;> (first | exact (hf2.cell (Nat.lt_of_lt_of_le lhc hf1.size) hbh).trans f0 | exact (hf2.cell (Nat.lt_of_lt_of_le lca hf1.size) na).trans f1 | exact (hf2.cell (Nat.lt_of_lt_of_le lca hf1.size) na).trans f2 | exact (hf2.cell (Nat.lt_of_lt_of_le lca hf1.size) na).trans f2' | exact (hf2.cell (Nat.lt_of_lt_of_le lca hf1.size) na).trans f2b | exact (hf2.cell (Nat.lt_of_lt_of_le lca hf1.size) na).trans f2c | exact (hf2.cell (Nat.lt_of_lt_of_le lcb hf1.size) nb).trans f3 | exact (hf2.cell (Nat.lt_of_lt_of_le lcb hf1.size) nb).trans f4 | exact (hf2.cell (Nat.lt_of_lt_of_le lcb hf1.size) nb).trans f4' | exact (hf2.cell (Nat.lt_of_lt_of_le lcb hf1.size) nb).trans f4b | exact (hf2.cell (Nat.lt_of_lt_of_le lcb hf1.size) nb).trans f4c ))
        clear hK K
        try simp only [Act.put, List.getElem_toArray, List.getElem_cons_zero, List.getElem_cons_succ, List.setIfInBounds_toArray, List.set_cons_zero, List.set_cons_succ]
        refine wpAnyH_take (i := 9) (v := ?_) rfl (by kernel_rfl) (by kernel_rfl) (by kernel_rfl) (fun _ _ _ h => h) (Or.inl ⟨by rfl, ?_⟩) (by assumption) ?_
        rotate_left
        · intro w' hSw; (try dsimp only at hSw); go_simp; try with_reducible rfl
        try simp only [Act.put, List.getElem_toArray, List.getElem_cons_zero, List.getElem_cons_succ, List.setIfInBounds_toArray, List.set_cons_zero, List.set_cons_succ]
        refine wpAnyH_take (i := 10) (v := ?_) rfl (by kernel_rfl) (by kernel_rfl) (by kernel_rfl) (fun _ _ _ h => h) (Or.inl ⟨by rfl, ?_⟩) (by assumption) ?_
        rotate_left
        · intro w' hSw; (try dsimp only at hSw); go_simp; try with_reducible rfl
        try simp only [Act.put, List.getElem_toArray, List.getElem_cons_zero, List.getElem_cons_succ, List.setIfInBounds_toArray, List.set_cons_zero, List.set_cons_succ]
        refine wpAnyH_take (i := 11) (v := undef) rfl (by kernel_rfl) (by kernel_rfl) (by kernel_rfl) (fun _ _ _ h => h) (Or.inr ⟨rfl, rfl⟩) (by assumption) ?_
        try simp only [Act.put, List.getElem_toArray, List.getElem_cons_zero, List.getElem_cons_succ, List.setIfInBounds_toArray, List.set_cons_zero, List.set_cons_succ]
        refine wpAnyH_take (i := 12) (v := undef) rfl (by kernel_rfl) (by kernel_rfl) (by kernel_rfl) (fun _ _ _ h => h) (Or.inr ⟨rfl, rfl⟩) (by assumption) ?_
        try simp only [Act.put, List.getElem_toArray, List.getElem_cons_zero, List.getElem_cons_succ, List.setIfInBounds_toArray, List.set_cons_zero, List.set_cons_succ]
        refine wpAnyH_take (i := 13) (v := undef) rfl (by kernel_rfl) (by kernel_rfl) (by kernel_rfl) (fun _ _ _ h => h) (Or.inr ⟨rfl, rfl⟩) (by assumption) ?_
        try simp only [Act.put, List.getElem_toArray, List.getElem_cons_zero, List.getElem_cons_succ, List.setIfInBounds_toArray, List.set_cons_zero, List.set_cons_succ]
        refine wpAnyH_take (i := 14) (v := undef) rfl (by kernel_rfl) (by kernel_rfl) (by kernel_rfl) (fun _ _ _ h => h) (Or.inr ⟨rfl, rfl⟩) (by assumption) ?_
        try simp only [Act.put, List.getElem_toArray, List.getElem_cons_zero, List.getElem_cons_succ, List.setIfInBounds_toArray, List.set_cons_zero, List.set_cons_succ]
        refine wpAnyH_take (i := 15) (v := undef) rfl (by kernel_rfl) (by kernel_rfl) (by kernel_rfl) (fun _ _ _ h => h) (Or.inr ⟨rfl, rfl⟩) (by assumption) ?_
        try simp only [Act.put, List.getElem_toArray, List.getElem_cons_zero, List.getElem_cons_succ, List.setIfInBounds_toArray, List.set_cons_zero, List.set_cons_succ]
        refine wpAnyH_take (i := 16) (v := ?_) rfl (by kernel_rfl) (by kernel_rfl) (by kernel_rfl) (fun _ _ _ h => h) (Or.inl ⟨by rfl, ?_⟩) (by assumption) ?_
        rotate_left
        · intro w' hSw; (try dsimp only at hSw); go_simp; try with_reducible rfl
        try simp only [Act.put, List.getElem_toArray, List.getElem_cons_zero, List.getElem_cons_succ, List.setIfInBounds_toArray, List.set_cons_zero, List.set_cons_succ]
        refine wpAnyH_take (i := 17) (v := ?_) rfl (by kernel_rfl) (by kernel_rfl) (by kernel_rfl) (fun _ _ _ h => h) (Or.inl ⟨by rfl, ?_⟩) (by assumption) ?_
        rotate_left
        · intro w' hSw; (try dsimp only at hSw); go_simp; try with_reducible rfl
        try simp only [Act.put, List.getElem_toArray, List.getElem_cons_zero, List.getElem_cons_succ, List.setIfInBounds_toArray, List.set_cons_zero, List.set_cons_succ]
        refine wpAnyH_done (by kernel_rfl) ?_ _
        go_wp2_with fail
        go_ret
        exact ⟨by simp [aheadB, hxy, hyx], hJ2, ((Hf.out.mono (fun _ _ h => h.elim)).drew.trans HF1.out (fun _ _ h => h)).drew.trans hf2 (fun _ _ h => h)⟩
    · have hyx : True := trivial
      go_wp2_with fail
      go_region_held3 (fun w' => w'.cell? ⟨bh,0,none⟩ = some (.func (.func fl) #[] caps) ∧ w'.cell? ⟨ba,0,none⟩ = some (.int .u32 (wW xv)) ∧ w'.cell? ⟨ba,1,none⟩ = some (.int .i64 (wS xv)) ∧ w'.cell? ⟨ba,2,none⟩ = some (.int .i64 (wT xv)) ∧ w'.cell? ⟨ba,3,none⟩ = some (.int .i64 (wC xv)) ∧ w'.cell? ⟨ba,4,none⟩ = some (.int .i64 xh) ∧ w'.cell? ⟨bb,0,none⟩ = some (.int .u32 (wW yv)) ∧ w'.cell? ⟨bb,1,none⟩ = some (.int .i64 (wS yv)) ∧ w'.cell? ⟨bb,2,none⟩ = some (.int .i64 (wT yv)) ∧ w'.cell? ⟨bb,3,none⟩ = some (.int .i64 (wC yv)) ∧ w'.cell? ⟨bb,4,none⟩ = some (.int .i64 yh))
        (first | (go_keep; done) | (refine ⟨?_, ?_, ?_, ?_, ?_, ?_, ?_, ?_, ?_, ?_, ?_⟩ <;> (first | exact (hf1.cell lhc hbh).trans e0 | exact (hf1.cell lca na).trans a0 | exact (hf1.cell lca na).trans a1 | exact (hf1.cell lca na).trans a2 | exact (hf1.cell lca na).trans a3 | exact (hf1.cell lca na).trans a4 | exact (hf1.cell lcb nb).trans b0 | exact (hf1.cell lcb nb).trans b1 | exact (hf1.cell lcb nb).trans b2 | exact (hf1.cell lcb nb).trans b3 | exact (hf1.cell lcb nb).trans b4)))
        (first | (refine (HL.out.call _ xv yv (HL.out.keep _ _ hJc.out (Fr.drew (Fr.refl _ _))) hx hy).mono ?_; rintro e w1 ⟨rfl, hJ1, hf1⟩))
      go_wp2_with fail
      go_ret
      exact ⟨by simp [aheadB, hxy], hJ1, (Hf.out.mono (fun _ _ h => h.elim)).drew.trans hf1 (fun _ _ h => h)⟩
end Go.Proofs.Ytjfnaflbhmeokaa.Wt
