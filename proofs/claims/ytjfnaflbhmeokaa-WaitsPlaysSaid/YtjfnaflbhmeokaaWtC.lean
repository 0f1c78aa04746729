/- The order of waiting parties: cmp.Compare, cmp.Or, waits.order, and the heap's less. No condition. -/
import Derived.Test.YtjfnaflbhmeokaaWtE
import Derived.Test.YtjfnaflbhmeokaaWtO
import Derived.Test.YtjfnaflbhmeokaaEls
import Derived.Sort.Grow
import Derived.Deep.CutBlock
import Derived.Deep.LoopGhost
namespace Go.Proofs.Ytjfnaflbhmeokaa.Wt
open Go.RowKit Go.Lib Go.Sort
set_option maxRecDepth 100000 in
theorem isNaNI (x : Int) (w : World) : Calls Try.prog 102 #[.int .i64 x] w fun e w' => e = .returned (.bool false) ∧ w = w' := by
  have hb : (x != x) = false := by simp
  go_enter Try.func102, Try.ntmps102
  go_wp2_with fail
  go_ret
  exact ⟨rfl, rfl⟩
set_option maxRecDepth 100000 in
theorem compareI (x y : Int) (w : World) : Calls Try.prog 66 #[.int .i64 x, .int .i64 y] w fun e w' => e = .returned (.int .i64 (cmpI x y)) ∧ w = w' := by
  have hx := isNaNI x w
  have hy := isNaNI y w
  obtain ⟨c, hc⟩ : ∃ c, c = cmpI x y := ⟨_, rfl⟩
  rw [← hc]
  have hcase : (x < y ∧ c = -1) ∨ (¬ x < y ∧ y < x ∧ c = 1) ∨ (¬ x < y ∧ ¬ y < x ∧ c = 0) := by
    rw [hc]; unfold cmpI; split
    · left; exact ⟨by assumption, rfl⟩
    · split
      · right; left; exact ⟨by assumption, by assumption, rfl⟩
      · right; right; exact ⟨by assumption, by assumption, rfl⟩
  clear hc
  rcases hcase with ⟨h1, rfl⟩ | ⟨h1, h2, rfl⟩ | ⟨h1, h2, rfl⟩
  all_goals
    go_enter Try.func66, Try.ntmps66
    go_wp2_with fail
    refine hx.mono ?_
    rintro e w1 ⟨rfl, rfl⟩
    go_wp2_with fail
    refine hy.mono ?_
    rintro e w1 ⟨rfl, rfl⟩
    go_wp2_with fail
    go_ret
    exact ⟨rfl, rfl⟩
set_option maxRecDepth 100000 in
theorem isNaNL (x : Int) (w : World) : Calls Try.prog 103 #[.int .i64 x] w fun e w' => e = .returned (.bool false) ∧ w = w' := by
  have hb : (x != x) = false := by simp
  go_enter Try.func103, Try.ntmps103
  go_wp2_with fail
  go_ret
  exact ⟨rfl, rfl⟩
set_option maxRecDepth 100000 in
theorem compareL (x y : Int) (w : World) : Calls Try.prog 67 #[.int .i64 x, .int .i64 y] w fun e w' => e = .returned (.int .i64 (cmpI x y)) ∧ w = w' := by
  have hx := isNaNL x w
  have hy := isNaNL y w
  obtain ⟨c, hc⟩ : ∃ c, c = cmpI x y := ⟨_, rfl⟩
  rw [← hc]
  have hcase : (x < y ∧ c = -1) ∨ (¬ x < y ∧ y < x ∧ c = 1) ∨ (¬ x < y ∧ ¬ y < x ∧ c = 0) := by
    rw [hc]; unfold cmpI; split
    · left; exact ⟨by assumption, rfl⟩
    · split
      · right; left; exact ⟨by assumption, by assumption, rfl⟩
      · right; right; exact ⟨by assumption, by assumption, rfl⟩
  clear hc
  rcases hcase with ⟨h1, rfl⟩ | ⟨h1, h2, rfl⟩ | ⟨h1, h2, rfl⟩
  all_goals
    go_enter Try.func67, Try.ntmps67
    go_wp2_with fail
    refine hx.mono ?_
    rintro e w1 ⟨rfl, rfl⟩
    go_wp2_with fail
    refine hy.mono ?_
    rintro e w1 ⟨rfl, rfl⟩
    go_wp2_with fail
    go_ret
    exact ⟨rfl, rfl⟩
set_option maxRecDepth 100000 in
theorem isNaNU (x : Int) (w : World) : Calls Try.prog 104 #[.int .u32 x] w fun e w' => e = .returned (.bool false) ∧ w = w' := by
  have hb : (x != x) = false := by simp
  go_enter Try.func104, Try.ntmps104
  go_wp2_with fail
  go_ret
  exact ⟨rfl, rfl⟩
set_option maxRecDepth 100000 in
theorem compareU (x y : Int) (w : World) : Calls Try.prog 68 #[.int .u32 x, .int .u32 y] w fun e w' => e = .returned (.int .i64 (cmpI x y)) ∧ w = w' := by
  have hx := isNaNU x w
  have hy := isNaNU y w
  obtain ⟨c, hc⟩ : ∃ c, c = cmpI x y := ⟨_, rfl⟩
  rw [← hc]
  have hcase : (x < y ∧ c = -1) ∨ (¬ x < y ∧ y < x ∧ c = 1) ∨ (¬ x < y ∧ ¬ y < x ∧ c = 0) := by
    rw [hc]; unfold cmpI; split
    · left; exact ⟨by assumption, rfl⟩
    · split
      · right; left; exact ⟨by assumption, by assumption, rfl⟩
      · right; right; exact ⟨by assumption, by assumption, rfl⟩
  clear hc
  rcases hcase with ⟨h1, rfl⟩ | ⟨h1, h2, rfl⟩ | ⟨h1, h2, rfl⟩
  all_goals
    go_enter Try.func68, Try.ntmps68
    go_wp2_with fail
    refine hx.mono ?_
    rintro e w1 ⟨rfl, rfl⟩
    go_wp2_with fail
    refine hy.mono ?_
    rintro e w1 ⟨rfl, rfl⟩
    go_wp2_with fail
    go_ret
    exact ⟨rfl, rfl⟩
set_option maxRecDepth 100000 in
theorem or3 {w : World} {b : Nat} {v0 v1 v2 : Int} (hb : w.heap[b]? = some (.cells #[.int .i64 v0, .int .i64 v1, .int .i64 v2] 3 (0, 0))) :
    Calls Try.prog 65 #[.slice (some ⟨b, 0, none⟩) 3 3] w fun e w' => e = .returned (.int .i64 (orI v0 (orI v1 v2))) ∧ w = w' := by
  have c0 := (cell_of hb 0).trans (show _ = some (Value.int .i64 v0) from rfl)
  have c1 := (cell_of hb 1).trans (show _ = some (Value.int .i64 v1) from rfl)
  have c2 := (cell_of hb 2).trans (show _ = some (Value.int .i64 v2) from rfl)
  obtain ⟨r, hr⟩ : ∃ r, r = orI v0 (orI v1 v2) := ⟨_, rfl⟩
  rw [← hr]
  have HR := Lib.hid hr
  clear hb hr
  go_enter Try.func65, Try.ntmps65
  go_wp2_with fail
  go_loopw [8] (fun s8 wr => ∃ k : Nat, k ≤ 3 ∧ s8 = .int .i64 k ∧ (1 ≤ k → v0 = 0) ∧ (2 ≤ k → v1 = 0) ∧ (3 ≤ k → v2 = 0) ∧ wr = w) (fun s8 _ => 3 - (intOf s8).toNat)
  case atStart => exact ⟨0, by omega, rfl, by omega, by omega, by omega, rfl⟩
  case round =>
    obtain ⟨k, hk, rfl, h0, h1, h2, rfl⟩ := hrel
    have hk4 : k = 0 ∨ k = 1 ∨ k = 2 ∨ k = 3 := by omega
    have H0 := Lib.hid h0; have H1 := Lib.hid h1; have H2 := Lib.hid h2
    clear h0 h1 h2 hk
    rcases hk4 with rfl | rfl | rfl | rfl
    · by_cases e : v0 = 0
      · have hb : (v0 != 0) = false := by simp [e]
        go_wp2_with fail
        go_roundw
        case rel => exact ⟨1, by omega, rfl, fun _ => e, by omega, by omega, by trivial⟩
        case measure => simp [intOf]
      · have hb : (v0 != 0) = true := by simp [e]
        go_wp2_with fail
        go_ret
        exact ⟨by rw [HR.out]; unfold orI; rw [if_neg e]; rfl, rfl⟩
    · by_cases e : v1 = 0
      · have hb : (v1 != 0) = false := by simp [e]
        go_wp2_with fail
        go_roundw
        case rel => exact ⟨2, by omega, rfl, fun _ => H0.out (by omega), fun _ => e, by omega, by trivial⟩
        case measure => simp [intOf]
      · have hb : (v1 != 0) = true := by simp [e]
        go_wp2_with fail
        go_ret
        exact ⟨by rw [HR.out]; unfold orI; rw [if_pos (H0.out (by omega)), if_neg e]; rfl, rfl⟩
    · by_cases e : v2 = 0
      · have hb : (v2 != 0) = false := by simp [e]
        go_wp2_with fail
        go_roundw
        case rel => exact ⟨3, by omega, rfl, fun _ => H0.out (by omega), fun _ => H1.out (by omega), fun _ => e, by trivial⟩
        case measure => simp [intOf]
      · have hb : (v2 != 0) = true := by simp [e]
        go_wp2_with fail
        go_ret
        exact ⟨by rw [HR.out]; unfold orI; rw [if_pos (H0.out (by omega)), if_pos (H1.out (by omega))]; rfl, rfl⟩
    · go_wp2_with fail
      go_ret
      exact ⟨by rw [HR.out]; unfold orI; rw [if_pos (H0.out (by omega)), if_pos (H1.out (by omega)), H2.out (by omega)]; rfl, rfl⟩
noncomputable abbrev wtV (x : Int) : Value := .agg #[.int .u32 (wW x), .int .i64 (wS x), .int .i64 (wT x), .int .i64 (wC x)]
theorem Fr.grown {F : Nat → Prop} {w w' : World} (h : ∃ q os', w' = grow (World.drewN w q) os') : Fr F w w' := by
  obtain ⟨q, os', rfl⟩ := h
  exact ⟨rfl, rfl, rfl, by simp [World.drewN], fun k hk _ => heap_grow_old _ _ hk⟩
theorem grown3 (w : World) (a b c : Obj) : ∃ q os', (((w.alloc a).alloc b).alloc c).drew = grow (w.drewN q) os' :=
  ⟨1, #[a] ++ #[b] ++ #[c], by rw [alloc_eq_grow, alloc_eq_grow, alloc_eq_grow, grow_grow, grow_grow]; rfl⟩
set_option maxRecDepth 100000 in
set_option maxHeartbeats 1000000 in
theorem order_ok (x y : Int) (w : World) : Calls Try.prog 32 #[wtV x, wtV y] w fun e w' => e = .returned (.int .i64 (ordW x y)) ∧ ∃ q os', w' = grow (w.drewN q) os' := by
  obtain ⟨b2, hb2⟩ : ∃ b, b = w.heap.size := ⟨_, rfl⟩
  obtain ⟨W, hW⟩ : ∃ W, W = (w.alloc (.cells #[.int .u32 (wW x), .int .i64 (wS x), .int .i64 (wT x), .int .i64 (wC x)] 32)).alloc (.cells #[.int .u32 (wW y), .int .i64 (wS y), .int .i64 (wT y), .int .i64 (wC y)] 32) := ⟨_, rfl⟩
  have g2 : W.heap[b2]? = some (.cells #[.int .u32 (wW x), .int .i64 (wS x), .int .i64 (wT x), .int .i64 (wC x)] 32 (0, 0)) := by rw [hW, hb2]; simp only [heap_alloc_get, World.size_alloc]; simp
  have g3 : W.heap[b2 + 1]? = some (.cells #[.int .u32 (wW y), .int .i64 (wS y), .int .i64 (wT y), .int .i64 (wC y)] 32 (0, 0)) := by rw [hW, hb2]; simp only [heap_alloc_get, World.size_alloc]; simp
  have a0 := (cell_of g2 0).trans (show _ = some (Value.int .u32 (wW x)) from rfl)
  have a2 := (cell_of g2 2).trans (show _ = some (Value.int .i64 (wT x)) from rfl)
  have a3 := (cell_of g2 3).trans (show _ = some (Value.int .i64 (wC x)) from rfl)
  have d0 := (cell_of g3 0).trans (show _ = some (Value.int .u32 (wW y)) from rfl)
  have d2 := (cell_of g3 2).trans (show _ = some (Value.int .i64 (wT y)) from rfl)
  have d3 := (cell_of g3 3).trans (show _ = some (Value.int .i64 (wC y)) from rfl)
  have HW := Lib.hid hW
  clear g2 g3
  go_enter Try.func32, Try.ntmps32
  go_upto_region 1 with fail
  rw [← hb2, ← hW]
  clear hW hb2
  go_region_held3 (fun w' => w'.cell? ⟨b2, 0, none⟩ = some (.int .u32 (wW x)) ∧ w'.cell? ⟨b2, 2, none⟩ = some (.int .i64 (wT x)) ∧ w'.cell? ⟨b2, 3, none⟩ = some (.int .i64 (wC x)) ∧ w'.cell? ⟨b2 + 1, 0, none⟩ = some (.int .u32 (wW y)) ∧ w'.cell? ⟨b2 + 1, 2, none⟩ = some (.int .i64 (wT y)) ∧ w'.cell? ⟨b2 + 1, 3, none⟩ = some (.int .i64 (wC y))) (go_keep) (first
    | (go_at_call 66; refine (compareI (wT y) (wT x) _).mono ?_; rintro e w1 ⟨rfl, rfl⟩)
    | (go_at_call 67; refine (compareL (wC x) (wC y) _).mono ?_; rintro e w1 ⟨rfl, rfl⟩)
    | (go_at_call 68; refine (compareU (wW x) (wW y) _).mono ?_; rintro e w1 ⟨rfl, rfl⟩)
    | (go_at_call 65; refine (or3 (w := (W.alloc _).drew) (heap_alloc_at W _)).mono ?_; rintro e w1 ⟨rfl, rfl⟩))
  go_wp2_with fail
  go_ret
  refine ⟨rfl, ?_⟩
  rw [HW.out]
  exact grown3 _ _ _ _
end Go.Proofs.Ytjfnaflbhmeokaa.Wt
