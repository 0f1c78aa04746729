/- The document's list of waiting parties in memory; Ahead, May, place. No condition. -/
import Derived.Test.YtjfnaflbhmeokaaWtAw
namespace Go.Proofs.Ytjfnaflbhmeokaa.Wt
open Go.Shelf Go.RowKit
/-- The document's list in block rb has the parties S; G: its own blocks. -/
structure RfAt (G : Nat → Prop) (rb : Nat) (S : List Int) (w : World) : Prop where
  ex : ∃ sv, w.heap[rb]? = some (.cells #[sv] 28 (0, 0)) ∧ Wts w sv S ∧ ∀ b, sv.ownBlock = some b → G b ∧ b ≠ rb
  gr : G rb
  bd : ∀ b, G b → b < w.heap.size
  few : S.length ≤ 1024
theorem RfAt.fr {G : Nat → Prop} {rb : Nat} {S : List Int} {w w' : World} (h : RfAt G rb S w) {F : Nat → Prop} (hf : Fr F w w') (hn : ∀ b, G b → ¬ F b) : RfAt G rb S w' := by
  obtain ⟨sv, h1, h2, h3⟩ := h.ex
  exact ⟨⟨sv, hf.get h1 (hn _ h.gr), Row.fr h2 hf (fun b hb => hn b (h3 b hb).1), h3⟩, h.gr, fun b hb => Nat.lt_of_lt_of_le (h.bd b hb) hf.size, h.few⟩
set_option maxRecDepth 100000 in
theorem ahead_ok (x y : Int) (w : World) : Calls Try.prog 106 #[wtV x, wtV y] w fun e w' => e = .returned (.bool (ltW x y)) ∧ Fr (fun _ => False) w w' := by
  obtain ⟨W, hW⟩ : ∃ W, W = (w.alloc (.cells #[.int .u32 (wW x), .int .i64 (wS x), .int .i64 (wT x), .int .i64 (wC x)] 32)).alloc (.cells #[.int .u32 (wW y), .int .i64 (wS y), .int .i64 (wT y), .int .i64 (wC y)] 32) := ⟨_, rfl⟩
  obtain ⟨p, hp⟩ : ∃ p, p = w.heap.size := ⟨_, rfl⟩
  have f0 : Fr (fun _ => False) w W := by rw [hW]; exact Fr.alloc (Fr.alloc (Fr.refl _ _) _) _
  have g2 : W.heap[p]? = some (.cells #[.int .u32 (wW x), .int .i64 (wS x), .int .i64 (wT x), .int .i64 (wC x)] 32 (0, 0)) := by rw [hW, hp]; simp only [heap_alloc_get, World.size_alloc]; simp
  have g3 : W.heap[p + 1]? = some (.cells #[.int .u32 (wW y), .int .i64 (wS y), .int .i64 (wT y), .int .i64 (wC y)] 32 (0, 0)) := by rw [hW, hp]; simp only [heap_alloc_get, World.size_alloc]; simp
  obtain ⟨a0, a1, a2, a3⟩ := boxW_cells g2
  obtain ⟨b0, b1, b2, b3⟩ := boxW_cells g3
  have F0 := Lib.hid f0
  clear g2 g3 f0
  obtain ⟨r, hr⟩ : ∃ r, r = ltW x y := ⟨_, rfl⟩
  rw [← hr]
  have hc : ((wT x != wT y) = true ∧ decide (wT x > wT y) = r) ∨ ((wT x != wT y) = false ∧ (wC x != wC y) = true ∧ decide (wC x < wC y) = r) ∨ ((wT x != wT y) = false ∧ (wC x != wC y) = false ∧ decide (wW x < wW y) = r) := by
    have h1 := @ltW_iff x y
    rw [← hr] at h1
    by_cases e1 : wT x = wT y
    · by_cases e2 : wC x = wC y
      · right; right
        refine ⟨by simp [e1], by simp [e2], ?_⟩
        cases r <;> simp at h1 ⊢ <;> omega
      · right; left
        refine ⟨by simp [e1], by simpa using e2, ?_⟩
        cases r <;> simp at h1 ⊢ <;> omega
    · left
      refine ⟨by simpa using e1, ?_⟩
      cases r <;> simp at h1 ⊢ <;> omega
  clear hr
  go_enter Try.func106, Try.ntmps106
  go_upto_region 1 with fail
  rw [← hp, ← hW]
  clear hW hp
  rcases hc with ⟨t1, t2⟩ | ⟨t1, t2, t3⟩ | ⟨t1, t2, t3⟩
  all_goals
    go_wp2_with fail
    go_ret
    refine ⟨?_, F0.out⟩
  · rw [← t2]; rfl
  · rw [← t3]; rfl
  · rw [← t3]; rfl
set_option maxRecDepth 100000 in
theorem rmay_ok (a b c d : Int) (w : World) : Calls Try.prog 71 #[rawW a b c d] w fun e w' => e = .returned (.bool (mayB a b c d)) ∧ Fr (fun _ => False) w w' := by
  have f0 : Fr (fun _ => False) w (w.alloc (.cells #[.int .u32 a, .int .i64 b, .int .i64 c, .int .i64 d] 32)) := Fr.alloc (Fr.refl _ _) _
  have gz : (w.alloc (.cells #[.int .u32 a, .int .i64 b, .int .i64 c, .int .i64 d] 32)).heap[w.heap.size]? = some (.cells #[.int .u32 a, .int .i64 b, .int .i64 c, .int .i64 d] 32 (0, 0)) := heap_alloc_at _ _
  have x0 := (cell_of gz 0).trans (show _ = some (Value.int .u32 a) from rfl)
  have x1 := (cell_of gz 1).trans (show _ = some (Value.int .i64 b) from rfl)
  have x2 := (cell_of gz 2).trans (show _ = some (Value.int .i64 c) from rfl)
  have x3 := (cell_of gz 3).trans (show _ = some (Value.int .i64 d) from rfl)
  have F0 := Lib.hid f0
  clear gz f0
  obtain ⟨q0, h0⟩ : ∃ q, (a != 0) = q := ⟨_, rfl⟩
  obtain ⟨q1, h1⟩ : ∃ q, decide (1 ≤ b) = q := ⟨_, rfl⟩
  obtain ⟨q2, h2⟩ : ∃ q, decide (b ≤ 16) = q := ⟨_, rfl⟩
  obtain ⟨q3, h3⟩ : ∃ q, decide (0 ≤ c) = q := ⟨_, rfl⟩
  obtain ⟨q4, h4⟩ : ∃ q, decide (c ≤ 9) = q := ⟨_, rfl⟩
  obtain ⟨q5, h5⟩ : ∃ q, decide (0 ≤ d) = q := ⟨_, rfl⟩
  obtain ⟨q6, h6⟩ : ∃ q, decide (d ≤ 1099511627776) = q := ⟨_, rfl⟩
  have hm : mayB a b c d = (q0 && (q1 && (q2 && (q3 && (q4 && (q5 && q6)))))) := by unfold mayB; rw [h0, h1, h2, h3, h4, h5, h6]
  rw [hm]
  clear hm
  cases q0 with
  | false =>
    clear h1
    clear h2
    clear h3
    clear h4
    clear h5
    clear h6
    go_enter Try.func71, Try.ntmps71
    go_upto_region 1 with fail
    generalize (w.alloc (.cells #[.int .u32 a, .int .i64 b, .int .i64 c, .int .i64 d] 32)) = W at *
    go_wp2_with fail
    go_ret
    exact ⟨rfl, F0.out⟩
  | true =>
    cases q1 with
    | false =>
      clear h2
      clear h3
      clear h4
      clear h5
      clear h6
      go_enter Try.func71, Try.ntmps71
      go_upto_region 1 with fail
      generalize (w.alloc (.cells #[.int .u32 a, .int .i64 b, .int .i64 c, .int .i64 d] 32)) = W at *
      go_wp2_with fail
      go_ret
      exact ⟨rfl, F0.out⟩
    | true =>
      cases q2 with
      | false =>
        clear h3
        clear h4
        clear h5
        clear h6
        go_enter Try.func71, Try.ntmps71
        go_upto_region 1 with fail
        generalize (w.alloc (.cells #[.int .u32 a, .int .i64 b, .int .i64 c, .int .i64 d] 32)) = W at *
        go_wp2_with fail
        go_ret
        exact ⟨rfl, F0.out⟩
      | true =>
        cases q3 with
        | false =>
          clear h4
          clear h5
          clear h6
          go_enter Try.func71, Try.ntmps71
          go_upto_region 1 with fail
          generalize (w.alloc (.cells #[.int .u32 a, .int .i64 b, .int .i64 c, .int .i64 d] 32)) = W at *
          go_wp2_with fail
          go_ret
          exact ⟨rfl, F0.out⟩
        | true =>
          cases q4 with
          | false =>
            clear h5
            clear h6
            go_enter Try.func71, Try.ntmps71
            go_upto_region 1 with fail
            generalize (w.alloc (.cells #[.int .u32 a, .int .i64 b, .int .i64 c, .int .i64 d] 32)) = W at *
            go_wp2_with fail
            go_ret
            exact ⟨rfl, F0.out⟩
          | true =>
            cases q5 with
            | false =>
              clear h6
              go_enter Try.func71, Try.ntmps71
              go_upto_region 1 with fail
              generalize (w.alloc (.cells #[.int .u32 a, .int .i64 b, .int .i64 c, .int .i64 d] 32)) = W at *
              go_wp2_with fail
              go_ret
              exact ⟨rfl, F0.out⟩
            | true =>
              cases q6 with
              | false =>
                go_enter Try.func71, Try.ntmps71
                go_upto_region 1 with fail
                generalize (w.alloc (.cells #[.int .u32 a, .int .i64 b, .int .i64 c, .int .i64 d] 32)) = W at *
                go_wp2_with fail
                go_ret
                exact ⟨rfl, F0.out⟩
              | true =>
                go_enter Try.func71, Try.ntmps71
                go_upto_region 1 with fail
                generalize (w.alloc (.cells #[.int .u32 a, .int .i64 b, .int .i64 c, .int .i64 d] 32)) = W at *
                go_wp2_with fail
                go_ret
                exact ⟨rfl, F0.out⟩
end Go.Proofs.Ytjfnaflbhmeokaa.Wt
