/- Laws of waiting parties: has. No condition. -/
import Derived.Test.YtiebcmlfppepaaaWtJo
namespace Go.Proofs.Ytiebcmlfppepaaa.Wt
open Go.Shelf Go.RowKit
set_option maxRecDepth 100000 in
set_option maxHeartbeats 2000000 in
theorem has_ok {w : World} {va : Value} {L : List Int} (h1 : Wts w va L) (hn : L.length ≤ 1000000) (x : Int) : Calls Try.prog 20 #[va, wtV x] w fun e w' => e = .returned (.bool (decide (x ∈ L))) ∧ Fr (fun _ => False) w w' := by
  obtain ⟨a1, c1, e1⟩ := wts_slice h1
  subst e1
  obtain ⟨n, hnn⟩ : ∃ n, n = L.length := ⟨_, rfl⟩
  rw [← hnn] at h1 hn ⊢
  obtain ⟨W, hW⟩ : ∃ W, W = w.alloc (.cells #[.int .u32 (wW x), .int .i64 (wS x), .int .i64 (wT x), .int .i64 (wC x)] 51) := ⟨_, rfl⟩
  obtain ⟨bx, hbx⟩ : ∃ b, b = w.heap.size := ⟨_, rfl⟩
  have f0 : Fr (fun _ => False) w W := by rw [hW]; exact Fr.alloc (Fr.refl _ _) _
  have gz : W.heap[bx]? = some (.cells #[.int .u32 (wW x), .int .i64 (wS x), .int .i64 (wT x), .int .i64 (wC x)] 51 (0, 0)) := by rw [hW, hbx]; exact heap_alloc_at _ _
  have hL0 : Wts W (.slice a1 n c1) L := Row.fr h1 f0 (fun _ _ h => h)
  have H1 := Lib.hid hL0; have HN := Lib.hid hnn; have Hn6 := Lib.hid hn; have Gz := Lib.hid gz; have F0 := Lib.hid f0
  clear h1 hnn hn f0 gz hL0
  go_enter Try.func20, Try.ntmps20
  go_upto_region 1 with fail
  rw [← hW, ← hbx]
  clear hW hbx
  go_wp2_with fail
  go_loopw [5] (fun s5 wr => ∃ k : Nat, k ≤ n ∧ s5 = .int .i64 k ∧ x ∉ L.take k ∧ Fr (fun _ => False) W wr) (fun s5 _ => n - (intOf s5).toNat)
  case atStart => exact ⟨0, Nat.zero_le _, rfl, by simp, Fr.refl _ _⟩
  case round =>
    obtain ⟨k, hk, rfl, htk, hfr⟩ := hrel
    have Htk := Lib.hid htk; have Hfr := Lib.hid hfr
    clear htk
    by_cases hlt : k < n
    · have hlt' : (k : Int) < (n : Int) := by omega
      have k0 : (0 : Int) ≤ (k : Int) := by omega
      have hL' : Wts wr (.slice a1 n c1) L := by have := H1.out; exact Row.fr this hfr (fun _ _ h => h)
      obtain ⟨g, cap, e1, d0, d1, d2, d3⟩ := hL'.cells (k := k) (by rw [← HN.out]; exact hlt)
      simp only [Value.slice.injEq] at e1
      obtain ⟨rfl, -, rfl⟩ := e1
      obtain ⟨b0, b1, b2, b3⟩ := boxW_cells (hfr.get Gz.out (fun h => h))
      obtain ⟨y, hy⟩ : ∃ y, y = L.getD k 0 := ⟨_, rfl⟩
      rw [← hy] at d0 d1 d2 d3
      have hq := fun W => eqlW W y x
      obtain ⟨k1, hk1⟩ : ∃ k1, k1 = k + 1 := ⟨_, rfl⟩
      have e1 : (k : Int) + 1 = (k1 : Int) := by omega
      have e2 : wrap64 (k1 : Int) = (k1 : Int) := by unfold wrap64; have := Hn6.out; omega
      have e3 : IntKind.i64.wrap (k1 : Int) = (k1 : Int) := by rw [IntKind.wrap_i64]; have := Hn6.out; omega
      have HY := Lib.hid hy; have HK1 := Lib.hid hk1; have Hlt := Lib.hid hlt
      clear hy hk1 hlt hk hL' hfr
      by_cases e : y = x
      · rw [decide_eq_true e] at hq
        have He := Lib.hid e
        clear e
        go_upto_region 4 with fail
        go_still (by kernel_rfl)
        go_wp2_with fail
        go_ret
        refine ⟨?_, (F0.out.trans Hfr.out (fun _ _ h => h)).drew⟩
        have : x ∈ L := by
          have hkl : k < L.length := by rw [← HN.out]; exact Hlt.out
          rw [← He.out, HY.out]; simp [hkl]
        rw [decide_eq_true this]; rfl
      · rw [decide_eq_false e] at hq
        have He := Lib.hid e
        clear e
        go_upto_region 4 with fail
        go_still (by kernel_rfl)
        go_wp2_with fail
        go_roundw
        case rel => exact ⟨k1, by have := HK1.out; have := Hlt.out; omega, rfl, by
          rw [HK1.out, ← take_snocS (by rw [← HN.out]; exact Hlt.out), ← HY.out]
          simp only [List.mem_append, List.mem_singleton, not_or]
          exact ⟨Htk.out, fun h => He.out h.symm⟩, Hfr.out.drew⟩
        case measure => have := HK1.out; have := Hlt.out; simp [intOf]; omega
    · obtain rfl : k = n := by omega
      clear hlt hk hfr
      go_wp2_with fail
      go_ret
      refine ⟨?_, F0.out.trans Hfr.out (fun _ _ h => h)⟩
      have : ¬ x ∈ L := by
        have := Htk.out
        rwa [List.take_of_length_le (by rw [← HN.out]; exact Nat.le_refl _)] at this
      rw [decide_eq_false this]; rfl
end Go.Proofs.Ytiebcmlfppepaaa.Wt
