/- The document's index: at, Set, Get, New, Slots. No condition. -/
import Derived.Test.YtoehdpfcnpdhnaaIxRa
namespace Go.Proofs.Ytoehdpfcnpdhnaa.Ix
open Go.RowKit
theorem mid {lo hi n : Nat} (h : lo < hi) (hn : hi ≤ n) (h8 : n ≤ 8192) : ∃ s m m1 : Nat, (lo : Int) + (hi : Int) = (s : Int) ∧ wrap64 (s : Int) = (s : Int) ∧ IntKind.i64.wrap (s : Int) = (s : Int) ∧
    wrap64 ((s : Int) / 2) = (m : Int) ∧ IntKind.i64.wrap ((s : Int) / 2) = (m : Int) ∧ (s : Int).tdiv 2 = (m : Int) ∧ (s : Int) / 2 = (m : Int) ∧ wrap64 (m : Int) = (m : Int) ∧ IntKind.i64.wrap (m : Int) = (m : Int) ∧
    (lo ≤ m ∧ m < hi) ∧ m < n ∧ (m : Int) < (n : Int) ∧ (0 : Int) ≤ (m : Int) ∧ m1 = m + 1 ∧ (m : Int) + 1 = (m1 : Int) ∧ wrap64 (m1 : Int) = (m1 : Int) ∧ IntKind.i64.wrap (m1 : Int) = (m1 : Int) := by
  obtain ⟨e2, e3, -⟩ := wrap_small (x := lo + hi) (by omega)
  obtain ⟨m, hm, d1, d2, d3, d4, d5, d6⟩ := half (lo + hi) (by omega)
  have hml : lo ≤ m ∧ m < hi := by subst hm; clear d1 d2 d3 d4 d5 d6 e2 e3; omega
  clear hm
  obtain ⟨p2, p3, -⟩ := wrap_small (x := m + 1) (by clear d1 d2 d3 d4 d5 d6 e2 e3; omega)
  exact ⟨lo + hi, m, m + 1, by clear d1 d2 d3 d4 d5 d6 e2 e3 p2 p3; omega, e2, e3, d1, d2, d3, d4, d5, d6, hml, by clear d1 d2 d3 d4 d5 d6 e2 e3 p2 p3; omega, by clear d1 d2 d3 d4 d5 d6 e2 e3 p2 p3; omega, by clear d1 d2 d3 d4 d5 d6 e2 e3 p2 p3; omega, rfl, by clear d1 d2 d3 d4 d5 d6 e2 e3 p2 p3; omega, p2, p3⟩
set_option maxRecDepth 100000 in
set_option maxHeartbeats 2000000 in
theorem at_ok {w : World} {rh : Nat} {sv : Value} {L : List (Nat × Int)} {most : Nat} (h : RefAt w rh sv L most) (hu : L.Pairwise fun a b => a.1 < b.1) (id : Nat) :
    Calls Try.prog 81 #[.pointer (some ⟨rh, 0, none⟩), .int .u32 (id : Int)] w fun e w' => ∃ k : Nat, e = .returned (.tuple #[.int .i64 (k : Int), .bool (look L id).isSome]) ∧ CutK L id k ∧ Fr (fun _ => False) w w' := by
  obtain ⟨a, c, rfl, -, -⟩ := h.shape
  obtain ⟨n, hn⟩ : ∃ n, n = L.length := ⟨_, rfl⟩
  rw [← hn] at h
  have c1 := h.c1
  have H := Lib.hid h; have Hn := Lib.hid hn; have HU := Lib.hid hu; have H8 := Lib.hid (show n ≤ 8192 by rw [hn]; exact h.few)
  clear h hn hu
  go_enter Try.func81, Try.ntmps81
  go_upto_region 1 with fail
  go_still (by kernel_rfl)
  go_upto_block 0 with fail
  have f1 : Fr (fun _ => False) w w.drew := Fr.drew (Fr.refl _ _)
  try change Code.wp _ _ _ _ w.drew
  have c1 : w.drew.cell? ⟨rh, 1, none⟩ = some (.slice a n c) := c1
  have F1 := Lib.hid f1
  generalize hw1 : w.drew = w1 at *
  have HA := Lib.hid (show RefAt w1 rh (.slice a n c) L most from H.out.fr F1.out (fun _ _ h => h))
  clear hw1 f1
  go_cut [6] (fun s6 wx => ∃ k : Nat, s6 = .int .i64 (k : Int) ∧ CutK L id k ∧ wx = w1)
  case first =>
    go_wp2_with fail
    go_loopw [6, 7] (fun s6 s7 wr => ∃ lo hi : Nat, s6 = .int .i64 (lo : Int) ∧ s7 = .int .i64 (hi : Int) ∧ lo ≤ hi ∧ hi ≤ n ∧ (∀ j, j < lo → (liAt L j).1 < id) ∧ (∀ j, hi ≤ j → j < n → id ≤ (liAt L j).1) ∧ wr = w1) (fun s6 s7 _ => (intOf s7).toNat - (intOf s6).toNat)
    case atStart => exact ⟨0, n, rfl, rfl, Nat.zero_le _, Nat.le_refl _, fun j hj => absurd hj (Nat.not_lt_zero _), fun j h1 h2 => absurd h2 (by omega), rfl⟩
    case round =>
      obtain ⟨lo, hi, rfl, rfl, hlh, hhn, hlo, hhi, rfl⟩ := hrel
      by_cases hlt : lo < hi
      · have hlt' : (lo : Int) < (hi : Int) := by omega
        obtain ⟨s, m, m1, e1, e2, e3, d1, d2, d3, d4, d5, d6, hml, hmn, hmi, hm0, hm1, p1, p2, p3⟩ := mid hlt hhn H8.out
        obtain ⟨g, rfl, k0, -, -⟩ := row2_cells HA.out.row (k := m) (by rw [← Hn.out]; exact hmn)
        obtain ⟨x, hx⟩ : ∃ x, x = (liAt L m).1 := ⟨_, rfl⟩
        rw [← hx] at k0
        have Hlo := Lib.hid hlo; have Hhi := Lib.hid hhi; have Hx := Lib.hid hx; have Hm := Lib.hid hml; have Hmn := Lib.hid hmn; have Hm1 := Lib.hid hm1; have Hhn := Lib.hid hhn
        clear hlo hhi hx hml hmn hm1 hlt hlh hhn
        by_cases hc : x < id
        · have hc' : (x : Int) < (id : Int) := Int.ofNat_lt.2 hc
          have Hc := Lib.hid hc
          clear hc
          go_wp2_with fail
          go_roundw
          case rel => exact ⟨m1, hi, rfl, rfl, by rw [Hm1.out]; exact Hm.out.2, Hhn.out, fun j hj => by
            rcases Nat.lt_succ_iff_lt_or_eq.1 (show j < m + 1 by rw [← Hm1.out]; exact hj) with h | rfl
            · exact Nat.lt_trans (up_at HU.out h (by rw [← Hn.out]; exact Hmn.out)) (by rw [← Hx.out]; exact Hc.out)
            · rw [← Hx.out]; exact Hc.out, Hhi.out, by first | rfl | trivial⟩
          case measure =>
            have := Hm.out; have := Hm1.out
            clear d1 d2 d3 d4 d5 d6 e1 e2 e3 p1 p2 p3
            simp [intOf]; omega
        · have hc' : ¬ (x : Int) < (id : Int) := fun h => hc (Int.ofNat_lt.1 h)
          have Hc := Lib.hid hc
          clear hc
          go_wp2_with fail
          go_roundw
          case rel => exact ⟨lo, m, rfl, rfl, Hm.out.1, Nat.le_of_lt Hmn.out, Hlo.out, fun j h1 h2 => by
            have hx : id ≤ (liAt L m).1 := by rw [← Hx.out]; exact Nat.le_of_not_lt Hc.out
            rcases Nat.lt_or_eq_of_le h1 with h | rfl
            · exact Nat.le_trans hx (Nat.le_of_lt (up_at HU.out h (by rw [← Hn.out]; exact h2)))
            · exact hx, by first | rfl | trivial⟩
          case measure =>
            have := Hm.out
            clear d1 d2 d3 d4 d5 d6 e1 e2 e3 p1 p2 p3
            simp [intOf]; omega
      · have hlt' : ¬ (lo : Int) < (hi : Int) := by omega
        obtain rfl : lo = hi := by omega
        have HC := Lib.hid (show CutK L id lo from ⟨by rw [← Hn.out]; exact hhn, hlo, fun j h1 h2 => hhi j h1 (by rw [Hn.out]; exact h2)⟩)
        clear hlo hhi hlt hlh hhn
        go_wp2_with fail
        go_meet
        exact ⟨lo, rfl, HC.out, rfl⟩
  case rest =>
  obtain ⟨k, rfl, hC, rfl⟩ := hcut
  have ht := hC.there HU.out
  rw [← Hn.out] at ht
  by_cases hkn : k < n
  · have hkn' : (k : Int) < (n : Int) := by omega
    have hk0 : (0 : Int) ≤ (k : Int) := by omega
    obtain ⟨g, rfl, k0, -, -⟩ := row2_cells HA.out.row (k := k) (by rw [← Hn.out]; exact hkn)
    obtain ⟨x, hx⟩ : ∃ x, x = (liAt L k).1 := ⟨_, rfl⟩
    rw [← hx] at k0 ht
    rw [decide_eq_true hkn, Bool.true_and] at ht
    obtain ⟨bq, hbq⟩ : ∃ bq, ((x : Int) == (id : Int)) = bq := ⟨_, rfl⟩
    have hbq2 : (x == id) = bq := by rw [← hbq, Bool.eq_iff_iff]; simp; omega
    rw [hbq2] at ht
    have HT := Lib.hid ht; have HC := Lib.hid hC
    clear ht hC hx hkn hbq2
    go_upto_region 7 with fail
    go_still (by kernel_rfl)
    go_wp2_with fail
    refine bodyPost_ret (v := .tuple #[.int .i64 (k : Int), .bool bq]) ?_ rfl ?_
    · simp [results, Try.results81, Try.f81, go_sem]
    · exact ⟨k, by rw [HT.out], HC.out, F1.out.drew⟩
  · have hkn' : ¬ (k : Int) < (n : Int) := by omega
    have hb1 : decide ((k : Int) < (n : Int)) = false := by simpa using hkn
    have hb2 : decide (k < n) = false := by simpa using hkn
    rw [hb2, Bool.false_and] at ht
    have HT := Lib.hid ht; have HC := Lib.hid hC
    clear ht hC
    go_upto_region 7 with fail
    refine wp_region_held_drew (S := fun w' => w'.cell? ⟨rh, 1, none⟩ = some (.slice a n c)) (by kernel_rfl) (by exact c1) (fun hHeld => ?_)
    refine wpAnyH_take (i := 0) (v := ?_) rfl (by kernel_rfl) (by kernel_rfl) (by kernel_rfl) (fun _ _ _ h => h) (Or.inl ⟨by rfl, ?_⟩) (by assumption) ?_
    rotate_left
    · intro w' hSw; (try dsimp only at hSw); go_simp; try with_reducible rfl
    try simp only [Act.put, List.getElem_toArray, List.getElem_cons_zero, List.getElem_cons_succ, List.setIfInBounds_toArray, List.set_cons_zero, List.set_cons_succ]
    refine wpAnyH_take (i := 1) (v := ?_) rfl (by kernel_rfl) (by kernel_rfl) (by kernel_rfl) (fun _ _ _ h => h) (Or.inl ⟨by rfl, ?_⟩) (by assumption) ?_
    rotate_left
    · intro w' hSw; (try dsimp only at hSw); go_simp; try with_reducible rfl
    try simp only [Act.put, List.getElem_toArray, List.getElem_cons_zero, List.getElem_cons_succ, List.setIfInBounds_toArray, List.set_cons_zero, List.set_cons_succ]
    refine wpAnyH_take (i := 2) (v := ?_) rfl (by kernel_rfl) (by kernel_rfl) (by kernel_rfl) (fun _ _ _ h => h) (Or.inl ⟨by rfl, ?_⟩) (by assumption) ?_
    rotate_left
    · intro w' hSw; (try dsimp only at hSw); go_simp; try with_reducible rfl
    try simp only [Act.put, List.getElem_toArray, List.getElem_cons_zero, List.getElem_cons_succ, List.setIfInBounds_toArray, List.set_cons_zero, List.set_cons_succ]
    refine wpAnyH_take (i := 3) (v := ?_) rfl (by kernel_rfl) (by kernel_rfl) (by kernel_rfl) (fun _ _ _ h => h) (Or.inl ⟨by rfl, ?_⟩) (by assumption) ?_
    rotate_left
    · intro w' hSw; (try dsimp only at hSw); go_simp; try with_reducible rfl
    try simp only [Act.put, List.getElem_toArray, List.getElem_cons_zero, List.getElem_cons_succ, List.setIfInBounds_toArray, List.set_cons_zero, List.set_cons_succ]
    refine wpAnyH_take (i := 4) (v := ?_) rfl (by kernel_rfl) (by kernel_rfl) (by kernel_rfl) (fun _ _ _ h => h) (Or.inl ⟨by rfl, ?_⟩) (by assumption) ?_
    rotate_left
    · intro w' hSw; (try dsimp only at hSw); go_simp; try with_reducible rfl
    try simp only [Act.put, List.getElem_toArray, List.getElem_cons_zero, List.getElem_cons_succ, List.setIfInBounds_toArray, List.set_cons_zero, List.set_cons_succ]
    refine wpAnyH_take (i := 5) (v := ?_) rfl (by kernel_rfl) (by kernel_rfl) (by kernel_rfl) (fun _ _ _ h => h) (Or.inl ⟨by rfl, ?_⟩) (by assumption) ?_
    rotate_left
    · intro w' hSw; (try dsimp only at hSw); go_simp; try with_reducible rfl
    try simp only [Act.put, List.getElem_toArray, List.getElem_cons_zero, List.getElem_cons_succ, List.setIfInBounds_toArray, List.set_cons_zero, List.set_cons_succ]
    refine wpAnyH_take (i := 6) (v := ?_) rfl (by kernel_rfl) (by kernel_rfl) (by kernel_rfl) (fun _ _ _ h => h) (Or.inl ⟨by rfl, ?_⟩) (by assumption) ?_
    rotate_left
    · intro w' hSw; (try dsimp only at hSw); go_simp; try with_reducible rfl
    try simp only [Act.put, List.getElem_toArray, List.getElem_cons_zero, List.getElem_cons_succ, List.setIfInBounds_toArray, List.set_cons_zero, List.set_cons_succ]
    refine wpAnyH_take (i := 7) (v := ?_) rfl (by kernel_rfl) (by kernel_rfl) (by kernel_rfl) (fun _ _ _ h => h) (Or.inl ⟨by rfl, ?_⟩) (by assumption) ?_
    rotate_left
    · intro w' hSw; (try dsimp only at hSw); go_simp; try with_reducible rfl
    try simp only [Act.put, List.getElem_toArray, List.getElem_cons_zero, List.getElem_cons_succ, List.setIfInBounds_toArray, List.set_cons_zero, List.set_cons_succ]
    refine wpAnyH_take (i := 8) (v := ?_) rfl (by kernel_rfl) (by kernel_rfl) (by kernel_rfl) (fun _ _ _ h => h) (Or.inl ⟨by rfl, ?_⟩) (by assumption) ?_
    rotate_left
    · intro w' hSw; (try dsimp only at hSw); go_simp; try with_reducible rfl
    try simp only [Act.put, List.getElem_toArray, List.getElem_cons_zero, List.getElem_cons_succ, List.setIfInBounds_toArray, List.set_cons_zero, List.set_cons_succ]
    refine wpAnyH_take (i := 9) (v := undef) rfl (by kernel_rfl) (by kernel_rfl) (by kernel_rfl) (fun _ _ _ h => h) (Or.inr ⟨rfl, rfl⟩) (by assumption) ?_
    try simp only [Act.put, List.getElem_toArray, List.getElem_cons_zero, List.getElem_cons_succ, List.setIfInBounds_toArray, List.set_cons_zero, List.set_cons_succ]
    refine wpAnyH_take (i := 10) (v := undef) rfl (by kernel_rfl) (by kernel_rfl) (by kernel_rfl) (fun _ _ _ h => h) (Or.inr ⟨rfl, rfl⟩) (by assumption) ?_
    try simp only [Act.put, List.getElem_toArray, List.getElem_cons_zero, List.getElem_cons_succ, List.setIfInBounds_toArray, List.set_cons_zero, List.set_cons_succ]
    refine wpAnyH_take (i := 11) (v := undef) rfl (by kernel_rfl) (by kernel_rfl) (by kernel_rfl) (fun _ _ _ h => h) (Or.inr ⟨rfl, rfl⟩) (by assumption) ?_
    try simp only [Act.put, List.getElem_toArray, List.getElem_cons_zero, List.getElem_cons_succ, List.setIfInBounds_toArray, List.set_cons_zero, List.set_cons_succ]
    refine wpAnyH_take (i := 12) (v := undef) rfl (by kernel_rfl) (by kernel_rfl) (by kernel_rfl) (fun _ _ _ h => h) (Or.inr ⟨rfl, rfl⟩) (by assumption) ?_
    try simp only [Act.put, List.getElem_toArray, List.getElem_cons_zero, List.getElem_cons_succ, List.setIfInBounds_toArray, List.set_cons_zero, List.set_cons_succ]
    refine wpAnyH_take (i := 13) (v := undef) rfl (by kernel_rfl) (by kernel_rfl) (by kernel_rfl) (fun _ _ _ h => h) (Or.inr ⟨rfl, rfl⟩) (by assumption) ?_
    try simp only [Act.put, List.getElem_toArray, List.getElem_cons_zero, List.getElem_cons_succ, List.setIfInBounds_toArray, List.set_cons_zero, List.set_cons_succ]
    refine wpAnyH_take (i := 14) (v := undef) rfl (by kernel_rfl) (by kernel_rfl) (by kernel_rfl) (fun _ _ _ h => h) (Or.inr ⟨rfl, rfl⟩) (by assumption) ?_
    try simp only [Act.put, List.getElem_toArray, List.getElem_cons_zero, List.getElem_cons_succ, List.setIfInBounds_toArray, List.set_cons_zero, List.set_cons_succ]
    refine wpAnyH_take (i := 15) (v := undef) rfl (by kernel_rfl) (by kernel_rfl) (by kernel_rfl) (fun _ _ _ h => h) (Or.inr ⟨rfl, rfl⟩) (by assumption) ?_
    try simp only [Act.put, List.getElem_toArray, List.getElem_cons_zero, List.getElem_cons_succ, List.setIfInBounds_toArray, List.set_cons_zero, List.set_cons_succ]
    refine wpAnyH_take (i := 16) (v := undef) rfl (by kernel_rfl) (by kernel_rfl) (by kernel_rfl) (fun _ _ _ h => h) (Or.inr ⟨rfl, rfl⟩) (by assumption) ?_
    try simp only [Act.put, List.getElem_toArray, List.getElem_cons_zero, List.getElem_cons_succ, List.setIfInBounds_toArray, List.set_cons_zero, List.set_cons_succ]
    refine wpAnyH_take (i := 17) (v := undef) rfl (by kernel_rfl) (by kernel_rfl) (by kernel_rfl) (fun _ _ _ h => h) (Or.inr ⟨rfl, rfl⟩) (by assumption) ?_
    try simp only [Act.put, List.getElem_toArray, List.getElem_cons_zero, List.getElem_cons_succ, List.setIfInBounds_toArray, List.set_cons_zero, List.set_cons_succ]
    refine wpAnyH_take (i := 18) (v := undef) rfl (by kernel_rfl) (by kernel_rfl) (by kernel_rfl) (fun _ _ _ h => h) (Or.inr ⟨rfl, rfl⟩) (by assumption) ?_
    try simp only [Act.put, List.getElem_toArray, List.getElem_cons_zero, List.getElem_cons_succ, List.setIfInBounds_toArray, List.set_cons_zero, List.set_cons_succ]
    refine wpAnyH_take (i := 19) (v := ?_) rfl (by kernel_rfl) (by kernel_rfl) (by kernel_rfl) (fun _ _ _ h => h) (Or.inl ⟨by rfl, ?_⟩) (by assumption) ?_
    rotate_left
    · intro w' hSw; (try dsimp only at hSw); go_simp; try with_reducible rfl
    try simp only [Act.put, List.getElem_toArray, List.getElem_cons_zero, List.getElem_cons_succ, List.setIfInBounds_toArray, List.set_cons_zero, List.set_cons_succ]
    refine wpAnyH_take (i := 20) (v := ?_) rfl (by kernel_rfl) (by kernel_rfl) (by kernel_rfl) (fun _ _ _ h => h) (Or.inl ⟨by rfl, ?_⟩) (by assumption) ?_
    rotate_left
    · intro w' hSw; (try dsimp only at hSw); go_simp; try with_reducible rfl
    try simp only [Act.put, List.getElem_toArray, List.getElem_cons_zero, List.getElem_cons_succ, List.setIfInBounds_toArray, List.set_cons_zero, List.set_cons_succ]
    refine wpAnyH_take (i := 21) (v := ?_) rfl (by kernel_rfl) (by kernel_rfl) (by kernel_rfl) (fun _ _ _ h => h) (Or.inl ⟨by rfl, ?_⟩) (by assumption) ?_
    rotate_left
    · intro w' hSw; (try dsimp only at hSw); go_simp; try with_reducible rfl
    try simp only [Act.put, List.getElem_toArray, List.getElem_cons_zero, List.getElem_cons_succ, List.setIfInBounds_toArray, List.set_cons_zero, List.set_cons_succ]
    refine wpAnyH_done (by kernel_rfl) ?_ _
    go_wp2_with fail
    refine bodyPost_ret (v := .tuple #[.int .i64 (k : Int), .bool false]) ?_ rfl ?_
    · simp [results, Try.results81, Try.f81, go_sem]
    · exact ⟨k, by rw [HT.out], HC.out, F1.out.drew⟩
end Go.Proofs.Ytoehdpfcnpdhnaa.Ix
