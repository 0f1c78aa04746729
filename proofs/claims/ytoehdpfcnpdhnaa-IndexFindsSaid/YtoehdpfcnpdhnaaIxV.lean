/- IndexFinds: the walk. No condition. -/
import Derived.Test.YtoehdpfcnpdhnaaIxU
import Derived.Deep.Draws
namespace Go.Proofs.Ytoehdpfcnpdhnaa.Ix
open Go.RowKit
theorem n_zero {i : Nat} (h : i = 0) : decide ((0 : Int) < (i : Int)) = false ∧ ¬ (0 : Int) < (i : Int) ∧ ¬ 0 < i ∧ decide (0 < i) = false := by subst h; exact ⟨rfl, by decide, by decide, rfl⟩
theorem n_pos {i : Nat} (h : ¬ i = 0) : decide ((0 : Int) < (i : Int)) = true ∧ (0 : Int) < (i : Int) ∧ 0 < i ∧ decide (0 < i) = true ∧ ∃ i0, i = i0 + 1 ∧ (i : Int) - 1 = (i0 : Int) := ⟨by simp; omega, by omega, by omega, by simp; omega, i - 1, by omega, by omega⟩
theorem n_not_le {x y : Nat} (h : y < x) : ¬ (x : Int) ≤ (y : Int) ∧ decide ((x : Int) ≤ (y : Int)) = false ∧ ¬ x ≤ y ∧ decide (x ≤ y) = false := ⟨by omega, by simp; omega, by omega, by simp; omega⟩
theorem n_less {i i0 q : Nat} (h : i = i0 + 1) (hq : i < q) : i0 < i ∧ i0 < q ∧ (i0 : Int) < (q : Int) := ⟨by omega, by omega, by omega⟩
theorem n_small {i q : Nat} (h : i < q) (hq : q ≤ 4096) : i ≤ 1000000 := by omega
set_option maxRecDepth 100000 in
set_option maxHeartbeats 8000000 in
theorem finds_walk (w : World) (n : Int) (hn : Fits n) {v1 : Value} {K1 : Nat → Nat → Int} {n1 : Nat} (h1 : KindsAt w v1 3 kOp K1 n1) (idz : Int) (hidz : (Lit.int .u32 idz).wf = true) (v : Int) (hv : Fits v) :
    Calls Try.prog 4 #[.int .i64 n, v1, .int .u32 idz, .int .i64 v] w fun e w' => e = .returned (.bool true) ∧ Fr (fun _ => False) w w' := by
  obtain ⟨id, rfl, hid⟩ : ∃ id : Nat, idz = (id : Int) ∧ id < 4294967296 := by
    have := wf_u32 hidz
    exact ⟨idz.toNat, by omega, by omega⟩
  clear hidz hv
  have HMd := Lib.hid (mades_ok (w := w) hn h1)
  have Hid := Lib.hid hid
  have hcid : IntKind.u64.wrap (id : Int) = (id : Int) := by rw [IntKind.wrap_u64]; omega
  generalize (n % 4096 + 1).toNat = m at HMd
  clear h1 hid hn
  go_enter Try.func4, Try.ntmps4
  go_wp2_with fail
  refine HMd.out.mono ?_
  rintro e w1 ⟨bh, g, N, st, rfl, hN⟩
  generalize runL m K1 (min n1 3000) = L at hN
  have HN := Lib.hid hN
  have HTd := Lib.hid (told_ix hN)
  clear hN HMd
  go_wp2_with fail
  refine HTd.out.mono ?_
  rintro e w2 ⟨va, vb, rfl, ra, rb, na, nb, nab, f2⟩
  obtain ⟨q, hq⟩ : ∃ q, q = L.length := ⟨_, rfl⟩
  obtain ⟨aa, ca, rfl, -⟩ := row_cell ra
  obtain ⟨ab, cb, rfl, -⟩ := row_cell rb
  have hF := Fnd.of HN.out f2 ra rb na nb
  rw [← hq] at hF
  have HF := Lib.hid hF; have Hq := Lib.hid hq
  have Hq8 := Lib.hid (show q ≤ 4096 by rw [hq]; exact hF.ix.at_.few)
  have HU := Lib.hid hF.ix.at_.up
  have HLn := Lib.hid (len_ok hF.ix.at_); have HMo := Lib.hid (most_ok hF.ix.at_)
  rw [← hq] at HLn
  have hqm : ¬ (m : Int) < (q : Int) := by have := hF.ix.at_.load; omega
  have hqm1 : ¬ m < q := by have := hF.ix.at_.load; omega
  have hqm2 : decide (m < q) = false := by simpa using hqm1
  have hqm3 : decide ((m : Int) < (q : Int)) = false := by simpa using hqm1
  rw [← hq]
  clear hF f2 ra rb na nb nab HN HTd hq
  go_wp2_with fail
  refine HLn.out.mono ?_
  rintro e w3 ⟨rfl, rfl⟩
  go_wp2_with fail
  refine HMo.out.mono ?_
  rintro e w3 ⟨rfl, rfl⟩
  clear HLn HMo
  go_upto_block 0 with fail
  clear hqm hqm1 hqm2 hqm3
  go_cut [13] (fun s13 wx => ∃ st, s13 = .bool (look L id).isSome ∧ Fnd w bh g N m L (.slice aa q ca) (.slice ab q cb) st wx)
  case first =>
    go_wp2_with fail
    go_loopw [13, 14] (fun s13 s14 wr => ∃ (i st : Nat) (hr : Bool), s14 = .int .i64 (i : Int) ∧ s13 = .bool hr ∧ hr = among L id i ∧ i ≤ q ∧ Fnd w bh g N m L (.slice aa q ca) (.slice ab q cb) st wr) (fun _ s14 _ => q - (intOf s14).toNat)
    case atStart => exact ⟨0, st, false, rfl, rfl, (among_zero L id).symm, Nat.zero_le _, HF.out⟩
    case round =>
      obtain ⟨i, st3, hr, rfl, rfl, hra, hi, hF3⟩ := hrel
      by_cases hlt : i < q
      · have hlt' : (i : Int) < (q : Int) := by omega
        have hz0 : (0 : Int) ≤ (i : Int) := by omega
        have hiL : i < L.length := by rw [← Hq.out]; exact hlt
        obtain ⟨ga, rfl⟩ : ∃ ga, aa = some ⟨ga, 0, none⟩ := by
          obtain ⟨a, c, e, hh⟩ := row_cell hF3.rowa
          obtain ⟨g', e2, _⟩ := hh i hiL
          obtain ⟨e3, -, -⟩ := Value.slice.inj e
          exact ⟨g', e3.trans e2⟩
        obtain ⟨gb, rfl⟩ : ∃ gb, ab = some ⟨gb, 0, none⟩ := by
          obtain ⟨a, c, e, hh⟩ := row_cell hF3.rowb
          obtain ⟨g', e2, _⟩ := hh i hiL
          obtain ⟨e3, -, -⟩ := Value.slice.inj e
          exact ⟨g', e3.trans e2⟩
        have c1 := hF3.cella hiL
        obtain ⟨xi, hxi⟩ : ∃ xi, xi = (liAt L i).1 := ⟨_, rfl⟩
        obtain ⟨xv, hxv⟩ : ∃ xv, xv = (liAt L i).2 := ⟨_, rfl⟩
        rw [← hxi] at c1
        have hx32 : xi < 4294967296 := by rw [hxi]; exact hF3.ix.at_.ids _ (mem_at hiL)
        have hcv : IntKind.u32.wrap (xi : Int) = (xi : Int) := by rw [IntKind.wrap_u32]; omega
        have hlk := look_at HU.out hiL
        rw [← hxi, ← hxv] at hlk
        have HG := Lib.hid (get_ok hF3.ix.at_ hx32)
        rw [hlk] at HG
        have e7e : putE L m xi = 7 := by unfold putE; rw [hlk]; rfl
        have e7 : ∀ v, putL L m xi v = L := fun v => by unfold putL; rw [e7e]; rfl
        have HF3 := Lib.hid hF3; have HXi := Lib.hid hxi; have HXv := Lib.hid hxv; have HiL := Lib.hid hiL; have Hlt := Lib.hid hlt; have HX32 := Lib.hid hx32; have HE7e := Lib.hid e7e; have HE7 := Lib.hid e7; have Hra := Lib.hid hra
        clear hF3 hxi hxv hiL hlt hx32 hlk e7e e7 hra hi
        go_wp2_with fail
        refine HG.out.mono ?_
        rintro e w4 ⟨st4, -, rfl, h4, f4⟩
        have HF4 := Lib.hid (HF3.out.then h4 (f4.mono (G := fun b => b = bh ∨ b = g) (fun _ _ h => .inl h)))
        clear h4 f4 c1 HG
        obtain ⟨bq, hbq⟩ : ∃ bq, ((xi : Int) == (id : Int)) = bq := ⟨_, rfl⟩
        have hbq2 : (xi == id) = bq := by rw [← hbq, Bool.eq_iff_iff]; simp; omega
        have hsu := among_succ (id := id) HiL.out
        rw [← HXi.out, hbq2, ← Hra.out] at hsu
        have Hsu := Lib.hid hsu
        clear hbq2 hsu
        simp only [Option.getD_some, Option.isSome_some]
        obtain ⟨i1, hi1⟩ : ∃ i1, i1 = i + 1 := ⟨_, rfl⟩
        have e1 : (i : Int) + 1 = (i1 : Int) := by omega
        obtain ⟨e2, e3, -⟩ := wrap_small (x := i1) (by have := Hlt.out; have := Hq8.out; omega)
        have Hi1 := Lib.hid hi1
        clear hi1
        have e70 : ((7 : Nat) : Int) = 7 := rfl
        go_upto_region 12 with fail
        go_cut [104] (fun s104 wx => s104 = .bool false ∧ ∃ st, Fnd w bh g N m L (.slice (some ⟨ga, 0, none⟩) q ca) (.slice (some ⟨gb, 0, none⟩) q cb) st wx)
        case first =>
          by_cases hz : i = 0
          · obtain ⟨b0, b0', b0n, b0d⟩ := n_zero hz
            clear hz
            refine wp_region_held_drew (S := fun w' => (∃ st, Fnd w bh g N m L (.slice (some ⟨ga, 0, none⟩) q ca) (.slice (some ⟨gb, 0, none⟩) q cb) st w') ∧ w'.cell? ⟨ga, i, none⟩ = some (.int .u64 (xi : Int)) ∧ w'.cell? ⟨gb, i, none⟩ = some (.int .i64 xv)) (by kernel_rfl) (by have hF := HF4.out.drew; exact ⟨⟨_, hF⟩, by rw [HXi.out]; exact hF.cella HiL.out, by rw [HXv.out]; exact hF.cellb HiL.out⟩) (fun hHeld => ?_)
            refine wpAnyH_take (i := 0) (v := ?_) rfl (by kernel_rfl) (by kernel_rfl) (by kernel_rfl) (fun _ _ _ h => h) (Or.inl ⟨by rfl, ?_⟩) (by assumption) ?_
            rotate_left
            · intro w' hSw; (try dsimp only at hSw); go_simp; try with_reducible rfl
            try simp only [Act.put, List.getElem_toArray, List.getElem_cons_zero, List.getElem_cons_succ, List.setIfInBounds_toArray, List.set_cons_zero, List.set_cons_succ]
            refine wpAnyH_take (i := 1) (v := ?_) rfl (by kernel_rfl) (by kernel_rfl) (by kernel_rfl) (fun _ _ _ h => h) (Or.inl ⟨by rfl, ?_⟩) (by assumption) ?_
            rotate_left
            · intro w' hSw; (try dsimp only at hSw); go_simp; try with_reducible rfl
            try simp only [Act.put, List.getElem_toArray, List.getElem_cons_zero, List.getElem_cons_succ, List.setIfInBounds_toArray, List.set_cons_zero, List.set_cons_succ]
            refine wpAnyH_take (i := 2) (v := ?_) rfl (by kernel_rfl) (by kernel_rfl) (by kernel_rfl) (fun _ _ _ h => h) (Or.inl ⟨by rfl, ?_⟩) (by assumption) ?_
            rotate_left
            · intro w' hSw; (try dsimp only at hSw); go_simp; try with_reducible rfl
            try simp only [Act.put, List.getElem_toArray, List.getElem_cons_zero, List.getElem_cons_succ, List.setIfInBounds_toArray, List.set_cons_zero, List.set_cons_succ]
            refine wpAnyH_take (i := 3) (v := undef) rfl (by kernel_rfl) (by kernel_rfl) (by kernel_rfl) (fun _ _ _ h => h) (Or.inr ⟨rfl, rfl⟩) (by assumption) ?_
            try simp only [Act.put, List.getElem_toArray, List.getElem_cons_zero, List.getElem_cons_succ, List.setIfInBounds_toArray, List.set_cons_zero, List.set_cons_succ]
            refine wpAnyH_take (i := 4) (v := undef) rfl (by kernel_rfl) (by kernel_rfl) (by kernel_rfl) (fun _ _ _ h => h) (Or.inr ⟨rfl, rfl⟩) (by assumption) ?_
            try simp only [Act.put, List.getElem_toArray, List.getElem_cons_zero, List.getElem_cons_succ, List.setIfInBounds_toArray, List.set_cons_zero, List.set_cons_succ]
            refine wpAnyH_take (i := 5) (v := undef) rfl (by kernel_rfl) (by kernel_rfl) (by kernel_rfl) (fun _ _ _ h => h) (Or.inr ⟨rfl, rfl⟩) (by assumption) ?_
            try simp only [Act.put, List.getElem_toArray, List.getElem_cons_zero, List.getElem_cons_succ, List.setIfInBounds_toArray, List.set_cons_zero, List.set_cons_succ]
            refine wpAnyH_take (i := 6) (v := undef) rfl (by kernel_rfl) (by kernel_rfl) (by kernel_rfl) (fun _ _ _ h => h) (Or.inr ⟨rfl, rfl⟩) (by assumption) ?_
            try simp only [Act.put, List.getElem_toArray, List.getElem_cons_zero, List.getElem_cons_succ, List.setIfInBounds_toArray, List.set_cons_zero, List.set_cons_succ]
            refine wpAnyH_take (i := 7) (v := undef) rfl (by kernel_rfl) (by kernel_rfl) (by kernel_rfl) (fun _ _ _ h => h) (Or.inr ⟨rfl, rfl⟩) (by assumption) ?_
            try simp only [Act.put, List.getElem_toArray, List.getElem_cons_zero, List.getElem_cons_succ, List.setIfInBounds_toArray, List.set_cons_zero, List.set_cons_succ]
            refine wpAnyH_take (i := 8) (v := undef) rfl (by kernel_rfl) (by kernel_rfl) (by kernel_rfl) (fun _ _ _ h => h) (Or.inr ⟨rfl, rfl⟩) (by assumption) ?_
            try simp only [Act.put, List.getElem_toArray, List.getElem_cons_zero, List.getElem_cons_succ, List.setIfInBounds_toArray, List.set_cons_zero, List.set_cons_succ]
            refine wpAnyH_take (i := 9) (v := undef) rfl (by kernel_rfl) (by kernel_rfl) (by kernel_rfl) (fun _ _ _ h => h) (Or.inr ⟨rfl, rfl⟩) (by assumption) ?_
            try simp only [Act.put, List.getElem_toArray, List.getElem_cons_zero, List.getElem_cons_succ, List.setIfInBounds_toArray, List.set_cons_zero, List.set_cons_succ]
            refine wpAnyH_take (i := 10) (v := undef) rfl (by kernel_rfl) (by kernel_rfl) (by kernel_rfl) (fun _ _ _ h => h) (Or.inr ⟨rfl, rfl⟩) (by assumption) ?_
            try simp only [Act.put, List.getElem_toArray, List.getElem_cons_zero, List.getElem_cons_succ, List.setIfInBounds_toArray, List.set_cons_zero, List.set_cons_succ]
            refine wpAnyH_take (i := 11) (v := undef) rfl (by kernel_rfl) (by kernel_rfl) (by kernel_rfl) (fun _ _ _ h => h) (Or.inr ⟨rfl, rfl⟩) (by assumption) ?_
            try simp only [Act.put, List.getElem_toArray, List.getElem_cons_zero, List.getElem_cons_succ, List.setIfInBounds_toArray, List.set_cons_zero, List.set_cons_succ]
            refine wpAnyH_take (i := 12) (v := undef) rfl (by kernel_rfl) (by kernel_rfl) (by kernel_rfl) (fun _ _ _ h => h) (Or.inr ⟨rfl, rfl⟩) (by assumption) ?_
            try simp only [Act.put, List.getElem_toArray, List.getElem_cons_zero, List.getElem_cons_succ, List.setIfInBounds_toArray, List.set_cons_zero, List.set_cons_succ]
            refine wpAnyH_take (i := 13) (v := ?_) rfl (by kernel_rfl) (by kernel_rfl) (by kernel_rfl) (fun _ _ _ h => h) (Or.inl ⟨by rfl, ?_⟩) (by assumption) ?_
            rotate_left
            · intro w' hSw; (try dsimp only at hSw); go_simp; try with_reducible rfl
            try simp only [Act.put, List.getElem_toArray, List.getElem_cons_zero, List.getElem_cons_succ, List.setIfInBounds_toArray, List.set_cons_zero, List.set_cons_succ]
            refine wpAnyH_take (i := 14) (v := ?_) rfl (by kernel_rfl) (by kernel_rfl) (by kernel_rfl) (fun _ _ _ h => h) (Or.inl ⟨by rfl, ?_⟩) (by assumption) ?_
            rotate_left
            · intro w' hSw; (try dsimp only at hSw); go_simp; try with_reducible rfl
            try simp only [Act.put, List.getElem_toArray, List.getElem_cons_zero, List.getElem_cons_succ, List.setIfInBounds_toArray, List.set_cons_zero, List.set_cons_succ]
            refine wpAnyH_take (i := 15) (v := ?_) rfl (by kernel_rfl) (by kernel_rfl) (by kernel_rfl) (fun _ _ _ h => h) (Or.inl ⟨by rfl, ?_⟩) (by assumption) ?_
            rotate_left
            · intro w' hSw; (try dsimp only at hSw); go_simp; try with_reducible rfl
            try simp only [Act.put, List.getElem_toArray, List.getElem_cons_zero, List.getElem_cons_succ, List.setIfInBounds_toArray, List.set_cons_zero, List.set_cons_succ]
            refine wpAnyH_take (i := 16) (v := ?_) rfl (by kernel_rfl) (by kernel_rfl) (by kernel_rfl) (fun _ _ _ h => h) (Or.inl ⟨by rfl, ?_⟩) (by assumption) ?_
            rotate_left
            · intro w' hSw; (try dsimp only at hSw); go_simp; try with_reducible rfl
            try simp only [Act.put, List.getElem_toArray, List.getElem_cons_zero, List.getElem_cons_succ, List.setIfInBounds_toArray, List.set_cons_zero, List.set_cons_succ]
            refine wpAnyH_take (i := 17) (v := ?_) rfl (by kernel_rfl) (by kernel_rfl) (by kernel_rfl) (fun _ _ _ h => h) (Or.inl ⟨by rfl, ?_⟩) (by assumption) ?_
            rotate_left
            · intro w' hSw; (try dsimp only at hSw); go_simp; try with_reducible rfl
            try simp only [Act.put, List.getElem_toArray, List.getElem_cons_zero, List.getElem_cons_succ, List.setIfInBounds_toArray, List.set_cons_zero, List.set_cons_succ]
            refine wpAnyH_take (i := 18) (v := ?_) rfl (by kernel_rfl) (by kernel_rfl) (by kernel_rfl) (fun _ _ _ h => h) (Or.inl ⟨by rfl, ?_⟩) (by assumption) ?_
            rotate_left
            · intro w' hSw; (try dsimp only at hSw); go_simp; try with_reducible rfl
            try simp only [Act.put, List.getElem_toArray, List.getElem_cons_zero, List.getElem_cons_succ, List.setIfInBounds_toArray, List.set_cons_zero, List.set_cons_succ]
            refine wpAnyH_take (i := 19) (v := ?_) rfl (by kernel_rfl) (by kernel_rfl) (by kernel_rfl) (fun _ _ _ h => h) (Or.inl ⟨by rfl, ?_⟩) (by assumption) ?_
            rotate_left
            · intro w' hSw; (try dsimp only at hSw); go_simp; try with_reducible rfl
            try simp only [Act.put, List.getElem_toArray, List.getElem_cons_zero, List.getElem_cons_succ, List.setIfInBounds_toArray, List.set_cons_zero, List.set_cons_succ]
            refine wpAnyH_take (i := 20) (v := ?_) rfl (by kernel_rfl) (by kernel_rfl) (by kernel_rfl) (fun _ _ _ h => h) (Or.inl ⟨by rfl, ?_⟩) (by assumption) ?_
            rotate_left
            · intro w' hSw; (try dsimp only at hSw); go_simp; try with_reducible rfl
            try simp only [Act.put, List.getElem_toArray, List.getElem_cons_zero, List.getElem_cons_succ, List.setIfInBounds_toArray, List.set_cons_zero, List.set_cons_succ]
            refine wpAnyH_take (i := 21) (v := ?_) rfl (by kernel_rfl) (by kernel_rfl) (by kernel_rfl) (fun _ _ _ h => h) (Or.inl ⟨by rfl, ?_⟩) (by assumption) ?_
            rotate_left
            · intro w' hSw; (try dsimp only at hSw); go_simp; try with_reducible rfl
            try simp only [Act.put, List.getElem_toArray, List.getElem_cons_zero, List.getElem_cons_succ, List.setIfInBounds_toArray, List.set_cons_zero, List.set_cons_succ]
            refine wpAnyH_take (i := 22) (v := ?_) rfl (by kernel_rfl) (by kernel_rfl) (by kernel_rfl) (fun _ _ _ h => h) (Or.inl ⟨by rfl, ?_⟩) (by assumption) ?_
            rotate_left
            · intro w' hSw; (try dsimp only at hSw); go_simp; try with_reducible rfl
            try simp only [Act.put, List.getElem_toArray, List.getElem_cons_zero, List.getElem_cons_succ, List.setIfInBounds_toArray, List.set_cons_zero, List.set_cons_succ]
            refine wpAnyH_take (i := 23) (v := ?_) rfl (by kernel_rfl) (by kernel_rfl) (by kernel_rfl) (fun _ _ _ h => h) (Or.inl ⟨by rfl, ?_⟩) (by assumption) ?_
            rotate_left
            · intro w' hSw; (try dsimp only at hSw); go_simp; try with_reducible rfl
            try simp only [Act.put, List.getElem_toArray, List.getElem_cons_zero, List.getElem_cons_succ, List.setIfInBounds_toArray, List.set_cons_zero, List.set_cons_succ]
            refine wpAnyH_take (i := 24) (v := ?_) rfl (by kernel_rfl) (by kernel_rfl) (by kernel_rfl) (fun _ _ _ h => h) (Or.inl ⟨by rfl, ?_⟩) (by assumption) ?_
            rotate_left
            · intro w' hSw; (try dsimp only at hSw); go_simp; try with_reducible rfl
            try simp only [Act.put, List.getElem_toArray, List.getElem_cons_zero, List.getElem_cons_succ, List.setIfInBounds_toArray, List.set_cons_zero, List.set_cons_succ]
            refine wpAnyH_take (i := 25) (v := ?_) rfl (by kernel_rfl) (by kernel_rfl) (by kernel_rfl) (fun _ _ _ h => h) (Or.inl ⟨by rfl, ?_⟩) (by assumption) ?_
            rotate_left
            · intro w' hSw; (try dsimp only at hSw); go_simp; try with_reducible rfl
            try simp only [Act.put, List.getElem_toArray, List.getElem_cons_zero, List.getElem_cons_succ, List.setIfInBounds_toArray, List.set_cons_zero, List.set_cons_succ]
            refine wpAnyH_take (i := 26) (v := ?_) rfl (by kernel_rfl) (by kernel_rfl) (by kernel_rfl) (fun _ _ _ h => h) (Or.inl ⟨by rfl, ?_⟩) (by assumption) ?_
            rotate_left
            · intro w' hSw; (try dsimp only at hSw); go_simp; try with_reducible rfl
            try simp only [Act.put, List.getElem_toArray, List.getElem_cons_zero, List.getElem_cons_succ, List.setIfInBounds_toArray, List.set_cons_zero, List.set_cons_succ]
            refine wpAnyH_take (i := 27) (v := ?_) rfl (by kernel_rfl) (by kernel_rfl) (by kernel_rfl) (fun _ _ _ h => h) (Or.inl ⟨by rfl, ?_⟩) (by assumption) ?_
            rotate_left
            · intro w' hSw; (try dsimp only at hSw); go_simp; try with_reducible rfl
            try simp only [Act.put, List.getElem_toArray, List.getElem_cons_zero, List.getElem_cons_succ, List.setIfInBounds_toArray, List.set_cons_zero, List.set_cons_succ]
            refine wpAnyH_take (i := 28) (v := ?_) rfl (by kernel_rfl) (by kernel_rfl) (by kernel_rfl) (fun _ _ _ h => h) (Or.inl ⟨by rfl, ?_⟩) (by assumption) ?_
            rotate_left
            · intro w' hSw; (try dsimp only at hSw); go_simp; try with_reducible rfl
            try simp only [Act.put, List.getElem_toArray, List.getElem_cons_zero, List.getElem_cons_succ, List.setIfInBounds_toArray, List.set_cons_zero, List.set_cons_succ]
            refine wpAnyH_take (i := 29) (v := ?_) rfl (by kernel_rfl) (by kernel_rfl) (by kernel_rfl) (fun _ _ _ h => h) (Or.inl ⟨by rfl, ?_⟩) (by assumption) ?_
            rotate_left
            · intro w' hSw; (try dsimp only at hSw); go_simp; try with_reducible rfl
            try simp only [Act.put, List.getElem_toArray, List.getElem_cons_zero, List.getElem_cons_succ, List.setIfInBounds_toArray, List.set_cons_zero, List.set_cons_succ]
            refine wpAnyH_take (i := 30) (v := ?_) rfl (by kernel_rfl) (by kernel_rfl) (by kernel_rfl) (fun _ _ _ h => h) (Or.inl ⟨by rfl, ?_⟩) (by assumption) ?_
            rotate_left
            · intro w' hSw; (try dsimp only at hSw); go_simp; try with_reducible rfl
            try simp only [Act.put, List.getElem_toArray, List.getElem_cons_zero, List.getElem_cons_succ, List.setIfInBounds_toArray, List.set_cons_zero, List.set_cons_succ]
            refine wpAnyH_take (i := 31) (v := ?_) rfl (by kernel_rfl) (by kernel_rfl) (by kernel_rfl) (fun _ _ _ h => h) (Or.inl ⟨by rfl, ?_⟩) (by assumption) ?_
            rotate_left
            · intro w' hSw; (try dsimp only at hSw); go_simp; try with_reducible rfl
            try simp only [Act.put, List.getElem_toArray, List.getElem_cons_zero, List.getElem_cons_succ, List.setIfInBounds_toArray, List.set_cons_zero, List.set_cons_succ]
            refine wpAnyH_take (i := 32) (v := ?_) rfl (by kernel_rfl) (by kernel_rfl) (by kernel_rfl) (fun _ _ _ h => h) (Or.inl ⟨by rfl, ?_⟩) (by assumption) ?_
            rotate_left
            · intro w' hSw; (try dsimp only at hSw); go_simp; try with_reducible rfl
            try simp only [Act.put, List.getElem_toArray, List.getElem_cons_zero, List.getElem_cons_succ, List.setIfInBounds_toArray, List.set_cons_zero, List.set_cons_succ]
            refine wpAnyH_take (i := 33) (v := ?_) rfl (by kernel_rfl) (by kernel_rfl) (by kernel_rfl) (fun _ _ _ h => h) (Or.inl ⟨by rfl, ?_⟩) (by assumption) ?_
            rotate_left
            · intro w' hSw; (try dsimp only at hSw); go_simp; try with_reducible rfl
            try simp only [Act.put, List.getElem_toArray, List.getElem_cons_zero, List.getElem_cons_succ, List.setIfInBounds_toArray, List.set_cons_zero, List.set_cons_succ]
            refine wpAnyH_take (i := 34) (v := ?_) rfl (by kernel_rfl) (by kernel_rfl) (by kernel_rfl) (fun _ _ _ h => h) (Or.inl ⟨by rfl, ?_⟩) (by assumption) ?_
            rotate_left
            · intro w' hSw; (try dsimp only at hSw); go_simp; try with_reducible rfl
            try simp only [Act.put, List.getElem_toArray, List.getElem_cons_zero, List.getElem_cons_succ, List.setIfInBounds_toArray, List.set_cons_zero, List.set_cons_succ]
            refine wpAnyH_ready (rs := [35]) (by kernel_rfl) (by simp) ?_
            refine AllReadyH.cons rfl (fun K hK => ?_) AllReadyH.nil
            go_simp
            obtain ⟨⟨stx, hFx⟩, hcs⟩ := hHeld
            refine (put_ok hFx.ix.at_ HX32.out _).mono ?_
            rintro e w5 ⟨st5, -, rfl, h5, f5⟩
            rw [HE7.out] at h5
            rw [HE7e.out]
            have HF5 := Lib.hid (hFx.then h5 f5)
            clear h5 f5 hFx hcs
            try go_simp
            refine hK.out _ _ ?_ (fun hHeld => ?_)
            · (try dsimp only); have hF := HF5.out; exact ⟨⟨_, hF⟩, by rw [HXi.out]; exact hF.cella HiL.out, by rw [HXv.out]; exact hF.cellb HiL.out⟩
            clear hK K
            try simp only [Act.put, List.getElem_toArray, List.getElem_cons_zero, List.getElem_cons_succ, List.setIfInBounds_toArray, List.set_cons_zero, List.set_cons_succ]
            refine wpAnyH_take (i := 36) (v := ?_) rfl (by kernel_rfl) (by kernel_rfl) (by kernel_rfl) (fun _ _ _ h => h) (Or.inl ⟨by rfl, ?_⟩) (by assumption) ?_
            rotate_left
            · intro w' hSw; (try dsimp only at hSw); go_simp; try with_reducible rfl
            try simp only [Act.put, List.getElem_toArray, List.getElem_cons_zero, List.getElem_cons_succ, List.setIfInBounds_toArray, List.set_cons_zero, List.set_cons_succ]
            refine wpAnyH_take (i := 37) (v := ?_) rfl (by kernel_rfl) (by kernel_rfl) (by kernel_rfl) (fun _ _ _ h => h) (Or.inl ⟨by rfl, ?_⟩) (by assumption) ?_
            rotate_left
            · intro w' hSw; (try dsimp only at hSw); go_simp; try with_reducible rfl
            try simp only [Act.put, List.getElem_toArray, List.getElem_cons_zero, List.getElem_cons_succ, List.setIfInBounds_toArray, List.set_cons_zero, List.set_cons_succ]
            refine wpAnyH_done (by kernel_rfl) ?_ _
            go_wp2_with fail
            go_meet
            exact ⟨rfl, hHeld.1⟩
          · obtain ⟨b0, b0', b0n, b0d, i0, hi0, p1⟩ := n_pos hz
            obtain ⟨q1, q2, p4⟩ := n_less hi0 Hlt.out
            obtain ⟨p2, p3, -⟩ := wrap_small (x := i0) (n_small q2 Hq8.out)
            have p5 : (0 : Int) ≤ (i0 : Int) := Int.natCast_nonneg _
            obtain ⟨yi, hyi⟩ : ∃ yi, yi = (liAt L i0).1 := ⟨_, rfl⟩
            have hyx : yi < xi := by rw [hyi, HXi.out]; exact up_at HU.out q1 HiL.out
            obtain ⟨p6, p7, p8, p9⟩ := n_not_le hyx
            have HY := Lib.hid hyi; have HI0 := Lib.hid (Nat.lt_trans q1 HiL.out)
            clear q1 q2
            clear hz hi0 hyi hyx
            refine wp_region_held_drew (S := fun w' => (∃ st, Fnd w bh g N m L (.slice (some ⟨ga, 0, none⟩) q ca) (.slice (some ⟨gb, 0, none⟩) q cb) st w') ∧ w'.cell? ⟨ga, i, none⟩ = some (.int .u64 (xi : Int)) ∧ w'.cell? ⟨gb, i, none⟩ = some (.int .i64 xv) ∧ w'.cell? ⟨ga, i0, none⟩ = some (.int .u64 (yi : Int))) (by kernel_rfl) (by have hF := HF4.out.drew; exact ⟨⟨_, hF⟩, by rw [HXi.out]; exact hF.cella HiL.out, by rw [HXv.out]; exact hF.cellb HiL.out, by rw [HY.out]; exact hF.cella HI0.out⟩) (fun hHeld => ?_)
            refine wpAnyH_take (i := 0) (v := ?_) rfl (by kernel_rfl) (by kernel_rfl) (by kernel_rfl) (fun _ _ _ h => h) (Or.inl ⟨by rfl, ?_⟩) (by assumption) ?_
            rotate_left
            · intro w' hSw; (try dsimp only at hSw); go_simp; try with_reducible rfl
            try simp only [Act.put, List.getElem_toArray, List.getElem_cons_zero, List.getElem_cons_succ, List.setIfInBounds_toArray, List.set_cons_zero, List.set_cons_succ]
            refine wpAnyH_take (i := 1) (v := ?_) rfl (by kernel_rfl) (by kernel_rfl) (by kernel_rfl) (fun _ _ _ h => h) (Or.inl ⟨by rfl, ?_⟩) (by assumption) ?_
            rotate_left
            · intro w' hSw; (try dsimp only at hSw); go_simp; try with_reducible rfl
            try simp only [Act.put, List.getElem_toArray, List.getElem_cons_zero, List.getElem_cons_succ, List.setIfInBounds_toArray, List.set_cons_zero, List.set_cons_succ]
            refine wpAnyH_take (i := 2) (v := ?_) rfl (by kernel_rfl) (by kernel_rfl) (by kernel_rfl) (fun _ _ _ h => h) (Or.inl ⟨by rfl, ?_⟩) (by assumption) ?_
            rotate_left
            · intro w' hSw; (try dsimp only at hSw); go_simp; try with_reducible rfl
            try simp only [Act.put, List.getElem_toArray, List.getElem_cons_zero, List.getElem_cons_succ, List.setIfInBounds_toArray, List.set_cons_zero, List.set_cons_succ]
            refine wpAnyH_take (i := 3) (v := ?_) rfl (by kernel_rfl) (by kernel_rfl) (by kernel_rfl) (fun _ _ _ h => h) (Or.inl ⟨by rfl, ?_⟩) (by assumption) ?_
            rotate_left
            · intro w' hSw; (try dsimp only at hSw); go_simp; try with_reducible rfl
            try simp only [Act.put, List.getElem_toArray, List.getElem_cons_zero, List.getElem_cons_succ, List.setIfInBounds_toArray, List.set_cons_zero, List.set_cons_succ]
            refine wpAnyH_take (i := 4) (v := ?_) rfl (by kernel_rfl) (by kernel_rfl) (by kernel_rfl) (fun _ _ _ h => h) (Or.inl ⟨by rfl, ?_⟩) (by assumption) ?_
            rotate_left
            · intro w' hSw; (try dsimp only at hSw); go_simp; try with_reducible rfl
            try simp only [Act.put, List.getElem_toArray, List.getElem_cons_zero, List.getElem_cons_succ, List.setIfInBounds_toArray, List.set_cons_zero, List.set_cons_succ]
            refine wpAnyH_take (i := 5) (v := ?_) rfl (by kernel_rfl) (by kernel_rfl) (by kernel_rfl) (fun _ _ _ h => h) (Or.inl ⟨by rfl, ?_⟩) (by assumption) ?_
            rotate_left
            · intro w' hSw; (try dsimp only at hSw); go_simp; try with_reducible rfl
            try simp only [Act.put, List.getElem_toArray, List.getElem_cons_zero, List.getElem_cons_succ, List.setIfInBounds_toArray, List.set_cons_zero, List.set_cons_succ]
            refine wpAnyH_take (i := 6) (v := ?_) rfl (by kernel_rfl) (by kernel_rfl) (by kernel_rfl) (fun _ _ _ h => h) (Or.inl ⟨by rfl, ?_⟩) (by assumption) ?_
            rotate_left
            · intro w' hSw; (try dsimp only at hSw); go_simp; try with_reducible rfl
            try simp only [Act.put, List.getElem_toArray, List.getElem_cons_zero, List.getElem_cons_succ, List.setIfInBounds_toArray, List.set_cons_zero, List.set_cons_succ]
            refine wpAnyH_take (i := 7) (v := ?_) rfl (by kernel_rfl) (by kernel_rfl) (by kernel_rfl) (fun _ _ _ h => h) (Or.inl ⟨by rfl, ?_⟩) (by assumption) ?_
            rotate_left
            · intro w' hSw; (try dsimp only at hSw); go_simp; try with_reducible rfl
            try simp only [Act.put, List.getElem_toArray, List.getElem_cons_zero, List.getElem_cons_succ, List.setIfInBounds_toArray, List.set_cons_zero, List.set_cons_succ]
            refine wpAnyH_take (i := 8) (v := ?_) rfl (by kernel_rfl) (by kernel_rfl) (by kernel_rfl) (fun _ _ _ h => h) (Or.inl ⟨by rfl, ?_⟩) (by assumption) ?_
            rotate_left
            · intro w' hSw; (try dsimp only at hSw); go_simp; try with_reducible rfl
            try simp only [Act.put, List.getElem_toArray, List.getElem_cons_zero, List.getElem_cons_succ, List.setIfInBounds_toArray, List.set_cons_zero, List.set_cons_succ]
            refine wpAnyH_take (i := 9) (v := ?_) rfl (by kernel_rfl) (by kernel_rfl) (by kernel_rfl) (fun _ _ _ h => h) (Or.inl ⟨by rfl, ?_⟩) (by assumption) ?_
            rotate_left
            · intro w' hSw; (try dsimp only at hSw); go_simp; try with_reducible rfl
            try simp only [Act.put, List.getElem_toArray, List.getElem_cons_zero, List.getElem_cons_succ, List.setIfInBounds_toArray, List.set_cons_zero, List.set_cons_succ]
            refine wpAnyH_take (i := 10) (v := ?_) rfl (by kernel_rfl) (by kernel_rfl) (by kernel_rfl) (fun _ _ _ h => h) (Or.inl ⟨by rfl, ?_⟩) (by assumption) ?_
            rotate_left
            · intro w' hSw; (try dsimp only at hSw); go_simp; try with_reducible rfl
            try simp only [Act.put, List.getElem_toArray, List.getElem_cons_zero, List.getElem_cons_succ, List.setIfInBounds_toArray, List.set_cons_zero, List.set_cons_succ]
            refine wpAnyH_take (i := 11) (v := ?_) rfl (by kernel_rfl) (by kernel_rfl) (by kernel_rfl) (fun _ _ _ h => h) (Or.inl ⟨by rfl, ?_⟩) (by assumption) ?_
            rotate_left
            · intro w' hSw; (try dsimp only at hSw); go_simp; try with_reducible rfl
            try simp only [Act.put, List.getElem_toArray, List.getElem_cons_zero, List.getElem_cons_succ, List.setIfInBounds_toArray, List.set_cons_zero, List.set_cons_succ]
            refine wpAnyH_take (i := 12) (v := ?_) rfl (by kernel_rfl) (by kernel_rfl) (by kernel_rfl) (fun _ _ _ h => h) (Or.inl ⟨by rfl, ?_⟩) (by assumption) ?_
            rotate_left
            · intro w' hSw; (try dsimp only at hSw); go_simp; try with_reducible rfl
            try simp only [Act.put, List.getElem_toArray, List.getElem_cons_zero, List.getElem_cons_succ, List.setIfInBounds_toArray, List.set_cons_zero, List.set_cons_succ]
            refine wpAnyH_take (i := 13) (v := ?_) rfl (by kernel_rfl) (by kernel_rfl) (by kernel_rfl) (fun _ _ _ h => h) (Or.inl ⟨by rfl, ?_⟩) (by assumption) ?_
            rotate_left
            · intro w' hSw; (try dsimp only at hSw); go_simp; try with_reducible rfl
            try simp only [Act.put, List.getElem_toArray, List.getElem_cons_zero, List.getElem_cons_succ, List.setIfInBounds_toArray, List.set_cons_zero, List.set_cons_succ]
            refine wpAnyH_take (i := 14) (v := ?_) rfl (by kernel_rfl) (by kernel_rfl) (by kernel_rfl) (fun _ _ _ h => h) (Or.inl ⟨by rfl, ?_⟩) (by assumption) ?_
            rotate_left
            · intro w' hSw; (try dsimp only at hSw); go_simp; try with_reducible rfl
            try simp only [Act.put, List.getElem_toArray, List.getElem_cons_zero, List.getElem_cons_succ, List.setIfInBounds_toArray, List.set_cons_zero, List.set_cons_succ]
            refine wpAnyH_take (i := 15) (v := ?_) rfl (by kernel_rfl) (by kernel_rfl) (by kernel_rfl) (fun _ _ _ h => h) (Or.inl ⟨by rfl, ?_⟩) (by assumption) ?_
            rotate_left
            · intro w' hSw; (try dsimp only at hSw); go_simp; try with_reducible rfl
            try simp only [Act.put, List.getElem_toArray, List.getElem_cons_zero, List.getElem_cons_succ, List.setIfInBounds_toArray, List.set_cons_zero, List.set_cons_succ]
            refine wpAnyH_take (i := 16) (v := ?_) rfl (by kernel_rfl) (by kernel_rfl) (by kernel_rfl) (fun _ _ _ h => h) (Or.inl ⟨by rfl, ?_⟩) (by assumption) ?_
            rotate_left
            · intro w' hSw; (try dsimp only at hSw); go_simp; try with_reducible rfl
            try simp only [Act.put, List.getElem_toArray, List.getElem_cons_zero, List.getElem_cons_succ, List.setIfInBounds_toArray, List.set_cons_zero, List.set_cons_succ]
            refine wpAnyH_take (i := 17) (v := ?_) rfl (by kernel_rfl) (by kernel_rfl) (by kernel_rfl) (fun _ _ _ h => h) (Or.inl ⟨by rfl, ?_⟩) (by assumption) ?_
            rotate_left
            · intro w' hSw; (try dsimp only at hSw); go_simp; try with_reducible rfl
            try simp only [Act.put, List.getElem_toArray, List.getElem_cons_zero, List.getElem_cons_succ, List.setIfInBounds_toArray, List.set_cons_zero, List.set_cons_succ]
            refine wpAnyH_take (i := 18) (v := ?_) rfl (by kernel_rfl) (by kernel_rfl) (by kernel_rfl) (fun _ _ _ h => h) (Or.inl ⟨by rfl, ?_⟩) (by assumption) ?_
            rotate_left
            · intro w' hSw; (try dsimp only at hSw); go_simp; try with_reducible rfl
            try simp only [Act.put, List.getElem_toArray, List.getElem_cons_zero, List.getElem_cons_succ, List.setIfInBounds_toArray, List.set_cons_zero, List.set_cons_succ]
            refine wpAnyH_take (i := 19) (v := ?_) rfl (by kernel_rfl) (by kernel_rfl) (by kernel_rfl) (fun _ _ _ h => h) (Or.inl ⟨by rfl, ?_⟩) (by assumption) ?_
            rotate_left
            · intro w' hSw; (try dsimp only at hSw); go_simp; try with_reducible rfl
            try simp only [Act.put, List.getElem_toArray, List.getElem_cons_zero, List.getElem_cons_succ, List.setIfInBounds_toArray, List.set_cons_zero, List.set_cons_succ]
            refine wpAnyH_take (i := 20) (v := ?_) rfl (by kernel_rfl) (by kernel_rfl) (by kernel_rfl) (fun _ _ _ h => h) (Or.inl ⟨by rfl, ?_⟩) (by assumption) ?_
            rotate_left
            · intro w' hSw; (try dsimp only at hSw); go_simp; try with_reducible rfl
            try simp only [Act.put, List.getElem_toArray, List.getElem_cons_zero, List.getElem_cons_succ, List.setIfInBounds_toArray, List.set_cons_zero, List.set_cons_succ]
            refine wpAnyH_take (i := 21) (v := ?_) rfl (by kernel_rfl) (by kernel_rfl) (by kernel_rfl) (fun _ _ _ h => h) (Or.inl ⟨by rfl, ?_⟩) (by assumption) ?_
            rotate_left
            · intro w' hSw; (try dsimp only at hSw); go_simp; try with_reducible rfl
            try simp only [Act.put, List.getElem_toArray, List.getElem_cons_zero, List.getElem_cons_succ, List.setIfInBounds_toArray, List.set_cons_zero, List.set_cons_succ]
            refine wpAnyH_take (i := 22) (v := ?_) rfl (by kernel_rfl) (by kernel_rfl) (by kernel_rfl) (fun _ _ _ h => h) (Or.inl ⟨by rfl, ?_⟩) (by assumption) ?_
            rotate_left
            · intro w' hSw; (try dsimp only at hSw); go_simp; try with_reducible rfl
            try simp only [Act.put, List.getElem_toArray, List.getElem_cons_zero, List.getElem_cons_succ, List.setIfInBounds_toArray, List.set_cons_zero, List.set_cons_succ]
            refine wpAnyH_take (i := 23) (v := ?_) rfl (by kernel_rfl) (by kernel_rfl) (by kernel_rfl) (fun _ _ _ h => h) (Or.inl ⟨by rfl, ?_⟩) (by assumption) ?_
            rotate_left
            · intro w' hSw; (try dsimp only at hSw); go_simp; try with_reducible rfl
            try simp only [Act.put, List.getElem_toArray, List.getElem_cons_zero, List.getElem_cons_succ, List.setIfInBounds_toArray, List.set_cons_zero, List.set_cons_succ]
            refine wpAnyH_take (i := 24) (v := ?_) rfl (by kernel_rfl) (by kernel_rfl) (by kernel_rfl) (fun _ _ _ h => h) (Or.inl ⟨by rfl, ?_⟩) (by assumption) ?_
            rotate_left
            · intro w' hSw; (try dsimp only at hSw); go_simp; try with_reducible rfl
            try simp only [Act.put, List.getElem_toArray, List.getElem_cons_zero, List.getElem_cons_succ, List.setIfInBounds_toArray, List.set_cons_zero, List.set_cons_succ]
            refine wpAnyH_take (i := 25) (v := ?_) rfl (by kernel_rfl) (by kernel_rfl) (by kernel_rfl) (fun _ _ _ h => h) (Or.inl ⟨by rfl, ?_⟩) (by assumption) ?_
            rotate_left
            · intro w' hSw; (try dsimp only at hSw); go_simp; try with_reducible rfl
            try simp only [Act.put, List.getElem_toArray, List.getElem_cons_zero, List.getElem_cons_succ, List.setIfInBounds_toArray, List.set_cons_zero, List.set_cons_succ]
            refine wpAnyH_take (i := 26) (v := ?_) rfl (by kernel_rfl) (by kernel_rfl) (by kernel_rfl) (fun _ _ _ h => h) (Or.inl ⟨by rfl, ?_⟩) (by assumption) ?_
            rotate_left
            · intro w' hSw; (try dsimp only at hSw); go_simp; try with_reducible rfl
            try simp only [Act.put, List.getElem_toArray, List.getElem_cons_zero, List.getElem_cons_succ, List.setIfInBounds_toArray, List.set_cons_zero, List.set_cons_succ]
            refine wpAnyH_take (i := 27) (v := ?_) rfl (by kernel_rfl) (by kernel_rfl) (by kernel_rfl) (fun _ _ _ h => h) (Or.inl ⟨by rfl, ?_⟩) (by assumption) ?_
            rotate_left
            · intro w' hSw; (try dsimp only at hSw); go_simp; try with_reducible rfl
            try simp only [Act.put, List.getElem_toArray, List.getElem_cons_zero, List.getElem_cons_succ, List.setIfInBounds_toArray, List.set_cons_zero, List.set_cons_succ]
            refine wpAnyH_take (i := 28) (v := ?_) rfl (by kernel_rfl) (by kernel_rfl) (by kernel_rfl) (fun _ _ _ h => h) (Or.inl ⟨by rfl, ?_⟩) (by assumption) ?_
            rotate_left
            · intro w' hSw; (try dsimp only at hSw); go_simp; try with_reducible rfl
            try simp only [Act.put, List.getElem_toArray, List.getElem_cons_zero, List.getElem_cons_succ, List.setIfInBounds_toArray, List.set_cons_zero, List.set_cons_succ]
            refine wpAnyH_take (i := 29) (v := ?_) rfl (by kernel_rfl) (by kernel_rfl) (by kernel_rfl) (fun _ _ _ h => h) (Or.inl ⟨by rfl, ?_⟩) (by assumption) ?_
            rotate_left
            · intro w' hSw; (try dsimp only at hSw); go_simp; try with_reducible rfl
            try simp only [Act.put, List.getElem_toArray, List.getElem_cons_zero, List.getElem_cons_succ, List.setIfInBounds_toArray, List.set_cons_zero, List.set_cons_succ]
            refine wpAnyH_take (i := 30) (v := ?_) rfl (by kernel_rfl) (by kernel_rfl) (by kernel_rfl) (fun _ _ _ h => h) (Or.inl ⟨by rfl, ?_⟩) (by assumption) ?_
            rotate_left
            · intro w' hSw; (try dsimp only at hSw); go_simp; try with_reducible rfl
            try simp only [Act.put, List.getElem_toArray, List.getElem_cons_zero, List.getElem_cons_succ, List.setIfInBounds_toArray, List.set_cons_zero, List.set_cons_succ]
            refine wpAnyH_take (i := 31) (v := ?_) rfl (by kernel_rfl) (by kernel_rfl) (by kernel_rfl) (fun _ _ _ h => h) (Or.inl ⟨by rfl, ?_⟩) (by assumption) ?_
            rotate_left
            · intro w' hSw; (try dsimp only at hSw); go_simp; try with_reducible rfl
            try simp only [Act.put, List.getElem_toArray, List.getElem_cons_zero, List.getElem_cons_succ, List.setIfInBounds_toArray, List.set_cons_zero, List.set_cons_succ]
            refine wpAnyH_take (i := 32) (v := ?_) rfl (by kernel_rfl) (by kernel_rfl) (by kernel_rfl) (fun _ _ _ h => h) (Or.inl ⟨by rfl, ?_⟩) (by assumption) ?_
            rotate_left
            · intro w' hSw; (try dsimp only at hSw); go_simp; try with_reducible rfl
            try simp only [Act.put, List.getElem_toArray, List.getElem_cons_zero, List.getElem_cons_succ, List.setIfInBounds_toArray, List.set_cons_zero, List.set_cons_succ]
            refine wpAnyH_take (i := 33) (v := ?_) rfl (by kernel_rfl) (by kernel_rfl) (by kernel_rfl) (fun _ _ _ h => h) (Or.inl ⟨by rfl, ?_⟩) (by assumption) ?_
            rotate_left
            · intro w' hSw; (try dsimp only at hSw); go_simp; try with_reducible rfl
            try simp only [Act.put, List.getElem_toArray, List.getElem_cons_zero, List.getElem_cons_succ, List.setIfInBounds_toArray, List.set_cons_zero, List.set_cons_succ]
            refine wpAnyH_take (i := 34) (v := ?_) rfl (by kernel_rfl) (by kernel_rfl) (by kernel_rfl) (fun _ _ _ h => h) (Or.inl ⟨by rfl, ?_⟩) (by assumption) ?_
            rotate_left
            · intro w' hSw; (try dsimp only at hSw); go_simp; try with_reducible rfl
            try simp only [Act.put, List.getElem_toArray, List.getElem_cons_zero, List.getElem_cons_succ, List.setIfInBounds_toArray, List.set_cons_zero, List.set_cons_succ]
            refine wpAnyH_ready (rs := [35]) (by kernel_rfl) (by simp) ?_
            refine AllReadyH.cons rfl (fun K hK => ?_) AllReadyH.nil
            go_simp
            obtain ⟨⟨stx, hFx⟩, hcs⟩ := hHeld
            refine (put_ok hFx.ix.at_ HX32.out _).mono ?_
            rintro e w5 ⟨st5, -, rfl, h5, f5⟩
            rw [HE7.out] at h5
            rw [HE7e.out]
            have HF5 := Lib.hid (hFx.then h5 f5)
            clear h5 f5 hFx hcs
            try go_simp
            refine hK.out _ _ ?_ (fun hHeld => ?_)
            · (try dsimp only); have hF := HF5.out; exact ⟨⟨_, hF⟩, by rw [HXi.out]; exact hF.cella HiL.out, by rw [HXv.out]; exact hF.cellb HiL.out, by rw [HY.out]; exact hF.cella HI0.out⟩
            clear hK K
            try simp only [Act.put, List.getElem_toArray, List.getElem_cons_zero, List.getElem_cons_succ, List.setIfInBounds_toArray, List.set_cons_zero, List.set_cons_succ]
            refine wpAnyH_take (i := 36) (v := ?_) rfl (by kernel_rfl) (by kernel_rfl) (by kernel_rfl) (fun _ _ _ h => h) (Or.inl ⟨by rfl, ?_⟩) (by assumption) ?_
            rotate_left
            · intro w' hSw; (try dsimp only at hSw); go_simp; try with_reducible rfl
            try simp only [Act.put, List.getElem_toArray, List.getElem_cons_zero, List.getElem_cons_succ, List.setIfInBounds_toArray, List.set_cons_zero, List.set_cons_succ]
            refine wpAnyH_take (i := 37) (v := ?_) rfl (by kernel_rfl) (by kernel_rfl) (by kernel_rfl) (fun _ _ _ h => h) (Or.inl ⟨by rfl, ?_⟩) (by assumption) ?_
            rotate_left
            · intro w' hSw; (try dsimp only at hSw); go_simp; try with_reducible rfl
            try simp only [Act.put, List.getElem_toArray, List.getElem_cons_zero, List.getElem_cons_succ, List.setIfInBounds_toArray, List.set_cons_zero, List.set_cons_succ]
            refine wpAnyH_done (by kernel_rfl) ?_ _
            go_wp2_with fail
            go_meet
            exact ⟨rfl, hHeld.1⟩
        case rest =>
        obtain ⟨rfl, st5, hF5⟩ := hcut
        have c1 := hF5.cella HiL.out
        rw [← HXi.out] at c1
        have HF5 := Lib.hid hF5
        clear hF5
        cases hr with
        | true =>
          go_wp2_with fail
          go_roundw
          case rel => exact ⟨i1, st5, true, rfl, rfl, by rw [Hi1.out, Hsu.out]; rfl, by have := Hi1.out; have := Hlt.out; omega, HF5.out⟩
          case measure => have := Hi1.out; have := Hlt.out; simp [intOf]; omega
        | false =>
          go_wp2_with fail
          go_roundw
          case rel => exact ⟨i1, st5, bq, rfl, rfl, by rw [Hi1.out, Hsu.out]; rfl, by have := Hi1.out; have := Hlt.out; omega, HF5.out⟩
          case measure => have := Hi1.out; have := Hlt.out; simp [intOf]; omega
      · obtain rfl : i = q := by omega
        have HF3 := Lib.hid hF3
        rw [Hq.out, among_all] at hra
        have Hra := Lib.hid hra
        clear hF3 hlt hi hra
        go_wp2_with fail
        go_meet
        exact ⟨st3, by rw [← Hra.out], HF3.out⟩
  case rest =>
  obtain ⟨st4, rfl, hF4⟩ := hcut
  have HF4 := Lib.hid hF4
  have HG := Lib.hid (get_ok hF4.ix.at_ Hid.out)
  clear hF4
  obtain ⟨bq, hbq⟩ : ∃ bq, (look L id).isSome = bq := ⟨_, rfl⟩
  rw [hbq] at HG ⊢
  have Hbq := Lib.hid hbq
  clear hbq
  go_wp2_with fail
  refine HG.out.mono ?_
  rintro e w5 ⟨st5, -, rfl, h5, f5⟩
  have HF5 := Lib.hid (HF4.out.then h5 (f5.mono (G := fun b => b = bh ∨ b = g) (fun _ _ h => .inl h)))
  have HS := Lib.hid (set_ok h5 Hid.out v)
  rw [Hbq.out] at HS
  clear h5 f5 HG
  have bne : (bq != bq) = false := by cases bq <;> rfl
  go_wp2_with fail
  refine HS.out.mono ?_
  rintro e w6 ⟨st6, -, rfl, h6, f6⟩
  have HN6 := Lib.hid (HF5.out.ix.then h6 f6 (fun b hb => by rcases hb with h | h <;> simp [h]))
  have hqL6 : (upd L id v).length = q := by rw [upd_length, ← Hq.out]
  have hl6 : bq = false → look (upd L id v) id = none := fun e => by
    rw [upd_none v (by have := Hbq.out; rw [e] at this; simpa using this)]
    have := Hbq.out; rw [e] at this; simpa using this
  have hu6 : bq = true → look (upd L id v) id = some v := fun e => look_upd v h6.up (by rw [Hbq.out, e])
  generalize upd L id v = L6 at h6 HN6 hqL6 hl6 hu6
  have HP := Lib.hid (put_ok h6 Hid.out v)
  have HqL6 := Lib.hid hqL6; have Hl6 := Lib.hid hl6; have Hu6 := Lib.hid hu6
  clear h6 f6 HS hqL6 hl6 hu6
  go_upto_if 133 with fail
  go_cut [] (fun wx => ∃ L' st, look L' id = some v ∧ NewIx w wx bh g N m L' st)
  case first =>
    cases bq with
    | true =>
      have HK := Lib.hid (Hu6.out rfl)
      go_wp2_with fail
      go_meet
      exact ⟨_, _, HK.out, HN6.out⟩
    | false =>
      have hlk := Hl6.out rfl
      by_cases hfull : q = m
      · have e6 : putE L6 m id = 6 := by unfold putE; rw [hlk, HqL6.out, hfull, if_neg (by simp), if_pos rfl]
        have eL : putL L6 m id v = L6 := by unfold putL; rw [e6]; rfl
        rw [e6, eL] at HP
        have bqm : ((q : Int) == (m : Int)) = true := by rw [hfull]; simp
        have bqm2 : (q == m) = true := by rw [hfull]; simp
        clear hlk e6 eL hfull
        go_wp2_with fail
        refine HP.out.mono ?_
        rintro e w7 ⟨st7, -, rfl, h7, f7⟩
        have HMo := Lib.hid (most_ok h7)
        have HN7 := Lib.hid (HN6.out.then h7 f7 (fun b hb => by rcases hb with h | h <;> simp [h]))
        clear h7 f7 HP
        have c6 : ((6 : Nat) : Int) = 6 := rfl
        rw [c6]
        go_wp2_with fail
        refine HMo.out.mono ?_
        rintro e w8 ⟨rfl, rfl⟩
        go_wp2_with fail
        refine (awake_ok _).mono ?_
        rintro e w8 ⟨rfl, f8⟩
        have F8 := Lib.hid f8
        clear f8
        go_wp2_with fail
        go_ret
        exact ⟨rfl, HN7.out.fr.trans F8.out (fun _ _ h => h)⟩
      · have e0 : putE L6 m id = 0 := by unfold putE; rw [hlk, HqL6.out, if_neg (by simp), if_neg hfull]
        have eL : putL L6 m id v = ins L6 id v := by unfold putL; rw [if_pos e0]
        rw [e0, eL] at HP
        clear hlk e0 eL hfull
        go_wp2_with fail
        refine HP.out.mono ?_
        rintro e w7 ⟨st7, -, rfl, h7, f7⟩
        have HK := Lib.hid (look_ins v h7.up)
        have HN7 := Lib.hid (HN6.out.then h7 f7 (fun b hb => by rcases hb with h | h <;> simp [h]))
        clear h7 f7 HP
        have c0 : ((0 : Nat) : Int) = 0 := rfl
        rw [c0]
        go_wp2_with fail
        go_meet
        exact ⟨_, _, HK.out, HN7.out⟩
  case rest =>
  obtain ⟨L7, st7, hlk, hN7⟩ := hcut
  have HG := Lib.hid (get_ok hN7.at_ Hid.out)
  have HK := Lib.hid hlk; have HN7 := Lib.hid hN7
  rw [hlk] at HG
  clear hlk hN7 HP Hl6 Hu6
  simp only [Option.getD_some, Option.isSome_some] at HG
  go_wp2_with fail
  refine HG.out.mono ?_
  rintro e w8 ⟨st8, -, rfl, h8, f8⟩
  have HN8 := Lib.hid (HN7.out.then h8 f8 (fun b hb => by simp [show b = bh from hb]))
  have HD := Lib.hid (drop_ok h8 Hid.out)
  rw [HK.out] at HD
  clear h8 f8 HG
  simp only [Option.isSome_some] at HD
  have bvv : (v != v) = false := by simp
  go_wp2_with fail
  refine HD.out.mono ?_
  rintro e w9 ⟨st9, -, rfl, h9, f9⟩
  have HN9 := Lib.hid (HN8.out.then h9 f9 (fun b hb => by rcases hb with h | h <;> simp [h]))
  have HK9 := Lib.hid (look_del L7 id)
  generalize del L7 id = L9 at h9 HN9 HK9
  have HG := Lib.hid (get_ok h9 Hid.out)
  rw [HK9.out] at HG
  clear h9 f9 HD bvv
  simp only [Option.getD_none, Option.isSome_none] at HG
  go_wp2_with fail
  refine HG.out.mono ?_
  rintro e w10 ⟨st10, -, rfl, h10, f10⟩
  have HN10 := Lib.hid (HN9.out.then h10 f10 (fun b hb => by simp [show b = bh from hb]))
  have HD := Lib.hid (drop_ok h10 Hid.out)
  rw [HK9.out, del_none HK9.out] at HD
  clear h10 f10 HG
  simp only [Option.isSome_none] at HD
  go_wp2_with fail
  refine HD.out.mono ?_
  rintro e w11 ⟨st11, -, rfl, h11, f11⟩
  have HN11 := Lib.hid (HN10.out.then h11 f11 (fun b hb => by rcases hb with h | h <;> simp [h]))
  have HS := Lib.hid (set_ok h11 Hid.out 1)
  rw [HK9.out] at HS
  clear h11 f11 HD
  simp only [Option.isSome_none] at HS
  go_wp2_with fail
  refine HS.out.mono ?_
  rintro e w12 ⟨st12, -, rfl, h12, f12⟩
  have HN12 := Lib.hid (HN11.out.then h12 f12 (fun b hb => by rcases hb with h | h <;> simp [h]))
  clear h12 f12 HS
  go_wp2_with fail
  refine (awake_ok _).mono ?_
  rintro e w13 ⟨rfl, f13⟩
  have F13 := Lib.hid f13
  clear f13
  go_wp2_with fail
  go_ret
  exact ⟨rfl, HN12.out.fr.trans F13.out (fun _ _ h => h)⟩
end Go.Proofs.Ytoehdpfcnpdhnaa.Ix
