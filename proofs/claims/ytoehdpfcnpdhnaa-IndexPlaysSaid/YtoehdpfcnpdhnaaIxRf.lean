/- The index layer: is. No condition. -/
import Derived.Test.YtoehdpfcnpdhnaaIxRe
namespace Go.Proofs.Ytoehdpfcnpdhnaa.Ix
open Go.RowKit
theorem rowa_cell {w : World} {a : Option Addr} {n c k : Nat} {L : List (Nat × Int)} (h : Row w 38 1 (.slice a n c) L.length ((idsOf L).map u64v)) (hk : k < L.length) : ∃ g, a = some ⟨g, 0, none⟩ ∧ w.cell? ⟨g, k, none⟩ = some (.int .u64 ((liAt L k).1 : Int)) := by
  obtain ⟨a', c', e, hh⟩ := row_cell h
  obtain ⟨g, e2, k1⟩ := hh k hk
  obtain ⟨e3, -, -⟩ := Value.slice.inj e
  refine ⟨g, e3.trans e2, ?_⟩
  rw [k1]
  simp [idsOf, u64v, liAt, hk]
theorem rowb_cell {w : World} {a : Option Addr} {n c k : Nat} {L : List (Nat × Int)} (h : Row w 3 1 (.slice a n c) L.length ((valsOf L).map i64v)) (hk : k < L.length) : ∃ g, a = some ⟨g, 0, none⟩ ∧ w.cell? ⟨g, k, none⟩ = some (.int .i64 (liAt L k).2) := by
  obtain ⟨a', c', e, hh⟩ := row_cell h
  obtain ⟨g, e2, k1⟩ := hh k hk
  obtain ⟨e3, -, -⟩ := Value.slice.inj e
  refine ⟨g, e3.trans e2, ?_⟩
  rw [k1]
  simp [valsOf, i64v, liAt, hk]
set_option maxRecDepth 100000 in
set_option maxHeartbeats 2000000 in
theorem is_ok {w : World} {x : Value} {sv : Value} {L : List (Nat × Int)} (hT : Calls Try.prog 13 #[x] w (ToldOf w L)) (hr : Row w 106 2 sv L.length (flat2 L)) (hL : L.length ≤ 8192) (hids : ∀ y ∈ L, y.1 < 4294967296) :
    Calls Try.prog 32 #[x, sv] w fun e w' => e = .returned (.bool true) ∧ Fr (fun _ => False) w w' := by
  obtain ⟨n, hn⟩ : ∃ n, n = L.length := ⟨_, rfl⟩
  obtain ⟨a, c, rfl⟩ : ∃ a c, sv = .slice a L.length c := by
    rcases hr.2 with ⟨rfl, h0⟩ | ⟨g, cap, cur, rfl, _⟩
    · exact ⟨none, 0, by rw [h0]⟩
    · exact ⟨_, _, rfl⟩
  have HT := Lib.hid hT; have HR := Lib.hid hr; have HL := Lib.hid hL; have Hids := Lib.hid hids; have Hn := Lib.hid hn
  rw [← hn] at HR ⊢
  clear hT hr hL hids hn
  go_enter Try.func32, Try.ntmps32
  go_wp2_with fail
  refine HT.out.mono ?_
  rintro e w1 ⟨va, vb, rfl, ra, rb, -, -, -, f1⟩
  rw [← Hn.out] at ra rb
  obtain ⟨aa, ca, rfl, -⟩ := row_cell ra
  obtain ⟨ab, cb, rfl, -⟩ := row_cell rb
  have HRA := Lib.hid ra; have HRB := Lib.hid rb; have HF := Lib.hid f1; have HR1 := Lib.hid (Row.fr HR.out f1 (fun _ _ h => h))
  clear ra rb f1 HR
  go_upto_block 0 with fail
  go_cut [8] (fun _ wx => Fr (fun _ => False) w1 wx)
  case first =>
    go_wp2_with fail
    go_loopw [8] (fun s8 wr => ∃ i : Nat, s8 = .int .i64 (i : Int) ∧ i ≤ n ∧ Fr (fun _ => False) w1 wr) (fun s8 _ => n - (intOf s8).toNat)
    case atStart => exact ⟨0, rfl, Nat.zero_le _, Fr.refl _ _⟩
    case round =>
      obtain ⟨i, rfl, hi, hf⟩ := hrel
      by_cases hlt : i < n
      · have hlt' : (i : Int) < (n : Int) := by omega
        have i0 : (0 : Int) ≤ (i : Int) := by omega
        have hiL : i < L.length := by rw [← Hn.out]; exact hlt
        have ha := Row.fr HRA.out hf (fun _ _ h => h); have hb := Row.fr HRB.out hf (fun _ _ h => h); have hr := Row.fr HR1.out hf (fun _ _ h => h)
        rw [Hn.out] at ha hb hr
        obtain ⟨ga, rfl, q0⟩ := rowa_cell ha hiL
        obtain ⟨gb, rfl, q1⟩ := rowb_cell hb hiL
        obtain ⟨gr, rfl, r0, r1, -⟩ := row2_cells hr hiL
        obtain ⟨x, hx⟩ : ∃ x, x = liAt L i := ⟨_, rfl⟩
        rw [← hx] at q0 q1 r0 r1
        have hx32 : x.1 < 4294967296 := by rw [hx]; exact Hids.out _ (mem_at hiL)
        obtain ⟨xi, xv⟩ := x
        simp only at q0 q1 r0 r1 hx32
        have hcv : IntKind.u64.wrap (xi : Int) = (xi : Int) := by rw [IntKind.wrap_u64]; omega
        have b1 : ((xi : Int) != (xi : Int)) = false := by simp
        have b2 : (xv != xv) = false := by simp
        obtain ⟨i1, hi1⟩ : ∃ i1, i1 = i + 1 := ⟨_, rfl⟩
        have e1 : (i : Int) + 1 = (i1 : Int) := by omega
        obtain ⟨e2, e3, -⟩ := wrap_small (x := i1) (by have := HL.out; omega)
        have HF1 := Lib.hid hf; have Hi1 := Lib.hid hi1; have Hlt := Lib.hid hlt
        clear ha hb hr hx hx32 hf hi1 hlt hi hiL
        go_upto_region 7 with fail
        go_still (by kernel_rfl)
        go_wp2_with fail
        go_roundw
        case rel => exact ⟨i1, rfl, by have := Hi1.out; have := Hlt.out; omega, HF1.out.drew⟩
        case measure => have := Hi1.out; have := Hlt.out; simp [intOf]; omega
      · have hlt' : ¬ (i : Int) < (n : Int) := by omega
        obtain rfl : i = n := by omega
        have HF1 := Lib.hid hf
        clear hf hlt hi
        go_wp2_with fail
        go_meet
        exact HF1.out
  case rest =>
  have HF1 := Lib.hid hcut
  clear hcut
  go_wp2_with fail
  go_ret
  exact ⟨rfl, HF.out.trans HF1.out (fun _ _ h => h)⟩
end Go.Proofs.Ytoehdpfcnpdhnaa.Ix
