/- IndexNumbers: the walk. No condition. -/
import Derived.Test.YtoehdpfcnpdhnaaIxW
import Derived.Test.YtoehdpfcnpdhnaaIxX
namespace Go.Proofs.Ytoehdpfcnpdhnaa.Ix
open Go.RowKit
theorem idNum {i : Nat} (h : i < 4096) : IntKind.u32.wrap (i : Int) = (i : Int) ∧ IntKind.u32.wrap ((i : Int) * 65537) = ((i * 65537 : Nat) : Int) ∧ i * 65537 < 4294967296 := by
  refine ⟨by rw [IntKind.wrap_u32]; omega, by rw [IntKind.wrap_u32]; omega, by omega⟩
theorem par2 (i : Nat) : (i : Int).tmod 2 = ((i % 2 : Nat) : Int) ∧ (i : Int) % 2 = ((i % 2 : Nat) : Int) := ⟨by rw [Int.tmod_eq_emod_of_nonneg (by omega)]; omega, by omega⟩
theorem up8192 {N : Nat} (h : IsUp N (2 * 4096)) : N = 8192 := h.same ⟨13, rfl, by omega, .inr (by omega)⟩
set_option maxRecDepth 100000 in
set_option maxHeartbeats 8000000 in
theorem numbers_walk (w : World) :
    Calls Try.prog 6 #[] w fun e w' => e = .returned (.bool true) ∧ Fr (fun _ => False) w w' := by
  obtain ⟨W0, hW0⟩ : ∃ W0, W0 = ((w.alloc (.cells #[.slice none 0 0, .int .i64 0, .int .i64 0, .int .i64 0, .int .i64 0] 55)).alloc (.cells #[.pointer none, .pointer (some ⟨w.heap.size, 0, none⟩)] 23)) := ⟨_, rfl⟩
  have f0 : Fr (fun _ => False) w W0 := by rw [hW0]; exact Fr.alloc (Fr.alloc (Fr.refl _ _) _) _
  have hp : W0.heap[w.heap.size + 1]? = some (.cells #[.pointer none, .pointer (some ⟨w.heap.size, 0, none⟩)] 23 (0, 0)) := by rw [hW0, heap_alloc_get]; simp
  have hx : W0.heap[w.heap.size]? = some (.cells #[.slice none 0 0, .int .i64 0, .int .i64 0, .int .i64 0, .int .i64 0] 55 (0, 0)) := by rw [hW0, heap_alloc_get, heap_alloc_get]; simp
  have hno : ∀ k, k < 2 → ∃ p, W0.cell? ⟨w.heap.size + 1, k, none⟩ = some (.pointer p) ∧ NoIdx W0 p := by
    intro k hk
    rcases (by omega : k = 0 ∨ k = 1) with rfl | rfl
    · exact ⟨none, cell_of hp 0, .inl rfl⟩
    · exact ⟨_, cell_of hp 1, .inr ⟨_, _, _, _, _, rfl, hx⟩⟩
  have F0 := Lib.hid f0; have Hno := Lib.hid hno
  clear f0 hp hx hno
  go_enter Try.func6, Try.ntmps6
  go_upto_block 0 with fail
  try have hsa : (w.alloc (.cells #[.slice none 0 0, .int .i64 0, .int .i64 0, .int .i64 0, .int .i64 0] 55)).heap.size = w.heap.size + 1 := by simp
  rw [← hW0]
  clear hW0 hsa
  go_cut [1] (fun _ wx => Fr (fun _ => False) W0 wx)
  case first =>
    go_wp2_with fail
    go_loopw [27] (fun s27 wr => ∃ k : Nat, s27 = .int .i64 (k : Int) ∧ k ≤ 2 ∧ Fr (fun _ => False) W0 wr) (fun s27 _ => 2 - (intOf s27).toNat)
    case atStart => exact ⟨0, rfl, by omega, Fr.refl _ _⟩
    case round =>
      obtain ⟨k, rfl, hk, hf⟩ := hrel
      by_cases hlt : k < 2
      · have hlt' : (k : Int) < 2 := by omega
        have k0 : (0 : Int) ≤ (k : Int) := by omega
        obtain ⟨p, hc, hN⟩ := Hno.out k hlt
        have c0 := (hf.cell (World.block_lt_of_cell? _ _ hc) (fun h => h)).trans hc
        have HN := Lib.hid (hN.fr hf (fun _ _ h => h))
        obtain ⟨k1, hk1⟩ : ∃ k1, k1 = k + 1 := ⟨_, rfl⟩
        have e1 : (k : Int) + 1 = (k1 : Int) := by omega
        obtain ⟨e2, e3, -⟩ := wrap_small (x := k1) (by omega)
        have HF := Lib.hid hf; have Hk1 := Lib.hid hk1; have Hlt := Lib.hid hlt
        clear hc hN hf hk1 hlt hk
        go_wp2_with fail
        refine (get_no HN.out 1).mono ?_
        rintro e w1 ⟨rfl, rfl⟩
        go_wp2_with fail
        refine (told_no HN.out).mono ?_
        rintro e w2 ⟨va, vb, rfl, ra, rb, -, -, -, f2⟩
        obtain ⟨aa, ca, rfl, -⟩ := row_cell ra
        have HN2 := Lib.hid (HN.out.fr f2 (fun _ _ h => h))
        have HF2 := Lib.hid (HF.out.trans f2 (fun _ _ h => h))
        clear ra rb f2 c0
        go_wp2_with fail
        refine (put_no HN2.out 1 1).mono ?_
        rintro e w3 ⟨rfl, rfl⟩
        go_wp2_with fail
        refine (set_no HN2.out 1 1).mono ?_
        rintro e w3 ⟨rfl, rfl⟩
        go_wp2_with fail
        refine (drop_no HN2.out 1).mono ?_
        rintro e w3 ⟨rfl, rfl⟩
        go_wp2_with fail
        refine (most_no HN2.out).mono ?_
        rintro e w3 ⟨rfl, rfl⟩
        go_wp2_with fail
        refine (len_no HN2.out).mono ?_
        rintro e w3 ⟨rfl, rfl⟩
        go_wp2_with fail
        refine (steps_no HN2.out).mono ?_
        rintro e w3 ⟨rfl, rfl⟩
        go_wp2_with fail
        refine (slots_no HN2.out).mono ?_
        rintro e w3 ⟨rfl, rfl⟩
        go_wp2_with fail
        go_roundw
        case rel => exact ⟨k1, rfl, by have := Hk1.out; have := Hlt.out; omega, HF2.out⟩
        case measure => have := Hk1.out; have := Hlt.out; simp [intOf]; omega
      · obtain rfl : k = 2 := by omega
        have HF := Lib.hid hf
        clear hf hlt hk
        go_wp2_with fail
        go_meet
        exact HF.out
  case rest =>
  have F1 := Lib.hid (F0.out.trans hcut (fun _ _ h => h))
  clear hcut
  generalize wc = wq at *
  go_wp2_with fail
  refine (new_err wq (n := 0) (by omega)).mono ?_
  rintro e w2 ⟨rfl, rfl⟩
  go_wp2_with fail
  refine (new_err wq (n := 4097) (by omega)).mono ?_
  rintro e w2 ⟨rfl, rfl⟩
  go_wp2_with fail
  refine (new_ok wq (m := 4096) (by omega) (by omega)).mono ?_
  rintro e w2 ⟨bh, g, N, rfl, hu, hi, hb, hg, hf⟩
  obtain rfl := up8192 hu
  have HN := Lib.hid (show NewIx wq w2 bh g 8192 4096 [] 0 from ⟨hi, hb, hg, hu, hf⟩)
  have HSl := Lib.hid (slots_ok hi); have HMo := Lib.hid (most_ok hi); have HSt := Lib.hid (steps_ok hi)
  clear hu hi hb hg hf
  have c8 : ((8192 : Nat) : Int) = 8192 := rfl
  have c4 : ((4096 : Nat) : Int) = 4096 := rfl
  have c0 : ((0 : Nat) : Int) = 0 := rfl
  rw [c8] at HSl; rw [c4] at HMo; rw [c0] at HSt
  go_wp2_with fail
  refine HSl.out.mono ?_
  rintro e w3 ⟨rfl, rfl⟩
  go_wp2_with fail
  refine HMo.out.mono ?_
  rintro e w3 ⟨rfl, rfl⟩
  go_wp2_with fail
  refine HSt.out.mono ?_
  rintro e w3 ⟨rfl, rfl⟩
  clear HSl HMo HSt c8 c4
  go_upto_block 2 with fail
  go_cut [15] (fun _ wx => ∃ st, NewIx wq wx bh g 8192 4096 (Lp 4096 allT) st)
  case first =>
    go_wp2_with fail
    go_loopw [15] (fun s15 wr => ∃ i st : Nat, s15 = .int .i64 (i : Int) ∧ i ≤ 4096 ∧ NewIx wq wr bh g 8192 4096 (Lp i allT) st) (fun s15 _ => 4096 - (intOf s15).toNat)
    case atStart => exact ⟨0, 0, rfl, by omega, HN.out⟩
    case round =>
      obtain ⟨i, st, rfl, hi, hn⟩ := hrel
      have HI := Lib.hid hn
      clear hn
      by_cases hlt : i < 4096
      · have hlt' : (i : Int) < 4096 := by omega
        obtain ⟨u1, u2, u3⟩ := idNum hlt
        obtain ⟨idn, hidn⟩ : ∃ idn, idn = i * 65537 := ⟨_, rfl⟩
        have HP := Lib.hid (put_ok HI.out.at_ u3 (i : Int))
        rw [putE_at hlt, putL_at hlt, ← hidn] at HP
        rw [← hidn] at u2
        obtain ⟨k1, hk1⟩ : ∃ k1, k1 = i + 1 := ⟨_, rfl⟩
        have e1 : (i : Int) + 1 = (k1 : Int) := by omega
        obtain ⟨e2, e3, -⟩ := wrap_small (x := k1) (by omega)
        have Hk1 := Lib.hid hk1; have Hlt := Lib.hid hlt
        clear hidn hk1 hlt hi u3
        go_wp2_with fail
        refine HP.out.mono ?_
        rintro e w5 ⟨st5, -, rfl, h5, f5⟩
        have HN5 := Lib.hid (HI.out.then h5 f5 (fun b hb => by rcases hb with h | h <;> simp [h]))
        clear h5 f5 HP u1 u2
        rw [c0]
        go_wp2_with fail
        go_roundw
        case rel => exact ⟨k1, st5, rfl, by have := Hk1.out; have := Hlt.out; omega, by rw [Hk1.out]; exact HN5.out⟩
        case measure => have := Hk1.out; have := Hlt.out; simp [intOf]; omega
      · obtain rfl : i = 4096 := by omega
        clear hlt hi
        go_wp2_with fail
        go_meet
        exact ⟨st, HI.out⟩
  case rest =>
  obtain ⟨st3, hn3⟩ := hcut
  have HP := Lib.hid (put_ok hn3.at_ (id := 1) (by omega) 1)
  have HN3 := Lib.hid hn3
  clear hn3 HN
  rw [put_full, show putL (Lp 4096 allT) 4096 1 1 = Lp 4096 allT by unfold putL; rw [put_full]; rfl] at HP
  go_wp2_with fail
  refine HP.out.mono ?_
  rintro e w4 ⟨st4, -, rfl, h4, f4⟩
  have HN4 := Lib.hid (HN3.out.then h4 f4 (fun b hb => by rcases hb with h | h <;> simp [h]))
  have HP := Lib.hid (put_ok h4 (id := 65537) (by omega) 1)
  clear h4 f4 HN3
  rw [put_there, show putL (Lp 4096 allT) 4096 65537 1 = Lp 4096 allT by unfold putL; rw [put_there]; rfl] at HP
  have c6 : ((6 : Nat) : Int) = 6 := rfl
  have c7 : ((7 : Nat) : Int) = 7 := rfl
  rw [c6]; rw [c7] at HP
  go_wp2_with fail
  refine HP.out.mono ?_
  rintro e w5 ⟨st5, -, rfl, h5, f5⟩
  have HN5 := Lib.hid (HN4.out.then h5 f5 (fun b hb => by rcases hb with h | h <;> simp [h]))
  clear h5 f5 HN4 HP c6 c7
  go_upto_block 4 with fail
  go_cut [18] (fun _ wx => ∃ st, NewIx wq wx bh g 8192 4096 (Lp 4096 (stay 4096)) st)
  case first =>
    go_wp2_with fail
    go_loopw [18] (fun s18 wr => ∃ i st : Nat, s18 = .int .i64 (i : Int) ∧ i ≤ 4096 ∧ i % 2 = 0 ∧ NewIx wq wr bh g 8192 4096 (Lp 4096 (stay i)) st) (fun s18 _ => 4096 - (intOf s18).toNat)
    case atStart => exact ⟨0, st5, rfl, by omega, rfl, by rw [stay_zero]; exact HN5.out⟩
    case round =>
      obtain ⟨i, st, rfl, hi, hev, hn⟩ := hrel
      have HI := Lib.hid hn
      clear hn
      by_cases hlt : i < 4096
      · have hlt' : (i : Int) < 4096 := by omega
        obtain ⟨u1, u2, u3⟩ := idNum hlt
        obtain ⟨idn, hidn⟩ : ∃ idn, idn = i * 65537 := ⟨_, rfl⟩
        have HP := Lib.hid (drop_ok HI.out.at_ u3)
        rw [look_Lp hlt (stay_iff.2 (.inr (Nat.le_refl _))), Lp_del hev, ← hidn] at HP
        rw [← hidn] at u2
        obtain ⟨k1, hk1⟩ : ∃ k1, k1 = i + 2 := ⟨_, rfl⟩
        have e1 : (i : Int) + 2 = (k1 : Int) := by omega
        obtain ⟨e2, e3, -⟩ := wrap_small (x := k1) (by omega)
        have Hk1 := Lib.hid hk1; have Hlt := Lib.hid hlt; have Hev := Lib.hid hev
        simp only [Option.isSome_some] at HP
        clear hidn hk1 hlt hi u3 hev
        go_wp2_with fail
        refine HP.out.mono ?_
        rintro e w6 ⟨st6, -, rfl, h6, f6⟩
        have HN6 := Lib.hid (HI.out.then h6 f6 (fun b hb => by rcases hb with h | h <;> simp [h]))
        clear h6 f6 HP u1 u2
        go_wp2_with fail
        go_roundw
        case rel => exact ⟨k1, st6, rfl, by have := Hk1.out; have := Hlt.out; have := Hev.out; omega, by have := Hk1.out; have := Hev.out; omega, by rw [Hk1.out]; exact HN6.out⟩
        case measure => have := Hk1.out; have := Hlt.out; simp [intOf]; omega
      · obtain rfl : i = 4096 := by omega
        clear hlt hi hev
        go_wp2_with fail
        go_meet
        exact ⟨st, HI.out⟩
  case rest =>
  obtain ⟨st6, hn6⟩ := hcut
  have HN6 := Lib.hid hn6
  clear hn6 HN5
  go_upto_block 6 with fail
  go_cut [19] (fun _ wx => ∃ st, NewIx wq wx bh g 8192 4096 (Lp 4096 (stay 4096)) st)
  case first =>
    go_wp2_with fail
    go_loopw [19] (fun s19 wr => ∃ i st : Nat, s19 = .int .i64 (i : Int) ∧ i ≤ 4096 ∧ NewIx wq wr bh g 8192 4096 (Lp 4096 (stay 4096)) st) (fun s19 _ => 4096 - (intOf s19).toNat)
    case atStart => exact ⟨0, st6, rfl, by omega, HN6.out⟩
    case round =>
      obtain ⟨i, st, rfl, hi, hn⟩ := hrel
      have HI := Lib.hid hn
      clear hn
      by_cases hlt : i < 4096
      · have hlt' : (i : Int) < 4096 := by omega
        obtain ⟨u1, u2, u3⟩ := idNum hlt
        obtain ⟨idn, hidn⟩ : ∃ idn, idn = i * 65537 := ⟨_, rfl⟩
        have HP := Lib.hid (get_ok HI.out.at_ u3)
        rw [look_odd hlt, ← hidn] at HP
        rw [← hidn] at u2
        obtain ⟨k1, hk1⟩ : ∃ k1, k1 = i + 1 := ⟨_, rfl⟩
        have e1 : (i : Int) + 1 = (k1 : Int) := by omega
        obtain ⟨e2, e3, -⟩ := wrap_small (x := k1) (by omega)
        obtain ⟨r1, r2⟩ := par2 i
        obtain ⟨r, hr⟩ : ∃ r, r = i % 2 := ⟨_, rfl⟩
        rw [← hr] at r1 r2 HP
        have hr2 : r < 2 := by omega
        have Hk1 := Lib.hid hk1; have Hlt := Lib.hid hlt
        clear hidn hk1 hlt hi u3 hr
        rcases (by omega : r = 0 ∨ r = 1) with rfl | rfl
        · rw [if_neg (by omega)] at HP
          simp only [Option.isSome_none, Option.getD_none] at HP
          clear hr2
          have c0' : ((0 : Nat) : Int) = 0 := rfl
          rw [c0'] at r1 r2
          go_wp2_with fail
          refine HP.out.mono ?_
          rintro e w7 ⟨st7, hs1, rfl, h7, f7⟩
          have HN7 := Lib.hid (HI.out.then h7 f7 (fun b hb => by simp [show b = bh from hb]))
          have HSt := Lib.hid (steps_ok h7)
          have hs2 : st7 ≤ 8192 := by obtain ⟨_, _, _, _, h⟩ := h7; exact h
          have s1 : ¬ (st7 : Int) < 1 := by omega
          have s2 : ¬ (8192 : Int) < (st7 : Int) := by omega
          have s3 : decide ((8192 : Int) < (st7 : Int)) = false := by simpa using s2
          have s4 : decide (8192 < st7) = false := by simpa using hs2
          clear h7 f7 HP hs1 hs2 u1 u2
          go_wp2_with fail
          refine HSt.out.mono ?_
          rintro e w8 ⟨rfl, rfl⟩
          go_wp2_with fail
          refine HSt.out.mono ?_
          rintro e w8 ⟨rfl, rfl⟩
          go_wp2_with fail
          go_roundw
          case rel => exact ⟨k1, st7, rfl, by have := Hk1.out; have := Hlt.out; omega, HN7.out⟩
          case measure => have := Hk1.out; have := Hlt.out; simp [intOf]; omega
        · rw [if_pos rfl] at HP
          simp only [Option.isSome_some, Option.getD_some] at HP
          clear hr2
          have c1' : ((1 : Nat) : Int) = 1 := rfl
          rw [c1'] at r1 r2
          go_wp2_with fail
          refine HP.out.mono ?_
          rintro e w7 ⟨st7, hs1, rfl, h7, f7⟩
          have HN7 := Lib.hid (HI.out.then h7 f7 (fun b hb => by simp [show b = bh from hb]))
          have HSt := Lib.hid (steps_ok h7)
          have hs2 : st7 ≤ 8192 := by obtain ⟨_, _, _, _, h⟩ := h7; exact h
          have s1 : ¬ (st7 : Int) < 1 := by omega
          have s2 : ¬ (8192 : Int) < (st7 : Int) := by omega
          have s3 : decide ((8192 : Int) < (st7 : Int)) = false := by simpa using s2
          have s4 : decide (8192 < st7) = false := by simpa using hs2
          clear h7 f7 HP hs1 hs2 u1 u2
          go_wp2_with fail
          refine HSt.out.mono ?_
          rintro e w8 ⟨rfl, rfl⟩
          go_wp2_with fail
          refine HSt.out.mono ?_
          rintro e w8 ⟨rfl, rfl⟩
          go_wp2_with fail
          go_roundw
          case rel => exact ⟨k1, st7, rfl, by have := Hk1.out; have := Hlt.out; omega, HN7.out⟩
          case measure => have := Hk1.out; have := Hlt.out; simp [intOf]; omega
      · obtain rfl : i = 4096 := by omega
        clear hlt hi
        go_wp2_with fail
        go_meet
        exact ⟨st, HI.out⟩
  case rest =>
  obtain ⟨st7, hn7⟩ := hcut
  have HLn := Lib.hid (len_ok hn7.at_)
  rw [Lp_half] at HLn
  have HP := Lib.hid (put_ok hn7.at_ (id := 1) (by omega) 1)
  rw [put_again] at HP
  have HN7 := Lib.hid hn7
  clear hn7 HN6
  have c2 : ((2048 : Nat) : Int) = 2048 := rfl
  rw [c2] at HLn
  rw [c0] at HP
  go_wp2_with fail
  refine HLn.out.mono ?_
  rintro e w8 ⟨rfl, rfl⟩
  go_wp2_with fail
  refine HP.out.mono ?_
  rintro e w8 ⟨st8, -, rfl, h8, f8⟩
  have HN8 := Lib.hid (HN7.out.then h8 f8 (fun b hb => by rcases hb with h | h <;> simp [h]))
  clear h8 f8 HP HLn
  go_wp2_with fail
  refine (awake_ok _).mono ?_
  rintro e w9 ⟨rfl, f9⟩
  have F9 := Lib.hid f9
  clear f9
  go_wp2_with fail
  go_ret
  exact ⟨rfl, (F1.out.trans HN8.out.fr (fun _ _ h => h)).trans F9.out (fun _ _ h => h)⟩
end Go.Proofs.Ytoehdpfcnpdhnaa.Ix
