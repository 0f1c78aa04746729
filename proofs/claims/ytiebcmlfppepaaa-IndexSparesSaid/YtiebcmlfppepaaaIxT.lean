/- SameInts, SameLimbs; the index layer's awake. No condition. -/
import Derived.Test.YtiebcmlfppepaaaIxS
namespace Go.Proofs.Ytiebcmlfppepaaa.Ix
open Go.RowKit
theorem row_cell {w : World} {e : TypeId} {v : Value} {n : Nat} {xs : List Value} (h : Row w e 1 v n xs) : ∃ a c, v = .slice a n c ∧ ∀ i, i < n → ∃ g, a = some ⟨g, 0, none⟩ ∧ w.cell? ⟨g, i, none⟩ = xs[i]? := by
  rcases h.2 with ⟨rfl, h0⟩ | ⟨g, cap, cur, rfl, _, k1, k2, k3, k4, k5⟩
  · exact ⟨none, 0, by rw [h0], fun i hi => by omega⟩
  · refine ⟨_, cap, rfl, fun i hi => ⟨g, rfl, ?_⟩⟩
    rw [cell_of k1 i, ← k5, List.getElem?_take, if_pos (by omega)]; simp
theorem sameInts_ok_get {L : List Int} {i : Nat} (h : i < L.length) : (L.map i64v)[i]? = some (.int .i64 (L.getD i 0)) := by
  rw [List.getElem?_map, List.getElem?_eq_getElem h, List.getD_eq_getElem?_getD, List.getElem?_eq_getElem h]; rfl
theorem sameLimbs_ok_get {L : List Nat} {i : Nat} (h : i < L.length) : (L.map u64v)[i]? = some (.int .u64 ((L.getD i 0 : Nat) : Int)) := by
  rw [List.getElem?_map, List.getElem?_eq_getElem h, List.getD_eq_getElem?_getD, List.getElem?_eq_getElem h]; rfl
theorem take_step' {α : Type} {d : α} {La Lb : List α} {i : Nat} (h : La.take i = Lb.take i) (ha : i < La.length) (hb : i < Lb.length) (e : La.getD i d = Lb.getD i d) : La.take (i + 1) = Lb.take (i + 1) := by
  rw [List.take_add_one, List.take_add_one, h, List.getElem?_eq_getElem ha, List.getElem?_eq_getElem hb]
  rw [List.getD_eq_getElem?_getD, List.getD_eq_getElem?_getD, List.getElem?_eq_getElem ha, List.getElem?_eq_getElem hb] at e
  simp at e
  rw [e]
set_option maxRecDepth 100000 in
set_option maxHeartbeats 1000000 in
theorem sameInts_ok {w : World} {va vb : Value} {n m : Nat} {La Lb : List Int} (ha : Row w 3 1 va n (La.map i64v)) (hb : Row w 3 1 vb m (Lb.map i64v)) (hn : n ≤ 1000000) (hm : m ≤ 1000000) :
    Calls Try.prog 14 #[va, vb] w fun e w' => e = .returned (.bool (decide (La = Lb))) ∧ Fr (fun _ => False) w w' := by
  have la : La.length = n := by have := ha.1; simpa using this
  have lb : Lb.length = m := by have := hb.1; simpa using this
  by_cases hnm : n = m
  · subst hnm
    obtain ⟨aa, ca, rfl⟩ : ∃ a c, va = .slice a n c := by obtain ⟨a, c, e, _⟩ := row_cell ha; exact ⟨a, c, e⟩
    obtain ⟨ab, cb, rfl⟩ : ∃ a c, vb = .slice a n c := by obtain ⟨a, c, e, _⟩ := row_cell hb; exact ⟨a, c, e⟩
    have HA := Lib.hid ha; have HB := Lib.hid hb
    have Hla := Lib.hid la; have Hlb := Lib.hid lb
    clear ha hb la lb hm
    go_enter Try.func14, Try.ntmps14
    go_upto_block 0 with fail
    go_cut [5] (fun _ wx => La = Lb ∧ Fr (fun _ => False) w wx)
    case first =>
      go_wp2_with fail
      go_loopw [5] (fun s13 wr => ∃ i : Nat, i ≤ n ∧ s13 = .int .i64 i ∧ La.take i = Lb.take i ∧ Fr (fun _ => False) w wr) (fun s13 _ => n - (intOf s13).toNat)
      case atStart => exact ⟨0, Nat.zero_le _, rfl, by simp, Fr.refl _ _⟩
      case round =>
        obtain ⟨i, hi, rfl, htk, fr⟩ := hrel
        have HF := Lib.hid fr; have Htk := Lib.hid htk
        have HA1 := Lib.hid (Row.fr HA.out fr (fun _ _ h => h)); have HB1 := Lib.hid (Row.fr HB.out fr (fun _ _ h => h))
        clear fr htk
        by_cases hlt : i < n
        · have hlt' : (i : Int) < (n : Int) := by omega
          obtain ⟨_, _, e1, h1⟩ := row_cell HA1.out
          obtain ⟨ga, e2, k1⟩ := h1 i hlt
          obtain ⟨e3, -, -⟩ := Value.slice.inj e1
          rw [← e3] at e2
          subst e2
          obtain ⟨_, _, e4, h2⟩ := row_cell HB1.out
          obtain ⟨gb, e5, k2⟩ := h2 i hlt
          obtain ⟨e6, -, -⟩ := Value.slice.inj e4
          rw [← e6] at e5
          subst e5
          rw [sameInts_ok_get (by rw [Hla.out]; exact hlt)] at k1
          rw [sameInts_ok_get (by rw [Hlb.out]; exact hlt)] at k2
          clear e1 e3 e4 e6 h1 h2
          obtain ⟨xa, hxa⟩ : ∃ x, x = La.getD i 0 := ⟨_, rfl⟩
          obtain ⟨xb, hxb⟩ : ∃ x, x = Lb.getD i 0 := ⟨_, rfl⟩
          rw [← hxa] at k1; rw [← hxb] at k2
          have Hxa := Lib.hid hxa; have Hxb := Lib.hid hxb; have Hlt := Lib.hid hlt
          clear hxa hxb hlt
          go_wp2_with fail
          by_cases hx : xa = xb
          · have b1 : ((xa : Int) == (xb : Int)) = true := by simp [hx]
            have b1' : decide (xa = xb) = true := by simp [hx]
            have Hx := Lib.hid hx
            clear hx
            go_still (by kernel_rfl)
            go_wp2_with fail
            go_roundw
            case rel => exact ⟨i + 1, Hlt.out, by first | (simp; done) | go_num, take_step' Htk.out (by rw [Hla.out]; exact Hlt.out) (by rw [Hlb.out]; exact Hlt.out) (by rw [← Hxa.out, ← Hxb.out]; exact Hx.out), Fr.drew HF.out⟩
            case measure => have := Hlt.out; simp [intOf]; omega
          · have b1 : ((xa : Int) == (xb : Int)) = false := by simp; omega
            have b1' : decide (xa = xb) = false := by simpa using hx
            have hne : La ≠ Lb := fun h => hx (by rw [Hxa.out, Hxb.out, h])
            have Hne := Lib.hid hne
            clear hx hne
            go_still (by kernel_rfl)
            go_wp2_with fail
            go_ret
            exact ⟨by rw [decide_eq_false Hne.out]; rfl, Fr.drew HF.out⟩
        · obtain rfl : i = n := by omega
          clear hlt
          go_wp2_with fail
          go_meet
          have := Htk.out
          rw [List.take_of_length_le (by rw [Hla.out]; exact Nat.le_refl _), List.take_of_length_le (by rw [Hlb.out]; exact Nat.le_refl _)] at this
          exact ⟨this, HF.out⟩
    case rest =>
    obtain ⟨heq, hfr⟩ := hcut
    go_wp2_with fail
    go_ret
    exact ⟨by rw [decide_eq_true heq]; rfl, hfr⟩
  · have b1 : ((n : Int) == (m : Int)) = false := by simp; omega
    have b1' : decide (n = m) = false := by simpa using hnm
    have hne : La ≠ Lb := fun h => hnm (by rw [← la, ← lb, h])
    obtain ⟨aa, ca, rfl⟩ : ∃ a c, va = .slice a n c := by obtain ⟨a, c, e, _⟩ := row_cell ha; exact ⟨a, c, e⟩
    obtain ⟨ab, cb, rfl⟩ : ∃ a c, vb = .slice a m c := by obtain ⟨a, c, e, _⟩ := row_cell hb; exact ⟨a, c, e⟩
    have Hne := Lib.hid hne
    clear ha hb la lb hnm hne
    go_enter Try.func14, Try.ntmps14
    go_wp2_with fail
    go_ret
    exact ⟨by rw [decide_eq_false Hne.out]; rfl, Fr.refl _ _⟩
set_option maxRecDepth 100000 in
set_option maxHeartbeats 1000000 in
theorem sameLimbs_ok {w : World} {va vb : Value} {n m : Nat} {La Lb : List Nat} (ha : Row w 38 1 va n (La.map u64v)) (hb : Row w 38 1 vb m (Lb.map u64v)) (hn : n ≤ 1000000) (hm : m ≤ 1000000) :
    Calls Try.prog 13 #[va, vb] w fun e w' => e = .returned (.bool (decide (La = Lb))) ∧ Fr (fun _ => False) w w' := by
  have la : La.length = n := by have := ha.1; simpa using this
  have lb : Lb.length = m := by have := hb.1; simpa using this
  by_cases hnm : n = m
  · subst hnm
    obtain ⟨aa, ca, rfl⟩ : ∃ a c, va = .slice a n c := by obtain ⟨a, c, e, _⟩ := row_cell ha; exact ⟨a, c, e⟩
    obtain ⟨ab, cb, rfl⟩ : ∃ a c, vb = .slice a n c := by obtain ⟨a, c, e, _⟩ := row_cell hb; exact ⟨a, c, e⟩
    have HA := Lib.hid ha; have HB := Lib.hid hb
    have Hla := Lib.hid la; have Hlb := Lib.hid lb
    clear ha hb la lb hm
    go_enter Try.func13, Try.ntmps13
    go_upto_block 0 with fail
    go_cut [5] (fun _ wx => La = Lb ∧ Fr (fun _ => False) w wx)
    case first =>
      go_wp2_with fail
      go_loopw [5] (fun s13 wr => ∃ i : Nat, i ≤ n ∧ s13 = .int .i64 i ∧ La.take i = Lb.take i ∧ Fr (fun _ => False) w wr) (fun s13 _ => n - (intOf s13).toNat)
      case atStart => exact ⟨0, Nat.zero_le _, rfl, by simp, Fr.refl _ _⟩
      case round =>
        obtain ⟨i, hi, rfl, htk, fr⟩ := hrel
        have HF := Lib.hid fr; have Htk := Lib.hid htk
        have HA1 := Lib.hid (Row.fr HA.out fr (fun _ _ h => h)); have HB1 := Lib.hid (Row.fr HB.out fr (fun _ _ h => h))
        clear fr htk
        by_cases hlt : i < n
        · have hlt' : (i : Int) < (n : Int) := by omega
          obtain ⟨_, _, e1, h1⟩ := row_cell HA1.out
          obtain ⟨ga, e2, k1⟩ := h1 i hlt
          obtain ⟨e3, -, -⟩ := Value.slice.inj e1
          rw [← e3] at e2
          subst e2
          obtain ⟨_, _, e4, h2⟩ := row_cell HB1.out
          obtain ⟨gb, e5, k2⟩ := h2 i hlt
          obtain ⟨e6, -, -⟩ := Value.slice.inj e4
          rw [← e6] at e5
          subst e5
          rw [sameLimbs_ok_get (by rw [Hla.out]; exact hlt)] at k1
          rw [sameLimbs_ok_get (by rw [Hlb.out]; exact hlt)] at k2
          clear e1 e3 e4 e6 h1 h2
          obtain ⟨xa, hxa⟩ : ∃ x, x = La.getD i 0 := ⟨_, rfl⟩
          obtain ⟨xb, hxb⟩ : ∃ x, x = Lb.getD i 0 := ⟨_, rfl⟩
          rw [← hxa] at k1; rw [← hxb] at k2
          have Hxa := Lib.hid hxa; have Hxb := Lib.hid hxb; have Hlt := Lib.hid hlt
          clear hxa hxb hlt
          go_wp2_with fail
          by_cases hx : xa = xb
          · have b1 : ((xa : Int) == (xb : Int)) = true := by simp [hx]
            have b1' : decide (xa = xb) = true := by simp [hx]
            have Hx := Lib.hid hx
            clear hx
            go_still (by kernel_rfl)
            go_wp2_with fail
            go_roundw
            case rel => exact ⟨i + 1, Hlt.out, by first | (simp; done) | go_num, take_step' Htk.out (by rw [Hla.out]; exact Hlt.out) (by rw [Hlb.out]; exact Hlt.out) (by rw [← Hxa.out, ← Hxb.out]; exact Hx.out), Fr.drew HF.out⟩
            case measure => have := Hlt.out; simp [intOf]; omega
          · have b1 : ((xa : Int) == (xb : Int)) = false := by simp; omega
            have b1' : decide (xa = xb) = false := by simpa using hx
            have hne : La ≠ Lb := fun h => hx (by rw [Hxa.out, Hxb.out, h])
            have Hne := Lib.hid hne
            clear hx hne
            go_still (by kernel_rfl)
            go_wp2_with fail
            go_ret
            exact ⟨by rw [decide_eq_false Hne.out]; rfl, Fr.drew HF.out⟩
        · obtain rfl : i = n := by omega
          clear hlt
          go_wp2_with fail
          go_meet
          have := Htk.out
          rw [List.take_of_length_le (by rw [Hla.out]; exact Nat.le_refl _), List.take_of_length_le (by rw [Hlb.out]; exact Nat.le_refl _)] at this
          exact ⟨this, HF.out⟩
    case rest =>
    obtain ⟨heq, hfr⟩ := hcut
    go_wp2_with fail
    go_ret
    exact ⟨by rw [decide_eq_true heq]; rfl, hfr⟩
  · have b1 : ((n : Int) == (m : Int)) = false := by simp; omega
    have b1' : decide (n = m) = false := by simpa using hnm
    have hne : La ≠ Lb := fun h => hnm (by rw [← la, ← lb, h])
    obtain ⟨aa, ca, rfl⟩ : ∃ a c, va = .slice a n c := by obtain ⟨a, c, e, _⟩ := row_cell ha; exact ⟨a, c, e⟩
    obtain ⟨ab, cb, rfl⟩ : ∃ a c, vb = .slice a m c := by obtain ⟨a, c, e, _⟩ := row_cell hb; exact ⟨a, c, e⟩
    have Hne := Lib.hid hne
    clear ha hb la lb hnm hne
    go_enter Try.func13, Try.ntmps13
    go_wp2_with fail
    go_ret
    exact ⟨by rw [decide_eq_false Hne.out]; rfl, Fr.refl _ _⟩
set_option maxRecDepth 100000 in
set_option maxHeartbeats 1000000 in
theorem awake_ok (w : World) : Calls Try.prog 15 #[] w fun e w' => e = .returned (.bool true) ∧ Fr (fun _ => False) w w' := by
  have HNw := Lib.hid (new_ok w (m := 3) (by omega) (by omega))
  go_enter Try.func15, Try.ntmps15
  go_wp2_with fail
  refine HNw.out.mono ?_
  rintro e w1 ⟨bh, g, N, rfl, hu, hi, hb, hg, hf⟩
  obtain rfl : N = 8 := hu.same ⟨3, rfl, by omega, .inr (by omega)⟩
  have HN := Lib.hid (show NewIx w w1 bh g 8 3 [] 0 from ⟨hi, hb, hg, hu, hf⟩)
  have HP := Lib.hid (put_ok hi (id := 7) (by omega) 70)
  clear hu hi hb hg hf
  go_wp2_with fail
  refine HP.out.mono ?_
  rintro e w2 ⟨st2, -, rfl, h2, f2⟩
  have e2 : (putE [] 3 7 : Int) = 0 := by rw [show putE [] 3 7 = 0 by decide]; rfl
  have e2' : putL [] 3 7 70 = [(7, 70)] := by decide
  rw [e2'] at h2
  have HN2 := Lib.hid (HN.out.then h2 f2 (fun b hb => by rcases hb with h | h <;> simp [h]))
  have HP := Lib.hid (put_ok h2 (id := 4294967295) (by omega) (-1))
  clear h2 f2 HN
  go_wp2_with fail
  refine HP.out.mono ?_
  rintro e w3 ⟨st3, -, rfl, h3, f3⟩
  have e3 : (putE [(7, 70)] 3 4294967295 : Int) = 0 := by rw [show putE [(7, 70)] 3 4294967295 = 0 by decide]; rfl
  have e3' : putL [(7, 70)] 3 4294967295 (-1) = [(7, 70), (4294967295, -1)] := by decide
  rw [e3'] at h3
  have HN3 := Lib.hid (HN2.out.then h3 f3 (fun b hb => by rcases hb with h | h <;> simp [h]))
  have HP := Lib.hid (get_ok h3 (id := 7) (by omega))
  clear h3 f3 HN2 e2 e2'
  go_wp2_with fail
  refine HP.out.mono ?_
  rintro e w4 ⟨st4, -, rfl, h4, f4⟩
  have HN4 := Lib.hid (HN3.out.then h4 f4 (fun b hb => by simp [show b = bh from hb]))
  have HQ := Lib.hid (drop_ok h4 (id := 7) (by omega))
  have e4 : look [(7, 70), (4294967295, -1)] 7 = some 70 := by decide
  rw [e4] at HQ
  clear h4 f4 HN3 e3 e3' HP
  simp only [e4, Option.getD_some, Option.isSome_some]
  go_wp2_with fail
  refine HQ.out.mono ?_
  rintro e w5 ⟨st5, -, rfl, h5, f5⟩
  have e5 : del [(7, 70), (4294967295, -1)] 7 = [(4294967295, -1)] := by decide
  rw [e5] at h5
  have HN5 := Lib.hid (HN4.out.then h5 f5 (fun b hb => by rcases hb with h | h <;> simp [h]))
  have HL := Lib.hid (len_ok h5)
  have HSl := Lib.hid (slots_ok h5)
  clear h5 f5 HN4 e4 e5
  go_wp2_with fail
  refine HL.out.mono ?_
  rintro e w6 ⟨rfl, rfl⟩
  go_wp2_with fail
  refine HSl.out.mono ?_
  rintro e w6 ⟨rfl, rfl⟩
  go_wp2_with fail
  go_ret
  exact ⟨rfl, HN5.out.fr⟩
end Go.Proofs.Ytiebcmlfppepaaa.Ix
