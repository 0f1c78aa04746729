/- SameInts, SameBytes, CopyBytes. No condition. -/
import Derived.Test.YticcjnfninhjlaaDoorBitK
namespace Go.Proofs.YticcjnfninhjlaaDoor.Bt
open Go.RowKit
def i64v (x : Int) : Value := .int .i64 x
theorem sameInts_ok_get {L : List Int} {i : Nat} (h : i < L.length) : (L.map i64v)[i]? = some (.int .i64 (L.getD i 0)) := by
  rw [List.getElem?_map, List.getElem?_eq_getElem h, List.getD_eq_getElem?_getD, List.getElem?_eq_getElem h]; rfl
theorem sameBytes_ok_get {L : List Nat} {i : Nat} (h : i < L.length) : (L.map u8v)[i]? = some (.int .u8 ((L.getD i 0 : Nat) : Int)) := by
  rw [List.getElem?_map, List.getElem?_eq_getElem h, List.getD_eq_getElem?_getD, List.getElem?_eq_getElem h]; rfl
theorem take_step' {α : Type} {d : α} {La Lb : List α} {i : Nat} (h : La.take i = Lb.take i) (ha : i < La.length) (hb : i < Lb.length) (e : La.getD i d = Lb.getD i d) : La.take (i + 1) = Lb.take (i + 1) := by
  rw [List.take_add_one, List.take_add_one, h, List.getElem?_eq_getElem ha, List.getElem?_eq_getElem hb]
  rw [List.getD_eq_getElem?_getD, List.getD_eq_getElem?_getD, List.getElem?_eq_getElem ha, List.getElem?_eq_getElem hb] at e
  simp at e
  rw [e]
set_option maxRecDepth 100000 in
set_option maxHeartbeats 1000000 in
theorem sameInts_ok {w : World} {va vb : Value} {n m : Nat} {La Lb : List Int} (ha : Row w 3 1 va n (La.map i64v)) (hb : Row w 3 1 vb m (Lb.map i64v)) (hn : n ≤ 1000000) (hm : m ≤ 1000000) :
    Calls Tryd.prog 30 #[va, vb] w fun e w' => e = .returned (.bool (decide (La = Lb))) ∧ Fr (fun _ => False) w w' := by
  have la : La.length = n := by have := ha.1; simpa using this
  have lb : Lb.length = m := by have := hb.1; simpa using this
  by_cases hnm : n = m
  · subst hnm
    obtain ⟨aa, ca, rfl⟩ : ∃ a c, va = .slice a n c := by obtain ⟨a, c, e, _⟩ := row_cell ha; exact ⟨a, c, e⟩
    obtain ⟨ab, cb, rfl⟩ : ∃ a c, vb = .slice a n c := by obtain ⟨a, c, e, _⟩ := row_cell hb; exact ⟨a, c, e⟩
    have HA := Lib.hid ha; have HB := Lib.hid hb
    have Hla := Lib.hid la; have Hlb := Lib.hid lb
    clear ha hb la lb hm
    go_enter Tryd.func30, Tryd.ntmps30
    go_upto_block 0 with fail
    go_cut [5] (fun _ wx => La = Lb ∧ Fr (fun _ => False) w wx)
    case first =>
      go_wp2_with fail
      go_loopw [5] (fun s13 wr => ∃ i : Nat, i ≤ n ∧ s13 = .int .i64 i ∧ La.take i = Lb.take i ∧ Fr (fun _ => False) w wr) (fun s13 _ => n - (intOf s13).toNat)
      case atStart => exact ⟨0, Nat.zero_le _, rfl, by simp, Fr.refl _ _⟩
      case round =>
        obtain ⟨i, hi, rfl, htk, fr⟩ := hrel
        have HF := Lib.hid fr; have Htk := Lib.hid htk
        have HA1 := Lib.hid (Row.fr HA.out fr (fun _ _ h => h)); have HB1 := Lib.hid (Row.fr HB.out fr (fun _ _ h => h))
        clear fr htk
        by_cases hlt : i < n
        · have hlt' : (i : Int) < (n : Int) := by omega
          obtain ⟨_, _, e1, h1⟩ := row_cell HA1.out
          obtain ⟨ga, e2, k1⟩ := h1 i hlt
          obtain ⟨e3, -, -⟩ := Value.slice.inj e1
          rw [← e3] at e2
          subst e2
          obtain ⟨_, _, e4, h2⟩ := row_cell HB1.out
          obtain ⟨gb, e5, k2⟩ := h2 i hlt
          obtain ⟨e6, -, -⟩ := Value.slice.inj e4
          rw [← e6] at e5
          subst e5
          rw [sameInts_ok_get (by rw [Hla.out]; exact hlt)] at k1
          rw [sameInts_ok_get (by rw [Hlb.out]; exact hlt)] at k2
          clear e1 e3 e4 e6 h1 h2
          obtain ⟨xa, hxa⟩ : ∃ x, x = La.getD i 0 := ⟨_, rfl⟩
          obtain ⟨xb, hxb⟩ : ∃ x, x = Lb.getD i 0 := ⟨_, rfl⟩
          rw [← hxa] at k1; rw [← hxb] at k2
          have Hxa := Lib.hid hxa; have Hxb := Lib.hid hxb; have Hlt := Lib.hid hlt
          clear hxa hxb hlt
          go_wp2_with fail
          by_cases hx : xa = xb
          · have b1 : ((xa : Int) == (xb : Int)) = true := by simp [hx]
            have b1' : decide (xa = xb) = true := by simp [hx]
            have Hx := Lib.hid hx
            clear hx
            go_still (by kernel_rfl)
            go_wp2_with fail
            go_roundw
            case rel => exact ⟨i + 1, Hlt.out, by first | (simp; done) | go_num, take_step' Htk.out (by rw [Hla.out]; exact Hlt.out) (by rw [Hlb.out]; exact Hlt.out) (by rw [← Hxa.out, ← Hxb.out]; exact Hx.out), Fr.drew HF.out⟩
            case measure => have := Hlt.out; simp [intOf]; omega
          · have b1 : ((xa : Int) == (xb : Int)) = false := by simp; omega
            have b1' : decide (xa = xb) = false := by simpa using hx
            have hne : La ≠ Lb := fun h => hx (by rw [Hxa.out, Hxb.out, h])
            have Hne := Lib.hid hne
            clear hx hne
            go_still (by kernel_rfl)
            go_wp2_with fail
            go_ret
            exact ⟨by rw [decide_eq_false Hne.out]; rfl, Fr.drew HF.out⟩
        · obtain rfl : i = n := by omega
          clear hlt
          go_wp2_with fail
          go_meet
          have := Htk.out
          rw [List.take_of_length_le (by rw [Hla.out]; exact Nat.le_refl _), List.take_of_length_le (by rw [Hlb.out]; exact Nat.le_refl _)] at this
          exact ⟨this, HF.out⟩
    case rest =>
    obtain ⟨heq, hfr⟩ := hcut
    go_wp2_with fail
    go_ret
    exact ⟨by rw [decide_eq_true heq]; rfl, hfr⟩
  · have b1 : ((n : Int) == (m : Int)) = false := by simp; omega
    have b1' : decide (n = m) = false := by simpa using hnm
    have hne : La ≠ Lb := fun h => hnm (by rw [← la, ← lb, h])
    obtain ⟨aa, ca, rfl⟩ : ∃ a c, va = .slice a n c := by obtain ⟨a, c, e, _⟩ := row_cell ha; exact ⟨a, c, e⟩
    obtain ⟨ab, cb, rfl⟩ : ∃ a c, vb = .slice a m c := by obtain ⟨a, c, e, _⟩ := row_cell hb; exact ⟨a, c, e⟩
    have Hne := Lib.hid hne
    clear ha hb la lb hnm hne
    go_enter Tryd.func30, Tryd.ntmps30
    go_wp2_with fail
    go_ret
    exact ⟨by rw [decide_eq_false Hne.out]; rfl, Fr.refl _ _⟩
set_option maxRecDepth 100000 in
set_option maxHeartbeats 1000000 in
theorem sameBytes_ok {w : World} {va vb : Value} {n m : Nat} {La Lb : List Nat} (ha : Row w 5 1 va n (La.map u8v)) (hb : Row w 5 1 vb m (Lb.map u8v)) (hn : n ≤ 1000000) (hm : m ≤ 1000000) :
    Calls Tryd.prog 14 #[va, vb] w fun e w' => e = .returned (.bool (decide (La = Lb))) ∧ Fr (fun _ => False) w w' := by
  have la : La.length = n := by have := ha.1; simpa using this
  have lb : Lb.length = m := by have := hb.1; simpa using this
  by_cases hnm : n = m
  · subst hnm
    obtain ⟨aa, ca, rfl⟩ : ∃ a c, va = .slice a n c := by obtain ⟨a, c, e, _⟩ := row_cell ha; exact ⟨a, c, e⟩
    obtain ⟨ab, cb, rfl⟩ : ∃ a c, vb = .slice a n c := by obtain ⟨a, c, e, _⟩ := row_cell hb; exact ⟨a, c, e⟩
    have HA := Lib.hid ha; have HB := Lib.hid hb
    have Hla := Lib.hid la; have Hlb := Lib.hid lb
    clear ha hb la lb hm
    go_enter Tryd.func14, Tryd.ntmps14
    go_upto_block 0 with fail
    go_cut [5] (fun _ wx => La = Lb ∧ Fr (fun _ => False) w wx)
    case first =>
      go_wp2_with fail
      go_loopw [5] (fun s13 wr => ∃ i : Nat, i ≤ n ∧ s13 = .int .i64 i ∧ La.take i = Lb.take i ∧ Fr (fun _ => False) w wr) (fun s13 _ => n - (intOf s13).toNat)
      case atStart => exact ⟨0, Nat.zero_le _, rfl, by simp, Fr.refl _ _⟩
      case round =>
        obtain ⟨i, hi, rfl, htk, fr⟩ := hrel
        have HF := Lib.hid fr; have Htk := Lib.hid htk
        have HA1 := Lib.hid (Row.fr HA.out fr (fun _ _ h => h)); have HB1 := Lib.hid (Row.fr HB.out fr (fun _ _ h => h))
        clear fr htk
        by_cases hlt : i < n
        · have hlt' : (i : Int) < (n : Int) := by omega
          obtain ⟨_, _, e1, h1⟩ := row_cell HA1.out
          obtain ⟨ga, e2, k1⟩ := h1 i hlt
          obtain ⟨e3, -, -⟩ := Value.slice.inj e1
          rw [← e3] at e2
          subst e2
          obtain ⟨_, _, e4, h2⟩ := row_cell HB1.out
          obtain ⟨gb, e5, k2⟩ := h2 i hlt
          obtain ⟨e6, -, -⟩ := Value.slice.inj e4
          rw [← e6] at e5
          subst e5
          rw [sameBytes_ok_get (by rw [Hla.out]; exact hlt)] at k1
          rw [sameBytes_ok_get (by rw [Hlb.out]; exact hlt)] at k2
          clear e1 e3 e4 e6 h1 h2
          obtain ⟨xa, hxa⟩ : ∃ x, x = La.getD i 0 := ⟨_, rfl⟩
          obtain ⟨xb, hxb⟩ : ∃ x, x = Lb.getD i 0 := ⟨_, rfl⟩
          rw [← hxa] at k1; rw [← hxb] at k2
          have Hxa := Lib.hid hxa; have Hxb := Lib.hid hxb; have Hlt := Lib.hid hlt
          clear hxa hxb hlt
          go_wp2_with fail
          by_cases hx : xa = xb
          · have b1 : ((xa : Int) == (xb : Int)) = true := by simp [hx]
            have b1' : decide (xa = xb) = true := by simp [hx]
            have Hx := Lib.hid hx
            clear hx
            go_still (by kernel_rfl)
            go_wp2_with fail
            go_roundw
            case rel => exact ⟨i + 1, Hlt.out, by first | (simp; done) | go_num, take_step' Htk.out (by rw [Hla.out]; exact Hlt.out) (by rw [Hlb.out]; exact Hlt.out) (by rw [← Hxa.out, ← Hxb.out]; exact Hx.out), Fr.drew HF.out⟩
            case measure => have := Hlt.out; simp [intOf]; omega
          · have b1 : ((xa : Int) == (xb : Int)) = false := by simp; omega
            have b1' : decide (xa = xb) = false := by simpa using hx
            have hne : La ≠ Lb := fun h => hx (by rw [Hxa.out, Hxb.out, h])
            have Hne := Lib.hid hne
            clear hx hne
            go_still (by kernel_rfl)
            go_wp2_with fail
            go_ret
            exact ⟨by rw [decide_eq_false Hne.out]; rfl, Fr.drew HF.out⟩
        · obtain rfl : i = n := by omega
          clear hlt
          go_wp2_with fail
          go_meet
          have := Htk.out
          rw [List.take_of_length_le (by rw [Hla.out]; exact Nat.le_refl _), List.take_of_length_le (by rw [Hlb.out]; exact Nat.le_refl _)] at this
          exact ⟨this, HF.out⟩
    case rest =>
    obtain ⟨heq, hfr⟩ := hcut
    go_wp2_with fail
    go_ret
    exact ⟨by rw [decide_eq_true heq]; rfl, hfr⟩
  · have b1 : ((n : Int) == (m : Int)) = false := by simp; omega
    have b1' : decide (n = m) = false := by simpa using hnm
    have hne : La ≠ Lb := fun h => hnm (by rw [← la, ← lb, h])
    obtain ⟨aa, ca, rfl⟩ : ∃ a c, va = .slice a n c := by obtain ⟨a, c, e, _⟩ := row_cell ha; exact ⟨a, c, e⟩
    obtain ⟨ab, cb, rfl⟩ : ∃ a c, vb = .slice a m c := by obtain ⟨a, c, e, _⟩ := row_cell hb; exact ⟨a, c, e⟩
    have Hne := Lib.hid hne
    clear ha hb la lb hnm hne
    go_enter Tryd.func14, Tryd.ntmps14
    go_wp2_with fail
    go_ret
    exact ⟨by rw [decide_eq_false Hne.out]; rfl, Fr.refl _ _⟩
theorem u8_one {L : List Nat} : ∀ u ∈ L.map u8v, u.oneCell' = true := by
  intro u hu
  obtain ⟨x, _, rfl⟩ := List.mem_map.1 hu
  rfl
set_option maxRecDepth 100000 in
theorem copyBytes_ok {w : World} {a : Option Addr} {n c : Nat} {L : List Nat} (hR : Row w 5 1 (.slice a n c) n (L.map u8v)) (hn : n ≤ 1000000) (h0 : 0 < n) :
    Calls Tryd.prog 13 #[.slice a n c] w fun e w' => ∃ a' c', e = .returned (.slice a' n c') ∧ Row w' 5 1 (.slice a' n c') n (L.map u8v) ∧ Fr (fun _ => False) w w' ∧ (∀ b, (Value.slice a' n c').ownBlock = some b → w.heap.size ≤ b) := by
  rcases hR.2 with ⟨_, h00⟩ | ⟨g, cap, cur, e, hg, h1, h2, h3, h4, h5⟩
  · omega
  · obtain ⟨rfl, -, rfl⟩ := Value.slice.inj e
    obtain ⟨i0, hi, hz0, hz1, hz2⟩ := info_parts Tryd.infoU8
    have hR1 : Row w 5 1 (.slice none 0 0) 0 [] := ⟨rfl, .inl ⟨rfl, rfl⟩⟩
    obtain ⟨v', w3, hrun, hR3, hf3, ho3⟩ := run_append_fr (P := Tryd.prog) _ 30 30 5 i0 _ 1 1 Tryd.underlying30 hi hz0 hz1 hz2 rfl (by decide) _ _ _ hR1 ⟨g, 0, none⟩ n c (L.map u8v) hR.1
      (by
        intro j u hu
        have hj : j < (L.map u8v).length := (List.getElem?_eq_some_iff.1 hu).1
        rw [hR.1] at hj
        rw [← h5, List.getElem?_take, if_pos hj] at hu
        have := cell_of h1 j
        rw [addr_add, Nat.zero_add, this]; simpa using hu)
      u8_one (by unfold maxLen; omega) (by omega)
    simp only [Nat.zero_add, List.nil_append] at hR3
    obtain ⟨a', c', rfl⟩ : ∃ a' c', v' = .slice a' n c' := by
      rcases hR3.2 with ⟨rfl, h0⟩ | ⟨g, cap, cur, rfl, _⟩
      · exact ⟨none, 0, by rw [h0]⟩
      · exact ⟨_, _, rfl⟩
    have HR3 := Lib.hid hR3; have Hf3 := Lib.hid hf3; have Ho3 := Lib.hid ho3
    have Hrun := Lib.hid hrun
    clear hR h1 h2 h3 h4 h5 hR3 hf3 ho3 hR1 hi hz0 hz1 hz2 hrun e
    go_enter Tryd.func13, Tryd.ntmps13
    go_wp2_with (at_builtin; refine wpList_append_run rfl _ _ _ rfl rfl rfl Hrun.out ?_)
    go_ret
    refine ⟨a', c', rfl, HR3.out, Hf3.out.mono (fun b _ h => by simp [Value.ownBlock] at h), ?_⟩
    intro b hb
    rcases Ho3.out with h | h
    · rw [h] at hb; simp [Value.ownBlock] at hb
    · rw [h] at hb; simp at hb; omega
end Go.Proofs.YticcjnfninhjlaaDoor.Bt
