/- SameInts, SameBytes, CopyBytes. No condition. -/
import Derived.Test.YthckfbfenfkdiaaDoorBitK
namespace Go.Proofs.YthckfbfenfkdiaaDoor.Bt
open Go.RowKit
def i64v (x : Int) : Value := .int .i64 x
theorem sameInts_ok_get {L : List Int} {i : Nat} (h : i < L.length) : (L.map i64v)[i]? = some (.int .i64 (L.getD i 0)) := by
  rw [List.getElem?_map, List.getElem?_eq_getElem h, List.getD_eq_getElem?_getD, List.getElem?_eq_getElem h]; rfl
theorem sameBytes_ok_get {L : List Nat} {i : Nat} (h : i < L.length) : (L.map u8v)[i]? = some (.int .u8 ((L.getD i 0 : Nat) : Int)) := by
  rw [List.getElem?_map, List.getElem?_eq_getElem h, List.getD_eq_getElem?_getD, List.getElem?_eq_getElem h]; rfl
theorem take_step' {α : Type} {d : α} {La Lb : List α} {i : Nat} (h : La.take i = Lb.take i) (ha : i < La.length) (hb : i < Lb.length) (e : La.getD i d = Lb.getD i d) : La.take (i + 1) = Lb.take (i + 1) := by
  rw [List.take_add_one, List.take_add_one, h, List.getElem?_eq_getElem ha, List.getElem?_eq_getElem hb]
  rw [List.getD_eq_getElem?_getD, List.getD_eq_getElem?_getD, List.getElem?_eq_getElem ha, List.getElem?_eq_getElem hb] at e
  simp at e
  rw [e]
set_option maxRecDepth 100000 in
set_option maxHeartbeats 1000000 in
theorem sameInts_ok {w : World} {va vb : Value} {n m : Nat} {La Lb : List Int} (ha : Row w 3 1 va n (La.map i64v)) (hb : Row w 3 1 vb m (Lb.map i64v)) (hn : n ≤ 1000000) (hm : m ≤ 1000000) :
    Calls Tryd.prog 33 #[va, vb] w fun e w' => e = .returned (.bool (decide (La = Lb))) ∧ Fr (fun _ => False) w w' := by
  have la : La.length = n := by have := ha.1; simpa using this
  have lb : Lb.length = m := by have := hb.1; simpa using this
  by_cases hnm : n = m
  · subst hnm
    obtain ⟨aa, ca, rfl⟩ : ∃ a c, va = .slice a n c := by obtain ⟨a, c, e, _⟩ := row_cell ha; exact ⟨a, c, e⟩
    obtain ⟨ab, cb, rfl⟩ : ∃ a c, vb = .slice a n c := by obtain ⟨a, c, e, _⟩ := row_cell hb; exact ⟨a, c, e⟩
    have HA := Lib.hid ha; have HB := Lib.hid hb
    have Hla := Lib.hid la; have Hlb := Lib.hid lb
    clear ha hb la lb hm
    go_enter Tryd.func33, Tryd.ntmps33
    go_upto_block 0 with fail
    go_cut [5] (fun _ wx => La = Lb ∧ Fr (fun _ => False) w wx)
    case first =>
      go_wp2_with fail
      go_loopw [5] (fun s13 wr => ∃ i : Nat, i ≤ n ∧ s13 = .int .i64 i ∧ La.take i = Lb.take i ∧ Fr (fun _ => False) w wr) (fun s13 _ => n - (intOf s13).toNat)
      case atStart => exact ⟨0, Nat.zero_le _, rfl, by simp, Fr.refl _ _⟩
      case round =>
        obtain ⟨i, hi, rfl, htk, fr⟩ := hrel
        have HF := Lib.hid fr; have Htk := Lib.hid htk
        have HA1 := Lib.hid (Row.fr HA.out fr (fun _ _ h => h)); have HB1 := Lib.hid (Row.fr HB.out fr (fun _ _ h => h))
        clear fr htk
        by_cases hlt : i < n
        · have hlt' : (i : Int) < (n : Int) := by omega
          obtain ⟨_, _, e1, h1⟩ := row_cell HA1.out
          obtain ⟨ga, e2, k1⟩ := h1 i hlt
          obtain ⟨e3, -, -⟩ := Value.slice.inj e1
          rw [← e3] at e2
          subst e2
          obtain ⟨_, _, e4, h2⟩ := row_cell HB1.out
          obtain ⟨gb, e5, k2⟩ := h2 i hlt
          obtain ⟨e6, -, -⟩ := Value.slice.inj e4
          rw [← e6] at e5
          subst e5
          rw [sameInts_ok_get (by rw [Hla.out]; exact hlt)] at k1
          rw [sameInts_ok_get (by rw [Hlb.out]; exact hlt)] at k2
          clear e1 e3 e4 e6 h1 h2
          obtain ⟨xa, hxa⟩ : ∃ x, x = La.getD i 0 := ⟨_, rfl⟩
          obtain ⟨xb, hxb⟩ : ∃ x, x = Lb.getD i 0 := ⟨_, rfl⟩
          rw [← hxa] at k1; rw [← hxb] at k2
          have Hxa := Lib.hid hxa; have Hxb := Lib.hid hxb; have Hlt := Lib.hid hlt
          clear hxa hxb hlt
          go_wp2_with fail
          by_cases hx : xa = xb
          · have b1 : ((xa : Int) == (xb : Int)) = true := by simp [hx]
            have b1' : decide (xa = xb) = true := by simp [hx]
            have Hx := Lib.hid hx
            clear hx
            go_still (by kernel_rfl)
            go_wp2_with fail
            go_roundw
            case rel => exact ⟨i + 1, Hlt.out, by first | (simp; done) | go_num, take_step' Htk.out (by rw [Hla.out]; exact Hlt.out) (by rw [Hlb.out]; exact Hlt.out) (by rw [← Hxa.out, ← Hxb.out]; exact Hx.out), Fr.drew HF.out⟩
            case measure => have := Hlt.out; simp [intOf]; omega
          · have b1 : ((xa : Int) == (xb : Int)) = false := by simp; omega
            have b1' : decide (xa = xb) = false := by simpa using hx
            have hne : La ≠ Lb := fun h => hx (by rw [Hxa.out, Hxb.out, h])
            have Hne := Lib.hid hne
            clear hx hne
            go_still (by kernel_rfl)
            go_wp2_with fail
            go_ret
            exact ⟨by rw [decide_eq_false Hne.out]; rfl, Fr.drew HF.out⟩
        · obtain rfl : i = n := by omega
          clear hlt
          go_wp2_with fail
          go_meet
          have := Htk.out
          rw [List.take_of_length_le (by rw [Hla.out]; exact Nat.le_refl _), List.take_of_length_le (by rw [Hlb.out]; exact Nat.le_refl _)] at this
          exact ⟨this, HF.out⟩
    case rest =>
    obtain ⟨heq, hfr⟩ := hcut
    go_wp2_with fail
    go_ret
    exact ⟨by rw [decide_eq_true heq]; rfl, hfr⟩
  · have b1 : ((n : Int) == (m : Int)) = false := by simp; omega
    have b1' : decide (n = m) = false := by simpa using hnm
    have hne : La ≠ Lb := fun h => hnm (by rw [← la, ← lb, h])
    obtain ⟨aa, ca, rfl⟩ : ∃ a c, va = .slice a n c := by obtain ⟨a, c, e, _⟩ := row_cell ha; exact ⟨a, c, e⟩
    obtain ⟨ab, cb, rfl⟩ : ∃ a c, vb = .slice a m c := by obtain ⟨a, c, e, _⟩ := row_cell hb; exact ⟨a, c, e⟩
    have Hne := Lib.hid hne
    clear ha hb la lb hnm hne
    go_enter Tryd.func33, Tryd.ntmps33
    go_wp2_with fail
    go_ret
    exact ⟨by rw [decide_eq_false Hne.out]; rfl, Fr.refl _ _⟩
theorem u8_one {L : List Nat} : ∀ u ∈ L.map u8v, u.oneCell' = true := by
  intro u hu
  obtain ⟨x, _, rfl⟩ := List.mem_map.1 hu
  rfl
end Go.Proofs.YthckfbfenfkdiaaDoor.Bt
