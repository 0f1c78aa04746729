/- Next and Free of a set. Condition: the table of math/bits. -/
import Derived.Test.YthckfbfenfkdiaaDoorBitF
namespace Go.Proofs.YthckfbfenfkdiaaDoor.Bt
open Go.RowKit
theorem seekI_none {b : Bool} {B : List Bool} {i : Int} (h : seekO b B i.toNat = none) : seekI b B i = -1 := by unfold seekI; rw [h]
theorem seekI_some {b : Bool} {B : List Bool} {i : Int} {k : Nat} (h : seekO b B i.toNat = some k) : seekI b B i = (k : Int) := by unfold seekI; rw [h]
theorem seek_max (i : Int) : max i 0 = ((i.toNat : Nat) : Int) := by omega
set_option maxRecDepth 100000 in
theorem seek_ok {w : World} (hT : TabOk w) {bh : Nat} {v : Value} {B : List Bool} (h : SetAt w bh v B) (b : Bool) (i : Int) : Calls Tryd.prog 42 #[.pointer (some ⟨bh, 0, none⟩), .int .i64 i, .int .u64 (maskOf b)] w fun e w' => e = .returned (.int .i64 (seekI b B i)) ∧ w = w' := by
  have c1 := h.c1
  have c2 := h.c2
  have H := Lib.hid h
  have hsm := h.small
  have HT := Lib.hid hT
  have hmx := seek_max i
  obtain ⟨m, hm⟩ : ∃ m, m = i.toNat := ⟨_, rfl⟩
  rw [← hm] at hmx
  obtain ⟨mk, hmk⟩ : ∃ mk, mk = maskOf b := ⟨_, rfl⟩
  rw [← hmk]
  obtain ⟨n, hn⟩ : ∃ n, n = nw B.length := ⟨_, rfl⟩
  obtain ⟨a, c, rfl⟩ : ∃ a c, v = .slice a n c := by
    rcases h.row.2 with ⟨rfl, h0⟩ | ⟨g, cap, cur, rfl, _⟩
    · exact ⟨none, 0, by rw [hn, h0]⟩
    · exact ⟨_, _, by rw [hn]⟩
  have hnw : n ≤ 2000 := by rw [hn]; unfold nw; omega
  by_cases hlt : m < B.length
  · have b1 : decide ((B.length : Int) ≤ (m : Int)) = false := by simpa using hlt
    have b1' : decide (B.length ≤ m) = false := by simpa using hlt
    obtain ⟨q, r, hq, hqw, hr, hrt, hq1, hr1, hrl⟩ := parts64 m (by omega)
    have hqn : q < n := by rw [hq1, hn]; exact nw_lt hlt
    have hqn' : (q : Int) < (n : Int) := by omega
    obtain ⟨g, c', e, hc, _, _⟩ := row_u64 h.row (k := q) (by rw [← hn]; exact hqn)
    rw [← hn] at e
    obtain ⟨rfl, _, rfl⟩ : a = some ⟨g, 0, none⟩ ∧ True ∧ c = c' := by
      have := Value.slice.inj e; exact ⟨this.1, trivial, this.2.2⟩
    have hx := bits_xor_u64_nat (wd B q) (maskOf b) (wd_lt B q) (mask_lt b)
    obtain ⟨xw, hxw⟩ : ∃ xw, xw = wd B q ^^^ maskOf b := ⟨_, rfl⟩
    rw [← hxw, ← hmk] at hx
    have hxl : xw < 18446744073709551616 := by rw [hxw]; exact xor_lt B b q
    obtain ⟨w0, hw0⟩ : ∃ w0, w0 = xw / 2 ^ r * 2 ^ r := ⟨_, rfl⟩
    have hw0l : w0 < 18446744073709551616 := by rw [hw0]; exact Nat.lt_of_le_of_lt (Nat.div_mul_le_self _ _) hxl
    have hsh : IntKind.u64.wrap ((xw : Int) / 2 ^ r * 2 ^ r) = (w0 : Int) := by
      rw [shr_nat, show (2 : Int) ^ r = ((2 ^ r : Nat) : Int) by rw [Int.natCast_pow]; rfl, ← Int.natCast_mul, ← hw0, IntKind.wrap_u64]; omega
    have hsk := Sk.start b hlt
    rw [← hq1, ← hr1, ← hxw, ← hw0] at hsk
    have Hsk := Lib.hid hsk; have Hmk := Lib.hid hmk; have Hn := Lib.hid hn; have Hm := Lib.hid hm
    clear h hT e hxw hw0 hsk hmk hn hm hlt hq1 hr1
    go_enter Tryd.func42, Tryd.ntmps42
    go_upto_region 1 with fail
    go_cut [1] (fun s1 wx => s1 = .int .i64 m ∧ w = wx)
    case first =>
      clear hmx
      go_wp2_with fail
      all_goals go_meet
      all_goals refine ⟨?_, rfl⟩
      all_goals have := Hm.out
      all_goals congr 1
      all_goals omega
    case rest =>
    obtain ⟨rfl, rfl⟩ := hcut
    go_wp2_with fail
    refine (there_ok H.out).mono ?_
    rintro e w1 ⟨rfl, rfl⟩
    go_upto_block 0 with fail
    go_cut [1] (fun s1 wx => ∃ p : Nat, s1 = .int .i64 p ∧ p ≤ 1000000 ∧ (seekO b B m = if B.length ≤ p then none else some p) ∧ w = wx)
    case first =>
      go_wp2_with fail
      go_loopw [7, 8] (fun s7 s8 wr => ∃ k x : Nat, s7 = .int .u64 x ∧ s8 = .int .i64 k ∧ Sk B b m k x ∧ w = wr) (fun _ s8 _ => n - (intOf s8).toNat)
      case atStart => exact ⟨q, w0, rfl, rfl, Hsk.out, rfl⟩
      case round =>
        obtain ⟨k, x, rfl, rfl, hs, rfl⟩ := hrel
        have hkn : k < n := by rw [Hn.out]; exact hs.kk
        have hkn' : (k : Int) < (n : Int) := by omega
        have hxl := hs.lt
        have Hs := Lib.hid hs
        clear hs hx hsh
        by_cases h0 : x = 0
        · subst h0
          by_cases hk1 : k + 1 = n
          · have b2 : ((k : Int) + 1 == (n : Int)) = true := by simp; omega
            have hend := Hs.out.ended (by rw [← Hn.out]; exact hk1)
            have Hend := Lib.hid hend
            clear hend
            go_wp2_with fail
            go_ret
            exact ⟨by rw [seekI_none (by rw [← Hm.out]; exact Hend.out)]; rfl, rfl⟩
          · have b2 : ((k : Int) + 1 == (n : Int)) = false := by simp; omega
            have hk2 : k + 1 < n := by omega
            have hk2' : (k : Int) + 1 < (n : Int) := by omega
            obtain ⟨g', c', e, hc1, _, _⟩ := row_u64 H.out.row (k := k + 1) (by rw [← Hn.out]; exact hk2)
            obtain rfl : g = g' := by simpa using (Value.slice.inj e).1
            have hnx := Hs.out.next (by rw [← Hn.out]; exact hk2)
            have hx := bits_xor_u64_nat (wd B (k + 1)) (maskOf b) (wd_lt B _) (mask_lt b)
            obtain ⟨xw1, hxw⟩ : ∃ xw1, xw1 = wd B (k + 1) ^^^ maskOf b := ⟨_, rfl⟩
            rw [← hxw, ← Hmk.out] at hx
            rw [← hxw] at hnx
            have Hnx := Lib.hid hnx; have Hk2 := Lib.hid hk2
            obtain ⟨k1, hk1'⟩ : ∃ k1 : Nat, (k : Int) + 1 = (k1 : Int) := ⟨k + 1, by omega⟩
            have hk1n : k1 = k + 1 := by omega
            rw [← hk1n] at hc1 hx
            have hk1l : (k1 : Int) < (n : Int) := by omega
            rw [hk1'] at b2
            have Hk1n := Lib.hid hk1n
            clear hnx hxw e hk1 hk1n hk2 hk2'
            go_wp2_with fail
            go_roundw
            case rel => exact ⟨k + 1, xw1, rfl, by rw [← Hk1n.out], Hnx.out, trivial⟩
            case measure => have := Hk2.out; have := Hk1n.out; simp [intOf]; omega
        · have b0 : ((x : Int) == 0) = false := by simp; omega
          have b0' : decide (x = 0) = false := by simpa using h0
          obtain ⟨hc64, hfd⟩ := Hs.out.found h0
          obtain ⟨z, hz⟩ : ∃ z, z = ctzN 64 x := ⟨_, rfl⟩
          rw [← hz] at hc64 hfd
          have htz := tz_ok HT.out (by simpa using hxl) h0
          rw [← hz] at htz
          have Htz := Lib.hid htz; have Hfd := Lib.hid hfd
          clear hz htz hfd
          go_wp2_with fail
          refine Htz.out.mono ?_
          rintro e w1 ⟨rfl, rfl⟩
          go_wp2_with fail
          go_meet
          exact ⟨64 * k + z, by congr 1; omega, by omega, Hfd.out, rfl⟩
    case rest =>
    obtain ⟨p, rfl, hp, hres, rfl⟩ := hcut
    have Hres := Lib.hid hres
    clear hres
    by_cases hpl : p < B.length
    · have b3 : decide ((B.length : Int) ≤ (p : Int)) = false := by simpa using hpl
      have b3' : decide (B.length ≤ p) = false := by simpa using hpl
      clear hp
      go_wp2_with fail
      go_ret
      have := Hres.out
      rw [if_neg (by omega)] at this
      exact ⟨by rw [seekI_some (by rw [← Hm.out]; exact this)]; rfl, rfl⟩
    · have b3 : decide ((B.length : Int) ≤ (p : Int)) = true := by simpa using hpl
      have b3' : decide (B.length ≤ p) = true := by simpa using hpl
      clear hp
      go_wp2_with fail
      go_ret
      have := Hres.out
      rw [if_pos (by omega)] at this
      exact ⟨by rw [seekI_none (by rw [← Hm.out]; exact this)]; rfl, rfl⟩
  · have b1 : decide ((B.length : Int) ≤ (m : Int)) = true := by simpa using hlt
    have b1' : decide (B.length ≤ m) = true := by simpa using hlt
    have Hm := Lib.hid hm
    have hno : seekO b B m = none := seekO_not (fun j h1 h2 => by omega)
    have Hno := Lib.hid hno
    clear h hT hmk hn hm hlt hno
    go_enter Tryd.func42, Tryd.ntmps42
    go_upto_region 1 with fail
    go_cut [1] (fun s1 wx => s1 = .int .i64 m ∧ w = wx)
    case first =>
      clear hmx
      go_wp2_with fail
      all_goals go_meet
      all_goals refine ⟨?_, rfl⟩
      all_goals have := Hm.out
      all_goals congr 1
      all_goals omega
    case rest =>
    obtain ⟨rfl, rfl⟩ := hcut
    go_wp2_with fail
    refine (there_ok H.out).mono ?_
    rintro e w1 ⟨rfl, rfl⟩
    go_wp2_with fail
    go_ret
    exact ⟨by rw [seekI_none (by rw [← Hm.out]; exact Hno.out)]; rfl, rfl⟩
set_option maxRecDepth 100000 in
theorem seek_no {w : World} {p : Option Addr} (h : NoSet w p) (i : Int) (m : Int) : Calls Tryd.prog 42 #[.pointer p, .int .i64 i, .int .u64 m] w fun e w' => e = .returned (.int .i64 (-1)) ∧ w = w' := by
  have H := Lib.hid h
  clear h
  go_enter Tryd.func42, Tryd.ntmps42
  go_upto_region 1 with fail
  go_cut [1] (fun s1 wx => w = wx)
  case first =>
    go_wp2_with fail
    all_goals go_meet
    all_goals rfl
  case rest =>
  obtain rfl := hcut
  go_wp2_with fail
  refine (there_no H.out).mono ?_
  rintro e w1 ⟨rfl, rfl⟩
  go_wp2_with fail
  go_ret
  exact ⟨rfl, rfl⟩
set_option maxRecDepth 100000 in
theorem next_ok {w : World} (hT : TabOk w) {bh : Nat} {v : Value} {B : List Bool} (h : SetAt w bh v B) (i : Int) : Calls Tryd.prog 22 #[.pointer (some ⟨bh, 0, none⟩), .int .i64 i] w fun e w' => e = .returned (.int .i64 (seekI true B i)) ∧ w = w' := by
  have HC := Lib.hid (seek_ok hT h true i)
  clear h hT
  go_enter Tryd.func22, Tryd.ntmps22
  go_wp2_with fail
  refine HC.out.mono ?_
  rintro e w1 ⟨rfl, rfl⟩
  go_wp2_with fail
  go_ret
  exact ⟨rfl, rfl⟩
set_option maxRecDepth 100000 in
theorem free_ok {w : World} (hT : TabOk w) {bh : Nat} {v : Value} {B : List Bool} (h : SetAt w bh v B) (i : Int) : Calls Tryd.prog 21 #[.pointer (some ⟨bh, 0, none⟩), .int .i64 i] w fun e w' => e = .returned (.int .i64 (seekI false B i)) ∧ w = w' := by
  have HC := Lib.hid (seek_ok hT h false i)
  clear h hT
  go_enter Tryd.func21, Tryd.ntmps21
  go_wp2_with fail
  refine HC.out.mono ?_
  rintro e w1 ⟨rfl, rfl⟩
  go_wp2_with fail
  go_ret
  exact ⟨rfl, rfl⟩
end Go.Proofs.YthckfbfenfkdiaaDoor.Bt
