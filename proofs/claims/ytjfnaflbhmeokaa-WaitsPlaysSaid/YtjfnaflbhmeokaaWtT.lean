/- The contract of settle. Condition: at most 65536 items. -/
import Derived.Test.YtjfnaflbhmeokaaWtW
import Derived.Deep.CutBlock
import Derived.Deep.LoopGhost
namespace Go.Proofs.Ytjfnaflbhmeokaa.Wt
open Go.RowKit
section
variable {fv : Value} {lt : Int → Int → Bool} {J : World → Prop} {FJ : Nat → Prop} {A : Int → Prop} {fl : Nat} {caps : Array Value}
variable {nv : Value} {bh bi bm n cap : Nat} {L : List It} {w : World}
variable (hL : LessOk Try.prog fv lt J FJ A fl caps) (nh : ¬ FJ bh) (ni : ¬ FJ bi) (nm : ¬ FJ bm)
include hL nh ni nm
set_option maxRecDepth 100000 in
set_option maxHeartbeats 1000000 in
theorem Hp.settle (h : Hp J A fv nv bh bi bm n cap L w) (hn : n ≤ 65536) {at_ : Nat} (ha : at_ < n) :
    Calls Try.prog 108 #[.pointer (some ⟨bh, 0, none⟩), .int .i64 at_] w fun e w' => e = .returned (.tuple #[]) ∧ Hp J A fv nv bh bi bm n cap (settleF lt L at_) w' ∧ Fr (fun b => FJ b ∨ b = bi ∨ b = bm) w w' := by
  have HL := Lib.hid hL
  clear hL
  have hlen := h.len
  have Hlen := Lib.hid hlen
  go_enter Try.func108, Try.ntmps108
  go_upto_block 0 with fail
  go_cut [1] (fun s1 wx => ∃ (m : Nat) (L' : List It), s1 = .int .i64 m ∧ m < n ∧ Hp J A fv nv bh bi bm n cap L' wx ∧ Fr (fun b => FJ b ∨ b = bi ∨ b = bm) w wx ∧ upF lt at_ L at_ = (L', m))
  case first =>
    go_wp2_with fail
    go_loopw [1] (fun s1 wr => ∃ (m : Nat) (L' : List It), s1 = .int .i64 m ∧ m < n ∧ Hp J A fv nv bh bi bm n cap L' wr ∧ Fr (fun b => FJ b ∨ b = bi ∨ b = bm) w wr ∧ upF lt m L' m = upF lt at_ L at_) (fun s1 _ => (intOf s1).toNat)
    case atStart => exact ⟨at_, L, rfl, ha, h, Fr.refl _ _, rfl⟩
    case round =>
      obtain ⟨m, L', rfl, hm, hp, hf, hu⟩ := hrel
      have Hp' := Lib.hid hp; have Hf := Lib.hid hf; have Hu := Lib.hid hu
      clear h hlen hp hf hu
      obtain ⟨p, hp⟩ : ∃ p, p = (m - 1) / 2 := ⟨_, rfl⟩
      cases hc : (decide (m > 0) && aheadL lt L' m p)
      · have hstop : upF lt m L' m = (L', m) := upF_stop (by rw [← hp]; exact hc)
        rw [Hu.out] at hstop
        have Hs := Lib.hid hstop; clear hstop
        by_cases h0 : 0 < m
        · have h0' : (0 : Int) < (m : Int) := by omega
          have ht : aheadL lt L' m p = false := by simpa [h0] using hc
          have e : ((m : Int) - 1) / 2 = (p : Int) := by omega
          have hpm : p < m := by omega
          have hpn : p < n := by omega
          clear hc hp
          go_wp2_with fail
          refine (Hp'.out.ahead HL.out nh ni nm hn hm hpn).mono ?_
          rintro e1 w1 ⟨rfl, h1, f1⟩
          have H1 := Lib.hid h1; have F1 := Lib.hid f1; clear h1 f1
          go_wp2_with fail
          go_meet
          exact ⟨m, L', rfl, hm, H1.out, Hf.out.trans F1.out (fun _ _ h => Or.inl h), Hs.out⟩
        · obtain rfl : m = 0 := by omega
          clear hc hp
          go_wp2_with fail
          go_meet
          exact ⟨0, L', rfl, hm, Hp'.out, Hf.out, Hs.out⟩
      · have h0 : 0 < m := by simp at hc; exact hc.1
        have ht : aheadL lt L' m p = true := by simp at hc; exact hc.2
        have h0' : (0 : Int) < (m : Int) := by omega
        have e : ((m : Int) - 1) / 2 = (p : Int) := by omega
        have hpm : p < m := by omega
        have Hgo := Lib.hid (upF_go h0 (by rw [← hp]; exact ht) : upF lt m L' m = _)
        rw [← hp] at Hgo
        have hpn : p < n := by omega
        clear hc hp
        go_wp2_with fail
        refine (Hp'.out.ahead HL.out nh ni nm hn hm hpn).mono ?_
        rintro e1 w1 ⟨rfl, h1, f1⟩
        have H1 := Lib.hid h1; have F1 := Lib.hid f1; clear h1 f1
        go_wp2_with fail
        refine (H1.out.swap HL.out ni nm hn hm hpn (by omega)).mono ?_
        rintro e2 w2 ⟨rfl, h2, f2⟩
        have H2 := Lib.hid h2; have F2 := Lib.hid f2; clear h2 f2
        go_wp2_with fail
        go_roundw
        case rel => exact ⟨p, swapL L' m p, by rw [e], hpn, H2.out, (Hf.out.trans F1.out (fun _ _ h => Or.inl h)).trans F2.out (fun _ _ h => Or.inr h), by rw [← Hgo.out]; exact Hu.out⟩
        case measure => simp [intOf]; omega
  case rest =>
    obtain ⟨m, L1, rfl, hm, hp, hf, hu⟩ := hcut
    have hlm := hp.len
    have Hu := Lib.hid hu; have Hp1 := Lib.hid hp; have Hf := Lib.hid hf
    have hS : downF lt (L1.length - m) L1 m = settleF lt L at_ := by unfold settleF; rw [hu, hlm, Hlen.out]
    have HS := Lib.hid hS
    clear hu hp hf hS
    go_wp2_with fail
    go_loopw [1] (fun s1 wr => ∃ (m : Nat) (L' : List It), s1 = .int .i64 m ∧ m < n ∧ Hp J A fv nv bh bi bm n cap L' wr ∧ Fr (fun b => FJ b ∨ b = bi ∨ b = bm) w wr ∧ downF lt (L'.length - m) L' m = settleF lt L at_) (fun s1 _ => n - (intOf s1).toNat)
    case atStart => exact ⟨m, L1, rfl, hm, Hp1.out, Hf.out, HS.out⟩
    case round =>
      clear Hp1 Hf HS Hu hm hlm
      obtain ⟨m, L', rfl, hm, hp, hf, hu⟩ := hrel
      have hlm := hp.len
      have Hp' := Lib.hid hp; have Hf := Lib.hid hf; have Hu := Lib.hid hu
      have HLm := Lib.hid hlm
      clear hp hf hu hlm
      obtain ⟨wo, rfl⟩ : ∃ wo : World, wo = wr := ⟨_, rfl⟩
      go_upto_block 4 with fail
      go_cut [4] (fun s4 wx => s4 = .int .i64 (lstF lt L' m 2 : Nat) ∧ Hp J A fv nv bh bi bm n cap L' wx ∧ Fr FJ wo wx)
      case first =>
        go_wp2_with fail
        go_loopw [4, 5] (fun s4 s5 wr => ∃ j : Nat, j ≤ 2 ∧ s5 = .int .i64 (2 * m + 1 + j : Nat) ∧ s4 = .int .i64 (lstF lt L' m j : Nat) ∧ Hp J A fv nv bh bi bm n cap L' wr ∧ Fr FJ wo wr) (fun _ s5 _ => 2 * m + 3 - (intOf s5).toNat)
        case atStart => exact ⟨0, by omega, by simp, by simp [lstF], Hp'.out, Fr.refl _ _⟩
        case round =>
          obtain ⟨j, hj, rfl, rfl, hp, hf2⟩ := hrel
          obtain ⟨q, hq⟩ : ∃ q, q = lstF lt L' m j := ⟨_, rfl⟩
          have hqn : q < n := by rw [hq, ← HLm.out]; exact lstF_lt lt L' m j (by rw [HLm.out]; exact hm)
          rw [← hq]
          have Hq := Lib.hid hq
          have c1 := cell_of hp.hH 1
          simp at c1
          have Hr := Lib.hid hp; have Hf2 := Lib.hid hf2
          clear hp hf2 hq
          by_cases hj2 : j = 2
          · subst hj2
            go_wp2_with fail
            go_meet
            exact ⟨by rw [Hq.out], Hr.out, Hf2.out⟩
          · have hjl : (j : Int) < 2 := by omega
            by_cases hk : 2 * m + 1 + j < n
            · have hk' : 2 * (m : Int) + 1 + j < n := by omega
              cases ht : aheadL lt L' (2 * m + 1 + j) q
              · have Hn := Lib.hid (lstF_step (lt := lt) (L := L') (n := m) (j := j) (by rw [HLm.out]; exact hk))
                go_wp2_with fail
                refine (Hr.out.ahead (i := 2 * m + 1 + j) (k := q) HL.out nh ni nm hn hk hqn).mono ?_
                rintro e1 w1 ⟨rfl, h1, f1⟩
                have H1 := Lib.hid h1; have F1 := Lib.hid f1; clear h1 f1
                go_wp2_with fail
                go_roundw
                case rel => exact ⟨j + 1, by omega, by go_num, by rw [Hn.out, ← Hq.out, ht]; simp, H1.out, Hf2.out.trans F1.out (fun _ _ h => h)⟩
                case measure => simp [intOf]; omega
              · have Hn := Lib.hid (lstF_step (lt := lt) (L := L') (n := m) (j := j) (by rw [HLm.out]; exact hk))
                go_wp2_with fail
                refine (Hr.out.ahead (i := 2 * m + 1 + j) (k := q) HL.out nh ni nm hn hk hqn).mono ?_
                rintro e1 w1 ⟨rfl, h1, f1⟩
                have H1 := Lib.hid h1; have F1 := Lib.hid f1; clear h1 f1
                go_wp2_with fail
                go_roundw
                case rel => exact ⟨j + 1, by omega, by go_num, by rw [Hn.out, ← Hq.out, ht]; simp, H1.out, Hf2.out.trans F1.out (fun _ _ h => h)⟩
                case measure => simp [intOf]; omega
            · have hk' : ¬ (2 * (m : Int) + 1 + j < n) := by omega
              go_wp2_with fail
              go_meet
              refine ⟨?_, Hr.out, Hf2.out⟩
              rw [Hq.out]
              have hl := HLm.out
              have e2 : lstF lt L' m 2 = lstF lt L' m 1 := by
                by_cases h0 : j = 1
                · subst h0; exact lstF_past (by omega)
                · exact lstF_past (by omega)
              rw [e2]
              by_cases h0 : j = 1
              · subst h0; rfl
              · obtain rfl : j = 0 := by omega
                rw [lstF_past (by omega)]
      case rest =>
        obtain ⟨rfl, hp, hf2⟩ := hcut
        obtain ⟨q, hq⟩ : ∃ q, q = lstF lt L' m 2 := ⟨_, rfl⟩
        have hqn : q < n := by rw [hq, ← HLm.out]; exact lstF_lt lt L' m 2 (by rw [HLm.out]; exact hm)
        have hqm : m ≤ q := by rw [hq]; exact lstF_ge lt L' m 2
        rw [← hq]
        have Hq := Lib.hid hq
        have Hr := Lib.hid hp; have Hf2 := Lib.hid hf2
        clear hp hf2 hq
        by_cases he : q = m
        · subst he
          have Hd := Lib.hid (downF_stop (lt := lt) (L := L') (n := q) (f := L'.length - q) Hq.out.symm)
          go_wp2_with fail
          refine bodyPost_ret (results_none rfl _ _ _) rfl ?_
          rw [← Hu.out, Hd.out]
          exact ⟨rfl, Hr.out, Hf.out.trans Hf2.out (fun _ _ h => Or.inl h)⟩
        · have hlt : m < q := by omega
          have Hd := Lib.hid (downF_go (lt := lt) (L := L') (n := m) (by rw [HLm.out]; exact hm) (by rw [← Hq.out]; exact he))
          have hb : ((q : Int) == (m : Int)) = false := by simp; omega
          clear he
          go_wp2_with fail
          refine (Hr.out.swap HL.out ni nm hn hm hqn (by omega)).mono ?_
          rintro e2 w2 ⟨rfl, h2, f2⟩
          have H2 := Lib.hid h2; have F2 := Lib.hid f2; clear h2 f2
          go_wp2_with fail
          go_roundw
          case rel => exact ⟨q, swapL L' m q, rfl, hqn, H2.out, (Hf.out.trans Hf2.out (fun _ _ h => Or.inl h)).trans F2.out (fun _ _ h => Or.inr h), by rw [← Hu.out, Hd.out, ← Hq.out]⟩
          case measure => simp [intOf]; omega
end
end Go.Proofs.Ytjfnaflbhmeokaa.Wt
