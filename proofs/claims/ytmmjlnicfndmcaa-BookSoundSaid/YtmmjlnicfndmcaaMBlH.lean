/- BookSound: its walk. No condition. -/
import Derived.Test.YtmmjlnicfndmcaaM8
namespace Go.Proofs.Ytmmjlnicfndmcaa.Bk
open Go.RowKit Go.Shelf
attribute [local go_sem] Oper.semAt_some
set_option maxRecDepth 100000 in
set_option maxHeartbeats 8000000 in
theorem sound_law (w : World) {v : Value} {K : Nat → Nat → Int} {n1 : Nat} (h1 : KindsAt w v 5 kRc K n1) :
    Calls Try.prog 5 #[v] w fun e w' => e = .returned (.bool true) ∧ Fr (fun _ => False) w w' := by
  obtain ⟨a1, c1, rfl, hnc, hcm, hor⟩ := id h1
  have H1 := Lib.hid h1
  clear h1 hor hnc hcm
  go_enter Try.func5, Try.ntmps5
  go_wp2_with fail
  refine (awake_ok w).mono ?_
  rintro e w1 ⟨rfl, f1⟩
  have F1 := Lib.hid f1
  have HM := Lib.hid (makes_ok (H1.out.fr f1 (fun _ _ h => h) (by omega)))
  clear f1
  go_wp2_with fail
  refine HM.out.mono ?_
  rintro e w2 ⟨bb, rfl, hN⟩
  obtain ⟨m, hm⟩ : ∃ m, m = madeB b12 (rcsOf K (min n1 300)) := ⟨_, rfl⟩
  rw [← hm] at hN
  have Hok := Lib.hid (show Ok m by rw [hm]; exact madeB_ok b12_ok)
  have Hlen := Lib.hid (show m.L.length ≤ 8 by rw [hm]; exact madeB_len)
  have Hse := Lib.hid (show m.seats = 12 by rw [hm]; exact (madeB_seats (R := rcsOf K (min n1 300)) (b := b12)).1)
  obtain ⟨P, hP⟩ := Bks.one hN
  have HP := Lib.hid hP
  clear hm hN hP HM
  go_wp2_with fail
  refine (all_ok (HP.out.at_ 0 (by omega))).mono ?_
  rintro e w3 ⟨cb, sv, rfl, hs, hnew, f3⟩
  have HS := Lib.hid hs; have F3 := Lib.hid f3
  clear hs hnew f3
  go_wp2_with fail
  refine (tells_ok (by have := Hlen.out; omega) HS.out).mono ?_
  rintro e w4 ⟨tv, rfl, hv, hvn, f4⟩
  have hP4 : Bks w1 w4 1 (fun _ => bb) (fun _ => m) (fun y => tv.ownBlock = some y) P := ((HP.out.quiet F3.out).keep f4).less (fun y hy => .inr ⟨hvn y hy, Row.lt hv hy⟩)
  obtain ⟨ta, tc, rfl⟩ := bos_slice hv
  have HV := Lib.hid hv; have HP4 := Lib.hid hP4
  have HLn := Lib.hid (len_ok (hP4.at_ 0 (by omega)))
  clear hv hvn f4 hP4 HS F3 HP
  have g1 : ((m.L.length : Int) != (m.L.length : Int)) = false := by simp
  have g2 : decide ((8 : Int) < (m.L.length : Int)) = false := by have := Hlen.out; simp; omega
  have g2' : decide (8 < m.L.length) = false := by have := Hlen.out; simp; omega
  go_wp2_with fail
  refine HLn.out.mono ?_
  rintro e w5 ⟨rfl, rfl⟩
  go_upto_block 0 with fail
  clear g1 g2 g2' HLn
  go_cut [8] (fun s wx => s = .int .i64 (bDue m.L) ∧ ∃ P, Bks w1 wx 1 (fun _ => bb) (fun _ => m) (fun y => (Value.slice ta m.L.length tc).ownBlock = some y) P)
  case first =>
    go_wp2_with fail
    go_loopw [7, 8, 10] (fun s7 s8 s10 wr => ∃ (i last : Nat) (P : Nat → Pt), s7 = .int .u32 (last : Int) ∧ s8 = .int .i64 (bDue (m.L.take i)) ∧ s10 = .int .i64 (i : Int) ∧ i ≤ m.L.length ∧ (∀ h : i < m.L.length, last < m.L[i].1) ∧ Bks w1 wr 1 (fun _ => bb) (fun _ => m) (fun y => (Value.slice ta m.L.length tc).ownBlock = some y) P ∧ Bos wr (.slice ta m.L.length tc) m.L) (fun _ _ s10 _ => m.L.length - (intOf s10).toNat)
    case atStart => exact ⟨0, 0, _, rfl, rfl, rfl, Nat.zero_le _, fun h => (Hok.out.ids _ (List.getElem_mem h)).1, HP4.out, HV.out⟩
    case round =>
      obtain ⟨i, last, P, rfl, rfl, rfl, hi, hlast, hP, hV⟩ := hrel
      clear HP4 HV
      by_cases hlt : i < m.L.length
      · have hlt' : (i : Int) < (m.L.length : Int) := by omega
        have i0 : (0 : Int) ≤ (i : Int) := by omega
        obtain ⟨g, cap, e1, d0, d1, d2⟩ := Bos.cells hV hlt
        obtain ⟨x, hx⟩ : ∃ x, x = m.L[i] := ⟨_, rfl⟩
        rw [← hx] at d0 d1 d2
        simp only [Value.slice.injEq] at e1
        obtain ⟨rfl, -, rfl⟩ := e1
        have hxm : x ∈ m.L := by rw [hx]; exact List.getElem_mem hlt
        have hl := hlast hlt
        rw [← hx] at hl
        obtain ⟨k1, hk1⟩ : ∃ k1, k1 = i + 1 := ⟨_, rfl⟩
        have hdue : bDue (m.L.take k1) = dueStep (bDue (m.L.take i)) x := by rw [hk1, (List.take_append_getElem hlt).symm, ← hx]; exact bDue_app _ _
        obtain ⟨d, hd⟩ : ∃ d, d = bDue (m.L.take i) := ⟨_, rfl⟩
        have hd0 : 0 ≤ d := by rw [hd]; exact (bDue_spec _).1
        rw [← hd] at hdue
        rw [← hd]
        have hnl : ∀ h : k1 < m.L.length, x.1 < m.L[k1].1 := by
          intro h
          have := (List.pairwise_iff_getElem.1 Hok.out.up) i k1 hlt h (by omega)
          rw [hx]; exact this
        have HX := Lib.hid (show x ∈ m.L ∧ (x.2.2 = 0 ∨ m.clock < x.2.2) ∧ 0 ≤ x.2.2 ∧ ∀ h : k1 < m.L.length, x.1 < m.L[k1].1 from ⟨hxm, Hok.out.held x hxm, (Hok.out.till x hxm).1, hnl⟩)
        have hget := get_aft (hP.at_ 0 (by omega)) (id := x.1) (Hok.out.idlt x hxm)
        rw [(bFind_some Hok.out.up).2 hxm] at hget
        simp only [getE] at hget
        have hat := Hok.out.at_ x hxm
        have HAt := Lib.hid (show atE m x.2.1 = .returned (.tuple #[boV x, .int .i64 0]) by
          unfold atE
          rw [if_neg (by omega), (bSeat_some Hok.out.lone).2 hxm])
        have e1 : (i : Int) + 1 = (k1 : Int) := by rw [hk1]; push_cast; rfl
        have HK1 := Lib.hid (show k1 = i + 1 ∧ k1 ≤ m.L.length from ⟨hk1, hk1 ▸ hlt⟩)
        have hk8 : k1 ≤ 8 := Nat.le_trans HK1.out.2 Hlen.out
        have HG := Lib.hid hget; have Hdue := Lib.hid hdue; have Hd0 := Lib.hid hd0
        have b1 : decide ((x.1 : Int) ≤ (last : Int)) = false := by simp; omega
        have b1' : decide (x.1 ≤ last) = false := by simp; omega
        have hnx := (Hok.out.ids x hxm).2
        have b2 : decide ((m.next : Int) ≤ (x.1 : Int)) = false := by simp; omega
        have b2' : decide (m.next ≤ x.1) = false := by simp; omega
        have b3 : decide (x.2.1 < 0) = false := by simp; omega
        have b4 : decide ((12 : Int) ≤ x.2.1) = false := by have := Hse.out; simp; omega
        have HP := Lib.hid hP; have HV := Lib.hid hV; have HLT := Lib.hid hlt
        clear hget hdue hd0 hP hV hi hk1 hxm hlast hl hnl hd hat hnx hlt hx
        have e2 : wrap64 (k1 : Int) = (k1 : Int) := by clear d0 d1 d2 b1 b1' b2 b2' b3 b4; unfold wrap64; omega
        have e3 : IntKind.i64.wrap (k1 : Int) = (k1 : Int) := by clear d0 d1 d2 b1 b1' b2 b2' b3 b4; rw [IntKind.wrap_i64]; omega
        clear hk8
        have hq := fun W => neqBo W x x
        rw [decide_eq_true (show x = x from rfl)] at hq
        go_upto_region 14 with fail
        obtain ⟨W2, hW2⟩ : ∃ W2, W2 = wr.alloc (.cells #[.int .u32 (x.1 : Int), .int .i64 x.2.1, .int .i64 x.2.2] 44) := ⟨_, rfl⟩
        obtain ⟨xb, hxb⟩ : ∃ xb, xb = wr.heap.size := ⟨_, rfl⟩
        rw [← hW2, ← hxb]
        have f2 : Fr (fun _ => False) wr W2 := by rw [hW2]; exact Fr.alloc (Fr.refl _ _) _
        have hg2 : W2.heap[xb]? = some (.cells #[.int .u32 (x.1 : Int), .int .i64 x.2.1, .int .i64 x.2.2] 44 (0, 0)) := by rw [hW2, hxb]; exact heap_alloc_at _ _
        have hP2 := (HP.out.keep f2).less (Z' := fun y => (Value.slice (some ⟨g, 0, none⟩) m.L.length tc).ownBlock = some y ∨ y = xb) (fun y hy => by
          rcases hy with hy | rfl
          · exact .inl hy
          · exact .inr ⟨by omega, lt_of_block hg2⟩)
        have hV2 := Row.fr HV.out f2 (fun _ _ h => h)
        obtain ⟨x0, x1, x2⟩ := box_bo hg2
        have hget2 : Calls Try.prog 16 #[.pointer (some ⟨bb, 0, none⟩), .int .u32 (x.1 : Int)] W2 _ := get_aft (hP2.at_ 0 (by omega)) (id := x.1) (Hok.out.idlt x HX.out.1)
        rw [(bFind_some Hok.out.up).2 HX.out.1] at hget2
        simp only [getE] at hget2
        have HG2 := Lib.hid hget2; have HP2 := Lib.hid hP2; have HV2 := Lib.hid hV2; have Hg2 := Lib.hid hg2
        clear hget2 hP2 hV2 hg2 f2 hW2 hxb HG HP HV d0 d1 d2
        go_wp2_with fail
        refine HG2.out.mono ?_
        rintro e w3 ⟨rfl, ha⟩
        obtain ⟨⟨P3, hP3⟩, f3⟩ := HP2.out.aft (i := 0) (by omega) (b' := m) ha
        have hP3 := hP3.names (B' := fun _ => bb) (M' := fun _ => m) (fun _ _ => rfl) (fun j hj => by rcases (by omega : j = 0) with rfl; rfl)
        have hg3 := f3.get Hg2.out (fun h => h (.inr rfl))
        have HP3 := Lib.hid hP3; have HV3 := Lib.hid (Row.fr HV2.out f3 (fun y hy h => h (.inl hy))); have Hg3 := Lib.hid hg3
        clear ha hP3 f3 hg3 x0 x1 x2 HP2 HV2 Hg2 HG2
        go_upto_region 15 with fail
        obtain ⟨W4, hW4⟩ : ∃ W4, W4 = w3.alloc (.cells #[.int .u32 (x.1 : Int), .int .i64 x.2.1, .int .i64 x.2.2] 44) := ⟨_, rfl⟩
        obtain ⟨yb, hyb⟩ : ∃ yb, yb = w3.heap.size := ⟨_, rfl⟩
        rw [← hW4, ← hyb]
        have f4 : Fr (fun _ => False) w3 W4 := by rw [hW4]; exact Fr.alloc (Fr.refl _ _) _
        have Hg4 := Lib.hid (show W4.heap[yb]? = some (.cells #[.int .u32 (x.1 : Int), .int .i64 x.2.1, .int .i64 x.2.2] 44 (0, 0)) by rw [hW4, hyb]; exact heap_alloc_at _ _)
        have HP4 := Lib.hid (HP3.out.quiet f4); have HV4 := Lib.hid (Row.fr HV3.out f4 (fun _ _ h => h)); have Hg3' := Lib.hid (f4.get Hg3.out (fun h => h))
        obtain ⟨x0, x1, x2⟩ := box_bo Hg3'.out
        clear f4 hW4 hyb HP3 HV3 Hg3
        have HA := at_ok (HP4.out.at_ 0 (by omega)) x.2.1
        rw [HAt.out] at HA
        have HA := Lib.hid HA
        go_wp2_with fail
        refine HA.out.mono ?_
        rintro e w5 ⟨rfl, f5⟩
        have HP5 := Lib.hid (HP4.out.quiet f5); have HV5 := Lib.hid (Row.fr HV4.out f5 (fun _ _ h => h)); have Hg5 := Lib.hid (f5.get Hg4.out (fun h => h)); have Hg5' := Lib.hid (f5.get Hg3'.out (fun h => h))
        clear f5 x0 x1 x2 HP4 HV4 Hg4 Hg3' HA HAt
        go_upto_region 16 with fail
        obtain ⟨W6, hW6⟩ : ∃ W6, W6 = w5.alloc (.cells #[.int .u32 (x.1 : Int), .int .i64 x.2.1, .int .i64 x.2.2] 44) := ⟨_, rfl⟩
        obtain ⟨zb, hzb⟩ : ∃ zb, zb = w5.heap.size := ⟨_, rfl⟩
        rw [← hW6, ← hzb]
        have f6 : Fr (fun _ => False) w5 W6 := by rw [hW6]; exact Fr.alloc (Fr.refl _ _) _
        have hg6 : W6.heap[zb]? = some (.cells #[.int .u32 (x.1 : Int), .int .i64 x.2.1, .int .i64 x.2.2] 44 (0, 0)) := by rw [hW6, hzb]; exact heap_alloc_at _ _
        have HP6 := Lib.hid (HP5.out.quiet f6); have HV6 := Lib.hid (Row.fr HV5.out f6 (fun _ _ h => h))
        have Hg6' := Lib.hid (f6.get Hg5'.out (fun h => h))
        obtain ⟨x0, x1, x2⟩ := box_bo Hg6'.out
        obtain ⟨y0, y1, y2⟩ := box_bo (f6.get Hg5.out (fun h => h))
        obtain ⟨z0, z1, z2⟩ := box_bo hg6
        have HNx := Lib.hid (fun n => next_ok ((HP6.out.at_ 0 (by omega)).keep (show Fr (fun _ => False) W6 (W6.drewN n) from (Fr.refl _ _).drewN n)))
        have HCl := Lib.hid (fun n => clock_ok ((HP6.out.at_ 0 (by omega)).keep (show Fr (fun _ => False) W6 (W6.drewN n) from (Fr.refl _ _).drewN n)))
        clear f6 hW6 hzb hg6 HP5 HV5 Hg5 Hg5'
        go_cut [124] (fun s wx => s = .bool false ∧ Fr (fun _ => False) W6 wx)
        case first =>
          by_cases u0 : x.2.2 = 0
          · have b5 : (x.2.2 != 0) = false := by simp [u0]
            clear u0
            go_big_quiet (first | (go_at_call 12; with_reducible exact Calls.quiet_of_same ((HNx.out _).mono fun _ _ h => ⟨h.1, h.2.symm⟩)) | (go_at_call 11; with_reducible exact Calls.quiet_of_same ((HCl.out _).mono fun _ _ h => ⟨h.1, h.2.symm⟩)))
            go_wp2_with fail
            go_meet
            exact ⟨rfl, by first | exact Fr.refl _ _ | exact (Fr.refl _ _).drewN _⟩
          · have b5 : (x.2.2 != 0) = true := by simp [u0]
            have b6 : decide (x.2.2 ≤ m.clock) = false := by have := HX.out.2.1; simp; omega
            clear u0
            go_big_quiet (first | (go_at_call 12; with_reducible exact Calls.quiet_of_same ((HNx.out _).mono fun _ _ h => ⟨h.1, h.2.symm⟩)) | (go_at_call 11; with_reducible exact Calls.quiet_of_same ((HCl.out _).mono fun _ _ h => ⟨h.1, h.2.symm⟩)))
            go_wp2_with fail
            go_meet
            exact ⟨rfl, by first | exact Fr.refl _ _ | exact (Fr.refl _ _).drewN _⟩
        case rest =>
        obtain ⟨rfl, f7⟩ := hcut
        have HP7 := Lib.hid (((HP6.out.quiet f7)).less (Z' := fun y => (Value.slice (some ⟨g, 0, none⟩) m.L.length tc).ownBlock = some y) (fun _ h => .inl h)); have HV7 := Lib.hid (Row.fr HV6.out f7 (fun _ _ h => h))
        clear x0 x1 x2 y0 y1 y2 z0 z1 z2 b1 b1' b2 b2' b3 b4 hq HNx HCl
        obtain ⟨x0, x1, x2⟩ := box_bo (f7.get Hg6'.out (fun h => h))
        clear f7 HP6 HV6 Hg6'
        go_upto_region 18 with fail
        by_cases u0 : x.2.2 = 0
        · have b5 : (x.2.2 != 0) = false := by simp [u0]
          have Hdd := Lib.hid (show dueStep d x = d by unfold dueStep; rw [if_neg (by omega)])
          clear u0
          go_wp2_with fail
          go_roundw
          case rel => exact ⟨k1, x.1, _, rfl, by rw [Hdue.out, Hdd.out], rfl, HK1.out.2, HX.out.2.2.2, HP7.out, HV7.out⟩
          case measure => have := HLT.out; have := HK1.out; simp [intOf]; omega
        · have b5 : (x.2.2 != 0) = true := by simp [u0]
          have hpos : 0 < x.2.2 := by have := HX.out.2.2.1; omega
          by_cases u1 : d = 0
          · have b6 : (d == 0) = true := by simp [u1]
            have Hdd := Lib.hid (show dueStep d x = x.2.2 by unfold dueStep; rw [if_pos ⟨hpos, .inl u1⟩])
            clear u1 hpos
            clear u0
            go_wp2_with fail
            go_roundw
            case rel => exact ⟨k1, x.1, _, rfl, by rw [Hdue.out, Hdd.out], rfl, HK1.out.2, HX.out.2.2.2, HP7.out, HV7.out⟩
            case measure => have := HLT.out; have := HK1.out; simp [intOf]; omega
          · have b6 : (d == 0) = false := by simp [u1]
            by_cases u2 : x.2.2 < d
            · have b7 : decide (x.2.2 < d) = true := by simpa using u2
              have Hdd := Lib.hid (show dueStep d x = x.2.2 by unfold dueStep; rw [if_pos ⟨hpos, .inr u2⟩])
              clear u1 u2 hpos
              clear u0
              go_wp2_with fail
              go_roundw
              case rel => exact ⟨k1, x.1, _, rfl, by rw [Hdue.out, Hdd.out], rfl, HK1.out.2, HX.out.2.2.2, HP7.out, HV7.out⟩
              case measure => have := HLT.out; have := HK1.out; simp [intOf]; omega
            · have b7 : decide (x.2.2 < d) = false := by simpa using u2
              have Hdd := Lib.hid (show dueStep d x = d by unfold dueStep; rw [if_neg (by omega)])
              clear u1 u2 hpos
              clear u0
              go_wp2_with fail
              go_roundw
              case rel => exact ⟨k1, x.1, _, rfl, by rw [Hdue.out, Hdd.out], rfl, HK1.out.2, HX.out.2.2.2, HP7.out, HV7.out⟩
              case measure => have := HLT.out; have := HK1.out; simp [intOf]; omega
      · have hlt' : ¬ (i : Int) < (m.L.length : Int) := by omega
        have HE := Lib.hid (show m.L.take i = m.L from List.take_of_length_le (by omega))
        have HP := Lib.hid hP
        clear hlt hi hP hV hlast
        go_wp2_with fail
        go_meet
        exact ⟨by rw [HE.out], _, HP.out⟩
  case rest =>
  obtain ⟨rfl, P2, hP2⟩ := hcut
  have HP2 := Lib.hid hP2
  clear hP2 HP4 HV
  go_upto_block 2 with fail
  go_cut [9] (fun s wx => s = .int .i64 (m.L.length : Int) ∧ ∃ P, Bks w1 wx 1 (fun _ => bb) (fun _ => m) (fun y => (Value.slice ta m.L.length tc).ownBlock = some y) P)
  case first =>
    go_wp2_with fail
    go_loopw [9, 16] (fun s9 s16 wr => ∃ (k : Nat) (P : Nat → Pt), s9 = .int .i64 (seatsN m.L k : Int) ∧ s16 = .int .i64 (k : Int) ∧ k ≤ 12 ∧ Bks w1 wr 1 (fun _ => bb) (fun _ => m) (fun y => (Value.slice ta m.L.length tc).ownBlock = some y) P) (fun _ s16 _ => 12 - (intOf s16).toNat)
    case atStart => exact ⟨0, _, rfl, rfl, by omega, HP2.out⟩
    case round =>
      obtain ⟨k, P, rfl, rfl, hk, hP⟩ := hrel
      clear HP2
      by_cases hlt : k < 12
      · have hlt' : (k : Int) < 12 := by omega
        obtain ⟨k1, hk1⟩ : ∃ k1, k1 = k + 1 := ⟨_, rfl⟩
        have hsn : seatsN m.L k1 = seatsN m.L k + if (bSeat m.L (k : Int)).isSome then 1 else 0 := by rw [hk1]; rfl
        obtain ⟨q, hq0⟩ : ∃ q, q = seatsN m.L k := ⟨_, rfl⟩
        have hq9 : q ≤ k := by
          rw [hq0]
          clear hsn hq0 hlt' hlt hk hk1 hP
          induction k with
          | zero => simp [seatsN]
          | succ k ih => unfold seatsN; split <;> omega
        rw [← hq0] at hsn
        rw [← hq0]
        obtain ⟨q1, hq1⟩ : ∃ q1, q1 = q + 1 := ⟨_, rfl⟩
        have e1 : (k : Int) + 1 = (k1 : Int) := by rw [hk1]; push_cast; rfl
        have e2 : wrap64 (k1 : Int) = (k1 : Int) := by clear hsn; unfold wrap64; omega
        have e3 : IntKind.i64.wrap (k1 : Int) = (k1 : Int) := by clear hsn; rw [IntKind.wrap_i64]; omega
        have e4 : (q : Int) + 1 = (q1 : Int) := by rw [hq1]; push_cast; rfl
        have e5 : wrap64 (q1 : Int) = (q1 : Int) := by clear hsn; unfold wrap64; omega
        have e6 : IntKind.i64.wrap (q1 : Int) = (q1 : Int) := by clear hsn; rw [IntKind.wrap_i64]; omega
        have hA := at_ok (hP.at_ 0 (by omega)) (k : Int)
        have HK1 := Lib.hid (show k1 = k + 1 ∧ k1 ≤ 12 ∧ q1 = q + 1 from ⟨hk1, by omega, hq1⟩)
        have HP := Lib.hid hP
        have hse := Hse.out
        cases hb : bSeat m.L (k : Int) with
        | none =>
          rw [hb] at hsn
          rw [show atE m (k : Int) = .returned (.tuple #[boV (0, 0, 0), .int .i64 171]) by unfold atE; rw [if_neg (by omega), hb]] at hA
          have HA := Lib.hid hA; have HSn := Lib.hid hsn; have HLT := Lib.hid hlt
          clear hA hsn hb hP hlt hk hk1 hq0 hq9 hq1 hse
          go_wp2_with fail
          refine HA.out.mono ?_
          rintro e w3 ⟨rfl, f3⟩
          have HP3 := Lib.hid (HP.out.quiet f3)
          clear f3
          go_upto_region 25 with fail
          obtain ⟨W4, hW4⟩ : ∃ W4, W4 = w3.alloc (.cells #[.int .u32 0, .int .i64 0, .int .i64 0] 44) := ⟨_, rfl⟩
          rw [← hW4]
          have HP4 := Lib.hid (HP3.out.quiet (show Fr (fun _ => False) w3 W4 by rw [hW4]; exact Fr.alloc (Fr.refl _ _) _))
          clear hW4
          go_wp2_with fail
          go_roundw
          case rel => exact ⟨k1, _, by rw [HSn.out]; rfl, rfl, HK1.out.2.1, HP4.out⟩
          case measure => have := HLT.out; have := HK1.out; simp [intOf]; omega
        | some x =>
          rw [hb] at hsn
          have hx := bSeat_id hb
          rw [show atE m (k : Int) = .returned (.tuple #[boV x, .int .i64 0]) by unfold atE; rw [if_neg (by omega), hb]] at hA
          have HA := Lib.hid hA; have HSn := Lib.hid hsn; have HLT := Lib.hid hlt
          have b1 : (x.2.1 == (k : Int)) = true := by simpa using hx.1
          clear hA hsn hb hP hlt hk hk1 hq0 hq9 hq1 hse hx
          go_wp2_with fail
          refine HA.out.mono ?_
          rintro e w3 ⟨rfl, f3⟩
          have HP3 := Lib.hid (HP.out.quiet f3)
          clear f3
          go_upto_region 25 with fail
          obtain ⟨W4, hW4⟩ : ∃ W4, W4 = w3.alloc (.cells #[.int .u32 (x.1 : Int), .int .i64 x.2.1, .int .i64 x.2.2] 44) := ⟨_, rfl⟩
          obtain ⟨xb, hxb⟩ : ∃ xb, xb = w3.heap.size := ⟨_, rfl⟩
          rw [← hW4, ← hxb]
          have HP4 := Lib.hid (HP3.out.quiet (show Fr (fun _ => False) w3 W4 by rw [hW4]; exact Fr.alloc (Fr.refl _ _) _))
          have hg : W4.heap[xb]? = some (.cells #[.int .u32 (x.1 : Int), .int .i64 x.2.1, .int .i64 x.2.2] 44 (0, 0)) := by rw [hW4, hxb]; exact heap_alloc_at _ _
          obtain ⟨x0, x1, x2⟩ := box_bo hg
          clear hW4 hxb hg
          go_wp2_with fail
          go_roundw
          case rel => exact ⟨k1, _, by rw [HSn.out]; show _ = Value.int .i64 ((q + 1 : Nat) : Int); rw [← HK1.out.2.2], rfl, HK1.out.2.1, HP4.out⟩
          case measure => have := HLT.out; have := HK1.out; simp [intOf]; omega
      · have hlt' : ¬ (k : Int) < 12 := by omega
        obtain rfl : k = 12 := by omega
        have hsn : seatsN m.L 12 = m.L.length := seatsN_all Hok.out.lone (fun x hx => by have := Hok.out.at_ x hx; rw [Hse.out] at this; exact this)
        rw [hsn]
        have HP := Lib.hid hP
        clear hlt hk hP hsn
        go_wp2_with fail
        go_meet
        exact ⟨rfl, _, HP.out⟩
  case rest =>
  obtain ⟨rfl, P3, hP3⟩ := hcut
  have HD := Lib.hid (due_ok (hP3.at_ 0 (by omega))); have HP3 := Lib.hid hP3
  obtain ⟨d, hd⟩ : ∃ d, d = bDue m.L := ⟨_, rfl⟩
  have hd0 : 0 ≤ d := by rw [hd]; exact (bDue_spec _).1
  rw [← hd] at HD
  rw [← hd]
  obtain ⟨q, hq⟩ : ∃ q, decide (0 < d) = q := ⟨_, rfl⟩
  have hq2 : (d != 0) = q := by rw [← hq, Bool.eq_iff_iff]; simp; omega
  rw [hq] at HD
  have b1 : ((m.L.length : Int) == (m.L.length : Int)) = true := by simp
  have b2 : (d == d) = true := by simp
  have b3 : (q == q) = true := by simp
  clear hP3 hd hd0 hq HP2
  go_wp2_with fail
  refine HD.out.mono ?_
  rintro e w9 ⟨rfl, f9⟩
  have F9 := Lib.hid ((F1.out.trans HP3.out.fr (fun _ _ h => h)).trans f9 (fun _ _ h => h))
  clear f9
  go_wp2_with fail
  go_ret
  exact ⟨rfl, F9.out⟩
end Go.Proofs.Ytmmjlnicfndmcaa.Bk
