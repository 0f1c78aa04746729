/- BookBack: its walk. No condition. -/
import Derived.Test.YtmmjlnicfndmcaaM8
namespace Go.Proofs.Ytmmjlnicfndmcaa.Bk
open Go.RowKit Go.Shelf
attribute [local go_sem] Oper.semAt_some
set_option maxRecDepth 100000 in
set_option maxHeartbeats 8000000 in
theorem back_law (w : World) {v : Value} {K : Nat → Nat → Int} {n1 : Nat} (h1 : KindsAt w v 5 kRc K n1) {v2 : Value} {K2 : Nat → Nat → Int} {n2 : Nat} (h2 : KindsAt w v2 5 kRc K2 n2) :
    Calls Try.prog 6 #[v, v2] w fun e w' => e = .returned (.bool true) ∧ Fr (fun _ => False) w w' := by
  obtain ⟨a1, c1, rfl, hnc, hcm, hor⟩ := id h1
  have H1 := Lib.hid h1
  clear h1 hor hnc hcm
  obtain ⟨a2, c2, rfl, hnc, hcm, hor⟩ := id h2
  have hn2 : (n2 : Int) ≤ 9223372036854775807 := by unfold maxLen at hcm; omega
  have H2 := Lib.hid h2; have Hn2 := Lib.hid hn2
  clear h2 hor hnc hcm hn2
  go_enter Try.func6, Try.ntmps6
  go_wp2_with fail
  refine (awake_ok w).mono ?_
  rintro e w1 ⟨rfl, f1⟩
  have F1 := Lib.hid f1
  have HM := Lib.hid (makes_ok (H1.out.fr f1 (fun _ _ h => h) (by omega)))
  clear f1
  go_wp2_with fail
  refine HM.out.mono ?_
  rintro e w2 ⟨bb, rfl, hN⟩
  obtain ⟨m, hm⟩ : ∃ m, m = madeB b12 (rcsOf K (min n1 300)) := ⟨_, rfl⟩
  rw [← hm] at hN
  have Hok := Lib.hid (show Ok m by rw [hm]; exact madeB_ok b12_ok)
  have Hlen := Lib.hid (show m.L.length ≤ 8 by rw [hm]; exact madeB_len)
  have Hgr := Lib.hid (show 1 ≤ m.group ∧ m.group ≤ 64 by rw [hm, madeB_group]; omega)
  obtain ⟨P, hP⟩ := Bks.one hN
  have HP := Lib.hid hP
  clear hm hN hP HM
  go_wp2_with fail
  refine (all_ok (HP.out.at_ 0 (by omega))).mono ?_
  rintro e w3 ⟨cb, sv, rfl, hs, hnew, f3⟩
  have HS := Lib.hid hs; have F3 := Lib.hid f3
  clear hs hnew f3
  go_wp2_with fail
  refine (tells_ok (by have := Hlen.out; omega) HS.out).mono ?_
  rintro e w4 ⟨tv, rfl, hv, hvn, f4⟩
  have hP4 : Bks w1 w4 1 (fun _ => bb) (fun _ => m) (fun y => tv.ownBlock = some y) P := ((HP.out.quiet F3.out).keep f4).less (fun y hy => .inr ⟨hvn y hy, Row.lt hv hy⟩)
  have HV := Lib.hid hv; have HP4 := Lib.hid hP4
  clear hv hvn f4 hP4 HS F3 HP
  go_wp2_with fail
  refine (shape_ok (HP4.out.at_ 0 (by omega))).mono ?_
  rintro e w5 ⟨rfl, f5⟩
  have HP5 := Lib.hid (HP4.out.quiet f5); have HV5 := Lib.hid (Row.fr HV.out f5 (fun _ _ h => h))
  clear f5 HP4 HV
  go_upto_region 8 with fail
  obtain ⟨W6, hW6⟩ : ∃ W6, W6 = w5.alloc (.cells #[.int .i64 (m.seats : Int), .int .i64 (m.codes : Int), .int .i64 (m.group : Int)] 56) := ⟨_, rfl⟩
  obtain ⟨sb, hsb⟩ : ∃ sb, sb = w5.heap.size := ⟨_, rfl⟩
  rw [← hW6, ← hsb]
  have f6 : Fr (fun _ => False) w5 W6 := by rw [hW6]; exact Fr.alloc (Fr.refl _ _) _
  have hg6 : W6.heap[sb]? = some (.cells #[.int .i64 (m.seats : Int), .int .i64 (m.codes : Int), .int .i64 (m.group : Int)] 56 (0, 0)) := by rw [hW6, hsb]; exact heap_alloc_at _ _
  have s2 := (cell_of hg6 2).trans (show _ = some (Value.int .i64 (m.group : Int)) from rfl)
  have y2 := free_of hg6 2
  obtain ⟨g, hg⟩ : ∃ g, g = 1 + n2 % 64 := ⟨_, rfl⟩
  have e1 : (n2 : Int).tmod 64 = ((n2 % 64 : Nat) : Int) := by rw [Int.tmod_eq_emod_of_nonneg (by omega)]; push_cast; rfl
  have hP6 := ((HP5.out.keep f6).less (Z' := fun y => tv.ownBlock = some y ∨ y = sb) (fun y hy => by
    rcases hy with hy | rfl
    · exact .inl hy
    · exact .inr ⟨by omega, lt_of_block hg6⟩))
  have HV6 := Lib.hid (Row.fr HV5.out f6 (fun _ _ h => h)); have HG6 := Lib.hid hg6; have HP6 := Lib.hid hP6; have Hg := Lib.hid hg
  have Hsb := Lib.hid (show w1.heap.size ≤ sb by have := HP5.out.fr.size; omega)
  have Htv := Lib.hid (show ∀ y, tv.ownBlock = some y → ¬ y = sb from fun y hy e => by have := Row.lt HV5.out hy; omega)
  clear f6 hg6 hP6 hW6 hsb hg HP5 HV5
  go_upto_region 9 with fail
  rw [show (1 + (n2 : Int) % 64) = (g : Int) by rw [Hg.out]; push_cast; rfl]
  obtain ⟨W9, hW9⟩ : ∃ W9, W9 = W6.setCell ⟨sb, 2, none⟩ (.int .i64 (g : Int)) := ⟨_, rfl⟩
  rw [← hW9]
  have f9 : Fr (fun x => x = sb) W6 W9 := by rw [hW9]; exact Fr.setCell (F := fun x => x = sb) (p := ⟨sb, 2, none⟩) (Fr.refl _ _) (fun _ => rfl) _
  have hg9 : W9.heap[sb]? = some (.cells #[.int .i64 (m.seats : Int), .int .i64 (m.codes : Int), .int .i64 (g : Int)] 56 (0, 0)) := by rw [hW9]; exact setCell_blk (o := 2) HG6.out _
  have hP9 := HP6.out.write f9 (fun y hy _ => ⟨.inr hy, by rw [hy]; exact Hsb.out⟩)
  have HV9 := Lib.hid (Row.fr HV6.out f9 (fun y hy e => by have := Row.lt HV6.out hy; have h9 := HV6.out; exact (Htv.out y hy) e))
  have HP9 := Lib.hid (hP9.less (Z' := fun _ => False) (fun _ h => h.elim))
  have HSall := Lib.hid (show ∀ W2 : World, Fr (fun _ => False) W9 W2 → W2.cell? ⟨sb, 0, none⟩ = some (.int .i64 (m.seats : Int)) ∧ W2.cell? ⟨sb, 1, none⟩ = some (.int .i64 (m.codes : Int)) ∧ W2.cell? ⟨sb, 2, none⟩ = some (.int .i64 (g : Int)) from fun W2 f => by
    have hgz := f.get hg9 (fun h => h)
    exact ⟨(cell_of hgz 0).trans rfl, (cell_of hgz 1).trans rfl, (cell_of hgz 2).trans rfl⟩)
  have HNx := Lib.hid (fun (W2 : World) (f : Fr (fun _ => False) W9 W2) => next_ok ((HP9.out.at_ 0 (by omega)).keep f))
  have HCl := Lib.hid (fun (W2 : World) (f : Fr (fun _ => False) W9 W2) => clock_ok ((HP9.out.at_ 0 (by omega)).keep f))
  have Hs := Lib.hid (And.intro Hok.out.s0 Hok.out.s1); have Hc := Lib.hid (And.intro Hok.out.c0 Hok.out.c1); have Hn := Lib.hid (And.intro Hok.out.n0 Hok.out.n1); have Ht := Lib.hid (And.intro Hok.out.t0 Hok.out.t1); have Hfw := Lib.hid Hok.out.few
  have Hg6 := Lib.hid (show 1 ≤ g ∧ g ≤ 64 by have := Hg.out; omega)
  have HO := Lib.hid (show ofGo (bkL m.seats m.codes g m.next m.clock []) 0 m.L = true from of_own (grp_ok Hok.out g))
  clear hW9 f9 hg9 hP9 HP6 HV6 HG6 s2 y2 e1
  go_cut [10, 11] (fun s t wx => ∃ (aa : Nat) (P' : Nat → Pt), s = .pointer (some ⟨aa, 0, none⟩) ∧ t = .int .i64 0 ∧ Bks w1 wx 2 (two bb aa) (two m (grp m g)) (fun _ => False) P')
  case first =>
    refine wp_region_held_drew (S := fun w' => w'.cell? ⟨sb, 0, none⟩ = some (.int .i64 (m.seats : Int)) ∧ w'.cell? ⟨sb, 1, none⟩ = some (.int .i64 (m.codes : Int)) ∧ w'.cell? ⟨sb, 2, none⟩ = some (.int .i64 (g : Int))) (by kernel_rfl) (by exact HSall.out _ (Fr.drew (Fr.refl _ _))) (fun hHeld => ?_)
    refine wpAnyH_take (i := 0) (v := ?_) rfl (by kernel_rfl) (by kernel_rfl) (by kernel_rfl) (fun _ _ _ h => h) (Or.inl ⟨by rfl, ?_⟩) (by assumption) ?_
    rotate_left
    · intro w' hSw; (try dsimp only at hSw); go_simp; try with_reducible rfl
    try simp only [Act.put, List.getElem_toArray, List.getElem_cons_zero, List.setIfInBounds_toArray, List.set_cons_zero, List.set_cons_succ]
    refine wpAnyH_take (i := 1) (v := ?_) rfl (by kernel_rfl) (by kernel_rfl) (by kernel_rfl) (fun _ _ _ h => h) (Or.inl ⟨by rfl, ?_⟩) (by assumption) ?_
    rotate_left
    · intro w' hSw; (try dsimp only at hSw); go_simp; try with_reducible rfl
    try simp only [Act.put, List.getElem_toArray, List.getElem_cons_zero, List.getElem_cons_succ, List.setIfInBounds_toArray, List.set_cons_zero, List.set_cons_succ]
    refine wpAnyH_take (i := 3) (v := ?_) rfl (by kernel_rfl) (by kernel_rfl) (by kernel_rfl) (fun _ _ _ h => h) (Or.inl ⟨by rfl, ?_⟩) (by assumption) ?_
    rotate_left
    · intro w' hSw; (try dsimp only at hSw); go_simp; try with_reducible rfl
    try simp only [Act.put, List.getElem_toArray, List.getElem_cons_zero, List.getElem_cons_succ, List.setIfInBounds_toArray, List.set_cons_zero, List.set_cons_succ]
    refine wpAnyH_take (i := 5) (v := ?_) rfl (by kernel_rfl) (by kernel_rfl) (by kernel_rfl) (fun _ _ _ h => h) (Or.inl ⟨by rfl, ?_⟩) (by assumption) ?_
    rotate_left
    · intro w' hSw; (try dsimp only at hSw); go_simp; try with_reducible rfl
    try simp only [Act.put, List.getElem_toArray, List.getElem_cons_zero, List.getElem_cons_succ, List.setIfInBounds_toArray, List.set_cons_zero, List.set_cons_succ]
    refine wpAnyH_ready (rs := [2]) (by kernel_rfl) (by simp) ?_
    refine AllReadyH.cons rfl (fun K hK => ?_) AllReadyH.nil
    go_simp
    refine (HNx.out _ (Fr.drew (Fr.refl _ _))).mono ?_
    rintro e w2 ⟨rfl, rfl⟩
    try go_simp
    refine hK.out _ _ ?_ (fun hHeld => ?_)
    · (try dsimp only); exact HSall.out _ (Fr.drew (Fr.refl _ _))
    clear hK K
    try simp only [Act.put, List.getElem_toArray, List.getElem_cons_zero, List.getElem_cons_succ, List.setIfInBounds_toArray, List.set_cons_zero, List.set_cons_succ]
    refine wpAnyH_ready (rs := [4]) (by kernel_rfl) (by simp) ?_
    refine AllReadyH.cons rfl (fun K hK => ?_) AllReadyH.nil
    go_simp
    refine (HCl.out _ (Fr.drew (Fr.refl _ _))).mono ?_
    rintro e w4 ⟨rfl, rfl⟩
    try go_simp
    refine hK.out _ _ ?_ (fun hHeld => ?_)
    · (try dsimp only); exact HSall.out _ (Fr.drew (Fr.refl _ _))
    clear hK K
    try simp only [Act.put, List.getElem_toArray, List.getElem_cons_zero, List.getElem_cons_succ, List.setIfInBounds_toArray, List.set_cons_zero, List.set_cons_succ]
    refine wpAnyH_ready (rs := [6]) (by kernel_rfl) (by simp) ?_
    refine AllReadyH.cons rfl (fun K hK => ?_) AllReadyH.nil
    go_simp
    refine (copyb_ok (Row.fr HV9.out (Fr.drew (Fr.refl (fun _ => False) _)) (fun _ _ h => h)) (by have := Hlen.out; omega)).mono ?_
    rintro e w6 ⟨v6, rfl, hv6, hn6, f6⟩
    have HV6 := Lib.hid hv6
    have F6 := Lib.hid ((Fr.drew (Fr.refl (fun _ => False) _)).trans f6 (fun _ _ h => h))
    clear hv6 hn6 f6
    try go_simp
    refine hK.out _ _ ?_ (fun hHeld => ?_)
    · (try dsimp only); exact HSall.out _ F6.out
    clear hK K
    try simp only [Act.put, List.getElem_toArray, List.getElem_cons_zero, List.getElem_cons_succ, List.setIfInBounds_toArray, List.set_cons_zero, List.set_cons_succ]
    refine wpAnyH_ready (rs := [7]) (by kernel_rfl) (by simp) ?_
    refine AllReadyH.cons rfl (fun K hK => ?_) AllReadyH.nil
    go_simp
    refine (of_ok Hs.out Hc.out Hg6.out Hn.out Ht.out HV6.out Hfw.out).mono ?_
    rintro e w7 ⟨f7, h7⟩
    rw [if_pos HO.out] at h7
    obtain ⟨p', aa, rfl, hA, hn'⟩ := h7
    have HA := Lib.hid hA; have Hn' := Lib.hid (show ∀ x, p'.own aa x → W9.heap.size ≤ x from fun x hx => Nat.le_trans F6.out.size (hn' x hx))
    have F7 := Lib.hid (F6.out.trans f7 (fun _ _ h => h))
    clear hA hn' f7
    try go_simp
    refine hK.out _ _ ?_ (fun hHeld => ?_)
    · (try dsimp only); exact HSall.out _ F7.out
    clear hK K
    try simp only [Act.put, List.getElem_toArray, List.getElem_cons_zero, List.getElem_cons_succ, List.setIfInBounds_toArray, List.set_cons_zero, List.set_cons_succ]
    refine wpAnyH_take (i := 8) (v := ?_) rfl (by kernel_rfl) (by kernel_rfl) (by kernel_rfl) (fun _ _ _ h => h) (Or.inl ⟨by rfl, ?_⟩) (by assumption) ?_
    rotate_left
    · intro w' hSw; (try dsimp only at hSw); go_simp; try with_reducible rfl
    try simp only [Act.put, List.getElem_toArray, List.getElem_cons_zero, List.getElem_cons_succ, List.setIfInBounds_toArray, List.set_cons_zero, List.set_cons_succ]
    refine wpAnyH_take (i := 9) (v := ?_) rfl (by kernel_rfl) (by kernel_rfl) (by kernel_rfl) (fun _ _ _ h => h) (Or.inl ⟨by rfl, ?_⟩) (by assumption) ?_
    rotate_left
    · intro w' hSw; (try dsimp only at hSw); go_simp; try with_reducible rfl
    try simp only [Act.put, List.getElem_toArray, List.getElem_cons_zero, List.getElem_cons_succ, List.setIfInBounds_toArray, List.set_cons_zero, List.set_cons_succ]
    refine wpAnyH_take (i := 10) (v := ?_) rfl (by kernel_rfl) (by kernel_rfl) (by kernel_rfl) (fun _ _ _ h => h) (Or.inl ⟨by rfl, ?_⟩) (by assumption) ?_
    rotate_left
    · intro w' hSw; (try dsimp only at hSw); go_simp; try with_reducible rfl
    try simp only [Act.put, List.getElem_toArray, List.getElem_cons_zero, List.getElem_cons_succ, List.setIfInBounds_toArray, List.set_cons_zero, List.set_cons_succ]
    refine wpAnyH_take (i := 11) (v := ?_) rfl (by kernel_rfl) (by kernel_rfl) (by kernel_rfl) (fun _ _ _ h => h) (Or.inl ⟨by rfl, ?_⟩) (by assumption) ?_
    rotate_left
    · intro w' hSw; (try dsimp only at hSw); go_simp; try with_reducible rfl
    try simp only [Act.put, List.getElem_toArray, List.getElem_cons_zero, List.getElem_cons_succ, List.setIfInBounds_toArray, List.set_cons_zero, List.set_cons_succ]
    refine wpAnyH_take (i := 12) (v := ?_) rfl (by kernel_rfl) (by kernel_rfl) (by kernel_rfl) (fun _ _ _ h => h) (Or.inl ⟨by rfl, ?_⟩) (by assumption) ?_
    rotate_left
    · intro w' hSw; (try dsimp only at hSw); go_simp; try with_reducible rfl
    try simp only [Act.put, List.getElem_toArray, List.getElem_cons_zero, List.getElem_cons_succ, List.setIfInBounds_toArray, List.set_cons_zero, List.set_cons_succ]
    refine wpAnyH_done (by kernel_rfl) ?_ _
    go_wp2_with fail
    go_meet
    obtain ⟨P', hP'⟩ := HP9.out.two (c := grp m g) HA.out Hn'.out F7.out
    exact ⟨aa, P', rfl, rfl, hP'⟩
  case rest =>
  obtain ⟨aa, P', rfl, rfl, hP10⟩ := hcut
  have HP10 := Lib.hid hP10
  clear hP10 HP9 HV9 HSall HNx HCl HO
  go_wp2_with fail
  refine (copy_ok HP10.out.p0 Hok.out Hgr.out).mono ?_
  rintro e w11 ⟨p', cc, rfl, hC, hCn, f11⟩
  obtain ⟨P11, hP11⟩ := HP10.out.third hC hCn f11
  have HP11 := Lib.hid hP11
  clear hC hCn f11 hP11 HP10
  go_wp2_with fail
  refine (same_alike HP11.out.t1 HP11.out.t0 (sameK_grp m g).1).mono ?_
  rintro e w12 ⟨rfl, f12⟩
  have HP12 := Lib.hid (HP11.out.quiet f12)
  clear f12 HP11
  go_wp2_with fail
  refine (same_alike HP12.out.t2 HP12.out.t0 (sameK_refl m m.next)).mono ?_
  rintro e w13 ⟨rfl, f13⟩
  have HP13 := Lib.hid (HP12.out.quiet f13)
  clear f13 HP12
  go_wp2_with fail
  refine (same_alike HP13.out.t0 HP13.out.t1 (sameK_grp m g).2).mono ?_
  rintro e w14 ⟨rfl, f14⟩
  have HP14 := Lib.hid (HP13.out.quiet f14)
  clear f14 HP13
  go_wp2_with fail
  go_loopw [13] (fun s13 wr => ∃ (i : Nat) (P : Nat → Pt) (b : Bk), s13 = .int .i64 (i : Int) ∧ i ≤ min n2 300 ∧ Ok b ∧ 1 ≤ b.group ∧ b.group ≤ 64 ∧ Bks w1 wr 3 (four bb aa cc cc) (four b (grp b g) b b) (fun _ => False) P) (fun s13 _ => n2 - (intOf s13).toNat)
  case atStart => exact ⟨0, _, m, rfl, Nat.zero_le _, Hok.out, Hgr.out.1, Hgr.out.2, HP14.out⟩
  case round =>
    obtain ⟨i, P, b, rfl, hi, hok, hg1, hg2, hP⟩ := hrel
    clear HP14
    by_cases hlt : i < n2
    · have hlt' : (i : Int) < (n2 : Int) := by omega
      by_cases hc : i < 300
      · have hc' : (i : Int) < 300 := by omega
        have i0 : (0 : Int) ≤ (i : Int) := by omega
        obtain ⟨r, hr⟩ : ∃ r, r = rcAt K2 i := ⟨_, rfl⟩
        have Hr := Lib.hid hr
        have HLT := Lib.hid hlt
        obtain ⟨E, hE⟩ : ∃ E, E = appE b r := ⟨_, rfl⟩
        obtain ⟨b', hb'⟩ : ∃ b', b' = appB b r := ⟨_, rfl⟩
        have hok' : Ok b' := by rw [hb']; exact app_ok hok
        have hg' : b'.group = b.group := by rw [hb']; exact (appB_seats b r).2.2
        have HIv := Lib.hid (fun (wx : World) (f : Fr (fun _ => False) w wx) => rc_cells (H2.out.fr f (fun _ _ h => h) (by omega)) hlt)
        rw [← hr] at HIv
        have hid : r.id < 4294967296 := by obtain ⟨_, _, _, _, _, _, _, _, _, h⟩ := HIv.out w (Fr.refl _ _); exact h
        obtain ⟨k1, hk1⟩ : ∃ k1, k1 = i + 1 := ⟨_, rfl⟩
        have hk5 : k1 ≤ 300 := by omega
        have e1 : (i : Int) + 1 = (k1 : Int) := by rw [hk1]; push_cast; rfl
        have e2 : wrap64 (k1 : Int) = (k1 : Int) := by clear hE hb' hok' hg'; unfold wrap64; omega
        have e3 : IntKind.i64.wrap (k1 : Int) = (k1 : Int) := by clear hE hb' hok' hg'; rw [IntKind.wrap_i64]; omega
        have b9 : ((E : Int) != (E : Int)) = false := by simp
        have HK1 := Lib.hid (show k1 = i + 1 ∧ k1 ≤ min n2 300 from ⟨hk1, by omega⟩)
        have HP := Lib.hid hP; have Hokb := Lib.hid hok; have Hokb' := Lib.hid hok'; have Hid := Lib.hid hid; have HE := Lib.hid hE; have HB' := Lib.hid hb'
        have Hgb := Lib.hid (And.intro hg1 hg2); have Hgb' := Lib.hid hg'
        clear hP hok hi hg1 hg2 hlt hc hr hE hb' hok' hg' hid hk1 hk5
        go_wp2_with fail
        refine (copy_ok HP.out.t0 Hokb.out Hgb.out).mono ?_
        rintro e w15 ⟨p', dd, rfl, hC, hCn, f15⟩
        obtain ⟨P15, hP15⟩ := HP.out.fourth hC hCn f15
        have HP15 := Lib.hid hP15
        clear hC hCn f15 hP15 HP
        obtain ⟨g2, o2, c2', ee, d0, d1, d2, d3, d4, -⟩ := HIv.out w15 (F1.out.trans HP15.out.fr (fun _ _ h => h))
        simp only [Value.slice.injEq] at ee
        obtain ⟨rfl, -, rfl⟩ := ee
        go_wp2_with fail
        refine (apply_ok HP15.out.q1 (r := r) Hid.out).mono ?_
        rintro e w16 ⟨rfl, ha⟩
        rw [(grp_app b g r).2, ← HB'.out] at ha
        rw [(grp_app b g r).1, ← HE.out]
        obtain ⟨P16, hP16⟩ := HP15.out.f1 ha
        have HP16 := Lib.hid hP16
        clear ha hP16 HP15 d0 d1 d2 d3 d4
        go_wp2_with fail
        refine (same_alike HP16.out.q0 HP16.out.q3 (sameK_refl b b.next)).mono ?_
        rintro e w17 ⟨rfl, f17⟩
        have HP17 := Lib.hid (HP16.out.quiet f17)
        clear f17 HP16
        go_wp2_with fail
        refine (same_alike HP17.out.q2 HP17.out.q3 (sameK_refl b b.next)).mono ?_
        rintro e w18 ⟨rfl, f18⟩
        have HP18 := Lib.hid (HP17.out.quiet f18)
        clear f18 HP17
        obtain ⟨g3, o3, c3', ee, d0, d1, d2, d3, d4, -⟩ := HIv.out w18 (F1.out.trans HP18.out.fr (fun _ _ h => h))
        simp only [Value.slice.injEq, Option.some.injEq, Addr.mk.injEq] at ee
        obtain ⟨⟨ee1, ee2, -⟩, -, -⟩ := ee
        rw [← ee1, ← ee2] at d0 d1 d2 d3 d4
        clear ee1 ee2
        go_wp2_with fail
        refine (apply_ok HP18.out.q0 (r := r) Hid.out).mono ?_
        rintro e w19 ⟨rfl, ha⟩
        rw [← HB'.out] at ha
        rw [← HE.out]
        obtain ⟨P19, hP19⟩ := HP18.out.f0 ha
        have HP19 := Lib.hid hP19
        clear ha hP19 HP18 d0 d1 d2 d3 d4
        obtain ⟨g4, o4, c4', ee, d0, d1, d2, d3, d4, -⟩ := HIv.out w19 (F1.out.trans HP19.out.fr (fun _ _ h => h))
        simp only [Value.slice.injEq, Option.some.injEq, Addr.mk.injEq] at ee
        obtain ⟨⟨ee1, ee2, -⟩, -, -⟩ := ee
        rw [← ee1, ← ee2] at d0 d1 d2 d3 d4
        clear ee1 ee2
        go_wp2_with fail
        refine (apply_ok HP19.out.q2 (r := r) Hid.out).mono ?_
        rintro e w20 ⟨rfl, ha⟩
        rw [← HB'.out] at ha
        rw [← HE.out]
        obtain ⟨P20, hP20⟩ := HP19.out.f2 ha
        have HP20 := Lib.hid hP20
        clear ha hP20 HP19 d0 d1 d2 d3 d4
        go_wp2_with fail
        refine (same_alike HP20.out.q1 HP20.out.q0 (sameK_grp b' g).1).mono ?_
        rintro e w21 ⟨rfl, f21⟩
        have HP21 := Lib.hid (HP20.out.quiet f21)
        clear f21 HP20
        go_wp2_with fail
        refine (same_alike HP21.out.q0 HP21.out.q2 (sameK_refl b' b'.next)).mono ?_
        rintro e w22 ⟨rfl, f22⟩
        have HP22 := Lib.hid (HP21.out.quiet f22)
        clear f22 HP21
        go_wp2_with fail
        go_roundw
        case rel => exact ⟨k1, _, b', rfl, HK1.out.2, Hokb'.out, by rw [Hgb'.out]; exact Hgb.out.1, by rw [Hgb'.out]; exact Hgb.out.2, (HP22.out.fewer (by omega)).names (fun j hj => by rcases (by omega : j = 0 ∨ j = 1 ∨ j = 2) with rfl | rfl | rfl <;> rfl) (fun j hj => by rcases (by omega : j = 0 ∨ j = 1 ∨ j = 2) with rfl | rfl | rfl <;> rfl)⟩
        case measure => have := HLT.out; have := HK1.out; simp [intOf]; omega
      · have hc' : ¬ (i : Int) < 300 := by omega
        have HF := Lib.hid hP.fr
        clear hP hok hi hg1 hg2 hlt hc
        go_wp2_with fail
        go_ret
        exact ⟨rfl, F1.out.trans HF.out (fun _ _ h => h)⟩
    · have hlt' : ¬ (i : Int) < (n2 : Int) := by omega
      have HF := Lib.hid hP.fr
      clear hP hok hi hg1 hg2 hlt
      go_wp2_with fail
      go_ret
      exact ⟨rfl, F1.out.trans HF.out (fun _ _ h => h)⟩
end Go.Proofs.Ytmmjlnicfndmcaa.Bk
