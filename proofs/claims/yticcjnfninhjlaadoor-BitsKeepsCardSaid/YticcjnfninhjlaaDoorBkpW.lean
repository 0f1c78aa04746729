/- BitsKeeps' walk. Condition: the table of math/bits. -/
import Derived.Test.YticcjnfninhjlaaDoorApaB
import Derived.Test.YticcjnfninhjlaaDoorBitQ
import Derived.Test.YticcjnfninhjlaaDoorBitL
namespace Go.Proofs.YticcjnfninhjlaaDoor.Bt
open Go.RowKit
theorem ints_one' {w : World} {a : Option Addr} {c n k : Nat} {K : Nat → Nat → Int} (h : IntsAt w (.slice a n c) 1 K n) (hk : k < n) :
    ∃ b o, a = some ⟨b, o, none⟩ ∧ w.cell? ⟨b, o + k, none⟩ = some (.int .i64 (K k 0)) ∧ -9223372036854775808 ≤ K k 0 ∧ K k 0 ≤ 9223372036854775807 := by
  obtain ⟨a', c', e, _, _, hor⟩ := h
  simp only [Value.slice.injEq] at e
  obtain ⟨rfl, _, rfl⟩ := e
  obtain ⟨b, o, rfl, hc⟩ := hor.resolve_left (by omega)
  have := hc k 0 hk (by omega)
  simp only [Nat.mul_one, Nat.add_zero] at this
  exact ⟨b, o, rfl, this.1, this.2.1, this.2.2⟩
set_option maxRecDepth 100000 in
set_option maxHeartbeats 4000000 in
theorem keeps_walk (w : World) (hT : TabOk w) {v1 : Value} {K1 : Nat → Nat → Int} {n1 : Nat} (h1 : IntsAt w v1 1 K1 n1) :
    Calls Tryd.prog 3 #[v1] w fun e w' => e = .returned (.bool true) ∧ Fr (fun _ => False) w w' := by
  obtain ⟨a1, c1, rfl, hnc, hcm, hor⟩ := id h1
  have hn1 : (n1 : Int) ≤ 9223372036854775807 := by unfold maxLen at hcm; omega
  have HT := Lib.hid hT; have H1 := Lib.hid h1
  clear hT h1 hor hnc hcm
  go_enter Tryd.func3, Tryd.ntmps3
  go_wp2_with fail
  refine (awake_ok HT.out).mono ?_
  rintro e w1 ⟨rfl, f1⟩
  have F1 := Lib.hid f1; clear f1
  go_wp2_with fail
  refine (new_ok w1 (n := 100) (by omega) (by omega)).mono ?_
  rintro e w2 ⟨bh, v, rfl, s1, s2, s3, s4⟩
  have N2 := Lib.hid (NewSet.mk (w := w1) s1 s2 s3 s4)
  have HB0 := Lib.hid (show (List.replicate (100 : Int).toNat false).length = 100 by simp)
  clear s1 s2 s3 s4
  go_upto_block 0 with fail
  go_cut [5] (fun _ wx => ∃ B : List Bool, B.length = 100 ∧ NewSet w1 wx bh v B)
  case first =>
    go_wp2_with fail
    go_loopw [5] (fun s5 wr => ∃ (k : Nat) (B : List Bool), s5 = .int .i64 k ∧ k ≤ n1 ∧ B.length = 100 ∧ NewSet w1 wr bh v B) (fun s5 _ => n1 - (intOf s5).toNat)
    case atStart => exact ⟨0, _, rfl, Nat.zero_le _, HB0.out, N2.out⟩
    case round =>
      obtain ⟨k, B, rfl, hk, hB, hN⟩ := hrel
      have HB := Lib.hid hB; have HN := Lib.hid hN
      clear hB hN
      by_cases hlt : k < n1
      · have hlt' : (k : Int) < (n1 : Int) := by omega
        obtain ⟨lb, lo, rfl, kx0, lf1, lf2⟩ := ints_one' H1.out hlt
        obtain ⟨lx, hlx⟩ : ∃ x, x = K1 k 0 := ⟨_, rfl⟩
        rw [← hlx] at kx0 lf1 lf2
        have hl0 := World.block_lt_of_cell? _ _ kx0
        have kx := ((F1.out.trans HN.out.fr (fun _ _ h => h)).cell hl0 (fun h => h)).trans kx0
        have Hlt := Lib.hid hlt
        have k0 : (0 : Int) ≤ (k : Int) := by omega
        have HP := Lib.hid (fun w0 => pick_ok lx 100 w0 lf1 lf2 (by omega) (by omega))
        clear hlx hlt lf1 lf2 kx0 hl0
        go_wp2_with fail
        refine (HP.out _).mono ?_
        rintro e w4 ⟨rfl, rfl⟩
        go_wp2_with fail
        refine (put_some HN.out.at_ HN.out.ne _).mono ?_
        rintro e w5 ⟨rr, C, rfl, hC, sC, fC⟩
        have Hnx := Lib.hid (HN.out.step sC fC)
        have HC := Lib.hid hC
        clear hC sC fC kx HP
        go_wp2_with fail
        go_roundw
        case rel => exact ⟨k + 1, C, by first | (simp; done) | go_num, Hlt.out, by rw [HC.out]; exact HB.out, Hnx.out⟩
        case measure => have := Hlt.out; simp [intOf]; omega
      · obtain rfl : k = n1 := by omega
        clear hlt
        go_wp2_with fail
        go_meet
        exact ⟨B, HB.out, HN.out⟩
  case rest =>
  obtain ⟨B, hB, hN⟩ := hcut
  have h13 : nb B.length = 13 := by rw [hB]; rfl
  have HN := Lib.hid hN; have H13 := Lib.hid h13
  clear N2 HB0 hB hN h13
  obtain ⟨w3, rfl⟩ : ∃ w3 : World, w3 = wc := ⟨_, rfl⟩
  go_wp2_with fail
  refine (bytes_ok HN.out.at_).mono ?_
  rintro e wa ⟨a2, c2, rfl, ra, na, fa⟩
  rw [H13.out] at ra na ⊢
  have Ra := Lib.hid ra; have Na := Lib.hid na; have Fa := Lib.hid fa; have NA := Lib.hid (HN.out.keep fa)
  clear ra na fa
  go_wp2_with fail
  refine (bytes_ok NA.out.at_).mono ?_
  rintro e wb ⟨a3, c3, rfl, rb, nb, fb⟩
  rw [H13.out] at rb nb ⊢
  have Rb := Lib.hid rb; have Nb := Lib.hid nb; have Fb := Lib.hid fb; have NB := Lib.hid (NA.out.keep fb)
  have Rab := Lib.hid (Ra.out.fr fb (fun _ _ h => h))
  clear rb nb fb
  go_wp2_with fail
  refine (copyBytes_ok Rab.out (by omega) (by omega)).mono ?_
  rintro e wc ⟨a4, c4, rfl, rc, fc, nc⟩
  have Rc := Lib.hid rc; have Fc := Lib.hid fc; have Nc := Lib.hid nc; have NC := Lib.hid (NB.out.keep fc)
  have Rac := Lib.hid (Rab.out.fr fc (fun _ _ h => h)); have Rbc := Lib.hid (Rb.out.fr fc (fun _ _ h => h))
  clear rc fc nc
  have HS := Lib.hid (show Calls Tryd.prog 14 #[.slice a2 13 c2, .slice a3 13 c3] wc (fun e w' => e = .returned (.bool true) ∧ Fr (fun _ => False) wc w') by
    have := sameBytes_ok Rac.out Rbc.out (by omega) (by omega)
    simpa using this)
  go_wp2_with fail
  refine HS.out.mono ?_
  rintro e wd ⟨rfl, fd⟩
  have Fd := Lib.hid fd; have ND := Lib.hid (NC.out.keep fd)
  have Rad := Lib.hid (Rac.out.fr fd (fun _ _ h => h)); have Rbd := Lib.hid (Rbc.out.fr fd (fun _ _ h => h)); have Rcd := Lib.hid (Rc.out.fr fd (fun _ _ h => h))
  clear fd HS
  go_wp2_with fail
  have fe : Fr (fun _ => False) wd (wd.alloc (.cells #[.slice a2 13 c2, .slice a3 13 c3] 30)) := Fr.alloc (Fr.refl _ _) _
  have he : (wd.alloc (.cells #[.slice a2 13 c2, .slice a3 13 c3] 30)).heap[wd.heap.size]? = some (.cells #[.slice a2 13 c2, .slice a3 13 c3] 30 (0, 0)) := by rw [heap_alloc_get]; simp
  have z0 := cell_of he 0
  have z1 := cell_of he 1
  have HQ := Lib.hid (apartBytes_ok (w := wd.alloc (.cells #[.slice a2 13 c2, .slice a3 13 c3] 30)) (lsb := wd.heap.size) (lo := 0) (K := 2) (c := 2) (lv := fun k => if k = 0 then .slice a2 13 c2 else .slice a3 13 c3) (n := fun _ => 13) (f := fun _ => (bytes B).map u8v) (by omega) (by omega) (fun _ _ => by omega)
    (fun k hk => by
      rcases (by omega : k = 0 ∨ k = 1) with rfl | rfl
      · exact z0
      · exact z1)
    (fun k hk => by
      rcases (by omega : k = 0 ∨ k = 1) with rfl | rfl
      · exact Rad.out.fr fe (fun _ _ h => h)
      · exact Rbd.out.fr fe (fun _ _ h => h))
    (fun j k b hj hk hne e1 e2 => by
      rcases (by omega : (j = 0 ∧ k = 1) ∨ (j = 1 ∧ k = 0)) with ⟨rfl, rfl⟩ | ⟨rfl, rfl⟩
      · simp only [if_pos] at e1
        have q1 := Row.lt Ra.out e1
        have q2 := Nb.out b e2
        omega
      · simp only [if_pos] at e2
        have q1 := Row.lt Ra.out e2
        have q2 := Nb.out b e1
        omega))
  have NE := Lib.hid (ND.out.keep fe); have Rce := Lib.hid (Rcd.out.fr fe (fun _ _ h => h)); have Fe := Lib.hid fe
  clear fe he z0 z1
  refine HQ.out.mono ?_
  rintro e wf ⟨rfl, ff⟩
  have hP : ∀ b, flP 2 (fun k => if k = 0 then .slice a2 13 c2 else .slice a3 13 c3) (fun _ => .slice none 0 0) b → w3.heap.size ≤ b ∧ b < wb.heap.size := by
    rintro b ⟨k, hk, h | h⟩
    · rcases (by omega : k = 0 ∨ k = 1) with rfl | rfl
      · exact ⟨Na.out b h, Nat.lt_of_lt_of_le (Row.lt Ra.out h) Fb.out.size⟩
      · exact ⟨Nat.le_trans Fa.out.size (Nb.out b h), Row.lt Rb.out h⟩
    · simp [Value.ownBlock] at h
  have NF : SetAt wf bh v B := NE.out.at_.fr ff (fun h => by have := (hP _ h).1; have := HN.out.at_.lt; omega) (fun b hb h => by have := (hP _ h).1; have := Row.lt HN.out.at_.row hb; omega)
  have Rcf := Rce.out.fr ff (fun b hb h => by have := (hP _ h).2; have := Nc.out b hb; omega)
  have s31 := (F1.out.trans HN.out.fr (fun _ _ h => h)).size
  have Ff : Fr (fun _ => False) w wf := ((((((F1.out.trans HN.out.fr (fun _ _ h => h)).trans Fa.out (fun _ _ h => h)).trans Fb.out (fun _ _ h => h)).trans Fc.out (fun _ _ h => h)).trans Fd.out (fun _ _ h => h)).trans Fe.out (fun _ _ h => h)).trans ff (fun b hb h => by have := (hP _ h).1; omega)
  have HNF := Lib.hid NF; have HRcf := Lib.hid Rcf; have HFf := Lib.hid Ff
  clear hP NF Rcf Ff s31 ff
  go_wp2_with fail
  refine (bytes_ok HNF.out).mono ?_
  rintro e wg ⟨a5, c5, rfl, rg, ng, fg⟩
  rw [H13.out] at rg ng ⊢
  have HS := Lib.hid (show Calls Tryd.prog 14 #[.slice a5 13 c5, .slice a4 13 c4] wg (fun e w' => e = .returned (.bool true) ∧ Fr (fun _ => False) wg w') by
    have := sameBytes_ok rg (HRcf.out.fr fg (fun _ _ h => h)) (by omega) (by omega)
    simpa using this)
  have Fg := Lib.hid (HFf.out.trans fg (fun _ _ h => h))
  clear rg ng fg
  go_wp2_with fail
  refine HS.out.mono ?_
  rintro e wh ⟨rfl, fh⟩
  have Fh := Lib.hid (Fg.out.trans fh (fun _ _ h => h))
  clear fh
  go_wp2_with fail
  go_ret
  exact ⟨rfl, Fh.out⟩
end Go.Proofs.YticcjnfninhjlaaDoor.Bt
