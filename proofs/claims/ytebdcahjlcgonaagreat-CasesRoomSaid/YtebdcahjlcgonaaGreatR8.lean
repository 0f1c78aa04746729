/- CasesRoom: the walk. No condition. -/
import Derived.Test.YtebdcahjlcgonaaGreatM1
import Derived.Test.YtebdcahjlcgonaaGreatM2
import Derived.Test.YtebdcahjlcgonaaGreatM3
import Derived.Test.YtebdcahjlcgonaaGreatM4
import Derived.Test.YtebdcahjlcgonaaGreatM5
import Derived.Test.YtebdcahjlcgonaaGreatR6
import Derived.Test.YtebdcahjlcgonaaGreatR7
import Derived.Lib.SmallJoins
namespace Go.Proofs.YtebdcahjlcgonaaGreat.Cs
open Go.RowKit Go.Shelf Go.Proofs.YtebdcahjlcgonaaGreat.Bk
attribute [local go_sem] Oper.semAt_some
theorem kindsAt_take {w : World} {a : Option Addr} {n m c : Nat} {kd : Nat → IntKind} {K : Nat → Nat → Int} (h : KindsAt w (.slice a n c) m kd K n) {k : Nat} (hk : k ≤ n) : KindsAt w (.slice a k c) m kd K k := by
 obtain ⟨a', c', e, h1, h2, h3⟩ := h
 obtain ⟨rfl, -, rfl⟩ := Value.slice.inj e
 refine ⟨a, c, rfl, by omega, h2, ?_⟩
 rcases h3 with h3 | ⟨b, o, h3, h4⟩
 ·left; omega
 ·right; exact ⟨b, o, h3, fun i j hi hj => h4 i j (by omega) hj⟩
theorem may_ok_of {b : Bk} (hs : 1 ≤ b.seats ∧ b.seats ≤ 1024) (hc : 1 ≤ b.codes ∧ b.codes ≤ 4096) (hn : b.next < 4294967296) (h : mayK b = true) : Ok b := by
 unfold mayK at h
 simp only [Bool.and_eq_true, decide_eq_true_eq] at h
 obtain ⟨⟨h1, h2, h3, h4⟩, h5⟩ := h
 have h0 : Ok { b with L := [] } := ⟨⟨hs.1, hs.2, hc.1, hc.2, h1, hn, h2, h3, .nil, by simp, by simp, .nil, by simp, Nat.zero_le _⟩, by simp⟩
 have := of_ok0 b.L { b with L := [] } 0 h0 h5 (by simp) (by simpa using h4)
 simpa using this
theorem rcs_cells {w : World} {v : Value} {R : List Rc} (h : Rcs w v R) {i : Nat} (hi : i < R.length) : ∃ g cap, v = .slice (some ⟨g, 0, none⟩) R.length cap ∧ w.cell? ⟨g, i * 5, none⟩ = some (.int .i64 R[i].kind) ∧ w.cell? ⟨g, i * 5 + 1, none⟩ = some (.int .u32 (R[i].id : Int)) ∧ w.cell? ⟨g, i * 5 + 2, none⟩ = some (.int .i64 R[i].seat) ∧ w.cell? ⟨g, i * 5 + 3, none⟩ = some (.int .i64 R[i].till) ∧ w.cell? ⟨g, i * 5 + 4, none⟩ = some (.int .i64 R[i].clock) := by
 obtain ⟨g, cap, e, h1⟩ := Els.cells encR_len h hi
 exact ⟨g, cap, e, h1 0 (by omega), h1 1 (by omega), h1 2 (by omega), h1 3 (by omega), h1 4 (by omega)⟩
abbrev flV (sh : Int) (v : Value) (nx : Nat) (cl : Int) : Value := .agg #[.int .i64 sh, v, .int .u32 (nx : Int), .int .i64 cl]
/-- The program's book and the document's, of one flight. -/
def BooksP (w : World) (e : Ending) (w' : World) : Prop := ∃ p bb wb v b, e = .returned (.tuple #[.pointer (some ⟨bb, 0, none⟩), .pointer (some ⟨wb, 0, none⟩), .bool true]) ∧ Ok b ∧ (1 ≤ b.group ∧ b.group ≤ 64) ∧ BkP p bb b.next b b.L b.L w' ∧ RefAt w' wb v b ∧ (∀ x, p.own bb x → w.heap.size ≤ x ∧ x ≠ wb ∧ v.ownBlock ≠ some x) ∧ w.heap.size ≤ wb ∧ (∀ x, v.ownBlock = some x → w.heap.size ≤ x) ∧ Fr (fun _ => False) w w'
set_option maxRecDepth 100000 in
set_option maxHeartbeats 8000000 in
theorem books_ok {w : World} {sh : Int} (hsh : I64 sh) {v : Value} {K : Nat → Nat → Int} {n : Nat} (hK : KindsAt w v 4 kI K n) (nx : Nat) (hnx : nx < 4294967296) (cl : Int) : Calls Tryz.prog 31 #[flV sh v nx cl] w (BooksP w) := by
 obtain ⟨la, lc, rfl, hlc, -⟩ := id hK
 obtain ⟨W, hW⟩ : ∃ W, W = w.alloc (.cells #[.int .i64 sh, .slice la n lc, .int .u32 (nx : Int), .int .i64 cl] 82) := ⟨_, rfl⟩
 obtain ⟨z, hz⟩ : ∃ z, z = w.heap.size := ⟨_, rfl⟩
 have f0 : Fr (fun _ => False) w W := by rw [hW]; exact Fr.alloc (Fr.refl _ _) _
 have hg : W.heap[z]? = some (.cells #[.int .i64 sh, .slice la n lc, .int .u32 (nx : Int), .int .i64 cl] 82 (0, 0)) := by rw [hW, hz]; exact heap_alloc_at _ _
 have HKw := Lib.hid (hK.fr f0 (fun _ _ h => h) (by omega))
 have d0 := (cell_of hg 0).trans (show _ = some (Value.int .i64 sh) from rfl)
 have d1 := (cell_of hg 1).trans (show _ = some (Value.slice la n lc) from rfl)
 have HG := Lib.hid hg; have F0 := Lib.hid f0; have Hlc := Lib.hid hlc
 have HSp := Lib.hid (fun (V : World) => mshape_ok sh hsh V)
 have Hnx := Lib.hid hnx
 obtain ⟨bq, hbq⟩ : ∃ bq, decide ((60 : Int) < (n : Int)) = bq := ⟨_, rfl⟩
 have hbq2 : decide (60 < n) = bq := by rw [← hbq]; exact decide_eq_decide.2 (by omega)
 have HBq := Lib.hid hbq
 have n0 : (0 : Int) ≤ (n : Int) := by omega
 clear f0 hg hK hsh hnx
 go_enter Tryz.func31, Tryz.ntmps31
 go_upto_region 1 with fail
 rw [← hW, ← hz]
 clear hW hz
 go_upto_if 18 with (fail)
 go_cut [5] (fun s5 wx => ∃ v5 n5, s5 = v5 ∧ KindsAt W v5 4 kI K n5 ∧ n5 ≤ 60 ∧ W = wx)
 case first =>
  cases bq with
  | true =>
   have h60 : 60 ≤ lc := by have := Hlc.out; have := of_decide_eq_true HBq.out; omega
   have h60' : (60 : Int) ≤ (lc : Int) := by omega
   go_wp2_with fail
   go_meet
   exact ⟨_, 60, rfl, kindsAt_take HKw.out (by have := of_decide_eq_true HBq.out; omega), Nat.le_refl _, rfl⟩
  | false =>
   go_wp2_with fail
   go_meet
   exact ⟨_, n, rfl, HKw.out, by have := of_decide_eq_false HBq.out; omega, rfl⟩
 case rest =>
 obtain ⟨v5, n5, rfl, hk5, hn5, rfl⟩ := hcut
 have HK5 := Lib.hid hk5; have Hn5 := Lib.hid hn5
 clear hk5 hn5 hbq hbq2 d1 hlc
 go_wp2_with fail
 refine (HSp.out _).mono ?_
 rintro e w1 ⟨a, b, c, rfl, ha, hb, hc, f1⟩
 obtain ⟨Wb, hWb⟩ : ∃ W, W = w1.alloc (.cells #[.int .i64 (a : Int), .int .i64 (b : Int), .int .i64 (c : Int)] 23) := ⟨_, rfl⟩
 obtain ⟨y6, hy6⟩ : ∃ z, z = w1.heap.size := ⟨_, rfl⟩
 have f2 : Fr (fun _ => False) w1 Wb := by rw [hWb]; exact Fr.alloc (Fr.refl _ _) _
 have g6 : Wb.heap[y6]? = some (.cells #[.int .i64 (a : Int), .int .i64 (b : Int), .int .i64 (c : Int)] 23 (0, 0)) := by rw [hWb, hy6]; exact heap_alloc_at _ _
 have Fb := Lib.hid (f1.trans f2 (fun _ _ h => h))
 have HA := Lib.hid ha; have HB := Lib.hid hb; have HC := Lib.hid hc; have HG6 := Lib.hid g6
 have HGz := Lib.hid (Fb.out.get HG.out (fun h => h))
 have HKb := Lib.hid (HK5.out.fr Fb.out (fun _ _ h => h) (by omega))
 have HNew := Lib.hid (rnew_ok Wb (n := a) (m := b) (q := c) (by omega) (by omega) (by omega))
 have HOk0 := Lib.hid (show Ok (bk0 a b c) from bk0_ok (by omega) (by omega))
 have q0 := (cell_of g6 0).trans (show _ = some (Value.int .i64 (a : Int)) from rfl)
 have q1 := (cell_of g6 1).trans (show _ = some (Value.int .i64 (b : Int)) from rfl)
 have q2 := (cell_of g6 2).trans (show _ = some (Value.int .i64 (c : Int)) from rfl)
 clear f1 f2 g6 ha hb hc d0
 go_upto_region 5 with fail
 rw [← hWb, ← hy6]
 clear hWb hy6
 go_wp2_with fail
 refine HNew.out.mono ?_
 rintro e w3 ⟨wb, rfl, hR, hwb, f3⟩
 have HI0 := Lib.hid (show HiAt Wb w3 wb (.slice none 0 0) (.slice none 0 0) (bk0 a b c) [] 60 from ⟨hR, HOk0.out.toRaw, World.ownsRow_nil _ _ _ _, fun x hx => by simp at hx, Nat.zero_le _, hwb, fun x hx => by simp [Value.ownBlock] at hx, fun x hx => by simp [Value.ownBlock] at hx, f3⟩)
 have g63 := f3.get HG6.out (fun h => h)
 clear hR hwb f3 q0 q1 q2
 have q0 := (cell_of g63 0).trans (show _ = some (Value.int .i64 (a : Int)) from rfl)
 have q1 := (cell_of g63 1).trans (show _ = some (Value.int .i64 (b : Int)) from rfl)
 have q2 := (cell_of g63 2).trans (show _ = some (Value.int .i64 (c : Int)) from rfl)
 have HHi := Lib.hid (hist_ok (w := w3) (a := a) (b := b) (c := c) HA.out HB.out HC.out (HKb.out.fr HI0.out.fr (fun _ _ h => h) (by omega)) (by have := Hn5.out; omega) false)
 clear g63
 go_wp2_with fail
 refine HHi.out.mono ?_
 rintro e w4 ⟨v9, R, rfl, hrcs, hids, hlen, hown, f4⟩
 have HI1 := Lib.hid (show HiAt Wb w4 wb (.slice none 0 0) v9 (bk0 a b c) R 60 from ⟨HI0.out.ref.keep f4, HOk0.out.toRaw, hrcs, hids, by have := Hn5.out; omega, HI0.out.o1, HI0.out.o2, fun x hx => ⟨by have := hown x hx; have := HI0.out.fr.size; omega, fun e => by have := hown x hx; have := lt_of_block HI0.out.ref.head; omega, by simp [Value.ownBlock]⟩, HI0.out.fr.trans f4 (fun _ _ h => h)⟩)
 obtain ⟨ra, rc, hv9⟩ := rcs_slice hrcs
 have HV9 := Lib.hid hv9
 clear hrcs hids hlen hown f4 q0 q1 q2
 obtain ⟨m, hm⟩ : ∃ m, m = R.length := ⟨_, rfl⟩
 have hm60 : m ≤ 60 := by rw [hm]; exact HI1.out.len
 have hm60' : (m : Int) ≤ 60 := by omega
 rw [hv9, ← hm]
 have HM := Lib.hid hm; have Hm60 := Lib.hid hm60
 clear hv9 hm hm60
 go_upto_block 0 with fail
 go_cut [10] (fun _ wx => ∃ (vb : Value) (bk : Bk), HiAt Wb wx wb vb v9 bk R 60 ∧ Ok bk ∧ bk.seats = a ∧ bk.codes = b ∧ bk.group = c)
 case first =>
  go_wp2_with fail
  go_loopw [10] (fun s10 wr => ∃ (i : Nat) (vb : Value) (bk : Bk), s10 = .int .i64 (i : Int) ∧ i ≤ m ∧ HiAt Wb wr wb vb v9 bk R 60 ∧ Ok bk ∧ bk.seats = a ∧ bk.codes = b ∧ bk.group = c) (fun s10 _ => m - (intOf s10).toNat)
  case atStart => exact ⟨0, _, _, rfl, Nat.zero_le _, HI1.out, HOk0.out, rfl, rfl, rfl⟩
  case round =>
   obtain ⟨i, vb, bk, rfl, hi, hH, hok, e1, e2, e3⟩ := hrel
   have HH := Lib.hid hH; have HOk := Lib.hid hok; have HE := Lib.hid (And.intro e1 (And.intro e2 e3))
   clear hok e1 e2 e3
   by_cases hlt : i < m
   ·have hlt' : (i : Int) < (m : Int) := by omega
    have i0 : (0 : Int) ≤ (i : Int) := by omega
    have hiR : i < R.length := by rw [← HM.out]; exact hlt
    obtain ⟨g, cap, ev, k0, k1, k2, k3, k4⟩ := rcs_cells hH.rcs hiR
    have ev2 := HV9.out
    rw [ev] at ev2
    obtain ⟨rfl, -, rfl⟩ := Value.slice.inj ev2
    obtain ⟨r, hr⟩ : ∃ r, r = R[i] := ⟨_, rfl⟩
    rw [← hr] at k0 k1 k2 k3 k4
    have HAp := Lib.hid (rapply_ok hH.ref hH.raw r)
    obtain ⟨i1, hi1⟩ : ∃ i1, i1 = i + 1 := ⟨_, rfl⟩
    have j1 : (i : Int) + 1 = (i1 : Int) := by rw [hi1]; push_cast; rfl
    have j2 : wrap64 (i1 : Int) = (i1 : Int) := by clear k0 k1 k2 k3 k4 ev ev2 hr; unfold wrap64; omega
    have j3 : IntKind.i64.wrap (i1 : Int) = (i1 : Int) := by clear k0 k1 k2 k3 k4 ev ev2 hr j2; rw [IntKind.wrap_i64]; omega
    have HI := Lib.hid (show i1 ≤ m ∧ m - i1 < m - i by omega)
    clear hH hr hi hi1 hlt hiR ev ev2
    go_wp2_with fail
    refine HAp.out.mono ?_
    rintro e w7 ⟨rfl, ha⟩
    obtain ⟨vb', h7⟩ := HH.out.apply ha (app_raw HH.out.raw)
    have H7 := Lib.hid h7
    clear ha h7 k0 k1 k2 k3 k4
    go_wp2_with fail
    go_roundw
    case rel => exact ⟨i1, vb', appB bk r, rfl, HI.out.1, H7.out, app_ok HOk.out, by rw [(appB_seats bk r).1]; exact HE.out.1, by rw [(appB_seats bk r).2.1]; exact HE.out.2.1, by rw [(appB_seats bk r).2.2]; exact HE.out.2.2⟩
    case measure => have := HI.out.2; simp [intOf]; omega
   ·have hlt' : ¬ (i : Int) < (m : Int) := by omega
    clear hlt hi hH
    go_wp2_with fail
    go_meet
    exact ⟨vb, bk, HH.out, HOk.out, HE.out.1, HE.out.2.1, HE.out.2.2⟩
 case rest =>
 obtain ⟨vb, bk, hH, hok, es, ec, eg⟩ := hcut
 obtain ⟨va, vc, rfl⟩ := bos_slice hH.ref.row
 obtain ⟨nn, hnn⟩ : ∃ nn, nn = bk.L.length := ⟨_, rfl⟩
 have hc7 := hH.ref.c
 rw [← hnn] at hc7
 obtain ⟨k0, k1, k2, k3, k4, k5, k6⟩ := hc7
 obtain ⟨nx2, hnx2⟩ : ∃ nx2 : Nat, nx2 = (bk.next + nx) % 4294967296 := ⟨_, rfl⟩
 have hw2 : IntKind.u32.wrap ((bk.next : Int) + (nx : Int)) = (nx2 : Int) := by clear k0 k1 k2 k3 k4 k5 k6; rw [IntKind.wrap_u32]; omega
 have Hnx2 := Lib.hid (show nx2 < 4294967296 by omega)
 obtain ⟨cl2, hcl⟩ : ∃ cl2, wrap64 (bk.clock + cl) = cl2 := ⟨_, rfl⟩
 have hcl' : IntKind.i64.wrap (bk.clock + cl) = cl2 := by clear k0 k1 k2 k3 k4 k5 k6 hw2; rw [← hcl, IntKind.wrap_i64]; unfold wrap64; omega
 obtain ⟨Wf, hWf⟩ : ∃ W, W = wc.alloc (.cells #[.bool true, .int .i64 (bk.seats : Int), .int .i64 (bk.codes : Int), .int .i64 (bk.group : Int), .slice va nn vc, .int .u32 (nx2 : Int), .int .i64 cl2] 52) := ⟨_, rfl⟩
 obtain ⟨fb, hfb⟩ : ∃ z, z = wc.heap.size := ⟨_, rfl⟩
 have ff : Fr (fun _ => False) wc Wf := by rw [hWf]; exact Fr.alloc (Fr.refl _ _) _
 have gf : Wf.heap[fb]? = some (.cells #[.bool true, .int .i64 (bk.seats : Int), .int .i64 (bk.codes : Int), .int .i64 (bk.group : Int), .slice va nn vc, .int .u32 (nx2 : Int), .int .i64 cl2] 52 (0, 0)) := by rw [hWf, hfb]; exact heap_alloc_at _ _
 have HHf := Lib.hid (hH.quiet ff)
 have HFar := Lib.hid (show RefAt Wf fb (.slice va bk.L.length vc) { bk with next := nx2, clock := cl2 } from ⟨by rw [← hnn]; exact gf, Row.fr hH.ref.row ff (fun _ _ h => h), fun e => by have := Row.lt hH.ref.row e; omega⟩)
 have HOk := Lib.hid hok; have HE := Lib.hid (And.intro es (And.intro ec eg)); have HNn := Lib.hid hnn
 have HFb := Lib.hid (show Wb.heap.size ≤ fb by rw [hfb]; exact hH.fr.size)
 have gz := (hH.fr.get HGz.out (fun h => h))
 have z2 := (cell_of gz 2).trans (show _ = some (Value.int .u32 (nx : Int)) from rfl)
 have z3 := (cell_of gz 3).trans (show _ = some (Value.int .i64 cl) from rfl)
 have Hzl := Lib.hid (lt_of_block gz)
 have z2f := (ff.cell (b := z) (o := 2) (s := none) (lt_of_block gz) (fun h => h)).trans z2
 have z3f := (ff.cell (b := z) (o := 3) (s := none) (lt_of_block gz) (fun h => h)).trans z3
 have hzs : z < wc.heap.size := lt_of_block gz
 have hzs' : z ≠ wc.heap.size := by omega
 clear gz ff gf hH hok es ec eg hnn hnx2
 go_upto_region 14 with fail
 rw [← hWf, ← hfb]
 clear hWf hfb z2 z3 z2f z3f hzs hzs' k0 k1 k2 k3 k4 k5 k6 hw2 hcl hcl'
 obtain ⟨far, hfar⟩ : ∃ far : Bk, far = { bk with next := nx2, clock := cl2 } := ⟨_, rfl⟩
 obtain ⟨ta, hta⟩ : ∃ t, decide ((bk.next : Int) ≤ (nx2 : Int)) = t := ⟨_, rfl⟩
 have hta2 : decide (bk.next ≤ nx2) = ta := by rw [← hta]; exact decide_eq_decide.2 (by omega)
 obtain ⟨tb, htb⟩ : ∃ t, decide (bk.clock ≤ cl2) = t := ⟨_, rfl⟩
 obtain ⟨tm, htm⟩ : ∃ t, mayK far = t := ⟨_, rfl⟩
 have HMay := Lib.hid (fun (V : World) (f : Fr (fun _ => False) Wf V) => show Calls Tryz.prog 20 #[.pointer (some ⟨fb, 0, none⟩)] V fun e w' => e = .returned (.bool tm) ∧ Fr (fun _ => False) V w' by
  rw [← htm, hfar]
  exact rbmay_ok (HFar.out.keep f) (by have := HOk.out.few; have := HOk.out.c1; show bk.L.length ≤ 100000; omega) ⟨HOk.out.s0, HOk.out.s1⟩)
 have HTm := Lib.hid htm; have HFr := Lib.hid hfar
 have HSS := Lib.hid (fun (V : World) (f : Fr (fun _ => False) Wf V) => (⟨f, (HFar.out.keep f).c.2.2.2.2.2.1, (HFar.out.keep f).c.2.2.2.2.2.2, (HHf.out.ref.keep f).c.2.2.2.2.2.1, (HHf.out.ref.keep f).c.2.2.2.2.2.2⟩ : Fr (fun _ => False) Wf V ∧ V.cell? ⟨fb, 5, none⟩ = some (.int .u32 (nx2 : Int)) ∧ V.cell? ⟨fb, 6, none⟩ = some (.int .i64 cl2) ∧ V.cell? ⟨wb, 5, none⟩ = some (.int .u32 (bk.next : Int)) ∧ V.cell? ⟨wb, 6, none⟩ = some (.int .i64 bk.clock)))
 clear htm hfar
 go_cut [77] (fun s wx => s = .bool (ta && (tb && tm)) ∧ Fr (fun _ => False) Wf wx)
 case first =>
  cases ta with
  | false =>
   refine wp_region_held_drew (S := fun w' => Fr (fun _ => False) Wf w' ∧ w'.cell? ⟨fb, 5, none⟩ = some (.int .u32 (nx2 : Int)) ∧ w'.cell? ⟨fb, 6, none⟩ = some (.int .i64 cl2) ∧ w'.cell? ⟨wb, 5, none⟩ = some (.int .u32 (bk.next : Int)) ∧ w'.cell? ⟨wb, 6, none⟩ = some (.int .i64 bk.clock)) (by kernel_rfl) (by exact HSS.out _ (Fr.drew (Fr.refl _ _))) (fun hHeld => ?_)
   refine wpAnyH_take (i := 0) (v := ?_) rfl (by kernel_rfl) (by kernel_rfl) (by kernel_rfl) (fun _ _ _ h => h) (Or.inl ⟨by rfl, ?_⟩) (by assumption) ?_
   rotate_left
   ·intro w' hSw; (try dsimp only at hSw); go_simp; try with_reducible rfl
   try simp only [Act.put, List.getElem_toArray, List.getElem_cons_zero, List.setIfInBounds_toArray, List.set_cons_zero, List.set_cons_succ]
   refine wpAnyH_take (i := 1) (v := ?_) rfl (by kernel_rfl) (by kernel_rfl) (by kernel_rfl) (fun _ _ _ h => h) (Or.inl ⟨by rfl, ?_⟩) (by assumption) ?_
   rotate_left
   ·intro w' hSw; (try dsimp only at hSw); go_simp; try with_reducible rfl
   try simp only [Act.put, sL]
   refine wpAnyH_take (i := 2) (v := ?_) rfl (by kernel_rfl) (by kernel_rfl) (by kernel_rfl) (fun _ _ _ h => h) (Or.inl ⟨by rfl, ?_⟩) (by assumption) ?_
   rotate_left
   ·intro w' hSw; (try dsimp only at hSw); go_simp; try with_reducible rfl
   try simp only [Act.put, sL]
   refine wpAnyH_take (i := 3) (v := ?_) rfl (by kernel_rfl) (by kernel_rfl) (by kernel_rfl) (fun _ _ _ h => h) (Or.inl ⟨by rfl, ?_⟩) (by assumption) ?_
   rotate_left
   ·intro w' hSw; (try dsimp only at hSw); go_simp; try with_reducible rfl
   try simp only [Act.put, sL]
   refine wpAnyH_take (i := 4) (v := ?_) rfl (by kernel_rfl) (by kernel_rfl) (by kernel_rfl) (fun _ _ _ h => h) (Or.inl ⟨by rfl, ?_⟩) (by assumption) ?_
   rotate_left
   ·intro w' hSw; (try dsimp only at hSw); go_simp; try with_reducible rfl
   try simp only [Act.put, sL]
   refine wpAnyH_take (i := 5) (v := ?_) rfl (by kernel_rfl) (by kernel_rfl) (by kernel_rfl) (fun _ _ _ h => h) (Or.inl ⟨by rfl, ?_⟩) (by assumption) ?_
   rotate_left
   ·intro w' hSw; (try dsimp only at hSw); go_simp; try with_reducible rfl
   try simp only [Act.put, sL]
   refine wpAnyH_take (i := 6) (v := ?_) rfl (by kernel_rfl) (by kernel_rfl) (by kernel_rfl) (fun _ _ _ h => h) (Or.inl ⟨by rfl, ?_⟩) (by assumption) ?_
   rotate_left
   ·intro w' hSw; (try dsimp only at hSw); go_simp; try with_reducible rfl
   try simp only [Act.put, sL]
   refine wpAnyH_take (i := 7) (v := ?_) rfl (by kernel_rfl) (by kernel_rfl) (by kernel_rfl) (fun _ _ _ h => h) (Or.inl ⟨by rfl, ?_⟩) (by assumption) ?_
   rotate_left
   ·intro w' hSw; (try dsimp only at hSw); go_simp; try with_reducible rfl
   try simp only [Act.put, sL]
   refine wpAnyH_take (i := 8) (v := undef) rfl (by kernel_rfl) (by kernel_rfl) (by kernel_rfl) (fun _ _ _ h => h) (Or.inr ⟨rfl, rfl⟩) (by assumption) ?_
   try simp only [Act.put, sL]
   refine wpAnyH_take (i := 9) (v := undef) rfl (by kernel_rfl) (by kernel_rfl) (by kernel_rfl) (fun _ _ _ h => h) (Or.inr ⟨rfl, rfl⟩) (by assumption) ?_
   try simp only [Act.put, sL]
   refine wpAnyH_take (i := 10) (v := undef) rfl (by kernel_rfl) (by kernel_rfl) (by kernel_rfl) (fun _ _ _ h => h) (Or.inr ⟨rfl, rfl⟩) (by assumption) ?_
   try simp only [Act.put, sL]
   refine wpAnyH_take (i := 11) (v := undef) rfl (by kernel_rfl) (by kernel_rfl) (by kernel_rfl) (fun _ _ _ h => h) (Or.inr ⟨rfl, rfl⟩) (by assumption) ?_
   try simp only [Act.put, sL]
   refine wpAnyH_take (i := 12) (v := undef) rfl (by kernel_rfl) (by kernel_rfl) (by kernel_rfl) (fun _ _ _ h => h) (Or.inr ⟨rfl, rfl⟩) (by assumption) ?_
   try simp only [Act.put, sL]
   refine wpAnyH_take (i := 13) (v := undef) rfl (by kernel_rfl) (by kernel_rfl) (by kernel_rfl) (fun _ _ _ h => h) (Or.inr ⟨rfl, rfl⟩) (by assumption) ?_
   try simp only [Act.put, sL]
   refine wpAnyH_take (i := 14) (v := undef) rfl (by kernel_rfl) (by kernel_rfl) (by kernel_rfl) (fun _ _ _ h => h) (Or.inr ⟨rfl, rfl⟩) (by assumption) ?_
   try simp only [Act.put, sL]
   refine wpAnyH_take (i := 15) (v := ?_) rfl (by kernel_rfl) (by kernel_rfl) (by kernel_rfl) (fun _ _ _ h => h) (Or.inl ⟨by rfl, ?_⟩) (by assumption) ?_
   rotate_left
   ·intro w' hSw; (try dsimp only at hSw); go_simp; try with_reducible rfl
   try simp only [Act.put, sL]
   refine wpAnyH_take (i := 16) (v := ?_) rfl (by kernel_rfl) (by kernel_rfl) (by kernel_rfl) (fun _ _ _ h => h) (Or.inl ⟨by rfl, ?_⟩) (by assumption) ?_
   rotate_left
   ·intro w' hSw; (try dsimp only at hSw); go_simp; try with_reducible rfl
   try simp only [Act.put, sL]
   refine wpAnyH_take (i := 17) (v := undef) rfl (by kernel_rfl) (by kernel_rfl) (by kernel_rfl) (fun _ _ _ h => h) (Or.inr ⟨rfl, rfl⟩) (by assumption) ?_
   try simp only [Act.put, sL]
   refine wpAnyH_take (i := 18) (v := ?_) rfl (by kernel_rfl) (by kernel_rfl) (by kernel_rfl) (fun _ _ _ h => h) (Or.inl ⟨by rfl, ?_⟩) (by assumption) ?_
   rotate_left
   ·intro w' hSw; (try dsimp only at hSw); go_simp; try with_reducible rfl
   try simp only [Act.put, sL]
   refine wpAnyH_done (by kernel_rfl) ?_ _
   go_wp2_with fail
   go_meet
   exact ⟨by simp, hHeld.1⟩
  | true =>
   cases tb with
   | false =>
    refine wp_region_held_drew (S := fun w' => Fr (fun _ => False) Wf w' ∧ w'.cell? ⟨fb, 5, none⟩ = some (.int .u32 (nx2 : Int)) ∧ w'.cell? ⟨fb, 6, none⟩ = some (.int .i64 cl2) ∧ w'.cell? ⟨wb, 5, none⟩ = some (.int .u32 (bk.next : Int)) ∧ w'.cell? ⟨wb, 6, none⟩ = some (.int .i64 bk.clock)) (by kernel_rfl) (by exact HSS.out _ (Fr.drew (Fr.refl _ _))) (fun hHeld => ?_)
    refine wpAnyH_take (i := 0) (v := ?_) rfl (by kernel_rfl) (by kernel_rfl) (by kernel_rfl) (fun _ _ _ h => h) (Or.inl ⟨by rfl, ?_⟩) (by assumption) ?_
    rotate_left
    ·intro w' hSw; (try dsimp only at hSw); go_simp; try with_reducible rfl
    try simp only [Act.put, List.getElem_toArray, List.getElem_cons_zero, List.setIfInBounds_toArray, List.set_cons_zero, List.set_cons_succ]
    refine wpAnyH_take (i := 1) (v := ?_) rfl (by kernel_rfl) (by kernel_rfl) (by kernel_rfl) (fun _ _ _ h => h) (Or.inl ⟨by rfl, ?_⟩) (by assumption) ?_
    rotate_left
    ·intro w' hSw; (try dsimp only at hSw); go_simp; try with_reducible rfl
    try simp only [Act.put, sL]
    refine wpAnyH_take (i := 2) (v := ?_) rfl (by kernel_rfl) (by kernel_rfl) (by kernel_rfl) (fun _ _ _ h => h) (Or.inl ⟨by rfl, ?_⟩) (by assumption) ?_
    rotate_left
    ·intro w' hSw; (try dsimp only at hSw); go_simp; try with_reducible rfl
    try simp only [Act.put, sL]
    refine wpAnyH_take (i := 3) (v := ?_) rfl (by kernel_rfl) (by kernel_rfl) (by kernel_rfl) (fun _ _ _ h => h) (Or.inl ⟨by rfl, ?_⟩) (by assumption) ?_
    rotate_left
    ·intro w' hSw; (try dsimp only at hSw); go_simp; try with_reducible rfl
    try simp only [Act.put, sL]
    refine wpAnyH_take (i := 4) (v := ?_) rfl (by kernel_rfl) (by kernel_rfl) (by kernel_rfl) (fun _ _ _ h => h) (Or.inl ⟨by rfl, ?_⟩) (by assumption) ?_
    rotate_left
    ·intro w' hSw; (try dsimp only at hSw); go_simp; try with_reducible rfl
    try simp only [Act.put, sL]
    refine wpAnyH_take (i := 5) (v := ?_) rfl (by kernel_rfl) (by kernel_rfl) (by kernel_rfl) (fun _ _ _ h => h) (Or.inl ⟨by rfl, ?_⟩) (by assumption) ?_
    rotate_left
    ·intro w' hSw; (try dsimp only at hSw); go_simp; try with_reducible rfl
    try simp only [Act.put, sL]
    refine wpAnyH_take (i := 6) (v := ?_) rfl (by kernel_rfl) (by kernel_rfl) (by kernel_rfl) (fun _ _ _ h => h) (Or.inl ⟨by rfl, ?_⟩) (by assumption) ?_
    rotate_left
    ·intro w' hSw; (try dsimp only at hSw); go_simp; try with_reducible rfl
    try simp only [Act.put, sL]
    refine wpAnyH_take (i := 7) (v := ?_) rfl (by kernel_rfl) (by kernel_rfl) (by kernel_rfl) (fun _ _ _ h => h) (Or.inl ⟨by rfl, ?_⟩) (by assumption) ?_
    rotate_left
    ·intro w' hSw; (try dsimp only at hSw); go_simp; try with_reducible rfl
    try simp only [Act.put, sL]
    refine wpAnyH_take (i := 8) (v := ?_) rfl (by kernel_rfl) (by kernel_rfl) (by kernel_rfl) (fun _ _ _ h => h) (Or.inl ⟨by rfl, ?_⟩) (by assumption) ?_
    rotate_left
    ·intro w' hSw; (try dsimp only at hSw); go_simp; try with_reducible rfl
    try simp only [Act.put, sL]
    refine wpAnyH_take (i := 9) (v := ?_) rfl (by kernel_rfl) (by kernel_rfl) (by kernel_rfl) (fun _ _ _ h => h) (Or.inl ⟨by rfl, ?_⟩) (by assumption) ?_
    rotate_left
    ·intro w' hSw; (try dsimp only at hSw); go_simp; try with_reducible rfl
    try simp only [Act.put, sL]
    refine wpAnyH_take (i := 10) (v := ?_) rfl (by kernel_rfl) (by kernel_rfl) (by kernel_rfl) (fun _ _ _ h => h) (Or.inl ⟨by rfl, ?_⟩) (by assumption) ?_
    rotate_left
    ·intro w' hSw; (try dsimp only at hSw); go_simp; try with_reducible rfl
    try simp only [Act.put, sL]
    refine wpAnyH_take (i := 11) (v := ?_) rfl (by kernel_rfl) (by kernel_rfl) (by kernel_rfl) (fun _ _ _ h => h) (Or.inl ⟨by rfl, ?_⟩) (by assumption) ?_
    rotate_left
    ·intro w' hSw; (try dsimp only at hSw); go_simp; try with_reducible rfl
    try simp only [Act.put, sL]
    refine wpAnyH_take (i := 12) (v := ?_) rfl (by kernel_rfl) (by kernel_rfl) (by kernel_rfl) (fun _ _ _ h => h) (Or.inl ⟨by rfl, ?_⟩) (by assumption) ?_
    rotate_left
    ·intro w' hSw; (try dsimp only at hSw); go_simp; try with_reducible rfl
    try simp only [Act.put, sL]
    refine wpAnyH_take (i := 13) (v := ?_) rfl (by kernel_rfl) (by kernel_rfl) (by kernel_rfl) (fun _ _ _ h => h) (Or.inl ⟨by rfl, ?_⟩) (by assumption) ?_
    rotate_left
    ·intro w' hSw; (try dsimp only at hSw); go_simp; try with_reducible rfl
    try simp only [Act.put, sL]
    refine wpAnyH_take (i := 14) (v := ?_) rfl (by kernel_rfl) (by kernel_rfl) (by kernel_rfl) (fun _ _ _ h => h) (Or.inl ⟨by rfl, ?_⟩) (by assumption) ?_
    rotate_left
    ·intro w' hSw; (try dsimp only at hSw); go_simp; try with_reducible rfl
    try simp only [Act.put, sL]
    refine wpAnyH_take (i := 15) (v := ?_) rfl (by kernel_rfl) (by kernel_rfl) (by kernel_rfl) (fun _ _ _ h => h) (Or.inl ⟨by rfl, ?_⟩) (by assumption) ?_
    rotate_left
    ·intro w' hSw; (try dsimp only at hSw); go_simp; try with_reducible rfl
    try simp only [Act.put, sL]
    refine wpAnyH_take (i := 16) (v := ?_) rfl (by kernel_rfl) (by kernel_rfl) (by kernel_rfl) (fun _ _ _ h => h) (Or.inl ⟨by rfl, ?_⟩) (by assumption) ?_
    rotate_left
    ·intro w' hSw; (try dsimp only at hSw); go_simp; try with_reducible rfl
    try simp only [Act.put, sL]
    refine wpAnyH_take (i := 17) (v := undef) rfl (by kernel_rfl) (by kernel_rfl) (by kernel_rfl) (fun _ _ _ h => h) (Or.inr ⟨rfl, rfl⟩) (by assumption) ?_
    try simp only [Act.put, sL]
    refine wpAnyH_take (i := 18) (v := ?_) rfl (by kernel_rfl) (by kernel_rfl) (by kernel_rfl) (fun _ _ _ h => h) (Or.inl ⟨by rfl, ?_⟩) (by assumption) ?_
    rotate_left
    ·intro w' hSw; (try dsimp only at hSw); go_simp; try with_reducible rfl
    try simp only [Act.put, sL]
    refine wpAnyH_done (by kernel_rfl) ?_ _
    go_wp2_with fail
    go_meet
    exact ⟨by simp, hHeld.1⟩
   | true =>
    refine wp_region_held_drew (S := fun w' => Fr (fun _ => False) Wf w' ∧ w'.cell? ⟨fb, 5, none⟩ = some (.int .u32 (nx2 : Int)) ∧ w'.cell? ⟨fb, 6, none⟩ = some (.int .i64 cl2) ∧ w'.cell? ⟨wb, 5, none⟩ = some (.int .u32 (bk.next : Int)) ∧ w'.cell? ⟨wb, 6, none⟩ = some (.int .i64 bk.clock)) (by kernel_rfl) (by exact HSS.out _ (Fr.drew (Fr.refl _ _))) (fun hHeld => ?_)
    refine wpAnyH_take (i := 0) (v := ?_) rfl (by kernel_rfl) (by kernel_rfl) (by kernel_rfl) (fun _ _ _ h => h) (Or.inl ⟨by rfl, ?_⟩) (by assumption) ?_
    rotate_left
    ·intro w' hSw; (try dsimp only at hSw); go_simp; try with_reducible rfl
    try simp only [Act.put, List.getElem_toArray, List.getElem_cons_zero, List.setIfInBounds_toArray, List.set_cons_zero, List.set_cons_succ]
    refine wpAnyH_take (i := 1) (v := ?_) rfl (by kernel_rfl) (by kernel_rfl) (by kernel_rfl) (fun _ _ _ h => h) (Or.inl ⟨by rfl, ?_⟩) (by assumption) ?_
    rotate_left
    ·intro w' hSw; (try dsimp only at hSw); go_simp; try with_reducible rfl
    try simp only [Act.put, sL]
    refine wpAnyH_take (i := 2) (v := ?_) rfl (by kernel_rfl) (by kernel_rfl) (by kernel_rfl) (fun _ _ _ h => h) (Or.inl ⟨by rfl, ?_⟩) (by assumption) ?_
    rotate_left
    ·intro w' hSw; (try dsimp only at hSw); go_simp; try with_reducible rfl
    try simp only [Act.put, sL]
    refine wpAnyH_take (i := 3) (v := ?_) rfl (by kernel_rfl) (by kernel_rfl) (by kernel_rfl) (fun _ _ _ h => h) (Or.inl ⟨by rfl, ?_⟩) (by assumption) ?_
    rotate_left
    ·intro w' hSw; (try dsimp only at hSw); go_simp; try with_reducible rfl
    try simp only [Act.put, sL]
    refine wpAnyH_take (i := 4) (v := ?_) rfl (by kernel_rfl) (by kernel_rfl) (by kernel_rfl) (fun _ _ _ h => h) (Or.inl ⟨by rfl, ?_⟩) (by assumption) ?_
    rotate_left
    ·intro w' hSw; (try dsimp only at hSw); go_simp; try with_reducible rfl
    try simp only [Act.put, sL]
    refine wpAnyH_take (i := 5) (v := ?_) rfl (by kernel_rfl) (by kernel_rfl) (by kernel_rfl) (fun _ _ _ h => h) (Or.inl ⟨by rfl, ?_⟩) (by assumption) ?_
    rotate_left
    ·intro w' hSw; (try dsimp only at hSw); go_simp; try with_reducible rfl
    try simp only [Act.put, sL]
    refine wpAnyH_take (i := 6) (v := ?_) rfl (by kernel_rfl) (by kernel_rfl) (by kernel_rfl) (fun _ _ _ h => h) (Or.inl ⟨by rfl, ?_⟩) (by assumption) ?_
    rotate_left
    ·intro w' hSw; (try dsimp only at hSw); go_simp; try with_reducible rfl
    try simp only [Act.put, sL]
    refine wpAnyH_take (i := 7) (v := ?_) rfl (by kernel_rfl) (by kernel_rfl) (by kernel_rfl) (fun _ _ _ h => h) (Or.inl ⟨by rfl, ?_⟩) (by assumption) ?_
    rotate_left
    ·intro w' hSw; (try dsimp only at hSw); go_simp; try with_reducible rfl
    try simp only [Act.put, sL]
    refine wpAnyH_take (i := 8) (v := ?_) rfl (by kernel_rfl) (by kernel_rfl) (by kernel_rfl) (fun _ _ _ h => h) (Or.inl ⟨by rfl, ?_⟩) (by assumption) ?_
    rotate_left
    ·intro w' hSw; (try dsimp only at hSw); go_simp; try with_reducible rfl
    try simp only [Act.put, sL]
    refine wpAnyH_take (i := 9) (v := ?_) rfl (by kernel_rfl) (by kernel_rfl) (by kernel_rfl) (fun _ _ _ h => h) (Or.inl ⟨by rfl, ?_⟩) (by assumption) ?_
    rotate_left
    ·intro w' hSw; (try dsimp only at hSw); go_simp; try with_reducible rfl
    try simp only [Act.put, sL]
    refine wpAnyH_take (i := 10) (v := ?_) rfl (by kernel_rfl) (by kernel_rfl) (by kernel_rfl) (fun _ _ _ h => h) (Or.inl ⟨by rfl, ?_⟩) (by assumption) ?_
    rotate_left
    ·intro w' hSw; (try dsimp only at hSw); go_simp; try with_reducible rfl
    try simp only [Act.put, sL]
    refine wpAnyH_take (i := 11) (v := ?_) rfl (by kernel_rfl) (by kernel_rfl) (by kernel_rfl) (fun _ _ _ h => h) (Or.inl ⟨by rfl, ?_⟩) (by assumption) ?_
    rotate_left
    ·intro w' hSw; (try dsimp only at hSw); go_simp; try with_reducible rfl
    try simp only [Act.put, sL]
    refine wpAnyH_take (i := 12) (v := ?_) rfl (by kernel_rfl) (by kernel_rfl) (by kernel_rfl) (fun _ _ _ h => h) (Or.inl ⟨by rfl, ?_⟩) (by assumption) ?_
    rotate_left
    ·intro w' hSw; (try dsimp only at hSw); go_simp; try with_reducible rfl
    try simp only [Act.put, sL]
    refine wpAnyH_take (i := 13) (v := ?_) rfl (by kernel_rfl) (by kernel_rfl) (by kernel_rfl) (fun _ _ _ h => h) (Or.inl ⟨by rfl, ?_⟩) (by assumption) ?_
    rotate_left
    ·intro w' hSw; (try dsimp only at hSw); go_simp; try with_reducible rfl
    try simp only [Act.put, sL]
    refine wpAnyH_take (i := 14) (v := ?_) rfl (by kernel_rfl) (by kernel_rfl) (by kernel_rfl) (fun _ _ _ h => h) (Or.inl ⟨by rfl, ?_⟩) (by assumption) ?_
    rotate_left
    ·intro w' hSw; (try dsimp only at hSw); go_simp; try with_reducible rfl
    try simp only [Act.put, sL]
    refine wpAnyH_take (i := 15) (v := ?_) rfl (by kernel_rfl) (by kernel_rfl) (by kernel_rfl) (fun _ _ _ h => h) (Or.inl ⟨by rfl, ?_⟩) (by assumption) ?_
    rotate_left
    ·intro w' hSw; (try dsimp only at hSw); go_simp; try with_reducible rfl
    try simp only [Act.put, sL]
    refine wpAnyH_take (i := 16) (v := ?_) rfl (by kernel_rfl) (by kernel_rfl) (by kernel_rfl) (fun _ _ _ h => h) (Or.inl ⟨by rfl, ?_⟩) (by assumption) ?_
    rotate_left
    ·intro w' hSw; (try dsimp only at hSw); go_simp; try with_reducible rfl
    try simp only [Act.put, sL]
    refine wpAnyH_ready (rs := [17]) (by kernel_rfl) (by simp) ?_
    refine AllReadyH.cons rfl (fun K hK => ?_) AllReadyH.nil
    go_simp
    refine (HMay.out _ hHeld.1).mono ?_
    rintro e x17 ⟨rfl, f17⟩
    try go_simp
    refine hK.out _ _ ?_ (fun hHeld => ?_)
    ·(try dsimp only); exact HSS.out _ (hHeld.1.trans f17 (fun _ _ h => h))
    clear hK K
    try simp only [Act.put, sL]
    refine wpAnyH_take (i := 18) (v := ?_) rfl (by kernel_rfl) (by kernel_rfl) (by kernel_rfl) (fun _ _ _ h => h) (Or.inl ⟨by rfl, ?_⟩) (by assumption) ?_
    rotate_left
    ·intro w' hSw; (try dsimp only at hSw); go_simp; try with_reducible rfl
    try simp only [Act.put, sL]
    refine wpAnyH_done (by kernel_rfl) ?_ _
    go_wp2_with fail
    go_meet
    exact ⟨by simp, hHeld.1⟩
 case rest =>
 obtain ⟨rfl, f14⟩ := hcut
 have HH14 := Lib.hid (HHf.out.quiet f14); have HFar14 := Lib.hid (HFar.out.keep f14)
 obtain ⟨tt, htt⟩ : ∃ t, t = (ta && (tb && tm)) := ⟨_, rfl⟩
 have HTt := Lib.hid htt
 rw [← htt]
 clear f14 htt hta hta2 htb
 go_upto_if 77 with fail
 go_cut [7] (fun s7 wx => ∃ (wb' : Nat) (b' : Bk), s7 = .pointer (some ⟨wb', 0, none⟩) ∧ RefAt wc wb' (.slice va bk.L.length vc) b' ∧ Ok b' ∧ b'.seats = a ∧ b'.codes = b ∧ b'.group = c ∧ b'.L.length = nn ∧ Wb.heap.size ≤ wb' ∧ wc = wx)
 case first =>
  cases tt with
  | true =>
   go_wp2_with fail
   go_meet
   have h1 := HTt.out.symm
   simp only [Bool.and_eq_true] at h1
   refine ⟨fb, { bk with next := nx2, clock := cl2 }, rfl, HFar14.out, ?_, HE.out.1, HE.out.2.1, HE.out.2.2, HNn.out.symm, HFb.out, rfl⟩
   exact may_ok_of ⟨HOk.out.s0, HOk.out.s1⟩ ⟨HOk.out.c0, HOk.out.c1⟩ Hnx2.out (by rw [← HFr.out, HTm.out]; exact h1.2.2)
  | false =>
   go_wp2_with fail
   go_meet
   exact ⟨wb, bk, rfl, HH14.out.ref, HOk.out, HE.out.1, HE.out.2.1, HE.out.2.2, HNn.out.symm, HH14.out.o1, rfl⟩
 case rest =>
 obtain ⟨wb', b', rfl, hR', hok', es', ec', eg', hl', hwb', rfl⟩ := hcut
 have HR' := Lib.hid hR'; have HOk' := Lib.hid hok'; have HWb' := Lib.hid hwb'; have HEg := Lib.hid eg'
 have hbk : b' = bkL a b c b'.next b'.clock b'.L := by
  obtain ⟨s1, s2, s3, s4, s5, s6⟩ := b'
  simp only at es' ec' eg'
  subst es'; subst ec'; subst eg'; rfl
 have HOf := Lib.hid (fun (V : World) (f : Fr (fun _ => False) wc V) => show Calls Tryz.prog 12 #[shV a b c, .int .u32 (b'.next : Int), .int .i64 b'.clock, .slice va nn vc] V fun e w' => ∃ p bb, e = .returned (.tuple #[.pointer (some ⟨bb, 0, none⟩), .int .i64 0]) ∧ BkP p bb b'.next b' b'.L b'.L w' ∧ (∀ x, p.own bb x → V.heap.size ≤ x) ∧ Fr (fun _ => False) V w' by
  have hrow : Bos V (.slice va nn vc) b'.L := by have := (HR'.out.keep f).row; rw [← HNn.out] at this; exact this
  have h1 := of_ok (w := V) (n := a) (m := b) (q := c) ⟨HA.out.1, by have := HA.out.2; omega⟩ ⟨HB.out.1, by have := HB.out.2; omega⟩ ⟨HC.out.1, by have := HC.out.2; omega⟩ (nx := b'.next) ⟨HOk'.out.n0, HOk'.out.n1⟩ (c := b'.clock) ⟨HOk'.out.t0, HOk'.out.t1⟩ hrow (by have := HOk'.out.few; rw [ec'] at this; exact this)
  refine h1.mono fun e w' h2 => ?_
  obtain ⟨f2, h3⟩ := h2
  have hof : ofGo (bkL a b c b'.next b'.clock []) 0 b'.L = true := by
   have h4 := of_own HOk'.out
   have h5 : ({ b' with L := [] } : Bk) = bkL a b c b'.next b'.clock [] := by rw [hbk]
   rw [h5] at h4; exact h4
  rw [if_pos hof] at h3
  obtain ⟨p, bb, he, hB, hn⟩ := h3
  exact ⟨p, bb, he, by rw [hbk]; exact hB, hn, f2⟩)
 have hc5 := hR'.c
 have HS16 := Lib.hid (fun (V : World) (f : Fr (fun _ => False) wc V) => (⟨f, (cell_of ((HH14.out.fr.trans f (fun _ _ h => h)).get HG6.out (fun h => h)) 0).trans rfl, (cell_of ((HH14.out.fr.trans f (fun _ _ h => h)).get HG6.out (fun h => h)) 1).trans rfl, (cell_of ((HH14.out.fr.trans f (fun _ _ h => h)).get HG6.out (fun h => h)) 2).trans rfl, (HR'.out.keep f).c.2.2.2.2.2.1, (HR'.out.keep f).c.2.2.2.2.2.2, by rw [HNn.out]; exact (HR'.out.keep f).c.2.2.2.2.1⟩ : Fr (fun _ => False) wc V ∧ V.cell? ⟨y6, 0, none⟩ = some (.int .i64 (a : Int)) ∧ V.cell? ⟨y6, 1, none⟩ = some (.int .i64 (b : Int)) ∧ V.cell? ⟨y6, 2, none⟩ = some (.int .i64 (c : Int)) ∧ V.cell? ⟨wb', 5, none⟩ = some (.int .u32 (b'.next : Int)) ∧ V.cell? ⟨wb', 6, none⟩ = some (.int .i64 b'.clock) ∧ V.cell? ⟨wb', 4, none⟩ = some (.slice va nn vc)))
 have HF16 := Lib.hid (F0.out.trans (Fb.out.trans HH14.out.fr (fun _ _ h => h)) (fun _ _ h => h))
 clear hR' hok' es' ec' eg' hl' hwb' hbk hc5
 go_upto_region 16 with fail
 refine wp_region_held_drew (S := fun w' => Fr (fun _ => False) wc w' ∧ w'.cell? ⟨y6, 0, none⟩ = some (.int .i64 (a : Int)) ∧ w'.cell? ⟨y6, 1, none⟩ = some (.int .i64 (b : Int)) ∧ w'.cell? ⟨y6, 2, none⟩ = some (.int .i64 (c : Int)) ∧ w'.cell? ⟨wb', 5, none⟩ = some (.int .u32 (b'.next : Int)) ∧ w'.cell? ⟨wb', 6, none⟩ = some (.int .i64 b'.clock) ∧ w'.cell? ⟨wb', 4, none⟩ = some (.slice va nn vc)) (by kernel_rfl) (by exact HS16.out _ (Fr.drew (Fr.refl _ _))) (fun hHeld => ?_)
 refine wpAnyH_take (i := 0) (v := ?_) rfl (by kernel_rfl) (by kernel_rfl) (by kernel_rfl) (fun _ _ _ h => h) (Or.inl ⟨by rfl, ?_⟩) (by assumption) ?_
 rotate_left
 ·intro w' hSw; (try dsimp only at hSw); go_simp; try with_reducible rfl
 try simp only [Act.put, List.getElem_toArray, List.getElem_cons_zero, List.setIfInBounds_toArray, List.set_cons_zero, List.set_cons_succ]
 refine wpAnyH_take (i := 1) (v := ?_) rfl (by kernel_rfl) (by kernel_rfl) (by kernel_rfl) (fun _ _ _ h => h) (Or.inl ⟨by rfl, ?_⟩) (by assumption) ?_
 rotate_left
 ·intro w' hSw; (try dsimp only at hSw); go_simp; try with_reducible rfl
 try simp only [Act.put, sL]
 refine wpAnyH_take (i := 2) (v := ?_) rfl (by kernel_rfl) (by kernel_rfl) (by kernel_rfl) (fun _ _ _ h => h) (Or.inl ⟨by rfl, ?_⟩) (by assumption) ?_
 rotate_left
 ·intro w' hSw; (try dsimp only at hSw); go_simp; try with_reducible rfl
 try simp only [Act.put, sL]
 refine wpAnyH_take (i := 3) (v := ?_) rfl (by kernel_rfl) (by kernel_rfl) (by kernel_rfl) (fun _ _ _ h => h) (Or.inl ⟨by rfl, ?_⟩) (by assumption) ?_
 rotate_left
 ·intro w' hSw; (try dsimp only at hSw); go_simp; try with_reducible rfl
 try simp only [Act.put, sL]
 refine wpAnyH_take (i := 4) (v := ?_) rfl (by kernel_rfl) (by kernel_rfl) (by kernel_rfl) (fun _ _ _ h => h) (Or.inl ⟨by rfl, ?_⟩) (by assumption) ?_
 rotate_left
 ·intro w' hSw; (try dsimp only at hSw); go_simp; try with_reducible rfl
 try simp only [Act.put, sL]
 refine wpAnyH_take (i := 5) (v := ?_) rfl (by kernel_rfl) (by kernel_rfl) (by kernel_rfl) (fun _ _ _ h => h) (Or.inl ⟨by rfl, ?_⟩) (by assumption) ?_
 rotate_left
 ·intro w' hSw; (try dsimp only at hSw); go_simp; try with_reducible rfl
 try simp only [Act.put, sL]
 refine wpAnyH_take (i := 6) (v := ?_) rfl (by kernel_rfl) (by kernel_rfl) (by kernel_rfl) (fun _ _ _ h => h) (Or.inl ⟨by rfl, ?_⟩) (by assumption) ?_
 rotate_left
 ·intro w' hSw; (try dsimp only at hSw); go_simp; try with_reducible rfl
 try simp only [Act.put, sL]
 refine wpAnyH_take (i := 7) (v := ?_) rfl (by kernel_rfl) (by kernel_rfl) (by kernel_rfl) (fun _ _ _ h => h) (Or.inl ⟨by rfl, ?_⟩) (by assumption) ?_
 rotate_left
 ·intro w' hSw; (try dsimp only at hSw); go_simp; try with_reducible rfl
 try simp only [Act.put, sL]
 refine wpAnyH_take (i := 8) (v := ?_) rfl (by kernel_rfl) (by kernel_rfl) (by kernel_rfl) (fun _ _ _ h => h) (Or.inl ⟨by rfl, ?_⟩) (by assumption) ?_
 rotate_left
 ·intro w' hSw; (try dsimp only at hSw); go_simp; try with_reducible rfl
 try simp only [Act.put, sL]
 refine wpAnyH_take (i := 9) (v := ?_) rfl (by kernel_rfl) (by kernel_rfl) (by kernel_rfl) (fun _ _ _ h => h) (Or.inl ⟨by rfl, ?_⟩) (by assumption) ?_
 rotate_left
 ·intro w' hSw; (try dsimp only at hSw); go_simp; try with_reducible rfl
 try simp only [Act.put, sL]
 refine wpAnyH_take (i := 10) (v := ?_) rfl (by kernel_rfl) (by kernel_rfl) (by kernel_rfl) (fun _ _ _ h => h) (Or.inl ⟨by rfl, ?_⟩) (by assumption) ?_
 rotate_left
 ·intro w' hSw; (try dsimp only at hSw); go_simp; try with_reducible rfl
 try simp only [Act.put, sL]
 refine wpAnyH_take (i := 11) (v := ?_) rfl (by kernel_rfl) (by kernel_rfl) (by kernel_rfl) (fun _ _ _ h => h) (Or.inl ⟨by rfl, ?_⟩) (by assumption) ?_
 rotate_left
 ·intro w' hSw; (try dsimp only at hSw); go_simp; try with_reducible rfl
 try simp only [Act.put, sL]
 refine wpAnyH_take (i := 12) (v := ?_) rfl (by kernel_rfl) (by kernel_rfl) (by kernel_rfl) (fun _ _ _ h => h) (Or.inl ⟨by rfl, ?_⟩) (by assumption) ?_
 rotate_left
 ·intro w' hSw; (try dsimp only at hSw); go_simp; try with_reducible rfl
 try simp only [Act.put, sL]
 refine wpAnyH_ready (rs := [13]) (by kernel_rfl) (by simp) ?_
 refine AllReadyH.cons rfl (fun K hK => ?_) AllReadyH.nil
 go_simp
 refine (HOf.out _ hHeld.1).mono ?_
 rintro e x16 ⟨p, bb, rfl, hBx, hnx, f16⟩
 try go_simp
 refine hK.out _ _ ?_ (fun hHeld => ?_)
 ·(try dsimp only); exact HS16.out _ (hHeld.1.trans f16 (fun _ _ h => h))
 clear hK K
 have HBx := Lib.hid hBx; have HNx := Lib.hid hnx
 clear hBx hnx f16
 try simp only [Act.put, sL]
 refine wpAnyH_take (i := 14) (v := ?_) rfl (by kernel_rfl) (by kernel_rfl) (by kernel_rfl) (fun _ _ _ h => h) (Or.inl ⟨by rfl, ?_⟩) (by assumption) ?_
 rotate_left
 ·intro w' hSw; (try dsimp only at hSw); go_simp; try with_reducible rfl
 try simp only [Act.put, sL]
 refine wpAnyH_take (i := 15) (v := ?_) rfl (by kernel_rfl) (by kernel_rfl) (by kernel_rfl) (fun _ _ _ h => h) (Or.inl ⟨by rfl, ?_⟩) (by assumption) ?_
 rotate_left
 ·intro w' hSw; (try dsimp only at hSw); go_simp; try with_reducible rfl
 try simp only [Act.put, sL]
 refine wpAnyH_take (i := 16) (v := ?_) rfl (by kernel_rfl) (by kernel_rfl) (by kernel_rfl) (fun _ _ _ h => h) (Or.inl ⟨by rfl, ?_⟩) (by assumption) ?_
 rotate_left
 ·intro w' hSw; (try dsimp only at hSw); go_simp; try with_reducible rfl
 try simp only [Act.put, sL]
 refine wpAnyH_take (i := 17) (v := ?_) rfl (by kernel_rfl) (by kernel_rfl) (by kernel_rfl) (fun _ _ _ h => h) (Or.inl ⟨by rfl, ?_⟩) (by assumption) ?_
 rotate_left
 ·intro w' hSw; (try dsimp only at hSw); go_simp; try with_reducible rfl
 try simp only [Act.put, sL]
 refine wpAnyH_take (i := 18) (v := ?_) rfl (by kernel_rfl) (by kernel_rfl) (by kernel_rfl) (fun _ _ _ h => h) (Or.inl ⟨by rfl, ?_⟩) (by assumption) ?_
 rotate_left
 ·intro w' hSw; (try dsimp only at hSw); go_simp; try with_reducible rfl
 try simp only [Act.put, sL]
 refine wpAnyH_done (by kernel_rfl) ?_ _
 go_wp2_with fail
 refine bodyPost_ret (v := .tuple #[.pointer (some ⟨bb, 0, none⟩), .pointer (some ⟨wb', 0, none⟩), .bool true]) ?_ rfl ⟨p, bb, wb', .slice va bk.L.length vc, b', rfl, HOk'.out, ⟨by rw [HEg.out]; exact HC.out.1, by rw [HEg.out]; have := HC.out.2; omega⟩, HBx.out, HR'.out.keep hHeld.1, fun x hx => ?_, ?_, fun x hx => ?_, HF16.out.trans hHeld.1 (fun _ _ h => h)⟩
 ·simp [results, Tryz.f31, go_sem]
 ·have h1 := HNx.out x hx
  have h2 : wc.heap.size ≤ x := h1
  have h3 := HF16.out.size
  refine ⟨by omega, fun e => ?_, fun e => ?_⟩
  ·have := lt_of_block HR'.out.head; omega
  ·have := Row.lt HR'.out.row e; omega
 ·have := HWb'.out; have := Fb.out.size; have := F0.out.size; omega
 ·have := HH14.out.o2 x hx; have := Fb.out.size; have := F0.out.size; omega
end Go.Proofs.YtebdcahjlcgonaaGreat.Cs
namespace Go.Proofs.YtebdcahjlcgonaaGreat.Cs
open Go.RowKit Go.Shelf Go.Proofs.YtebdcahjlcgonaaGreat.Bk
attribute [local go_sem] Oper.semAt_some
set_option maxRecDepth 100000 in
set_option maxHeartbeats 8000000 in
theorem has_ok (k : Int) (w : World) : Calls Tryz.prog 67 #[.int .i64 k] w fun e w' => e = .returned (.tuple #[.bool (hasId k), .bool (hasSeat k), .bool (hasTtl k)]) ∧ w = w' := by
 by_cases hk : k = 1 ∨ k = 2 ∨ k = 3 ∨ k = 4 ∨ k = 5 ∨ k = 6 ∨ k = 7
 ·rcases hk with rfl | rfl | rfl | rfl | rfl | rfl | rfl
  ·go_enter Tryz.func67, Tryz.ntmps67
   go_wp2_with fail
   refine bodyPost_ret (v := .tuple #[.bool (hasId 1), .bool (hasSeat 1), .bool (hasTtl 1)]) ?_ rfl ⟨rfl, rfl⟩
   simp [results, Tryz.f67, go_sem, hasId, hasSeat, hasTtl]
  ·go_enter Tryz.func67, Tryz.ntmps67
   go_wp2_with fail
   refine bodyPost_ret (v := .tuple #[.bool (hasId 2), .bool (hasSeat 2), .bool (hasTtl 2)]) ?_ rfl ⟨rfl, rfl⟩
   simp [results, Tryz.f67, go_sem, hasId, hasSeat, hasTtl]
  ·go_enter Tryz.func67, Tryz.ntmps67
   go_wp2_with fail
   refine bodyPost_ret (v := .tuple #[.bool (hasId 3), .bool (hasSeat 3), .bool (hasTtl 3)]) ?_ rfl ⟨rfl, rfl⟩
   simp [results, Tryz.f67, go_sem, hasId, hasSeat, hasTtl]
  ·go_enter Tryz.func67, Tryz.ntmps67
   go_wp2_with fail
   refine bodyPost_ret (v := .tuple #[.bool (hasId 4), .bool (hasSeat 4), .bool (hasTtl 4)]) ?_ rfl ⟨rfl, rfl⟩
   simp [results, Tryz.f67, go_sem, hasId, hasSeat, hasTtl]
  ·go_enter Tryz.func67, Tryz.ntmps67
   go_wp2_with fail
   refine bodyPost_ret (v := .tuple #[.bool (hasId 5), .bool (hasSeat 5), .bool (hasTtl 5)]) ?_ rfl ⟨rfl, rfl⟩
   simp [results, Tryz.f67, go_sem, hasId, hasSeat, hasTtl]
  ·go_enter Tryz.func67, Tryz.ntmps67
   go_wp2_with fail
   refine bodyPost_ret (v := .tuple #[.bool (hasId 6), .bool (hasSeat 6), .bool (hasTtl 6)]) ?_ rfl ⟨rfl, rfl⟩
   simp [results, Tryz.f67, go_sem, hasId, hasSeat, hasTtl]
  ·go_enter Tryz.func67, Tryz.ntmps67
   go_wp2_with fail
   refine bodyPost_ret (v := .tuple #[.bool (hasId 7), .bool (hasSeat 7), .bool (hasTtl 7)]) ?_ rfl ⟨rfl, rfl⟩
   simp [results, Tryz.f67, go_sem, hasId, hasSeat, hasTtl]
 ·have b1 : (k == 1) = false := by rw [beq_eq_false_iff_ne]; omega
  have b2 : (k == 2) = false := by rw [beq_eq_false_iff_ne]; omega
  have b3 : (k == 3) = false := by rw [beq_eq_false_iff_ne]; omega
  have b4 : (k == 4) = false := by rw [beq_eq_false_iff_ne]; omega
  have b5 : (k == 5) = false := by rw [beq_eq_false_iff_ne]; omega
  have b6 : (k == 6) = false := by rw [beq_eq_false_iff_ne]; omega
  have b7 : (k == 7) = false := by rw [beq_eq_false_iff_ne]; omega
  have HK := Lib.hid (show hasId k = false ∧ hasSeat k = false ∧ hasTtl k = false by unfold hasId hasSeat hasTtl; refine ⟨?_, ?_, ?_⟩ <;> (rw [decide_eq_false_iff_not]; omega))
  clear hk
  go_enter Tryz.func67, Tryz.ntmps67
  go_wp2_with fail
  refine bodyPost_ret (v := .tuple #[.bool false, .bool false, .bool false]) ?_ rfl ⟨by rw [HK.out.1, HK.out.2.1, HK.out.2.2], rfl⟩
  simp [results, Tryz.f67, go_sem]
structure Askd where
 kind : Int
 id : Int
 seat : Int
 ttl : Int
 tag : Nat
abbrev akV (a : Askd) : Value := .agg #[.int .i64 a.kind, .int .i64 a.id, .int .i64 a.seat, .int .i64 a.ttl, .int .u32 (a.tag : Int)]
structure AskOk (a : Askd) : Prop where
 k : I64 a.kind
 i : I64 a.id
 s : I64 a.seat
 t : I64 a.ttl
 g : a.tag < 4294967296
def ReqP (w : World) (e : Ending) (w' : World) : Prop := ∃ q : Rq, e = .returned (rqV q) ∧ q.id < 4294967296 ∧ q.tag < 4294967296 ∧ Fr (fun _ => False) w w'
set_option maxRecDepth 100000 in
set_option maxHeartbeats 8000000 in
theorem request_ok (a : Askd) (ha : AskOk a) (w : World) : Calls Tryz.prog 32 #[akV a] w (ReqP w) := by
 obtain ⟨kd, hkd⟩ : ∃ kd, kd = a.kind % 10 := ⟨_, rfl⟩
 obtain ⟨ki, hki⟩ : ∃ ki, ki = 1 + kd := ⟨_, rfl⟩
 have hk10 : 0 ≤ kd ∧ kd < 10 := by omega
 obtain ⟨iv, hiv⟩ : ∃ iv : Nat, a.id % 12 = (iv : Int) := ⟨(a.id % 12).toNat, by omega⟩
 have hiv2 : iv < 12 := by omega
 obtain ⟨sv, hsv⟩ : ∃ sv, sv = a.seat % 14 := ⟨_, rfl⟩
 obtain ⟨tv, htv⟩ : ∃ tv, tv = a.ttl % 9 := ⟨_, rfl⟩
 have HP1 := Lib.hid (fun (V : World) => show Calls Tryz.prog 18 #[.int .i64 a.kind, .int .i64 10] V fun e w' => e = .returned (.int .i64 kd) ∧ V = w' by rw [hkd]; exact pick_ok a.kind 10 V ha.k.1 ha.k.2 (by omega) (by omega))
 have HP2 := Lib.hid (fun (V : World) => show Calls Tryz.prog 18 #[.int .i64 a.id, .int .i64 12] V fun e w' => e = .returned (.int .i64 (iv : Int)) ∧ V = w' by rw [← hiv]; exact pick_ok a.id 12 V ha.i.1 ha.i.2 (by omega) (by omega))
 have HP3 := Lib.hid (fun (V : World) => show Calls Tryz.prog 18 #[.int .i64 a.seat, .int .i64 14] V fun e w' => e = .returned (.int .i64 sv) ∧ V = w' by rw [hsv]; exact pick_ok a.seat 14 V ha.s.1 ha.s.2 (by omega) (by omega))
 have HP4 := Lib.hid (fun (V : World) => show Calls Tryz.prog 18 #[.int .i64 a.ttl, .int .i64 9] V fun e w' => e = .returned (.int .i64 tv) ∧ V = w' by rw [htv]; exact pick_ok a.ttl 9 V ha.t.1 ha.t.2 (by omega) (by omega))
 have hw1 : wrap64 ki = ki := by unfold wrap64; omega
 have hw1' : IntKind.i64.wrap ki = ki := by clear hw1; rw [IntKind.wrap_i64]; omega
 have k1 : 1 + kd = ki := hki.symm
 have i2 : IntKind.u32.wrap (iv : Int) = (iv : Int) := by rw [IntKind.wrap_u32]; omega
 have HIv := Lib.hid (show iv < 4294967296 by omega); have HTg := Lib.hid ha.g
 have Hbits := Lib.hid (And.intro hw1 (And.intro k1 (And.intro i2 hw1')))
 obtain ⟨W1, hW1⟩ : ∃ W, W = w.alloc (.cells #[.int .i64 a.kind, .int .i64 a.id, .int .i64 a.seat, .int .i64 a.ttl, .int .u32 (a.tag : Int)] 84) := ⟨_, rfl⟩
 obtain ⟨W, hW⟩ : ∃ W, W = W1.alloc (.cells #[.int .i64 0, .int .u32 0, .int .u32 0, .int .i64 0, .int .i64 0] 61) := ⟨_, rfl⟩
 obtain ⟨z, hz⟩ : ∃ z, z = w.heap.size := ⟨_, rfl⟩
 have s1 : W1.heap.size = z + 1 := by rw [hW1, hz]; simp
 have a1 : Fr (fun _ => False) w W1 := by rw [hW1]; exact Fr.alloc (Fr.refl _ _) _
 have a2 : Fr (fun _ => False) W1 W := by rw [hW]; exact Fr.alloc (Fr.refl _ _) _
 have f0 : Fr (fun _ => False) w W := a1.trans a2 (fun _ _ h => h)
 have hg : W.heap[z]? = some (.cells #[.int .i64 a.kind, .int .i64 a.id, .int .i64 a.seat, .int .i64 a.ttl, .int .u32 (a.tag : Int)] 84 (0, 0)) := a2.get (show W1.heap[z]? = _ by rw [hW1, hz]; exact heap_alloc_at _ _) (fun h => h)
 have hg1 : W.heap[z + 1]? = some (rqO ⟨0, 0, 0, 0, 0⟩) := show W.heap[z + 1]? = _ by rw [hW, ← s1]; exact heap_alloc_at _ _
 have HG := Lib.hid (And.intro hg hg1); have F0 := Lib.hid f0; have Hz := Lib.hid hz
 have HSS := Lib.hid (fun (V : World) (f : Fr (fun _ => False) W V) => (⟨f, (cell_of (f.get hg (fun h => h)) 0).trans rfl, (cell_of (f.get hg (fun h => h)) 4).trans rfl⟩ : Fr (fun _ => False) W V ∧ V.cell? ⟨z, 0, none⟩ = some (.int .i64 a.kind) ∧ V.cell? ⟨z, 4, none⟩ = some (.int .u32 (a.tag : Int))))
 have HW1 := Lib.hid hW1; have HW := Lib.hid hW; have Hs1 := Lib.hid s1
 clear hkd hki hk10 hiv hiv2 hsv htv ha f0 hg hg1 a1 a2 s1 hW1 hW hz hw1 hw1' k1 i2
 go_enter Tryz.func32, Tryz.ntmps32
 go_upto_region 1 with fail
 rw [← HW1.out, ← HW.out, ← Hz.out]
 try rw [Hs1.out]
 obtain ⟨hw1, k1, i2, hw1'⟩ := Hbits.out
 go_cut [3] (fun s3 wx => ∃ y, s3 = .pointer (some ⟨y, 0, none⟩) ∧ W.heap.size ≤ y ∧ wx.heap[y]? = some (rqO ⟨ki, a.tag, 0, 0, 0⟩) ∧ Fr (fun _ => False) W wx)
 case first =>
  refine wp_region_held_drew (S := fun w' => Fr (fun _ => False) W w' ∧ w'.cell? ⟨z, 0, none⟩ = some (.int .i64 a.kind) ∧ w'.cell? ⟨z, 4, none⟩ = some (.int .u32 (a.tag : Int))) (by kernel_rfl) (by exact HSS.out _ (Fr.drew (Fr.refl _ _))) (fun hHeld => ?_)
  refine wpAnyH_take (i := 0) (v := ?_) rfl (by kernel_rfl) (by kernel_rfl) (by kernel_rfl) (fun _ _ _ h => h) (Or.inl ⟨by rfl, ?_⟩) (by assumption) ?_
  rotate_left
  ·intro w' hSw; (try dsimp only at hSw); go_simp; try with_reducible rfl
  try simp only [Act.put, List.getElem_toArray, List.getElem_cons_zero, List.setIfInBounds_toArray, List.set_cons_zero, List.set_cons_succ]
  refine wpAnyH_take (i := 1) (v := ?_) rfl (by kernel_rfl) (by kernel_rfl) (by kernel_rfl) (fun _ _ _ h => h) (Or.inl ⟨by rfl, ?_⟩) (by assumption) ?_
  rotate_left
  ·intro w' hSw; (try dsimp only at hSw); go_simp; try with_reducible rfl
  try simp only [Act.put, sL]
  refine wpAnyH_take (i := 4) (v := ?_) rfl (by kernel_rfl) (by kernel_rfl) (by kernel_rfl) (fun _ _ _ h => h) (Or.inl ⟨by rfl, ?_⟩) (by assumption) ?_
  rotate_left
  ·intro w' hSw; (try dsimp only at hSw); go_simp; try with_reducible rfl
  try simp only [Act.put, sL]
  refine wpAnyH_take (i := 5) (v := ?_) rfl (by kernel_rfl) (by kernel_rfl) (by kernel_rfl) (fun _ _ _ h => h) (Or.inl ⟨by rfl, ?_⟩) (by assumption) ?_
  rotate_left
  ·intro w' hSw; (try dsimp only at hSw); go_simp; try with_reducible rfl
  try simp only [Act.put, sL]
  refine wpAnyH_ready (rs := [2, 7]) (by kernel_rfl) (by simp) ?_
  refine AllReadyH.cons rfl (fun K hK => ?_) (AllReadyH.cons rfl (fun K hK => ?_) AllReadyH.nil)
  ·go_simp
   refine (HP1.out _).mono ?_
   rintro e x2 ⟨rfl, rfl⟩
   try go_simp
   refine hK.out _ _ ?_ (fun hHeld => ?_)
   ·(try dsimp only); exact hHeld
   clear hK K
   try simp only [Act.put, sL]
   refine wpAnyH_take (i := 3) (v := ?_) rfl (by kernel_rfl) (by kernel_rfl) (by kernel_rfl) (fun _ _ _ h => h) (Or.inl ⟨by rfl, ?_⟩) (by assumption) ?_
   rotate_left
   ·intro w' hSw; (try dsimp only at hSw); go_simp; try with_reducible rfl
   try simp only [Act.put, sL]
   refine wpAnyH_take (i := 6) (v := ?_) rfl (by kernel_rfl) (by kernel_rfl) (by kernel_rfl) (fun _ _ _ h => h) (Or.inl ⟨by rfl, ?_⟩) (by assumption) ?_
   rotate_left
   ·intro w' hSw; (try dsimp only at hSw); go_simp; try with_reducible rfl
   try simp only [Act.put, sL]
   refine wpAnyH_ready (rs := [7]) (by kernel_rfl) (by simp) ?_
   refine AllReadyH.cons rfl (fun K hK => ?_) AllReadyH.nil
   go_simp
   skip
   try go_simp
   refine hK.out _ _ ?_ (fun hHeld => ?_)
   ·(try dsimp only); exact HSS.out _ (Fr.drew (Fr.alloc (Fr.refl (fun _ => False) W) _))
   clear hK K
   try simp only [Act.put, sL]
   refine wpAnyH_ready (rs := [8]) (by kernel_rfl) (by simp) ?_
   refine AllReadyH.cons rfl (fun K hK => ?_) AllReadyH.nil
   go_simp
   skip
   try go_simp
   refine hK.out _ _ ?_ (fun hHeld => ?_)
   ·(try dsimp only); exact HSS.out _ (Fr.drew (Fr.alloc (Fr.refl (fun _ => False) W) _))
   clear hK K
   try simp only [Act.put, sL]
   refine wpAnyH_done (by kernel_rfl) ?_ _
   go_wp2_with fail
   go_meet
   exact ⟨W.heap.size, rfl, Nat.le_refl _, heap_alloc_at _ _, Fr.drew (Fr.alloc (Fr.refl (fun _ => False) W) _)⟩
  ·go_simp
   skip
   try go_simp
   refine hK.out _ _ ?_ (fun hHeld => ?_)
   ·(try dsimp only); exact HSS.out _ (Fr.drew (Fr.alloc (Fr.refl (fun _ => False) W) _))
   clear hK K
   try simp only [Act.put, sL]
   refine wpAnyH_ready (rs := [2]) (by kernel_rfl) (by simp) ?_
   refine AllReadyH.cons rfl (fun K hK => ?_) AllReadyH.nil
   go_simp
   refine (HP1.out _).mono ?_
   rintro e x2 ⟨rfl, rfl⟩
   try go_simp
   refine hK.out _ _ ?_ (fun hHeld => ?_)
   ·(try dsimp only); exact hHeld
   clear hK K
   try simp only [Act.put, sL]
   refine wpAnyH_take (i := 3) (v := ?_) rfl (by kernel_rfl) (by kernel_rfl) (by kernel_rfl) (fun _ _ _ h => h) (Or.inl ⟨by rfl, ?_⟩) (by assumption) ?_
   rotate_left
   ·intro w' hSw; (try dsimp only at hSw); go_simp; try with_reducible rfl
   try simp only [Act.put, sL]
   refine wpAnyH_take (i := 6) (v := ?_) rfl (by kernel_rfl) (by kernel_rfl) (by kernel_rfl) (fun _ _ _ h => h) (Or.inl ⟨by rfl, ?_⟩) (by assumption) ?_
   rotate_left
   ·intro w' hSw; (try dsimp only at hSw); go_simp; try with_reducible rfl
   try simp only [Act.put, sL]
   refine wpAnyH_ready (rs := [8]) (by kernel_rfl) (by simp) ?_
   refine AllReadyH.cons rfl (fun K hK => ?_) AllReadyH.nil
   go_simp
   skip
   try go_simp
   refine hK.out _ _ ?_ (fun hHeld => ?_)
   ·(try dsimp only); exact HSS.out _ (Fr.drew (Fr.alloc (Fr.refl (fun _ => False) W) _))
   clear hK K
   try simp only [Act.put, sL]
   refine wpAnyH_done (by kernel_rfl) ?_ _
   go_wp2_with fail
   go_meet
   exact ⟨W.heap.size, rfl, Nat.le_refl _, heap_alloc_at _ _, Fr.drew (Fr.alloc (Fr.refl (fun _ => False) W) _)⟩
 case rest =>
 obtain ⟨y, rfl, hyn, hy, f1⟩ := hcut
 have HY := Lib.hid hy; have F1 := Lib.hid f1; have HYn := Lib.hid hyn
 clear hy f1 hyn hw1 hw1' k1
 have y0 := (cell_of HY.out 0).trans (show _ = some (Value.int .i64 ki) from rfl)
 obtain ⟨c0, hc0⟩ : ∃ c, hasId ki = c := ⟨_, rfl⟩
 obtain ⟨c1, hc1⟩ : ∃ c, hasSeat ki = c := ⟨_, rfl⟩
 obtain ⟨c2, hc2⟩ : ∃ c, hasTtl ki = c := ⟨_, rfl⟩
 have HHas := Lib.hid (has_ok ki wc)
 rw [hc0, hc1, hc2] at HHas
 clear hc0 hc1 hc2
 go_upto_region 2 with fail
 go_wp2_with fail
 refine HHas.out.mono ?_
 rintro e x2 ⟨rfl, rfl⟩
 clear y0
 go_upto_if 21 with fail
 go_cut [3] (fun s3 wx => s3 = .pointer (some ⟨y, 0, none⟩) ∧ ∃ id : Nat, id < 4294967296 ∧ wx.heap[y]? = some (rqO ⟨ki, a.tag, id, 0, 0⟩) ∧ Fr (fun _ => False) W wx)
 case first =>
  cases c0 with
  | false =>
   go_wp2_with fail
   go_meet
   exact ⟨rfl, 0, by decide, HY.out, F1.out⟩
  | true =>
   have gz := F1.out.get HG.out.1 (fun h => h)
   have d1 := (cell_of gz 1).trans (show _ = some (Value.int .i64 a.id) from rfl)
   have p2 := (cell_of HY.out 2).trans (show _ = some (Value.int .u32 0) from rfl)
   have v2 := free_of HY.out 2
   clear gz
   go_wp2_with fail
   refine (HP2.out _).mono ?_
   rintro e x3 ⟨rfl, rfl⟩
   go_wp2_with fail
   go_meet
   exact ⟨rfl, iv, HIv.out, (setCell_blk (o := 2) HY.out _).trans rfl, ((F1.out.mono (fun _ _ h => h.elim) : Fr (fun q => W.heap.size ≤ q) W wc).setCell (p := ⟨y, 2, none⟩) (fun _ => HYn.out) _).toNew⟩
 case rest =>
 obtain ⟨rfl, id, hid, hy, f1⟩ := hcut
 have HId := Lib.hid hid; have HY2 := Lib.hid hy; have F2 := Lib.hid f1
 clear hid hy f1
 go_upto_if 27 with fail
 go_cut [3] (fun s3 wx => s3 = .pointer (some ⟨y, 0, none⟩) ∧ ∃ st : Int, wx.heap[y]? = some (rqO ⟨ki, a.tag, id, st, 0⟩) ∧ Fr (fun _ => False) W wx)
 case first =>
  cases c1 with
  | false =>
   go_wp2_with fail
   go_meet
   exact ⟨rfl, 0, HY2.out, F2.out⟩
  | true =>
   have gz := F2.out.get HG.out.1 (fun h => h)
   have d1 := (cell_of gz 2).trans (show _ = some (Value.int .i64 a.seat) from rfl)
   have p2 := (cell_of HY2.out 3).trans (show _ = some (Value.int .i64 0) from rfl)
   have v2 := free_of HY2.out 3
   clear gz
   go_wp2_with fail
   refine (HP3.out _).mono ?_
   rintro e x3 ⟨rfl, rfl⟩
   go_wp2_with fail
   go_meet
   exact ⟨rfl, sv, (setCell_blk (o := 3) HY2.out _).trans rfl, ((F2.out.mono (fun _ _ h => h.elim) : Fr (fun q => W.heap.size ≤ q) W wc).setCell (p := ⟨y, 3, none⟩) (fun _ => HYn.out) _).toNew⟩
 case rest =>
 obtain ⟨rfl, st, hy, f1⟩ := hcut
 have HY3 := Lib.hid hy; have F3 := Lib.hid f1
 clear hy f1
 go_upto_if 32 with fail
 go_cut [3] (fun s3 wx => s3 = .pointer (some ⟨y, 0, none⟩) ∧ ∃ tl : Int, wx.heap[y]? = some (rqO ⟨ki, a.tag, id, st, tl⟩) ∧ Fr (fun _ => False) W wx)
 case first =>
  cases c2 with
  | false =>
   go_wp2_with fail
   go_meet
   exact ⟨rfl, 0, HY3.out, F3.out⟩
  | true =>
   have gz := F3.out.get HG.out.1 (fun h => h)
   have d1 := (cell_of gz 3).trans (show _ = some (Value.int .i64 a.ttl) from rfl)
   have p2 := (cell_of HY3.out 4).trans (show _ = some (Value.int .i64 0) from rfl)
   have v2 := free_of HY3.out 4
   clear gz
   go_wp2_with fail
   refine (HP4.out _).mono ?_
   rintro e x3 ⟨rfl, rfl⟩
   go_wp2_with fail
   go_meet
   exact ⟨rfl, tv, (setCell_blk (o := 4) HY3.out _).trans rfl, ((F3.out.mono (fun _ _ h => h.elim) : Fr (fun q => W.heap.size ≤ q) W wc).setCell (p := ⟨y, 4, none⟩) (fun _ => HYn.out) _).toNew⟩
 case rest =>
 obtain ⟨rfl, tl, hy, f1⟩ := hcut
 obtain ⟨q, hq⟩ : ∃ q : Rq, q = ⟨ki, a.tag, id, st, tl⟩ := ⟨_, rfl⟩
 rw [← hq] at hy
 have Hq := Lib.hid (show q.id < 4294967296 ∧ q.tag < 4294967296 by rw [hq]; exact ⟨HId.out, HTg.out⟩)
 have hz1 := f1.get HG.out.2 (fun h => h)
 have hfin := setCell_blk (o := 4) (setCell_blk (o := 3) (setCell_blk (o := 2) (setCell_blk (o := 1) (setCell_blk (o := 0) hz1 (.int .i64 q.kind)) (.int .u32 (q.tag : Int))) (.int .u32 (q.id : Int))) (.int .i64 q.seat)) (.int .i64 q.ttl)
 have HEs := Lib.hid (And.intro ((cell_of hfin 0).trans (show _ = some (Value.int .i64 q.kind) from rfl)) (And.intro ((cell_of hfin 1).trans (show _ = some (Value.int .u32 (q.tag : Int)) from rfl)) (And.intro ((cell_of hfin 2).trans (show _ = some (Value.int .u32 (q.id : Int)) from rfl)) (And.intro ((cell_of hfin 3).trans (show _ = some (Value.int .i64 q.seat) from rfl)) ((cell_of hfin 4).trans (show _ = some (Value.int .i64 q.ttl) from rfl))))))
 have FF := Lib.hid (show Fr (fun _ => False) w (((((wc.setCell ⟨z + 1, 0, none⟩ (.int .i64 q.kind)).setCell ⟨z + 1, 1, none⟩ (.int .u32 (q.tag : Int))).setCell ⟨z + 1, 2, none⟩ (.int .u32 (q.id : Int))).setCell ⟨z + 1, 3, none⟩ (.int .i64 q.seat)).setCell ⟨z + 1, 4, none⟩ (.int .i64 q.ttl)) from
  ((((((((F0.out.trans f1 (fun _ _ h => h)).mono (fun _ _ h => h.elim) : Fr (fun q => w.heap.size ≤ q) w wc).setCell (p := ⟨z + 1, 0, none⟩) (fun _ => by have := Hz.out; show w.heap.size ≤ z + 1; omega) _).setCell (p := ⟨z + 1, 1, none⟩) (fun _ => by have := Hz.out; show w.heap.size ≤ z + 1; omega) _).setCell (p := ⟨z + 1, 2, none⟩) (fun _ => by have := Hz.out; show w.heap.size ≤ z + 1; omega) _).setCell (p := ⟨z + 1, 3, none⟩) (fun _ => by have := Hz.out; show w.heap.size ≤ z + 1; omega) _).setCell (p := ⟨z + 1, 4, none⟩) (fun _ => by have := Hz.out; show w.heap.size ≤ z + 1; omega) _)).toNew)
 have p0 := (cell_of hy 0).trans (show _ = some (Value.int .i64 q.kind) from rfl)
 have p1 := (cell_of hy 1).trans (show _ = some (Value.int .u32 (q.tag : Int)) from rfl)
 have p2 := (cell_of hy 2).trans (show _ = some (Value.int .u32 (q.id : Int)) from rfl)
 have p3 := (cell_of hy 3).trans (show _ = some (Value.int .i64 q.seat) from rfl)
 have p4 := (cell_of hy 4).trans (show _ = some (Value.int .i64 q.ttl) from rfl)
 have s0 := (cell_of hz1 0).trans (show _ = some (Value.int .i64 0) from rfl)
 have t0 := free_of hz1 0
 have s1 := (cell_of hz1 1).trans (show _ = some (Value.int .u32 0) from rfl)
 have t1 := free_of hz1 1
 have s2 := (cell_of hz1 2).trans (show _ = some (Value.int .u32 0) from rfl)
 have t2 := free_of hz1 2
 have s3 := (cell_of hz1 3).trans (show _ = some (Value.int .i64 0) from rfl)
 have t3 := free_of hz1 3
 have s4 := (cell_of hz1 4).trans (show _ = some (Value.int .i64 0) from rfl)
 have t4 := free_of hz1 4
 clear hy hz1 hfin f1 hq i2
 go_wp2_with fail
 refine bodyPost_ret (v := rqV q) ?_ rfl ⟨q, rfl, Hq.out.1, Hq.out.2, FF.out⟩
 simp [results, Tryz.f32, go_sem, HEs.out.1, HEs.out.2.1, HEs.out.2.2.1, HEs.out.2.2.2.1, HEs.out.2.2.2.2]
end Go.Proofs.YtebdcahjlcgonaaGreat.Cs
namespace Go.Proofs.YtebdcahjlcgonaaGreat.Cs
open Go.RowKit Go.Shelf Go.Proofs.YtebdcahjlcgonaaGreat.Bk
attribute [local go_sem] Oper.semAt_some
theorem firstE_app (l : List Nat) (e : Nat) : firstE (l ++ [e]) = if firstE l = 0 then e else firstE l := by
 induction l with
 | nil => by_cases h : e = 0 <;> simp [firstE, h]
 | cons a l ih =>
  rw [List.cons_append]
  unfold firstE
  by_cases h : a = 0
  ·rw [if_pos h, if_pos h, ih]
  ·rw [if_neg h, if_neg h, if_neg h]
theorem refE_room (b : Bk) (q : Rq) (hc : isCh q.kind = true) : (1 ≤ (recOf b q).kind ∧ (recOf b q).kind ≤ 5) ∧ ∃ pe : Nat, ∀ room, refE b room q = if pe = 0 then eFits (recOf b q).kind room else pe := by
 have hk : q.kind = 1 ∨ q.kind = 2 ∨ q.kind = 3 ∨ q.kind = 4 ∨ q.kind = 7 := by unfold isCh at hc; simpa using hc
 rcases hk with hk | hk | hk | hk | hk
 ·have e : (recOf b q).kind = 1 := by unfold recOf; rw [hk]; rfl
  rw [e]
  exact ⟨by omega, firstE [eSeat b q, eTtl q, eClock b q, eTaken b q, eFull b], fun room => by unfold refE; rw [hk]; exact firstE_app [eSeat b q, eTtl q, eClock b q, eTaken b q, eFull b] (eFits 1 room)⟩
 ·have e : (recOf b q).kind = 2 := by unfold recOf; rw [hk]; rfl
  rw [e]
  exact ⟨by omega, firstE [eKnown b q], fun room => by unfold refE; rw [hk]; exact firstE_app [eKnown b q] (eFits 2 room)⟩
 ·have e : (recOf b q).kind = 3 := by unfold recOf; rw [hk]; rfl
  rw [e]
  exact ⟨by omega, firstE [eKnown b q], fun room => by unfold refE; rw [hk]; exact firstE_app [eKnown b q] (eFits 3 room)⟩
 ·have e : (recOf b q).kind = 4 := by unfold recOf; rw [hk]; rfl
  rw [e]
  exact ⟨by omega, firstE [eKnown b q, eSeat b q, eTaken b q], fun room => by unfold refE; rw [hk]; exact firstE_app [eKnown b q, eSeat b q, eTaken b q] (eFits 4 room)⟩
 ·have e : (recOf b q).kind = 5 := by unfold recOf; rw [hk]; rfl
  rw [e]
  exact ⟨by omega, firstE [eTtl q, eClock b q], fun room => by unfold refE; rw [hk]; exact firstE_app [eTtl q, eClock b q] (eFits 5 room)⟩
theorem room_cases (b : Bk) (q : Rq) (room : Int) : (∃ r x e, decD b 1073741824 q = ⟨r, x, false, e⟩ ∧ decD b room q = ⟨r, x, false, e⟩) ∨
  (∃ r x, decD b 1073741824 q = ⟨r, x, true, 0⟩ ∧ (1 ≤ r.kind ∧ r.kind ≤ 5) ∧ 22 + rSize r.kind ≤ room ∧ decD b room q = ⟨r, x, true, 0⟩) ∨
  (∃ r x, decD b 1073741824 q = ⟨r, x, true, 0⟩ ∧ (1 ≤ r.kind ∧ r.kind ≤ 5) ∧ room < 22 + rSize r.kind ∧ decD b room q = ⟨rc0, ⟨q.tag, q.kind, 220, 0, 0, 0, 0⟩, false, 0⟩) := by
 by_cases hb : (rqOk q && isCh q.kind) = false
 ·left
  exact ⟨rc0, rp0, 200, if_pos hb, if_pos hb⟩
 ·have hc : isCh q.kind = true := by simp at hb; exact hb.2
  obtain ⟨hk, pe, hp⟩ := refE_room b q hc
  have hr := rSize_le (recOf b q).kind
  have e1 : eFits (recOf b q).kind 1073741824 = 0 := if_neg (by omega)
  have d1 := hp 1073741824
  have d2 := hp room
  rw [e1] at d1
  by_cases h0 : pe = 0
  ·rw [if_pos h0] at d1 d2
   right
   have D1 : decD b 1073741824 q = ⟨recOf b q, repOf q (recOf b q), true, 0⟩ := by unfold decD; rw [if_neg hb, if_pos d1]
   by_cases hf : room < 22 + rSize (recOf b q).kind
   ·right
    have e2 : eFits (recOf b q).kind room = 220 := if_pos hf
    rw [e2] at d2
    exact ⟨_, _, D1, hk, hf, by unfold decD; rw [if_neg hb, if_neg (by rw [d2]; decide), d2]; rfl⟩
   ·left
    have e2 : eFits (recOf b q).kind room = 0 := if_neg hf
    rw [e2] at d2
    exact ⟨_, _, D1, hk, by omega, by unfold decD; rw [if_neg hb, if_pos d2]⟩
  ·left
   rw [if_neg h0] at d1 d2
   exact ⟨rc0, ⟨q.tag, q.kind, (pe : Nat), 0, 0, 0, 0⟩, 0, by unfold decD; rw [if_neg hb, if_neg (by rw [d1]; exact h0), d1], by unfold decD; rw [if_neg hb, if_neg (by rw [d2]; exact h0), d2]⟩
set_option maxRecDepth 100000 in
set_option maxHeartbeats 8000000 in
theorem room_walk {w : World} {sh : Int} (hsh : I64 sh) {v : Value} {K : Nat → Nat → Int} {n : Nat} (hK : KindsAt w v 4 kI K n) (nx : Nat) (hnx : nx < 4294967296) (cl : Int) (room : Int) (a : Askd) (ha : AskOk a) :
  Calls Tryz.prog 6 #[flV sh v nx cl, .int .i64 room, akV a] w fun e w' => e = .returned (.bool true) ∧ Fr (fun _ => False) w w' := by
 obtain ⟨la, lc, rfl, hlc, -⟩ := id hK
 obtain ⟨W1, hW1⟩ : ∃ W, W = w.alloc (.cells #[.int .i64 sh, .slice la n lc, .int .u32 (nx : Int), .int .i64 cl] 82) := ⟨_, rfl⟩
 obtain ⟨W, hW⟩ : ∃ W, W = W1.alloc (.cells #[.int .i64 a.kind, .int .i64 a.id, .int .i64 a.seat, .int .i64 a.ttl, .int .u32 (a.tag : Int)] 84) := ⟨_, rfl⟩
 obtain ⟨z, hz⟩ : ∃ z, z = w.heap.size := ⟨_, rfl⟩
 have s1 : W1.heap.size = z + 1 := by rw [hW1, hz]; simp
 have a1 : Fr (fun _ => False) w W1 := by rw [hW1]; exact Fr.alloc (Fr.refl _ _) _
 have a2 : Fr (fun _ => False) W1 W := by rw [hW]; exact Fr.alloc (Fr.refl _ _) _
 have f0 : Fr (fun _ => False) w W := a1.trans a2 (fun _ _ h => h)
 have hg : W.heap[z]? = some (.cells #[.int .i64 sh, .slice la n lc, .int .u32 (nx : Int), .int .i64 cl] 82 (0, 0)) := a2.get (show W1.heap[z]? = _ by rw [hW1, hz]; exact heap_alloc_at _ _) (fun h => h)
 have hg1 : W.heap[z + 1]? = some (.cells #[.int .i64 a.kind, .int .i64 a.id, .int .i64 a.seat, .int .i64 a.ttl, .int .u32 (a.tag : Int)] 84 (0, 0)) := show W.heap[z + 1]? = _ by rw [hW, ← s1]; exact heap_alloc_at _ _
 have HBooks := Lib.hid (books_ok (w := W) hsh (hK.fr f0 (fun _ _ h => h) (by omega)) nx hnx cl)
 have HReq := Lib.hid (fun (V : World) => request_ok a ha V)
 have d0 := (cell_of hg 0).trans (show _ = some (Value.int .i64 sh) from rfl)
 have d1 := (cell_of hg 1).trans (show _ = some (Value.slice la n lc) from rfl)
 have d2 := (cell_of hg 2).trans (show _ = some (Value.int .u32 (nx : Int)) from rfl)
 have d3 := (cell_of hg 3).trans (show _ = some (Value.int .i64 cl) from rfl)
 have HG1 := Lib.hid hg1; have F0 := Lib.hid f0; have HW1 := Lib.hid hW1; have HW := Lib.hid hW; have Hz := Lib.hid hz; have Hs1 := Lib.hid s1
 clear hsh hK hnx ha f0 hg hg1 a1 a2 s1 hW1 hW hz hlc
 go_enter Tryz.func6, Tryz.ntmps6
 go_upto_region 1 with fail
 rw [← HW1.out, ← HW.out, ← Hz.out]
 try rw [Hs1.out]
 go_wp2_with fail
 refine HBooks.out.mono ?_
 rintro e x1 ⟨p, bb, wb, vr, b, rfl, hok, hgr, hB, hR, hn, hwb, hvb, f1⟩
 have S1 := Lib.hid (((St.zero (W := W) (V := W) (B := fun _ => 0) (M := fun _ => b) (Fr.refl _ _) (Keep.nil W)).add (b := b) hB (fun y hy => (hn y hy).1) f1).names (B' := fun _ => bb) (M' := fun _ => b) (upd_one _ _) (upd_one _ _))
 have gA := f1.get HG1.out (fun h => h)
 clear hok hgr hB hR hn hwb hvb f1 d0 d1 d2 d3
 have k0 := (cell_of gA 0).trans (show _ = some (Value.int .i64 a.kind) from rfl)
 have k1 := (cell_of gA 1).trans (show _ = some (Value.int .i64 a.id) from rfl)
 have k2 := (cell_of gA 2).trans (show _ = some (Value.int .i64 a.seat) from rfl)
 have k3 := (cell_of gA 3).trans (show _ = some (Value.int .i64 a.ttl) from rfl)
 have k4 := (cell_of gA 4).trans (show _ = some (Value.int .u32 (a.tag : Int)) from rfl)
 go_wp2_with fail
 refine (HReq.out _).mono ?_
 rintro e x2 ⟨q, rfl, hid, htg, f2⟩
 have S2 := Lib.hid (S1.out.quiet f2)
 have Hid := Lib.hid hid
 clear hid htg f2 gA k0 k1 k2 k3 k4
 obtain ⟨V2, hV2⟩ : ∃ V, V = x2.alloc (rqC q) := ⟨_, rfl⟩
 obtain ⟨c2, hc2⟩ : ∃ c, c = x2.heap.size := ⟨_, rfl⟩
 have S3 := Lib.hid (S2.out.alloc #[.int .i64 q.kind, .int .u32 (q.tag : Int), .int .u32 (q.id : Int), .int .i64 q.seat, .int .i64 q.ttl] 61)
 rw [← hV2, ← hc2] at S3
 have HV2 := Lib.hid hV2; have Hc2 := Lib.hid hc2
 clear hV2 hc2
 go_upto_region 5 with fail
 rw [← HV2.out, ← Hc2.out]
 have gq := S3.out.get (a := c2) (o := rqO q) List.mem_cons_self
 have q0 := (cell_of gq 0).trans (show _ = some (Value.int .i64 q.kind) from rfl)
 have q1 := (cell_of gq 1).trans (show _ = some (Value.int .u32 (q.tag : Int)) from rfl)
 have q2 := (cell_of gq 2).trans (show _ = some (Value.int .u32 (q.id : Int)) from rfl)
 have q3 := (cell_of gq 3).trans (show _ = some (Value.int .i64 q.seat) from rfl)
 have q4 := (cell_of gq 4).trans (show _ = some (Value.int .i64 q.ttl) from rfl)
 clear gq
 obtain ⟨pp5, hB5, -, hS5, -⟩ := S3.out.at_ (i := 0) (by omega)
 have HS5 := Lib.hid hS5; have HB5 := Lib.hid hB5
 clear hS5 hB5
 obtain ⟨da, hda⟩ : ∃ d, d = decD b 1073741824 q := ⟨_, rfl⟩
 have Hda := Lib.hid hda
 have HC5 := Lib.hid (decide_ok (b := b) (bb := bb) HB5.out q 1073741824 Hid.out)
 rw [← hda] at HC5
 clear hda
 go_wp2_with fail
 refine HC5.out.mono ?_
 rintro e y5 ⟨rfl, a5⟩
 have T5 := Lib.hid (HS5.out y5 a5)
 clear a5 q0 q1 q2 q3 q4
 obtain ⟨U5, hU5⟩ : ∃ V, V = y5.alloc (.cells #[.int .i64 da.r.kind, .int .u32 (da.r.id : Int), .int .i64 da.r.seat, .int .i64 da.r.till, .int .i64 da.r.clock] 46) := ⟨_, rfl⟩
 obtain ⟨e5, he5⟩ : ∃ c, c = y5.heap.size := ⟨_, rfl⟩
 obtain ⟨V5, hV5⟩ : ∃ V, V = U5.alloc (.cells #[.int .u32 (da.x.tag : Int), .int .i64 da.x.kind, .int .i64 da.x.err, .int .u32 (da.x.id : Int), .int .i64 da.x.seat, .int .i64 da.x.till, .int .i64 da.x.count] 63) := ⟨_, rfl⟩
 have s5 : U5.heap.size = e5 + 1 := by rw [hU5, he5]; simp
 have X5 := Lib.hid ((T5.out.alloc #[.int .i64 da.r.kind, .int .u32 (da.r.id : Int), .int .i64 da.r.seat, .int .i64 da.r.till, .int .i64 da.r.clock] 46).alloc #[.int .u32 (da.x.tag : Int), .int .i64 da.x.kind, .int .i64 da.x.err, .int .u32 (da.x.id : Int), .int .i64 da.x.seat, .int .i64 da.x.till, .int .i64 da.x.count] 63)
 rw [← hU5, ← hV5, ← he5, s5] at X5
 have HU5 := Lib.hid hU5; have HV5 := Lib.hid hV5; have He5 := Lib.hid he5; have Hs5 := Lib.hid s5
 clear hU5 hV5 he5 s5
 go_upto_region 6 with fail
 rw [← HU5.out, ← HV5.out, ← He5.out]
 try rw [Hs5.out]
 have gq := X5.out.get (a := c2) (o := rqO q) (List.mem_cons_of_mem _ (List.mem_cons_of_mem _ List.mem_cons_self))
 have q0 := (cell_of gq 0).trans (show _ = some (Value.int .i64 q.kind) from rfl)
 have q1 := (cell_of gq 1).trans (show _ = some (Value.int .u32 (q.tag : Int)) from rfl)
 have q2 := (cell_of gq 2).trans (show _ = some (Value.int .u32 (q.id : Int)) from rfl)
 have q3 := (cell_of gq 3).trans (show _ = some (Value.int .i64 q.seat) from rfl)
 have q4 := (cell_of gq 4).trans (show _ = some (Value.int .i64 q.ttl) from rfl)
 clear gq
 obtain ⟨pp6, hB6, -, hS6, -⟩ := X5.out.at_ (i := 0) (by omega)
 have HS6 := Lib.hid hS6; have HB6 := Lib.hid hB6
 clear hS6 hB6
 obtain ⟨db, hdb⟩ : ∃ d, d = decD b room q := ⟨_, rfl⟩
 have Hdb := Lib.hid hdb
 have HC6 := Lib.hid (decide_ok (b := b) (bb := bb) HB6.out q room Hid.out)
 rw [← hdb] at HC6
 clear hdb
 go_wp2_with fail
 refine HC6.out.mono ?_
 rintro e y6 ⟨rfl, a6⟩
 have T6 := Lib.hid (HS6.out y6 a6)
 clear a6 q0 q1 q2 q3 q4
 obtain ⟨U6, hU6⟩ : ∃ V, V = y6.alloc (.cells #[.int .i64 db.r.kind, .int .u32 (db.r.id : Int), .int .i64 db.r.seat, .int .i64 db.r.till, .int .i64 db.r.clock] 46) := ⟨_, rfl⟩
 obtain ⟨e6, he6⟩ : ∃ c, c = y6.heap.size := ⟨_, rfl⟩
 obtain ⟨V6, hV6⟩ : ∃ V, V = U6.alloc (.cells #[.int .u32 (db.x.tag : Int), .int .i64 db.x.kind, .int .i64 db.x.err, .int .u32 (db.x.id : Int), .int .i64 db.x.seat, .int .i64 db.x.till, .int .i64 db.x.count] 63) := ⟨_, rfl⟩
 have s6 : U6.heap.size = e6 + 1 := by rw [hU6, he6]; simp
 have X6 := Lib.hid ((T6.out.alloc #[.int .i64 db.r.kind, .int .u32 (db.r.id : Int), .int .i64 db.r.seat, .int .i64 db.r.till, .int .i64 db.r.clock] 46).alloc #[.int .u32 (db.x.tag : Int), .int .i64 db.x.kind, .int .i64 db.x.err, .int .u32 (db.x.id : Int), .int .i64 db.x.seat, .int .i64 db.x.till, .int .i64 db.x.count] 63)
 rw [← hU6, ← hV6, ← he6, s6] at X6
 have HU6 := Lib.hid hU6; have HV6 := Lib.hid hV6; have He6 := Lib.hid he6; have Hs6 := Lib.hid s6
 clear hU6 hV6 he6 s6
 go_upto_region 7 with fail
 rw [← HU6.out, ← HV6.out, ← He6.out]
 try rw [Hs6.out]
 rcases room_cases b q room with ⟨r, x, er, h1, h2⟩ | ⟨r, x, h1, hk, hr, h2⟩ | ⟨r, x, h1, hk, hr, h2⟩
 ·have ea : da = ⟨r, x, false, er⟩ := Hda.out.trans h1
  have eb : db = ⟨r, x, false, er⟩ := Hdb.out.trans h2
  subst ea; subst eb
  simp only at X6 ⊢
  clear h1 h2
  have b1 : ((er : Int) != (er : Int)) = false := by simp
  have gm := X6.out.get (a := e5 + 1) (o := .cells #[.int .u32 (x.tag : Int), .int .i64 x.kind, .int .i64 x.err, .int .u32 (x.id : Int), .int .i64 x.seat, .int .i64 x.till, .int .i64 x.count] 63 (0, 0)) (List.mem_cons_of_mem _ (List.mem_cons_of_mem _ List.mem_cons_self))
  have m0 := (cell_of gm 0).trans (show _ = some (Value.int .u32 (x.tag : Int)) from rfl)
  have m1 := (cell_of gm 1).trans (show _ = some (Value.int .i64 x.kind) from rfl)
  have m2 := (cell_of gm 2).trans (show _ = some (Value.int .i64 x.err) from rfl)
  have m3 := (cell_of gm 3).trans (show _ = some (Value.int .u32 (x.id : Int)) from rfl)
  have m4 := (cell_of gm 4).trans (show _ = some (Value.int .i64 x.seat) from rfl)
  have m5 := (cell_of gm 5).trans (show _ = some (Value.int .i64 x.till) from rfl)
  have m6 := (cell_of gm 6).trans (show _ = some (Value.int .i64 x.count) from rfl)
  clear gm
  have go := X6.out.get (a := e6 + 1) (o := .cells #[.int .u32 (x.tag : Int), .int .i64 x.kind, .int .i64 x.err, .int .u32 (x.id : Int), .int .i64 x.seat, .int .i64 x.till, .int .i64 x.count] 63 (0, 0)) List.mem_cons_self
  have o0 := (cell_of go 0).trans (show _ = some (Value.int .u32 (x.tag : Int)) from rfl)
  have o1 := (cell_of go 1).trans (show _ = some (Value.int .i64 x.kind) from rfl)
  have o2 := (cell_of go 2).trans (show _ = some (Value.int .i64 x.err) from rfl)
  have o3 := (cell_of go 3).trans (show _ = some (Value.int .u32 (x.id : Int)) from rfl)
  have o4 := (cell_of go 4).trans (show _ = some (Value.int .i64 x.seat) from rfl)
  have o5 := (cell_of go 5).trans (show _ = some (Value.int .i64 x.till) from rfl)
  have o6 := (cell_of go 6).trans (show _ = some (Value.int .i64 x.count) from rfl)
  clear go
  have gj := X6.out.get (a := e5) (o := .cells #[.int .i64 r.kind, .int .u32 (r.id : Int), .int .i64 r.seat, .int .i64 r.till, .int .i64 r.clock] 46 (0, 0)) (List.mem_cons_of_mem _ (List.mem_cons_of_mem _ (List.mem_cons_of_mem _ List.mem_cons_self)))
  have j0 := (cell_of gj 0).trans (show _ = some (Value.int .i64 r.kind) from rfl)
  have j1 := (cell_of gj 1).trans (show _ = some (Value.int .u32 (r.id : Int)) from rfl)
  have j2 := (cell_of gj 2).trans (show _ = some (Value.int .i64 r.seat) from rfl)
  have j3 := (cell_of gj 3).trans (show _ = some (Value.int .i64 r.till) from rfl)
  have j4 := (cell_of gj 4).trans (show _ = some (Value.int .i64 r.clock) from rfl)
  clear gj
  have gl := X6.out.get (a := e6) (o := .cells #[.int .i64 r.kind, .int .u32 (r.id : Int), .int .i64 r.seat, .int .i64 r.till, .int .i64 r.clock] 46 (0, 0)) (List.mem_cons_of_mem _ List.mem_cons_self)
  have l0 := (cell_of gl 0).trans (show _ = some (Value.int .i64 r.kind) from rfl)
  have l1 := (cell_of gl 1).trans (show _ = some (Value.int .u32 (r.id : Int)) from rfl)
  have l2 := (cell_of gl 2).trans (show _ = some (Value.int .i64 r.seat) from rfl)
  have l3 := (cell_of gl 3).trans (show _ = some (Value.int .i64 r.till) from rfl)
  have l4 := (cell_of gl 4).trans (show _ = some (Value.int .i64 r.clock) from rfl)
  clear gl
  have E1 : ∀ V : World, (binOp .eql 46 (.agg #[.int .i64 r.kind, .int .u32 (r.id : Int), .int .i64 r.seat, .int .i64 r.till, .int .i64 r.clock]) (.agg #[.int .i64 r.kind, .int .u32 (r.id : Int), .int .i64 r.seat, .int .i64 r.till, .int .i64 r.clock])).run Tryz.prog V = .ok (.bool true) V := fun V => eqlRc V r
  have E2 : ∀ V : World, (binOp .eql 63 (.agg #[.int .u32 (x.tag : Int), .int .i64 x.kind, .int .i64 x.err, .int .u32 (x.id : Int), .int .i64 x.seat, .int .i64 x.till, .int .i64 x.count]) (.agg #[.int .u32 (x.tag : Int), .int .i64 x.kind, .int .i64 x.err, .int .u32 (x.id : Int), .int .i64 x.seat, .int .i64 x.till, .int .i64 x.count])).run Tryz.prog V = .ok (.bool true) V := fun V => eqlRp V x
  by_cases h0 : er = 0
  ·have b2 : ((er : Int) != 0) = false := by simp [h0]
   clear h0
   go_wp2_with fail
   refine (awake_ok _).mono ?_
   rintro e x9 ⟨rfl, f9⟩
   have F9 := Lib.hid (F0.out.trans (X6.out.fr.trans f9 (fun _ _ h => h)) (fun _ _ h => h))
   clear f9
   go_wp2_with fail
   go_ret
   exact ⟨rfl, F9.out⟩
  ·have b2 : ((er : Int) != 0) = true := by simpa using h0
   clear h0
   go_wp2_with fail
   refine (awake_ok _).mono ?_
   rintro e x9 ⟨rfl, f9⟩
   have F9 := Lib.hid (F0.out.trans (X6.out.fr.trans f9 (fun _ _ h => h)) (fun _ _ h => h))
   clear f9
   go_wp2_with fail
   go_ret
   exact ⟨rfl, F9.out⟩
 ·have ea : da = ⟨r, x, true, 0⟩ := Hda.out.trans h1
  have eb : db = ⟨r, x, true, 0⟩ := Hdb.out.trans h2
  subst ea; subst eb
  simp only at X6 ⊢
  clear h1 h2
  have gm := X6.out.get (a := e5 + 1) (o := .cells #[.int .u32 (x.tag : Int), .int .i64 x.kind, .int .i64 x.err, .int .u32 (x.id : Int), .int .i64 x.seat, .int .i64 x.till, .int .i64 x.count] 63 (0, 0)) (List.mem_cons_of_mem _ (List.mem_cons_of_mem _ List.mem_cons_self))
  have m0 := (cell_of gm 0).trans (show _ = some (Value.int .u32 (x.tag : Int)) from rfl)
  have m1 := (cell_of gm 1).trans (show _ = some (Value.int .i64 x.kind) from rfl)
  have m2 := (cell_of gm 2).trans (show _ = some (Value.int .i64 x.err) from rfl)
  have m3 := (cell_of gm 3).trans (show _ = some (Value.int .u32 (x.id : Int)) from rfl)
  have m4 := (cell_of gm 4).trans (show _ = some (Value.int .i64 x.seat) from rfl)
  have m5 := (cell_of gm 5).trans (show _ = some (Value.int .i64 x.till) from rfl)
  have m6 := (cell_of gm 6).trans (show _ = some (Value.int .i64 x.count) from rfl)
  clear gm
  have go := X6.out.get (a := e6 + 1) (o := .cells #[.int .u32 (x.tag : Int), .int .i64 x.kind, .int .i64 x.err, .int .u32 (x.id : Int), .int .i64 x.seat, .int .i64 x.till, .int .i64 x.count] 63 (0, 0)) List.mem_cons_self
  have o0 := (cell_of go 0).trans (show _ = some (Value.int .u32 (x.tag : Int)) from rfl)
  have o1 := (cell_of go 1).trans (show _ = some (Value.int .i64 x.kind) from rfl)
  have o2 := (cell_of go 2).trans (show _ = some (Value.int .i64 x.err) from rfl)
  have o3 := (cell_of go 3).trans (show _ = some (Value.int .u32 (x.id : Int)) from rfl)
  have o4 := (cell_of go 4).trans (show _ = some (Value.int .i64 x.seat) from rfl)
  have o5 := (cell_of go 5).trans (show _ = some (Value.int .i64 x.till) from rfl)
  have o6 := (cell_of go 6).trans (show _ = some (Value.int .i64 x.count) from rfl)
  clear go
  have gj := X6.out.get (a := e5) (o := .cells #[.int .i64 r.kind, .int .u32 (r.id : Int), .int .i64 r.seat, .int .i64 r.till, .int .i64 r.clock] 46 (0, 0)) (List.mem_cons_of_mem _ (List.mem_cons_of_mem _ (List.mem_cons_of_mem _ List.mem_cons_self)))
  have j0 := (cell_of gj 0).trans (show _ = some (Value.int .i64 r.kind) from rfl)
  have j1 := (cell_of gj 1).trans (show _ = some (Value.int .u32 (r.id : Int)) from rfl)
  have j2 := (cell_of gj 2).trans (show _ = some (Value.int .i64 r.seat) from rfl)
  have j3 := (cell_of gj 3).trans (show _ = some (Value.int .i64 r.till) from rfl)
  have j4 := (cell_of gj 4).trans (show _ = some (Value.int .i64 r.clock) from rfl)
  clear gj
  have gl := X6.out.get (a := e6) (o := .cells #[.int .i64 r.kind, .int .u32 (r.id : Int), .int .i64 r.seat, .int .i64 r.till, .int .i64 r.clock] 46 (0, 0)) (List.mem_cons_of_mem _ List.mem_cons_self)
  have l0 := (cell_of gl 0).trans (show _ = some (Value.int .i64 r.kind) from rfl)
  have l1 := (cell_of gl 1).trans (show _ = some (Value.int .u32 (r.id : Int)) from rfl)
  have l2 := (cell_of gl 2).trans (show _ = some (Value.int .i64 r.seat) from rfl)
  have l3 := (cell_of gl 3).trans (show _ = some (Value.int .i64 r.till) from rfl)
  have l4 := (cell_of gl 4).trans (show _ = some (Value.int .i64 r.clock) from rfl)
  clear gl
  obtain ⟨sz, hsz⟩ : ∃ s, s = rSize r.kind := ⟨_, rfl⟩
  have hs2 := rSize_le r.kind
  rw [← hsz] at hr hs2
  have HSz := Lib.hid (fun (V : World) => show Calls Tryz.prog 33 #[.int .i64 r.kind] V fun e w' => e = .returned (.int .i64 sz) ∧ Fr (fun _ => False) V w' by rw [hsz]; exact rsize_ok hk V)
  obtain ⟨nd, hnd⟩ : ∃ nd, nd = 22 + sz := ⟨_, rfl⟩
  have n1 : 22 + sz = nd := hnd.symm
  have n2 : wrap64 nd = nd := by unfold wrap64; omega
  have n3 : decide (nd ≤ room) = true := by simp; omega
  clear hsz hs2 hk hr hnd
  go_wp2_with fail
  refine (HSz.out _).mono ?_
  rintro e x8 ⟨rfl, f8⟩
  have X8 := Lib.hid (X6.out.quiet f8)
  clear f8 m0 m1 m2 m3 m4 m5 m6 o0 o1 o2 o3 o4 o5 o6 j0 j1 j2 j3 j4 l0 l1 l2 l3 l4
  have gm := X8.out.get (a := e5 + 1) (o := .cells #[.int .u32 (x.tag : Int), .int .i64 x.kind, .int .i64 x.err, .int .u32 (x.id : Int), .int .i64 x.seat, .int .i64 x.till, .int .i64 x.count] 63 (0, 0)) (List.mem_cons_of_mem _ (List.mem_cons_of_mem _ List.mem_cons_self))
  have m0 := (cell_of gm 0).trans (show _ = some (Value.int .u32 (x.tag : Int)) from rfl)
  have m1 := (cell_of gm 1).trans (show _ = some (Value.int .i64 x.kind) from rfl)
  have m2 := (cell_of gm 2).trans (show _ = some (Value.int .i64 x.err) from rfl)
  have m3 := (cell_of gm 3).trans (show _ = some (Value.int .u32 (x.id : Int)) from rfl)
  have m4 := (cell_of gm 4).trans (show _ = some (Value.int .i64 x.seat) from rfl)
  have m5 := (cell_of gm 5).trans (show _ = some (Value.int .i64 x.till) from rfl)
  have m6 := (cell_of gm 6).trans (show _ = some (Value.int .i64 x.count) from rfl)
  clear gm
  have go := X8.out.get (a := e6 + 1) (o := .cells #[.int .u32 (x.tag : Int), .int .i64 x.kind, .int .i64 x.err, .int .u32 (x.id : Int), .int .i64 x.seat, .int .i64 x.till, .int .i64 x.count] 63 (0, 0)) List.mem_cons_self
  have o0 := (cell_of go 0).trans (show _ = some (Value.int .u32 (x.tag : Int)) from rfl)
  have o1 := (cell_of go 1).trans (show _ = some (Value.int .i64 x.kind) from rfl)
  have o2 := (cell_of go 2).trans (show _ = some (Value.int .i64 x.err) from rfl)
  have o3 := (cell_of go 3).trans (show _ = some (Value.int .u32 (x.id : Int)) from rfl)
  have o4 := (cell_of go 4).trans (show _ = some (Value.int .i64 x.seat) from rfl)
  have o5 := (cell_of go 5).trans (show _ = some (Value.int .i64 x.till) from rfl)
  have o6 := (cell_of go 6).trans (show _ = some (Value.int .i64 x.count) from rfl)
  clear go
  have gj := X8.out.get (a := e5) (o := .cells #[.int .i64 r.kind, .int .u32 (r.id : Int), .int .i64 r.seat, .int .i64 r.till, .int .i64 r.clock] 46 (0, 0)) (List.mem_cons_of_mem _ (List.mem_cons_of_mem _ (List.mem_cons_of_mem _ List.mem_cons_self)))
  have j0 := (cell_of gj 0).trans (show _ = some (Value.int .i64 r.kind) from rfl)
  have j1 := (cell_of gj 1).trans (show _ = some (Value.int .u32 (r.id : Int)) from rfl)
  have j2 := (cell_of gj 2).trans (show _ = some (Value.int .i64 r.seat) from rfl)
  have j3 := (cell_of gj 3).trans (show _ = some (Value.int .i64 r.till) from rfl)
  have j4 := (cell_of gj 4).trans (show _ = some (Value.int .i64 r.clock) from rfl)
  clear gj
  have gl := X8.out.get (a := e6) (o := .cells #[.int .i64 r.kind, .int .u32 (r.id : Int), .int .i64 r.seat, .int .i64 r.till, .int .i64 r.clock] 46 (0, 0)) (List.mem_cons_of_mem _ List.mem_cons_self)
  have l0 := (cell_of gl 0).trans (show _ = some (Value.int .i64 r.kind) from rfl)
  have l1 := (cell_of gl 1).trans (show _ = some (Value.int .u32 (r.id : Int)) from rfl)
  have l2 := (cell_of gl 2).trans (show _ = some (Value.int .i64 r.seat) from rfl)
  have l3 := (cell_of gl 3).trans (show _ = some (Value.int .i64 r.till) from rfl)
  have l4 := (cell_of gl 4).trans (show _ = some (Value.int .i64 r.clock) from rfl)
  clear gl
  have E1 : ∀ V : World, (binOp .neq 46 (.agg #[.int .i64 r.kind, .int .u32 (r.id : Int), .int .i64 r.seat, .int .i64 r.till, .int .i64 r.clock]) (.agg #[.int .i64 r.kind, .int .u32 (r.id : Int), .int .i64 r.seat, .int .i64 r.till, .int .i64 r.clock])).run Tryz.prog V = .ok (.bool false) V := fun V => neqRc V r
  have E2 : ∀ V : World, (binOp .neq 63 (.agg #[.int .u32 (x.tag : Int), .int .i64 x.kind, .int .i64 x.err, .int .u32 (x.id : Int), .int .i64 x.seat, .int .i64 x.till, .int .i64 x.count]) (.agg #[.int .u32 (x.tag : Int), .int .i64 x.kind, .int .i64 x.err, .int .u32 (x.id : Int), .int .i64 x.seat, .int .i64 x.till, .int .i64 x.count])).run Tryz.prog V = .ok (.bool false) V := fun V => neqRp V x
  go_wp2_with fail
  refine (awake_ok _).mono ?_
  rintro e x9 ⟨rfl, f9⟩
  have F9 := Lib.hid (F0.out.trans (X8.out.fr.trans f9 (fun _ _ h => h)) (fun _ _ h => h))
  clear f9
  go_wp2_with fail
  go_ret
  exact ⟨rfl, F9.out⟩
 ·have ea : da = ⟨r, x, true, 0⟩ := Hda.out.trans h1
  have eb : db = ⟨rc0, ⟨q.tag, q.kind, 220, 0, 0, 0, 0⟩, false, 0⟩ := Hdb.out.trans h2
  subst ea; subst eb
  simp only [rc0] at X6 ⊢
  clear h1 h2
  have gm := X6.out.get (a := e5 + 1) (o := .cells #[.int .u32 (x.tag : Int), .int .i64 x.kind, .int .i64 x.err, .int .u32 (x.id : Int), .int .i64 x.seat, .int .i64 x.till, .int .i64 x.count] 63 (0, 0)) (List.mem_cons_of_mem _ (List.mem_cons_of_mem _ List.mem_cons_self))
  have m0 := (cell_of gm 0).trans (show _ = some (Value.int .u32 (x.tag : Int)) from rfl)
  have m1 := (cell_of gm 1).trans (show _ = some (Value.int .i64 x.kind) from rfl)
  have m2 := (cell_of gm 2).trans (show _ = some (Value.int .i64 x.err) from rfl)
  have m3 := (cell_of gm 3).trans (show _ = some (Value.int .u32 (x.id : Int)) from rfl)
  have m4 := (cell_of gm 4).trans (show _ = some (Value.int .i64 x.seat) from rfl)
  have m5 := (cell_of gm 5).trans (show _ = some (Value.int .i64 x.till) from rfl)
  have m6 := (cell_of gm 6).trans (show _ = some (Value.int .i64 x.count) from rfl)
  clear gm
  have go := X6.out.get (a := e6 + 1) (o := .cells #[.int .u32 (q.tag : Int), .int .i64 q.kind, .int .i64 220, .int .u32 0, .int .i64 0, .int .i64 0, .int .i64 0] 63 (0, 0)) List.mem_cons_self
  have o0 := (cell_of go 0).trans (show _ = some (Value.int .u32 (q.tag : Int)) from rfl)
  have o1 := (cell_of go 1).trans (show _ = some (Value.int .i64 q.kind) from rfl)
  have o2 := (cell_of go 2).trans (show _ = some (Value.int .i64 220) from rfl)
  have o3 := (cell_of go 3).trans (show _ = some (Value.int .u32 0) from rfl)
  have o4 := (cell_of go 4).trans (show _ = some (Value.int .i64 0) from rfl)
  have o5 := (cell_of go 5).trans (show _ = some (Value.int .i64 0) from rfl)
  have o6 := (cell_of go 6).trans (show _ = some (Value.int .i64 0) from rfl)
  clear go
  have gj := X6.out.get (a := e5) (o := .cells #[.int .i64 r.kind, .int .u32 (r.id : Int), .int .i64 r.seat, .int .i64 r.till, .int .i64 r.clock] 46 (0, 0)) (List.mem_cons_of_mem _ (List.mem_cons_of_mem _ (List.mem_cons_of_mem _ List.mem_cons_self)))
  have j0 := (cell_of gj 0).trans (show _ = some (Value.int .i64 r.kind) from rfl)
  have j1 := (cell_of gj 1).trans (show _ = some (Value.int .u32 (r.id : Int)) from rfl)
  have j2 := (cell_of gj 2).trans (show _ = some (Value.int .i64 r.seat) from rfl)
  have j3 := (cell_of gj 3).trans (show _ = some (Value.int .i64 r.till) from rfl)
  have j4 := (cell_of gj 4).trans (show _ = some (Value.int .i64 r.clock) from rfl)
  clear gj
  have gl := X6.out.get (a := e6) (o := .cells #[.int .i64 0, .int .u32 0, .int .i64 0, .int .i64 0, .int .i64 0] 46 (0, 0)) (List.mem_cons_of_mem _ List.mem_cons_self)
  have l0 := (cell_of gl 0).trans (show _ = some (Value.int .i64 0) from rfl)
  have l1 := (cell_of gl 1).trans (show _ = some (Value.int .u32 0) from rfl)
  have l2 := (cell_of gl 2).trans (show _ = some (Value.int .i64 0) from rfl)
  have l3 := (cell_of gl 3).trans (show _ = some (Value.int .i64 0) from rfl)
  have l4 := (cell_of gl 4).trans (show _ = some (Value.int .i64 0) from rfl)
  clear gl
  obtain ⟨sz, hsz⟩ : ∃ s, s = rSize r.kind := ⟨_, rfl⟩
  have hs2 := rSize_le r.kind
  rw [← hsz] at hr hs2
  have HSz := Lib.hid (fun (V : World) => show Calls Tryz.prog 33 #[.int .i64 r.kind] V fun e w' => e = .returned (.int .i64 sz) ∧ Fr (fun _ => False) V w' by rw [hsz]; exact rsize_ok hk V)
  obtain ⟨nd, hnd⟩ : ∃ nd, nd = 22 + sz := ⟨_, rfl⟩
  have n1 : 22 + sz = nd := hnd.symm
  have n2 : wrap64 nd = nd := by unfold wrap64; omega
  have n3 : decide (nd ≤ room) = false := by simp; omega
  clear hsz hs2 hk hr hnd
  go_wp2_with fail
  refine (HSz.out _).mono ?_
  rintro e x8 ⟨rfl, f8⟩
  have X8 := Lib.hid (X6.out.quiet f8)
  clear f8 m0 m1 m2 m3 m4 m5 m6 o0 o1 o2 o3 o4 o5 o6 j0 j1 j2 j3 j4 l0 l1 l2 l3 l4
  have gm := X8.out.get (a := e5 + 1) (o := .cells #[.int .u32 (x.tag : Int), .int .i64 x.kind, .int .i64 x.err, .int .u32 (x.id : Int), .int .i64 x.seat, .int .i64 x.till, .int .i64 x.count] 63 (0, 0)) (List.mem_cons_of_mem _ (List.mem_cons_of_mem _ List.mem_cons_self))
  have m0 := (cell_of gm 0).trans (show _ = some (Value.int .u32 (x.tag : Int)) from rfl)
  have m1 := (cell_of gm 1).trans (show _ = some (Value.int .i64 x.kind) from rfl)
  have m2 := (cell_of gm 2).trans (show _ = some (Value.int .i64 x.err) from rfl)
  have m3 := (cell_of gm 3).trans (show _ = some (Value.int .u32 (x.id : Int)) from rfl)
  have m4 := (cell_of gm 4).trans (show _ = some (Value.int .i64 x.seat) from rfl)
  have m5 := (cell_of gm 5).trans (show _ = some (Value.int .i64 x.till) from rfl)
  have m6 := (cell_of gm 6).trans (show _ = some (Value.int .i64 x.count) from rfl)
  clear gm
  have go := X8.out.get (a := e6 + 1) (o := .cells #[.int .u32 (q.tag : Int), .int .i64 q.kind, .int .i64 220, .int .u32 0, .int .i64 0, .int .i64 0, .int .i64 0] 63 (0, 0)) List.mem_cons_self
  have o0 := (cell_of go 0).trans (show _ = some (Value.int .u32 (q.tag : Int)) from rfl)
  have o1 := (cell_of go 1).trans (show _ = some (Value.int .i64 q.kind) from rfl)
  have o2 := (cell_of go 2).trans (show _ = some (Value.int .i64 220) from rfl)
  have o3 := (cell_of go 3).trans (show _ = some (Value.int .u32 0) from rfl)
  have o4 := (cell_of go 4).trans (show _ = some (Value.int .i64 0) from rfl)
  have o5 := (cell_of go 5).trans (show _ = some (Value.int .i64 0) from rfl)
  have o6 := (cell_of go 6).trans (show _ = some (Value.int .i64 0) from rfl)
  clear go
  have gj := X8.out.get (a := e5) (o := .cells #[.int .i64 r.kind, .int .u32 (r.id : Int), .int .i64 r.seat, .int .i64 r.till, .int .i64 r.clock] 46 (0, 0)) (List.mem_cons_of_mem _ (List.mem_cons_of_mem _ (List.mem_cons_of_mem _ List.mem_cons_self)))
  have j0 := (cell_of gj 0).trans (show _ = some (Value.int .i64 r.kind) from rfl)
  have j1 := (cell_of gj 1).trans (show _ = some (Value.int .u32 (r.id : Int)) from rfl)
  have j2 := (cell_of gj 2).trans (show _ = some (Value.int .i64 r.seat) from rfl)
  have j3 := (cell_of gj 3).trans (show _ = some (Value.int .i64 r.till) from rfl)
  have j4 := (cell_of gj 4).trans (show _ = some (Value.int .i64 r.clock) from rfl)
  clear gj
  have gl := X8.out.get (a := e6) (o := .cells #[.int .i64 0, .int .u32 0, .int .i64 0, .int .i64 0, .int .i64 0] 46 (0, 0)) (List.mem_cons_of_mem _ List.mem_cons_self)
  have l0 := (cell_of gl 0).trans (show _ = some (Value.int .i64 0) from rfl)
  have l1 := (cell_of gl 1).trans (show _ = some (Value.int .u32 0) from rfl)
  have l2 := (cell_of gl 2).trans (show _ = some (Value.int .i64 0) from rfl)
  have l3 := (cell_of gl 3).trans (show _ = some (Value.int .i64 0) from rfl)
  have l4 := (cell_of gl 4).trans (show _ = some (Value.int .i64 0) from rfl)
  clear gl
  have gq := X8.out.get (a := c2) (o := rqO q) (List.mem_cons_of_mem _ (List.mem_cons_of_mem _ (List.mem_cons_of_mem _ (List.mem_cons_of_mem _ List.mem_cons_self))))
  have q0 := (cell_of gq 0).trans (show _ = some (Value.int .i64 q.kind) from rfl)
  have q1 := (cell_of gq 1).trans (show _ = some (Value.int .u32 (q.tag : Int)) from rfl)
  have q2 := (cell_of gq 2).trans (show _ = some (Value.int .u32 (q.id : Int)) from rfl)
  have q3 := (cell_of gq 3).trans (show _ = some (Value.int .i64 q.seat) from rfl)
  have q4 := (cell_of gq 4).trans (show _ = some (Value.int .i64 q.ttl) from rfl)
  clear gq
  have E1 : ∀ V : World, (binOp .eql 46 (.agg #[.int .i64 0, .int .u32 0, .int .i64 0, .int .i64 0, .int .i64 0]) (.agg #[.int .i64 0, .int .u32 0, .int .i64 0, .int .i64 0, .int .i64 0])).run Tryz.prog V = .ok (.bool true) V := fun V => eqlRc V rc0
  have E2 : ∀ V : World, (binOp .eql 63 (.agg #[.int .u32 (q.tag : Int), .int .i64 q.kind, .int .i64 220, .int .u32 0, .int .i64 0, .int .i64 0, .int .i64 0]) (.agg #[.int .u32 (q.tag : Int), .int .i64 q.kind, .int .i64 220, .int .u32 0, .int .i64 0, .int .i64 0, .int .i64 0])).run Tryz.prog V = .ok (.bool true) V := fun V => eqlRp V ⟨q.tag, q.kind, 220, 0, 0, 0, 0⟩
  go_wp2_with fail
  refine (awake_ok _).mono ?_
  rintro e x9 ⟨rfl, f9⟩
  have F9 := Lib.hid (F0.out.trans (X8.out.fr.trans f9 (fun _ _ h => h)) (fun _ _ h => h))
  clear f9
  go_wp2_with fail
  go_ret
  exact ⟨rfl, F9.out⟩
end Go.Proofs.YtebdcahjlcgonaaGreat.Cs
namespace Go.Proofs.YtebdcahjlcgonaaGreat
open Go.Joins Go.ChangeShapes Go.WideShapes Go.ChangeAt Go.RowKit Go.Deep
section
variable {H : Type} {enc : TypeId × Value → H} {P : Program} {w : World} {base : Nat} {spare : Nat → Bool} {held : Bool}
theorem open_nsnn {r : Reach} {b0 : Nat} {t e : TypeId} {f0 f1 f2 f3 : Field} {v : Value} {d : DataW H} {p : List MemPlace} {m : Nat} {kd : Nat → IntKind} {ka kb kc : IntKind} (n : Nat) (hs : P.underlying t = some (.struct #[f0, f1, f2, f3])) (hone : oneCellFields P #[f0, f1, f2, f3] = true) (hC : P.cellsOf t = 4)
  (h0 : kindAt P n f0.type 0 = some ka) (h1 : P.underlying f1.type = some (.slice e)) (h1a : (List.range m).all (fun j => kindAt P n e j == some (kd j)) = true) (h1c : P.cellsOf e = m) (hm : 0 < m) (h2 : kindAt P n f2.type 0 = some kb) (h3 : kindAt P n f3.type 0 = some kc)
  (hv : Value.okWide P w r b0 t v) (h : DataW.Trod enc P w base spare held t v d p) :
  ∃ (x0 : Int) (vv : Value) (x2 x3 : Int) (K : Nat → Nat → Int) (l : Nat), v = .agg #[.int ka x0, vv, .int kb x2, .int kc x3] ∧ (Lit.int ka x0).wf = true ∧ KindsAt w vv m kd K l ∧ (Lit.int kb x2).wf = true ∧ (Lit.int kc x3).wf = true := by
 obtain ⟨v0, v1, v2, v3, y0, y1, y2, y3, fu, rfl, -, -, t0, t1, t2, t3⟩ := open_agg4 hs hone hC hv h
 obtain ⟨x0, e0, w0⟩ := trod_kindAt n h0 t0
 obtain ⟨x2, e2, w2⟩ := trod_kindAt n h2 t2
 obtain ⟨x3, e3, w3⟩ := trod_kindAt n h3 t3
 have q0 : v0 = .int ka x0 := by simpa using e0
 have q2 : v2 = .int kb x2 := by simpa using e2
 have q3 : v3 = .int kc x3 := by simpa using e3
 subst q0; subst q2; subst q3
 have key : ∃ a l c, v1 = .slice a l c := by
  rcases open_slice h1 t1 with ⟨hcs, _⟩ | ⟨a, len, cap, q, n1, D, Pl, hcs, _⟩
  ·exact ⟨none, 0, 0, by simpa using hcs⟩
  ·exact ⟨some a, len, cap, by simpa using hcs⟩
 obtain ⟨a, l, c, rfl⟩ := key
 obtain ⟨K, hK⟩ := kindsAt_flat (kd := kd) (m := m) n h1 h1a h1c hm (⟨fu, t1⟩ : DataW.Trod enc P w base spare held f1.type (.slice a l c) y1.1 y1.2)
 exact ⟨x0, _, x2, x3, K, l, rfl, w0, hK, w2, w3⟩
end
end Go.Proofs.YtebdcahjlcgonaaGreat
namespace Go.Proofs.YtebdcahjlcgonaaGreat.Cs
open Go.RowKit Go.Shelf Go.Proofs.YtebdcahjlcgonaaGreat.Bk
def kAsk (j : Nat) : IntKind := if j = 4 then .u32 else .i64
theorem room_law (w : World) (sh : Int) (hsh : (Lit.int .i64 sh).wf = true) (v : Value) (K : Nat → Nat → Int) (n : Nat) (hK : KindsAt w v 4 kI K n) (nx : Int) (hnx : (Lit.int .u32 nx).wf = true) (cl : Int) (room : Int) (_ : (Lit.int .i64 room).wf = true)
  (M : Nat → Int) (hM : ∀ j, j < 5 → (Lit.int (kAsk j) (M j)).wf = true) :
  Calls Tryz.prog 6 #[.agg #[.int .i64 sh, v, .int .u32 nx, .int .i64 cl], .int .i64 room, .agg ((List.range 5).map fun j => Value.int (kAsk j) (M j)).toArray] w fun e w' => e = .returned (.bool true) ∧ Fr (fun _ => False) w w' := by
 have h2 := wf_u32 hnx; have m4 := wf_u32 (hM 4 (by omega))
 have e2 : ((List.range 5).map fun j => Value.int (kAsk j) (M j)).toArray = #[.int .i64 (M 0), .int .i64 (M 1), .int .i64 (M 2), .int .i64 (M 3), .int .u32 (M 4)] := rfl
 rw [e2]
 have := room_walk (w := w) (wf_i64 hsh) hK nx.toNat (by omega) cl room ⟨M 0, M 1, M 2, M 3, (M 4).toNat⟩ ⟨wf_i64 (hM 0 (by omega)), wf_i64 (hM 1 (by omega)), wf_i64 (hM 2 (by omega)), wf_i64 (hM 3 (by omega)), by show (M 4).toNat < _; omega⟩
 change Calls _ _ #[.agg #[.int .i64 sh, v, .int .u32 (nx.toNat : Int), .int .i64 cl], .int .i64 room, .agg #[.int .i64 (M 0), .int .i64 (M 1), .int .i64 (M 2), .int .i64 (M 3), .int .u32 ((M 4).toNat : Int)]] w _ at this
 rw [Int.toNat_of_nonneg h2.1, Int.toNat_of_nonneg m4.1] at this
 exact this
end Go.Proofs.YtebdcahjlcgonaaGreat.Cs
