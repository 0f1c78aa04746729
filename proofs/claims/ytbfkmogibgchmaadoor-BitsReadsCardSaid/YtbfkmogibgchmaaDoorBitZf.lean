/- BitsPlays' walk, of sets that are there. Condition: the table of math/bits. -/
import Derived.Test.YtbfkmogibgchmaaDoorBitZe
import Derived.Test.YtbfkmogibgchmaaDoorArgi
namespace Go.Proofs.YtbfkmogibgchmaaDoor.Bt
open Go.RowKit
set_option maxRecDepth 100000 in
theorem rnew_some (w : World) {n : Int} (h0 : 0 ≤ n) (h1 : n ≤ 65536) : Calls Tryd.prog 34 #[.int .i64 n] w fun e w' => ∃ rh g c, e = .returned (.tuple #[.pointer (some ⟨rh, 0, none⟩), .int .i64 0]) ∧ NewRef w w' rh (.slice (some ⟨g, 0, none⟩) n.toNat c) true (List.replicate n.toNat false) := by
  obtain ⟨m, rfl⟩ : ∃ m : Nat, n = (m : Int) := ⟨n.toNat, by omega⟩
  obtain ⟨i0, hi, hz0, hz1, hz2⟩ := info_parts Tryd.infoBool
  have hmk := run_make (P := Tryd.prog) w 57 4 i0 (.bool false) Tryd.underlying57 hi hz0 .i64 .i64 (m : Int) (m : Int) (by omega) (Int.le_refl _) (by rw [hz2]; omega) (by omega)
  rw [hz1] at hmk
  simp only [Nat.mul_one, Int.toNat_natCast] at hmk
  have b1 : decide ((m : Int) < 0) = false := by simp
  have b2 : decide ((65536 : Int) < (m : Int)) = false := by simp; omega
  have b2' : decide (65536 < m) = false := by simp; omega
  go_enter Tryd.func34, Tryd.ntmps34
  go_wp2_with fail
  refine bodyPost_ret (v := .tuple #[.pointer (some ⟨w.heap.size + 1, 0, none⟩), .int .i64 0]) ?_ rfl ?_
  · simp [results, Tryd.results34, Tryd.f34, go_sem]
  · refine ⟨w.heap.size + 1, w.heap.size, m, rfl, ⟨?_, ?_, ?_⟩, by omega, ?_, Fr.alloc (Fr.alloc (Fr.refl _ _) _) _⟩
    · rw [heap_alloc_get]; simp
    · refine ⟨by simp, .inr ⟨w.heap.size, m, madeCells #[.bool false] m, by simp, Nat.zero_le _, ?_, ?_, ?_, ?_, ?_⟩⟩
      · rw [heap_alloc_get, heap_alloc_get]; simp
      · simp
      · unfold maxLen; omega
      · simp [size_madeCells]
      · rw [made_list]; simp
    · simp; omega
    · intro b hb; simp [Value.ownBlock] at hb; subst hb; simp
/-- The two sets as they are made. -/
theorem Two.start {w1 w2 w3 w4 w5 : World} {bh0 bh1 rh0 rh1 g0 g1 n c0 c1 : Nat} {v0 v1 : Value} {B : List Bool} (s0 : NewSet w1 w2 bh0 v0 B) (s1 : NewSet w2 w3 bh1 v1 B) (r0 : NewRef w3 w4 rh0 (.slice (some ⟨g0, 0, none⟩) n c0) true B) (r1 : NewRef w4 w5 rh1 (.slice (some ⟨g1, 0, none⟩) n c1) true B) :
    ∃ pk : Nat → Pr, pk 0 = ⟨bh0, v0, rh0, .slice (some ⟨g0, 0, none⟩) n c0⟩ ∧ pk 1 = ⟨bh1, v1, rh1, .slice (some ⟨g1, 0, none⟩) n c1⟩ ∧
      Two w1.heap.size ((w5.alloc (.cells #[ptr bh0, ptr bh1] 24)).alloc (.cells #[ptr rh0, ptr rh1] 53)) w5.heap.size (w5.heap.size + 1) pk (fun _ => B) ∧
      (∀ k, k < 2 → ∀ b, (pk k).own b → b ≠ rh0) := by
  refine ⟨fun j => if j = 0 then ⟨bh0, v0, rh0, .slice (some ⟨g0, 0, none⟩) n c0⟩ else ⟨bh1, v1, rh1, .slice (some ⟨g1, 0, none⟩) n c1⟩, rfl, rfl, ?_, ?_⟩
  · have z1 := s0.fr.size; have z2 := s1.fr.size; have z3 := r0.fr.size; have z4 := r1.fr.size
    have fa : Fr (fun _ => False) w5 ((w5.alloc (.cells #[ptr bh0, ptr bh1] 24)).alloc (.cells #[ptr rh0, ptr rh1] 53)) := Fr.alloc (Fr.alloc (Fr.refl _ _) _) _
    have lv0 : ∀ b, v0.ownBlock = some b → w1.heap.size ≤ b ∧ b < w2.heap.size ∧ b ≠ bh0 := fun b hb => ⟨(s0.newv b hb).1, Row.lt s0.at_.row hb, (s0.newv b hb).2⟩
    have lv1 : ∀ b, v1.ownBlock = some b → w2.heap.size ≤ b ∧ b < w3.heap.size ∧ b ≠ bh1 := fun b hb => ⟨(s1.newv b hb).1, Row.lt s1.at_.row hb, (s1.newv b hb).2⟩
    have lr0 : ∀ b, (Value.slice (some ⟨g0, 0, none⟩) n c0).ownBlock = some b → w3.heap.size ≤ b ∧ b < w4.heap.size ∧ b ≠ rh0 := fun b hb => ⟨(r0.newv b hb).1, Row.lt r0.at_.row hb, (r0.newv b hb).2⟩
    have lr1 : ∀ b, (Value.slice (some ⟨g1, 0, none⟩) n c1).ownBlock = some b → w4.heap.size ≤ b ∧ b < w5.heap.size ∧ b ≠ rh1 := fun b hb => ⟨(r1.newv b hb).1, Row.lt r1.at_.row hb, (r1.newv b hb).2⟩
    have b0 := s0.new; have b1 := s1.new; have b2 := r0.new; have b3 := r1.new
    have t0 := s0.at_.lt; have t1 := s1.at_.lt; have t2 := r0.at_.lt; have t3 := r1.at_.lt
    have a0 : ∀ b, (Pr.mk bh0 v0 rh0 (.slice (some ⟨g0, 0, none⟩) n c0)).all b → w1.heap.size ≤ b ∧ b < w4.heap.size ∧ (b < w2.heap.size ∨ w3.heap.size ≤ b) := by
      rintro b (hb | hb | hb | hb)
      · have hb : b = bh0 := hb; omega
      · have hb : b = rh0 := hb; omega
      · have := lv0 b hb; omega
      · have := lr0 b hb; omega
    have a1 : ∀ b, (Pr.mk bh1 v1 rh1 (.slice (some ⟨g1, 0, none⟩) n c1)).all b → w2.heap.size ≤ b ∧ b < w5.heap.size ∧ (b < w3.heap.size ∨ w4.heap.size ≤ b) := by
      rintro b (hb | hb | hb | hb)
      · have hb : b = bh1 := hb; omega
      · have hb : b = rh1 := hb; omega
      · have := lv1 b hb; omega
      · have := lr1 b hb; omega
    have p0 : PairIn w1.heap.size w5 ⟨bh0, v0, rh0, .slice (some ⟨g0, 0, none⟩) n c0⟩ B := by
      refine ⟨⟨((s0.at_.fr s1.fr (fun h => h) (fun _ _ h => h)).fr r0.fr (fun h => h) (fun _ _ h => h)).fr r1.fr (fun h => h) (fun _ _ h => h), r0.at_.fr r1.fr (fun h => h) (fun _ _ h => h), s0.ne, r0.ne, ?_, ?_, ?_⟩, fun b hb => (a0 b hb).1, ⟨g0, n, c0, rfl⟩⟩
      · intro b hb e; have e' : b = rh0 := e; have := lv0 b hb; omega
      · intro b hb e; have e' : b = bh0 := e; have := lr0 b hb; omega
      · intro b hb e; have := lv0 b hb; have := lr0 b e; omega
    have p1 : PairIn w1.heap.size w5 ⟨bh1, v1, rh1, .slice (some ⟨g1, 0, none⟩) n c1⟩ B := by
      refine ⟨⟨(s1.at_.fr r0.fr (fun h => h) (fun _ _ h => h)).fr r1.fr (fun h => h) (fun _ _ h => h), r1.at_, s1.ne, r1.ne, ?_, ?_, ?_⟩, fun b hb => by have := (a1 b hb).1; omega, ⟨g1, n, c1, rfl⟩⟩
      · intro b hb e; have e' : b = rh1 := e; have := lv1 b hb; omega
      · intro b hb e; have e' : b = bh1 := e; have := lr1 b hb; omega
      · intro b hb e; have := lv1 b hb; have := lr1 b e; omega
    refine ⟨?_, ?_, ?_, ?_, ?_, by omega, by omega, by omega⟩
    · simp only [heap_alloc_get, World.size_alloc]; simp
    · simp only [heap_alloc_get, World.size_alloc]; simp
    · intro k hk
      rcases (by omega : k = 0 ∨ k = 1) with e | e <;> subst e
      · exact p0.fr fa (fun _ _ h => h)
      · exact p1.fr fa (fun _ _ h => h)
    · intro k hk b hb hc
      rcases (by omega : k = 0 ∨ k = 1) with e | e <;> subst e
      · have h1 := a0 b (.inr (.inr hb)); have h2 := a1 b hc; omega
      · have h1 := a1 b (.inr (.inr hb)); have h2 := a0 b hc; omega
    · intro k hk b hb
      rcases (by omega : k = 0 ∨ k = 1) with e | e <;> subst e
      · have h1 := a0 b hb; omega
      · have h1 := a1 b hb; omega
  · have z1 := s0.fr.size; have z2 := s1.fr.size; have z3 := r0.fr.size; have z4 := r1.fr.size
    intro k hk b hb
    have t2 := r0.at_.lt; have b2 := r0.new
    rcases (by omega : k = 0 ∨ k = 1) with e | e <;> subst e
    · rcases hb with hb | hb
      · have := Row.lt s0.at_.row hb; omega
      · exact (r0.newv b hb).2
    · rcases hb with hb | hb
      · have := Row.lt s1.at_.row hb; omega
      · have := (r1.newv b hb).1; omega
structure Pl (w1 : World) (xb yb rh0 : Nat) (wr : World) (pk : Nat → Pr) (Bk : Nat → List Bool) : Prop where
  two : Two w1.heap.size wr xb yb pk Bk
  fr : Fr (fun b => w1.heap.size ≤ b) w1 wr
  c : wr.cell? ⟨rh0, 0, none⟩ = some (.bool true)
  nc : ∀ k, k < 2 → ∀ b, (pk k).own b → b ≠ rh0
  nxy : rh0 ≠ xb ∧ rh0 ≠ yb
section
variable {w1 wr w' : World} {xb yb rh0 : Nat} {pk : Nat → Pr} {Bk : Nat → List Bool}
theorem Pl.keep (h : Pl w1 xb yb rh0 wr pk Bk) (f : Fr (fun _ => False) wr w') : Pl w1 xb yb rh0 w' pk Bk :=
  ⟨h.two.keep f, h.fr.trans f (fun _ _ h => h.elim), (f.cell (World.block_lt_of_cell? _ _ h.c) (fun h => h)).trans h.c, h.nc, h.nxy⟩
theorem Pl.one (h : Pl w1 xb yb rh0 wr pk Bk) {k : Nat} (hk : k < 2) {B' : List Bool} (hp : PairAt w' (pk k).bh (pk k).v (pk k).rh (pk k).rv B') (f : Fr (pairO (pk k).v (pk k).rv) wr w') : Pl w1 xb yb rh0 w' pk (upd Bk k B') := by
  obtain ⟨t, f2⟩ := h.two.one hk hp f
  exact ⟨t, h.fr.trans f2 (fun _ _ h => h), (f.cell (World.block_lt_of_cell? _ _ h.c) (fun e => h.nc k hk _ e rfl)).trans h.c, h.nc, h.nxy⟩
theorem Pl.copy (h : Pl w1 xb yb rh0 wr pk Bk) {k m : Nat} (hk : k < 2) (hm : m = 1 - k) {w3 w2 : World} {bh rh g c : Nat} {v : Value} (hs : NewSet wr w2 bh v (Bk k)) (hr : NewRef w2 w3 rh (.slice (some ⟨g, 0, none⟩) (Bk k).length c) true (Bk k)) :
    Pl w1 xb yb rh0 ((w3.setCell ⟨xb, m, none⟩ (ptr bh)).setCell ⟨yb, m, none⟩ (ptr rh)) (upd pk m ⟨bh, v, rh, .slice (some ⟨g, 0, none⟩) (Bk k).length c⟩) (upd Bk m (Bk k)) := by
  obtain ⟨t, f2⟩ := h.two.copy hk hm h.fr.size hs hr
  have f3 := hs.fr.trans hr.fr (fun _ _ h => h)
  have hl := World.block_lt_of_cell? _ _ h.c
  have hl : rh0 < wr.heap.size := hl
  refine ⟨t, h.fr.trans f2 (fun _ _ h => h), ?_, ?_, h.nxy⟩
  · have e1 : ((w3.setCell ⟨xb, m, none⟩ (ptr bh)).setCell ⟨yb, m, none⟩ (ptr rh)).heap[rh0]? = w3.heap[rh0]? :=
      (setCell_blk_ne (by exact h.nxy.2) _).trans (setCell_blk_ne (by exact h.nxy.1) _)
    have e2 := World.cell?_of_block (w := w3) (w' := (w3.setCell ⟨xb, m, none⟩ (ptr bh)).setCell ⟨yb, m, none⟩ (ptr rh)) (a := ⟨rh0, 0, none⟩) e1
    rw [e2, f3.cell hl (fun h => h)]; exact h.c
  · intro j hj b hb
    by_cases e : j = m
    · subst e
      rw [upd_same] at hb
      have := hs.fr.size
      rcases hb with hb | hb
      · have := (hs.newv b hb).1; omega
      · have := (hr.newv b hb).1; omega
    · rw [upd_other _ _ e] at hb; exact h.nc j hj b hb
end
set_option maxRecDepth 100000 in
set_option maxHeartbeats 16000000 in
theorem plays_there (w : World) (hT : TabOk w) (n : Int) (hn : Fits n) (h0 : 0 ≤ n) (h6 : n ≤ 65536) {v1 : Value} {K1 : Nat → Nat → Int} {n1 : Nat} (h1 : IntsAt w v1 3 K1 n1) :
    Calls Tryd.prog 7 #[.int .i64 n, v1] w fun e w' => e = .returned (.bool true) ∧ Fr (fun _ => False) w w' := by
  obtain ⟨a1, c1, rfl, hnc, hcm, hor⟩ := id h1
  have H1 := Lib.hid h1; have HT := Lib.hid hT; have H0 := Lib.hid h0; have H6 := Lib.hid h6
  have hn1 : (n1 : Int) ≤ 9223372036854775807 := by unfold maxLen at hcm; omega
  clear h1 hT hor hcm hnc h0 h6
  go_enter Tryd.func7, Tryd.ntmps7
  go_wp2_with fail
  refine (awake_ok HT.out).mono ?_
  rintro e w1 ⟨rfl, f1⟩
  have F1 := Lib.hid f1; clear f1
  go_wp2_with fail
  refine (new_ok w1 H0.out H6.out).mono ?_
  rintro e w2 ⟨bh0, v0, rfl, s1, s2, s3, s4⟩
  have N0 := Lib.hid (NewSet.mk (w := w1) s1 s2 s3 s4)
  clear s1 s2 s3 s4
  go_wp2_with fail
  refine (new_ok w2 H0.out H6.out).mono ?_
  rintro e w3 ⟨bh1, v1, rfl, s1, s2, s3, s4⟩
  have N1 := Lib.hid (NewSet.mk (w := w2) s1 s2 s3 s4)
  clear s1 s2 s3 s4
  go_wp2_with fail
  refine (rnew_some w3 H0.out H6.out).mono ?_
  rintro e w4 ⟨rh0, g0, c0, rfl, hr0⟩
  have R0 := Lib.hid hr0
  clear hr0
  go_wp2_with fail
  refine (rnew_some w4 H0.out H6.out).mono ?_
  rintro e w5 ⟨rh1, g1, c1', rfl, hr1⟩
  have R1 := Lib.hid hr1
  have q0 := (R0.out.keep hr1.fr).at_.c0
  have F5 := Lib.hid (((N0.out.fr.trans N1.out.fr (fun _ _ h => h)).trans R0.out.fr (fun _ _ h => h)).trans hr1.fr (fun _ _ h => h))
  clear hr1
  obtain ⟨pk0, hp0, hp1, htwo, hnc⟩ := Two.start N0.out N1.out R0.out R1.out
  have Htwo := Lib.hid htwo; have Hnc := Lib.hid hnc
  clear htwo hnc hp0 hp1
  go_upto_block 0 with fail
  have hpl : Pl w1 w5.heap.size (w5.heap.size + 1) rh0 ((w5.alloc (.cells #[.pointer (some ⟨bh0, 0, none⟩), .pointer (some ⟨bh1, 0, none⟩)] 24)).alloc (.cells #[.pointer (some ⟨rh0, 0, none⟩), .pointer (some ⟨rh1, 0, none⟩)] 53)) pk0 (fun _ => List.replicate n.toNat false) := by
    have fa : Fr (fun _ => False) w5 ((w5.alloc (.cells #[.pointer (some ⟨bh0, 0, none⟩), .pointer (some ⟨bh1, 0, none⟩)] 24)).alloc (.cells #[.pointer (some ⟨rh0, 0, none⟩), .pointer (some ⟨rh1, 0, none⟩)] 53)) := Fr.alloc (Fr.alloc (Fr.refl _ _) _) _
    have hl := World.block_lt_of_cell? _ _ q0
    have hl : rh0 < w5.heap.size := hl
    exact ⟨Htwo.out, (F5.out.mono (fun _ _ h => h.elim)).trans fa (fun _ _ h => h.elim), (fa.cell hl (fun h => h)).trans q0, Hnc.out, by omega, by omega⟩
  have hxy : ¬ w5.heap.size = w5.heap.size + 1 := by omega
  generalize hxb : w5.heap.size = xb at hpl hxy
  generalize hyb : xb + 1 = yb at hpl hxy
  have Hpl := Lib.hid hpl
  clear hpl Htwo Hnc q0
  generalize ((w5.alloc (.cells #[.pointer (some ⟨bh0, 0, none⟩), .pointer (some ⟨bh1, 0, none⟩)] 24)).alloc (.cells #[.pointer (some ⟨rh0, 0, none⟩), .pointer (some ⟨rh1, 0, none⟩)] 53)) = W0 at *
  have hxy' : ¬ yb = xb := fun e => hxy e.symm
  clear hxb hyb
  go_cut [15] (fun _ wx => ∃ pk Bk, Pl w1 xb yb rh0 wx pk Bk)
  case first =>
    go_wp2_with fail
    go_loopw [15] (fun s15 wr => ∃ (i : Nat) (pk : Nat → Pr) (Bk : Nat → List Bool), s15 = .int .i64 i ∧ i ≤ n1 ∧ Pl w1 xb yb rh0 wr pk Bk) (fun s15 _ => n1 - (intOf s15).toNat)
    case atStart => exact ⟨0, pk0, _, rfl, Nat.zero_le _, Hpl.out⟩
    case round =>
      obtain ⟨i, pk, Bk, rfl, hi, hP⟩ := hrel
      have HP := Lib.hid hP
      have hIv := H1.out.fr ((F1.out.mono (G := fun b => w.heap.size ≤ b) (fun _ _ h => h.elim)).trans hP.fr (fun b _ h => Nat.le_trans F1.out.size h)) (fun b hb h => by omega) (by omega)
      clear hP
      by_cases hlt : i < n1
      · have hlt' : (i : Int) < (n1 : Int) := by omega
        by_cases hc : i < 2000 ∨ n < 200
        · obtain ⟨a', c', e1, _, _, hor⟩ := hIv
          simp only [Value.slice.injEq] at e1
          obtain ⟨rfl, _, rfl⟩ := e1
          obtain ⟨lb, lo, rfl, hcell⟩ := hor.resolve_left (by omega)
          have kd := (hcell i 0 hlt (by omega)).1
          have ko := (hcell i 1 hlt (by omega)).1
          have ki := (hcell i 2 hlt (by omega)).1
          have Fxd := Lib.hid (hcell i 0 hlt (by omega)).2; have Fxo := Lib.hid (hcell i 1 hlt (by omega)).2
          simp only [Nat.add_zero] at kd
          obtain ⟨xd, hxd⟩ : ∃ x, x = K1 i 0 := ⟨_, rfl⟩
          obtain ⟨xo, hxo⟩ : ∃ x, x = K1 i 1 := ⟨_, rfl⟩
          obtain ⟨xi, hxi⟩ : ∃ x, x = K1 i 2 := ⟨_, rfl⟩
          rw [← hxd] at kd Fxd; rw [← hxo] at ko Fxo; rw [← hxi] at ki
          have i0 : (0 : Int) ≤ (i : Int) := by omega
          have Hlt := Lib.hid hlt; have Hc := Lib.hid hc
          clear hcell hor hxd hxo hxi hlt hc hi
          go_upto_region 12 with fail
          go_cut [83] (fun s83 wx => s83 = .bool true ∧ wr = wx)
          case first =>
            by_cases hb : i < 2000
            · have c1 : (i : Int) < 2000 := by omega
              clear kd ko ki
              go_wp2_with fail
              go_meet
              exact ⟨rfl, rfl⟩
            · have c1 : ¬ (i : Int) < 2000 := by omega
              have c2 : n < 200 := Hc.out.resolve_left hb
              clear kd ko ki hb
              go_wp2_with fail
              go_meet
              exact ⟨rfl, rfl⟩
          case rest =>
          obtain ⟨rfl, rfl⟩ := hcut
          obtain ⟨k, hk, hk2⟩ : ∃ k : Nat, xo % 2 = (k : Int) ∧ k < 2 := ⟨(xo % 2).toNat, by omega, by omega⟩
          have HPo := Lib.hid (fun w0 => pick_ok xo 2 w0 Fxo.out.1 Fxo.out.2 (by omega) (by omega))
          rw [hk] at HPo
          have hob := (HP.out.two.pin k hk2).lt
          have fa : Fr (fun _ => False) wr (wr.alloc (.cells #[.int .i64 xd, .int .i64 xo, .int .i64 xi] 67)) := Fr.alloc (Fr.refl _ _) _
          have hoj : (wr.alloc (.cells #[.int .i64 xd, .int .i64 xo, .int .i64 xi] 67)).heap[wr.heap.size]? = some (.cells #[.int .i64 xd, .int .i64 xo, .int .i64 xi] 67 (0, 0)) := by rw [heap_alloc_get]; simp
          have hP2 := HP.out.keep fa
          have HobN := Lib.hid (show ∀ b, pairO (pk k).v (pk k).rv b → b ≠ wr.heap.size from fun b hb e => by have := hob b (.inr (.inr hb)); omega)
          obtain ⟨d, hd⟩ : ∃ d, xd % 11 = d := ⟨_, rfl⟩
          have Hpd := Lib.hid (fun w0 => pick_ok xd 11 w0 Fxd.out.1 Fxd.out.2 (by omega) (by omega))
          rw [hd] at Hpd
          have Hk := Lib.hid hk2
          have hki : (k : Int) < 2 := by omega
          have hk0 : (0 : Int) ≤ (k : Int) := by omega
          have HP2 := Lib.hid hP2; have Hoj := Lib.hid hoj
          clear hob hd hk hk2 hP2 hoj fa
          go_wp2_with fail
          refine (HPo.out _).mono ?_
          rintro e w6 ⟨rfl, rfl⟩
          go_upto_region 16 with fail
          generalize (wr.alloc (.cells #[.int .i64 xd, .int .i64 xo, .int .i64 xi] 67)) = W at *
          generalize wr.heap.size = ob at *
          have o0 := (cell_of Hoj.out 0).trans (show _ = some (Value.int .i64 xd) from rfl)
          have o1 := (cell_of Hoj.out 1).trans (show _ = some (Value.int .i64 xo) from rfl)
          have o2 := (cell_of Hoj.out 2).trans (show _ = some (Value.int .i64 xi) from rfl)
          have HTab := Lib.hid ((HT.out.fr F1.out (fun h => h)).fr HP2.out.fr (fun h => by have := HT.out.lt; have := F1.out.size; omega))
          clear kd ko ki
          go_cut [126] (fun s126 wx => s126 = .bool false ∧ ∃ B', Pl w1 xb yb rh0 wx pk (upd Bk k B') ∧ wx.cell? ⟨ob, 0, none⟩ = some (.int .i64 xd))
          case first => as_aux_lemma =>
            by_cases h9 : d = 9
            · have b9 : (d == 9) = true := by simpa using h9
              clear h9
              refine wp_region_held_drew (S := fun w' => w'.cell? ⟨ob, 0, none⟩ = some (.int .i64 xd) ∧ w'.cell? ⟨ob, 1, none⟩ = some (.int .i64 xo) ∧ w'.cell? ⟨ob, 2, none⟩ = some (.int .i64 xi) ∧ w'.cell? ⟨xb, k, none⟩ = some (.pointer (some ⟨(pk k).bh, 0, none⟩)) ∧ w'.cell? ⟨yb, k, none⟩ = some (.pointer (some ⟨(pk k).rh, 0, none⟩)) ∧ w'.cell? ⟨xb, 0, none⟩ = some (.pointer (some ⟨(pk 0).bh, 0, none⟩)) ∧ w'.cell? ⟨xb, 1, none⟩ = some (.pointer (some ⟨(pk 1).bh, 0, none⟩)) ∧ w'.cell? ⟨yb, 0, none⟩ = some (.pointer (some ⟨(pk 0).rh, 0, none⟩)) ∧ w'.cell? ⟨yb, 1, none⟩ = some (.pointer (some ⟨(pk 1).rh, 0, none⟩))) (by kernel_rfl) (by exact ⟨o0, o1, o2, HP2.out.two.xc Hk.out, HP2.out.two.yc Hk.out, HP2.out.two.xc (k := 0) (by decide), HP2.out.two.xc (k := 1) (by decide), HP2.out.two.yc (k := 0) (by decide), HP2.out.two.yc (k := 1) (by decide)⟩) (fun hHeld => ?_)
              refine wpAnyH_take (i := 0) (v := ?_) rfl (by kernel_rfl) (by kernel_rfl) (by kernel_rfl) (fun _ _ _ h => h) (Or.inl ⟨by rfl, ?_⟩) (by assumption) ?_
              rotate_left
              · intro w' hSw; (try dsimp only at hSw); go_simp; try with_reducible rfl
              try simp only [Act.put, List.getElem_toArray, List.getElem_cons_zero, List.getElem_cons_succ, List.setIfInBounds_toArray, List.set_cons_zero, List.set_cons_succ]
              refine wpAnyH_take (i := 1) (v := ?_) rfl (by kernel_rfl) (by kernel_rfl) (by kernel_rfl) (fun _ _ _ h => h) (Or.inl ⟨by rfl, ?_⟩) (by assumption) ?_
              rotate_left
              · intro w' hSw; (try dsimp only at hSw); go_simp; try with_reducible rfl
              try simp only [Act.put, List.getElem_toArray, List.getElem_cons_zero, List.getElem_cons_succ, List.setIfInBounds_toArray, List.set_cons_zero, List.set_cons_succ]
              refine wpAnyH_take (i := 2) (v := ?_) rfl (by kernel_rfl) (by kernel_rfl) (by kernel_rfl) (fun _ _ _ h => h) (Or.inl ⟨by rfl, ?_⟩) (by assumption) ?_
              rotate_left
              · intro w' hSw; (try dsimp only at hSw); go_simp; try with_reducible rfl
              try simp only [Act.put, List.getElem_toArray, List.getElem_cons_zero, List.getElem_cons_succ, List.setIfInBounds_toArray, List.set_cons_zero, List.set_cons_succ]
              refine wpAnyH_take (i := 3) (v := ?_) rfl (by kernel_rfl) (by kernel_rfl) (by kernel_rfl) (fun _ _ _ h => h) (Or.inl ⟨by rfl, ?_⟩) (by assumption) ?_
              rotate_left
              · intro w' hSw; (try dsimp only at hSw); go_simp; try with_reducible rfl
              try simp only [Act.put, List.getElem_toArray, List.getElem_cons_zero, List.getElem_cons_succ, List.setIfInBounds_toArray, List.set_cons_zero, List.set_cons_succ]
              refine wpAnyH_take (i := 4) (v := ?_) rfl (by kernel_rfl) (by kernel_rfl) (by kernel_rfl) (fun _ _ _ h => h) (Or.inl ⟨by rfl, ?_⟩) (by assumption) ?_
              rotate_left
              · intro w' hSw; (try dsimp only at hSw); go_simp; try with_reducible rfl
              try simp only [Act.put, List.getElem_toArray, List.getElem_cons_zero, List.getElem_cons_succ, List.setIfInBounds_toArray, List.set_cons_zero, List.set_cons_succ]
              refine wpAnyH_take (i := 5) (v := ?_) rfl (by kernel_rfl) (by kernel_rfl) (by kernel_rfl) (fun _ _ _ h => h) (Or.inl ⟨by rfl, ?_⟩) (by assumption) ?_
              rotate_left
              · intro w' hSw; (try dsimp only at hSw); go_simp; try with_reducible rfl
              try simp only [Act.put, List.getElem_toArray, List.getElem_cons_zero, List.getElem_cons_succ, List.setIfInBounds_toArray, List.set_cons_zero, List.set_cons_succ]
              refine wpAnyH_take (i := 6) (v := ?_) rfl (by kernel_rfl) (by kernel_rfl) (by kernel_rfl) (fun _ _ _ h => h) (Or.inl ⟨by rfl, ?_⟩) (by assumption) ?_
              rotate_left
              · intro w' hSw; (try dsimp only at hSw); go_simp; try with_reducible rfl
              try simp only [Act.put, List.getElem_toArray, List.getElem_cons_zero, List.getElem_cons_succ, List.setIfInBounds_toArray, List.set_cons_zero, List.set_cons_succ]
              refine wpAnyH_take (i := 7) (v := ?_) rfl (by kernel_rfl) (by kernel_rfl) (by kernel_rfl) (fun _ _ _ h => h) (Or.inl ⟨by rfl, ?_⟩) (by assumption) ?_
              rotate_left
              · intro w' hSw; (try dsimp only at hSw); go_simp; try with_reducible rfl
              try simp only [Act.put, List.getElem_toArray, List.getElem_cons_zero, List.getElem_cons_succ, List.setIfInBounds_toArray, List.set_cons_zero, List.set_cons_succ]
              refine wpAnyH_take (i := 8) (v := ?_) rfl (by kernel_rfl) (by kernel_rfl) (by kernel_rfl) (fun _ _ _ h => h) (Or.inl ⟨by rfl, ?_⟩) (by assumption) ?_
              rotate_left
              · intro w' hSw; (try dsimp only at hSw); go_simp; try with_reducible rfl
              try simp only [Act.put, List.getElem_toArray, List.getElem_cons_zero, List.getElem_cons_succ, List.setIfInBounds_toArray, List.set_cons_zero, List.set_cons_succ]
              refine wpAnyH_ready (rs := [9]) (by kernel_rfl) (by simp) ?_
              refine AllReadyH.cons rfl (fun K hK => ?_) AllReadyH.nil
              go_simp
              refine (one_ok (HTab.out.fr (Fr.drew (Fr.refl (fun _ => False) _)) (fun h => h)) ((HP2.out.keep (Fr.drew (Fr.refl _ _))).two.pin k Hk.out).at_ xd xo xi Fxd.out).mono ?_
              rintro e w2 ⟨rfl, B', hl2, hp2, hf2⟩
              have HP3 := Lib.hid ((HP2.out.keep (Fr.drew (Fr.refl _ _))).one Hk.out hp2 hf2)
              have Hf2 := Lib.hid hf2
              clear hl2 hp2 hf2
              try go_simp
              refine hK.out _ _ ?_ (fun hHeld => ?_)
              · (try dsimp only); exact ⟨(Hf2.out.cell (World.block_lt_of_cell? _ _ hHeld.1) (fun e => HobN.out _ e rfl)).trans hHeld.1, (Hf2.out.cell (World.block_lt_of_cell? _ _ hHeld.2.1) (fun e => HobN.out _ e rfl)).trans hHeld.2.1, (Hf2.out.cell (World.block_lt_of_cell? _ _ hHeld.2.2.1) (fun e => HobN.out _ e rfl)).trans hHeld.2.2.1, HP3.out.two.xc Hk.out, HP3.out.two.yc Hk.out, HP3.out.two.xc (k := 0) (by decide), HP3.out.two.xc (k := 1) (by decide), HP3.out.two.yc (k := 0) (by decide), HP3.out.two.yc (k := 1) (by decide)⟩
              clear hK K
              try simp only [Act.put, List.getElem_toArray, List.getElem_cons_zero, List.getElem_cons_succ, List.setIfInBounds_toArray, List.set_cons_zero, List.set_cons_succ]
              refine wpAnyH_take (i := 10) (v := ?_) rfl (by kernel_rfl) (by kernel_rfl) (by kernel_rfl) (fun _ _ _ h => h) (Or.inl ⟨by rfl, ?_⟩) (by assumption) ?_
              rotate_left
              · intro w' hSw; (try dsimp only at hSw); go_simp; try with_reducible rfl
              try simp only [Act.put, List.getElem_toArray, List.getElem_cons_zero, List.getElem_cons_succ, List.setIfInBounds_toArray, List.set_cons_zero, List.set_cons_succ]
              refine wpAnyH_take (i := 11) (v := ?_) rfl (by kernel_rfl) (by kernel_rfl) (by kernel_rfl) (fun _ _ _ h => h) (Or.inl ⟨by rfl, ?_⟩) (by assumption) ?_
              rotate_left
              · intro w' hSw; (try dsimp only at hSw); go_simp; try with_reducible rfl
              try simp only [Act.put, List.getElem_toArray, List.getElem_cons_zero, List.getElem_cons_succ, List.setIfInBounds_toArray, List.set_cons_zero, List.set_cons_succ]
              refine wpAnyH_take (i := 12) (v := ?_) rfl (by kernel_rfl) (by kernel_rfl) (by kernel_rfl) (fun _ _ _ h => h) (Or.inl ⟨by rfl, ?_⟩) (by assumption) ?_
              rotate_left
              · intro w' hSw; (try dsimp only at hSw); go_simp; try with_reducible rfl
              try simp only [Act.put, List.getElem_toArray, List.getElem_cons_zero, List.getElem_cons_succ, List.setIfInBounds_toArray, List.set_cons_zero, List.set_cons_succ]
              refine wpAnyH_take (i := 13) (v := ?_) rfl (by kernel_rfl) (by kernel_rfl) (by kernel_rfl) (fun _ _ _ h => h) (Or.inl ⟨by rfl, ?_⟩) (by assumption) ?_
              rotate_left
              · intro w' hSw; (try dsimp only at hSw); go_simp; try with_reducible rfl
              try simp only [Act.put, List.getElem_toArray, List.getElem_cons_zero, List.getElem_cons_succ, List.setIfInBounds_toArray, List.set_cons_zero, List.set_cons_succ]
              refine wpAnyH_ready (rs := [14]) (by kernel_rfl) (by simp) ?_
              refine AllReadyH.cons rfl (fun K hK => ?_) AllReadyH.nil
              go_simp
              refine (Hpd.out _).mono ?_
              rintro e w3 ⟨rfl, rfl⟩
              try go_simp
              refine hK.out _ _ ?_ (fun hHeld => ?_)
              · (try dsimp only); exact hHeld
              clear hK K
              try simp only [Act.put, List.getElem_toArray, List.getElem_cons_zero, List.getElem_cons_succ, List.setIfInBounds_toArray, List.set_cons_zero, List.set_cons_succ]
              refine wpAnyH_take (i := 15) (v := ?_) rfl (by kernel_rfl) (by kernel_rfl) (by kernel_rfl) (fun _ _ _ h => h) (Or.inl ⟨by rfl, ?_⟩) (by assumption) ?_
              rotate_left
              · intro w' hSw; (try dsimp only at hSw); go_simp; try with_reducible rfl
              try simp only [Act.put, List.getElem_toArray, List.getElem_cons_zero, List.getElem_cons_succ, List.setIfInBounds_toArray, List.set_cons_zero, List.set_cons_succ]
              refine wpAnyH_take (i := 16) (v := ?_) rfl (by kernel_rfl) (by kernel_rfl) (by kernel_rfl) (fun _ _ _ h => h) (Or.inl ⟨by rfl, ?_⟩) (by assumption) ?_
              rotate_left
              · intro w' hSw; (try dsimp only at hSw); go_simp; try with_reducible rfl
              try simp only [Act.put, List.getElem_toArray, List.getElem_cons_zero, List.getElem_cons_succ, List.setIfInBounds_toArray, List.set_cons_zero, List.set_cons_succ]
              refine wpAnyH_take (i := 17) (v := ?_) rfl (by kernel_rfl) (by kernel_rfl) (by kernel_rfl) (fun _ _ _ h => h) (Or.inl ⟨by rfl, ?_⟩) (by assumption) ?_
              rotate_left
              · intro w' hSw; (try dsimp only at hSw); go_simp; try with_reducible rfl
              try simp only [Act.put, List.getElem_toArray, List.getElem_cons_zero, List.getElem_cons_succ, List.setIfInBounds_toArray, List.set_cons_zero, List.set_cons_succ]
              refine wpAnyH_take (i := 18) (v := ?_) rfl (by kernel_rfl) (by kernel_rfl) (by kernel_rfl) (fun _ _ _ h => h) (Or.inl ⟨by rfl, ?_⟩) (by assumption) ?_
              rotate_left
              · intro w' hSw; (try dsimp only at hSw); go_simp; try with_reducible rfl
              try simp only [Act.put, List.getElem_toArray, List.getElem_cons_zero, List.getElem_cons_succ, List.setIfInBounds_toArray, List.set_cons_zero, List.set_cons_succ]
              refine wpAnyH_take (i := 19) (v := ?_) rfl (by kernel_rfl) (by kernel_rfl) (by kernel_rfl) (fun _ _ _ h => h) (Or.inl ⟨by rfl, ?_⟩) (by assumption) ?_
              rotate_left
              · intro w' hSw; (try dsimp only at hSw); go_simp; try with_reducible rfl
              try simp only [Act.put, List.getElem_toArray, List.getElem_cons_zero, List.getElem_cons_succ, List.setIfInBounds_toArray, List.set_cons_zero, List.set_cons_succ]
              refine wpAnyH_take (i := 20) (v := ?_) rfl (by kernel_rfl) (by kernel_rfl) (by kernel_rfl) (fun _ _ _ h => h) (Or.inl ⟨by rfl, ?_⟩) (by assumption) ?_
              rotate_left
              · intro w' hSw; (try dsimp only at hSw); go_simp; try with_reducible rfl
              try simp only [Act.put, List.getElem_toArray, List.getElem_cons_zero, List.getElem_cons_succ, List.setIfInBounds_toArray, List.set_cons_zero, List.set_cons_succ]
              refine wpAnyH_take (i := 21) (v := ?_) rfl (by kernel_rfl) (by kernel_rfl) (by kernel_rfl) (fun _ _ _ h => h) (Or.inl ⟨by rfl, ?_⟩) (by assumption) ?_
              rotate_left
              · intro w' hSw; (try dsimp only at hSw); go_simp; try with_reducible rfl
              try simp only [Act.put, List.getElem_toArray, List.getElem_cons_zero, List.getElem_cons_succ, List.setIfInBounds_toArray, List.set_cons_zero, List.set_cons_succ]
              refine wpAnyH_take (i := 22) (v := ?_) rfl (by kernel_rfl) (by kernel_rfl) (by kernel_rfl) (fun _ _ _ h => h) (Or.inl ⟨by rfl, ?_⟩) (by assumption) ?_
              rotate_left
              · intro w' hSw; (try dsimp only at hSw); go_simp; try with_reducible rfl
              try simp only [Act.put, List.getElem_toArray, List.getElem_cons_zero, List.getElem_cons_succ, List.setIfInBounds_toArray, List.set_cons_zero, List.set_cons_succ]
              refine wpAnyH_take (i := 24) (v := ?_) rfl (by kernel_rfl) (by kernel_rfl) (by kernel_rfl) (fun _ _ _ h => h) (Or.inl ⟨by rfl, ?_⟩) (by assumption) ?_
              rotate_left
              · intro w' hSw; (try dsimp only at hSw); go_simp; try with_reducible rfl
              try simp only [Act.put, List.getElem_toArray, List.getElem_cons_zero, List.getElem_cons_succ, List.setIfInBounds_toArray, List.set_cons_zero, List.set_cons_succ]
              refine wpAnyH_take (i := 25) (v := ?_) rfl (by kernel_rfl) (by kernel_rfl) (by kernel_rfl) (fun _ _ _ h => h) (Or.inl ⟨by rfl, ?_⟩) (by assumption) ?_
              rotate_left
              · intro w' hSw; (try dsimp only at hSw); go_simp; try with_reducible rfl
              try simp only [Act.put, List.getElem_toArray, List.getElem_cons_zero, List.getElem_cons_succ, List.setIfInBounds_toArray, List.set_cons_zero, List.set_cons_succ]
              refine wpAnyH_take (i := 26) (v := ?_) rfl (by kernel_rfl) (by kernel_rfl) (by kernel_rfl) (fun _ _ _ h => h) (Or.inl ⟨by rfl, ?_⟩) (by assumption) ?_
              rotate_left
              · intro w' hSw; (try dsimp only at hSw); go_simp; try with_reducible rfl
              try simp only [Act.put, List.getElem_toArray, List.getElem_cons_zero, List.getElem_cons_succ, List.setIfInBounds_toArray, List.set_cons_zero, List.set_cons_succ]
              refine wpAnyH_take (i := 27) (v := ?_) rfl (by kernel_rfl) (by kernel_rfl) (by kernel_rfl) (fun _ _ _ h => h) (Or.inl ⟨by rfl, ?_⟩) (by assumption) ?_
              rotate_left
              · intro w' hSw; (try dsimp only at hSw); go_simp; try with_reducible rfl
              try simp only [Act.put, List.getElem_toArray, List.getElem_cons_zero, List.getElem_cons_succ, List.setIfInBounds_toArray, List.set_cons_zero, List.set_cons_succ]
              refine wpAnyH_take (i := 28) (v := ?_) rfl (by kernel_rfl) (by kernel_rfl) (by kernel_rfl) (fun _ _ _ h => h) (Or.inl ⟨by rfl, ?_⟩) (by assumption) ?_
              rotate_left
              · intro w' hSw; (try dsimp only at hSw); go_simp; try with_reducible rfl
              try simp only [Act.put, List.getElem_toArray, List.getElem_cons_zero, List.getElem_cons_succ, List.setIfInBounds_toArray, List.set_cons_zero, List.set_cons_succ]
              refine wpAnyH_take (i := 29) (v := ?_) rfl (by kernel_rfl) (by kernel_rfl) (by kernel_rfl) (fun _ _ _ h => h) (Or.inl ⟨by rfl, ?_⟩) (by assumption) ?_
              rotate_left
              · intro w' hSw; (try dsimp only at hSw); go_simp; try with_reducible rfl
              try simp only [Act.put, List.getElem_toArray, List.getElem_cons_zero, List.getElem_cons_succ, List.setIfInBounds_toArray, List.set_cons_zero, List.set_cons_succ]
              refine wpAnyH_ready (rs := [23]) (by kernel_rfl) (by simp) ?_
              refine AllReadyH.cons rfl (fun K hK => ?_) AllReadyH.nil
              go_simp
              refine (same_ok (HP3.out.two.pin 0 (by decide)).at_.s (HP3.out.two.pin 1 (by decide)).at_.s).mono ?_
              rintro e w4 ⟨rfl, hf4⟩
              have HP4 := Lib.hid (HP3.out.keep hf4); have Hf4 := Lib.hid hf4
              clear hf4
              generalize hbq : decide (upd Bk k B' 0 = upd Bk k B' 1) = bq
              have Hbq := Lib.hid hbq
              clear hbq
              try go_simp
              refine hK.out _ _ ?_ (fun hHeld => ?_)
              · (try dsimp only); exact ⟨(Hf4.out.cell (World.block_lt_of_cell? _ _ hHeld.1) (fun h => h)).trans hHeld.1, (Hf4.out.cell (World.block_lt_of_cell? _ _ hHeld.2.1) (fun h => h)).trans hHeld.2.1, (Hf4.out.cell (World.block_lt_of_cell? _ _ hHeld.2.2.1) (fun h => h)).trans hHeld.2.2.1, HP4.out.two.xc Hk.out, HP4.out.two.yc Hk.out, HP4.out.two.xc (k := 0) (by decide), HP4.out.two.xc (k := 1) (by decide), HP4.out.two.yc (k := 0) (by decide), HP4.out.two.yc (k := 1) (by decide)⟩
              clear hK K
              try simp only [Act.put, List.getElem_toArray, List.getElem_cons_zero, List.getElem_cons_succ, List.setIfInBounds_toArray, List.set_cons_zero, List.set_cons_succ]
              refine wpAnyH_ready (rs := [30]) (by kernel_rfl) (by simp) ?_
              refine AllReadyH.cons rfl (fun K hK => ?_) AllReadyH.nil
              go_simp
              refine (rsame_ok (HP4.out.two.pin 0 (by decide)).at_.r (HP4.out.two.pin 1 (by decide)).at_.r).mono ?_
              rintro e w5 ⟨rfl, hf5⟩
              have HP5 := Lib.hid (HP4.out.keep hf5); have Hf5 := Lib.hid hf5
              clear hf5
              rw [Hbq.out]
              try go_simp
              refine hK.out _ _ ?_ (fun hHeld => ?_)
              · (try dsimp only); exact ⟨(Hf5.out.cell (World.block_lt_of_cell? _ _ hHeld.1) (fun h => h)).trans hHeld.1, (Hf5.out.cell (World.block_lt_of_cell? _ _ hHeld.2.1) (fun h => h)).trans hHeld.2.1, (Hf5.out.cell (World.block_lt_of_cell? _ _ hHeld.2.2.1) (fun h => h)).trans hHeld.2.2.1, HP5.out.two.xc Hk.out, HP5.out.two.yc Hk.out, HP5.out.two.xc (k := 0) (by decide), HP5.out.two.xc (k := 1) (by decide), HP5.out.two.yc (k := 0) (by decide), HP5.out.two.yc (k := 1) (by decide)⟩
              clear hK K
              try simp only [Act.put, List.getElem_toArray, List.getElem_cons_zero, List.getElem_cons_succ, List.setIfInBounds_toArray, List.set_cons_zero, List.set_cons_succ]
              refine wpAnyH_take (i := 31) (v := ?_) rfl (by kernel_rfl) (by kernel_rfl) (by kernel_rfl) (fun _ _ _ h => h) (Or.inl ⟨by rfl, ?_⟩) (by assumption) ?_
              rotate_left
              · intro w' hSw; (try dsimp only at hSw); go_simp; try with_reducible rfl
              try simp only [Act.put, List.getElem_toArray, List.getElem_cons_zero, List.getElem_cons_succ, List.setIfInBounds_toArray, List.set_cons_zero, List.set_cons_succ]
              refine wpAnyH_take (i := 32) (v := ?_) rfl (by kernel_rfl) (by kernel_rfl) (by kernel_rfl) (fun _ _ _ h => h) (Or.inl ⟨by rfl, ?_⟩) (by assumption) ?_
              rotate_left
              · intro w' hSw; (try dsimp only at hSw); go_simp; try with_reducible rfl
              try simp only [Act.put, List.getElem_toArray, List.getElem_cons_zero, List.getElem_cons_succ, List.setIfInBounds_toArray, List.set_cons_zero, List.set_cons_succ]
              refine wpAnyH_take (i := 33) (v := ?_) rfl (by kernel_rfl) (by kernel_rfl) (by kernel_rfl) (fun _ _ _ h => h) (Or.inl ⟨by rfl, ?_⟩) (by assumption) ?_
              rotate_left
              · intro w' hSw; (try dsimp only at hSw); go_simp; try with_reducible rfl
              try simp only [Act.put, List.getElem_toArray, List.getElem_cons_zero, List.getElem_cons_succ, List.setIfInBounds_toArray, List.set_cons_zero, List.set_cons_succ]
              refine wpAnyH_done (by kernel_rfl) ?_ _
              go_wp2_with fail
              go_meet
              exact ⟨by first | rfl | simp, B', HP5.out, hHeld.1⟩
            · have b9 : (d == 9) = false := by simpa using h9
              clear h9
              refine wp_region_held_drew (S := fun w' => w'.cell? ⟨ob, 0, none⟩ = some (.int .i64 xd) ∧ w'.cell? ⟨ob, 1, none⟩ = some (.int .i64 xo) ∧ w'.cell? ⟨ob, 2, none⟩ = some (.int .i64 xi) ∧ w'.cell? ⟨xb, k, none⟩ = some (.pointer (some ⟨(pk k).bh, 0, none⟩)) ∧ w'.cell? ⟨yb, k, none⟩ = some (.pointer (some ⟨(pk k).rh, 0, none⟩)) ∧ w'.cell? ⟨xb, 0, none⟩ = some (.pointer (some ⟨(pk 0).bh, 0, none⟩)) ∧ w'.cell? ⟨xb, 1, none⟩ = some (.pointer (some ⟨(pk 1).bh, 0, none⟩)) ∧ w'.cell? ⟨yb, 0, none⟩ = some (.pointer (some ⟨(pk 0).rh, 0, none⟩)) ∧ w'.cell? ⟨yb, 1, none⟩ = some (.pointer (some ⟨(pk 1).rh, 0, none⟩))) (by kernel_rfl) (by exact ⟨o0, o1, o2, HP2.out.two.xc Hk.out, HP2.out.two.yc Hk.out, HP2.out.two.xc (k := 0) (by decide), HP2.out.two.xc (k := 1) (by decide), HP2.out.two.yc (k := 0) (by decide), HP2.out.two.yc (k := 1) (by decide)⟩) (fun hHeld => ?_)
              refine wpAnyH_take (i := 0) (v := ?_) rfl (by kernel_rfl) (by kernel_rfl) (by kernel_rfl) (fun _ _ _ h => h) (Or.inl ⟨by rfl, ?_⟩) (by assumption) ?_
              rotate_left
              · intro w' hSw; (try dsimp only at hSw); go_simp; try with_reducible rfl
              try simp only [Act.put, List.getElem_toArray, List.getElem_cons_zero, List.getElem_cons_succ, List.setIfInBounds_toArray, List.set_cons_zero, List.set_cons_succ]
              refine wpAnyH_take (i := 1) (v := ?_) rfl (by kernel_rfl) (by kernel_rfl) (by kernel_rfl) (fun _ _ _ h => h) (Or.inl ⟨by rfl, ?_⟩) (by assumption) ?_
              rotate_left
              · intro w' hSw; (try dsimp only at hSw); go_simp; try with_reducible rfl
              try simp only [Act.put, List.getElem_toArray, List.getElem_cons_zero, List.getElem_cons_succ, List.setIfInBounds_toArray, List.set_cons_zero, List.set_cons_succ]
              refine wpAnyH_take (i := 2) (v := ?_) rfl (by kernel_rfl) (by kernel_rfl) (by kernel_rfl) (fun _ _ _ h => h) (Or.inl ⟨by rfl, ?_⟩) (by assumption) ?_
              rotate_left
              · intro w' hSw; (try dsimp only at hSw); go_simp; try with_reducible rfl
              try simp only [Act.put, List.getElem_toArray, List.getElem_cons_zero, List.getElem_cons_succ, List.setIfInBounds_toArray, List.set_cons_zero, List.set_cons_succ]
              refine wpAnyH_take (i := 3) (v := ?_) rfl (by kernel_rfl) (by kernel_rfl) (by kernel_rfl) (fun _ _ _ h => h) (Or.inl ⟨by rfl, ?_⟩) (by assumption) ?_
              rotate_left
              · intro w' hSw; (try dsimp only at hSw); go_simp; try with_reducible rfl
              try simp only [Act.put, List.getElem_toArray, List.getElem_cons_zero, List.getElem_cons_succ, List.setIfInBounds_toArray, List.set_cons_zero, List.set_cons_succ]
              refine wpAnyH_take (i := 4) (v := ?_) rfl (by kernel_rfl) (by kernel_rfl) (by kernel_rfl) (fun _ _ _ h => h) (Or.inl ⟨by rfl, ?_⟩) (by assumption) ?_
              rotate_left
              · intro w' hSw; (try dsimp only at hSw); go_simp; try with_reducible rfl
              try simp only [Act.put, List.getElem_toArray, List.getElem_cons_zero, List.getElem_cons_succ, List.setIfInBounds_toArray, List.set_cons_zero, List.set_cons_succ]
              refine wpAnyH_take (i := 5) (v := ?_) rfl (by kernel_rfl) (by kernel_rfl) (by kernel_rfl) (fun _ _ _ h => h) (Or.inl ⟨by rfl, ?_⟩) (by assumption) ?_
              rotate_left
              · intro w' hSw; (try dsimp only at hSw); go_simp; try with_reducible rfl
              try simp only [Act.put, List.getElem_toArray, List.getElem_cons_zero, List.getElem_cons_succ, List.setIfInBounds_toArray, List.set_cons_zero, List.set_cons_succ]
              refine wpAnyH_take (i := 6) (v := ?_) rfl (by kernel_rfl) (by kernel_rfl) (by kernel_rfl) (fun _ _ _ h => h) (Or.inl ⟨by rfl, ?_⟩) (by assumption) ?_
              rotate_left
              · intro w' hSw; (try dsimp only at hSw); go_simp; try with_reducible rfl
              try simp only [Act.put, List.getElem_toArray, List.getElem_cons_zero, List.getElem_cons_succ, List.setIfInBounds_toArray, List.set_cons_zero, List.set_cons_succ]
              refine wpAnyH_take (i := 7) (v := ?_) rfl (by kernel_rfl) (by kernel_rfl) (by kernel_rfl) (fun _ _ _ h => h) (Or.inl ⟨by rfl, ?_⟩) (by assumption) ?_
              rotate_left
              · intro w' hSw; (try dsimp only at hSw); go_simp; try with_reducible rfl
              try simp only [Act.put, List.getElem_toArray, List.getElem_cons_zero, List.getElem_cons_succ, List.setIfInBounds_toArray, List.set_cons_zero, List.set_cons_succ]
              refine wpAnyH_take (i := 8) (v := ?_) rfl (by kernel_rfl) (by kernel_rfl) (by kernel_rfl) (fun _ _ _ h => h) (Or.inl ⟨by rfl, ?_⟩) (by assumption) ?_
              rotate_left
              · intro w' hSw; (try dsimp only at hSw); go_simp; try with_reducible rfl
              try simp only [Act.put, List.getElem_toArray, List.getElem_cons_zero, List.getElem_cons_succ, List.setIfInBounds_toArray, List.set_cons_zero, List.set_cons_succ]
              refine wpAnyH_ready (rs := [9]) (by kernel_rfl) (by simp) ?_
              refine AllReadyH.cons rfl (fun K hK => ?_) AllReadyH.nil
              go_simp
              refine (one_ok (HTab.out.fr (Fr.drew (Fr.refl (fun _ => False) _)) (fun h => h)) ((HP2.out.keep (Fr.drew (Fr.refl _ _))).two.pin k Hk.out).at_ xd xo xi Fxd.out).mono ?_
              rintro e w2 ⟨rfl, B', hl2, hp2, hf2⟩
              have HP3 := Lib.hid ((HP2.out.keep (Fr.drew (Fr.refl _ _))).one Hk.out hp2 hf2)
              have Hf2 := Lib.hid hf2
              clear hl2 hp2 hf2
              try go_simp
              refine hK.out _ _ ?_ (fun hHeld => ?_)
              · (try dsimp only); exact ⟨(Hf2.out.cell (World.block_lt_of_cell? _ _ hHeld.1) (fun e => HobN.out _ e rfl)).trans hHeld.1, (Hf2.out.cell (World.block_lt_of_cell? _ _ hHeld.2.1) (fun e => HobN.out _ e rfl)).trans hHeld.2.1, (Hf2.out.cell (World.block_lt_of_cell? _ _ hHeld.2.2.1) (fun e => HobN.out _ e rfl)).trans hHeld.2.2.1, HP3.out.two.xc Hk.out, HP3.out.two.yc Hk.out, HP3.out.two.xc (k := 0) (by decide), HP3.out.two.xc (k := 1) (by decide), HP3.out.two.yc (k := 0) (by decide), HP3.out.two.yc (k := 1) (by decide)⟩
              clear hK K
              try simp only [Act.put, List.getElem_toArray, List.getElem_cons_zero, List.getElem_cons_succ, List.setIfInBounds_toArray, List.set_cons_zero, List.set_cons_succ]
              refine wpAnyH_take (i := 10) (v := ?_) rfl (by kernel_rfl) (by kernel_rfl) (by kernel_rfl) (fun _ _ _ h => h) (Or.inl ⟨by rfl, ?_⟩) (by assumption) ?_
              rotate_left
              · intro w' hSw; (try dsimp only at hSw); go_simp; try with_reducible rfl
              try simp only [Act.put, List.getElem_toArray, List.getElem_cons_zero, List.getElem_cons_succ, List.setIfInBounds_toArray, List.set_cons_zero, List.set_cons_succ]
              refine wpAnyH_take (i := 11) (v := ?_) rfl (by kernel_rfl) (by kernel_rfl) (by kernel_rfl) (fun _ _ _ h => h) (Or.inl ⟨by rfl, ?_⟩) (by assumption) ?_
              rotate_left
              · intro w' hSw; (try dsimp only at hSw); go_simp; try with_reducible rfl
              try simp only [Act.put, List.getElem_toArray, List.getElem_cons_zero, List.getElem_cons_succ, List.setIfInBounds_toArray, List.set_cons_zero, List.set_cons_succ]
              refine wpAnyH_take (i := 12) (v := ?_) rfl (by kernel_rfl) (by kernel_rfl) (by kernel_rfl) (fun _ _ _ h => h) (Or.inl ⟨by rfl, ?_⟩) (by assumption) ?_
              rotate_left
              · intro w' hSw; (try dsimp only at hSw); go_simp; try with_reducible rfl
              try simp only [Act.put, List.getElem_toArray, List.getElem_cons_zero, List.getElem_cons_succ, List.setIfInBounds_toArray, List.set_cons_zero, List.set_cons_succ]
              refine wpAnyH_take (i := 13) (v := ?_) rfl (by kernel_rfl) (by kernel_rfl) (by kernel_rfl) (fun _ _ _ h => h) (Or.inl ⟨by rfl, ?_⟩) (by assumption) ?_
              rotate_left
              · intro w' hSw; (try dsimp only at hSw); go_simp; try with_reducible rfl
              try simp only [Act.put, List.getElem_toArray, List.getElem_cons_zero, List.getElem_cons_succ, List.setIfInBounds_toArray, List.set_cons_zero, List.set_cons_succ]
              refine wpAnyH_ready (rs := [14]) (by kernel_rfl) (by simp) ?_
              refine AllReadyH.cons rfl (fun K hK => ?_) AllReadyH.nil
              go_simp
              refine (Hpd.out _).mono ?_
              rintro e w3 ⟨rfl, rfl⟩
              try go_simp
              refine hK.out _ _ ?_ (fun hHeld => ?_)
              · (try dsimp only); exact hHeld
              clear hK K
              try simp only [Act.put, List.getElem_toArray, List.getElem_cons_zero, List.getElem_cons_succ, List.setIfInBounds_toArray, List.set_cons_zero, List.set_cons_succ]
              refine wpAnyH_take (i := 15) (v := ?_) rfl (by kernel_rfl) (by kernel_rfl) (by kernel_rfl) (fun _ _ _ h => h) (Or.inl ⟨by rfl, ?_⟩) (by assumption) ?_
              rotate_left
              · intro w' hSw; (try dsimp only at hSw); go_simp; try with_reducible rfl
              try simp only [Act.put, List.getElem_toArray, List.getElem_cons_zero, List.getElem_cons_succ, List.setIfInBounds_toArray, List.set_cons_zero, List.set_cons_succ]
              refine wpAnyH_take (i := 16) (v := ?_) rfl (by kernel_rfl) (by kernel_rfl) (by kernel_rfl) (fun _ _ _ h => h) (Or.inl ⟨by rfl, ?_⟩) (by assumption) ?_
              rotate_left
              · intro w' hSw; (try dsimp only at hSw); go_simp; try with_reducible rfl
              try simp only [Act.put, List.getElem_toArray, List.getElem_cons_zero, List.getElem_cons_succ, List.setIfInBounds_toArray, List.set_cons_zero, List.set_cons_succ]
              refine wpAnyH_take (i := 17) (v := undef) rfl (by kernel_rfl) (by kernel_rfl) (by kernel_rfl) (fun _ _ _ h => h) (Or.inr ⟨rfl, rfl⟩) (by assumption) ?_
              try simp only [Act.put, List.getElem_toArray, List.getElem_cons_zero, List.getElem_cons_succ, List.setIfInBounds_toArray, List.set_cons_zero, List.set_cons_succ]
              refine wpAnyH_take (i := 18) (v := undef) rfl (by kernel_rfl) (by kernel_rfl) (by kernel_rfl) (fun _ _ _ h => h) (Or.inr ⟨rfl, rfl⟩) (by assumption) ?_
              try simp only [Act.put, List.getElem_toArray, List.getElem_cons_zero, List.getElem_cons_succ, List.setIfInBounds_toArray, List.set_cons_zero, List.set_cons_succ]
              refine wpAnyH_take (i := 19) (v := undef) rfl (by kernel_rfl) (by kernel_rfl) (by kernel_rfl) (fun _ _ _ h => h) (Or.inr ⟨rfl, rfl⟩) (by assumption) ?_
              try simp only [Act.put, List.getElem_toArray, List.getElem_cons_zero, List.getElem_cons_succ, List.setIfInBounds_toArray, List.set_cons_zero, List.set_cons_succ]
              refine wpAnyH_take (i := 20) (v := undef) rfl (by kernel_rfl) (by kernel_rfl) (by kernel_rfl) (fun _ _ _ h => h) (Or.inr ⟨rfl, rfl⟩) (by assumption) ?_
              try simp only [Act.put, List.getElem_toArray, List.getElem_cons_zero, List.getElem_cons_succ, List.setIfInBounds_toArray, List.set_cons_zero, List.set_cons_succ]
              refine wpAnyH_take (i := 21) (v := undef) rfl (by kernel_rfl) (by kernel_rfl) (by kernel_rfl) (fun _ _ _ h => h) (Or.inr ⟨rfl, rfl⟩) (by assumption) ?_
              try simp only [Act.put, List.getElem_toArray, List.getElem_cons_zero, List.getElem_cons_succ, List.setIfInBounds_toArray, List.set_cons_zero, List.set_cons_succ]
              refine wpAnyH_take (i := 22) (v := undef) rfl (by kernel_rfl) (by kernel_rfl) (by kernel_rfl) (fun _ _ _ h => h) (Or.inr ⟨rfl, rfl⟩) (by assumption) ?_
              try simp only [Act.put, List.getElem_toArray, List.getElem_cons_zero, List.getElem_cons_succ, List.setIfInBounds_toArray, List.set_cons_zero, List.set_cons_succ]
              refine wpAnyH_take (i := 23) (v := undef) rfl (by kernel_rfl) (by kernel_rfl) (by kernel_rfl) (fun _ _ _ h => h) (Or.inr ⟨rfl, rfl⟩) (by assumption) ?_
              try simp only [Act.put, List.getElem_toArray, List.getElem_cons_zero, List.getElem_cons_succ, List.setIfInBounds_toArray, List.set_cons_zero, List.set_cons_succ]
              refine wpAnyH_take (i := 24) (v := undef) rfl (by kernel_rfl) (by kernel_rfl) (by kernel_rfl) (fun _ _ _ h => h) (Or.inr ⟨rfl, rfl⟩) (by assumption) ?_
              try simp only [Act.put, List.getElem_toArray, List.getElem_cons_zero, List.getElem_cons_succ, List.setIfInBounds_toArray, List.set_cons_zero, List.set_cons_succ]
              refine wpAnyH_take (i := 25) (v := undef) rfl (by kernel_rfl) (by kernel_rfl) (by kernel_rfl) (fun _ _ _ h => h) (Or.inr ⟨rfl, rfl⟩) (by assumption) ?_
              try simp only [Act.put, List.getElem_toArray, List.getElem_cons_zero, List.getElem_cons_succ, List.setIfInBounds_toArray, List.set_cons_zero, List.set_cons_succ]
              refine wpAnyH_take (i := 26) (v := undef) rfl (by kernel_rfl) (by kernel_rfl) (by kernel_rfl) (fun _ _ _ h => h) (Or.inr ⟨rfl, rfl⟩) (by assumption) ?_
              try simp only [Act.put, List.getElem_toArray, List.getElem_cons_zero, List.getElem_cons_succ, List.setIfInBounds_toArray, List.set_cons_zero, List.set_cons_succ]
              refine wpAnyH_take (i := 27) (v := undef) rfl (by kernel_rfl) (by kernel_rfl) (by kernel_rfl) (fun _ _ _ h => h) (Or.inr ⟨rfl, rfl⟩) (by assumption) ?_
              try simp only [Act.put, List.getElem_toArray, List.getElem_cons_zero, List.getElem_cons_succ, List.setIfInBounds_toArray, List.set_cons_zero, List.set_cons_succ]
              refine wpAnyH_take (i := 28) (v := undef) rfl (by kernel_rfl) (by kernel_rfl) (by kernel_rfl) (fun _ _ _ h => h) (Or.inr ⟨rfl, rfl⟩) (by assumption) ?_
              try simp only [Act.put, List.getElem_toArray, List.getElem_cons_zero, List.getElem_cons_succ, List.setIfInBounds_toArray, List.set_cons_zero, List.set_cons_succ]
              refine wpAnyH_take (i := 29) (v := undef) rfl (by kernel_rfl) (by kernel_rfl) (by kernel_rfl) (fun _ _ _ h => h) (Or.inr ⟨rfl, rfl⟩) (by assumption) ?_
              try simp only [Act.put, List.getElem_toArray, List.getElem_cons_zero, List.getElem_cons_succ, List.setIfInBounds_toArray, List.set_cons_zero, List.set_cons_succ]
              refine wpAnyH_take (i := 30) (v := undef) rfl (by kernel_rfl) (by kernel_rfl) (by kernel_rfl) (fun _ _ _ h => h) (Or.inr ⟨rfl, rfl⟩) (by assumption) ?_
              try simp only [Act.put, List.getElem_toArray, List.getElem_cons_zero, List.getElem_cons_succ, List.setIfInBounds_toArray, List.set_cons_zero, List.set_cons_succ]
              refine wpAnyH_take (i := 31) (v := undef) rfl (by kernel_rfl) (by kernel_rfl) (by kernel_rfl) (fun _ _ _ h => h) (Or.inr ⟨rfl, rfl⟩) (by assumption) ?_
              try simp only [Act.put, List.getElem_toArray, List.getElem_cons_zero, List.getElem_cons_succ, List.setIfInBounds_toArray, List.set_cons_zero, List.set_cons_succ]
              refine wpAnyH_take (i := 32) (v := ?_) rfl (by kernel_rfl) (by kernel_rfl) (by kernel_rfl) (fun _ _ _ h => h) (Or.inl ⟨by rfl, ?_⟩) (by assumption) ?_
              rotate_left
              · intro w' hSw; (try dsimp only at hSw); go_simp; try with_reducible rfl
              try simp only [Act.put, List.getElem_toArray, List.getElem_cons_zero, List.getElem_cons_succ, List.setIfInBounds_toArray, List.set_cons_zero, List.set_cons_succ]
              refine wpAnyH_take (i := 33) (v := ?_) rfl (by kernel_rfl) (by kernel_rfl) (by kernel_rfl) (fun _ _ _ h => h) (Or.inl ⟨by rfl, ?_⟩) (by assumption) ?_
              rotate_left
              · intro w' hSw; (try dsimp only at hSw); go_simp; try with_reducible rfl
              try simp only [Act.put, List.getElem_toArray, List.getElem_cons_zero, List.getElem_cons_succ, List.setIfInBounds_toArray, List.set_cons_zero, List.set_cons_succ]
              refine wpAnyH_done (by kernel_rfl) ?_ _
              go_wp2_with fail
              go_meet
              exact ⟨by first | rfl | simp, B', HP3.out, hHeld.1⟩
          case rest =>
          obtain ⟨rfl, B', hQ, o0'⟩ := hcut
          have HQ := Lib.hid hQ
          have q0 := hQ.c
          clear hQ o0 o1 o2
          obtain ⟨m, hm⟩ : ∃ m, m = 1 - k := ⟨_, rfl⟩
          have Hm := Lib.hid hm
          have Hm2 := Lib.hid (show m < 2 by omega)
          have hkm : ¬ k = m := by have := Hk.out; omega
          have hm1 : (1 : Int) - (k : Int) = (m : Int) := by have := Hk.out; omega
          have hmi : (m : Int) < 2 := by omega
          have hm0 : (0 : Int) ≤ (m : Int) := by omega
          have hmw : IntKind.i64.wrap (m : Int) = (m : Int) := by rw [IntKind.wrap_i64]; omega
          clear hm
          by_cases h10 : d = 10
          · have b10 : (d == 10) = true := by simpa using h10
            clear h10
            go_wp2_with fail
            refine (Hpd.out _).mono ?_
            rintro e w6 ⟨rfl, rfl⟩
            go_upto_region 19 with fail
            refine wp_region_held_drew (S := fun w' => w'.cell? ⟨xb, k, none⟩ = some (.pointer (some ⟨(pk k).bh, 0, none⟩)) ∧ w'.cell? ⟨yb, k, none⟩ = some (.pointer (some ⟨(pk k).rh, 0, none⟩))) (by kernel_rfl) (by exact ⟨HQ.out.two.xc Hk.out, HQ.out.two.yc Hk.out⟩) (fun hHeld => ?_)
            refine wpAnyH_take (i := 0) (v := ?_) rfl (by kernel_rfl) (by kernel_rfl) (by kernel_rfl) (fun _ _ _ h => h) (Or.inl ⟨by rfl, ?_⟩) (by assumption) ?_
            rotate_left
            · intro w' hSw; (try dsimp only at hSw); go_simp; try with_reducible rfl
            try simp only [Act.put, List.getElem_toArray, List.getElem_cons_zero, List.getElem_cons_succ, List.setIfInBounds_toArray, List.set_cons_zero, List.set_cons_succ]
            refine wpAnyH_take (i := 1) (v := ?_) rfl (by kernel_rfl) (by kernel_rfl) (by kernel_rfl) (fun _ _ _ h => h) (Or.inl ⟨by rfl, ?_⟩) (by assumption) ?_
            rotate_left
            · intro w' hSw; (try dsimp only at hSw); go_simp; try with_reducible rfl
            try simp only [Act.put, List.getElem_toArray, List.getElem_cons_zero, List.getElem_cons_succ, List.setIfInBounds_toArray, List.set_cons_zero, List.set_cons_succ]
            refine wpAnyH_take (i := 2) (v := ?_) rfl (by kernel_rfl) (by kernel_rfl) (by kernel_rfl) (fun _ _ _ h => h) (Or.inl ⟨by rfl, ?_⟩) (by assumption) ?_
            rotate_left
            · intro w' hSw; (try dsimp only at hSw); go_simp; try with_reducible rfl
            try simp only [Act.put, List.getElem_toArray, List.getElem_cons_zero, List.getElem_cons_succ, List.setIfInBounds_toArray, List.set_cons_zero, List.set_cons_succ]
            refine wpAnyH_take (i := 3) (v := ?_) rfl (by kernel_rfl) (by kernel_rfl) (by kernel_rfl) (fun _ _ _ h => h) (Or.inl ⟨by rfl, ?_⟩) (by assumption) ?_
            rotate_left
            · intro w' hSw; (try dsimp only at hSw); go_simp; try with_reducible rfl
            try simp only [Act.put, List.getElem_toArray, List.getElem_cons_zero, List.getElem_cons_succ, List.setIfInBounds_toArray, List.set_cons_zero, List.set_cons_succ]
            refine wpAnyH_take (i := 4) (v := ?_) rfl (by kernel_rfl) (by kernel_rfl) (by kernel_rfl) (fun _ _ _ h => h) (Or.inl ⟨by rfl, ?_⟩) (by assumption) ?_
            rotate_left
            · intro w' hSw; (try dsimp only at hSw); go_simp; try with_reducible rfl
            try simp only [Act.put, List.getElem_toArray, List.getElem_cons_zero, List.getElem_cons_succ, List.setIfInBounds_toArray, List.set_cons_zero, List.set_cons_succ]
            refine wpAnyH_take (i := 5) (v := ?_) rfl (by kernel_rfl) (by kernel_rfl) (by kernel_rfl) (fun _ _ _ h => h) (Or.inl ⟨by rfl, ?_⟩) (by assumption) ?_
            rotate_left
            · intro w' hSw; (try dsimp only at hSw); go_simp; try with_reducible rfl
            try simp only [Act.put, List.getElem_toArray, List.getElem_cons_zero, List.getElem_cons_succ, List.setIfInBounds_toArray, List.set_cons_zero, List.set_cons_succ]
            refine wpAnyH_take (i := 6) (v := ?_) rfl (by kernel_rfl) (by kernel_rfl) (by kernel_rfl) (fun _ _ _ h => h) (Or.inl ⟨by rfl, ?_⟩) (by assumption) ?_
            rotate_left
            · intro w' hSw; (try dsimp only at hSw); go_simp; try with_reducible rfl
            try simp only [Act.put, List.getElem_toArray, List.getElem_cons_zero, List.getElem_cons_succ, List.setIfInBounds_toArray, List.set_cons_zero, List.set_cons_succ]
            refine wpAnyH_take (i := 7) (v := ?_) rfl (by kernel_rfl) (by kernel_rfl) (by kernel_rfl) (fun _ _ _ h => h) (Or.inl ⟨by rfl, ?_⟩) (by assumption) ?_
            rotate_left
            · intro w' hSw; (try dsimp only at hSw); go_simp; try with_reducible rfl
            try simp only [Act.put, List.getElem_toArray, List.getElem_cons_zero, List.getElem_cons_succ, List.setIfInBounds_toArray, List.set_cons_zero, List.set_cons_succ]
            refine wpAnyH_take (i := 8) (v := ?_) rfl (by kernel_rfl) (by kernel_rfl) (by kernel_rfl) (fun _ _ _ h => h) (Or.inl ⟨by rfl, ?_⟩) (by assumption) ?_
            rotate_left
            · intro w' hSw; (try dsimp only at hSw); go_simp; try with_reducible rfl
            try simp only [Act.put, List.getElem_toArray, List.getElem_cons_zero, List.getElem_cons_succ, List.setIfInBounds_toArray, List.set_cons_zero, List.set_cons_succ]
            refine wpAnyH_take (i := 9) (v := ?_) rfl (by kernel_rfl) (by kernel_rfl) (by kernel_rfl) (fun _ _ _ h => h) (Or.inl ⟨by rfl, ?_⟩) (by assumption) ?_
            rotate_left
            · intro w' hSw; (try dsimp only at hSw); go_simp; try with_reducible rfl
            try simp only [Act.put, List.getElem_toArray, List.getElem_cons_zero, List.getElem_cons_succ, List.setIfInBounds_toArray, List.set_cons_zero, List.set_cons_succ]
            refine wpAnyH_take (i := 11) (v := ?_) rfl (by kernel_rfl) (by kernel_rfl) (by kernel_rfl) (fun _ _ _ h => h) (Or.inl ⟨by rfl, ?_⟩) (by assumption) ?_
            rotate_left
            · intro w' hSw; (try dsimp only at hSw); go_simp; try with_reducible rfl
            try simp only [Act.put, List.getElem_toArray, List.getElem_cons_zero, List.getElem_cons_succ, List.setIfInBounds_toArray, List.set_cons_zero, List.set_cons_succ]
            refine wpAnyH_take (i := 12) (v := ?_) rfl (by kernel_rfl) (by kernel_rfl) (by kernel_rfl) (fun _ _ _ h => h) (Or.inl ⟨by rfl, ?_⟩) (by assumption) ?_
            rotate_left
            · intro w' hSw; (try dsimp only at hSw); go_simp; try with_reducible rfl
            try simp only [Act.put, List.getElem_toArray, List.getElem_cons_zero, List.getElem_cons_succ, List.setIfInBounds_toArray, List.set_cons_zero, List.set_cons_succ]
            refine wpAnyH_take (i := 13) (v := ?_) rfl (by kernel_rfl) (by kernel_rfl) (by kernel_rfl) (fun _ _ _ h => h) (Or.inl ⟨by rfl, ?_⟩) (by assumption) ?_
            rotate_left
            · intro w' hSw; (try dsimp only at hSw); go_simp; try with_reducible rfl
            try simp only [Act.put, List.getElem_toArray, List.getElem_cons_zero, List.getElem_cons_succ, List.setIfInBounds_toArray, List.set_cons_zero, List.set_cons_succ]
            refine wpAnyH_take (i := 14) (v := ?_) rfl (by kernel_rfl) (by kernel_rfl) (by kernel_rfl) (fun _ _ _ h => h) (Or.inl ⟨by rfl, ?_⟩) (by assumption) ?_
            rotate_left
            · intro w' hSw; (try dsimp only at hSw); go_simp; try with_reducible rfl
            try simp only [Act.put, List.getElem_toArray, List.getElem_cons_zero, List.getElem_cons_succ, List.setIfInBounds_toArray, List.set_cons_zero, List.set_cons_succ]
            refine wpAnyH_ready (rs := [10]) (by kernel_rfl) (by simp) ?_
            refine AllReadyH.cons rfl (fun K hK => ?_) AllReadyH.nil
            go_simp
            refine (copy_ok ((HQ.out.keep (Fr.drew (Fr.refl _ _))).two.pin k Hk.out).at_.s).mono ?_
            rintro e w2 ⟨bh2, v2, rfl, hn2⟩
            have HN2 := Lib.hid hn2
            have HQ4 := Lib.hid ((HQ.out.keep (Fr.drew (Fr.refl _ _))).keep hn2.fr)
            clear hn2
            try go_simp
            refine hK.out _ _ ?_ (fun hHeld => ?_)
            · (try dsimp only); exact ⟨HQ4.out.two.xc Hk.out, HQ4.out.two.yc Hk.out⟩
            clear hK K
            try simp only [Act.put, List.getElem_toArray, List.getElem_cons_zero, List.getElem_cons_succ, List.setIfInBounds_toArray, List.set_cons_zero, List.set_cons_succ]
            refine wpAnyH_ready (rs := [15]) (by kernel_rfl) (by simp) ?_
            refine AllReadyH.cons rfl (fun K hK => ?_) AllReadyH.nil
            go_simp
            have hpk := (HQ4.out.two.pin k Hk.out).at_.r
            obtain ⟨rg, rn, rc, hrv⟩ := (HQ4.out.two.pin k Hk.out).some_
            rw [hrv] at hpk
            refine (rcopy_ok hpk).mono ?_
            rintro e w3 ⟨rh2, rg2, rc2, rfl, hn3⟩
            have HN3 := Lib.hid hn3
            have HQ5 := Lib.hid (HQ4.out.keep hn3.fr)
            have x5 := HQ5.out.two.xc Hm2.out
            have y5 := HQ5.out.two.yc Hm2.out
            have xf5 := free_of HQ5.out.two.hx m
            have yf5 := free_of HQ5.out.two.hy m
            clear hn3 hpk hrv
            try go_simp
            refine hK.out _ _ ?_ (fun hHeld => ?_)
            · (try dsimp only); exact ⟨HQ5.out.two.xc Hk.out, HQ5.out.two.yc Hk.out⟩
            clear hK K
            try simp only [Act.put, List.getElem_toArray, List.getElem_cons_zero, List.getElem_cons_succ, List.setIfInBounds_toArray, List.set_cons_zero, List.set_cons_succ]
            refine wpAnyH_take (i := 16) (v := ?_) rfl (by kernel_rfl) (by kernel_rfl) (by kernel_rfl) (fun _ _ _ h => h) (Or.inl ⟨by rfl, ?_⟩) (by assumption) ?_
            rotate_left
            · intro w' hSw; (try dsimp only at hSw); go_simp; try with_reducible rfl
            try simp only [Act.put, List.getElem_toArray, List.getElem_cons_zero, List.getElem_cons_succ, List.setIfInBounds_toArray, List.set_cons_zero, List.set_cons_succ]
            refine wpAnyH_ready (rs := [17]) (by kernel_rfl) (by simp) ?_
            refine AllReadyH.cons rfl (fun K hK => ?_) AllReadyH.nil
            go_simp
            skip
            try go_simp
            refine hK.out _ _ ?_ (fun hHeld => ?_)
            · (try dsimp only); exact ⟨(World.cell?_setCell_other _ _ _ _ (by first | (simp [hkm]; done) | (simp [hxy]; done) | (simp [hxy']; done) | (simp; omega))).trans hHeld.1, (World.cell?_setCell_other _ _ _ _ (by first | (simp [hkm]; done) | (simp [hxy]; done) | (simp [hxy']; done) | (simp; omega))).trans hHeld.2⟩
            clear hK K
            try simp only [Act.put, List.getElem_toArray, List.getElem_cons_zero, List.getElem_cons_succ, List.setIfInBounds_toArray, List.set_cons_zero, List.set_cons_succ]
            refine wpAnyH_take (i := 18) (v := ?_) rfl (by kernel_rfl) (by kernel_rfl) (by kernel_rfl) (fun _ _ _ h => h) (Or.inl ⟨by rfl, ?_⟩) (by assumption) ?_
            rotate_left
            · intro w' hSw; (try dsimp only at hSw); go_simp; try with_reducible rfl
            try simp only [Act.put, List.getElem_toArray, List.getElem_cons_zero, List.getElem_cons_succ, List.setIfInBounds_toArray, List.set_cons_zero, List.set_cons_succ]
            refine wpAnyH_ready (rs := [19]) (by kernel_rfl) (by simp) ?_
            refine AllReadyH.cons rfl (fun K hK => ?_) AllReadyH.nil
            go_simp
            skip
            try go_simp
            refine hK.out _ _ ?_ (fun hHeld => ?_)
            · (try dsimp only); exact ⟨(World.cell?_setCell_other _ _ _ _ (by first | (simp [hkm]; done) | (simp [hxy]; done) | (simp [hxy']; done) | (simp; omega))).trans hHeld.1, (World.cell?_setCell_other _ _ _ _ (by first | (simp [hkm]; done) | (simp [hxy]; done) | (simp [hxy']; done) | (simp; omega))).trans hHeld.2⟩
            clear hK K
            try simp only [Act.put, List.getElem_toArray, List.getElem_cons_zero, List.getElem_cons_succ, List.setIfInBounds_toArray, List.set_cons_zero, List.set_cons_succ]
            refine wpAnyH_done (by kernel_rfl) ?_ _
            have hc := (HQ.out.keep (Fr.drew (Fr.refl _ _))).copy Hk.out Hm.out HN2.out HN3.out
            have Hc := Lib.hid hc
            clear hc
            go_wp2_with fail
            go_roundw
            case rel => exact ⟨i + 1, _, _, by first | (simp; done) | go_num, Hlt.out, Hc.out⟩
            case measure => have := Hlt.out; simp [intOf]; omega
          · have b10 : (d == 10) = false := by simpa using h10
            clear h10
            go_wp2_with fail
            refine (Hpd.out _).mono ?_
            rintro e w6 ⟨rfl, rfl⟩
            go_wp2_with fail
            go_roundw
            case rel => exact ⟨i + 1, _, _, by first | (simp; done) | go_num, Hlt.out, HQ.out⟩
            case measure => have := Hlt.out; simp [intOf]; omega
        · clear hIv
          have c1 : ¬ (i : Int) < 2000 := by omega
          have c2 : ¬ n < 200 := by omega
          clear hc hlt hi
          go_wp2_with fail
          go_meet
          exact ⟨pk, Bk, HP.out⟩
      · clear hIv
        have hlt' : ¬ (i : Int) < (n1 : Int) := by omega
        clear hlt hi
        go_wp2_with fail
        go_meet
        exact ⟨pk, Bk, HP.out⟩
  case rest =>
  obtain ⟨pk, Bk, hZ⟩ := hcut
  have HZ := Lib.hid hZ
  have HTab := Lib.hid ((HT.out.fr F1.out (fun h => h)).fr hZ.fr (fun h => by have := HT.out.lt; have := F1.out.size; omega))
  clear hZ
  go_upto_region 20 with fail
  refine wp_region_held_drew (S := fun w' => Fr (fun _ => False) wc w' ∧ w'.cell? ⟨rh0, 0, none⟩ = some (.bool true) ∧ w'.cell? ⟨xb, 0, none⟩ = some (.pointer (some ⟨(pk 0).bh, 0, none⟩)) ∧ w'.cell? ⟨xb, 1, none⟩ = some (.pointer (some ⟨(pk 1).bh, 0, none⟩)) ∧ w'.cell? ⟨yb, 0, none⟩ = some (.pointer (some ⟨(pk 0).rh, 0, none⟩)) ∧ w'.cell? ⟨yb, 1, none⟩ = some (.pointer (some ⟨(pk 1).rh, 0, none⟩))) (by kernel_rfl) (by exact ⟨Fr.drew (Fr.refl _ _), (HZ.out).c, (HZ.out).two.xc (k := 0) (by decide), (HZ.out).two.xc (k := 1) (by decide), (HZ.out).two.yc (k := 0) (by decide), (HZ.out).two.yc (k := 1) (by decide)⟩) (fun hHeld => ?_)
  refine wpAnyH_take (i := 0) (v := ?_) rfl (by kernel_rfl) (by kernel_rfl) (by kernel_rfl) (fun _ _ _ h => h) (Or.inl ⟨by rfl, ?_⟩) (by assumption) ?_
  rotate_left
  · intro w' hSw; (try dsimp only at hSw); go_simp; try with_reducible rfl
  try simp only [Act.put, List.getElem_toArray, List.getElem_cons_zero, List.getElem_cons_succ, List.setIfInBounds_toArray, List.set_cons_zero, List.set_cons_succ]
  refine wpAnyH_take (i := 1) (v := ?_) rfl (by kernel_rfl) (by kernel_rfl) (by kernel_rfl) (fun _ _ _ h => h) (Or.inl ⟨by rfl, ?_⟩) (by assumption) ?_
  rotate_left
  · intro w' hSw; (try dsimp only at hSw); go_simp; try with_reducible rfl
  try simp only [Act.put, List.getElem_toArray, List.getElem_cons_zero, List.getElem_cons_succ, List.setIfInBounds_toArray, List.set_cons_zero, List.set_cons_succ]
  refine wpAnyH_take (i := 2) (v := ?_) rfl (by kernel_rfl) (by kernel_rfl) (by kernel_rfl) (fun _ _ _ h => h) (Or.inl ⟨by rfl, ?_⟩) (by assumption) ?_
  rotate_left
  · intro w' hSw; (try dsimp only at hSw); go_simp; try with_reducible rfl
  try simp only [Act.put, List.getElem_toArray, List.getElem_cons_zero, List.getElem_cons_succ, List.setIfInBounds_toArray, List.set_cons_zero, List.set_cons_succ]
  refine wpAnyH_take (i := 3) (v := ?_) rfl (by kernel_rfl) (by kernel_rfl) (by kernel_rfl) (fun _ _ _ h => h) (Or.inl ⟨by rfl, ?_⟩) (by assumption) ?_
  rotate_left
  · intro w' hSw; (try dsimp only at hSw); go_simp; try with_reducible rfl
  try simp only [Act.put, List.getElem_toArray, List.getElem_cons_zero, List.getElem_cons_succ, List.setIfInBounds_toArray, List.set_cons_zero, List.set_cons_succ]
  refine wpAnyH_take (i := 4) (v := ?_) rfl (by kernel_rfl) (by kernel_rfl) (by kernel_rfl) (fun _ _ _ h => h) (Or.inl ⟨by rfl, ?_⟩) (by assumption) ?_
  rotate_left
  · intro w' hSw; (try dsimp only at hSw); go_simp; try with_reducible rfl
  try simp only [Act.put, List.getElem_toArray, List.getElem_cons_zero, List.getElem_cons_succ, List.setIfInBounds_toArray, List.set_cons_zero, List.set_cons_succ]
  refine wpAnyH_take (i := 5) (v := ?_) rfl (by kernel_rfl) (by kernel_rfl) (by kernel_rfl) (fun _ _ _ h => h) (Or.inl ⟨by rfl, ?_⟩) (by assumption) ?_
  rotate_left
  · intro w' hSw; (try dsimp only at hSw); go_simp; try with_reducible rfl
  try simp only [Act.put, List.getElem_toArray, List.getElem_cons_zero, List.getElem_cons_succ, List.setIfInBounds_toArray, List.set_cons_zero, List.set_cons_succ]
  refine wpAnyH_take (i := 6) (v := ?_) rfl (by kernel_rfl) (by kernel_rfl) (by kernel_rfl) (fun _ _ _ h => h) (Or.inl ⟨by rfl, ?_⟩) (by assumption) ?_
  rotate_left
  · intro w' hSw; (try dsimp only at hSw); go_simp; try with_reducible rfl
  try simp only [Act.put, List.getElem_toArray, List.getElem_cons_zero, List.getElem_cons_succ, List.setIfInBounds_toArray, List.set_cons_zero, List.set_cons_succ]
  refine wpAnyH_take (i := 7) (v := ?_) rfl (by kernel_rfl) (by kernel_rfl) (by kernel_rfl) (fun _ _ _ h => h) (Or.inl ⟨by rfl, ?_⟩) (by assumption) ?_
  rotate_left
  · intro w' hSw; (try dsimp only at hSw); go_simp; try with_reducible rfl
  try simp only [Act.put, List.getElem_toArray, List.getElem_cons_zero, List.getElem_cons_succ, List.setIfInBounds_toArray, List.set_cons_zero, List.set_cons_succ]
  refine wpAnyH_take (i := 8) (v := ?_) rfl (by kernel_rfl) (by kernel_rfl) (by kernel_rfl) (fun _ _ _ h => h) (Or.inl ⟨by rfl, ?_⟩) (by assumption) ?_
  rotate_left
  · intro w' hSw; (try dsimp only at hSw); go_simp; try with_reducible rfl
  try simp only [Act.put, List.getElem_toArray, List.getElem_cons_zero, List.getElem_cons_succ, List.setIfInBounds_toArray, List.set_cons_zero, List.set_cons_succ]
  refine wpAnyH_take (i := 9) (v := ?_) rfl (by kernel_rfl) (by kernel_rfl) (by kernel_rfl) (fun _ _ _ h => h) (Or.inl ⟨by rfl, ?_⟩) (by assumption) ?_
  rotate_left
  · intro w' hSw; (try dsimp only at hSw); go_simp; try with_reducible rfl
  try simp only [Act.put, List.getElem_toArray, List.getElem_cons_zero, List.getElem_cons_succ, List.setIfInBounds_toArray, List.set_cons_zero, List.set_cons_succ]
  refine wpAnyH_take (i := 10) (v := ?_) rfl (by kernel_rfl) (by kernel_rfl) (by kernel_rfl) (fun _ _ _ h => h) (Or.inl ⟨by rfl, ?_⟩) (by assumption) ?_
  rotate_left
  · intro w' hSw; (try dsimp only at hSw); go_simp; try with_reducible rfl
  try simp only [Act.put, List.getElem_toArray, List.getElem_cons_zero, List.getElem_cons_succ, List.setIfInBounds_toArray, List.set_cons_zero, List.set_cons_succ]
  refine wpAnyH_take (i := 11) (v := ?_) rfl (by kernel_rfl) (by kernel_rfl) (by kernel_rfl) (fun _ _ _ h => h) (Or.inl ⟨by rfl, ?_⟩) (by assumption) ?_
  rotate_left
  · intro w' hSw; (try dsimp only at hSw); go_simp; try with_reducible rfl
  try simp only [Act.put, List.getElem_toArray, List.getElem_cons_zero, List.getElem_cons_succ, List.setIfInBounds_toArray, List.set_cons_zero, List.set_cons_succ]
  refine wpAnyH_ready (rs := [12]) (by kernel_rfl) (by simp) ?_
  refine AllReadyH.cons rfl (fun K hK => ?_) AllReadyH.nil
  go_simp
  refine (is_ok (HTab.out.fr (by first | exact hHeld.1 | exact Fr.drew (Fr.refl _ _)) (fun h => h)) ((HZ.out.keep (by first | exact hHeld.1 | exact Fr.drew (Fr.refl _ _))).two.pin 0 (by decide)).at_.s ((HZ.out.keep (by first | exact hHeld.1 | exact Fr.drew (Fr.refl _ _))).two.pin 0 (by decide)).at_.r).mono ?_
  rintro e w7 ⟨rfl, hf⟩
  have Hf := Lib.hid hf
  clear hf
  try go_simp
  refine hK.out _ _ ?_ (fun hHeld => ?_)
  · (try dsimp only); have hfk := hHeld.1.trans Hf.out (fun _ _ h => h); exact ⟨hfk, (HZ.out.keep hfk).c, (HZ.out.keep hfk).two.xc (k := 0) (by decide), (HZ.out.keep hfk).two.xc (k := 1) (by decide), (HZ.out.keep hfk).two.yc (k := 0) (by decide), (HZ.out.keep hfk).two.yc (k := 1) (by decide)⟩
  clear hK K
  try simp only [Act.put, List.getElem_toArray, List.getElem_cons_zero, List.getElem_cons_succ, List.setIfInBounds_toArray, List.set_cons_zero, List.set_cons_succ]
  refine wpAnyH_take (i := 13) (v := ?_) rfl (by kernel_rfl) (by kernel_rfl) (by kernel_rfl) (fun _ _ _ h => h) (Or.inl ⟨by rfl, ?_⟩) (by assumption) ?_
  rotate_left
  · intro w' hSw; (try dsimp only at hSw); go_simp; try with_reducible rfl
  try simp only [Act.put, List.getElem_toArray, List.getElem_cons_zero, List.getElem_cons_succ, List.setIfInBounds_toArray, List.set_cons_zero, List.set_cons_succ]
  refine wpAnyH_take (i := 14) (v := ?_) rfl (by kernel_rfl) (by kernel_rfl) (by kernel_rfl) (fun _ _ _ h => h) (Or.inl ⟨by rfl, ?_⟩) (by assumption) ?_
  rotate_left
  · intro w' hSw; (try dsimp only at hSw); go_simp; try with_reducible rfl
  try simp only [Act.put, List.getElem_toArray, List.getElem_cons_zero, List.getElem_cons_succ, List.setIfInBounds_toArray, List.set_cons_zero, List.set_cons_succ]
  refine wpAnyH_take (i := 15) (v := ?_) rfl (by kernel_rfl) (by kernel_rfl) (by kernel_rfl) (fun _ _ _ h => h) (Or.inl ⟨by rfl, ?_⟩) (by assumption) ?_
  rotate_left
  · intro w' hSw; (try dsimp only at hSw); go_simp; try with_reducible rfl
  try simp only [Act.put, List.getElem_toArray, List.getElem_cons_zero, List.getElem_cons_succ, List.setIfInBounds_toArray, List.set_cons_zero, List.set_cons_succ]
  refine wpAnyH_take (i := 16) (v := ?_) rfl (by kernel_rfl) (by kernel_rfl) (by kernel_rfl) (fun _ _ _ h => h) (Or.inl ⟨by rfl, ?_⟩) (by assumption) ?_
  rotate_left
  · intro w' hSw; (try dsimp only at hSw); go_simp; try with_reducible rfl
  try simp only [Act.put, List.getElem_toArray, List.getElem_cons_zero, List.getElem_cons_succ, List.setIfInBounds_toArray, List.set_cons_zero, List.set_cons_succ]
  refine wpAnyH_take (i := 17) (v := ?_) rfl (by kernel_rfl) (by kernel_rfl) (by kernel_rfl) (fun _ _ _ h => h) (Or.inl ⟨by rfl, ?_⟩) (by assumption) ?_
  rotate_left
  · intro w' hSw; (try dsimp only at hSw); go_simp; try with_reducible rfl
  try simp only [Act.put, List.getElem_toArray, List.getElem_cons_zero, List.getElem_cons_succ, List.setIfInBounds_toArray, List.set_cons_zero, List.set_cons_succ]
  refine wpAnyH_take (i := 18) (v := ?_) rfl (by kernel_rfl) (by kernel_rfl) (by kernel_rfl) (fun _ _ _ h => h) (Or.inl ⟨by rfl, ?_⟩) (by assumption) ?_
  rotate_left
  · intro w' hSw; (try dsimp only at hSw); go_simp; try with_reducible rfl
  try simp only [Act.put, List.getElem_toArray, List.getElem_cons_zero, List.getElem_cons_succ, List.setIfInBounds_toArray, List.set_cons_zero, List.set_cons_succ]
  refine wpAnyH_take (i := 19) (v := ?_) rfl (by kernel_rfl) (by kernel_rfl) (by kernel_rfl) (fun _ _ _ h => h) (Or.inl ⟨by rfl, ?_⟩) (by assumption) ?_
  rotate_left
  · intro w' hSw; (try dsimp only at hSw); go_simp; try with_reducible rfl
  try simp only [Act.put, List.getElem_toArray, List.getElem_cons_zero, List.getElem_cons_succ, List.setIfInBounds_toArray, List.set_cons_zero, List.set_cons_succ]
  refine wpAnyH_ready (rs := [20]) (by kernel_rfl) (by simp) ?_
  refine AllReadyH.cons rfl (fun K hK => ?_) AllReadyH.nil
  go_simp
  refine (is_ok (HTab.out.fr (by first | exact hHeld.1 | exact Fr.drew (Fr.refl _ _)) (fun h => h)) ((HZ.out.keep (by first | exact hHeld.1 | exact Fr.drew (Fr.refl _ _))).two.pin 1 (by decide)).at_.s ((HZ.out.keep (by first | exact hHeld.1 | exact Fr.drew (Fr.refl _ _))).two.pin 1 (by decide)).at_.r).mono ?_
  rintro e w7 ⟨rfl, hf⟩
  have Hf := Lib.hid hf
  clear hf
  try go_simp
  refine hK.out _ _ ?_ (fun hHeld => ?_)
  · (try dsimp only); have hfk := hHeld.1.trans Hf.out (fun _ _ h => h); exact ⟨hfk, (HZ.out.keep hfk).c, (HZ.out.keep hfk).two.xc (k := 0) (by decide), (HZ.out.keep hfk).two.xc (k := 1) (by decide), (HZ.out.keep hfk).two.yc (k := 0) (by decide), (HZ.out.keep hfk).two.yc (k := 1) (by decide)⟩
  clear hK K
  try simp only [Act.put, List.getElem_toArray, List.getElem_cons_zero, List.getElem_cons_succ, List.setIfInBounds_toArray, List.set_cons_zero, List.set_cons_succ]
  refine wpAnyH_take (i := 21) (v := ?_) rfl (by kernel_rfl) (by kernel_rfl) (by kernel_rfl) (fun _ _ _ h => h) (Or.inl ⟨by rfl, ?_⟩) (by assumption) ?_
  rotate_left
  · intro w' hSw; (try dsimp only at hSw); go_simp; try with_reducible rfl
  try simp only [Act.put, List.getElem_toArray, List.getElem_cons_zero, List.getElem_cons_succ, List.setIfInBounds_toArray, List.set_cons_zero, List.set_cons_succ]
  refine wpAnyH_take (i := 22) (v := ?_) rfl (by kernel_rfl) (by kernel_rfl) (by kernel_rfl) (fun _ _ _ h => h) (Or.inl ⟨by rfl, ?_⟩) (by assumption) ?_
  rotate_left
  · intro w' hSw; (try dsimp only at hSw); go_simp; try with_reducible rfl
  try simp only [Act.put, List.getElem_toArray, List.getElem_cons_zero, List.getElem_cons_succ, List.setIfInBounds_toArray, List.set_cons_zero, List.set_cons_succ]
  refine wpAnyH_take (i := 23) (v := ?_) rfl (by kernel_rfl) (by kernel_rfl) (by kernel_rfl) (fun _ _ _ h => h) (Or.inl ⟨by rfl, ?_⟩) (by assumption) ?_
  rotate_left
  · intro w' hSw; (try dsimp only at hSw); go_simp; try with_reducible rfl
  try simp only [Act.put, List.getElem_toArray, List.getElem_cons_zero, List.getElem_cons_succ, List.setIfInBounds_toArray, List.set_cons_zero, List.set_cons_succ]
  refine wpAnyH_done (by kernel_rfl) ?_ _
  have HE := Lib.hid hHeld.1
  go_wp2_with fail
  go_ret
  exact ⟨by first | rfl | simp, ((F1.out.mono (G := fun b => w.heap.size ≤ b) (fun _ _ h => h.elim)).trans ((HZ.out.fr.trans HE.out (fun _ _ h => h.elim))) (fun b _ h => Nat.le_trans F1.out.size h)).toNew⟩
end Go.Proofs.YtbfkmogibgchmaaDoor.Bt
