/- HeapPlays: the walk. No condition. -/
import Derived.Test.YtfgpmbahekcoeaaDuo
import Derived.Deep.CutBlock
import Derived.Deep.LoopGhost
namespace Go.Proofs.Ytfgpmbahekcoeaa
open Go.RowKit
set_option maxRecDepth 100000 in
set_option maxHeartbeats 4000000 in
theorem plays_walk (one two : Int) (hf1 : Fits one) (hf2 : Fits two) {v0 : Value} {K : Nat → Nat → Int} {n0 : Nat} (w : World) (h0 : IntsAt w v0 4 K n0) :
    Calls Try.prog 5 #[.int .i64 one, .int .i64 two, v0] w fun e w' => e = .returned (.bool true) ∧ Fr (fun _ => False) w w' := by
  have H0 := Lib.hid h0
  clear h0
  go_enter Try.func5, Try.ntmps5
  go_wp2_with fail
  refine (fresh_ok one hf1 _).mono ?_
  rintro e w1 ⟨G1, bk1, bh1, rh1, rfl, f1, p1, s1⟩
  have F1 := Lib.hid f1; have P1 := Lib.hid p1; have S1 := Lib.hid s1
  clear f1 p1 s1
  go_wp2_with fail
  refine (fresh_ok two hf2 _).mono ?_
  rintro e w2 ⟨G2, bk2, bh2, rh2, rfl, f2, p2, s2⟩
  have F2 := Lib.hid f2; have P2 := Lib.hid p2; have S2 := Lib.hid s2
  clear f2 p2 s2
  go_wp2_with fail
  generalize hk1 : one % 7 = k1 at *
  generalize hk2 : two % 7 = k2 at *
  clear hk1 hk2 hf1 hf2
  have hsz2 : w.heap.size ≤ w2.heap.size := Nat.le_trans F1.out.size F2.out.size
  have fA : Fr (fun _ => False) w2 (w2.alloc (.cells (duoCells (bk1, bh1, rh1, k1) (bk2, bh2, rh2, k2)) 67)) := Fr.alloc (Fr.refl _ _) _
  have hbt : (w2.alloc (.cells (duoCells (bk1, bh1, rh1, k1) (bk2, bh2, rh2, k2)) 67)).heap[w2.heap.size]? = some (.cells (duoCells (bk1, bh1, rh1, k1) (bk2, bh2, rh2, k2)) 67 (0, 0)) := heap_alloc_at _ _
  have hduo : Duo w.heap.size w2.heap.size 0 (bk1, bh1, rh1, k1) (bk2, bh2, rh2, k2) (w2.alloc (.cells (duoCells (bk1, bh1, rh1, k1) (bk2, bh2, rh2, k2)) 67)) := by
    have q1 : PairIs G1 bk1 bh1 rh1 k1 [] [] 0 w2 := P1.out.fr F2.out (fun _ _ h => h)
    refine ⟨G1, [], [], 0, G2, [], [], 0, q1.fr fA (fun _ _ h => h), P2.out.fr fA (fun _ _ h => h), ?_, ?_, ?_, by simp, by simp⟩
    · intro x h1 h2
      have := P1.out.bd x h1; have := S2.out x h2; omega
    · intro x h1
      have := S1.out x h1; have := q1.bd x h1; omega
    · intro x h2
      have := S2.out x h2; have := P2.out.bd x h2; have := F1.out.size; omega
  have hfW : Fr (fun x => w.heap.size ≤ x) w (w2.alloc (.cells (duoCells (bk1, bh1, rh1, k1) (bk2, bh2, rh2, k2)) 67)) := ((nofr F1.out).trans (nofr F2.out) (fun _ _ h => h)).trans (nofr fA) (fun _ _ h => h)
  generalize (w2.alloc (.cells (duoCells (bk1, bh1, rh1, k1) (bk2, bh2, rh2, k2)) 67)) = W at *
  generalize hbtn : w2.heap.size = bt at *
  clear hbtn F1 F2 P1 P2 S1 S2 fA
  obtain ⟨ax, hax⟩ : ∃ ax : Pl, ax = (bk1, bh1, rh1, k1) := ⟨_, rfl⟩
  obtain ⟨bx, hbx⟩ : ∃ bx : Pl, bx = (bk2, bh2, rh2, k2) := ⟨_, rfl⟩
  rw [← hax, ← hbx] at hbt hduo
  have Hax := Lib.hid hax; have Hbx := Lib.hid hbx; have Hduo := Lib.hid hduo; have Hbt := Lib.hid hbt; have HfW := Lib.hid hfW; have Hsz2 := Lib.hid hsz2
  clear hax hbx hduo hbt hfW hsz2
  refine (few_ok _ _ H0.out).mono ?_
  rintro e w3 ⟨v1, rfl, hv1, rfl⟩
  obtain ⟨m, hm⟩ : ∃ m, m = min n0 300 := ⟨_, rfl⟩
  have hm300 : m ≤ 300 := by omega
  rw [← hm] at hv1
  clear hm
  obtain ⟨a1, c1, rfl, hmc, hcc, hops⟩ := id hv1
  have H1 := Lib.hid hv1
  clear hv1 hcc hops
  go_upto_block 0 with fail
  go_cut [8] (fun _ wx => Duo w.heap.size bt m ax bx wx ∧ wx.heap[bt]? = some (.cells (duoCells ax bx) 67 (0, 0)) ∧ Fr (fun x => w.heap.size ≤ x) w wx)
  case first =>
    go_wp2_with fail
    go_loopw [8] (fun s8 wr => ∃ i : Nat, s8 = .int .i64 i ∧ i ≤ m ∧ Duo w.heap.size bt i ax bx wr ∧ wr.heap[bt]? = some (.cells (duoCells ax bx) 67 (0, 0)) ∧ Fr (fun x => w.heap.size ≤ x) w wr) (fun s8 _ => m - (intOf s8).toNat)
    case atStart => exact ⟨0, rfl, by omega, Hduo.out, Hbt.out, HfW.out⟩
    case round =>
      obtain ⟨i, rfl, hi, hd, hb, hf⟩ := hrel
      have hIv := H1.out.fr hf (fun b hb h => by omega) (by omega)
      have Hd := Lib.hid hd; have Hb := Lib.hid hb; have Hf := Lib.hid hf; have Hi := Lib.hid hi
      clear hd hb hf hi
      by_cases hlt : i < m
      · have hlt' : (i : Int) < (m : Int) := by omega
        obtain ⟨a1', c1', e1, _, _, hor⟩ := hIv
        simp only [Value.slice.injEq] at e1
        obtain ⟨rfl, _, rfl⟩ := e1
        obtain ⟨sb, so, rfl, hcell⟩ := hor.resolve_left (by omega)
        have k0 := (hcell i 0 hlt (by omega)).1
        have k1 := (hcell i 1 hlt (by omega)).1
        have k2 := (hcell i 2 hlt (by omega)).1
        have k3 := (hcell i 3 hlt (by omega)).1
        have kf2 := (hcell i 2 hlt (by omega)).2
        have kf3 := (hcell i 3 hlt (by omega)).2
        simp only [Nat.add_zero] at k0
        obtain ⟨kd, hkd⟩ : ∃ x, x = K i 0 := ⟨_, rfl⟩
        obtain ⟨on, hon⟩ : ∃ x, x = K i 1 := ⟨_, rfl⟩
        obtain ⟨kn, hkn⟩ : ∃ x, x = K i 2 := ⟨_, rfl⟩
        obtain ⟨kv, hkv⟩ : ∃ x, x = K i 3 := ⟨_, rfl⟩
        rw [← hkd] at k0; rw [← hon] at k1; rw [← hkn] at k2 kf2; rw [← hkv] at k3 kf3
        have sbo : sb < w.heap.size := by
          rcases H1.out with ⟨a', c', e', _, _, h3⟩
          simp only [Value.slice.injEq] at e'
          obtain ⟨e1, _, _⟩ := e'
          obtain ⟨b', o', e2, h4⟩ := h3.resolve_left (by omega)
          rw [e2] at e1
          simp at e1
          have := World.block_lt_of_cell? w _ (h4 i 0 hlt (by omega)).1
          simp at this; omega
        have i300 : (i : Int) ≤ 300 := by omega
        have i0 : (0 : Int) ≤ (i : Int) := by omega
        have Hcell := Lib.hid hcell; have KF := Lib.hid kf3; have KN := Lib.hid kf2; have Hlt := Lib.hid hlt; have Sbo := Lib.hid sbo
        clear hcell hkd hon hkn hkv hor kf2 kf3 sbo
        go_upto_region 8 with fail
        go_cut [9] (fun s9 wx => ∃ x y : Pl, Duo w.heap.size bt i x y wr ∧ ((x = ax ∧ y = bx) ∨ (x = bx ∧ y = ax)) ∧ s9 = .pointer (some ⟨wr.heap.size, 0, none⟩) ∧ wx = wr.alloc (.cells #[.pointer (some ⟨x.2.1, 0, none⟩), .pointer (some ⟨x.2.2.1, 0, none⟩), .bool (decide (x.2.2.2 < 4))] 51))
        case first =>
          have c0 := cell_of Hb.out 0
          have c1 := cell_of Hb.out 1
          have c2 := cell_of Hb.out 2
          have c3 := cell_of Hb.out 3
          have c4 := cell_of Hb.out 4
          have c5 := cell_of Hb.out 5
          simp at c0 c1 c2 c3 c4 c5
          rcases and1 on with hz | hz
          · go_wp2_with fail
            go_meet
            exact ⟨ax, bx, Hd.out, .inl ⟨rfl, rfl⟩, rfl, rfl⟩
          · go_wp2_with fail
            go_meet
            exact ⟨bx, ax, Hd.out.symm, .inr ⟨rfl, rfl⟩, rfl, rfl⟩
        case rest =>
        obtain ⟨x, y, hd, hxy, rfl, rfl⟩ := hcut
        have fA : Fr (fun _ => False) wr (wr.alloc (.cells #[.pointer (some ⟨x.2.1, 0, none⟩), .pointer (some ⟨x.2.2.1, 0, none⟩), .bool (decide (x.2.2.2 < 4))] 51)) := Fr.alloc (Fr.refl _ _) _
        have hbn : (wr.alloc (.cells #[.pointer (some ⟨x.2.1, 0, none⟩), .pointer (some ⟨x.2.2.1, 0, none⟩), .bool (decide (x.2.2.2 < 4))] 51)).heap[wr.heap.size]? = some (.cells #[.pointer (some ⟨x.2.1, 0, none⟩), .pointer (some ⟨x.2.2.1, 0, none⟩), .bool (decide (x.2.2.2 < 4))] 51 (0, 0)) := heap_alloc_at _ _
        have hsbn : sb < wr.heap.size := by have := Hf.out.size; have := Sbo.out; omega
        have k0' := (fA.cell (o := so + i * 4) (s := none) hsbn (fun h => h)).trans k0
        have k1' := (fA.cell (o := so + i * 4 + 1) (s := none) hsbn (fun h => h)).trans k1
        have k2' := (fA.cell (o := so + i * 4 + 2) (s := none) hsbn (fun h => h)).trans k2
        have k3' := (fA.cell (o := so + i * 4 + 3) (s := none) hsbn (fun h => h)).trans k3
        clear k0 k1 k2 k3
        have hd2 := hd.fr fA
        have hb2 := fA.get Hb.out (fun h => h)
        have hbw : w.heap.size ≤ wr.heap.size := Hf.out.size
        have hf2 : Fr (fun x => w.heap.size ≤ x) w (wr.alloc (.cells #[.pointer (some ⟨x.2.1, 0, none⟩), .pointer (some ⟨x.2.2.1, 0, none⟩), .bool (decide (x.2.2.2 < 4))] 51)) := Hf.out.trans (nofr fA) (fun _ _ h => h)
        have hbd : ∀ G L R n, PairAt G x L R n wr → ¬ G wr.heap.size := fun G L R n p hg => by have := PairIs.bd p _ hg; omega
        obtain ⟨GA, LA, RA, nA, GB, LB, RB, nB, p1, p2, d12, s1, s2, b1, b2⟩ := hd.ex
        have hgbn := hbd _ _ _ _ p1
        have q1 := PairIs.fr p1 fA (fun _ _ h => h)
        have q2 := PairIs.fr p2 fA (fun _ _ h => h)
        have hnx := PairIs.nx p1
        have hbtl : bt < wr.heap.size := lt_of_block Hb.out
        clear hd p1 p2 hbd fA
        generalize (wr.alloc (.cells #[.pointer (some ⟨x.2.1, 0, none⟩), .pointer (some ⟨x.2.2.1, 0, none⟩), .bool (decide (x.2.2.2 < 4))] 51)) = W2 at *
        generalize hbne : wr.heap.size = bn at *
        obtain ⟨bo, hbo⟩ : ∃ bo, decide (x.2.2.2 < 4) = bo := ⟨_, rfl⟩
        have st : ∀ w0, Fr (fun _ => False) W2 w0 → Calls Try.prog 23 #[.agg #[.pointer (some ⟨x.2.1, 0, none⟩), .pointer (some ⟨x.2.2.1, 0, none⟩), .bool bo], .agg #[.int .i64 kd, .int .i64 on, .int .i64 kn, .int .i64 kv]] w0 fun e w' => e = .returned (.bool true) ∧ Stepped GA x.1 x.2.1 x.2.2.1 x.2.2.2 nA W2 w' := by
          intro w0 f0
          have := step_ok (PairIs.fr q1 f0 (fun _ _ h => h)) hnx (by omega) kd on kn kv KN.out KF.out
          unfold twoV at this
          rw [hbo] at this
          refine this.mono ?_
          rintro e w' ⟨rfl, G', L', R', n', r1, r2, r3, r4, r5⟩
          exact ⟨rfl, G', L', R', n', r1, r2, r3, (nofr f0).trans r4 (fun _ _ h => h), grew_fr r5 f0⟩
        have ii : ∀ (G : Nat → Prop) (L R : List It) (n : Int) (w0 : World) (z : Int), PairAt G x L R n w0 → n ≤ 1000000000 → Calls Try.prog 29 #[.agg #[.pointer (some ⟨x.2.1, 0, none⟩), .pointer (some ⟨x.2.2.1, 0, none⟩), .bool bo], .int .i64 z] w0 fun e w' => e = .returned (.bool true) ∧ Fr (fun _ => False) w0 w' := by
          intro G L R n w0 z p hn
          have := is_ok p hn z
          unfold twoV at this
          rw [hbo] at this
          exact this
        rw [hbo] at hbn
        have d0 := cell_of hbn 0
        have d1 := cell_of hbn 1
        have d2 := cell_of hbn 2
        simp at d0 d1 d2
        have hbx : ∀ w', Fr GA W2 w' → (w'.cell? ⟨bn, 0, none⟩ = some (.pointer (some ⟨x.2.1, 0, none⟩)) ∧ w'.cell? ⟨bn, 1, none⟩ = some (.pointer (some ⟨x.2.2.1, 0, none⟩)) ∧ w'.cell? ⟨bn, 2, none⟩ = some (.bool bo)) ∧ (w'.cell? ⟨sb, so + i * 4, none⟩ = some (.int .i64 kd) ∧ w'.cell? ⟨sb, so + i * 4 + 1, none⟩ = some (.int .i64 on) ∧ w'.cell? ⟨sb, so + i * 4 + 2, none⟩ = some (.int .i64 kn) ∧ w'.cell? ⟨sb, so + i * 4 + 3, none⟩ = some (.int .i64 kv)) := by
          intro w' f
          have h1 := f.get hbn hgbn
          have hs : sb < W2.heap.size := by have := lt_of_block hbn; omega
          have hn : ¬ GA sb := fun h => by have := (s1 sb h).1; have := Sbo.out; omega
          exact ⟨⟨(cell_of h1 0).trans (by simp), (cell_of h1 1).trans (by simp), (cell_of h1 2).trans (by simp)⟩, (f.cell hs hn).trans k0', (f.cell hs hn).trans k1', (f.cell hs hn).trans k2', (f.cell hs hn).trans k3'⟩
        have ST := Lib.hid st; have II := Lib.hid ii; have BX := Lib.hid hbx; have Hxy := Lib.hid hxy; have Hd2 := Lib.hid hd2; have Hb2 := Lib.hid hb2; have Hf2 := Lib.hid hf2; have Q1 := Lib.hid q1; have Q2 := Lib.hid q2
        have D12 := Lib.hid d12; have S1 := Lib.hid s1; have S2 := Lib.hid s2; have Hgbn := Lib.hid hgbn; have Hbn := Lib.hid hbn; have Hbo := Lib.hid hbo; have Hbw := Lib.hid hbw; have Hbne := Lib.hid hbne; have Hbtl := Lib.hid hbtl
        clear st ii hbx hxy hd2 hb2 hf2 q1 q2 d12 s1 s2 hgbn hbn hbo hbw hbne hsbn hbtl
        have k0 := k0'; have k1 := k1'; have k2 := k2'; have k3 := k3'
        clear k0' k1' k2' k3'
        go_upto_region 9 with fail
        refine wp_region_held_drew (S := fun w' => (w'.cell? ⟨bn, 0, none⟩ = some (.pointer (some ⟨x.2.1, 0, none⟩)) ∧ w'.cell? ⟨bn, 1, none⟩ = some (.pointer (some ⟨x.2.2.1, 0, none⟩)) ∧ w'.cell? ⟨bn, 2, none⟩ = some (.bool bo)) ∧ (w'.cell? ⟨sb, so + i * 4, none⟩ = some (.int .i64 kd) ∧ w'.cell? ⟨sb, so + i * 4 + 1, none⟩ = some (.int .i64 on) ∧ w'.cell? ⟨sb, so + i * 4 + 2, none⟩ = some (.int .i64 kn) ∧ w'.cell? ⟨sb, so + i * 4 + 3, none⟩ = some (.int .i64 kv))) (by kernel_rfl) (by exact ⟨⟨d0, d1, d2⟩, k0, k1, k2, k3⟩) (fun hHeld => ?_)
        refine wpAnyH_take (i := 0) (v := ?_) rfl (by kernel_rfl) (by kernel_rfl) (by kernel_rfl) (fun _ _ _ h => h) (Or.inl ⟨by rfl, ?_⟩) (by assumption) ?_
        rotate_left
        · intro w' hSw; (try dsimp only at hSw); go_simp; try with_reducible rfl
        try simp only [Act.put, List.getElem_toArray, List.getElem_cons_zero, List.getElem_cons_succ, List.setIfInBounds_toArray, List.set_cons_zero, List.set_cons_succ]
        refine wpAnyH_take (i := 1) (v := ?_) rfl (by kernel_rfl) (by kernel_rfl) (by kernel_rfl) (fun _ _ _ h => h) (Or.inl ⟨by rfl, ?_⟩) (by assumption) ?_
        rotate_left
        · intro w' hSw; (try dsimp only at hSw); go_simp; try with_reducible rfl
        try simp only [Act.put, List.getElem_toArray, List.getElem_cons_zero, List.getElem_cons_succ, List.setIfInBounds_toArray, List.set_cons_zero, List.set_cons_succ]
        refine wpAnyH_take (i := 2) (v := ?_) rfl (by kernel_rfl) (by kernel_rfl) (by kernel_rfl) (fun _ _ _ h => h) (Or.inl ⟨by rfl, ?_⟩) (by assumption) ?_
        rotate_left
        · intro w' hSw; (try dsimp only at hSw); go_simp; try with_reducible rfl
        try simp only [Act.put, List.getElem_toArray, List.getElem_cons_zero, List.getElem_cons_succ, List.setIfInBounds_toArray, List.set_cons_zero, List.set_cons_succ]
        refine wpAnyH_take (i := 3) (v := ?_) rfl (by kernel_rfl) (by kernel_rfl) (by kernel_rfl) (fun _ _ _ h => h) (Or.inl ⟨by rfl, ?_⟩) (by assumption) ?_
        rotate_left
        · intro w' hSw; (try dsimp only at hSw); go_simp; try with_reducible rfl
        try simp only [Act.put, List.getElem_toArray, List.getElem_cons_zero, List.getElem_cons_succ, List.setIfInBounds_toArray, List.set_cons_zero, List.set_cons_succ]
        refine wpAnyH_take (i := 4) (v := ?_) rfl (by kernel_rfl) (by kernel_rfl) (by kernel_rfl) (fun _ _ _ h => h) (Or.inl ⟨by rfl, ?_⟩) (by assumption) ?_
        rotate_left
        · intro w' hSw; (try dsimp only at hSw); go_simp; try with_reducible rfl
        try simp only [Act.put, List.getElem_toArray, List.getElem_cons_zero, List.getElem_cons_succ, List.setIfInBounds_toArray, List.set_cons_zero, List.set_cons_succ]
        refine wpAnyH_ready (rs := [5]) (by kernel_rfl) (by simp) ?_
        refine AllReadyH.cons rfl (fun K hK => ?_) AllReadyH.nil
        go_simp
        refine (ST.out _ (by first | exact Fr.drew (Fr.refl _ _) | exact Fr.refl _ _)).mono ?_
        rintro e w1 ⟨rfl, G', L', R', n', p1, p2, p3, p4, p5⟩
        have zz := BX.out _ p4
        have zn := p1.nextCell
        have nx0 := p1.nx
        have nx1 : n' ≤ 1000 := by omega
        have hw1 : wrap64 (n' + 2) = n' + 2 := by unfold wrap64; omega
        have hw1' : IntKind.i64.wrap (n' + 2) = n' + 2 := by rw [IntKind.wrap_i64]; omega
        have P1 := Lib.hid p1; have P4 := Lib.hid p4; have P5 := Lib.hid p5; have ZZ := Lib.hid zz
        clear p1 p4 p5 zz p2
        try go_simp
        refine hK.out _ _ ?_ (fun hHeld => ?_)
        · (try dsimp only); exact ZZ.out
        clear hK K
        try simp only [Act.put, List.getElem_toArray, List.getElem_cons_zero, List.getElem_cons_succ, List.setIfInBounds_toArray, List.set_cons_zero, List.set_cons_succ]
        refine wpAnyH_take (i := 6) (v := ?_) rfl (by kernel_rfl) (by kernel_rfl) (by kernel_rfl) (fun _ _ _ h => h) (Or.inl ⟨by rfl, ?_⟩) (by assumption) ?_
        rotate_left
        · intro w' hSw; (try dsimp only at hSw); go_simp; try with_reducible rfl
        try simp only [Act.put, List.getElem_toArray, List.getElem_cons_zero, List.getElem_cons_succ, List.setIfInBounds_toArray, List.set_cons_zero, List.set_cons_succ]
        refine wpAnyH_take (i := 7) (v := ?_) rfl (by kernel_rfl) (by kernel_rfl) (by kernel_rfl) (fun _ _ _ h => h) (Or.inl ⟨by rfl, ?_⟩) (by assumption) ?_
        rotate_left
        · intro w' hSw; (try dsimp only at hSw); go_simp; try with_reducible rfl
        try simp only [Act.put, List.getElem_toArray, List.getElem_cons_zero, List.getElem_cons_succ, List.setIfInBounds_toArray, List.set_cons_zero, List.set_cons_succ]
        refine wpAnyH_take (i := 8) (v := ?_) rfl (by kernel_rfl) (by kernel_rfl) (by kernel_rfl) (fun _ _ _ h => h) (Or.inl ⟨by rfl, ?_⟩) (by assumption) ?_
        rotate_left
        · intro w' hSw; (try dsimp only at hSw); go_simp; try with_reducible rfl
        try simp only [Act.put, List.getElem_toArray, List.getElem_cons_zero, List.getElem_cons_succ, List.setIfInBounds_toArray, List.set_cons_zero, List.set_cons_succ]
        refine wpAnyH_take (i := 9) (v := ?_) rfl (by kernel_rfl) (by kernel_rfl) (by kernel_rfl) (fun _ _ _ h => h) (Or.inl ⟨by rfl, ?_⟩) (by assumption) ?_
        rotate_left
        · intro w' hSw; (try dsimp only at hSw); go_simp; try with_reducible rfl
        try simp only [Act.put, List.getElem_toArray, List.getElem_cons_zero, List.getElem_cons_succ, List.setIfInBounds_toArray, List.set_cons_zero, List.set_cons_succ]
        refine wpAnyH_take (i := 10) (v := ?_) rfl (by kernel_rfl) (by kernel_rfl) (by kernel_rfl) (fun _ _ _ h => h) (Or.inl ⟨by rfl, ?_⟩) (by assumption) ?_
        rotate_left
        · intro w' hSw; (try dsimp only at hSw); go_simp; try with_reducible rfl
        try simp only [Act.put, List.getElem_toArray, List.getElem_cons_zero, List.getElem_cons_succ, List.setIfInBounds_toArray, List.set_cons_zero, List.set_cons_succ]
        refine wpAnyH_take (i := 11) (v := ?_) rfl (by kernel_rfl) (by kernel_rfl) (by kernel_rfl) (fun _ _ _ h => h) (Or.inl ⟨by rfl, ?_⟩) (by assumption) ?_
        rotate_left
        · intro w' hSw; (try dsimp only at hSw); go_simp; try with_reducible rfl
        try simp only [Act.put, List.getElem_toArray, List.getElem_cons_zero, List.getElem_cons_succ, List.setIfInBounds_toArray, List.set_cons_zero, List.set_cons_succ]
        refine wpAnyH_take (i := 12) (v := ?_) rfl (by kernel_rfl) (by kernel_rfl) (by kernel_rfl) (fun _ _ _ h => h) (Or.inl ⟨by rfl, ?_⟩) (by assumption) ?_
        rotate_left
        · intro w' hSw; (try dsimp only at hSw); go_simp; try with_reducible rfl
        try simp only [Act.put, List.getElem_toArray, List.getElem_cons_zero, List.getElem_cons_succ, List.setIfInBounds_toArray, List.set_cons_zero, List.set_cons_succ]
        refine wpAnyH_take (i := 13) (v := ?_) rfl (by kernel_rfl) (by kernel_rfl) (by kernel_rfl) (fun _ _ _ h => h) (Or.inl ⟨by rfl, ?_⟩) (by assumption) ?_
        rotate_left
        · intro w' hSw; (try dsimp only at hSw); go_simp; try with_reducible rfl
        try simp only [Act.put, List.getElem_toArray, List.getElem_cons_zero, List.getElem_cons_succ, List.setIfInBounds_toArray, List.set_cons_zero, List.set_cons_succ]
        refine wpAnyH_take (i := 14) (v := ?_) rfl (by kernel_rfl) (by kernel_rfl) (by kernel_rfl) (fun _ _ _ h => h) (Or.inl ⟨by rfl, ?_⟩) (by assumption) ?_
        rotate_left
        · intro w' hSw; (try dsimp only at hSw); go_simp; try with_reducible rfl
        try simp only [Act.put, List.getElem_toArray, List.getElem_cons_zero, List.getElem_cons_succ, List.setIfInBounds_toArray, List.set_cons_zero, List.set_cons_succ]
        refine wpAnyH_take (i := 15) (v := ?_) rfl (by kernel_rfl) (by kernel_rfl) (by kernel_rfl) (fun _ _ _ h => h) (Or.inl ⟨by rfl, ?_⟩) (by assumption) ?_
        rotate_left
        · intro w' hSw; (try dsimp only at hSw); go_simp; try with_reducible rfl
        try simp only [Act.put, List.getElem_toArray, List.getElem_cons_zero, List.getElem_cons_succ, List.setIfInBounds_toArray, List.set_cons_zero, List.set_cons_succ]
        refine wpAnyH_take (i := 16) (v := ?_) rfl (by kernel_rfl) (by kernel_rfl) (by kernel_rfl) (fun _ _ _ h => h) (Or.inl ⟨by rfl, ?_⟩) (by assumption) ?_
        rotate_left
        · intro w' hSw; (try dsimp only at hSw); go_simp; try with_reducible rfl
        try simp only [Act.put, List.getElem_toArray, List.getElem_cons_zero, List.getElem_cons_succ, List.setIfInBounds_toArray, List.set_cons_zero, List.set_cons_succ]
        refine wpAnyH_take (i := 17) (v := ?_) rfl (by kernel_rfl) (by kernel_rfl) (by kernel_rfl) (fun _ _ _ h => h) (Or.inl ⟨by rfl, ?_⟩) (by assumption) ?_
        rotate_left
        · intro w' hSw; (try dsimp only at hSw); go_simp; try with_reducible rfl
        try simp only [Act.put, List.getElem_toArray, List.getElem_cons_zero, List.getElem_cons_succ, List.setIfInBounds_toArray, List.set_cons_zero, List.set_cons_succ]
        refine wpAnyH_ready (rs := [18]) (by kernel_rfl) (by simp) ?_
        refine AllReadyH.cons rfl (fun K hK => ?_) AllReadyH.nil
        go_simp
        skip
        try go_simp
        refine hK.out _ _ ?_ (fun hHeld => ?_)
        · (try dsimp only); exact hHeld
        clear hK K
        try simp only [Act.put, List.getElem_toArray, List.getElem_cons_zero, List.getElem_cons_succ, List.setIfInBounds_toArray, List.set_cons_zero, List.set_cons_succ]
        refine wpAnyH_take (i := 19) (v := ?_) rfl (by kernel_rfl) (by kernel_rfl) (by kernel_rfl) (fun _ _ _ h => h) (Or.inl ⟨by rfl, ?_⟩) (by assumption) ?_
        rotate_left
        · intro w' hSw; (try dsimp only at hSw); go_simp; try with_reducible rfl
        try simp only [Act.put, List.getElem_toArray, List.getElem_cons_zero, List.getElem_cons_succ, List.setIfInBounds_toArray, List.set_cons_zero, List.set_cons_succ]
        refine wpAnyH_ready (rs := [20]) (by kernel_rfl) (by simp) ?_
        refine AllReadyH.cons rfl (fun K hK => ?_) AllReadyH.nil
        go_simp
        refine (pick_any kv (n' + 2) _ KF.out (by omega) (by omega)).mono ?_
        rintro e w2 ⟨m', rfl, hm0, hm1, rfl⟩
        have hw2 : wrap64 (m' - 1) = m' - 1 := by unfold wrap64; omega
        have hw2' : IntKind.i64.wrap (m' - 1) = m' - 1 := by rw [IntKind.wrap_i64]; omega
        try go_simp
        refine hK.out _ _ ?_ (fun hHeld => ?_)
        · (try dsimp only); exact hHeld
        clear hK K
        try simp only [Act.put, List.getElem_toArray, List.getElem_cons_zero, List.getElem_cons_succ, List.setIfInBounds_toArray, List.set_cons_zero, List.set_cons_succ]
        refine wpAnyH_take (i := 21) (v := ?_) rfl (by kernel_rfl) (by kernel_rfl) (by kernel_rfl) (fun _ _ _ h => h) (Or.inl ⟨by rfl, ?_⟩) (by assumption) ?_
        rotate_left
        · intro w' hSw; (try dsimp only at hSw); go_simp; try with_reducible rfl
        try simp only [Act.put, List.getElem_toArray, List.getElem_cons_zero, List.getElem_cons_succ, List.setIfInBounds_toArray, List.set_cons_zero, List.set_cons_succ]
        refine wpAnyH_ready (rs := [22]) (by kernel_rfl) (by simp) ?_
        refine AllReadyH.cons rfl (fun K hK => ?_) AllReadyH.nil
        go_simp
        refine (II.out _ _ _ _ _ _ P1.out (by omega)).mono ?_
        rintro e w3 ⟨rfl, f3⟩
        have zz := BX.out _ (P4.out.trans (nofr f3) (fun _ _ h => h))
        have F3 := Lib.hid f3; have ZZ2 := Lib.hid zz
        clear f3 zz
        try go_simp
        refine hK.out _ _ ?_ (fun hHeld => ?_)
        · (try dsimp only); exact ZZ2.out
        clear hK K
        try simp only [Act.put, List.getElem_toArray, List.getElem_cons_zero, List.getElem_cons_succ, List.setIfInBounds_toArray, List.set_cons_zero, List.set_cons_succ]
        refine wpAnyH_take (i := 23) (v := ?_) rfl (by kernel_rfl) (by kernel_rfl) (by kernel_rfl) (fun _ _ _ h => h) (Or.inl ⟨by rfl, ?_⟩) (by assumption) ?_
        rotate_left
        · intro w' hSw; (try dsimp only at hSw); go_simp; try with_reducible rfl
        try simp only [Act.put, List.getElem_toArray, List.getElem_cons_zero, List.getElem_cons_succ, List.setIfInBounds_toArray, List.set_cons_zero, List.set_cons_succ]
        refine wpAnyH_take (i := 24) (v := ?_) rfl (by kernel_rfl) (by kernel_rfl) (by kernel_rfl) (fun _ _ _ h => h) (Or.inl ⟨by rfl, ?_⟩) (by assumption) ?_
        rotate_left
        · intro w' hSw; (try dsimp only at hSw); go_simp; try with_reducible rfl
        try simp only [Act.put, List.getElem_toArray, List.getElem_cons_zero, List.getElem_cons_succ, List.setIfInBounds_toArray, List.set_cons_zero, List.set_cons_succ]
        refine wpAnyH_done (by kernel_rfl) ?_ _
        go_wp2_with fail
        go_roundw
        case rel =>
          have hsz : bn < W2.heap.size := lt_of_block Hbn.out
          have hst := (Duo.step Q1.out Q2.out D12.out S1.out S2.out b1 b2 (by have := Hbtl.out; omega) (by have := Hbw.out; omega) P1.out p3 P4.out P5.out).fr F3.out
          have hfr3 : Fr GA W2 w3 := P4.out.trans (nofr F3.out) (fun _ _ h => h)
          refine ⟨i + 1, by first | (simp; done) | go_num, Hlt.out, ?_, hfr3.get Hb2.out (fun h => (S1.out bt h).2 rfl), Hf2.out.trans hfr3 (fun x _ h => (S1.out x h).1)⟩
          rcases Hxy.out with ⟨rfl, rfl⟩ | ⟨rfl, rfl⟩
          · exact hst
          · exact hst.symm
        case measure => have := Hlt.out; simp [intOf]; omega
      · obtain rfl : i = m := by have := Hi.out; omega
        clear hlt
        go_wp2_with fail
        go_meet
        exact ⟨Hd.out, Hb.out, Hf.out⟩
  case rest =>
    obtain ⟨hd, hb, hf⟩ := hcut
    obtain ⟨GA, LA, RA, nA, GB, LB, RB, nB, p1, p2, d12, s1, s2, b1, b2⟩ := hd.ex
    have c0 := cell_of hb 0
    have c1 := cell_of hb 1
    have c2 := cell_of hb 2
    have c3 := cell_of hb 3
    have c4 := cell_of hb 4
    have c5 := cell_of hb 5
    simp at c0 c1 c2 c3 c4 c5
    have i1 := is_ok p1 (by omega) 0
    have I1 := Lib.hid i1
    have Hf := Lib.hid hf; have Hb := Lib.hid hb; have P2 := Lib.hid p2; have B2 := Lib.hid b2
    clear hd hb hf p1 p2 d12 s1 s2 b1 b2 i1
    go_wp2_with fail
    refine I1.out.mono ?_
    rintro e w4 ⟨rfl, f4⟩
    have hb4 := f4.get Hb.out (fun h => h)
    have c3 := cell_of hb4 3
    have c4 := cell_of hb4 4
    have c5 := cell_of hb4 5
    simp at c3 c4 c5
    have i2 := is_ok (PairIs.fr P2.out f4 (fun _ _ h => h)) (by have := B2.out; omega) 0
    have I2 := Lib.hid i2; have F4 := Lib.hid f4
    clear i2 f4 hb4
    go_wp2_with fail
    refine I2.out.mono ?_
    rintro e w5 ⟨rfl, f5⟩
    have F5 := Lib.hid f5
    clear f5
    go_wp2_with fail
    refine (awake_ok _).mono ?_
    rintro e w6 ⟨rfl, f6⟩
    have F6 := Lib.hid f6
    clear f6
    go_wp2_with fail
    go_ret
    exact ⟨rfl, Fr.toNew (((Hf.out.trans (nofr F4.out) (fun _ _ h => h)).trans (nofr F5.out) (fun _ _ h => h)).trans (nofr F6.out) (fun _ _ h => h))⟩
theorem plays_law (w : World) (one : Int) (hf1 : Fits one) (two : Int) (hf2 : Fits two) {v0 : Value} {K : Nat → Nat → Int} {n0 : Nat} (h0 : IntsAt w v0 4 K n0) :
    Calls Try.prog 5 #[.int .i64 one, .int .i64 two, v0] w fun e w' => e = .returned (.bool true) ∧ Fr (fun _ => False) w w' := plays_walk one two hf1 hf2 w h0
end Go.Proofs.Ytfgpmbahekcoeaa
