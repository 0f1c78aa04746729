/- HeapAll: the walk. No condition. -/
import Derived.Test.YtfgpmbahekcoeaaMain
import Derived.Test.YtfgpmbahekcoeaaCopyR
import Derived.Test.YtfgpmbahekcoeaaFrame
import Derived.Deep.CutBlock
import Derived.Deep.LoopGhost
namespace Go.Proofs.Ytfgpmbahekcoeaa
open Go.RowKit Go.Shelf
attribute [local go_sem] Oper.semAt_some
set_option maxRecDepth 100000 in
set_option maxHeartbeats 8000000 in
theorem hall_walk (w : World) (kind : Int) (hf1 : Fits kind) {v0 : Value} {K : Nat → Nat → Int} {n0 : Nat} (h0 : IntsAt w v0 4 K n0) (at_ : Int) (hat : Fits at_) :
    Calls Try.prog 4 #[.int .i64 kind, v0, .int .i64 at_] w fun e w' => e = .returned (.bool true) ∧ Fr (fun _ => False) w w' := by
  have hro : Fence.wide.round = none := rfl
  have h1 : 1 ≤ 3 := by omega
  have H0 := Lib.hid h0
  clear h0 hat
  refine (callsIn_wide (n := 3)).1 (callsIn_of_wp_marks Try.func4 rfl trivial ?_ hro)
  refine wpIn_wide.2 ?_
  simp only [Try.ntmps4, List.size_toArray, List.length_cons, List.length_nil, Nat.reduceAdd, Nat.reduceSub, Array.replicate_succ, Array.replicate_zero, List.push_toArray, List.append_toArray, List.nil_append, List.cons_append]
  go_wp2_with fail
  refine (fresh_ok kind hf1 _).mono ?_
  rintro e w1 ⟨G1, bk1, bh1, rh1, rfl, f1, p1, s1⟩
  generalize hk1 : kind % 7 = k1 at *
  have F1 := Lib.hid f1; have P1 := Lib.hid p1; have S1 := Lib.hid s1
  clear f1 p1 s1 hk1 hf1
  go_wp2_with fail
  have hmain : Main w w1.heap.size at_ (bk1, bh1, rh1, k1) 0 (w1.alloc (.cells #[.pointer (some ⟨bh1, 0, none⟩), .pointer (some ⟨rh1, 0, none⟩), .bool (decide (k1 < 4))] 51)) := by
    have fA : Fr (fun _ => False) w1 (w1.alloc (.cells #[.pointer (some ⟨bh1, 0, none⟩), .pointer (some ⟨rh1, 0, none⟩), .bool (decide (k1 < 4))] 51)) := Fr.alloc (Fr.refl _ _) _
    have fB : Fr (fun _ => False) w ((w.alloc (.cells #[.int .i64 at_] 3)).alloc (.cells #[.bool false] 4)) := Fr.alloc (Fr.alloc (Fr.refl _ _) _) _
    have q := F1.out.trans fA (fun _ _ h => h)
    refine ⟨⟨G1, [], [], 0, P1.out.fr fA (fun _ _ h => h), by simp, ?_⟩, heap_alloc_at _ _, q.get ?_ (fun h => h), q.get ?_ (fun h => h), (nofr fB).trans (nofr q) (fun _ _ h => h)⟩
    · intro x hx
      have h1 := S1.out x hx
      have h2 := P1.out.bd x hx
      simp at h1
      exact ⟨by omega, by omega⟩
    · simp only [heap_alloc_get, World.size_alloc]; simp
    · simp only [heap_alloc_get, World.size_alloc]; simp
  generalize (w1.alloc (.cells #[.pointer (some ⟨bh1, 0, none⟩), .pointer (some ⟨rh1, 0, none⟩), .bool (decide (k1 < 4))] 51)) = W at *
  generalize hbtn : w1.heap.size = bt at *
  clear hbtn F1 P1 S1
  obtain ⟨x, hx⟩ : ∃ x : Pl, x = (bk1, bh1, rh1, k1) := ⟨_, rfl⟩
  rw [← hx] at hmain
  have Hmain := Lib.hid hmain; have Hx := Lib.hid hx
  clear hmain hx
  refine (few_ok _ _ H0.out).mono ?_
  rintro e w3 ⟨v1, rfl, hv1, rfl⟩
  obtain ⟨m, hm⟩ : ∃ m, m = min n0 300 := ⟨_, rfl⟩
  have hm300 : m ≤ 300 := by omega
  rw [← hm] at hv1
  clear hm
  obtain ⟨a1, c1, rfl, hmc, hcc, hops⟩ := id hv1
  have H1 := Lib.hid hv1
  clear hv1 hcc hops
  go_upto_block 0 with fail
  go_cut [8] from 16 (fun _ wx => Main w bt at_ x m wx)
  case first =>
    go_wp2_with fail
    go_loopw [8] (fun s8 wr => ∃ i : Nat, s8 = .int .i64 i ∧ i ≤ m ∧ Main w bt at_ x i wr) (fun s8 _ => m - (intOf s8).toNat)
    case atStart => exact ⟨0, rfl, by omega, Hmain.out⟩
    case round =>
      obtain ⟨i, rfl, hi, hd⟩ := hrel
      have hIv := H1.out.fr hd.fr (fun b hb h => by omega) (by omega)
      have Hd := Lib.hid hd; have Hi := Lib.hid hi
      clear hd hi
      by_cases hlt : i < m
      · have hlt' : (i : Int) < (m : Int) := by omega
        obtain ⟨a1', c1', e1, _, _, hor⟩ := hIv
        simp only [Value.slice.injEq] at e1
        obtain ⟨rfl, _, rfl⟩ := e1
        obtain ⟨sb, so, rfl, hcell⟩ := hor.resolve_left (by omega)
        have k0 := (hcell i 0 hlt (by omega)).1
        have k1' := (hcell i 1 hlt (by omega)).1
        have k2 := (hcell i 2 hlt (by omega)).1
        have k3 := (hcell i 3 hlt (by omega)).1
        have kf2 := (hcell i 2 hlt (by omega)).2
        have kf3 := (hcell i 3 hlt (by omega)).2
        simp only [Nat.add_zero] at k0
        obtain ⟨kd, hkd⟩ : ∃ x, x = K i 0 := ⟨_, rfl⟩
        obtain ⟨on, hon⟩ : ∃ x, x = K i 1 := ⟨_, rfl⟩
        obtain ⟨kn, hkn⟩ : ∃ x, x = K i 2 := ⟨_, rfl⟩
        obtain ⟨kv, hkv⟩ : ∃ x, x = K i 3 := ⟨_, rfl⟩
        rw [← hkd] at k0; rw [← hon] at k1'; rw [← hkn] at k2 kf2; rw [← hkv] at k3 kf3
        have sbo : sb < w.heap.size := by
          rcases H1.out with ⟨a', c', e', _, _, h3⟩
          simp only [Value.slice.injEq] at e'
          obtain ⟨e1, _, _⟩ := e'
          obtain ⟨b', o', e2, h4⟩ := h3.resolve_left (by omega)
          rw [e2] at e1
          simp at e1
          have := World.block_lt_of_cell? w _ (h4 i 0 hlt (by omega)).1
          simp at this; omega
        have i300 : (i : Int) ≤ 300 := by omega
        have i0 : (0 : Int) ≤ (i : Int) := by omega
        obtain ⟨GA, LA, RA, nA, p1, hn, s1⟩ := Hd.out.ex
        have hnx := PairIs.nx p1
        have hb := Hd.out.two
        obtain ⟨bo, hbo⟩ : ∃ bo, decide (x.2.2.2 < 4) = bo := ⟨_, rfl⟩
        have st : ∀ w0, Fr (fun _ => False) wr w0 → Calls Try.prog 23 #[.agg #[.pointer (some ⟨x.2.1, 0, none⟩), .pointer (some ⟨x.2.2.1, 0, none⟩), .bool bo], .agg #[.int .i64 kd, .int .i64 on, .int .i64 kn, .int .i64 kv]] w0 fun e w' => e = .returned (.bool true) ∧ Stepped GA x.1 x.2.1 x.2.2.1 x.2.2.2 nA wr w' := by
          intro w0 f0
          have := step_ok (PairIs.fr p1 f0 (fun _ _ h => h)) hnx (by omega) kd on kn kv kf2 kf3
          unfold twoV at this
          rw [hbo] at this
          refine this.mono ?_
          rintro e w' ⟨rfl, G', L', R', n', r1, r2, r3, r4, r5⟩
          exact ⟨rfl, G', L', R', n', r1, r2, r3, (nofr f0).trans r4 (fun _ _ h => h), grew_fr r5 f0⟩
        rw [hbo] at hb
        have d0 := cell_of hb 0
        have d1 := cell_of hb 1
        have d2 := cell_of hb 2
        simp at d0 d1 d2
        have hbx : ∀ w', Fr GA wr w' → (w'.cell? ⟨bt, 0, none⟩ = some (.pointer (some ⟨x.2.1, 0, none⟩)) ∧ w'.cell? ⟨bt, 1, none⟩ = some (.pointer (some ⟨x.2.2.1, 0, none⟩)) ∧ w'.cell? ⟨bt, 2, none⟩ = some (.bool bo)) ∧ (w'.cell? ⟨sb, so + i * 4, none⟩ = some (.int .i64 kd) ∧ w'.cell? ⟨sb, so + i * 4 + 1, none⟩ = some (.int .i64 on) ∧ w'.cell? ⟨sb, so + i * 4 + 2, none⟩ = some (.int .i64 kn) ∧ w'.cell? ⟨sb, so + i * 4 + 3, none⟩ = some (.int .i64 kv)) := by
          intro w' f
          have h1 := f.get hb (fun h => (s1 _ h).2 rfl)
          have hs : sb < wr.heap.size := by have := Hd.out.fr.size; omega
          have hn : ¬ GA sb := fun h => by have := (s1 sb h).1; omega
          exact ⟨⟨(cell_of h1 0).trans (by simp), (cell_of h1 1).trans (by simp), (cell_of h1 2).trans (by simp)⟩, (f.cell hs hn).trans k0, (f.cell hs hn).trans k1', (f.cell hs hn).trans k2, (f.cell hs hn).trans k3⟩
        have ST := Lib.hid st; have BX := Lib.hid hbx; have S1 := Lib.hid s1; have Hn := Lib.hid hn; have Hlt := Lib.hid hlt; have Q1 := Lib.hid p1
        clear st hbx s1 hn hlt p1 hb hbo kf2 kf3 hcell hkd hon hkn hkv hor sbo hnx
        go_upto_region 8 with fail
        have k1 := k1'
        clear k1'
        refine wp_noexit ?_
        refine wp_region_held_drew (S := fun w' => (w'.cell? ⟨bt, 0, none⟩ = some (.pointer (some ⟨x.2.1, 0, none⟩)) ∧ w'.cell? ⟨bt, 1, none⟩ = some (.pointer (some ⟨x.2.2.1, 0, none⟩)) ∧ w'.cell? ⟨bt, 2, none⟩ = some (.bool bo)) ∧ (w'.cell? ⟨sb, so + i * 4, none⟩ = some (.int .i64 kd) ∧ w'.cell? ⟨sb, so + i * 4 + 1, none⟩ = some (.int .i64 on) ∧ w'.cell? ⟨sb, so + i * 4 + 2, none⟩ = some (.int .i64 kn) ∧ w'.cell? ⟨sb, so + i * 4 + 3, none⟩ = some (.int .i64 kv))) (by kernel_rfl) (by exact ⟨⟨d0, d1, d2⟩, k0, k1, k2, k3⟩) (fun hHeld => ?_)
        refine wpAnyH_take (i := 0) (v := ?_) rfl (by kernel_rfl) (by kernel_rfl) (by kernel_rfl) (fun _ _ _ h => h) (Or.inl ⟨by rfl, ?_⟩) (by assumption) ?_
        rotate_left
        · intro w' hSw; (try dsimp only at hSw); go_simp; try with_reducible rfl
        try simp only [Act.put, List.getElem_toArray, List.getElem_cons_zero, List.getElem_cons_succ, List.setIfInBounds_toArray, List.set_cons_zero, List.set_cons_succ]
        refine wpAnyH_take (i := 1) (v := ?_) rfl (by kernel_rfl) (by kernel_rfl) (by kernel_rfl) (fun _ _ _ h => h) (Or.inl ⟨by rfl, ?_⟩) (by assumption) ?_
        rotate_left
        · intro w' hSw; (try dsimp only at hSw); go_simp; try with_reducible rfl
        try simp only [Act.put, List.getElem_toArray, List.getElem_cons_zero, List.getElem_cons_succ, List.setIfInBounds_toArray, List.set_cons_zero, List.set_cons_succ]
        refine wpAnyH_take (i := 2) (v := ?_) rfl (by kernel_rfl) (by kernel_rfl) (by kernel_rfl) (fun _ _ _ h => h) (Or.inl ⟨by rfl, ?_⟩) (by assumption) ?_
        rotate_left
        · intro w' hSw; (try dsimp only at hSw); go_simp; try with_reducible rfl
        try simp only [Act.put, List.getElem_toArray, List.getElem_cons_zero, List.getElem_cons_succ, List.setIfInBounds_toArray, List.set_cons_zero, List.set_cons_succ]
        refine wpAnyH_take (i := 3) (v := ?_) rfl (by kernel_rfl) (by kernel_rfl) (by kernel_rfl) (fun _ _ _ h => h) (Or.inl ⟨by rfl, ?_⟩) (by assumption) ?_
        rotate_left
        · intro w' hSw; (try dsimp only at hSw); go_simp; try with_reducible rfl
        try simp only [Act.put, List.getElem_toArray, List.getElem_cons_zero, List.getElem_cons_succ, List.setIfInBounds_toArray, List.set_cons_zero, List.set_cons_succ]
        refine wpAnyH_take (i := 4) (v := ?_) rfl (by kernel_rfl) (by kernel_rfl) (by kernel_rfl) (fun _ _ _ h => h) (Or.inl ⟨by rfl, ?_⟩) (by assumption) ?_
        rotate_left
        · intro w' hSw; (try dsimp only at hSw); go_simp; try with_reducible rfl
        try simp only [Act.put, List.getElem_toArray, List.getElem_cons_zero, List.getElem_cons_succ, List.setIfInBounds_toArray, List.set_cons_zero, List.set_cons_succ]
        refine wpAnyH_ready (rs := [5]) (by kernel_rfl) (by simp) ?_
        refine AllReadyH.cons rfl (fun K hK => ?_) AllReadyH.nil
        go_simp
        refine (ST.out _ (by first | exact Fr.drew (Fr.refl _ _) | exact Fr.refl _ _)).mono ?_
        rintro e w1 ⟨rfl, G', L', R', n', p1, p2, p3, p4, p5⟩
        have zz := BX.out _ p4
        have P1 := Lib.hid p1; have P4 := Lib.hid p4; have P5 := Lib.hid p5; have ZZ := Lib.hid zz; have P3 := Lib.hid p3
        clear p1 p4 p5 zz p2 p3
        try go_simp
        refine hK.out _ _ ?_ (fun hHeld => ?_)
        · (try dsimp only); exact ZZ.out
        clear hK K
        try simp only [Act.put, List.getElem_toArray, List.getElem_cons_zero, List.getElem_cons_succ, List.setIfInBounds_toArray, List.set_cons_zero, List.set_cons_succ]
        refine wpAnyH_take (i := 6) (v := ?_) rfl (by kernel_rfl) (by kernel_rfl) (by kernel_rfl) (fun _ _ _ h => h) (Or.inl ⟨by rfl, ?_⟩) (by assumption) ?_
        rotate_left
        · intro w' hSw; (try dsimp only at hSw); go_simp; try with_reducible rfl
        try simp only [Act.put, List.getElem_toArray, List.getElem_cons_zero, List.getElem_cons_succ, List.setIfInBounds_toArray, List.set_cons_zero, List.set_cons_succ]
        refine wpAnyH_done (by kernel_rfl) ?_ _
        go_wp2_with fail
        go_roundw
        case rel => exact ⟨i + 1, by first | (simp; done) | go_num, Hlt.out, Hd.out.step S1.out Hn.out P1.out P3.out P4.out P5.out⟩
        case measure => have := Hlt.out; simp [intOf]; omega
      · obtain rfl : i = m := by have := Hi.out; omega
        clear hlt hIv
        go_wp2_with fail
        go_meet
        exact Hd.out
  case rest =>
  have hmn := hcut
  clear hcut H1 Hmain hmc
  have fE : Fr (fun _ => False) wc (wc.alloc (.cells #[] 65)) := Fr.alloc (Fr.refl _ _) _
  have hmn2 := hmn.keep fE
  obtain ⟨GA, LA, RA, nA, p1, hn, s1⟩ := hmn.ex
  obtain ⟨G1, G2, pp⟩ := PairIs.parts p1 fE
  obtain ⟨G1', G2', pp0⟩ := PairIs.parts p1 (Fr.refl _ wc)
  have hlenR := pp.r.len
  obtain ⟨sv0, hr0, hr1, hr2⟩ := pp0.r.ex
  obtain ⟨ra, rc, rfl, hcs⟩ := row_cells hr1
  have hb := hmn2.two
  have c0 := cell_of hb 0
  have c1' := cell_of hb 1
  have r1 := cell_of (fE.get hr0 (fun h => h)) 1
  simp at c0 c1' r1
  obtain ⟨v9, w9, hrun, hR9, hf9, ho9⟩ := copy_items rfl rfl hr1 hlenR
  obtain ⟨a9, cp9, hv9⟩ : ∃ a c, v9 = .slice a RA.length c := by
    rcases hR9.2 with ⟨rfl, h0⟩ | ⟨g, cap, cur, rfl, _⟩
    · exact ⟨none, 0, by rw [h0]⟩
    · exact ⟨_, _, rfl⟩
  subst hv9
  have f9 : Fr (fun b => b = wc.heap.size) (wc.alloc (.cells #[] 65)) (w9.alloc (.cells #[.slice a9 RA.length cp9] 54)) := hf9.alloc _
  have hbtl : bt < wc.heap.size := lt_of_block hmn.two
  have hresl : w.heap.size + 1 < wc.heap.size := lt_of_block hmn.res
  have hb9 := f9.get hb (by omega)
  have q0 := cell_of hb9 0
  simp at q0
  have hG1 : ∀ b, G1 b → b < wc.heap.size := fun b hb => PairIs.bd p1 b (pp.s1 b hb)
  have hbkl : x.1 < wc.heap.size := lt_of_block pp0.h.j
  have hH9 := pp.h.fr f9 (f9.get pp.h.j (by omega)) (fun b hb => by have := hG1 b hb; omega)
  have hR9' := Row.fr hR9 (Fr.alloc (Fr.refl (fun _ => False) w9) (.cells #[.slice a9 RA.length cp9] 54)) (fun _ _ h => h)
  have h9 : (w9.alloc (.cells #[.slice a9 RA.length cp9] 54)).heap[w9.heap.size]? = some (.cells #[.slice a9 RA.length cp9] 54 (0, 0)) := heap_alloc_at _ _
  have hat9 := f9.get hmn2.at_ (by omega)
  have hre9 := f9.get hmn2.res (by omega)
  have hfw9 : Fr (fun z => w.heap.size ≤ z) w (w9.alloc (.cells #[.slice a9 RA.length cp9] 54)) := hmn2.fr.trans f9 (fun b _ e => by have := hmn.fr.size; omega)
  have hsz9 : wc.heap.size < w9.heap.size := by have := hf9.size; simp at this; omega
  have hs1 : ∀ b, G1 b → w.heap.size + 2 ≤ b ∧ b ≠ bt := fun b hb => s1 b (pp.s1 b hb)
  have hL := pp.less
  have hnA : nA ≤ 300 := by omega
  have hgk := s1 _ (PairIs.gk p1)
  have hrel := PairIs.rel p1
  have Hrun := Lib.hid hrun; have Hrel := Lib.hid hrel; have HB9 := Lib.hid hb9
  clear hmn hmn2 pp pp0 hr0 hr1 hr2 hcs s1 hn p1 hb hb9 hf9 hR9 fE hrun hrel
  have HG1 := Lib.hid hG1; have Hbkl := Lib.hid hbkl; have HH9 := Lib.hid hH9; have HR9 := Lib.hid hR9'; have H9 := Lib.hid h9; have Hat9 := Lib.hid hat9; have Hre9 := Lib.hid hre9; have Hfw9 := Lib.hid hfw9; have Hsz9 := Lib.hid hsz9
  have HS1 := Lib.hid hs1; have HL := Lib.hid hL; have HnA := Lib.hid hnA; have Hgk := Lib.hid hgk; have F9 := Lib.hid f9; have Ho9 := Lib.hid ho9; have HlenR := Lib.hid hlenR; have Hbtl := Lib.hid hbtl; have Hresl := Lib.hid hresl
  clear hG1 hbkl hH9 hR9' h9 hat9 hre9 hfw9 hsz9 hs1 hL hnA hgk f9 ho9 hlenR hbtl hresl
  go_wp2_with (at_builtin; refine wpList_append_run rfl _ _ _ rfl rfl rfl Hrun.out ?_)
  refine (all_ok HL.out HH9.out (by have := HnA.out; omega)).mono ?_
  rintro e wA ⟨B, sv, S, rfl, hB2, hbx, hS, hit, hsvn, fA⟩
  obtain rfl := Hrel.out.order hS
  have hkeep : Kept w.heap.size bt w9.heap.size B at_ x (.slice a9 RA.length cp9) sv RA wA.heap.size wA := by
    exact ⟨fA.get HB9.out (fun h => h), fA.get H9.out (fun h => h), Row.fr HR9.out fA (fun _ _ h => h), fA.get Hat9.out (fun h => h), fA.get Hre9.out (fun h => h), hbx, hit, Nat.le_refl _⟩
  have hHA := HH9.out.fr fA (fA.get HH9.out.j (fun h => h)) (fun _ _ h => h)
  -- the blocks of what is kept are none of the heap's
  have hapart : ∀ b, (b = bt ∨ b = w9.heap.size ∨ b = B ∨ b = w.heap.size ∨ b = w.heap.size + 1 ∨ (Value.slice a9 RA.length cp9).ownBlock = some b ∨ sv.ownBlock = some b) → ¬ (b = x.1 ∨ G1 b) ∧ b < wA.heap.size := by
    have hB3 := lt_of_block hbx
    have h9A := lt_of_block H9.out
    have hsA := fA.size
    have h1 := Hsz9.out
    have h2 := Hbkl.out; have h3 := Hgk.out; have h4 := Hbtl.out; have h5 := Hresl.out
    have hbt : ∀ b, wc.heap.size ≤ b → ¬ (b = x.1 ∨ G1 b) := by
      rintro b hb (rfl | h)
      · omega
      · have := HG1.out b h; omega
    simp only [World.size_alloc] at hB2 hsA h9A
    rintro b (rfl | rfl | rfl | rfl | rfl | h | h)
    · refine ⟨?_, by omega⟩
      rintro (e | h)
      · exact h3.2 e.symm
      · exact (HS1.out _ h).2 rfl
    · exact ⟨hbt _ (by omega), by omega⟩
    · exact ⟨hbt _ (by omega), hB3⟩
    · refine ⟨?_, by omega⟩
      rintro (e | h)
      · omega
      · have := (HS1.out _ h).1; omega
    · refine ⟨?_, by omega⟩
      rintro (e | h)
      · omega
      · have := (HS1.out _ h).1; omega
    · exact ⟨hbt _ (Ho9.out b h), by have := Row.lt HR9.out h; simp at this; omega⟩
    · have := hsvn b h; simp at this; exact ⟨hbt _ (by omega), this.2⟩
  have hfwA : Fr (fun z => w.heap.size ≤ z) w wA := Hfw9.out.trans (nofr fA) (fun _ _ h => h)
  have hbkA : x.1 < wA.heap.size := lt_of_block hHA.j
  have hG1A : ∀ b, G1 b → b < wA.heap.size := hHA.bd
  have hwG : ∀ b, (b = x.1 ∨ G1 b) → w.heap.size ≤ b := by
    rintro b (rfl | h)
    · have := Hgk.out; omega
    · have := (HS1.out _ h).1; omega
  have HKP := Lib.hid hkeep; have HA := Lib.hid hHA; have HAp := Lib.hid hapart; have HfwA := Lib.hid hfwA; have HbkA := Lib.hid hbkA; have HG1A := Lib.hid hG1A; have HwG := Lib.hid hwG; have HSV := Lib.hid hsvn
  clear hkeep hHA hapart hfwA hbkA hG1A hwG hB2 hbx hS hit hsvn fA c0 c1' r1 q0
  clear HB9 Hrun HR9 H9 Hat9 Hre9 Hfw9 F9 Ho9 HH9 HG1 Hbkl Hsz9
  go_upto_block 2 with fail
  refine wp_cutD (fun ds' W' => ∃ D, ds' = [mark D] ∧ wA.heap.size ≤ D ∧ W'.heap[D]? = some (.deferred (some [])) ∧ Fr (fun _ => False) wA W') ?rest ?first
  case first =>
    intro K' hK'
    go_wp2_with fail
    refine (wpIn_wide (n := 3)).1 ?_
    refine wpIn_rangeFunc_ownF hro h1 (gf := 67) (lb := #[.pointer (some ⟨B, 0, none⟩)]) rfl trivial (enters_of Try.func67 (by kernel_rfl) rfl)
      (iter_stopsK Fence.wide (3 - 1) trivial hro (by omega) B wA.heap.size sv (RA.map sw) (by have := HlenR.out; rw [List.length_map]; omega) wA (lt_of_block HKP.out.box) (Nat.le_refl _) (Boxed.cell HKP.out.box) HKP.out.items (fun b => sv.ownBlock = some b) (fun _ h => h))
      KeepsB.trans (keepsB_b (fun b e => (HAp.out b (by simp [e])).2)) (Below.refl _ _) (fun _ => rfl)
      (fun _ W' => Fr (fun _ => False) wA W') (fun c _ W' => c = .exit 2 ∧ Fr (fun _ => False) wA W')
      ?own ?ownx (Fr.refl _ _) ?a1 ?assign ?body ?done ?stop
    case own =>
      intro s A B' row hs hg hr
      exact hs.trans (grownBy.fr hg) (fun i hi e => by have := (hr _ e).1; omega)
    case ownx =>
      intro c s A B' row hs hg hr
      exact ⟨hs.1, hs.2.trans (grownBy.fr hg) (fun i hi e => by have := (hr _ e).1; omega)⟩
    case assign =>
      intro l x W' K hK
      gi_wp2
      exact hK
    case body =>
      intro l pre y W' hI _
      gi_wp2
      exact ⟨KeepsOthers.refl _, rfl, hI⟩
    case done =>
      rintro D ys W' hD rfl hI hK
      exact hK' _ _ ⟨D, rfl, hD, hK, hI⟩
    case stop =>
      rintro D c pre W' hD _ ⟨rfl, hI⟩ hK
      gi_wp2
      exact ⟨D, rfl, hD, hK, hI⟩
  case rest =>
  rintro ds' W1 ⟨D0, rfl, hD, hDk, hfD⟩
  have HA1 := Lib.hid (HA.out.fr hfD (hfD.get HA.out.j (fun h => h)) (fun _ _ h => h))
  have KP1 := Lib.hid (HKP.out.fr hfD (fun _ _ h => h))
  have e0 := cell_of KP1.out.two 0
  simp at e0
  have HfD := Lib.hid hfD; have HD := Lib.hid hD; have HDk := Lib.hid hDk
  clear hfD hD hDk
  go_wp2_with fail
  refine (pop_any HL.out HA1.out).mono ?_
  rintro e W2 ⟨pv, pm, pok, L2, rfl, h2, f2⟩
  have KP2 := Lib.hid (KP1.out.fr f2 (fun b hb h => (HAp.out b hb).1 h))
  have e0 := cell_of KP2.out.two 0
  simp at e0
  have H2 := Lib.hid h2; have F2 := Lib.hid f2
  clear h2 f2
  go_wp2_with fail
  refine (push_any HL.out H2.out (by have := HnA.out; omega) (v := 77) (fits_small (by omega) (by omega))).mono ?_
  rintro e W3 ⟨pa, per, L3, n3, G3, rfl, hn3, h3, f3, g3⟩
  have KP3 := Lib.hid (KP2.out.fr f3 (fun b hb h => (HAp.out b hb).1 h))
  -- the heap's blocks from here on: U
  have hU : ∀ b, (b = x.1 ∨ G3 b) → (b = x.1 ∨ G1 b) ∨ W2.heap.size ≤ b := by
    rintro b (rfl | h)
    · exact .inl (.inl rfl)
    · exact (g3 b h).imp .inr id
  have hsz2 : wA.heap.size ≤ W1.heap.size ∧ W1.heap.size ≤ W2.heap.size ∧ W2.heap.size ≤ W3.heap.size ∧ D0 < W1.heap.size := ⟨HfD.out.size, F2.out.size, f3.size, lt_of_block HDk.out⟩
  have hUK : ∀ b, (b = w9.heap.size ∨ b = bt ∨ b = B ∨ b = w.heap.size ∨ b = w.heap.size + 1 ∨ (Value.slice a9 RA.length cp9).ownBlock = some b ∨ sv.ownBlock = some b ∨ b = D0) → ¬ (b = x.1 ∨ G3 b) := by
    intro b hb hu
    rcases hU b hu with h | h
    · rcases hb with e | e | e | e | e | e | e | e
      · exact (HAp.out b (by simp [e])).1 h
      · exact (HAp.out b (by simp [e])).1 h
      · exact (HAp.out b (by simp [e])).1 h
      · exact (HAp.out b (by simp [e])).1 h
      · exact (HAp.out b (by simp [e])).1 h
      · exact (HAp.out b (by simp [e])).1 h
      · exact (HAp.out b (by simp [e])).1 h
      · rcases h with h | h
        · have := HbkA.out; have := HD.out; omega
        · have := HG1A.out _ h; have := HD.out; omega
    · have hlt : b < W2.heap.size := by
        rcases hb with e | e | e | e | e | e | e | e
        · have := (HAp.out b (by simp [e])).2; omega
        · have := (HAp.out b (by simp [e])).2; omega
        · have := (HAp.out b (by simp [e])).2; omega
        · have := (HAp.out b (by simp [e])).2; omega
        · have := (HAp.out b (by simp [e])).2; omega
        · have := (HAp.out b (by simp [e])).2; omega
        · have := (HAp.out b (by simp [e])).2; omega
        · omega
      omega
  have HU := Lib.hid hU; have HUK := Lib.hid hUK; have Hsz2 := Lib.hid hsz2
  have hD3 : W3.heap[D0]? = some (.deferred (some [])) := f3.get (F2.out.get HDk.out (fun h => by
    rcases h with h | h
    · have := HbkA.out; have := HD.out; omega
    · have := HG1A.out _ h; have := HD.out; omega)) (fun h => by
    rcases h with h | h
    · have := HbkA.out; have := HD.out; omega
    · have := HG1A.out _ h; have := HD.out; omega)
  have hfw3 : Fr (fun z => w.heap.size ≤ z) w W3 := (((HfwA.out.trans (nofr HfD.out) (fun _ _ h => h)).trans F2.out (fun b _ h => HwG.out b h)).trans f3 (fun b _ h => HwG.out b h))
  have HD3 := Lib.hid hD3; have Hfw3 := Lib.hid hfw3
  have H3 := Lib.hid h3
  obtain ⟨si, cpi, hsi, hcsi⟩ := row_cells KP3.out.row
  simp only [Value.slice.injEq] at hsi
  obtain ⟨rfl, _, rfl⟩ := hsi
  have e0 := cell_of KP3.out.two 0
  have e9 := cell_of KP3.out.nine 0
  simp at e0 e9
  have HCS := Lib.hid hcsi
  clear hU hUK hsz2 hD3 hfw3 h3 f3 g3 hcsi
  go_upto_block 4 with fail
  go_cut [11] from 16 (fun _ wx => ∃ L, HeapIs (KindAt x.1 x.2.2.2) (fun b => b = x.1) Fits (ordFn x.1) G3 x.2.1 L n3 wx ∧ Fr (fun b => b = x.1 ∨ G3 b) W3 wx)
  case first =>
    go_wp2_with fail
    go_loopw [11] (fun s11 wr => ∃ (i : Nat) (L : List It), s11 = .int .i64 i ∧ i ≤ RA.length ∧ HeapIs (KindAt x.1 x.2.2.2) (fun b => b = x.1) Fits (ordFn x.1) G3 x.2.1 L n3 wr ∧ Fr (fun b => b = x.1 ∨ G3 b) W3 wr) (fun s11 _ => RA.length - (intOf s11).toNat)
    case atStart => exact ⟨0, L3, rfl, by omega, H3.out, Fr.refl _ _⟩
    case round =>
      obtain ⟨i, L, rfl, hi, hh, hf⟩ := hrel
      have kp := KP3.out.fr hf (fun b hb h => HUK.out b (by rcases hb with h | h | h | h | h | h | h <;> simp [h]) h)
      have c0 := cell_of kp.two 0
      have c9 := cell_of kp.nine 0
      simp at c0 c9
      by_cases hlt : i < RA.length
      · obtain ⟨ai, ci, ei, hcx⟩ := row_cells kp.row
        simp only [Value.slice.injEq] at ei
        obtain ⟨rfl, _, rfl⟩ := ei
        obtain ⟨ig, rfl, q0, _⟩ := hcx i hlt
        obtain ⟨ih, hih⟩ : ∃ ih, (itAt RA i).1 = ih := ⟨_, rfl⟩
        rw [hih] at q0
        have i1 : (i : Int) < (RA.length : Int) := by omega
        have i0 : (0 : Int) ≤ (i : Int) := by omega
        have i2 : (i : Int) ≤ 70000 := by have := HlenR.out; omega
        have hHH : ∀ w0, Fr (fun _ => False) wr w0 → HeapIs (KindAt x.1 x.2.2.2) (fun b => b = x.1) Fits (ordFn x.1) G3 x.2.1 L n3 w0 := fun w0 f => hh.fr f (f.get hh.j (fun h => h)) (fun _ _ h => h)
        have hKS : ∀ w', Fr (fun b => b = x.1 ∨ G3 b) wr w' → w'.cell? ⟨bt, 0, none⟩ = some (.pointer (some ⟨x.2.1, 0, none⟩)) ∧ w'.cell? ⟨w9.heap.size, 0, none⟩ = some (.slice (some ⟨ig, 0, none⟩) RA.length cp9) ∧ w'.cell? ⟨ig, i * 2, none⟩ = some (.int .i64 ih) := by
          intro w' f
          have kp' := kp.fr f (fun b hb h => HUK.out b (by rcases hb with h | h | h | h | h | h | h <;> simp [h]) h)
          have hig : ig < wr.heap.size := World.block_lt_of_cell? wr _ q0
          exact ⟨(cell_of kp'.two 0).trans (by simp), (cell_of kp'.nine 0).trans (by simp), (f.cell hig (fun h => HUK.out ig (by simp [Value.ownBlock]) h)).trans q0⟩
        have HH := Lib.hid hHH; have KS := Lib.hid hKS; have Hf := Lib.hid hf; have Hlt := Lib.hid hlt
        clear hHH hKS hf hlt hh kp hcx hih hi
        go_upto_region 18 with fail
        refine wp_noexit2 ?_
        refine wp_region_held_drew (S := fun w' => w'.cell? ⟨bt, 0, none⟩ = some (.pointer (some ⟨x.2.1, 0, none⟩)) ∧ w'.cell? ⟨w9.heap.size, 0, none⟩ = some (.slice (some ⟨ig, 0, none⟩) RA.length cp9) ∧ w'.cell? ⟨ig, i * 2, none⟩ = some (.int .i64 ih)) (by kernel_rfl) (by exact ⟨c0, c9, q0⟩) (fun hHeld => ?_)
        refine wpAnyH_take (i := 0) (v := ?_) rfl (by kernel_rfl) (by kernel_rfl) (by kernel_rfl) (fun _ _ _ h => h) (Or.inl ⟨by rfl, ?_⟩) (by assumption) ?_
        rotate_left
        · intro w' hSw; (try dsimp only at hSw); go_simp; try with_reducible rfl
        try simp only [Act.put, List.getElem_toArray, List.getElem_cons_zero, List.getElem_cons_succ, List.setIfInBounds_toArray, List.set_cons_zero, List.set_cons_succ]
        refine wpAnyH_take (i := 1) (v := ?_) rfl (by kernel_rfl) (by kernel_rfl) (by kernel_rfl) (fun _ _ _ h => h) (Or.inl ⟨by rfl, ?_⟩) (by assumption) ?_
        rotate_left
        · intro w' hSw; (try dsimp only at hSw); go_simp; try with_reducible rfl
        try simp only [Act.put, List.getElem_toArray, List.getElem_cons_zero, List.getElem_cons_succ, List.setIfInBounds_toArray, List.set_cons_zero, List.set_cons_succ]
        refine wpAnyH_take (i := 2) (v := ?_) rfl (by kernel_rfl) (by kernel_rfl) (by kernel_rfl) (fun _ _ _ h => h) (Or.inl ⟨by rfl, ?_⟩) (by assumption) ?_
        rotate_left
        · intro w' hSw; (try dsimp only at hSw); go_simp; try with_reducible rfl
        try simp only [Act.put, List.getElem_toArray, List.getElem_cons_zero, List.getElem_cons_succ, List.setIfInBounds_toArray, List.set_cons_zero, List.set_cons_succ]
        refine wpAnyH_take (i := 3) (v := ?_) rfl (by kernel_rfl) (by kernel_rfl) (by kernel_rfl) (fun _ _ _ h => h) (Or.inl ⟨by rfl, ?_⟩) (by assumption) ?_
        rotate_left
        · intro w' hSw; (try dsimp only at hSw); go_simp; try with_reducible rfl
        try simp only [Act.put, List.getElem_toArray, List.getElem_cons_zero, List.getElem_cons_succ, List.setIfInBounds_toArray, List.set_cons_zero, List.set_cons_succ]
        refine wpAnyH_take (i := 4) (v := ?_) rfl (by kernel_rfl) (by kernel_rfl) (by kernel_rfl) (fun _ _ _ h => h) (Or.inl ⟨by rfl, ?_⟩) (by assumption) ?_
        rotate_left
        · intro w' hSw; (try dsimp only at hSw); go_simp; try with_reducible rfl
        try simp only [Act.put, List.getElem_toArray, List.getElem_cons_zero, List.getElem_cons_succ, List.setIfInBounds_toArray, List.set_cons_zero, List.set_cons_succ]
        refine wpAnyH_take (i := 5) (v := ?_) rfl (by kernel_rfl) (by kernel_rfl) (by kernel_rfl) (fun _ _ _ h => h) (Or.inl ⟨by rfl, ?_⟩) (by assumption) ?_
        rotate_left
        · intro w' hSw; (try dsimp only at hSw); go_simp; try with_reducible rfl
        try simp only [Act.put, List.getElem_toArray, List.getElem_cons_zero, List.getElem_cons_succ, List.setIfInBounds_toArray, List.set_cons_zero, List.set_cons_succ]
        refine wpAnyH_take (i := 6) (v := ?_) rfl (by kernel_rfl) (by kernel_rfl) (by kernel_rfl) (fun _ _ _ h => h) (Or.inl ⟨by rfl, ?_⟩) (by assumption) ?_
        rotate_left
        · intro w' hSw; (try dsimp only at hSw); go_simp; try with_reducible rfl
        try simp only [Act.put, List.getElem_toArray, List.getElem_cons_zero, List.getElem_cons_succ, List.setIfInBounds_toArray, List.set_cons_zero, List.set_cons_succ]
        refine wpAnyH_ready (rs := [7]) (by kernel_rfl) (by simp) ?_
        refine AllReadyH.cons rfl (fun K hK => ?_) AllReadyH.nil
        go_simp
        refine (set_any HL.out (HH.out _ (by first | exact Fr.drew (Fr.refl _ _) | exact Fr.refl _ _)) _ (fits_small (by omega) (by omega))).mono ?_
        rintro e w1 ⟨sb5, L5, rfl, h5, f5⟩
        have f5' : Fr (fun b => b = x.1 ∨ G3 b) wr w1 := Fr.trans (nofr (Fr.drew (Fr.refl _ _))) f5 (fun _ _ h => h)
        have zz := KS.out _ f5'
        have H5 := Lib.hid h5; have F5 := Lib.hid f5'; have ZZ := Lib.hid zz
        clear h5 f5 f5' zz
        try go_simp
        refine hK.out _ _ ?_ (fun hHeld => ?_)
        · (try dsimp only); exact ZZ.out
        clear hK K
        try simp only [Act.put, List.getElem_toArray, List.getElem_cons_zero, List.getElem_cons_succ, List.setIfInBounds_toArray, List.set_cons_zero, List.set_cons_succ]
        refine wpAnyH_done (by kernel_rfl) ?_ _
        go_wp2_with fail
        go_roundw
        case rel => exact ⟨i + 1, L5, by first | (simp; done) | go_num, Hlt.out, H5.out, Hf.out.trans F5.out (fun _ _ h => h)⟩
        case measure => have := Hlt.out; simp [intOf]; omega
      · obtain rfl : i = RA.length := by omega
        have HH := Lib.hid hh; have Hf := Lib.hid hf
        clear hlt hi kp hh hf
        go_wp2_with fail
        go_meet
        exact ⟨L, HH.out, Hf.out⟩
  case rest =>
  obtain ⟨L4, h4, f4⟩ := hcut
  have hbk3 : x.1 < W3.heap.size := lt_of_block H3.out.j
  have hG3 : ∀ b, G3 b → b < W3.heap.size := H3.out.bd
  have hU3 : ∀ b, (b = x.1 ∨ G3 b) → b < W3.heap.size := by
    rintro b (rfl | h)
    · exact hbk3
    · exact hG3 b h
  have fR : Fr (fun _ => False) wc (wc.alloc (.cells #[.int .i64 0] 3)) := Fr.alloc (Fr.refl _ _) _
  have hst0 : RoundSt w.heap.size x G3 n3 W3 0 wc.heap.size [D0] (wc.alloc (.cells #[.int .i64 0] 3)) := by
    refine ⟨⟨L4, h4.fr fR (fR.get h4.j (fun h => h)) (fun _ _ h => h)⟩, f4.trans (nofr fR) (fun _ _ h => h), ?_, f4.size, ⟨by simp, ?_⟩, ?_, ?_, by omega⟩
    · exact heap_alloc_at _ _
    · intro D hD
      have e : D = D0 := by simpa using hD
      rw [e]
      exact fR.get (f4.get HD3.out (HUK.out D0 (by simp))) (fun h => h)
    · intro D hD
      have e : D = D0 := by simpa using hD
      rw [e]
      exact HUK.out D0 (by simp)
    · intro D hD
      have e : D = D0 := by simpa using hD
      have := HD.out; have := HfwA.out.size; omega
  have Hst0 := Lib.hid hst0; have HU3 := Lib.hid hU3
  clear hst0 h4 f4 fR hbk3 hG3 hU3 e0 e9
  go_wp2_with fail
  refine wp_loop (fun a wr => ∃ (r b12 : Nat) (ds : List Nat), a.defers = ds.map mark ∧ a.tmps.size = 132 ∧ (a.tmps[5]? = some (.pointer (some ⟨w.heap.size, 0, none⟩)) ∧ a.tmps[6]? = some (.pointer (some ⟨w.heap.size + 1, 0, none⟩)) ∧ a.tmps[7]? = some (.pointer (some ⟨bt, 0, none⟩)) ∧ a.tmps[9]? = some (.pointer (some ⟨w9.heap.size, 0, none⟩)) ∧ a.tmps[10]? = some (.func (.func 67) #[] #[.pointer (some ⟨B, 0, none⟩)]) ∧ a.tmps[12]? = some (.pointer (some ⟨b12, 0, none⟩))) ∧ RoundSt w.heap.size x G3 n3 W3 r b12 ds wr) (fun a wr => 2 - roundAt a wr) ?start ?round
  case start => exact ⟨0, _, [D0], rfl, rfl, ⟨rfl, rfl, rfl, rfl, rfl, rfl⟩, Hst0.out⟩
  case round =>
    rintro ⟨T, dds⟩ wr ⟨r, b12, ds, rfl, hT, ⟨t5, t6, t7, t9, t10, t12⟩, hst⟩
    obtain ⟨us, hlit, hus⟩ := frame_out T hT
    have s5 := us_at hus t5; have s6 := us_at hus t6; have s7 := us_at hus t7; have s9 := us_at hus t9; have s10 := us_at hus t10; have s12 := us_at hus t12
    dsimp only at hlit s5 s6 s7 s9 s10 s12
    have hmu : roundAt ⟨T, ds.map mark⟩ wr = r := by
      unfold roundAt
      dsimp only
      rw [← hus 12, s12]
      simp [addrOf, intAt, (cell_of hst.cell 0)]
    rw [hmu]
    rw [s5, s6, s7, s9, s10, s12] at hlit
    subst hlit
    clear hus t5 t6 t7 t9 t10 t12 hT s5 s6 s7 s9 s10 s12 hmu
    have hkr := KP3.out.fr hst.fr (fun b hb h => HUK.out b (by rcases hb with h | h | h | h | h | h | h <;> simp [h]) h)
    have e12 := cell_of hst.cell 0
    simp at e12
    have hb12l : b12 < wr.heap.size := lt_of_block hst.cell
    have hr2 := hst.r2
    have hW3r : W3.heap.size ≤ wr.heap.size := hst.fr.size
    by_cases hlt2 : r < 2
    · have hlt2' : (r : Int) < 2 := by omega
      have Hst := Lib.hid hst; have Hkr := Lib.hid hkr; have Hb12l := Lib.hid hb12l; have HW3r := Lib.hid hW3r; have Hlt2 := Lib.hid hlt2; have Hr2 := Lib.hid hr2
      clear hst hkr hb12l hW3r hlt2 hr2
      go_upto_block 8 with fail
      have fI : Fr (fun _ => False) wr (wr.alloc (.cells #[.int .i64 0] 3)) := Fr.alloc (Fr.refl _ _) _
      have hc13 : (wr.alloc (.cells #[.int .i64 0] 3)).heap[wr.heap.size]? = some (.cells #[.int .i64 0] 3 (0, 0)) := heap_alloc_at _ _
      generalize (wr.alloc (.cells #[.int .i64 0] 3)) = Wi at *
      generalize hb13 : wr.heap.size = b13 at *
      have kpI := Hkr.out.fr fI (fun _ _ h => h)
      have c12 := fI.get Hst.out.cell (fun h => h)
      obtain ⟨Li, hLi⟩ := Hst.out.hp
      have hLi2 := hLi.fr fI (fI.get hLi.j (fun h => h)) (fun _ _ h => h)
      have hrg0 : Ranged x G3 n3 Wi b13 0 Wi := ⟨⟨Li, hLi2⟩, Fr.refl _ _, hc13⟩
      have hWi : b13 < Wi.heap.size := lt_of_block hc13
      have hU13 : ∀ b, (b = x.1 ∨ G3 b) → b < b13 := fun b h => by have := HU3.out b h; have := HW3r.out; omega
      have hK13 : ∀ b, (b = bt ∨ b = w9.heap.size ∨ b = B ∨ b = w.heap.size ∨ b = w.heap.size + 1 ∨ (Value.slice a9 RA.length cp9).ownBlock = some b ∨ sv.ownBlock = some b) → ¬ ((b = x.1 ∨ G3 b) ∨ b = b13) := by
        intro b hb
        rintro (h | h)
        · exact HUK.out b (by rcases hb with h | h | h | h | h | h | h <;> simp [h]) h
        · have := (HAp.out b hb).2; have := Hsz2.out; have := HW3r.out; omega
      have KPI := Lib.hid kpI; have C12 := Lib.hid c12; have Hrg0 := Lib.hid hrg0; have HWi := Lib.hid hWi; have HU13 := Lib.hid hU13; have HK13 := Lib.hid hK13; have FI := Lib.hid fI; have Hb13 := Lib.hid hb13
      clear kpI c12 hLi hLi2 hrg0 hWi hU13 hK13 hc13 fI hb13 e12
      refine wp_cutD (fun ds' W' => ∃ D pl, ds' = mark D :: ds.map mark ∧ Wi.heap.size ≤ D ∧ W'.heap[D]? = some (.deferred (some [])) ∧ Ranged x G3 n3 Wi b13 pl W' ∧ (pl = RA.length ∨ (r = 0 ∧ (pl : Int) = at_))) ?rest2 ?first2
      case first2 =>
        intro K' hK'
        go_wp2_with fail
        refine (wpIn_wide (n := 3)).1 ?_
        refine wpIn_rangeFunc_ownG hro h1 (gf := 67) (lb := #[.pointer (some ⟨B, 0, none⟩)]) rfl trivial (enters_of Try.func67 (by kernel_rfl) rfl)
          (iter_stopsK Fence.wide (3 - 1) trivial hro (by omega) B wA.heap.size sv (RA.map sw) (by have := HlenR.out; rw [List.length_map]; omega) Wi (lt_of_block KPI.out.box) KPI.out.n1 (Boxed.cell KPI.out.box) KPI.out.items (fun b => sv.ownBlock = some b) (fun _ h => h))
          KeepsB.trans (keepsB_b (fun b e => Nat.lt_of_lt_of_le (HAp.out b (by simp [e])).2 KPI.out.n1)) (Below.refl _ _) (fun _ => rfl)
          (fun pre W' => Ranged x G3 n3 Wi b13 pre.length W' ∧ ∀ j, j < pre.length → itAt pre j = sw (itAt RA j))
          (fun c pre W' => (c = .ret ∧ ∃ ini last, pre = ini ++ [last] ∧ last ≠ sw (itAt RA ini.length) ∧ ini.length < RA.length) ∨ (c = .exit 8 ∧ r = 0 ∧ (pre.length : Int) = at_ ∧ Ranged x G3 n3 Wi b13 pre.length W'))
          ?own2 ?ownx2 ⟨Hrg0.out, by simp⟩ ?a12 ?assign2 ?body2 ?done2 ?stop2
        case own2 =>
          intro s A B' row hs hg hr
          exact ⟨hs.1.grown hg (fun r e => (hr r e).1) (fun b h => by have := HU13.out b h; have := HWi.out; omega) HWi.out, hs.2⟩
        case ownx2 =>
          rintro c s A B' row (hs | ⟨a, b, e, hs⟩) hg hr
          · exact .inl hs
          · exact .inr ⟨a, b, e, hs.grown hg (fun r e => (hr r e).1) (fun b h => by have := HU13.out b h; have := HWi.out; omega) HWi.out⟩
        case assign2 =>
          intro l x W' K hK
          gi_wp2
          exact hK
        case body2 =>
          rintro l pre y W' ⟨hrg, hpre⟩ hlt
          have hi : pre.length < RA.length := by simpa using hlt
          have kpW := KPI.out.fr hrg.fr (fun b hb h => HK13.out b hb h)
          have c12W := hrg.fr.get C12.out (by
            rintro (h | h)
            · have := HU3.out b12 h; have := Hst.out.b12; omega
            · have := Hb12l.out; omega)
          obtain ⟨LW, hLW⟩ := hrg.hp
          have e13 := cell_of hrg.cell 0
          have y13 := free_of hrg.cell 0
          have e12 := cell_of c12W 0
          have e9 := cell_of kpW.nine 0
          have e5 := cell_of kpW.at_ 0
          have e7 := cell_of kpW.two 0
          have e6 := cell_of kpW.res 0
          have y6 := free_of kpW.res 0
          simp at e13 e12 e9 e5 e7 e6
          obtain ⟨si, ci, ei, hcx⟩ := row_cells kpW.row
          simp only [Value.slice.injEq] at ei
          obtain ⟨rfl, _, rfl⟩ := ei
          obtain ⟨ig, rfl, g0, g1⟩ := hcx pre.length hi
          obtain ⟨yh, hyh⟩ : ∃ yh, (itAt RA pre.length).1 = yh := ⟨_, rfl⟩
          obtain ⟨yv, hyv⟩ : ∃ yv, (itAt RA pre.length).2 = yv := ⟨_, rfl⟩
          rw [hyh] at g0; rw [hyv] at g1
          have i1 : (pre.length : Int) < (RA.length : Int) := by omega
          have i0 : (0 : Int) ≤ (pre.length : Int) := by omega
          have i2 : (pre.length : Int) ≤ 70000 := by have := HlenR.out; omega
          have q1 : decide ((RA.length : Int) ≤ (pre.length : Int)) = false := by simp; omega
          have q2 : decide (RA.length ≤ pre.length) = false := by simp; omega
          generalize hpl : pre.length = pl at g0 g1 e13 y13 i0 i1 i2 q1 q2
          have m1 : ¬ b12 = b13 := by have := Hb12l.out; omega
          have m1' : ¬ b13 = b12 := fun e => m1 e.symm
          have m2 : ¬ w.heap.size = b13 := fun e => HK13.out _ (by simp) (.inr e)
          have m2' : ¬ b13 = w.heap.size := fun e => m2 e.symm
          have m3 : ¬ bt = b13 := fun e => HK13.out bt (by simp) (.inr e)
          have m3' : ¬ b13 = bt := fun e => m3 e.symm
          have Hrg := Lib.hid hrg; have Hpre := Lib.hid hpre; have Hi := Lib.hid hi; have HLW := Lib.hid hLW; have Hyh := Lib.hid hyh; have Hyv := Lib.hid hyv; have Hpl := Lib.hid hpl
          clear hrg hpre hi hlt kpW c12W hLW hcx hyh hyv hpl
          by_cases hb1 : yh = y.2
          · by_cases hb2 : yv = y.1
            · have hall : ∀ j, j < (pre ++ [y]).length → itAt (pre ++ [y]) j = sw (itAt RA j) := by
                intro j hj
                have hpl := Hpl.out
                by_cases hj2 : j < pre.length
                · rw [itAt_append_lt hj2]; exact Hpre.out j hj2
                · obtain rfl : j = pre.length := by simp at hj; omega
                  rw [itAt_append_eq]
                  have h1 := Hyh.out; have h2 := Hyv.out
                  unfold sw
                  rw [h1, h2, hb1, hb2]
              have b1 : (yh != y.2) = false := by simpa using hb1
              have b2 : (yv != y.1) = false := by simpa using hb2
              have hkf : ∀ v, KeepsFrom Wi.heap.size W' (W'.setCell ⟨b13, 0, none⟩ v) := fun v => (KeepsOthers.setCell W' _ _).from _
              have hkb : ∀ v, KeepsB (fun b => sv.ownBlock = some b) W' (W'.setCell ⟨b13, 0, none⟩ v) := fun v => KeepsB.setCell W' (fun e => HK13.out b13 (by simp [e]) (.inr rfl)) v
              have hbump := Hrg.out.bump HU13.out
              rw [Hpl.out] at hbump
              have hlen1 : (pre ++ [y]).length = pl + 1 := by simp [Hpl.out]
              have Hall := Lib.hid hall; have Hkf := Lib.hid hkf; have Hkb := Lib.hid hkb; have Hbump := Lib.hid hbump; have Hlen1 := Lib.hid hlen1
              clear hall hb1 hb2 hkf hkb hbump hlen1
              have hr01 : r = 0 ∨ r = 1 := by have := Hlt2.out; omega
              rcases hr01 with h0 | h0
              · have hri : (r : Int) = 0 := by omega
                rw [hri] at e12
                by_cases ha : (pl : Int) + 1 = at_
                · have a1 : ((pl : Int) + 1 == at_) = true := by simpa using ha
                  have Ha := Lib.hid ha; clear ha
                  gi_wp2
                  exact ⟨Hkf.out _, .inr ⟨rfl, h0, by rw [Hlen1.out]; have := Ha.out; omega, by rw [Hlen1.out]; exact Hbump.out⟩⟩
                · have a1 : ((pl : Int) + 1 == at_) = false := by simpa using ha
                  have Ha := Lib.hid ha; clear ha
                  gi_wp2
                  exact ⟨Hkf.out _, Hkb.out _, by rw [Hlen1.out]; exact Hbump.out, Hall.out⟩
              · have hri : (r : Int) = 1 := by omega
                rw [hri] at e12
                by_cases ha : (pl : Int) + 1 < 4
                · obtain ⟨LB, hLB⟩ := Hbump.out.hp
                  have HLB := Lib.hid hLB
                  have e7' : (W'.setCell ⟨b13, 0, none⟩ (.int .i64 ((pl : Int) + 1))).cell? ⟨bt, 0, none⟩ = some (.pointer (some ⟨x.2.1, 0, none⟩)) := by
                    have f : Fr (fun b => b = b13) W' (W'.setCell ⟨b13, 0, none⟩ (.int .i64 ((pl : Int) + 1))) := Fr.setCell (F := fun b => b = b13) (p := ⟨b13, 0, none⟩) (Fr.refl _ _) (fun _ => rfl) _
                    exact (f.cell (World.block_lt_of_cell? W' _ e7) (fun e => HK13.out bt (by simp) (.inr e))).trans e7
                  clear hLB
                  gi_wp2_with (refine ⟨trivial, ?_⟩; gi_at_call 28; refine (CallsIn.inRound l (callsIn_wide.2 (drop_any HL.out HLB.out _))).mono ?_; rintro e w' ⟨bs, L', rfl, hLd, fd⟩)
                  have kf2 : KeepsFrom Wi.heap.size (W'.setCell ⟨b13, 0, none⟩ (.int .i64 ((pl : Int) + 1))) w' := KeepsFrom.of_fr fd (fun b h => by have := HU13.out b h; have := HWi.out; omega)
                  exact ⟨(Hkf.out _).trans kf2, (Hkb.out _).trans (KeepsB.of_fr fd (fun b e h => HK13.out b (by simp [e]) (.inl h))), by rw [Hlen1.out]; exact Hbump.out.stepped HU13.out hLd fd, Hall.out⟩
                · have a2 : decide ((pl : Int) + 1 < 4) = false := by simpa using ha
                  have Ha := Lib.hid ha
                  gi_wp2
                  exact ⟨Hkf.out _, Hkb.out _, by rw [Hlen1.out]; exact Hbump.out, Hall.out⟩
            · have b1 : (yh != y.2) = false := by simpa using hb1
              have b2 : (yv != y.1) = true := by simpa using hb2
              have HB2 := Lib.hid hb2; clear hb1 hb2
              gi_wp2
              refine ⟨(KeepsOthers.setCell W' _ _).from _, .inl ⟨rfl, pre, y, rfl, ?_, Hi.out⟩⟩
              intro e
              refine HB2.out ?_
              rw [e, ← Hyv.out]; rfl
          · have b1 : (yh != y.2) = true := by simpa using hb1
            have HB1 := Lib.hid hb1; clear hb1
            gi_wp2
            refine ⟨(KeepsOthers.setCell W' _ _).from _, .inl ⟨rfl, pre, y, rfl, ?_, Hi.out⟩⟩
            intro e
            refine HB1.out ?_
            rw [e, ← Hyh.out]; rfl
        case done2 =>
          rintro D ys W' hD rfl ⟨hI, _⟩ hK
          exact hK' _ _ ⟨D, _, rfl, hD, hK, hI, .inl (by simp)⟩
        case stop2 =>
          rintro D c pre W' hD hpre (⟨rfl, ini, last, rfl, hne, hlt⟩ | ⟨rfl, h0, h2, hI⟩) hK
          · exfalso
            obtain ⟨t, ht⟩ := hpre
            have h2 : (RA.map sw)[ini.length]? = some last := by rw [← ht]; simp
            rw [List.getElem?_map, List.getElem?_eq_getElem hlt] at h2
            simp at h2
            exact hne (by rw [itAt_get hlt]; exact h2.symm)
          · gi_wp2
            exact ⟨D, _, rfl, hD, hK, hI, .inr ⟨h0, h2⟩⟩
      case rest2 =>
        rintro ds' W' ⟨D, pl, rfl, hD, hDk, hrg, hpl⟩
        have kpW := KPI.out.fr hrg.fr (fun b hb h => HK13.out b hb h)
        have c12W := hrg.fr.get C12.out (by
          rintro (h | h)
          · have := HU3.out b12 h; have := Hst.out.b12; omega
          · have := Hb12l.out; omega)
        have e13 := cell_of hrg.cell 0
        have e12 := cell_of c12W 0
        have e9 := cell_of kpW.nine 0
        have e5 := cell_of kpW.at_ 0
        simp at e13 e12 e9 e5
        have r0 : (0 : Int) ≤ (r : Int) := by omega
        have r3 : (r : Int) ≤ 2 := by have := Hr2.out; omega
        have Hrg := Lib.hid hrg; have HD1 := Lib.hid hD; have HDk1 := Lib.hid hDk; have C12W := Lib.hid c12W
        clear kpW c12W hrg hD hDk
        have hfin : ∀ W2, Fr (fun _ => False) W' W2 → W2.heap[W'.heap.size]? = some (.cells #[.int .i64 ((r : Int) + 1)] 3 (0, 0)) → RoundSt w.heap.size x G3 n3 W3 (r + 1) W'.heap.size (D :: ds) W2 := by
          intro W2 f hc
          obtain ⟨LB, hLB⟩ := Hrg.out.hp
          have fw : Fr (fun b => b = x.1 ∨ G3 b) W3 W' := ((Hst.out.fr.trans (nofr FI.out) (fun _ _ h => h)).trans Hrg.out.fr (by
            rintro i hi (h | h)
            · exact h
            · have := HW3r.out; omega))
          have hds : ∀ E ∈ ds, W'.heap[E]? = some (.deferred (some [])) ∧ E < wr.heap.size := by
            intro E hE
            have h0 := Hst.out.marks.open_ E hE
            have hl := lt_of_block h0
            exact ⟨Hrg.out.fr.get (FI.out.get h0 (fun h => h)) (by
              rintro (h | h)
              · exact Hst.out.apart E hE h
              · have := Hb13.out; omega), hl⟩
          have hWr : wr.heap.size ≤ Wi.heap.size := FI.out.size
          refine ⟨⟨LB, hLB.fr f (f.get hLB.j (fun h => h)) (fun _ _ h => h)⟩, fw.trans (nofr f) (fun _ _ h => h), by simpa using hc, fw.size, ⟨List.nodup_cons.2 ⟨?_, Hst.out.marks.once⟩, ?_⟩, ?_, ?_, by have := Hlt2.out; omega⟩
          · intro hE
            have := (hds D hE).2; have := HD1.out; omega
          · intro E hE
            rcases List.mem_cons.1 hE with rfl | hE
            · exact f.get HDk1.out (fun h => h)
            · exact f.get (hds E hE).1 (fun h => h)
          · intro E hE
            rcases List.mem_cons.1 hE with rfl | hE
            · intro h; have := HU3.out _ h; have := HW3r.out; have := HD1.out; have := HWi.out; omega
            · exact Hst.out.apart E hE
          · intro E hE
            rcases List.mem_cons.1 hE with rfl | hE
            · have := Hfw3.out.size; have := HW3r.out; have := HD1.out; have := HWi.out; omega
            · exact Hst.out.old E hE
        have Hfin := Lib.hid hfin
        clear hfin
        by_cases he : pl = RA.length
        · subst he
          clear hpl
          go_wp2_with fail
          refine ⟨⟨r + 1, W'.heap.size, D :: ds, rfl, rfl, ⟨rfl, rfl, rfl, rfl, rfl, rfl⟩, Hfin.out _ ?_ ?_⟩, ?_⟩
          · exact Fr.alloc (Fr.refl _ _) _
          · exact heap_alloc_at _ _
          · have h5 := cell_of (heap_alloc_at W' (.cells #[.int .i64 ((r : Int) + 1)] 3)) 0
            have h6 : intAt (W'.alloc (.cells #[.int .i64 ((r : Int) + 1)] 3)) ⟨W'.heap.size, 0, none⟩ = (r : Int) + 1 := by
              unfold intAt; rw [h5]; rfl
            show 2 - (intAt (W'.alloc (.cells #[.int .i64 ((r : Int) + 1)] 3)) ⟨W'.heap.size, 0, none⟩).toNat < 2 - r
            rw [h6]; have := Hlt2.out; omega
        · obtain ⟨h0, hat2⟩ := hpl.resolve_left he
          have hri : (r : Int) = 0 := by omega
          have b1 : ((pl : Int) != (RA.length : Int)) = true := by simp; omega
          rw [← hat2] at e5
          clear hpl hat2
          subst h0
          have e12' : W'.cell? ⟨b12, 0, none⟩ = some (.int .i64 0) := e12
          clear e12 hri r0 r3 hlt2'
          go_wp2_with fail
          refine ⟨⟨0 + 1, W'.heap.size, D :: ds, rfl, rfl, ⟨rfl, rfl, rfl, rfl, rfl, rfl⟩, Hfin.out _ ?_ ?_⟩, ?_⟩
          · exact Fr.alloc (Fr.refl _ _) _
          · exact heap_alloc_at _ _
          · have h5 := cell_of (heap_alloc_at W' (.cells #[.int .i64 1] 3)) 0
            have h6 : intAt (W'.alloc (.cells #[.int .i64 1] 3)) ⟨W'.heap.size, 0, none⟩ = 1 := by
              unfold intAt; rw [h5]; rfl
            show 2 - (intAt (W'.alloc (.cells #[.int .i64 1] 3)) ⟨W'.heap.size, 0, none⟩).toNat < 2 - 0
            rw [h6]; decide
    · obtain rfl : r = 2 := by omega
      have Hst := Lib.hid hst; have Hkr := Lib.hid hkr
      have e12' : wr.cell? ⟨b12, 0, none⟩ = some (.int .i64 2) := e12
      clear hst hkr hb12l hW3r hlt2 hr2 e12
      go_wp2_with fail
      refine (awake_ok _).mono ?_
      rintro e W' ⟨rfl, f6⟩
      have kp6 := Hkr.out.fr f6 (fun _ _ h => h)
      have e6 := cell_of kp6.res 0
      have y6 := free_of kp6.res 0
      simp at e6
      have F6 := Lib.hid f6; have KP6 := Lib.hid kp6
      clear f6 kp6
      go_wp2_with fail
      have hres := setCell_blk (o := 0) KP6.out.res (.bool true)
      have fS : Fr (fun b => b = w.heap.size + 1) W' (W'.setCell ⟨w.heap.size + 1, 0, none⟩ (.bool true)) := Fr.setCell (F := fun b => b = w.heap.size + 1) (p := ⟨w.heap.size + 1, 0, none⟩) (Fr.refl _ _) (fun _ => rfl) _
      have hm6 := Hst.out.marks.fr F6.out (fun _ _ h => h)
      have hnr : ∀ D ∈ ds, D ≠ w.heap.size + 1 := by
        intro D hD e
        have h7 := hm6.open_ D hD
        rw [e, KP6.out.res] at h7
        cases h7
      refine leaves_marks ds _ (hm6.fr fS (fun D hD e => hnr D hD e)) ?_
      intro wz fz
      have hc5 := cell_of (fz.get hres (fun h => hnr _ h rfl)) 0
      simp at hc5
      refine ⟨.bool true, ?_, rfl, ?_⟩
      · simp [results, Try.f4, go_sem, hc5]
      · have hU0 : ∀ b, (b = x.1 ∨ G3 b) → w.heap.size ≤ b := by
          intro b h
          rcases HU.out b h with h | h
          · exact HwG.out b h
          · have := Hsz2.out; have := HfwA.out.size; omega
        have hmk : ∀ D ∈ ds, w.heap.size ≤ D := Hst.out.old
        refine Fr.toNew (((((Hfw3.out.trans Hst.out.fr (fun b _ h => hU0 b h)).trans (nofr F6.out) (fun _ _ h => h)).trans fS (fun b _ e => by omega)).trans fz (fun b _ h => hmk b h)))
end Go.Proofs.Ytfgpmbahekcoeaa
