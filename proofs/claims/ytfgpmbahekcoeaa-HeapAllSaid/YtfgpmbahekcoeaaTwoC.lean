/- The contract of step over two heaps. Conditions: a small next handle, numbers that fit. -/
import Derived.Test.YtfgpmbahekcoeaaTwoB
import Derived.Test.YtfgpmbahekcoeaaFew
namespace Go.Proofs.Ytfgpmbahekcoeaa
open Go.RowKit
section
variable {G G1 G2 : Nat → Prop} {bk bh rh : Nat} {k next : Int} {L R : List It} {w W : World}
theorem Parts.less (c : Parts G G1 G2 bk bh rh k next L R w W) : LessOk Try.prog (ordFn bk) (lessK k) (KindAt bk k) (fun b => b = bk) Fits 82 #[.pointer (some ⟨bk, 0, none⟩)] := c.p.less
theorem Parts.refFr (c : Parts G G1 G2 bk bh rh k next L R w W) {w1 : World} (f : Fr (fun b => b = bk ∨ G1 b) W w1) : RefIs G2 rh k R next w1 := c.r.fr f (by
  rintro b hb (rfl | h)
  · exact c.dk hb
  · exact c.dj b h hb)
theorem Parts.heapFr (c : Parts G G1 G2 bk bh rh k next L R w W) {w1 : World} (f : Fr (fun _ => False) W w1) : HeapIs (KindAt bk k) (fun b => b = bk) Fits (ordFn bk) G1 bh L next w1 := c.h.fr f (f.get c.h.j (fun h => h)) (fun _ _ h => h)
theorem Parts.toG (c : Parts G G1 G2 bk bh rh k next L R w W) {a b : World} (f : Fr (fun b => b = bk ∨ G1 b) a b) : Fr G a b := f.mono (by
  rintro b _ (rfl | h)
  · exact c.p.gk
  · exact c.s1 b h)
/-- One step on both: what both answer, what both are then. -/
structure Step (G1 G2 : Nat → Prop) (bk bh rh : Nat) (k next : Int) (L' R' : List It) (n' : Int) (v : Value) (f1 f2 : Nat) (a1 a2 : Array Value) (W : World) : Prop where
  rel : Rel L' R'
  hp : k < 4 → Heaped (lessK k) L'
  one : ∀ w0, Fr (fun _ => False) W w0 → Calls Try.prog f1 a1 w0 fun e w' => e = .returned v ∧ ∃ G3, (HeapIs (KindAt bk k) (fun b => b = bk) Fits (ordFn bk) G3 bh L' n' w' ∧ Grew W G1 G3) ∧ Fr (fun b => b = bk ∨ G1 b) W w'
  two : ∀ w1, Fr (fun b => b = bk ∨ G1 b) W w1 → Calls Try.prog f2 a2 w1 fun e w' => e = .returned v ∧ ∃ G4, (RefIs G4 rh k R' n' w' ∧ Grew w1 G2 G4) ∧ Fr G2 w1 w'
theorem grew_fr {w w' : World} {F G G' : Nat → Prop} (h : Grew w' G G') (f : Fr F w w') : Grew w G G' := fun b hb => (h b hb).imp id (fun h => Nat.le_trans f.size h)
theorem Parts.set (c : Parts G G1 G2 bk bh rh k next L R w W) (n v : Int) (hv : Fits v) : ∃ L' R' b, Step G1 G2 bk bh rh k next L' R' next (.bool b) 27 61 #[.pointer (some ⟨bh, 0, none⟩), .int .i64 n, .int .i64 v] #[.pointer (some ⟨rh, 0, none⟩), .int .i64 n, .int .i64 v] W := by
  by_cases h : ∃ i, i < L.length ∧ (itAt L i).2 = n
  · obtain ⟨i, hi, rfl⟩ := h
    obtain ⟨q, hq, eq⟩ := c.p.rel.find hi
    have e1 : (itAt R q).1 = (itAt L i).2 := by rw [eq]; rfl
    refine ⟨_, _, true, c.p.rel.set (lt := lessK k) hi hq eq v, fun h4 => set_heaped (lessK_swo k c.p.k0 h4) (c.p.hp h4) hi _, ?_, ?_⟩
    · intro w0 f0
      refine (set_there c.less (c.heapFr f0) hi hv).mono ?_
      rintro e w' ⟨rfl, h1, f1⟩
      exact ⟨rfl, G1, ⟨h1, fun _ h => .inl h⟩, (nofr f0).trans f1 (fun _ _ h => h)⟩
    · intro w1 f1
      have := rset_there (c.refFr f1) (rel_lone c.p.rel) hq v
      rw [e1] at this ⊢
      refine this.mono ?_
      rintro e w' ⟨rfl, h1, f1⟩
      exact ⟨rfl, G2, ⟨h1, fun _ h => .inl h⟩, f1⟩
  · have hg : ∀ i, i < L.length → (itAt L i).2 ≠ n := fun i hi e => h ⟨i, hi, e⟩
    refine ⟨L, R, false, c.p.rel, c.p.hp, ?_, ?_⟩
    · intro w0 f0
      refine (set_gone c.less (c.heapFr f0) hg v).mono ?_
      rintro e w' ⟨rfl, rfl⟩
      exact ⟨rfl, G1, ⟨c.heapFr f0, fun _ h => .inl h⟩, nofr f0⟩
    · intro w1 f1
      refine (rset_gone (c.refFr f1) (rel_gone c.p.rel hg)).mono ?_
      rintro e w' ⟨rfl, rfl⟩
      exact ⟨rfl, G2, ⟨c.refFr f1, fun _ h => .inl h⟩, Fr.refl _ _⟩
theorem Parts.drop (c : Parts G G1 G2 bk bh rh k next L R w W) (n : Int) : ∃ L' R' b, Step G1 G2 bk bh rh k next L' R' next (.bool b) 28 62 #[.pointer (some ⟨bh, 0, none⟩), .int .i64 n] #[.pointer (some ⟨rh, 0, none⟩), .int .i64 n] W := by
  by_cases h : ∃ i, i < L.length ∧ (itAt L i).2 = n
  · obtain ⟨i, hi, rfl⟩ := h
    obtain ⟨q, hq, eq⟩ := c.p.rel.find hi
    have e1 : (itAt R q).1 = (itAt L i).2 := by rw [eq]; rfl
    refine ⟨_, _, true, c.p.rel.take (lt := lessK k) hi hq eq, fun h4 => take_heaped (lessK_swo k c.p.k0 h4) (c.p.hp h4) hi, ?_, ?_⟩
    · intro w0 f0
      refine (drop_there c.less (c.heapFr f0) hi).mono ?_
      rintro e w' ⟨rfl, h1, f1⟩
      exact ⟨rfl, G1, ⟨h1, fun _ h => .inl h⟩, (nofr f0).trans f1 (fun _ _ h => h)⟩
    · intro w1 f1
      have := rdrop_there (c.refFr f1) (rel_lone c.p.rel) hq
      rw [e1] at this
      refine this.mono ?_
      rintro e w' ⟨rfl, G4, h1, f2, g2⟩
      exact ⟨rfl, G4, ⟨h1, g2⟩, f2.mono (fun b _ e => by subst e; exact c.r.gh)⟩
  · have hg : ∀ i, i < L.length → (itAt L i).2 ≠ n := fun i hi e => h ⟨i, hi, e⟩
    refine ⟨L, R, false, c.p.rel, c.p.hp, ?_, ?_⟩
    · intro w0 f0
      refine (drop_gone c.less (c.heapFr f0) hg).mono ?_
      rintro e w' ⟨rfl, rfl⟩
      exact ⟨rfl, G1, ⟨c.heapFr f0, fun _ h => .inl h⟩, nofr f0⟩
    · intro w1 f1
      refine (rdrop_gone (c.refFr f1) (rel_gone c.p.rel hg)).mono ?_
      rintro e w' ⟨rfl, rfl⟩
      exact ⟨rfl, G2, ⟨c.refFr f1, fun _ h => .inl h⟩, Fr.refl _ _⟩
theorem Parts.push (c : Parts G G1 G2 bk bh rh k next L R w W) (hx : next < 1000000000) (v : Int) (hv : Fits v) : ∃ L' R' n' a er, (next ≤ n' ∧ n' ≤ next + 1) ∧ Step G1 G2 bk bh rh k next L' R' n' (.tuple #[.int .i64 a, .int .i64 er]) 26 59 #[.pointer (some ⟨bh, 0, none⟩), .int .i64 v] #[.pointer (some ⟨rh, 0, none⟩), .int .i64 v] W := by
  have hlen := c.p.rel.len
  by_cases h : L.length = 65536
  · refine ⟨L, R, next, 0, 6, ⟨by omega, by omega⟩, c.p.rel, c.p.hp, ?_, ?_⟩
    · intro w0 f0
      refine (push_full c.less (c.heapFr f0) h v).mono ?_
      rintro e w' ⟨rfl, rfl⟩
      exact ⟨rfl, G1, ⟨c.heapFr f0, fun _ h => .inl h⟩, nofr f0⟩
    · intro w1 f1
      refine (rpush_full (c.refFr f1) (by omega) v).mono ?_
      rintro e w' ⟨rfl, rfl⟩
      exact ⟨rfl, G2, ⟨c.refFr f1, fun _ h => .inl h⟩, Fr.refl _ _⟩
  · have hl : L.length < 65536 := by have := c.h.len; omega
    refine ⟨_, _, next + 1, next, 0, ⟨by omega, by omega⟩, c.p.rel.push (lt := lessK k) v (fun i hi => (c.h.hs i hi).2), fun h4 => push_heaped (lessK_swo k c.p.k0 h4) (c.p.hp h4) _, ?_, ?_⟩
    · intro w0 f0
      refine (push_room c.less (c.heapFr f0) hl hx hv).mono ?_
      rintro e w' ⟨rfl, G3, h1, f1, g1⟩
      exact ⟨rfl, G3, ⟨h1, grew_fr g1 f0⟩, (nofr f0).trans f1 (fun _ _ h => h)⟩
    · intro w1 f1
      refine (rpush_room (c.refFr f1) (by omega) c.h.nx (by omega) v).mono ?_
      rintro e w' ⟨rfl, G4, h1, f2, g2⟩
      exact ⟨rfl, G4, ⟨h1, g2⟩, f2⟩
theorem Parts.stepped (c : Parts G G1 G2 bk bh rh k next L R w W) {L' R' : List It} {n' : Int} {v : Value} {fa fb : Nat} {a1 a2 : Array Value} (s : Step G1 G2 bk bh rh k next L' R' n' v fa fb a1 a2 W) (hn : next ≤ n') (hn2 : n' ≤ next + 1) {G3 G4 : Nat → Prop} {w1 w2 : World}
    (h1 : HeapIs (KindAt bk k) (fun b => b = bk) Fits (ordFn bk) G3 bh L' n' w1 ∧ Grew W G1 G3) (f1 : Fr (fun b => b = bk ∨ G1 b) W w1) (h2 : RefIs G4 rh k R' n' w2 ∧ Grew w1 G2 G4) (f2 : Fr G2 w1 w2) : Stepped G bk bh rh k next w w2 :=
  c.heapFirst h1.1 f1 h1.2 h2.1 f2 h2.2 hn hn2 s.rel s.hp
set_option maxRecDepth 100000 in
set_option maxHeartbeats 2000000 in
theorem step_ok (h : PairIs G bk bh rh k L R next w) (hx0 : 0 ≤ next) (hx : next < 1000000000) (kd on n v : Int) (hn : Fits n) (hv : Fits v) : Calls Try.prog 23 #[twoV bh rh k, .agg #[.int .i64 kd, .int .i64 on, .int .i64 n, .int .i64 v]] w fun e w' => e = .returned (.bool true) ∧ Stepped G bk bh rh k next w w' := by
  obtain ⟨na, nb⟩ := hn
  have f0 : Fr (fun _ => False) w ((w.alloc (.cells #[.pointer (some ⟨bh, 0, none⟩), .pointer (some ⟨rh, 0, none⟩), .bool (decide (k < 4))] 51)).alloc (.cells #[.int .i64 kd, .int .i64 on, .int .i64 n, .int .i64 v] 41)) := Fr.alloc (Fr.alloc (Fr.refl _ _) _) _
  have hB : ((w.alloc (.cells #[.pointer (some ⟨bh, 0, none⟩), .pointer (some ⟨rh, 0, none⟩), .bool (decide (k < 4))] 51)).alloc (.cells #[.int .i64 kd, .int .i64 on, .int .i64 n, .int .i64 v] 41)).heap[w.heap.size]? = some (.cells #[.pointer (some ⟨bh, 0, none⟩), .pointer (some ⟨rh, 0, none⟩), .bool (decide (k < 4))] 51 (0, 0)) := by
    simp only [heap_alloc_get, World.size_alloc]; simp
  have hC : ((w.alloc (.cells #[.pointer (some ⟨bh, 0, none⟩), .pointer (some ⟨rh, 0, none⟩), .bool (decide (k < 4))] 51)).alloc (.cells #[.int .i64 kd, .int .i64 on, .int .i64 n, .int .i64 v] 41)).heap[w.heap.size + 1]? = some (.cells #[.int .i64 kd, .int .i64 on, .int .i64 n, .int .i64 v] 41 (0, 0)) := by
    simp only [heap_alloc_get, World.size_alloc]; simp
  go_enter Try.func23, Try.ntmps23
  go_upto_region 1 with fail
  generalize ((w.alloc (.cells #[.pointer (some ⟨bh, 0, none⟩), .pointer (some ⟨rh, 0, none⟩), .bool (decide (k < 4))] 51)).alloc (.cells #[.int .i64 kd, .int .i64 on, .int .i64 n, .int .i64 v] 41)) = W at *
  obtain ⟨G1, G2, pp⟩ := h.parts f0
  have c0 := cell_of hB 0
  have c1 := cell_of hB 1
  have c2 := cell_of hC 0
  have c3 := cell_of hB 2
  have c4 := cell_of hC 2
  have c5 := cell_of hC 3
  simp at c0 c1 c2 c3 c4 c5
  obtain ⟨sv, hr1, _, _⟩ := pp.r.ex
  have c6 := cell_of hr1 2
  simp at c6
  have hbG : ¬ G w.heap.size := fun hg => by have := h.bd _ hg; omega
  have hcG : ¬ G (w.heap.size + 1) := fun hg => by have := h.bd _ hg; omega
  have bx : ∀ w1, Fr (fun b => b = bk ∨ G1 b) W w1 → w1.cell? ⟨w.heap.size, 0, none⟩ = some (.pointer (some ⟨bh, 0, none⟩)) ∧ w1.cell? ⟨w.heap.size, 1, none⟩ = some (.pointer (some ⟨rh, 0, none⟩)) ∧ w1.cell? ⟨w.heap.size + 1, 3, none⟩ = some (.int .i64 v) := by
    intro w1 f1
    have f2 := pp.toG f1
    exact ⟨(cell_of (f2.get hB hbG) 0).trans (by simp), (cell_of (f2.get hB hbG) 1).trans (by simp), (cell_of (f2.get hC hcG) 3).trans (by simp)⟩
  have bx2 : ∀ w1 w2, Fr (fun b => b = bk ∨ G1 b) W w1 → Fr G2 w1 w2 → w2.cell? ⟨w.heap.size, 0, none⟩ = some (.pointer (some ⟨bh, 0, none⟩)) ∧ w2.cell? ⟨w.heap.size, 1, none⟩ = some (.pointer (some ⟨rh, 0, none⟩)) ∧ w2.cell? ⟨w.heap.size + 1, 3, none⟩ = some (.int .i64 v) := by
    intro w1 w2 f1 f2
    have f3 := (pp.toG f1).trans (f2.mono (G := G) (fun b _ h => pp.s2 b h)) (fun _ _ h => h)
    exact ⟨(cell_of (f3.get hB hbG) 0).trans (by simp), (cell_of (f3.get hB hbG) 1).trans (by simp), (cell_of (f3.get hC hcG) 3).trans (by simp)⟩
  have H := Lib.hid h; have PP := Lib.hid pp; have BX := Lib.hid bx; have BX2 := Lib.hid bx2; have HX := Lib.hid hx; have HX0 := Lib.hid hx0; have HV := Lib.hid hv; have HB := Lib.hid hB; have HC := Lib.hid hC; have F0 := Lib.hid f0; have HbG := Lib.hid hbG; have HcG := Lib.hid hcG
  clear h pp bx bx2 hv hB hC f0 hbG hcG hr1
  have hwr : IntKind.i64.wrap (next + 2) = next + 2 := by rw [IntKind.wrap_i64]; omega
  go_quiet ((go_at_call 15; refine Calls.quiet_of_same ((pick_ok _ _ _ na nb (by omega) (by omega)).mono fun _ _ h => ⟨h.1, h.2.symm⟩)))
  generalize wrap64 (n % (next + 2) - 1) = m
  generalize n % (next + 2) = m0
  generalize next + 2 = m1
  clear hwr c4 c6 na nb
  have FQ : Hid (Fr (fun _ => False) W (W.drewN nq)) := Lib.hid (Fr.drewN (Fr.refl _ _) _)
  by_cases hk1 : kd = 1
  · subst hk1
    obtain ⟨L', R', n', a, er, hnn, st⟩ := PP.out.push HX.out v HV.out
    have CA := Lib.hid st.one; have CB := Lib.hid st.two; have ST := Lib.hid st; have HN := Lib.hid hnn
    clear st hnn
    go_wp2_with fail
    refine (CA.out _ FQ.out).mono ?_
    rintro e w1 ⟨rfl, G3, h3, f3⟩
    have bx := BX.out _ f3
    obtain ⟨z0, z1, z2⟩ := bx
    have H3 := Lib.hid h3; have F3 := Lib.hid f3
    clear h3 f3
    go_wp2_with fail
    refine (CB.out _ F3.out).mono ?_
    rintro e w2 ⟨rfl, G4, h4, f4⟩
    have H4 := Lib.hid h4; have F4 := Lib.hid f4
    clear h4 f4
    go_wp2_with fail
    go_ret
    exact ⟨rfl, PP.out.stepped ST.out HN.out.1 HN.out.2 H3.out F3.out H4.out F4.out⟩
  by_cases hk2 : kd = 2
  · subst hk2
    go_wp2_with fail
    refine (pop_ok (H.out.fr (F0.out.trans FQ.out (fun _ _ h => h)) (fun _ _ h => h))).mono ?_
    rintro e w1 ⟨rfl, h1⟩
    have H1 := Lib.hid h1; clear h1
    go_wp2_with fail
    go_ret
    refine ⟨rfl, ?_⟩
    obtain ⟨G', L', R', n', p1, p2, p3, p4, p5⟩ := H1.out
    have hf := F0.out.trans FQ.out (fun _ _ h => h)
    exact ⟨G', L', R', n', p1, p2, p3, (nofr hf).trans p4 (fun _ _ h => h), grew_fr p5 hf⟩
  by_cases hk3 : kd = 3
  · subst hk3
    obtain ⟨L', R', b, st⟩ := PP.out.set m v HV.out
    have CA := Lib.hid st.one; have CB := Lib.hid st.two; have ST := Lib.hid st
    clear st
    go_wp2_with fail
    refine wp_region_held_drew (S := fun w' => w'.cell? ⟨w.heap.size, 0, none⟩ = some (.pointer (some ⟨bh, 0, none⟩)) ∧ w'.cell? ⟨w.heap.size, 1, none⟩ = some (.pointer (some ⟨rh, 0, none⟩)) ∧ w'.cell? ⟨w.heap.size + 1, 3, none⟩ = some (.int .i64 v)) (by kernel_rfl) (by exact ⟨c0, c1, c5⟩) (fun hHeld => ?_)
    refine wpAnyH_take (i := 0) (v := ?_) rfl (by kernel_rfl) (by kernel_rfl) (by kernel_rfl) (fun _ _ _ h => h) (Or.inl ⟨by rfl, ?_⟩) (by assumption) ?_
    rotate_left
    · intro w' hSw; (try dsimp only at hSw); go_simp; try with_reducible rfl
    try simp only [Act.put, List.getElem_toArray, List.getElem_cons_zero, List.getElem_cons_succ, List.setIfInBounds_toArray, List.set_cons_zero, List.set_cons_succ]
    refine wpAnyH_take (i := 1) (v := ?_) rfl (by kernel_rfl) (by kernel_rfl) (by kernel_rfl) (fun _ _ _ h => h) (Or.inl ⟨by rfl, ?_⟩) (by assumption) ?_
    rotate_left
    · intro w' hSw; (try dsimp only at hSw); go_simp; try with_reducible rfl
    try simp only [Act.put, List.getElem_toArray, List.getElem_cons_zero, List.getElem_cons_succ, List.setIfInBounds_toArray, List.set_cons_zero, List.set_cons_succ]
    refine wpAnyH_take (i := 2) (v := ?_) rfl (by kernel_rfl) (by kernel_rfl) (by kernel_rfl) (fun _ _ _ h => h) (Or.inl ⟨by rfl, ?_⟩) (by assumption) ?_
    rotate_left
    · intro w' hSw; (try dsimp only at hSw); go_simp; try with_reducible rfl
    try simp only [Act.put, List.getElem_toArray, List.getElem_cons_zero, List.getElem_cons_succ, List.setIfInBounds_toArray, List.set_cons_zero, List.set_cons_succ]
    refine wpAnyH_take (i := 3) (v := ?_) rfl (by kernel_rfl) (by kernel_rfl) (by kernel_rfl) (fun _ _ _ h => h) (Or.inl ⟨by rfl, ?_⟩) (by assumption) ?_
    rotate_left
    · intro w' hSw; (try dsimp only at hSw); go_simp; try with_reducible rfl
    try simp only [Act.put, List.getElem_toArray, List.getElem_cons_zero, List.getElem_cons_succ, List.setIfInBounds_toArray, List.set_cons_zero, List.set_cons_succ]
    refine wpAnyH_take (i := 4) (v := ?_) rfl (by kernel_rfl) (by kernel_rfl) (by kernel_rfl) (fun _ _ _ h => h) (Or.inl ⟨by rfl, ?_⟩) (by assumption) ?_
    rotate_left
    · intro w' hSw; (try dsimp only at hSw); go_simp; try with_reducible rfl
    try simp only [Act.put, List.getElem_toArray, List.getElem_cons_zero, List.getElem_cons_succ, List.setIfInBounds_toArray, List.set_cons_zero, List.set_cons_succ]
    refine wpAnyH_take (i := 6) (v := ?_) rfl (by kernel_rfl) (by kernel_rfl) (by kernel_rfl) (fun _ _ _ h => h) (Or.inl ⟨by rfl, ?_⟩) (by assumption) ?_
    rotate_left
    · intro w' hSw; (try dsimp only at hSw); go_simp; try with_reducible rfl
    try simp only [Act.put, List.getElem_toArray, List.getElem_cons_zero, List.getElem_cons_succ, List.setIfInBounds_toArray, List.set_cons_zero, List.set_cons_succ]
    refine wpAnyH_take (i := 7) (v := ?_) rfl (by kernel_rfl) (by kernel_rfl) (by kernel_rfl) (fun _ _ _ h => h) (Or.inl ⟨by rfl, ?_⟩) (by assumption) ?_
    rotate_left
    · intro w' hSw; (try dsimp only at hSw); go_simp; try with_reducible rfl
    try simp only [Act.put, List.getElem_toArray, List.getElem_cons_zero, List.getElem_cons_succ, List.setIfInBounds_toArray, List.set_cons_zero, List.set_cons_succ]
    refine wpAnyH_take (i := 8) (v := ?_) rfl (by kernel_rfl) (by kernel_rfl) (by kernel_rfl) (fun _ _ _ h => h) (Or.inl ⟨by rfl, ?_⟩) (by assumption) ?_
    rotate_left
    · intro w' hSw; (try dsimp only at hSw); go_simp; try with_reducible rfl
    try simp only [Act.put, List.getElem_toArray, List.getElem_cons_zero, List.getElem_cons_succ, List.setIfInBounds_toArray, List.set_cons_zero, List.set_cons_succ]
    refine wpAnyH_take (i := 9) (v := ?_) rfl (by kernel_rfl) (by kernel_rfl) (by kernel_rfl) (fun _ _ _ h => h) (Or.inl ⟨by rfl, ?_⟩) (by assumption) ?_
    rotate_left
    · intro w' hSw; (try dsimp only at hSw); go_simp; try with_reducible rfl
    try simp only [Act.put, List.getElem_toArray, List.getElem_cons_zero, List.getElem_cons_succ, List.setIfInBounds_toArray, List.set_cons_zero, List.set_cons_succ]
    refine wpAnyH_take (i := 10) (v := ?_) rfl (by kernel_rfl) (by kernel_rfl) (by kernel_rfl) (fun _ _ _ h => h) (Or.inl ⟨by rfl, ?_⟩) (by assumption) ?_
    rotate_left
    · intro w' hSw; (try dsimp only at hSw); go_simp; try with_reducible rfl
    try simp only [Act.put, List.getElem_toArray, List.getElem_cons_zero, List.getElem_cons_succ, List.setIfInBounds_toArray, List.set_cons_zero, List.set_cons_succ]
    refine wpAnyH_ready (rs := [5]) (by kernel_rfl) (by simp) ?_
    refine AllReadyH.cons rfl (fun K hK => ?_) AllReadyH.nil
    go_simp
    refine (CA.out _ (by first | exact Fr.drew FQ.out | exact FQ.out)).mono ?_
    rintro e w1 ⟨rfl, G3, h3, f3⟩
    have bx := BX.out _ f3
    obtain ⟨z0, z1, z2⟩ := bx
    have H3 := Lib.hid h3; have F3 := Lib.hid f3
    clear h3 f3
    try go_simp
    refine hK.out _ _ ?_ (fun hHeld => ?_)
    · (try dsimp only); exact ⟨z0, z1, z2⟩
    clear hK K
    try simp only [Act.put, List.getElem_toArray, List.getElem_cons_zero, List.getElem_cons_succ, List.setIfInBounds_toArray, List.set_cons_zero, List.set_cons_succ]
    refine wpAnyH_ready (rs := [11]) (by kernel_rfl) (by simp) ?_
    refine AllReadyH.cons rfl (fun K hK => ?_) AllReadyH.nil
    go_simp
    refine (CB.out _ F3.out).mono ?_
    rintro e w2 ⟨rfl, G4, h4, f4⟩
    have bx := BX2.out _ _ F3.out f4
    obtain ⟨z3, z4, z5⟩ := bx
    have H4 := Lib.hid h4; have F4 := Lib.hid f4
    clear h4 f4
    try go_simp
    refine hK.out _ _ ?_ (fun hHeld => ?_)
    · (try dsimp only); exact ⟨z3, z4, z5⟩
    clear hK K
    try simp only [Act.put, List.getElem_toArray, List.getElem_cons_zero, List.getElem_cons_succ, List.setIfInBounds_toArray, List.set_cons_zero, List.set_cons_succ]
    refine wpAnyH_take (i := 12) (v := ?_) rfl (by kernel_rfl) (by kernel_rfl) (by kernel_rfl) (fun _ _ _ h => h) (Or.inl ⟨by rfl, ?_⟩) (by assumption) ?_
    rotate_left
    · intro w' hSw; (try dsimp only at hSw); go_simp; try with_reducible rfl
    try simp only [Act.put, List.getElem_toArray, List.getElem_cons_zero, List.getElem_cons_succ, List.setIfInBounds_toArray, List.set_cons_zero, List.set_cons_succ]
    refine wpAnyH_take (i := 13) (v := ?_) rfl (by kernel_rfl) (by kernel_rfl) (by kernel_rfl) (fun _ _ _ h => h) (Or.inl ⟨by rfl, ?_⟩) (by assumption) ?_
    rotate_left
    · intro w' hSw; (try dsimp only at hSw); go_simp; try with_reducible rfl
    try simp only [Act.put, List.getElem_toArray, List.getElem_cons_zero, List.getElem_cons_succ, List.setIfInBounds_toArray, List.set_cons_zero, List.set_cons_succ]
    refine wpAnyH_done (by kernel_rfl) ?_ _
    go_wp2_with fail
    go_ret
    refine ⟨by simp, PP.out.stepped ST.out (by omega) (by omega) H3.out F3.out H4.out F4.out⟩
  by_cases hk4 : kd = 4
  · subst hk4
    obtain ⟨L', R', b, st⟩ := PP.out.drop m
    have CA := Lib.hid st.one; have CB := Lib.hid st.two; have ST := Lib.hid st
    clear st
    go_wp2_with fail
    refine wp_region_held_drew (S := fun w' => w'.cell? ⟨w.heap.size, 0, none⟩ = some (.pointer (some ⟨bh, 0, none⟩)) ∧ w'.cell? ⟨w.heap.size, 1, none⟩ = some (.pointer (some ⟨rh, 0, none⟩))) (by kernel_rfl) (by exact ⟨c0, c1⟩) (fun hHeld => ?_)
    refine wpAnyH_take (i := 0) (v := ?_) rfl (by kernel_rfl) (by kernel_rfl) (by kernel_rfl) (fun _ _ _ h => h) (Or.inl ⟨by rfl, ?_⟩) (by assumption) ?_
    rotate_left
    · intro w' hSw; (try dsimp only at hSw); go_simp; try with_reducible rfl
    try simp only [Act.put, List.getElem_toArray, List.getElem_cons_zero, List.getElem_cons_succ, List.setIfInBounds_toArray, List.set_cons_zero, List.set_cons_succ]
    refine wpAnyH_take (i := 1) (v := ?_) rfl (by kernel_rfl) (by kernel_rfl) (by kernel_rfl) (fun _ _ _ h => h) (Or.inl ⟨by rfl, ?_⟩) (by assumption) ?_
    rotate_left
    · intro w' hSw; (try dsimp only at hSw); go_simp; try with_reducible rfl
    try simp only [Act.put, List.getElem_toArray, List.getElem_cons_zero, List.getElem_cons_succ, List.setIfInBounds_toArray, List.set_cons_zero, List.set_cons_succ]
    refine wpAnyH_take (i := 2) (v := ?_) rfl (by kernel_rfl) (by kernel_rfl) (by kernel_rfl) (fun _ _ _ h => h) (Or.inl ⟨by rfl, ?_⟩) (by assumption) ?_
    rotate_left
    · intro w' hSw; (try dsimp only at hSw); go_simp; try with_reducible rfl
    try simp only [Act.put, List.getElem_toArray, List.getElem_cons_zero, List.getElem_cons_succ, List.setIfInBounds_toArray, List.set_cons_zero, List.set_cons_succ]
    refine wpAnyH_take (i := 4) (v := ?_) rfl (by kernel_rfl) (by kernel_rfl) (by kernel_rfl) (fun _ _ _ h => h) (Or.inl ⟨by rfl, ?_⟩) (by assumption) ?_
    rotate_left
    · intro w' hSw; (try dsimp only at hSw); go_simp; try with_reducible rfl
    try simp only [Act.put, List.getElem_toArray, List.getElem_cons_zero, List.getElem_cons_succ, List.setIfInBounds_toArray, List.set_cons_zero, List.set_cons_succ]
    refine wpAnyH_take (i := 5) (v := ?_) rfl (by kernel_rfl) (by kernel_rfl) (by kernel_rfl) (fun _ _ _ h => h) (Or.inl ⟨by rfl, ?_⟩) (by assumption) ?_
    rotate_left
    · intro w' hSw; (try dsimp only at hSw); go_simp; try with_reducible rfl
    try simp only [Act.put, List.getElem_toArray, List.getElem_cons_zero, List.getElem_cons_succ, List.setIfInBounds_toArray, List.set_cons_zero, List.set_cons_succ]
    refine wpAnyH_take (i := 6) (v := ?_) rfl (by kernel_rfl) (by kernel_rfl) (by kernel_rfl) (fun _ _ _ h => h) (Or.inl ⟨by rfl, ?_⟩) (by assumption) ?_
    rotate_left
    · intro w' hSw; (try dsimp only at hSw); go_simp; try with_reducible rfl
    try simp only [Act.put, List.getElem_toArray, List.getElem_cons_zero, List.getElem_cons_succ, List.setIfInBounds_toArray, List.set_cons_zero, List.set_cons_succ]
    refine wpAnyH_ready (rs := [3]) (by kernel_rfl) (by simp) ?_
    refine AllReadyH.cons rfl (fun K hK => ?_) AllReadyH.nil
    go_simp
    refine (CA.out _ (by first | exact Fr.drew FQ.out | exact FQ.out)).mono ?_
    rintro e w1 ⟨rfl, G3, h3, f3⟩
    have bx := BX.out _ f3
    obtain ⟨z0, z1, z2⟩ := bx
    have H3 := Lib.hid h3; have F3 := Lib.hid f3
    clear h3 f3
    try go_simp
    refine hK.out _ _ ?_ (fun hHeld => ?_)
    · (try dsimp only); exact ⟨z0, z1⟩
    clear hK K
    try simp only [Act.put, List.getElem_toArray, List.getElem_cons_zero, List.getElem_cons_succ, List.setIfInBounds_toArray, List.set_cons_zero, List.set_cons_succ]
    refine wpAnyH_ready (rs := [7]) (by kernel_rfl) (by simp) ?_
    refine AllReadyH.cons rfl (fun K hK => ?_) AllReadyH.nil
    go_simp
    refine (CB.out _ F3.out).mono ?_
    rintro e w2 ⟨rfl, G4, h4, f4⟩
    have bx := BX2.out _ _ F3.out f4
    obtain ⟨z3, z4, z5⟩ := bx
    have H4 := Lib.hid h4; have F4 := Lib.hid f4
    clear h4 f4
    try go_simp
    refine hK.out _ _ ?_ (fun hHeld => ?_)
    · (try dsimp only); exact ⟨z3, z4⟩
    clear hK K
    try simp only [Act.put, List.getElem_toArray, List.getElem_cons_zero, List.getElem_cons_succ, List.setIfInBounds_toArray, List.set_cons_zero, List.set_cons_succ]
    refine wpAnyH_take (i := 8) (v := ?_) rfl (by kernel_rfl) (by kernel_rfl) (by kernel_rfl) (fun _ _ _ h => h) (Or.inl ⟨by rfl, ?_⟩) (by assumption) ?_
    rotate_left
    · intro w' hSw; (try dsimp only at hSw); go_simp; try with_reducible rfl
    try simp only [Act.put, List.getElem_toArray, List.getElem_cons_zero, List.getElem_cons_succ, List.setIfInBounds_toArray, List.set_cons_zero, List.set_cons_succ]
    refine wpAnyH_take (i := 9) (v := ?_) rfl (by kernel_rfl) (by kernel_rfl) (by kernel_rfl) (fun _ _ _ h => h) (Or.inl ⟨by rfl, ?_⟩) (by assumption) ?_
    rotate_left
    · intro w' hSw; (try dsimp only at hSw); go_simp; try with_reducible rfl
    try simp only [Act.put, List.getElem_toArray, List.getElem_cons_zero, List.getElem_cons_succ, List.setIfInBounds_toArray, List.set_cons_zero, List.set_cons_succ]
    refine wpAnyH_done (by kernel_rfl) ?_ _
    go_wp2_with fail
    go_ret
    refine ⟨by simp, PP.out.stepped ST.out (by omega) (by omega) H3.out F3.out H4.out F4.out⟩
  have b1 : (kd == 1) = false := by simpa using hk1
  have b2 : (kd == 2) = false := by simpa using hk2
  have b3 : (kd == 3) = false := by simpa using hk3
  have b4 : (kd == 4) = false := by simpa using hk4
  clear hk1 hk2 hk3 hk4
  go_wp2_with fail
  go_ret
  refine ⟨rfl, ?_⟩
  have hf := F0.out.trans FQ.out (fun _ _ h => h)
  exact ⟨G, L, R, next, H.out.fr hf (fun _ _ h => h), by omega, by omega, nofr hf, fun _ h => .inl h⟩
end
end Go.Proofs.Ytfgpmbahekcoeaa
