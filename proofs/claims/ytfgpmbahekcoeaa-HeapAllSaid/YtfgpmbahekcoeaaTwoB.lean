/- The contract of pop over two heaps. No condition. -/
import Derived.Test.YtfgpmbahekcoeaaTwo
namespace Go.Proofs.Ytfgpmbahekcoeaa
open Go.RowKit
section
variable {G : Nat → Prop} {bk bh rh : Nat} {k next : Int} {L R : List It} {w : World}
theorem nofr {F : Nat → Prop} {a b : World} (h : Fr (fun _ => False) a b) : Fr F a b := h.mono (fun _ _ h => h.elim)
/-- What a step on the pair leaves. -/
def Stepped (G : Nat → Prop) (bk bh rh : Nat) (k : Int) (next : Int) (w w' : World) : Prop := ∃ G' L' R' n', PairIs G' bk bh rh k L' R' n' w' ∧ next ≤ n' ∧ n' ≤ next + 1 ∧ Fr G w w' ∧ Grew w G G'
/-- The two parts of a pair, behind its box. -/
structure Parts (G G1 G2 : Nat → Prop) (bk bh rh : Nat) (k next : Int) (L R : List It) (w0 W : World) : Prop where
  p : PairIs G bk bh rh k L R next w0
  f : Fr (fun _ => False) w0 W
  h : HeapIs (KindAt bk k) (fun b => b = bk) Fits (ordFn bk) G1 bh L next W
  r : RefIs G2 rh k R next W
  s1 : ∀ b, G1 b → G b
  s2 : ∀ b, G2 b → G b
  dj : ∀ b, G1 b → ¬ G2 b
  dk : ¬ G2 bk
theorem PairIs.parts (h : PairIs G bk bh rh k L R next w) {W : World} (f : Fr (fun _ => False) w W) : ∃ G1 G2, Parts G G1 G2 bk bh rh k next L R w W := by
  obtain ⟨G1, G2, h1, h2, s1, s2, dj, dk⟩ := (h.fr f (fun _ _ h => h)).ex
  exact ⟨G1, G2, h, f, h1, h2, s1, s2, dj, dk⟩
theorem Parts.stay {G1 G2 : Nat → Prop} {W : World} (c : Parts G G1 G2 bk bh rh k next L R w W) : Stepped G bk bh rh k next w W :=
  ⟨G, L, R, next, c.p.fr c.f (fun _ _ h => h), by omega, by omega, nofr c.f, fun _ h => .inl h⟩
/-- The heap's step first, then the document's. -/
theorem Parts.heapFirst {G1 G2 G3 G4 : Nat → Prop} {W w1 w2 : World} {L' R' : List It} {n' : Int} (c : Parts G G1 G2 bk bh rh k next L R w W)
    (h1 : HeapIs (KindAt bk k) (fun b => b = bk) Fits (ordFn bk) G3 bh L' n' w1) (f1 : Fr (fun b => b = bk ∨ G1 b) W w1) (g1 : Grew W G1 G3)
    (h2 : RefIs G4 rh k R' n' w2) (f2 : Fr G2 w1 w2) (g2 : Grew w1 G2 G4) (hn : next ≤ n') (hn2 : n' ≤ next + 1) (hr : Rel L' R') (hh : k < 4 → Heaped (lessK k) L') : Stepped G bk bh rh k next w w2 := by
  have hbk : bk < W.heap.size := lt_of_block c.h.j
  have d1 : ∀ b, G3 b → ¬ G2 b := by
    intro b hb hb2
    rcases g1 b hb with h | h
    · exact c.dj b h hb2
    · have := c.r.bd b hb2; omega
  have k1 : KindAt bk k w2 := f2.get h1.j c.dk
  have d2 : ∀ b, G3 b → ¬ G4 b := by
    intro b hb hb4
    rcases g2 b hb4 with h | h
    · exact d1 b hb h
    · have := h1.bd b hb; omega
  have d3 : ¬ G4 bk := by
    intro hb
    rcases g2 _ hb with h | h
    · exact c.dk h
    · have := f1.size; omega
  refine ⟨_, L', R', n', PairIs.mk2 c.p.k0 c.p.k7 (h1.fr f2 k1 d1) h2 d2 d3 hr hh, hn, hn2, ?_, ?_⟩
  · refine ((nofr c.f).trans (f1.mono (G := G) ?_) (fun _ _ h => h)).trans (f2.mono (G := G) ?_) (fun _ _ h => h)
    · rintro b _ (rfl | h)
      · exact c.p.gk
      · exact c.s1 b h
    · intro b _ h; exact c.s2 b h
  · have z0 := c.f.size
    have z1 := f1.size
    rintro b (rfl | h | h)
    · exact .inl c.p.gk
    · rcases g1 b h with h | h
      · exact .inl (c.s1 b h)
      · right; omega
    · rcases g2 b h with h | h
      · exact .inl (c.s2 b h)
      · right; omega
/-- The document's step first, then the heap's. -/
theorem Parts.docFirst {G1 G2 G3 G4 : Nat → Prop} {W w1 w2 : World} {L' R' : List It} {n' : Int} (c : Parts G G1 G2 bk bh rh k next L R w W)
    (h2 : RefIs G4 rh k R' n' w1) (f2 : Fr G2 W w1) (g2 : Grew W G2 G4) (h1 : HeapIs (KindAt bk k) (fun b => b = bk) Fits (ordFn bk) G3 bh L' n' w2) (f1 : Fr (fun b => b = bk ∨ G1 b) w1 w2) (g1 : Grew w1 G1 G3)
    (hn : next ≤ n') (hn2 : n' ≤ next + 1) (hr : Rel L' R') (hh : k < 4 → Heaped (lessK k) L') : Stepped G bk bh rh k next w w2 := by
  have hbk : bk < W.heap.size := lt_of_block c.h.j
  have d3 : ¬ G4 bk := by
    intro hb
    rcases g2 _ hb with h | h
    · exact c.dk h
    · omega
  have d1 : ∀ b, G4 b → ¬ (b = bk ∨ G1 b) := by
    rintro b hb (rfl | h)
    · exact d3 hb
    · rcases g2 b hb with h2 | h2
      · exact c.dj b h h2
      · have := c.h.bd b h; omega
  have d2 : ∀ b, G3 b → ¬ G4 b := by
    intro b hb hb4
    rcases g1 b hb with h | h
    · exact d1 b hb4 (.inr h)
    · have := h2.bd b hb4; omega
  refine ⟨_, L', R', n', PairIs.mk2 c.p.k0 c.p.k7 h1 (h2.fr f1 d1) d2 d3 hr hh, hn, hn2, ?_, ?_⟩
  · refine ((nofr c.f).trans (f2.mono (G := G) ?_) (fun _ _ h => h)).trans (f1.mono (G := G) ?_) (fun _ _ h => h)
    · intro b _ h; exact c.s2 b h
    · rintro b _ (rfl | h)
      · exact c.p.gk
      · exact c.s1 b h
  · have z0 := c.f.size
    have z1 := f2.size
    rintro b (rfl | h | h)
    · exact .inl c.p.gk
    · rcases g1 b h with h | h
      · exact .inl (c.s1 b h)
      · right; omega
    · rcases g2 b h with h | h
      · exact .inl (c.s2 b h)
      · right; omega
set_option maxRecDepth 100000 in
set_option maxHeartbeats 1000000 in
theorem pop_ok (h : PairIs G bk bh rh k L R next w) : Calls Try.prog 60 #[twoV bh rh k] w fun e w' => e = .returned (.bool true) ∧ Stepped G bk bh rh k next w w' := by
  have f0 : Fr (fun _ => False) w (w.alloc (.cells #[.pointer (some ⟨bh, 0, none⟩), .pointer (some ⟨rh, 0, none⟩), .bool (decide (k < 4))] 51)) := Fr.alloc (Fr.refl _ _) _
  have hB : (w.alloc (.cells #[.pointer (some ⟨bh, 0, none⟩), .pointer (some ⟨rh, 0, none⟩), .bool (decide (k < 4))] 51)).heap[w.heap.size]? = some (.cells #[.pointer (some ⟨bh, 0, none⟩), .pointer (some ⟨rh, 0, none⟩), .bool (decide (k < 4))] 51 (0, 0)) := heap_alloc_at _ _
  have h0 := h.fr f0 (fun _ _ h => h)
  have hbG : ¬ G w.heap.size := fun hg => by have := h.bd _ hg; omega
  obtain ⟨G1, G2, pp⟩ := h.parts f0
  have hL := h.less
  have hfit := rel_fits h0.rel pp.h.all
  have hlen := h0.rel.len
  obtain ⟨o, ho⟩ : ∃ o, decide (k < 4) = o := ⟨_, rfl⟩
  have Ho := Lib.hid ho
  unfold twoV
  rw [ho] at f0 hB h0 pp ⊢
  have H := Lib.hid h; have HB := Lib.hid hB; have HbG := Lib.hid hbG; have PP := Lib.hid pp
  have HL := Lib.hid hL; have Hfit := Lib.hid hfit; have Hlen := Lib.hid hlen
  clear h f0 h0 hbG pp hL hfit hlen ho hB
  cases L with
  | nil =>
    obtain rfl : R = [] := List.length_eq_zero_iff.1 (by rw [Hlen.out]; rfl)
    go_enter Try.func60, Try.ntmps60
    go_wp2_with fail
    refine (pop_none HL.out PP.out.h).mono ?_
    rintro e w1 ⟨rfl, rfl⟩
    cases o with
    | true =>
      go_wp2_with fail
      refine (rpop_none PP.out.r).mono ?_
      rintro e w1 ⟨rfl, rfl⟩
      go_wp2_with fail
      go_ret
      exact ⟨rfl, PP.out.stay⟩
    | false =>
      obtain ⟨ra, rc, hrl⟩ := ref_len PP.out.r
      go_wp2_with fail
      refine (rget_gone PP.out.r (hd := 0) (by simp)).mono ?_
      rintro e w1 ⟨rfl, rfl⟩
      go_wp2_with fail
      refine (rdrop_gone PP.out.r (hd := 0) (by simp)).mono ?_
      rintro e w1 ⟨rfl, rfl⟩
      go_wp2_with fail
      go_ret
      exact ⟨rfl, PP.out.stay⟩
  | cons x0 L0 =>
    obtain ⟨L, hLe⟩ : ∃ L, L = x0 :: L0 := ⟨_, rfl⟩
    have hL0 : 0 < L.length := by rw [hLe]; simp
    rw [← hLe] at H PP Hlen
    clear hLe
    have hp := pop_some HL.out PP.out.h hL0
    obtain ⟨q, hq, eq⟩ := H.out.rel.find hL0
    have hrel := H.out.rel.take (lt := lessK k) hL0 hq eq
    have hhp : k < 4 → Heaped (lessK k) (takeF (lessK k) L 0) := fun h4 => take_heaped (lessK_swo k H.out.k0 h4) (H.out.hp h4) hL0
    have hne : R ≠ [] := by intro e; subst e; simp at hq
    have hle : k < 4 → leastTo (lessK k) R (R.length - 1) = itAt R q := fun h4 => by rw [eq]; exact H.out.rel.least (lessK_swo k H.out.k0 h4) (H.out.hp h4) hL0
    have e1 : (itAt R q).1 = (itAt L 0).2 := by rw [eq]; rfl
    have e2 : (itAt R q).2 = (itAt L 0).1 := by rw [eq]; rfl
    obtain ⟨xv, hxv⟩ : ∃ xv, xv = (itAt L 0).1 := ⟨_, rfl⟩
    obtain ⟨xh, hxh⟩ : ∃ xh, xh = (itAt L 0).2 := ⟨_, rfl⟩
    rw [← hxv, ← hxh] at hp
    rw [← hxh] at e1
    rw [← hxv] at e2
    have HP := Lib.hid hp; have Hq := Lib.hid hq; have Hrel := Lib.hid hrel; have Hhp := Lib.hid hhp; have Hne := Lib.hid hne; have Hle := Lib.hid hle; have E1 := Lib.hid e1; have E2 := Lib.hid e2
    clear hp hq eq hrel hhp hne hle e1 e2 hxv hxh hL0
    go_enter Try.func60, Try.ntmps60
    go_wp2_with fail
    refine HP.out.mono ?_
    rintro e w1 ⟨rfl, h3, f3⟩
    have f3G : Fr G (w.alloc (.cells #[.pointer (some ⟨bh, 0, none⟩), .pointer (some ⟨rh, 0, none⟩), .bool o] 51)) w1 := f3.mono (by
      rintro b _ (rfl | hb)
      · exact H.out.gk
      · exact PP.out.s1 b hb)
    have hb1 := f3G.get HB.out HbG.out
    have h4 := PP.out.r.fr f3 (by
      rintro b hb (rfl | h)
      · exact PP.out.dk hb
      · exact PP.out.dj b h hb)
    have d0 := cell_of hb1 0
    have d1 := cell_of hb1 1
    have d2 := cell_of hb1 2
    simp at d0 d1 d2
    have H3 := Lib.hid h3; have F3 := Lib.hid f3; have HB1 := Lib.hid hb1; have H4 := Lib.hid h4
    clear h3 f3 f3G hb1 h4
    cases o with
    | true =>
      have h4' : k < 4 := of_decide_eq_true Ho.out
      have cp := rpop_some H4.out Hne.out (rel_lone H.out.rel) H.out.k0 H.out.k7 Hfit.out Hq.out (Hle.out h4')
      rw [E1.out, E2.out] at cp
      have CP := Lib.hid cp
      clear cp h4'
      go_wp2_with fail
      refine CP.out.mono ?_
      rintro e w2 ⟨rfl, G3, h5, f5, g5⟩
      have H5 := Lib.hid h5; have F5 := Lib.hid f5; have G5 := Lib.hid g5
      clear h5 f5 g5
      go_wp2_with fail
      go_ret
      exact ⟨rfl, PP.out.heapFirst H3.out F3.out (fun _ h => .inl h) H5.out (F5.out.mono (fun b _ e => by subst e; exact PP.out.r.gh)) G5.out (by omega) (by omega) Hrel.out Hhp.out⟩
    | false =>
      have cg := rget_there H4.out (rel_lone H.out.rel) Hq.out
      have cd := rdrop_there H4.out (rel_lone H.out.rel) Hq.out
      rw [E1.out, E2.out] at cg
      rw [E1.out] at cd
      have CG := Lib.hid cg; have CD := Lib.hid cd
      clear cg cd
      go_wp2_with fail
      refine CG.out.mono ?_
      rintro e w2 ⟨rfl, rfl⟩
      go_wp2_with fail
      refine CD.out.mono ?_
      rintro e w2 ⟨rfl, G3, h5, f5, g5⟩
      have H5 := Lib.hid h5; have F5 := Lib.hid f5; have G5 := Lib.hid g5
      clear h5 f5 g5
      go_wp2_with fail
      go_ret
      exact ⟨rfl, PP.out.heapFirst H3.out F3.out (fun _ h => .inl h) H5.out (F5.out.mono (fun b _ e => by subst e; exact PP.out.r.gh)) G5.out (by omega) (by omega) Hrel.out Hhp.out⟩
end
end Go.Proofs.Ytfgpmbahekcoeaa
