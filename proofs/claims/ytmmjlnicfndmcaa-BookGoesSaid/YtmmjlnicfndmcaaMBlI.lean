/- BookGoes: its walk. No condition. -/
import Derived.Test.YtmmjlnicfndmcaaM8
import Derived.Test.YtmmjlnicfndmcaaMBmC
import Derived.Test.YtmmjlnicfndmcaaM5
namespace Go.Proofs.Ytmmjlnicfndmcaa.Bk
open Go.RowKit Go.Shelf
attribute [local go_sem] Oper.semAt_some
/-- A way on that ends as it should, or not at all. -/
def Calm (Q : Exit → Act → World → Prop) : Exit → Act → World → Prop
  | .normal, a, w => Q .normal a w
  | _, _, _ => False
theorem Calm.out {Q : Exit → Act → World → Prop} : ∀ {e : Exit} {a : Act} {w : World}, Calm Q e a w → Q e a w
  | .normal, _, _, h => h
theorem Calm.intro {Q : Exit → Act → World → Prop} {a : Act} {w : World} (h : Q .normal a w) : Calm Q .normal a w := h
def GoZ (pb tb kb cb : Nat) (tv sv : Value) (y : Nat) : Prop := y = pb ∨ y = tb ∨ y = kb ∨ tv.ownBlock = some y ∨ seqP cb sv y
/-- What stands while the range goes on: a book whose blocks lie below B, and the range's own cells. -/
structure GoI (w1 : World) (bb pb tb kb cb : Nat) (tv sv : Value) (S : List Bo) (B : Nat) (W : World) : Prop where
  bk : ∃ m p, BkP p bb m.next m m.L m.L W ∧ ∀ y, p.own bb y → w1.heap.size ≤ y ∧ y < B ∧ ¬ GoZ pb tb kb cb tv sv y
  hp : W.heap[pb]? = some (.cells #[.pointer (some ⟨bb, 0, none⟩)] 24 (0, 0))
  ht : W.heap[tb]? = some (.cells #[tv] 27 (0, 0))
  row : Bos W tv S
  seq : VSeq W cb sv S
  fr : Fr (fun _ => False) w1 W
  sz : B ≤ W.heap.size
section
variable {w1 W W2 : World} {bb pb tb kb cb B : Nat} {tv sv : Value} {S : List Bo}
/-- The places, once and for all. -/
structure GoP (w1 : World) (pb tb kb cb B : Nat) (tv sv : Value) : Prop where
  p : pb < B ∧ pb ≠ kb
  t : tb < B ∧ tb ≠ kb
  k : w1.heap.size ≤ kb ∧ kb < B
  v : ∀ y, tv.ownBlock = some y → y < B ∧ y ≠ kb
  s : ∀ y, seqP cb sv y → y < B ∧ y ≠ kb
  b : w1.heap.size ≤ B
theorem GoI.keep (h : GoI w1 bb pb tb kb cb tv sv S B W) (hp : GoP w1 pb tb kb cb B tv sv) {F : Nat → Prop} (f : Fr F W W2) (hF : ∀ y, F y → y = kb ∨ B ≤ y) : GoI w1 bb pb tb kb cb tv sv S B W2 := by
  obtain ⟨m, p, h1, h2⟩ := h.bk
  have no : ∀ y, y < B → y ≠ kb → ¬ F y := fun y a b e => by rcases hF y e with c | c; exact b c; omega
  refine ⟨⟨m, p, h1.fr f (fun y hy => no y (h2 y hy).2.1 (fun e => (h2 y hy).2.2 (.inr (.inr (.inl e))))), h2⟩, f.get h.hp (no _ hp.p.1 hp.p.2), f.get h.ht (no _ hp.t.1 hp.t.2), Row.fr h.row f (fun y hy => no y (hp.v y hy).1 (hp.v y hy).2), h.seq.fr f (fun y hy => no y (hp.s y hy).1 (hp.s y hy).2), ?_, Nat.le_trans h.sz f.size⟩
  refine Fr.toNew ((h.fr.mono (G := fun y => w1.heap.size ≤ y) (fun _ _ h => h.elim)).trans f (fun y _ e => ?_))
  rcases hF y e with c | c
  · rw [c]; exact hp.k.1
  · have := hp.b; omega
theorem GoI.drew (h : GoI w1 bb pb tb kb cb tv sv S B W) (hp : GoP w1 pb tb kb cb B tv sv) : GoI w1 bb pb tb kb cb tv sv S B W.drew := h.keep hp (Fr.drew (Fr.refl (fun _ => False) _)) (fun _ h => h.elim)
theorem GoI.aft (h : GoI w1 bb pb tb kb cb tv sv S B W) {p : Pt} {m : Bk} (ho : ∀ y, p.own bb y → w1.heap.size ≤ y ∧ y < B ∧ ¬ GoZ pb tb kb cb tv sv y) (ha : AftC p bb m W W2) : GoI w1 bb pb tb kb cb tv sv S B W2 ∧ Fr (fun y => y < B ∧ ¬ GoZ pb tb kb cb tv sv y) W W2 := by
  obtain ⟨p', h1, f, h3⟩ := ha
  refine ⟨⟨⟨m, p', h1, fun y hy => ho y (h3 y hy)⟩, f.get h.hp (fun e => (ho _ e).2.2 (.inl rfl)), f.get h.ht (fun e => (ho _ e).2.2 (.inr (.inl rfl))), Row.fr h.row f (fun y hy e => (ho _ e).2.2 (.inr (.inr (.inr (.inl hy))))), h.seq.fr f (fun y hy e => (ho _ e).2.2 (.inr (.inr (.inr (.inr hy))))), ?_, Nat.le_trans h.sz f.size⟩, f.mono (fun y _ hy => (ho y hy).2)⟩
  exact Fr.toNew ((h.fr.mono (G := fun y => w1.heap.size ≤ y) (fun _ _ h => h.elim)).trans f (fun y _ e => (ho y e).1))
/-- What stands behind the range. -/
structure GoR (w1 : World) (bb pb tb cb D : Nat) (tv sv : Value) (S : List Bo) (Z : Nat → Prop) (W : World) : Prop where
  bks : ∃ m P, Bks w1 W 1 (fun _ => bb) (fun _ => m) Z P
  hp : W.heap[pb]? = some (.cells #[.pointer (some ⟨bb, 0, none⟩)] 24 (0, 0))
  ht : W.heap[tb]? = some (.cells #[tv] 27 (0, 0))
  row : Bos W tv S
  seq : VSeq W cb sv S
  hd : W.heap[D]? = some (.deferred (some []))
theorem GoR.c7 {D : Nat} {Z : Nat → Prop} (h : GoR w1 bb pb tb cb D tv sv S Z W) : W.cell? ⟨pb, 0, none⟩ = some (.pointer (some ⟨bb, 0, none⟩)) := (cell_of h.hp 0).trans rfl
theorem GoR.c10 {D : Nat} {Z : Nat → Prop} (h : GoR w1 bb pb tb cb D tv sv S Z W) : W.cell? ⟨tb, 0, none⟩ = some tv := (cell_of h.ht 0).trans rfl
theorem GoR.step {D : Nat} (h : GoR w1 bb pb tb cb D tv sv S (fun y => GoZ pb tb kb cb tv sv y ∨ y = D) W) (hb : ∃ m P, Bks w1 W2 1 (fun _ => bb) (fun _ => m) (fun y => GoZ pb tb kb cb tv sv y ∨ y = D) P) (f : Fr (fun y => ¬ (GoZ pb tb kb cb tv sv y ∨ y = D)) W W2) : GoR w1 bb pb tb cb D tv sv S (fun y => GoZ pb tb kb cb tv sv y ∨ y = D) W2 :=
  ⟨hb, f.get h.hp (fun e => e (.inl (.inl rfl))), f.get h.ht (fun e => e (.inl (.inr (.inl rfl)))), Row.fr h.row f (fun _y hy e => e (.inl (.inr (.inr (.inr (.inl hy)))))), h.seq.fr f (fun _y hy e => e (.inl (.inr (.inr (.inr (.inr hy)))))), f.get h.hd (fun e => e (.inr rfl))⟩
theorem GoI.out {D : Nat} (h : GoI w1 bb pb tb kb cb tv sv S B W) (hp : GoP w1 pb tb kb cb B tv sv) (hD : B ≤ D) (hd : W.heap[D]? = some (.deferred (some []))) (hk : kb < W.heap.size) : GoR w1 bb pb tb cb D tv sv S (fun y => GoZ pb tb kb cb tv sv y ∨ y = D) W := by
  obtain ⟨m, p, h1, h2⟩ := h.bk
  refine ⟨⟨m, fun _ => p, ⟨fun _ _ => h1, fun _ _ y hy => (h2 y hy).1, fun i j hi hj hn => absurd (show i = j by omega) hn, ?_, h.fr⟩⟩, h.hp, h.ht, h.row, h.seq, hd⟩
  rintro y (hy | rfl)
  · refine ⟨?_, fun _ _ ho => (h2 y ho).2.2 hy⟩
    rcases hy with rfl | rfl | rfl | hy | hy
    · exact lt_of_block h.hp
    · exact lt_of_block h.ht
    · exact hk
    · exact Row.lt h.row hy
    · exact h.seq.lt y hy
  · exact ⟨(Array.getElem?_eq_some_iff.1 hd).1, fun _ _ ho => by have := (h2 y ho).2.1; omega⟩
end
set_option maxRecDepth 100000 in
set_option maxHeartbeats 8000000 in
theorem goes_law (w : World) {v : Value} {K : Nat → Nat → Int} {n1 : Nat} (h1 : KindsAt w v 5 kRc K n1) {v2 : Value} {K2 : Nat → Nat → Int} {n2 : Nat} (h2 : KindsAt w v2 5 kRc K2 n2) (left : Int) (_ : (Lit.int .i64 left).wf = true) :
    Calls Try.prog 4 #[v, v2, .int .i64 left] w fun e w' => e = .returned (.bool true) ∧ Fr (fun _ => False) w w' := by
  have hro : Fence.wide.round = none := rfl
  have h13 : 1 ≤ 3 := by omega
  obtain ⟨a1, c1, rfl, hnc, hcm, hor⟩ := id h1
  have H1 := Lib.hid h1
  clear h1 hor hnc hcm
  obtain ⟨a2, c2, rfl, hnc, hcm, hor⟩ := id h2
  have hn2 : (n2 : Int) ≤ 9223372036854775807 := by unfold maxLen at hcm; omega
  have H2 := Lib.hid h2; have Hn2 := Lib.hid hn2
  clear h2 hor hnc hcm hn2
  obtain ⟨W0, hW0⟩ : ∃ W0, W0 = w.alloc (.cells #[.int .i64 left] 3) := ⟨_, rfl⟩
  obtain ⟨lb, hlb⟩ : ∃ lb, lb = w.heap.size := ⟨_, rfl⟩
  have f0 : Fr (fun _ => False) w W0 := by rw [hW0]; exact Fr.alloc (Fr.refl _ _) _
  have hgl : W0.heap[lb]? = some (.cells #[.int .i64 left] 3 (0, 0)) := by rw [hW0, hlb]; exact heap_alloc_at _ _
  have F0 := Lib.hid f0; have Hgl := Lib.hid hgl
  clear f0 hgl
  refine (callsIn_wide (n := 3)).1 (callsIn_of_wp_marks Try.func4 rfl trivial ?_ hro)
  refine wpIn_wide.2 ?_
  simp only [Try.ntmps4, List.size_toArray, List.length_cons, List.length_nil, Nat.reduceAdd, Nat.reduceSub, Array.replicate_succ, Array.replicate_zero, List.push_toArray, List.append_toArray, List.nil_append, List.cons_append]
  go_upto_region 1 with fail
  rw [← hW0, ← hlb]
  clear hW0 hlb
  go_wp2_with fail
  refine (awake_ok W0).mono ?_
  rintro e w1 ⟨rfl, f1⟩
  have F1 := Lib.hid (F0.out.trans f1 (fun _ _ h => h)); have Hgl1 := Lib.hid (f1.get Hgl.out (fun h => h))
  have HM := Lib.hid (makes_ok (H1.out.fr (F0.out.trans f1 (fun _ _ h => h)) (fun _ _ h => h) (by omega)))
  clear f1 Hgl
  go_wp2_with fail
  refine HM.out.mono ?_
  rintro e w2 ⟨bb, rfl, p, hB, hBn, hf2⟩
  obtain ⟨m, hm⟩ : ∃ m, m = madeB b12 (rcsOf K (min n1 300)) := ⟨_, rfl⟩
  rw [← hm] at hB
  have Hlen := Lib.hid (show m.L.length ≤ 8 by rw [hm]; exact madeB_len)
  have Hidl := Lib.hid (show ∀ x ∈ m.L, x.1 < 4294967296 from hB.raw.idlt)
  have HB := Lib.hid hB; have HBn := Lib.hid hBn; have Hf2 := Lib.hid hf2
  clear hm hB hBn hf2 HM
  go_upto_region 4 with fail
  obtain ⟨W3, hW3⟩ : ∃ W3, W3 = w2.alloc (.cells #[.pointer (some ⟨bb, 0, none⟩)] 24) := ⟨_, rfl⟩
  obtain ⟨pb, hpb⟩ : ∃ pb, pb = w2.heap.size := ⟨_, rfl⟩
  rw [← hW3, ← hpb]
  have f3 : Fr (fun _ => False) w2 W3 := by rw [hW3]; exact Fr.alloc (Fr.refl _ _) _
  have hgp : W3.heap[pb]? = some (.cells #[.pointer (some ⟨bb, 0, none⟩)] 24 (0, 0)) := by rw [hW3, hpb]; exact heap_alloc_at _ _
  have c7 := (cell_of hgp 0).trans (show _ = some (Value.pointer (some ⟨bb, 0, none⟩)) from rfl)
  have HB3 := Lib.hid (HB.out.keep f3); have Hgp := Lib.hid hgp; have F3 := Lib.hid f3
  have HPb := Lib.hid (show w2.heap.size ≤ pb ∧ pb < W3.heap.size from ⟨by omega, lt_of_block hgp⟩)
  clear f3 hgp hW3 hpb
  go_wp2_with fail
  refine (all_ok HB3.out).mono ?_
  rintro e w4 ⟨cb, sv, rfl, hs, hnew, f4⟩
  have HS := Lib.hid hs; have F4 := Lib.hid f4; have Hnew := Lib.hid hnew
  clear hs hnew f4 c7
  go_wp2_with fail
  refine (tells_ok (by have := Hlen.out; omega) HS.out).mono ?_
  rintro e w5 ⟨tv, rfl, hv, hvn, f5⟩
  obtain ⟨ta, tc, rfl⟩ := bos_slice hv
  have HV := Lib.hid hv; have HVn := Lib.hid hvn; have F5 := Lib.hid f5
  clear hv hvn f5
  go_upto_block 0 with fail
  obtain ⟨W6, hW6⟩ : ∃ W6, W6 = w5.alloc (.cells #[.slice ta m.L.length tc] 27) := ⟨_, rfl⟩
  obtain ⟨tb, htb⟩ : ∃ tb, tb = w5.heap.size := ⟨_, rfl⟩
  have hs6 : W6.heap.size = w5.heap.size + 1 := by rw [hW6]; simp
  obtain ⟨W7, hW7⟩ : ∃ W7, W7 = W6.alloc (.cells #[.int .i64 0] 3) := ⟨_, rfl⟩
  obtain ⟨kb, hkb⟩ : ∃ kb, kb = W6.heap.size := ⟨_, rfl⟩
  have f6 : Fr (fun _ => False) w5 W6 := by rw [hW6]; exact Fr.alloc (Fr.refl _ _) _
  have f7 : Fr (fun _ => False) W6 W7 := by rw [hW7]; exact Fr.alloc (Fr.refl _ _) _
  have hgt6 : W6.heap[tb]? = some (.cells #[.slice ta m.L.length tc] 27 (0, 0)) := by rw [hW6, htb]; exact heap_alloc_at _ _
  have hgk : W7.heap[kb]? = some (.cells #[.int .i64 0] 3 (0, 0)) := by rw [hW7, hkb]; exact heap_alloc_at _ _
  have hs7 : W7.heap.size = W6.heap.size + 1 := by rw [hW7]; simp
  rw [← hW6, ← htb]
  try rw [← hW7]
  first | rw [← hkb] | rw [show w5.heap.size + 1 = kb by omega] | rw [show tb + 1 = kb by omega]
  try rw [← hW7]
  have f37 : Fr (fun _ => False) W3 W7 := ((F4.out.trans F5.out (fun _ _ h => h)).trans f6 (fun _ _ h => h)).trans f7 (fun _ _ h => h)
  obtain ⟨B, hBB⟩ : ∃ B, B = W7.heap.size := ⟨_, rfl⟩
  have z1 := Hf2.out.size; have z2 := F3.out.size; have z3 := F4.out.size; have z4 := F5.out.size
  have hGP : GoP w1 pb tb kb cb B (.slice ta m.L.length tc) sv := by
    have := HPb.out
    refine ⟨by omega, by omega, by omega, fun y hy => ?_, fun y hy => ?_, by omega⟩
    · have := Row.lt HV.out hy; omega
    · have := HS.out.lt y hy; omega
  have hGI : GoI w1 bb pb tb kb cb (.slice ta m.L.length tc) sv m.L B W7 := by
    refine ⟨⟨m, p, HB3.out.keep f37, fun y hy => ⟨HBn.out y hy, ?_, ?_⟩⟩, f37.get Hgp.out (fun h => h), f7.get hgt6 (fun h => h), Row.fr HV.out (f6.trans f7 (fun _ _ h => h)) (fun _ _ h => h), HS.out.fr ((F5.out.trans f6 (fun _ _ h => h)).trans f7 (fun _ _ h => h)) (fun _ _ h => h), (Hf2.out.trans F3.out (fun _ _ h => h)).trans f37 (fun _ _ h => h), Nat.le_of_eq hBB⟩
    · have := HB.out.lt hy; omega
    · have h0 := HB.out.lt hy
      have := HPb.out
      rintro (e | e | e | e | e)
      · omega
      · omega
      · omega
      · have := HVn.out y e; omega
      · have := Hnew.out y e; omega
  have HGP := Lib.hid hGP; have HGI := Lib.hid hGI; have HGK := Lib.hid hgk; have HBB := Lib.hid hBB
  have Hlb := Lib.hid (show lb < w1.heap.size from lt_of_block Hgl1.out)
  clear hGP hGI hgk hBB hgt6 f6 f7 f37 hW6 hW7 htb hkb hs6 hs7 z1 z2 z3 z4
  refine wp_cutD (fun ds' W' => ∃ D, ds' = [mark D] ∧ B ≤ D ∧ W'.heap[D]? = some (.deferred (some [])) ∧ GoI w1 bb pb tb kb cb (.slice ta m.L.length tc) sv m.L B W') ?rest ?first
  case first =>
    intro K' hK'
    go_wp2_with fail
    refine (wpIn_wide (n := 3)).1 ?_
    refine range_boxed hro h13 (gf := 47) (lb := #[.pointer (some ⟨cb, 0, none⟩)]) rfl trivial (enters_of Try.func47 (by kernel_rfl) rfl)
      (vals_stops Fence.wide (3 - 1) trivial hro (by omega) HGI.out.seq (seqP cb sv) (fun _ h => h)) (fun y hy => by have := (HGP.out.s y hy).1; have := HBB.out; omega) (Below.refl _ _) (fun _ => rfl)
      (fun pre W => GoI w1 bb pb tb kb cb (.slice ta m.L.length tc) sv m.L B W ∧ W.heap[kb]? = some (.cells #[.int .i64 (pre.length : Int)] 3 (0, 0)))
      (fun c pre W => c = .exit 0 ∧ GoI w1 bb pb tb kb cb (.slice ta m.L.length tc) sv m.L B W)
      ?own ?ownx ⟨HGI.out, HGK.out⟩ (fun _ W h => by rw [← HBB.out]; exact h.1.sz) (fun x => #[.int .u32 (x.1 : Int), .int .i64 x.2.1, .int .i64 x.2.2]) 44 ?a1 ?assign ?body ?done ?stop
    case own =>
      rintro s A B' row ⟨hG, hk⟩ hg hr
      have f := grownBy.fr hg
      exact ⟨hG.keep HGP.out f (fun y e => by have := (hr y e).1; have := HBB.out; right; omega), f.get hk (fun e => by have := (hr _ e).1; have := HBB.out; have := HGP.out.k.2; omega)⟩
    case ownx =>
      rintro c s A B' row ⟨hc, hG⟩ hg hr
      have f := grownBy.fr hg
      exact ⟨hc, hG.keep HGP.out f (fun y e => by have := (hr y e).1; have := HBB.out; right; omega)⟩
    case assign =>
      intro l x W' K hK
      obtain ⟨b, hb⟩ : ∃ b, b = W'.heap.size := ⟨_, rfl⟩
      gi_wp2
      rw [← hb]
      exact hK b hb
    case body =>
      rintro l pre x b W' hbw hbx ⟨hG, hk⟩ hlt
      obtain ⟨p, hp⟩ : ∃ p, p = pre.length := ⟨_, rfl⟩
      rw [← hp] at hk hlt
      have hp8 := Hlen.out
      have ck : W'.drew.cell? ⟨kb, 0, none⟩ = some (.int .i64 (p : Int)) := (cell_of hk 0).trans rfl
      have zk : W'.drew.frozen? ⟨kb, 0, none⟩ = false := free_of hk 0
      have ct : W'.drew.cell? ⟨tb, 0, none⟩ = some (.slice ta m.L.length tc) := (cell_of hG.ht 0).trans rfl
      have cp : W'.drew.cell? ⟨pb, 0, none⟩ = some (.pointer (some ⟨bb, 0, none⟩)) := (cell_of hG.hp 0).trans rfl
      have cl : W'.drew.cell? ⟨lb, 0, none⟩ = some (.int .i64 left) := (cell_of (hG.fr.get Hgl1.out (fun h => h)) 0).trans rfl
      obtain ⟨x0, x1, x2⟩ := box_bo hbx
      have x0 : W'.drew.cell? ⟨b, 0, none⟩ = some (.int .u32 (x.1 : Int)) := x0
      obtain ⟨g, cap, e1, d0, d1, d2⟩ := Bos.cells hG.row hlt
      obtain ⟨y, hy⟩ : ∃ y, y = m.L[p] := ⟨_, rfl⟩
      rw [← hy] at d0 d1 d2
      simp only [Value.slice.injEq] at e1
      obtain ⟨rfl, -, rfl⟩ := e1
      have HSall := Lib.hid (show W'.drew.cell? ⟨kb, 0, none⟩ = some (.int .i64 (p : Int)) ∧ W'.drew.cell? ⟨tb, 0, none⟩ = some (.slice (some ⟨g, 0, none⟩) m.L.length tc) ∧ W'.drew.cell? ⟨lb, 0, none⟩ = some (.int .i64 left) ∧ W'.drew.cell? ⟨b, 0, none⟩ = some (.int .u32 (x.1 : Int)) ∧ W'.drew.cell? ⟨b, 1, none⟩ = some (.int .i64 x.2.1) ∧ W'.drew.cell? ⟨b, 2, none⟩ = some (.int .i64 x.2.2) ∧ W'.drew.cell? ⟨g, p * 3, none⟩ = some (.int .u32 (y.1 : Int)) ∧ W'.drew.cell? ⟨g, p * 3 + 1, none⟩ = some (.int .i64 y.2.1) ∧ W'.drew.cell? ⟨g, p * 3 + 2, none⟩ = some (.int .i64 y.2.2) from ⟨ck, ct, cl, x0, x1, x2, d0, d1, d2⟩)
      obtain ⟨q, hq⟩ : ∃ q, q = p + 1 := ⟨_, rfl⟩
      have e1 : (p : Int) + 1 = (q : Int) := by rw [hq]; push_cast; rfl
      have b1 : decide ((m.L.length : Int) ≤ (p : Int)) = false := by simp; omega
      have b1' : decide (m.L.length ≤ p) = false := by simp; omega
      have i0 : (0 : Int) ≤ (p : Int) := by omega
      have i1 : (p : Int) < (m.L.length : Int) := by omega
      have hym : y ∈ m.L := by rw [hy]; exact List.getElem_mem hlt
      have Hpl := Lib.hid (show (pre ++ [x]).length = q by rw [List.length_append, List.length_singleton, ← hp, hq])
      have HG := Lib.hid (hG.drew HGP.out); have HG0 := Lib.hid hG; have HK := Lib.hid hk
      have hq9 : q ≤ 9 := by omega
      have Hns := Lib.hid (show ∀ y, seqP cb sv y → ¬ (y = kb ∨ (y < B ∧ ¬ GoZ pb tb kb cb (.slice (some ⟨g, 0, none⟩) m.L.length tc) sv y)) from fun y hy e => by
        rcases e with e | e
        · exact (HGP.out.s y hy).2 e
        · exact e.2 (.inr (.inr (.inr (.inr hy)))))
      have Hyid := Lib.hid (Hidl.out y hym)
      have HBl := Lib.hid (show pb ≠ kb ∧ b ≠ kb from ⟨HGP.out.p.2, fun e => by have := HGP.out.k.2; have := HBB.out; omega⟩)
      have Hbx := Lib.hid hbx
      clear hG hk hlt hbx hbw hp hq hym hy ct cl x1 x2 d0 d1 d2 hp8
      have e2 : wrap64 (q : Int) = (q : Int) := by clear ck zk cp x0 b1 b1'; unfold wrap64; omega
      have e3 : IntKind.i64.wrap (q : Int) = (q : Int) := by clear ck zk cp x0 b1 b1'; rw [IntKind.wrap_i64]; omega
      clear hq9
      by_cases hxy : x = y
      · subst hxy
        have hqe := fun W => neqBo W x x
        rw [decide_eq_true (show x = x from rfl)] at hqe
        by_cases hl : (p : Int) = left
        · have bl : ((p : Int) == left) = true := by simp [hl]
          clear hl
          gi_upto_region 11 with fail
          refine region_round_held (S := fun w' => w'.cell? ⟨kb, 0, none⟩ = some (.int .i64 (p : Int)) ∧ w'.cell? ⟨tb, 0, none⟩ = some (.slice (some ⟨g, 0, none⟩) m.L.length tc) ∧ w'.cell? ⟨lb, 0, none⟩ = some (.int .i64 left) ∧ w'.cell? ⟨b, 0, none⟩ = some (.int .u32 (x.1 : Int)) ∧ w'.cell? ⟨b, 1, none⟩ = some (.int .i64 x.2.1) ∧ w'.cell? ⟨b, 2, none⟩ = some (.int .i64 x.2.2) ∧ w'.cell? ⟨g, p * 3, none⟩ = some (.int .u32 (x.1 : Int)) ∧ w'.cell? ⟨g, p * 3 + 1, none⟩ = some (.int .i64 x.2.1) ∧ w'.cell? ⟨g, p * 3 + 2, none⟩ = some (.int .i64 x.2.2)) (by kernel_rfl) (by kernel_rfl) ?lo (by exact HSall.out) (fun hHeld => ?_)
          case lo => rintro ⟨_, _, h⟩; exact h
          refine wpAnyH_take (i := 0) (v := ?_) rfl (by kernel_rfl) (by kernel_rfl) (by kernel_rfl) (fun _ _ _ h => h) (Or.inl ⟨by rfl, ?_⟩) (by assumption) ?_
          rotate_left
          · intro w' hSw; (try dsimp only at hSw); go_simp; try with_reducible rfl
          try simp only [Act.put, List.getElem_toArray, List.getElem_cons_zero, List.setIfInBounds_toArray, List.set_cons_zero, List.set_cons_succ]
          refine wpAnyH_take (i := 1) (v := ?_) rfl (by kernel_rfl) (by kernel_rfl) (by kernel_rfl) (fun _ _ _ h => h) (Or.inl ⟨by rfl, ?_⟩) (by assumption) ?_
          rotate_left
          · intro w' hSw; (try dsimp only at hSw); go_simp; try with_reducible rfl
          try simp only [Act.put, List.getElem_toArray, List.getElem_cons_zero, List.getElem_cons_succ, List.setIfInBounds_toArray, List.set_cons_zero, List.set_cons_succ]
          refine wpAnyH_take (i := 2) (v := ?_) rfl (by kernel_rfl) (by kernel_rfl) (by kernel_rfl) (fun _ _ _ h => h) (Or.inl ⟨by rfl, ?_⟩) (by assumption) ?_
          rotate_left
          · intro w' hSw; (try dsimp only at hSw); go_simp; try with_reducible rfl
          try simp only [Act.put, List.getElem_toArray, List.getElem_cons_zero, List.getElem_cons_succ, List.setIfInBounds_toArray, List.set_cons_zero, List.set_cons_succ]
          refine wpAnyH_take (i := 3) (v := ?_) rfl (by kernel_rfl) (by kernel_rfl) (by kernel_rfl) (fun _ _ _ h => h) (Or.inl ⟨by rfl, ?_⟩) (by assumption) ?_
          rotate_left
          · intro w' hSw; (try dsimp only at hSw); go_simp; try with_reducible rfl
          try simp only [Act.put, List.getElem_toArray, List.getElem_cons_zero, List.getElem_cons_succ, List.setIfInBounds_toArray, List.set_cons_zero, List.set_cons_succ]
          refine wpAnyH_take (i := 4) (v := ?_) rfl (by kernel_rfl) (by kernel_rfl) (by kernel_rfl) (fun _ _ _ h => h) (Or.inl ⟨by rfl, ?_⟩) (by assumption) ?_
          rotate_left
          · intro w' hSw; (try dsimp only at hSw); go_simp; try with_reducible rfl
          try simp only [Act.put, List.getElem_toArray, List.getElem_cons_zero, List.getElem_cons_succ, List.setIfInBounds_toArray, List.set_cons_zero, List.set_cons_succ]
          refine wpAnyH_take (i := 5) (v := ?_) rfl (by kernel_rfl) (by kernel_rfl) (by kernel_rfl) (fun _ _ _ h => h) (Or.inl ⟨by rfl, ?_⟩) (by assumption) ?_
          rotate_left
          · intro w' hSw; (try dsimp only at hSw); go_simp; try with_reducible rfl
          try simp only [Act.put, List.getElem_toArray, List.getElem_cons_zero, List.getElem_cons_succ, List.setIfInBounds_toArray, List.set_cons_zero, List.set_cons_succ]
          refine wpAnyH_take (i := 6) (v := ?_) rfl (by kernel_rfl) (by kernel_rfl) (by kernel_rfl) (fun _ _ _ h => h) (Or.inl ⟨by rfl, ?_⟩) (by assumption) ?_
          rotate_left
          · intro w' hSw; (try dsimp only at hSw); go_simp; try with_reducible rfl
          try simp only [Act.put, List.getElem_toArray, List.getElem_cons_zero, List.getElem_cons_succ, List.setIfInBounds_toArray, List.set_cons_zero, List.set_cons_succ]
          refine wpAnyH_take (i := 7) (v := ?_) rfl (by kernel_rfl) (by kernel_rfl) (by kernel_rfl) (fun _ _ _ h => h) (Or.inl ⟨by rfl, ?_⟩) (by assumption) ?_
          rotate_left
          · intro w' hSw; (try dsimp only at hSw); go_simp; try with_reducible rfl
          try simp only [Act.put, List.getElem_toArray, List.getElem_cons_zero, List.getElem_cons_succ, List.setIfInBounds_toArray, List.set_cons_zero, List.set_cons_succ]
          refine wpAnyH_take (i := 8) (v := ?_) rfl (by kernel_rfl) (by kernel_rfl) (by kernel_rfl) (fun _ _ _ h => h) (Or.inl ⟨by rfl, ?_⟩) (by assumption) ?_
          rotate_left
          · intro w' hSw; (try dsimp only at hSw); go_simp; try with_reducible rfl
          try simp only [Act.put, List.getElem_toArray, List.getElem_cons_zero, List.getElem_cons_succ, List.setIfInBounds_toArray, List.set_cons_zero, List.set_cons_succ]
          refine wpAnyH_take (i := 9) (v := ?_) rfl (by kernel_rfl) (by kernel_rfl) (by kernel_rfl) (fun _ _ _ h => h) (Or.inl ⟨by rfl, ?_⟩) (by assumption) ?_
          rotate_left
          · intro w' hSw; (try dsimp only at hSw); go_simp; try with_reducible rfl
          try simp only [Act.put, List.getElem_toArray, List.getElem_cons_zero, List.getElem_cons_succ, List.setIfInBounds_toArray, List.set_cons_zero, List.set_cons_succ]
          refine wpAnyH_take (i := 10) (v := ?_) rfl (by kernel_rfl) (by kernel_rfl) (by kernel_rfl) (fun _ _ _ h => h) (Or.inl ⟨by rfl, ?_⟩) (by assumption) ?_
          rotate_left
          · intro w' hSw; (try dsimp only at hSw); go_simp; try with_reducible rfl
          try simp only [Act.put, List.getElem_toArray, List.getElem_cons_zero, List.getElem_cons_succ, List.setIfInBounds_toArray, List.set_cons_zero, List.set_cons_succ]
          refine wpAnyH_take (i := 11) (v := ?_) rfl (by kernel_rfl) (by kernel_rfl) (by kernel_rfl) (fun _ _ _ h => h) (Or.inl ⟨by rfl, ?_⟩) (by assumption) ?_
          rotate_left
          · intro w' hSw; (try dsimp only at hSw); go_simp; try with_reducible rfl
          try simp only [Act.put, List.getElem_toArray, List.getElem_cons_zero, List.getElem_cons_succ, List.setIfInBounds_toArray, List.set_cons_zero, List.set_cons_succ]
          refine wpAnyH_take (i := 12) (v := ?_) rfl (by kernel_rfl) (by kernel_rfl) (by kernel_rfl) (fun _ _ _ h => h) (Or.inl ⟨by rfl, ?_⟩) (by assumption) ?_
          rotate_left
          · intro w' hSw; (try dsimp only at hSw); go_simp; try with_reducible rfl
          try simp only [Act.put, List.getElem_toArray, List.getElem_cons_zero, List.getElem_cons_succ, List.setIfInBounds_toArray, List.set_cons_zero, List.set_cons_succ]
          refine wpAnyH_take (i := 13) (v := ?_) rfl (by kernel_rfl) (by kernel_rfl) (by kernel_rfl) (fun _ _ _ h => h) (Or.inl ⟨by rfl, ?_⟩) (by assumption) ?_
          rotate_left
          · intro w' hSw; (try dsimp only at hSw); go_simp; try with_reducible rfl
          try simp only [Act.put, List.getElem_toArray, List.getElem_cons_zero, List.getElem_cons_succ, List.setIfInBounds_toArray, List.set_cons_zero, List.set_cons_succ]
          refine wpAnyH_take (i := 14) (v := ?_) rfl (by kernel_rfl) (by kernel_rfl) (by kernel_rfl) (fun _ _ _ h => h) (Or.inl ⟨by rfl, ?_⟩) (by assumption) ?_
          rotate_left
          · intro w' hSw; (try dsimp only at hSw); go_simp; try with_reducible rfl
          try simp only [Act.put, List.getElem_toArray, List.getElem_cons_zero, List.getElem_cons_succ, List.setIfInBounds_toArray, List.set_cons_zero, List.set_cons_succ]
          refine wpAnyH_take (i := 15) (v := ?_) rfl (by kernel_rfl) (by kernel_rfl) (by kernel_rfl) (fun _ _ _ h => h) (Or.inl ⟨by rfl, ?_⟩) (by assumption) ?_
          rotate_left
          · intro w' hSw; (try dsimp only at hSw); go_simp; try with_reducible rfl
          try simp only [Act.put, List.getElem_toArray, List.getElem_cons_zero, List.getElem_cons_succ, List.setIfInBounds_toArray, List.set_cons_zero, List.set_cons_succ]
          refine wpAnyH_take (i := 16) (v := ?_) rfl (by kernel_rfl) (by kernel_rfl) (by kernel_rfl) (fun _ _ _ h => h) (Or.inl ⟨by rfl, ?_⟩) (by assumption) ?_
          rotate_left
          · intro w' hSw; (try dsimp only at hSw); go_simp; try with_reducible rfl
          try simp only [Act.put, List.getElem_toArray, List.getElem_cons_zero, List.getElem_cons_succ, List.setIfInBounds_toArray, List.set_cons_zero, List.set_cons_succ]
          refine wpAnyH_done (by kernel_rfl) ?_ _
          gi_wp2_with fail
          exact ⟨⟨Nat.le_refl _, fun _ _ _ h _ => h⟩, rfl, HG.out⟩
        · have bl : ((p : Int) == left) = false := by simp [hl]
          clear hl
          obtain ⟨n7, nb⟩ := HBl.out
          have n7' : ¬ kb = pb := fun e => n7 e.symm
          have nb' : ¬ kb = b := fun e => nb e.symm
          have fs : Fr (fun y => y = kb) W' ((W'.setCell ⟨kb, 0, none⟩ (.int .i64 (q : Int))).drew) := Fr.drew (Fr.setCell (F := fun y => y = kb) (p := ⟨kb, 0, none⟩) (Fr.refl _ _) (fun _ => rfl) _)
          have hgs : ((W'.setCell ⟨kb, 0, none⟩ (.int .i64 (q : Int))).drew).heap[kb]? = some (.cells #[.int .i64 (q : Int)] 3 (0, 0)) := setCell_blk (o := 0) HK.out _
          have hG5 := HG0.out.keep HGP.out (W2 := (W'.setCell ⟨kb, 0, none⟩ (.int .i64 (q : Int))).drew) (F := fun y => y = kb) (Fr.drew (Fr.setCell (F := fun y => y = kb) (p := ⟨kb, 0, none⟩) (Fr.refl _ _) (fun _ => rfl) _)) (fun y e => .inl e)
          obtain ⟨m', p', hB', ho'⟩ := hG5.bk
          have HA := Lib.hid (show Calls Try.prog 14 #[.pointer (some ⟨bb, 0, none⟩), .agg #[.int .i64 3, .int .u32 (x.1 : Int), .int .i64 0, .int .i64 0, .int .i64 0]] ((W'.setCell ⟨kb, 0, none⟩ (.int .i64 (q : Int))).drew) _ from cancel_ok hB' (r := ⟨3, x.1, 0, 0, 0⟩) Hyid.out rfl)
          have Hfin := Lib.hid (fun (w5 : World) (ha : AftC p' bb (appB m' ⟨3, x.1, 0, 0, 0⟩) ((W'.setCell ⟨kb, 0, none⟩ (.int .i64 (q : Int))).drew) w5) => show GoI w1 bb pb tb kb cb (.slice (some ⟨g, 0, none⟩) m.L.length tc) sv m.L B w5 ∧ w5.heap[kb]? = some (.cells #[.int .i64 (((pre ++ [x]).length : Nat) : Int)] 3 (0, 0)) ∧ Fr (fun y => y = kb ∨ (y < B ∧ ¬ GoZ pb tb kb cb (.slice (some ⟨g, 0, none⟩) m.L.length tc) sv y)) W' w5 from by
            obtain ⟨h1, f1⟩ := hG5.aft ho' ha
            exact ⟨h1, by rw [Hpl.out]; exact f1.get hgs (fun e => e.2 (.inr (.inr (.inl rfl)))), (fs.mono (fun y _ e => .inl e)).trans f1 (fun y _ e => .inr e)⟩)
          have cp5 : ((W'.setCell ⟨kb, 0, none⟩ (.int .i64 (q : Int))).drew).cell? ⟨pb, 0, none⟩ = some (.pointer (some ⟨bb, 0, none⟩)) := (cell_of hG5.hp 0).trans rfl
          have x05 : ((W'.setCell ⟨kb, 0, none⟩ (.int .i64 (q : Int))).drew).cell? ⟨b, 0, none⟩ = some (.int .u32 (x.1 : Int)) := (cell_of (fs.get Hbx.out nb) 0).trans rfl
          clear fs hgs hG5 hB' ho'
          gi_upto_region 11 with fail
          refine region_round_held (S := fun w' => w'.cell? ⟨kb, 0, none⟩ = some (.int .i64 (p : Int)) ∧ w'.cell? ⟨tb, 0, none⟩ = some (.slice (some ⟨g, 0, none⟩) m.L.length tc) ∧ w'.cell? ⟨lb, 0, none⟩ = some (.int .i64 left) ∧ w'.cell? ⟨b, 0, none⟩ = some (.int .u32 (x.1 : Int)) ∧ w'.cell? ⟨b, 1, none⟩ = some (.int .i64 x.2.1) ∧ w'.cell? ⟨b, 2, none⟩ = some (.int .i64 x.2.2) ∧ w'.cell? ⟨g, p * 3, none⟩ = some (.int .u32 (x.1 : Int)) ∧ w'.cell? ⟨g, p * 3 + 1, none⟩ = some (.int .i64 x.2.1) ∧ w'.cell? ⟨g, p * 3 + 2, none⟩ = some (.int .i64 x.2.2)) (by kernel_rfl) (by kernel_rfl) ?lo (by exact HSall.out) (fun hHeld => ?_)
          case lo => rintro ⟨_, _, h⟩; exact h
          refine wpAnyH_take (i := 0) (v := ?_) rfl (by kernel_rfl) (by kernel_rfl) (by kernel_rfl) (fun _ _ _ h => h) (Or.inl ⟨by rfl, ?_⟩) (by assumption) ?_
          rotate_left
          · intro w' hSw; (try dsimp only at hSw); go_simp; try with_reducible rfl
          try simp only [Act.put, List.getElem_toArray, List.getElem_cons_zero, List.setIfInBounds_toArray, List.set_cons_zero, List.set_cons_succ]
          refine wpAnyH_take (i := 1) (v := ?_) rfl (by kernel_rfl) (by kernel_rfl) (by kernel_rfl) (fun _ _ _ h => h) (Or.inl ⟨by rfl, ?_⟩) (by assumption) ?_
          rotate_left
          · intro w' hSw; (try dsimp only at hSw); go_simp; try with_reducible rfl
          try simp only [Act.put, List.getElem_toArray, List.getElem_cons_zero, List.getElem_cons_succ, List.setIfInBounds_toArray, List.set_cons_zero, List.set_cons_succ]
          refine wpAnyH_take (i := 2) (v := ?_) rfl (by kernel_rfl) (by kernel_rfl) (by kernel_rfl) (fun _ _ _ h => h) (Or.inl ⟨by rfl, ?_⟩) (by assumption) ?_
          rotate_left
          · intro w' hSw; (try dsimp only at hSw); go_simp; try with_reducible rfl
          try simp only [Act.put, List.getElem_toArray, List.getElem_cons_zero, List.getElem_cons_succ, List.setIfInBounds_toArray, List.set_cons_zero, List.set_cons_succ]
          refine wpAnyH_take (i := 3) (v := ?_) rfl (by kernel_rfl) (by kernel_rfl) (by kernel_rfl) (fun _ _ _ h => h) (Or.inl ⟨by rfl, ?_⟩) (by assumption) ?_
          rotate_left
          · intro w' hSw; (try dsimp only at hSw); go_simp; try with_reducible rfl
          try simp only [Act.put, List.getElem_toArray, List.getElem_cons_zero, List.getElem_cons_succ, List.setIfInBounds_toArray, List.set_cons_zero, List.set_cons_succ]
          refine wpAnyH_take (i := 4) (v := ?_) rfl (by kernel_rfl) (by kernel_rfl) (by kernel_rfl) (fun _ _ _ h => h) (Or.inl ⟨by rfl, ?_⟩) (by assumption) ?_
          rotate_left
          · intro w' hSw; (try dsimp only at hSw); go_simp; try with_reducible rfl
          try simp only [Act.put, List.getElem_toArray, List.getElem_cons_zero, List.getElem_cons_succ, List.setIfInBounds_toArray, List.set_cons_zero, List.set_cons_succ]
          refine wpAnyH_take (i := 5) (v := ?_) rfl (by kernel_rfl) (by kernel_rfl) (by kernel_rfl) (fun _ _ _ h => h) (Or.inl ⟨by rfl, ?_⟩) (by assumption) ?_
          rotate_left
          · intro w' hSw; (try dsimp only at hSw); go_simp; try with_reducible rfl
          try simp only [Act.put, List.getElem_toArray, List.getElem_cons_zero, List.getElem_cons_succ, List.setIfInBounds_toArray, List.set_cons_zero, List.set_cons_succ]
          refine wpAnyH_take (i := 6) (v := ?_) rfl (by kernel_rfl) (by kernel_rfl) (by kernel_rfl) (fun _ _ _ h => h) (Or.inl ⟨by rfl, ?_⟩) (by assumption) ?_
          rotate_left
          · intro w' hSw; (try dsimp only at hSw); go_simp; try with_reducible rfl
          try simp only [Act.put, List.getElem_toArray, List.getElem_cons_zero, List.getElem_cons_succ, List.setIfInBounds_toArray, List.set_cons_zero, List.set_cons_succ]
          refine wpAnyH_take (i := 7) (v := ?_) rfl (by kernel_rfl) (by kernel_rfl) (by kernel_rfl) (fun _ _ _ h => h) (Or.inl ⟨by rfl, ?_⟩) (by assumption) ?_
          rotate_left
          · intro w' hSw; (try dsimp only at hSw); go_simp; try with_reducible rfl
          try simp only [Act.put, List.getElem_toArray, List.getElem_cons_zero, List.getElem_cons_succ, List.setIfInBounds_toArray, List.set_cons_zero, List.set_cons_succ]
          refine wpAnyH_take (i := 8) (v := ?_) rfl (by kernel_rfl) (by kernel_rfl) (by kernel_rfl) (fun _ _ _ h => h) (Or.inl ⟨by rfl, ?_⟩) (by assumption) ?_
          rotate_left
          · intro w' hSw; (try dsimp only at hSw); go_simp; try with_reducible rfl
          try simp only [Act.put, List.getElem_toArray, List.getElem_cons_zero, List.getElem_cons_succ, List.setIfInBounds_toArray, List.set_cons_zero, List.set_cons_succ]
          refine wpAnyH_take (i := 9) (v := ?_) rfl (by kernel_rfl) (by kernel_rfl) (by kernel_rfl) (fun _ _ _ h => h) (Or.inl ⟨by rfl, ?_⟩) (by assumption) ?_
          rotate_left
          · intro w' hSw; (try dsimp only at hSw); go_simp; try with_reducible rfl
          try simp only [Act.put, List.getElem_toArray, List.getElem_cons_zero, List.getElem_cons_succ, List.setIfInBounds_toArray, List.set_cons_zero, List.set_cons_succ]
          refine wpAnyH_take (i := 10) (v := ?_) rfl (by kernel_rfl) (by kernel_rfl) (by kernel_rfl) (fun _ _ _ h => h) (Or.inl ⟨by rfl, ?_⟩) (by assumption) ?_
          rotate_left
          · intro w' hSw; (try dsimp only at hSw); go_simp; try with_reducible rfl
          try simp only [Act.put, List.getElem_toArray, List.getElem_cons_zero, List.getElem_cons_succ, List.setIfInBounds_toArray, List.set_cons_zero, List.set_cons_succ]
          refine wpAnyH_take (i := 11) (v := ?_) rfl (by kernel_rfl) (by kernel_rfl) (by kernel_rfl) (fun _ _ _ h => h) (Or.inl ⟨by rfl, ?_⟩) (by assumption) ?_
          rotate_left
          · intro w' hSw; (try dsimp only at hSw); go_simp; try with_reducible rfl
          try simp only [Act.put, List.getElem_toArray, List.getElem_cons_zero, List.getElem_cons_succ, List.setIfInBounds_toArray, List.set_cons_zero, List.set_cons_succ]
          refine wpAnyH_take (i := 12) (v := ?_) rfl (by kernel_rfl) (by kernel_rfl) (by kernel_rfl) (fun _ _ _ h => h) (Or.inl ⟨by rfl, ?_⟩) (by assumption) ?_
          rotate_left
          · intro w' hSw; (try dsimp only at hSw); go_simp; try with_reducible rfl
          try simp only [Act.put, List.getElem_toArray, List.getElem_cons_zero, List.getElem_cons_succ, List.setIfInBounds_toArray, List.set_cons_zero, List.set_cons_succ]
          refine wpAnyH_take (i := 13) (v := ?_) rfl (by kernel_rfl) (by kernel_rfl) (by kernel_rfl) (fun _ _ _ h => h) (Or.inl ⟨by rfl, ?_⟩) (by assumption) ?_
          rotate_left
          · intro w' hSw; (try dsimp only at hSw); go_simp; try with_reducible rfl
          try simp only [Act.put, List.getElem_toArray, List.getElem_cons_zero, List.getElem_cons_succ, List.setIfInBounds_toArray, List.set_cons_zero, List.set_cons_succ]
          refine wpAnyH_take (i := 14) (v := ?_) rfl (by kernel_rfl) (by kernel_rfl) (by kernel_rfl) (fun _ _ _ h => h) (Or.inl ⟨by rfl, ?_⟩) (by assumption) ?_
          rotate_left
          · intro w' hSw; (try dsimp only at hSw); go_simp; try with_reducible rfl
          try simp only [Act.put, List.getElem_toArray, List.getElem_cons_zero, List.getElem_cons_succ, List.setIfInBounds_toArray, List.set_cons_zero, List.set_cons_succ]
          refine wpAnyH_take (i := 15) (v := ?_) rfl (by kernel_rfl) (by kernel_rfl) (by kernel_rfl) (fun _ _ _ h => h) (Or.inl ⟨by rfl, ?_⟩) (by assumption) ?_
          rotate_left
          · intro w' hSw; (try dsimp only at hSw); go_simp; try with_reducible rfl
          try simp only [Act.put, List.getElem_toArray, List.getElem_cons_zero, List.getElem_cons_succ, List.setIfInBounds_toArray, List.set_cons_zero, List.set_cons_succ]
          refine wpAnyH_take (i := 16) (v := ?_) rfl (by kernel_rfl) (by kernel_rfl) (by kernel_rfl) (fun _ _ _ h => h) (Or.inl ⟨by rfl, ?_⟩) (by assumption) ?_
          rotate_left
          · intro w' hSw; (try dsimp only at hSw); go_simp; try with_reducible rfl
          try simp only [Act.put, List.getElem_toArray, List.getElem_cons_zero, List.getElem_cons_succ, List.setIfInBounds_toArray, List.set_cons_zero, List.set_cons_succ]
          refine wpAnyH_done (by kernel_rfl) ?_ _
          gi_wp2_with (refine ⟨trivial, ?_⟩; gi_at_call 14; refine (callsIn_wide.2 HA.out).mono ?_; rintro e w5 ⟨rfl, ha⟩)
          obtain ⟨hG5, hk5, f5⟩ := Hfin.out w5 ha
          exact ⟨⟨f5.size, fun k o hk ho _ => f5.get ho (fun e => by have := HBB.out; have := HGP.out.k.2; rcases e with e | e <;> omega)⟩, KeepsB.of_fr f5 (fun y hy => Hns.out y hy), hG5, hk5⟩
      · have hqe := fun W => neqBo W x y
        rw [decide_eq_false hxy] at hqe
        clear hxy
        gi_upto_region 11 with fail
        refine region_round_held (S := fun w' => w'.cell? ⟨kb, 0, none⟩ = some (.int .i64 (p : Int)) ∧ w'.cell? ⟨tb, 0, none⟩ = some (.slice (some ⟨g, 0, none⟩) m.L.length tc) ∧ w'.cell? ⟨lb, 0, none⟩ = some (.int .i64 left) ∧ w'.cell? ⟨b, 0, none⟩ = some (.int .u32 (x.1 : Int)) ∧ w'.cell? ⟨b, 1, none⟩ = some (.int .i64 x.2.1) ∧ w'.cell? ⟨b, 2, none⟩ = some (.int .i64 x.2.2) ∧ w'.cell? ⟨g, p * 3, none⟩ = some (.int .u32 (y.1 : Int)) ∧ w'.cell? ⟨g, p * 3 + 1, none⟩ = some (.int .i64 y.2.1) ∧ w'.cell? ⟨g, p * 3 + 2, none⟩ = some (.int .i64 y.2.2)) (by kernel_rfl) (by kernel_rfl) ?lo (by exact HSall.out) (fun hHeld => ?_)
        case lo => rintro ⟨_, _, h⟩; exact h
        refine wpAnyH_take (i := 0) (v := ?_) rfl (by kernel_rfl) (by kernel_rfl) (by kernel_rfl) (fun _ _ _ h => h) (Or.inl ⟨by rfl, ?_⟩) (by assumption) ?_
        rotate_left
        · intro w' hSw; (try dsimp only at hSw); go_simp; try with_reducible rfl
        try simp only [Act.put, List.getElem_toArray, List.getElem_cons_zero, List.setIfInBounds_toArray, List.set_cons_zero, List.set_cons_succ]
        refine wpAnyH_take (i := 1) (v := ?_) rfl (by kernel_rfl) (by kernel_rfl) (by kernel_rfl) (fun _ _ _ h => h) (Or.inl ⟨by rfl, ?_⟩) (by assumption) ?_
        rotate_left
        · intro w' hSw; (try dsimp only at hSw); go_simp; try with_reducible rfl
        try simp only [Act.put, List.getElem_toArray, List.getElem_cons_zero, List.getElem_cons_succ, List.setIfInBounds_toArray, List.set_cons_zero, List.set_cons_succ]
        refine wpAnyH_take (i := 2) (v := ?_) rfl (by kernel_rfl) (by kernel_rfl) (by kernel_rfl) (fun _ _ _ h => h) (Or.inl ⟨by rfl, ?_⟩) (by assumption) ?_
        rotate_left
        · intro w' hSw; (try dsimp only at hSw); go_simp; try with_reducible rfl
        try simp only [Act.put, List.getElem_toArray, List.getElem_cons_zero, List.getElem_cons_succ, List.setIfInBounds_toArray, List.set_cons_zero, List.set_cons_succ]
        refine wpAnyH_take (i := 3) (v := ?_) rfl (by kernel_rfl) (by kernel_rfl) (by kernel_rfl) (fun _ _ _ h => h) (Or.inl ⟨by rfl, ?_⟩) (by assumption) ?_
        rotate_left
        · intro w' hSw; (try dsimp only at hSw); go_simp; try with_reducible rfl
        try simp only [Act.put, List.getElem_toArray, List.getElem_cons_zero, List.getElem_cons_succ, List.setIfInBounds_toArray, List.set_cons_zero, List.set_cons_succ]
        refine wpAnyH_take (i := 4) (v := ?_) rfl (by kernel_rfl) (by kernel_rfl) (by kernel_rfl) (fun _ _ _ h => h) (Or.inl ⟨by rfl, ?_⟩) (by assumption) ?_
        rotate_left
        · intro w' hSw; (try dsimp only at hSw); go_simp; try with_reducible rfl
        try simp only [Act.put, List.getElem_toArray, List.getElem_cons_zero, List.getElem_cons_succ, List.setIfInBounds_toArray, List.set_cons_zero, List.set_cons_succ]
        refine wpAnyH_take (i := 5) (v := ?_) rfl (by kernel_rfl) (by kernel_rfl) (by kernel_rfl) (fun _ _ _ h => h) (Or.inl ⟨by rfl, ?_⟩) (by assumption) ?_
        rotate_left
        · intro w' hSw; (try dsimp only at hSw); go_simp; try with_reducible rfl
        try simp only [Act.put, List.getElem_toArray, List.getElem_cons_zero, List.getElem_cons_succ, List.setIfInBounds_toArray, List.set_cons_zero, List.set_cons_succ]
        refine wpAnyH_take (i := 6) (v := ?_) rfl (by kernel_rfl) (by kernel_rfl) (by kernel_rfl) (fun _ _ _ h => h) (Or.inl ⟨by rfl, ?_⟩) (by assumption) ?_
        rotate_left
        · intro w' hSw; (try dsimp only at hSw); go_simp; try with_reducible rfl
        try simp only [Act.put, List.getElem_toArray, List.getElem_cons_zero, List.getElem_cons_succ, List.setIfInBounds_toArray, List.set_cons_zero, List.set_cons_succ]
        refine wpAnyH_take (i := 7) (v := ?_) rfl (by kernel_rfl) (by kernel_rfl) (by kernel_rfl) (fun _ _ _ h => h) (Or.inl ⟨by rfl, ?_⟩) (by assumption) ?_
        rotate_left
        · intro w' hSw; (try dsimp only at hSw); go_simp; try with_reducible rfl
        try simp only [Act.put, List.getElem_toArray, List.getElem_cons_zero, List.getElem_cons_succ, List.setIfInBounds_toArray, List.set_cons_zero, List.set_cons_succ]
        refine wpAnyH_take (i := 8) (v := ?_) rfl (by kernel_rfl) (by kernel_rfl) (by kernel_rfl) (fun _ _ _ h => h) (Or.inl ⟨by rfl, ?_⟩) (by assumption) ?_
        rotate_left
        · intro w' hSw; (try dsimp only at hSw); go_simp; try with_reducible rfl
        try simp only [Act.put, List.getElem_toArray, List.getElem_cons_zero, List.getElem_cons_succ, List.setIfInBounds_toArray, List.set_cons_zero, List.set_cons_succ]
        refine wpAnyH_take (i := 9) (v := ?_) rfl (by kernel_rfl) (by kernel_rfl) (by kernel_rfl) (fun _ _ _ h => h) (Or.inl ⟨by rfl, ?_⟩) (by assumption) ?_
        rotate_left
        · intro w' hSw; (try dsimp only at hSw); go_simp; try with_reducible rfl
        try simp only [Act.put, List.getElem_toArray, List.getElem_cons_zero, List.getElem_cons_succ, List.setIfInBounds_toArray, List.set_cons_zero, List.set_cons_succ]
        refine wpAnyH_take (i := 10) (v := ?_) rfl (by kernel_rfl) (by kernel_rfl) (by kernel_rfl) (fun _ _ _ h => h) (Or.inl ⟨by rfl, ?_⟩) (by assumption) ?_
        rotate_left
        · intro w' hSw; (try dsimp only at hSw); go_simp; try with_reducible rfl
        try simp only [Act.put, List.getElem_toArray, List.getElem_cons_zero, List.getElem_cons_succ, List.setIfInBounds_toArray, List.set_cons_zero, List.set_cons_succ]
        refine wpAnyH_take (i := 11) (v := ?_) rfl (by kernel_rfl) (by kernel_rfl) (by kernel_rfl) (fun _ _ _ h => h) (Or.inl ⟨by rfl, ?_⟩) (by assumption) ?_
        rotate_left
        · intro w' hSw; (try dsimp only at hSw); go_simp; try with_reducible rfl
        try simp only [Act.put, List.getElem_toArray, List.getElem_cons_zero, List.getElem_cons_succ, List.setIfInBounds_toArray, List.set_cons_zero, List.set_cons_succ]
        refine wpAnyH_take (i := 12) (v := ?_) rfl (by kernel_rfl) (by kernel_rfl) (by kernel_rfl) (fun _ _ _ h => h) (Or.inl ⟨by rfl, ?_⟩) (by assumption) ?_
        rotate_left
        · intro w' hSw; (try dsimp only at hSw); go_simp; try with_reducible rfl
        try simp only [Act.put, List.getElem_toArray, List.getElem_cons_zero, List.getElem_cons_succ, List.setIfInBounds_toArray, List.set_cons_zero, List.set_cons_succ]
        refine wpAnyH_take (i := 13) (v := undef) rfl (by kernel_rfl) (by kernel_rfl) (by kernel_rfl) (fun _ _ _ h => h) (Or.inr ⟨rfl, rfl⟩) (by assumption) ?_
        try simp only [Act.put, List.getElem_toArray, List.getElem_cons_zero, List.getElem_cons_succ, List.setIfInBounds_toArray, List.set_cons_zero, List.set_cons_succ]
        refine wpAnyH_take (i := 14) (v := undef) rfl (by kernel_rfl) (by kernel_rfl) (by kernel_rfl) (fun _ _ _ h => h) (Or.inr ⟨rfl, rfl⟩) (by assumption) ?_
        try simp only [Act.put, List.getElem_toArray, List.getElem_cons_zero, List.getElem_cons_succ, List.setIfInBounds_toArray, List.set_cons_zero, List.set_cons_succ]
        refine wpAnyH_take (i := 15) (v := undef) rfl (by kernel_rfl) (by kernel_rfl) (by kernel_rfl) (fun _ _ _ h => h) (Or.inr ⟨rfl, rfl⟩) (by assumption) ?_
        try simp only [Act.put, List.getElem_toArray, List.getElem_cons_zero, List.getElem_cons_succ, List.setIfInBounds_toArray, List.set_cons_zero, List.set_cons_succ]
        refine wpAnyH_take (i := 16) (v := ?_) rfl (by kernel_rfl) (by kernel_rfl) (by kernel_rfl) (fun _ _ _ h => h) (Or.inl ⟨by rfl, ?_⟩) (by assumption) ?_
        rotate_left
        · intro w' hSw; (try dsimp only at hSw); go_simp; try with_reducible rfl
        try simp only [Act.put, List.getElem_toArray, List.getElem_cons_zero, List.getElem_cons_succ, List.setIfInBounds_toArray, List.set_cons_zero, List.set_cons_succ]
        refine wpAnyH_done (by kernel_rfl) ?_ _
        gi_wp2_with fail
        exact ⟨⟨Nat.le_refl _, fun _ _ _ h _ => h⟩, rfl, HG.out⟩
    case done =>
      rintro D ys W' hD rfl ⟨hG, hk⟩ hK
      exact hK' _ _ ⟨D, rfl, by rw [HBB.out]; exact hD, hK, hG⟩
    case stop =>
      rintro D c pre W' hD hpre ⟨rfl, hG⟩ hK
      gi_wp2
      exact ⟨D, rfl, by rw [HBB.out]; exact hD, hK, hG⟩
  case rest =>
  rintro ds' W8 ⟨D, rfl, hD, hDk, hG⟩
  have hR := hG.out HGP.out hD hDk (by have := HGP.out.k.2; have := (Array.getElem?_eq_some_iff.1 hDk).1; omega)
  have HR := Lib.hid hR
  have HDn := Lib.hid (show w1.heap.size ≤ D by have := HGP.out.b; omega)
  clear hR hG hD hDk HGI HGK
  go_upto_block 2 with fail
  go_wp2_with fail
  go_loopw [14] (fun s14 wr => ∃ i : Nat, s14 = .int .i64 (i : Int) ∧ i ≤ min n2 300 ∧ GoR w1 bb pb tb cb D (.slice ta m.L.length tc) sv m.L (fun y => GoZ pb tb kb cb (.slice ta m.L.length tc) sv y ∨ y = D) wr) (fun s14 _ => n2 - (intOf s14).toNat)
  case atStart => exact ⟨0, rfl, Nat.zero_le _, HR.out⟩
  case round =>
    obtain ⟨i, rfl, hi, hR⟩ := hrel
    clear HR
    by_cases hlt : i < n2
    · have hlt' : (i : Int) < (n2 : Int) := by omega
      by_cases hc : i < 300
      · have hc' : (i : Int) < 300 := by omega
        have i0 : (0 : Int) ≤ (i : Int) := by omega
        have HLT := Lib.hid hlt
        obtain ⟨k1, hk1⟩ : ∃ k1, k1 = i + 1 := ⟨_, rfl⟩
        have hk5 : k1 ≤ 300 := by omega
        have e1 : (i : Int) + 1 = (k1 : Int) := by rw [hk1]; push_cast; rfl
        have HK1 := Lib.hid (show k1 = i + 1 ∧ k1 ≤ min n2 300 from ⟨hk1, by omega⟩)
        obtain ⟨g2, o2, c2', ee, d0, d1, d2, d3, d4, hid⟩ := rc_cells H2.out hlt
        obtain ⟨r, hr⟩ : ∃ r, r = rcAt K2 i := ⟨_, rfl⟩
        rw [← hr] at d0 d1 d2 d3 d4 hid
        simp only [Value.slice.injEq] at ee
        obtain ⟨rfl, -, rfl⟩ := ee
        have hgl := World.block_lt_of_cell? _ _ d0
        have HC := Lib.hid (fun (W2 : World) (f : Fr (fun _ => False) w W2) => show W2.cell? ⟨g2, o2 + i * 5, none⟩ = some (.int .i64 r.kind) ∧ W2.cell? ⟨g2, o2 + i * 5 + 1, none⟩ = some (.int .u32 (r.id : Int)) ∧ W2.cell? ⟨g2, o2 + i * 5 + 2, none⟩ = some (.int .i64 r.seat) ∧ W2.cell? ⟨g2, o2 + i * 5 + 3, none⟩ = some (.int .i64 r.till) ∧ W2.cell? ⟨g2, o2 + i * 5 + 4, none⟩ = some (.int .i64 r.clock) from
          ⟨(f.cell hgl (fun h => h)).trans d0, (f.cell hgl (fun h => h)).trans d1, (f.cell hgl (fun h => h)).trans d2, (f.cell hgl (fun h => h)).trans d3, (f.cell hgl (fun h => h)).trans d4⟩)
        obtain ⟨m', P, hb⟩ := hR.bks
        have HA := Lib.hid (apply_ok ((hb.at_ 0 (by omega)).keep (Fr.drew (Fr.refl (fun _ => False) _))) hid)
        have HSt := Lib.hid (fun (w9 : World) (ha : Aft (P 0) bb (appB m' r) wr.drew w9) => show GoR w1 bb pb tb cb D (.slice ta m.L.length tc) sv m.L (fun y => GoZ pb tb kb cb (.slice ta m.L.length tc) sv y ∨ y = D) w9 ∧ Fr (fun _ => False) w w9 from by
          have hb1 := hb.quiet (Fr.drew (Fr.refl (fun _ => False) wr))
          have hR1 := hR.step ⟨m', P, hb1⟩ (Fr.drew (Fr.refl _ _))
          obtain ⟨⟨P', h2⟩, f2⟩ := hb1.aft (i := 0) (by omega) (b' := appB m' r) ha
          have h3 := h2.names (B' := fun _ => bb) (M' := fun _ => appB m' r) (fun _ _ => rfl) (fun j hj => by rcases (by omega : j = 0) with rfl; rfl)
          exact ⟨hR1.step ⟨_, P', h3⟩ f2, F1.out.trans h3.fr (fun _ _ h => h)⟩)
        obtain ⟨d0, d1, d2, d3, d4⟩ := HC.out wr (F1.out.trans hb.fr (fun _ _ h => h))
        have c7 := hR.c7
        clear hR hb hid hgl hr hlt hc hi hk1
        have e2 : wrap64 (k1 : Int) = (k1 : Int) := by clear d0 d1 d2 d3 d4 c7; unfold wrap64; omega
        have e3 : IntKind.i64.wrap (k1 : Int) = (k1 : Int) := by clear d0 d1 d2 d3 d4 c7; rw [IntKind.wrap_i64]; omega
        clear hk5
        go_upto_region 17 with fail
        refine wp_mono (Q := Calm _) ?_ (fun _ _ _ h => Calm.out h)
        refine wp_region_held_drew (S := fun w' => w'.cell? ⟨pb, 0, none⟩ = some (.pointer (some ⟨bb, 0, none⟩)) ∧ w'.cell? ⟨g2, o2 + i * 5, none⟩ = some (.int .i64 r.kind) ∧ w'.cell? ⟨g2, o2 + i * 5 + 1, none⟩ = some (.int .u32 (r.id : Int)) ∧ w'.cell? ⟨g2, o2 + i * 5 + 2, none⟩ = some (.int .i64 r.seat) ∧ w'.cell? ⟨g2, o2 + i * 5 + 3, none⟩ = some (.int .i64 r.till) ∧ w'.cell? ⟨g2, o2 + i * 5 + 4, none⟩ = some (.int .i64 r.clock)) (by kernel_rfl) (by exact ⟨c7, d0, d1, d2, d3, d4⟩) (fun hHeld => ?_)
        refine wpAnyH_take (i := 0) (v := ?_) rfl (by kernel_rfl) (by kernel_rfl) (by kernel_rfl) (fun _ _ _ h => h) (Or.inl ⟨by rfl, ?_⟩) (by assumption) ?_
        rotate_left
        · intro w' hSw; (try dsimp only at hSw); go_simp; try with_reducible rfl
        try simp only [Act.put, List.getElem_toArray, List.getElem_cons_zero, List.setIfInBounds_toArray, List.set_cons_zero, List.set_cons_succ]
        refine wpAnyH_take (i := 1) (v := ?_) rfl (by kernel_rfl) (by kernel_rfl) (by kernel_rfl) (fun _ _ _ h => h) (Or.inl ⟨by rfl, ?_⟩) (by assumption) ?_
        rotate_left
        · intro w' hSw; (try dsimp only at hSw); go_simp; try with_reducible rfl
        try simp only [Act.put, List.getElem_toArray, List.getElem_cons_zero, List.getElem_cons_succ, List.setIfInBounds_toArray, List.set_cons_zero, List.set_cons_succ]
        refine wpAnyH_take (i := 2) (v := ?_) rfl (by kernel_rfl) (by kernel_rfl) (by kernel_rfl) (fun _ _ _ h => h) (Or.inl ⟨by rfl, ?_⟩) (by assumption) ?_
        rotate_left
        · intro w' hSw; (try dsimp only at hSw); go_simp; try with_reducible rfl
        try simp only [Act.put, List.getElem_toArray, List.getElem_cons_zero, List.getElem_cons_succ, List.setIfInBounds_toArray, List.set_cons_zero, List.set_cons_succ]
        refine wpAnyH_take (i := 3) (v := ?_) rfl (by kernel_rfl) (by kernel_rfl) (by kernel_rfl) (fun _ _ _ h => h) (Or.inl ⟨by rfl, ?_⟩) (by assumption) ?_
        rotate_left
        · intro w' hSw; (try dsimp only at hSw); go_simp; try with_reducible rfl
        try simp only [Act.put, List.getElem_toArray, List.getElem_cons_zero, List.getElem_cons_succ, List.setIfInBounds_toArray, List.set_cons_zero, List.set_cons_succ]
        refine wpAnyH_take (i := 4) (v := ?_) rfl (by kernel_rfl) (by kernel_rfl) (by kernel_rfl) (fun _ _ _ h => h) (Or.inl ⟨by rfl, ?_⟩) (by assumption) ?_
        rotate_left
        · intro w' hSw; (try dsimp only at hSw); go_simp; try with_reducible rfl
        try simp only [Act.put, List.getElem_toArray, List.getElem_cons_zero, List.getElem_cons_succ, List.setIfInBounds_toArray, List.set_cons_zero, List.set_cons_succ]
        refine wpAnyH_ready (rs := [5]) (by kernel_rfl) (by simp) ?_
        refine AllReadyH.cons rfl (fun K hK => ?_) AllReadyH.nil
        go_simp
        refine HA.out.mono ?_
        rintro e w9 ⟨rfl, ha⟩
        obtain ⟨hR2, f9⟩ := HSt.out w9 ha
        have HR2 := Lib.hid hR2
        have HC2 := Lib.hid (HC.out w9 f9)
        clear ha hR2 f9
        try go_simp
        refine hK.out _ _ ?_ (fun hHeld => ?_)
        · (try dsimp only); exact ⟨HR2.out.c7, HC2.out⟩
        clear hK K
        try simp only [Act.put, List.getElem_toArray, List.getElem_cons_zero, List.getElem_cons_succ, List.setIfInBounds_toArray, List.set_cons_zero, List.set_cons_succ]
        refine wpAnyH_done (by kernel_rfl) ?_ _
        refine Calm.intro ?_
        go_wp2_with fail
        go_roundw
        case rel => exact ⟨k1, rfl, HK1.out.2, HR2.out⟩
        case measure => have := HLT.out; have := HK1.out; simp [intOf]; omega
      · have hc' : ¬ (i : Int) < 300 := by omega
        have HR2 := Lib.hid hR
        clear hR hi hlt hc
        go_wp2_with fail
        refine (tells_ok (by have := Hlen.out; omega) HR2.out.seq).mono ?_
        rintro e w9 ⟨t2, rfl, hv2, hn2, f9⟩
        have hs9 := same_ok hv2 (Row.fr HR2.out.row f9 (fun _ _ h => h)) (by have := Hlen.out; omega) (by have := Hlen.out; omega)
        rw [decide_eq_true (show m.L = m.L from rfl)] at hs9
        have HS9 := Lib.hid hs9
        have c10 := (f9.cell (lt_of_block HR2.out.ht) (fun h => h)).trans HR2.out.c10
        have F9 := Lib.hid f9
        clear hv2 hn2 f9 hs9
        go_wp2_with fail
        refine HS9.out.mono ?_
        rintro e w10 ⟨rfl, f10⟩
        have HDk := Lib.hid (f10.get (F9.out.get HR2.out.hd (fun h => h)) (fun h => h))
        have F10 := Lib.hid f10
        clear f10 c10
        go_wp2_with fail
        refine ⟨by simp, .inl ⟨_, _, rfl, run_takeDeferred HDk.out, ?_⟩⟩
        have fD := putObj_fr w10 D (.deferred none)
        refine ⟨.bool true, ?_, rfl, ?_⟩
        · simp [results, Try.f4, go_sem]
        · obtain ⟨m', P, hb⟩ := HR2.out.bks
          have := F1.out.size
          exact Fr.toNew (((((F1.out.trans hb.fr (fun _ _ h => h)).trans F9.out (fun _ _ h => h)).trans F10.out (fun _ _ h => h)).mono (G := fun y => w.heap.size ≤ y) (fun _ _ h => h.elim)).trans fD (fun y _ e => by rw [e]; have := HDn.out; omega))
    · have hlt' : ¬ (i : Int) < (n2 : Int) := by omega
      have HR2 := Lib.hid hR
      clear hR hi hlt
      go_wp2_with fail
      refine (tells_ok (by have := Hlen.out; omega) HR2.out.seq).mono ?_
      rintro e w9 ⟨t2, rfl, hv2, hn2, f9⟩
      have hs9 := same_ok hv2 (Row.fr HR2.out.row f9 (fun _ _ h => h)) (by have := Hlen.out; omega) (by have := Hlen.out; omega)
      rw [decide_eq_true (show m.L = m.L from rfl)] at hs9
      have HS9 := Lib.hid hs9
      have c10 := (f9.cell (lt_of_block HR2.out.ht) (fun h => h)).trans HR2.out.c10
      have F9 := Lib.hid f9
      clear hv2 hn2 f9 hs9
      go_wp2_with fail
      refine HS9.out.mono ?_
      rintro e w10 ⟨rfl, f10⟩
      have HDk := Lib.hid (f10.get (F9.out.get HR2.out.hd (fun h => h)) (fun h => h))
      have F10 := Lib.hid f10
      clear f10 c10
      go_wp2_with fail
      refine ⟨by simp, .inl ⟨_, _, rfl, run_takeDeferred HDk.out, ?_⟩⟩
      have fD := putObj_fr w10 D (.deferred none)
      refine ⟨.bool true, ?_, rfl, ?_⟩
      · simp [results, Try.f4, go_sem]
      · obtain ⟨m', P, hb⟩ := HR2.out.bks
        have := F1.out.size
        exact Fr.toNew (((((F1.out.trans hb.fr (fun _ _ h => h)).trans F9.out (fun _ _ h => h)).trans F10.out (fun _ _ h => h)).mono (G := fun y => w.heap.size ≤ y) (fun _ _ h => h.elim)).trans fD (fun y _ e => by rw [e]; have := HDn.out; omega))
end Go.Proofs.Ytmmjlnicfndmcaa.Bk
