/- WaitsServe: the walk. No condition. -/
import Derived.Test.YtiebcmlfppepaaaWtHa
namespace Go.Proofs.Ytiebcmlfppepaaa.Wt
open Go.Shelf Go.RowKit
/-- The law's state: the list, what All told, who joined. -/
structure SvS (w : World) (G : Nat → Prop) (bl : Nat) (S J : List Int) (n' : Int) (vi va : Value) (wr : World) : Prop where
  st : StAt G bl S n' wr
  ri : Wts wr vi J
  ra : Wts wr va S
  oi : ∀ b, vi.ownBlock = some b → w.heap.size ≤ b ∧ ¬ G b
  oa : ∀ b, va.ownBlock = some b → w.heap.size ≤ b ∧ ¬ G b
  new : ∀ b, G b → w.heap.size ≤ b
  pm : J.Perm S
  nx : n' ≤ 600
  fr : Fr (fun _ => False) w wr
theorem SvS.keep {w : World} {G : Nat → Prop} {bl : Nat} {S J : List Int} {n' : Int} {vi va : Value} {wr w' : World} (h : SvS w G bl S J n' vi va wr) (hf : Fr (fun _ => False) wr w') : SvS w G bl S J n' vi va w' :=
  ⟨h.st.keep hf, Row.fr h.ri hf (fun _ _ h => h), Row.fr h.ra hf (fun _ _ h => h), h.oi, h.oa, h.new, h.pm, h.nx, h.fr.trans hf (fun _ _ h => h)⟩
theorem getD_get {S : List Int} {k : Nat} (h : k < S.length) : S.getD k 0 = S[k] := by simp [h]
/-- The law's own serving. -/
structure Wst (w6 : World) (n : Int) (S : List Int) (k : Nat) (l : Int) (vo vs : Value) (o y : List Int) (wr : World) : Prop where
  eq : serveF n S = (o ++ (serveF l (S.drop k)).1, y ++ (serveF l (S.drop k)).2)
  ro : Wts wr vo o
  rs : Wts wr vs y
  oo : ∀ b, vo.ownBlock = some b → w6.heap.size ≤ b
  os : ∀ b, vs.ownBlock = some b → w6.heap.size ≤ b
  ne : ∀ b, vo.ownBlock = some b → vs.ownBlock ≠ some b
  ln : o.length + y.length ≤ k
  l0 : 0 ≤ l
  l9 : l ≤ 9223372036854775807
  fr : Fr (fun _ => False) w6 wr
theorem drop_getD {S : List Int} {k : Nat} (h : k < S.length) : S.drop k = S.getD k 0 :: S.drop (k + 1) := by
  rw [List.drop_eq_getElem_cons h, getD_get h]
theorem Wst.got {w6 : World} {n : Int} {S : List Int} {k : Nat} {l : Int} {vo vs : Value} {o y : List Int} {wr : World} (h : Wst w6 n S k l vo vs o y wr) (hk : k < S.length) {x : Int} (hx : x = S.getD k 0) (hs : wS x ≤ l) (h1 : 0 ≤ wS x) {vo' : Value} {W2 : World}
    (r2 : Wts W2 vo' (o ++ [x])) (f2 : Fr (fun b => vo.ownBlock = some b) wr W2) (o2 : ∀ b, vo'.ownBlock = some b → vo.ownBlock = some b ∨ wr.heap.size ≤ b) : Wst w6 n S (k + 1) (l - wS x) vo' vs (o ++ [x]) y W2 := by
  have z := h.fr.size
  refine ⟨?_, r2, Row.fr h.rs f2 (fun b hb e => h.ne b e hb), ?_, h.os, ?_, by have := h.ln; simp; omega, by omega, by have := h.l9; omega, h.fr.trans f2 (fun b hb e => by have := h.oo b e; omega)⟩
  · have := h.eq
    rw [this, drop_getD hk, ← hx]
    conv => lhs; unfold serveF
    rw [if_pos hs]
    simp
  · intro b hb
    rcases o2 b hb with e | e
    · exact h.oo b e
    · omega
  · intro b hb e
    rcases o2 b hb with e2 | e2
    · exact h.ne b e2 e
    · have := Row.lt h.rs e; omega
theorem Wst.stays {w6 : World} {n : Int} {S : List Int} {k : Nat} {l : Int} {vo vs : Value} {o y : List Int} {wr : World} (h : Wst w6 n S k l vo vs o y wr) (hk : k < S.length) {x : Int} (hx : x = S.getD k 0) (hs : ¬ wS x ≤ l) {vs' : Value} {W2 : World}
    (r2 : Wts W2 vs' (y ++ [x])) (f2 : Fr (fun b => vs.ownBlock = some b) wr W2) (o2 : ∀ b, vs'.ownBlock = some b → vs.ownBlock = some b ∨ wr.heap.size ≤ b) : Wst w6 n S (k + 1) l vo vs' o (y ++ [x]) W2 := by
  have z := h.fr.size
  refine ⟨?_, Row.fr h.ro f2 (fun b hb e => h.ne b hb e), r2, h.oo, ?_, ?_, by have := h.ln; simp; omega, h.l0, h.l9, h.fr.trans f2 (fun b hb e => by have := h.os b e; omega)⟩
  · have := h.eq
    rw [this, drop_getD hk, ← hx]
    conv => lhs; unfold serveF
    rw [if_neg hs]
    simp
  · intro b hb
    rcases o2 b hb with e | e
    · exact h.os b e
    · omega
  · intro b hb e
    rcases o2 b e with e2 | e2
    · exact h.ne b hb e2
    · have := Row.lt h.ro hb; omega
theorem idxF {k m : Nat} (hm : m ≤ 1024) (h : k < m) : ∃ k1 : Nat, k1 = k + 1 ∧ (k : Int) + 1 = (k1 : Int) ∧ wrap64 (k1 : Int) = (k1 : Int) ∧ IntKind.i64.wrap (k1 : Int) = (k1 : Int) ∧ (k : Int) < (m : Int) ∧ (0 : Int) ≤ (k : Int) ∧ k1 ≤ m ∧ m - (intOf (.int .i64 (k1 : Int))).toNat < m - (intOf (.int .i64 (k : Int))).toNat := by
  refine ⟨k + 1, rfl, by omega, by unfold wrap64; omega, by rw [IntKind.wrap_i64]; omega, by omega, by omega, by omega, ?_⟩
  simp [intOf]; omega
theorem subF {l s : Int} (h0 : 0 ≤ l) (h9 : l ≤ 9223372036854775807) (h1 : 1 ≤ s) (h2 : s ≤ 16) : wrap64 (l - s) = l - s ∧ IntKind.i64.wrap (l - s) = l - s ∧ 0 ≤ s :=
  ⟨by unfold wrap64; omega, by rw [IntKind.wrap_i64]; omega, by omega⟩
theorem lnF {o y : List Int} {k m : Nat} (h : o.length + y.length ≤ k) (hk : k < m) (hm : m ≤ 1024) : o.length ≤ 1000000 ∧ y.length ≤ 1000000 := ⟨by omega, by omega⟩
theorem dF {n : Int} (h : ¬ n < 0) : decide (n < 0) = false ∧ 0 ≤ n := ⟨by simp; omega, by omega⟩
theorem eoF {k m : Nat} (h : k ≤ m) (h2 : ¬ k < m) : k = m := by omega
set_option maxRecDepth 100000 in
set_option maxHeartbeats 8000000 in
theorem serve_walk (w : World) {v1 : Value} {K1 : Nat → Nat → Int} {n1 : Nat} (h1 : KindsAt w v1 4 kW K1 n1) (n : Int) (hn : Fits n) :
    Calls Try.prog 4 #[v1, .int .i64 n] w fun e w' => e = .returned (.bool true) ∧ Fr (fun _ => False) w w' := by
  have H1 := Lib.hid h1; have Hn := Lib.hid hn
  clear h1 hn
  go_enter Try.func4, Try.ntmps4
  go_wp2_with fail
  refine (joined_ok H1.out).mono ?_
  rintro e w1 ⟨bl, G, vi, n', rfl, hJ⟩
  obtain ⟨S, hS⟩ : ∃ S, S = (JF K1 (min n1 600)).2 := ⟨_, rfl⟩
  obtain ⟨J, hJJ⟩ : ∃ J, J = (JF K1 (min n1 600)).1 := ⟨_, rfl⟩
  have hpm := JF_perm K1 (min n1 600)
  have hst := hJ.st; have hrow := hJ.row; have hown := hJ.own; have hnew := hJ.new; have hfr := hJ.fr
  have hnx : n' ≤ 600 := by have := hJ.nx; omega
  rw [← hS] at hst hpm
  rw [← hJJ] at hrow hpm
  clear hJ hS hJJ
  obtain ⟨ai, ci, ei⟩ := wts_slice hrow
  subst ei
  have hJl : J.length = S.length := hpm.length_eq
  rw [hJl] at hrow hown ⊢
  have hSl := hst.len
  have HSl := Lib.hid hSl
  have HT := Lib.hid (told_ok (S := S) (by omega) (fun W hW => wall_ok (hst.keep hW) (by omega)))
  have Hpm := Lib.hid hpm; have Hst := Lib.hid hst; have Hrow := Lib.hid hrow; have Hown := Lib.hid hown; have Hnew := Lib.hid hnew; have Hfr := Lib.hid hfr; have Hnx := Lib.hid hnx
  clear hpm hst hrow hown hnew hfr hnx hJl
  go_wp2_with fail
  refine HT.out.mono ?_
  rintro e w2 ⟨va, rfl, r2, o2, f2⟩
  obtain ⟨aa, ca, ea⟩ := wts_slice r2
  subst ea
  have hSv : SvS w G bl S J n' (.slice ai S.length ci) (.slice aa S.length ca) w2 :=
    ⟨Hst.out.keep f2, Row.fr Hrow.out f2 (fun _ _ h => h), r2, Hown.out, fun b hb => ⟨by have := o2 b hb; have := Hfr.out.size; omega, fun h => by have := o2 b hb; have := Hst.out.bd b h; omega⟩, Hnew.out, Hpm.out, Hnx.out, Hfr.out.trans f2 (fun _ _ h => h)⟩
  have HLn := Lib.hid (length_ok hSv.st)
  have HSv := Lib.hid hSv
  obtain ⟨m, hm⟩ : ∃ m, m = S.length := ⟨_, rfl⟩
  rw [← hm] at HSv HLn HSl hSl ⊢
  have Hm := Lib.hid hm
  have hne : ((m : Int) != (m : Int)) = false := by simp
  clear r2 o2 f2 hSv hm
  go_wp2_with fail
  refine HLn.out.mono ?_
  rintro e w3 ⟨rfl, rfl⟩
  go_upto_block 0 with fail
  clear hne
  go_cut [9] (fun _ wx => SvS w G bl S J n' (.slice ai m ci) (.slice aa m ca) wx)
  case first => as_aux_lemma =>
    go_wp2_with fail
    go_loopw [9] (fun s9 wr => ∃ k : Nat, k ≤ m ∧ s9 = .int .i64 k ∧ SvS w G bl S J n' (.slice ai m ci) (.slice aa m ca) wr) (fun s9 _ => m - (intOf s9).toNat)
    case atStart => exact ⟨0, Nat.zero_le _, rfl, HSv.out⟩
    case round =>
      obtain ⟨k, hk, rfl, hP⟩ := hrel
      have HP := Lib.hid hP
      by_cases hlt : k < m
      · have hlt' : (k : Int) < (m : Int) := by omega
        have k0 : (0 : Int) ≤ (k : Int) := by omega
        have hkS : k < S.length := by rw [← Hm.out]; exact hlt
        obtain ⟨g, cap, e1, d0, d1, d2, d3⟩ := hP.ra.cells hkS
        simp only [Value.slice.injEq] at e1
        obtain ⟨rfl, -, rfl⟩ := e1
        obtain ⟨x, hx⟩ : ∃ x, x = S.getD k 0 := ⟨_, rfl⟩
        rw [← hx] at d0 d1 d2 d3
        have hxS : x ∈ S := by rw [hx]; simp [hkS]
        have hGe := get_there' hP.st hxS (by have := hP.nx; omega)
        have hpl : placeW S x = k := by
          have := placeW_at hP.st.ord hkS
          have e : x = S[k] := by rw [hx]; simp [hkS]
          rw [e]; exact this
        rw [hpl] at hGe
        have HG := Lib.hid hGe; have HX := Lib.hid hx; have HxS := Lib.hid hxS; have Hlt := Lib.hid hlt; have HkS := Lib.hid hkS
        have HxJ := Lib.hid (show x ∈ J from hP.pm.mem_iff.2 hxS)
        have lg := World.block_lt_of_cell? _ _ d0
        clear hP hx hxS hGe hpl hlt hkS hk
        go_wp2_with fail
        refine HG.out.mono ?_
        rintro e w4 ⟨rfl, f4⟩
        have fB : Fr (fun _ => False) w4 (w4.alloc (.cells #[.int .u32 (wW x), .int .i64 (wS x), .int .i64 (wT x), .int .i64 (wC x)] 51)) := Fr.alloc (Fr.refl _ _) _
        have gB : (w4.alloc (.cells #[.int .u32 (wW x), .int .i64 (wS x), .int .i64 (wT x), .int .i64 (wC x)] 51)).heap[w4.heap.size]? = some (.cells #[.int .u32 (wW x), .int .i64 (wS x), .int .i64 (wT x), .int .i64 (wC x)] 51 (0, 0)) := heap_alloc_at _ _
        have f34 := f4.trans fB (fun _ _ h => h)
        replace d0 := (f34.cell lg (fun h => h)).trans d0
        replace d1 := (f34.cell lg (fun h => h)).trans d1
        replace d2 := (f34.cell lg (fun h => h)).trans d2
        replace d3 := (f34.cell lg (fun h => h)).trans d3
        have HP4 := Lib.hid (HP.out.keep f34)
        have lg4 := Nat.lt_of_lt_of_le lg f34.size
        clear f4 fB f34 lg
        go_upto_region 11 with fail
        generalize (w4.alloc (.cells #[.int .u32 (wW x), .int .i64 (wS x), .int .i64 (wT x), .int .i64 (wC x)] 51)) = W at *
        generalize w4.heap.size = bx at *
        obtain ⟨x0, x1, x2, x3⟩ := boxW_cells gB
        have hHs := has_ok (w := W.drew) (HP4.out.keep (Fr.drew (Fr.refl _ _))).ri (by have := HP4.out.pm.length_eq; have := HSl.out; have := Hm.out; omega) x
        rw [decide_eq_true HxJ.out] at hHs
        have HHs := Lib.hid hHs
        have hq := fun W => neqW W x x
        simp only [decide_true, Bool.not_true] at hq
        have hnk : ((k : Int) != (k : Int)) = false := by simp
        have lbx := lt_of_block gB
        clear hHs gB
        go_region_held3 (fun w' => w'.cell? ⟨bx, 0, none⟩ = some (.int .u32 (wW x)) ∧ w'.cell? ⟨bx, 1, none⟩ = some (.int .i64 (wS x)) ∧ w'.cell? ⟨bx, 2, none⟩ = some (.int .i64 (wT x)) ∧ w'.cell? ⟨bx, 3, none⟩ = some (.int .i64 (wC x)) ∧ w'.cell? ⟨g, k * 4, none⟩ = some (.int .u32 (wW x)) ∧ w'.cell? ⟨g, k * 4 + 1, none⟩ = some (.int .i64 (wS x)) ∧ w'.cell? ⟨g, k * 4 + 2, none⟩ = some (.int .i64 (wT x)) ∧ w'.cell? ⟨g, k * 4 + 3, none⟩ = some (.int .i64 (wC x)))
          (first | (go_keep; done) | (refine ⟨?_, ?_, ?_, ?_, ?_, ?_, ?_, ?_⟩ <;> (first | exact (hf1.cell lbx (fun h => h)).trans x0 | exact (hf1.cell lbx (fun h => h)).trans x1 | exact (hf1.cell lbx (fun h => h)).trans x2 | exact (hf1.cell lbx (fun h => h)).trans x3 | exact (hf1.cell lg4 (fun h => h)).trans d0 | exact (hf1.cell lg4 (fun h => h)).trans d1 | exact (hf1.cell lg4 (fun h => h)).trans d2 | exact (hf1.cell lg4 (fun h => h)).trans d3)))
          (first | (go_at_call 20; refine HHs.out.mono ?_; rintro e w5 ⟨rfl, hf1⟩))
        replace d0 := (hf1.cell lg4 (fun h => h)).trans d0
        replace d1 := (hf1.cell lg4 (fun h => h)).trans d1
        replace d2 := (hf1.cell lg4 (fun h => h)).trans d2
        replace d3 := (hf1.cell lg4 (fun h => h)).trans d3
        have lg5 : g < w5.heap.size := Nat.lt_of_lt_of_le lg4 hf1.size
        have HP5 := Lib.hid ((HP4.out.keep (Fr.drew (Fr.refl _ _))).keep hf1)
        obtain ⟨k1, hk1⟩ : ∃ k1, k1 = k + 1 := ⟨_, rfl⟩
        have e1 : (k : Int) + 1 = (k1 : Int) := by omega
        have e2 : wrap64 (k1 : Int) = (k1 : Int) := by unfold wrap64; have := HSl.out; have := Hlt.out; omega
        have e3 : IntKind.i64.wrap (k1 : Int) = (k1 : Int) := by rw [IntKind.wrap_i64]; have := HSl.out; have := Hlt.out; omega
        have HK1 := Lib.hid hk1
        clear hf1 lg4 lbx x0 x1 x2 x3 hnk hq hk1
        by_cases hk0 : 0 < k
        · have hk0' : (0 : Int) < (k : Int) := by omega
          obtain ⟨j, hj⟩ : ∃ j, k = j + 1 := ⟨k - 1, by omega⟩
          have hj1 : (k : Int) - 1 = (j : Int) := by omega
          have hj2 : wrap64 (j : Int) = (j : Int) := by unfold wrap64; have := HSl.out; have := Hlt.out; omega
          have hj3 : IntKind.i64.wrap (j : Int) = (j : Int) := by rw [IntKind.wrap_i64]; have := HSl.out; have := Hlt.out; omega
          have ng1 : ¬ g = w5.heap.size := by omega
          have ng2 : ¬ g = w5.heap.size + 1 := by omega
          have hjm : (j : Int) < (m : Int) := by have := Hlt.out; omega
          have j0 : (0 : Int) ≤ (j : Int) := by omega
          have hjS : j < S.length := by have := HkS.out; omega
          obtain ⟨g', cap', e4, b0, b1, b2, b3⟩ := HP5.out.ra.cells hjS
          simp only [Value.slice.injEq, Option.some.injEq, Addr.mk.injEq, and_true, true_and] at e4
          obtain ⟨rfl, -, -⟩ := e4
          obtain ⟨y, hy⟩ : ∃ y, y = S.getD j 0 := ⟨_, rfl⟩
          rw [← hy] at b0 b1 b2 b3
          have hlt2 : ltW y x = true := by
            have ho := List.pairwise_iff_getElem.1 HP5.out.st.ord j k hjS HkS.out (by omega)
            have e5 : y = S[j] := by rw [hy]; exact getD_get hjS
            have e6 : x = S[k]'(HkS.out) := by rw [HX.out]; exact getD_get HkS.out
            rw [e5, e6]; exact ho
          have Hlt2 := Lib.hid (ltW_iff.1 hlt2)
          clear hlt2 hy hj hjS hk0
          go_upto_region 14 with fail
          go_cut [13, 14] (fun s13 s14 wx => ∃ p q : Nat, s13 = .pointer (some ⟨p, 0, none⟩) ∧ s14 = .pointer (some ⟨q, 0, none⟩) ∧ wx.heap[p]? = some (.cells #[.int .u32 (wW y), .int .i64 (wS y), .int .i64 (wT y), .int .i64 (wC y)] 51 (0, 0)) ∧ wx.heap[q]? = some (.cells #[.int .u32 (wW x), .int .i64 (wS x), .int .i64 (wT x), .int .i64 (wC x)] 51 (0, 0)) ∧ Fr (fun _ => False) w5 wx)
          case first =>
            go_region
            all_goals go_wp2_with fail
            all_goals go_meet
            all_goals refine ⟨_, _, rfl, rfl, ?_, ?_, Fr.drew (Fr.alloc (Fr.alloc (Fr.refl _ _) _) _)⟩
            all_goals (rw [heap_drew]; simp only [heap_alloc_get, World.size_alloc]; simp)
          case rest =>
            obtain ⟨p, q, rfl, rfl, hp, hq, hf⟩ := hcut
            obtain ⟨p0, p1, p2, p3⟩ := boxW_cells hp
            obtain ⟨q0, q1, q2, q3⟩ := boxW_cells hq
            have HP6 := Lib.hid (HP5.out.keep hf)
            clear hp hq hf b0 b1 b2 b3 d0 d1 d2 d3
            have fin : ∀ s9, s9 = Value.int .i64 (k1 : Int) → (∃ k : Nat, k ≤ m ∧ s9 = .int .i64 k ∧ SvS w G bl S J n' (.slice ai m ci) (.slice (some ⟨g, 0, none⟩) m ca) wc) := fun s9 e => ⟨k1, by have := HK1.out; have := Hlt.out; omega, e, HP6.out⟩
            rcases Hlt2.out with hc | ⟨hc1, hc | ⟨hc2, hc⟩⟩
            · have t1 : decide (wT x < wT y) = true := by simpa using hc
              have t2 : (wT y == wT x) = false := by simp; omega
              clear hc
              go_wp2_with fail
              go_roundw
              case rel => exact fin _ rfl
              case measure => have := HK1.out; have := Hlt.out; simp [intOf]; omega
            · have t1 : decide (wT x < wT y) = false := by simp; omega
              have t2 : (wT y == wT x) = true := by simpa using hc1
              have t3 : decide (wC y < wC x) = true := by simpa using hc
              have t4 : (wC y == wC x) = false := by simp; omega
              clear hc hc1
              go_wp2_with fail
              go_roundw
              case rel => exact fin _ rfl
              case measure => have := HK1.out; have := Hlt.out; simp [intOf]; omega
            · have t1 : decide (wT x < wT y) = false := by simp; omega
              have t2 : (wT y == wT x) = true := by simpa using hc1
              have t3 : decide (wC y < wC x) = false := by simp; omega
              have t4 : (wC y == wC x) = true := by simpa using hc2
              have t5 : decide (wW y < wW x) = true := by simpa using hc
              clear hc hc1 hc2
              go_wp2_with fail
              go_roundw
              case rel => exact fin _ rfl
              case measure => have := HK1.out; have := Hlt.out; simp [intOf]; omega
        · have hk0' : ¬ (0 : Int) < (k : Int) := by omega
          clear hk0 d0 d1 d2 d3
          go_wp2_with fail
          go_roundw
          case rel => exact ⟨k1, by have := HK1.out; have := Hlt.out; omega, rfl, HP5.out⟩
          case measure => have := HK1.out; have := Hlt.out; simp [intOf]; omega
      · obtain rfl : k = m := by omega
        clear hlt hk hP
        go_wp2_with fail
        go_meet
        exact HP.out
  case rest =>
    have HP := Lib.hid hcut
    clear hcut HSv HLn
    have HI := Lib.hid (fun (W : World) (h : StAt G bl S n' W) => is_ok (w := W) (x := .pointer (some ⟨bl, 0, none⟩)) (S := S) (M := S) (v := .slice aa m ca) (by have := HSl.out; have := Hm.out; omega) (fun w1 hw => wall_ok (h.keep hw) (by have := Hnx.out; omega)))
    by_cases hn0 : n < 0
    · have HN := Lib.hid (serve_neg HP.out.st hn0)
      have hd : decide (n < 0) = true := by simpa using hn0
      have hI := HI.out wc HP.out.st HP.out.ra (by have := HSl.out; have := Hm.out; omega)
      rw [decide_eq_true (rfl : S = S)] at hI
      have HIs := Lib.hid hI
      clear hn0 hI
      go_wp2_with fail
      refine HN.out.mono ?_
      rintro e w5 ⟨rfl, rfl⟩
      go_wp2_with fail
      refine HIs.out.mono ?_
      rintro e w6 ⟨rfl, f6⟩
      have F6 := Lib.hid (HP.out.fr.trans f6 (fun _ _ h => h))
      clear f6
      go_wp2_with fail
      refine (awake_ok _).mono ?_
      rintro e w7 ⟨rfl, f7⟩
      have F7 := Lib.hid (F6.out.trans f7 (fun _ _ h => h))
      clear f7
      go_wp2_with fail
      go_ret
      exact ⟨rfl, F7.out⟩
    · obtain ⟨hd, hnn⟩ := dF hn0
      have HSv := Lib.hid (serve_ok HP.out.st hnn Hn.out.2 (Int.le_trans HP.out.nx (by decide)))
      have Hn0 := Lib.hid hn0
      clear hn0
      go_wp2_with fail
      refine HSv.out.mono ?_
      rintro e w6 ⟨vt, rfl, rt, ot, G', n2, h6, hn2, f6, g6, hvg⟩
      have hra := Row.fr HP.out.ra f6 (fun b hb => (HP.out.oa b hb).2)
      have HF6 := Lib.hid (HP.out.fr.trans f6 (fun b hb e => by have := HP.out.new b e; omega))
      have Hrt := Lib.hid rt; have H6 := Lib.hid h6; have Hra := Lib.hid hra; have Hn2 := Lib.hid hn2
      have hW0 : Wst w6 n S 0 n (.slice none 0 0) (.slice none 0 0) [] [] w6 := ⟨by simp, World.ownsRow_nil _ _ _ _, World.ownsRow_nil _ _ _ _, by simp [Value.ownBlock], by simp [Value.ownBlock], by simp [Value.ownBlock], by simp, hnn, Hn.out.2, Fr.refl _ _⟩
      have HW0 := Lib.hid hW0
      obtain ⟨at_, ct, et⟩ := wts_slice rt
      subst et
      clear rt ot h6 hn2 f6 g6 hvg hra hW0
      go_upto_block 2 with fail
      go_cut [20, 21, 22, 23] (fun _ s21 s22 _ wx => ∃ l o y, Wst w6 n S m l s21 s22 o y wx)
      case first => as_aux_lemma =>
        go_wp2_with fail
        go_loopw [20, 21, 22, 23] (fun s20 s21 s22 s23 wr => ∃ (k : Nat) (l : Int) (o y : List Int), s20 = .int .i64 l ∧ s23 = .int .i64 k ∧ k ≤ m ∧ Wst w6 n S k l s21 s22 o y wr) (fun _ _ _ s23 _ => m - (intOf s23).toNat)
        case atStart => exact ⟨0, n, [], [], rfl, rfl, Nat.zero_le _, HW0.out⟩
        case round =>
          obtain ⟨k, l, o, y, rfl, rfl, hk, hT⟩ := hrel
          by_cases hlt : k < m
          · obtain ⟨k1, hk1, e1', e2, e3, hlt', k0, k1m, kms⟩ := idxF HSl.out hlt
            have hkS : k < S.length := Hm.out ▸ hlt
            have hra' : Wts _ (.slice aa m ca) S := Row.fr Hra.out hT.fr (fun _ _ h => h)
            obtain ⟨g, cap, e1, d0, d1, d2, d3⟩ := hra'.cells hkS
            simp only [Value.slice.injEq] at e1
            obtain ⟨rfl, -, rfl⟩ := e1
            obtain ⟨x, hx⟩ : ∃ x, x = S.getD k 0 := ⟨_, rfl⟩
            rw [← hx] at d0 d1 d2 d3
            have hxS : x ∈ S := by rw [hx, getD_get hkS]; exact List.getElem_mem hkS
            obtain ⟨_, _, ok1, ok2, _⟩ := HP.out.st.ok x hxS
            obtain ⟨hw1, hw2, ok0⟩ := subF hT.l0 hT.l9 ok1 ok2
            obtain ⟨ln1, ln2⟩ := lnF hT.ln hlt HSl.out
            obtain ⟨a21, c21, e21⟩ := wts_slice hT.ro
            obtain ⟨a22, c22, e22⟩ := wts_slice hT.rs
            subst e21; subst e22
            have HK1 := Lib.hid hk1; have HKm := Lib.hid k1m; have HMs := Lib.hid kms
            by_cases hfit : wS x ≤ l
            · have hq : decide (wS x ≤ l) = true := by simpa using hfit
              obtain ⟨a8, c8, W2, hrun, r2, f2, o2⟩ := hT.ro.app ln1 x
              have HT2 := Lib.hid (hT.got hkS hx hfit ok0 r2 f2 o2)
              have Hrun := Lib.hid hrun
              clear hrun r2 f2 o2 hT hx hkS hk1 hlt hk hra' hxS hfit ok0 ok1 ok2 ln1 ln2 k1m kms
              go_wp2_with (at_builtin; refine wpList_append_run rfl _ _ 43 rfl rfl rfl Hrun.out ?_)
              go_roundw
              case rel => exact ⟨k1, _, o ++ [x], y, rfl, rfl, HKm.out, HK1.out ▸ HT2.out⟩
              case measure => exact HMs.out
            · have hq : decide (wS x ≤ l) = false := by simpa using hfit
              obtain ⟨a8, c8, W2, hrun, r2, f2, o2⟩ := hT.rs.app ln2 x
              have HT2 := Lib.hid (hT.stays hkS hx hfit r2 f2 o2)
              have Hrun := Lib.hid hrun
              clear hrun r2 f2 o2 hT hx hkS hk1 hlt hk hra' hxS hfit ok0 ok1 ok2 ln1 ln2 k1m kms
              go_wp2_with (at_builtin; refine wpList_append_run rfl _ _ 43 rfl rfl rfl Hrun.out ?_)
              go_roundw
              case rel => exact ⟨k1, l, o, y ++ [x], rfl, rfl, HKm.out, HK1.out ▸ HT2.out⟩
              case measure => exact HMs.out
          · obtain rfl : k = m := eoF hk hlt
            have HT := Lib.hid hT
            clear hlt hk hT
            go_wp2_with fail
            go_meet
            exact ⟨l, o, y, HT.out⟩
      case rest => as_aux_lemma =>
        obtain ⟨l, o, y, hT⟩ := hcut
        have heq : serveF n S = (o, y) := by
          have := hT.eq
          rw [this, Hm.out, List.drop_length]
          simp [serveF]
        obtain ⟨a21, c21, e21⟩ := wts_slice hT.ro
        obtain ⟨a22, c22, e22⟩ := wts_slice hT.rs
        subst e21; subst e22
        have hln := hT.ln
        have hrt : Wts _ (.slice at_ (serveF n S).1.length ct) (serveF n S).1 := Row.fr Hrt.out hT.fr (fun _ _ h => h)
        have hsl : (serveF n S).1.length ≤ 1024 := by rw [heq]; show o.length ≤ 1024; have := HSl.out; omega
        have HSW := same_ok hrt hT.ro (by omega) (by have := HSl.out; omega)
        have e1 : (serveF n S).1 = o := by rw [heq]
        have e2 : (serveF n S).2 = y := by rw [heq]
        rw [decide_eq_true e1] at HSW
        have HW := Lib.hid HSW; have HT := Lib.hid hT; have E2 := Lib.hid e2; have Hln := Lib.hid hln
        clear hT heq hln hrt hsl HSW e1 e2
        go_wp2_with fail
        refine HW.out.mono ?_
        rintro e w7 ⟨rfl, f7⟩
        have h7 := H6.out.keep (HT.out.fr.trans f7 (fun _ _ h => h))
        have hI := is_ok (w := w7) (x := .pointer (some ⟨bl, 0, none⟩)) (S := (serveF n S).2) (M := y) (v := .slice a22 y.length c22) (by rw [E2.out]; have := HSl.out; have := Hln.out; omega) (fun w1 hw => wall_ok (h7.keep hw) (by have := Hnx.out; have := Hn2.out; omega)) (Row.fr HT.out.rs f7 (fun _ _ h => h)) (by have := HSl.out; have := Hln.out; omega)
        rw [decide_eq_true E2.out] at hI
        have HIs := Lib.hid hI
        have F7 := Lib.hid ((HF6.out.trans HT.out.fr (fun _ _ h => h)).trans f7 (fun _ _ h => h))
        clear hI h7 f7
        go_wp2_with fail
        refine HIs.out.mono ?_
        rintro e w8 ⟨rfl, f8⟩
        have F8 := Lib.hid (F7.out.trans f8 (fun _ _ h => h))
        clear f8
        go_wp2_with fail
        refine (awake_ok _).mono ?_
        rintro e w9 ⟨rfl, f9⟩
        have F9 := Lib.hid (F8.out.trans f9 (fun _ _ h => h))
        clear f9
        go_wp2_with fail
        go_ret
        exact ⟨rfl, F9.out⟩
end Go.Proofs.Ytiebcmlfppepaaa.Wt
