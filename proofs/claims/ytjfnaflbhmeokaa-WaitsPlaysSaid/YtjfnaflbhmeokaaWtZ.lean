/- A list of waiting parties: Get. No condition. -/
import Derived.Test.YtjfnaflbhmeokaaWtY
namespace Go.Proofs.Ytjfnaflbhmeokaa.Wt
open Go.Shelf Go.RowKit
attribute [local go_sem] Oper.semAt_some
section
variable {G : Nat → Prop} {bl : Nat} {L : List It} {S : List Int} {next : Int} {f : Int → Option Int} {w : World}
theorem placeW_perm {S T : List Int} (h : S.Perm T) (x : Int) : placeW S x = placeW T x := h.countP_eq _
set_option maxRecDepth 100000 in
theorem get_no {p : Option Addr} (h : NoList w p) (who : Int) : Calls Try.prog 39 #[.pointer p, .int .u32 who] w fun e w' => e = .returned (.tuple #[zeroW, .int .i64 0, .int .i64 1]) ∧ Fr (fun _ => False) w w' := by
  have f0 : Fr (fun _ => False) w (w.alloc (.cells #[.int .u32 0, .int .i64 0, .int .i64 0, .int .i64 0] 32)) := Fr.alloc (Fr.refl _ _) _
  have gz : (w.alloc (.cells #[.int .u32 0, .int .i64 0, .int .i64 0, .int .i64 0] 32)).heap[w.heap.size]? = some (.cells #[.int .u32 0, .int .i64 0, .int .i64 0, .int .i64 0] 32 (0, 0)) := heap_alloc_at _ _
  have z0 := (cell_of gz 0).trans (show _ = some (Value.int .u32 0) from rfl)
  have y0 := free_of gz 0
  have z1 := (cell_of gz 1).trans (show _ = some (Value.int .i64 0) from rfl)
  have y1 := free_of gz 1
  have z2 := (cell_of gz 2).trans (show _ = some (Value.int .i64 0) from rfl)
  have y2 := free_of gz 2
  have z3 := (cell_of gz 3).trans (show _ = some (Value.int .i64 0) from rfl)
  have y3 := free_of gz 3
  have HM := Lib.hid (made_no (h.fr f0))
  have F0 := Lib.hid f0; have Gz := Lib.hid gz
  clear h f0 gz
  go_enter Try.func39, Try.ntmps39
  go_upto_region 1 with fail
  generalize (w.alloc (.cells #[.int .u32 0, .int .i64 0, .int .i64 0, .int .i64 0] 32)) = W at *
  generalize hbz : w.heap.size = bz at *
  go_wp2_with fail
  refine HM.out.mono ?_
  rintro e w1 ⟨rfl, rfl⟩
  go_wp2_with fail
  have hfin := (setCell_blk (o := 3) (setCell_blk (o := 2) (setCell_blk (o := 1) (setCell_blk (o := 0) Gz.out (.int .u32 0)) (.int .i64 0)) (.int .i64 0)) (.int .i64 0))
  have g0 := cell_of hfin 0
  have g1 := cell_of hfin 1
  have g2 := cell_of hfin 2
  have g3 := cell_of hfin 3
  simp at g0 g1 g2 g3
  refine bodyPost_ret (v := .tuple #[zeroW, .int .i64 0, .int .i64 1]) ?_ rfl ⟨rfl, ?_⟩
  · simp [results, Try.results39, Try.f39, go_sem, g0, g1, g2, g3]
  · refine Fr.toNew (Fr.trans (G := fun b => b = bz) (F0.out.mono (fun _ _ h => h.elim)) (Fr.setCell (F := fun b => b = bz) (p := ⟨bz, 3, none⟩) (Fr.setCell (F := fun b => b = bz) (p := ⟨bz, 2, none⟩) (Fr.setCell (F := fun b => b = bz) (p := ⟨bz, 1, none⟩) (Fr.setCell (F := fun b => b = bz) (p := ⟨bz, 0, none⟩) (Fr.refl _ _) (fun _ => rfl) _) (fun _ => rfl) _) (fun _ => rfl) _) (fun _ => rfl) _) (fun b _ e => by rw [e, hbz]; exact Nat.le_refl _))
set_option maxRecDepth 100000 in
set_option maxHeartbeats 1000000 in
theorem get_gone (h : StAt G bl S next w) {who : Int} (hn : ¬ ∃ x ∈ S, wW x = who) : Calls Try.prog 39 #[.pointer (some ⟨bl, 0, none⟩), .int .u32 who] w fun e w' => e = .returned (.tuple #[zeroW, .int .i64 0, .int .i64 171]) ∧ Fr (fun _ => False) w w' := by
  have f0 : Fr (fun _ => False) w (w.alloc (.cells #[.int .u32 0, .int .i64 0, .int .i64 0, .int .i64 0] 32)) := Fr.alloc (Fr.refl _ _) _
  have gz : (w.alloc (.cells #[.int .u32 0, .int .i64 0, .int .i64 0, .int .i64 0] 32)).heap[w.heap.size]? = some (.cells #[.int .u32 0, .int .i64 0, .int .i64 0, .int .i64 0] 32 (0, 0)) := heap_alloc_at _ _
  have z0 := (cell_of gz 0).trans (show _ = some (Value.int .u32 0) from rfl)
  have y0 := free_of gz 0
  have z1 := (cell_of gz 1).trans (show _ = some (Value.int .i64 0) from rfl)
  have y1 := free_of gz 1
  have z2 := (cell_of gz 2).trans (show _ = some (Value.int .i64 0) from rfl)
  have y2 := free_of gz 2
  have z3 := (cell_of gz 3).trans (show _ = some (Value.int .i64 0) from rfl)
  have y3 := free_of gz 3
  have h0 := h.keep f0
  have hbG : ¬ G w.heap.size := fun hg => by have := h.bd _ hg; omega
  obtain ⟨L, f, h1, h2, h3, h4⟩ := id h0
  obtain ⟨bh, bm, GH, g1, g2, g3, g4, g5⟩ := id h1.ex
  have c1 := (cell_of g1 1).trans (show _ = some (Value.map (some bm)) from rfl)
  have HM := Lib.hid (made_ok g1)
  have hlk := run_lookup2U (P := Try.prog) Try.underlying80 Try.underlying30 g3 (Try.zeroValue3 _) who
  rw [h2.none h3 hn] at hlk
  simp only [Option.getD_none, Option.isSome_none] at hlk
  have n1 : ¬ bl = w.heap.size := fun e => hbG (e ▸ h1.gl)
  have n2 : ¬ w.heap.size = bl := fun e => n1 e.symm
  have F0 := Lib.hid f0; have Gz := Lib.hid gz
  clear h f0 gz h0 h1 h2 h3 h4 g1 g2 g3 g4 g5 hn hbG
  go_enter Try.func39, Try.ntmps39
  go_upto_region 1 with fail
  generalize (w.alloc (.cells #[.int .u32 0, .int .i64 0, .int .i64 0, .int .i64 0] 32)) = W at *
  generalize hbz : w.heap.size = bz at *
  go_wp2_with fail
  refine HM.out.mono ?_
  rintro e w1 ⟨rfl, rfl⟩
  go_wp2_with fail
  have hfin := (setCell_blk (o := 3) (setCell_blk (o := 2) (setCell_blk (o := 1) (setCell_blk (o := 0) Gz.out (.int .u32 0)) (.int .i64 0)) (.int .i64 0)) (.int .i64 0))
  have g0 := cell_of hfin 0
  have g1 := cell_of hfin 1
  have g2 := cell_of hfin 2
  have g3 := cell_of hfin 3
  simp at g0 g1 g2 g3
  refine bodyPost_ret (v := .tuple #[zeroW, .int .i64 0, .int .i64 171]) ?_ rfl ⟨rfl, ?_⟩
  · simp [results, Try.results39, Try.f39, go_sem, g0, g1, g2, g3]
  · refine Fr.toNew (Fr.trans (G := fun b => b = bz) (F0.out.mono (fun _ _ h => h.elim)) (Fr.setCell (F := fun b => b = bz) (p := ⟨bz, 3, none⟩) (Fr.setCell (F := fun b => b = bz) (p := ⟨bz, 2, none⟩) (Fr.setCell (F := fun b => b = bz) (p := ⟨bz, 1, none⟩) (Fr.setCell (F := fun b => b = bz) (p := ⟨bz, 0, none⟩) (Fr.refl _ _) (fun _ => rfl) _) (fun _ => rfl) _) (fun _ => rfl) _) (fun _ => rfl) _) (fun b _ e => by rw [e, hbz]; exact Nat.le_refl _))
set_option maxRecDepth 100000 in
set_option maxHeartbeats 4000000 in
theorem get_there' (h : StAt G bl S next w) {x : Int} (hxS : x ∈ S) (hx : next ≤ 1000000000) : Calls Try.prog 39 #[.pointer (some ⟨bl, 0, none⟩), .int .u32 (wW x)] w fun e w' => e = .returned (.tuple #[wtV x, .int .i64 (placeW S x : Nat), .int .i64 0]) ∧ Fr (fun _ => False) w w' := by
  have hro : Fence.wide.round = none := rfl
  have h13 : 1 ≤ 3 := by omega
  have f0 : Fr (fun _ => False) w (w.alloc (.cells #[.int .u32 0, .int .i64 0, .int .i64 0, .int .i64 0] 32)) := Fr.alloc (Fr.refl _ _) _
  have gz : (w.alloc (.cells #[.int .u32 0, .int .i64 0, .int .i64 0, .int .i64 0] 32)).heap[w.heap.size]? = some (.cells #[.int .u32 0, .int .i64 0, .int .i64 0, .int .i64 0] 32 (0, 0)) := heap_alloc_at _ _
  obtain ⟨W0, hW0⟩ : ∃ W0, W0 = w.alloc (.cells #[.int .u32 0, .int .i64 0, .int .i64 0, .int .i64 0] 32) := ⟨_, rfl⟩
  obtain ⟨bz, hbz⟩ : ∃ b, b = w.heap.size := ⟨_, rfl⟩
  rw [← hW0] at f0 gz
  rw [← hbz] at gz
  have h0 := h.keep f0
  have hln := h.len
  obtain ⟨L, f, h1, h2, h3, h4⟩ := id h0
  obtain ⟨bh, bm, GH, g1, g2, g3, g4, g5⟩ := id h1.ex
  have c0 := (cell_of g1 0).trans (show _ = some (Value.pointer (some ⟨bh, 0, none⟩)) from rfl)
  have c1 := (cell_of g1 1).trans (show _ = some (Value.map (some bm)) from rfl)
  have HM := Lib.hid (made_ok g1)
  have hlk := run_lookup2U (P := Try.prog) Try.underlying80 Try.underlying30 g3 (Try.zeroValue3 _) (wW x)
  obtain ⟨i, hi, e1, e2⟩ := h2.some h3 hxS
  rw [e2] at hlk
  simp only [Option.getD_some, Option.isSome_some] at hlk
  obtain ⟨hh, hhh⟩ : ∃ hh, hh = (itAt L i).2 := ⟨_, rfl⟩
  have HG := Lib.hid (get_there less_ok g2 hi)
  rw [← hhh] at hlk
  rw [← hhh, e1] at HG
  have F0 := Lib.hid f0; have Gz := Lib.hid gz; have Hbz := Lib.hid hbz; have G1 := Lib.hid g1; have G2 := Lib.hid g2; have H3 := Lib.hid h3; have Hx := Lib.hid hx; have Hln := Lib.hid hln
  clear h h0 h1 h2 h3 h4 g1 g2 g3 g4 g5 f0 gz hi e1 e2 hhh hxS hx hln
  refine (callsIn_wide (n := 3)).1 (callsIn_of_wp_marks Try.func39 rfl trivial ?_ hro)
  refine wpIn_wide.2 ?_
  simp only [Try.ntmps39, List.size_toArray, List.length_cons, List.length_nil, Nat.reduceAdd, Nat.reduceSub, Array.replicate_succ, Array.replicate_zero, List.push_toArray, List.append_toArray, List.nil_append, List.cons_append]
  go_upto_region 1 with fail
  rw [← hW0, ← hbz]
  clear hW0 hbz
  go_wp2_with fail
  refine HM.out.mono ?_
  rintro e W1 ⟨rfl, rfl⟩
  go_wp2_with fail
  refine HG.out.mono ?_
  rintro e W1 ⟨rfl, fg⟩
  have g1' := fg.get G1.out (fun h => h)
  have gz1 := fg.get Gz.out (fun h => h)
  have hb1 : bz < W1.heap.size := lt_of_block gz1
  have g2' := HpW.fr G2.out fg (fun _ _ h => h)
  have F1 := Lib.hid (F0.out.trans fg (fun _ _ h => h))
  obtain ⟨W2, hW2⟩ : ∃ W2, W2 = (W1.alloc (.cells #[.int .u32 (wW x), .int .i64 (wS x), .int .i64 (wT x), .int .i64 (wC x)] 32)).alloc (.cells #[.int .i64 0] 3) := ⟨_, rfl⟩
  have f2 : Fr (fun _ => False) W1 W2 := by rw [hW2]; exact Fr.alloc (Fr.alloc (Fr.refl _ _) _) _
  obtain ⟨b9, hb9⟩ : ∃ b, b = W1.heap.size := ⟨_, rfl⟩
  obtain ⟨kb, hkb⟩ : ∃ b, b = b9 + 1 := ⟨_, rfl⟩
  have gx : W2.heap[b9]? = some (.cells #[.int .u32 (wW x), .int .i64 (wS x), .int .i64 (wT x), .int .i64 (wC x)] 32 (0, 0)) := by rw [hW2, hb9]; simp only [heap_alloc_get, World.size_alloc]; simp
  have gk : W2.heap[kb]? = some (.cells #[.int .i64 0] 3 (0, 0)) := by rw [hW2, hkb, hb9]; simp only [heap_alloc_get, World.size_alloc]; simp
  have hs2 : W2.heap.size = kb + 1 := by rw [hW2, hkb, hb9]; simp
  replace c0 := (cell_of (f2.get g1' (fun h => h)) 0).trans (show _ = some (Value.pointer (some ⟨bh, 0, none⟩)) from rfl)
  have HA := Lib.hid (all_ok less_ok (HpW.fr g2' f2 (fun _ _ h => h)) Hx.out)
  have F2 := Lib.hid (F1.out.trans f2 (fun _ _ h => h)); have Gz2 := Lib.hid (f2.get gz1 (fun h => h)); have Gx := Lib.hid gx; have Gk := Lib.hid gk; have Hs2 := Lib.hid hs2; have Hb := Lib.hid (show bz < b9 ∧ b9 < kb by omega)
  clear g1' gz1 hb1 g2' f2 gx gk hs2 fg hlk c1
  go_upto_region 8 with fail
  rw [← hb9, ← hkb, ← hW2]
  clear hW2 hb9 hkb
  go_wp2_with fail
  refine HA.out.mono ?_
  rintro e W3 ⟨cb, sv, L', rfl, hBH, hs, hnew, hf3⟩
  have HS := Lib.hid hs; have HBH := Lib.hid hBH; have HF3 := Lib.hid hf3
  have Hq := Lib.hid (show ∀ b, seqP cb sv b → kb + 1 ≤ b ∧ b < W3.heap.size from fun b hb => ⟨by have := hnew b hb; have := Hs2.out; omega, hs.lt b hb⟩)
  have Gx3 := Lib.hid (hf3.get Gx.out (fun h => h)); have Gk3 := Lib.hid (hf3.get Gk.out (fun h => h)); have Gz3 := Lib.hid (hf3.get Gz2.out (fun h => h))
  have Hl3 := Lib.hid (show kb < W3.heap.size from lt_of_block (hf3.get Gk.out (fun h => h)))
  have HLl := Lib.hid (show L'.length ≤ 1024 by have := hBH.1.length_eq; have := H3.out.length_eq; simp at this; have := Hln.out; omega)
  clear hs hBH hf3 hnew c0
  go_wp2_with fail
  refine (wpIn_wide (n := 3)).1 ?_
  refine range_boxed hro h13 (gf := 112) (lb := #[.pointer (some ⟨cb, 0, none⟩)]) rfl trivial (enters_of Try.func112 (by kernel_rfl) rfl)
    (all_stops Fence.wide (3 - 1) trivial hro (by omega) HS.out (seqP cb sv) (fun _ h => h)) (fun b hb => (Hq.out b hb).2) (Below.refl _ _) (fun _ => rfl)
    (fun pre W => W.heap[kb]? = some (.cells #[.int .i64 (placeW (pre.map Prod.fst) x : Nat)] 3 (0, 0)) ∧ Fr (fun b => b = kb) W3 W)
    (fun _ _ _ => False)
    ?own ?ownx ⟨Gk3.out, Fr.refl _ _⟩ (fun _ _ h => h.2.size) (fun y => #[.int .u32 (wW y.1), .int .i64 (wS y.1), .int .i64 (wT y.1), .int .i64 (wC y.1)]) 32 ?a1 ?assign ?body ?done ?stop
  case own =>
    rintro s A B' row ⟨hs, hf⟩ hg hr
    have f := grownBy.fr hg
    refine ⟨no_cells (fun r e => (hr r e).2) hg hs, hf.trans f ?_⟩
    intro i hi e; have := (hr _ e).1; omega
  case ownx =>
    intro c s A B' row hs _ _
    exact hs
  case assign =>
    intro l y W' K hK
    obtain ⟨b, hb⟩ : ∃ b, b = W'.heap.size := ⟨_, rfl⟩
    simp only [encS]
    gi_wp2
    rw [← hb]
    exact hK b hb
  case body =>
    rintro l pre ⟨y, yh⟩ b W' hbw hby ⟨hk, hfr⟩ hlt
    have hx9 := hfr.get Gx3.out (by have := Hb.out; omega)
    obtain ⟨y0, y1, y2, y3⟩ := boxW_cells hby
    obtain ⟨x0, x1, x2, x3⟩ := boxW_cells hx9
    obtain ⟨cnt, hcnt⟩ : ∃ c : Nat, c = placeW (pre.map Prod.fst) x := ⟨_, rfl⟩
    rw [← hcnt] at hk
    have ck := (cell_of hk 0).trans (show _ = some (Value.int .i64 (cnt : Int)) from rfl)
    have zk := free_of hk 0
    have lkb := lt_of_block hk
    have hc1 : cnt ≤ pre.length := by rw [hcnt]; unfold placeW; exact Nat.le_trans (List.countP_le_length) (by simp)
    have hc2 : (cnt : Int) ≤ 100000 := by have := HLl.out; omega
    have hcn : placeW ((pre ++ [(y, yh)]).map Prod.fst) x = cnt + (if ltW y x then 1 else 0) := by
      rw [hcnt]; unfold placeW; simp [List.countP_append, List.countP_cons]
    have Hk := Lib.hid hk; have Hfr := Lib.hid hfr; have Hcn := Lib.hid hcn
    obtain ⟨bq, hbq⟩ : ∃ b : Bool, decide (ordW y x < 0) = b := ⟨_, rfl⟩
    have Hbq := Lib.hid (show ltW y x = bq from hbq)
    clear hk hfr hcn hcnt hx9 hby hlt hbw hc1
    cases bq with
    | true =>
      gi_wp2_with (refine ⟨trivial, ?_⟩; gi_at_call 32; refine (callsIn_wide.2 (order_ok y x _)).mono ?_; rintro e w5 ⟨rfl, hg⟩; have fg := Fr.grown (F := fun _ => False) hg; have ck5 := (fg.cell lkb (fun h => h)).trans ck; have zk5 := (fg.frozen lkb (fun h => h)).trans zk; have FG := Lib.hid fg; clear hg fg)
      have hk5 := FG.out.get Hk.out (fun h => h)
      have fs : Fr (fun b => b = kb) W' (w5.setCell ⟨kb, 0, none⟩ (.int .i64 ((cnt : Int) + 1))) := Fr.setCell (F := fun b => b = kb) (p := ⟨kb, 0, none⟩) (FG.out.mono (fun _ _ h => h.elim)) (fun _ => rfl) _
      refine ⟨⟨fs.size, fun k o hk ho _ => fs.get ho (fun e => by have := Hl3.out; omega)⟩, KeepsB.of_fr fs (fun b hb e => by have := (Hq.out b hb).1; omega), ?_, Hfr.out.trans fs (fun _ _ e => e)⟩
      have := setCell_blk (o := 0) hk5 (.int .i64 ((cnt : Int) + 1))
      rw [Hcn.out, Hbq.out]
      simpa using this
    | false =>
      gi_wp2_with (refine ⟨trivial, ?_⟩; gi_at_call 32; refine (callsIn_wide.2 (order_ok y x _)).mono ?_; rintro e w5 ⟨rfl, hg⟩; have fg := Fr.grown (F := fun _ => False) hg; have ck5 := (fg.cell lkb (fun h => h)).trans ck; have zk5 := (fg.frozen lkb (fun h => h)).trans zk; have FG := Lib.hid fg; clear hg fg)
      have hk5 := FG.out.get Hk.out (fun h => h)
      refine ⟨⟨FG.out.size, fun k o hk ho _ => FG.out.get ho (fun h => h)⟩, KeepsB.of_fr FG.out (fun _ _ h => h), ?_, Hfr.out.trans FG.out (fun _ _ h => h.elim)⟩
      rw [Hcn.out, Hbq.out]
      simpa using hk5
  case done =>
    rintro D ys W' hD rfl ⟨hk, hfr⟩ hK
    rw [placeW_perm ((HBH.out.1.map Prod.fst).trans H3.out) x] at hk
    have hx9 := hfr.get Gx3.out (by have := Hb.out; omega)
    have hz9 := hfr.get Gz3.out (by have := Hb.out; omega)
    obtain ⟨x0, x1, x2, x3⟩ := boxW_cells hx9
    have ck := (cell_of hk 0).trans (show _ = some (Value.int .i64 ((placeW S x : Nat) : Int)) from rfl)
    have z0 := (cell_of hz9 0).trans (show _ = some (Value.int .u32 0) from rfl)
    have y0 := free_of hz9 0
    have z1 := (cell_of hz9 1).trans (show _ = some (Value.int .i64 0) from rfl)
    have y1 := free_of hz9 1
    have z2 := (cell_of hz9 2).trans (show _ = some (Value.int .i64 0) from rfl)
    have y2 := free_of hz9 2
    have z3 := (cell_of hz9 3).trans (show _ = some (Value.int .i64 0) from rfl)
    have y3 := free_of hz9 3
    have hDz : D ≠ bz := by
      intro e; subst e; rw [hK] at hz9; cases hz9
    have Hfr := Lib.hid hfr; have HK := Lib.hid hK; have Hz9 := Lib.hid hz9; have HDz := Lib.hid hDz
    have HD1 := Lib.hid (show w.heap.size ≤ D by have := F2.out.size; have := HF3.out.size; omega)
    clear hk hfr hK hx9 hz9 hDz hD
    have n1 : ¬ kb = bz := by have := Hb.out; omega
    have n2 : ¬ bz = kb := fun e => n1 e.symm
    have n3 : ¬ b9 = bz := by have := Hb.out; omega
    have n4 : ¬ bz = b9 := fun e => n3 e.symm
    go_upto_region 12 with fail
    go_region
    all_goals go_wp2_with fail
    go_wp2_with fail
    have fz : Fr (fun b => b = bz) W' ((((W'.setCell ⟨bz, 0, none⟩ (.int .u32 (wW x))).setCell ⟨bz, 1, none⟩ (.int .i64 (wS x))).setCell ⟨bz, 2, none⟩ (.int .i64 (wT x))).setCell ⟨bz, 3, none⟩ (.int .i64 (wC x))).drew := Fr.drew (Fr.setCell (F := fun b => b = bz) (p := ⟨bz, 3, none⟩) (Fr.setCell (F := fun b => b = bz) (p := ⟨bz, 2, none⟩) (Fr.setCell (F := fun b => b = bz) (p := ⟨bz, 1, none⟩) (Fr.setCell (F := fun b => b = bz) (p := ⟨bz, 0, none⟩) (Fr.refl _ _) (fun _ => rfl) (.int .u32 (wW x))) (fun _ => rfl) (.int .i64 (wS x))) (fun _ => rfl) (.int .i64 (wT x))) (fun _ => rfl) (.int .i64 (wC x)))
    have hfin : ((((W'.setCell ⟨bz, 0, none⟩ (.int .u32 (wW x))).setCell ⟨bz, 1, none⟩ (.int .i64 (wS x))).setCell ⟨bz, 2, none⟩ (.int .i64 (wT x))).setCell ⟨bz, 3, none⟩ (.int .i64 (wC x))).drew.heap[bz]? = some (.cells #[.int .u32 (wW x), .int .i64 (wS x), .int .i64 (wT x), .int .i64 (wC x)] 32 (0, 0)) := (setCell_blk (o := 3) (setCell_blk (o := 2) (setCell_blk (o := 1) (setCell_blk (o := 0) Hz9.out (.int .u32 (wW x))) (.int .i64 (wS x))) (.int .i64 (wT x))) (.int .i64 (wC x)))
    generalize ((((W'.setCell ⟨bz, 0, none⟩ (.int .u32 (wW x))).setCell ⟨bz, 1, none⟩ (.int .i64 (wS x))).setCell ⟨bz, 2, none⟩ (.int .i64 (wT x))).setCell ⟨bz, 3, none⟩ (.int .i64 (wC x))).drew = W9 at *
    have hKz := fz.get HK.out HDz.out
    refine ⟨by simp, .inl ⟨_, _, rfl, run_takeDeferred hKz, ?_⟩⟩
    have fD := putObj_fr W9 D (.deferred none)
    have hfin2 := fD.get hfin (fun e => HDz.out e.symm)
    have g0 := cell_of hfin2 0
    have g1 := cell_of hfin2 1
    have g2 := cell_of hfin2 2
    have g3 := cell_of hfin2 3
    simp at g0 g1 g2 g3
    refine ⟨.tuple #[wtV x, .int .i64 (placeW S x : Nat), .int .i64 0], ?_, rfl, ?_⟩
    · simp [results, Try.results39, Try.f39, go_sem, g0, g1, g2, g3]
    · refine Fr.toNew (((Fr.trans (G := fun b => b = kb) ((F2.out.trans HF3.out (fun _ _ h => h)).mono (fun _ _ h => h.elim)) Hfr.out ?_).trans fz ?_).trans fD ?_)
      · intro b _ e; have := Hb.out; have := Hbz.out; omega
      · intro b _ e; have := Hbz.out; omega
      · intro b _ e; have := HD1.out; omega
  case stop =>
    rintro D c pre W' hD hpre h hK
    exact h.elim
end
end Go.Proofs.Ytjfnaflbhmeokaa.Wt
