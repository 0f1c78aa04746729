/- Texts put together: The contract of Push of a heap of what is due. Condition: the next handle is below 2^62, The contracts of Get, Set, Drop, Pop, and of Push at a full heap, The contracts of Set and New, A book in memory; the order of what is due, Blocks that lie as they lay, A book: the order of what is due; there, S. No condition. -/
import Derived.StillTailTactics
import Derived.RangeFuncNested
import Derived.RangeFuncBound
import Derived.RangeFuncCalls
import Derived.RangeFuncLeaves
import Derived.RangeFuncBox
import Derived.Shelf.Abstract
import Derived.Shelf.RegionOpen
import Derived.OwnWalkIn
import Derived.TacticsInMore
import Derived.LoopNIn
import Derived.LoopIn
import Derived.RangeFuncFrom
import Derived.RangeFuncWrites
import Derived.Test.YtffnjnnmlfgngaaGreatProg
import Derived.Lib.Hide
import Derived.Deep.RegionHeld3
import Derived.Deep.QuietTactic
import Derived.BigQuiet
import Derived.Deep.DeepCutAuto
import Derived.Deep.CutBlock
import Derived.Deep.LoopGhost
import Derived.Laws.IdiomCopy
import Derived.Shelf.SlSortCmp.WholeK
import Derived.Shelf.SlSortCmp.NoneTotal
import Derived.Laws.Tables
import Derived.Test.YtffnjnnmlfgngaaGreatM1
namespace Go.Proofs.YtffnjnnmlfgngaaGreat.Du
open Go.RowKit
def pushF (lt : Int → Int → Bool) (L : List It) (v next : Int) : List It := settleF lt (L ++ [(v, next)]) L.length
theorem Tryz.infoDueItem : (Tryz.prog.info? 199).map (fun i => (i.zero, i.size, i.bytes)) = some (some (.agg #[.int .i64 0, .int .u32 0, .int .i64 0]), 3, 24) := by kernel_rfl
section
variable {J : World → Prop} {FJ : Nat → Prop} {A : Int → Prop} {fv : Value} {G : Nat → Prop} {bh : Nat} {L : List It} {next : Int} {w : World}
variable {lt : Int → Int → Bool} {fl : Nat} {caps : Array Value} (hL : LessOk Tryz.prog fv lt J FJ A fl caps)
include hL
set_option maxRecDepth 100000 in
set_option maxHeartbeats 1000000 in
theorem push_room {w0 : World} (h0' : HeapIs J FJ A fv G bh L next w0) (hn : L.length < 65536) (hx : next < 5000000000) {v : Int} (hv : A v) :
    Calls Tryz.prog 84 #[.pointer (some ⟨bh, 0, none⟩), dueT v] w0 fun e w' => e = .returned (.tuple #[.int .i64 next, .int .i64 0]) ∧
      ∃ G', HeapIs J FJ A fv G' bh (pushF lt L v next) (next + 1) w' ∧ Fr (fun b => FJ b ∨ G b) w0 w' ∧ Grew w0 G G' := by
  have f01 : Fr (fun _ => False) w0 (w0.alloc (.cells #[.int .i64 (dU v), .int .u32 (dI v)] 111)) := Fr.alloc (Fr.refl _ _) _
  have gz : (w0.alloc (.cells #[.int .i64 (dU v), .int .u32 (dI v)] 111)).heap[w0.heap.size]? = some (.cells #[.int .i64 (dU v), .int .u32 (dI v)] 111 (0, 0)) := heap_alloc_at _ _
  have h := HeapIs.keepFr hL h0' f01
  have hxG : ∀ b, G b → b < w0.heap.size := h0'.bd
  refine Calls.mono (R := fun e w' => ∃ w1 : World, Fr (fun _ => False) w0 w1 ∧ e = .returned (.tuple #[.int .i64 next, .int .i64 0]) ∧ ∃ G', HeapIs J FJ A fv G' bh (pushF lt L v next) (next + 1) w' ∧ Fr (fun b => FJ b ∨ G b) w1 w' ∧ Grew w1 G G') ?_ (by
    rintro e w' ⟨w1, f1, rfl, G', a1, a2, a3⟩
    exact ⟨rfl, G', a1, (f1.mono (fun _ _ h => h.elim)).trans a2 (fun _ _ h => h), fun b hb => (a3 b hb).imp id (fun h => Nat.le_trans f1.size h)⟩)
  go_enter Tryz.func84, Tryz.ntmps84
  go_upto_region 1 with fail
  obtain ⟨w, hwe⟩ : ∃ w, w = w0.alloc (.cells #[.int .i64 (dU v), .int .u32 (dI v)] 111) := ⟨_, rfl⟩
  rw [← hwe] at f01 gz h ⊢
  obtain ⟨bx, hbx⟩ : ∃ bx, bx = w0.heap.size := ⟨_, rfl⟩
  rw [← hbx] at gz hxG ⊢
  have bz0 : w.cell? ⟨bx, 0, none⟩ = some (.int .i64 (dU v)) := (cell_of gz 0).trans (by rfl)
  have bz1 : w.cell? ⟨bx, 1, none⟩ = some (.int .u32 (dI v)) := (cell_of gz 1).trans (by rfl)
  have nbx : ¬ bh = bx := fun e => by have := hxG bh h.gh; omega
  have nbx' : ¬ bx = bh := fun e => nbx e.symm
  have F01 := Lib.hid f01; have HxG := Lib.hid hxG; have Gz := Lib.hid gz
  clear f01 hxG hwe hbx h0' gz
  obtain ⟨sv, bm, hH, hR, ⟨f, hM, hP⟩, gm, gs⟩ := h.ex
  have c1 := cell_of hH 1
  have c2 := cell_of hH 2
  have c3 := cell_of hH 3
  have z1 := free_of hH 1
  have z3 := free_of hH 3
  simp at c1 c2 c3
  obtain ⟨sa, sc, hsv⟩ : ∃ a c, sv = .slice a L.length c := by
    rcases hR.2 with ⟨rfl, h0⟩ | ⟨g, cap, cur, rfl, _⟩
    · exact ⟨none, 0, by rw [h0]⟩
    · exact ⟨_, _, rfl⟩
  have h0 := h.nx
  have hge : decide (65536 ≤ L.length) = false := by simp; omega
  have hge' : decide ((65536 : Int) ≤ (L.length : Int)) = false := by simp; omega
  have Hn := Lib.hid hn; clear hn
  have HL := Lib.hid hL; have Hh := Lib.hid h; have HR := Lib.hid hR; have HH := Lib.hid hH
  have HM := Lib.hid hM; have HP := Lib.hid hP; have Gs := Lib.hid gs; have Gm := Lib.hid gm
  clear hL h hH hR hM hP gs gm
  subst hsv
  go_wp2_with fail
  refine (none_ok HL.out Hh.out).mono ?_
  rintro e w' ⟨rfl, rfl⟩
  go_upto_region 7 with fail
  go_cut [6] (fun s6 wx => s6 = .int .i64 next ∧ ∃ sv', wx.heap[bh]? = some (.cells #[fv, sv', .map (some bm), .int .i64 (next + 1)] 160 (0, 0)) ∧ Row wx 199 3 sv' (L.length + 1) (flat (L ++ [(v, next)])) ∧ Fr (fun b => b = bh ∨ (Value.slice sa L.length sc).ownBlock = some b) w wx ∧
    (sv'.ownBlock = (Value.slice sa L.length sc).ownBlock ∨ ∃ b, sv'.ownBlock = some b ∧ w.heap.size ≤ b))
  case first =>
    obtain ⟨i0, hi, hz0, hz1, hz2⟩ := info_parts Tryz.infoDueItem
    have hfr : Fr (fun b => b = bh) w ((w.setCell ⟨bh, 3, none⟩ (.int .i64 (next + 1))).drew.alloc (.cells #[.int .i64 (dU v), .int .u32 (dI v), .int .i64 next] 199)) := Fr.alloc (Fr.drew (Fr.setCell (Fr.refl _ _) (by intro _; rfl) _)) _
    have hne : (Value.slice sa L.length sc).ownBlock ≠ some bh := by
      intro e
      rcases HR.out.2 with ⟨e2, _⟩ | ⟨g, cap, cur, e2, _, h2, _⟩
      · rw [e2] at e; simp [Value.ownBlock] at e
      · rw [e2] at e; simp only [Value.ownBlock, Option.some.injEq] at e
        rw [e, HH.out] at h2; simp at h2
    have hR2 := Row.fr HR.out hfr (fun b hb e => hne (by rw [hb, e]))
    obtain ⟨v', w3, hrun, hR3, hf3, ho3⟩ := run_append_fr (P := Tryz.prog) _ 158 158 199 i0 _ 3 24 Tryz.underlying158 hi hz0 hz1 hz2 rfl (by decide) _ _ _ hR2 ⟨w.heap.size, 0, none⟩ 1 1 [.int .i64 (dU v), .int .u32 (dI v), .int .i64 next] rfl
      (by intro j u hu; match j, hu with
          | 0, hu => simp at hu; subst hu; simp [Addr.add, World.cell?_alloc_at]
          | 1, hu => simp at hu; subst hu; simp [Addr.add, World.cell?_alloc_at]
          | 2, hu => simp at hu; subst hu; simp [Addr.add, World.cell?_alloc_at])
      (by intro u hu; simp at hu; rcases hu with rfl | rfl | rfl <;> rfl) (by unfold maxLen; have := Hn.out; omega) (by have := Hn.out; omega)
    have hW2 : ((w.setCell ⟨bh, 3, none⟩ (.int .i64 (next + 1))).drew.alloc (.cells #[.int .i64 (dU v), .int .u32 (dI v), .int .i64 next] 199)).heap[bh]? = some (.cells #[fv, .slice sa L.length sc, .map (some bm), .int .i64 (next + 1)] 160 (0, 0)) := by
      rw [heap_alloc_old _ _ _ (by simpa using lt_of_block HH.out)]
      exact setCell_blk HH.out _
    have e1A : (World.alloc (w.setCell ⟨bh, 3, none⟩ (.int .i64 (next + 1))) (.cells #[.int .i64 (dU v), .int .u32 (dI v), .int .i64 next] 199)).cell? ⟨bh, 1, none⟩ = some (.slice sa L.length sc) := (cell_of hW2 1).trans (by rfl)
    have hw3 := hf3.get hW2 hne
    obtain ⟨a', c', hv'⟩ : ∃ a' c', v' = .slice a' (L.length + 1) c' := by
      rcases hR3.2 with ⟨rfl, h0⟩ | ⟨g, cap, cur, rfl, _⟩
      · exact ⟨none, 0, by rw [h0]⟩
      · exact ⟨_, _, rfl⟩
    subst hv'
    have x1 := cell_of hw3 1
    have y1 := free_of hw3 1
    simp at x1
    have Hw3 := Lib.hid hw3; have HR3 := Lib.hid hR3; have Hf3 := Lib.hid hf3; have Ho3 := Lib.hid ho3; have Hfr := Lib.hid hfr; have Hne := Lib.hid hne
    clear hw3 hR3 hf3 ho3 hfr hne hR2 hW2 hi hz0 hz1 hz2 hge hge'
    have Hrun := Lib.hid hrun; clear hrun
    go_upto_region 7 with fail
    refine region_any (by kernel_rfl) ?_
    refine wpAny_take (i := 0) (v := ?_) rfl (by kernel_rfl) (by kernel_rfl) (by kernel_rfl) (fun _ _ _ h => h) (Or.inl ⟨by rfl, ?_⟩) ?_
    rotate_left
    · intro w'; go_simp; try with_reducible rfl
    try simp only [Act.put, List.getElem_toArray, List.getElem_cons_zero, List.setIfInBounds_toArray, List.set_cons_zero, List.set_cons_succ]
    refine wpAny_take (i := 1) (v := ?_) rfl (by kernel_rfl) (by kernel_rfl) (by kernel_rfl) (fun _ _ _ h => h) (Or.inl ⟨by rfl, ?_⟩) ?_
    rotate_left
    · intro w'; go_simp; try with_reducible rfl
    try simp only [Act.put, sL]
    refine wpAny_take (i := 2) (v := ?_) rfl (by kernel_rfl) (by kernel_rfl) (by kernel_rfl) (fun _ _ _ h => h) (Or.inl ⟨by rfl, ?_⟩) ?_
    rotate_left
    · intro w'; go_simp; try with_reducible rfl
    try simp only [Act.put, sL]
    refine wpAny_take (i := 3) (v := ?_) rfl (by kernel_rfl) (by kernel_rfl) (by kernel_rfl) (fun _ _ _ h => h) (Or.inl ⟨by rfl, ?_⟩) ?_
    rotate_left
    · intro w'; go_simp; try with_reducible rfl
    try simp only [Act.put, sL]
    refine wpAny_take (i := 6) (v := ?_) rfl (by kernel_rfl) (by kernel_rfl) (by kernel_rfl) (fun _ _ _ h => h) (Or.inl ⟨by rfl, ?_⟩) ?_
    rotate_left
    · intro w'; go_simp; try with_reducible rfl
    try simp only [Act.put, sL]
    refine wpAny_ready (rs := [4, 5]) (by kernel_rfl) (by simp) ?_
    refine AllReady.cons rfl (fun K hK => ?_) (AllReady.cons rfl (fun K hK => ?_) AllReady.nil)
    · have HK := Lib.hid hK; clear hK
      go_simp
      refine HK.out _ _ ?_
      clear HK K
      try simp only [Act.put, sL]
      refine wpAny_ready (rs := [5]) (by kernel_rfl) (by simp) ?_
      refine AllReady.cons rfl (fun K hK => ?_) AllReady.nil
      have HK := Lib.hid hK; clear hK
      go_simp
      refine HK.out _ _ ?_
      clear HK K
      try simp only [Act.put, sL]
      refine wpAny_take (i := 7) (v := ?_) rfl (by kernel_rfl) (by kernel_rfl) (by kernel_rfl) (fun _ _ _ h => h) (Or.inl ⟨by rfl, ?_⟩) ?_
      rotate_left
      · intro w'; go_simp; try with_reducible rfl
      try simp only [Act.put, sL]
      refine wpAny_ready (rs := [8]) (by kernel_rfl) (by simp) ?_
      refine AllReady.cons rfl (fun K hK => ?_) AllReady.nil
      have HK := Lib.hid hK; clear hK
      go_simp
      refine HK.out _ _ ?_
      clear HK K
      try simp only [Act.put, sL]
      refine wpAny_ready (rs := [9]) (by kernel_rfl) (by simp) ?_
      refine AllReady.cons rfl (fun K hK => ?_) AllReady.nil
      refine ite_take (by kernel_rfl) ?_
      refine wp_append_run rfl rfl rfl Hrun.out ?_
      refine hK _ _ ?_
      clear hK K
      try simp only [Act.put, sL]
      refine wpAny_take (i := 10) (v := ?_) rfl (by kernel_rfl) (by kernel_rfl) (by kernel_rfl) (fun _ _ _ h => h) (Or.inl ⟨by rfl, ?_⟩) ?_
      rotate_left
      · intro w'; go_simp; try with_reducible rfl
      try simp only [Act.put, sL]
      refine wpAny_take (i := 11) (v := ?_) rfl (by kernel_rfl) (by kernel_rfl) (by kernel_rfl) (fun _ _ _ h => h) (Or.inl ⟨by rfl, ?_⟩) ?_
      rotate_left
      · intro w'; go_simp; try with_reducible rfl
      try simp only [Act.put, sL]
      refine wpAny_ready (rs := [12]) (by kernel_rfl) (by simp) ?_
      refine AllReady.cons rfl (fun K hK => ?_) AllReady.nil
      have HK := Lib.hid hK; clear hK
      go_simp
      refine HK.out _ _ ?_
      clear HK K
      try simp only [Act.put, sL]
      refine wpAny_done (by kernel_rfl) ?_ _
      go_wp2_with fail
      go_meet
      have hlb := lt_of_block HH.out
      have hne3 : ∀ b, (Value.slice a' (L.length + 1) c').ownBlock = some b → b ≠ bh := by
        intro b hb e
        rcases Ho3.out with h | h
        · exact Hne.out (by rw [← h, hb, e])
        · rw [h] at hb; simp at hb; omega
      refine ⟨rfl, .slice a' (L.length + 1) c', ?_, ?_, ?_, ?_⟩
      · exact setCell_blk Hw3.out _
      · rw [flat_append]
        exact Row.fr HR3.out (Fr.setCell (F := fun b => b = bh) (Fr.refl _ _) (by intro _; rfl) _) (fun b hb => hne3 b hb)
      · exact Fr.setCell ((Hfr.out.mono (fun _ _ h => Or.inl h)).trans Hf3.out (fun _ _ h => Or.inr h)) (by intro _; exact Or.inl rfl) _
      · rcases Ho3.out with h | h
        · exact .inl h
        · refine .inr ⟨_, h, by simp⟩
    · have HK := Lib.hid hK; clear hK
      go_simp
      refine HK.out _ _ ?_
      clear HK K
      try simp only [Act.put, sL]
      refine wpAny_take (i := 7) (v := ?_) rfl (by kernel_rfl) (by kernel_rfl) (by kernel_rfl) (fun _ _ _ h => h) (Or.inl ⟨by rfl, ?_⟩) ?_
      rotate_left
      · intro w'; go_simp; try with_reducible rfl
      try simp only [Act.put, sL]
      refine wpAny_ready (rs := [4, 8]) (by kernel_rfl) (by simp) ?_
      refine AllReady.cons rfl (fun K hK => ?_) (AllReady.cons rfl (fun K hK => ?_) AllReady.nil)
      · have HK := Lib.hid hK; clear hK
        go_simp
        refine HK.out _ _ ?_
        clear HK K
        try simp only [Act.put, sL]
        refine wpAny_ready (rs := [8]) (by kernel_rfl) (by simp) ?_
        refine AllReady.cons rfl (fun K hK => ?_) AllReady.nil
        have HK := Lib.hid hK; clear hK
        go_simp
        refine HK.out _ _ ?_
        clear HK K
        try simp only [Act.put, sL]
        refine wpAny_ready (rs := [9]) (by kernel_rfl) (by simp) ?_
        refine AllReady.cons rfl (fun K hK => ?_) AllReady.nil
        refine ite_take (by kernel_rfl) ?_
        refine wp_append_run rfl rfl rfl Hrun.out ?_
        refine hK _ _ ?_
        clear hK K
        try simp only [Act.put, sL]
        refine wpAny_take (i := 10) (v := ?_) rfl (by kernel_rfl) (by kernel_rfl) (by kernel_rfl) (fun _ _ _ h => h) (Or.inl ⟨by rfl, ?_⟩) ?_
        rotate_left
        · intro w'; go_simp; try with_reducible rfl
        try simp only [Act.put, sL]
        refine wpAny_take (i := 11) (v := ?_) rfl (by kernel_rfl) (by kernel_rfl) (by kernel_rfl) (fun _ _ _ h => h) (Or.inl ⟨by rfl, ?_⟩) ?_
        rotate_left
        · intro w'; go_simp; try with_reducible rfl
        try simp only [Act.put, sL]
        refine wpAny_ready (rs := [12]) (by kernel_rfl) (by simp) ?_
        refine AllReady.cons rfl (fun K hK => ?_) AllReady.nil
        have HK := Lib.hid hK; clear hK
        go_simp
        refine HK.out _ _ ?_
        clear HK K
        try simp only [Act.put, sL]
        refine wpAny_done (by kernel_rfl) ?_ _
        go_wp2_with fail
        go_meet
        have hlb := lt_of_block HH.out
        have hne3 : ∀ b, (Value.slice a' (L.length + 1) c').ownBlock = some b → b ≠ bh := by
          intro b hb e
          rcases Ho3.out with h | h
          · exact Hne.out (by rw [← h, hb, e])
          · rw [h] at hb; simp at hb; omega
        refine ⟨rfl, .slice a' (L.length + 1) c', ?_, ?_, ?_, ?_⟩
        · exact setCell_blk Hw3.out _
        · rw [flat_append]
          exact Row.fr HR3.out (Fr.setCell (F := fun b => b = bh) (Fr.refl _ _) (by intro _; rfl) _) (fun b hb => hne3 b hb)
        · exact Fr.setCell ((Hfr.out.mono (fun _ _ h => Or.inl h)).trans Hf3.out (fun _ _ h => Or.inr h)) (by intro _; exact Or.inl rfl) _
        · rcases Ho3.out with h | h
          · exact .inl h
          · refine .inr ⟨_, h, by simp⟩
      · have HK := Lib.hid hK; clear hK
        go_simp
        refine HK.out _ _ ?_
        clear HK K
        try simp only [Act.put, sL]
        refine wpAny_ready (rs := [4]) (by kernel_rfl) (by simp) ?_
        refine AllReady.cons rfl (fun K hK => ?_) AllReady.nil
        have HK := Lib.hid hK; clear hK
        go_simp
        refine HK.out _ _ ?_
        clear HK K
        try simp only [Act.put, sL]
        refine wpAny_ready (rs := [9]) (by kernel_rfl) (by simp) ?_
        refine AllReady.cons rfl (fun K hK => ?_) AllReady.nil
        refine ite_take (by kernel_rfl) ?_
        refine wp_append_run rfl rfl rfl Hrun.out ?_
        refine hK _ _ ?_
        clear hK K
        try simp only [Act.put, sL]
        refine wpAny_take (i := 10) (v := ?_) rfl (by kernel_rfl) (by kernel_rfl) (by kernel_rfl) (fun _ _ _ h => h) (Or.inl ⟨by rfl, ?_⟩) ?_
        rotate_left
        · intro w'; go_simp; try with_reducible rfl
        try simp only [Act.put, sL]
        refine wpAny_take (i := 11) (v := ?_) rfl (by kernel_rfl) (by kernel_rfl) (by kernel_rfl) (fun _ _ _ h => h) (Or.inl ⟨by rfl, ?_⟩) ?_
        rotate_left
        · intro w'; go_simp; try with_reducible rfl
        try simp only [Act.put, sL]
        refine wpAny_ready (rs := [12]) (by kernel_rfl) (by simp) ?_
        refine AllReady.cons rfl (fun K hK => ?_) AllReady.nil
        have HK := Lib.hid hK; clear hK
        go_simp
        refine HK.out _ _ ?_
        clear HK K
        try simp only [Act.put, sL]
        refine wpAny_done (by kernel_rfl) ?_ _
        go_wp2_with fail
        go_meet
        have hlb := lt_of_block HH.out
        have hne3 : ∀ b, (Value.slice a' (L.length + 1) c').ownBlock = some b → b ≠ bh := by
          intro b hb e
          rcases Ho3.out with h | h
          · exact Hne.out (by rw [← h, hb, e])
          · rw [h] at hb; simp at hb; omega
        refine ⟨rfl, .slice a' (L.length + 1) c', ?_, ?_, ?_, ?_⟩
        · exact setCell_blk Hw3.out _
        · rw [flat_append]
          exact Row.fr HR3.out (Fr.setCell (F := fun b => b = bh) (Fr.refl _ _) (by intro _; rfl) _) (fun b hb => hne3 b hb)
        · exact Fr.setCell ((Hfr.out.mono (fun _ _ h => Or.inl h)).trans Hf3.out (fun _ _ h => Or.inr h)) (by intro _; exact Or.inl rfl) _
        · rcases Ho3.out with h | h
          · exact .inl h
          · refine .inr ⟨_, h, by simp⟩
  case rest =>
    obtain ⟨rfl, sv', hH2, hR2, hf2, ho2⟩ := hcut
    have e1 := cell_of hH2 1
    have e2 := cell_of hH2 2
    simp at e1 e2
    have hne2 : L.length + 1 ≠ 0 := by omega
    obtain ⟨bi, cap, arr, rfl, hcl, hcm, hI, hs, hc⟩ := row_at (L := L ++ [(v, next)]) (by simpa using hR2) (by simp)
    simp only [List.length_append, List.length_cons, List.length_nil, Nat.zero_add] at e1 hcl
    have gbm : bm < w.heap.size := HM.out.lt
    have nbm : ¬ (bm = bh ∨ (Value.slice sa L.length sc).ownBlock = some bm) := by
      rintro (e | e)
      · obtain ⟨l, c, hb, _⟩ := HM.out; rw [e, HH.out] at hb; simp at hb
      · obtain ⟨l, c, hb, _⟩ := HM.out
        rcases HR.out.2 with ⟨e3, _⟩ | ⟨g, cap2, cur, e3, _, h2, _⟩
        · rw [e3] at e; simp [Value.ownBlock] at e
        · rw [e3] at e; simp only [Value.ownBlock, Option.some.injEq] at e
          rw [e, hb] at h2; simp at h2
    have hM2 : IMap wc bm f := HM.out.fr hf2 nbm
    obtain ⟨es, c, hrun, hM3⟩ := run_update (P := Tryz.prog) Tryz.underlying157 Tryz.underlying3 (w := wc.drew) hM2 next (L.length : Int)
    have hc1 : ∀ a, (setMap wc.drew bm es c).cell? a = wc.cell? a := by
      obtain ⟨l, c0, hb, _⟩ := hM2; exact fun a => setMap_cell (w := wc.drew) hb es c a
    have ew : IntKind.i64.wrap (L.length : Int) = (L.length : Int) := IntWalk.i64_in _ (by have := Hn.out; omega)
    have HM3 := Lib.hid hM3; have HH2 := Lib.hid hH2; have Hf2 := Lib.hid hf2; have HI := Lib.hid hI; have Hs := Lib.hid hs; have Hc := Lib.hid hc; have Ho2 := Lib.hid ho2
    clear hM2 hM3 hH2 hf2 hI hs hc hR2 ho2 c1 c2 c3 z1 z3
    go_wp2_with fail
    go_region_held3 (fun w' => w'.cell? ⟨bh,1,none⟩ = some (.slice (some ⟨bi,0,none⟩) (L.length + 1) cap) ∧ w'.cell? ⟨bh,2,none⟩ = some (.map (some bm))) (go_keep) (fail)
    go_wp2_with fail
    have hpl : PlaceOf (fun j => if j = next then some (L.length : Int) else f j) (L ++ [(v, next)]) :=
      HP.out.push (fun i hi e => by have := Hh.out.hs i hi; omega)
    have hfx : Fr (fun b => b = bh ∨ (Value.slice sa L.length sc).ownBlock = some b ∨ b = bm) w (setMap wc.drew bm es c) := by
      refine Fr.setMap (Fr.drew (Hf2.out.mono ?_)) (fun _ => Or.inr (Or.inr rfl)) _ _
      rintro b _ (h | h)
      · exact .inl h
      · exact .inr (.inl h)
    have hg : ∀ b, (b = bh ∨ (Value.slice sa L.length sc).ownBlock = some b ∨ b = bm) → G b := by
      rintro b (rfl | h | rfl)
      · exact Hh.out.gh
      · exact Gs.out b h
      · exact Gm.out
    have hJ : J (setMap wc.drew bm es c) := HL.out.keep w _ Hh.out.j (hfx.mono (fun b _ hb => Hh.out.nj b (hg b hb)))
    have nbh : bh ≠ bm := by
      intro e
      obtain ⟨l, c, hb, _⟩ := HM.out; rw [← e, HH.out] at hb; simp at hb
    have hbiG : G bi ∨ w.heap.size ≤ bi := by
      rcases Ho2.out with h | ⟨b, h, h'⟩
      · exact .inl (Gs.out bi (by rw [← h]; rfl))
      · simp only [Value.ownBlock, Option.some.injEq] at h; subst h; exact .inr h'
    have nbi : ¬ FJ bi := by
      rcases hbiG with h | h
      · exact Hh.out.nj bi h
      · intro hF; have := HL.out.bound w bi Hh.out.j hF; omega
    have nbib : bi ≠ bm := by
      intro e
      obtain ⟨l, c, hb, _⟩ := HM3.out
      have h3 := setMap_ne (w := wc.drew) nbh es c
      have hIb := HI.out
      obtain ⟨l2, c2, hb2, _⟩ := HM.out.fr Hf2.out nbm
      rw [e, hb2] at hIb; simp at hIb
    have hHp : Hp J A fv (.int .i64 (next + 1)) bh bi bm (L.length + 1) cap (L ++ [(v, next)]) (setMap wc.drew bm es c) :=
      ⟨hJ, by rw [setMap_ne nbh, heap_drew]; exact (by simpa using HH2.out), ⟨arr, by rw [setMap_ne nbib, heap_drew]; exact HI.out, Hs.out, Hc.out⟩, ⟨_, HM3.out, hpl⟩,
        by have := all_append (p := fun x => A x.1) (x := (v, next)) Hh.out.all hv; simpa using this, by simp⟩
    refine (hHp.settle HL.out (Hh.out.nj _ Hh.out.gh) nbi (Hh.out.nj _ Gm.out) (by have := Hn.out; omega) (at_ := L.length) (by omega)).mono ?_
    rintro e1 w1 ⟨rfl, h1, f1⟩
    have H1 := Lib.hid h1; have F1 := Lib.hid f1; have Hfx := Lib.hid hfx; have Hg := Lib.hid hg; have HbiG := Lib.hid hbiG; have Nbi := Lib.hid nbi
    clear h1 f1 hfx hg hHp hJ hpl hbiG nbi
    go_wp2_with fail
    go_ret2
    have hperm : (pushF lt L v next).Perm (L ++ [(v, next)]) := settleF_perm lt (by simp)
    obtain ⟨arr', r1, r2, r3⟩ := H1.out.row
    obtain ⟨f', m1, m2⟩ := H1.out.map
    have hlen' : (pushF lt L v next).length = L.length + 1 := by rw [hperm.length_eq]; simp
    have hle : w.heap.size ≤ w1.heap.size := Nat.le_trans Hfx.out.size F1.out.size
    refine ⟨w, F01.out, rfl, fun b => G b ∨ b = bi, ⟨⟨.slice (some ⟨bi, 0, none⟩) (L.length + 1) cap, bm, H1.out.hH, ?_, ⟨f', m1, m2⟩, .inl Gm.out, ?_⟩, .inl Hh.out.gh, ?_, ?_, H1.out.j, ?_, ?_, ?_, by omega⟩, ?_, ?_⟩
    · show Row w1 _ 3 _ (pushF lt L v next).length _
      rw [hlen']
      refine ⟨by rw [flat_length]; exact congrArg (· * 3) hlen', .inr ⟨bi, cap, arr', rfl, Nat.zero_le _, r1, hcl, ?_, r2, ?_⟩⟩
      · exact hcm
      · rw [← hlen']; exact take_of_cells3 r3 (by show (pushF lt L v next).length * 3 ≤ _; rw [r2, hlen']; omega)
    · intro b hb; simp only [Value.ownBlock, Option.some.injEq] at hb; exact .inr hb.symm
    · rintro b (h | rfl)
      · exact Nat.lt_of_lt_of_le (Hh.out.bd b h) hle
      · exact lt_of_block r1
    · rintro b (h | rfl)
      · exact Hh.out.nj b h
      · exact Nbi.out
    · exact all_perm hperm (p := fun x => A x.1) (all_append (p := fun x => A x.1) Hh.out.all hv)
    · exact all_perm hperm (p := fun x => 0 ≤ x.2 ∧ x.2 < next + 1) (all_append (p := fun x => 0 ≤ x.2 ∧ x.2 < next + 1) (fun i hi => by have := Hh.out.hs i hi; omega) ⟨h0, by dsimp only; omega⟩)
    · rw [hlen']; have := Hn.out; omega
    · refine (Hfx.out.mono (fun b _ hb => .inr (Hg.out b hb))).trans F1.out ?_
      rintro b hb (h | h | h)
      · exact .inl h
      · subst h; rcases HbiG.out with h | h
        · exact .inr h
        · omega
      · subst h; exact .inr Gm.out
    · rintro b (h | rfl)
      · exact .inl h
      · exact HbiG.out
end
end Go.Proofs.YtffnjnnmlfgngaaGreat.Du
namespace Go.Proofs.YtffnjnnmlfgngaaGreat.Du
open Go.RowKit
section
variable {J : World → Prop} {FJ : Nat → Prop} {A : Int → Prop} {fv : Value} {G : Nat → Prop} {bh : Nat} {L : List It} {next : Int} {w : World}
variable {lt : Int → Int → Bool} {fl : Nat} {caps : Array Value}
theorem HeapIs.toHp (h : HeapIs J FJ A fv G bh L next w) (h0 : 0 < L.length) : ∃ bi bm cap, Hp J A fv (.int .i64 next) bh bi bm L.length cap L w ∧ L.length ≤ cap ∧ cap ≤ maxLen ∧ G bi ∧ G bm := by
  obtain ⟨sv, bm, hH, hR, hM, gm, gs⟩ := h.ex
  obtain ⟨bi, cap, arr, rfl, hcl, hcm, hI, hs, hc⟩ := row_at hR (List.length_pos_iff.1 h0)
  exact ⟨bi, bm, cap, ⟨h.j, hH, ⟨arr, hI, hs, hc⟩, hM, h.all, rfl⟩, hcl, hcm, gs bi rfl, gm⟩
/-- The heap behind a step that keeps its blocks. -/
theorem HeapIs.ofHp (h : HeapIs J FJ A fv G bh L next w) {L' : List It} {n bi bm cap : Nat} {w' : World} (hp : Hp J A fv (.int .i64 next) bh bi bm n cap L' w') (hn : n ≤ cap) (hc : cap ≤ maxLen) (gi : G bi) (gm : G bm)
    (hl : n ≤ L.length) (hsz : w.heap.size ≤ w'.heap.size) (hs : ∀ i, i < n → 0 ≤ (itAt L' i).2 ∧ (itAt L' i).2 < next) : HeapIs J FJ A fv G bh L' next w' := by
  have hlen := hp.len
  subst hlen
  obtain ⟨arr, r1, r2, r3⟩ := hp.row
  refine ⟨⟨_, bm, hp.hH, ⟨flat_length _, .inr ⟨bi, cap, arr, rfl, Nat.zero_le _, r1, hn, hc, r2, take_of_cells3 r3 (by rw [r2]; omega)⟩⟩, hp.map, gm, ?_⟩, h.gh, fun b hb => Nat.lt_of_lt_of_le (h.bd b hb) hsz, h.nj, hp.j, hp.all, hs, Nat.le_trans hl h.len, h.nx⟩
  intro b hb; simp only [Value.ownBlock, Option.some.injEq] at hb; rw [← hb]; exact gi
variable (hL : LessOk Tryz.prog fv lt J FJ A fl caps)
include hL
omit hL in
theorem takeF_sub {x : Nat} (hx : x < L.length) {p : It → Prop} (hp : ∀ i, i < L.length → p (itAt L i)) : ∀ i, i < L.length - 1 → p (itAt (takeF lt L x) i) := by
  have hq : ∀ i, i < L.length - 1 → p (itAt ((if x = L.length - 1 then L else swapL L x (L.length - 1)).take (L.length - 1)) i) := by
    intro i hi
    rw [itAt_take hi]
    split
    · exact hp i (by omega)
    · rw [itAt_swap hx (by omega)]
      split
      · exact hp x hx
      · split
        · exact hp _ (by omega)
        · exact hp i (by omega)
  have hl : ((if x = L.length - 1 then L else swapL L x (L.length - 1)).take (L.length - 1)).length = L.length - 1 := by
    split <;> simp [swapL_length]
  intro i hi
  unfold takeF
  dsimp only
  split
  · rename_i h1
    exact all_perm (settleF_perm lt (by rw [hl]; exact h1)) (by rw [hl]; exact hq) i (by rw [settleF_length lt (by rw [hl]; exact h1), hl]; exact hi)
  · exact hq i hi
theorem HeapIs.take (h : HeapIs J FJ A fv G bh L next w) {x : Nat} (hx : x < L.length) :
    Calls Tryz.prog 141 #[.pointer (some ⟨bh, 0, none⟩), .int .i64 x] w fun e w' => e = .returned (.agg #[.int .i64 (dU (itAt L x).1), .int .u32 (dI (itAt L x).1), .int .i64 (itAt L x).2]) ∧ HeapIs J FJ A fv G bh (takeF lt L x) next w' ∧ Fr (fun b => FJ b ∨ G b) w w' := by
  obtain ⟨bi, bm, cap, hp, hcl, hcm, gi, gm⟩ := h.toHp (by omega)
  refine (hp.take hL (h.nj _ h.gh) (h.nj _ gi) (h.nj _ gm) h.len hcl hx).mono ?_
  rintro e w' ⟨rfl, h1, f1⟩
  refine ⟨rfl, h.ofHp h1 (by omega) hcm gi gm (by omega) f1.size (takeF_sub hx (p := fun y => 0 ≤ y.2 ∧ y.2 < next) h.hs), f1.mono ?_⟩
  rintro b _ (hb | rfl | rfl | rfl)
  · exact .inl hb
  · exact .inr h.gh
  · exact .inr gi
  · exact .inr gm
theorem drop_there (h : HeapIs J FJ A fv G bh L next w) {i : Nat} (hi : i < L.length) :
    Calls Tryz.prog 108 #[.pointer (some ⟨bh, 0, none⟩), .int .i64 (itAt L i).2] w fun e w' => e = .returned (.bool true) ∧ HeapIs J FJ A fv G bh (takeF lt L i) next w' ∧ Fr (fun b => FJ b ∨ G b) w w' := by
  obtain ⟨bi, bm, cap, hp, hcl, hcm, gi, gm⟩ := h.toHp (by omega)
  obtain ⟨f, hM, hP⟩ := hp.map
  have c2 := cell_of hp.hH 2
  simp at c2
  have hlk := run_lookup2 (P := Tryz.prog) Tryz.underlying157 Tryz.underlying3 hM (Tryz.zeroValue3 w) (itAt L i).2
  rw [hP.here i hi] at hlk
  simp only [Option.getD_some, Option.isSome_some] at hlk
  obtain ⟨x, hx⟩ : ∃ x, x = (itAt L i).2 := ⟨_, rfl⟩
  rw [← hx] at hlk ⊢
  have HL := Lib.hid hL; have Hh := Lib.hid h
  clear hL h hM hP gm gi hp hcl hcm hx
  go_enter Tryz.func108, Tryz.ntmps108
  go_wp2_with fail
  refine (none_ok HL.out Hh.out).mono ?_
  rintro e w' ⟨rfl, rfl⟩
  go_wp2_with fail
  refine (Hh.out.take HL.out hi).mono ?_
  rintro e1 w1 ⟨rfl, h1, f1⟩
  have H1 := Lib.hid h1; have F1 := Lib.hid f1; clear h1 f1
  go_wp2_with fail
  go_ret
  exact ⟨rfl, H1.out, F1.out⟩
end
end Go.Proofs.YtffnjnnmlfgngaaGreat.Du
namespace Go.Proofs.YtffnjnnmlfgngaaGreat.Du
open Go.RowKit
theorem PlaceOf.setv {f : Int → Option Int} {L : List It} (h : PlaceOf f L) {i : Nat} (hi : i < L.length) (v : Int) : PlaceOf f (L.set i (v, (itAt L i).2)) := by
  have e : ∀ n, (itAt (L.set i (v, (itAt L i).2)) n).2 = (itAt L n).2 := by
    intro n; rw [itAt_set _ _ _ _ hi]; split
    · rename_i h; rw [h]
    · rfl
  constructor
  · intro n hn; rw [e]; exact h.here n (by simpa using hn)
  · intro hd hg; apply h.gone; intro n hn; rw [← e]; exact hg n (by simpa using hn)
section
variable {J : World → Prop} {FJ : Nat → Prop} {A : Int → Prop} {fv : Value} {G : Nat → Prop} {bh : Nat} {L : List It} {next : Int} {w : World}
variable {lt : Int → Int → Bool} {fl : Nat} {caps : Array Value}
variable (hL : LessOk Tryz.prog fv lt J FJ A fl caps)
include hL
theorem new_ok (hj : J w) :
    Calls Tryz.prog 43 #[fv] w fun e w' => ∃ bh, e = .returned (.pointer (some ⟨bh, 0, none⟩)) ∧ w.heap.size ≤ bh ∧ Fr (fun _ => False) w w' ∧ ∃ G, HeapIs J FJ A fv G bh [] 0 w' ∧ ∀ b, G b → w.heap.size ≤ b := by
  have hfv := hL.eq
  have q := fun w => run_eql_func_nil (P := Tryz.prog) Tryz.underlying112 w (.func fl) #[] caps
  have hmm := @run_makeMap Tryz.prog
  have HL := Lib.hid hL; have Hj := Lib.hid hj
  subst hfv
  clear hL hj
  go_enter Tryz.func43, Tryz.ntmps43
  go_wp2_with fail
  go_ret
  have hf : Fr (fun _ => False) w ((w.alloc (.map #[] 0)).alloc (.cells #[.func (.func fl) #[] caps, .slice none 0 0, .map (some w.heap.size), .int .i64 0] 160)) := Fr.alloc (Fr.alloc (Fr.refl _ _) _) _
  have hJ := HL.out.keep _ _ Hj.out (hf.mono (fun _ _ h => h.elim))
  refine ⟨w.heap.size + 1, rfl, by omega, hf, fun b => b = w.heap.size ∨ b = w.heap.size + 1, ⟨⟨.slice none 0 0, w.heap.size, ?_, World.ownsRow_nil _ _ _ _, ⟨fun _ => none, ⟨[], 0, ?_, by simp, fun _ => rfl⟩, ⟨by simp, fun _ _ => rfl⟩⟩, .inl rfl, by simp [Value.ownBlock]⟩, .inr rfl, ?_, ?_, hJ, by simp, by simp, by simp, by omega⟩, by omega⟩
  · simp only [heap_alloc_get, World.size_alloc]; simp
  · simp only [heap_alloc_get, World.size_alloc]; simp
  · intro b hb; simp; omega
  · intro b hb hF
    have := HL.out.bound w b Hj.out hF
    omega
end
end Go.Proofs.YtffnjnnmlfgngaaGreat.Du
namespace Go.Proofs.YtffnjnnmlfgngaaGreat.Bk
open Go.RowKit
def encB (x : Bo) : List Value := [.int .u32 (x.1 : Int), .int .i64 x.2.1, .int .i64 x.2.2]
theorem encB_len (x : Bo) : (encB x).length = 3 := rfl
theorem encB_one (x : Bo) : ∀ v ∈ encB x, v.oneCell' = true := by
  intro v hv
  simp only [encB, List.mem_cons, List.not_mem_nil, or_false] at hv
  rcases hv with rfl | rfl | rfl <;> rfl
abbrev boV (x : Bo) : Value := .agg #[.int .u32 (x.1 : Int), .int .i64 x.2.1, .int .i64 x.2.2]
/-- A slice of bookings. -/
abbrev Bos (w : World) (sv : Value) (L : List Bo) : Prop := Els w 68 3 encB sv L
theorem Bos.cells {w : World} {sv : Value} {L : List Bo} (h : Bos w sv L) {k : Nat} (hk : k < L.length) :
    ∃ g cap, sv = .slice (some ⟨g, 0, none⟩) L.length cap ∧ w.cell? ⟨g, k * 3, none⟩ = some (.int .u32 (L[k].1 : Int)) ∧ w.cell? ⟨g, k * 3 + 1, none⟩ = some (.int .i64 L[k].2.1) ∧ w.cell? ⟨g, k * 3 + 2, none⟩ = some (.int .i64 L[k].2.2) := by
  obtain ⟨g, cap, e, hc⟩ := Els.cells encB_len h hk
  exact ⟨g, cap, e, hc 0 (by omega), hc 1 (by omega), hc 2 (by omega)⟩
theorem flatB_set {L : List Bo} {p : Nat} (hp : p < L.length) (x : Bo) : (L.set p x).flatMap encB = (((L.flatMap encB).set (p * 3) (.int .u32 (x.1 : Int))).set (p * 3 + 1) (.int .i64 x.2.1)).set (p * 3 + 2) (.int .i64 x.2.2) := by
  induction L generalizing p with
  | nil => simp at hp
  | cons y L ih =>
    cases p with
    | zero => simp [encB]
    | succ p =>
      have e1 : (p + 1) * 3 = p * 3 + 3 := by omega
      rw [List.set_cons_succ, List.flatMap_cons, List.flatMap_cons, ih (by simpa using hp), e1]
      simp [encB, List.set_cons_succ]
/-- A booking is laid over another one. -/
theorem Bos.put {w : World} {g n cap : Nat} {L : List Bo} (h : Bos w (.slice (some ⟨g, 0, none⟩) n cap) L) {p : Nat} (hp : p < L.length) (x : Bo) :
    Bos (((w.setCell ⟨g, p * 3, none⟩ (.int .u32 (x.1 : Int))).setCell ⟨g, p * 3 + 1, none⟩ (.int .i64 x.2.1)).setCell ⟨g, p * 3 + 2, none⟩ (.int .i64 x.2.2)) (.slice (some ⟨g, 0, none⟩) n cap) (L.set p x) := by
  rcases h.2 with ⟨_, h0⟩ | ⟨g', c', cur, e, _, h1, h2, h3, h4, h5⟩
  · omega
  · obtain ⟨e1, e2, e3⟩ := Value.slice.inj e
    obtain rfl : g = g' := by simpa using e1
    subst e2; subst e3
    refine ⟨by rw [flatB_set hp, List.length_set, List.length_set, List.length_set, List.length_set]; exact h.1, .inr ⟨g, cap, _, by rw [List.length_set], Nat.zero_le _, setCell_blk (setCell_blk (setCell_blk h1 _) _) _, by rw [List.length_set]; exact h2, h3, by simpa using h4, ?_⟩⟩
    rw [List.length_set, flatB_set hp, ← h5]
    simp only [Array.toList_setIfInBounds, List.take_set]
theorem Bos.till {w : World} {g n cap : Nat} {L : List Bo} (h : Bos w (.slice (some ⟨g, 0, none⟩) n cap) L) {p : Nat} (hp : p < L.length) (t : Int) :
    Bos (w.setCell ⟨g, p * 3 + 2, none⟩ (.int .i64 t)) (.slice (some ⟨g, 0, none⟩) n cap) (L.set p (L[p].1, L[p].2.1, t)) := by
  rcases h.2 with ⟨_, h0⟩ | ⟨g', c', cur, e, _, h1, h2, h3, h4, h5⟩
  · omega
  · obtain ⟨e1, e2, e3⟩ := Value.slice.inj e
    obtain rfl : g = g' := by simpa using e1
    subst e2; subst e3
    have hl : (L.flatMap encB).length = L.length * 3 := flatK_length encB_len L
    have k0 := flatK_get encB_len L p hp 0 (by omega)
    have k1 := flatK_get encB_len L p hp 1 (by omega)
    have e0 : (L.set p (L[p].1, L[p].2.1, t)).flatMap encB = (L.flatMap encB).set (p * 3 + 2) (.int .i64 t) := by
      rw [flatB_set hp]
      have s0 : (L.flatMap encB).set (p * 3) (.int .u32 (L[p].1 : Int)) = L.flatMap encB := by
        apply List.ext_getElem?
        intro j
        rw [List.getElem?_set]
        by_cases ej : p * 3 = j
        · subst ej; rw [if_pos rfl, if_pos (by omega)]; rw [Nat.add_zero] at k0; rw [k0]; rfl
        · rw [if_neg ej]
      have s1 : (L.flatMap encB).set (p * 3 + 1) (.int .i64 L[p].2.1) = L.flatMap encB := by
        apply List.ext_getElem?
        intro j
        rw [List.getElem?_set]
        by_cases ej : p * 3 + 1 = j
        · subst ej; rw [if_pos rfl, if_pos (by omega)]; rw [k1]; rfl
        · rw [if_neg ej]
      rw [s0, s1]
    refine ⟨by rw [e0, List.length_set, List.length_set]; exact h.1, .inr ⟨g, cap, _, by rw [List.length_set], Nat.zero_le _, setCell_blk h1 _, by rw [List.length_set]; exact h2, h3, by simpa using h4, ?_⟩⟩
    rw [List.length_set, e0, ← h5]
    simp only [Array.toList_setIfInBounds, List.take_set]
/-! ### The order of what is due -/
abbrev fvD : Value := .func (.func 44) #[] #[]
theorem due_box {w : World} {b : Nat} {x : Int} (h : w.heap[b]? = some (.cells #[.int .i64 (Du.dU x), .int .u32 (Du.dI x)] 111 (0, 0))) :
    w.cell? ⟨b, 0, none⟩ = some (.int .i64 (Du.dU x)) ∧ w.cell? ⟨b, 1, none⟩ = some (.int .u32 (Du.dI x)) := ⟨(cell_of h 0).trans rfl, (cell_of h 1).trans rfl⟩
abbrev HpD := Du.HeapIs (fun _ => True) (fun _ => False) (fun _ => True) fvD
theorem HpD.fr {G F : Nat → Prop} {bh : Nat} {L : List It} {next : Int} {w w' : World} (h : HpD G bh L next w) (f : Fr F w w') (hn : ∀ b, G b → ¬ F b) : HpD G bh L next w' := Du.HeapIs.fr h f trivial hn
/-! ### The book -/
/-- Where the parts of a book lie. -/
structure Pt where
  tp : Nat
  tv : Value
  ip : Nat
  ig : Nat
  N : Nat
  st : Nat
  sv : Value
  hp : Nat
  GH : Nat → Prop
  mp : Nat
  H : List It
  nh : Int
  f : Int → Option Int
/-- The blocks of a book. -/
def Pt.own (p : Pt) (bb x : Nat) : Prop := x = bb ∨ x = p.tp ∨ p.tv.ownBlock = some x ∨ x = p.ip ∨ x = p.ig ∨ p.sv.ownBlock = some x ∨ p.GH x ∨ x = p.mp
/-- Each block belongs to one part. -/
structure Lab (p : Pt) (bb : Nat) (lab : Nat → Nat) : Prop where
  l0 : lab bb = 0
  l1 : lab p.tp = 1
  l1v : ∀ x, p.tv.ownBlock = some x → lab x = 1 ∧ x ≠ p.tp
  l2 : lab p.ip = 2
  l2g : lab p.ig = 2
  l3 : ∀ x, p.sv.ownBlock = some x → lab x = 3
  l4 : ∀ x, p.GH x → lab x = 4
  l5 : lab p.mp = 5
abbrev headB (p : Pt) (b : Bk) (nx : Nat) : Obj := .cells #[.int .i64 (b.seats : Int), .int .i64 (b.codes : Int), .int .i64 (b.group : Int), .bool true, .int .i64 b.clock, .int .u32 (nx : Int), .pointer (some ⟨p.tp, 0, none⟩), .pointer (some ⟨p.ip, 0, none⟩), p.sv, .pointer (some ⟨p.hp, 0, none⟩), .map (some p.mp)] 101 (0, 0)
/-- The book b in block bb; nx stands in its head as the next id; of what is due LD is laid, of the seats LS. -/
structure BkP (p : Pt) (bb nx : Nat) (b : Bk) (LS LD : List Bo) (w : World) : Prop where
  head : w.heap[bb]? = some (headB p b nx)
  set : Bt.SetAt w p.tp p.tv (takenOf b.seats b.L)
  idx : Ix.IxAt w p.ip p.ig p.N b.codes (idsOf b.L) p.st
  row : Bos w p.sv (seatsOf b.seats LS)
  heap : HpD p.GH p.hp p.H p.nh w
  map : UMap w p.mp p.f
  due : Due LD p.H p.f
  nh : p.nh ≤ (b.next : Int)
  raw : Raw b
  lab : ∃ lab, Lab p bb lab
section
variable {p : Pt} {bb nx : Nat} {b : Bk} {LS LD : List Bo} {w w' : World}
theorem BkP.fr (h : BkP p bb nx b LS LD w) {F : Nat → Prop} (f : Fr F w w') (hn : ∀ x, p.own bb x → ¬ F x) : BkP p bb nx b LS LD w' :=
  ⟨f.get h.head (hn _ (.inl rfl)), h.set.fr f (hn _ (.inr (.inl rfl))) (fun _x hx => hn _ (.inr (.inr (.inl hx)))), h.idx.fr f (hn _ (.inr (.inr (.inr (.inl rfl))))) (hn _ (.inr (.inr (.inr (.inr (.inl rfl)))))),
   Row.fr h.row f (fun _x hx => hn _ (.inr (.inr (.inr (.inr (.inr (.inl hx))))))), h.heap.fr f (fun _x hx => hn _ (.inr (.inr (.inr (.inr (.inr (.inr (.inl hx)))))))), h.map.fr f (hn _ (.inr (.inr (.inr (.inr (.inr (.inr (.inr rfl)))))))), h.due, h.nh, h.raw, h.lab⟩
theorem BkP.keep (h : BkP p bb nx b LS LD w) (f : Fr (fun _ => False) w w') : BkP p bb nx b LS LD w' := h.fr f (fun _ _ h => h)
theorem BkP.lt (h : BkP p bb nx b LS LD w) {x : Nat} (hx : p.own bb x) : x < w.heap.size := by
  rcases hx with rfl | rfl | hx | rfl | rfl | hx | hx | rfl
  · exact lt_of_block h.head
  · exact h.set.lt
  · exact Row.lt h.set.row hx
  · obtain ⟨S, hr, _⟩ := h.idx; exact hr.head.lt
  · obtain ⟨S, hr, _⟩ := h.idx; exact hr.slots.lt
  · exact Row.lt h.row hx
  · exact h.heap.bd _ hx
  · exact h.map.lt
theorem BkP.c (h : BkP p bb nx b LS LD w) : w.cell? ⟨bb, 0, none⟩ = some (.int .i64 (b.seats : Int)) ∧ w.cell? ⟨bb, 1, none⟩ = some (.int .i64 (b.codes : Int)) ∧ w.cell? ⟨bb, 2, none⟩ = some (.int .i64 (b.group : Int)) ∧ w.cell? ⟨bb, 3, none⟩ = some (.bool true) ∧ w.cell? ⟨bb, 4, none⟩ = some (.int .i64 b.clock) ∧ w.cell? ⟨bb, 5, none⟩ = some (.int .u32 (nx : Int)) ∧ w.cell? ⟨bb, 6, none⟩ = some (.pointer (some ⟨p.tp, 0, none⟩)) ∧ w.cell? ⟨bb, 7, none⟩ = some (.pointer (some ⟨p.ip, 0, none⟩)) ∧ w.cell? ⟨bb, 8, none⟩ = some p.sv ∧ w.cell? ⟨bb, 9, none⟩ = some (.pointer (some ⟨p.hp, 0, none⟩)) ∧ w.cell? ⟨bb, 10, none⟩ = some (.map (some p.mp)) :=
  ⟨(cell_of h.head 0).trans rfl, (cell_of h.head 1).trans rfl, (cell_of h.head 2).trans rfl, (cell_of h.head 3).trans rfl, (cell_of h.head 4).trans rfl, (cell_of h.head 5).trans rfl, (cell_of h.head 6).trans rfl, (cell_of h.head 7).trans rfl, (cell_of h.head 8).trans rfl, (cell_of h.head 9).trans rfl, (cell_of h.head 10).trans rfl⟩
theorem BkP.z (h : BkP p bb nx b LS LD w) (k : Nat) : w.frozen? ⟨bb, k, none⟩ = false := free_of h.head k
/-- The row of the seats lies in a block of its own. -/
theorem BkP.seats (h : BkP p bb nx b LS LD w) : ∃ g cap, p.sv = .slice (some ⟨g, 0, none⟩) b.seats cap ∧ p.sv.ownBlock = some g ∧ (∀ k, w.frozen? ⟨g, k, none⟩ = false) ∧ ∀ k (_hk : k < b.seats), w.cell? ⟨g, k * 3, none⟩ = some (.int .u32 (((bSeat LS (k : Int)).getD (0, 0, 0)).1 : Int)) ∧ w.cell? ⟨g, k * 3 + 1, none⟩ = some (.int .i64 ((bSeat LS (k : Int)).getD (0, 0, 0)).2.1) ∧ w.cell? ⟨g, k * 3 + 2, none⟩ = some (.int .i64 ((bSeat LS (k : Int)).getD (0, 0, 0)).2.2) := by
  have hl := seatsOf_length b.seats LS
  have h0 : 0 < (seatsOf b.seats LS).length := by rw [hl]; exact h.raw.s0
  rcases h.row.2 with ⟨_, h00⟩ | ⟨g, cap, cur, e, _, h1, h2, h3, h4, h5⟩
  · omega
  · refine ⟨g, cap, by rw [e, hl], by rw [e]; rfl, free_of h1, fun k hk => ?_⟩
    obtain ⟨g', cap', e', c0, c1, c2⟩ := Bos.cells h.row (k := k) (by rw [hl]; exact hk)
    rw [e] at e'
    obtain ⟨e1, _, _⟩ := Value.slice.inj e'
    obtain rfl : g = g' := by simpa using e1
    rw [seatsOf_get] at c0 c1 c2
    exact ⟨c0, c1, c2⟩
end
/-- The book b in block bb, under G: its own blocks. -/
def BkAt (G : Nat → Prop) (bb : Nat) (b : Bk) (w : World) : Prop := ∃ p, BkP p bb b.next b b.L b.L w ∧ (∀ x, p.own bb x → G x) ∧ ∀ x, G x → x < w.heap.size
/-- The blocks of G' were G's, or are new. -/
def Grew (w : World) (G G' : Nat → Prop) : Prop := ∀ b, G' b → G b ∨ w.heap.size ≤ b
theorem Grew.refl (w : World) (G : Nat → Prop) : Grew w G G := fun _ h => .inl h
theorem Grew.trans {a b : World} {G H K : Nat → Prop} (h : Grew a G H) (k : Grew b H K) (hs : a.heap.size ≤ b.heap.size) : Grew a G K := fun x hx => by
  rcases k x hx with h1 | h1
  · exact h x h1
  · exact .inr (Nat.le_trans hs h1)
section
variable {G : Nat → Prop} {bb : Nat} {b : Bk} {w w' : World}
theorem BkAt.fr (h : BkAt G bb b w) {F : Nat → Prop} (f : Fr F w w') (hn : ∀ x, G x → ¬ F x) : BkAt G bb b w' := by
  obtain ⟨p, h1, h2, h3⟩ := h
  exact ⟨p, h1.fr f (fun x hx => hn x (h2 x hx)), h2, fun x hx => Nat.lt_of_lt_of_le (h3 x hx) f.size⟩
theorem BkAt.keep (h : BkAt G bb b w) (f : Fr (fun _ => False) w w') : BkAt G bb b w' := h.fr f (fun _ _ h => h)
theorem BkAt.raw (h : BkAt G bb b w) : Raw b := by obtain ⟨p, h1, _⟩ := h; exact h1.raw
theorem BkAt.bd (h : BkAt G bb b w) : ∀ x, G x → x < w.heap.size := by obtain ⟨p, _, _, h3⟩ := h; exact h3
theorem BkAt.gb (h : BkAt G bb b w) : G bb := by obtain ⟨p, _, h2, _⟩ := h; exact h2 _ (.inl rfl)
end
/-- A pointer at no book: nil, or at one that nobody made. -/
def NoBook (w : World) (p : Option Addr) : Prop := p = none ∨ ∃ b cs, p = some ⟨b, 0, none⟩ ∧ w.heap[b]? = some (.cells cs 101 (0, 0)) ∧ cs[3]? = some (.bool false)
theorem NoBook.fr {w w' : World} {p : Option Addr} (h : NoBook w p) (f : Fr (fun _ => False) w w') : NoBook w' p := by
  rcases h with h | ⟨b, cs, h1, h2, h3⟩
  · exact .inl h
  · exact .inr ⟨b, cs, h1, f.get h2 (fun h => h), h3⟩
end Go.Proofs.YtffnjnnmlfgngaaGreat.Bk
namespace Go.Proofs.YtffnjnnmlfgngaaGreat
open Go.RowKit Go.Shelf
/-- The blocks of p lie as they lay. -/
structure KeepsB (p : Nat → Prop) (W W' : World) : Prop where
  size : W.heap.size ≤ W'.heap.size
  blk : ∀ b, p b → b < W.heap.size → W'.heap[b]? = W.heap[b]?
theorem KeepsB.refl (p : Nat → Prop) (W : World) : KeepsB p W W := ⟨Nat.le_refl _, fun _ _ _ => rfl⟩
theorem KeepsB.trans {p : Nat → Prop} {A B C : World} (h : KeepsB p A B) (k : KeepsB p B C) : KeepsB p A C :=
  ⟨Nat.le_trans h.size k.size, fun b hb hl => (k.blk b hb (Nat.lt_of_lt_of_le hl h.size)).trans (h.blk b hb hl)⟩
theorem KeepsB.alloc {p : Nat → Prop} {A B : World} (h : KeepsB p A B) (o : Obj) : KeepsB p A (B.alloc o) :=
  h.trans ⟨by simp, fun b _ hl => Below.heap_alloc B o b hl⟩
theorem KeepsB.cell {p : Nat → Prop} {A B : World} (h : KeepsB p A B) {q : Addr} (hq : p q.block) (hl : q.block < A.heap.size) : B.cell? q = A.cell? q := World.cell?_of_block (w := A) (h.blk q.block hq hl)
theorem KeepsB.setCell {p : Nat → Prop} (W : World) {q : Addr} (hq : ¬ p q.block) (v : Value) : KeepsB p W (W.setCell q v) :=
  ⟨by simp, fun b hb _ => Below.heap_setCell W q v b (fun e => hq (e ▸ hb))⟩
theorem KeepsB.drewN {p : Nat → Prop} {A B : World} (h : KeepsB p A B) (n : Nat) : KeepsB p A (B.drewN n) := ⟨h.size, h.blk⟩
theorem KeepsB.of_fr {p F : Nat → Prop} {A B : World} (h : Fr F A B) (hp : ∀ b, p b → ¬ F b) : KeepsB p A B := ⟨h.size, fun b hb hl => h.blk b hl (hp b hb)⟩
theorem keepsB_b {p : Nat → Prop} {w : World} (hp : ∀ b, p b → b < w.heap.size) (W : World) (l : Nat) (o o' : Obj) (hl : w.heap.size ≤ l) (_ : W.heap[l]? = some o) (_ : o.isCells = false) (_ : o.isWalk = false) : KeepsB p W (W.putObj l o') :=
  ⟨by simp [World.putObj], fun b hb _ => World.putObj_heap_other (by have := hp b hb; omega)⟩
end Go.Proofs.YtffnjnnmlfgngaaGreat
namespace Go.Proofs.YtffnjnnmlfgngaaGreat.Bk
open Go.RowKit
noncomputable abbrev dueV (x : Int) : Value := .agg #[.int .i64 (Du.dU x), .int .u32 (Du.dI x)]
set_option maxRecDepth 100000 in
theorem less_call (x y : Int) (w : World) : Calls Tryz.prog 44 #[dueV x, dueV y] w fun e w' => e = .returned (.bool (ltD x y)) ∧ True ∧ Fr (fun _ => False) w w' := by
  obtain ⟨W, hW⟩ : ∃ W, W = (w.alloc (.cells #[.int .i64 (Du.dU x), .int .u32 (Du.dI x)] 111)).alloc (.cells #[.int .i64 (Du.dU y), .int .u32 (Du.dI y)] 111) := ⟨_, rfl⟩
  obtain ⟨p, hp⟩ : ∃ p, p = w.heap.size := ⟨_, rfl⟩
  have f0 : Fr (fun _ => False) w W := by rw [hW]; exact Fr.alloc (Fr.alloc (Fr.refl _ _) _) _
  have g2 : W.heap[p]? = some (.cells #[.int .i64 (Du.dU x), .int .u32 (Du.dI x)] 111 (0, 0)) := by rw [hW, hp]; simp only [heap_alloc_get, World.size_alloc]; simp
  have g3 : W.heap[p + 1]? = some (.cells #[.int .i64 (Du.dU y), .int .u32 (Du.dI y)] 111 (0, 0)) := by rw [hW, hp]; simp only [heap_alloc_get, World.size_alloc]; simp
  obtain ⟨a0, a1⟩ := due_box g2
  obtain ⟨d0, d1⟩ := due_box g3
  have F0 := Lib.hid f0
  obtain ⟨r, hr⟩ : ∃ r, r = ltD x y := ⟨_, rfl⟩
  rw [← hr]
  have hc : (decide (Du.dU x < Du.dU y) = true ∧ r = true) ∨ (decide (Du.dU x < Du.dU y) = false ∧ (Du.dU x == Du.dU y) = false ∧ r = false) ∨ (decide (Du.dU x < Du.dU y) = false ∧ (Du.dU x == Du.dU y) = true ∧ decide (Du.dI x < Du.dI y) = r) := by
    have h1 := Du.due_lt x y
    have h2 : r = true ↔ x < y := by rw [hr]; simp [ltD]
    by_cases e1 : Du.dU x < Du.dU y
    · left; exact ⟨by simpa using e1, h2.2 (h1.2 (.inl e1))⟩
    · right
      by_cases e2 : Du.dU x = Du.dU y
      · right
        refine ⟨by simpa using e1, by simpa using e2, ?_⟩
        cases r <;> simp at h2 ⊢ <;> omega
      · left
        refine ⟨by simpa using e1, by simpa using e2, ?_⟩
        cases r
        · rfl
        · simp at h2; omega
  clear hr g2 g3 f0
  go_enter Tryz.func44, Tryz.ntmps44
  go_upto_region 1 with fail
  rw [← hp, ← hW]
  clear hW hp
  rcases hc with ⟨t1, t2⟩ | ⟨t1, t2, t3⟩ | ⟨t1, t2, t3⟩
  all_goals
    go_wp2_with fail
    go_ret
    refine ⟨?_, trivial, F0.out⟩
  · rw [t2]; rfl
  · rw [t3]; rfl
  · rw [← t3]; rfl
theorem less_ok : Du.LessOk Tryz.prog fvD ltD (fun _ => True) (fun _ => False) (fun _ => True) 44 #[] where
  eq := rfl
  enter := enters_of Tryz.func44 (by kernel_rfl) rfl
  call := fun w x y _ _ _ => less_call x y w
  keep := fun _ _ _ _ => trivial
  bound := fun _ _ _ h => h.elim
section
variable {p : Pt} {bb nx : Nat} {b : Bk} {LS LD : List Bo} {w : World} {q : Option Addr}
set_option maxRecDepth 100000 in
theorem there_ok (h : BkP p bb nx b LS LD w) : Calls Tryz.prog 50 #[.pointer (some ⟨bb, 0, none⟩)] w fun e w' => e = .returned (.bool true) ∧ w = w' := by
  have c3 := h.c.2.2.2.1
  clear h
  go_enter Tryz.func50, Tryz.ntmps50
  go_wp2_with fail
  go_ret
  exact ⟨rfl, rfl⟩
set_option maxRecDepth 100000 in
theorem there_no (h : NoBook w q) : Calls Tryz.prog 50 #[.pointer q] w fun e w' => e = .returned (.bool false) ∧ w = w' := by
  rcases h with rfl | ⟨b, cs, rfl, h1, h2⟩
  · go_enter Tryz.func50, Tryz.ntmps50
    go_wp2_with fail
    go_ret
    exact ⟨rfl, rfl⟩
  · have c3 := (cell_of h1 3).trans h2
    clear h1 h2
    go_enter Tryz.func50, Tryz.ntmps50
    go_wp2_with fail
    go_ret
    exact ⟨rfl, rfl⟩
abbrev shV (a b c : Int) : Value := .agg #[.int .i64 a, .int .i64 b, .int .i64 c]
set_option maxRecDepth 100000 in
theorem told_ok (h : BkP p bb nx b LS LD w) : Calls Tryz.prog 61 #[.pointer (some ⟨bb, 0, none⟩)] w fun e w' => e = .returned (shV b.seats b.codes b.group) ∧ Fr (fun _ => False) w w' := by
  obtain ⟨W, hW⟩ : ∃ W, W = w.alloc (.cells #[.int .i64 0, .int .i64 0, .int .i64 0] 23) := ⟨_, rfl⟩
  obtain ⟨z, hz⟩ : ∃ z, z = w.heap.size := ⟨_, rfl⟩
  have f0 : Fr (fun _ => False) w W := by rw [hW]; exact Fr.alloc (Fr.refl _ _) _
  have hg : W.heap[z]? = some (.cells #[.int .i64 0, .int .i64 0, .int .i64 0] 23 (0, 0)) := by rw [hW, hz]; exact heap_alloc_at _ _
  obtain ⟨c0, c1, c2, _⟩ := (h.keep f0).c
  have d0 := (cell_of hg 0).trans (show _ = some (Value.int .i64 0) from rfl)
  have d1 := (cell_of hg 1).trans (show _ = some (Value.int .i64 0) from rfl)
  have d2 := (cell_of hg 2).trans (show _ = some (Value.int .i64 0) from rfl)
  have y0 := free_of hg 0; have y1 := free_of hg 1; have y2 := free_of hg 2
  have hfin := setCell_blk (o := 2) (setCell_blk (o := 1) (setCell_blk (o := 0) hg (.int .i64 (b.seats : Int))) (.int .i64 (b.codes : Int))) (.int .i64 (b.group : Int))
  have e0 := (cell_of hfin 0).trans (show _ = some (Value.int .i64 (b.seats : Int)) from rfl)
  have e1 := (cell_of hfin 1).trans (show _ = some (Value.int .i64 (b.codes : Int)) from rfl)
  have e2 := (cell_of hfin 2).trans (show _ = some (Value.int .i64 (b.group : Int)) from rfl)
  have Ff := Lib.hid (show Fr (fun _ => False) w (((W.setCell ⟨z, 0, none⟩ (.int .i64 (b.seats : Int))).setCell ⟨z, 1, none⟩ (.int .i64 (b.codes : Int))).setCell ⟨z, 2, none⟩ (.int .i64 (b.group : Int))) from
    ((f0.setCell (p := ⟨z, 0, none⟩) (fun e => by simp at e; omega) _).setCell (p := ⟨z, 1, none⟩) (fun e => by simp at e; omega) _).setCell (p := ⟨z, 2, none⟩) (fun e => by simp at e; omega) _)
  clear h f0 hg hfin
  go_enter Tryz.func61, Tryz.ntmps61
  go_upto_region 1 with fail
  rw [← hW, ← hz]
  clear hW hz
  go_wp2_with fail
  refine bodyPost_ret (v := shV b.seats b.codes b.group) ?_ rfl ⟨rfl, Ff.out⟩
  simp [results, Tryz.f61, go_sem, e0, e1, e2]
set_option maxRecDepth 100000 in
theorem len_ok (h : BkP p bb nx b LS LD w) : Calls Tryz.prog 34 #[.pointer (some ⟨bb, 0, none⟩)] w fun e w' => e = .returned (.int .i64 (b.L.length : Int)) ∧ w = w' := by
  have c7 := h.c.2.2.2.2.2.2.2.1
  have HT := Lib.hid (there_ok h)
  have HL := Lib.hid (Ix.len_ok h.idx)
  have hl : (idsOf b.L).length = b.L.length := by simp [idsOf]
  rw [hl] at HL
  clear h hl
  go_enter Tryz.func34, Tryz.ntmps34
  go_wp2_with fail
  refine HT.out.mono ?_
  rintro e w1 ⟨rfl, rfl⟩
  go_wp2_with fail
  refine HL.out.mono ?_
  rintro e w1 ⟨rfl, rfl⟩
  go_wp2_with fail
  go_ret
  exact ⟨rfl, rfl⟩
set_option maxRecDepth 100000 in
theorem next_ok (h : BkP p bb nx b LS LD w) : Calls Tryz.prog 35 #[.pointer (some ⟨bb, 0, none⟩)] w fun e w' => e = .returned (.int .u32 (nx : Int)) ∧ w = w' := by
  have c5 := h.c.2.2.2.2.2.1
  have HT := Lib.hid (there_ok h)
  clear h
  go_enter Tryz.func35, Tryz.ntmps35
  go_wp2_with fail
  refine HT.out.mono ?_
  rintro e w1 ⟨rfl, rfl⟩
  go_wp2_with fail
  go_ret
  exact ⟨rfl, rfl⟩
set_option maxRecDepth 100000 in
theorem clock_ok (h : BkP p bb nx b LS LD w) : Calls Tryz.prog 36 #[.pointer (some ⟨bb, 0, none⟩)] w fun e w' => e = .returned (.int .i64 b.clock) ∧ w = w' := by
  have c4 := h.c.2.2.2.2.1
  have HT := Lib.hid (there_ok h)
  clear h
  go_enter Tryz.func36, Tryz.ntmps36
  go_wp2_with fail
  refine HT.out.mono ?_
  rintro e w1 ⟨rfl, rfl⟩
  go_wp2_with fail
  go_ret
  exact ⟨rfl, rfl⟩
end
end Go.Proofs.YtffnjnnmlfgngaaGreat.Bk
namespace Go.Proofs.YtffnjnnmlfgngaaGreat.Bk
open Go.RowKit
/-! ### When the next one goes -/
def dueStep (d : Int) (x : Bo) : Int := if 0 < x.2.2 ∧ (d = 0 ∨ x.2.2 < d) then x.2.2 else d
def bDue (L : List Bo) : Int := L.foldl dueStep 0
theorem bDue_app (L : List Bo) (x : Bo) : bDue (L ++ [x]) = dueStep (bDue L) x := by simp [bDue, List.foldl_append]
theorem dueStep_spec (d : Int) (h : 0 ≤ d) (x : Bo) : 0 ≤ dueStep d x ∧ (dueStep d x = d ∨ (0 < x.2.2 ∧ dueStep d x = x.2.2)) ∧ (0 < x.2.2 → 0 < dueStep d x ∧ dueStep d x ≤ x.2.2) ∧ (0 < d → 0 < dueStep d x ∧ dueStep d x ≤ d) := by
  unfold dueStep; split <;> omega
theorem bDue_spec (L : List Bo) : 0 ≤ bDue L ∧ (0 < bDue L → ∃ x ∈ L, x.2.2 = bDue L) ∧ ∀ x ∈ L, 0 < x.2.2 → 0 < bDue L ∧ bDue L ≤ x.2.2 := by
  have h : ∀ k, k ≤ L.length → 0 ≤ bDue (L.take k) ∧ (0 < bDue (L.take k) → ∃ x ∈ L.take k, x.2.2 = bDue (L.take k)) ∧ ∀ x ∈ L.take k, 0 < x.2.2 → 0 < bDue (L.take k) ∧ bDue (L.take k) ≤ x.2.2 := by
    intro k
    induction k with
    | zero => intro _; simp [bDue]
    | succ k ih =>
      intro hk
      obtain ⟨i1, i2, i3⟩ := ih (by omega)
      have e : L.take (k + 1) = L.take k ++ [L[k]] := (List.take_succ_eq_append_getElem hk)
      rw [e, bDue_app]
      obtain ⟨s1, s2, s3, s4⟩ := dueStep_spec _ i1 L[k]
      refine ⟨s1, ?_, ?_⟩
      · intro hp
        rcases s2 with s2 | ⟨s2, s5⟩
        · rw [s2] at hp ⊢
          obtain ⟨x, hx, ex⟩ := i2 hp
          exact ⟨x, List.mem_append.2 (.inl hx), ex⟩
        · exact ⟨L[k], List.mem_append.2 (.inr (by simp)), s5.symm⟩
      · intro x hx ht
        rcases List.mem_append.1 hx with hx | hx
        · have := i3 x hx ht
          have := s4 this.1
          omega
        · obtain rfl : x = L[k] := by simpa using hx
          exact s3 ht
  have := h L.length (Nat.le_refl _)
  rwa [List.take_length] at this
theorem bDue_none {L : List Bo} (h : ∀ x ∈ L, ¬ 0 < x.2.2) : bDue L = 0 := by
  obtain ⟨h1, h2, _⟩ := bDue_spec L
  by_cases h0 : 0 < bDue L
  · obtain ⟨x, hx, e⟩ := h2 h0
    exact absurd (by omega) (h x hx)
  · omega
/-- The heap's least is the one that goes next. -/
theorem Due.next {L : List Bo} {H : List It} {f : Int → Option Int} (h : Due L H f) (hi : ∀ x ∈ L, x.1 < 4294967296) : (H = [] ∧ bDue L = 0) ∨ (H ≠ [] ∧ 0 < bDue L ∧ bDue L = Du.dU (itAt H 0).1) := by
  by_cases h0 : H = []
  · left
    refine ⟨h0, bDue_none ?_⟩
    intro x hx ht
    obtain ⟨y, hy, _⟩ := h.held hx ht
    rw [h0] at hy; simp at hy
  · right
    have hl : 0 < H.length := List.length_pos_iff.2 h0
    obtain ⟨x, hx, ht, e1, e2, e3⟩ := h.mem hi (itAt_mem hl)
    obtain ⟨s1, s2, s3⟩ := bDue_spec L
    have h3 := s3 x hx ht
    obtain ⟨y, hy, ey⟩ := s2 h3.1
    have h4 := h.least hi hl y hy (by omega)
    exact ⟨h0, h3.1, by omega⟩
section
variable {p : Pt} {bb nx : Nat} {b : Bk} {LS LD : List Bo} {w : World} {q : Option Addr}
theorem Raw.idlt (h : Raw b) : ∀ x ∈ b.L, x.1 < 4294967296 := fun x hx => Nat.lt_trans (h.ids x hx).2 h.n1
set_option maxRecDepth 100000 in
theorem shape_ok (h : BkP p bb nx b LS LD w) : Calls Tryz.prog 26 #[.pointer (some ⟨bb, 0, none⟩)] w fun e w' => e = .returned (shV b.seats b.codes b.group) ∧ Fr (fun _ => False) w w' := by
  obtain ⟨W, hW⟩ : ∃ W, W = w.alloc (.cells #[.int .i64 0, .int .i64 0, .int .i64 0] 23) := ⟨_, rfl⟩
  obtain ⟨z, hz⟩ : ∃ z, z = w.heap.size := ⟨_, rfl⟩
  have f0 : Fr (fun _ => False) w W := by rw [hW]; exact Fr.alloc (Fr.refl _ _) _
  have hg : W.heap[z]? = some (.cells #[.int .i64 0, .int .i64 0, .int .i64 0] 23 (0, 0)) := by rw [hW, hz]; exact heap_alloc_at _ _
  have HT := Lib.hid (there_ok (h.keep f0)); have HS := Lib.hid (told_ok (h.keep f0))
  have c0 := (h.keep f0).c.1
  have F0 := Lib.hid f0; have HG := Lib.hid hg; have HZ := Lib.hid (show w.heap.size ≤ z by omega)
  clear h f0 hg
  go_enter Tryz.func26, Tryz.ntmps26
  go_upto_region 1 with fail
  rw [← hW, ← hz]
  clear hW hz
  go_wp2_with fail
  refine HT.out.mono ?_
  rintro e w1 ⟨rfl, rfl⟩
  go_wp2_with fail
  refine HS.out.mono ?_
  rintro e w1 ⟨rfl, f1⟩
  have hg := f1.get HG.out (fun h => h)
  have d0 := (cell_of hg 0).trans (show _ = some (Value.int .i64 0) from rfl)
  have d1 := (cell_of hg 1).trans (show _ = some (Value.int .i64 0) from rfl)
  have d2 := (cell_of hg 2).trans (show _ = some (Value.int .i64 0) from rfl)
  have y0 := free_of hg 0; have y1 := free_of hg 1; have y2 := free_of hg 2
  have hfin := setCell_blk (o := 2) (setCell_blk (o := 1) (setCell_blk (o := 0) hg (.int .i64 (b.seats : Int))) (.int .i64 (b.codes : Int))) (.int .i64 (b.group : Int))
  have e0 := (cell_of hfin 0).trans (show _ = some (Value.int .i64 (b.seats : Int)) from rfl)
  have e1 := (cell_of hfin 1).trans (show _ = some (Value.int .i64 (b.codes : Int)) from rfl)
  have e2 := (cell_of hfin 2).trans (show _ = some (Value.int .i64 (b.group : Int)) from rfl)
  have Ff := Lib.hid (show Fr (fun _ => False) w (((w1.setCell ⟨z, 0, none⟩ (.int .i64 (b.seats : Int))).setCell ⟨z, 1, none⟩ (.int .i64 (b.codes : Int))).setCell ⟨z, 2, none⟩ (.int .i64 (b.group : Int))) from
    (((F0.out.trans f1 (fun _ _ h => h)).setCell (p := ⟨z, 0, none⟩) (fun e => by have := HZ.out; simp at e; omega) _).setCell (p := ⟨z, 1, none⟩) (fun e => by have := HZ.out; simp at e; omega) _).setCell (p := ⟨z, 2, none⟩) (fun e => by have := HZ.out; simp at e; omega) _)
  clear f1 hg hfin c0
  go_wp2_with fail
  refine bodyPost_ret (v := shV b.seats b.codes b.group) ?_ rfl ⟨rfl, Ff.out⟩
  simp [results, Tryz.f26, go_sem, e0, e1, e2]
/-! ### Get, At -/
def getE (o : Option Bo) : Ending := match o with
  | some x => .returned (.tuple #[boV x, .int .i64 0])
  | none => .returned (.tuple #[boV (0, 0, 0), .int .i64 171])
def Pt.steps (p : Pt) (st : Nat) : Pt := { p with st := st }
theorem BkP.steps (h : BkP p bb nx b LS LD w) {w' : World} {st : Nat} (hi : Ix.IxAt w' p.ip p.ig p.N b.codes (idsOf b.L) st) (f : Fr (fun x => x = p.ip) w w') : BkP (p.steps st) bb nx b LS LD w' := by
  obtain ⟨lab, hl⟩ := h.lab
  have n0 : bb ≠ p.ip := fun e => by have := hl.l0; rw [e, hl.l2] at this; cases this
  have n1 : p.tp ≠ p.ip := fun e => by have := hl.l1; rw [e, hl.l2] at this; cases this
  have n5 : p.mp ≠ p.ip := fun e => by have := hl.l5; rw [e, hl.l2] at this; cases this
  exact ⟨f.get h.head n0, h.set.fr f n1 (fun x hx e => by have := (hl.l1v x hx).1; rw [e, hl.l2] at this; cases this), hi, Row.fr h.row f (fun x hx e => by have := hl.l3 x hx; rw [e, hl.l2] at this; cases this),
    h.heap.fr f (fun x hx e => by have := hl.l4 x hx; rw [e, hl.l2] at this; cases this), h.map.fr f n5, h.due, h.nh, h.raw, lab, ⟨hl.l0, hl.l1, hl.l1v, hl.l2, hl.l2g, hl.l3, hl.l4, hl.l5⟩⟩
theorem Pt.steps_own (p : Pt) (st bb : Nat) : (p.steps st).own bb = p.own bb := rfl
set_option maxRecDepth 100000 in
set_option maxHeartbeats 400000 in
theorem get_ok (h : BkP p bb nx b b.L LD w) {id : Nat} (hid : id < 4294967296) : Calls Tryz.prog 47 #[.pointer (some ⟨bb, 0, none⟩), .int .u32 (id : Int)] w fun e w' => e = getE (bFind b.L id) ∧ (∃ st, BkP (p.steps st) bb nx b b.L LD w') ∧ Fr (fun x => x = p.ip) w w' := by
  obtain ⟨W, hW⟩ : ∃ W, W = w.alloc (.cells #[.int .u32 0, .int .i64 0, .int .i64 0] 68) := ⟨_, rfl⟩
  obtain ⟨z, hz⟩ : ∃ z, z = w.heap.size := ⟨_, rfl⟩
  have f0 : Fr (fun _ => False) w W := by rw [hW]; exact Fr.alloc (Fr.refl _ _) _
  have hg : W.heap[z]? = some (.cells #[.int .u32 0, .int .i64 0, .int .i64 0] 68 (0, 0)) := by rw [hW, hz]; exact heap_alloc_at _ _
  have h1 := h.keep f0
  have c7 := h1.c.2.2.2.2.2.2.2.1
  have HT := Lib.hid (there_ok h1)
  have HG := Lib.hid (Ix.get_ok h1.idx hid)
  rw [ids_look] at HG
  have Hg := Lib.hid hg; have F0 := Lib.hid f0; have H1 := Lib.hid h1; have HZ := Lib.hid (show w.heap.size ≤ z by omega)
  have Hzi := Lib.hid (show z ≠ p.ip from fun e => by have := h.lt (x := p.ip) (.inr (.inr (.inr (.inl rfl)))); omega)
  clear f0 hg h1
  go_enter Tryz.func47, Tryz.ntmps47
  go_upto_region 1 with fail
  rw [← hW, ← hz]
  clear hW hz
  go_wp2_with fail
  refine HT.out.mono ?_
  rintro e w1 ⟨rfl, rfl⟩
  go_wp2_with fail
  refine HG.out.mono ?_
  rintro e w1 ⟨st', _, rfl, hi, f1⟩
  have h2 := H1.out.steps hi f1
  have hg2 := f1.get Hg.out Hzi.out
  have H2 := Lib.hid h2
  have Fq := Lib.hid ((F0.out.mono (fun _ _ h => h.elim) : Fr (fun x => x = p.ip) w _).trans f1 (fun _ _ h => h))
  have d0 := (cell_of hg2 0).trans (show _ = some (Value.int .u32 0) from rfl)
  have d1 := (cell_of hg2 1).trans (show _ = some (Value.int .i64 0) from rfl)
  have d2 := (cell_of hg2 2).trans (show _ = some (Value.int .i64 0) from rfl)
  have y0 := free_of hg2 0; have y1 := free_of hg2 1; have y2 := free_of hg2 2
  have key : ∀ x : Bo, ∃ W', W' = ((w1.setCell ⟨z, 0, none⟩ (.int .u32 (x.1 : Int))).setCell ⟨z, 1, none⟩ (.int .i64 x.2.1)).setCell ⟨z, 2, none⟩ (.int .i64 x.2.2) ∧ W'.cell? ⟨z, 0, none⟩ = some (.int .u32 (x.1 : Int)) ∧ W'.cell? ⟨z, 1, none⟩ = some (.int .i64 x.2.1) ∧ W'.cell? ⟨z, 2, none⟩ = some (.int .i64 x.2.2) ∧ BkP (p.steps st') bb nx b b.L LD W' ∧ Fr (fun x => x = p.ip) w W' := by
    intro x
    have hfin := setCell_blk (o := 2) (setCell_blk (o := 1) (setCell_blk (o := 0) hg2 (.int .u32 (x.1 : Int))) (.int .i64 x.2.1)) (.int .i64 x.2.2)
    have fz : Fr (fun y => y = z) w1 (((w1.setCell ⟨z, 0, none⟩ (.int .u32 (x.1 : Int))).setCell ⟨z, 1, none⟩ (.int .i64 x.2.1)).setCell ⟨z, 2, none⟩ (.int .i64 x.2.2)) :=
      (((Fr.refl (fun y => y = z) _).setCell (p := ⟨z, 0, none⟩) (fun _ => rfl) _).setCell (p := ⟨z, 1, none⟩) (fun _ => rfl) _).setCell (p := ⟨z, 2, none⟩) (fun _ => rfl) _
    exact ⟨_, rfl, (cell_of hfin 0).trans rfl, (cell_of hfin 1).trans rfl, (cell_of hfin 2).trans rfl,
      h2.fr fz (fun y hy e => by have := h.lt (x := y) (by rw [Pt.steps_own] at hy; exact hy); have := HZ.out; omega), Fq.out.trans fz (fun y hy e => by have := HZ.out; omega)⟩
  cases hf : bFind b.L id with
  | none =>
    have he : getE (bFind b.L id) = .returned (.tuple #[boV (0, 0, 0), .int .i64 171]) := by rw [hf]; rfl
    obtain ⟨W', e', k0, k1, k2, k3, k4⟩ := key (0, 0, 0)
    have K3 := Lib.hid k3; have K4 := Lib.hid k4
    rw [e'] at k0 k1 k2 K3 K4
    clear key hf e' k3 k4 hi f1 h2 hg2 h c7
    go_wp2_with fail
    refine bodyPost_ret (v := .tuple #[boV (0, 0, 0), .int .i64 171]) ?_ rfl ⟨he.symm, ⟨_, K3.out⟩, K4.out⟩
    simp at k0 k1 k2
    simp [results, Tryz.f47, go_sem, k0, k1, k2]
  | some x =>
    have he : getE (bFind b.L id) = .returned (.tuple #[boV x, .int .i64 0]) := by rw [hf]; rfl
    obtain ⟨W', e', k0, k1, k2, k3, k4⟩ := key x
    have K3 := Lib.hid k3; have K4 := Lib.hid k4
    rw [e'] at k0 k1 k2 K3 K4
    have hx := bFind_id hf
    have hs := h.raw.at_ x hx.2
    obtain ⟨k, hk⟩ : ∃ k : Nat, x.2.1 = (k : Int) := ⟨x.2.1.toNat, by omega⟩
    obtain ⟨g, cap, ev, _, _, hc⟩ := h2.seats
    have hkn : k < b.seats := by omega
    obtain ⟨s0, s1, s2⟩ := hc k hkn
    have hb : bSeat b.L (k : Int) = some x := by rw [← hk]; exact (bSeat_some h.raw.lone).2 hx.2
    rw [hb] at s0 s1 s2
    simp only [Option.getD_some] at s0 s1 s2
    have c8 := h2.c.2.2.2.2.2.2.2.2.1
    rw [ev] at c8
    have hkn' : (k : Int) < (b.seats : Int) := by omega
    have hsm : (b.seats : Int) ≤ 1024 := by have := h.raw.s1; omega
    simp only [Option.map_some, Option.getD_some, Option.isSome_some]
    rw [hk] at k0 k1 k2 K3 K4 s1
    clear key hf e' k3 k4 hi f1 h2 hg2 h hx hs hc hkn hb ev
    go_wp2_with fail
    refine bodyPost_ret (v := .tuple #[boV x, .int .i64 0]) ?_ rfl ⟨he.symm, ⟨_, K3.out⟩, K4.out⟩
    try simp at k0 k1 k2
    simp [hk, results, Tryz.f47, go_sem, k0, k1, k2]
end
end Go.Proofs.YtffnjnnmlfgngaaGreat.Bk
namespace Go.Proofs.YtffnjnnmlfgngaaGreat.Bk
open Go.RowKit
theorem Fr.undrew {F : Nat → Prop} {w w' : World} (h : Fr F w.drew w') : Fr F w w' := ⟨h.os, h.tape, h.output, h.size, h.blk⟩
section
variable {p : Pt} {bb nx : Nat} {b : Bk} {LS LD : List Bo} {w w' : World} {lab : Nat → Nat}
/-- What is new has a label of its own. -/
theorem BkP.labs (h : BkP p bb nx b LS LD w) : ∃ lab, Lab p bb lab ∧ ∀ x, w.heap.size ≤ x → lab x = 9 := by
  obtain ⟨lab, hl⟩ := h.lab
  have lt : ∀ x, p.own bb x → x < w.heap.size := fun x hx => h.lt hx
  refine ⟨fun x => if x < w.heap.size then lab x else 9, ⟨?_, ?_, ?_, ?_, ?_, ?_, ?_, ?_⟩, fun x hx => if_neg (by omega)⟩
  · simp only [if_pos (lt bb (.inl rfl))]; exact hl.l0
  · simp only [if_pos (lt p.tp (.inr (.inl rfl)))]; exact hl.l1
  · intro x hx
    simp only [if_pos (lt x (.inr (.inr (.inl hx))))]; exact hl.l1v x hx
  · simp only [if_pos (lt p.ip (.inr (.inr (.inr (.inl rfl)))))]; exact hl.l2
  · simp only [if_pos (lt p.ig (.inr (.inr (.inr (.inr (.inl rfl))))))]; exact hl.l2g
  · intro x hx
    simp only [if_pos (lt x (.inr (.inr (.inr (.inr (.inr (.inl hx)))))))]; exact hl.l3 x hx
  · intro x hx
    simp only [if_pos (lt x (.inr (.inr (.inr (.inr (.inr (.inr (.inl hx))))))))]; exact hl.l4 x hx
  · simp only [if_pos (lt p.mp (.inr (.inr (.inr (.inr (.inr (.inr (.inr rfl))))))))]; exact hl.l5
variable (hl : Lab p bb lab) {k : Nat} (f : Fr (fun x => lab x = k) w w')
include hl f
theorem Lab.head (hk : k ≠ 0) {o : Obj} (h : w.heap[bb]? = some o) : w'.heap[bb]? = some o := f.get h (fun e => hk (by rw [← e, hl.l0]))
theorem Lab.set (hk : k ≠ 1) {B : List Bool} (h : Bt.SetAt w p.tp p.tv B) : Bt.SetAt w' p.tp p.tv B := h.fr f (fun e => hk (by rw [← e, hl.l1])) (fun x hx e => hk (by rw [← e, (hl.l1v x hx).1]))
theorem Lab.idx (hk : k ≠ 2) {N most : Nat} {L : List (Nat × Int)} {st : Nat} (h : Ix.IxAt w p.ip p.ig N most L st) : Ix.IxAt w' p.ip p.ig N most L st := h.fr f (fun e => hk (by rw [← e, hl.l2])) (fun e => hk (by rw [← e, hl.l2g]))
theorem Lab.row (hk : k ≠ 3) {L : List Bo} (h : Bos w p.sv L) : Bos w' p.sv L := Row.fr h f (fun x hx e => hk (by rw [← e, hl.l3 x hx]))
theorem Lab.heap (hk : k ≠ 4) {H : List It} {nh : Int} (h : HpD p.GH p.hp H nh w) : HpD p.GH p.hp H nh w' := h.fr f (fun x hx e => hk (by rw [← e, hl.l4 x hx]))
theorem Lab.map (hk : k ≠ 5) {g : Int → Option Int} (h : UMap w p.mp g) : UMap w' p.mp g := h.fr f (fun e => hk (by rw [← e, hl.l5]))
end
/-- The same places, other contents. -/
def Pt.re (p : Pt) (GH : Nat → Prop) (H : List It) (nh : Int) (g : Int → Option Int) (st : Nat) : Pt := { p with GH := GH, H := H, nh := nh, f := g, st := st }
section
variable {p : Pt} {bb nx : Nat} {b : Bk} {LS LD : List Bo} {w w' : World}
/-- A book made anew of its parts. -/
theorem Lab.build {lab : Nat → Nat} (hl : Lab p bb lab) (h9 : ∀ x, w.heap.size ≤ x → lab x = 9) {nx' : Nat} {b' : Bk} {LS' LD' : List Bo} {GH : Nat → Prop} {H : List It} {nh : Int} {g : Int → Option Int} {st : Nat}
    (head : w'.heap[bb]? = some (headB p b' nx')) (set : Bt.SetAt w' p.tp p.tv (takenOf b'.seats b'.L)) (idx : Ix.IxAt w' p.ip p.ig p.N b'.codes (idsOf b'.L) st) (row : Bos w' p.sv (seatsOf b'.seats LS'))
    (heap : HpD GH p.hp H nh w') (map : UMap w' p.mp g) (due : Due LD' H g) (hnh : nh ≤ (b'.next : Int)) (raw : Raw b') (hg : ∀ x, GH x → p.GH x ∨ w.heap.size ≤ x) : BkP (p.re GH H nh g st) bb nx' b' LS' LD' w' := by
  refine ⟨head, set, idx, row, heap, map, due, hnh, raw, fun x => if lab x = 9 then 4 else lab x, ⟨?_, ?_, ?_, ?_, ?_, ?_, ?_, ?_⟩⟩
  · simp only [hl.l0]; rfl
  · show (if lab p.tp = 9 then 4 else lab p.tp) = 1; rw [hl.l1]; rfl
  · intro x hx; have := hl.l1v x hx; simp only [this.1]; exact ⟨rfl, this.2⟩
  · show (if lab p.ip = 9 then 4 else lab p.ip) = 2; rw [hl.l2]; rfl
  · show (if lab p.ig = 9 then 4 else lab p.ig) = 2; rw [hl.l2g]; rfl
  · intro x hx; have := hl.l3 x hx; simp only [this]; rfl
  · intro x hx
    rcases hg x hx with h | h
    · simp only [hl.l4 x h]; rfl
    · simp only [h9 x h]; rfl
  · show (if lab p.mp = 9 then 4 else lab p.mp) = 5; rw [hl.l5]; rfl
theorem Pt.re_own {GH : Nat → Prop} {H : List It} {nh : Int} {g : Int → Option Int} {st : Nat} {n : Nat} (hg : ∀ x, GH x → p.GH x ∨ n ≤ x) : ∀ x, (p.re GH H nh g st).own bb x → p.own bb x ∨ n ≤ x := by
  intro x hx
  rcases hx with h | h | h | h | h | h | h | h
  · exact .inl (.inl h)
  · exact .inl (.inr (.inl h))
  · exact .inl (.inr (.inr (.inl h)))
  · exact .inl (.inr (.inr (.inr (.inl h))))
  · exact .inl (.inr (.inr (.inr (.inr (.inl h)))))
  · exact .inl (.inr (.inr (.inr (.inr (.inr (.inl h))))))
  · rcases hg x h with h | h
    · exact .inl (.inr (.inr (.inr (.inr (.inr (.inr (.inl h)))))))
    · exact .inr h
  · exact .inl (.inr (.inr (.inr (.inr (.inr (.inr (.inr h)))))))
/-- The blocks of a part are the book's. -/
theorem Pt.ownH {x : Nat} (h : p.GH x) : p.own bb x := .inr (.inr (.inr (.inr (.inr (.inr (.inl h))))))
theorem Pt.ownM : p.own bb p.mp := .inr (.inr (.inr (.inr (.inr (.inr (.inr rfl))))))
theorem Pt.ownS {x : Nat} (h : p.sv.ownBlock = some x) : p.own bb x := .inr (.inr (.inr (.inr (.inr (.inl h)))))
theorem Pt.ownT {x : Nat} (h : p.tv.ownBlock = some x) : p.own bb x := .inr (.inr (.inl h))
theorem Pt.ownI {x : Nat} (h : x = p.ip ∨ x = p.ig) : p.own bb x := h.elim (fun h => .inr (.inr (.inr (.inl h)))) (fun h => .inr (.inr (.inr (.inr (.inl h)))))
set_option maxRecDepth 100000 in
set_option maxHeartbeats 1000000 in
theorem firm_ok (h : BkP p bb nx b LS LD w) (hi : ∀ x ∈ LD, x.1 < 4294967296) (hu : LD.Pairwise fun x y => x.1 < y.1) {id : Nat} :
    Calls Tryz.prog 76 #[.pointer (some ⟨bb, 0, none⟩), .int .u32 (id : Int)] w fun e w' => e = .returned (.tuple #[]) ∧ ∃ p', BkP p' bb nx b LS (bFirm LD id) w' ∧ Fr (p.own bb) w w' ∧ ∀ x, p'.own bb x → p.own bb x := by
  have c9 := h.c.2.2.2.2.2.2.2.2.2.1
  have c10 := h.c.2.2.2.2.2.2.2.2.2.2
  have hlk := run_lookup2U (P := Tryz.prog) Tryz.underlying99 Tryz.underlying24 h.map (Tryz.zeroValue3 _) (id : Int)
  cases hf : p.f (id : Int) with
  | none =>
    have hE := Lib.hid (show ∃ p', BkP p' bb nx b LS (bFirm LD id) w ∧ Fr (p.own bb) w w ∧ ∀ x, p'.own bb x → p.own bb x from
      ⟨p, ⟨h.head, h.set, h.idx, h.row, h.heap, h.map, h.due.firm0 hi hf, h.nh, h.raw, h.lab⟩, Fr.refl _ _, fun _ h => h⟩)
    rw [hf] at hlk
    simp only [Option.getD_none, Option.isSome_none] at hlk
    clear h hi hu hf c9
    go_enter Tryz.func76, Tryz.ntmps76
    go_wp2_with fail
    go_end0
    exact ⟨rfl, hE.out⟩
  | some hh =>
    obtain ⟨i, hil, e1, e2⟩ := h.due.find hf
    rw [hf] at hlk
    simp only [Option.getD_some, Option.isSome_some] at hlk
    have HD := Lib.hid (Du.drop_there less_ok h.heap hil)
    rw [e1] at HD
    obtain ⟨lab, hl, h9⟩ := h.labs
    have H := Lib.hid h; have HL := Lib.hid hl; have H9 := Lib.hid h9
    have HDu := Lib.hid (h.due.firm hi hu hil e2)
    have lbl := lt_of_block h.head
    have nbl : ¬ (False ∨ p.GH bb) := by rintro (h | h); exact h; have := hl.l4 _ h; rw [hl.l0] at this; cases this
    clear h hi hu hf hil e1 e2 hl h9
    go_enter Tryz.func76, Tryz.ntmps76
    go_wp2_with fail
    refine HD.out.mono ?_
    rintro e w1 ⟨rfl, hH1, hf1⟩
    have k1 := (hf1.cell (o := 10) (s := none) lbl nbl).trans c10
    have fl1 : Fr (fun x => lab x = 4) w w1 := hf1.mono (fun x _ hx => HL.out.l4 x (hx.elim False.elim (fun h => h)))
    obtain ⟨es, c, hrun, hM1⟩ := run_deleteU (P := Tryz.prog) Tryz.underlying99 Tryz.underlying24 (HL.out.map fl1 (by decide) H.out.map) (id : Int) #[99, 24] rfl 0
    have fm : Fr (fun x => x = p.mp) w1 (setMap w1 p.mp es c) := Fr.setMap (F := fun x => x = p.mp) (b := p.mp) (Fr.refl _ _) (fun _ => rfl) _ _
    have fl2 : Fr (fun x => lab x = 5) w1 (setMap w1 p.mp es c) := fm.mono (fun x _ hx => by rw [hx]; exact HL.out.l5)
    have hE := Lib.hid (show ∃ p', BkP p' bb nx b LS (bFirm LD id) (setMap w1 p.mp es c) ∧ Fr (p.own bb) w (setMap w1 p.mp es c) ∧ ∀ x, p'.own bb x → p.own bb x from
      ⟨_, HL.out.build H9.out (HL.out.head fl2 (by decide) (HL.out.head fl1 (by decide) H.out.head)) (HL.out.set fl2 (by decide) (HL.out.set fl1 (by decide) H.out.set)) (HL.out.idx fl2 (by decide) (HL.out.idx fl1 (by decide) H.out.idx))
        (HL.out.row fl2 (by decide) (HL.out.row fl1 (by decide) H.out.row)) (HL.out.heap fl2 (by decide) hH1) hM1 HDu.out H.out.nh H.out.raw (fun x hx => .inl hx),
        (hf1.mono (fun x _ hx => Pt.ownH (hx.elim False.elim (fun h => h)))).trans fm (fun x _ hx => by rw [hx]; exact Pt.ownM), fun x hx => by
          rcases hx with h | h | h | h | h | h | h | h
          · exact .inl h
          · exact .inr (.inl h)
          · exact .inr (.inr (.inl h))
          · exact .inr (.inr (.inr (.inl h)))
          · exact .inr (.inr (.inr (.inr (.inl h))))
          · exact .inr (.inr (.inr (.inr (.inr (.inl h)))))
          · exact .inr (.inr (.inr (.inr (.inr (.inr (.inl h))))))
          · exact .inr (.inr (.inr (.inr (.inr (.inr (.inr h))))))⟩)
    clear c9 c10 hlk hH1 hf1 hM1 fl1 fm fl2
    go_wp2_with fail
    go_end0
    exact ⟨rfl, hE.out⟩
end
end Go.Proofs.YtffnjnnmlfgngaaGreat.Bk
namespace Go.Proofs.YtffnjnnmlfgngaaGreat.Ix
open Go.RowKit
theorem setCells_blk : ∀ (vs A M R : List Value) (o : Nat) (w : World) (b : Nat) (t : TypeId), w.heap[b]? = some (.cells (A ++ M ++ R).toArray t (0, 0)) → A.length = o → M.length = vs.length → (w.setCells b o vs).heap[b]? = some (.cells (A ++ vs ++ R).toArray t (0, 0))
  | [], A, M, R, o, w, b, t, h, _, hM => by
    obtain rfl : M = [] := List.length_eq_zero_iff.1 hM
    exact h
  | v :: vs, A, M, R, o, w, b, t, h, hA, hM => by
    cases M with
    | nil => simp at hM
    | cons m M =>
      have h1 := setCell_blk (o := o) h v
      have e : ((A ++ m :: M ++ R).toArray.setIfInBounds o v) = (A ++ [v] ++ M ++ R).toArray := by
        subst hA
        simp
      rw [e] at h1
      have := setCells_blk vs (A ++ [v]) M R (o + 1) _ b t h1 (by simp [hA]) (by simpa using hM)
      simpa [World.setCells] using this
theorem setCells_fr : ∀ (vs : List Value) (o : Nat) (w : World) (b : Nat), Fr (fun k => k = b) w (w.setCells b o vs)
  | [], o, w, b => Fr.refl _ _
  | v :: vs, o, w, b => by
    have h1 : Fr (fun k => k = b) w (w.setCell ⟨b, o, none⟩ v) := Fr.setCell (F := fun k => k = b) (p := ⟨b, o, none⟩) (Fr.refl _ w) (fun _ => rfl) v
    have := h1.trans (setCells_fr vs (o + 1) _ b) (fun _ _ h => h)
    simpa [World.setCells] using this
/-- The slots lie at the head of block b. -/
def BufAt (w : World) (b : Nat) (S : List Sl) : Prop := ∃ rest, w.heap[b]? = some (.cells (flat3 S ++ rest).toArray 196 (0, 0))
section buf
variable {w : World} {b : Nat} {S : List Sl}
theorem BufAt.fr {w' : World} (h : BufAt w b S) {F : Nat → Prop} (f : Fr F w w') (hn : ¬ F b) : BufAt w' b S := by
  obtain ⟨r, h⟩ := h; exact ⟨r, f.get h hn⟩
theorem BufAt.lt (h : BufAt w b S) : b < w.heap.size := by
  obtain ⟨r, h⟩ := h; exact lt_of_block h
theorem BufAt.cells (h : BufAt w b S) {p : Nat} (hp : p < S.length) : w.cell? ⟨b, p * 3, none⟩ = some (.int .u8 ((slAt S p).1 : Int)) ∧ w.cell? ⟨b, p * 3 + 1, none⟩ = some (.int .u32 ((slAt S p).2.1 : Int)) ∧ w.cell? ⟨b, p * 3 + 2, none⟩ = some (.int .i64 (slAt S p).2.2) := by
  obtain ⟨r, h⟩ := h
  have := flat3_get S p hp
  have hl : p * 3 + 2 < (flat3 S).length := by rw [flat3_length]; omega
  rw [cell_of h, cell_of h, cell_of h]
  simp only [List.getElem?_toArray]
  rw [List.getElem?_append_left (by omega), List.getElem?_append_left (by omega), List.getElem?_append_left (by omega)]
  exact this
theorem BufAt.free (h : BufAt w b S) (k : Nat) : w.frozen? ⟨b, k, none⟩ = false := by
  obtain ⟨r, h⟩ := h; exact free_of h k
theorem BufAt.set (h : BufAt w b S) {p : Nat} (hp : p < S.length) (x : Sl) :
    BufAt (((w.setCell ⟨b, p * 3, none⟩ (.int .u8 (x.1 : Int))).setCell ⟨b, p * 3 + 1, none⟩ (.int .u32 (x.2.1 : Int))).setCell ⟨b, p * 3 + 2, none⟩ (.int .i64 x.2.2)) b (S.set p x) := by
  obtain ⟨r, h⟩ := h
  have hl : p * 3 + 2 < (flat3 S).length := by rw [flat3_length]; omega
  refine ⟨r, ?_⟩
  rw [flat3_set hp]
  have h1 := setCell_blk (o := p * 3) h (.int .u8 (x.1 : Int))
  have h2 := setCell_blk (o := p * 3 + 1) h1 (.int .u32 (x.2.1 : Int))
  have h3 := setCell_blk (o := p * 3 + 2) h2 (.int .i64 x.2.2)
  rw [h3]
  simp only [List.setIfInBounds_toArray]
  rw [List.set_append_left _ _ (by omega), List.set_append_left _ _ (by rw [List.length_set]; omega), List.set_append_left _ _ (by rw [List.length_set, List.length_set]; omega)]
theorem set3_fr (w : World) (b p : Nat) (u v x : Value) : Fr (fun k => k = b) w (((w.setCell ⟨b, p * 3, none⟩ u).setCell ⟨b, p * 3 + 1, none⟩ v).setCell ⟨b, p * 3 + 2, none⟩ x) :=
  Fr.setCell (F := fun k => k = b) (p := ⟨b, p * 3 + 2, none⟩) (Fr.setCell (F := fun k => k = b) (p := ⟨b, p * 3 + 1, none⟩) (Fr.setCell (F := fun k => k = b) (p := ⟨b, p * 3, none⟩) (Fr.refl _ w) (fun _ => rfl) _) (fun _ => rfl) _) (fun _ => rfl) _
end buf
abbrev aggOf (x : Sl) : Value := .agg #[.int .u8 (x.1 : Int), .int .u32 (x.2.1 : Int), .int .i64 x.2.2]
/-- Is a slot not full? -/
def gone (x : Sl) : Bool := !(x.1 == 1)
set_option maxRecDepth 100000 in
theorem del_fn (x : Sl) (w : World) : Calls Tryz.prog 148 #[aggOf x] w fun e w' => e = .returned (.bool (gone x)) ∧ Fr (fun _ => False) w w' := by
  obtain ⟨a, i, v⟩ := x
  obtain ⟨q, hq⟩ : ∃ q, q = gone (a, i, v) := ⟨_, rfl⟩
  have hb : ((a : Int) != 1) = q := by
    rw [hq]
    show (!((a : Int) == 1)) = !(a == 1)
    congr 1
    rw [Bool.eq_iff_iff]
    simp only [beq_iff_eq]
    omega
  rw [← hq]
  clear hq
  go_enter Tryz.func148, Tryz.ntmps148
  go_wp2_with fail
  go_ret
  exact ⟨rfl, Fr.alloc (Fr.refl _ _) _⟩
abbrev delV : Value := .func (.func 148) #[] #[]
/-- What IndexFunc tells. -/
def First (S : List Sl) (e : Ending) : Prop := (∃ k : Nat, e = .returned (.int .i64 (k : Int)) ∧ k < S.length ∧ gone (slAt S k) = true ∧ ∀ j, j < k → gone (slAt S j) = false) ∨ (e = .returned (.int .i64 (-1)) ∧ ∀ j, j < S.length → gone (slAt S j) = false)
set_option maxRecDepth 100000 in
theorem indexFunc_ok {w : World} {b n cap : Nat} {S : List Sl} (H : BufAt w b S) (hn : S.length = n) (h8 : n ≤ 8192) :
    Calls Tryz.prog 155 #[.slice (some ⟨b, 0, none⟩) n cap, delV] w fun e w' => Fr (fun _ => False) w w' ∧ First S e := by
  have HB := Lib.hid H; have HN := Lib.hid hn; have H8 := Lib.hid h8
  clear H hn h8
  go_enter Tryz.func155, Tryz.ntmps155
  go_upto_block 0 with fail
  go_cut [8] (fun _ wx => Fr (fun _ => False) w wx ∧ ∀ j, j < S.length → gone (slAt S j) = false)
  case first =>
    go_wp2_with fail
    go_loopw [8] (fun s8 wr => ∃ k : Nat, s8 = .int .i64 (k : Int) ∧ k ≤ n ∧ Fr (fun _ => False) w wr ∧ ∀ j, j < k → gone (slAt S j) = false) (fun s8 _ => n - (intOf s8).toNat)
    case atStart => exact ⟨0, rfl, Nat.zero_le _, Fr.refl _ _, fun j hj => absurd hj (Nat.not_lt_zero _)⟩
    case round =>
      obtain ⟨k, rfl, hk, hf, hj⟩ := hrel
      have HF := Lib.hid hf; have HJ := Lib.hid hj
      clear hf hj
      by_cases hlt : k < n
      · have hlt' : (k : Int) < (n : Int) := by omega
        have k0 : (0 : Int) ≤ (k : Int) := by omega
        obtain ⟨c0, c1, c2⟩ := (HB.out.fr HF.out (fun h => h)).cells (p := k) (by rw [HN.out]; exact hlt)
        obtain ⟨x, hx⟩ : ∃ x, x = slAt S k := ⟨_, rfl⟩
        rw [← hx] at c0 c1 c2
        obtain ⟨xa, xi, xv⟩ := x
        simp only at c0 c1 c2
        have HX := Lib.hid hx; have HL := Lib.hid hlt
        obtain ⟨k1, hk1⟩ : ∃ k1, k1 = k + 1 := ⟨_, rfl⟩
        have e1 : (k : Int) + 1 = (k1 : Int) := by omega
        obtain ⟨e2, e3, -⟩ := wrap_small (x := k1) (by have := H8.out; omega)
        have HK := Lib.hid hk1
        clear hx hlt hk hk1
        go_wp2_with fail
        refine (del_fn (xa, xi, xv) wr).mono ?_
        rintro e w1 ⟨rfl, f1⟩
        have F1 := Lib.hid f1
        clear f1
        cases hg : gone (xa, xi, xv) with
        | true =>
          have HG := Lib.hid hg
          clear hg
          go_wp2_with fail
          go_ret
          exact ⟨HF.out.trans F1.out (fun _ _ h => h), .inl ⟨k, rfl, by rw [HN.out]; exact HL.out, by rw [← HX.out]; exact HG.out, HJ.out⟩⟩
        | false =>
          have HG := Lib.hid hg
          clear hg
          go_wp2_with fail
          go_roundw
          case rel => exact ⟨k1, rfl, by have := HK.out; have := HL.out; omega, HF.out.trans F1.out (fun _ _ h => h), fun j hj => by
            have := HK.out
            rcases (by omega : j < k ∨ j = k) with h | rfl
            · exact HJ.out j h
            · rw [← HX.out]; exact HG.out⟩
          case measure => have := HK.out; have := HL.out; simp [intOf]; omega
      · obtain rfl : k = n := by omega
        clear hlt hk
        go_wp2_with fail
        go_meet
        exact ⟨HF.out, by rw [HN.out]; exact HJ.out⟩
  case rest =>
  obtain ⟨hf, hj⟩ := hcut
  have HF := Lib.hid hf; have HJ := Lib.hid hj
  clear hf hj
  go_wp2_with fail
  go_ret
  exact ⟨HF.out, .inr ⟨rfl, HJ.out⟩⟩
end Go.Proofs.YtffnjnnmlfgngaaGreat.Ix
namespace Go.Proofs.YtffnjnnmlfgngaaGreat.Ix
open Go.RowKit
def live (x : Sl) : Bool := x.1 == 1
theorem gone_live (x : Sl) : gone x = !live x := rfl
theorem BufAt.take {w : World} {b : Nat} {A B : List Sl} (h : BufAt w b (A ++ B)) : BufAt w b A := by
  obtain ⟨r, h⟩ := h
  exact ⟨flat3 B ++ r, by rw [h, flat3_append, List.append_assoc]⟩
/-- Behind j slots: those that stay, what is done with, what is left. -/
def Shape (S T : List Sl) (i j : Nat) : Prop := ∃ mid, T = (S.take j).filter live ++ mid ++ S.drop j ∧ i = ((S.take j).filter live).length ∧ mid ≠ [] ∧ j ≤ S.length ∧ T.length = S.length
theorem take_succ_slAt {S : List Sl} {j : Nat} (hj : j < S.length) : S.take (j + 1) = S.take j ++ [slAt S j] := by
  rw [List.take_add_one, slAt_of hj]; rfl
theorem drop_slAt {S : List Sl} {j : Nat} (hj : j < S.length) : S.drop j = slAt S j :: S.drop (j + 1) := by
  have := slAt_of hj
  obtain ⟨h, e⟩ := List.getElem?_eq_some_iff.1 this
  rw [← e]; exact List.drop_eq_getElem_cons h
theorem Shape.len1 {S T : List Sl} {i j : Nat} (h : Shape S T i j) : i < j ∧ i < T.length := by
  obtain ⟨mid, rfl, rfl, hm, hj, hl⟩ := h
  have : 0 < mid.length := by cases mid with | nil => exact absurd rfl hm | cons => simp
  simp only [List.length_append, List.length_drop] at hl ⊢
  omega
theorem Shape.at_ {S T : List Sl} {i j : Nat} (h : Shape S T i j) (hj : j < S.length) : slAt T j = slAt S j := by
  obtain ⟨mid, rfl, rfl, hm, _, hl⟩ := h
  have hp : ((S.take j).filter live ++ mid).length = j := by
    simp only [List.length_append, List.length_drop] at hl ⊢
    omega
  have e : ((S.take j).filter live ++ mid ++ S.drop j)[j]? = some (slAt S j) := by
    rw [List.getElem?_append_right (by omega), hp, Nat.sub_self, drop_slAt hj]; rfl
  unfold slAt at e ⊢
  rw [List.getD_eq_getElem?_getD, e]; rfl
theorem Shape.skip {S T : List Sl} {i j : Nat} (h : Shape S T i j) (hj : j < S.length) (hx : live (slAt S j) = false) : Shape S T i (j + 1) := by
  obtain ⟨mid, rfl, rfl, hm, _, hl⟩ := h
  refine ⟨mid ++ [slAt S j], ?_, ?_, by simp, hj, hl⟩
  · rw [take_succ_slAt hj, List.filter_append, List.filter_cons_of_neg (by rw [hx]; simp), List.filter_nil, drop_slAt hj]; simp
  · rw [take_succ_slAt hj, List.filter_append, List.filter_cons_of_neg (by rw [hx]; simp), List.filter_nil]; simp
theorem Shape.keep {S T : List Sl} {i j : Nat} (h : Shape S T i j) (hj : j < S.length) (hx : live (slAt S j) = true) : Shape S (T.set i (slAt S j)) (i + 1) (j + 1) := by
  obtain ⟨mid, rfl, rfl, hm, _, hl⟩ := h
  cases mid with
  | nil => exact absurd rfl hm
  | cons m mid =>
    refine ⟨mid ++ [slAt S j], ?_, ?_, by simp, hj, by rw [List.length_set]; exact hl⟩
    · rw [take_succ_slAt hj, List.filter_append, List.filter_cons_of_pos hx, List.filter_nil, drop_slAt hj]; simp
    · rw [take_succ_slAt hj, List.filter_append, List.filter_cons_of_pos hx, List.filter_nil]; simp
theorem Shape.first {S : List Sl} {k : Nat} (hk : k < S.length) (h1 : gone (slAt S k) = true) (h2 : ∀ j, j < k → gone (slAt S j) = false) : Shape S S k (k + 1) := by
  have hf : (S.take k).filter live = S.take k := by
    rw [List.filter_eq_self]
    intro x hx
    obtain ⟨j, hj, rfl⟩ := List.mem_iff_getElem.1 hx
    rw [List.length_take] at hj
    have e : slAt S j = (S.take k)[j] := by rw [List.getElem_take]; simp [slAt, show j < S.length by omega]
    have := h2 j (by omega)
    rw [e, gone_live] at this
    simpa using this
  have hg : live (slAt S k) = false := by rw [gone_live] at h1; simpa using h1
  refine ⟨[slAt S k], ?_, ?_, by simp, hk, rfl⟩
  · rw [take_succ_slAt hk, List.filter_append, List.filter_cons_of_neg (by rw [hg]; simp), List.filter_nil, hf, List.append_nil, List.append_assoc, List.singleton_append, ← drop_slAt hk, List.take_append_drop]
  · rw [take_succ_slAt hk, List.filter_append, List.filter_cons_of_neg (by rw [hg]; simp), List.filter_nil, hf, List.append_nil, List.length_take]; omega
theorem Shape.done {S T : List Sl} {i : Nat} (h : Shape S T i S.length) : ∃ mid, T = S.filter live ++ mid ∧ i = (S.filter live).length ∧ mid.length = S.length - i ∧ i < S.length := by
  have hl := h.len1
  obtain ⟨mid, rfl, rfl, hm, _, hll⟩ := h
  simp only [List.take_length, List.drop_length, List.append_nil] at hl hll ⊢
  refine ⟨mid, rfl, by trivial, ?_, hl.1⟩
  rw [List.length_append] at hll; omega
theorem all_live {S : List Sl} (h : ∀ j, j < S.length → gone (slAt S j) = false) : S.filter live = S := by
  rw [List.filter_eq_self]
  intro x hx
  obtain ⟨j, hj, rfl⟩ := List.mem_iff_getElem.1 hx
  have e : slAt S j = S[j] := by simp [slAt, hj]
  have := h j hj
  rw [e, gone_live] at this
  simpa using this
theorem Tryz.infoSlot : (Tryz.prog.info? 196).map (fun i => (i.zero, i.size, i.bytes)) = some (some (.agg #[.int .u8 0, .int .u32 0, .int .i64 0]), 3, 16) := by kernel_rfl
/-- clear of slots. -/
theorem run_clear3 (w : World) (ty : TypeId) (b o n c : Nat) (hn : 0 < n) (hc : ∀ j, j < n * 3 → (w.cell? ⟨b, o + j, none⟩).isSome = true) (hf : ∀ j, j < n * 3 → w.frozen? ⟨b, o + j, none⟩ = false) :
    (Builtin.clear_ #[154] ty #[.slice (some ⟨b, o, none⟩) n c]).run Tryz.prog w = .ok (.tuple #[]) (w.setCells b o (flat3 (List.replicate n (0, 0, 0)))) := by
  have hz : (Builtin.zeroCells (Value.cells (.agg #[.int .u8 0, .int .u32 0, .int .i64 0])) n).toList = flat3 (List.replicate n (0, 0, 0)) := by
    apply List.ext_getElem?
    intro k
    by_cases hk : k < n * 3
    · have hl : k < (flat3 (List.replicate n ((0, 0, 0) : Sl))).length := by rw [flat3_length, List.length_replicate]; exact hk
      have hs : slAt (List.replicate n ((0, 0, 0) : Sl)) (k / 3) = (0, 0, 0) := by unfold slAt; rw [List.getD_eq_getElem?_getD, List.getElem?_replicate]; split <;> rfl
      obtain ⟨g0, g1, g2⟩ := flat3_get (List.replicate n ((0, 0, 0) : Sl)) (k / 3) (by rw [List.length_replicate]; omega)
      rw [hs] at g0 g1 g2
      have h3 : ∃ i, i < 3 ∧ k = k / 3 * 3 + i := ⟨k % 3, Nat.mod_lt _ (by decide), by omega⟩
      obtain ⟨i, hi, hki⟩ := h3
      have hm : k % 3 = i := by omega
      have hz : (Builtin.zeroCells (Value.cells (.agg #[.int .u8 0, .int .u32 0, .int .i64 0])) n).toList[k]? = (#[Value.int .u8 0, Value.int .u32 0, Value.int .i64 0] : Array Value)[i]? := by
        rw [Array.getElem?_toList]
        simp only [Builtin.zeroCells, Value.cells]
        rw [Array.getElem?_map, Array.getElem?_range, if_pos (by show k < n * 3; exact hk)]
        show some ((#[Value.int .u8 0, Value.int .u32 0, Value.int .i64 0] : Array Value)[k % 3]!) = _
        rw [hm]
        rcases (by omega : i = 0 ∨ i = 1 ∨ i = 2) with rfl | rfl | rfl <;> rfl
      rw [hz, hki]
      rcases (by omega : i = 0 ∨ i = 1 ∨ i = 2) with rfl | rfl | rfl
      · rw [Nat.add_zero, g0]; rfl
      · rw [g1]; rfl
      · rw [g2]; rfl
    · rw [List.getElem?_eq_none (by simp [Builtin.zeroCells, Value.cells]; omega), List.getElem?_eq_none (by rw [flat3_length, List.length_replicate]; omega)]
  have hst := run_storeCells_cells (P := Tryz.prog) b o (flat3 (List.replicate n (0, 0, 0))) 0 w (by intro j hj; rw [flat3_length, List.length_replicate] at hj; simpa using hc j hj) (by intro j hj; rw [flat3_length, List.length_replicate] at hj; first | (simp; done) | simpa using hf j hj)
    (by
      intro v hv
      obtain ⟨x, hx, hv⟩ := List.mem_flatMap.1 hv
      simp only [cells3, List.mem_cons, List.not_mem_nil, or_false] at hv
      rcases hv with rfl | rfl | rfl <;> rfl)
  simp only [Nat.add_zero] at hst
  obtain ⟨m, rfl⟩ : ∃ m, n = m + 1 := ⟨n - 1, by omega⟩
  have hv := fun w => Tryz.zeroValue196 (w := w)
  simp [Builtin.clear_, run_underlying Tryz.underlying154, hv, hz, hst]
end Go.Proofs.YtffnjnnmlfgngaaGreat.Ix
namespace Go.Proofs.YtffnjnnmlfgngaaGreat.Ix
open Go.RowKit
theorem BufAt.some {w : World} {b : Nat} {S : List Sl} (h : BufAt w b S) {k : Nat} (hk : k < S.length * 3) : (w.cell? ⟨b, k, none⟩).isSome = true := by
  obtain ⟨r, h⟩ := h
  rw [cell_of h]
  simp only [List.getElem?_toArray]
  rw [List.getElem?_append_left (by rw [flat3_length]; exact hk), List.getElem?_eq_getElem (by rw [flat3_length]; exact hk)]
  rfl
theorem BufAt.clear {w : World} {b : Nat} {A M : List Sl} (h : BufAt w b (A ++ M)) : BufAt (w.setCells b (A.length * 3) (flat3 (List.replicate M.length (0, 0, 0)))) b A := by
  obtain ⟨r, h⟩ := h
  rw [flat3_append] at h
  have := setCells_blk (flat3 (List.replicate M.length (0, 0, 0))) (flat3 A) (flat3 M) r (A.length * 3) w b _ h (flat3_length A) (by rw [flat3_length, flat3_length, List.length_replicate])
  exact ⟨flat3 (List.replicate M.length (0, 0, 0)) ++ r, by rw [this, List.append_assoc]⟩
set_option maxRecDepth 100000 in
set_option maxHeartbeats 2000000 in
theorem deleteFunc_ok {w : World} {b n cap : Nat} {S : List Sl} (H : BufAt w b S) (hn : S.length = n) (h8 : n ≤ 8192) (hcap : n ≤ cap) (hc6 : cap ≤ 9223372036854775807) :
    Calls Tryz.prog 146 #[.slice (some ⟨b, 0, none⟩) n cap, delV] w fun e w' => ∃ m, e = .returned (.slice (some ⟨b, 0, none⟩) m cap) ∧ m = (S.filter live).length ∧ BufAt w' b (S.filter live) ∧ Fr (fun k => k = b) w w' := by
  have HB := Lib.hid H; have HN := Lib.hid hn; have H8 := Lib.hid h8; have HC := Lib.hid hcap; have HC6 := Lib.hid hc6
  clear H hn h8 hcap hc6
  go_enter Tryz.func146, Tryz.ntmps146
  go_wp2_with fail
  refine (indexFunc_ok HB.out HN.out H8.out).mono ?_
  rintro e w1 ⟨f1, hfirst⟩
  have F1 := Lib.hid f1
  clear f1
  rcases hfirst with ⟨k, rfl, hk, hg, hj⟩ | ⟨rfl, hj⟩
  · have HS := Lib.hid (Shape.first hk hg hj)
    have HK := Lib.hid hk
    have hkm : ((k : Int) == -1) = false := by simp
    have hkm2 : ((k : Int) == (-1 : Int)) = false := hkm
    obtain ⟨j0, hj0⟩ : ∃ j0, j0 = k + 1 := ⟨_, rfl⟩
    have e1 : (k : Int) + 1 = (j0 : Int) := by omega
    obtain ⟨e2, e3, -⟩ := wrap_small (x := j0) (by have := H8.out; have := HN.out; omega)
    have HJ0 := Lib.hid hj0
    clear hk hg hj hj0
    go_upto_block 0 with fail
    clear hkm hkm2 e1 e2 e3
    go_cut [5, 6] (fun s5 s6 wx => ∃ (i : Nat) (T : List Sl), s5 = .int .i64 (i : Int) ∧ Shape S T i S.length ∧ BufAt wx b T ∧ Fr (fun k => k = b) w wx)
    case first =>
      go_wp2_with fail
      go_loopw [5, 6] (fun s5 s6 wr => ∃ (i j : Nat) (T : List Sl), s5 = .int .i64 (i : Int) ∧ s6 = .int .i64 (j : Int) ∧ j ≤ n ∧ Shape S T i j ∧ BufAt wr b T ∧ Fr (fun k => k = b) w wr) (fun _ s6 _ => n - (intOf s6).toNat)
      case atStart => exact ⟨k, j0, S, rfl, rfl, by have := HJ0.out; have := HK.out; have := HN.out; omega, by rw [HJ0.out]; exact HS.out, HB.out.fr F1.out (fun h => h), F1.out.mono (fun _ _ h => h.elim)⟩
      case round =>
        obtain ⟨i, j, T, rfl, rfl, hjn, hs, hb, hf⟩ := hrel
        have HSh := Lib.hid hs; have HBf := Lib.hid hb; have HF := Lib.hid hf
        clear hs hb hf
        by_cases hlt : j < n
        · have hlt' : (j : Int) < (n : Int) := by omega
          have hi1 := HSh.out.len1
          have hTl : T.length = n := by obtain ⟨_, _, _, _, _, h⟩ := HSh.out; rw [h, HN.out]
          have hil : (i : Int) < (n : Int) := by omega
          obtain ⟨c0, c1, c2⟩ := HBf.out.cells (p := j) (by omega)
          rw [HSh.out.at_ (by rw [HN.out]; exact hlt)] at c0 c1 c2
          obtain ⟨x, hx⟩ : ∃ x, x = slAt S j := ⟨_, rfl⟩
          rw [← hx] at c0 c1 c2
          obtain ⟨xa, xi, xv⟩ := x
          simp only at c0 c1 c2
          obtain ⟨j1, hj1⟩ : ∃ j1, j1 = j + 1 := ⟨_, rfl⟩
          have e1 : (j : Int) + 1 = (j1 : Int) := by omega
          obtain ⟨e2, e3, -⟩ := wrap_small (x := j1) (by have := H8.out; omega)
          obtain ⟨i1, hi1'⟩ : ∃ i1, i1 = i + 1 := ⟨_, rfl⟩
          have e4 : (i : Int) + 1 = (i1 : Int) := by omega
          obtain ⟨e5, e6, -⟩ := wrap_small (x := i1) (by have := H8.out; omega)
          have HX := Lib.hid hx; have HL := Lib.hid hlt; have HJ1 := Lib.hid hj1; have HI1 := Lib.hid hi1'; have HTl := Lib.hid hTl; have HI := Lib.hid (show i < T.length from hi1.2)
          clear hx hlt hjn hj1 hi1' hTl hi1
          go_upto_region 8 with fail
          clear c0 c1 c2
          have hw4 : (wr.alloc (.cells #[.int .u8 (xa : Int), .int .u32 (xi : Int), .int .i64 xv] 196)).heap[wr.heap.size]? = some (.cells #[.int .u8 (xa : Int), .int .u32 (xi : Int), .int .i64 xv] 196 (0, 0)) := by rw [heap_alloc_get]; simp
          have hf4 : Fr (fun _ => False) wr (wr.alloc (.cells #[.int .u8 (xa : Int), .int .u32 (xi : Int), .int .i64 xv] 196)) := Fr.alloc (Fr.refl _ _) _
          generalize wr.alloc (.cells #[.int .u8 (xa : Int), .int .u32 (xi : Int), .int .i64 xv] 196) = w4 at hw4 hf4 ⊢
          generalize wr.heap.size = lb at hw4 ⊢
          have l0 := (cell_of hw4 0).trans (show _ = some (Value.int .u8 (xa : Int)) from rfl)
          have l1 := (cell_of hw4 1).trans (show _ = some (Value.int .u32 (xi : Int)) from rfl)
          have l2 := (cell_of hw4 2).trans (show _ = some (Value.int .i64 xv) from rfl)
          have HW4 := Lib.hid hw4; have HF4 := Lib.hid hf4
          clear hw4 hf4
          go_wp2_with fail
          refine (del_fn (xa, xi, xv) w4).mono ?_
          rintro e w5 ⟨rfl, f5⟩
          have hw5 := f5.get HW4.out (fun h => h)
          have hb5 := (HBf.out.fr HF4.out (fun h => h)).fr f5 (fun h => h)
          have hf5 := (HF.out.trans (HF4.out.mono (G := fun k => k = b) (fun _ _ h => h.elim)) (fun _ _ h => h)).trans (f5.mono (G := fun k => k = b) (fun _ _ h => h.elim)) (fun _ _ h => h)
          have HB5 := Lib.hid hb5; have HF5 := Lib.hid hf5
          clear f5 l0 l1 l2 hb5 hf5
          cases hg : gone (xa, xi, xv) with
          | true =>
            have HSk := Lib.hid (HSh.out.skip (by rw [HN.out]; exact HL.out) (by rw [← HX.out]; rw [gone_live] at hg; simpa using hg))
            clear hg hw5
            go_wp2_with fail
            go_roundw
            case rel => exact ⟨i, j1, T, rfl, rfl, by have := HJ1.out; have := HL.out; omega, by rw [HJ1.out]; exact HSk.out, HB5.out, HF5.out⟩
            case measure => have := HJ1.out; have := HL.out; simp [intOf]; omega
          | false =>
            have HSk := Lib.hid (HSh.out.keep (by rw [HN.out]; exact HL.out) (by rw [← HX.out]; rw [gone_live] at hg; simpa using hg))
            have l0 := (cell_of hw5 0).trans (show _ = some (Value.int .u8 (xa : Int)) from rfl)
            have l1 := (cell_of hw5 1).trans (show _ = some (Value.int .u32 (xi : Int)) from rfl)
            have l2 := (cell_of hw5 2).trans (show _ = some (Value.int .i64 xv) from rfl)
            obtain ⟨k0, k1, k2⟩ := HB5.out.cells HI.out
            have z0 := HB5.out.free (i * 3); have z1 := HB5.out.free (i * 3 + 1); have z2 := HB5.out.free (i * 3 + 2)
            have hb6 := HB5.out.set HI.out (xa, xi, xv)
            have hf6 := HF5.out.trans (set3_fr w5 b i (.int .u8 (xa : Int)) (.int .u32 (xi : Int)) (.int .i64 xv)) (fun _ _ h => h)
            rw [HX.out] at hb6
            simp only [← HX.out] at hb6
            have HB6 := Lib.hid hb6; have HF6 := Lib.hid hf6
            clear hg hw5 hb6 hf6
            go_wp2_with fail
            go_roundw
            case rel => exact ⟨i1, j1, _, rfl, rfl, by have := HJ1.out; have := HL.out; omega, by rw [HJ1.out, HI1.out]; exact HSk.out, by rw [← HX.out]; exact HB6.out, HF6.out⟩
            case measure => have := HJ1.out; have := HL.out; simp [intOf]; omega
        · obtain rfl : j = n := by omega
          clear hlt hjn
          go_wp2_with fail
          go_meet
          exact ⟨i, T, rfl, by rw [HN.out]; exact HSh.out, HBf.out, HF.out⟩
    case rest =>
    obtain ⟨i, T, rfl, hs, hb, hf⟩ := hcut
    obtain ⟨mid, hT, hi, hml, hil⟩ := hs.done
    have hin : i < n := by rw [← HN.out]; exact hil
    have hin' : (i : Int) < (n : Int) := by omega
    have hin2 : i ≤ n := by omega
    have hic : i ≤ cap := by have := HC.out; omega
    have hne : ¬ cap = i := by have := HC.out; omega
    have hne2 : ¬ (cap : Int) = (i : Int) := by omega
    have hnc := HC.out
    have HT := Lib.hid hT; have Hi := Lib.hid hi; have Hml := Lib.hid hml; have HBf := Lib.hid hb; have HF := Lib.hid hf; have Hin := Lib.hid hin
    have hcl := fun ty => run_clear3 wc ty b (i * 3) (n - i) (cap - i) (by omega) (fun j hj => hb.some (by rw [hT, List.length_append, hml, ← hi, HN.out]; omega)) (fun j _ => hb.free _)
    have hcb : BufAt (wc.setCells b (i * 3) (flat3 (List.replicate (n - i) (0, 0, 0)))) b (S.filter live) := by
      have := hb
      rw [hT] at this
      have := this.clear
      rwa [hml, ← hi, HN.out] at this
    have hcf : Fr (fun k => k = b) w (wc.setCells b (i * 3) (flat3 (List.replicate (n - i) (0, 0, 0)))) := hf.trans (setCells_fr _ _ _ _) (fun _ _ h => h)
    have HCB := Lib.hid hcb; have HCF := Lib.hid hcf
    clear hs hb hf hT hi hml hil hin hcb hcf
    go_wp2_with fail
    go_ret
    exact ⟨i, rfl, Hi.out, HCB.out, HCF.out⟩
  · have HA := Lib.hid (all_live hj)
    clear hj
    go_wp2_with fail
    go_ret
    exact ⟨n, rfl, by rw [HA.out, HN.out], by rw [HA.out]; exact HB.out.fr F1.out (fun h => h), F1.out.mono (fun _ _ h => h.elim)⟩
end Go.Proofs.YtffnjnnmlfgngaaGreat.Ix
namespace Go.Proofs.YtffnjnnmlfgngaaGreat.Ix
open Go.RowKit
theorem info_parts {i : Option TypeInfo} {z : Option Value} {s b : Nat} (h : i.map (fun i => (i.zero, i.size, i.bytes)) = some (z, s, b)) : ∃ i0, i = some i0 ∧ i0.zero = z ∧ i0.size = s ∧ i0.bytes = b := by
  cases i with
  | none => simp at h
  | some i0 => simp at h; exact ⟨i0, rfl, h⟩
theorem cells3_one {S : List Sl} {u : Value} (h : u ∈ flat3 S) : u.oneCell' = true := by
  obtain ⟨x, _, hx⟩ := List.mem_flatMap.1 h
  simp only [cells3, List.mem_cons, List.not_mem_nil, or_false] at hx
  rcases hx with rfl | rfl | rfl <;> rfl
set_option maxRecDepth 100000 in
theorem clone_ok {w : World} {g N : Nat} {S : List Sl} (h1 : SlotsAt w g S) (hN : S.length = N) (h8 : N ≤ 8192) (h0 : 0 < N) :
    Calls Tryz.prog 147 #[.slice (some ⟨g, 0, none⟩) N N] w fun e w' => ∃ b cap, e = .returned (.slice (some ⟨b, 0, none⟩) N cap) ∧ N ≤ cap ∧ cap ≤ 9223372036854775807 ∧ BufAt w' b S ∧ Fr (fun _ => False) w w' ∧ w.heap.size ≤ b := by
  have q := fun w a n c => Lib.run_eql_slice_nil (P := Tryz.prog) w _ _ a n c 0 0 Tryz.underlying154
  obtain ⟨i0, hi, hz0, hz1, hz2⟩ := info_parts Tryz.infoSlot
  have hfr : Fr (fun _ => False) w (w.alloc (.cells #[] 196)) := Fr.alloc (Fr.refl _ _) _
  have hR1 : Row (w.alloc (.cells #[] 196)) 196 3 (.slice (some ⟨w.heap.size, 0, none⟩) 0 0) 0 [] :=
    ⟨rfl, .inr ⟨w.heap.size, 0, #[], rfl, Nat.zero_le _, (by simp only [heap_alloc_get]; simp), Nat.le_refl _, Nat.zero_le _, rfl, rfl⟩⟩
  have hl3 : (flat3 S).length = N * 3 := by rw [flat3_length, hN]
  obtain ⟨v', w3, hrun, hR3, hf3, ho3⟩ := run_append_fr (P := Tryz.prog) _ 154 154 196 i0 _ 3 16 Tryz.underlying154 hi hz0 hz1 hz2 rfl (by decide) _ _ _ hR1 ⟨g, 0, none⟩ N N (flat3 S) hl3
    (by
      intro j u hu
      have hb := hfr.get h1 (fun h => h)
      have := cell_of hb j
      have e : (⟨g, 0, none⟩ : Addr).add j = ⟨g, j, none⟩ := by
        by_cases h0 : j = 0
        · subst h0; simp [Addr.add]
        · simp [Addr.add, h0]
      rw [e, this]; simpa using hu)
    (fun u hu => cells3_one hu) (by unfold maxLen; omega) (by omega)
  simp only [Nat.zero_add, List.nil_append] at hR3
  have HR3 := Lib.hid hR3; have Hf3 := Lib.hid hf3; have Ho3 := Lib.hid ho3; have Hfr := Lib.hid hfr
  have Hrun := Lib.hid hrun; have HN := Lib.hid h0
  clear h1 hR3 hf3 ho3 hfr hR1 hi hz0 hz1 hz2 hrun hl3 hN h8 h0
  go_enter Tryz.func147, Tryz.ntmps147
  go_wp2_with (at_builtin; refine wpList_append_run rfl _ _ _ rfl rfl rfl Hrun.out ?_)
  go_ret
  have hN := HN.out
  rcases HR3.out.2 with ⟨-, e0⟩ | ⟨g', cap, cur, rfl, -, k1, k2, k3, k4, k5⟩
  · omega
  refine ⟨g', cap, rfl, k2, by simp only [maxLen] at k3; omega, ⟨cur.toList.drop (N * 3), by rw [k1, ← k5, List.take_append_drop]⟩, ?_, ?_⟩
  · refine Fr.trans Hfr.out Hf3.out ?_
    intro b hb e
    simp [Value.ownBlock] at e; omega
  · rcases Ho3.out with h | h
    · simp [Value.ownBlock] at h; omega
    · simp [Value.ownBlock] at h; omega
end Go.Proofs.YtffnjnnmlfgngaaGreat.Ix
namespace Go.Proofs
open Go.Shelf
def Tryz.sortSlot_ren : Go.Shelf.Ren := ⟨fun | 6 => 149 | 15 => 157 | 14 => 156 | 28 => 170 | 29 => 171 | 20 => 162 | 21 => 163 | 22 => 164 | 23 => 165 | 24 => 166 | 25 => 167 | 26 => 168 | 27 => 169 | 46 => 173 | 47 => 174 | 48 => 175 | 49 => 176 | 50 => 177 | 57 => 178 | n => n, fun | 22 => 154 | 24 => 196 | 25 => 223 | 3 => 3 | 39 => 226 | 0 => 0 | 53 => 24 | 55 => 193 | 4 => 4 | 46 => 239 | 45 => 238 | 50 => 163 | 5 => 5 | 9 => 9 | 66 => 248 | 70 => 251 | 76 => 255 | 77 => 256 | n => n, fun | n => n⟩
theorem Tryz.sortSlot : Go.Proofs.SlLaysF0.n6 Tryz.prog Tryz.sortSlot_ren := {
  mixed := by kernel_rfl
  f6 := ⟨Tryz.f149.name, by decide, Tryz.func149.trans (congrArg some (by kernel_rfl))⟩
  f14 := ⟨Tryz.f156.name, by decide, Tryz.func156.trans (congrArg some (by kernel_rfl))⟩
  f15 := Tryz.func157.trans (congrArg some (by kernel_rfl))
  f20 := ⟨Tryz.f162.name, by decide, Tryz.func162.trans (congrArg some (by kernel_rfl))⟩
  f21 := ⟨Tryz.f163.name, by decide, Tryz.func163.trans (congrArg some (by kernel_rfl))⟩
  f22 := ⟨Tryz.f164.name, by decide, Tryz.func164.trans (congrArg some (by kernel_rfl))⟩
  f23 := ⟨Tryz.f165.name, by decide, Tryz.func165.trans (congrArg some (by kernel_rfl))⟩
  f24 := ⟨Tryz.f166.name, by decide, Tryz.func166.trans (congrArg some (by kernel_rfl))⟩
  f25 := ⟨Tryz.f167.name, by decide, Tryz.func167.trans (congrArg some (by kernel_rfl))⟩
  f26 := ⟨Tryz.f168.name, by decide, Tryz.func168.trans (congrArg some (by kernel_rfl))⟩
  f27 := ⟨Tryz.f169.name, by decide, Tryz.func169.trans (congrArg some (by kernel_rfl))⟩
  f28 := Tryz.func170.trans (congrArg some (by kernel_rfl))
  f29 := Tryz.func171.trans (congrArg some (by kernel_rfl))
  f46 := ⟨Tryz.f173.name, by decide, Tryz.func173.trans (congrArg some (by kernel_rfl))⟩
  f47 := Tryz.func174.trans (congrArg some (by kernel_rfl))
  f48 := Tryz.func175.trans (congrArg some (by kernel_rfl))
  f49 := ⟨Tryz.f176.name, by decide, Tryz.func176.trans (congrArg some (by kernel_rfl))⟩
  f50 := ⟨Tryz.f177.name, by decide, Tryz.func177.trans (congrArg some (by kernel_rfl))⟩
  f57 := ⟨Tryz.f178.name, by decide, Tryz.func178.trans (congrArg some (by kernel_rfl))⟩
  t0 := Tryz.underlying0
  a0 := Tryz.isAgg0
  z0 := Tryz.sizeOf0
  v0 := Tryz.zeroValue0
  t3 := Tryz.underlying3
  a3 := Tryz.isAgg3
  z3 := Tryz.sizeOf3
  v3 := Tryz.zeroValue3
  t4 := Tryz.underlying4
  a4 := Tryz.isAgg4
  z4 := Tryz.sizeOf4
  v4 := Tryz.zeroValue4
  t5 := Tryz.underlying5
  a5 := Tryz.isAgg5
  z5 := Tryz.sizeOf5
  v5 := Tryz.zeroValue5
  t9 := Tryz.underlying9
  a9 := Tryz.isAgg9
  z9 := Tryz.sizeOf9
  v9 := Tryz.zeroValue9
  t22 := Tryz.underlying154
  a22 := Tryz.isAgg154
  z22 := Tryz.sizeOf154
  v22 := Tryz.zeroValue154
  t25 := Tryz.underlying223
  a25 := Tryz.isAgg223
  z25 := Tryz.sizeOf223
  v25 := Tryz.zeroValue223
  t39 := Tryz.underlying226
  a39 := Tryz.isAgg226
  z39 := Tryz.sizeOf226
  v39 := Tryz.zeroValue226
  t45 := Tryz.underlying238
  a45 := Tryz.isAgg238
  z45 := Tryz.sizeOf238
  v45 := Tryz.zeroValue238
  t46 := Tryz.underlying239
  a46 := Tryz.isAgg239
  z46 := Tryz.sizeOf239
  v46 := Tryz.zeroValue239
  t50 := Tryz.underlying163
  a50 := Tryz.isAgg163
  z50 := Tryz.sizeOf163
  v50 := Tryz.zeroValue163
  t53 := Tryz.underlying24
  a53 := Tryz.isAgg24
  z53 := Tryz.sizeOf24
  v53 := Tryz.zeroValue24
  t55 := Tryz.underlying193
  a55 := Tryz.isAgg193
  z55 := Tryz.sizeOf193
  v55 := Tryz.zeroValue193
  t66 := Tryz.underlying248
  a66 := Tryz.isAgg248
  z66 := Tryz.sizeOf248
  v66 := Tryz.zeroValue248
  t70 := Tryz.underlying251
  a70 := Tryz.isAgg251
  z70 := Tryz.sizeOf251
  v70 := Tryz.zeroValue251
  t76 := Tryz.underlying255
  a76 := Tryz.isAgg255
  z76 := Tryz.sizeOf255
  v76 := Tryz.zeroValue255
  t77 := Tryz.underlying256
  a77 := Tryz.isAgg256
  z77 := Tryz.sizeOf256
  v77 := Tryz.zeroValue256 }
end Go.Proofs
namespace Go.Proofs.YtffnjnnmlfgngaaGreat.Ix
open Go.Shelf Go.RowKit Go.Lib Go.Sort
def cmpSl (x y : Sl) : Int := if x.2.1 < y.2.1 then -1 else if y.2.1 < x.2.1 then 1 else 0
theorem ltOf_cmp (x y : Sl) : ltOf cmpSl x y = decide (x.2.1 < y.2.1) := by
  have h : cmpSl x y < 0 ↔ x.2.1 < y.2.1 := by
    unfold cmpSl
    split
    · omega
    · split <;> omega
  show decide (cmpSl x y < 0) = _
  exact decide_eq_decide.2 h
theorem cmpSl_swo : SWO (ltOf cmpSl) where
  irrefl x := by rw [ltOf_cmp]; simp
  trans x y z h1 h2 := by rw [ltOf_cmp] at *; have a1 := of_decide_eq_true h1; have a2 := of_decide_eq_true h2; exact decide_eq_true (by omega)
  ntrans x y z h1 h2 := by rw [ltOf_cmp] at *; have a1 := of_decide_eq_false h1; have a2 := of_decide_eq_false h2; exact decide_eq_false (by omega)
set_option maxRecDepth 100000 in
theorem isNaN_ok (x : Nat) (w : World) : Calls Tryz.prog 158 #[.int .u32 (x : Int)] w fun e w' => e = .returned (.bool false) ∧ w = w' := by
  have hb : ((x : Int) != (x : Int)) = false := by simp
  go_enter Tryz.func158, Tryz.ntmps158
  go_wp2_with fail
  go_ret
  exact ⟨rfl, rfl⟩
def cmpN (x y : Nat) : Int := if x < y then -1 else if y < x then 1 else 0
set_option maxRecDepth 100000 in
theorem compare_ok (x y : Nat) (w : World) : Calls Tryz.prog 151 #[.int .u32 (x : Int), .int .u32 (y : Int)] w fun e w' => e = .returned (.int .i64 (cmpN x y)) ∧ w = w' := by
  have hx := isNaN_ok x w
  have hy := isNaN_ok y w
  rcases Nat.lt_trichotomy x y with h | h | h
  · have e : cmpN x y = -1 := by unfold cmpN; rw [if_pos h]
    rw [e]
    have h1 : (x : Int) < (y : Int) := by omega
    clear e h
    go_enter Tryz.func151, Tryz.ntmps151
    go_wp2_with fail
    refine hx.mono ?_
    rintro e w1 ⟨rfl, rfl⟩
    go_wp2_with fail
    refine hy.mono ?_
    rintro e w1 ⟨rfl, rfl⟩
    go_wp2_with fail
    go_ret
    exact ⟨rfl, rfl⟩
  · subst h
    have e : cmpN x x = 0 := by unfold cmpN; rw [if_neg (by omega), if_neg (by omega)]
    rw [e]
    clear e
    have h1 : ¬ (x : Int) < (x : Int) := by omega
    have h2 : decide ((x : Int) < (x : Int)) = false := by simp
    go_enter Tryz.func151, Tryz.ntmps151
    go_wp2_with fail
    refine hx.mono ?_
    rintro e w1 ⟨rfl, rfl⟩
    go_wp2_with fail
    refine hy.mono ?_
    rintro e w1 ⟨rfl, rfl⟩
    go_wp2_with fail
    go_ret
    exact ⟨rfl, rfl⟩
  · have e : cmpN x y = 1 := by unfold cmpN; rw [if_neg (by omega), if_pos h]
    rw [e]
    have h1 : ¬ (x : Int) < (y : Int) := by omega
    have h2 : (y : Int) < (x : Int) := by omega
    clear e h
    go_enter Tryz.func151, Tryz.ntmps151
    go_wp2_with fail
    refine hx.mono ?_
    rintro e w1 ⟨rfl, rfl⟩
    go_wp2_with fail
    refine hy.mono ?_
    rintro e w1 ⟨rfl, rfl⟩
    go_wp2_with fail
    go_ret
    exact ⟨rfl, rfl⟩
set_option maxRecDepth 100000 in
theorem cmp_ok (x y : Sl) (W : World) : Calls Tryz.prog 150 #[aggOf x, aggOf y] W fun e w' => e = .returned (.int .i64 (cmpSl x y)) ∧ ∃ q os', w' = grow (W.drewN q) os' := by
  obtain ⟨a, i, v⟩ := x
  obtain ⟨a2, i2, v2⟩ := y
  show Calls Tryz.prog 150 _ W fun e w' => e = .returned (.int .i64 (cmpN i i2)) ∧ _
  have hc := compare_ok i i2
  go_enter Tryz.func150, Tryz.ntmps150
  go_wp2_with fail
  refine (hc _).mono ?_
  rintro e w1 ⟨rfl, rfl⟩
  go_wp2_with fail
  go_ret
  exact ⟨rfl, 0, _, by rw [alloc_eq_grow, alloc_eq_grow, grow_grow]; rfl⟩
theorem enters_cmp : ∀ args w, (callFunc 150 args).run Tryz.prog w = .ok (.enter 150 args) w := enters_of Tryz.func150 (by kernel_rfl) rfl
theorem get_flat3 (d : Array Sl) (j : Nat) (hj : j < d.size) : (flatK cells3 3 d)[j * 3]! = .int .u8 (d[j]!.1 : Int) ∧ (flatK cells3 3 d)[j * 3 + 1]! = .int .u32 (d[j]!.2.1 : Int) ∧ (flatK cells3 3 d)[j * 3 + 2]! = .int .i64 d[j]!.2.2 := by
  rw [get_flatK _ _ _ _ (by omega), get_flatK _ _ _ _ (by omega), get_flatK _ _ _ _ (by omega)]
  have e1 : j * 3 / 3 = j := by omega
  have e2 : j * 3 % 3 = 0 := by omega
  have e3 : (j * 3 + 1) / 3 = j := by omega
  have e4 : (j * 3 + 1) % 3 = 1 := by omega
  have e5 : (j * 3 + 2) / 3 = j := by omega
  have e6 : (j * 3 + 2) % 3 = 2 := by omega
  rw [e1, e2, e3, e4, e5, e6]
  exact ⟨rfl, rfl, rfl⟩
/-- A block whose cells are known, slot by slot. -/
theorem bufAt_of {w : World} {b : Nat} {arr : Array Value} {S : List Sl} (hb : w.heap[b]? = some (.cells arr 196 (0, 0))) (_hs : S.length * 3 ≤ arr.size)
    (h : ∀ p, p < S.length → w.cell? ⟨b, p * 3, none⟩ = some (.int .u8 ((slAt S p).1 : Int)) ∧ w.cell? ⟨b, p * 3 + 1, none⟩ = some (.int .u32 ((slAt S p).2.1 : Int)) ∧ w.cell? ⟨b, p * 3 + 2, none⟩ = some (.int .i64 (slAt S p).2.2)) : BufAt w b S := by
  refine ⟨arr.toList.drop (S.length * 3), ?_⟩
  have e : arr.toList.take (S.length * 3) = flat3 S := by
    apply List.ext_getElem?
    intro k
    by_cases hk : k < S.length * 3
    · rw [List.getElem?_take, if_pos hk]
      obtain ⟨g0, g1, g2⟩ := flat3_get S (k / 3) (by omega)
      obtain ⟨h0, h1, h2⟩ := h (k / 3) (by omega)
      rw [cell_of hb] at h0 h1 h2
      obtain ⟨i, hi, hki⟩ : ∃ i, i < 3 ∧ k = k / 3 * 3 + i := ⟨k % 3, Nat.mod_lt _ (by decide), by omega⟩
      rw [hki, Array.getElem?_toList]
      rcases (by omega : i = 0 ∨ i = 1 ∨ i = 2) with rfl | rfl | rfl
      · rw [Nat.add_zero, g0, h0]
      · rw [g1, h1]
      · rw [g2, h2]
    · rw [List.getElem?_eq_none (by rw [List.length_take]; omega), List.getElem?_eq_none (by rw [flat3_length]; omega)]
  rw [← e, List.take_append_drop]
  exact hb
set_option maxHeartbeats 1000000 in
theorem sort_ok {w : World} {b cap m : Nat} {L : List Sl} (hB : BufAt w b L) (hm : L.length = m) (hn : m ≤ 8192) :
    Calls Tryz.prog 149 #[.slice (some ⟨b, 0, none⟩) m cap, .func (.func 150) #[] #[]] w fun e w' => e = .returned (.tuple #[]) ∧
      ∃ S : List Sl, S.Perm L ∧ (S.Pairwise fun x y => x.2.1 ≤ y.2.1) ∧ Fr (fun k => k = b) w w' ∧ BufAt w' b S := by
  subst hm
  obtain ⟨rest, hblk⟩ := hB
  obtain ⟨d, hd⟩ : ∃ d : Array Sl, d.toList = L := ⟨L.toArray, by simp⟩
  have hsz : d.size = L.length := by rw [← hd]; simp
  have hget : ∀ (e : Array Sl) j, j < e.size → slAt e.toList j = e[j]! := by
    intro e j hj
    simp [slAt, hj]
  have hcl : ∀ j, j < L.length → w.cell? ⟨b, j * 3, none⟩ = some (.int .u8 ((slAt L j).1 : Int)) ∧ w.cell? ⟨b, j * 3 + 1, none⟩ = some (.int .u32 ((slAt L j).2.1 : Int)) ∧ w.cell? ⟨b, j * 3 + 2, none⟩ = some (.int .i64 (slAt L j).2.2) := fun j hj => BufAt.cells ⟨rest, hblk⟩ hj
  have hH : HoldsK cells3 3 w b 0 d := by
    intro j hj
    rw [size_flatK] at hj
    have hlt : ∀ k, w.frozen? ⟨b, k, none⟩ = false := fun k => by simp [World.frozen?, hblk]
    refine ⟨?_, hlt _⟩
    have hj3 : j / 3 < d.size := by omega
    obtain ⟨c0, c1, c2⟩ := hcl (j / 3) (by omega)
    obtain ⟨f0, f1, f2⟩ := get_flat3 d (j / 3) hj3
    rw [← hd, hget d (j / 3) hj3] at c0 c1 c2
    obtain ⟨i, hi, hji⟩ : ∃ i, i < 3 ∧ j = j / 3 * 3 + i := ⟨j % 3, Nat.mod_lt _ (by decide), by omega⟩
    rw [Nat.zero_add, hji]
    rcases (by omega : i = 0 ∨ i = 1 ∨ i = 2) with rfl | rfl | rfl
    · rw [Nat.add_zero, f0, c0]; rfl
    · rw [f1, c1]; rfl
    · rw [f2, c2]; rfl
  have hb : b < w.heap.size := lt_of_block hblk
  have h := AnyQ.slices_SortFunc Tryz.sortSlot 3 Tryz.isAgg196 Tryz.sizeOf196 cells3 (fun _ => rfl) (fun x v hv => by simp [cells3] at hv; rcases hv with rfl | rfl | rfl <;> rfl) cmpSl cmpSl_swo 150 #[] b 0 cap d w enters_cmp (fun _ _ _ _ x y => cmp_ok x y _) hH hb (by omega)
  rw [hsz] at h
  refine Calls.mono h ?_
  rintro e w' ⟨rfl, d', n, os, hp, hso, rfl⟩
  obtain ⟨hps, -, hpp⟩ := hp
  have hsz' : d'.size = L.length := hps.trans hsz
  have hwb : ∃ arr : Array Value, (sortWorldK cells3 3 w b 0 n d' os).heap[b]? = some (Obj.cells arr 196 (0, 0)) ∧ d'.toList.length * 3 ≤ arr.size := by
    simp only [sortWorldK]
    rw [heap_grow_old _ _ (by simp [putRowK]; exact hb)]
    simp only [putRowK, putRow, mapBlock]
    simp [Array.getElem?_modify, hblk]
    refine ⟨_, rfl, ?_⟩
    simp only [putCells, Array.size_mapIdx, List.size_toArray, List.length_append]
    rw [flat3_length]; omega
  refine ⟨rfl, d'.toList, ?_, ?_, ?_, ?_⟩
  · have : d'.toList.Perm d.toList := by
      have e1 : d'.extract 0 L.length = d' := by rw [← hsz']; simp
      have e2 : d.extract 0 L.length = d := by rw [← hsz]; simp
      rwa [e1, e2] at hpp
    rw [← hd]; exact this
  · rw [List.pairwise_iff_getElem]
    intro i j hi hj hij
    have := hso i j (Nat.zero_le _) hij (by simpa [hsz'] using hj)
    simp at hi hj
    rw [ltOf_cmp] at this
    simp [hi, hj] at this
    simp; omega
  · refine ⟨rfl, rfl, rfl, by simp [sortWorldK, putRowK], ?_⟩
    intro k hk hne
    simp only [sortWorldK]
    rw [heap_grow_old _ _ (by simp [putRowK]; exact hk)]
    have hne' : b ≠ k := fun e => hne e.symm
    simp [putRowK, putRow, mapBlock, Array.getElem?_modify, hne']
  · obtain ⟨arr, hw, hl⟩ := hwb
    refine bufAt_of hw hl fun j hj => ?_
    have hj' : j < d'.size := by simpa using hj
    have hg := get_flat3 d' j hj'
    have hH' := holds_putRow id (Sort.ahead w n) b 0 (flatK cells3 3 d) (flatK cells3 3 d') (fun j hj => hH j hj) (by simp [hps])
    have h0 := (hH' (j * 3) (by simp; omega)).1
    have h1 := (hH' (j * 3 + 1) (by simp; omega)).1
    have h2 := (hH' (j * 3 + 2) (by simp; omega)).1
    rw [hg.1, Nat.zero_add] at h0
    rw [hg.2.1, Nat.zero_add] at h1
    rw [hg.2.2, Nat.zero_add] at h2
    rw [hget d' j hj']
    simp only [sortWorldK]
    rw [cell?_grow _ _ _ (by simp [putRowK]; exact hb), cell?_grow _ _ _ (by simp [putRowK]; exact hb), cell?_grow _ _ _ (by simp [putRowK]; exact hb)]
    exact ⟨h0, h1, h2⟩
end Go.Proofs.YtffnjnnmlfgngaaGreat.Ix
namespace Go.Proofs.YtffnjnnmlfgngaaGreat.Ix
theorem ent_live (S : List Sl) : (S.filter live).map (·.2) = ent S := rfl
/-- The live slots by rising ids are the items. -/
theorem sorted_eq {S T : List Sl} {L : List (Nat × Int)} (M : Maps S L) (hp : T.Perm (S.filter live)) (hs : T.Pairwise fun x y => x.2.1 ≤ y.2.1) : T = L.map fun x => (1, x) := by
  have h1 : ∀ x ∈ T, x.1 = 1 := fun x hx => by
    have := (List.mem_filter.1 (hp.subset hx)).2
    simpa [live] using this
  have h2 : (T.map (·.2)).Perm L := by
    refine (hp.map _).trans ?_
    rw [ent_live]; exact M.perm.symm
  have hn : ((T.map (·.2)).map (·.1)).Nodup := by
    rw [(h2.map _).nodup_iff]
    rw [List.Nodup, List.pairwise_map]
    exact M.up.imp fun h => Nat.ne_of_lt h
  have h3 : (T.map (·.2)).Pairwise fun a b => a.1 < b.1 := by
    rw [List.pairwise_map]
    rw [List.map_map, List.Nodup, List.pairwise_map] at hn
    exact (hs.and hn).imp fun h => Nat.lt_of_le_of_ne h.1 h.2
  have h4 := up_eq h3 M.up h2
  rw [← h4, List.map_map]
  conv => lhs; rw [← List.map_id T]
  exact List.map_congr_left fun x hx => Prod.ext (h1 x hx) rfl
theorem ins_last {L : List (Nat × Int)} {id : Nat} (v : Int) (h : ∀ x ∈ L, x.1 < id) : ins L id v = L ++ [(id, v)] := by
  unfold ins
  rw [List.filter_eq_self.2 (fun x hx => by simpa using h x hx), List.filter_eq_nil_iff.2 (fun x hx => by have := h x hx; simp; omega)]
theorem take_up {L : List (Nat × Int)} (h : L.Pairwise fun a b => a.1 < b.1) {k : Nat} (hk : k < L.length) : ∀ x ∈ L.take k, x.1 < L[k].1 := by
  intro x hx
  obtain ⟨i, hi, rfl⟩ := List.mem_iff_getElem.1 hx
  rw [List.length_take] at hi
  rw [List.getElem_take]
  exact List.pairwise_iff_getElem.1 h i k (by omega) hk (by omega)
/-- Behind k items laid anew. -/
structure Anew (hm : Nat → Nat) (S : List Sl) (L : List (Nat × Int)) (N k : Nat) : Prop where
  len : S.length = N
  good : Good hm S
  maps : Maps S (L.take k)
  none : graves S = 0
theorem graves_nil (N : Nat) : graves (List.replicate N (0, 0, 0)) = 0 := by
  unfold graves
  rw [List.countP_replicate, if_neg (by simp)]
theorem Anew.start (hm : Nat → Nat) (L : List (Nat × Int)) (N : Nat) : Anew hm (List.replicate N (0, 0, 0)) L N 0 := ⟨List.length_replicate, Good.nil hm N, by rw [List.take_zero]; exact Maps.nil N, graves_nil N⟩
theorem Anew.not_there {hm : Nat → Nat} {S : List Sl} {L : List (Nat × Int)} {N k : Nat} (H : Anew hm S L N k) (hu : L.Pairwise fun a b => a.1 < b.1) (hk : k < L.length) {p : Nat} (hp : p < S.length) (hf : (slAt S p).1 = 1 ∧ (slAt S p).2.1 = L[k].1) : False := by
  have := (look_of H.maps.up).1 (H.maps.found hp hf)
  exact absurd (take_up hu hk _ this) (Nat.lt_irrefl _)
theorem Anew.more {hm : Nat → Nat} {S : List Sl} {L : List (Nat × Int)} {N k : Nat} (H : Anew hm S L N k) (hu : L.Pairwise fun a b => a.1 < b.1) (hk : k < L.length) {p : Nat} (hp : Place S (hm L[k].1) p) (ha : ∀ q, q < S.length → ¬ ((slAt S q).1 = 1 ∧ (slAt S q).2.1 = L[k].1)) : Anew hm (S.set p (1, L[k].1, L[k].2)) L N (k + 1) := by
  refine ⟨by rw [List.length_set]; exact H.len, H.good.put hp ha, ?_, ?_⟩
  · have := H.maps.put (v := L[k].2) hp.1 hp.2.1 ha
    rw [ins_last _ (take_up hu hk)] at this
    have e : L.take k ++ [(L[k].1, L[k].2)] = L.take (k + 1) := by rw [List.take_add_one, List.getElem?_eq_getElem hk]; rfl
    rwa [e] at this
  · have h := graves_set hp.1 (1, L[k].1, L[k].2)
    have h2 : (slAt S p).1 ≠ 2 := by
      intro e
      have hp' := H.none
      unfold graves at hp'
      rw [List.countP_eq_zero] at hp'
      have := hp' (slAt S p) (List.mem_of_getElem? (slAt_of hp.1))
      rw [e] at this; simp at this
    rw [if_neg h2, H.none, if_neg (by simp)] at h
    exact h
theorem Anew.gap {hm : Nat → Nat} {S : List Sl} {L : List (Nat × Int)} {N k : Nat} (H : Anew hm S L N k) (hk : k < N) : ∃ p, p < N ∧ (slAt S p).1 = 0 := by
  have := Ix.gap H.good.le2 (by rw [← H.maps.length, H.none, H.len, List.length_take]; omega)
  rwa [H.len] at this
theorem Anew.whole {hm : Nat → Nat} {S : List Sl} {L : List (Nat × Int)} {N : Nat} (H : Anew hm S L N L.length) : Maps S L := by
  have := H.maps
  rwa [List.take_length] at this
end Go.Proofs.YtffnjnnmlfgngaaGreat.Ix
namespace Go.Proofs.YtffnjnnmlfgngaaGreat.Ix
open Go.RowKit
set_option maxRecDepth 100000 in
theorem items_ok {w : World} {bh g N most len gr st : Nat} {S : List Sl} {L : List (Nat × Int)} (H : HeadAt w bh g N most len gr st) (HS : SlotsAt w g S) (hN : S.length = N) (M : Maps S L) (h0 : 0 < N) (h8 : N ≤ 8192) :
    Calls Tryz.prog 120 #[.pointer (some ⟨bh, 0, none⟩)] w fun e w' => ∃ b cap, e = .returned (.slice (some ⟨b, 0, none⟩) L.length cap) ∧ BufAt w' b (L.map fun x => (1, x)) ∧ Fr (fun _ => False) w w' ∧ w.heap.size ≤ b := by
  have c0 := H.cells.1
  have HK := Lib.hid (clone_ok HS hN h8 h0); have HN := Lib.hid hN; have HM := Lib.hid M; have H8 := Lib.hid h8
  clear H HS hN M h0 h8
  go_enter Tryz.func120, Tryz.ntmps120
  go_wp2_with fail
  refine HK.out.mono ?_
  rintro e w1 ⟨b, cap, rfl, hc1, hc2, hb, hf, hnew⟩
  have HD := Lib.hid (deleteFunc_ok hb HN.out H8.out hc1 hc2)
  have HF := Lib.hid hf; have HW := Lib.hid hnew
  clear hc1 hc2 hb hf hnew c0
  go_wp2_with fail
  refine HD.out.mono ?_
  rintro e w2 ⟨m, rfl, hm, hb2, hf2⟩
  have hm8 : m ≤ 8192 := by
    have := List.length_filter_le live S
    have := HN.out; have := H8.out; omega
  have HS := Lib.hid (sort_ok (cap := cap) hb2 hm.symm hm8)
  have HF2 := Lib.hid hf2; have Hm := Lib.hid hm
  clear hm hb2 hf2 hm8
  go_wp2_with fail
  refine HS.out.mono ?_
  rintro e w3 ⟨rfl, T, hp, hs, hf3, hb3⟩
  have hT := sorted_eq HM.out hp hs
  have HB3 := Lib.hid hb3; have HF3 := Lib.hid hf3; have HT := Lib.hid hT; have HP := Lib.hid hp
  clear hp hs hf3 hb3 hT
  go_wp2_with fail
  go_ret
  have e : m = L.length := by
    have h1 := HP.out.length_eq
    rw [HT.out, List.length_map] at h1
    rw [Hm.out]; exact h1.symm
  have hw := HW.out
  exact ⟨b, cap, by rw [e]; rfl, by rw [← HT.out]; exact HB3.out, (HF.out.trans HF2.out (fun i hi h => by omega)).trans HF3.out (fun i hi h => by omega), hw⟩
end Go.Proofs.YtffnjnnmlfgngaaGreat.Ix
namespace Go.Proofs.YtffnjnnmlfgngaaGreat.Ix
open Go.RowKit
/-- Where the laying anew stands. -/
structure AnewAt (w : World) (bh g b N most st : Nat) (S : List Sl) (L : List (Nat × Int)) (k : Nat) (wr : World) : Prop where
  head : HeadAt wr bh g N most L.length 0 st
  slots : SlotsAt wr g S
  buf : BufAt wr b (L.map fun x => (1, x))
  anew : Anew (home N) S L N k
  fr : Fr (fun i => i = bh ∨ i = g) w wr
set_option maxRecDepth 100000 in
set_option maxHeartbeats 2000000 in
theorem anew_ok {w : World} {bh g N most gr st : Nat} {S : List Sl} {L : List (Nat × Int)} (H : HeadAt w bh g N most L.length gr st) (HS : SlotsAt w g S) (hN : S.length = N) (M : Maps S L) (hids : ∀ x ∈ L, x.1 < 4294967296) (hne : bh ≠ g) (hL : L.length < N) (h8 : N ≤ 8192) :
    Calls Tryz.prog 115 #[.pointer (some ⟨bh, 0, none⟩)] w fun e w' => e = .returned (.tuple #[]) ∧ ∃ S', HeadAt w' bh g N most L.length 0 st ∧ SlotsAt w' g S' ∧ Anew (home N) S' L N L.length ∧ Fr (fun i => i = bh ∨ i = g) w w' := by
  obtain ⟨m, hm⟩ : ∃ m, m = L.length := ⟨_, rfl⟩
  have HI := Lib.hid (items_ok H HS hN M (by omega) h8)
  rw [← hm] at HI
  have HH := Lib.hid H; have HS := Lib.hid HS; have HN := Lib.hid hN; have HU := Lib.hid M.up; have Hids := Lib.hid hids; have Hne := Lib.hid hne; have HL := Lib.hid hL; have H8 := Lib.hid h8; have Hm := Lib.hid hm
  clear H hN M hids hne hL h8 hm
  go_enter Tryz.func115, Tryz.ntmps115
  go_wp2_with fail
  refine HI.out.mono ?_
  rintro e w1 ⟨b, cap, rfl, hb, hf, hnew⟩
  have hh := HH.out.fr hf (fun h => h)
  have hs := HS.out.fr hf (fun h => h)
  rw [← Hm.out] at hh
  obtain ⟨c0, -, -, -, c4⟩ := hh.cells
  have hbb : b ≠ bh ∧ b ≠ g := by have := HH.out.lt; have := HS.out.lt; omega
  have hcl := fun ty => run_clear3 w1 ty g 0 N N (by have := HL.out; omega) (fun j hj => by rw [Nat.zero_add, cell_of hs]; simp only [List.getElem?_toArray]; rw [List.getElem?_eq_getElem (by rw [flat3_length, HN.out]; exact hj)]; rfl) (fun j _ => hs.free _)
  have hs2 : SlotsAt (w1.setCells g 0 (flat3 (List.replicate N (0, 0, 0)))) g (List.replicate N (0, 0, 0)) := by
    have := setCells_blk (flat3 (List.replicate N (0, 0, 0))) [] (flat3 S) [] 0 w1 g 196 (by rw [List.nil_append, List.append_nil]; exact hs) rfl (by rw [flat3_length, flat3_length, List.length_replicate, HN.out])
    rw [List.nil_append, List.append_nil] at this
    exact this
  have hf2 : Fr (fun i => i = g) w1 (w1.setCells g 0 (flat3 (List.replicate N (0, 0, 0)))) := setCells_fr _ _ _ _
  have hh2 := hh.fr hf2 Hne.out
  have hb2 := hb.fr hf2 hbb.2
  have hf3 : Fr (fun i => i = bh ∨ i = g) w (w1.setCells g 0 (flat3 (List.replicate N (0, 0, 0)))) := (hf.mono (G := fun i => i = bh ∨ i = g) (fun _ _ h => h.elim)).trans hf2 (fun _ _ h => .inr h)
  have HS2 := Lib.hid hs2; have HF3 := Lib.hid hf3; have HH2 := Lib.hid hh2; have HB2 := Lib.hid hb2; have Hbb := Lib.hid hbb
  clear hh hs hb hf hnew hs2 hf2 hf3 hh2 hb2 hbb
  go_upto_region 3 with fail
  clear hcl c0 c4
  generalize w1.setCells g 0 (flat3 (List.replicate N (0, 0, 0))) = w2 at HS2 HF3 HH2 HB2 ⊢
  obtain ⟨c0, -, -, c3, c4⟩ := HH2.out.cells
  have z3 := HH2.out.free 3
  have hh3 := HH2.out.graves 0
  simp only [Int.natCast_zero] at hh3
  have hf4 : Fr (fun i => i = bh) w2 (w2.setCell ⟨bh, 3, none⟩ (.int .i64 0)) := Fr.setCell (F := fun i => i = bh) (p := ⟨bh, 3, none⟩) (Fr.refl _ w2) (fun _ => rfl) _
  have hst : AnewAt w bh g b N most st (List.replicate N (0, 0, 0)) L 0 (w2.setCell ⟨bh, 3, none⟩ (.int .i64 0)) := ⟨by rw [← Hm.out]; exact hh3, HS2.out.fr hf4 (fun e => Hne.out e.symm), HB2.out.fr hf4 Hbb.out.1, Anew.start _ _ _, HF3.out.trans hf4 (fun _ _ h => .inl h)⟩
  have HST := Lib.hid hst
  clear hh3 hf4 hst HS2 HF3 HH2 HB2
  go_upto_block 0 with fail
  clear c0 c3 c4 z3
  generalize w2.setCell ⟨bh, 3, none⟩ (.int .i64 0) = w3 at HST ⊢
  go_cut [23] (fun _ wx => ∃ S' st', AnewAt w bh g b N most st' S' L L.length wx)
  case first =>
    go_wp2_with fail
    go_loopw [23] (fun s23 wr => ∃ (k : Nat) (S' : List Sl) (st' : Nat), s23 = .int .i64 (k : Int) ∧ k ≤ m ∧ AnewAt w bh g b N most st' S' L k wr) (fun s23 _ => m - (intOf s23).toNat)
    case atStart => exact ⟨0, _, st, rfl, Nat.zero_le _, HST.out⟩
    case round =>
      obtain ⟨k, S', st', rfl, hk, hs⟩ := hrel
      have HA := Lib.hid hs
      clear hs
      by_cases hlt : k < m
      · have hlt' : (k : Int) < (m : Int) := by omega
        have k0 : (0 : Int) ≤ (k : Int) := by omega
        have hkL : k < L.length := by rw [← Hm.out]; exact hlt
        obtain ⟨d0, d1, d2⟩ := HA.out.buf.cells (p := k) (by rw [List.length_map]; exact hkL)
        have hx : slAt (L.map fun x => (1, x)) k = (1, L[k].1, L[k].2) := by simp [slAt, hkL]
        rw [hx] at d0 d1 d2
        simp only at d0 d1 d2
        obtain ⟨id, hid⟩ : ∃ id, id = L[k].1 := ⟨_, rfl⟩
        obtain ⟨v, hv⟩ : ∃ v, v = L[k].2 := ⟨_, rfl⟩
        rw [← hid] at d1
        rw [← hv] at d2
        have e0 : ((1 : Nat) : Int) = 1 := rfl
        rw [e0] at d0
        have Hid := Lib.hid hid; have Hv := Lib.hid hv; have Hlt := Lib.hid hlt
        have HidL := Lib.hid (show id < 4294967296 by rw [hid]; exact Hids.out _ (List.getElem_mem hkL))
        obtain ⟨k1, hk1⟩ : ∃ k1, k1 = k + 1 := ⟨_, rfl⟩
        have e1 : (k : Int) + 1 = (k1 : Int) := by omega
        obtain ⟨e2, e3, -⟩ := wrap_small (x := k1) (by have := H8.out; have := HL.out; omega)
        have HK1 := Lib.hid hk1
        clear hx hid hv hlt hk hk1 e0
        go_upto_region 7 with fail
        clear d0 d1 d2
        have hw4 : (wr.alloc (.cells #[.int .u8 1, .int .u32 (id : Int), .int .i64 v] 196)).heap[wr.heap.size]? = some (.cells #[.int .u8 1, .int .u32 (id : Int), .int .i64 v] 196 (0, 0)) := by rw [heap_alloc_get]; simp
        have hf4 : Fr (fun _ => False) wr (wr.alloc (.cells #[.int .u8 1, .int .u32 (id : Int), .int .i64 v] 196)) := Fr.alloc (Fr.refl _ _) _
        have hlb : wr.heap.size ≠ bh ∧ wr.heap.size ≠ g ∧ wr.heap.size ≠ b := by have := HA.out.head.lt; have := HA.out.slots.lt; have := HA.out.buf.lt; omega
        have hso : w.heap.size ≤ wr.heap.size := HA.out.fr.size
        generalize wr.alloc (.cells #[.int .u8 1, .int .u32 (id : Int), .int .i64 v] 196) = w4 at hw4 hf4 ⊢
        generalize wr.heap.size = lb at hw4 hlb hso ⊢
        have HA4 := Lib.hid (show AnewAt w bh g b N most st' S' L k w4 from ⟨HA.out.head.fr hf4 (fun h => h), HA.out.slots.fr hf4 (fun h => h), HA.out.buf.fr hf4 (fun h => h), HA.out.anew, HA.out.fr.trans hf4 (fun _ _ h => h.elim)⟩)
        have l1 := (cell_of hw4 1).trans (show _ = some (Value.int .u32 (id : Int)) from rfl)
        have HW4 := Lib.hid hw4; have Hlb := Lib.hid hlb
        clear hw4 hf4 hlb hso
        have hkN : k < N := by have := Hlt.out; have := HL.out; have := Hm.out; omega
        have HFd := Lib.hid (find_ok HA4.out.head HA4.out.slots HA4.out.anew.len HA4.out.anew.good (HA4.out.anew.gap hkN) Hne.out HidL.out H8.out)
        rw [← Hm.out] at HFd
        clear hkN
        go_wp2_with fail
        refine HFd.out.mono ?_
        rintro e w5 ⟨st5, -, -, hh5, hf5, hd⟩
        rcases hd with ⟨p, rfl, hp, hs⟩ | ⟨p, rfl, hpl, hab⟩
        · exact absurd (HA4.out.anew.not_there HU.out hkL (by rw [HA4.out.anew.len]; exact hp) (by rw [← Hid.out]; exact hs)) (fun h => h)
        have hpS : p < S'.length := hpl.1
        have hpN : p < N := by rw [← HA4.out.anew.len]; exact hpS
        have hpn : (p : Int) < (N : Int) := by omega
        have hp0 : (0 : Int) ≤ (p : Int) := by omega
        have c0 := hh5.cells.1
        have hs5 := HA4.out.slots.fr hf5 (fun e => Hne.out e.symm)
        obtain ⟨g0, g1, g2⟩ := hs5.cells hpS
        have z0 := hs5.free (p * 3); have z1 := hs5.free (p * 3 + 1); have z2 := hs5.free (p * 3 + 2)
        have hw5 := hf5.get HW4.out Hlb.out.1
        have l0 := (cell_of hw5 0).trans (show _ = some (Value.int .u8 1) from rfl)
        have l1 := (cell_of hw5 1).trans (show _ = some (Value.int .u32 (id : Int)) from rfl)
        have l2 := (cell_of hw5 2).trans (show _ = some (Value.int .i64 v) from rfl)
        have hs6 : SlotsAt (((w5.setCell ⟨g, p * 3, none⟩ (.int .u8 1)).setCell ⟨g, p * 3 + 1, none⟩ (.int .u32 (id : Int))).setCell ⟨g, p * 3 + 2, none⟩ (.int .i64 v)) g (S'.set p (1, id, v)) := hs5.set hpS (1, id, v)
        have hf6 := set3_fr w5 g p (.int .u8 1) (.int .u32 (id : Int)) (.int .i64 v)
        have ha6 : Anew (home N) (S'.set p (1, id, v)) L N (k + 1) := by
          rw [Hid.out, Hv.out]
          exact HA4.out.anew.more HU.out hkL (by rw [← Hid.out]; exact hpl) (by rw [← Hid.out]; exact hab)
        have HA6 := Lib.hid (show AnewAt w bh g b N most st5 (S'.set p (1, id, v)) L (k + 1) _ from ⟨by rw [← Hm.out]; exact hh5.fr hf6 Hne.out, hs6, (HA4.out.buf.fr hf5 Hbb.out.1).fr hf6 Hbb.out.2, ha6, (HA4.out.fr.trans hf5 (fun _ _ h => .inl h)).trans hf6 (fun _ _ h => .inr h)⟩)
        clear hh5 hf5 hpl hab hpS hpN hs5 hw5 hs6 hf6 ha6
        go_upto_region 8 with fail
        go_still_tail 7, (by kernel_rfl)
        go_wp2_with fail
        go_roundw
        case rel => exact ⟨k1, _, _, rfl, by have := HK1.out; have := Hlt.out; omega, by rw [HK1.out]; exact ⟨HA6.out.head, HA6.out.slots, HA6.out.buf, HA6.out.anew, HA6.out.fr.drew⟩⟩
        case measure => have := HK1.out; have := Hlt.out; simp [intOf]; omega
      · obtain rfl : k = m := by omega
        clear hlt hk
        go_wp2_with fail
        go_meet
        exact ⟨_, _, by rw [← Hm.out]; exact HA.out⟩
  case rest =>
  obtain ⟨S', st', hs⟩ := hcut
  obtain ⟨-, -, -, -, c4⟩ := hs.head.cells
  have z4 := hs.head.free 4
  have hf5 : Fr (fun i => i = bh) wc (wc.setCell ⟨bh, 4, none⟩ (.int .i64 (st : Int))) := Fr.setCell (F := fun i => i = bh) (p := ⟨bh, 4, none⟩) (Fr.refl _ wc) (fun _ => rfl) _
  have HR := Lib.hid (show HeadAt (wc.setCell ⟨bh, 4, none⟩ (.int .i64 (st : Int))) bh g N most L.length 0 st ∧ SlotsAt (wc.setCell ⟨bh, 4, none⟩ (.int .i64 (st : Int))) g S' ∧ Anew (home N) S' L N L.length ∧ Fr (fun i => i = bh ∨ i = g) w (wc.setCell ⟨bh, 4, none⟩ (.int .i64 (st : Int))) from ⟨hs.head.steps st, hs.slots.fr hf5 (fun e => Hne.out e.symm), hs.anew, hs.fr.trans hf5 (fun _ _ h => .inl h)⟩)
  clear hs hf5
  go_wp2_with fail
  go_end0
  exact ⟨rfl, S', HR.out⟩
end Go.Proofs.YtffnjnnmlfgngaaGreat.Ix
namespace Go.Proofs.YtffnjnnmlfgngaaGreat.Ix
open Go.RowKit
/-- What Put answers. -/
def putE (L : List (Nat × Int)) (most id : Nat) : Nat := if (look L id).isSome then 7 else if L.length = most then 6 else 0
/-- What is held behind a Put. -/
def putL (L : List (Nat × Int)) (most id : Nat) (v : Int) : List (Nat × Int) := if putE L most id = 0 then ins L id v else L
theorem mem_ins {L : List (Nat × Int)} {id : Nat} {v : Int} {x : Nat × Int} (h : x ∈ ins L id v) : x = (id, v) ∨ x ∈ L := by
  unfold ins at h
  rcases List.mem_append.1 h with h | h
  · exact .inr (List.mem_filter.1 h).1
  · rcases List.mem_cons.1 h with h | h
    · exact .inl h
    · exact .inr (List.mem_filter.1 h).1
theorem Raw.drew {w : World} {bh g N most : Nat} {S : List Sl} {L : List (Nat × Int)} {st : Nat} (h : Raw w bh g N most S L st) : Raw w.drew bh g N most S L st := ⟨h.head, h.slots, h.len, h.good, h.maps, h.ids, h.ne, h.lo, h.one, h.hi⟩
/-- Graves that are left when a place is taken. -/
def grL (S : List Sl) (p : Nat) : Nat := if (slAt S p).1 = 2 then graves S - 1 else graves S
theorem grL_ok {S : List Sl} {p id : Nat} {v : Int} (hp : p < S.length) : graves (S.set p (1, id, v)) = grL S p ∧ ((slAt S p).1 = 2 → 1 ≤ graves S) := by
  have := graves_set hp (1, id, v)
  rw [if_neg (show ¬ (1 = 2) by omega)] at this
  unfold grL
  by_cases h : (slAt S p).1 = 2
  · rw [if_pos h] at this; rw [if_pos h]; exact ⟨by omega, fun _ => by omega⟩
  · rw [if_neg h] at this; rw [if_neg h]; exact ⟨by omega, fun e => absurd e h⟩
set_option maxRecDepth 100000 in
set_option maxHeartbeats 2000000 in
theorem put_ok {w : World} {bh g N most st : Nat} {L : List (Nat × Int)} (h : IxAt w bh g N most L st) {id : Nat} (hid : id < 4294967296) (v : Int) :
    Calls Tryz.prog 82 #[.pointer (some ⟨bh, 0, none⟩), .int .u32 (id : Int), .int .i64 v] w fun e w' => ∃ st', 1 ≤ st' ∧ e = .returned (.int .i64 (putE L most id : Int)) ∧ IxAt w' bh g N most (putL L most id v) st' ∧ Fr (fun b => b = bh ∨ b = g) w w' := by
  obtain ⟨S, hr, hl1, hl2, hl3⟩ := h
  have HF := Lib.hid (find_raw hr (load_lt hr.lo hr.one hl1) hid)
  have H := Lib.hid hr.head; have HL := Lib.hid hl1; have HL2 := Lib.hid hl2; have Hid := Lib.hid hid
  have hN8 := hr.hi
  have hlo := hr.lo
  obtain ⟨q, hq⟩ : ∃ q, q = L.length := ⟨_, rfl⟩
  have hq6 : q ≤ 8192 := by omega
  have HQ := Lib.hid hq; have HQ6 := Lib.hid hq6; have HN8 := Lib.hid hN8; have Hlo := Lib.hid hlo
  clear hr hl1 hl2 hl3 hid hq hlo hN8 hq6
  go_enter Tryz.func82, Tryz.ntmps82
  go_wp2_with fail
  refine (made_ok H.out).mono ?_
  rintro e w1 ⟨rfl, rfl⟩
  go_wp2_with fail
  refine HF.out.mono ?_
  rintro e w1 ⟨st', h1, h2, hr, hf, hd⟩
  rcases hd with ⟨p, rfl, hp, hs⟩ | ⟨p, rfl, hpl, ha⟩
  · have hlk := hr.maps.found (by rw [hr.len]; exact hp) hs
    have HR := Lib.hid hr; have Hf := Lib.hid hf; have HK := Lib.hid hlk; have HS := Lib.hid (And.intro h1 h2)
    clear hr hf hlk h1 h2 hs hp
    go_wp2_with fail
    go_ret
    have e7 : putE L most id = 7 := by unfold putE; rw [HK.out]; rfl
    have eL : putL L most id v = L := by unfold putL; rw [e7]; rfl
    exact ⟨st', HS.out.1, by rw [e7]; rfl, by rw [eL]; exact ⟨S, HR.out, HL.out, HL2.out, HS.out.2⟩, Hf.out.mono (fun _ _ h => .inl h)⟩
  · have hlk := hr.maps.absent ha
    have hhd := hr.head
    rw [← HQ.out] at hhd
    obtain ⟨c0, c1, c2, -, -⟩ := hhd.cells
    have HR := Lib.hid hr; have Hf := Lib.hid hf; have HK := Lib.hid hlk; have HS := Lib.hid (And.intro h1 h2); have Hpl := Lib.hid hpl; have Ha := Lib.hid ha; have Hhd := Lib.hid hhd
    clear hr hf hlk h1 h2 ha hpl hhd
    by_cases hqm : q = most
    · have hb : ((q : Int) == (most : Int)) = true := by rw [hqm]; simp
      have Hqm := Lib.hid hqm
      clear hqm
      go_upto_region 6 with fail
      go_still (by kernel_rfl)
      go_wp2_with fail
      go_ret
      have e6 : putE L most id = 6 := by unfold putE; rw [HK.out, ← HQ.out, Hqm.out, if_neg (by simp), if_pos rfl]
      have eL : putL L most id v = L := by unfold putL; rw [e6]; rfl
      exact ⟨st', HS.out.1, by rw [e6]; rfl, by rw [eL]; exact ⟨S, HR.out.drew, HL.out, HL2.out, HS.out.2⟩, (Hf.out.mono (G := fun b => b = bh ∨ b = g) (fun _ _ h => .inl h)).drew⟩
    · have hb : ((q : Int) == (most : Int)) = false := by simp; omega
      have hqm2 : q + 1 ≤ most := by have := HL2.out; have := HQ.out; omega
      have Hqm := Lib.hid hqm2
      clear hqm hqm2
      have hp' : p < S.length := Hpl.out.1
      have hpN : p < N := by rw [← HR.out.len]; exact hp'
      have hpl : (p : Int) < (N : Int) := by omega
      have hp0 : (0 : Int) ≤ (p : Int) := by omega
      obtain ⟨k0, k1, k2⟩ := HR.out.slots.cells hp'
      obtain ⟨sa, hsa⟩ : ∃ sa, sa = (slAt S p).1 := ⟨_, rfl⟩
      rw [← hsa] at k0
      obtain ⟨-, hgr1⟩ := grL_ok (id := id) (v := v) hp'
      have HgL := Lib.hid (show graves S ≤ 8192 from Nat.le_trans (graves_le S) (by rw [HR.out.len]; exact HN8.out))
      have Hsa := Lib.hid hsa; have Hgr1 := Lib.hid hgr1; have Hp := Lib.hid hp'
      clear hsa hgr1 hp' hpN
      go_upto_region 6 with fail
      go_still (by kernel_rfl)
      go_upto_if 38 with fail
      have hh2 : HeadAt w1.drew bh g N most q (graves S) st' := Hhd.out
      have hs2 : SlotsAt w1.drew g S := HR.out.slots
      have hf2 : Fr (fun b => b = bh ∨ b = g) w w1.drew := (Hf.out.mono (G := fun b => b = bh ∨ b = g) (fun _ _ h => .inl h)).drew
      clear c0 c1 c2 k0 k1 k2 hb
      generalize w1.drew = w2 at hh2 hs2 hf2 ⊢
      obtain ⟨c0, -, c2, c3, -⟩ := hh2.cells
      have z3 := hh2.free 3
      have HH2 := Lib.hid hh2; have HS2 := Lib.hid hs2; have HF2 := Lib.hid hf2
      clear hh2 hs2 hf2
      go_cut [] (fun wx => HeadAt wx bh g N most q (grL S p) st' ∧ SlotsAt wx g S ∧ Fr (fun b => b = bh ∨ b = g) w wx)
      case first =>
        by_cases hs : sa = 2
        · subst hs
          obtain ⟨gr1, hgr1⟩ : ∃ gr1, graves S = gr1 + 1 := ⟨graves S - 1, by have := Hgr1.out Hsa.out.symm; omega⟩
          rw [hgr1] at c3
          have e1 : ((gr1 + 1 : Nat) : Int) - 1 = (gr1 : Int) := by omega
          obtain ⟨e2, e3, -⟩ := wrap_small (x := gr1) (by have := HgL.out; omega)
          have e4 : grL S p = gr1 := by unfold grL; rw [if_pos Hsa.out.symm, hgr1]; rfl
          have hf3 : Fr (fun b => b = bh) w2 (w2.setCell ⟨bh, 3, none⟩ (.int .i64 (gr1 : Int))) := Fr.setCell (F := fun b => b = bh) (p := ⟨bh, 3, none⟩) (Fr.refl _ w2) (fun _ => rfl) _
          have HX := Lib.hid (show HeadAt (w2.setCell ⟨bh, 3, none⟩ (.int .i64 (gr1 : Int))) bh g N most q (grL S p) st' ∧ SlotsAt (w2.setCell ⟨bh, 3, none⟩ (.int .i64 (gr1 : Int))) g S ∧ Fr (fun b => b = bh ∨ b = g) w (w2.setCell ⟨bh, 3, none⟩ (.int .i64 (gr1 : Int))) from ⟨by rw [e4]; exact HH2.out.graves gr1, HS2.out.fr hf3 (fun e => HR.out.ne e.symm), HF2.out.trans hf3 (fun _ _ h => .inl h)⟩)
          clear hgr1 e4 hf3
          go_wp2_with fail
          go_meet
          exact HX.out
        · have hb : ((sa : Int) == 2) = false := by simp; omega
          have e4 : grL S p = graves S := by unfold grL; rw [if_neg (by rw [← Hsa.out]; exact hs)]
          have HX := Lib.hid e4
          clear hs e4
          go_wp2_with fail
          go_meet
          exact ⟨by rw [HX.out]; exact HH2.out, HS2.out, HF2.out⟩
      case rest =>
      obtain ⟨hh3, hs3, hf3⟩ := hcut
      clear c0 c2 c3 z3
      obtain ⟨hgl, -⟩ := grL_ok (id := id) (v := v) Hp.out
      obtain ⟨gr, hgr⟩ : ∃ gr, gr = grL S p := ⟨_, rfl⟩
      rw [← hgr] at hh3 hgl
      have hg8 : gr ≤ 8192 := by rw [← hgl]; exact Nat.le_trans (graves_le _) (by rw [List.length_set, HR.out.len]; exact HN8.out)
      obtain ⟨c0, -, -, -, -⟩ := hh3.cells
      obtain ⟨k0, k1, k2⟩ := hs3.cells Hp.out
      have z0 := hs3.free (p * 3); have z1 := hs3.free (p * 3 + 1); have z2 := hs3.free (p * 3 + 2)
      have hsl : SlotsAt (((wc.setCell ⟨g, p * 3, none⟩ (.int .u8 1)).setCell ⟨g, p * 3 + 1, none⟩ (.int .u32 (id : Int))).setCell ⟨g, p * 3 + 2, none⟩ (.int .i64 v)) g (S.set p (1, id, v)) := hs3.set Hp.out (1, id, v)
      have fs := set3_fr wc g p (.int .u8 1) (.int .u32 (id : Int)) (.int .i64 v)
      have HH3 := Lib.hid hh3; have HSL := Lib.hid hsl; have FS := Lib.hid fs; have HF3 := Lib.hid hf3; have Hgl := Lib.hid hgl; have Hgr := Lib.hid hgr
      clear hh3 hs3 hf3 hgl hgr hsl fs
      go_upto_region 11 with fail
      have hh4 := HH3.out.fr FS.out HR.out.ne
      have hsl4 := HSL.out
      have hf4 := HF3.out.trans FS.out (fun _ _ h => .inr h)
      clear k0 k1 k2 z0 z1 z2 c0 hpl hp0
      generalize ((wc.setCell ⟨g, p * 3, none⟩ (.int .u8 1)).setCell ⟨g, p * 3 + 1, none⟩ (.int .u32 (id : Int))).setCell ⟨g, p * 3 + 2, none⟩ (.int .i64 v) = w4 at hh4 hsl4 hf4 ⊢
      obtain ⟨q1, hq1⟩ : ∃ q1, q1 = q + 1 := ⟨_, rfl⟩
      have e1 : (q : Int) + 1 = (q1 : Int) := by omega
      obtain ⟨e2, e3, -⟩ := wrap_small (x := q1) (by have := HQ6.out; omega)
      obtain ⟨-, -, c2, -, -⟩ := hh4.cells
      have z2 := hh4.free 2
      have hh5 := hh4.len q1
      have hf5 : Fr (fun b => b = bh) w4 (w4.setCell ⟨bh, 2, none⟩ (.int .i64 (q1 : Int))) := Fr.setCell (F := fun b => b = bh) (p := ⟨bh, 2, none⟩) (Fr.refl _ w4) (fun _ => rfl) _
      have hsl5 := hsl4.fr hf5 (fun e => HR.out.ne e.symm)
      have hf6 := hf4.trans hf5 (fun _ _ h => .inl h)
      have HH5 := Lib.hid hh5; have HSL5 := Lib.hid hsl5; have HF6 := Lib.hid hf6; have Hq1 := Lib.hid hq1; have Hg8 := Lib.hid hg8
      clear hh4 hsl4 hf4 hh5 hf5 hsl5 hf6 hq1 hg8
      go_upto_region 12 with fail
      clear c2 z2
      generalize w4.setCell ⟨bh, 2, none⟩ (.int .i64 (q1 : Int)) = w5 at HH5 HSL5 HF6 ⊢
      obtain ⟨c0, -, c2, c3, -⟩ := HH5.out.cells
      obtain ⟨s1, hs1⟩ : ∃ s1, s1 = q1 + gr := ⟨_, rfl⟩
      obtain ⟨s4, hs4⟩ : ∃ s4, s4 = 4 * s1 := ⟨_, rfl⟩
      obtain ⟨n3, hn3⟩ : ∃ n3, n3 = 3 * N := ⟨_, rfl⟩
      have hbd : s1 ≤ 20000 := by have := HQ6.out; have := Hg8.out; have := Hq1.out; omega
      have f1 : (q1 : Int) + (gr : Int) = (s1 : Int) := by omega
      obtain ⟨f2, f3, -⟩ := wrap_small (x := s1) (by omega)
      have f4 : 4 * (s1 : Int) = (s4 : Int) := by omega
      obtain ⟨f5, f6, -⟩ := wrap_small (x := s4) (by omega)
      have f7 : 3 * (N : Int) = (n3 : Int) := by omega
      obtain ⟨f8, f9, -⟩ := wrap_small (x := n3) (by have := HN8.out; omega)
      have Hs := Lib.hid (show s4 = 4 * (L.length + 1 + grL S p) by rw [hs4, hs1, Hq1.out, HQ.out, Hgr.out])
      have Hn3 := Lib.hid hn3
      clear hs1 hs4 hn3 hbd
      have e0 : putE L most id = 0 := by unfold putE; rw [HK.out, if_neg (by simp), ← HQ.out, if_neg (by have := Hqm.out; omega)]
      have eL : putL L most id v = ins L id v := by unfold putL; rw [if_pos e0]
      have il := ins_length (L := L) (id := id) v HK.out
      have hmaps := HR.out.maps.put (v := v) Hp.out Hpl.out.2.1 Ha.out
      have hgood := HR.out.good.put (v := v) Hpl.out Ha.out
      have hids : ∀ x ∈ ins L id v, x.1 < 4294967296 := fun x hx => by
        rcases mem_ins hx with rfl | hx
        · exact Hid.out
        · exact HR.out.ids x hx
      have E0 := Lib.hid e0; have EL := Lib.hid eL; have IL := Lib.hid il; have Hmaps := Lib.hid hmaps; have Hgood := Lib.hid hgood; have Hids := Lib.hid hids
      clear e0 eL il hmaps hgood hids
      by_cases hgt : n3 < s4
      · have hgt' : (n3 : Int) < (s4 : Int) := by omega
        have hh6 := HH5.out
        rw [show q1 = (ins L id v).length by rw [IL.out, Hq1.out, HQ.out]] at hh6
        have hlo := Hlo.out; have hqm := Hqm.out; have hq := HQ.out; have hil := IL.out; have h1 := HR.out.one
        have HA := Lib.hid (anew_ok (w := w5.drew) (by exact hh6) (by exact HSL5.out) (by rw [List.length_set]; exact HR.out.len) Hmaps.out Hids.out HR.out.ne (show (ins L id v).length < N by omega) HN8.out)
        clear hgt hh6 hlo hqm hq hil h1
        go_still (by kernel_rfl)
        go_wp2_with fail
        refine HA.out.mono ?_
        rintro e w6 ⟨rfl, S', hh7, hs7, ha7, hf7⟩
        have HH7 := Lib.hid hh7; have HS7 := Lib.hid hs7; have HA7 := Lib.hid ha7; have HF7 := Lib.hid hf7
        clear hh7 hs7 ha7 hf7
        go_wp2_with fail
        go_ret
        refine ⟨st', HS.out.1, by rw [E0.out]; rfl, ?_, HF6.out.drew.trans HF7.out (fun _ _ h => h)⟩
        rw [EL.out]
        have hm : (ins L id v).length ≤ most := by rw [IL.out]; have := Hqm.out; have := HQ.out; omega
        refine ⟨S', ⟨by rw [HA7.out.none]; exact HH7.out, HS7.out, HA7.out.len, HA7.out.good, HA7.out.whole, Hids.out, HR.out.ne, HR.out.lo, HR.out.one, HR.out.hi⟩, ?_, hm, HS.out.2⟩
        rw [HA7.out.none]; have := Hlo.out; omega
      · have hgt' : ¬ (n3 : Int) < (s4 : Int) := by omega
        have Hgt := Lib.hid hgt
        clear hgt
        go_still (by kernel_rfl)
        go_wp2_with fail
        go_ret
        refine ⟨st', HS.out.1, by rw [E0.out]; rfl, ?_, HF6.out.drew⟩
        rw [EL.out]
        refine ⟨S.set p (1, id, v), ⟨?_, HSL5.out, by rw [List.length_set]; exact HR.out.len, Hgood.out, Hmaps.out, Hids.out, HR.out.ne, HR.out.lo, HR.out.one, HR.out.hi⟩, ?_, by rw [IL.out]; have := Hqm.out; have := HQ.out; omega, HS.out.2⟩
        · have := HH5.out
          rw [IL.out, Hgl.out, ← HQ.out, ← Hq1.out]; exact this
        · have h1 := Hgt.out; have h2 := Hs.out; have h3 := Hn3.out
          rw [IL.out, Hgl.out, Hgr.out]; omega
end Go.Proofs.YtffnjnnmlfgngaaGreat.Ix
namespace Go.Proofs.YtffnjnnmlfgngaaGreat.Bk
open Go.RowKit
theorem putL_ids {b : Bk} {x : Bo} (hl : ∀ y ∈ b.L, y.1 < x.1) (hc : b.L.length < b.codes) : Ix.putL (idsOf b.L) b.codes x.1 x.2.1 = idsOf (b.L ++ [x]) := by
  have hn := ids_gone (b := b) hl
  have h0 : Ix.putE (idsOf b.L) b.codes x.1 = 0 := by
    unfold Ix.putE
    rw [hn, if_neg (by simp), if_neg (by simp [idsOf]; omega)]
  unfold Ix.putL
  rw [if_pos h0, ids_put hl]
theorem taken_put {n j : Nat} {L : List Bo} {x : Bo} (hx : x.2.1 = (j : Int)) : takenOf n (L ++ [x]) = (takenOf n L).set j true := by
  refine takenOf_set (fun k hk => ?_) ?_
  · rw [bSeat_put_ne (by rw [hx]; omega)]
  · rw [bSeat_append, if_pos hx]; cases bSeat L (j : Int) <;> rfl
theorem seats_put {n j : Nat} {L : List Bo} {x : Bo} (hx : x.2.1 = (j : Int)) (hf : ∀ y ∈ L, y.2.1 ≠ x.2.1) : seatsOf n (L ++ [x]) = (seatsOf n L).set j x := by
  refine seatsOf_set (fun k hk => ?_) ?_
  · rw [bSeat_put_ne (by rw [hx]; omega)]
  · rw [← hx, bSeat_put_eq hf]; rfl
theorem box_bo {w : World} {z : Nat} {x : Bo} (h : w.heap[z]? = some (.cells #[.int .u32 (x.1 : Int), .int .i64 x.2.1, .int .i64 x.2.2] 68 (0, 0))) :
    w.cell? ⟨z, 0, none⟩ = some (.int .u32 (x.1 : Int)) ∧ w.cell? ⟨z, 1, none⟩ = some (.int .i64 x.2.1) ∧ w.cell? ⟨z, 2, none⟩ = some (.int .i64 x.2.2) := ⟨(cell_of h 0).trans rfl, (cell_of h 1).trans rfl, (cell_of h 2).trans rfl⟩
set_option maxRecDepth 100000 in
set_option maxHeartbeats 4000000 in
theorem put_ok {p : Pt} {bb nx : Nat} {b : Bk} {w : World} (h : BkP p bb nx b b.L b.L w) {xi j : Nat} {xt : Int} {n : Nat} (hn : Raw { b with L := b.L ++ [(xi, (j : Int), xt)], next := n }) (hl : ∀ y ∈ b.L, y.1 < xi) (hf : ∀ y ∈ b.L, y.2.1 ≠ (j : Int)) (hnn : p.nh + 1 ≤ (n : Int)) :
    Calls Tryz.prog 39 #[.pointer (some ⟨bb, 0, none⟩), boV (xi, (j : Int), xt)] w fun e w' => e = .returned (.tuple #[]) ∧ ∃ p', BkP p' bb nx { b with L := b.L ++ [(xi, (j : Int), xt)], next := n } (b.L ++ [(xi, (j : Int), xt)]) (b.L ++ [(xi, (j : Int), xt)]) w' ∧ Fr (p.own bb) w w' ∧ (∀ y, p'.own bb y → p.own bb y ∨ w.heap.size ≤ y) ∧ p'.nh ≤ p.nh + 1 := by
  have hmem : ((xi, (j : Int), xt) : Bo) ∈ b.L ++ [(xi, (j : Int), xt)] := by simp
  have hjs : j < b.seats := by have := (hn.at_ _ hmem).2; simp only at this; omega
  have hxi : xi < 4294967296 := by have := (hn.ids _ hmem).2; have := hn.n1; simp only at *; omega
  have hcd : b.L.length < b.codes := by have := hn.few; simp at this; omega
  have htl := hn.till _ hmem
  obtain ⟨lab, hlb, h9⟩ := h.labs
  obtain ⟨W, hW⟩ : ∃ W, W = w.alloc (.cells #[.int .u32 (xi : Int), .int .i64 (j : Int), .int .i64 xt] 68) := ⟨_, rfl⟩
  obtain ⟨z, hz⟩ : ∃ z, z = w.heap.size := ⟨_, rfl⟩
  have f0 : Fr (fun _ => False) w W := by rw [hW]; exact Fr.alloc (Fr.refl _ _) _
  have hg : W.heap[z]? = some (.cells #[.int .u32 (xi : Int), .int .i64 (j : Int), .int .i64 xt] 68 (0, 0)) := by rw [hW, hz]; exact heap_alloc_at _ _
  have hz9 : lab z = 9 := h9 z (by omega)
  have hW' : BkP p bb nx b b.L b.L W.drew := (h.keep f0).keep (Fr.drew (Fr.refl _ _))
  have lbb := lt_of_block hW'.head
  have lz : z < W.drew.heap.size := lt_of_block hg
  -- the index
  have HI := Lib.hid (Ix.put_ok hW'.idx hxi (j : Int))
  rw [putL_ids (x := (xi, (j : Int), xt)) hl hcd] at HI
  obtain ⟨_, _, _, _, _, _, c6, c7, c8, c9, c10⟩ := hW'.c
  obtain ⟨z0, z1, z2⟩ := box_bo (x := (xi, (j : Int), xt)) hg
  have F0 := Lib.hid f0; have HL := Lib.hid hlb; have H9 := Lib.hid h9; have Hz9 := Lib.hid hz9; have H := Lib.hid hW'; have Hg := Lib.hid (show W.drew.heap[z]? = _ from hg); have Hn := Lib.hid hn; have Hh := Lib.hid h; have Hnn := Lib.hid hnn
  have Hf := Lib.hid hf; have Hl := Lib.hid hl
  clear f0 hlb h9 hz9 hW' hg hn h hnn hf hl hmem hcd
  go_enter Tryz.func39, Tryz.ntmps39
  go_upto_region 1 with fail
  rw [← hW, ← hz]
  clear hW hz
  go_still_tail 8, (by kernel_rfl)
  go_wp2_with fail
  refine HI.out.mono ?_
  rintro e w1 ⟨st', _, rfl, hix, f1⟩
  have fl1 : Fr (fun x => lab x = 2) W.drew w1 := f1.mono (fun x _ hx => by rcases hx with rfl | rfl; exact HL.out.l2; exact HL.out.l2g)
  have F1 := Lib.hid f1; have Fl1 := Lib.hid fl1; have Hix := Lib.hid hix
  have Hd1 := Lib.hid (HL.out.head fl1 (by decide) H.out.head)
  have St1 := Lib.hid (HL.out.set fl1 (by decide) H.out.set)
  have Bx1 := Lib.hid (fl1.get Hg.out (fun e => by rw [Hz9.out] at e; cases e))
  clear hix f1 fl1 HI c6 c7 c8 c9 c10 z0 z1 z2
  have c6 := (cell_of Hd1.out 6).trans (show _ = some (Value.pointer (some ⟨p.tp, 0, none⟩)) from rfl)
  have z1 := (cell_of Bx1.out 1).trans (show _ = some (Value.int .i64 (j : Int)) from rfl)
  have HS := Lib.hid (put_in (St1.out.fr (Fr.drew (Fr.refl (fun _ => False) _)) (fun h => h) (fun _ _ h => h)) (fun e => (HL.out.l1v _ e).2 rfl) (j := j) (by rw [takenOf_length]; exact hjs))
  rw [← taken_put (x := (xi, (j : Int), xt)) rfl] at HS
  go_upto_region 2 with fail
  go_still_tail 6, (by kernel_rfl)
  go_wp2_with fail
  refine HS.out.mono ?_
  rintro e w2 ⟨rfl, hst, f2⟩
  have fl2 : Fr (fun x => lab x = 1) w1 w2 := (Fr.undrew f2).mono (fun x _ hx => (HL.out.l1v x hx).1)
  have F2 := Lib.hid (Fr.undrew f2); have Fl2 := Lib.hid fl2; have Hst := Lib.hid hst
  have Hd2 := Lib.hid (HL.out.head fl2 (by decide) Hd1.out)
  have Rw2 := Lib.hid (HL.out.row fl2 (by decide) (HL.out.row Fl1.out (by decide) H.out.row))
  have Bx2 := Lib.hid (fl2.get Bx1.out (fun e => by rw [Hz9.out] at e; cases e))
  clear hst f2 fl2 HS c6 z1
  have c8 := (cell_of Hd2.out 8).trans (show _ = some p.sv from rfl)
  obtain ⟨z0, z1, z2⟩ := box_bo (x := (xi, (j : Int), xt)) Bx2.out
  obtain ⟨g, cap, ev, k0, k1, k2⟩ := Bos.cells Rw2.out (k := j) (by rw [seatsOf_length]; exact hjs)
  rw [seatsOf_length] at ev
  have hgf : ∀ k, w2.frozen? ⟨g, k, none⟩ = false := by
    rcases Rw2.out.2 with ⟨_, h0⟩ | ⟨g', c', cur, e, _, q1, _⟩
    · rw [seatsOf_length] at h0; omega
    · rw [ev] at e
      obtain ⟨e1, _, _⟩ := Value.slice.inj e
      obtain rfl : g = g' := by simpa using e1
      exact free_of q1
  have y0 := hgf (j * 3); have y1 := hgf (j * 3 + 1); have y2 := hgf (j * 3 + 2)
  have hrow := Bos.put (w := w2) (n := b.seats) (g := g) (cap := cap) (by rw [← ev]; exact Rw2.out) (p := j) (by rw [seatsOf_length]; exact hjs) (xi, (j : Int), xt)
  rw [← seats_put (x := (xi, (j : Int), xt)) rfl Hf.out] at hrow
  rw [ev] at c8
  have hgS : p.sv.ownBlock = some g := by rw [ev]; rfl
  have fs : Fr (fun x => x = g) w2 (((w2.setCell ⟨g, j * 3, none⟩ (.int .u32 (xi : Int))).setCell ⟨g, j * 3 + 1, none⟩ (.int .i64 (j : Int))).setCell ⟨g, j * 3 + 2, none⟩ (.int .i64 xt)) :=
    (((Fr.refl (fun y => y = g) _).setCell (p := ⟨g, j * 3, none⟩) (fun _ => rfl) _).setCell (p := ⟨g, j * 3 + 1, none⟩) (fun _ => rfl) _).setCell (p := ⟨g, j * 3 + 2, none⟩) (fun _ => rfl) _
  have Hev := Lib.hid ev; have Hrow := Lib.hid hrow; have Fs := Lib.hid fs; have HgS := Lib.hid hgS
  have Fl3 := Lib.hid (show Fr (fun x => lab x = 3) w2 (((w2.setCell ⟨g, j * 3, none⟩ (.int .u32 (xi : Int))).setCell ⟨g, j * 3 + 1, none⟩ (.int .i64 (j : Int))).setCell ⟨g, j * 3 + 2, none⟩ (.int .i64 xt)) from fs.mono (fun x _ hx => by rw [hx]; exact HL.out.l3 g hgS))
  have hjs' : (j : Int) < (b.seats : Int) := by omega
  have hsm : (b.seats : Int) ≤ 1024 := by have := H.out.raw.s1; omega
  clear ev hrow fs hgf hgS
  go_upto_region 3 with fail
  go_still_tail 8, (by kernel_rfl)
  obtain ⟨w3, hw3⟩ : ∃ w3, w3 = (((w2.setCell ⟨g, j * 3, none⟩ (.int .u32 (xi : Int))).setCell ⟨g, j * 3 + 1, none⟩ (.int .i64 (j : Int))).setCell ⟨g, j * 3 + 2, none⟩ (.int .i64 xt)) := ⟨_, rfl⟩
  rw [← hw3] at Hrow Fs Fl3
  have Hd3 := Lib.hid (HL.out.head Fl3.out (by decide) Hd2.out)
  have Bx3 := Lib.hid (Fl3.out.get Bx2.out (fun e => by rw [Hz9.out] at e; cases e))
  have Hp3 := Lib.hid (HL.out.heap Fl3.out (by decide) (HL.out.heap Fl2.out (by decide) (HL.out.heap Fl1.out (by decide) H.out.heap)))
  have Mp3 := Lib.hid (HL.out.map Fl3.out (by decide) (HL.out.map Fl2.out (by decide) (HL.out.map Fl1.out (by decide) H.out.map)))
  have Ix3 := Lib.hid (HL.out.idx Fl3.out (by decide) (HL.out.idx Fl2.out (by decide) Hix.out))
  have St3 := Lib.hid (HL.out.set Fl3.out (by decide) Hst.out)
  have Ff3 := Lib.hid (show Fr (p.own bb) w w3 from (((F0.out.mono (fun _ _ h => h.elim) : Fr (p.own bb) w W).trans (Fr.undrew F1.out) (fun x _ hx => Pt.ownI hx)).trans F2.out (fun x _ hx => Pt.ownT hx)).trans Fs.out (fun x _ hx => by rw [hx]; exact Pt.ownS HgS.out))
  go_upto_region 4 with fail
  rw [← hw3]
  have zt := (cell_of Bx3.out 2).trans (show _ = some (Value.int .i64 xt) from rfl)
  clear hw3 c8 z0 z1 z2 k0 k1 k2 y0 y1 y2
  by_cases hxt : 0 < xt
  · have hb : decide (0 < xt) = true := by simpa using hxt
    have lbb3 := lt_of_block Hd3.out
    have lz3 := lt_of_block Bx3.out
    have nbb : ¬ (False ∨ p.GH bb) := by rintro (h | h); exact h; have := HL.out.l4 _ h; rw [HL.out.l0] at this; cases this
    have nz : ¬ (False ∨ p.GH z) := by rintro (h | h); exact h; have := HL.out.l4 _ h; rw [Hz9.out] at this; cases this
    have hp := Du.push_room less_ok (w0 := w3.drew.drew) (Hp3.out.fr (Fr.drew (Fr.drew (Fr.refl (fun _ => False) _))) (fun _ _ h => h)) (by have := H.out.due.len; have := H.out.raw.few; have := H.out.raw.c1; omega) (by have := Hnn.out; have := Hn.out.n1; simp only at this; omega) (v := Du.dueN xt (xi : Int)) trivial
    simp only [Du.dueT, Du.dU_n (show (0 : Int) ≤ (xi : Int) by omega) (show (xi : Int) < 4294967296 by omega), Du.dI_n (show (0 : Int) ≤ (xi : Int) by omega) (show (xi : Int) < 4294967296 by omega)] at hp
    have HP := Lib.hid hp; have Hxt := Lib.hid hxt
    have c9 := (cell_of Hd3.out 9).trans (show _ = some (Value.pointer (some ⟨p.hp, 0, none⟩)) from rfl)
    have c10 := (cell_of Hd3.out 10).trans (show _ = some (Value.map (some p.mp)) from rfl)
    have z0 := (cell_of Bx3.out 0).trans (show _ = some (Value.int .u32 (xi : Int)) from rfl)
    clear hp hxt
    go_wp2_with fail
    go_region_held3 (fun w' => w'.cell? ⟨bb, 10, none⟩ = some (.map (some p.mp)) ∧ w'.cell? ⟨bb, 9, none⟩ = some (.pointer (some ⟨p.hp, 0, none⟩)) ∧ w'.cell? ⟨z, 0, none⟩ = some (.int .u32 (xi : Int)) ∧ w'.cell? ⟨z, 2, none⟩ = some (.int .i64 xt))
      (first | (go_keep; done) | exact ⟨(hf5.cell lbb3 nbb).trans c10, (hf5.cell lbb3 nbb).trans c9, (hf5.cell lz3 nz).trans z0, (hf5.cell lz3 nz).trans zt⟩ | exact ⟨(hcm _).trans ((hf5.cell lbb3 nbb).trans c10), (hcm _).trans ((hf5.cell lbb3 nbb).trans c9), (hcm _).trans ((hf5.cell lz3 nz).trans z0), (hcm _).trans ((hf5.cell lz3 nz).trans zt)⟩)
      (first | (go_at_call 84; refine HP.out.mono ?_; rintro e w5 ⟨rfl, G1, hH5, hf5, hg5⟩; obtain ⟨es, c, hrun, hM5⟩ := run_updateU (P := Tryz.prog) Tryz.underlying99 Tryz.underlying24 (HL.out.map ((Fr.undrew (Fr.undrew hf5)).mono (fun x _ hx => HL.out.l4 x (hx.elim False.elim (fun h => h)))) (by decide) Mp3.out) (xi : Int) p.nh; have hcm : ∀ a, (setMap w5 p.mp es c).cell? a = w5.cell? a := (by obtain ⟨l, c0, hb, _⟩ := HL.out.map ((Fr.undrew (Fr.undrew hf5)).mono (fun x _ hx => HL.out.l4 x (hx.elim False.elim (fun h => h)))) (show 4 ≠ 5 by decide) Mp3.out; exact fun a => setMap_cell hb es c a)))
    have fH : Fr p.GH w3 w5 := (Fr.undrew (Fr.undrew hf5)).mono (fun x _ hx => hx.elim False.elim (fun h => h))
    have fl5 : Fr (fun x => lab x = 4) w3 w5 := fH.mono (fun x _ hx => HL.out.l4 x hx)
    have fm : Fr (fun x => x = p.mp) w5 (setMap w5 p.mp es c) := Fr.setMap (F := fun x => x = p.mp) (b := p.mp) (Fr.refl _ _) (fun _ => rfl) _ _
    have fl6 : Fr (fun x => lab x = 5) w5 (setMap w5 p.mp es c) := fm.mono (fun x _ hx => by rw [hx]; exact HL.out.l5)
    have hsz : w.heap.size ≤ w3.heap.size := Ff3.out.size
    have hG1 : ∀ x, G1 x → p.GH x ∨ w.heap.size ≤ x := fun x hx => (hg5 x hx).elim .inl (fun h => .inr (Nat.le_trans hsz h))
    have hH6 : HpD G1 p.hp (Du.pushF ltD p.H (Du.dueN xt (xi : Int)) p.nh) (p.nh + 1) (setMap w5 p.mp es c) := HpD.fr hH5 fm (fun x hx e => by
      rcases hg5 x hx with h | h
      · have := HL.out.l4 x h; rw [e, HL.out.l5] at this; cases this
      · have h2 := Mp3.out.lt; rw [e] at h; exact absurd h2 (Nat.not_lt.2 h))
    have hdue := H.out.due.put H.out.raw.idlt (x := (xi, (j : Int), xt)) Hxt.out (by omega) (fun y hy => by have := Hl.out y hy; simp only; omega) p.nh
    have hE := Lib.hid (show ∃ p', BkP p' bb nx { b with L := b.L ++ [(xi, (j : Int), xt)], next := n } (b.L ++ [(xi, (j : Int), xt)]) (b.L ++ [(xi, (j : Int), xt)]) (setMap w5 p.mp es c) ∧ Fr (p.own bb) w (setMap w5 p.mp es c) ∧ (∀ y, p'.own bb y → p.own bb y ∨ w.heap.size ≤ y) ∧ p'.nh ≤ p.nh + 1 from
      ⟨_, HL.out.build (b' := { b with L := b.L ++ [(xi, (j : Int), xt)], next := n }) (LS' := b.L ++ [(xi, (j : Int), xt)]) (LD' := b.L ++ [(xi, (j : Int), xt)]) H9.out (HL.out.head fl6 (by decide) (HL.out.head fl5 (by decide) Hd3.out)) (HL.out.set fl6 (by decide) (HL.out.set fl5 (by decide) St3.out)) (HL.out.idx fl6 (by decide) (HL.out.idx fl5 (by decide) Ix3.out))
        (HL.out.row fl6 (by decide) (HL.out.row fl5 (by decide) (by rw [Hev.out]; exact Hrow.out))) hH6 hM5 hdue Hnn.out Hn.out hG1,
        (Ff3.out.trans fH (fun x _ hx => Pt.ownH hx)).trans fm (fun x _ hx => by rw [hx]; exact Pt.ownM), Pt.re_own hG1, Int.le_refl _⟩)
    clear hH5 hf5 hg5 hrun hM5 hcm fH fl5 fm fl6 hsz hG1 hH6 hdue c9 c10 z0 zt
    go_wp2_with fail
    go_end0
    exact ⟨rfl, hE.out⟩
  · have hb : decide (0 < xt) = false := by simpa using hxt
    have hE := Lib.hid (show ∃ p', BkP p' bb nx { b with L := b.L ++ [(xi, (j : Int), xt)], next := n } (b.L ++ [(xi, (j : Int), xt)]) (b.L ++ [(xi, (j : Int), xt)]) w3.drew ∧ Fr (p.own bb) w w3.drew ∧ (∀ y, p'.own bb y → p.own bb y ∨ w.heap.size ≤ y) ∧ p'.nh ≤ p.nh + 1 from
      ⟨_, (HL.out.build (b' := { b with L := b.L ++ [(xi, (j : Int), xt)], next := n }) (LS' := b.L ++ [(xi, (j : Int), xt)]) (LD' := b.L ++ [(xi, (j : Int), xt)]) H9.out Hd3.out St3.out Ix3.out (by rw [Hev.out]; exact Hrow.out) Hp3.out Mp3.out (H.out.due.put0 (x := (xi, (j : Int), xt)) hxt) (show p.nh ≤ (n : Int) by have := Hnn.out; omega) Hn.out (fun x hx => .inl hx)).keep (Fr.drew (Fr.refl _ _)),
        Fr.drew Ff3.out, Pt.re_own (fun x hx => .inl hx), (show p.nh ≤ p.nh + 1 by omega)⟩)
    clear hxt
    go_wp2_with fail
    go_end0
    exact ⟨rfl, hE.out⟩
end Go.Proofs.YtffnjnnmlfgngaaGreat.Bk
namespace Go.Proofs.YtffnjnnmlfgngaaGreat.Bk
open Go.RowKit
theorem taken_drop {b : Bk} (h : Raw b) {x : Bo} (hx : x ∈ b.L) {j : Nat} (hj : x.2.1 = (j : Int)) : takenOf b.seats (bDrop b.L x.1) = (takenOf b.seats b.L).set j false := by
  refine takenOf_set (fun k hk => ?_) ?_
  · rw [seat_drop h hx, if_neg (by rw [hj]; omega)]
  · rw [seat_drop h hx, if_pos hj.symm]; rfl
theorem seats_drop {b : Bk} (h : Raw b) {x : Bo} (hx : x ∈ b.L) {j : Nat} (hj : x.2.1 = (j : Int)) : seatsOf b.seats (bDrop b.L x.1) = (seatsOf b.seats b.L).set j (0, 0, 0) := by
  refine seatsOf_set (fun k hk => ?_) ?_
  · rw [seat_drop h hx, if_neg (by rw [hj]; omega)]
  · rw [seat_drop h hx, if_pos hj.symm]; rfl
set_option maxRecDepth 100000 in
set_option maxHeartbeats 4000000 in
theorem drop_ok {p : Pt} {bb nx : Nat} {b : Bk} {w : World} (h : BkP p bb nx b b.L b.L w) {x : Bo} (hx : x ∈ b.L) :
    Calls Tryz.prog 77 #[.pointer (some ⟨bb, 0, none⟩), boV x] w fun e w' => e = .returned (.tuple #[]) ∧ ∃ p', BkP p' bb nx { b with L := bDrop b.L x.1 } (bDrop b.L x.1) (bDrop b.L x.1) w' ∧ Fr (p.own bb) w w' ∧ ∀ y, p'.own bb y → p.own bb y := by
  obtain ⟨xi, xs, xt⟩ := x
  have hat := h.raw.at_ _ hx
  obtain ⟨j, rfl⟩ : ∃ j : Nat, xs = (j : Int) := ⟨xs.toNat, by simp only at hat; omega⟩
  have hjs : j < b.seats := by have := hat.2; simp only at this; omega
  have hxi : xi < 4294967296 := h.raw.idlt _ hx
  obtain ⟨W, hW⟩ : ∃ W, W = w.alloc (.cells #[.int .u32 (xi : Int), .int .i64 (j : Int), .int .i64 xt] 68) := ⟨_, rfl⟩
  obtain ⟨z, hz⟩ : ∃ z, z = w.heap.size := ⟨_, rfl⟩
  have f0 : Fr (fun _ => False) w W := by rw [hW]; exact Fr.alloc (Fr.refl _ _) _
  have hg : W.heap[z]? = some (.cells #[.int .u32 (xi : Int), .int .i64 (j : Int), .int .i64 xt] 68 (0, 0)) := by rw [hW, hz]; exact heap_alloc_at _ _
  have hW' := h.keep f0
  have HF := Lib.hid (firm_ok hW' h.raw.idlt h.raw.up (id := xi))
  have z0 := (cell_of hg 0).trans (show _ = some (Value.int .u32 (xi : Int)) from rfl)
  have hzo : ¬ p.own bb z := fun e => by have := h.lt e; omega
  have F0 := Lib.hid f0; have Hg := Lib.hid hg; have Hzo := Lib.hid hzo; have Hx := Lib.hid hx; have Hz := Lib.hid (show w.heap.size ≤ z by omega)
  clear f0 hg hzo hW' hat h
  go_enter Tryz.func77, Tryz.ntmps77
  go_upto_region 1 with fail
  rw [← hW, ← hz]
  clear hW hz
  go_wp2_with fail
  refine HF.out.mono ?_
  rintro e w1 ⟨rfl, q, hB, f1, ho⟩
  have hB2 := hB.keep (Fr.drew (Fr.refl (fun _ => False) _))
  obtain ⟨lab, hlb, h9⟩ := hB.labs
  have hqz : ¬ q.own bb z := fun e => Hzo.out (ho z e)
  have Ho := Lib.hid ho; have H := Lib.hid hB; have HL0 := Lib.hid hlb
  have Ff1 := Lib.hid ((F0.out.mono (fun _ _ h => h.elim) : Fr (p.own bb) w W).trans f1 (fun _ _ h => h))
  have Bx1 := Lib.hid (f1.get Hg.out Hzo.out)
  -- a label that sets the box apart
  have hlx : Lab q bb (fun y => if y = z then 9 else lab y) := by
    have ne : ∀ y, q.own bb y → y ≠ z := fun y hy e => hqz (e ▸ hy)
    refine ⟨?_, ?_, ?_, ?_, ?_, ?_, ?_, ?_⟩
    · simp only [if_neg (ne bb (.inl rfl))]; exact hlb.l0
    · simp only [if_neg (ne q.tp (.inr (.inl rfl)))]; exact hlb.l1
    · intro y hy; simp only [if_neg (ne y (Pt.ownT hy))]; exact hlb.l1v y hy
    · simp only [if_neg (ne q.ip (Pt.ownI (.inl rfl)))]; exact hlb.l2
    · simp only [if_neg (ne q.ig (Pt.ownI (.inr rfl)))]; exact hlb.l2g
    · intro y hy; simp only [if_neg (ne y (Pt.ownS hy))]; exact hlb.l3 y hy
    · intro y hy; simp only [if_neg (ne y (Pt.ownH hy))]; exact hlb.l4 y hy
    · simp only [if_neg (ne q.mp Pt.ownM)]; exact hlb.l5
  obtain ⟨lb, hlb2⟩ : ∃ lb, lb = fun y => if y = z then 9 else lab y := ⟨_, rfl⟩
  rw [← hlb2] at hlx
  have HL := Lib.hid hlx
  have Hz9 := Lib.hid (show lb z = 9 by rw [hlb2]; simp)
  have H9 := Lib.hid (show ∀ y, w1.heap.size ≤ y → lb y = 9 from fun y hy => by
    rw [hlb2]
    by_cases e : y = z
    · simp [e]
    · simp only [if_neg e]; exact h9 y hy)
  have HI := Lib.hid (Ix.drop_ok hB2.idx (id := xi) hxi)
  rw [ids_drop] at HI
  have c7 := hB.c.2.2.2.2.2.2.2.1
  have z0 := (cell_of Bx1.out 0).trans (show _ = some (Value.int .u32 (xi : Int)) from rfl)
  clear hB hB2 hlb h9 hqz ho f1 hlx hlb2 HL0
  go_upto_region 2 with fail
  go_still_tail 6, (by kernel_rfl)
  go_wp2_with fail
  refine HI.out.mono ?_
  rintro e w2 ⟨st', _, rfl, hix, f2⟩
  have fl2 : Fr (fun x => lb x = 2) w1 w2 := (Fr.undrew f2).mono (fun x _ hx => by rcases hx with rfl | rfl; exact HL.out.l2; exact HL.out.l2g)
  have F2 := Lib.hid (Fr.undrew f2); have Fl2 := Lib.hid fl2; have Hix := Lib.hid hix
  have Hd2 := Lib.hid (HL.out.head fl2 (by decide) H.out.head)
  have St2 := Lib.hid (HL.out.set fl2 (by decide) H.out.set)
  have Bx2 := Lib.hid (fl2.get Bx1.out (fun e => by rw [Hz9.out] at e; cases e))
  clear hix f2 fl2 HI c7 z0
  have c6 := (cell_of Hd2.out 6).trans (show _ = some (Value.pointer (some ⟨q.tp, 0, none⟩)) from rfl)
  have z1 := (cell_of Bx2.out 1).trans (show _ = some (Value.int .i64 (j : Int)) from rfl)
  have HS := Lib.hid (drop_in (St2.out.fr (Fr.drew (Fr.refl (fun _ => False) _)) (fun h => h) (fun _ _ h => h)) (fun e => (HL.out.l1v _ e).2 rfl) (j := j) (by rw [takenOf_length]; exact hjs))
  rw [← taken_drop H.out.raw Hx.out rfl] at HS
  go_upto_region 3 with fail
  go_still_tail 6, (by kernel_rfl)
  go_wp2_with fail
  refine HS.out.mono ?_
  rintro e w3 ⟨rfl, hst, f3⟩
  have fl3 : Fr (fun x => lb x = 1) w2 w3 := (Fr.undrew f3).mono (fun x _ hx => (HL.out.l1v x hx).1)
  have F3 := Lib.hid (Fr.undrew f3); have Fl3 := Lib.hid fl3; have Hst := Lib.hid hst
  have Hd3 := Lib.hid (HL.out.head fl3 (by decide) Hd2.out)
  have Rw3 := Lib.hid (HL.out.row fl3 (by decide) (HL.out.row Fl2.out (by decide) H.out.row))
  have Bx3 := Lib.hid (fl3.get Bx2.out (fun e => by rw [Hz9.out] at e; cases e))
  clear hst f3 fl3 HS c6 z1
  have c8 := (cell_of Hd3.out 8).trans (show _ = some q.sv from rfl)
  have z1 := (cell_of Bx3.out 1).trans (show _ = some (Value.int .i64 (j : Int)) from rfl)
  obtain ⟨g, cap, ev, k0, k1, k2⟩ := Bos.cells Rw3.out (k := j) (by rw [seatsOf_length]; exact hjs)
  rw [seatsOf_length] at ev
  have hgf : ∀ k, w3.frozen? ⟨g, k, none⟩ = false := by
    rcases Rw3.out.2 with ⟨_, h0⟩ | ⟨g', c', cur, e, _, q1, _⟩
    · rw [seatsOf_length] at h0; omega
    · rw [ev] at e
      obtain ⟨e1, _, _⟩ := Value.slice.inj e
      obtain rfl : g = g' := by simpa using e1
      exact free_of q1
  have y0 := hgf (j * 3); have y1 := hgf (j * 3 + 1); have y2 := hgf (j * 3 + 2)
  have hrow := Bos.put (w := w3) (n := b.seats) (g := g) (cap := cap) (by rw [← ev]; exact Rw3.out) (p := j) (by rw [seatsOf_length]; exact hjs) (0, 0, 0)
  rw [← seats_drop H.out.raw Hx.out rfl] at hrow
  rw [ev] at c8
  have hgS : q.sv.ownBlock = some g := by rw [ev]; rfl
  have fs : Fr (fun x => x = g) w3 (((w3.setCell ⟨g, j * 3, none⟩ (.int .u32 0)).setCell ⟨g, j * 3 + 1, none⟩ (.int .i64 0)).setCell ⟨g, j * 3 + 2, none⟩ (.int .i64 0)) :=
    (((Fr.refl (fun y => y = g) _).setCell (p := ⟨g, j * 3, none⟩) (fun _ => rfl) _).setCell (p := ⟨g, j * 3 + 1, none⟩) (fun _ => rfl) _).setCell (p := ⟨g, j * 3 + 2, none⟩) (fun _ => rfl) _
  have hrow : Bos (((w3.setCell ⟨g, j * 3, none⟩ (.int .u32 0)).setCell ⟨g, j * 3 + 1, none⟩ (.int .i64 0)).setCell ⟨g, j * 3 + 2, none⟩ (.int .i64 0)) (.slice (some ⟨g, 0, none⟩) b.seats cap) (seatsOf b.seats (bDrop b.L xi)) := hrow
  obtain ⟨w4, hw4⟩ : ∃ w4, w4 = (((w3.setCell ⟨g, j * 3, none⟩ (.int .u32 0)).setCell ⟨g, j * 3 + 1, none⟩ (.int .i64 0)).setCell ⟨g, j * 3 + 2, none⟩ (.int .i64 0)) := ⟨_, rfl⟩
  have hW4 := Lib.hid hw4
  rw [← hw4] at hrow fs
  have fl4 : Fr (fun x => lb x = 3) w3 w4 := fs.mono (fun x _ hx => by rw [hx]; exact HL.out.l3 g hgS)
  have ff : Fr (p.own bb) w w4 := ((Ff1.out.trans F2.out (fun x _ hx => Ho.out x (Pt.ownI hx))).trans F3.out (fun x _ hx => Ho.out x (Pt.ownT hx))).trans fs (fun x _ hx => by rw [hx]; exact Ho.out g (Pt.ownS hgS))
  have hraw : Raw { b with L := bDrop b.L xi } := H.out.raw.filt _
  have hE := Lib.hid (show ∃ p', BkP p' bb nx { b with L := bDrop b.L xi } (bDrop b.L xi) (bDrop b.L xi) w4.drew ∧ Fr (p.own bb) w w4.drew ∧ (∀ y, p'.own bb y → p.own bb y) from
    ⟨_, (HL.out.build (b' := { b with L := bDrop b.L xi }) (LS' := bDrop b.L xi) (LD' := bDrop b.L xi) H9.out (HL.out.head fl4 (by decide) Hd3.out) (HL.out.set fl4 (by decide) Hst.out) (HL.out.idx fl4 (by decide) (HL.out.idx Fl3.out (by decide) Hix.out)) (by rw [ev]; exact hrow)
        (HL.out.heap fl4 (by decide) (HL.out.heap Fl3.out (by decide) (HL.out.heap Fl2.out (by decide) H.out.heap))) (HL.out.map fl4 (by decide) (HL.out.map Fl3.out (by decide) (HL.out.map Fl2.out (by decide) H.out.map))) (H.out.due.same (dueOf_firm_drop b.L xi)) H.out.nh hraw (fun x hx => .inl hx)).keep (Fr.drew (Fr.refl _ _)),
      Fr.drew ff, fun y hy => Ho.out y (by
          rcases hy with h | h | h | h | h | h | h | h
          · exact .inl h
          · exact .inr (.inl h)
          · exact .inr (.inr (.inl h))
          · exact .inr (.inr (.inr (.inl h)))
          · exact .inr (.inr (.inr (.inr (.inl h))))
          · exact .inr (.inr (.inr (.inr (.inr (.inl h)))))
          · exact .inr (.inr (.inr (.inr (.inr (.inr (.inl h))))))
          · exact .inr (.inr (.inr (.inr (.inr (.inr (.inr h)))))))⟩)
  have hjs' : (j : Int) < (b.seats : Int) := by omega
  have hsm : (b.seats : Int) ≤ 1024 := by have := H.out.raw.s1; omega
  clear hrow fs fl4 ff hraw hgf hgS ev hw4
  go_upto_region 4 with fail
  go_still_tail 8, (by kernel_rfl)
  go_wp2_with fail
  go_end0
  rw [← hW4.out]
  exact ⟨rfl, hE.out⟩
end Go.Proofs.YtffnjnnmlfgngaaGreat.Bk
namespace Go.Proofs.YtffnjnnmlfgngaaGreat.Bk
open Go.RowKit
theorem Fr.drewN {F : Nat → Prop} {a w : World} (h : Fr F a w) (n : Nat) : Fr F a (w.drewN n) := ⟨h.os, h.tape, h.output, h.size, h.blk⟩
abbrev rcV (r : Rc) : Value := .agg #[.int .i64 r.kind, .int .u32 (r.id : Int), .int .i64 r.seat, .int .i64 r.till, .int .i64 r.clock]
abbrev rcC (r : Rc) : Obj := .cells #[.int .i64 r.kind, .int .u32 (r.id : Int), .int .i64 r.seat, .int .i64 r.till, .int .i64 r.clock] 46
/-- The book b' stands where the book was. -/
def Aft (p : Pt) (bb : Nat) (b' : Bk) (w w' : World) : Prop := ∃ p', BkP p' bb b'.next b' b'.L b'.L w' ∧ Fr (p.own bb) w w' ∧ ∀ y, p'.own bb y → p.own bb y ∨ w.heap.size ≤ y
section
variable {p : Pt} {bb nx : Nat} {b : Bk} {LS LD : List Bo} {w w' : World}
theorem Aft.same (h : BkP p bb b.next b b.L b.L w) (f : Fr (fun _ => False) w w') : Aft p bb b w w' := ⟨p, h.keep f, f.mono (fun _ _ h => h.elim), fun _ h => .inl h⟩
theorem BkP.setNext (h : BkP p bb nx b LS LD w) (n : Nat) : BkP p bb n b LS LD (w.setCell ⟨bb, 5, none⟩ (.int .u32 (n : Int))) := by
  obtain ⟨lab, hl⟩ := h.lab
  have f : Fr (fun x => x = bb) w (w.setCell ⟨bb, 5, none⟩ (.int .u32 (n : Int))) := Fr.setCell (F := fun x => x = bb) (p := ⟨bb, 5, none⟩) (Fr.refl _ _) (fun _ => rfl) _
  have fl : Fr (fun x => lab x = 0) w (w.setCell ⟨bb, 5, none⟩ (.int .u32 (n : Int))) := f.mono (fun x _ hx => by rw [hx]; exact hl.l0)
  exact ⟨setCell_blk (o := 5) h.head _, hl.set fl (by decide) h.set, hl.idx fl (by decide) h.idx, hl.row fl (by decide) h.row, hl.heap fl (by decide) h.heap, hl.map fl (by decide) h.map, h.due, h.nh, h.raw, lab, hl⟩
theorem BkP.setClock (h : BkP p bb nx b LS LD w) {c : Int} (c0 : 0 ≤ c) (c1 : c ≤ 1099511627776) : BkP p bb nx { b with clock := c } LS LD (w.setCell ⟨bb, 4, none⟩ (.int .i64 c)) := by
  obtain ⟨lab, hl⟩ := h.lab
  have f : Fr (fun x => x = bb) w (w.setCell ⟨bb, 4, none⟩ (.int .i64 c)) := Fr.setCell (F := fun x => x = bb) (p := ⟨bb, 4, none⟩) (Fr.refl _ _) (fun _ => rfl) _
  have fl : Fr (fun x => lab x = 0) w (w.setCell ⟨bb, 4, none⟩ (.int .i64 c)) := f.mono (fun x _ hx => by rw [hx]; exact hl.l0)
  have r := h.raw
  exact ⟨setCell_blk (o := 4) h.head _, hl.set fl (by decide) h.set, hl.idx fl (by decide) h.idx, hl.row fl (by decide) h.row, hl.heap fl (by decide) h.heap, hl.map fl (by decide) h.map, h.due, h.nh,
    ⟨r.s0, r.s1, r.c0, r.c1, r.n0, r.n1, c0, c1, r.up, r.ids, r.at_, r.lone, r.till, r.few⟩, lab, hl⟩
theorem has_seat (h : BkP p bb nx b LS LD w) {k : Int} (k0 : 0 ≤ k) (k1 : k < (b.seats : Int)) : Calls Tryz.prog 79 #[.pointer (some ⟨p.tp, 0, none⟩), .int .i64 k] w fun e w' => e = .returned (.bool (bSeat b.L k).isSome) ∧ w = w' := by
  obtain ⟨j, rfl⟩ : ∃ j : Nat, k = (j : Int) := ⟨k.toNat, by omega⟩
  have := Bt.has_ok h.set (j : Int)
  rw [Int.toNat_natCast, takenOf_get (by omega)] at this
  simpa using this
end
set_option maxRecDepth 100000 in
set_option maxHeartbeats 4000000 in
theorem hold_ok {p : Pt} {bb : Nat} {b : Bk} {w : World} (h : BkP p bb b.next b b.L b.L w) {r : Rc} (hr : recB r = true) (hk : r.kind = 1) (_hid : r.id < 4294967296) :
    Calls Tryz.prog 74 #[.pointer (some ⟨bb, 0, none⟩), rcV r] w fun e w' => e = .returned (.int .i64 (holdE b r : Nat)) ∧ Aft p bb (holdB b r) w w' := by
  have hq := recB_hold hr hk
  obtain ⟨W, hW⟩ : ∃ W, W = w.alloc (rcC r) := ⟨_, rfl⟩
  obtain ⟨z, hz⟩ : ∃ z, z = w.heap.size := ⟨_, rfl⟩
  have f0 : Fr (fun _ => False) w W := by rw [hW]; exact Fr.alloc (Fr.refl _ _) _
  have hg : W.heap[z]? = some (rcC r) := by rw [hW, hz]; exact heap_alloc_at _ _
  have hB := h.keep f0
  have z1 := (cell_of hg 1).trans (show _ = some (Value.int .u32 (r.id : Int)) from rfl)
  have z2 := (cell_of hg 2).trans (show _ = some (Value.int .i64 r.seat) from rfl)
  have z3 := (cell_of hg 3).trans (show _ = some (Value.int .i64 r.till) from rfl)
  obtain ⟨c0, c1, _, _, c4, c5, c6, c7, _⟩ := hB.c
  have HB := Lib.hid hB; have F0 := Lib.hid f0; have H := Lib.hid h; have Hq := Lib.hid hq; have Hz := Lib.hid (show w.heap.size ≤ z by omega)
  have Hg := Lib.hid hg
  have hsm : (b.seats : Int) ≤ 1024 := by have := h.raw.s1; omega
  have hcm : (b.codes : Int) ≤ 4096 := by have := h.raw.c1; omega
  have hlm : (b.L.length : Int) ≤ 4096 := by have := h.raw.few; have := h.raw.c1; omega
  obtain ⟨ri, hri⟩ : ∃ ri, ri = r.id := ⟨_, rfl⟩
  obtain ⟨rs, hrs⟩ : ∃ rs, rs = r.seat := ⟨_, rfl⟩
  obtain ⟨rt, hrt⟩ : ∃ rt, rt = r.till := ⟨_, rfl⟩
  obtain ⟨ll, hll⟩ : ∃ ll, ll = b.L.length := ⟨_, rfl⟩
  obtain ⟨bn, hbn⟩ : ∃ bn, bn = b.next := ⟨_, rfl⟩
  have hsame : holdE b r ≠ 0 → holdB b r = b := fun e => if_neg e
  have Hsame := Lib.hid (fun (e : holdE b r ≠ 0) (w' : World) (f : Fr (fun _ => False) w w') => show Aft p bb (holdB b r) w w' from by rw [hsame e]; exact Aft.same H.out f)
  rw [← hri] at z1; rw [← hrs] at z2; rw [← hrt] at z3; rw [← hbn] at c5; rw [← hll] at hlm
  have Hri := Lib.hid hri; have Hrs := Lib.hid hrs; have Hrt := Lib.hid hrt; have Hll := Lib.hid hll; have Hbn := Lib.hid hbn
  have HE := Lib.hid (show holdE b r = if ri ≠ bn then 2 else if (b.seats : Int) ≤ rs then 140 else if rt ≤ b.clock then 173 else if (bSeat b.L rs).isSome then 170 else if b.codes ≤ ll ∨ bn = 4294967295 then 6 else 0 from by rw [hri, hrs, hrt, hll, hbn]; rfl)
  have hn1 : bn < 4294967296 := by rw [hbn]; exact h.raw.n1
  have Hn1 := Lib.hid hn1
  clear f0 hg hB h hr hk hq hsame hri hrs hrt hll hbn hn1
  by_cases e1 : ri = bn
  · obtain rfl := e1
    have b1 : ((ri : Int) != (ri : Int)) = false := by simp
    by_cases e2 : (b.seats : Int) ≤ rs
    · have b2 : decide ((b.seats : Int) ≤ rs) = true := by simpa using e2
      have HC := Lib.hid e2
      clear e2
      go_enter Tryz.func74, Tryz.ntmps74
      go_upto_region 1 with fail
      rw [← hW]
      rw [← hz]
      clear hW hz
      go_region_held3 (fun w' => w'.cell? ⟨z, 1, none⟩ = some (.int .u32 (ri : Int)) ∧ w'.cell? ⟨bb, 5, none⟩ = some (.int .u32 (ri : Int))) (go_keep) (fail)
      go_upto_region 3 with fail
      go_region_held3 (fun w' => w'.cell? ⟨z, 2, none⟩ = some (.int .i64 rs) ∧ w'.cell? ⟨bb, 0, none⟩ = some (.int .i64 (b.seats : Int))) (go_keep) (fail)
      go_wp2_with fail
      go_ret
      have he : holdE b r = 140 := by rw [HE.out, if_neg (by simp), if_pos HC.out]
      exact ⟨by rw [he]; rfl, Hsame.out (by rw [he]; decide) _ (F0.out.trans (G := fun _ => False) (by exact ⟨rfl, rfl, rfl, Nat.le_refl _, fun _ _ _ => rfl⟩) (fun _ _ h => h))⟩
    · have b2 : decide ((b.seats : Int) ≤ rs) = false := by simpa using e2
      have HC2 := Lib.hid (show ¬ (b.seats : Int) ≤ rs from e2)
      clear e2
      by_cases e3 : rt ≤ b.clock
      · have b3 : decide (rt ≤ b.clock) = true := by simpa using e3
        have HC := Lib.hid e3
        clear e3
        go_enter Tryz.func74, Tryz.ntmps74
        go_upto_region 1 with fail
        rw [← hW]
        rw [← hz]
        clear hW hz
        go_region_held3 (fun w' => w'.cell? ⟨z, 1, none⟩ = some (.int .u32 (ri : Int)) ∧ w'.cell? ⟨bb, 5, none⟩ = some (.int .u32 (ri : Int))) (go_keep) (fail)
        go_upto_region 3 with fail
        go_region_held3 (fun w' => w'.cell? ⟨z, 2, none⟩ = some (.int .i64 rs) ∧ w'.cell? ⟨bb, 0, none⟩ = some (.int .i64 (b.seats : Int))) (go_keep) (fail)
        go_upto_region 5 with fail
        go_region_held3 (fun w' => w'.cell? ⟨z, 3, none⟩ = some (.int .i64 rt) ∧ w'.cell? ⟨bb, 4, none⟩ = some (.int .i64 b.clock)) (go_keep) (fail)
        go_wp2_with fail
        go_ret
        have he : holdE b r = 173 := by rw [HE.out, if_neg (by simp), if_neg (by have := HC2.out; omega), if_pos HC.out]
        exact ⟨by rw [he]; rfl, Hsame.out (by rw [he]; decide) _ (F0.out.trans (G := fun _ => False) (by exact ⟨rfl, rfl, rfl, Nat.le_refl _, fun _ _ _ => rfl⟩) (fun _ _ h => h))⟩
      · have b3 : decide (rt ≤ b.clock) = false := by simpa using e3
        have HC3 := Lib.hid (show ¬ rt ≤ b.clock from e3)
        clear e3
        have hs0 : 0 ≤ rs := by rw [Hrs.out]; exact Hq.out.2.1
        have HH0 : ∀ w', Fr (fun _ => False) W w' → Calls Tryz.prog 79 #[.pointer (some ⟨p.tp, 0, none⟩), .int .i64 rs] w' fun e w'' => e = .returned (.bool (bSeat b.L rs).isSome) ∧ w' = w'' := fun w' f => has_seat (HB.out.keep f) hs0 (by have := HC2.out; omega)
        obtain ⟨tk, htk⟩ : ∃ tk, tk = (bSeat b.L rs).isSome := ⟨_, rfl⟩
        rw [← htk] at HH0
        have HH := Lib.hid HH0; have Htk := Lib.hid htk
        clear HH0 htk hs0
        cases tk with
        | true =>
          go_enter Tryz.func74, Tryz.ntmps74
          go_upto_region 1 with fail
          rw [← hW]
          rw [← hz]
          clear hW hz
          go_region_held3 (fun w' => w'.cell? ⟨z, 1, none⟩ = some (.int .u32 (ri : Int)) ∧ w'.cell? ⟨bb, 5, none⟩ = some (.int .u32 (ri : Int))) (go_keep) (fail)
          go_upto_region 3 with fail
          go_region_held3 (fun w' => w'.cell? ⟨z, 2, none⟩ = some (.int .i64 rs) ∧ w'.cell? ⟨bb, 0, none⟩ = some (.int .i64 (b.seats : Int))) (go_keep) (fail)
          go_upto_region 5 with fail
          go_region_held3 (fun w' => w'.cell? ⟨z, 3, none⟩ = some (.int .i64 rt) ∧ w'.cell? ⟨bb, 4, none⟩ = some (.int .i64 b.clock)) (go_keep) (fail)
          go_upto_region 7 with fail
          go_region_held3 (fun w' => w'.cell? ⟨bb, 6, none⟩ = some (.pointer (some ⟨p.tp, 0, none⟩)) ∧ w'.cell? ⟨z, 2, none⟩ = some (.int .i64 rs)) (go_keep)
            (first | (go_at_call 79; refine (HH.out _ (by exact ⟨rfl, rfl, rfl, Nat.le_refl _, fun _ _ _ => rfl⟩)).mono ?_; rintro e w4 ⟨rfl, rfl⟩))
          go_wp2_with fail
          go_ret
          have he : holdE b r = 170 := by rw [HE.out, if_neg (by simp), if_neg (by have := HC2.out; omega), if_neg (by have := HC3.out; omega), if_pos Htk.out.symm]
          exact ⟨by rw [he]; rfl, Hsame.out (by rw [he]; decide) _ (F0.out.trans (G := fun _ => False) (by exact ⟨rfl, rfl, rfl, Nat.le_refl _, fun _ _ _ => rfl⟩) (fun _ _ h => h))⟩
        | false =>
          have HN := Lib.hid (show ∀ w', Fr (fun _ => False) W w' → Calls Tryz.prog 80 #[.pointer (some ⟨p.ip, 0, none⟩)] w' fun e w'' => e = .returned (.int .i64 (ll : Int)) ∧ w' = w'' from fun w' f => by
            have := Ix.len_ok (HB.out.keep f).idx
            rw [show (idsOf b.L).length = ll by rw [Hll.out]; simp [idsOf]] at this; exact this)
          have Ht0 := Lib.hid (show ¬ (bSeat b.L rs).isSome = true from by rw [← Htk.out]; simp)
          by_cases e4 : b.codes ≤ ll
          · have b4 : decide ((b.codes : Int) ≤ (ll : Int)) = true := by simpa using e4
            have b4' : decide (b.codes ≤ ll) = true := by simpa using e4
            have HC := Lib.hid e4
            clear e4
            go_enter Tryz.func74, Tryz.ntmps74
            go_upto_region 1 with fail
            rw [← hW]
            rw [← hz]
            clear hW hz
            go_region_held3 (fun w' => w'.cell? ⟨z, 1, none⟩ = some (.int .u32 (ri : Int)) ∧ w'.cell? ⟨bb, 5, none⟩ = some (.int .u32 (ri : Int))) (go_keep) (fail)
            go_upto_region 3 with fail
            go_region_held3 (fun w' => w'.cell? ⟨z, 2, none⟩ = some (.int .i64 rs) ∧ w'.cell? ⟨bb, 0, none⟩ = some (.int .i64 (b.seats : Int))) (go_keep) (fail)
            go_upto_region 5 with fail
            go_region_held3 (fun w' => w'.cell? ⟨z, 3, none⟩ = some (.int .i64 rt) ∧ w'.cell? ⟨bb, 4, none⟩ = some (.int .i64 b.clock)) (go_keep) (fail)
            go_upto_region 7 with fail
            go_region_held3 (fun w' => w'.cell? ⟨bb, 6, none⟩ = some (.pointer (some ⟨p.tp, 0, none⟩)) ∧ w'.cell? ⟨z, 2, none⟩ = some (.int .i64 rs)) (go_keep)
              (first | (go_at_call 79; refine (HH.out _ (by exact ⟨rfl, rfl, rfl, Nat.le_refl _, fun _ _ _ => rfl⟩)).mono ?_; rintro e w4 ⟨rfl, rfl⟩))
            go_upto_region 9 with fail
            go_region_held3 (fun w' => w'.cell? ⟨bb, 7, none⟩ = some (.pointer (some ⟨p.ip, 0, none⟩)) ∧ w'.cell? ⟨bb, 1, none⟩ = some (.int .i64 (b.codes : Int))) (go_keep)
              (first | (go_at_call 80; refine (HN.out _ (by exact ⟨rfl, rfl, rfl, Nat.le_refl _, fun _ _ _ => rfl⟩)).mono ?_; rintro e w4 ⟨rfl, rfl⟩))
            go_wp2_with fail
            go_ret
            have he : holdE b r = 6 := by rw [HE.out, if_neg (by simp), if_neg (by have := HC2.out; omega), if_neg (by have := HC3.out; omega), if_neg Ht0.out, if_pos (.inl HC.out)]
            exact ⟨by rw [he]; rfl, Hsame.out (by rw [he]; decide) _ (F0.out.trans (G := fun _ => False) (by exact ⟨rfl, rfl, rfl, Nat.le_refl _, fun _ _ _ => rfl⟩) (fun _ _ h => h))⟩
          · have b4 : decide ((b.codes : Int) ≤ (ll : Int)) = false := by simp; omega
            have b4' : decide (b.codes ≤ ll) = false := by simpa using e4
            have HC4 := Lib.hid e4
            clear e4
            by_cases e5 : ri = 4294967295
            · have b5 : ((ri : Int) == 4294967295) = true := by rw [e5]; rfl
              have HC := Lib.hid e5
              clear e5
              go_enter Tryz.func74, Tryz.ntmps74
              go_upto_region 1 with fail
              rw [← hW]
              rw [← hz]
              clear hW hz
              go_region_held3 (fun w' => w'.cell? ⟨z, 1, none⟩ = some (.int .u32 (ri : Int)) ∧ w'.cell? ⟨bb, 5, none⟩ = some (.int .u32 (ri : Int))) (go_keep) (fail)
              go_upto_region 3 with fail
              go_region_held3 (fun w' => w'.cell? ⟨z, 2, none⟩ = some (.int .i64 rs) ∧ w'.cell? ⟨bb, 0, none⟩ = some (.int .i64 (b.seats : Int))) (go_keep) (fail)
              go_upto_region 5 with fail
              go_region_held3 (fun w' => w'.cell? ⟨z, 3, none⟩ = some (.int .i64 rt) ∧ w'.cell? ⟨bb, 4, none⟩ = some (.int .i64 b.clock)) (go_keep) (fail)
              go_upto_region 7 with fail
              go_region_held3 (fun w' => w'.cell? ⟨bb, 6, none⟩ = some (.pointer (some ⟨p.tp, 0, none⟩)) ∧ w'.cell? ⟨z, 2, none⟩ = some (.int .i64 rs)) (go_keep)
                (first | (go_at_call 79; refine (HH.out _ (by exact ⟨rfl, rfl, rfl, Nat.le_refl _, fun _ _ _ => rfl⟩)).mono ?_; rintro e w4 ⟨rfl, rfl⟩))
              go_upto_region 9 with fail
              go_region_held3 (fun w' => w'.cell? ⟨bb, 7, none⟩ = some (.pointer (some ⟨p.ip, 0, none⟩)) ∧ w'.cell? ⟨bb, 1, none⟩ = some (.int .i64 (b.codes : Int))) (go_keep)
                (first | (go_at_call 80; refine (HN.out _ (by exact ⟨rfl, rfl, rfl, Nat.le_refl _, fun _ _ _ => rfl⟩)).mono ?_; rintro e w4 ⟨rfl, rfl⟩))
              go_wp2_with fail
              go_ret
              have he : holdE b r = 6 := by rw [HE.out, if_neg (by simp), if_neg (by have := HC2.out; omega), if_neg (by have := HC3.out; omega), if_neg Ht0.out, if_pos (.inr HC.out)]
              exact ⟨by rw [he]; rfl, Hsame.out (by rw [he]; decide) _ (F0.out.trans (G := fun _ => False) (by exact ⟨rfl, rfl, rfl, Nat.le_refl _, fun _ _ _ => rfl⟩) (fun _ _ h => h))⟩
            · have b5 : ((ri : Int) == 4294967295) = false := by simp; omega
              have hs0 : 0 ≤ rs := by rw [Hrs.out]; exact Hq.out.2.1
              obtain ⟨j, rfl⟩ : ∃ j : Nat, rs = (j : Int) := ⟨rs.toNat, by omega⟩
              have he : holdE b r = 0 := by rw [HE.out, if_neg (by simp), if_neg (by have := HC2.out; omega), if_neg (by have := HC3.out; omega), if_neg Ht0.out, if_neg (by rintro (h | h); exact HC4.out h; exact e5 h)]
              have hB' : holdB b r = { b with L := b.L ++ [(ri, (j : Int), rt)], next := ri + 1 } := by
                unfold holdB; rw [if_pos he, ← Hri.out, ← Hrs.out, ← Hrt.out, ← Hbn.out]
              have hraw : Raw { b with L := b.L ++ [(ri, (j : Int), rt)], next := ri + 1 } :=
                H.out.raw.put (x := (ri, (j : Int), rt)) (by rw [← Hbn.out]; omega) (by have := Hn1.out; omega) ⟨by simp only; have := H.out.raw.n0; have := Hbn.out; omega, by simp⟩ (fun y hy => by have := (H.out.raw.ids y hy).2; have := Hbn.out; simp only; omega)
                  ⟨by simp only; omega, by simp only; have := HC2.out; omega⟩ (bSeat_free (by rw [← Htk.out])) ⟨by simp only; rw [Hrt.out]; have := Hq.out.2.2.2.1; omega, by simp only; rw [Hrt.out]; exact Hq.out.2.2.2.2⟩ (by have := HC4.out; have := Hll.out; omega)
              have HP := Lib.hid (fun (w' : World) (f : Fr (fun _ => False) W w') => put_ok (n := ri + 1) (HB.out.keep f) hraw (fun y hy => by have := (H.out.raw.ids y hy).2; have := Hbn.out; omega) (bSeat_free (by rw [← Htk.out])) (by have := H.out.nh; have := Hbn.out; omega))
              have B7 := Lib.hid (show IntKind.u32.wrap ((ri : Int) + 1) = (ri : Int) + 1 by rw [IntKind.wrap_u32]; have := Hn1.out; omega)
              have b2n : decide (b.seats ≤ j) = false := by have := HC2.out; simp; omega
              have b5n : (ri == 4294967295) = false := by simpa using e5
              have b5d : decide (ri = 4294967295) = false := by simpa using e5
              have He := Lib.hid he; have HB' := Lib.hid hB'
              clear e5 hs0 he hB' hraw
              go_enter Tryz.func74, Tryz.ntmps74
              go_upto_region 1 with fail
              rw [← hW]
              rw [← hz]
              clear hW hz
              go_region_held3 (fun w' => w'.cell? ⟨z, 1, none⟩ = some (.int .u32 (ri : Int)) ∧ w'.cell? ⟨bb, 5, none⟩ = some (.int .u32 (ri : Int))) (go_keep) (fail)
              go_upto_region 3 with fail
              go_region_held3 (fun w' => w'.cell? ⟨z, 2, none⟩ = some (.int .i64 (j : Int)) ∧ w'.cell? ⟨bb, 0, none⟩ = some (.int .i64 (b.seats : Int))) (go_keep) (fail)
              go_upto_region 5 with fail
              go_region_held3 (fun w' => w'.cell? ⟨z, 3, none⟩ = some (.int .i64 rt) ∧ w'.cell? ⟨bb, 4, none⟩ = some (.int .i64 b.clock)) (go_keep) (fail)
              go_upto_region 7 with fail
              go_region_held3 (fun w' => w'.cell? ⟨bb, 6, none⟩ = some (.pointer (some ⟨p.tp, 0, none⟩)) ∧ w'.cell? ⟨z, 2, none⟩ = some (.int .i64 (j : Int))) (go_keep)
                (first | (go_at_call 79; refine (HH.out _ (by exact ⟨rfl, rfl, rfl, Nat.le_refl _, fun _ _ _ => rfl⟩)).mono ?_; rintro e w4 ⟨rfl, rfl⟩))
              go_upto_region 9 with fail
              go_region_held3 (fun w' => w'.cell? ⟨bb, 7, none⟩ = some (.pointer (some ⟨p.ip, 0, none⟩)) ∧ w'.cell? ⟨bb, 1, none⟩ = some (.int .i64 (b.codes : Int))) (go_keep)
                (first | (go_at_call 80; refine (HN.out _ (by exact ⟨rfl, rfl, rfl, Nat.le_refl _, fun _ _ _ => rfl⟩)).mono ?_; rintro e w4 ⟨rfl, rfl⟩))
              go_wp2_with fail
              refine (HP.out _ (by exact ⟨rfl, rfl, rfl, Nat.le_refl _, fun _ _ _ => rfl⟩)).mono ?_
              rintro e w1 ⟨rfl, q, hq1, f1, ho, hnh⟩
              have c5' := hq1.c.2.2.2.2.2.1
              rw [← Hbn.out] at c5'
              have y5 := hq1.z 5
              have Hs := Lib.hid (hq1.setNext (ri + 1))
              have Fq := Lib.hid (show Fr (p.own bb) w (w1.setCell ⟨bb, 5, none⟩ (.int .u32 ((ri + 1 : Nat) : Int))) from
                ((F0.out.mono (fun _ _ h => h.elim) : Fr (p.own bb) w W).trans (G := p.own bb) ⟨f1.os, f1.tape, f1.output, f1.size, f1.blk⟩ (fun _ _ h => h)).setCell (p := ⟨bb, 5, none⟩) (fun _ => .inl rfl) _)
              have Ho := Lib.hid ho
              have ec : ((ri + 1 : Nat) : Int) = (ri : Int) + 1 := by omega
              rw [ec] at Hs Fq
              have Hfin := Lib.hid (show Aft p bb (holdB b r) w (w1.setCell ⟨bb, 5, none⟩ (.int .u32 ((ri : Int) + 1))) from by
                rw [HB'.out]
                exact ⟨q, Hs.out, Fq.out, fun y hy => (Ho.out y hy).imp (fun h => h) (fun h => Nat.le_trans F0.out.size h)⟩)
              have b7 := B7.out
              clear hq1 f1 ho hnh ec b5 b5n b5d c0 c1 c4 c5 c6 c7 z1 z2 z3
              go_wp2_with fail
              go_ret
              exact ⟨by rw [He.out]; rfl, Hfin.out⟩
  · have b1 : ((ri : Int) != (bn : Int)) = true := by simp; omega
    have HC := Lib.hid e1
    clear e1
    go_enter Tryz.func74, Tryz.ntmps74
    go_upto_region 1 with fail
    rw [← hW]
    rw [← hz]
    clear hW hz
    go_region_held3 (fun w' => w'.cell? ⟨z, 1, none⟩ = some (.int .u32 (ri : Int)) ∧ w'.cell? ⟨bb, 5, none⟩ = some (.int .u32 (bn : Int))) (go_keep) (fail)
    go_wp2_with fail
    go_ret
    have he : holdE b r = 2 := by rw [HE.out, if_pos HC.out]
    exact ⟨by rw [he]; rfl, Hsame.out (by rw [he]; decide) _ (F0.out.trans (G := fun _ => False) (by exact ⟨rfl, rfl, rfl, Nat.le_refl _, fun _ _ _ => rfl⟩) (fun _ _ h => h))⟩
end Go.Proofs.YtffnjnnmlfgngaaGreat.Bk
namespace Go.Proofs.YtffnjnnmlfgngaaGreat.Bk
open Go.RowKit
theorem tick_all {L : List Bo} {c : Int} (h : ∀ x ∈ L, x.2.2 = 0 ∨ c < x.2.2) : bTick L c = L := by
  unfold bTick
  rw [List.filter_eq_self]
  intro x hx; simpa using h x hx
theorem tick_drop {L : List Bo} (hu : L.Pairwise fun x y => x.1 < y.1) {c : Int} {x : Bo} (hx : x ∈ L) (h0 : 0 < x.2.2) (h1 : x.2.2 ≤ c) : bTick (bDrop L x.1) c = bTick L c := by
  unfold bTick bDrop
  rw [List.filter_filter]
  apply List.filter_congr
  intro y hy
  by_cases e : y.1 = x.1
  · obtain rfl := uniq_id hu hy hx e
    have : decide (y.2.2 = 0 ∨ c < y.2.2) = false := by simp; omega
    rw [this]; rfl
  · simp [e]
theorem drop_less {L : List Bo} {x : Bo} (hx : x ∈ L) : (bDrop L x.1).length < L.length := by
  unfold bDrop
  rw [List.length_filter_lt_length_iff_exists]
  exact ⟨x, hx, by simp⟩
set_option maxRecDepth 100000 in
set_option maxHeartbeats 4000000 in
theorem tick_ok {p : Pt} {bb : Nat} {b : Bk} {w : World} (h : BkP p bb b.next b b.L b.L w) {c : Int} (k0 : 1 ≤ c) (k1 : c ≤ 1099511627776) :
    Calls Tryz.prog 75 #[.pointer (some ⟨bb, 0, none⟩), .int .i64 c] w fun e w' => e = .returned (.int .i64 (tickE b c : Nat)) ∧ Aft p bb (tickB b c) w w' := by
  have c4 := h.c.2.2.2.2.1
  have y4 := h.z 4
  by_cases hle : c ≤ b.clock
  · have b1 : decide (c ≤ b.clock) = true := by simpa using hle
    have hE : tickE b c = 173 := if_pos hle
    have hB : tickB b c = b := if_pos hle
    rw [hE, hB]
    have H := Lib.hid h
    clear h hle hE hB
    go_enter Tryz.func75, Tryz.ntmps75
    go_wp2_with fail
    go_ret
    exact ⟨rfl, Aft.same H.out (Fr.refl _ _)⟩
  · have b1 : decide (c ≤ b.clock) = false := by simpa using hle
    have hE : tickE b c = 0 := if_neg hle
    have hB : tickB b c = { b with L := bTick b.L c, clock := c } := if_neg hle
    rw [hE, hB]
    have hs := h.setClock (c := c) (by omega) k1
    have HS := Lib.hid hs
    have F0 := Lib.hid (show Fr (p.own bb) w (w.setCell ⟨bb, 4, none⟩ (.int .i64 c)) from (Fr.refl _ _).setCell (p := ⟨bb, 4, none⟩) (fun _ => .inl rfl) _)
    have H := Lib.hid h
    clear h hs hle hE hB
    go_enter Tryz.func75, Tryz.ntmps75
    go_wp2_with fail
    go_loopg [] (b.L.length) (fun k wr => ∃ (q : Pt) (M : List Bo), BkP q bb b.next { b with clock := c, L := M } M M wr ∧ bTick M c = bTick b.L c ∧ M.length ≤ k ∧ Fr (p.own bb) w wr ∧ ∀ y, q.own bb y → p.own bb y ∨ w.heap.size ≤ y)
    case atStart => exact ⟨p, b.L, HS.out, rfl, Nat.le_refl _, F0.out, fun _ h => .inl h⟩
    case round =>
      obtain ⟨q, M, hq, hM, hk, hf, ho⟩ := hrel
      have HQ := Lib.hid hq; have HM := Lib.hid hM; have Hk := Lib.hid hk; have Hf := Lib.hid hf; have Ho := Lib.hid ho
      have c9 := hq.c.2.2.2.2.2.2.2.2.2.1
      have hfin : (∀ x ∈ M, x.2.2 = 0 ∨ c < x.2.2) → ∀ w' : World, Fr (fun _ => False) wr w' → Aft p bb { b with L := bTick b.L c, clock := c } w w' := fun hx w' f => by
        rw [← HM.out, tick_all hx]
        exact ⟨q, HQ.out.keep f, Hf.out.trans f (fun _ _ h => h.elim), Ho.out⟩
      have HFin := Lib.hid hfin
      clear hM hk hf ho hfin
      have hidl : ∀ x ∈ M, x.1 < 4294967296 := hq.raw.idlt
      rcases hq.due.next hidl with ⟨h0, h1⟩ | ⟨h0, h1, h2⟩
      · have hh := hq.heap
        rw [h0] at hh
        have HL := Lib.hid (Du.least_none less_ok hh)
        have HN := Lib.hid (show ∀ x ∈ M, x.2.2 = 0 ∨ c < x.2.2 from fun x hx => by
          left
          have s1 := (hq.raw.till x hx).1
          have s2 := (bDue_spec M).2.2 x hx
          omega)
        clear hq h0 h1 hh hidl
        go_wp2_with fail
        refine HL.out.mono ?_
        rintro e w1 ⟨rfl, f1⟩
        have F1 := Lib.hid f1
        clear f1 c9
        go_wp2_with fail
        go_ret
        exact ⟨rfl, HFin.out HN.out _ (F1.out.alloc _)⟩
      · have hl0 : 0 < q.H.length := List.length_pos_iff.2 h0
        obtain ⟨x, hx, ht, e1, e2, e3⟩ := hq.due.mem hidl (itAt_mem hl0)
        have hl := Du.least_some less_ok hq.heap h0
        simp only [Du.dueT, e1, e2] at hl
        have HL := Lib.hid hl
        obtain ⟨xi, xs, xt⟩ := x
        simp only at HL
        have hd : bDue M = xt := by rw [h2, e1]
        by_cases hct : c < xt
        · have b2 : decide (c < xt) = true := by simpa using hct
          have HN := Lib.hid (show ∀ x ∈ M, x.2.2 = 0 ∨ c < x.2.2 from fun x hx => by
            have s1 := (hq.raw.till x hx).1
            have s2 := (bDue_spec M).2.2 x hx
            omega)
          clear hq h0 h1 h2 hidl hl0 hx ht e1 e2 e3 hl hd hct
          go_wp2_with fail
          refine HL.out.mono ?_
          rintro e w1 ⟨rfl, f1⟩
          have F1 := Lib.hid f1
          clear f1 c9
          go_wp2_with fail
          go_ret
          exact ⟨rfl, HFin.out HN.out _ (F1.out.alloc _)⟩
        · have b2 : decide (c < xt) = false := by simpa using hct
          have hxi : xi < 4294967296 := hidl _ hx
          have hfx : bFind M xi = some (xi, xs, xt) := (bFind_some hq.raw.up).2 hx
          have Hx := Lib.hid hx
          have Hup := Lib.hid hq.raw.up
          have HT := Lib.hid (show bTick (bDrop M xi) c = bTick M c from tick_drop hq.raw.up hx ht (by simp only; omega))
          have HLs := Lib.hid (drop_less hx)
          have Hxi := Lib.hid hxi; have Hfx := Lib.hid hfx
          clear hq h0 h1 h2 hidl hl0 hx ht e1 e2 e3 hl hd hct hxi hfx
          go_wp2_with fail
          refine HL.out.mono ?_
          rintro e w1 ⟨rfl, f1⟩
          have F1 := Lib.hid (f1.alloc (.cells #[.int .i64 xt, .int .u32 (xi : Int)] 111))
          have HG := Lib.hid (get_ok (HQ.out.keep F1.out) (id := xi) Hxi.out)
          rw [show bFind ({ b with clock := c, L := M } : Bk).L xi = some (xi, xs, xt) from Hfx.out] at HG
          clear f1 c9
          go_wp2_with fail
          refine HG.out.mono ?_
          rintro e w2 ⟨rfl, ⟨st, hq2⟩, f2⟩
          have F2 := Lib.hid (f2.alloc (.cells #[.int .u32 (xi : Int), .int .i64 xs, .int .i64 xt] 68))
          have HD := Lib.hid (drop_ok (b := { b with clock := c, L := M }) (hq2.keep (Fr.alloc (Fr.refl (fun _ => False) _) (.cells #[.int .u32 (xi : Int), .int .i64 xs, .int .i64 xt] 68))) Hx.out)
          clear hq2 f2
          unfold getE
          go_wp2_with fail
          refine HD.out.mono ?_
          rintro e w3 ⟨rfl, q3, hq3, f3, ho3⟩
          have HQ3 := Lib.hid hq3
          have Ff := Lib.hid (show Fr (p.own bb) w w3 from by
            have g1 : Fr (p.own bb) w _ := Hf.out.trans F1.out (fun _ _ h => h.elim)
            have g2 := g1.trans F2.out (fun y hy e => by
              rcases Ho.out y (by rw [e]; exact Pt.ownI (.inl rfl)) with h | h
              · exact h
              · omega)
            exact g2.trans f3 (fun y hy e => by
              rcases Ho.out y e with h | h
              · exact h
              · omega))
          have Ho3 := Lib.hid (show ∀ y, q3.own bb y → p.own bb y ∨ w.heap.size ≤ y from fun y hy => Ho.out y (ho3 y hy))
          clear hq3 f3 ho3
          go_wp2_with fail
          go_roundg (bDrop M xi).length
          case measure => exact Nat.lt_of_lt_of_le HLs.out Hk.out
          case rel => exact ⟨q3, _, HQ3.out, HT.out.trans HM.out, Nat.le_refl _, Ff.out, Ho3.out⟩
end Go.Proofs.YtffnjnnmlfgngaaGreat.Bk
namespace Go.Proofs.YtffnjnnmlfgngaaGreat.Bk
open Go.RowKit
section
variable {b : Bk} (h : Raw b) {xi : Nat} {i j : Nat} {xt : Int} (hx : (xi, (i : Int), xt) ∈ b.L) (h1 : (j : Int) < (b.seats : Int)) (hf : ∀ y ∈ b.L, y.2.1 ≠ (j : Int))
include h hx h1 hf
theorem taken_move : takenOf b.seats (bMove b.L xi (j : Int)) = ((takenOf b.seats b.L).set i false).set j true := by
  have hs := seat_move h hx (q := (j : Int)) (by omega) h1 hf
  have hij : i ≠ j := fun e => hf _ hx (by simp [e])
  have e1 : takenOf b.seats (bDrop b.L xi) = (takenOf b.seats b.L).set i false := taken_drop h hx rfl
  rw [← e1]
  refine takenOf_set (fun k hk => ?_) ?_
  · rw [hs, if_neg (by omega)]
    have := seat_drop h hx (k : Int)
    simp only at this
    rw [this]
  · rw [hs, if_pos rfl]; rfl
theorem seats_move : seatsOf b.seats (bMove b.L xi (j : Int)) = ((seatsOf b.seats b.L).set i (0, 0, 0)).set j (xi, (j : Int), xt) := by
  have hs := seat_move h hx (q := (j : Int)) (by omega) h1 hf
  have e1 : seatsOf b.seats (bDrop b.L xi) = (seatsOf b.seats b.L).set i (0, 0, 0) := seats_drop h hx rfl
  rw [← e1]
  refine seatsOf_set (fun k hk => ?_) ?_
  · rw [hs, if_neg (by omega)]
    have := seat_drop h hx (k : Int)
    simp only at this
    rw [this]
  · rw [hs, if_pos rfl]; rfl
end
set_option maxRecDepth 100000 in
set_option maxHeartbeats 4000000 in
theorem reseat_ok {p : Pt} {bb : Nat} {b : Bk} {w : World} (h : BkP p bb b.next b b.L b.L w) {x : Bo} (hx : x ∈ b.L) {k : Int} (k0 : 0 ≤ k) :
    Calls Tryz.prog 78 #[.pointer (some ⟨bb, 0, none⟩), boV x, .int .i64 k] w fun e w' => e = .returned (.int .i64 (seatE b x k : Nat)) ∧ Aft p bb (seatB b x k) w w' := by
  obtain ⟨xi, xs, xt⟩ := x
  have hat := h.raw.at_ _ hx
  obtain ⟨i, rfl⟩ : ∃ i : Nat, xs = (i : Int) := ⟨xs.toNat, by simp only at hat; omega⟩
  obtain ⟨j, rfl⟩ : ∃ j : Nat, k = (j : Int) := ⟨k.toNat, by omega⟩
  have his : i < b.seats := by have := hat.2; simp only at this; omega
  have hxi : xi < 4294967296 := h.raw.idlt _ hx
  obtain ⟨W, hW⟩ : ∃ W, W = w.alloc (.cells #[.int .u32 (xi : Int), .int .i64 (i : Int), .int .i64 xt] 68) := ⟨_, rfl⟩
  obtain ⟨z, hz⟩ : ∃ z, z = w.heap.size := ⟨_, rfl⟩
  have f0 : Fr (fun _ => False) w W := by rw [hW]; exact Fr.alloc (Fr.refl _ _) _
  have hg : W.heap[z]? = some (.cells #[.int .u32 (xi : Int), .int .i64 (i : Int), .int .i64 xt] 68 (0, 0)) := by rw [hW, hz]; exact heap_alloc_at _ _
  have hB := h.keep f0
  have c0 := hB.c.1
  have hsm : (b.seats : Int) ≤ 1024 := by have := h.raw.s1; omega
  have z1 := (cell_of hg 1).trans (show _ = some (Value.int .i64 (i : Int)) from rfl)
  have H := Lib.hid h; have HB := Lib.hid hB; have F0 := Lib.hid f0; have Hg := Lib.hid hg; have Hx := Lib.hid hx; have HZ := Lib.hid (show w.heap.size ≤ z by omega)
  by_cases e1 : b.seats ≤ j
  · have b1 : decide ((b.seats : Int) ≤ (j : Int)) = true := by simpa using e1
    have b1n : decide (b.seats ≤ j) = true := by simpa using e1
    have hE : seatE b (xi, (i : Int), xt) (j : Int) = 140 := if_pos (by omega)
    have hBb : seatB b (xi, (i : Int), xt) (j : Int) = b := by unfold seatB; rw [if_neg (by rw [hE]; decide)]
    rw [hE, hBb]
    clear f0 hg hB h hx hat e1 hE hBb
    go_enter Tryz.func78, Tryz.ntmps78
    go_upto_region 1 with fail
    rw [← hW, ← hz]
    clear hW hz
    go_wp2_with fail
    go_ret
    exact ⟨rfl, Aft.same H.out F0.out⟩
  · have b1 : decide ((b.seats : Int) ≤ (j : Int)) = false := by simp; omega
    have b1n : decide (b.seats ≤ j) = false := by simpa using e1
    by_cases e2 : j = i
    · subst e2
      have b2 : ((j : Int) == (j : Int)) = true := by simp
      have hE : seatE b (xi, (j : Int), xt) (j : Int) = 0 := by unfold seatE; rw [if_neg (by omega), if_pos rfl]
      have hBb : seatB b (xi, (j : Int), xt) (j : Int) = b := by
        unfold seatB; rw [if_pos hE]
        have : bMove b.L xi (j : Int) = b.L := by
          unfold bMove
          conv => rhs; rw [← List.map_id b.L]
          apply List.map_congr_left
          intro y hy
          by_cases e : y.1 = xi
          · rw [if_pos e]
            obtain rfl := uniq_id h.raw.up hy hx e
            rfl
          · rw [if_neg e]; rfl
        rw [this]
      rw [hE, hBb]
      clear f0 hg hB h hx hat e1 hE hBb
      go_enter Tryz.func78, Tryz.ntmps78
      go_upto_region 1 with fail
      rw [← hW, ← hz]
      clear hW hz
      go_wp2_with fail
      go_ret
      exact ⟨rfl, Aft.same H.out F0.out⟩
    · have b2 : ((j : Int) == (i : Int)) = false := by simp; omega
      have b2n : (j == i) = false := by simpa using e2
      have c6 := hB.c.2.2.2.2.2.2.1
      have HH0 := has_seat hB (k := (j : Int)) (by omega) (by omega)
      obtain ⟨tk, htk⟩ : ∃ tk, tk = (bSeat b.L (j : Int)).isSome := ⟨_, rfl⟩
      rw [← htk] at HH0
      have HH := Lib.hid HH0
      clear HH0
      cases tk with
      | true =>
        have hE : seatE b (xi, (i : Int), xt) (j : Int) = 170 := by unfold seatE; rw [if_neg (by omega), if_neg (by simp only; omega), if_pos htk.symm]
        have hBb : seatB b (xi, (i : Int), xt) (j : Int) = b := by unfold seatB; rw [if_neg (by rw [hE]; decide)]
        rw [hE, hBb]
        clear f0 hg hB h hx hat e1 e2 hE hBb htk
        go_enter Tryz.func78, Tryz.ntmps78
        go_upto_region 1 with fail
        rw [← hW, ← hz]
        clear hW hz
        go_wp2_with fail
        refine HH.out.mono ?_
        rintro e w1 ⟨rfl, rfl⟩
        go_wp2_with fail
        go_ret
        exact ⟨rfl, Aft.same H.out F0.out⟩
      | false =>
        have hfr := bSeat_free htk.symm
        have hjs : j < b.seats := by omega
        have hE : seatE b (xi, (i : Int), xt) (j : Int) = 0 := by unfold seatE; rw [if_neg (by omega), if_neg (by simp only; omega), if_neg (by rw [← htk]; simp)]
        have hBb : seatB b (xi, (i : Int), xt) (j : Int) = { b with L := bMove b.L xi (j : Int) } := by unfold seatB; rw [if_pos hE]
        rw [hE, hBb]
        have hraw : Raw { b with L := bMove b.L xi (j : Int) } := h.raw.move (by omega) (by omega) (fun y hy e => absurd e (hfr y hy))
        obtain ⟨lab, hlb, h9⟩ := h.labs
        have hz9 : lab z = 9 := h9 z (by omega)
        have HL := Lib.hid hlb; have H9 := Lib.hid h9; have Hz9 := Lib.hid hz9
        have Hraw := Lib.hid hraw
        have hij : i ≠ j := fun e => e2 e.symm
        have HS := Lib.hid (drop_in (hB.set.fr (Fr.drew (Fr.refl (fun _ => False) _)) (fun h => h) (fun _ _ h => h)) (fun e => (hlb.l1v _ e).2 rfl) (j := i) (by rw [takenOf_length]; exact his))
        have HT := Lib.hid (taken_move h.raw hx (by omega) hfr); have HM := Lib.hid (seats_move h.raw hx (by omega) hfr)
        clear f0 hg hB h hx hat e1 hE hBb htk hraw hlb h9 hz9 hfr
        go_enter Tryz.func78, Tryz.ntmps78
        go_upto_region 1 with fail
        rw [← hW, ← hz]
        clear hW hz
        go_wp2_with fail
        refine HH.out.mono ?_
        rintro e w1 ⟨rfl, rfl⟩
        go_upto_region 7 with fail
        go_still_tail 6, (by kernel_rfl)
        go_wp2_with fail
        refine HS.out.mono ?_
        rintro e w2 ⟨rfl, hst, f2⟩
        have fl2 : Fr (fun x => lab x = 1) W w2 := (Fr.undrew f2).mono (fun x _ hx => (HL.out.l1v x hx).1)
        have F2 := Lib.hid (Fr.undrew f2); have Fl2 := Lib.hid fl2; have Hst := Lib.hid hst
        have Hd2 := Lib.hid (HL.out.head fl2 (by decide) HB.out.head)
        have Rw2 := Lib.hid (HL.out.row fl2 (by decide) HB.out.row)
        have Bx2 := Lib.hid (fl2.get Hg.out (fun e => by rw [Hz9.out] at e; cases e))
        clear hst f2 fl2 HS c6 c0 z1
        have c8 := (cell_of Hd2.out 8).trans (show _ = some p.sv from rfl)
        have z1 := (cell_of Bx2.out 1).trans (show _ = some (Value.int .i64 (i : Int)) from rfl)
        obtain ⟨g, cap, ev, q0, q1, q2⟩ := Bos.cells Rw2.out (k := i) (by rw [seatsOf_length]; exact his)
        rw [seatsOf_length] at ev
        have hgf : ∀ k, w2.frozen? ⟨g, k, none⟩ = false := by
          rcases Rw2.out.2 with ⟨_, h0⟩ | ⟨g', c', cur, e, _, q1, _⟩
          · rw [seatsOf_length] at h0; omega
          · rw [ev] at e
            obtain ⟨e1, _, _⟩ := Value.slice.inj e
            obtain rfl : g = g' := by simpa using e1
            exact free_of q1
        have y0 := hgf (i * 3); have y1 := hgf (i * 3 + 1); have y2 := hgf (i * 3 + 2)
        have hrow : Bos (((w2.setCell ⟨g, i * 3, none⟩ (.int .u32 0)).setCell ⟨g, i * 3 + 1, none⟩ (.int .i64 0)).setCell ⟨g, i * 3 + 2, none⟩ (.int .i64 0)) (.slice (some ⟨g, 0, none⟩) b.seats cap) ((seatsOf b.seats b.L).set i (0, 0, 0)) :=
          Bos.put (w := w2) (n := b.seats) (g := g) (cap := cap) (by rw [← ev]; exact Rw2.out) (p := i) (by rw [seatsOf_length]; exact his) (0, 0, 0)
        rw [ev] at c8
        have hgS : p.sv.ownBlock = some g := by rw [ev]; rfl
        have fs : Fr (fun x => x = g) w2 (((w2.setCell ⟨g, i * 3, none⟩ (.int .u32 0)).setCell ⟨g, i * 3 + 1, none⟩ (.int .i64 0)).setCell ⟨g, i * 3 + 2, none⟩ (.int .i64 0)) :=
          (((Fr.refl (fun y => y = g) _).setCell (p := ⟨g, i * 3, none⟩) (fun _ => rfl) _).setCell (p := ⟨g, i * 3 + 1, none⟩) (fun _ => rfl) _).setCell (p := ⟨g, i * 3 + 2, none⟩) (fun _ => rfl) _
        obtain ⟨w3, hw3⟩ : ∃ w3, w3 = (((w2.setCell ⟨g, i * 3, none⟩ (.int .u32 0)).setCell ⟨g, i * 3 + 1, none⟩ (.int .i64 0)).setCell ⟨g, i * 3 + 2, none⟩ (.int .i64 0)) := ⟨_, rfl⟩
        rw [← hw3] at hrow fs
        have fl3 : Fr (fun x => lab x = 3) w2 w3 := fs.mono (fun x _ hx => by rw [hx]; exact HL.out.l3 g hgS)
        have Hev := Lib.hid ev; have HgS := Lib.hid hgS; have Hrow := Lib.hid hrow; have Fs := Lib.hid fs; have Fl3 := Lib.hid fl3
        have Hd3 := Lib.hid (HL.out.head fl3 (by decide) Hd2.out)
        have hb3 := fl3.get Bx2.out (fun e => by rw [Hz9.out] at e; cases e)
        have St3 := Lib.hid (HL.out.set fl3 (by decide) Hst.out)
        have hsi : (i : Int) < (b.seats : Int) := by omega
        clear ev hgf hrow fs fl3 hgS
        go_upto_region 8 with fail
        go_still_tail 8, (by kernel_rfl)
        go_upto_region 9 with fail
        rw [← hw3]
        clear hw3 c8 z1 q0 q1 q2 y0 y1 y2
        have z1 := (cell_of hb3 1).trans (show _ = some (Value.int .i64 (i : Int)) from rfl)
        have yz := free_of hb3 1
        have fz : Fr (fun x => x = z) w3 (w3.setCell ⟨z, 1, none⟩ (.int .i64 (j : Int))) := Fr.setCell (F := fun x => x = z) (p := ⟨z, 1, none⟩) (Fr.refl _ _) (fun _ => rfl) _
        have hb4 := setCell_blk (o := 1) hb3 (.int .i64 (j : Int))
        obtain ⟨w4, hw4⟩ : ∃ w4, w4 = w3.setCell ⟨z, 1, none⟩ (.int .i64 (j : Int)) := ⟨_, rfl⟩
        rw [← hw4] at fz hb4
        have hb4 : w4.heap[z]? = some (.cells #[.int .u32 (xi : Int), .int .i64 (j : Int), .int .i64 xt] 68 (0, 0)) := by simpa using hb4
        have fl4 : Fr (fun x => lab x = 9) w3 w4 := fz.mono (fun x _ hx => by rw [hx]; exact Hz9.out)
        have Fz := Lib.hid fz; have Hb4 := Lib.hid hb4; have Fl4 := Lib.hid fl4
        have Hd4 := Lib.hid (HL.out.head fl4 (by decide) Hd3.out)
        have St4 := HL.out.set fl4 (by decide) St3.out
        have HS := Lib.hid (put_in (St4.fr (Fr.drew (Fr.refl (fun _ => False) _)) (fun h => h) (fun _ _ h => h)) (fun e => (HL.out.l1v _ e).2 rfl) (j := j) (by rw [List.length_set, takenOf_length]; exact hjs))
        rw [← HT.out] at HS
        have c6 := (cell_of Hd4.out 6).trans (show _ = some (Value.pointer (some ⟨p.tp, 0, none⟩)) from rfl)
        clear hb3 fz hb4 fl4 St4
        go_upto_region 10 with fail
        rw [← hw4]
        clear hw4 z1 yz
        go_wp2_with fail
        refine HS.out.mono ?_
        rintro e w5 ⟨rfl, hst5, f5⟩
        have fl5 : Fr (fun x => lab x = 1) w4 w5 := (Fr.undrew f5).mono (fun x _ hx => (HL.out.l1v x hx).1)
        have F5 := Lib.hid (Fr.undrew f5); have Fl5 := Lib.hid fl5; have Hst5 := Lib.hid hst5
        have Hd5 := Lib.hid (HL.out.head fl5 (by decide) Hd4.out)
        have Rw5 := Lib.hid (HL.out.row fl5 (by decide) (HL.out.row Fl4.out (by decide) (show Bos w3 p.sv _ by rw [Hev.out]; exact Hrow.out)))
        have Bx5 := Lib.hid (fl5.get Hb4.out (fun e => by rw [Hz9.out] at e; cases e))
        clear hst5 f5 fl5 HS c6
        have c8 := (cell_of Hd5.out 8).trans (show _ = some p.sv from rfl)
        obtain ⟨x0, x1, x2⟩ := box_bo (x := (xi, (j : Int), xt)) Bx5.out
        have hl5 : ((seatsOf b.seats b.L).set i (0, 0, 0)).length = b.seats := by rw [List.length_set, seatsOf_length]
        obtain ⟨g', cap', ev', q0, q1, q2⟩ := Bos.cells Rw5.out (k := j) (by rw [hl5]; exact hjs)
        rw [Hev.out] at ev'
        obtain ⟨e1, e9, e3⟩ := Value.slice.inj ev'
        obtain rfl : g = g' := by simpa using e1
        obtain rfl := e3
        have hgf : ∀ k, w5.frozen? ⟨g, k, none⟩ = false := by
          rcases Rw5.out.2 with ⟨_, h0⟩ | ⟨g', c', cur, e, _, q1, _⟩
          · rw [hl5] at h0; omega
          · rw [Hev.out] at e
            obtain ⟨e1, _, _⟩ := Value.slice.inj e
            obtain rfl : g = g' := by simpa using e1
            exact free_of q1
        have y0 := hgf (j * 3); have y1 := hgf (j * 3 + 1); have y2 := hgf (j * 3 + 2)
        have hrow : Bos (((w5.setCell ⟨g, j * 3, none⟩ (.int .u32 (xi : Int))).setCell ⟨g, j * 3 + 1, none⟩ (.int .i64 (j : Int))).setCell ⟨g, j * 3 + 2, none⟩ (.int .i64 xt)) (.slice (some ⟨g, 0, none⟩) b.seats cap) (((seatsOf b.seats b.L).set i (0, 0, 0)).set j (xi, (j : Int), xt)) :=
          Bos.put (w := w5) (n := b.seats) (g := g) (cap := cap) (by rw [← Hev.out]; exact Rw5.out) (p := j) (by rw [hl5]; exact hjs) (xi, (j : Int), xt)
        rw [← HM.out] at hrow
        rw [Hev.out] at c8
        have fs : Fr (fun x => x = g) w5 (((w5.setCell ⟨g, j * 3, none⟩ (.int .u32 (xi : Int))).setCell ⟨g, j * 3 + 1, none⟩ (.int .i64 (j : Int))).setCell ⟨g, j * 3 + 2, none⟩ (.int .i64 xt)) :=
          (((Fr.refl (fun y => y = g) _).setCell (p := ⟨g, j * 3, none⟩) (fun _ => rfl) _).setCell (p := ⟨g, j * 3 + 1, none⟩) (fun _ => rfl) _).setCell (p := ⟨g, j * 3 + 2, none⟩) (fun _ => rfl) _
        obtain ⟨w6, hw6⟩ : ∃ w6, w6 = (((w5.setCell ⟨g, j * 3, none⟩ (.int .u32 (xi : Int))).setCell ⟨g, j * 3 + 1, none⟩ (.int .i64 (j : Int))).setCell ⟨g, j * 3 + 2, none⟩ (.int .i64 xt)) := ⟨_, rfl⟩
        rw [← hw6] at hrow fs
        have fl6 : Fr (fun x => lab x = 3) w5 w6 := fs.mono (fun x _ hx => by rw [hx]; exact HL.out.l3 g HgS.out)
        have Fs6 := Lib.hid fs; have Fl6 := Lib.hid fl6; have Hrow6 := Lib.hid hrow
        have Hd6 := Lib.hid (HL.out.head fl6 (by decide) Hd5.out)
        have hb6 := fl6.get Bx5.out (fun e => by rw [Hz9.out] at e; cases e)
        have ix6 := HL.out.idx Fl6.out (by decide) (HL.out.idx Fl5.out (by decide) (HL.out.idx Fl4.out (by decide) (HL.out.idx Fl3.out (by decide) (HL.out.idx Fl2.out (by decide) HB.out.idx))))
        have hjs' : (j : Int) < (b.seats : Int) := by omega
        obtain ⟨u0, t0⟩ : ∃ u, w5.cell? ⟨g, j * 3, none⟩ = some u := ⟨_, q0⟩
        obtain ⟨u1, t1⟩ : ∃ u, w5.cell? ⟨g, j * 3 + 1, none⟩ = some u := ⟨_, q1⟩
        obtain ⟨u2, t2⟩ : ∃ u, w5.cell? ⟨g, j * 3 + 2, none⟩ = some u := ⟨_, q2⟩
        clear ev' hgf hrow fs fl6 e1 q0 q1 q2 hl5 e9
        go_upto_region 11 with fail
        go_still_tail 7, (by kernel_rfl)
        go_upto_region 12 with fail
        rw [← hw6]
        clear hw6 c8 t0 t1 t2 y0 y1 y2 x0 x1 x2
        obtain ⟨v6, hv6⟩ : ∃ v6, v6 = w6.drew := ⟨_, rfl⟩
        rw [← hv6]
        have c7 : v6.cell? ⟨bb, 7, none⟩ = some (.pointer (some ⟨p.ip, 0, none⟩)) := by rw [hv6]; exact (cell_of Hd6.out 7).trans rfl
        have z0 : v6.cell? ⟨z, 0, none⟩ = some (.int .u32 (xi : Int)) := by rw [hv6]; exact (cell_of hb6 0).trans rfl
        have fv : Fr (fun _ => False) w6 v6 := by rw [hv6]; exact Fr.drew (Fr.refl _ _)
        have HI := Lib.hid (Ix.set_ok (ix6.fr (fv.drew) (fun h => h) (fun h => h)) (id := xi) hxi (j : Int))
        rw [ids_move] at HI
        have FV := Lib.hid fv
        clear hv6 ix6 fv
        clear hb6
        go_still_tail 7, (by kernel_rfl)
        go_wp2_with fail
        refine HI.out.mono ?_
        rintro e w7 ⟨st', _, rfl, hix, f7⟩
        have f7' := (FV.out.mono (fun _ _ h => h.elim) : Fr (fun x => x = p.ip ∨ x = p.ig) w6 v6).trans (Fr.undrew f7) (fun _ _ h => h)
        have fl7 : Fr (fun x => lab x = 2) w6 w7 := f7'.mono (fun x _ hx => by rcases hx with rfl | rfl; exact HL.out.l2; exact HL.out.l2g)
        have ff : Fr (p.own bb) w w7 := ((((((F0.out.mono (fun _ _ h => h.elim) : Fr (p.own bb) w W).trans F2.out (fun x _ hx => Pt.ownT hx)).trans Fs.out (fun x _ hx => by rw [hx]; exact Pt.ownS HgS.out)).trans Fz.out (fun x hx e => by have := HZ.out; omega)).trans F5.out (fun x _ hx => Pt.ownT hx)).trans Fs6.out (fun x _ hx => by rw [hx]; exact Pt.ownS HgS.out)).trans f7' (fun x _ hx => Pt.ownI hx)
        have hfin := Lib.hid (show Aft p bb { b with L := bMove b.L xi (j : Int) } w w7 from
          ⟨_, HL.out.build (b' := { b with L := bMove b.L xi (j : Int) }) (LS' := bMove b.L xi (j : Int)) (LD' := bMove b.L xi (j : Int)) H9.out (HL.out.head fl7 (by decide) Hd6.out) (HL.out.set fl7 (by decide) (HL.out.set Fl6.out (by decide) Hst5.out)) hix (HL.out.row fl7 (by decide) (by rw [Hev.out]; exact Hrow6.out))
            (HL.out.heap fl7 (by decide) (HL.out.heap Fl6.out (by decide) (HL.out.heap Fl5.out (by decide) (HL.out.heap Fl4.out (by decide) (HL.out.heap Fl3.out (by decide) (HL.out.heap Fl2.out (by decide) HB.out.heap))))))
            (HL.out.map fl7 (by decide) (HL.out.map Fl6.out (by decide) (HL.out.map Fl5.out (by decide) (HL.out.map Fl4.out (by decide) (HL.out.map Fl3.out (by decide) (HL.out.map Fl2.out (by decide) HB.out.map))))))
            (H.out.due.same (dueOf_move b.L xi (j : Int)).symm) H.out.nh Hraw.out (fun x hx => .inl hx), ff, Pt.re_own (fun x hx => .inl hx)⟩)
        clear hix f7 f7' fl7 ff c7 z0
        go_wp2_with fail
        go_ret
        exact ⟨rfl, hfin.out⟩
end Go.Proofs.YtffnjnnmlfgngaaGreat.Bk
namespace Go.Proofs.YtffnjnnmlfgngaaGreat.Bk
open Go.RowKit
set_option maxRecDepth 100000 in
theorem within_no (n a b : Int) (w : World) : Calls Tryz.prog 107 #[.bool false, .int .i64 n, .int .i64 a, .int .i64 b] w fun e w' => e = .returned (.bool (n == 0)) ∧ w = w' := by
  go_enter Tryz.func107, Tryz.ntmps107
  go_wp2_with fail
  go_ret
  exact ⟨rfl, rfl⟩
set_option maxRecDepth 100000 in
theorem within_yes (n a b : Int) (w : World) : Calls Tryz.prog 107 #[.bool true, .int .i64 n, .int .i64 a, .int .i64 b] w fun e w' => e = .returned (.bool (decide (a ≤ n) && decide (n ≤ b))) ∧ w = w' := by
  by_cases h : a ≤ n
  · have h1 : decide (a ≤ n) = true := by simpa using h
    rw [h1, Bool.true_and]
    clear h
    go_enter Tryz.func107, Tryz.ntmps107
    go_wp2_with fail
    go_ret
    exact ⟨rfl, rfl⟩
  · have h1 : decide (a ≤ n) = false := by simpa using h
    rw [h1, Bool.false_and]
    clear h
    go_enter Tryz.func107, Tryz.ntmps107
    go_wp2_with fail
    go_ret
    exact ⟨rfl, rfl⟩
abbrev shpV (a b c d : Bool) : Value := .agg #[.bool a, .bool b, .bool c, .bool d]
theorem wpList_build_at {P : Program} {ops : Array Oper} {Q : Exit → Act → World → Prop} {rest : List Oper} {o : Oper} {a : Act} {w : World} {t : TypeId} {parts : Array (Nat × Operand)} (vals : List (Nat × Value)) {cells : Array Value} (hgd : o.guard = none)
    (ho : o.op = .build t parts) (hp : parts.toList.map (fun (i, x) => (i, a.eval x)) = vals) (hc : P.built t vals = some cells) (h : wpList P ops Q rest (a.put o.dst (.agg cells)) w) : wpList P ops Q (o :: rest) a w :=
  wpList_plain hgd fun K hK => by
    unfold Oper.wp execOp
    have hc' : P.built t (parts.map (fun (i, x) => (i, a.eval x))).toList = some cells := by rw [Array.toList_map, hp]; exact hc
    simp only [ho, Sem.run_bind, run_build w t _ cells hc', Result.andThen_ok]
    exact hK _ _ h
theorem of_y (w : World) (A : Obj) (old cs : Array Value) (t : TypeId) : (((w.alloc A).alloc (.cells old t)).setRow (w.heap.size + 1) cs).heap[w.heap.size + 1]? = some (.cells cs t (0, 0)) := setRow_heap _ _ old cs t (0, 0) (heap_alloc2_new _ _ _)
theorem of_z (w : World) (A B : Obj) (cs : Array Value) : (((w.alloc A).alloc B).setRow (w.heap.size + 1) cs).heap[w.heap.size]? = some A := by
  rw [setRow_other _ _ _ _ (by omega)]; exact heap_alloc2_old _ _ _
theorem of_fr (w : World) (A B : Obj) (cs : Array Value) : Fr (fun _ => False) w (((w.alloc A).alloc B).setRow (w.heap.size + 1) cs) :=
  ⟨rfl, rfl, rfl, by simp [World.setRow, Array.size_modify]; omega, fun k hk _ => by rw [setRow_other _ _ _ _ (by omega)]; exact (heap_alloc_old _ _ k (by simp; omega)).trans (heap_alloc_old _ _ k hk)⟩
theorem built6 : Tryz.prog.built 213 ([(1, shpV true true true false), (2, shpV true false false false), (3, shpV true false false false), (4, shpV true true false false), (5, shpV false false false true)] : List (Nat × Value)) = some #[.bool false, .bool false, .bool false, .bool false, .bool true, .bool true, .bool true, .bool false, .bool true, .bool false, .bool false, .bool false, .bool true, .bool false, .bool false, .bool false, .bool true, .bool true, .bool false, .bool false, .bool false, .bool false, .bool false, .bool true] := by kernel_rfl
set_option maxRecDepth 100000 in
set_option maxHeartbeats 1000000 in
theorem of_1 (w : World) : Calls Tryz.prog 106 #[.int .i64 1] w fun e w' => e = .returned (.tuple #[shpV true true true false, .bool true]) ∧ Fr (fun _ => False) w w' := by
  obtain ⟨W, hW⟩ : ∃ W, W = ((w.alloc (.cells #[.bool false, .bool false, .bool false, .bool false] 187)).alloc (.cells #[.bool false, .bool false, .bool false, .bool false, .bool false, .bool false, .bool false, .bool false, .bool false, .bool false, .bool false, .bool false, .bool false, .bool false, .bool false, .bool false, .bool false, .bool false, .bool false, .bool false, .bool false, .bool false, .bool false, .bool false] 213)).setRow (w.heap.size + 1) #[.bool false, .bool false, .bool false, .bool false, .bool true, .bool true, .bool true, .bool false, .bool true, .bool false, .bool false, .bool false, .bool true, .bool false, .bool false, .bool false, .bool true, .bool true, .bool false, .bool false, .bool false, .bool false, .bool false, .bool true] := ⟨_, rfl⟩
  obtain ⟨z, hz⟩ : ∃ z, z = w.heap.size := ⟨_, rfl⟩
  have f0 : Fr (fun _ => False) w W := by rw [hW]; exact of_fr w _ _ _
  have hg : W.heap[z]? = some (.cells #[.bool false, .bool false, .bool false, .bool false] 187 (0, 0)) := by rw [hW, hz]; exact of_z w _ _ _
  have hy : W.heap[z + 1]? = some (.cells #[.bool false, .bool false, .bool false, .bool false, .bool true, .bool true, .bool true, .bool false, .bool true, .bool false, .bool false, .bool false, .bool true, .bool false, .bool false, .bool false, .bool true, .bool true, .bool false, .bool false, .bool false, .bool false, .bool false, .bool true] 213 (0, 0)) := by rw [hW, hz]; exact of_y w _ _ _ _
  have v0 := (cell_of hy 4).trans (show _ = some (Value.bool true) from rfl)
  have d0 := (cell_of hg 0).trans (show _ = some (Value.bool false) from rfl)
  have y0 := free_of hg 0
  have v1 := (cell_of hy 5).trans (show _ = some (Value.bool true) from rfl)
  have d1 := (cell_of hg 1).trans (show _ = some (Value.bool false) from rfl)
  have y1 := free_of hg 1
  have v2 := (cell_of hy 6).trans (show _ = some (Value.bool true) from rfl)
  have d2 := (cell_of hg 2).trans (show _ = some (Value.bool false) from rfl)
  have y2 := free_of hg 2
  have v3 := (cell_of hy 7).trans (show _ = some (Value.bool false) from rfl)
  have d3 := (cell_of hg 3).trans (show _ = some (Value.bool false) from rfl)
  have y3 := free_of hg 3
  have hfin := setCell_blk (o := 3) (setCell_blk (o := 2) (setCell_blk (o := 1) (setCell_blk (o := 0) hg (.bool true)) (.bool true)) (.bool true)) (.bool false)
  have e0 := (cell_of hfin 0).trans (show _ = some (Value.bool true) from rfl)
  have e1 := (cell_of hfin 1).trans (show _ = some (Value.bool true) from rfl)
  have e2 := (cell_of hfin 2).trans (show _ = some (Value.bool true) from rfl)
  have e3 := (cell_of hfin 3).trans (show _ = some (Value.bool false) from rfl)
  have Ff := Lib.hid (show Fr (fun _ => False) w ((((W.setCell ⟨z, 0, none⟩ (.bool true)).setCell ⟨z, 1, none⟩ (.bool true)).setCell ⟨z, 2, none⟩ (.bool true)).setCell ⟨z, 3, none⟩ (.bool false)) from
    (((f0.setCell (p := ⟨z, 0, none⟩) (fun e => by simp at e; omega) _).setCell (p := ⟨z, 1, none⟩) (fun e => by simp at e; omega) _).setCell (p := ⟨z, 2, none⟩) (fun e => by simp at e; omega) _).setCell (p := ⟨z, 3, none⟩) (fun e => by simp at e; omega) _)
  clear f0 hg hy hfin
  go_enter Tryz.func106, Tryz.ntmps106
  go_upto_region 2 with (first | refine wpList_build_at [(1, shpV true true true false), (2, shpV true false false false), (3, shpV true false false false), (4, shpV true true false false), (5, shpV false false false true)] (t := 213) (parts := #[(1, .tmp 5), (2, .tmp 6), (3, .tmp 7), (4, .tmp 8), (5, .tmp 9)]) rfl rfl rfl built6 ?_ | refine wpList_store_row rfl 213 (.tmp 4) (.tmp 10) rfl (w.heap.size + 1) #[.bool false, .bool false, .bool false, .bool false, .bool true, .bool true, .bool true, .bool false, .bool true, .bool false, .bool false, .bool false, .bool true, .bool false, .bool false, .bool false, .bool true, .bool true, .bool false, .bool false, .bool false, .bool false, .bool false, .bool true] rfl rfl 213 #[.bool false, .bool false, .bool false, .bool false, .bool false, .bool false, .bool false, .bool false, .bool false, .bool false, .bool false, .bool false, .bool false, .bool false, .bool false, .bool false, .bool false, .bool false, .bool false, .bool false, .bool false, .bool false, .bool false, .bool false] (heap_alloc2_new _ _ _) (by kernel_rfl) (by kernel_rfl) (by kernel_rfl) ?_)
  rw [← hW, ← hz]
  clear hW hz
  go_wp2_with fail
  refine bodyPost_ret (v := .tuple #[shpV true true true false, .bool true]) ?_ rfl ⟨rfl, Ff.out⟩
  simp [results, Tryz.f106, go_sem, e0, e1, e2, e3]
set_option maxRecDepth 100000 in
set_option maxHeartbeats 1000000 in
theorem of_2 (w : World) : Calls Tryz.prog 106 #[.int .i64 2] w fun e w' => e = .returned (.tuple #[shpV true false false false, .bool true]) ∧ Fr (fun _ => False) w w' := by
  obtain ⟨W, hW⟩ : ∃ W, W = ((w.alloc (.cells #[.bool false, .bool false, .bool false, .bool false] 187)).alloc (.cells #[.bool false, .bool false, .bool false, .bool false, .bool false, .bool false, .bool false, .bool false, .bool false, .bool false, .bool false, .bool false, .bool false, .bool false, .bool false, .bool false, .bool false, .bool false, .bool false, .bool false, .bool false, .bool false, .bool false, .bool false] 213)).setRow (w.heap.size + 1) #[.bool false, .bool false, .bool false, .bool false, .bool true, .bool true, .bool true, .bool false, .bool true, .bool false, .bool false, .bool false, .bool true, .bool false, .bool false, .bool false, .bool true, .bool true, .bool false, .bool false, .bool false, .bool false, .bool false, .bool true] := ⟨_, rfl⟩
  obtain ⟨z, hz⟩ : ∃ z, z = w.heap.size := ⟨_, rfl⟩
  have f0 : Fr (fun _ => False) w W := by rw [hW]; exact of_fr w _ _ _
  have hg : W.heap[z]? = some (.cells #[.bool false, .bool false, .bool false, .bool false] 187 (0, 0)) := by rw [hW, hz]; exact of_z w _ _ _
  have hy : W.heap[z + 1]? = some (.cells #[.bool false, .bool false, .bool false, .bool false, .bool true, .bool true, .bool true, .bool false, .bool true, .bool false, .bool false, .bool false, .bool true, .bool false, .bool false, .bool false, .bool true, .bool true, .bool false, .bool false, .bool false, .bool false, .bool false, .bool true] 213 (0, 0)) := by rw [hW, hz]; exact of_y w _ _ _ _
  have v0 := (cell_of hy 8).trans (show _ = some (Value.bool true) from rfl)
  have d0 := (cell_of hg 0).trans (show _ = some (Value.bool false) from rfl)
  have y0 := free_of hg 0
  have v1 := (cell_of hy 9).trans (show _ = some (Value.bool false) from rfl)
  have d1 := (cell_of hg 1).trans (show _ = some (Value.bool false) from rfl)
  have y1 := free_of hg 1
  have v2 := (cell_of hy 10).trans (show _ = some (Value.bool false) from rfl)
  have d2 := (cell_of hg 2).trans (show _ = some (Value.bool false) from rfl)
  have y2 := free_of hg 2
  have v3 := (cell_of hy 11).trans (show _ = some (Value.bool false) from rfl)
  have d3 := (cell_of hg 3).trans (show _ = some (Value.bool false) from rfl)
  have y3 := free_of hg 3
  have hfin := setCell_blk (o := 3) (setCell_blk (o := 2) (setCell_blk (o := 1) (setCell_blk (o := 0) hg (.bool true)) (.bool false)) (.bool false)) (.bool false)
  have e0 := (cell_of hfin 0).trans (show _ = some (Value.bool true) from rfl)
  have e1 := (cell_of hfin 1).trans (show _ = some (Value.bool false) from rfl)
  have e2 := (cell_of hfin 2).trans (show _ = some (Value.bool false) from rfl)
  have e3 := (cell_of hfin 3).trans (show _ = some (Value.bool false) from rfl)
  have Ff := Lib.hid (show Fr (fun _ => False) w ((((W.setCell ⟨z, 0, none⟩ (.bool true)).setCell ⟨z, 1, none⟩ (.bool false)).setCell ⟨z, 2, none⟩ (.bool false)).setCell ⟨z, 3, none⟩ (.bool false)) from
    (((f0.setCell (p := ⟨z, 0, none⟩) (fun e => by simp at e; omega) _).setCell (p := ⟨z, 1, none⟩) (fun e => by simp at e; omega) _).setCell (p := ⟨z, 2, none⟩) (fun e => by simp at e; omega) _).setCell (p := ⟨z, 3, none⟩) (fun e => by simp at e; omega) _)
  clear f0 hg hy hfin
  go_enter Tryz.func106, Tryz.ntmps106
  go_upto_region 2 with (first | refine wpList_build_at [(1, shpV true true true false), (2, shpV true false false false), (3, shpV true false false false), (4, shpV true true false false), (5, shpV false false false true)] (t := 213) (parts := #[(1, .tmp 5), (2, .tmp 6), (3, .tmp 7), (4, .tmp 8), (5, .tmp 9)]) rfl rfl rfl built6 ?_ | refine wpList_store_row rfl 213 (.tmp 4) (.tmp 10) rfl (w.heap.size + 1) #[.bool false, .bool false, .bool false, .bool false, .bool true, .bool true, .bool true, .bool false, .bool true, .bool false, .bool false, .bool false, .bool true, .bool false, .bool false, .bool false, .bool true, .bool true, .bool false, .bool false, .bool false, .bool false, .bool false, .bool true] rfl rfl 213 #[.bool false, .bool false, .bool false, .bool false, .bool false, .bool false, .bool false, .bool false, .bool false, .bool false, .bool false, .bool false, .bool false, .bool false, .bool false, .bool false, .bool false, .bool false, .bool false, .bool false, .bool false, .bool false, .bool false, .bool false] (heap_alloc2_new _ _ _) (by kernel_rfl) (by kernel_rfl) (by kernel_rfl) ?_)
  rw [← hW, ← hz]
  clear hW hz
  go_wp2_with fail
  refine bodyPost_ret (v := .tuple #[shpV true false false false, .bool true]) ?_ rfl ⟨rfl, Ff.out⟩
  simp [results, Tryz.f106, go_sem, e0, e1, e2, e3]
set_option maxRecDepth 100000 in
set_option maxHeartbeats 1000000 in
theorem of_3 (w : World) : Calls Tryz.prog 106 #[.int .i64 3] w fun e w' => e = .returned (.tuple #[shpV true false false false, .bool true]) ∧ Fr (fun _ => False) w w' := by
  obtain ⟨W, hW⟩ : ∃ W, W = ((w.alloc (.cells #[.bool false, .bool false, .bool false, .bool false] 187)).alloc (.cells #[.bool false, .bool false, .bool false, .bool false, .bool false, .bool false, .bool false, .bool false, .bool false, .bool false, .bool false, .bool false, .bool false, .bool false, .bool false, .bool false, .bool false, .bool false, .bool false, .bool false, .bool false, .bool false, .bool false, .bool false] 213)).setRow (w.heap.size + 1) #[.bool false, .bool false, .bool false, .bool false, .bool true, .bool true, .bool true, .bool false, .bool true, .bool false, .bool false, .bool false, .bool true, .bool false, .bool false, .bool false, .bool true, .bool true, .bool false, .bool false, .bool false, .bool false, .bool false, .bool true] := ⟨_, rfl⟩
  obtain ⟨z, hz⟩ : ∃ z, z = w.heap.size := ⟨_, rfl⟩
  have f0 : Fr (fun _ => False) w W := by rw [hW]; exact of_fr w _ _ _
  have hg : W.heap[z]? = some (.cells #[.bool false, .bool false, .bool false, .bool false] 187 (0, 0)) := by rw [hW, hz]; exact of_z w _ _ _
  have hy : W.heap[z + 1]? = some (.cells #[.bool false, .bool false, .bool false, .bool false, .bool true, .bool true, .bool true, .bool false, .bool true, .bool false, .bool false, .bool false, .bool true, .bool false, .bool false, .bool false, .bool true, .bool true, .bool false, .bool false, .bool false, .bool false, .bool false, .bool true] 213 (0, 0)) := by rw [hW, hz]; exact of_y w _ _ _ _
  have v0 := (cell_of hy 12).trans (show _ = some (Value.bool true) from rfl)
  have d0 := (cell_of hg 0).trans (show _ = some (Value.bool false) from rfl)
  have y0 := free_of hg 0
  have v1 := (cell_of hy 13).trans (show _ = some (Value.bool false) from rfl)
  have d1 := (cell_of hg 1).trans (show _ = some (Value.bool false) from rfl)
  have y1 := free_of hg 1
  have v2 := (cell_of hy 14).trans (show _ = some (Value.bool false) from rfl)
  have d2 := (cell_of hg 2).trans (show _ = some (Value.bool false) from rfl)
  have y2 := free_of hg 2
  have v3 := (cell_of hy 15).trans (show _ = some (Value.bool false) from rfl)
  have d3 := (cell_of hg 3).trans (show _ = some (Value.bool false) from rfl)
  have y3 := free_of hg 3
  have hfin := setCell_blk (o := 3) (setCell_blk (o := 2) (setCell_blk (o := 1) (setCell_blk (o := 0) hg (.bool true)) (.bool false)) (.bool false)) (.bool false)
  have e0 := (cell_of hfin 0).trans (show _ = some (Value.bool true) from rfl)
  have e1 := (cell_of hfin 1).trans (show _ = some (Value.bool false) from rfl)
  have e2 := (cell_of hfin 2).trans (show _ = some (Value.bool false) from rfl)
  have e3 := (cell_of hfin 3).trans (show _ = some (Value.bool false) from rfl)
  have Ff := Lib.hid (show Fr (fun _ => False) w ((((W.setCell ⟨z, 0, none⟩ (.bool true)).setCell ⟨z, 1, none⟩ (.bool false)).setCell ⟨z, 2, none⟩ (.bool false)).setCell ⟨z, 3, none⟩ (.bool false)) from
    (((f0.setCell (p := ⟨z, 0, none⟩) (fun e => by simp at e; omega) _).setCell (p := ⟨z, 1, none⟩) (fun e => by simp at e; omega) _).setCell (p := ⟨z, 2, none⟩) (fun e => by simp at e; omega) _).setCell (p := ⟨z, 3, none⟩) (fun e => by simp at e; omega) _)
  clear f0 hg hy hfin
  go_enter Tryz.func106, Tryz.ntmps106
  go_upto_region 2 with (first | refine wpList_build_at [(1, shpV true true true false), (2, shpV true false false false), (3, shpV true false false false), (4, shpV true true false false), (5, shpV false false false true)] (t := 213) (parts := #[(1, .tmp 5), (2, .tmp 6), (3, .tmp 7), (4, .tmp 8), (5, .tmp 9)]) rfl rfl rfl built6 ?_ | refine wpList_store_row rfl 213 (.tmp 4) (.tmp 10) rfl (w.heap.size + 1) #[.bool false, .bool false, .bool false, .bool false, .bool true, .bool true, .bool true, .bool false, .bool true, .bool false, .bool false, .bool false, .bool true, .bool false, .bool false, .bool false, .bool true, .bool true, .bool false, .bool false, .bool false, .bool false, .bool false, .bool true] rfl rfl 213 #[.bool false, .bool false, .bool false, .bool false, .bool false, .bool false, .bool false, .bool false, .bool false, .bool false, .bool false, .bool false, .bool false, .bool false, .bool false, .bool false, .bool false, .bool false, .bool false, .bool false, .bool false, .bool false, .bool false, .bool false] (heap_alloc2_new _ _ _) (by kernel_rfl) (by kernel_rfl) (by kernel_rfl) ?_)
  rw [← hW, ← hz]
  clear hW hz
  go_wp2_with fail
  refine bodyPost_ret (v := .tuple #[shpV true false false false, .bool true]) ?_ rfl ⟨rfl, Ff.out⟩
  simp [results, Tryz.f106, go_sem, e0, e1, e2, e3]
set_option maxRecDepth 100000 in
set_option maxHeartbeats 1000000 in
theorem of_4 (w : World) : Calls Tryz.prog 106 #[.int .i64 4] w fun e w' => e = .returned (.tuple #[shpV true true false false, .bool true]) ∧ Fr (fun _ => False) w w' := by
  obtain ⟨W, hW⟩ : ∃ W, W = ((w.alloc (.cells #[.bool false, .bool false, .bool false, .bool false] 187)).alloc (.cells #[.bool false, .bool false, .bool false, .bool false, .bool false, .bool false, .bool false, .bool false, .bool false, .bool false, .bool false, .bool false, .bool false, .bool false, .bool false, .bool false, .bool false, .bool false, .bool false, .bool false, .bool false, .bool false, .bool false, .bool false] 213)).setRow (w.heap.size + 1) #[.bool false, .bool false, .bool false, .bool false, .bool true, .bool true, .bool true, .bool false, .bool true, .bool false, .bool false, .bool false, .bool true, .bool false, .bool false, .bool false, .bool true, .bool true, .bool false, .bool false, .bool false, .bool false, .bool false, .bool true] := ⟨_, rfl⟩
  obtain ⟨z, hz⟩ : ∃ z, z = w.heap.size := ⟨_, rfl⟩
  have f0 : Fr (fun _ => False) w W := by rw [hW]; exact of_fr w _ _ _
  have hg : W.heap[z]? = some (.cells #[.bool false, .bool false, .bool false, .bool false] 187 (0, 0)) := by rw [hW, hz]; exact of_z w _ _ _
  have hy : W.heap[z + 1]? = some (.cells #[.bool false, .bool false, .bool false, .bool false, .bool true, .bool true, .bool true, .bool false, .bool true, .bool false, .bool false, .bool false, .bool true, .bool false, .bool false, .bool false, .bool true, .bool true, .bool false, .bool false, .bool false, .bool false, .bool false, .bool true] 213 (0, 0)) := by rw [hW, hz]; exact of_y w _ _ _ _
  have v0 := (cell_of hy 16).trans (show _ = some (Value.bool true) from rfl)
  have d0 := (cell_of hg 0).trans (show _ = some (Value.bool false) from rfl)
  have y0 := free_of hg 0
  have v1 := (cell_of hy 17).trans (show _ = some (Value.bool true) from rfl)
  have d1 := (cell_of hg 1).trans (show _ = some (Value.bool false) from rfl)
  have y1 := free_of hg 1
  have v2 := (cell_of hy 18).trans (show _ = some (Value.bool false) from rfl)
  have d2 := (cell_of hg 2).trans (show _ = some (Value.bool false) from rfl)
  have y2 := free_of hg 2
  have v3 := (cell_of hy 19).trans (show _ = some (Value.bool false) from rfl)
  have d3 := (cell_of hg 3).trans (show _ = some (Value.bool false) from rfl)
  have y3 := free_of hg 3
  have hfin := setCell_blk (o := 3) (setCell_blk (o := 2) (setCell_blk (o := 1) (setCell_blk (o := 0) hg (.bool true)) (.bool true)) (.bool false)) (.bool false)
  have e0 := (cell_of hfin 0).trans (show _ = some (Value.bool true) from rfl)
  have e1 := (cell_of hfin 1).trans (show _ = some (Value.bool true) from rfl)
  have e2 := (cell_of hfin 2).trans (show _ = some (Value.bool false) from rfl)
  have e3 := (cell_of hfin 3).trans (show _ = some (Value.bool false) from rfl)
  have Ff := Lib.hid (show Fr (fun _ => False) w ((((W.setCell ⟨z, 0, none⟩ (.bool true)).setCell ⟨z, 1, none⟩ (.bool true)).setCell ⟨z, 2, none⟩ (.bool false)).setCell ⟨z, 3, none⟩ (.bool false)) from
    (((f0.setCell (p := ⟨z, 0, none⟩) (fun e => by simp at e; omega) _).setCell (p := ⟨z, 1, none⟩) (fun e => by simp at e; omega) _).setCell (p := ⟨z, 2, none⟩) (fun e => by simp at e; omega) _).setCell (p := ⟨z, 3, none⟩) (fun e => by simp at e; omega) _)
  clear f0 hg hy hfin
  go_enter Tryz.func106, Tryz.ntmps106
  go_upto_region 2 with (first | refine wpList_build_at [(1, shpV true true true false), (2, shpV true false false false), (3, shpV true false false false), (4, shpV true true false false), (5, shpV false false false true)] (t := 213) (parts := #[(1, .tmp 5), (2, .tmp 6), (3, .tmp 7), (4, .tmp 8), (5, .tmp 9)]) rfl rfl rfl built6 ?_ | refine wpList_store_row rfl 213 (.tmp 4) (.tmp 10) rfl (w.heap.size + 1) #[.bool false, .bool false, .bool false, .bool false, .bool true, .bool true, .bool true, .bool false, .bool true, .bool false, .bool false, .bool false, .bool true, .bool false, .bool false, .bool false, .bool true, .bool true, .bool false, .bool false, .bool false, .bool false, .bool false, .bool true] rfl rfl 213 #[.bool false, .bool false, .bool false, .bool false, .bool false, .bool false, .bool false, .bool false, .bool false, .bool false, .bool false, .bool false, .bool false, .bool false, .bool false, .bool false, .bool false, .bool false, .bool false, .bool false, .bool false, .bool false, .bool false, .bool false] (heap_alloc2_new _ _ _) (by kernel_rfl) (by kernel_rfl) (by kernel_rfl) ?_)
  rw [← hW, ← hz]
  clear hW hz
  go_wp2_with fail
  refine bodyPost_ret (v := .tuple #[shpV true true false false, .bool true]) ?_ rfl ⟨rfl, Ff.out⟩
  simp [results, Tryz.f106, go_sem, e0, e1, e2, e3]
set_option maxRecDepth 100000 in
set_option maxHeartbeats 1000000 in
theorem of_5 (w : World) : Calls Tryz.prog 106 #[.int .i64 5] w fun e w' => e = .returned (.tuple #[shpV false false false true, .bool true]) ∧ Fr (fun _ => False) w w' := by
  obtain ⟨W, hW⟩ : ∃ W, W = ((w.alloc (.cells #[.bool false, .bool false, .bool false, .bool false] 187)).alloc (.cells #[.bool false, .bool false, .bool false, .bool false, .bool false, .bool false, .bool false, .bool false, .bool false, .bool false, .bool false, .bool false, .bool false, .bool false, .bool false, .bool false, .bool false, .bool false, .bool false, .bool false, .bool false, .bool false, .bool false, .bool false] 213)).setRow (w.heap.size + 1) #[.bool false, .bool false, .bool false, .bool false, .bool true, .bool true, .bool true, .bool false, .bool true, .bool false, .bool false, .bool false, .bool true, .bool false, .bool false, .bool false, .bool true, .bool true, .bool false, .bool false, .bool false, .bool false, .bool false, .bool true] := ⟨_, rfl⟩
  obtain ⟨z, hz⟩ : ∃ z, z = w.heap.size := ⟨_, rfl⟩
  have f0 : Fr (fun _ => False) w W := by rw [hW]; exact of_fr w _ _ _
  have hg : W.heap[z]? = some (.cells #[.bool false, .bool false, .bool false, .bool false] 187 (0, 0)) := by rw [hW, hz]; exact of_z w _ _ _
  have hy : W.heap[z + 1]? = some (.cells #[.bool false, .bool false, .bool false, .bool false, .bool true, .bool true, .bool true, .bool false, .bool true, .bool false, .bool false, .bool false, .bool true, .bool false, .bool false, .bool false, .bool true, .bool true, .bool false, .bool false, .bool false, .bool false, .bool false, .bool true] 213 (0, 0)) := by rw [hW, hz]; exact of_y w _ _ _ _
  have v0 := (cell_of hy 20).trans (show _ = some (Value.bool false) from rfl)
  have d0 := (cell_of hg 0).trans (show _ = some (Value.bool false) from rfl)
  have y0 := free_of hg 0
  have v1 := (cell_of hy 21).trans (show _ = some (Value.bool false) from rfl)
  have d1 := (cell_of hg 1).trans (show _ = some (Value.bool false) from rfl)
  have y1 := free_of hg 1
  have v2 := (cell_of hy 22).trans (show _ = some (Value.bool false) from rfl)
  have d2 := (cell_of hg 2).trans (show _ = some (Value.bool false) from rfl)
  have y2 := free_of hg 2
  have v3 := (cell_of hy 23).trans (show _ = some (Value.bool true) from rfl)
  have d3 := (cell_of hg 3).trans (show _ = some (Value.bool false) from rfl)
  have y3 := free_of hg 3
  have hfin := setCell_blk (o := 3) (setCell_blk (o := 2) (setCell_blk (o := 1) (setCell_blk (o := 0) hg (.bool false)) (.bool false)) (.bool false)) (.bool true)
  have e0 := (cell_of hfin 0).trans (show _ = some (Value.bool false) from rfl)
  have e1 := (cell_of hfin 1).trans (show _ = some (Value.bool false) from rfl)
  have e2 := (cell_of hfin 2).trans (show _ = some (Value.bool false) from rfl)
  have e3 := (cell_of hfin 3).trans (show _ = some (Value.bool true) from rfl)
  have Ff := Lib.hid (show Fr (fun _ => False) w ((((W.setCell ⟨z, 0, none⟩ (.bool false)).setCell ⟨z, 1, none⟩ (.bool false)).setCell ⟨z, 2, none⟩ (.bool false)).setCell ⟨z, 3, none⟩ (.bool true)) from
    (((f0.setCell (p := ⟨z, 0, none⟩) (fun e => by simp at e; omega) _).setCell (p := ⟨z, 1, none⟩) (fun e => by simp at e; omega) _).setCell (p := ⟨z, 2, none⟩) (fun e => by simp at e; omega) _).setCell (p := ⟨z, 3, none⟩) (fun e => by simp at e; omega) _)
  clear f0 hg hy hfin
  go_enter Tryz.func106, Tryz.ntmps106
  go_upto_region 2 with (first | refine wpList_build_at [(1, shpV true true true false), (2, shpV true false false false), (3, shpV true false false false), (4, shpV true true false false), (5, shpV false false false true)] (t := 213) (parts := #[(1, .tmp 5), (2, .tmp 6), (3, .tmp 7), (4, .tmp 8), (5, .tmp 9)]) rfl rfl rfl built6 ?_ | refine wpList_store_row rfl 213 (.tmp 4) (.tmp 10) rfl (w.heap.size + 1) #[.bool false, .bool false, .bool false, .bool false, .bool true, .bool true, .bool true, .bool false, .bool true, .bool false, .bool false, .bool false, .bool true, .bool false, .bool false, .bool false, .bool true, .bool true, .bool false, .bool false, .bool false, .bool false, .bool false, .bool true] rfl rfl 213 #[.bool false, .bool false, .bool false, .bool false, .bool false, .bool false, .bool false, .bool false, .bool false, .bool false, .bool false, .bool false, .bool false, .bool false, .bool false, .bool false, .bool false, .bool false, .bool false, .bool false, .bool false, .bool false, .bool false, .bool false] (heap_alloc2_new _ _ _) (by kernel_rfl) (by kernel_rfl) (by kernel_rfl) ?_)
  rw [← hW, ← hz]
  clear hW hz
  go_wp2_with fail
  refine bodyPost_ret (v := .tuple #[shpV false false false true, .bool true]) ?_ rfl ⟨rfl, Ff.out⟩
  simp [results, Tryz.f106, go_sem, e0, e1, e2, e3]
set_option maxRecDepth 100000 in
set_option maxHeartbeats 2000000 in
theorem of_none {k : Int} (h : k < 1 ∨ 5 < k) (w : World) : Calls Tryz.prog 106 #[.int .i64 k] w fun e w' => e = .returned (.tuple #[shpV false false false false, .bool false]) ∧ Fr (fun _ => False) w w' := by
  by_cases h1 : k < 1
  · have b1 : decide (k < 1) = true := by simpa using h1
    clear h h1
    obtain ⟨W, hW⟩ : ∃ W, W = ((w.alloc (.cells #[.bool false, .bool false, .bool false, .bool false] 187)).alloc (.cells #[.bool false, .bool false, .bool false, .bool false, .bool false, .bool false, .bool false, .bool false, .bool false, .bool false, .bool false, .bool false, .bool false, .bool false, .bool false, .bool false, .bool false, .bool false, .bool false, .bool false, .bool false, .bool false, .bool false, .bool false] 213)).setRow (w.heap.size + 1) #[.bool false, .bool false, .bool false, .bool false, .bool true, .bool true, .bool true, .bool false, .bool true, .bool false, .bool false, .bool false, .bool true, .bool false, .bool false, .bool false, .bool true, .bool true, .bool false, .bool false, .bool false, .bool false, .bool false, .bool true] := ⟨_, rfl⟩
    obtain ⟨z, hz⟩ : ∃ z, z = w.heap.size := ⟨_, rfl⟩
    have f0 : Fr (fun _ => False) w W := by rw [hW]; exact of_fr w _ _ _
    have hg : W.heap[z]? = some (.cells #[.bool false, .bool false, .bool false, .bool false] 187 (0, 0)) := by rw [hW, hz]; exact of_z w _ _ _
    have d0 := (cell_of hg 0).trans (show _ = some (Value.bool false) from rfl)
    have d1 := (cell_of hg 1).trans (show _ = some (Value.bool false) from rfl)
    have d2 := (cell_of hg 2).trans (show _ = some (Value.bool false) from rfl)
    have d3 := (cell_of hg 3).trans (show _ = some (Value.bool false) from rfl)
    have y0 := free_of hg 0; have y1 := free_of hg 1; have y2 := free_of hg 2; have y3 := free_of hg 3
    have hfin := setCell_blk (o := 3) (setCell_blk (o := 2) (setCell_blk (o := 1) (setCell_blk (o := 0) hg (.bool false)) (.bool false)) (.bool false)) (.bool false)
    have e0 := (cell_of hfin 0).trans (show _ = some (Value.bool false) from rfl)
    have e1 := (cell_of hfin 1).trans (show _ = some (Value.bool false) from rfl)
    have e2 := (cell_of hfin 2).trans (show _ = some (Value.bool false) from rfl)
    have e3 := (cell_of hfin 3).trans (show _ = some (Value.bool false) from rfl)
    have Ff := Lib.hid (show Fr (fun _ => False) w ((((W.setCell ⟨z, 0, none⟩ (.bool false)).setCell ⟨z, 1, none⟩ (.bool false)).setCell ⟨z, 2, none⟩ (.bool false)).setCell ⟨z, 3, none⟩ (.bool false)) from
      (((f0.setCell (p := ⟨z, 0, none⟩) (fun e => by simp at e; omega) _).setCell (p := ⟨z, 1, none⟩) (fun e => by simp at e; omega) _).setCell (p := ⟨z, 2, none⟩) (fun e => by simp at e; omega) _).setCell (p := ⟨z, 3, none⟩) (fun e => by simp at e; omega) _)
    clear f0 hg hfin
    go_enter Tryz.func106, Tryz.ntmps106
    go_upto_region 2 with (first | refine wpList_build_at [(1, shpV true true true false), (2, shpV true false false false), (3, shpV true false false false), (4, shpV true true false false), (5, shpV false false false true)] (t := 213) (parts := #[(1, .tmp 5), (2, .tmp 6), (3, .tmp 7), (4, .tmp 8), (5, .tmp 9)]) rfl rfl rfl built6 ?_ | refine wpList_store_row rfl 213 (.tmp 4) (.tmp 10) rfl (w.heap.size + 1) #[.bool false, .bool false, .bool false, .bool false, .bool true, .bool true, .bool true, .bool false, .bool true, .bool false, .bool false, .bool false, .bool true, .bool false, .bool false, .bool false, .bool true, .bool true, .bool false, .bool false, .bool false, .bool false, .bool false, .bool true] rfl rfl 213 #[.bool false, .bool false, .bool false, .bool false, .bool false, .bool false, .bool false, .bool false, .bool false, .bool false, .bool false, .bool false, .bool false, .bool false, .bool false, .bool false, .bool false, .bool false, .bool false, .bool false, .bool false, .bool false, .bool false, .bool false] (heap_alloc2_new _ _ _) (by kernel_rfl) (by kernel_rfl) (by kernel_rfl) ?_)
    rw [← hW, ← hz]
    clear hW hz
    go_wp2_with fail
    refine bodyPost_ret (v := .tuple #[shpV false false false false, .bool false]) ?_ rfl ⟨rfl, Ff.out⟩
    simp [results, Tryz.f106, go_sem, e0, e1, e2, e3]
  · have b1 : decide (k < 1) = false := by simpa using h1
    have h2 : 6 ≤ k := by omega
    have b2 : decide (6 ≤ k) = true := by simpa using h2
    clear h h1 h2
    obtain ⟨W, hW⟩ : ∃ W, W = ((w.alloc (.cells #[.bool false, .bool false, .bool false, .bool false] 187)).alloc (.cells #[.bool false, .bool false, .bool false, .bool false, .bool false, .bool false, .bool false, .bool false, .bool false, .bool false, .bool false, .bool false, .bool false, .bool false, .bool false, .bool false, .bool false, .bool false, .bool false, .bool false, .bool false, .bool false, .bool false, .bool false] 213)).setRow (w.heap.size + 1) #[.bool false, .bool false, .bool false, .bool false, .bool true, .bool true, .bool true, .bool false, .bool true, .bool false, .bool false, .bool false, .bool true, .bool false, .bool false, .bool false, .bool true, .bool true, .bool false, .bool false, .bool false, .bool false, .bool false, .bool true] := ⟨_, rfl⟩
    obtain ⟨z, hz⟩ : ∃ z, z = w.heap.size := ⟨_, rfl⟩
    have f0 : Fr (fun _ => False) w W := by rw [hW]; exact of_fr w _ _ _
    have hg : W.heap[z]? = some (.cells #[.bool false, .bool false, .bool false, .bool false] 187 (0, 0)) := by rw [hW, hz]; exact of_z w _ _ _
    have d0 := (cell_of hg 0).trans (show _ = some (Value.bool false) from rfl)
    have d1 := (cell_of hg 1).trans (show _ = some (Value.bool false) from rfl)
    have d2 := (cell_of hg 2).trans (show _ = some (Value.bool false) from rfl)
    have d3 := (cell_of hg 3).trans (show _ = some (Value.bool false) from rfl)
    have y0 := free_of hg 0; have y1 := free_of hg 1; have y2 := free_of hg 2; have y3 := free_of hg 3
    have hfin := setCell_blk (o := 3) (setCell_blk (o := 2) (setCell_blk (o := 1) (setCell_blk (o := 0) hg (.bool false)) (.bool false)) (.bool false)) (.bool false)
    have e0 := (cell_of hfin 0).trans (show _ = some (Value.bool false) from rfl)
    have e1 := (cell_of hfin 1).trans (show _ = some (Value.bool false) from rfl)
    have e2 := (cell_of hfin 2).trans (show _ = some (Value.bool false) from rfl)
    have e3 := (cell_of hfin 3).trans (show _ = some (Value.bool false) from rfl)
    have Ff := Lib.hid (show Fr (fun _ => False) w ((((W.setCell ⟨z, 0, none⟩ (.bool false)).setCell ⟨z, 1, none⟩ (.bool false)).setCell ⟨z, 2, none⟩ (.bool false)).setCell ⟨z, 3, none⟩ (.bool false)) from
      (((f0.setCell (p := ⟨z, 0, none⟩) (fun e => by simp at e; omega) _).setCell (p := ⟨z, 1, none⟩) (fun e => by simp at e; omega) _).setCell (p := ⟨z, 2, none⟩) (fun e => by simp at e; omega) _).setCell (p := ⟨z, 3, none⟩) (fun e => by simp at e; omega) _)
    clear f0 hg hfin
    go_enter Tryz.func106, Tryz.ntmps106
    go_upto_region 2 with (first | refine wpList_build_at [(1, shpV true true true false), (2, shpV true false false false), (3, shpV true false false false), (4, shpV true true false false), (5, shpV false false false true)] (t := 213) (parts := #[(1, .tmp 5), (2, .tmp 6), (3, .tmp 7), (4, .tmp 8), (5, .tmp 9)]) rfl rfl rfl built6 ?_ | refine wpList_store_row rfl 213 (.tmp 4) (.tmp 10) rfl (w.heap.size + 1) #[.bool false, .bool false, .bool false, .bool false, .bool true, .bool true, .bool true, .bool false, .bool true, .bool false, .bool false, .bool false, .bool true, .bool false, .bool false, .bool false, .bool true, .bool true, .bool false, .bool false, .bool false, .bool false, .bool false, .bool true] rfl rfl 213 #[.bool false, .bool false, .bool false, .bool false, .bool false, .bool false, .bool false, .bool false, .bool false, .bool false, .bool false, .bool false, .bool false, .bool false, .bool false, .bool false, .bool false, .bool false, .bool false, .bool false, .bool false, .bool false, .bool false, .bool false] (heap_alloc2_new _ _ _) (by kernel_rfl) (by kernel_rfl) (by kernel_rfl) ?_)
    rw [← hW, ← hz]
    clear hW hz
    go_wp2_with fail
    refine bodyPost_ret (v := .tuple #[shpV false false false false, .bool false]) ?_ rfl ⟨rfl, Ff.out⟩
    simp [results, Tryz.f106, go_sem, e0, e1, e2, e3]
end Go.Proofs.YtffnjnnmlfgngaaGreat.Bk
namespace Go.Proofs.YtffnjnnmlfgngaaGreat.Bk
open Go.RowKit
set_option maxRecDepth 100000 in
set_option maxHeartbeats 2000000 in
theorem check_walk {r : Rc} {w : World} {s1 s2 s3 s4 q1 q2 q3 q4 : Bool} (hid : r.id < 4294967296) (h0 : ∀ w, Calls Tryz.prog 106 #[.int .i64 r.kind] w fun e w' => e = .returned (.tuple #[shpV s1 s2 s3 s4, .bool true]) ∧ Fr (fun _ => False) w w')
    (h1 : ∀ w, Calls Tryz.prog 107 #[.bool s1, .int .i64 (r.id : Int), .int .i64 1, .int .i64 4294967295] w fun e w' => e = .returned (.bool q1) ∧ w = w')
    (h2 : ∀ w, Calls Tryz.prog 107 #[.bool s2, .int .i64 r.seat, .int .i64 0, .int .i64 1023] w fun e w' => e = .returned (.bool q2) ∧ w = w')
    (h3 : ∀ w, Calls Tryz.prog 107 #[.bool s3, .int .i64 r.till, .int .i64 1, .int .i64 1099511627776] w fun e w' => e = .returned (.bool q3) ∧ w = w')
    (h4 : ∀ w, Calls Tryz.prog 107 #[.bool s4, .int .i64 r.clock, .int .i64 1, .int .i64 1099511627776] w fun e w' => e = .returned (.bool q4) ∧ w = w') :
    Calls Tryz.prog 73 #[rcV r] w fun e w' => e = .returned (.int .i64 (if (q1 && (q2 && (q3 && q4))) = true then 0 else 160)) ∧ Fr (fun _ => False) w w' := by
  obtain ⟨W, hW⟩ : ∃ W, W = w.alloc (rcC r) := ⟨_, rfl⟩
  obtain ⟨z, hz⟩ : ∃ z, z = w.heap.size := ⟨_, rfl⟩
  have f0 : Fr (fun _ => False) w W := by rw [hW]; exact Fr.alloc (Fr.refl _ _) _
  have hg : W.heap[z]? = some (rcC r) := by rw [hW, hz]; exact heap_alloc_at _ _
  obtain ⟨ri, hri⟩ : ∃ ri, ri = (r.id : Int) := ⟨_, rfl⟩
  rw [← hri] at h1
  have z0 := (cell_of hg 0).trans (show _ = some (Value.int .i64 r.kind) from rfl)
  have Hc := Lib.hid (show IntKind.i64.wrap ri = ri by rw [IntKind.wrap_i64, hri]; omega)
  have H0 := Lib.hid h0; have H1 := Lib.hid h1; have H2 := Lib.hid h2; have H3 := Lib.hid h3; have H4 := Lib.hid h4; have F0 := Lib.hid f0; have Hg := Lib.hid hg
  have Hri := Lib.hid hri
  clear h0 h1 h2 h3 h4 hid f0 hg hri
  cases q1 with
  | false =>
    go_enter Tryz.func73, Tryz.ntmps73
    go_upto_region 1 with fail
    rw [← hW, ← hz]
    clear hW hz
    go_wp2_with fail
    refine (H0.out _).mono ?_
    rintro e w1 ⟨rfl, f1⟩
    have g1 := f1.get Hg.out (fun h => h)
    obtain ⟨w2, hw2⟩ : ∃ w2, w2 = w1.alloc (.cells #[.bool s1, .bool s2, .bool s3, .bool s4] 187) := ⟨_, rfl⟩
    obtain ⟨y, hy⟩ : ∃ y, y = w1.heap.size := ⟨_, rfl⟩
    have f2 : Fr (fun _ => False) w1 w2 := by rw [hw2]; exact Fr.alloc (Fr.refl _ _) _
    have g2 := f2.get g1 (fun h => h)
    have gy : w2.heap[y]? = some (.cells #[.bool s1, .bool s2, .bool s3, .bool s4] 187 (0, 0)) := by rw [hw2, hy]; exact heap_alloc_at _ _
    have x1 := (cell_of g2 1).trans (show _ = some (Value.int .u32 (r.id : Int)) from rfl)
    rw [← Hri.out] at x1
    have x2 := (cell_of g2 2).trans (show _ = some (Value.int .i64 r.seat) from rfl)
    have x3 := (cell_of g2 3).trans (show _ = some (Value.int .i64 r.till) from rfl)
    have x4 := (cell_of g2 4).trans (show _ = some (Value.int .i64 r.clock) from rfl)
    have v0 := (cell_of gy 0).trans (show _ = some (Value.bool s1) from rfl)
    have v1 := (cell_of gy 1).trans (show _ = some (Value.bool s2) from rfl)
    have v2 := (cell_of gy 2).trans (show _ = some (Value.bool s3) from rfl)
    have v3 := (cell_of gy 3).trans (show _ = some (Value.bool s4) from rfl)
    have hc := Hc.out
    have Ff := Lib.hid ((F0.out.trans f1 (fun _ _ h => h)).trans f2 (fun _ _ h => h))
    clear f1 g1 f2 g2 gy z0
    go_upto_region 2 with fail
    rw [← hw2, ← hy]
    clear hw2 hy
    go_wp2_with fail
    refine (H1.out _).mono ?_
    rintro e w5 ⟨rfl, rfl⟩
    go_wp2_with fail
    go_ret
    exact ⟨rfl, Ff.out⟩
  | true =>
    cases q2 with
    | false =>
      go_enter Tryz.func73, Tryz.ntmps73
      go_upto_region 1 with fail
      rw [← hW, ← hz]
      clear hW hz
      go_wp2_with fail
      refine (H0.out _).mono ?_
      rintro e w1 ⟨rfl, f1⟩
      have g1 := f1.get Hg.out (fun h => h)
      obtain ⟨w2, hw2⟩ : ∃ w2, w2 = w1.alloc (.cells #[.bool s1, .bool s2, .bool s3, .bool s4] 187) := ⟨_, rfl⟩
      obtain ⟨y, hy⟩ : ∃ y, y = w1.heap.size := ⟨_, rfl⟩
      have f2 : Fr (fun _ => False) w1 w2 := by rw [hw2]; exact Fr.alloc (Fr.refl _ _) _
      have g2 := f2.get g1 (fun h => h)
      have gy : w2.heap[y]? = some (.cells #[.bool s1, .bool s2, .bool s3, .bool s4] 187 (0, 0)) := by rw [hw2, hy]; exact heap_alloc_at _ _
      have x1 := (cell_of g2 1).trans (show _ = some (Value.int .u32 (r.id : Int)) from rfl)
      rw [← Hri.out] at x1
      have x2 := (cell_of g2 2).trans (show _ = some (Value.int .i64 r.seat) from rfl)
      have x3 := (cell_of g2 3).trans (show _ = some (Value.int .i64 r.till) from rfl)
      have x4 := (cell_of g2 4).trans (show _ = some (Value.int .i64 r.clock) from rfl)
      have v0 := (cell_of gy 0).trans (show _ = some (Value.bool s1) from rfl)
      have v1 := (cell_of gy 1).trans (show _ = some (Value.bool s2) from rfl)
      have v2 := (cell_of gy 2).trans (show _ = some (Value.bool s3) from rfl)
      have v3 := (cell_of gy 3).trans (show _ = some (Value.bool s4) from rfl)
      have hc := Hc.out
      have Ff := Lib.hid ((F0.out.trans f1 (fun _ _ h => h)).trans f2 (fun _ _ h => h))
      clear f1 g1 f2 g2 gy z0
      go_upto_region 2 with fail
      rw [← hw2, ← hy]
      clear hw2 hy
      go_wp2_with fail
      refine (H1.out _).mono ?_
      rintro e w5 ⟨rfl, rfl⟩
      go_wp2_with fail
      refine (H2.out _).mono ?_
      rintro e w5 ⟨rfl, rfl⟩
      go_wp2_with fail
      go_ret
      exact ⟨rfl, Ff.out⟩
    | true =>
      cases q3 with
      | false =>
        go_enter Tryz.func73, Tryz.ntmps73
        go_upto_region 1 with fail
        rw [← hW, ← hz]
        clear hW hz
        go_wp2_with fail
        refine (H0.out _).mono ?_
        rintro e w1 ⟨rfl, f1⟩
        have g1 := f1.get Hg.out (fun h => h)
        obtain ⟨w2, hw2⟩ : ∃ w2, w2 = w1.alloc (.cells #[.bool s1, .bool s2, .bool s3, .bool s4] 187) := ⟨_, rfl⟩
        obtain ⟨y, hy⟩ : ∃ y, y = w1.heap.size := ⟨_, rfl⟩
        have f2 : Fr (fun _ => False) w1 w2 := by rw [hw2]; exact Fr.alloc (Fr.refl _ _) _
        have g2 := f2.get g1 (fun h => h)
        have gy : w2.heap[y]? = some (.cells #[.bool s1, .bool s2, .bool s3, .bool s4] 187 (0, 0)) := by rw [hw2, hy]; exact heap_alloc_at _ _
        have x1 := (cell_of g2 1).trans (show _ = some (Value.int .u32 (r.id : Int)) from rfl)
        rw [← Hri.out] at x1
        have x2 := (cell_of g2 2).trans (show _ = some (Value.int .i64 r.seat) from rfl)
        have x3 := (cell_of g2 3).trans (show _ = some (Value.int .i64 r.till) from rfl)
        have x4 := (cell_of g2 4).trans (show _ = some (Value.int .i64 r.clock) from rfl)
        have v0 := (cell_of gy 0).trans (show _ = some (Value.bool s1) from rfl)
        have v1 := (cell_of gy 1).trans (show _ = some (Value.bool s2) from rfl)
        have v2 := (cell_of gy 2).trans (show _ = some (Value.bool s3) from rfl)
        have v3 := (cell_of gy 3).trans (show _ = some (Value.bool s4) from rfl)
        have hc := Hc.out
        have Ff := Lib.hid ((F0.out.trans f1 (fun _ _ h => h)).trans f2 (fun _ _ h => h))
        clear f1 g1 f2 g2 gy z0
        go_upto_region 2 with fail
        rw [← hw2, ← hy]
        clear hw2 hy
        go_wp2_with fail
        refine (H1.out _).mono ?_
        rintro e w5 ⟨rfl, rfl⟩
        go_wp2_with fail
        refine (H2.out _).mono ?_
        rintro e w5 ⟨rfl, rfl⟩
        go_wp2_with fail
        refine (H3.out _).mono ?_
        rintro e w5 ⟨rfl, rfl⟩
        go_wp2_with fail
        go_ret
        exact ⟨rfl, Ff.out⟩
      | true =>
        cases q4 with
        | false =>
          go_enter Tryz.func73, Tryz.ntmps73
          go_upto_region 1 with fail
          rw [← hW, ← hz]
          clear hW hz
          go_wp2_with fail
          refine (H0.out _).mono ?_
          rintro e w1 ⟨rfl, f1⟩
          have g1 := f1.get Hg.out (fun h => h)
          obtain ⟨w2, hw2⟩ : ∃ w2, w2 = w1.alloc (.cells #[.bool s1, .bool s2, .bool s3, .bool s4] 187) := ⟨_, rfl⟩
          obtain ⟨y, hy⟩ : ∃ y, y = w1.heap.size := ⟨_, rfl⟩
          have f2 : Fr (fun _ => False) w1 w2 := by rw [hw2]; exact Fr.alloc (Fr.refl _ _) _
          have g2 := f2.get g1 (fun h => h)
          have gy : w2.heap[y]? = some (.cells #[.bool s1, .bool s2, .bool s3, .bool s4] 187 (0, 0)) := by rw [hw2, hy]; exact heap_alloc_at _ _
          have x1 := (cell_of g2 1).trans (show _ = some (Value.int .u32 (r.id : Int)) from rfl)
          rw [← Hri.out] at x1
          have x2 := (cell_of g2 2).trans (show _ = some (Value.int .i64 r.seat) from rfl)
          have x3 := (cell_of g2 3).trans (show _ = some (Value.int .i64 r.till) from rfl)
          have x4 := (cell_of g2 4).trans (show _ = some (Value.int .i64 r.clock) from rfl)
          have v0 := (cell_of gy 0).trans (show _ = some (Value.bool s1) from rfl)
          have v1 := (cell_of gy 1).trans (show _ = some (Value.bool s2) from rfl)
          have v2 := (cell_of gy 2).trans (show _ = some (Value.bool s3) from rfl)
          have v3 := (cell_of gy 3).trans (show _ = some (Value.bool s4) from rfl)
          have hc := Hc.out
          have Ff := Lib.hid ((F0.out.trans f1 (fun _ _ h => h)).trans f2 (fun _ _ h => h))
          clear f1 g1 f2 g2 gy z0
          go_upto_region 2 with fail
          rw [← hw2, ← hy]
          clear hw2 hy
          go_wp2_with fail
          refine (H1.out _).mono ?_
          rintro e w5 ⟨rfl, rfl⟩
          go_wp2_with fail
          refine (H2.out _).mono ?_
          rintro e w5 ⟨rfl, rfl⟩
          go_wp2_with fail
          refine (H3.out _).mono ?_
          rintro e w5 ⟨rfl, rfl⟩
          go_wp2_with fail
          refine (H4.out _).mono ?_
          rintro e w5 ⟨rfl, rfl⟩
          go_wp2_with fail
          go_ret
          exact ⟨rfl, Ff.out⟩
        | true =>
          go_enter Tryz.func73, Tryz.ntmps73
          go_upto_region 1 with fail
          rw [← hW, ← hz]
          clear hW hz
          go_wp2_with fail
          refine (H0.out _).mono ?_
          rintro e w1 ⟨rfl, f1⟩
          have g1 := f1.get Hg.out (fun h => h)
          obtain ⟨w2, hw2⟩ : ∃ w2, w2 = w1.alloc (.cells #[.bool s1, .bool s2, .bool s3, .bool s4] 187) := ⟨_, rfl⟩
          obtain ⟨y, hy⟩ : ∃ y, y = w1.heap.size := ⟨_, rfl⟩
          have f2 : Fr (fun _ => False) w1 w2 := by rw [hw2]; exact Fr.alloc (Fr.refl _ _) _
          have g2 := f2.get g1 (fun h => h)
          have gy : w2.heap[y]? = some (.cells #[.bool s1, .bool s2, .bool s3, .bool s4] 187 (0, 0)) := by rw [hw2, hy]; exact heap_alloc_at _ _
          have x1 := (cell_of g2 1).trans (show _ = some (Value.int .u32 (r.id : Int)) from rfl)
          rw [← Hri.out] at x1
          have x2 := (cell_of g2 2).trans (show _ = some (Value.int .i64 r.seat) from rfl)
          have x3 := (cell_of g2 3).trans (show _ = some (Value.int .i64 r.till) from rfl)
          have x4 := (cell_of g2 4).trans (show _ = some (Value.int .i64 r.clock) from rfl)
          have v0 := (cell_of gy 0).trans (show _ = some (Value.bool s1) from rfl)
          have v1 := (cell_of gy 1).trans (show _ = some (Value.bool s2) from rfl)
          have v2 := (cell_of gy 2).trans (show _ = some (Value.bool s3) from rfl)
          have v3 := (cell_of gy 3).trans (show _ = some (Value.bool s4) from rfl)
          have hc := Hc.out
          have Ff := Lib.hid ((F0.out.trans f1 (fun _ _ h => h)).trans f2 (fun _ _ h => h))
          clear f1 g1 f2 g2 gy z0
          go_upto_region 2 with fail
          rw [← hw2, ← hy]
          clear hw2 hy
          go_wp2_with fail
          refine (H1.out _).mono ?_
          rintro e w5 ⟨rfl, rfl⟩
          go_wp2_with fail
          refine (H2.out _).mono ?_
          rintro e w5 ⟨rfl, rfl⟩
          go_wp2_with fail
          refine (H3.out _).mono ?_
          rintro e w5 ⟨rfl, rfl⟩
          go_wp2_with fail
          refine (H4.out _).mono ?_
          rintro e w5 ⟨rfl, rfl⟩
          go_wp2_with fail
          go_ret
          exact ⟨rfl, Ff.out⟩
set_option maxRecDepth 100000 in
theorem check_none {r : Rc} {w : World} (h : r.kind < 1 ∨ 5 < r.kind) :
    Calls Tryz.prog 73 #[rcV r] w fun e w' => e = .returned (.int .i64 160) ∧ Fr (fun _ => False) w w' := by
  obtain ⟨W, hW⟩ : ∃ W, W = w.alloc (rcC r) := ⟨_, rfl⟩
  obtain ⟨z, hz⟩ : ∃ z, z = w.heap.size := ⟨_, rfl⟩
  have f0 : Fr (fun _ => False) w W := by rw [hW]; exact Fr.alloc (Fr.refl _ _) _
  have hg : W.heap[z]? = some (rcC r) := by rw [hW, hz]; exact heap_alloc_at _ _
  have z0 := (cell_of hg 0).trans (show _ = some (Value.int .i64 r.kind) from rfl)
  have H0 := Lib.hid (of_none h); have F0 := Lib.hid f0
  clear h f0 hg
  go_enter Tryz.func73, Tryz.ntmps73
  go_upto_region 1 with fail
  rw [← hW, ← hz]
  clear hW hz
  go_wp2_with fail
  refine (H0.out _).mono ?_
  rintro e w1 ⟨rfl, f1⟩
  have Ff := Lib.hid ((F0.out.trans f1 (fun _ _ h => h)).alloc (.cells #[.bool false, .bool false, .bool false, .bool false] 187))
  clear f1 z0
  go_wp2_with fail
  go_ret
  exact ⟨rfl, Ff.out⟩
theorem recB_none {r : Rc} (h : r.kind < 1 ∨ 5 < r.kind) : recB r = false := by
  cases e : recB r
  · rfl
  · have := recB_kind e; omega
theorem check_ok {r : Rc} (hid : r.id < 4294967296) (w : World) :
    Calls Tryz.prog 73 #[rcV r] w fun e w' => e = .returned (.int .i64 (if recB r = true then 0 else 160)) ∧ Fr (fun _ => False) w w' := by
  by_cases hk : r.kind < 1 ∨ 5 < r.kind
  · rw [recB_none hk]; exact check_none hk
  · have hkk : r.kind = 1 ∨ r.kind = 2 ∨ r.kind = 3 ∨ r.kind = 4 ∨ r.kind = 5 := by omega
    clear hk
    have bb : ∀ a b : Bool, (a = true ↔ b = true) → a = b := fun a b h => by cases a <;> cases b <;> simp at h ⊢
    rcases hkk with k | k | k | k | k
    · refine (check_walk hid (fun w => by rw [k]; exact of_1 w) (fun w => within_yes _ _ _ w) (fun w => within_yes _ _ _ w) (fun w => within_yes _ _ _ w) (fun w => within_no _ _ _ w)).mono ?_
      rintro e w' ⟨rfl, f⟩
      refine ⟨?_, f⟩
      have e : recB r = ((decide (1 ≤ (r.id : Int)) && decide ((r.id : Int) ≤ 4294967295)) && ((decide (0 ≤ r.seat) && decide (r.seat ≤ 1023)) && ((decide (1 ≤ r.till) && decide (r.till ≤ 1099511627776)) && (r.clock == 0)))) := bb _ _ (by unfold recB; simp [k]; omega)
      rw [e]
    · refine (check_walk hid (fun w => by rw [k]; exact of_2 w) (fun w => within_yes _ _ _ w) (fun w => within_no _ _ _ w) (fun w => within_no _ _ _ w) (fun w => within_no _ _ _ w)).mono ?_
      rintro e w' ⟨rfl, f⟩
      refine ⟨?_, f⟩
      have e : recB r = ((decide (1 ≤ (r.id : Int)) && decide ((r.id : Int) ≤ 4294967295)) && ((r.seat == 0) && ((r.till == 0) && (r.clock == 0)))) := bb _ _ (by unfold recB; simp [k]; omega)
      rw [e]
    · refine (check_walk hid (fun w => by rw [k]; exact of_3 w) (fun w => within_yes _ _ _ w) (fun w => within_no _ _ _ w) (fun w => within_no _ _ _ w) (fun w => within_no _ _ _ w)).mono ?_
      rintro e w' ⟨rfl, f⟩
      refine ⟨?_, f⟩
      have e : recB r = ((decide (1 ≤ (r.id : Int)) && decide ((r.id : Int) ≤ 4294967295)) && ((r.seat == 0) && ((r.till == 0) && (r.clock == 0)))) := bb _ _ (by unfold recB; simp [k]; omega)
      rw [e]
    · refine (check_walk hid (fun w => by rw [k]; exact of_4 w) (fun w => within_yes _ _ _ w) (fun w => within_yes _ _ _ w) (fun w => within_no _ _ _ w) (fun w => within_no _ _ _ w)).mono ?_
      rintro e w' ⟨rfl, f⟩
      refine ⟨?_, f⟩
      have e : recB r = ((decide (1 ≤ (r.id : Int)) && decide ((r.id : Int) ≤ 4294967295)) && ((decide (0 ≤ r.seat) && decide (r.seat ≤ 1023)) && ((r.till == 0) && (r.clock == 0)))) := bb _ _ (by unfold recB; simp [k]; omega)
      rw [e]
    · refine (check_walk hid (fun w => by rw [k]; exact of_5 w) (fun w => within_no _ _ _ w) (fun w => within_no _ _ _ w) (fun w => within_no _ _ _ w) (fun w => within_yes _ _ _ w)).mono ?_
      rintro e w' ⟨rfl, f⟩
      refine ⟨?_, f⟩
      have e : recB r = (((r.id : Int) == 0) && ((r.seat == 0) && ((r.till == 0) && (decide (1 ≤ r.clock) && decide (r.clock ≤ 1099511627776))))) := bb _ _ (by unfold recB; simp [k]; omega)
      rw [e]
end Go.Proofs.YtffnjnnmlfgngaaGreat.Bk
