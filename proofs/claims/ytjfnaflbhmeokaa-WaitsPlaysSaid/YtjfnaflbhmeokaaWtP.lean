/- The contract of Push of a heap of waiting parties. Condition: the next handle is below 2^62. -/
import Derived.Test.YtjfnaflbhmeokaaWtR
import Derived.StillTailTactics
import Derived.Test.YtjfnaflbhmeokaaHeapN
namespace Go.Proofs.Ytjfnaflbhmeokaa.Wt
open Go.RowKit
def pushF (lt : Int → Int → Bool) (L : List It) (v next : Int) : List It := settleF lt (L ++ [(v, next)]) L.length
theorem Try.infoItemW : (Try.prog.info? 179).map (fun i => (i.zero, i.size, i.bytes)) = some (some (.agg #[.int .u32 0, .int .i64 0, .int .i64 0, .int .i64 0, .int .i64 0]), 5, 40) := by kernel_rfl
section
variable {J : World → Prop} {FJ : Nat → Prop} {A : Int → Prop} {fv : Value} {G : Nat → Prop} {bh : Nat} {L : List It} {next : Int} {w : World}
variable {lt : Int → Int → Bool} {fl : Nat} {caps : Array Value} (hL : LessOk Try.prog fv lt J FJ A fl caps)
include hL
set_option maxRecDepth 100000 in
set_option maxHeartbeats 1000000 in
theorem push_room {w0 : World} (h0' : HeapIs J FJ A fv G bh L next w0) (hn : L.length < 65536) (hx : next < 1000000000) {v : Int} (hv : A v) :
    Calls Try.prog 105 #[.pointer (some ⟨bh, 0, none⟩), wtT v] w0 fun e w' => e = .returned (.tuple #[.int .i64 next, .int .i64 0]) ∧
      ∃ G', HeapIs J FJ A fv G' bh (pushF lt L v next) (next + 1) w' ∧ Fr (fun b => FJ b ∨ G b) w0 w' ∧ Grew w0 G G' := by
  have f01 : Fr (fun _ => False) w0 (w0.alloc (.cells #[.int .u32 (wW v), .int .i64 (wS v), .int .i64 (wT v), .int .i64 (wC v)] 32)) := Fr.alloc (Fr.refl _ _) _
  have gz : (w0.alloc (.cells #[.int .u32 (wW v), .int .i64 (wS v), .int .i64 (wT v), .int .i64 (wC v)] 32)).heap[w0.heap.size]? = some (.cells #[.int .u32 (wW v), .int .i64 (wS v), .int .i64 (wT v), .int .i64 (wC v)] 32 (0, 0)) := heap_alloc_at _ _
  have h := HeapIs.keepFr hL h0' f01
  have hxG : ∀ b, G b → b < w0.heap.size := h0'.bd
  refine Calls.mono (R := fun e w' => ∃ w1 : World, Fr (fun _ => False) w0 w1 ∧ e = .returned (.tuple #[.int .i64 next, .int .i64 0]) ∧ ∃ G', HeapIs J FJ A fv G' bh (pushF lt L v next) (next + 1) w' ∧ Fr (fun b => FJ b ∨ G b) w1 w' ∧ Grew w1 G G') ?_ (by
    rintro e w' ⟨w1, f1, rfl, G', a1, a2, a3⟩
    exact ⟨rfl, G', a1, (f1.mono (fun _ _ h => h.elim)).trans a2 (fun _ _ h => h), fun b hb => (a3 b hb).imp id (fun h => Nat.le_trans f1.size h)⟩)
  go_enter Try.func105, Try.ntmps105
  go_upto_region 1 with fail
  obtain ⟨w, hwe⟩ : ∃ w, w = w0.alloc (.cells #[.int .u32 (wW v), .int .i64 (wS v), .int .i64 (wT v), .int .i64 (wC v)] 32) := ⟨_, rfl⟩
  rw [← hwe] at f01 gz h ⊢
  obtain ⟨bx, hbx⟩ : ∃ bx, bx = w0.heap.size := ⟨_, rfl⟩
  rw [← hbx] at gz hxG ⊢
  have bz0 : w.cell? ⟨bx, 0, none⟩ = some (.int .u32 (wW v)) := (cell_of gz 0).trans (by rfl)
  have bz1 : w.cell? ⟨bx, 1, none⟩ = some (.int .i64 (wS v)) := (cell_of gz 1).trans (by rfl)
  have bz2 : w.cell? ⟨bx, 2, none⟩ = some (.int .i64 (wT v)) := (cell_of gz 2).trans (by rfl)
  have bz3 : w.cell? ⟨bx, 3, none⟩ = some (.int .i64 (wC v)) := (cell_of gz 3).trans (by rfl)
  have nbx : ¬ bh = bx := fun e => by have := hxG bh h.gh; omega
  have nbx' : ¬ bx = bh := fun e => nbx e.symm
  have F01 := Lib.hid f01; have HxG := Lib.hid hxG; have Gz := Lib.hid gz
  clear f01 hxG hwe hbx h0' gz
  obtain ⟨sv, bm, hH, hR, ⟨f, hM, hP⟩, gm, gs⟩ := h.ex
  have c1 := cell_of hH 1
  have c2 := cell_of hH 2
  have c3 := cell_of hH 3
  have z1 := free_of hH 1
  have z3 := free_of hH 3
  simp at c1 c2 c3
  obtain ⟨sa, sc, hsv⟩ : ∃ a c, sv = .slice a L.length c := by
    rcases hR.2 with ⟨rfl, h0⟩ | ⟨g, cap, cur, rfl, _⟩
    · exact ⟨none, 0, by rw [h0]⟩
    · exact ⟨_, _, rfl⟩
  have h0 := h.nx
  have hge : decide (65536 ≤ L.length) = false := by simp; omega
  have hge' : decide ((65536 : Int) ≤ (L.length : Int)) = false := by simp; omega
  have Hn := Lib.hid hn; clear hn
  have HL := Lib.hid hL; have Hh := Lib.hid h; have HR := Lib.hid hR; have HH := Lib.hid hH
  have HM := Lib.hid hM; have HP := Lib.hid hP; have Gs := Lib.hid gs; have Gm := Lib.hid gm
  clear hL h hH hR hM hP gs gm
  subst hsv
  go_wp2_with fail
  refine (none_ok HL.out Hh.out).mono ?_
  rintro e w' ⟨rfl, rfl⟩
  go_upto_region 7 with fail
  go_cut [6] (fun s6 wx => s6 = .int .i64 next ∧ ∃ sv', wx.heap[bh]? = some (.cells #[fv, sv', .map (some bm), .int .i64 (next + 1)] 118 (0, 0)) ∧ Row wx 179 5 sv' (L.length + 1) (flat (L ++ [(v, next)])) ∧ Fr (fun b => b = bh ∨ (Value.slice sa L.length sc).ownBlock = some b) w wx ∧
    (sv'.ownBlock = (Value.slice sa L.length sc).ownBlock ∨ ∃ b, sv'.ownBlock = some b ∧ w.heap.size ≤ b))
  case first =>
    obtain ⟨i0, hi, hz0, hz1, hz2⟩ := info_parts Try.infoItemW
    have hfr : Fr (fun b => b = bh) w ((w.setCell ⟨bh, 3, none⟩ (.int .i64 (next + 1))).drew.alloc (.cells #[.int .u32 (wW v), .int .i64 (wS v), .int .i64 (wT v), .int .i64 (wC v), .int .i64 next] 179)) := Fr.alloc (Fr.drew (Fr.setCell (Fr.refl _ _) (by intro _; rfl) _)) _
    have hne : (Value.slice sa L.length sc).ownBlock ≠ some bh := by
      intro e
      rcases HR.out.2 with ⟨e2, _⟩ | ⟨g, cap, cur, e2, _, h2, _⟩
      · rw [e2] at e; simp [Value.ownBlock] at e
      · rw [e2] at e; simp only [Value.ownBlock, Option.some.injEq] at e
        rw [e, HH.out] at h2; simp at h2
    have hR2 := Row.fr HR.out hfr (fun b hb e => hne (by rw [hb, e]))
    obtain ⟨v', w3, hrun, hR3, hf3, ho3⟩ := run_append_fr (P := Try.prog) _ 116 116 179 i0 _ 5 40 Try.underlying116 hi hz0 hz1 hz2 rfl (by decide) _ _ _ hR2 ⟨w.heap.size, 0, none⟩ 1 1 [.int .u32 (wW v), .int .i64 (wS v), .int .i64 (wT v), .int .i64 (wC v), .int .i64 next] rfl
      (by intro j u hu; match j, hu with
          | 0, hu => simp at hu; subst hu; simp [Addr.add, World.cell?_alloc_at]
          | 1, hu => simp at hu; subst hu; simp [Addr.add, World.cell?_alloc_at]
          | 2, hu => simp at hu; subst hu; simp [Addr.add, World.cell?_alloc_at]
          | 3, hu => simp at hu; subst hu; simp [Addr.add, World.cell?_alloc_at]
          | 4, hu => simp at hu; subst hu; simp [Addr.add, World.cell?_alloc_at])
      (by intro u hu; simp at hu; rcases hu with rfl | rfl | rfl | rfl | rfl <;> rfl) (by unfold maxLen; have := Hn.out; omega) (by have := Hn.out; omega)
    have hW2 : ((w.setCell ⟨bh, 3, none⟩ (.int .i64 (next + 1))).drew.alloc (.cells #[.int .u32 (wW v), .int .i64 (wS v), .int .i64 (wT v), .int .i64 (wC v), .int .i64 next] 179)).heap[bh]? = some (.cells #[fv, .slice sa L.length sc, .map (some bm), .int .i64 (next + 1)] 118 (0, 0)) := by
      rw [heap_alloc_old _ _ _ (by simpa using lt_of_block HH.out)]
      exact setCell_blk HH.out _
    have e1A : (World.alloc (w.setCell ⟨bh, 3, none⟩ (.int .i64 (next + 1))) (.cells #[.int .u32 (wW v), .int .i64 (wS v), .int .i64 (wT v), .int .i64 (wC v), .int .i64 next] 179)).cell? ⟨bh, 1, none⟩ = some (.slice sa L.length sc) := (cell_of hW2 1).trans (by rfl)
    have hw3 := hf3.get hW2 hne
    obtain ⟨a', c', hv'⟩ : ∃ a' c', v' = .slice a' (L.length + 1) c' := by
      rcases hR3.2 with ⟨rfl, h0⟩ | ⟨g, cap, cur, rfl, _⟩
      · exact ⟨none, 0, by rw [h0]⟩
      · exact ⟨_, _, rfl⟩
    subst hv'
    have x1 := cell_of hw3 1
    have y1 := free_of hw3 1
    simp at x1
    have Hw3 := Lib.hid hw3; have HR3 := Lib.hid hR3; have Hf3 := Lib.hid hf3; have Ho3 := Lib.hid ho3; have Hfr := Lib.hid hfr; have Hne := Lib.hid hne
    clear hw3 hR3 hf3 ho3 hfr hne hR2 hW2 hi hz0 hz1 hz2 hge hge'
    have Hrun := Lib.hid hrun; clear hrun
    go_upto_region 7 with fail
    refine region_any (by kernel_rfl) ?_
    refine wpAny_take (i := 0) (v := ?_) rfl (by kernel_rfl) (by kernel_rfl) (by kernel_rfl) (fun _ _ _ h => h) (Or.inl ⟨by rfl, ?_⟩) ?_
    rotate_left
    · intro w'; go_simp; try with_reducible rfl
    try simp only [Act.put, List.getElem_toArray, List.getElem_cons_zero, List.getElem_cons_succ, List.setIfInBounds_toArray, List.set_cons_zero, List.set_cons_succ]
    refine wpAny_take (i := 1) (v := ?_) rfl (by kernel_rfl) (by kernel_rfl) (by kernel_rfl) (fun _ _ _ h => h) (Or.inl ⟨by rfl, ?_⟩) ?_
    rotate_left
    · intro w'; go_simp; try with_reducible rfl
    try simp only [Act.put, List.getElem_toArray, List.getElem_cons_zero, List.getElem_cons_succ, List.setIfInBounds_toArray, List.set_cons_zero, List.set_cons_succ]
    refine wpAny_take (i := 2) (v := ?_) rfl (by kernel_rfl) (by kernel_rfl) (by kernel_rfl) (fun _ _ _ h => h) (Or.inl ⟨by rfl, ?_⟩) ?_
    rotate_left
    · intro w'; go_simp; try with_reducible rfl
    try simp only [Act.put, List.getElem_toArray, List.getElem_cons_zero, List.getElem_cons_succ, List.setIfInBounds_toArray, List.set_cons_zero, List.set_cons_succ]
    refine wpAny_take (i := 3) (v := ?_) rfl (by kernel_rfl) (by kernel_rfl) (by kernel_rfl) (fun _ _ _ h => h) (Or.inl ⟨by rfl, ?_⟩) ?_
    rotate_left
    · intro w'; go_simp; try with_reducible rfl
    try simp only [Act.put, List.getElem_toArray, List.getElem_cons_zero, List.getElem_cons_succ, List.setIfInBounds_toArray, List.set_cons_zero, List.set_cons_succ]
    refine wpAny_take (i := 6) (v := ?_) rfl (by kernel_rfl) (by kernel_rfl) (by kernel_rfl) (fun _ _ _ h => h) (Or.inl ⟨by rfl, ?_⟩) ?_
    rotate_left
    · intro w'; go_simp; try with_reducible rfl
    try simp only [Act.put, List.getElem_toArray, List.getElem_cons_zero, List.getElem_cons_succ, List.setIfInBounds_toArray, List.set_cons_zero, List.set_cons_succ]
    refine wpAny_ready (rs := [4, 5]) (by kernel_rfl) (by simp) ?_
    refine AllReady.cons rfl (fun K hK => ?_) (AllReady.cons rfl (fun K hK => ?_) AllReady.nil)
    · have HK := Lib.hid hK; clear hK
      go_simp
      refine HK.out _ _ ?_
      clear HK K
      try simp only [Act.put, List.getElem_toArray, List.getElem_cons_zero, List.getElem_cons_succ, List.setIfInBounds_toArray, List.set_cons_zero, List.set_cons_succ]
      refine wpAny_ready (rs := [5]) (by kernel_rfl) (by simp) ?_
      refine AllReady.cons rfl (fun K hK => ?_) AllReady.nil
      have HK := Lib.hid hK; clear hK
      go_simp
      refine HK.out _ _ ?_
      clear HK K
      try simp only [Act.put, List.getElem_toArray, List.getElem_cons_zero, List.getElem_cons_succ, List.setIfInBounds_toArray, List.set_cons_zero, List.set_cons_succ]
      refine wpAny_take (i := 7) (v := ?_) rfl (by kernel_rfl) (by kernel_rfl) (by kernel_rfl) (fun _ _ _ h => h) (Or.inl ⟨by rfl, ?_⟩) ?_
      rotate_left
      · intro w'; go_simp; try with_reducible rfl
      try simp only [Act.put, List.getElem_toArray, List.getElem_cons_zero, List.getElem_cons_succ, List.setIfInBounds_toArray, List.set_cons_zero, List.set_cons_succ]
      refine wpAny_ready (rs := [8]) (by kernel_rfl) (by simp) ?_
      refine AllReady.cons rfl (fun K hK => ?_) AllReady.nil
      have HK := Lib.hid hK; clear hK
      go_simp
      refine HK.out _ _ ?_
      clear HK K
      try simp only [Act.put, List.getElem_toArray, List.getElem_cons_zero, List.getElem_cons_succ, List.setIfInBounds_toArray, List.set_cons_zero, List.set_cons_succ]
      refine wpAny_ready (rs := [9]) (by kernel_rfl) (by simp) ?_
      refine AllReady.cons rfl (fun K hK => ?_) AllReady.nil
      refine ite_take (by kernel_rfl) ?_
      refine wp_append_run rfl rfl rfl Hrun.out ?_
      refine hK _ _ ?_
      clear hK K
      try simp only [Act.put, List.getElem_toArray, List.getElem_cons_zero, List.getElem_cons_succ, List.setIfInBounds_toArray, List.set_cons_zero, List.set_cons_succ]
      refine wpAny_take (i := 10) (v := ?_) rfl (by kernel_rfl) (by kernel_rfl) (by kernel_rfl) (fun _ _ _ h => h) (Or.inl ⟨by rfl, ?_⟩) ?_
      rotate_left
      · intro w'; go_simp; try with_reducible rfl
      try simp only [Act.put, List.getElem_toArray, List.getElem_cons_zero, List.getElem_cons_succ, List.setIfInBounds_toArray, List.set_cons_zero, List.set_cons_succ]
      refine wpAny_take (i := 11) (v := ?_) rfl (by kernel_rfl) (by kernel_rfl) (by kernel_rfl) (fun _ _ _ h => h) (Or.inl ⟨by rfl, ?_⟩) ?_
      rotate_left
      · intro w'; go_simp; try with_reducible rfl
      try simp only [Act.put, List.getElem_toArray, List.getElem_cons_zero, List.getElem_cons_succ, List.setIfInBounds_toArray, List.set_cons_zero, List.set_cons_succ]
      refine wpAny_ready (rs := [12]) (by kernel_rfl) (by simp) ?_
      refine AllReady.cons rfl (fun K hK => ?_) AllReady.nil
      have HK := Lib.hid hK; clear hK
      go_simp
      refine HK.out _ _ ?_
      clear HK K
      try simp only [Act.put, List.getElem_toArray, List.getElem_cons_zero, List.getElem_cons_succ, List.setIfInBounds_toArray, List.set_cons_zero, List.set_cons_succ]
      refine wpAny_done (by kernel_rfl) ?_ _
      go_wp2_with fail
      go_meet
      have hlb := lt_of_block HH.out
      have hne3 : ∀ b, (Value.slice a' (L.length + 1) c').ownBlock = some b → b ≠ bh := by
        intro b hb e
        rcases Ho3.out with h | h
        · exact Hne.out (by rw [← h, hb, e])
        · rw [h] at hb; simp at hb; omega
      refine ⟨rfl, .slice a' (L.length + 1) c', ?_, ?_, ?_, ?_⟩
      · exact setCell_blk Hw3.out _
      · rw [flat_append]
        exact Row.fr HR3.out (Fr.setCell (F := fun b => b = bh) (Fr.refl _ _) (by intro _; rfl) _) (fun b hb => hne3 b hb)
      · exact Fr.setCell ((Hfr.out.mono (fun _ _ h => Or.inl h)).trans Hf3.out (fun _ _ h => Or.inr h)) (by intro _; exact Or.inl rfl) _
      · rcases Ho3.out with h | h
        · exact .inl h
        · refine .inr ⟨_, h, by simp⟩
    · have HK := Lib.hid hK; clear hK
      go_simp
      refine HK.out _ _ ?_
      clear HK K
      try simp only [Act.put, List.getElem_toArray, List.getElem_cons_zero, List.getElem_cons_succ, List.setIfInBounds_toArray, List.set_cons_zero, List.set_cons_succ]
      refine wpAny_take (i := 7) (v := ?_) rfl (by kernel_rfl) (by kernel_rfl) (by kernel_rfl) (fun _ _ _ h => h) (Or.inl ⟨by rfl, ?_⟩) ?_
      rotate_left
      · intro w'; go_simp; try with_reducible rfl
      try simp only [Act.put, List.getElem_toArray, List.getElem_cons_zero, List.getElem_cons_succ, List.setIfInBounds_toArray, List.set_cons_zero, List.set_cons_succ]
      refine wpAny_ready (rs := [4, 8]) (by kernel_rfl) (by simp) ?_
      refine AllReady.cons rfl (fun K hK => ?_) (AllReady.cons rfl (fun K hK => ?_) AllReady.nil)
      · have HK := Lib.hid hK; clear hK
        go_simp
        refine HK.out _ _ ?_
        clear HK K
        try simp only [Act.put, List.getElem_toArray, List.getElem_cons_zero, List.getElem_cons_succ, List.setIfInBounds_toArray, List.set_cons_zero, List.set_cons_succ]
        refine wpAny_ready (rs := [8]) (by kernel_rfl) (by simp) ?_
        refine AllReady.cons rfl (fun K hK => ?_) AllReady.nil
        have HK := Lib.hid hK; clear hK
        go_simp
        refine HK.out _ _ ?_
        clear HK K
        try simp only [Act.put, List.getElem_toArray, List.getElem_cons_zero, List.getElem_cons_succ, List.setIfInBounds_toArray, List.set_cons_zero, List.set_cons_succ]
        refine wpAny_ready (rs := [9]) (by kernel_rfl) (by simp) ?_
        refine AllReady.cons rfl (fun K hK => ?_) AllReady.nil
        refine ite_take (by kernel_rfl) ?_
        refine wp_append_run rfl rfl rfl Hrun.out ?_
        refine hK _ _ ?_
        clear hK K
        try simp only [Act.put, List.getElem_toArray, List.getElem_cons_zero, List.getElem_cons_succ, List.setIfInBounds_toArray, List.set_cons_zero, List.set_cons_succ]
        refine wpAny_take (i := 10) (v := ?_) rfl (by kernel_rfl) (by kernel_rfl) (by kernel_rfl) (fun _ _ _ h => h) (Or.inl ⟨by rfl, ?_⟩) ?_
        rotate_left
        · intro w'; go_simp; try with_reducible rfl
        try simp only [Act.put, List.getElem_toArray, List.getElem_cons_zero, List.getElem_cons_succ, List.setIfInBounds_toArray, List.set_cons_zero, List.set_cons_succ]
        refine wpAny_take (i := 11) (v := ?_) rfl (by kernel_rfl) (by kernel_rfl) (by kernel_rfl) (fun _ _ _ h => h) (Or.inl ⟨by rfl, ?_⟩) ?_
        rotate_left
        · intro w'; go_simp; try with_reducible rfl
        try simp only [Act.put, List.getElem_toArray, List.getElem_cons_zero, List.getElem_cons_succ, List.setIfInBounds_toArray, List.set_cons_zero, List.set_cons_succ]
        refine wpAny_ready (rs := [12]) (by kernel_rfl) (by simp) ?_
        refine AllReady.cons rfl (fun K hK => ?_) AllReady.nil
        have HK := Lib.hid hK; clear hK
        go_simp
        refine HK.out _ _ ?_
        clear HK K
        try simp only [Act.put, List.getElem_toArray, List.getElem_cons_zero, List.getElem_cons_succ, List.setIfInBounds_toArray, List.set_cons_zero, List.set_cons_succ]
        refine wpAny_done (by kernel_rfl) ?_ _
        go_wp2_with fail
        go_meet
        have hlb := lt_of_block HH.out
        have hne3 : ∀ b, (Value.slice a' (L.length + 1) c').ownBlock = some b → b ≠ bh := by
          intro b hb e
          rcases Ho3.out with h | h
          · exact Hne.out (by rw [← h, hb, e])
          · rw [h] at hb; simp at hb; omega
        refine ⟨rfl, .slice a' (L.length + 1) c', ?_, ?_, ?_, ?_⟩
        · exact setCell_blk Hw3.out _
        · rw [flat_append]
          exact Row.fr HR3.out (Fr.setCell (F := fun b => b = bh) (Fr.refl _ _) (by intro _; rfl) _) (fun b hb => hne3 b hb)
        · exact Fr.setCell ((Hfr.out.mono (fun _ _ h => Or.inl h)).trans Hf3.out (fun _ _ h => Or.inr h)) (by intro _; exact Or.inl rfl) _
        · rcases Ho3.out with h | h
          · exact .inl h
          · refine .inr ⟨_, h, by simp⟩
      · have HK := Lib.hid hK; clear hK
        go_simp
        refine HK.out _ _ ?_
        clear HK K
        try simp only [Act.put, List.getElem_toArray, List.getElem_cons_zero, List.getElem_cons_succ, List.setIfInBounds_toArray, List.set_cons_zero, List.set_cons_succ]
        refine wpAny_ready (rs := [4]) (by kernel_rfl) (by simp) ?_
        refine AllReady.cons rfl (fun K hK => ?_) AllReady.nil
        have HK := Lib.hid hK; clear hK
        go_simp
        refine HK.out _ _ ?_
        clear HK K
        try simp only [Act.put, List.getElem_toArray, List.getElem_cons_zero, List.getElem_cons_succ, List.setIfInBounds_toArray, List.set_cons_zero, List.set_cons_succ]
        refine wpAny_ready (rs := [9]) (by kernel_rfl) (by simp) ?_
        refine AllReady.cons rfl (fun K hK => ?_) AllReady.nil
        refine ite_take (by kernel_rfl) ?_
        refine wp_append_run rfl rfl rfl Hrun.out ?_
        refine hK _ _ ?_
        clear hK K
        try simp only [Act.put, List.getElem_toArray, List.getElem_cons_zero, List.getElem_cons_succ, List.setIfInBounds_toArray, List.set_cons_zero, List.set_cons_succ]
        refine wpAny_take (i := 10) (v := ?_) rfl (by kernel_rfl) (by kernel_rfl) (by kernel_rfl) (fun _ _ _ h => h) (Or.inl ⟨by rfl, ?_⟩) ?_
        rotate_left
        · intro w'; go_simp; try with_reducible rfl
        try simp only [Act.put, List.getElem_toArray, List.getElem_cons_zero, List.getElem_cons_succ, List.setIfInBounds_toArray, List.set_cons_zero, List.set_cons_succ]
        refine wpAny_take (i := 11) (v := ?_) rfl (by kernel_rfl) (by kernel_rfl) (by kernel_rfl) (fun _ _ _ h => h) (Or.inl ⟨by rfl, ?_⟩) ?_
        rotate_left
        · intro w'; go_simp; try with_reducible rfl
        try simp only [Act.put, List.getElem_toArray, List.getElem_cons_zero, List.getElem_cons_succ, List.setIfInBounds_toArray, List.set_cons_zero, List.set_cons_succ]
        refine wpAny_ready (rs := [12]) (by kernel_rfl) (by simp) ?_
        refine AllReady.cons rfl (fun K hK => ?_) AllReady.nil
        have HK := Lib.hid hK; clear hK
        go_simp
        refine HK.out _ _ ?_
        clear HK K
        try simp only [Act.put, List.getElem_toArray, List.getElem_cons_zero, List.getElem_cons_succ, List.setIfInBounds_toArray, List.set_cons_zero, List.set_cons_succ]
        refine wpAny_done (by kernel_rfl) ?_ _
        go_wp2_with fail
        go_meet
        have hlb := lt_of_block HH.out
        have hne3 : ∀ b, (Value.slice a' (L.length + 1) c').ownBlock = some b → b ≠ bh := by
          intro b hb e
          rcases Ho3.out with h | h
          · exact Hne.out (by rw [← h, hb, e])
          · rw [h] at hb; simp at hb; omega
        refine ⟨rfl, .slice a' (L.length + 1) c', ?_, ?_, ?_, ?_⟩
        · exact setCell_blk Hw3.out _
        · rw [flat_append]
          exact Row.fr HR3.out (Fr.setCell (F := fun b => b = bh) (Fr.refl _ _) (by intro _; rfl) _) (fun b hb => hne3 b hb)
        · exact Fr.setCell ((Hfr.out.mono (fun _ _ h => Or.inl h)).trans Hf3.out (fun _ _ h => Or.inr h)) (by intro _; exact Or.inl rfl) _
        · rcases Ho3.out with h | h
          · exact .inl h
          · refine .inr ⟨_, h, by simp⟩
  case rest =>
    obtain ⟨rfl, sv', hH2, hR2, hf2, ho2⟩ := hcut
    have e1 := cell_of hH2 1
    have e2 := cell_of hH2 2
    simp at e1 e2
    have hne2 : L.length + 1 ≠ 0 := by omega
    obtain ⟨bi, cap, arr, rfl, hcl, hcm, hI, hs, hc⟩ := row_at (L := L ++ [(v, next)]) (by simpa using hR2) (by simp)
    simp only [List.length_append, List.length_cons, List.length_nil, Nat.zero_add] at e1 hcl
    have gbm : bm < w.heap.size := HM.out.lt
    have nbm : ¬ (bm = bh ∨ (Value.slice sa L.length sc).ownBlock = some bm) := by
      rintro (e | e)
      · obtain ⟨l, c, hb, _⟩ := HM.out; rw [e, HH.out] at hb; simp at hb
      · obtain ⟨l, c, hb, _⟩ := HM.out
        rcases HR.out.2 with ⟨e3, _⟩ | ⟨g, cap2, cur, e3, _, h2, _⟩
        · rw [e3] at e; simp [Value.ownBlock] at e
        · rw [e3] at e; simp only [Value.ownBlock, Option.some.injEq] at e
          rw [e, hb] at h2; simp at h2
    have hM2 : IMap wc bm f := HM.out.fr hf2 nbm
    obtain ⟨es, c, hrun, hM3⟩ := run_update (P := Try.prog) Try.underlying115 Try.underlying3 (w := wc.drew) hM2 next (L.length : Int)
    have hc1 : ∀ a, (setMap wc.drew bm es c).cell? a = wc.cell? a := by
      obtain ⟨l, c0, hb, _⟩ := hM2; exact fun a => setMap_cell (w := wc.drew) hb es c a
    have ew : IntKind.i64.wrap (L.length : Int) = (L.length : Int) := IntWalk.i64_in _ (by have := Hn.out; omega)
    have HM3 := Lib.hid hM3; have HH2 := Lib.hid hH2; have Hf2 := Lib.hid hf2; have HI := Lib.hid hI; have Hs := Lib.hid hs; have Hc := Lib.hid hc; have Ho2 := Lib.hid ho2
    clear hM2 hM3 hH2 hf2 hI hs hc hR2 ho2 c1 c2 c3 z1 z3
    go_wp2_with fail
    go_region_held3 (fun w' => w'.cell? ⟨bh,1,none⟩ = some (.slice (some ⟨bi,0,none⟩) (L.length + 1) cap) ∧ w'.cell? ⟨bh,2,none⟩ = some (.map (some bm))) (go_keep) (fail)
    go_wp2_with fail
    have hpl : PlaceOf (fun j => if j = next then some (L.length : Int) else f j) (L ++ [(v, next)]) :=
      HP.out.push (fun i hi e => by have := Hh.out.hs i hi; omega)
    have hfx : Fr (fun b => b = bh ∨ (Value.slice sa L.length sc).ownBlock = some b ∨ b = bm) w (setMap wc.drew bm es c) := by
      refine Fr.setMap (Fr.drew (Hf2.out.mono ?_)) (fun _ => Or.inr (Or.inr rfl)) _ _
      rintro b _ (h | h)
      · exact .inl h
      · exact .inr (.inl h)
    have hg : ∀ b, (b = bh ∨ (Value.slice sa L.length sc).ownBlock = some b ∨ b = bm) → G b := by
      rintro b (rfl | h | rfl)
      · exact Hh.out.gh
      · exact Gs.out b h
      · exact Gm.out
    have hJ : J (setMap wc.drew bm es c) := HL.out.keep w _ Hh.out.j (hfx.mono (fun b _ hb => Hh.out.nj b (hg b hb)))
    have nbh : bh ≠ bm := by
      intro e
      obtain ⟨l, c, hb, _⟩ := HM.out; rw [← e, HH.out] at hb; simp at hb
    have hbiG : G bi ∨ w.heap.size ≤ bi := by
      rcases Ho2.out with h | ⟨b, h, h'⟩
      · exact .inl (Gs.out bi (by rw [← h]; rfl))
      · simp only [Value.ownBlock, Option.some.injEq] at h; subst h; exact .inr h'
    have nbi : ¬ FJ bi := by
      rcases hbiG with h | h
      · exact Hh.out.nj bi h
      · intro hF; have := HL.out.bound w bi Hh.out.j hF; omega
    have nbib : bi ≠ bm := by
      intro e
      obtain ⟨l, c, hb, _⟩ := HM3.out
      have h3 := setMap_ne (w := wc.drew) nbh es c
      have hIb := HI.out
      obtain ⟨l2, c2, hb2, _⟩ := HM.out.fr Hf2.out nbm
      rw [e, hb2] at hIb; simp at hIb
    have hHp : Hp J A fv (.int .i64 (next + 1)) bh bi bm (L.length + 1) cap (L ++ [(v, next)]) (setMap wc.drew bm es c) :=
      ⟨hJ, by rw [setMap_ne nbh, heap_drew]; exact (by simpa using HH2.out), ⟨arr, by rw [setMap_ne nbib, heap_drew]; exact HI.out, Hs.out, Hc.out⟩, ⟨_, HM3.out, hpl⟩,
        by have := all_append (p := fun x => A x.1) (x := (v, next)) Hh.out.all hv; simpa using this, by simp⟩
    refine (hHp.settle HL.out (Hh.out.nj _ Hh.out.gh) nbi (Hh.out.nj _ Gm.out) (by have := Hn.out; omega) (at_ := L.length) (by omega)).mono ?_
    rintro e1 w1 ⟨rfl, h1, f1⟩
    have H1 := Lib.hid h1; have F1 := Lib.hid f1; have Hfx := Lib.hid hfx; have Hg := Lib.hid hg; have HbiG := Lib.hid hbiG; have Nbi := Lib.hid nbi
    clear h1 f1 hfx hg hHp hJ hpl hbiG nbi
    go_wp2_with fail
    go_ret2
    have hperm : (pushF lt L v next).Perm (L ++ [(v, next)]) := settleF_perm lt (by simp)
    obtain ⟨arr', r1, r2, r3⟩ := H1.out.row
    obtain ⟨f', m1, m2⟩ := H1.out.map
    have hlen' : (pushF lt L v next).length = L.length + 1 := by rw [hperm.length_eq]; simp
    have hle : w.heap.size ≤ w1.heap.size := Nat.le_trans Hfx.out.size F1.out.size
    refine ⟨w, F01.out, rfl, fun b => G b ∨ b = bi, ⟨⟨.slice (some ⟨bi, 0, none⟩) (L.length + 1) cap, bm, H1.out.hH, ?_, ⟨f', m1, m2⟩, .inl Gm.out, ?_⟩, .inl Hh.out.gh, ?_, ?_, H1.out.j, ?_, ?_, ?_, by omega⟩, ?_, ?_⟩
    · show Row w1 _ 5 _ (pushF lt L v next).length _
      rw [hlen']
      refine ⟨by rw [flat_length]; exact congrArg (· * 5) hlen', .inr ⟨bi, cap, arr', rfl, Nat.zero_le _, r1, hcl, ?_, r2, ?_⟩⟩
      · exact hcm
      · rw [← hlen']; exact take_of_cells5 r3 (by show (pushF lt L v next).length * 5 ≤ _; rw [r2, hlen']; omega)
    · intro b hb; simp only [Value.ownBlock, Option.some.injEq] at hb; exact .inr hb.symm
    · rintro b (h | rfl)
      · exact Nat.lt_of_lt_of_le (Hh.out.bd b h) hle
      · exact lt_of_block r1
    · rintro b (h | rfl)
      · exact Hh.out.nj b h
      · exact Nbi.out
    · exact all_perm hperm (p := fun x => A x.1) (all_append (p := fun x => A x.1) Hh.out.all hv)
    · exact all_perm hperm (p := fun x => 0 ≤ x.2 ∧ x.2 < next + 1) (all_append (p := fun x => 0 ≤ x.2 ∧ x.2 < next + 1) (fun i hi => by have := Hh.out.hs i hi; omega) ⟨h0, by dsimp only; omega⟩)
    · rw [hlen']; have := Hn.out; omega
    · refine (Hfx.out.mono (fun b _ hb => .inr (Hg.out b hb))).trans F1.out ?_
      rintro b hb (h | h | h)
      · exact .inl h
      · subst h; rcases HbiG.out with h | h
        · exact .inr h
        · omega
      · subst h; exact .inr Gm.out
    · rintro b (h | rfl)
      · exact .inl h
      · exact HbiG.out
end
end Go.Proofs.Ytjfnaflbhmeokaa.Wt
