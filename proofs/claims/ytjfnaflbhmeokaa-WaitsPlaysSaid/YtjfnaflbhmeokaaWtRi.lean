/- The document's list of waiting parties: out. No condition. -/
import Derived.Test.YtjfnaflbhmeokaaWtRh
namespace Go.Proofs.Ytjfnaflbhmeokaa.Wt
open Go.Shelf Go.RowKit
/-- The two appends that leave a party out. -/
theorem out_runs {w : World} {S : List Int} (hf : S.length ≤ 1024) {k : Nat} (hk : k < S.length) {a1 a2 : Option Addr} {c1 c2 : Nat} (s1 : SrcAt w 4 encW a1 (S.take k)) (s2 : SrcAt w 4 encW a2 (S.drop (k + 1))) (l2 : ∀ g o, a2 = some ⟨g, o, none⟩ → g < w.heap.size) :
    ∃ b1 d1 w1 b3 d3 w3, (Builtin.append_ #[26, 26] 26 #[.slice none 0 0, .slice a1 k c1]).run Try.prog w = .ok (.slice b1 k d1) w1 ∧
      (Builtin.append_ #[26, 26] 26 #[.slice b1 k d1, .slice a2 (S.length - (k + 1)) c2]).run Try.prog w1 = .ok (.slice b3 (S.length - 1) d3) w3 ∧
      Fr (fun _ => False) w w1 ∧ Fr (fun _ => False) w w3 ∧ Wts w3 (.slice b3 (S.length - 1) d3) (S.take k ++ S.drop (k + 1)) ∧ ∀ b, (Value.slice b3 (S.length - 1) d3).ownBlock = some b → w.heap.size ≤ b := by
  have l1 : (S.take k).length = k := by rw [List.length_take]; omega
  obtain ⟨b1, d1, w1, r1, e1, f1, o1⟩ := Els.apps (P := Try.prog) (t := 26) (ty := 26) encW_len (show Els w 32 4 encW (.slice none 0 0) [] from World.ownsRow_nil _ _ _ _) Try.underlying26 Try.infoWait rfl (by decide) encW_one (c := c1) s1 l1.symm (by rw [l1]; simp; omega) (by decide)
  simp only [List.length_nil, Nat.zero_add, List.nil_append] at r1 e1 o1
  have f1' : Fr (fun _ => False) w w1 := f1.mono (fun b _ h => by simp [Value.ownBlock] at h)
  have o1' : ∀ b, (Value.slice b1 k d1).ownBlock = some b → w.heap.size ≤ b := fun b hb => by
    rcases o1 b hb with h | h
    · simp [Value.ownBlock] at h
    · omega
  have l2' : (S.drop (k + 1)).length = S.length - (k + 1) := by rw [List.length_drop]
  obtain ⟨b3, d3, w3, r3, e3, f3, o3⟩ := Els.apps (P := Try.prog) (t := 26) (ty := 26) encW_len (L := S.take k) e1 Try.underlying26 Try.infoWait rfl (by decide) encW_one (c := c2) (s2.fr f1' (fun _ _ _ h => h) l2) l2'.symm (by rw [l1, l2']; omega) (by decide)
  have e4 : (S.take k).length + (S.length - (k + 1)) = S.length - 1 := by rw [l1]; omega
  rw [e4] at r3 e3 o3
  refine ⟨b1, d1, w1, b3, d3, w3, r1, r3, f1', f1'.trans f3 (fun b hb h => by have := o1' b h; omega), e3, ?_⟩
  intro b hb
  rcases o3 b hb with h | h
  · exact o1' b h
  · have := f1'.size; omega
section
variable {G : Nat → Prop} {rb : Nat} {S : List Int} {w : World}
set_option maxRecDepth 100000 in
set_option maxHeartbeats 4000000 in
theorem rout_ok (h : RfAt G rb S w) (ho : Ord S) (hlo : Lone S) {k : Nat} (hk : k < S.length) :
    Calls Try.prog 75 #[.pointer (some ⟨rb, 0, none⟩), .int .i64 (k : Int)] w fun e w' => e = .returned (wtV (S.getD k 0)) ∧ ∃ G', RfAt G' rb (outW (wW (S.getD k 0)) S) w' ∧ Fr G w w' ∧ Grew w G G' := by
  obtain ⟨x, hx⟩ : ∃ x, x = S.getD k 0 := ⟨_, rfl⟩
  rw [← hx]
  obtain ⟨W, hW⟩ : ∃ W, W = (w.alloc (.cells #[.int .u32 0, .int .i64 0, .int .i64 0, .int .i64 0] 32)).alloc (.cells #[.int .u32 (wW x), .int .i64 (wS x), .int .i64 (wT x), .int .i64 (wC x)] 32) := ⟨_, rfl⟩
  obtain ⟨z, hz⟩ : ∃ z, z = w.heap.size := ⟨_, rfl⟩
  have f0 : Fr (fun _ => False) w W := by rw [hW]; exact Fr.alloc (Fr.alloc (Fr.refl _ _) _) _
  have hg : W.heap[z]? = some (.cells #[.int .u32 0, .int .i64 0, .int .i64 0, .int .i64 0] 32 (0, 0)) := by rw [hW, hz]; simp only [heap_alloc_get, World.size_alloc]; simp
  have hg2 : W.heap[z + 1]? = some (.cells #[.int .u32 (wW x), .int .i64 (wS x), .int .i64 (wT x), .int .i64 (wC x)] 32 (0, 0)) := by rw [hW, hz]; simp only [heap_alloc_get, World.size_alloc]; simp
  obtain ⟨sv, h1, h2, h3⟩ := h.ex
  obtain ⟨n, hnn⟩ : ∃ n, n = S.length := ⟨_, rfl⟩
  obtain ⟨g, c, ev, d0, d1, d2, d3⟩ := Wts.cells h2 hk
  rw [← hx] at d0 d1 d2 d3
  rw [← hnn] at ev
  have hnc : n ≤ c := by
    rcases h2.2 with ⟨e1, e2⟩ | ⟨g, cap, cur, e1, _, _, e2, _⟩
    · omega
    · rw [ev] at e1; obtain ⟨_, _, rfl⟩ := Value.slice.inj e1; omega
  have hfew := h.few
  have lg : g < w.heap.size := Row.lt h2 (b := g) (by rw [ev]; rfl)
  have c0 := (cell_of h1 0).trans (show _ = some sv from rfl)
  rw [ev] at c0
  have hwr := Row.fr h2 f0 (fun _ _ h => h)
  have hrb := f0.get h1 (fun h => h)
  obtain ⟨a2, ha2, s2, l2⟩ : ∃ a2, (if c = k + 1 then (some ⟨g, 0, none⟩ : Option Addr) else some ⟨g, (k + 1) * 4, none⟩) = a2 ∧ SrcAt W 4 encW a2 (S.drop (k + 1)) ∧ ∀ g o, a2 = some ⟨g, o, none⟩ → g < W.heap.size := by
    rw [ev] at hwr
    have lgW : g < W.heap.size := Nat.lt_of_lt_of_le lg f0.size
    by_cases hck : c = k + 1
    · refine ⟨some ⟨g, 0, none⟩, by rw [if_pos hck], ?_, fun g' o e => by cases e; exact lgW⟩
      have : S.drop (k + 1) = [] := List.drop_eq_nil_of_le (by omega)
      rw [this]; exact SrcAt.nil (.inr ⟨_, _, rfl⟩)
    · exact ⟨some ⟨g, (k + 1) * 4, none⟩, by rw [if_neg hck], Els.srcDrop encW_len (show Els W 32 4 encW (.slice (some ⟨g, 0, none⟩) n c) S from hwr) (k + 1), fun g' o e => by cases e; exact lgW⟩
  have s1 := Els.srcTake encW_len (show Els W 32 4 encW (.slice (some ⟨g, 0, none⟩) n c) S by rw [← ev]; exact hwr) k
  obtain ⟨b1, e1, w1, b3, e3, w3, r1, r3, f1, f3, hw3, o3⟩ := out_runs (w := W) (S := S) h.few hk (c1 := c) (c2 := c - (k + 1)) s1 s2 l2
  rw [out_outW ho hlo hk, ← hx] at hw3
  have hlen : (outW (wW x) S).length ≤ 1024 := by unfold outW; exact Nat.le_trans (List.length_filter_le _ _) h.few
  obtain ⟨G', g1, g2, g3⟩ := (h.fr f0 (fun _ _ h => h)).laid f3 hw3 hlen o3
  have hrb1 := f1.get hrb (fun h => h)
  have c1 := (cell_of hrb1 0).trans (show _ = some sv from rfl)
  rw [ev] at c1
  have hrb3 := f3.get hrb (fun h => h)
  have c3 := (cell_of hrb3 0).trans (show _ = some sv from rfl)
  have y3 := free_of hrb3 0
  have lrb := lt_of_block h1
  -- what is handed back
  obtain ⟨n1, hn1⟩ : ∃ n1, n1 = n - 1 := ⟨_, rfl⟩
  rw [← hnn] at r3 g1 g2
  rw [← hn1] at r3 g1 g2
  obtain ⟨w4, hw4⟩ : ∃ w4, w4 = w3.setCell ⟨rb, 0, none⟩ (.slice b3 n1 e3) := ⟨_, rfl⟩
  have f4 : Fr (fun b => b = rb) w3 w4 := by rw [hw4]; exact Fr.setCell (F := fun b => b = rb) (p := ⟨rb, 0, none⟩) (Fr.refl _ _) (fun _ => rfl) _
  have gz4 := f4.get (f3.get hg (fun h => h)) (by omega)
  have gy4 := f4.get (f3.get hg2 (fun h => h)) (by omega)
  obtain ⟨q0, q1, q2, q3⟩ := boxW_cells gy4
  have t0 := (cell_of gz4 0).trans (show _ = some (Value.int .u32 0) from rfl)
  have t1 := (cell_of gz4 1).trans (show _ = some (Value.int .i64 0) from rfl)
  have t2 := (cell_of gz4 2).trans (show _ = some (Value.int .i64 0) from rfl)
  have t3 := (cell_of gz4 3).trans (show _ = some (Value.int .i64 0) from rfl)
  have u0 := free_of gz4 0; have u1 := free_of gz4 1; have u2 := free_of gz4 2; have u3 := free_of gz4 3
  have hfin := setCell_blk (o := 3) (setCell_blk (o := 2) (setCell_blk (o := 1) (setCell_blk (o := 0) gz4 (.int .u32 (wW x))) (.int .i64 (wS x))) (.int .i64 (wT x))) (.int .i64 (wC x))
  have v0 := (cell_of hfin 0).trans (show _ = some (Value.int .u32 (wW x)) from rfl)
  have v1 := (cell_of hfin 1).trans (show _ = some (Value.int .i64 (wS x)) from rfl)
  have v2 := (cell_of hfin 2).trans (show _ = some (Value.int .i64 (wT x)) from rfl)
  have v3 := (cell_of hfin 3).trans (show _ = some (Value.int .i64 (wC x)) from rfl)
  have f5 : Fr (fun b => b = z) w4 ((((w4.setCell ⟨z, 0, none⟩ (.int .u32 (wW x))).setCell ⟨z, 1, none⟩ (.int .i64 (wS x))).setCell ⟨z, 2, none⟩ (.int .i64 (wT x))).setCell ⟨z, 3, none⟩ (.int .i64 (wC x))) :=
    ((((Fr.refl (fun b => b = z) _).setCell (p := ⟨z, 0, none⟩) (fun _ => rfl) _).setCell (p := ⟨z, 1, none⟩) (fun _ => rfl) _).setCell (p := ⟨z, 2, none⟩) (fun _ => rfl) _).setCell (p := ⟨z, 3, none⟩) (fun _ => rfl) _
  rw [← hw4] at g1 g2
  have hzW : z < W.heap.size := lt_of_block hg
  have G1 := Lib.hid (g1.fr f5 (fun b hb e => by
    rcases g3 b hb with h' | h'
    · have := h.bd b h'; omega
    · omega))
  have G2 := Lib.hid (((f0.mono (fun _ _ h => h.elim) : Fr G w W).trans g2 (fun _ _ h => h)).trans f5 (fun b hb e => by omega))
  have G3 := Lib.hid (show Grew w G G' from fun b hb => (g3 b hb).imp (fun h => h) (fun h' => Nat.le_trans f0.size h'))
  have R1 := Lib.hid r1; have R3 := Lib.hid r3
  have hk0 : (0 : Int) ≤ (k : Int) := by omega
  have hkn : k < n := by omega
  have hkn' : (k : Int) < (n : Int) := by omega
  have hk3 : k + 1 ≤ n := by omega
  have hk4 : k ≤ c := by omega
  have hk6 : k ≤ n := by omega
  have hn6 : (n : Int) ≤ 1024 := by omega
  have HcW := Lib.hid ((f0.cell lrb (fun h => h)).trans c0)
  have Hif := Lib.hid ha2
  have HLrb := Lib.hid lrb; have HLg := Lib.hid lg
  have HW := Lib.hid hW; have HZ := Lib.hid hz; have HW4 := Lib.hid hw4
  clear h h1 h2 h3 hfew ho hlo hk hx f0 hg hg2 hnn ev hwr hrb s1 s2 l2 r1 r3 f1 f3 hw3 o3 hlen g1 g2 g3 hrb1 hrb3 hn1 f4 gz4 gy4 hfin f5 hzW lg lrb hnc hW hz hw4
  go_enter Try.func75, Try.ntmps75
  go_upto_region 1 with fail
  obtain ⟨W0, hW0⟩ : ∃ W0, W0 = w.alloc (.cells #[.int .u32 0, .int .i64 0, .int .i64 0, .int .i64 0] 32) := ⟨_, rfl⟩
  have fA : Fr (fun _ => False) w W0 := by rw [hW0]; exact Fr.alloc (Fr.refl _ _) _
  have c0 := (fA.cell HLrb.out (fun h => h)).trans c0
  have d0 := (fA.cell HLg.out (fun h => h)).trans d0
  have d1 := (fA.cell HLg.out (fun h => h)).trans d1
  have d2 := (fA.cell HLg.out (fun h => h)).trans d2
  have d3 := (fA.cell HLg.out (fun h => h)).trans d3
  have hs0 : W0.heap.size = z + 1 := by rw [hW0, HZ.out]; simp
  have HW1 := Lib.hid (show W = W0.alloc (.cells #[.int .u32 (wW x), .int .i64 (wS x), .int .i64 (wT x), .int .i64 (wC x)] 32) by rw [HW.out, hW0])
  have Hs0 := Lib.hid hs0
  rw [← hW0, ← HZ.out]
  clear hW0 fA hs0
  go_upto_region 3 with fail
  rw [← HW1.out, Hs0.out]
  have cW := HcW.out
  go_cut [6] (fun s6 wx => s6 = .slice b1 k e1 ∧ wx = w1)
  case first =>
    go_wp2_with (at_builtin; refine wpList_append_run rfl _ _ _ rfl rfl rfl R1.out ?_)
    go_meet
    exact ⟨rfl, rfl⟩
  case rest =>
    obtain ⟨rfl, rfl⟩ := hcut
    clear cW c0 d0 d1 d2 d3
    go_upto_region 5 with (at_builtin; refine wpList_append_run rfl _ _ _ rfl rfl rfl R3.out ?_)
    rw [← HW4.out]
    clear c1 c3 y3
    go_wp2_with fail
    refine bodyPost_ret (v := wtV x) ?_ rfl ⟨rfl, G', G1.out, G2.out, G3.out⟩
    simp [results, Try.results75, Try.f75, go_sem, v0, v1, v2, v3]
end
end Go.Proofs.Ytjfnaflbhmeokaa.Wt
