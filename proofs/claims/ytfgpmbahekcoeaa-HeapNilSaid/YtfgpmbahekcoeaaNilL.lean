/- HeapNil's walk. No condition. -/
import Derived.RangeFuncFrom
import Derived.RangeFuncWrites
import Derived.Test.YtfgpmbahekcoeaaIter
import Derived.Test.YtfgpmbahekcoeaaAwk
namespace Go.Proofs.Ytfgpmbahekcoeaa
open Go.RowKit Go.Shelf
attribute [local go_sem] Oper.semAt_some
theorem NoHeap.below {w w' : World} {p : Option Addr} (h : NoHeap w p) (hb : Below w.heap.size w w') : NoHeap w' p := by
  rcases h with rfl | ⟨b, v1, v2, v3, rfl, h⟩
  · exact .inl rfl
  · exact .inr ⟨b, v1, v2, v3, rfl, (hb.block b (lt_of_block h)).trans h⟩
set_option maxRecDepth 100000 in
set_option maxHeartbeats 4000000 in
theorem none_in {w : World} {p : Option Addr} (h : NoHeap w p) (n : Int) :
    CallsIn Fence.wide 3 Try.prog 30 #[.pointer p, .int .i64 n] w fun e w' => e = .returned (.bool true) ∧ Below w.heap.size w w' := by
  have hro : Fence.wide.round = none := rfl
  have h1 : 1 ≤ 3 := by omega
  have h0 := h.below ((Below.refl w.heap.size w).alloc (Nat.le_refl _) (.cells #[.bool false] 4))
  refine callsIn_of_wp_marks Try.func30 rfl trivial ?_ hro
  have H0 := Lib.hid h0; have H := Lib.hid h
  clear h0 h
  simp only [Try.ntmps30, List.size_toArray, List.length_cons, List.length_nil, Nat.reduceAdd, Nat.reduceSub, Array.replicate_succ, Array.replicate_zero, List.push_toArray, List.append_toArray, List.nil_append, List.cons_append]
  gi_wp2_with (first
    | (refine ⟨trivial, ?_⟩; gi_at_call 26; refine (callsIn_wide.2 (nil_push H0.out n)).mono ?_; rintro e w' ⟨rfl, rfl⟩)
    | (refine ⟨trivial, ?_⟩; gi_at_call 53; refine (callsIn_wide.2 (nil_least H0.out)).mono ?_; rintro e w' ⟨rfl, rfl⟩)
    | (refine ⟨trivial, ?_⟩; gi_at_call 25; refine (callsIn_wide.2 (nil_pop H0.out)).mono ?_; rintro e w' ⟨rfl, rfl⟩)
    | (refine ⟨trivial, ?_⟩; gi_at_call 70; refine (callsIn_wide.2 (nil_get H0.out n)).mono ?_; rintro e w' ⟨rfl, rfl⟩)
    | (refine ⟨trivial, ?_⟩; gi_at_call 24; refine (callsIn_wide.2 (nil_all H0.out)).mono ?_; rintro e w' ⟨rfl, rfl⟩))
  have hB0 : Below w.heap.size w ((w.alloc (.cells #[.bool false] 4)).alloc (.cells #[.slice none 0 0] 70)) := ((Below.refl _ w).alloc (Nat.le_refl _) _).alloc (by simp) _
  have bS := (Boxed.new w 4 (.bool false)).alloc (.cells #[.slice none 0 0] 70)
  have bN := Boxed.new (w.alloc (.cells #[.bool false] 4)) 70 (.slice none 0 0)
  rw [World.size_alloc] at bN
  refine wpIn_rangeFunc_ownF hro h1 (gf := 67) (lb := #[.pointer (some ⟨w.heap.size + 1, 0, none⟩)]) rfl trivial (enters_of Try.func67 (by kernel_rfl) rfl)
    (iter_stops Fence.wide (3 - 1) trivial hro (by omega) (w.heap.size + 1) w.heap.size _ [] (by simp) _ (by simp) (by simp; omega) bN.cell (.inl ⟨rfl, rfl⟩)) belowK_t (belowK_b (by simp; omega)) (Below.refl _ _) (fun _ => rfl)
    (fun pre W => (W.cell? ⟨w.heap.size, 0, none⟩ = some (.bool false) ∧ W.frozen? ⟨w.heap.size, 0, none⟩ = false) ∧ Below w.heap.size w W)
    (fun _ _ _ => False)
    (OwnFrom.and (Own.from (fun s A B row hs hg hr => ⟨cell_kept hs.1 hg hr, (frozen_kept hs.1 hg hr).trans hs.2⟩) _) (ownFrom_below (Nat.le_refl _) (by simp; omega)))
    (fun _ _ _ _ _ hs _ _ => hs)
    ⟨⟨bS.cell, bS.frozen⟩, hB0⟩
    ?a1 ?assign ?body ?done ?stop
  case assign =>
    intro l x W K hK
    gi_wp2
    exact hK
  case body =>
    intro l pre x W _ hlt
    exact absurd hlt (by simp)
  case stop =>
    rintro D c pre W _ _ h _
    exact h.elim
  case done =>
    rintro D ys W hD rfl ⟨⟨hc, hf⟩, hB⟩ hK
    have HW := Lib.hid (H.out.below hB)
    have HD := Lib.hid hD; have HB := Lib.hid hB; have HK := Lib.hid hK
    clear hD hB hK hB0 bS bN
    gi_wp2_with (first
      | (refine ⟨trivial, ?_⟩; gi_at_call 27; refine (callsIn_wide.2 (nil_set HW.out n 1)).mono ?_; rintro e w' ⟨rfl, rfl⟩)
      | (refine ⟨trivial, ?_⟩; gi_at_call 28; refine (callsIn_wide.2 (nil_drop HW.out n)).mono ?_; rintro e w' ⟨rfl, rfl⟩)
      | (refine ⟨trivial, ?_⟩; gi_at_call 54; refine (callsIn_wide.2 (nil_len HW.out)).mono ?_; rintro e w' ⟨rfl, rfl⟩))
    have hK' := (KeepsOthers.setCell W ⟨w.heap.size, 0, none⟩ (.bool true)).same D _ HK.out rfl
    refine ⟨by simp, .inl ⟨_, _, rfl, run_takeDeferred hK', ?_⟩⟩
    have hc5 := cell_kept (World.cell?_setCell_same' W ⟨w.heap.size, 0, none⟩ (.bool true) (by rw [hc]; rfl)) (grownBy_putObj' _ D (.deferred none)) (fun r e => by cases e; exact ⟨_, hK', rfl⟩)
    have hD := HD.out
    refine ⟨.bool true, ?_, rfl, (HB.out.setCell (p := ⟨w.heap.size, 0, none⟩) (Nat.le_refl _) _).trans (belowK_b (w := w) (Nat.le_refl _) _ D _ _ (by simp at hD; omega) hK' rfl rfl)⟩
    simp [results, Try.f30, go_sem, hc5]
end Go.Proofs.Ytfgpmbahekcoeaa
