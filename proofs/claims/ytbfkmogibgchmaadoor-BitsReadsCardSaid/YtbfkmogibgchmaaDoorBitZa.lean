/- is: has a set just what the document's has? Condition: the table of math/bits. -/
import Derived.Test.YtbfkmogibgchmaaDoorBitV
namespace Go.Proofs.YtbfkmogibgchmaaDoor.Bt
open Go.RowKit
set_option maxRecDepth 100000 in
set_option maxHeartbeats 8000000 in
theorem is_ok {w : World} (hT : TabOk w) {bh rh : Nat} {v rv : Value} {B : List Bool} (hs : SetAt w bh v B) (hr : RefAt w rh rv true B) :
    Calls Tryd.prog 33 #[.pointer (some ⟨bh, 0, none⟩), .pointer (some ⟨rh, 0, none⟩)] w fun e w' => e = .returned (.bool true) ∧ Fr (fun _ => False) w w' := by
  obtain ⟨a, c, rfl⟩ := hr.shape
  have h5 : (asInts (allL B)).length ≤ 1000000 := by
    have h1 := allTo_len B B.length
    have h2 := hs.small
    unfold asInts allL
    simp; omega
  have h7 : (flatG (gapsL B)).length ≤ 1000000 := by
    have h1 := gapsL_len B
    have h2 := hs.small
    rw [flatG_length]; omega
  have h8 : nb B.length ≤ 1000000 := by have h2 := hs.small; unfold nb; omega
  have HT := Lib.hid hT; have HS := Lib.hid hs; have HR := Lib.hid hr; have Hs5 := Lib.hid h5; have Hs7 := Lib.hid h7; have Hs8 := Lib.hid h8
  clear hT hs hr h5 h7 h8
  go_enter Tryd.func33, Tryd.ntmps33
  go_wp2_with fail
  refine (all_ok HT.out HS.out).mono ?_
  rintro e w1 ⟨cb, bh', v', rfl, hq⟩
  have Hq := Lib.hid hq
  clear hq
  go_wp2_with fail
  refine (told_ok Hq.out.seq).mono ?_
  rintro e w2 ⟨sv, rfl, r5, _, f2⟩
  have F2 := Lib.hid (Hq.out.fr.trans f2 (fun _ _ h => h)); have R5 := Lib.hid r5
  clear f2 r5
  go_wp2_with fail
  refine (gaps_ok (HT.out.fr F2.out (fun h => h)) (HS.out.fr F2.out (fun h => h) (fun _ _ h => h))).mono ?_
  rintro e w3 ⟨cb2, bh2, v2, rfl, hq2⟩
  have Hq2 := Lib.hid hq2
  clear hq2
  go_wp2_with fail
  refine (pairs_ok Hq2.out.seq).mono ?_
  rintro e W ⟨sv2, rfl, r7, _, f4⟩
  have f24 := Hq2.out.fr.trans f4 (fun _ _ h => h)
  have F4 := Lib.hid (F2.out.trans f24 (fun _ _ h => h)); have R7 := Lib.hid r7
  have R5 := Lib.hid (Row.fr R5.out f24 (fun _ _ h => h))
  have HS1 := Lib.hid (HS.out.fr F4.out (fun h => h) (fun _ _ h => h)); have HR1 := Lib.hid (HR.out.fr F4.out (fun h => h) (fun _ _ h => h))
  have r1 := HR1.out.c1
  clear f4 f24 r7
  have HBound := Lib.hid (show ∀ w0, Fr (fun _ => False) W w0 → Calls Tryd.prog 49 #[.pointer (some ⟨bh, 0, none⟩)] w0 (fun e w' => e = .returned (.int .i64 B.length) ∧ Fr (fun _ => False) w0 w') from fun w0 f => (bound_ok (HS1.out.fr f (fun h => h) (fun _ _ h => h))).mono (fun e w' h => ⟨h.1, h.2 ▸ Fr.refl _ _⟩))
  have HCount := Lib.hid (show ∀ w0, Fr (fun _ => False) W w0 → Calls Tryd.prog 39 #[.pointer (some ⟨bh, 0, none⟩)] w0 (fun e w' => e = .returned (.int .i64 (cnt B)) ∧ Fr (fun _ => False) w0 w') from fun w0 f => (count_ok (HS1.out.fr f (fun h => h) (fun _ _ h => h))).mono (fun e w' h => ⟨h.1, h.2 ▸ Fr.refl _ _⟩))
  have RCount := Lib.hid (show ∀ w0, Fr (fun _ => False) W w0 → Calls Tryd.prog 50 #[.pointer (some ⟨rh, 0, none⟩)] w0 (fun e w' => e = .returned (.int .i64 (cnt B)) ∧ Fr (fun _ => False) w0 w') from fun w0 f => (rcount_ok (HR1.out.fr f (fun h => h) (fun _ _ h => h))).mono (fun e w' h => ⟨h.1, h.2 ▸ Fr.refl _ _⟩))
  have RAll := Lib.hid (show ∀ w0, Fr (fun _ => False) W w0 → Calls Tryd.prog 51 #[.pointer (some ⟨rh, 0, none⟩)] w0 (fun e w' => ∃ sv, e = .returned sv ∧ Own1 w0.heap.size w' sv (asInts (allL B)) ∧ Fr (fun _ => False) w0 w') from fun w0 f => rall_ok (HR1.out.fr f (fun h => h) (fun _ _ h => h)))
  have RGaps := Lib.hid (show ∀ w0, Fr (fun _ => False) W w0 → Calls Tryd.prog 52 #[.pointer (some ⟨rh, 0, none⟩)] w0 (fun e w' => ∃ sv, e = .returned sv ∧ Own1 w0.heap.size w' sv (flatG (gapsL B)) ∧ Fr (fun _ => False) w0 w') from fun w0 f => rgaps_ok (HR1.out.fr f (fun h => h) (fun _ _ h => h)))
  have HBytes := Lib.hid (show ∀ w0, Fr (fun _ => False) W w0 → Calls Tryd.prog 14 #[.pointer (some ⟨bh, 0, none⟩)] w0 (fun e w' => ∃ a c, e = .returned (.slice a (nb B.length) c) ∧ Row w' 5 1 (.slice a (nb B.length) c) (nb B.length) ((bytes B).map u8v) ∧ Fr (fun _ => False) w0 w') from fun w0 f => (bytes_ok (HS1.out.fr f (fun h => h) (fun _ _ h => h))).mono (fun e w' ⟨a, c, h1, h2, _, h4⟩ => ⟨a, c, h1, h2, h4⟩))
  have RBytes := Lib.hid (show ∀ w0, Fr (fun _ => False) W w0 → Calls Tryd.prog 53 #[.pointer (some ⟨rh, 0, none⟩)] w0 (fun e w' => ∃ a c, e = .returned (.slice a (nb B.length) c) ∧ Row w' 5 1 (.slice a (nb B.length) c) (nb B.length) ((bytes B).map u8v) ∧ Fr (fun _ => False) w0 w') from fun w0 f => (rbytes_ok (HR1.out.fr f (fun h => h) (fun _ _ h => h))).mono (fun e w' ⟨a, c, h1, h2, _, h4⟩ => ⟨a, c, h1, h2, h4⟩))
  generalize cnt B = cq at HCount RCount
  go_upto_region 3 with fail
  refine wp_region_held_drew (S := fun w' => Fr (fun _ => False) W w' ∧ w'.cell? ⟨rh, 1, none⟩ = some (.slice a B.length c)) (by kernel_rfl) (by exact ⟨Fr.drew (Fr.refl _ _), r1⟩) (fun hHeld => ?_)
  refine wpAnyH_take (i := 0) (v := ?_) rfl (by kernel_rfl) (by kernel_rfl) (by kernel_rfl) (fun _ _ _ h => h) (Or.inl ⟨by rfl, ?_⟩) (by assumption) ?_
  rotate_left
  · intro w' hSw; (try dsimp only at hSw); go_simp; try with_reducible rfl
  try simp only [Act.put, List.getElem_toArray, List.getElem_cons_zero, List.getElem_cons_succ, List.setIfInBounds_toArray, List.set_cons_zero, List.set_cons_succ]
  refine wpAnyH_take (i := 1) (v := ?_) rfl (by kernel_rfl) (by kernel_rfl) (by kernel_rfl) (fun _ _ _ h => h) (Or.inl ⟨by rfl, ?_⟩) (by assumption) ?_
  rotate_left
  · intro w' hSw; (try dsimp only at hSw); go_simp; try with_reducible rfl
  try simp only [Act.put, List.getElem_toArray, List.getElem_cons_zero, List.getElem_cons_succ, List.setIfInBounds_toArray, List.set_cons_zero, List.set_cons_succ]
  refine wpAnyH_take (i := 2) (v := ?_) rfl (by kernel_rfl) (by kernel_rfl) (by kernel_rfl) (fun _ _ _ h => h) (Or.inl ⟨by rfl, ?_⟩) (by assumption) ?_
  rotate_left
  · intro w' hSw; (try dsimp only at hSw); go_simp; try with_reducible rfl
  try simp only [Act.put, List.getElem_toArray, List.getElem_cons_zero, List.getElem_cons_succ, List.setIfInBounds_toArray, List.set_cons_zero, List.set_cons_succ]
  refine wpAnyH_take (i := 3) (v := ?_) rfl (by kernel_rfl) (by kernel_rfl) (by kernel_rfl) (fun _ _ _ h => h) (Or.inl ⟨by rfl, ?_⟩) (by assumption) ?_
  rotate_left
  · intro w' hSw; (try dsimp only at hSw); go_simp; try with_reducible rfl
  try simp only [Act.put, List.getElem_toArray, List.getElem_cons_zero, List.getElem_cons_succ, List.setIfInBounds_toArray, List.set_cons_zero, List.set_cons_succ]
  refine wpAnyH_take (i := 4) (v := ?_) rfl (by kernel_rfl) (by kernel_rfl) (by kernel_rfl) (fun _ _ _ h => h) (Or.inl ⟨by rfl, ?_⟩) (by assumption) ?_
  rotate_left
  · intro w' hSw; (try dsimp only at hSw); go_simp; try with_reducible rfl
  try simp only [Act.put, List.getElem_toArray, List.getElem_cons_zero, List.getElem_cons_succ, List.setIfInBounds_toArray, List.set_cons_zero, List.set_cons_succ]
  refine wpAnyH_take (i := 5) (v := ?_) rfl (by kernel_rfl) (by kernel_rfl) (by kernel_rfl) (fun _ _ _ h => h) (Or.inl ⟨by rfl, ?_⟩) (by assumption) ?_
  rotate_left
  · intro w' hSw; (try dsimp only at hSw); go_simp; try with_reducible rfl
  try simp only [Act.put, List.getElem_toArray, List.getElem_cons_zero, List.getElem_cons_succ, List.setIfInBounds_toArray, List.set_cons_zero, List.set_cons_succ]
  refine wpAnyH_take (i := 7) (v := ?_) rfl (by kernel_rfl) (by kernel_rfl) (by kernel_rfl) (fun _ _ _ h => h) (Or.inl ⟨by rfl, ?_⟩) (by assumption) ?_
  rotate_left
  · intro w' hSw; (try dsimp only at hSw); go_simp; try with_reducible rfl
  try simp only [Act.put, List.getElem_toArray, List.getElem_cons_zero, List.getElem_cons_succ, List.setIfInBounds_toArray, List.set_cons_zero, List.set_cons_succ]
  refine wpAnyH_take (i := 8) (v := ?_) rfl (by kernel_rfl) (by kernel_rfl) (by kernel_rfl) (fun _ _ _ h => h) (Or.inl ⟨by rfl, ?_⟩) (by assumption) ?_
  rotate_left
  · intro w' hSw; (try dsimp only at hSw); go_simp; try with_reducible rfl
  try simp only [Act.put, List.getElem_toArray, List.getElem_cons_zero, List.getElem_cons_succ, List.setIfInBounds_toArray, List.set_cons_zero, List.set_cons_succ]
  refine wpAnyH_take (i := 9) (v := ?_) rfl (by kernel_rfl) (by kernel_rfl) (by kernel_rfl) (fun _ _ _ h => h) (Or.inl ⟨by rfl, ?_⟩) (by assumption) ?_
  rotate_left
  · intro w' hSw; (try dsimp only at hSw); go_simp; try with_reducible rfl
  try simp only [Act.put, List.getElem_toArray, List.getElem_cons_zero, List.getElem_cons_succ, List.setIfInBounds_toArray, List.set_cons_zero, List.set_cons_succ]
  refine wpAnyH_take (i := 10) (v := ?_) rfl (by kernel_rfl) (by kernel_rfl) (by kernel_rfl) (fun _ _ _ h => h) (Or.inl ⟨by rfl, ?_⟩) (by assumption) ?_
  rotate_left
  · intro w' hSw; (try dsimp only at hSw); go_simp; try with_reducible rfl
  try simp only [Act.put, List.getElem_toArray, List.getElem_cons_zero, List.getElem_cons_succ, List.setIfInBounds_toArray, List.set_cons_zero, List.set_cons_succ]
  refine wpAnyH_take (i := 11) (v := ?_) rfl (by kernel_rfl) (by kernel_rfl) (by kernel_rfl) (fun _ _ _ h => h) (Or.inl ⟨by rfl, ?_⟩) (by assumption) ?_
  rotate_left
  · intro w' hSw; (try dsimp only at hSw); go_simp; try with_reducible rfl
  try simp only [Act.put, List.getElem_toArray, List.getElem_cons_zero, List.getElem_cons_succ, List.setIfInBounds_toArray, List.set_cons_zero, List.set_cons_succ]
  refine wpAnyH_ready (rs := [6]) (by kernel_rfl) (by simp) ?_
  refine AllReadyH.cons rfl (fun K hK => ?_) AllReadyH.nil
  go_simp
  refine (HBound.out _ (by first | exact hHeld.1 | exact Fr.drew (Fr.refl _ _))).mono ?_
  rintro e w1 ⟨rfl, hf⟩
  have Hf := Lib.hid hf
  clear hf
  try go_simp
  refine hK.out _ _ ?_ (fun hHeld => ?_)
  · (try dsimp only); exact ⟨hHeld.1.trans Hf.out (fun _ _ h => h), (Hf.out.cell (World.block_lt_of_cell? _ _ hHeld.2) (fun h => h)).trans hHeld.2⟩
  clear hK K
  try simp only [Act.put, List.getElem_toArray, List.getElem_cons_zero, List.getElem_cons_succ, List.setIfInBounds_toArray, List.set_cons_zero, List.set_cons_succ]
  refine wpAnyH_take (i := 12) (v := ?_) rfl (by kernel_rfl) (by kernel_rfl) (by kernel_rfl) (fun _ _ _ h => h) (Or.inl ⟨by rfl, ?_⟩) (by assumption) ?_
  rotate_left
  · intro w' hSw; (try dsimp only at hSw); go_simp; try with_reducible rfl
  try simp only [Act.put, List.getElem_toArray, List.getElem_cons_zero, List.getElem_cons_succ, List.setIfInBounds_toArray, List.set_cons_zero, List.set_cons_succ]
  refine wpAnyH_take (i := 13) (v := ?_) rfl (by kernel_rfl) (by kernel_rfl) (by kernel_rfl) (fun _ _ _ h => h) (Or.inl ⟨by rfl, ?_⟩) (by assumption) ?_
  rotate_left
  · intro w' hSw; (try dsimp only at hSw); go_simp; try with_reducible rfl
  try simp only [Act.put, List.getElem_toArray, List.getElem_cons_zero, List.getElem_cons_succ, List.setIfInBounds_toArray, List.set_cons_zero, List.set_cons_succ]
  refine wpAnyH_take (i := 14) (v := ?_) rfl (by kernel_rfl) (by kernel_rfl) (by kernel_rfl) (fun _ _ _ h => h) (Or.inl ⟨by rfl, ?_⟩) (by assumption) ?_
  rotate_left
  · intro w' hSw; (try dsimp only at hSw); go_simp; try with_reducible rfl
  try simp only [Act.put, List.getElem_toArray, List.getElem_cons_zero, List.getElem_cons_succ, List.setIfInBounds_toArray, List.set_cons_zero, List.set_cons_succ]
  refine wpAnyH_take (i := 15) (v := ?_) rfl (by kernel_rfl) (by kernel_rfl) (by kernel_rfl) (fun _ _ _ h => h) (Or.inl ⟨by rfl, ?_⟩) (by assumption) ?_
  rotate_left
  · intro w' hSw; (try dsimp only at hSw); go_simp; try with_reducible rfl
  try simp only [Act.put, List.getElem_toArray, List.getElem_cons_zero, List.getElem_cons_succ, List.setIfInBounds_toArray, List.set_cons_zero, List.set_cons_succ]
  refine wpAnyH_take (i := 17) (v := ?_) rfl (by kernel_rfl) (by kernel_rfl) (by kernel_rfl) (fun _ _ _ h => h) (Or.inl ⟨by rfl, ?_⟩) (by assumption) ?_
  rotate_left
  · intro w' hSw; (try dsimp only at hSw); go_simp; try with_reducible rfl
  try simp only [Act.put, List.getElem_toArray, List.getElem_cons_zero, List.getElem_cons_succ, List.setIfInBounds_toArray, List.set_cons_zero, List.set_cons_succ]
  refine wpAnyH_ready (rs := [16]) (by kernel_rfl) (by simp) ?_
  refine AllReadyH.cons rfl (fun K hK => ?_) AllReadyH.nil
  go_simp
  refine (HCount.out _ (by first | exact hHeld.1 | exact Fr.drew (Fr.refl _ _))).mono ?_
  rintro e w1 ⟨rfl, hf⟩
  have Hf := Lib.hid hf
  clear hf
  try go_simp
  refine hK.out _ _ ?_ (fun hHeld => ?_)
  · (try dsimp only); exact ⟨hHeld.1.trans Hf.out (fun _ _ h => h), (Hf.out.cell (World.block_lt_of_cell? _ _ hHeld.2) (fun h => h)).trans hHeld.2⟩
  clear hK K
  try simp only [Act.put, List.getElem_toArray, List.getElem_cons_zero, List.getElem_cons_succ, List.setIfInBounds_toArray, List.set_cons_zero, List.set_cons_succ]
  refine wpAnyH_ready (rs := [18]) (by kernel_rfl) (by simp) ?_
  refine AllReadyH.cons rfl (fun K hK => ?_) AllReadyH.nil
  go_simp
  refine (RCount.out _ (by first | exact hHeld.1 | exact Fr.drew (Fr.refl _ _))).mono ?_
  rintro e w1 ⟨rfl, hf⟩
  have Hf := Lib.hid hf
  clear hf
  try go_simp
  refine hK.out _ _ ?_ (fun hHeld => ?_)
  · (try dsimp only); exact ⟨hHeld.1.trans Hf.out (fun _ _ h => h), (Hf.out.cell (World.block_lt_of_cell? _ _ hHeld.2) (fun h => h)).trans hHeld.2⟩
  clear hK K
  try simp only [Act.put, List.getElem_toArray, List.getElem_cons_zero, List.getElem_cons_succ, List.setIfInBounds_toArray, List.set_cons_zero, List.set_cons_succ]
  refine wpAnyH_take (i := 19) (v := ?_) rfl (by kernel_rfl) (by kernel_rfl) (by kernel_rfl) (fun _ _ _ h => h) (Or.inl ⟨by rfl, ?_⟩) (by assumption) ?_
  rotate_left
  · intro w' hSw; (try dsimp only at hSw); go_simp; try with_reducible rfl
  try simp only [Act.put, List.getElem_toArray, List.getElem_cons_zero, List.getElem_cons_succ, List.setIfInBounds_toArray, List.set_cons_zero, List.set_cons_succ]
  refine wpAnyH_take (i := 20) (v := ?_) rfl (by kernel_rfl) (by kernel_rfl) (by kernel_rfl) (fun _ _ _ h => h) (Or.inl ⟨by rfl, ?_⟩) (by assumption) ?_
  rotate_left
  · intro w' hSw; (try dsimp only at hSw); go_simp; try with_reducible rfl
  try simp only [Act.put, List.getElem_toArray, List.getElem_cons_zero, List.getElem_cons_succ, List.setIfInBounds_toArray, List.set_cons_zero, List.set_cons_succ]
  refine wpAnyH_take (i := 21) (v := ?_) rfl (by kernel_rfl) (by kernel_rfl) (by kernel_rfl) (fun _ _ _ h => h) (Or.inl ⟨by rfl, ?_⟩) (by assumption) ?_
  rotate_left
  · intro w' hSw; (try dsimp only at hSw); go_simp; try with_reducible rfl
  try simp only [Act.put, List.getElem_toArray, List.getElem_cons_zero, List.getElem_cons_succ, List.setIfInBounds_toArray, List.set_cons_zero, List.set_cons_succ]
  refine wpAnyH_take (i := 22) (v := ?_) rfl (by kernel_rfl) (by kernel_rfl) (by kernel_rfl) (fun _ _ _ h => h) (Or.inl ⟨by rfl, ?_⟩) (by assumption) ?_
  rotate_left
  · intro w' hSw; (try dsimp only at hSw); go_simp; try with_reducible rfl
  try simp only [Act.put, List.getElem_toArray, List.getElem_cons_zero, List.getElem_cons_succ, List.setIfInBounds_toArray, List.set_cons_zero, List.set_cons_succ]
  refine wpAnyH_take (i := 23) (v := ?_) rfl (by kernel_rfl) (by kernel_rfl) (by kernel_rfl) (fun _ _ _ h => h) (Or.inl ⟨by rfl, ?_⟩) (by assumption) ?_
  rotate_left
  · intro w' hSw; (try dsimp only at hSw); go_simp; try with_reducible rfl
  try simp only [Act.put, List.getElem_toArray, List.getElem_cons_zero, List.getElem_cons_succ, List.setIfInBounds_toArray, List.set_cons_zero, List.set_cons_succ]
  refine wpAnyH_ready (rs := [24]) (by kernel_rfl) (by simp) ?_
  refine AllReadyH.cons rfl (fun K hK => ?_) AllReadyH.nil
  go_simp
  refine (RAll.out _ (by first | exact hHeld.1 | exact Fr.drew (Fr.refl _ _))).mono ?_
  rintro e w1 ⟨sv3, rfl, ho3, hf⟩
  have Hf := Lib.hid hf
  clear hf
  have Ho3 := Lib.hid ho3
  clear ho3
  try go_simp
  refine hK.out _ _ ?_ (fun hHeld => ?_)
  · (try dsimp only); exact ⟨hHeld.1.trans Hf.out (fun _ _ h => h), (Hf.out.cell (World.block_lt_of_cell? _ _ hHeld.2) (fun h => h)).trans hHeld.2⟩
  clear hK K
  try simp only [Act.put, List.getElem_toArray, List.getElem_cons_zero, List.getElem_cons_succ, List.setIfInBounds_toArray, List.set_cons_zero, List.set_cons_succ]
  refine wpAnyH_ready (rs := [25]) (by kernel_rfl) (by simp) ?_
  refine AllReadyH.cons rfl (fun K hK => ?_) AllReadyH.nil
  go_simp
  refine (sameInts_ok (Row.fr R5.out (by first | exact hHeld.1 | exact Fr.drew (Fr.refl _ _)) (fun _ _ h => h)) Ho3.out.row Hs5.out Hs5.out).mono ?_
  rintro e w1 ⟨rfl, hf⟩
  have Hf := Lib.hid hf
  clear hf
  simp only [decide_true]
  try go_simp
  refine hK.out _ _ ?_ (fun hHeld => ?_)
  · (try dsimp only); exact ⟨hHeld.1.trans Hf.out (fun _ _ h => h), (Hf.out.cell (World.block_lt_of_cell? _ _ hHeld.2) (fun h => h)).trans hHeld.2⟩
  clear hK K
  try simp only [Act.put, List.getElem_toArray, List.getElem_cons_zero, List.getElem_cons_succ, List.setIfInBounds_toArray, List.set_cons_zero, List.set_cons_succ]
  refine wpAnyH_take (i := 26) (v := ?_) rfl (by kernel_rfl) (by kernel_rfl) (by kernel_rfl) (fun _ _ _ h => h) (Or.inl ⟨by rfl, ?_⟩) (by assumption) ?_
  rotate_left
  · intro w' hSw; (try dsimp only at hSw); go_simp; try with_reducible rfl
  try simp only [Act.put, List.getElem_toArray, List.getElem_cons_zero, List.getElem_cons_succ, List.setIfInBounds_toArray, List.set_cons_zero, List.set_cons_succ]
  refine wpAnyH_take (i := 27) (v := ?_) rfl (by kernel_rfl) (by kernel_rfl) (by kernel_rfl) (fun _ _ _ h => h) (Or.inl ⟨by rfl, ?_⟩) (by assumption) ?_
  rotate_left
  · intro w' hSw; (try dsimp only at hSw); go_simp; try with_reducible rfl
  try simp only [Act.put, List.getElem_toArray, List.getElem_cons_zero, List.getElem_cons_succ, List.setIfInBounds_toArray, List.set_cons_zero, List.set_cons_succ]
  refine wpAnyH_take (i := 28) (v := ?_) rfl (by kernel_rfl) (by kernel_rfl) (by kernel_rfl) (fun _ _ _ h => h) (Or.inl ⟨by rfl, ?_⟩) (by assumption) ?_
  rotate_left
  · intro w' hSw; (try dsimp only at hSw); go_simp; try with_reducible rfl
  try simp only [Act.put, List.getElem_toArray, List.getElem_cons_zero, List.getElem_cons_succ, List.setIfInBounds_toArray, List.set_cons_zero, List.set_cons_succ]
  refine wpAnyH_take (i := 29) (v := ?_) rfl (by kernel_rfl) (by kernel_rfl) (by kernel_rfl) (fun _ _ _ h => h) (Or.inl ⟨by rfl, ?_⟩) (by assumption) ?_
  rotate_left
  · intro w' hSw; (try dsimp only at hSw); go_simp; try with_reducible rfl
  try simp only [Act.put, List.getElem_toArray, List.getElem_cons_zero, List.getElem_cons_succ, List.setIfInBounds_toArray, List.set_cons_zero, List.set_cons_succ]
  refine wpAnyH_ready (rs := [30]) (by kernel_rfl) (by simp) ?_
  refine AllReadyH.cons rfl (fun K hK => ?_) AllReadyH.nil
  go_simp
  refine (RGaps.out _ (by first | exact hHeld.1 | exact Fr.drew (Fr.refl _ _))).mono ?_
  rintro e w1 ⟨sv4, rfl, ho4, hf⟩
  have Hf := Lib.hid hf
  clear hf
  have Ho4 := Lib.hid ho4
  clear ho4
  try go_simp
  refine hK.out _ _ ?_ (fun hHeld => ?_)
  · (try dsimp only); exact ⟨hHeld.1.trans Hf.out (fun _ _ h => h), (Hf.out.cell (World.block_lt_of_cell? _ _ hHeld.2) (fun h => h)).trans hHeld.2⟩
  clear hK K
  try simp only [Act.put, List.getElem_toArray, List.getElem_cons_zero, List.getElem_cons_succ, List.setIfInBounds_toArray, List.set_cons_zero, List.set_cons_succ]
  refine wpAnyH_ready (rs := [31]) (by kernel_rfl) (by simp) ?_
  refine AllReadyH.cons rfl (fun K hK => ?_) AllReadyH.nil
  go_simp
  refine (sameInts_ok (Row.fr R7.out (by first | exact hHeld.1 | exact Fr.drew (Fr.refl _ _)) (fun _ _ h => h)) Ho4.out.row Hs7.out Hs7.out).mono ?_
  rintro e w1 ⟨rfl, hf⟩
  have Hf := Lib.hid hf
  clear hf
  simp only [decide_true]
  try go_simp
  refine hK.out _ _ ?_ (fun hHeld => ?_)
  · (try dsimp only); exact ⟨hHeld.1.trans Hf.out (fun _ _ h => h), (Hf.out.cell (World.block_lt_of_cell? _ _ hHeld.2) (fun h => h)).trans hHeld.2⟩
  clear hK K
  try simp only [Act.put, List.getElem_toArray, List.getElem_cons_zero, List.getElem_cons_succ, List.setIfInBounds_toArray, List.set_cons_zero, List.set_cons_succ]
  refine wpAnyH_take (i := 32) (v := ?_) rfl (by kernel_rfl) (by kernel_rfl) (by kernel_rfl) (fun _ _ _ h => h) (Or.inl ⟨by rfl, ?_⟩) (by assumption) ?_
  rotate_left
  · intro w' hSw; (try dsimp only at hSw); go_simp; try with_reducible rfl
  try simp only [Act.put, List.getElem_toArray, List.getElem_cons_zero, List.getElem_cons_succ, List.setIfInBounds_toArray, List.set_cons_zero, List.set_cons_succ]
  refine wpAnyH_take (i := 33) (v := ?_) rfl (by kernel_rfl) (by kernel_rfl) (by kernel_rfl) (fun _ _ _ h => h) (Or.inl ⟨by rfl, ?_⟩) (by assumption) ?_
  rotate_left
  · intro w' hSw; (try dsimp only at hSw); go_simp; try with_reducible rfl
  try simp only [Act.put, List.getElem_toArray, List.getElem_cons_zero, List.getElem_cons_succ, List.setIfInBounds_toArray, List.set_cons_zero, List.set_cons_succ]
  refine wpAnyH_take (i := 34) (v := ?_) rfl (by kernel_rfl) (by kernel_rfl) (by kernel_rfl) (fun _ _ _ h => h) (Or.inl ⟨by rfl, ?_⟩) (by assumption) ?_
  rotate_left
  · intro w' hSw; (try dsimp only at hSw); go_simp; try with_reducible rfl
  try simp only [Act.put, List.getElem_toArray, List.getElem_cons_zero, List.getElem_cons_succ, List.setIfInBounds_toArray, List.set_cons_zero, List.set_cons_succ]
  refine wpAnyH_take (i := 36) (v := ?_) rfl (by kernel_rfl) (by kernel_rfl) (by kernel_rfl) (fun _ _ _ h => h) (Or.inl ⟨by rfl, ?_⟩) (by assumption) ?_
  rotate_left
  · intro w' hSw; (try dsimp only at hSw); go_simp; try with_reducible rfl
  try simp only [Act.put, List.getElem_toArray, List.getElem_cons_zero, List.getElem_cons_succ, List.setIfInBounds_toArray, List.set_cons_zero, List.set_cons_succ]
  refine wpAnyH_ready (rs := [35]) (by kernel_rfl) (by simp) ?_
  refine AllReadyH.cons rfl (fun K hK => ?_) AllReadyH.nil
  go_simp
  refine (HBytes.out _ (by first | exact hHeld.1 | exact Fr.drew (Fr.refl _ _))).mono ?_
  rintro e w1 ⟨a5, c5, rfl, ro5, hf⟩
  have Hf := Lib.hid hf
  clear hf
  have Ro5 := Lib.hid ro5
  clear ro5
  try go_simp
  refine hK.out _ _ ?_ (fun hHeld => ?_)
  · (try dsimp only); exact ⟨hHeld.1.trans Hf.out (fun _ _ h => h), (Hf.out.cell (World.block_lt_of_cell? _ _ hHeld.2) (fun h => h)).trans hHeld.2⟩
  clear hK K
  try simp only [Act.put, List.getElem_toArray, List.getElem_cons_zero, List.getElem_cons_succ, List.setIfInBounds_toArray, List.set_cons_zero, List.set_cons_succ]
  refine wpAnyH_ready (rs := [37]) (by kernel_rfl) (by simp) ?_
  refine AllReadyH.cons rfl (fun K hK => ?_) AllReadyH.nil
  go_simp
  refine (RBytes.out _ (by first | exact hHeld.1 | exact Fr.drew (Fr.refl _ _))).mono ?_
  rintro e w1 ⟨a6, c6, rfl, ro6, hf⟩
  have Hf := Lib.hid hf
  clear hf
  have Ro6 := Lib.hid ro6
  have Hf37 := Lib.hid Hf.out
  clear ro6
  try go_simp
  refine hK.out _ _ ?_ (fun hHeld => ?_)
  · (try dsimp only); exact ⟨hHeld.1.trans Hf.out (fun _ _ h => h), (Hf.out.cell (World.block_lt_of_cell? _ _ hHeld.2) (fun h => h)).trans hHeld.2⟩
  clear hK K
  try simp only [Act.put, List.getElem_toArray, List.getElem_cons_zero, List.getElem_cons_succ, List.setIfInBounds_toArray, List.set_cons_zero, List.set_cons_succ]
  refine wpAnyH_ready (rs := [38]) (by kernel_rfl) (by simp) ?_
  refine AllReadyH.cons rfl (fun K hK => ?_) AllReadyH.nil
  go_simp
  refine (sameBytes_ok (Row.fr Ro5.out Hf37.out (fun _ _ h => h)) Ro6.out Hs8.out Hs8.out).mono ?_
  rintro e w1 ⟨rfl, hf⟩
  have Hf := Lib.hid hf
  clear hf
  simp only [decide_true]
  try go_simp
  refine hK.out _ _ ?_ (fun hHeld => ?_)
  · (try dsimp only); exact ⟨hHeld.1.trans Hf.out (fun _ _ h => h), (Hf.out.cell (World.block_lt_of_cell? _ _ hHeld.2) (fun h => h)).trans hHeld.2⟩
  clear hK K
  try simp only [Act.put, List.getElem_toArray, List.getElem_cons_zero, List.getElem_cons_succ, List.setIfInBounds_toArray, List.set_cons_zero, List.set_cons_succ]
  refine wpAnyH_take (i := 39) (v := ?_) rfl (by kernel_rfl) (by kernel_rfl) (by kernel_rfl) (fun _ _ _ h => h) (Or.inl ⟨by rfl, ?_⟩) (by assumption) ?_
  rotate_left
  · intro w' hSw; (try dsimp only at hSw); go_simp; try with_reducible rfl
  try simp only [Act.put, List.getElem_toArray, List.getElem_cons_zero, List.getElem_cons_succ, List.setIfInBounds_toArray, List.set_cons_zero, List.set_cons_succ]
  refine wpAnyH_take (i := 40) (v := ?_) rfl (by kernel_rfl) (by kernel_rfl) (by kernel_rfl) (fun _ _ _ h => h) (Or.inl ⟨by rfl, ?_⟩) (by assumption) ?_
  rotate_left
  · intro w' hSw; (try dsimp only at hSw); go_simp; try with_reducible rfl
  try simp only [Act.put, List.getElem_toArray, List.getElem_cons_zero, List.getElem_cons_succ, List.setIfInBounds_toArray, List.set_cons_zero, List.set_cons_succ]
  refine wpAnyH_done (by kernel_rfl) ?_ _
  go_wp2_with fail
  go_ret
  exact ⟨by first | rfl | simp, F4.out.trans hHeld.1 (fun _ _ h => h)⟩
end Go.Proofs.YtbfkmogibgchmaaDoor.Bt
