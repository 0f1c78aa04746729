/- one, of sets that aren't there. Condition: none. -/
import Derived.Test.YtbfkmogibgchmaaDoorBitW
import Derived.Test.YtbfkmogibgchmaaDoorPick
namespace Go.Proofs.YtbfkmogibgchmaaDoor.Bt
open Go.RowKit
theorem seekI_nil (b : Bool) (i : Int) : seekI b [] i = -1 := seekI_none (seekO_not (fun j h1 h2 => by simp at h2))
theorem part11 (x : Int) : x % 11 = 0 ∨ x % 11 = 1 ∨ x % 11 = 2 ∨ x % 11 = 3 ∨ x % 11 = 4 ∨ x % 11 = 5 ∨ x % 11 = 6 ∨ x % 11 = 7 ∨ x % 11 = 8 ∨ x % 11 = 9 ∨ x % 11 = 10 := by omega
set_option maxRecDepth 100000 in
set_option maxHeartbeats 8000000 in
theorem one_no {w : World} {p : Option Addr} (hs : NoSet w p) {rh : Nat} {v : Value} (hr : RefAt w rh v false []) (Do On I : Int) (hD : -9223372036854775808 ≤ Do ∧ Do ≤ 9223372036854775807) :
    Calls Tryd.prog 35 #[.pointer p, .pointer (some ⟨rh, 0, none⟩), .agg #[.int .i64 Do, .int .i64 On, .int .i64 I]] w fun e w' => e = .returned (.bool true) ∧ Fr (fun _ => False) w w' := by
  obtain ⟨a, c, rfl⟩ := hr.shape
  simp only [List.length_nil] at *
  have hW : Fr (fun _ => False) w (w.alloc (.cells #[.int .i64 Do, .int .i64 On, .int .i64 I] 67)) := Fr.alloc (Fr.refl _ _) _
  have hob : (w.alloc (.cells #[.int .i64 Do, .int .i64 On, .int .i64 I] 67)).heap[w.heap.size]? = some (.cells #[.int .i64 Do, .int .i64 On, .int .i64 I] 67 (0, 0)) := by rw [heap_alloc_get]; simp
  have o2 := (cell_of hob 2).trans (show _ = some (Value.int .i64 I) from rfl)
  have hs1 := hs.fr hW
  have hr1 := hr.fr hW (fun h => h) (fun _ _ h => h)
  have r0 := hr1.c0
  have r1 := hr1.c1
  have Hpk := Lib.hid (fun w0 => pick_ok Do 11 w0 hD.1 hD.2 (by omega) (by omega))
  have hd := part11 Do
  clear hs hr hD
  go_enter Tryd.func35, Tryd.ntmps35
  go_wp2_with fail
  refine (Hpk.out _).mono ?_
  rintro e w1 ⟨rfl, rfl⟩
  generalize (w.alloc (.cells #[.int .i64 Do, .int .i64 On, .int .i64 I] 67)) = W at *
  have HW := Lib.hid hW; have Hob := Lib.hid hob; have HS1 := Lib.hid hs1; have HR1 := Lib.hid hr1
  clear hW hob hs1 hr1 Hpk
  have HPut := Lib.hid (show ∀ w0, Fr (fun _ => False) W w0 → Calls Tryd.prog 12 #[.pointer p, .int .i64 I] w0 fun e w' => e = .returned (.int .i64 1) ∧ Fr (fun _ => False) w0 w' from fun w0 f => (put_no (HS1.out.fr f) I).mono (fun e w' h => ⟨h.1, h.2 ▸ Fr.refl _ _⟩))
  have HDrop := Lib.hid (show ∀ w0, Fr (fun _ => False) W w0 → Calls Tryd.prog 26 #[.pointer p, .int .i64 I] w0 fun e w' => e = .returned (.int .i64 1) ∧ Fr (fun _ => False) w0 w' from fun w0 f => (drop_no (HS1.out.fr f) I).mono (fun e w' h => ⟨h.1, h.2 ▸ Fr.refl _ _⟩))
  have HHas := Lib.hid (show ∀ w0, Fr (fun _ => False) W w0 → Calls Tryd.prog 20 #[.pointer p, .int .i64 I] w0 fun e w' => e = .returned (.bool false) ∧ Fr (fun _ => False) w0 w' from fun w0 f => (has_no (HS1.out.fr f) I).mono (fun e w' h => ⟨h.1, h.2 ▸ Fr.refl _ _⟩))
  have HNext := Lib.hid (show ∀ w0, Fr (fun _ => False) W w0 → Calls Tryd.prog 18 #[.pointer p, .int .i64 I] w0 fun e w' => e = .returned (.int .i64 (-1)) ∧ Fr (fun _ => False) w0 w' from fun w0 f => (next_no (HS1.out.fr f) I).mono (fun e w' h => ⟨h.1, h.2 ▸ Fr.refl _ _⟩))
  have HFree := Lib.hid (show ∀ w0, Fr (fun _ => False) W w0 → Calls Tryd.prog 19 #[.pointer p, .int .i64 I] w0 fun e w' => e = .returned (.int .i64 (-1)) ∧ Fr (fun _ => False) w0 w' from fun w0 f => (free_no (HS1.out.fr f) I).mono (fun e w' h => ⟨h.1, h.2 ▸ Fr.refl _ _⟩))
  have HCount := Lib.hid (show ∀ w0, Fr (fun _ => False) W w0 → Calls Tryd.prog 39 #[.pointer p] w0 fun e w' => e = .returned (.int .i64 0) ∧ Fr (fun _ => False) w0 w' from fun w0 f => (count_no (HS1.out.fr f)).mono (fun e w' h => ⟨h.1, h.2 ▸ Fr.refl _ _⟩))
  have HBound := Lib.hid (show ∀ w0, Fr (fun _ => False) W w0 → Calls Tryd.prog 49 #[.pointer p] w0 fun e w' => e = .returned (.int .i64 0) ∧ Fr (fun _ => False) w0 w' from fun w0 f => (bound_no (HS1.out.fr f)).mono (fun e w' h => ⟨h.1, h.2 ▸ Fr.refl _ _⟩))
  have HSame := Lib.hid (show ∀ w0, Fr (fun _ => False) W w0 → Calls Tryd.prog 36 #[.pointer p, .pointer p] w0 fun e w' => e = .returned (.bool false) ∧ Fr (fun _ => False) w0 w' from fun w0 f => same_no1 (HS1.out.fr f))
  have HCopy := Lib.hid (show ∀ w0, Fr (fun _ => False) W w0 → Calls Tryd.prog 23 #[.pointer p] w0 fun e w' => e = .returned (.pointer none) ∧ Fr (fun _ => False) w0 w' from fun w0 f => (copy_no (HS1.out.fr f)).mono (fun e w' h => ⟨h.1, h.2 ▸ Fr.refl _ _⟩))
  have RPut := Lib.hid (show ∀ w0, Fr (fun _ => False) W w0 → Calls Tryd.prog 54 #[.pointer (some ⟨rh, 0, none⟩), .int .i64 I] w0 fun e w' => e = .returned (.int .i64 1) ∧ Fr (fun _ => False) w0 w' from fun w0 f => (rput_no (HR1.out.fr f (fun h => h) (fun _ _ h => h)) I).mono (fun e w' h => ⟨h.1, h.2 ▸ Fr.refl _ _⟩))
  have RDrop := Lib.hid (show ∀ w0, Fr (fun _ => False) W w0 → Calls Tryd.prog 55 #[.pointer (some ⟨rh, 0, none⟩), .int .i64 I] w0 fun e w' => e = .returned (.int .i64 1) ∧ Fr (fun _ => False) w0 w' from fun w0 f => (rdrop_no (HR1.out.fr f (fun h => h) (fun _ _ h => h)) I).mono (fun e w' h => ⟨h.1, h.2 ▸ Fr.refl _ _⟩))
  have RHas := Lib.hid (show ∀ w0, Fr (fun _ => False) W w0 → Calls Tryd.prog 56 #[.pointer (some ⟨rh, 0, none⟩), .int .i64 I] w0 fun e w' => e = .returned (.bool false) ∧ Fr (fun _ => False) w0 w' from fun w0 f => (rhas_ok (HR1.out.fr f (fun h => h) (fun _ _ h => h)) I).mono (fun e w' h => ⟨by rw [h.1]; simp, h.2 ▸ Fr.refl _ _⟩))
  have RNext := Lib.hid (show ∀ w0, Fr (fun _ => False) W w0 → Calls Tryd.prog 57 #[.pointer (some ⟨rh, 0, none⟩), .int .i64 I] w0 fun e w' => e = .returned (.int .i64 (-1)) ∧ Fr (fun _ => False) w0 w' from fun w0 f => (rnext_ok (HR1.out.fr f (fun h => h) (fun _ _ h => h)) I).mono (fun e w' h => ⟨by rw [h.1, seekI_nil], h.2 ▸ Fr.refl _ _⟩))
  have RFree := Lib.hid (show ∀ w0, Fr (fun _ => False) W w0 → Calls Tryd.prog 58 #[.pointer (some ⟨rh, 0, none⟩), .int .i64 I] w0 fun e w' => e = .returned (.int .i64 (-1)) ∧ Fr (fun _ => False) w0 w' from fun w0 f => (rfree_ok (HR1.out.fr f (fun h => h) (fun _ _ h => h)) I).mono (fun e w' h => ⟨by rw [h.1, seekI_nil], h.2 ▸ Fr.refl _ _⟩))
  have RCount := Lib.hid (show ∀ w0, Fr (fun _ => False) W w0 → Calls Tryd.prog 50 #[.pointer (some ⟨rh, 0, none⟩)] w0 fun e w' => e = .returned (.int .i64 0) ∧ Fr (fun _ => False) w0 w' from fun w0 f => (rcount_ok (HR1.out.fr f (fun h => h) (fun _ _ h => h))).mono (fun e w' h => ⟨by rw [h.1]; rfl, h.2 ▸ Fr.refl _ _⟩))
  rcases hd with hd | hd | hd | hd | hd | hd | hd | hd | hd | hd | hd
  all_goals rw [hd]
  · clear hd
    go_upto_region 3 with fail
    refine wp_region_held_drew (S := fun w' => Fr (fun _ => False) W w' ∧ w'.cell? ⟨w.heap.size, 2, none⟩ = some (.int .i64 I) ∧ w'.cell? ⟨rh, 0, none⟩ = some (.bool false) ∧ w'.cell? ⟨rh, 1, none⟩ = some (.slice a 0 c)) (by kernel_rfl) (by exact ⟨Fr.drew (Fr.refl _ _), o2, r0, r1⟩) (fun hHeld => ?_)
    refine wpAnyH_take (i := 0) (v := ?_) rfl (by kernel_rfl) (by kernel_rfl) (by kernel_rfl) (fun _ _ _ h => h) (Or.inl ⟨by rfl, ?_⟩) (by assumption) ?_
    rotate_left
    · intro w' hSw; (try dsimp only at hSw); go_simp; try with_reducible rfl
    try simp only [Act.put, List.getElem_toArray, List.getElem_cons_zero, List.getElem_cons_succ, List.setIfInBounds_toArray, List.set_cons_zero, List.set_cons_succ]
    refine wpAnyH_take (i := 1) (v := ?_) rfl (by kernel_rfl) (by kernel_rfl) (by kernel_rfl) (fun _ _ _ h => h) (Or.inl ⟨by rfl, ?_⟩) (by assumption) ?_
    rotate_left
    · intro w' hSw; (try dsimp only at hSw); go_simp; try with_reducible rfl
    try simp only [Act.put, List.getElem_toArray, List.getElem_cons_zero, List.getElem_cons_succ, List.setIfInBounds_toArray, List.set_cons_zero, List.set_cons_succ]
    refine wpAnyH_take (i := 2) (v := ?_) rfl (by kernel_rfl) (by kernel_rfl) (by kernel_rfl) (fun _ _ _ h => h) (Or.inl ⟨by rfl, ?_⟩) (by assumption) ?_
    rotate_left
    · intro w' hSw; (try dsimp only at hSw); go_simp; try with_reducible rfl
    try simp only [Act.put, List.getElem_toArray, List.getElem_cons_zero, List.getElem_cons_succ, List.setIfInBounds_toArray, List.set_cons_zero, List.set_cons_succ]
    refine wpAnyH_take (i := 4) (v := ?_) rfl (by kernel_rfl) (by kernel_rfl) (by kernel_rfl) (fun _ _ _ h => h) (Or.inl ⟨by rfl, ?_⟩) (by assumption) ?_
    rotate_left
    · intro w' hSw; (try dsimp only at hSw); go_simp; try with_reducible rfl
    try simp only [Act.put, List.getElem_toArray, List.getElem_cons_zero, List.getElem_cons_succ, List.setIfInBounds_toArray, List.set_cons_zero, List.set_cons_succ]
    refine wpAnyH_take (i := 5) (v := ?_) rfl (by kernel_rfl) (by kernel_rfl) (by kernel_rfl) (fun _ _ _ h => h) (Or.inl ⟨by rfl, ?_⟩) (by assumption) ?_
    rotate_left
    · intro w' hSw; (try dsimp only at hSw); go_simp; try with_reducible rfl
    try simp only [Act.put, List.getElem_toArray, List.getElem_cons_zero, List.getElem_cons_succ, List.setIfInBounds_toArray, List.set_cons_zero, List.set_cons_succ]
    refine wpAnyH_take (i := 6) (v := ?_) rfl (by kernel_rfl) (by kernel_rfl) (by kernel_rfl) (fun _ _ _ h => h) (Or.inl ⟨by rfl, ?_⟩) (by assumption) ?_
    rotate_left
    · intro w' hSw; (try dsimp only at hSw); go_simp; try with_reducible rfl
    try simp only [Act.put, List.getElem_toArray, List.getElem_cons_zero, List.getElem_cons_succ, List.setIfInBounds_toArray, List.set_cons_zero, List.set_cons_succ]
    refine wpAnyH_ready (rs := [3]) (by kernel_rfl) (by simp) ?_
    refine AllReadyH.cons rfl (fun K hK => ?_) AllReadyH.nil
    go_simp
    refine (HPut.out _ (by first | exact hHeld.1 | exact Fr.drew (Fr.refl _ _))).mono ?_
    rintro e w1 ⟨rfl, hf⟩
    have Hf := Lib.hid hf
    clear hf
    try go_simp
    refine hK.out _ _ ?_ (fun hHeld => ?_)
    · (try dsimp only); exact ⟨hHeld.1.trans Hf.out (fun _ _ h => h), (Hf.out.cell (World.block_lt_of_cell? _ _ hHeld.2.1) (fun h => h)).trans hHeld.2.1, (Hf.out.cell (World.block_lt_of_cell? _ _ hHeld.2.2.1) (fun h => h)).trans hHeld.2.2.1, (Hf.out.cell (World.block_lt_of_cell? _ _ hHeld.2.2.2) (fun h => h)).trans hHeld.2.2.2⟩
    clear hK K
    try simp only [Act.put, List.getElem_toArray, List.getElem_cons_zero, List.getElem_cons_succ, List.setIfInBounds_toArray, List.set_cons_zero, List.set_cons_succ]
    refine wpAnyH_ready (rs := [7]) (by kernel_rfl) (by simp) ?_
    refine AllReadyH.cons rfl (fun K hK => ?_) AllReadyH.nil
    go_simp
    refine (RPut.out _ (by first | exact hHeld.1 | exact Fr.drew (Fr.refl _ _))).mono ?_
    rintro e w1 ⟨rfl, hf⟩
    have Hf := Lib.hid hf
    clear hf
    try go_simp
    refine hK.out _ _ ?_ (fun hHeld => ?_)
    · (try dsimp only); exact ⟨hHeld.1.trans Hf.out (fun _ _ h => h), (Hf.out.cell (World.block_lt_of_cell? _ _ hHeld.2.1) (fun h => h)).trans hHeld.2.1, (Hf.out.cell (World.block_lt_of_cell? _ _ hHeld.2.2.1) (fun h => h)).trans hHeld.2.2.1, (Hf.out.cell (World.block_lt_of_cell? _ _ hHeld.2.2.2) (fun h => h)).trans hHeld.2.2.2⟩
    clear hK K
    try simp only [Act.put, List.getElem_toArray, List.getElem_cons_zero, List.getElem_cons_succ, List.setIfInBounds_toArray, List.set_cons_zero, List.set_cons_succ]
    refine wpAnyH_take (i := 8) (v := ?_) rfl (by kernel_rfl) (by kernel_rfl) (by kernel_rfl) (fun _ _ _ h => h) (Or.inl ⟨by rfl, ?_⟩) (by assumption) ?_
    rotate_left
    · intro w' hSw; (try dsimp only at hSw); go_simp; try with_reducible rfl
    try simp only [Act.put, List.getElem_toArray, List.getElem_cons_zero, List.getElem_cons_succ, List.setIfInBounds_toArray, List.set_cons_zero, List.set_cons_succ]
    refine wpAnyH_take (i := 9) (v := ?_) rfl (by kernel_rfl) (by kernel_rfl) (by kernel_rfl) (fun _ _ _ h => h) (Or.inl ⟨by rfl, ?_⟩) (by assumption) ?_
    rotate_left
    · intro w' hSw; (try dsimp only at hSw); go_simp; try with_reducible rfl
    try simp only [Act.put, List.getElem_toArray, List.getElem_cons_zero, List.getElem_cons_succ, List.setIfInBounds_toArray, List.set_cons_zero, List.set_cons_succ]
    refine wpAnyH_done (by kernel_rfl) ?_ _
    go_wp2_with fail
    go_ret
    exact ⟨by first | rfl | simp, HW.out.trans hHeld.1 (fun _ _ h => h)⟩
  · clear hd
    go_upto_region 5 with fail
    refine wp_region_held_drew (S := fun w' => Fr (fun _ => False) W w' ∧ w'.cell? ⟨w.heap.size, 2, none⟩ = some (.int .i64 I) ∧ w'.cell? ⟨rh, 0, none⟩ = some (.bool false) ∧ w'.cell? ⟨rh, 1, none⟩ = some (.slice a 0 c)) (by kernel_rfl) (by exact ⟨Fr.drew (Fr.refl _ _), o2, r0, r1⟩) (fun hHeld => ?_)
    refine wpAnyH_take (i := 0) (v := ?_) rfl (by kernel_rfl) (by kernel_rfl) (by kernel_rfl) (fun _ _ _ h => h) (Or.inl ⟨by rfl, ?_⟩) (by assumption) ?_
    rotate_left
    · intro w' hSw; (try dsimp only at hSw); go_simp; try with_reducible rfl
    try simp only [Act.put, List.getElem_toArray, List.getElem_cons_zero, List.getElem_cons_succ, List.setIfInBounds_toArray, List.set_cons_zero, List.set_cons_succ]
    refine wpAnyH_take (i := 1) (v := ?_) rfl (by kernel_rfl) (by kernel_rfl) (by kernel_rfl) (fun _ _ _ h => h) (Or.inl ⟨by rfl, ?_⟩) (by assumption) ?_
    rotate_left
    · intro w' hSw; (try dsimp only at hSw); go_simp; try with_reducible rfl
    try simp only [Act.put, List.getElem_toArray, List.getElem_cons_zero, List.getElem_cons_succ, List.setIfInBounds_toArray, List.set_cons_zero, List.set_cons_succ]
    refine wpAnyH_take (i := 2) (v := ?_) rfl (by kernel_rfl) (by kernel_rfl) (by kernel_rfl) (fun _ _ _ h => h) (Or.inl ⟨by rfl, ?_⟩) (by assumption) ?_
    rotate_left
    · intro w' hSw; (try dsimp only at hSw); go_simp; try with_reducible rfl
    try simp only [Act.put, List.getElem_toArray, List.getElem_cons_zero, List.getElem_cons_succ, List.setIfInBounds_toArray, List.set_cons_zero, List.set_cons_succ]
    refine wpAnyH_take (i := 4) (v := ?_) rfl (by kernel_rfl) (by kernel_rfl) (by kernel_rfl) (fun _ _ _ h => h) (Or.inl ⟨by rfl, ?_⟩) (by assumption) ?_
    rotate_left
    · intro w' hSw; (try dsimp only at hSw); go_simp; try with_reducible rfl
    try simp only [Act.put, List.getElem_toArray, List.getElem_cons_zero, List.getElem_cons_succ, List.setIfInBounds_toArray, List.set_cons_zero, List.set_cons_succ]
    refine wpAnyH_take (i := 5) (v := ?_) rfl (by kernel_rfl) (by kernel_rfl) (by kernel_rfl) (fun _ _ _ h => h) (Or.inl ⟨by rfl, ?_⟩) (by assumption) ?_
    rotate_left
    · intro w' hSw; (try dsimp only at hSw); go_simp; try with_reducible rfl
    try simp only [Act.put, List.getElem_toArray, List.getElem_cons_zero, List.getElem_cons_succ, List.setIfInBounds_toArray, List.set_cons_zero, List.set_cons_succ]
    refine wpAnyH_take (i := 6) (v := ?_) rfl (by kernel_rfl) (by kernel_rfl) (by kernel_rfl) (fun _ _ _ h => h) (Or.inl ⟨by rfl, ?_⟩) (by assumption) ?_
    rotate_left
    · intro w' hSw; (try dsimp only at hSw); go_simp; try with_reducible rfl
    try simp only [Act.put, List.getElem_toArray, List.getElem_cons_zero, List.getElem_cons_succ, List.setIfInBounds_toArray, List.set_cons_zero, List.set_cons_succ]
    refine wpAnyH_ready (rs := [3]) (by kernel_rfl) (by simp) ?_
    refine AllReadyH.cons rfl (fun K hK => ?_) AllReadyH.nil
    go_simp
    refine (HDrop.out _ (by first | exact hHeld.1 | exact Fr.drew (Fr.refl _ _))).mono ?_
    rintro e w1 ⟨rfl, hf⟩
    have Hf := Lib.hid hf
    clear hf
    try go_simp
    refine hK.out _ _ ?_ (fun hHeld => ?_)
    · (try dsimp only); exact ⟨hHeld.1.trans Hf.out (fun _ _ h => h), (Hf.out.cell (World.block_lt_of_cell? _ _ hHeld.2.1) (fun h => h)).trans hHeld.2.1, (Hf.out.cell (World.block_lt_of_cell? _ _ hHeld.2.2.1) (fun h => h)).trans hHeld.2.2.1, (Hf.out.cell (World.block_lt_of_cell? _ _ hHeld.2.2.2) (fun h => h)).trans hHeld.2.2.2⟩
    clear hK K
    try simp only [Act.put, List.getElem_toArray, List.getElem_cons_zero, List.getElem_cons_succ, List.setIfInBounds_toArray, List.set_cons_zero, List.set_cons_succ]
    refine wpAnyH_ready (rs := [7]) (by kernel_rfl) (by simp) ?_
    refine AllReadyH.cons rfl (fun K hK => ?_) AllReadyH.nil
    go_simp
    refine (RDrop.out _ (by first | exact hHeld.1 | exact Fr.drew (Fr.refl _ _))).mono ?_
    rintro e w1 ⟨rfl, hf⟩
    have Hf := Lib.hid hf
    clear hf
    try go_simp
    refine hK.out _ _ ?_ (fun hHeld => ?_)
    · (try dsimp only); exact ⟨hHeld.1.trans Hf.out (fun _ _ h => h), (Hf.out.cell (World.block_lt_of_cell? _ _ hHeld.2.1) (fun h => h)).trans hHeld.2.1, (Hf.out.cell (World.block_lt_of_cell? _ _ hHeld.2.2.1) (fun h => h)).trans hHeld.2.2.1, (Hf.out.cell (World.block_lt_of_cell? _ _ hHeld.2.2.2) (fun h => h)).trans hHeld.2.2.2⟩
    clear hK K
    try simp only [Act.put, List.getElem_toArray, List.getElem_cons_zero, List.getElem_cons_succ, List.setIfInBounds_toArray, List.set_cons_zero, List.set_cons_succ]
    refine wpAnyH_take (i := 8) (v := ?_) rfl (by kernel_rfl) (by kernel_rfl) (by kernel_rfl) (fun _ _ _ h => h) (Or.inl ⟨by rfl, ?_⟩) (by assumption) ?_
    rotate_left
    · intro w' hSw; (try dsimp only at hSw); go_simp; try with_reducible rfl
    try simp only [Act.put, List.getElem_toArray, List.getElem_cons_zero, List.getElem_cons_succ, List.setIfInBounds_toArray, List.set_cons_zero, List.set_cons_succ]
    refine wpAnyH_take (i := 9) (v := ?_) rfl (by kernel_rfl) (by kernel_rfl) (by kernel_rfl) (fun _ _ _ h => h) (Or.inl ⟨by rfl, ?_⟩) (by assumption) ?_
    rotate_left
    · intro w' hSw; (try dsimp only at hSw); go_simp; try with_reducible rfl
    try simp only [Act.put, List.getElem_toArray, List.getElem_cons_zero, List.getElem_cons_succ, List.setIfInBounds_toArray, List.set_cons_zero, List.set_cons_succ]
    refine wpAnyH_done (by kernel_rfl) ?_ _
    go_wp2_with fail
    go_ret
    exact ⟨by first | rfl | simp, HW.out.trans hHeld.1 (fun _ _ h => h)⟩
  · clear hd
    go_upto_region 7 with fail
    refine wp_region_held_drew (S := fun w' => Fr (fun _ => False) W w' ∧ w'.cell? ⟨w.heap.size, 2, none⟩ = some (.int .i64 I) ∧ w'.cell? ⟨rh, 0, none⟩ = some (.bool false) ∧ w'.cell? ⟨rh, 1, none⟩ = some (.slice a 0 c)) (by kernel_rfl) (by exact ⟨Fr.drew (Fr.refl _ _), o2, r0, r1⟩) (fun hHeld => ?_)
    refine wpAnyH_take (i := 0) (v := ?_) rfl (by kernel_rfl) (by kernel_rfl) (by kernel_rfl) (fun _ _ _ h => h) (Or.inl ⟨by rfl, ?_⟩) (by assumption) ?_
    rotate_left
    · intro w' hSw; (try dsimp only at hSw); go_simp; try with_reducible rfl
    try simp only [Act.put, List.getElem_toArray, List.getElem_cons_zero, List.getElem_cons_succ, List.setIfInBounds_toArray, List.set_cons_zero, List.set_cons_succ]
    refine wpAnyH_take (i := 1) (v := ?_) rfl (by kernel_rfl) (by kernel_rfl) (by kernel_rfl) (fun _ _ _ h => h) (Or.inl ⟨by rfl, ?_⟩) (by assumption) ?_
    rotate_left
    · intro w' hSw; (try dsimp only at hSw); go_simp; try with_reducible rfl
    try simp only [Act.put, List.getElem_toArray, List.getElem_cons_zero, List.getElem_cons_succ, List.setIfInBounds_toArray, List.set_cons_zero, List.set_cons_succ]
    refine wpAnyH_take (i := 2) (v := ?_) rfl (by kernel_rfl) (by kernel_rfl) (by kernel_rfl) (fun _ _ _ h => h) (Or.inl ⟨by rfl, ?_⟩) (by assumption) ?_
    rotate_left
    · intro w' hSw; (try dsimp only at hSw); go_simp; try with_reducible rfl
    try simp only [Act.put, List.getElem_toArray, List.getElem_cons_zero, List.getElem_cons_succ, List.setIfInBounds_toArray, List.set_cons_zero, List.set_cons_succ]
    refine wpAnyH_take (i := 4) (v := ?_) rfl (by kernel_rfl) (by kernel_rfl) (by kernel_rfl) (fun _ _ _ h => h) (Or.inl ⟨by rfl, ?_⟩) (by assumption) ?_
    rotate_left
    · intro w' hSw; (try dsimp only at hSw); go_simp; try with_reducible rfl
    try simp only [Act.put, List.getElem_toArray, List.getElem_cons_zero, List.getElem_cons_succ, List.setIfInBounds_toArray, List.set_cons_zero, List.set_cons_succ]
    refine wpAnyH_take (i := 5) (v := ?_) rfl (by kernel_rfl) (by kernel_rfl) (by kernel_rfl) (fun _ _ _ h => h) (Or.inl ⟨by rfl, ?_⟩) (by assumption) ?_
    rotate_left
    · intro w' hSw; (try dsimp only at hSw); go_simp; try with_reducible rfl
    try simp only [Act.put, List.getElem_toArray, List.getElem_cons_zero, List.getElem_cons_succ, List.setIfInBounds_toArray, List.set_cons_zero, List.set_cons_succ]
    refine wpAnyH_take (i := 6) (v := ?_) rfl (by kernel_rfl) (by kernel_rfl) (by kernel_rfl) (fun _ _ _ h => h) (Or.inl ⟨by rfl, ?_⟩) (by assumption) ?_
    rotate_left
    · intro w' hSw; (try dsimp only at hSw); go_simp; try with_reducible rfl
    try simp only [Act.put, List.getElem_toArray, List.getElem_cons_zero, List.getElem_cons_succ, List.setIfInBounds_toArray, List.set_cons_zero, List.set_cons_succ]
    refine wpAnyH_ready (rs := [3]) (by kernel_rfl) (by simp) ?_
    refine AllReadyH.cons rfl (fun K hK => ?_) AllReadyH.nil
    go_simp
    refine (HHas.out _ (by first | exact hHeld.1 | exact Fr.drew (Fr.refl _ _))).mono ?_
    rintro e w1 ⟨rfl, hf⟩
    have Hf := Lib.hid hf
    clear hf
    try go_simp
    refine hK.out _ _ ?_ (fun hHeld => ?_)
    · (try dsimp only); exact ⟨hHeld.1.trans Hf.out (fun _ _ h => h), (Hf.out.cell (World.block_lt_of_cell? _ _ hHeld.2.1) (fun h => h)).trans hHeld.2.1, (Hf.out.cell (World.block_lt_of_cell? _ _ hHeld.2.2.1) (fun h => h)).trans hHeld.2.2.1, (Hf.out.cell (World.block_lt_of_cell? _ _ hHeld.2.2.2) (fun h => h)).trans hHeld.2.2.2⟩
    clear hK K
    try simp only [Act.put, List.getElem_toArray, List.getElem_cons_zero, List.getElem_cons_succ, List.setIfInBounds_toArray, List.set_cons_zero, List.set_cons_succ]
    refine wpAnyH_ready (rs := [7]) (by kernel_rfl) (by simp) ?_
    refine AllReadyH.cons rfl (fun K hK => ?_) AllReadyH.nil
    go_simp
    refine (RHas.out _ (by first | exact hHeld.1 | exact Fr.drew (Fr.refl _ _))).mono ?_
    rintro e w1 ⟨rfl, hf⟩
    have Hf := Lib.hid hf
    clear hf
    try go_simp
    refine hK.out _ _ ?_ (fun hHeld => ?_)
    · (try dsimp only); exact ⟨hHeld.1.trans Hf.out (fun _ _ h => h), (Hf.out.cell (World.block_lt_of_cell? _ _ hHeld.2.1) (fun h => h)).trans hHeld.2.1, (Hf.out.cell (World.block_lt_of_cell? _ _ hHeld.2.2.1) (fun h => h)).trans hHeld.2.2.1, (Hf.out.cell (World.block_lt_of_cell? _ _ hHeld.2.2.2) (fun h => h)).trans hHeld.2.2.2⟩
    clear hK K
    try simp only [Act.put, List.getElem_toArray, List.getElem_cons_zero, List.getElem_cons_succ, List.setIfInBounds_toArray, List.set_cons_zero, List.set_cons_succ]
    refine wpAnyH_take (i := 8) (v := ?_) rfl (by kernel_rfl) (by kernel_rfl) (by kernel_rfl) (fun _ _ _ h => h) (Or.inl ⟨by rfl, ?_⟩) (by assumption) ?_
    rotate_left
    · intro w' hSw; (try dsimp only at hSw); go_simp; try with_reducible rfl
    try simp only [Act.put, List.getElem_toArray, List.getElem_cons_zero, List.getElem_cons_succ, List.setIfInBounds_toArray, List.set_cons_zero, List.set_cons_succ]
    refine wpAnyH_take (i := 9) (v := ?_) rfl (by kernel_rfl) (by kernel_rfl) (by kernel_rfl) (fun _ _ _ h => h) (Or.inl ⟨by rfl, ?_⟩) (by assumption) ?_
    rotate_left
    · intro w' hSw; (try dsimp only at hSw); go_simp; try with_reducible rfl
    try simp only [Act.put, List.getElem_toArray, List.getElem_cons_zero, List.getElem_cons_succ, List.setIfInBounds_toArray, List.set_cons_zero, List.set_cons_succ]
    refine wpAnyH_done (by kernel_rfl) ?_ _
    go_wp2_with fail
    go_ret
    exact ⟨by first | rfl | simp, HW.out.trans hHeld.1 (fun _ _ h => h)⟩
  · clear hd
    go_upto_region 9 with fail
    refine wp_region_held_drew (S := fun w' => Fr (fun _ => False) W w' ∧ w'.cell? ⟨w.heap.size, 2, none⟩ = some (.int .i64 I) ∧ w'.cell? ⟨rh, 0, none⟩ = some (.bool false) ∧ w'.cell? ⟨rh, 1, none⟩ = some (.slice a 0 c)) (by kernel_rfl) (by exact ⟨Fr.drew (Fr.refl _ _), o2, r0, r1⟩) (fun hHeld => ?_)
    refine wpAnyH_take (i := 0) (v := ?_) rfl (by kernel_rfl) (by kernel_rfl) (by kernel_rfl) (fun _ _ _ h => h) (Or.inl ⟨by rfl, ?_⟩) (by assumption) ?_
    rotate_left
    · intro w' hSw; (try dsimp only at hSw); go_simp; try with_reducible rfl
    try simp only [Act.put, List.getElem_toArray, List.getElem_cons_zero, List.getElem_cons_succ, List.setIfInBounds_toArray, List.set_cons_zero, List.set_cons_succ]
    refine wpAnyH_take (i := 1) (v := ?_) rfl (by kernel_rfl) (by kernel_rfl) (by kernel_rfl) (fun _ _ _ h => h) (Or.inl ⟨by rfl, ?_⟩) (by assumption) ?_
    rotate_left
    · intro w' hSw; (try dsimp only at hSw); go_simp; try with_reducible rfl
    try simp only [Act.put, List.getElem_toArray, List.getElem_cons_zero, List.getElem_cons_succ, List.setIfInBounds_toArray, List.set_cons_zero, List.set_cons_succ]
    refine wpAnyH_take (i := 2) (v := ?_) rfl (by kernel_rfl) (by kernel_rfl) (by kernel_rfl) (fun _ _ _ h => h) (Or.inl ⟨by rfl, ?_⟩) (by assumption) ?_
    rotate_left
    · intro w' hSw; (try dsimp only at hSw); go_simp; try with_reducible rfl
    try simp only [Act.put, List.getElem_toArray, List.getElem_cons_zero, List.getElem_cons_succ, List.setIfInBounds_toArray, List.set_cons_zero, List.set_cons_succ]
    refine wpAnyH_take (i := 4) (v := ?_) rfl (by kernel_rfl) (by kernel_rfl) (by kernel_rfl) (fun _ _ _ h => h) (Or.inl ⟨by rfl, ?_⟩) (by assumption) ?_
    rotate_left
    · intro w' hSw; (try dsimp only at hSw); go_simp; try with_reducible rfl
    try simp only [Act.put, List.getElem_toArray, List.getElem_cons_zero, List.getElem_cons_succ, List.setIfInBounds_toArray, List.set_cons_zero, List.set_cons_succ]
    refine wpAnyH_take (i := 5) (v := ?_) rfl (by kernel_rfl) (by kernel_rfl) (by kernel_rfl) (fun _ _ _ h => h) (Or.inl ⟨by rfl, ?_⟩) (by assumption) ?_
    rotate_left
    · intro w' hSw; (try dsimp only at hSw); go_simp; try with_reducible rfl
    try simp only [Act.put, List.getElem_toArray, List.getElem_cons_zero, List.getElem_cons_succ, List.setIfInBounds_toArray, List.set_cons_zero, List.set_cons_succ]
    refine wpAnyH_take (i := 6) (v := ?_) rfl (by kernel_rfl) (by kernel_rfl) (by kernel_rfl) (fun _ _ _ h => h) (Or.inl ⟨by rfl, ?_⟩) (by assumption) ?_
    rotate_left
    · intro w' hSw; (try dsimp only at hSw); go_simp; try with_reducible rfl
    try simp only [Act.put, List.getElem_toArray, List.getElem_cons_zero, List.getElem_cons_succ, List.setIfInBounds_toArray, List.set_cons_zero, List.set_cons_succ]
    refine wpAnyH_ready (rs := [3]) (by kernel_rfl) (by simp) ?_
    refine AllReadyH.cons rfl (fun K hK => ?_) AllReadyH.nil
    go_simp
    refine (HNext.out _ (by first | exact hHeld.1 | exact Fr.drew (Fr.refl _ _))).mono ?_
    rintro e w1 ⟨rfl, hf⟩
    have Hf := Lib.hid hf
    clear hf
    try go_simp
    refine hK.out _ _ ?_ (fun hHeld => ?_)
    · (try dsimp only); exact ⟨hHeld.1.trans Hf.out (fun _ _ h => h), (Hf.out.cell (World.block_lt_of_cell? _ _ hHeld.2.1) (fun h => h)).trans hHeld.2.1, (Hf.out.cell (World.block_lt_of_cell? _ _ hHeld.2.2.1) (fun h => h)).trans hHeld.2.2.1, (Hf.out.cell (World.block_lt_of_cell? _ _ hHeld.2.2.2) (fun h => h)).trans hHeld.2.2.2⟩
    clear hK K
    try simp only [Act.put, List.getElem_toArray, List.getElem_cons_zero, List.getElem_cons_succ, List.setIfInBounds_toArray, List.set_cons_zero, List.set_cons_succ]
    refine wpAnyH_ready (rs := [7]) (by kernel_rfl) (by simp) ?_
    refine AllReadyH.cons rfl (fun K hK => ?_) AllReadyH.nil
    go_simp
    refine (RNext.out _ (by first | exact hHeld.1 | exact Fr.drew (Fr.refl _ _))).mono ?_
    rintro e w1 ⟨rfl, hf⟩
    have Hf := Lib.hid hf
    clear hf
    try go_simp
    refine hK.out _ _ ?_ (fun hHeld => ?_)
    · (try dsimp only); exact ⟨hHeld.1.trans Hf.out (fun _ _ h => h), (Hf.out.cell (World.block_lt_of_cell? _ _ hHeld.2.1) (fun h => h)).trans hHeld.2.1, (Hf.out.cell (World.block_lt_of_cell? _ _ hHeld.2.2.1) (fun h => h)).trans hHeld.2.2.1, (Hf.out.cell (World.block_lt_of_cell? _ _ hHeld.2.2.2) (fun h => h)).trans hHeld.2.2.2⟩
    clear hK K
    try simp only [Act.put, List.getElem_toArray, List.getElem_cons_zero, List.getElem_cons_succ, List.setIfInBounds_toArray, List.set_cons_zero, List.set_cons_succ]
    refine wpAnyH_take (i := 8) (v := ?_) rfl (by kernel_rfl) (by kernel_rfl) (by kernel_rfl) (fun _ _ _ h => h) (Or.inl ⟨by rfl, ?_⟩) (by assumption) ?_
    rotate_left
    · intro w' hSw; (try dsimp only at hSw); go_simp; try with_reducible rfl
    try simp only [Act.put, List.getElem_toArray, List.getElem_cons_zero, List.getElem_cons_succ, List.setIfInBounds_toArray, List.set_cons_zero, List.set_cons_succ]
    refine wpAnyH_take (i := 9) (v := ?_) rfl (by kernel_rfl) (by kernel_rfl) (by kernel_rfl) (fun _ _ _ h => h) (Or.inl ⟨by rfl, ?_⟩) (by assumption) ?_
    rotate_left
    · intro w' hSw; (try dsimp only at hSw); go_simp; try with_reducible rfl
    try simp only [Act.put, List.getElem_toArray, List.getElem_cons_zero, List.getElem_cons_succ, List.setIfInBounds_toArray, List.set_cons_zero, List.set_cons_succ]
    refine wpAnyH_done (by kernel_rfl) ?_ _
    go_wp2_with fail
    go_ret
    exact ⟨by first | rfl | simp, HW.out.trans hHeld.1 (fun _ _ h => h)⟩
  · clear hd
    go_upto_region 11 with fail
    refine wp_region_held_drew (S := fun w' => Fr (fun _ => False) W w' ∧ w'.cell? ⟨w.heap.size, 2, none⟩ = some (.int .i64 I) ∧ w'.cell? ⟨rh, 0, none⟩ = some (.bool false) ∧ w'.cell? ⟨rh, 1, none⟩ = some (.slice a 0 c)) (by kernel_rfl) (by exact ⟨Fr.drew (Fr.refl _ _), o2, r0, r1⟩) (fun hHeld => ?_)
    refine wpAnyH_take (i := 0) (v := ?_) rfl (by kernel_rfl) (by kernel_rfl) (by kernel_rfl) (fun _ _ _ h => h) (Or.inl ⟨by rfl, ?_⟩) (by assumption) ?_
    rotate_left
    · intro w' hSw; (try dsimp only at hSw); go_simp; try with_reducible rfl
    try simp only [Act.put, List.getElem_toArray, List.getElem_cons_zero, List.getElem_cons_succ, List.setIfInBounds_toArray, List.set_cons_zero, List.set_cons_succ]
    refine wpAnyH_take (i := 1) (v := ?_) rfl (by kernel_rfl) (by kernel_rfl) (by kernel_rfl) (fun _ _ _ h => h) (Or.inl ⟨by rfl, ?_⟩) (by assumption) ?_
    rotate_left
    · intro w' hSw; (try dsimp only at hSw); go_simp; try with_reducible rfl
    try simp only [Act.put, List.getElem_toArray, List.getElem_cons_zero, List.getElem_cons_succ, List.setIfInBounds_toArray, List.set_cons_zero, List.set_cons_succ]
    refine wpAnyH_take (i := 2) (v := ?_) rfl (by kernel_rfl) (by kernel_rfl) (by kernel_rfl) (fun _ _ _ h => h) (Or.inl ⟨by rfl, ?_⟩) (by assumption) ?_
    rotate_left
    · intro w' hSw; (try dsimp only at hSw); go_simp; try with_reducible rfl
    try simp only [Act.put, List.getElem_toArray, List.getElem_cons_zero, List.getElem_cons_succ, List.setIfInBounds_toArray, List.set_cons_zero, List.set_cons_succ]
    refine wpAnyH_take (i := 4) (v := ?_) rfl (by kernel_rfl) (by kernel_rfl) (by kernel_rfl) (fun _ _ _ h => h) (Or.inl ⟨by rfl, ?_⟩) (by assumption) ?_
    rotate_left
    · intro w' hSw; (try dsimp only at hSw); go_simp; try with_reducible rfl
    try simp only [Act.put, List.getElem_toArray, List.getElem_cons_zero, List.getElem_cons_succ, List.setIfInBounds_toArray, List.set_cons_zero, List.set_cons_succ]
    refine wpAnyH_take (i := 5) (v := ?_) rfl (by kernel_rfl) (by kernel_rfl) (by kernel_rfl) (fun _ _ _ h => h) (Or.inl ⟨by rfl, ?_⟩) (by assumption) ?_
    rotate_left
    · intro w' hSw; (try dsimp only at hSw); go_simp; try with_reducible rfl
    try simp only [Act.put, List.getElem_toArray, List.getElem_cons_zero, List.getElem_cons_succ, List.setIfInBounds_toArray, List.set_cons_zero, List.set_cons_succ]
    refine wpAnyH_take (i := 6) (v := ?_) rfl (by kernel_rfl) (by kernel_rfl) (by kernel_rfl) (fun _ _ _ h => h) (Or.inl ⟨by rfl, ?_⟩) (by assumption) ?_
    rotate_left
    · intro w' hSw; (try dsimp only at hSw); go_simp; try with_reducible rfl
    try simp only [Act.put, List.getElem_toArray, List.getElem_cons_zero, List.getElem_cons_succ, List.setIfInBounds_toArray, List.set_cons_zero, List.set_cons_succ]
    refine wpAnyH_ready (rs := [3]) (by kernel_rfl) (by simp) ?_
    refine AllReadyH.cons rfl (fun K hK => ?_) AllReadyH.nil
    go_simp
    refine (HFree.out _ (by first | exact hHeld.1 | exact Fr.drew (Fr.refl _ _))).mono ?_
    rintro e w1 ⟨rfl, hf⟩
    have Hf := Lib.hid hf
    clear hf
    try go_simp
    refine hK.out _ _ ?_ (fun hHeld => ?_)
    · (try dsimp only); exact ⟨hHeld.1.trans Hf.out (fun _ _ h => h), (Hf.out.cell (World.block_lt_of_cell? _ _ hHeld.2.1) (fun h => h)).trans hHeld.2.1, (Hf.out.cell (World.block_lt_of_cell? _ _ hHeld.2.2.1) (fun h => h)).trans hHeld.2.2.1, (Hf.out.cell (World.block_lt_of_cell? _ _ hHeld.2.2.2) (fun h => h)).trans hHeld.2.2.2⟩
    clear hK K
    try simp only [Act.put, List.getElem_toArray, List.getElem_cons_zero, List.getElem_cons_succ, List.setIfInBounds_toArray, List.set_cons_zero, List.set_cons_succ]
    refine wpAnyH_ready (rs := [7]) (by kernel_rfl) (by simp) ?_
    refine AllReadyH.cons rfl (fun K hK => ?_) AllReadyH.nil
    go_simp
    refine (RFree.out _ (by first | exact hHeld.1 | exact Fr.drew (Fr.refl _ _))).mono ?_
    rintro e w1 ⟨rfl, hf⟩
    have Hf := Lib.hid hf
    clear hf
    try go_simp
    refine hK.out _ _ ?_ (fun hHeld => ?_)
    · (try dsimp only); exact ⟨hHeld.1.trans Hf.out (fun _ _ h => h), (Hf.out.cell (World.block_lt_of_cell? _ _ hHeld.2.1) (fun h => h)).trans hHeld.2.1, (Hf.out.cell (World.block_lt_of_cell? _ _ hHeld.2.2.1) (fun h => h)).trans hHeld.2.2.1, (Hf.out.cell (World.block_lt_of_cell? _ _ hHeld.2.2.2) (fun h => h)).trans hHeld.2.2.2⟩
    clear hK K
    try simp only [Act.put, List.getElem_toArray, List.getElem_cons_zero, List.getElem_cons_succ, List.setIfInBounds_toArray, List.set_cons_zero, List.set_cons_succ]
    refine wpAnyH_take (i := 8) (v := ?_) rfl (by kernel_rfl) (by kernel_rfl) (by kernel_rfl) (fun _ _ _ h => h) (Or.inl ⟨by rfl, ?_⟩) (by assumption) ?_
    rotate_left
    · intro w' hSw; (try dsimp only at hSw); go_simp; try with_reducible rfl
    try simp only [Act.put, List.getElem_toArray, List.getElem_cons_zero, List.getElem_cons_succ, List.setIfInBounds_toArray, List.set_cons_zero, List.set_cons_succ]
    refine wpAnyH_take (i := 9) (v := ?_) rfl (by kernel_rfl) (by kernel_rfl) (by kernel_rfl) (fun _ _ _ h => h) (Or.inl ⟨by rfl, ?_⟩) (by assumption) ?_
    rotate_left
    · intro w' hSw; (try dsimp only at hSw); go_simp; try with_reducible rfl
    try simp only [Act.put, List.getElem_toArray, List.getElem_cons_zero, List.getElem_cons_succ, List.setIfInBounds_toArray, List.set_cons_zero, List.set_cons_succ]
    refine wpAnyH_done (by kernel_rfl) ?_ _
    go_wp2_with fail
    go_ret
    exact ⟨by first | rfl | simp, HW.out.trans hHeld.1 (fun _ _ h => h)⟩
  · clear hd
    go_upto_region 13 with fail
    refine wp_region_held_drew (S := fun w' => Fr (fun _ => False) W w' ∧ w'.cell? ⟨w.heap.size, 2, none⟩ = some (.int .i64 I) ∧ w'.cell? ⟨rh, 0, none⟩ = some (.bool false) ∧ w'.cell? ⟨rh, 1, none⟩ = some (.slice a 0 c)) (by kernel_rfl) (by exact ⟨Fr.drew (Fr.refl _ _), o2, r0, r1⟩) (fun hHeld => ?_)
    refine wpAnyH_take (i := 0) (v := ?_) rfl (by kernel_rfl) (by kernel_rfl) (by kernel_rfl) (fun _ _ _ h => h) (Or.inl ⟨by rfl, ?_⟩) (by assumption) ?_
    rotate_left
    · intro w' hSw; (try dsimp only at hSw); go_simp; try with_reducible rfl
    try simp only [Act.put, List.getElem_toArray, List.getElem_cons_zero, List.getElem_cons_succ, List.setIfInBounds_toArray, List.set_cons_zero, List.set_cons_succ]
    refine wpAnyH_take (i := 2) (v := ?_) rfl (by kernel_rfl) (by kernel_rfl) (by kernel_rfl) (fun _ _ _ h => h) (Or.inl ⟨by rfl, ?_⟩) (by assumption) ?_
    rotate_left
    · intro w' hSw; (try dsimp only at hSw); go_simp; try with_reducible rfl
    try simp only [Act.put, List.getElem_toArray, List.getElem_cons_zero, List.getElem_cons_succ, List.setIfInBounds_toArray, List.set_cons_zero, List.set_cons_succ]
    refine wpAnyH_ready (rs := [1]) (by kernel_rfl) (by simp) ?_
    refine AllReadyH.cons rfl (fun K hK => ?_) AllReadyH.nil
    go_simp
    refine (HCount.out _ (by first | exact hHeld.1 | exact Fr.drew (Fr.refl _ _))).mono ?_
    rintro e w1 ⟨rfl, hf⟩
    have Hf := Lib.hid hf
    clear hf
    try go_simp
    refine hK.out _ _ ?_ (fun hHeld => ?_)
    · (try dsimp only); exact ⟨hHeld.1.trans Hf.out (fun _ _ h => h), (Hf.out.cell (World.block_lt_of_cell? _ _ hHeld.2.1) (fun h => h)).trans hHeld.2.1, (Hf.out.cell (World.block_lt_of_cell? _ _ hHeld.2.2.1) (fun h => h)).trans hHeld.2.2.1, (Hf.out.cell (World.block_lt_of_cell? _ _ hHeld.2.2.2) (fun h => h)).trans hHeld.2.2.2⟩
    clear hK K
    try simp only [Act.put, List.getElem_toArray, List.getElem_cons_zero, List.getElem_cons_succ, List.setIfInBounds_toArray, List.set_cons_zero, List.set_cons_succ]
    refine wpAnyH_ready (rs := [3]) (by kernel_rfl) (by simp) ?_
    refine AllReadyH.cons rfl (fun K hK => ?_) AllReadyH.nil
    go_simp
    refine (RCount.out _ (by first | exact hHeld.1 | exact Fr.drew (Fr.refl _ _))).mono ?_
    rintro e w1 ⟨rfl, hf⟩
    have Hf := Lib.hid hf
    clear hf
    try go_simp
    refine hK.out _ _ ?_ (fun hHeld => ?_)
    · (try dsimp only); exact ⟨hHeld.1.trans Hf.out (fun _ _ h => h), (Hf.out.cell (World.block_lt_of_cell? _ _ hHeld.2.1) (fun h => h)).trans hHeld.2.1, (Hf.out.cell (World.block_lt_of_cell? _ _ hHeld.2.2.1) (fun h => h)).trans hHeld.2.2.1, (Hf.out.cell (World.block_lt_of_cell? _ _ hHeld.2.2.2) (fun h => h)).trans hHeld.2.2.2⟩
    clear hK K
    try simp only [Act.put, List.getElem_toArray, List.getElem_cons_zero, List.getElem_cons_succ, List.setIfInBounds_toArray, List.set_cons_zero, List.set_cons_succ]
    refine wpAnyH_take (i := 4) (v := ?_) rfl (by kernel_rfl) (by kernel_rfl) (by kernel_rfl) (fun _ _ _ h => h) (Or.inl ⟨by rfl, ?_⟩) (by assumption) ?_
    rotate_left
    · intro w' hSw; (try dsimp only at hSw); go_simp; try with_reducible rfl
    try simp only [Act.put, List.getElem_toArray, List.getElem_cons_zero, List.getElem_cons_succ, List.setIfInBounds_toArray, List.set_cons_zero, List.set_cons_succ]
    refine wpAnyH_take (i := 5) (v := ?_) rfl (by kernel_rfl) (by kernel_rfl) (by kernel_rfl) (fun _ _ _ h => h) (Or.inl ⟨by rfl, ?_⟩) (by assumption) ?_
    rotate_left
    · intro w' hSw; (try dsimp only at hSw); go_simp; try with_reducible rfl
    try simp only [Act.put, List.getElem_toArray, List.getElem_cons_zero, List.getElem_cons_succ, List.setIfInBounds_toArray, List.set_cons_zero, List.set_cons_succ]
    refine wpAnyH_take (i := 6) (v := ?_) rfl (by kernel_rfl) (by kernel_rfl) (by kernel_rfl) (fun _ _ _ h => h) (Or.inl ⟨by rfl, ?_⟩) (by assumption) ?_
    rotate_left
    · intro w' hSw; (try dsimp only at hSw); go_simp; try with_reducible rfl
    try simp only [Act.put, List.getElem_toArray, List.getElem_cons_zero, List.getElem_cons_succ, List.setIfInBounds_toArray, List.set_cons_zero, List.set_cons_succ]
    refine wpAnyH_take (i := 8) (v := ?_) rfl (by kernel_rfl) (by kernel_rfl) (by kernel_rfl) (fun _ _ _ h => h) (Or.inl ⟨by rfl, ?_⟩) (by assumption) ?_
    rotate_left
    · intro w' hSw; (try dsimp only at hSw); go_simp; try with_reducible rfl
    try simp only [Act.put, List.getElem_toArray, List.getElem_cons_zero, List.getElem_cons_succ, List.setIfInBounds_toArray, List.set_cons_zero, List.set_cons_succ]
    refine wpAnyH_take (i := 9) (v := ?_) rfl (by kernel_rfl) (by kernel_rfl) (by kernel_rfl) (fun _ _ _ h => h) (Or.inl ⟨by rfl, ?_⟩) (by assumption) ?_
    rotate_left
    · intro w' hSw; (try dsimp only at hSw); go_simp; try with_reducible rfl
    try simp only [Act.put, List.getElem_toArray, List.getElem_cons_zero, List.getElem_cons_succ, List.setIfInBounds_toArray, List.set_cons_zero, List.set_cons_succ]
    refine wpAnyH_take (i := 10) (v := ?_) rfl (by kernel_rfl) (by kernel_rfl) (by kernel_rfl) (fun _ _ _ h => h) (Or.inl ⟨by rfl, ?_⟩) (by assumption) ?_
    rotate_left
    · intro w' hSw; (try dsimp only at hSw); go_simp; try with_reducible rfl
    try simp only [Act.put, List.getElem_toArray, List.getElem_cons_zero, List.getElem_cons_succ, List.setIfInBounds_toArray, List.set_cons_zero, List.set_cons_succ]
    refine wpAnyH_take (i := 11) (v := ?_) rfl (by kernel_rfl) (by kernel_rfl) (by kernel_rfl) (fun _ _ _ h => h) (Or.inl ⟨by rfl, ?_⟩) (by assumption) ?_
    rotate_left
    · intro w' hSw; (try dsimp only at hSw); go_simp; try with_reducible rfl
    try simp only [Act.put, List.getElem_toArray, List.getElem_cons_zero, List.getElem_cons_succ, List.setIfInBounds_toArray, List.set_cons_zero, List.set_cons_succ]
    refine wpAnyH_take (i := 12) (v := ?_) rfl (by kernel_rfl) (by kernel_rfl) (by kernel_rfl) (fun _ _ _ h => h) (Or.inl ⟨by rfl, ?_⟩) (by assumption) ?_
    rotate_left
    · intro w' hSw; (try dsimp only at hSw); go_simp; try with_reducible rfl
    try simp only [Act.put, List.getElem_toArray, List.getElem_cons_zero, List.getElem_cons_succ, List.setIfInBounds_toArray, List.set_cons_zero, List.set_cons_succ]
    refine wpAnyH_ready (rs := [7]) (by kernel_rfl) (by simp) ?_
    refine AllReadyH.cons rfl (fun K hK => ?_) AllReadyH.nil
    go_simp
    refine (HBound.out _ (by first | exact hHeld.1 | exact Fr.drew (Fr.refl _ _))).mono ?_
    rintro e w1 ⟨rfl, hf⟩
    have Hf := Lib.hid hf
    clear hf
    try go_simp
    refine hK.out _ _ ?_ (fun hHeld => ?_)
    · (try dsimp only); exact ⟨hHeld.1.trans Hf.out (fun _ _ h => h), (Hf.out.cell (World.block_lt_of_cell? _ _ hHeld.2.1) (fun h => h)).trans hHeld.2.1, (Hf.out.cell (World.block_lt_of_cell? _ _ hHeld.2.2.1) (fun h => h)).trans hHeld.2.2.1, (Hf.out.cell (World.block_lt_of_cell? _ _ hHeld.2.2.2) (fun h => h)).trans hHeld.2.2.2⟩
    clear hK K
    try simp only [Act.put, List.getElem_toArray, List.getElem_cons_zero, List.getElem_cons_succ, List.setIfInBounds_toArray, List.set_cons_zero, List.set_cons_succ]
    refine wpAnyH_take (i := 13) (v := ?_) rfl (by kernel_rfl) (by kernel_rfl) (by kernel_rfl) (fun _ _ _ h => h) (Or.inl ⟨by rfl, ?_⟩) (by assumption) ?_
    rotate_left
    · intro w' hSw; (try dsimp only at hSw); go_simp; try with_reducible rfl
    try simp only [Act.put, List.getElem_toArray, List.getElem_cons_zero, List.getElem_cons_succ, List.setIfInBounds_toArray, List.set_cons_zero, List.set_cons_succ]
    refine wpAnyH_take (i := 14) (v := ?_) rfl (by kernel_rfl) (by kernel_rfl) (by kernel_rfl) (fun _ _ _ h => h) (Or.inl ⟨by rfl, ?_⟩) (by assumption) ?_
    rotate_left
    · intro w' hSw; (try dsimp only at hSw); go_simp; try with_reducible rfl
    try simp only [Act.put, List.getElem_toArray, List.getElem_cons_zero, List.getElem_cons_succ, List.setIfInBounds_toArray, List.set_cons_zero, List.set_cons_succ]
    refine wpAnyH_take (i := 15) (v := ?_) rfl (by kernel_rfl) (by kernel_rfl) (by kernel_rfl) (fun _ _ _ h => h) (Or.inl ⟨by rfl, ?_⟩) (by assumption) ?_
    rotate_left
    · intro w' hSw; (try dsimp only at hSw); go_simp; try with_reducible rfl
    try simp only [Act.put, List.getElem_toArray, List.getElem_cons_zero, List.getElem_cons_succ, List.setIfInBounds_toArray, List.set_cons_zero, List.set_cons_succ]
    refine wpAnyH_done (by kernel_rfl) ?_ _
    go_wp2_with fail
    go_ret
    exact ⟨by first | rfl | simp, HW.out.trans hHeld.1 (fun _ _ h => h)⟩
  · clear hd
    go_wp2_with fail
    refine (all_no HS1.out).mono ?_
    rintro e w2 ⟨cb, rfl, hcb, f2⟩
    have Hcb := Lib.hid hcb; have F2 := Lib.hid f2
    clear hcb f2
    go_wp2_with fail
    refine (told_no Hcb.out).mono ?_
    rintro e w3 ⟨rfl, f3⟩
    have F3 := Lib.hid (F2.out.trans f3 (fun _ _ h => h))
    clear f3
    go_wp2_with fail
    refine (rall_ok (HR1.out.fr F3.out (fun h => h) (fun _ _ h => h))).mono ?_
    rintro e w4 ⟨sv, rfl, ho, f4⟩
    have F4 := Lib.hid (F3.out.trans f4 (fun _ _ h => h)); have Ho := Lib.hid ho
    clear ho f4
    go_wp2_with fail
    refine (sameInts_ok (La := []) (Lb := []) (World.ownsRow_nil _ _ _ _) Ho.out.row (by decide) (by decide)).mono ?_
    rintro e w5 ⟨rfl, f5⟩
    have F5 := Lib.hid (F4.out.trans f5 (fun _ _ h => h))
    clear f5
    simp only [decide_true]
    go_wp2_with fail
    go_ret
    exact ⟨rfl, HW.out.trans F5.out (fun _ _ h => h)⟩
  · clear hd
    go_wp2_with fail
    refine (gaps_no HS1.out).mono ?_
    rintro e w2 ⟨cb, rfl, hcb, f2⟩
    have Hcb := Lib.hid hcb; have F2 := Lib.hid f2
    clear hcb f2
    go_wp2_with fail
    refine (pairs_no Hcb.out).mono ?_
    rintro e w3 ⟨rfl, f3⟩
    have F3 := Lib.hid (F2.out.trans f3 (fun _ _ h => h))
    clear f3
    go_wp2_with fail
    refine (rgaps_ok (HR1.out.fr F3.out (fun h => h) (fun _ _ h => h))).mono ?_
    rintro e w4 ⟨sv, rfl, ho, f4⟩
    have F4 := Lib.hid (F3.out.trans f4 (fun _ _ h => h)); have Ho := Lib.hid ho
    clear ho f4
    go_wp2_with fail
    refine (sameInts_ok (La := []) (Lb := []) (World.ownsRow_nil _ _ _ _) Ho.out.row (by decide) (by decide)).mono ?_
    rintro e w5 ⟨rfl, f5⟩
    have F5 := Lib.hid (F4.out.trans f5 (fun _ _ h => h))
    clear f5
    simp only [decide_true]
    go_wp2_with fail
    go_ret
    exact ⟨rfl, HW.out.trans F5.out (fun _ _ h => h)⟩
  · clear hd
    go_wp2_with fail
    refine (bytes_no HS1.out).mono ?_
    rintro e w2 ⟨rfl, rfl⟩
    go_wp2_with fail
    refine (rbytes_ok HR1.out).mono ?_
    rintro e w3 ⟨a3, c3, rfl, r3, o3, f3⟩
    have F3 := Lib.hid f3; have R3 := Lib.hid r3
    clear f3 r3 o3
    go_wp2_with fail
    refine (sameBytes_ok (La := []) (Lb := []) (World.ownsRow_nil _ _ _ _) R3.out (by decide) (by decide)).mono ?_
    rintro e w5 ⟨rfl, f5⟩
    have F5 := Lib.hid (F3.out.trans f5 (fun _ _ h => h))
    clear f5
    simp only [decide_true]
    go_wp2_with fail
    go_ret
    exact ⟨rfl, HW.out.trans F5.out (fun _ _ h => h)⟩
  · clear hd
    go_upto_region 23 with fail
    refine wp_region_held_drew (S := fun w' => Fr (fun _ => False) W w' ∧ w'.cell? ⟨w.heap.size, 2, none⟩ = some (.int .i64 I) ∧ w'.cell? ⟨rh, 0, none⟩ = some (.bool false) ∧ w'.cell? ⟨rh, 1, none⟩ = some (.slice a 0 c)) (by kernel_rfl) (by exact ⟨Fr.drew (Fr.refl _ _), o2, r0, r1⟩) (fun hHeld => ?_)
    refine wpAnyH_take (i := 0) (v := ?_) rfl (by kernel_rfl) (by kernel_rfl) (by kernel_rfl) (fun _ _ _ h => h) (Or.inl ⟨by rfl, ?_⟩) (by assumption) ?_
    rotate_left
    · intro w' hSw; (try dsimp only at hSw); go_simp; try with_reducible rfl
    try simp only [Act.put, List.getElem_toArray, List.getElem_cons_zero, List.getElem_cons_succ, List.setIfInBounds_toArray, List.set_cons_zero, List.set_cons_succ]
    refine wpAnyH_take (i := 1) (v := ?_) rfl (by kernel_rfl) (by kernel_rfl) (by kernel_rfl) (fun _ _ _ h => h) (Or.inl ⟨by rfl, ?_⟩) (by assumption) ?_
    rotate_left
    · intro w' hSw; (try dsimp only at hSw); go_simp; try with_reducible rfl
    try simp only [Act.put, List.getElem_toArray, List.getElem_cons_zero, List.getElem_cons_succ, List.setIfInBounds_toArray, List.set_cons_zero, List.set_cons_succ]
    refine wpAnyH_take (i := 3) (v := ?_) rfl (by kernel_rfl) (by kernel_rfl) (by kernel_rfl) (fun _ _ _ h => h) (Or.inl ⟨by rfl, ?_⟩) (by assumption) ?_
    rotate_left
    · intro w' hSw; (try dsimp only at hSw); go_simp; try with_reducible rfl
    try simp only [Act.put, List.getElem_toArray, List.getElem_cons_zero, List.getElem_cons_succ, List.setIfInBounds_toArray, List.set_cons_zero, List.set_cons_succ]
    refine wpAnyH_take (i := 4) (v := ?_) rfl (by kernel_rfl) (by kernel_rfl) (by kernel_rfl) (fun _ _ _ h => h) (Or.inl ⟨by rfl, ?_⟩) (by assumption) ?_
    rotate_left
    · intro w' hSw; (try dsimp only at hSw); go_simp; try with_reducible rfl
    try simp only [Act.put, List.getElem_toArray, List.getElem_cons_zero, List.getElem_cons_succ, List.setIfInBounds_toArray, List.set_cons_zero, List.set_cons_succ]
    refine wpAnyH_take (i := 5) (v := ?_) rfl (by kernel_rfl) (by kernel_rfl) (by kernel_rfl) (fun _ _ _ h => h) (Or.inl ⟨by rfl, ?_⟩) (by assumption) ?_
    rotate_left
    · intro w' hSw; (try dsimp only at hSw); go_simp; try with_reducible rfl
    try simp only [Act.put, List.getElem_toArray, List.getElem_cons_zero, List.getElem_cons_succ, List.setIfInBounds_toArray, List.set_cons_zero, List.set_cons_succ]
    refine wpAnyH_take (i := 6) (v := ?_) rfl (by kernel_rfl) (by kernel_rfl) (by kernel_rfl) (fun _ _ _ h => h) (Or.inl ⟨by rfl, ?_⟩) (by assumption) ?_
    rotate_left
    · intro w' hSw; (try dsimp only at hSw); go_simp; try with_reducible rfl
    try simp only [Act.put, List.getElem_toArray, List.getElem_cons_zero, List.getElem_cons_succ, List.setIfInBounds_toArray, List.set_cons_zero, List.set_cons_succ]
    refine wpAnyH_ready (rs := [2]) (by kernel_rfl) (by simp) ?_
    refine AllReadyH.cons rfl (fun K hK => ?_) AllReadyH.nil
    go_simp
    refine (HSame.out _ (by first | exact hHeld.1 | exact Fr.drew (Fr.refl _ _))).mono ?_
    rintro e w1 ⟨rfl, hf⟩
    have Hf := Lib.hid hf
    clear hf
    try go_simp
    refine hK.out _ _ ?_ (fun hHeld => ?_)
    · (try dsimp only); exact ⟨hHeld.1.trans Hf.out (fun _ _ h => h), (Hf.out.cell (World.block_lt_of_cell? _ _ hHeld.2.1) (fun h => h)).trans hHeld.2.1, (Hf.out.cell (World.block_lt_of_cell? _ _ hHeld.2.2.1) (fun h => h)).trans hHeld.2.2.1, (Hf.out.cell (World.block_lt_of_cell? _ _ hHeld.2.2.2) (fun h => h)).trans hHeld.2.2.2⟩
    clear hK K
    try simp only [Act.put, List.getElem_toArray, List.getElem_cons_zero, List.getElem_cons_succ, List.setIfInBounds_toArray, List.set_cons_zero, List.set_cons_succ]
    refine wpAnyH_take (i := 7) (v := ?_) rfl (by kernel_rfl) (by kernel_rfl) (by kernel_rfl) (fun _ _ _ h => h) (Or.inl ⟨by rfl, ?_⟩) (by assumption) ?_
    rotate_left
    · intro w' hSw; (try dsimp only at hSw); go_simp; try with_reducible rfl
    try simp only [Act.put, List.getElem_toArray, List.getElem_cons_zero, List.getElem_cons_succ, List.setIfInBounds_toArray, List.set_cons_zero, List.set_cons_succ]
    refine wpAnyH_take (i := 8) (v := ?_) rfl (by kernel_rfl) (by kernel_rfl) (by kernel_rfl) (fun _ _ _ h => h) (Or.inl ⟨by rfl, ?_⟩) (by assumption) ?_
    rotate_left
    · intro w' hSw; (try dsimp only at hSw); go_simp; try with_reducible rfl
    try simp only [Act.put, List.getElem_toArray, List.getElem_cons_zero, List.getElem_cons_succ, List.setIfInBounds_toArray, List.set_cons_zero, List.set_cons_succ]
    refine wpAnyH_done (by kernel_rfl) ?_ _
    go_wp2_with fail
    go_ret
    exact ⟨by first | rfl | simp, HW.out.trans hHeld.1 (fun _ _ h => h)⟩
  · clear hd
    go_upto_region 24 with fail
    refine wp_region_held_drew (S := fun w' => Fr (fun _ => False) W w' ∧ w'.cell? ⟨w.heap.size, 2, none⟩ = some (.int .i64 I) ∧ w'.cell? ⟨rh, 0, none⟩ = some (.bool false) ∧ w'.cell? ⟨rh, 1, none⟩ = some (.slice a 0 c)) (by kernel_rfl) (by exact ⟨Fr.drew (Fr.refl _ _), o2, r0, r1⟩) (fun hHeld => ?_)
    refine wpAnyH_take (i := 0) (v := ?_) rfl (by kernel_rfl) (by kernel_rfl) (by kernel_rfl) (fun _ _ _ h => h) (Or.inl ⟨by rfl, ?_⟩) (by assumption) ?_
    rotate_left
    · intro w' hSw; (try dsimp only at hSw); go_simp; try with_reducible rfl
    try simp only [Act.put, List.getElem_toArray, List.getElem_cons_zero, List.getElem_cons_succ, List.setIfInBounds_toArray, List.set_cons_zero, List.set_cons_succ]
    refine wpAnyH_take (i := 3) (v := ?_) rfl (by kernel_rfl) (by kernel_rfl) (by kernel_rfl) (fun _ _ _ h => h) (Or.inl ⟨by rfl, ?_⟩) (by assumption) ?_
    rotate_left
    · intro w' hSw; (try dsimp only at hSw); go_simp; try with_reducible rfl
    try simp only [Act.put, List.getElem_toArray, List.getElem_cons_zero, List.getElem_cons_succ, List.setIfInBounds_toArray, List.set_cons_zero, List.set_cons_succ]
    refine wpAnyH_take (i := 4) (v := ?_) rfl (by kernel_rfl) (by kernel_rfl) (by kernel_rfl) (fun _ _ _ h => h) (Or.inl ⟨by rfl, ?_⟩) (by assumption) ?_
    rotate_left
    · intro w' hSw; (try dsimp only at hSw); go_simp; try with_reducible rfl
    try simp only [Act.put, List.getElem_toArray, List.getElem_cons_zero, List.getElem_cons_succ, List.setIfInBounds_toArray, List.set_cons_zero, List.set_cons_succ]
    refine wpAnyH_take (i := 5) (v := ?_) rfl (by kernel_rfl) (by kernel_rfl) (by kernel_rfl) (fun _ _ _ h => h) (Or.inl ⟨by rfl, ?_⟩) (by assumption) ?_
    rotate_left
    · intro w' hSw; (try dsimp only at hSw); go_simp; try with_reducible rfl
    try simp only [Act.put, List.getElem_toArray, List.getElem_cons_zero, List.getElem_cons_succ, List.setIfInBounds_toArray, List.set_cons_zero, List.set_cons_succ]
    refine wpAnyH_take (i := 6) (v := ?_) rfl (by kernel_rfl) (by kernel_rfl) (by kernel_rfl) (fun _ _ _ h => h) (Or.inl ⟨by rfl, ?_⟩) (by assumption) ?_
    rotate_left
    · intro w' hSw; (try dsimp only at hSw); go_simp; try with_reducible rfl
    try simp only [Act.put, List.getElem_toArray, List.getElem_cons_zero, List.getElem_cons_succ, List.setIfInBounds_toArray, List.set_cons_zero, List.set_cons_succ]
    refine wpAnyH_ready (rs := [1]) (by kernel_rfl) (by simp) ?_
    refine AllReadyH.cons rfl (fun K hK => ?_) AllReadyH.nil
    go_simp
    refine (HCopy.out _ (by first | exact hHeld.1 | exact Fr.drew (Fr.refl _ _))).mono ?_
    rintro e w1 ⟨rfl, hf⟩
    have Hf := Lib.hid hf
    clear hf
    try go_simp
    refine hK.out _ _ ?_ (fun hHeld => ?_)
    · (try dsimp only); exact ⟨hHeld.1.trans Hf.out (fun _ _ h => h), (Hf.out.cell (World.block_lt_of_cell? _ _ hHeld.2.1) (fun h => h)).trans hHeld.2.1, (Hf.out.cell (World.block_lt_of_cell? _ _ hHeld.2.2.1) (fun h => h)).trans hHeld.2.2.1, (Hf.out.cell (World.block_lt_of_cell? _ _ hHeld.2.2.2) (fun h => h)).trans hHeld.2.2.2⟩
    clear hK K
    try simp only [Act.put, List.getElem_toArray, List.getElem_cons_zero, List.getElem_cons_succ, List.setIfInBounds_toArray, List.set_cons_zero, List.set_cons_succ]
    refine wpAnyH_take (i := 2) (v := ?_) rfl (by kernel_rfl) (by kernel_rfl) (by kernel_rfl) (fun _ _ _ h => h) (Or.inl ⟨by rfl, ?_⟩) (by assumption) ?_
    rotate_left
    · intro w' hSw; (try dsimp only at hSw); go_simp; try with_reducible rfl
    try simp only [Act.put, List.getElem_toArray, List.getElem_cons_zero, List.getElem_cons_succ, List.setIfInBounds_toArray, List.set_cons_zero, List.set_cons_succ]
    refine wpAnyH_take (i := 7) (v := ?_) rfl (by kernel_rfl) (by kernel_rfl) (by kernel_rfl) (fun _ _ _ h => h) (Or.inl ⟨by rfl, ?_⟩) (by assumption) ?_
    rotate_left
    · intro w' hSw; (try dsimp only at hSw); go_simp; try with_reducible rfl
    try simp only [Act.put, List.getElem_toArray, List.getElem_cons_zero, List.getElem_cons_succ, List.setIfInBounds_toArray, List.set_cons_zero, List.set_cons_succ]
    refine wpAnyH_take (i := 8) (v := ?_) rfl (by kernel_rfl) (by kernel_rfl) (by kernel_rfl) (fun _ _ _ h => h) (Or.inl ⟨by rfl, ?_⟩) (by assumption) ?_
    rotate_left
    · intro w' hSw; (try dsimp only at hSw); go_simp; try with_reducible rfl
    try simp only [Act.put, List.getElem_toArray, List.getElem_cons_zero, List.getElem_cons_succ, List.setIfInBounds_toArray, List.set_cons_zero, List.set_cons_succ]
    refine wpAnyH_done (by kernel_rfl) ?_ _
    go_wp2_with fail
    go_ret
    exact ⟨by first | rfl | simp, HW.out.trans hHeld.1 (fun _ _ h => h)⟩
end Go.Proofs.YtbfkmogibgchmaaDoor.Bt
