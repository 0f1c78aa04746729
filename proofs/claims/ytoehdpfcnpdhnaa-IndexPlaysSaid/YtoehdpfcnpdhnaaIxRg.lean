/- The index beside the document's: answers. No condition. -/
import Derived.Test.YtoehdpfcnpdhnaaIxRf
namespace Go.Proofs.Ytoehdpfcnpdhnaa.Ix
open Go.RowKit
/-- An index and the document's, that hold the same. -/
structure Pair (w : World) (bh g N m rh : Nat) (L : List (Nat × Int)) (sv : Value) (st : Nat) (w' : World) : Prop where
  ix : NewIx w w' bh g N m L st
  ref : RefAt w' rh sv L m
  newr : ∀ b, refP rh sv b → w.heap.size ≤ b
  sep : ∀ b, refP rh sv b → b ≠ bh ∧ b ≠ g
section pair
variable {w w1 w2 w3 : World} {bh g N m rh st st' : Nat} {L L' : List (Nat × Int)} {sv sv' : Value}
theorem Pair.fr (h : Pair w bh g N m rh L sv st w1) (f : Fr (fun _ => False) w1 w2) : Pair w bh g N m rh L sv st w2 :=
  ⟨h.ix.then (h.ix.at_.fr f (fun h => h) (fun h => h)) f (fun _ h => h.elim), h.ref.fr f (fun _ _ h => h), h.newr, h.sep⟩
/-- First the one, then the other. -/
theorem Pair.xd (h : Pair w bh g N m rh L sv st w1) (x : IxAt w2 bh g N m L' st') (fx : Fr (fun b => b = bh ∨ b = g) w1 w2) (d : RefAt w3 rh sv' L' m) (fd : Fr (fun b => refP rh sv b) w2 w3) (o : ∀ b, sv'.ownBlock = some b → sv.ownBlock = some b ∨ w2.heap.size ≤ b) : Pair w bh g N m rh L' sv' st' w3 := by
  have hlt := x.lt
  have hsz : w.heap.size ≤ w2.heap.size := by have := h.ix.fr.size; have := fx.size; omega
  have x3 := x.fr fd (fun e => (h.sep _ e).1 rfl) (fun e => (h.sep _ e).2 rfl)
  refine ⟨h.ix.then x3 (F := fun b => (b = bh ∨ b = g) ∨ refP rh sv b) ((fx.mono (fun b _ e => .inl e)).trans fd (fun b _ e => .inr e)) (fun b hb => ?_), d, ?_, ?_⟩
  · rcases hb with (e | e) | e
    · exact .inl e
    · exact .inr (.inl e)
    · exact .inr (.inr (h.newr b e))
  · rintro b (rfl | hb)
    · exact h.newr _ (.inl rfl)
    · rcases o b hb with e | e
      · exact h.newr b (.inr e)
      · omega
  · rintro b (rfl | hb)
    · exact h.sep _ (.inl rfl)
    · rcases o b hb with e | e
      · exact h.sep b (.inr e)
      · omega
theorem Pair.dx (h : Pair w bh g N m rh L sv st w1) (d : RefAt w2 rh sv' L' m) (fd : Fr (fun b => refP rh sv b) w1 w2) (o : ∀ b, sv'.ownBlock = some b → sv.ownBlock = some b ∨ w1.heap.size ≤ b) (x : IxAt w3 bh g N m L' st') (fx : Fr (fun b => b = bh ∨ b = g) w2 w3) : Pair w bh g N m rh L' sv' st' w3 := by
  have hlt := h.ix.at_.lt
  have hsz := h.ix.fr.size
  have sep : ∀ b, refP rh sv' b → b ≠ bh ∧ b ≠ g := by
    rintro b (rfl | hb)
    · exact h.sep _ (.inl rfl)
    · rcases o b hb with e | e
      · exact h.sep b (.inr e)
      · omega
  refine ⟨h.ix.then x (F := fun b => (b = bh ∨ b = g) ∨ refP rh sv b) ((fd.mono (fun b _ e => .inr e)).trans fx (fun b _ e => .inl e)) (fun b hb => ?_), d.fr fx (fun b hb e => by have := sep b hb; rcases e with e | e <;> simp [e] at this), ?_, sep⟩
  · rcases hb with (e | e) | e
    · exact .inl e
    · exact .inr (.inl e)
    · exact .inr (.inr (h.newr b e))
  · rintro b (rfl | hb)
    · exact h.newr _ (.inl rfl)
    · rcases o b hb with e | e
      · exact h.newr b (.inr e)
      · omega
theorem Pair.told (h : Pair w bh g N m rh L sv st w1) : Calls Try.prog 32 #[.pointer (some ⟨bh, 0, none⟩), sv] w1 fun e w' => e = .returned (.bool true) ∧ Fr (fun _ => False) w1 w' :=
  is_ok (told_ix h.ix) h.ref.row h.ref.few h.ix.at_.ids
end pair
set_option maxRecDepth 100000 in
set_option maxHeartbeats 4000000 in
theorem answers_ok {w w0 : World} {bh g N m rh st : Nat} {L : List (Nat × Int)} {sv : Value} (h : Pair w bh g N m rh L sv st w0) (hm : m ≤ 4096) (o : Op) (hid : o.2.1 < 4294967296) :
    Calls Try.prog 30 #[.pointer (some ⟨bh, 0, none⟩), .pointer (some ⟨rh, 0, none⟩), .agg #[.int .i64 o.1, .int .u32 (o.2.1 : Int), .int .i64 o.2.2]] w0 fun e w' => e = .returned (.bool true) ∧ ∃ st' sv', Pair w bh g N m rh (doL m L o) sv' st' w' ∧ (((1 ≤ o.1 ∧ o.1 ≤ 4) ∧ 1 ≤ st') ∨ (¬ (1 ≤ o.1 ∧ o.1 ≤ 4) ∧ st' = st)) := by
  obtain ⟨k, id, v⟩ := o
  simp only at hid
  obtain ⟨w1, hw1⟩ : ∃ w1, w1 = w0.alloc (.cells #[.int .i64 k, .int .u32 (id : Int), .int .i64 v] 36) := ⟨_, rfl⟩
  have fa : Fr (fun _ => False) w0 w1 := by rw [hw1]; exact Fr.alloc (Fr.refl _ _) _
  obtain ⟨ob, hob⟩ : ∃ ob, ob = w0.heap.size := ⟨_, rfl⟩
  have hobj : w1.heap[ob]? = some (.cells #[.int .i64 k, .int .u32 (id : Int), .int .i64 v] 36 (0, 0)) := by rw [hw1, hob, heap_alloc_get]; simp
  have hP := h.fr fa
  have HP := Lib.hid hP
  have Hob := Lib.hid (show ob ≠ bh ∧ ob ≠ g from by have := h.ix.at_.lt; omega)
  have Hob3 := Lib.hid (show ¬ refP rh sv ob from fun e => by have := h.ref.lt ob e; omega)
  have HU := Lib.hid h.ix.at_.up; have Hm := Lib.hid hm; have Hl := Lib.hid h.ix.at_.load; have Hid := Lib.hid hid
  have Hsep := Lib.hid h.sep
  have o1 := (cell_of hobj 1).trans (show _ = some (Value.int .u32 (id : Int)) from rfl)
  have o2 := (cell_of hobj 2).trans (show _ = some (Value.int .i64 v) from rfl)
  have o0 := (cell_of hobj 0).trans (show _ = some (Value.int .i64 k) from rfl)
  clear h hm hid fa hobj hP
  go_enter Try.func30, Try.ntmps30
  go_upto_block 0 with fail
  rw [← hw1, ← hob]
  clear hw1 hob
  have HX := Lib.hid (HP.out.fr (Fr.drew (Fr.refl (fun _ => False) w1))).ix.at_
  have HD := Lib.hid (HP.out.fr (Fr.drew (Fr.refl (fun _ => False) w1))).ref
  by_cases k1 : k = 1
  · subst k1
    go_upto_region 3 with fail
    have HP := Lib.hid (HP.out.fr (Fr.drew (Fr.refl (fun _ => False) w1)))
    have hcells : w1.drew.cell? ⟨ob, 1, none⟩ = some (.int .u32 (id : Int)) ∧ w1.drew.cell? ⟨ob, 2, none⟩ = some (.int .i64 v) := ⟨o1, o2⟩
    clear o0 o1 o2
    refine wp_region_held_drew (S := fun w' => w'.cell? ⟨ob, 1, none⟩ = some (.int .u32 (id : Int)) ∧ w'.cell? ⟨ob, 2, none⟩ = some (.int .i64 v)) (by kernel_rfl) (by exact hcells) (fun hHeld => ?_)
    refine wpAnyH_take (i := 0) (v := ?_) rfl (by kernel_rfl) (by kernel_rfl) (by kernel_rfl) (fun _ _ _ h => h) (Or.inl ⟨by rfl, ?_⟩) (by assumption) ?_
    rotate_left
    · intro w' hSw; (try dsimp only at hSw); go_simp; try with_reducible rfl
    try simp only [Act.put, List.getElem_toArray, List.getElem_cons_zero, List.getElem_cons_succ, List.setIfInBounds_toArray, List.set_cons_zero, List.set_cons_succ]
    refine wpAnyH_take (i := 1) (v := ?_) rfl (by kernel_rfl) (by kernel_rfl) (by kernel_rfl) (fun _ _ _ h => h) (Or.inl ⟨by rfl, ?_⟩) (by assumption) ?_
    rotate_left
    · intro w' hSw; (try dsimp only at hSw); go_simp; try with_reducible rfl
    try simp only [Act.put, List.getElem_toArray, List.getElem_cons_zero, List.getElem_cons_succ, List.setIfInBounds_toArray, List.set_cons_zero, List.set_cons_succ]
    refine wpAnyH_take (i := 2) (v := ?_) rfl (by kernel_rfl) (by kernel_rfl) (by kernel_rfl) (fun _ _ _ h => h) (Or.inl ⟨by rfl, ?_⟩) (by assumption) ?_
    rotate_left
    · intro w' hSw; (try dsimp only at hSw); go_simp; try with_reducible rfl
    try simp only [Act.put, List.getElem_toArray, List.getElem_cons_zero, List.getElem_cons_succ, List.setIfInBounds_toArray, List.set_cons_zero, List.set_cons_succ]
    refine wpAnyH_take (i := 3) (v := ?_) rfl (by kernel_rfl) (by kernel_rfl) (by kernel_rfl) (fun _ _ _ h => h) (Or.inl ⟨by rfl, ?_⟩) (by assumption) ?_
    rotate_left
    · intro w' hSw; (try dsimp only at hSw); go_simp; try with_reducible rfl
    try simp only [Act.put, List.getElem_toArray, List.getElem_cons_zero, List.getElem_cons_succ, List.setIfInBounds_toArray, List.set_cons_zero, List.set_cons_succ]
    refine wpAnyH_take (i := 4) (v := ?_) rfl (by kernel_rfl) (by kernel_rfl) (by kernel_rfl) (fun _ _ _ h => h) (Or.inl ⟨by rfl, ?_⟩) (by assumption) ?_
    rotate_left
    · intro w' hSw; (try dsimp only at hSw); go_simp; try with_reducible rfl
    try simp only [Act.put, List.getElem_toArray, List.getElem_cons_zero, List.getElem_cons_succ, List.setIfInBounds_toArray, List.set_cons_zero, List.set_cons_succ]
    refine wpAnyH_take (i := 6) (v := ?_) rfl (by kernel_rfl) (by kernel_rfl) (by kernel_rfl) (fun _ _ _ h => h) (Or.inl ⟨by rfl, ?_⟩) (by assumption) ?_
    rotate_left
    · intro w' hSw; (try dsimp only at hSw); go_simp; try with_reducible rfl
    try simp only [Act.put, List.getElem_toArray, List.getElem_cons_zero, List.getElem_cons_succ, List.setIfInBounds_toArray, List.set_cons_zero, List.set_cons_succ]
    refine wpAnyH_take (i := 7) (v := ?_) rfl (by kernel_rfl) (by kernel_rfl) (by kernel_rfl) (fun _ _ _ h => h) (Or.inl ⟨by rfl, ?_⟩) (by assumption) ?_
    rotate_left
    · intro w' hSw; (try dsimp only at hSw); go_simp; try with_reducible rfl
    try simp only [Act.put, List.getElem_toArray, List.getElem_cons_zero, List.getElem_cons_succ, List.setIfInBounds_toArray, List.set_cons_zero, List.set_cons_succ]
    refine wpAnyH_take (i := 8) (v := ?_) rfl (by kernel_rfl) (by kernel_rfl) (by kernel_rfl) (fun _ _ _ h => h) (Or.inl ⟨by rfl, ?_⟩) (by assumption) ?_
    rotate_left
    · intro w' hSw; (try dsimp only at hSw); go_simp; try with_reducible rfl
    try simp only [Act.put, List.getElem_toArray, List.getElem_cons_zero, List.getElem_cons_succ, List.setIfInBounds_toArray, List.set_cons_zero, List.set_cons_succ]
    refine wpAnyH_take (i := 9) (v := ?_) rfl (by kernel_rfl) (by kernel_rfl) (by kernel_rfl) (fun _ _ _ h => h) (Or.inl ⟨by rfl, ?_⟩) (by assumption) ?_
    rotate_left
    · intro w' hSw; (try dsimp only at hSw); go_simp; try with_reducible rfl
    try simp only [Act.put, List.getElem_toArray, List.getElem_cons_zero, List.getElem_cons_succ, List.setIfInBounds_toArray, List.set_cons_zero, List.set_cons_succ]
    refine wpAnyH_take (i := 10) (v := ?_) rfl (by kernel_rfl) (by kernel_rfl) (by kernel_rfl) (fun _ _ _ h => h) (Or.inl ⟨by rfl, ?_⟩) (by assumption) ?_
    rotate_left
    · intro w' hSw; (try dsimp only at hSw); go_simp; try with_reducible rfl
    try simp only [Act.put, List.getElem_toArray, List.getElem_cons_zero, List.getElem_cons_succ, List.setIfInBounds_toArray, List.set_cons_zero, List.set_cons_succ]
    refine wpAnyH_ready (rs := [5]) (by kernel_rfl) (by simp) ?_
    refine AllReadyH.cons rfl (fun K hK => ?_) AllReadyH.nil
    go_simp
    refine (put_ok HX.out Hid.out v).mono ?_
    rintro e w5 ⟨st5, hs5, rfl, h5, f5⟩
    have HX5 := Lib.hid h5; have F5 := Lib.hid f5; have HS5 := Lib.hid hs5
    have HD5 := Lib.hid (HD.out.fr f5 (fun b hb e => by have := Hsep.out b hb; rcases e with e | e <;> simp [e] at this))
    clear h5 f5 hs5
    try go_simp
    refine hK.out _ _ ?_ (fun hHeld => ?_)
    · (try dsimp only); exact ⟨(F5.out.cell (World.block_lt_of_cell? _ _ hHeld.1) (fun e => e.elim Hob.out.1 Hob.out.2)).trans hHeld.1, (F5.out.cell (World.block_lt_of_cell? _ _ hHeld.2) (fun e => e.elim Hob.out.1 Hob.out.2)).trans hHeld.2⟩
    clear hK K
    try simp only [Act.put, List.getElem_toArray, List.getElem_cons_zero, List.getElem_cons_succ, List.setIfInBounds_toArray, List.set_cons_zero, List.set_cons_succ]
    refine wpAnyH_ready (rs := [11]) (by kernel_rfl) (by simp) ?_
    refine AllReadyH.cons rfl (fun K hK => ?_) AllReadyH.nil
    go_simp
    refine (rput_ok HD5.out HU.out Hm.out Hl.out id v).mono ?_
    rintro e w6 ⟨rfl, sv6, h6, o6, f6⟩
    have HD6 := Lib.hid h6; have F6 := Lib.hid f6; have HO6 := Lib.hid o6
    clear h6 f6 o6
    try go_simp
    refine hK.out _ _ ?_ (fun hHeld => ?_)
    · (try dsimp only); exact ⟨(F6.out.cell (World.block_lt_of_cell? _ _ hHeld.1) (fun e => Hob3.out e)).trans hHeld.1, (F6.out.cell (World.block_lt_of_cell? _ _ hHeld.2) (fun e => Hob3.out e)).trans hHeld.2⟩
    clear hK K
    try simp only [Act.put, List.getElem_toArray, List.getElem_cons_zero, List.getElem_cons_succ, List.setIfInBounds_toArray, List.set_cons_zero, List.set_cons_succ]
    refine wpAnyH_take (i := 12) (v := ?_) rfl (by kernel_rfl) (by kernel_rfl) (by kernel_rfl) (fun _ _ _ h => h) (Or.inl ⟨by rfl, ?_⟩) (by assumption) ?_
    rotate_left
    · intro w' hSw; (try dsimp only at hSw); go_simp; try with_reducible rfl
    try simp only [Act.put, List.getElem_toArray, List.getElem_cons_zero, List.getElem_cons_succ, List.setIfInBounds_toArray, List.set_cons_zero, List.set_cons_succ]
    refine wpAnyH_take (i := 13) (v := ?_) rfl (by kernel_rfl) (by kernel_rfl) (by kernel_rfl) (fun _ _ _ h => h) (Or.inl ⟨by rfl, ?_⟩) (by assumption) ?_
    rotate_left
    · intro w' hSw; (try dsimp only at hSw); go_simp; try with_reducible rfl
    try simp only [Act.put, List.getElem_toArray, List.getElem_cons_zero, List.getElem_cons_succ, List.setIfInBounds_toArray, List.set_cons_zero, List.set_cons_succ]
    refine wpAnyH_done (by kernel_rfl) ?_ _
    have HQ := Lib.hid (HP.out.xd HX5.out F5.out HD6.out F6.out HO6.out)
    go_wp2_with fail
    go_ret
    exact ⟨by first | rfl | simp, st5, sv6, by unfold doL; rw [if_pos rfl]; exact HQ.out, .inl ⟨by omega, HS5.out⟩⟩
  by_cases k2 : k = 2
  · subst k2
    go_upto_region 5 with fail
    have HP := Lib.hid (HP.out.fr (Fr.drew (Fr.refl (fun _ => False) w1)))
    have hcells : w1.drew.cell? ⟨ob, 1, none⟩ = some (.int .u32 (id : Int)) ∧ w1.drew.cell? ⟨ob, 2, none⟩ = some (.int .i64 v) := ⟨o1, o2⟩
    clear o0 o1 o2 k1
    refine wp_region_held_drew (S := fun w' => w'.cell? ⟨ob, 1, none⟩ = some (.int .u32 (id : Int)) ∧ w'.cell? ⟨ob, 2, none⟩ = some (.int .i64 v)) (by kernel_rfl) (by exact hcells) (fun hHeld => ?_)
    refine wpAnyH_take (i := 0) (v := ?_) rfl (by kernel_rfl) (by kernel_rfl) (by kernel_rfl) (fun _ _ _ h => h) (Or.inl ⟨by rfl, ?_⟩) (by assumption) ?_
    rotate_left
    · intro w' hSw; (try dsimp only at hSw); go_simp; try with_reducible rfl
    try simp only [Act.put, List.getElem_toArray, List.getElem_cons_zero, List.getElem_cons_succ, List.setIfInBounds_toArray, List.set_cons_zero, List.set_cons_succ]
    refine wpAnyH_take (i := 1) (v := ?_) rfl (by kernel_rfl) (by kernel_rfl) (by kernel_rfl) (fun _ _ _ h => h) (Or.inl ⟨by rfl, ?_⟩) (by assumption) ?_
    rotate_left
    · intro w' hSw; (try dsimp only at hSw); go_simp; try with_reducible rfl
    try simp only [Act.put, List.getElem_toArray, List.getElem_cons_zero, List.getElem_cons_succ, List.setIfInBounds_toArray, List.set_cons_zero, List.set_cons_succ]
    refine wpAnyH_take (i := 2) (v := ?_) rfl (by kernel_rfl) (by kernel_rfl) (by kernel_rfl) (fun _ _ _ h => h) (Or.inl ⟨by rfl, ?_⟩) (by assumption) ?_
    rotate_left
    · intro w' hSw; (try dsimp only at hSw); go_simp; try with_reducible rfl
    try simp only [Act.put, List.getElem_toArray, List.getElem_cons_zero, List.getElem_cons_succ, List.setIfInBounds_toArray, List.set_cons_zero, List.set_cons_succ]
    refine wpAnyH_take (i := 3) (v := ?_) rfl (by kernel_rfl) (by kernel_rfl) (by kernel_rfl) (fun _ _ _ h => h) (Or.inl ⟨by rfl, ?_⟩) (by assumption) ?_
    rotate_left
    · intro w' hSw; (try dsimp only at hSw); go_simp; try with_reducible rfl
    try simp only [Act.put, List.getElem_toArray, List.getElem_cons_zero, List.getElem_cons_succ, List.setIfInBounds_toArray, List.set_cons_zero, List.set_cons_succ]
    refine wpAnyH_take (i := 4) (v := ?_) rfl (by kernel_rfl) (by kernel_rfl) (by kernel_rfl) (fun _ _ _ h => h) (Or.inl ⟨by rfl, ?_⟩) (by assumption) ?_
    rotate_left
    · intro w' hSw; (try dsimp only at hSw); go_simp; try with_reducible rfl
    try simp only [Act.put, List.getElem_toArray, List.getElem_cons_zero, List.getElem_cons_succ, List.setIfInBounds_toArray, List.set_cons_zero, List.set_cons_succ]
    refine wpAnyH_take (i := 6) (v := ?_) rfl (by kernel_rfl) (by kernel_rfl) (by kernel_rfl) (fun _ _ _ h => h) (Or.inl ⟨by rfl, ?_⟩) (by assumption) ?_
    rotate_left
    · intro w' hSw; (try dsimp only at hSw); go_simp; try with_reducible rfl
    try simp only [Act.put, List.getElem_toArray, List.getElem_cons_zero, List.getElem_cons_succ, List.setIfInBounds_toArray, List.set_cons_zero, List.set_cons_succ]
    refine wpAnyH_take (i := 7) (v := ?_) rfl (by kernel_rfl) (by kernel_rfl) (by kernel_rfl) (fun _ _ _ h => h) (Or.inl ⟨by rfl, ?_⟩) (by assumption) ?_
    rotate_left
    · intro w' hSw; (try dsimp only at hSw); go_simp; try with_reducible rfl
    try simp only [Act.put, List.getElem_toArray, List.getElem_cons_zero, List.getElem_cons_succ, List.setIfInBounds_toArray, List.set_cons_zero, List.set_cons_succ]
    refine wpAnyH_take (i := 8) (v := ?_) rfl (by kernel_rfl) (by kernel_rfl) (by kernel_rfl) (fun _ _ _ h => h) (Or.inl ⟨by rfl, ?_⟩) (by assumption) ?_
    rotate_left
    · intro w' hSw; (try dsimp only at hSw); go_simp; try with_reducible rfl
    try simp only [Act.put, List.getElem_toArray, List.getElem_cons_zero, List.getElem_cons_succ, List.setIfInBounds_toArray, List.set_cons_zero, List.set_cons_succ]
    refine wpAnyH_take (i := 9) (v := ?_) rfl (by kernel_rfl) (by kernel_rfl) (by kernel_rfl) (fun _ _ _ h => h) (Or.inl ⟨by rfl, ?_⟩) (by assumption) ?_
    rotate_left
    · intro w' hSw; (try dsimp only at hSw); go_simp; try with_reducible rfl
    try simp only [Act.put, List.getElem_toArray, List.getElem_cons_zero, List.getElem_cons_succ, List.setIfInBounds_toArray, List.set_cons_zero, List.set_cons_succ]
    refine wpAnyH_take (i := 10) (v := ?_) rfl (by kernel_rfl) (by kernel_rfl) (by kernel_rfl) (fun _ _ _ h => h) (Or.inl ⟨by rfl, ?_⟩) (by assumption) ?_
    rotate_left
    · intro w' hSw; (try dsimp only at hSw); go_simp; try with_reducible rfl
    try simp only [Act.put, List.getElem_toArray, List.getElem_cons_zero, List.getElem_cons_succ, List.setIfInBounds_toArray, List.set_cons_zero, List.set_cons_succ]
    refine wpAnyH_ready (rs := [5]) (by kernel_rfl) (by simp) ?_
    refine AllReadyH.cons rfl (fun K hK => ?_) AllReadyH.nil
    go_simp
    refine (set_ok HX.out Hid.out v).mono ?_
    rintro e w5 ⟨st5, hs5, rfl, h5, f5⟩
    have HX5 := Lib.hid h5; have F5 := Lib.hid f5; have HS5 := Lib.hid hs5
    have HD5 := Lib.hid (HD.out.fr f5 (fun b hb e => by have := Hsep.out b hb; rcases e with e | e <;> simp [e] at this))
    clear h5 f5 hs5
    try go_simp
    refine hK.out _ _ ?_ (fun hHeld => ?_)
    · (try dsimp only); exact ⟨(F5.out.cell (World.block_lt_of_cell? _ _ hHeld.1) (fun e => e.elim Hob.out.1 Hob.out.2)).trans hHeld.1, (F5.out.cell (World.block_lt_of_cell? _ _ hHeld.2) (fun e => e.elim Hob.out.1 Hob.out.2)).trans hHeld.2⟩
    clear hK K
    try simp only [Act.put, List.getElem_toArray, List.getElem_cons_zero, List.getElem_cons_succ, List.setIfInBounds_toArray, List.set_cons_zero, List.set_cons_succ]
    refine wpAnyH_ready (rs := [11]) (by kernel_rfl) (by simp) ?_
    refine AllReadyH.cons rfl (fun K hK => ?_) AllReadyH.nil
    go_simp
    refine (rset_ok HD5.out HU.out id v).mono ?_
    rintro e w6 ⟨rfl, h6, f6⟩
    have HD6 := Lib.hid h6; have F6 := Lib.hid f6
    clear h6 f6
    try go_simp
    refine hK.out _ _ ?_ (fun hHeld => ?_)
    · (try dsimp only); exact ⟨(F6.out.cell (World.block_lt_of_cell? _ _ hHeld.1) (fun e => Hob3.out e)).trans hHeld.1, (F6.out.cell (World.block_lt_of_cell? _ _ hHeld.2) (fun e => Hob3.out e)).trans hHeld.2⟩
    clear hK K
    try simp only [Act.put, List.getElem_toArray, List.getElem_cons_zero, List.getElem_cons_succ, List.setIfInBounds_toArray, List.set_cons_zero, List.set_cons_succ]
    refine wpAnyH_take (i := 12) (v := ?_) rfl (by kernel_rfl) (by kernel_rfl) (by kernel_rfl) (fun _ _ _ h => h) (Or.inl ⟨by rfl, ?_⟩) (by assumption) ?_
    rotate_left
    · intro w' hSw; (try dsimp only at hSw); go_simp; try with_reducible rfl
    try simp only [Act.put, List.getElem_toArray, List.getElem_cons_zero, List.getElem_cons_succ, List.setIfInBounds_toArray, List.set_cons_zero, List.set_cons_succ]
    refine wpAnyH_take (i := 13) (v := ?_) rfl (by kernel_rfl) (by kernel_rfl) (by kernel_rfl) (fun _ _ _ h => h) (Or.inl ⟨by rfl, ?_⟩) (by assumption) ?_
    rotate_left
    · intro w' hSw; (try dsimp only at hSw); go_simp; try with_reducible rfl
    try simp only [Act.put, List.getElem_toArray, List.getElem_cons_zero, List.getElem_cons_succ, List.setIfInBounds_toArray, List.set_cons_zero, List.set_cons_succ]
    refine wpAnyH_done (by kernel_rfl) ?_ _
    have HQ := Lib.hid (HP.out.xd HX5.out F5.out HD6.out F6.out (fun b hb => .inl hb))
    go_wp2_with fail
    go_ret
    exact ⟨by first | rfl | simp, st5, sv, by unfold doL; rw [if_neg (by simp), if_pos rfl]; exact HQ.out, .inl ⟨by omega, HS5.out⟩⟩
  by_cases k3 : k = 3
  · subst k3
    have HG := Lib.hid (get_ok HP.out.ix.at_ Hid.out)
    clear o0 o2 k1 k2
    go_wp2_with fail
    refine HG.out.mono ?_
    rintro e w5 ⟨st5, hs5, rfl, h5, f5⟩
    have o1' := (f5.cell (o := 1) (s := none) (World.block_lt_of_cell? _ _ o1) (fun e => Hob.out.1 e)).trans o1
    have hD5 := HP.out.ref.fr f5 (fun b hb e => (Hsep.out b hb).1 e)
    have HR := Lib.hid (rget_ok hD5 HU.out id)
    have HX5 := Lib.hid h5; have F5 := Lib.hid (f5.mono (G := fun b => b = bh ∨ b = g) (fun _ _ h => .inl h)); have HS5 := Lib.hid hs5; have HD5 := Lib.hid hD5
    clear h5 f5 hs5 hD5 o1 HG
    have bvv : (((look L id).getD 0) == ((look L id).getD 0)) = true := by simp
    have bbb : ((look L id).isSome == (look L id).isSome) = true := by simp
    generalize (look L id).getD 0 = gv at HR bvv
    generalize (look L id).isSome = gb at HR bbb
    go_wp2_with fail
    refine HR.out.mono ?_
    rintro e w6 ⟨rfl, f6⟩
    have F6 := Lib.hid f6
    clear f6 o1'
    have HQ := Lib.hid (HP.out.xd HX5.out F5.out (HD5.out.fr F6.out (fun _ _ h => h)) (F6.out.mono (fun _ _ h => h.elim)) (fun b hb => .inl hb))
    go_wp2_with fail
    go_ret
    exact ⟨by first | rfl | simp, st5, sv, by unfold doL; rw [if_neg (by simp), if_neg (by simp), if_pos rfl]; exact HQ.out, .inl ⟨by omega, HS5.out⟩⟩
  by_cases k4 : k = 4
  · subst k4
    go_upto_region 11 with fail
    have HP := Lib.hid (HP.out.fr (Fr.drew (Fr.refl (fun _ => False) w1)))
    have hcells : w1.drew.cell? ⟨ob, 1, none⟩ = some (.int .u32 (id : Int)) := o1
    clear o0 o1 o2 k1 k2 k3
    refine wp_region_held_drew (S := fun w' => w'.cell? ⟨ob, 1, none⟩ = some (.int .u32 (id : Int))) (by kernel_rfl) (by exact hcells) (fun hHeld => ?_)
    refine wpAnyH_take (i := 0) (v := ?_) rfl (by kernel_rfl) (by kernel_rfl) (by kernel_rfl) (fun _ _ _ h => h) (Or.inl ⟨by rfl, ?_⟩) (by assumption) ?_
    rotate_left
    · intro w' hSw; (try dsimp only at hSw); go_simp; try with_reducible rfl
    try simp only [Act.put, List.getElem_toArray, List.getElem_cons_zero, List.getElem_cons_succ, List.setIfInBounds_toArray, List.set_cons_zero, List.set_cons_succ]
    refine wpAnyH_take (i := 1) (v := ?_) rfl (by kernel_rfl) (by kernel_rfl) (by kernel_rfl) (fun _ _ _ h => h) (Or.inl ⟨by rfl, ?_⟩) (by assumption) ?_
    rotate_left
    · intro w' hSw; (try dsimp only at hSw); go_simp; try with_reducible rfl
    try simp only [Act.put, List.getElem_toArray, List.getElem_cons_zero, List.getElem_cons_succ, List.setIfInBounds_toArray, List.set_cons_zero, List.set_cons_succ]
    refine wpAnyH_take (i := 2) (v := ?_) rfl (by kernel_rfl) (by kernel_rfl) (by kernel_rfl) (fun _ _ _ h => h) (Or.inl ⟨by rfl, ?_⟩) (by assumption) ?_
    rotate_left
    · intro w' hSw; (try dsimp only at hSw); go_simp; try with_reducible rfl
    try simp only [Act.put, List.getElem_toArray, List.getElem_cons_zero, List.getElem_cons_succ, List.setIfInBounds_toArray, List.set_cons_zero, List.set_cons_succ]
    refine wpAnyH_take (i := 4) (v := ?_) rfl (by kernel_rfl) (by kernel_rfl) (by kernel_rfl) (fun _ _ _ h => h) (Or.inl ⟨by rfl, ?_⟩) (by assumption) ?_
    rotate_left
    · intro w' hSw; (try dsimp only at hSw); go_simp; try with_reducible rfl
    try simp only [Act.put, List.getElem_toArray, List.getElem_cons_zero, List.getElem_cons_succ, List.setIfInBounds_toArray, List.set_cons_zero, List.set_cons_succ]
    refine wpAnyH_take (i := 5) (v := ?_) rfl (by kernel_rfl) (by kernel_rfl) (by kernel_rfl) (fun _ _ _ h => h) (Or.inl ⟨by rfl, ?_⟩) (by assumption) ?_
    rotate_left
    · intro w' hSw; (try dsimp only at hSw); go_simp; try with_reducible rfl
    try simp only [Act.put, List.getElem_toArray, List.getElem_cons_zero, List.getElem_cons_succ, List.setIfInBounds_toArray, List.set_cons_zero, List.set_cons_succ]
    refine wpAnyH_take (i := 6) (v := ?_) rfl (by kernel_rfl) (by kernel_rfl) (by kernel_rfl) (fun _ _ _ h => h) (Or.inl ⟨by rfl, ?_⟩) (by assumption) ?_
    rotate_left
    · intro w' hSw; (try dsimp only at hSw); go_simp; try with_reducible rfl
    try simp only [Act.put, List.getElem_toArray, List.getElem_cons_zero, List.getElem_cons_succ, List.setIfInBounds_toArray, List.set_cons_zero, List.set_cons_succ]
    refine wpAnyH_ready (rs := [3]) (by kernel_rfl) (by simp) ?_
    refine AllReadyH.cons rfl (fun K hK => ?_) AllReadyH.nil
    go_simp
    refine (drop_ok HX.out Hid.out).mono ?_
    rintro e w5 ⟨st5, hs5, rfl, h5, f5⟩
    have HX5 := Lib.hid h5; have F5 := Lib.hid f5; have HS5 := Lib.hid hs5
    have HD5 := Lib.hid (HD.out.fr f5 (fun b hb e => by have := Hsep.out b hb; rcases e with e | e <;> simp [e] at this))
    clear h5 f5 hs5
    try go_simp
    refine hK.out _ _ ?_ (fun hHeld => ?_)
    · (try dsimp only); exact (F5.out.cell (World.block_lt_of_cell? _ _ hHeld) (fun e => e.elim Hob.out.1 Hob.out.2)).trans hHeld
    clear hK K
    try simp only [Act.put, List.getElem_toArray, List.getElem_cons_zero, List.getElem_cons_succ, List.setIfInBounds_toArray, List.set_cons_zero, List.set_cons_succ]
    refine wpAnyH_ready (rs := [7]) (by kernel_rfl) (by simp) ?_
    refine AllReadyH.cons rfl (fun K hK => ?_) AllReadyH.nil
    go_simp
    refine (rdrop_ok HD5.out HU.out id).mono ?_
    rintro e w6 ⟨rfl, sv6, h6, o6, f6⟩
    have HD6 := Lib.hid h6; have F6 := Lib.hid f6; have HO6 := Lib.hid o6
    clear h6 f6 o6
    try go_simp
    refine hK.out _ _ ?_ (fun hHeld => ?_)
    · (try dsimp only); exact (F6.out.cell (World.block_lt_of_cell? _ _ hHeld) (fun e => Hob3.out e)).trans hHeld
    clear hK K
    try simp only [Act.put, List.getElem_toArray, List.getElem_cons_zero, List.getElem_cons_succ, List.setIfInBounds_toArray, List.set_cons_zero, List.set_cons_succ]
    refine wpAnyH_take (i := 8) (v := ?_) rfl (by kernel_rfl) (by kernel_rfl) (by kernel_rfl) (fun _ _ _ h => h) (Or.inl ⟨by rfl, ?_⟩) (by assumption) ?_
    rotate_left
    · intro w' hSw; (try dsimp only at hSw); go_simp; try with_reducible rfl
    try simp only [Act.put, List.getElem_toArray, List.getElem_cons_zero, List.getElem_cons_succ, List.setIfInBounds_toArray, List.set_cons_zero, List.set_cons_succ]
    refine wpAnyH_take (i := 9) (v := ?_) rfl (by kernel_rfl) (by kernel_rfl) (by kernel_rfl) (fun _ _ _ h => h) (Or.inl ⟨by rfl, ?_⟩) (by assumption) ?_
    rotate_left
    · intro w' hSw; (try dsimp only at hSw); go_simp; try with_reducible rfl
    try simp only [Act.put, List.getElem_toArray, List.getElem_cons_zero, List.getElem_cons_succ, List.setIfInBounds_toArray, List.set_cons_zero, List.set_cons_succ]
    refine wpAnyH_done (by kernel_rfl) ?_ _
    have HQ := Lib.hid (HP.out.xd HX5.out F5.out HD6.out F6.out HO6.out)
    go_wp2_with fail
    go_ret
    exact ⟨by first | rfl | simp, st5, sv6, by unfold doL; rw [if_neg (by simp), if_neg (by simp), if_neg (by simp), if_pos rfl]; exact HQ.out, .inl ⟨by omega, HS5.out⟩⟩
  by_cases k5 : k = 5
  · subst k5
    have c1 := HP.out.ref.c1
    have HI := Lib.hid HP.out.told
    clear o0 o1 o2 k1 k2 k3 k4
    go_wp2_with fail
    refine HI.out.mono ?_
    rintro e w5 ⟨rfl, f5⟩
    have F5 := Lib.hid f5
    clear f5 c1
    go_wp2_with fail
    go_ret
    exact ⟨rfl, st, sv, by unfold doL; rw [if_neg (by simp), if_neg (by simp), if_neg (by simp), if_neg (by simp)]; exact HP.out.fr F5.out, .inr ⟨by omega, rfl⟩⟩
  · have b1 : (k == 1) = false := by simpa using k1
    have b2 : (k == 2) = false := by simpa using k2
    have b3 : (k == 3) = false := by simpa using k3
    have b4 : (k == 4) = false := by simpa using k4
    have b5 : (k == 5) = false := by simpa using k5
    have e : doL m L (k, id, v) = L := by unfold doL; rw [if_neg k1, if_neg k2, if_neg k3, if_neg k4]
    have HE := Lib.hid e; have HK := Lib.hid (show ¬ (1 ≤ k ∧ k ≤ 4) by omega)
    clear e k1 k2 k3 k4 k5 o1 o2
    go_wp2_with fail
    go_ret
    exact ⟨rfl, st, sv, by rw [HE.out]; exact HP.out, .inr ⟨HK.out, rfl⟩⟩
end Go.Proofs.Ytoehdpfcnpdhnaa.Ix
