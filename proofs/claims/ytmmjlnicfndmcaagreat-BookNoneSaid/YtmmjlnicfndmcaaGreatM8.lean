/- Texts put together: Books that aren't there: is, one, Arguments that are slices of structs, of numbers and of structs of numbers, BookNone: a struct of numbers by value; the walk. No condition. -/
import Derived.Test.YtmmjlnicfndmcaaGreatM7
namespace Go.Proofs.YtmmjlnicfndmcaaGreat.Bk
open Go.RowKit Go.Shelf
attribute [local go_sem] Oper.semAt_some
theorem nil_bos (w : World) : Bos w (.slice none 0 0) [] := World.ownsRow_nil _ _ _ _
set_option maxRecDepth 100000 in
set_option maxHeartbeats 4000000 in
theorem is_no {w : World} {q : Option Addr} {wb : Nat} (h : NoBook w q) (hr : RefNo w wb) : Calls Tryz.prog 20 #[.pointer q, .pointer (some ⟨wb, 0, none⟩)] w fun e w' => e = .returned (.bool true) ∧ Fr (fun _ => False) w w' := by
  have HNo := Lib.hid h; have HRef := Lib.hid hr
  clear h hr
  go_enter Tryz.func20, Tryz.ntmps20
  go_wp2_with fail
  refine (all_no HNo.out).mono ?_
  rintro e w1 ⟨cb, sv, rfl, hs, hnew, f1⟩
  have HS := Lib.hid hs; have F1 := Lib.hid f1
  clear hs hnew f1
  go_wp2_with fail
  refine (tells_ok (by simp) HS.out).mono ?_
  rintro e w2 ⟨tv, rfl, hv, hvn, f2⟩
  have HV := Lib.hid hv; have F2 := Lib.hid (F1.out.trans f2 (fun _ _ h => h))
  clear hv hvn f2
  go_wp2_with fail
  refine (due_no (HNo.out.fr F2.out)).mono ?_
  rintro e w3 ⟨rfl, rfl⟩
  go_wp2_with fail
  refine (rdue_no (HRef.out.fr F2.out)).mono ?_
  rintro e w3 ⟨rfl, rfl⟩
  have F3 := F2
  have HV3 := HV
  have HSm := Lib.hid (fun (W2 : World) (f : Fr (fun _ => False) w2 W2) => show Calls Tryz.prog 46 #[tv, .slice none 0 0] W2 fun e w' => e = .returned (.bool true) ∧ Fr (fun _ => False) W2 w' from same_ok (Row.fr HV3.out f (fun _ _ h => h)) (nil_bos W2) (by simp) (by simp))
  have HLn := Lib.hid (fun (W2 : World) (f : Fr (fun _ => False) w2 W2) => len_no ((HNo.out.fr F3.out).fr f))
  have HNx := Lib.hid (fun (W2 : World) (f : Fr (fun _ => False) w2 W2) => next_no ((HNo.out.fr F3.out).fr f))
  have HCl := Lib.hid (fun (W2 : World) (f : Fr (fun _ => False) w2 W2) => clock_no ((HNo.out.fr F3.out).fr f))
  have HSh := Lib.hid (fun (W2 : World) (f : Fr (fun _ => False) w2 W2) => shape_no ((HNo.out.fr F3.out).fr f))
  have HSall := Lib.hid (fun (W2 : World) (f : Fr (fun _ => False) w2 W2) => ((HRef.out.fr F3.out).fr f).c)
  have hq : ∀ W : World, (binOp .eql 23 (.agg #[.int .i64 0, .int .i64 0, .int .i64 0]) (.agg #[.int .i64 0, .int .i64 0, .int .i64 0])).run Tryz.prog W = .ok (.bool true) W := fun W => shEq W 0 0 0
  go_upto_region 4 with fail
  refine wp_region_held_drew (S := fun w' => w'.cell? ⟨wb, 0, none⟩ = some (.bool false) ∧ w'.cell? ⟨wb, 1, none⟩ = some (.int .i64 0) ∧ w'.cell? ⟨wb, 2, none⟩ = some (.int .i64 0) ∧ w'.cell? ⟨wb, 3, none⟩ = some (.int .i64 0) ∧ w'.cell? ⟨wb, 4, none⟩ = some (.slice none 0 0) ∧ w'.cell? ⟨wb, 5, none⟩ = some (.int .u32 0) ∧ w'.cell? ⟨wb, 6, none⟩ = some (.int .i64 0)) (by kernel_rfl) (by exact HSall.out _ (Fr.drew (Fr.refl (fun _ => False) _))) (fun hHeld => ?_)
  refine wpAnyH_take (i := 0) (v := ?_) rfl (by kernel_rfl) (by kernel_rfl) (by kernel_rfl) (fun _ _ _ h => h) (Or.inl ⟨by rfl, ?_⟩) (by assumption) ?_
  rotate_left
  · intro w' hSw; (try dsimp only at hSw); go_simp; try with_reducible rfl
  try simp only [Act.put, List.getElem_toArray, List.getElem_cons_zero, List.getElem_cons_succ, List.setIfInBounds_toArray, List.set_cons_zero, List.set_cons_succ]
  refine wpAnyH_take (i := 1) (v := ?_) rfl (by kernel_rfl) (by kernel_rfl) (by kernel_rfl) (fun _ _ _ h => h) (Or.inl ⟨by rfl, ?_⟩) (by assumption) ?_
  rotate_left
  · intro w' hSw; (try dsimp only at hSw); go_simp; try with_reducible rfl
  try simp only [Act.put, List.getElem_toArray, List.getElem_cons_zero, List.getElem_cons_succ, List.setIfInBounds_toArray, List.set_cons_zero, List.set_cons_succ]
  refine wpAnyH_take (i := 2) (v := ?_) rfl (by kernel_rfl) (by kernel_rfl) (by kernel_rfl) (fun _ _ _ h => h) (Or.inl ⟨by rfl, ?_⟩) (by assumption) ?_
  rotate_left
  · intro w' hSw; (try dsimp only at hSw); go_simp; try with_reducible rfl
  try simp only [Act.put, List.getElem_toArray, List.getElem_cons_zero, List.getElem_cons_succ, List.setIfInBounds_toArray, List.set_cons_zero, List.set_cons_succ]
  refine wpAnyH_take (i := 3) (v := ?_) rfl (by kernel_rfl) (by kernel_rfl) (by kernel_rfl) (fun _ _ _ h => h) (Or.inl ⟨by rfl, ?_⟩) (by assumption) ?_
  rotate_left
  · intro w' hSw; (try dsimp only at hSw); go_simp; try with_reducible rfl
  try simp only [Act.put, List.getElem_toArray, List.getElem_cons_zero, List.getElem_cons_succ, List.setIfInBounds_toArray, List.set_cons_zero, List.set_cons_succ]
  refine wpAnyH_take (i := 4) (v := ?_) rfl (by kernel_rfl) (by kernel_rfl) (by kernel_rfl) (fun _ _ _ h => h) (Or.inl ⟨by rfl, ?_⟩) (by assumption) ?_
  rotate_left
  · intro w' hSw; (try dsimp only at hSw); go_simp; try with_reducible rfl
  try simp only [Act.put, List.getElem_toArray, List.getElem_cons_zero, List.getElem_cons_succ, List.setIfInBounds_toArray, List.set_cons_zero, List.set_cons_succ]
  refine wpAnyH_take (i := 5) (v := ?_) rfl (by kernel_rfl) (by kernel_rfl) (by kernel_rfl) (fun _ _ _ h => h) (Or.inl ⟨by rfl, ?_⟩) (by assumption) ?_
  rotate_left
  · intro w' hSw; (try dsimp only at hSw); go_simp; try with_reducible rfl
  try simp only [Act.put, List.getElem_toArray, List.getElem_cons_zero, List.getElem_cons_succ, List.setIfInBounds_toArray, List.set_cons_zero, List.set_cons_succ]
  refine wpAnyH_take (i := 6) (v := ?_) rfl (by kernel_rfl) (by kernel_rfl) (by kernel_rfl) (fun _ _ _ h => h) (Or.inl ⟨by rfl, ?_⟩) (by assumption) ?_
  rotate_left
  · intro w' hSw; (try dsimp only at hSw); go_simp; try with_reducible rfl
  try simp only [Act.put, List.getElem_toArray, List.getElem_cons_zero, List.getElem_cons_succ, List.setIfInBounds_toArray, List.set_cons_zero, List.set_cons_succ]
  refine wpAnyH_ready (rs := [7]) (by kernel_rfl) (by simp) ?_
  refine AllReadyH.cons rfl (fun K hK => ?_) AllReadyH.nil
  go_simp
  refine (HSm.out _ (Fr.drew (Fr.refl (fun _ => False) _))).mono ?_
  rintro e w7 ⟨rfl, f7⟩
  have F7 := Lib.hid ((Fr.drew (Fr.refl (fun _ => False) _)).trans f7 (fun _ _ h => h))
  clear f7
  try go_simp
  refine hK.out _ _ ?_ (fun hHeld => ?_)
  · (try dsimp only); exact HSall.out _ F7.out
  clear hK K
  try simp only [Act.put, List.getElem_toArray, List.getElem_cons_zero, List.getElem_cons_succ, List.setIfInBounds_toArray, List.set_cons_zero, List.set_cons_succ]
  refine wpAnyH_take (i := 8) (v := ?_) rfl (by kernel_rfl) (by kernel_rfl) (by kernel_rfl) (fun _ _ _ h => h) (Or.inl ⟨by rfl, ?_⟩) (by assumption) ?_
  rotate_left
  · intro w' hSw; (try dsimp only at hSw); go_simp; try with_reducible rfl
  try simp only [Act.put, List.getElem_toArray, List.getElem_cons_zero, List.getElem_cons_succ, List.setIfInBounds_toArray, List.set_cons_zero, List.set_cons_succ]
  refine wpAnyH_take (i := 9) (v := ?_) rfl (by kernel_rfl) (by kernel_rfl) (by kernel_rfl) (fun _ _ _ h => h) (Or.inl ⟨by rfl, ?_⟩) (by assumption) ?_
  rotate_left
  · intro w' hSw; (try dsimp only at hSw); go_simp; try with_reducible rfl
  try simp only [Act.put, List.getElem_toArray, List.getElem_cons_zero, List.getElem_cons_succ, List.setIfInBounds_toArray, List.set_cons_zero, List.set_cons_succ]
  refine wpAnyH_take (i := 10) (v := ?_) rfl (by kernel_rfl) (by kernel_rfl) (by kernel_rfl) (fun _ _ _ h => h) (Or.inl ⟨by rfl, ?_⟩) (by assumption) ?_
  rotate_left
  · intro w' hSw; (try dsimp only at hSw); go_simp; try with_reducible rfl
  try simp only [Act.put, List.getElem_toArray, List.getElem_cons_zero, List.getElem_cons_succ, List.setIfInBounds_toArray, List.set_cons_zero, List.set_cons_succ]
  refine wpAnyH_take (i := 12) (v := ?_) rfl (by kernel_rfl) (by kernel_rfl) (by kernel_rfl) (fun _ _ _ h => h) (Or.inl ⟨by rfl, ?_⟩) (by assumption) ?_
  rotate_left
  · intro w' hSw; (try dsimp only at hSw); go_simp; try with_reducible rfl
  try simp only [Act.put, List.getElem_toArray, List.getElem_cons_zero, List.getElem_cons_succ, List.setIfInBounds_toArray, List.set_cons_zero, List.set_cons_succ]
  refine wpAnyH_take (i := 13) (v := ?_) rfl (by kernel_rfl) (by kernel_rfl) (by kernel_rfl) (fun _ _ _ h => h) (Or.inl ⟨by rfl, ?_⟩) (by assumption) ?_
  rotate_left
  · intro w' hSw; (try dsimp only at hSw); go_simp; try with_reducible rfl
  try simp only [Act.put, List.getElem_toArray, List.getElem_cons_zero, List.getElem_cons_succ, List.setIfInBounds_toArray, List.set_cons_zero, List.set_cons_succ]
  refine wpAnyH_take (i := 14) (v := ?_) rfl (by kernel_rfl) (by kernel_rfl) (by kernel_rfl) (fun _ _ _ h => h) (Or.inl ⟨by rfl, ?_⟩) (by assumption) ?_
  rotate_left
  · intro w' hSw; (try dsimp only at hSw); go_simp; try with_reducible rfl
  try simp only [Act.put, List.getElem_toArray, List.getElem_cons_zero, List.getElem_cons_succ, List.setIfInBounds_toArray, List.set_cons_zero, List.set_cons_succ]
  refine wpAnyH_take (i := 15) (v := ?_) rfl (by kernel_rfl) (by kernel_rfl) (by kernel_rfl) (fun _ _ _ h => h) (Or.inl ⟨by rfl, ?_⟩) (by assumption) ?_
  rotate_left
  · intro w' hSw; (try dsimp only at hSw); go_simp; try with_reducible rfl
  try simp only [Act.put, List.getElem_toArray, List.getElem_cons_zero, List.getElem_cons_succ, List.setIfInBounds_toArray, List.set_cons_zero, List.set_cons_succ]
  refine wpAnyH_take (i := 16) (v := ?_) rfl (by kernel_rfl) (by kernel_rfl) (by kernel_rfl) (fun _ _ _ h => h) (Or.inl ⟨by rfl, ?_⟩) (by assumption) ?_
  rotate_left
  · intro w' hSw; (try dsimp only at hSw); go_simp; try with_reducible rfl
  try simp only [Act.put, List.getElem_toArray, List.getElem_cons_zero, List.getElem_cons_succ, List.setIfInBounds_toArray, List.set_cons_zero, List.set_cons_succ]
  refine wpAnyH_ready (rs := [11]) (by kernel_rfl) (by simp) ?_
  refine AllReadyH.cons rfl (fun K hK => ?_) AllReadyH.nil
  go_simp
  refine (HLn.out _ F7.out).mono ?_
  rintro e w11 ⟨rfl, rfl⟩
  try go_simp
  refine hK.out _ _ ?_ (fun hHeld => ?_)
  · (try dsimp only); exact HSall.out _ F7.out
  clear hK K
  try simp only [Act.put, List.getElem_toArray, List.getElem_cons_zero, List.getElem_cons_succ, List.setIfInBounds_toArray, List.set_cons_zero, List.set_cons_succ]
  refine wpAnyH_take (i := 17) (v := ?_) rfl (by kernel_rfl) (by kernel_rfl) (by kernel_rfl) (fun _ _ _ h => h) (Or.inl ⟨by rfl, ?_⟩) (by assumption) ?_
  rotate_left
  · intro w' hSw; (try dsimp only at hSw); go_simp; try with_reducible rfl
  try simp only [Act.put, List.getElem_toArray, List.getElem_cons_zero, List.getElem_cons_succ, List.setIfInBounds_toArray, List.set_cons_zero, List.set_cons_succ]
  refine wpAnyH_take (i := 18) (v := ?_) rfl (by kernel_rfl) (by kernel_rfl) (by kernel_rfl) (fun _ _ _ h => h) (Or.inl ⟨by rfl, ?_⟩) (by assumption) ?_
  rotate_left
  · intro w' hSw; (try dsimp only at hSw); go_simp; try with_reducible rfl
  try simp only [Act.put, List.getElem_toArray, List.getElem_cons_zero, List.getElem_cons_succ, List.setIfInBounds_toArray, List.set_cons_zero, List.set_cons_succ]
  refine wpAnyH_take (i := 19) (v := ?_) rfl (by kernel_rfl) (by kernel_rfl) (by kernel_rfl) (fun _ _ _ h => h) (Or.inl ⟨by rfl, ?_⟩) (by assumption) ?_
  rotate_left
  · intro w' hSw; (try dsimp only at hSw); go_simp; try with_reducible rfl
  try simp only [Act.put, List.getElem_toArray, List.getElem_cons_zero, List.getElem_cons_succ, List.setIfInBounds_toArray, List.set_cons_zero, List.set_cons_succ]
  refine wpAnyH_take (i := 20) (v := ?_) rfl (by kernel_rfl) (by kernel_rfl) (by kernel_rfl) (fun _ _ _ h => h) (Or.inl ⟨by rfl, ?_⟩) (by assumption) ?_
  rotate_left
  · intro w' hSw; (try dsimp only at hSw); go_simp; try with_reducible rfl
  try simp only [Act.put, List.getElem_toArray, List.getElem_cons_zero, List.getElem_cons_succ, List.setIfInBounds_toArray, List.set_cons_zero, List.set_cons_succ]
  refine wpAnyH_take (i := 22) (v := ?_) rfl (by kernel_rfl) (by kernel_rfl) (by kernel_rfl) (fun _ _ _ h => h) (Or.inl ⟨by rfl, ?_⟩) (by assumption) ?_
  rotate_left
  · intro w' hSw; (try dsimp only at hSw); go_simp; try with_reducible rfl
  try simp only [Act.put, List.getElem_toArray, List.getElem_cons_zero, List.getElem_cons_succ, List.setIfInBounds_toArray, List.set_cons_zero, List.set_cons_succ]
  refine wpAnyH_take (i := 23) (v := ?_) rfl (by kernel_rfl) (by kernel_rfl) (by kernel_rfl) (fun _ _ _ h => h) (Or.inl ⟨by rfl, ?_⟩) (by assumption) ?_
  rotate_left
  · intro w' hSw; (try dsimp only at hSw); go_simp; try with_reducible rfl
  try simp only [Act.put, List.getElem_toArray, List.getElem_cons_zero, List.getElem_cons_succ, List.setIfInBounds_toArray, List.set_cons_zero, List.set_cons_succ]
  refine wpAnyH_take (i := 24) (v := ?_) rfl (by kernel_rfl) (by kernel_rfl) (by kernel_rfl) (fun _ _ _ h => h) (Or.inl ⟨by rfl, ?_⟩) (by assumption) ?_
  rotate_left
  · intro w' hSw; (try dsimp only at hSw); go_simp; try with_reducible rfl
  try simp only [Act.put, List.getElem_toArray, List.getElem_cons_zero, List.getElem_cons_succ, List.setIfInBounds_toArray, List.set_cons_zero, List.set_cons_succ]
  refine wpAnyH_take (i := 25) (v := ?_) rfl (by kernel_rfl) (by kernel_rfl) (by kernel_rfl) (fun _ _ _ h => h) (Or.inl ⟨by rfl, ?_⟩) (by assumption) ?_
  rotate_left
  · intro w' hSw; (try dsimp only at hSw); go_simp; try with_reducible rfl
  try simp only [Act.put, List.getElem_toArray, List.getElem_cons_zero, List.getElem_cons_succ, List.setIfInBounds_toArray, List.set_cons_zero, List.set_cons_succ]
  refine wpAnyH_ready (rs := [21]) (by kernel_rfl) (by simp) ?_
  refine AllReadyH.cons rfl (fun K hK => ?_) AllReadyH.nil
  go_simp
  refine (HNx.out _ F7.out).mono ?_
  rintro e w21 ⟨rfl, rfl⟩
  try go_simp
  refine hK.out _ _ ?_ (fun hHeld => ?_)
  · (try dsimp only); exact HSall.out _ F7.out
  clear hK K
  try simp only [Act.put, List.getElem_toArray, List.getElem_cons_zero, List.getElem_cons_succ, List.setIfInBounds_toArray, List.set_cons_zero, List.set_cons_succ]
  refine wpAnyH_take (i := 26) (v := ?_) rfl (by kernel_rfl) (by kernel_rfl) (by kernel_rfl) (fun _ _ _ h => h) (Or.inl ⟨by rfl, ?_⟩) (by assumption) ?_
  rotate_left
  · intro w' hSw; (try dsimp only at hSw); go_simp; try with_reducible rfl
  try simp only [Act.put, List.getElem_toArray, List.getElem_cons_zero, List.getElem_cons_succ, List.setIfInBounds_toArray, List.set_cons_zero, List.set_cons_succ]
  refine wpAnyH_take (i := 27) (v := ?_) rfl (by kernel_rfl) (by kernel_rfl) (by kernel_rfl) (fun _ _ _ h => h) (Or.inl ⟨by rfl, ?_⟩) (by assumption) ?_
  rotate_left
  · intro w' hSw; (try dsimp only at hSw); go_simp; try with_reducible rfl
  try simp only [Act.put, List.getElem_toArray, List.getElem_cons_zero, List.getElem_cons_succ, List.setIfInBounds_toArray, List.set_cons_zero, List.set_cons_succ]
  refine wpAnyH_take (i := 28) (v := ?_) rfl (by kernel_rfl) (by kernel_rfl) (by kernel_rfl) (fun _ _ _ h => h) (Or.inl ⟨by rfl, ?_⟩) (by assumption) ?_
  rotate_left
  · intro w' hSw; (try dsimp only at hSw); go_simp; try with_reducible rfl
  try simp only [Act.put, List.getElem_toArray, List.getElem_cons_zero, List.getElem_cons_succ, List.setIfInBounds_toArray, List.set_cons_zero, List.set_cons_succ]
  refine wpAnyH_take (i := 29) (v := ?_) rfl (by kernel_rfl) (by kernel_rfl) (by kernel_rfl) (fun _ _ _ h => h) (Or.inl ⟨by rfl, ?_⟩) (by assumption) ?_
  rotate_left
  · intro w' hSw; (try dsimp only at hSw); go_simp; try with_reducible rfl
  try simp only [Act.put, List.getElem_toArray, List.getElem_cons_zero, List.getElem_cons_succ, List.setIfInBounds_toArray, List.set_cons_zero, List.set_cons_succ]
  refine wpAnyH_take (i := 31) (v := ?_) rfl (by kernel_rfl) (by kernel_rfl) (by kernel_rfl) (fun _ _ _ h => h) (Or.inl ⟨by rfl, ?_⟩) (by assumption) ?_
  rotate_left
  · intro w' hSw; (try dsimp only at hSw); go_simp; try with_reducible rfl
  try simp only [Act.put, List.getElem_toArray, List.getElem_cons_zero, List.getElem_cons_succ, List.setIfInBounds_toArray, List.set_cons_zero, List.set_cons_succ]
  refine wpAnyH_take (i := 32) (v := ?_) rfl (by kernel_rfl) (by kernel_rfl) (by kernel_rfl) (fun _ _ _ h => h) (Or.inl ⟨by rfl, ?_⟩) (by assumption) ?_
  rotate_left
  · intro w' hSw; (try dsimp only at hSw); go_simp; try with_reducible rfl
  try simp only [Act.put, List.getElem_toArray, List.getElem_cons_zero, List.getElem_cons_succ, List.setIfInBounds_toArray, List.set_cons_zero, List.set_cons_succ]
  refine wpAnyH_take (i := 33) (v := ?_) rfl (by kernel_rfl) (by kernel_rfl) (by kernel_rfl) (fun _ _ _ h => h) (Or.inl ⟨by rfl, ?_⟩) (by assumption) ?_
  rotate_left
  · intro w' hSw; (try dsimp only at hSw); go_simp; try with_reducible rfl
  try simp only [Act.put, List.getElem_toArray, List.getElem_cons_zero, List.getElem_cons_succ, List.setIfInBounds_toArray, List.set_cons_zero, List.set_cons_succ]
  refine wpAnyH_take (i := 34) (v := ?_) rfl (by kernel_rfl) (by kernel_rfl) (by kernel_rfl) (fun _ _ _ h => h) (Or.inl ⟨by rfl, ?_⟩) (by assumption) ?_
  rotate_left
  · intro w' hSw; (try dsimp only at hSw); go_simp; try with_reducible rfl
  try simp only [Act.put, List.getElem_toArray, List.getElem_cons_zero, List.getElem_cons_succ, List.setIfInBounds_toArray, List.set_cons_zero, List.set_cons_succ]
  refine wpAnyH_ready (rs := [30]) (by kernel_rfl) (by simp) ?_
  refine AllReadyH.cons rfl (fun K hK => ?_) AllReadyH.nil
  go_simp
  refine (HCl.out _ F7.out).mono ?_
  rintro e w30 ⟨rfl, rfl⟩
  try go_simp
  refine hK.out _ _ ?_ (fun hHeld => ?_)
  · (try dsimp only); exact HSall.out _ F7.out
  clear hK K
  try simp only [Act.put, List.getElem_toArray, List.getElem_cons_zero, List.getElem_cons_succ, List.setIfInBounds_toArray, List.set_cons_zero, List.set_cons_succ]
  refine wpAnyH_take (i := 35) (v := ?_) rfl (by kernel_rfl) (by kernel_rfl) (by kernel_rfl) (fun _ _ _ h => h) (Or.inl ⟨by rfl, ?_⟩) (by assumption) ?_
  rotate_left
  · intro w' hSw; (try dsimp only at hSw); go_simp; try with_reducible rfl
  try simp only [Act.put, List.getElem_toArray, List.getElem_cons_zero, List.getElem_cons_succ, List.setIfInBounds_toArray, List.set_cons_zero, List.set_cons_succ]
  refine wpAnyH_take (i := 36) (v := ?_) rfl (by kernel_rfl) (by kernel_rfl) (by kernel_rfl) (fun _ _ _ h => h) (Or.inl ⟨by rfl, ?_⟩) (by assumption) ?_
  rotate_left
  · intro w' hSw; (try dsimp only at hSw); go_simp; try with_reducible rfl
  try simp only [Act.put, List.getElem_toArray, List.getElem_cons_zero, List.getElem_cons_succ, List.setIfInBounds_toArray, List.set_cons_zero, List.set_cons_succ]
  refine wpAnyH_take (i := 37) (v := ?_) rfl (by kernel_rfl) (by kernel_rfl) (by kernel_rfl) (fun _ _ _ h => h) (Or.inl ⟨by rfl, ?_⟩) (by assumption) ?_
  rotate_left
  · intro w' hSw; (try dsimp only at hSw); go_simp; try with_reducible rfl
  try simp only [Act.put, List.getElem_toArray, List.getElem_cons_zero, List.getElem_cons_succ, List.setIfInBounds_toArray, List.set_cons_zero, List.set_cons_succ]
  refine wpAnyH_take (i := 38) (v := ?_) rfl (by kernel_rfl) (by kernel_rfl) (by kernel_rfl) (fun _ _ _ h => h) (Or.inl ⟨by rfl, ?_⟩) (by assumption) ?_
  rotate_left
  · intro w' hSw; (try dsimp only at hSw); go_simp; try with_reducible rfl
  try simp only [Act.put, List.getElem_toArray, List.getElem_cons_zero, List.getElem_cons_succ, List.setIfInBounds_toArray, List.set_cons_zero, List.set_cons_succ]
  refine wpAnyH_take (i := 39) (v := ?_) rfl (by kernel_rfl) (by kernel_rfl) (by kernel_rfl) (fun _ _ _ h => h) (Or.inl ⟨by rfl, ?_⟩) (by assumption) ?_
  rotate_left
  · intro w' hSw; (try dsimp only at hSw); go_simp; try with_reducible rfl
  try simp only [Act.put, List.getElem_toArray, List.getElem_cons_zero, List.getElem_cons_succ, List.setIfInBounds_toArray, List.set_cons_zero, List.set_cons_succ]
  refine wpAnyH_take (i := 40) (v := ?_) rfl (by kernel_rfl) (by kernel_rfl) (by kernel_rfl) (fun _ _ _ h => h) (Or.inl ⟨by rfl, ?_⟩) (by assumption) ?_
  rotate_left
  · intro w' hSw; (try dsimp only at hSw); go_simp; try with_reducible rfl
  try simp only [Act.put, List.getElem_toArray, List.getElem_cons_zero, List.getElem_cons_succ, List.setIfInBounds_toArray, List.set_cons_zero, List.set_cons_succ]
  refine wpAnyH_take (i := 41) (v := ?_) rfl (by kernel_rfl) (by kernel_rfl) (by kernel_rfl) (fun _ _ _ h => h) (Or.inl ⟨by rfl, ?_⟩) (by assumption) ?_
  rotate_left
  · intro w' hSw; (try dsimp only at hSw); go_simp; try with_reducible rfl
  try simp only [Act.put, List.getElem_toArray, List.getElem_cons_zero, List.getElem_cons_succ, List.setIfInBounds_toArray, List.set_cons_zero, List.set_cons_succ]
  refine wpAnyH_take (i := 42) (v := ?_) rfl (by kernel_rfl) (by kernel_rfl) (by kernel_rfl) (fun _ _ _ h => h) (Or.inl ⟨by rfl, ?_⟩) (by assumption) ?_
  rotate_left
  · intro w' hSw; (try dsimp only at hSw); go_simp; try with_reducible rfl
  try simp only [Act.put, List.getElem_toArray, List.getElem_cons_zero, List.getElem_cons_succ, List.setIfInBounds_toArray, List.set_cons_zero, List.set_cons_succ]
  refine wpAnyH_take (i := 43) (v := ?_) rfl (by kernel_rfl) (by kernel_rfl) (by kernel_rfl) (fun _ _ _ h => h) (Or.inl ⟨by rfl, ?_⟩) (by assumption) ?_
  rotate_left
  · intro w' hSw; (try dsimp only at hSw); go_simp; try with_reducible rfl
  try simp only [Act.put, List.getElem_toArray, List.getElem_cons_zero, List.getElem_cons_succ, List.setIfInBounds_toArray, List.set_cons_zero, List.set_cons_succ]
  refine wpAnyH_take (i := 44) (v := ?_) rfl (by kernel_rfl) (by kernel_rfl) (by kernel_rfl) (fun _ _ _ h => h) (Or.inl ⟨by rfl, ?_⟩) (by assumption) ?_
  rotate_left
  · intro w' hSw; (try dsimp only at hSw); go_simp; try with_reducible rfl
  try simp only [Act.put, List.getElem_toArray, List.getElem_cons_zero, List.getElem_cons_succ, List.setIfInBounds_toArray, List.set_cons_zero, List.set_cons_succ]
  refine wpAnyH_take (i := 45) (v := ?_) rfl (by kernel_rfl) (by kernel_rfl) (by kernel_rfl) (fun _ _ _ h => h) (Or.inl ⟨by rfl, ?_⟩) (by assumption) ?_
  rotate_left
  · intro w' hSw; (try dsimp only at hSw); go_simp; try with_reducible rfl
  try simp only [Act.put, List.getElem_toArray, List.getElem_cons_zero, List.getElem_cons_succ, List.setIfInBounds_toArray, List.set_cons_zero, List.set_cons_succ]
  refine wpAnyH_take (i := 46) (v := ?_) rfl (by kernel_rfl) (by kernel_rfl) (by kernel_rfl) (fun _ _ _ h => h) (Or.inl ⟨by rfl, ?_⟩) (by assumption) ?_
  rotate_left
  · intro w' hSw; (try dsimp only at hSw); go_simp; try with_reducible rfl
  try simp only [Act.put, List.getElem_toArray, List.getElem_cons_zero, List.getElem_cons_succ, List.setIfInBounds_toArray, List.set_cons_zero, List.set_cons_succ]
  refine wpAnyH_take (i := 47) (v := ?_) rfl (by kernel_rfl) (by kernel_rfl) (by kernel_rfl) (fun _ _ _ h => h) (Or.inl ⟨by rfl, ?_⟩) (by assumption) ?_
  rotate_left
  · intro w' hSw; (try dsimp only at hSw); go_simp; try with_reducible rfl
  try simp only [Act.put, List.getElem_toArray, List.getElem_cons_zero, List.getElem_cons_succ, List.setIfInBounds_toArray, List.set_cons_zero, List.set_cons_succ]
  refine wpAnyH_take (i := 48) (v := ?_) rfl (by kernel_rfl) (by kernel_rfl) (by kernel_rfl) (fun _ _ _ h => h) (Or.inl ⟨by rfl, ?_⟩) (by assumption) ?_
  rotate_left
  · intro w' hSw; (try dsimp only at hSw); go_simp; try with_reducible rfl
  try simp only [Act.put, List.getElem_toArray, List.getElem_cons_zero, List.getElem_cons_succ, List.setIfInBounds_toArray, List.set_cons_zero, List.set_cons_succ]
  refine wpAnyH_take (i := 50) (v := ?_) rfl (by kernel_rfl) (by kernel_rfl) (by kernel_rfl) (fun _ _ _ h => h) (Or.inl ⟨by rfl, ?_⟩) (by assumption) ?_
  rotate_left
  · intro w' hSw; (try dsimp only at hSw); go_simp; try with_reducible rfl
  try simp only [Act.put, List.getElem_toArray, List.getElem_cons_zero, List.getElem_cons_succ, List.setIfInBounds_toArray, List.set_cons_zero, List.set_cons_succ]
  refine wpAnyH_take (i := 51) (v := ?_) rfl (by kernel_rfl) (by kernel_rfl) (by kernel_rfl) (fun _ _ _ h => h) (Or.inl ⟨by rfl, ?_⟩) (by assumption) ?_
  rotate_left
  · intro w' hSw; (try dsimp only at hSw); go_simp; try with_reducible rfl
  try simp only [Act.put, List.getElem_toArray, List.getElem_cons_zero, List.getElem_cons_succ, List.setIfInBounds_toArray, List.set_cons_zero, List.set_cons_succ]
  refine wpAnyH_take (i := 52) (v := ?_) rfl (by kernel_rfl) (by kernel_rfl) (by kernel_rfl) (fun _ _ _ h => h) (Or.inl ⟨by rfl, ?_⟩) (by assumption) ?_
  rotate_left
  · intro w' hSw; (try dsimp only at hSw); go_simp; try with_reducible rfl
  try simp only [Act.put, List.getElem_toArray, List.getElem_cons_zero, List.getElem_cons_succ, List.setIfInBounds_toArray, List.set_cons_zero, List.set_cons_succ]
  refine wpAnyH_take (i := 53) (v := ?_) rfl (by kernel_rfl) (by kernel_rfl) (by kernel_rfl) (fun _ _ _ h => h) (Or.inl ⟨by rfl, ?_⟩) (by assumption) ?_
  rotate_left
  · intro w' hSw; (try dsimp only at hSw); go_simp; try with_reducible rfl
  try simp only [Act.put, List.getElem_toArray, List.getElem_cons_zero, List.getElem_cons_succ, List.setIfInBounds_toArray, List.set_cons_zero, List.set_cons_succ]
  refine wpAnyH_ready (rs := [49]) (by kernel_rfl) (by simp) ?_
  refine AllReadyH.cons rfl (fun K hK => ?_) AllReadyH.nil
  go_simp
  refine (HSh.out _ F7.out).mono ?_
  rintro e w49 ⟨rfl, f49⟩
  have F49 := Lib.hid (F7.out.trans f49 (fun _ _ h => h))
  clear f49
  try go_simp
  refine hK.out _ _ ?_ (fun hHeld => ?_)
  · (try dsimp only); exact HSall.out _ F49.out
  clear hK K
  try simp only [Act.put, List.getElem_toArray, List.getElem_cons_zero, List.getElem_cons_succ, List.setIfInBounds_toArray, List.set_cons_zero, List.set_cons_succ]
  refine wpAnyH_take (i := 54) (v := ?_) rfl (by kernel_rfl) (by kernel_rfl) (by kernel_rfl) (fun _ _ _ h => h) (Or.inl ⟨by rfl, ?_⟩) (by assumption) ?_
  rotate_left
  · intro w' hSw; (try dsimp only at hSw); go_simp; try with_reducible rfl
  try simp only [Act.put, List.getElem_toArray, List.getElem_cons_zero, List.getElem_cons_succ, List.setIfInBounds_toArray, List.set_cons_zero, List.set_cons_succ]
  refine wpAnyH_take (i := 55) (v := ?_) rfl (by kernel_rfl) (by kernel_rfl) (by kernel_rfl) (fun _ _ _ h => h) (Or.inl ⟨by rfl, ?_⟩) (by assumption) ?_
  rotate_left
  · intro w' hSw; (try dsimp only at hSw); go_simp; try with_reducible rfl
  try simp only [Act.put, List.getElem_toArray, List.getElem_cons_zero, List.getElem_cons_succ, List.setIfInBounds_toArray, List.set_cons_zero, List.set_cons_succ]
  refine wpAnyH_take (i := 56) (v := ?_) rfl (by kernel_rfl) (by kernel_rfl) (by kernel_rfl) (fun _ _ _ h => h) (Or.inl ⟨by rfl, ?_⟩) (by assumption) ?_
  rotate_left
  · intro w' hSw; (try dsimp only at hSw); go_simp; try with_reducible rfl
  try simp only [Act.put, List.getElem_toArray, List.getElem_cons_zero, List.getElem_cons_succ, List.setIfInBounds_toArray, List.set_cons_zero, List.set_cons_succ]
  refine wpAnyH_done (by kernel_rfl) ?_ _
  go_wp2_with fail
  go_ret
  exact ⟨rfl, F3.out.trans F49.out (fun _ _ h => h)⟩
theorem op_cells {w : World} {z : Nat} {a b k : Int} {id : Nat} {r : Rc} (h : w.heap[z]? = some (.cells #[.int .i64 a, .int .i64 b, .int .i64 r.kind, .int .u32 (r.id : Int), .int .i64 r.seat, .int .i64 r.till, .int .i64 r.clock, .int .u32 (id : Int), .int .i64 k] 48 (0, 0))) : w.cell? ⟨z, 0, none⟩ = some (.int .i64 a) ∧ w.cell? ⟨z, 2, none⟩ = some (.int .i64 r.kind) ∧ w.cell? ⟨z, 3, none⟩ = some (.int .u32 (r.id : Int)) ∧ w.cell? ⟨z, 4, none⟩ = some (.int .i64 r.seat) ∧ w.cell? ⟨z, 5, none⟩ = some (.int .i64 r.till) ∧ w.cell? ⟨z, 6, none⟩ = some (.int .i64 r.clock) ∧ w.cell? ⟨z, 7, none⟩ = some (.int .u32 (id : Int)) ∧ w.cell? ⟨z, 8, none⟩ = some (.int .i64 k) :=
  ⟨(cell_of h 0).trans rfl, (cell_of h 2).trans rfl, (cell_of h 3).trans rfl, (cell_of h 4).trans rfl, (cell_of h 5).trans rfl, (cell_of h 6).trans rfl, (cell_of h 7).trans rfl, (cell_of h 8).trans rfl⟩
set_option maxRecDepth 100000 in
set_option maxHeartbeats 8000000 in
theorem one_no {w : World} {q : Option Addr} {wb : Nat} (h : NoBook w q) (hr : RefNo w wb) {a b k : Int} {id : Nat} {r : Rc} (ha : -9223372036854775808 ≤ a ∧ a ≤ 9223372036854775807) : Calls Tryz.prog 14 #[.pointer q, .pointer (some ⟨wb, 0, none⟩), .agg #[.int .i64 a, .int .i64 b, .int .i64 r.kind, .int .u32 (r.id : Int), .int .i64 r.seat, .int .i64 r.till, .int .i64 r.clock, .int .u32 (id : Int), .int .i64 k]] w fun e w' => e = .returned (.bool true) ∧ Fr (fun _ => False) w w' := by
  obtain ⟨W, hW⟩ : ∃ W, W = w.alloc (.cells #[.int .i64 a, .int .i64 b, .int .i64 r.kind, .int .u32 (r.id : Int), .int .i64 r.seat, .int .i64 r.till, .int .i64 r.clock, .int .u32 (id : Int), .int .i64 k] 48) := ⟨_, rfl⟩
  obtain ⟨z, hz⟩ : ∃ z, z = w.heap.size := ⟨_, rfl⟩
  have f0 : Fr (fun _ => False) w W := by rw [hW]; exact Fr.alloc (Fr.refl _ _) _
  have hg : W.heap[z]? = some (.cells #[.int .i64 a, .int .i64 b, .int .i64 r.kind, .int .u32 (r.id : Int), .int .i64 r.seat, .int .i64 r.till, .int .i64 r.clock, .int .u32 (id : Int), .int .i64 k] 48 (0, 0)) := by rw [hW, hz]; exact heap_alloc_at _ _
  have HSall := Lib.hid (fun (W2 : World) (f : Fr (fun _ => False) W W2) => op_cells (f.get hg (fun h => h)))
  have HNo := Lib.hid (fun (W2 : World) (f : Fr (fun _ => False) W W2) => (h.fr f0).fr f)
  have HRef := Lib.hid (fun (W2 : World) (f : Fr (fun _ => False) W W2) => (hr.fr f0).fr f)
  have HPk := pick_ok a 7 W ha.1 ha.2 (by omega) (by omega)
  have F0 := Lib.hid f0
  obtain ⟨c, hc⟩ : ∃ c, c = a % 7 := ⟨_, rfl⟩
  rw [← hc] at HPk
  have hc0 : c = 0 ∨ c = 1 ∨ c = 2 ∨ c = 3 ∨ c = 4 ∨ c = 5 ∨ c = 6 := by omega
  have HPk := Lib.hid HPk
  obtain ⟨z0, z2, z3, z4, z5, z6, z7, z8⟩ := op_cells hg
  clear hc h hr ha f0 hg
  go_enter Tryz.func14, Tryz.ntmps14
  go_upto_region 1 with fail
  rw [← hW, ← hz]
  clear hW hz
  go_wp2_with fail
  refine HPk.out.mono ?_
  rintro e w1 ⟨rfl, rfl⟩
  clear HPk
  rcases hc0 with rfl | rfl | rfl | rfl | rfl | rfl | rfl
  · go_upto_region 3 with fail
    clear z0 z2 z3 z4 z5 z6 z7 z8
    refine wp_region_held_drew (S := fun w' => (w'.cell? ⟨z, 0, none⟩ = some (.int .i64 a) ∧ w'.cell? ⟨z, 2, none⟩ = some (.int .i64 r.kind) ∧ w'.cell? ⟨z, 3, none⟩ = some (.int .u32 (r.id : Int)) ∧ w'.cell? ⟨z, 4, none⟩ = some (.int .i64 r.seat) ∧ w'.cell? ⟨z, 5, none⟩ = some (.int .i64 r.till) ∧ w'.cell? ⟨z, 6, none⟩ = some (.int .i64 r.clock) ∧ w'.cell? ⟨z, 7, none⟩ = some (.int .u32 (id : Int)) ∧ w'.cell? ⟨z, 8, none⟩ = some (.int .i64 k)) ∧ w'.cell? ⟨wb, 0, none⟩ = some (.bool false)) (by kernel_rfl) (by exact ⟨HSall.out _ (Fr.drew (Fr.refl (fun _ => False) _)), (HRef.out _ (Fr.drew (Fr.refl (fun _ => False) _))).c.1⟩) (fun hHeld => ?_)
    refine wpAnyH_take (i := 0) (v := ?_) rfl (by kernel_rfl) (by kernel_rfl) (by kernel_rfl) (fun _ _ _ h => h) (Or.inl ⟨by rfl, ?_⟩) (by assumption) ?_
    rotate_left
    · intro w' hSw; (try dsimp only at hSw); go_simp; try with_reducible rfl
    try simp only [Act.put, List.getElem_toArray, List.getElem_cons_zero, List.getElem_cons_succ, List.setIfInBounds_toArray, List.set_cons_zero, List.set_cons_succ]
    refine wpAnyH_take (i := 1) (v := ?_) rfl (by kernel_rfl) (by kernel_rfl) (by kernel_rfl) (fun _ _ _ h => h) (Or.inl ⟨by rfl, ?_⟩) (by assumption) ?_
    rotate_left
    · intro w' hSw; (try dsimp only at hSw); go_simp; try with_reducible rfl
    try simp only [Act.put, List.getElem_toArray, List.getElem_cons_zero, List.getElem_cons_succ, List.setIfInBounds_toArray, List.set_cons_zero, List.set_cons_succ]
    refine wpAnyH_take (i := 2) (v := ?_) rfl (by kernel_rfl) (by kernel_rfl) (by kernel_rfl) (fun _ _ _ h => h) (Or.inl ⟨by rfl, ?_⟩) (by assumption) ?_
    rotate_left
    · intro w' hSw; (try dsimp only at hSw); go_simp; try with_reducible rfl
    try simp only [Act.put, List.getElem_toArray, List.getElem_cons_zero, List.getElem_cons_succ, List.setIfInBounds_toArray, List.set_cons_zero, List.set_cons_succ]
    refine wpAnyH_take (i := 4) (v := ?_) rfl (by kernel_rfl) (by kernel_rfl) (by kernel_rfl) (fun _ _ _ h => h) (Or.inl ⟨by rfl, ?_⟩) (by assumption) ?_
    rotate_left
    · intro w' hSw; (try dsimp only at hSw); go_simp; try with_reducible rfl
    try simp only [Act.put, List.getElem_toArray, List.getElem_cons_zero, List.getElem_cons_succ, List.setIfInBounds_toArray, List.set_cons_zero, List.set_cons_succ]
    refine wpAnyH_take (i := 5) (v := ?_) rfl (by kernel_rfl) (by kernel_rfl) (by kernel_rfl) (fun _ _ _ h => h) (Or.inl ⟨by rfl, ?_⟩) (by assumption) ?_
    rotate_left
    · intro w' hSw; (try dsimp only at hSw); go_simp; try with_reducible rfl
    try simp only [Act.put, List.getElem_toArray, List.getElem_cons_zero, List.getElem_cons_succ, List.setIfInBounds_toArray, List.set_cons_zero, List.set_cons_succ]
    refine wpAnyH_take (i := 6) (v := ?_) rfl (by kernel_rfl) (by kernel_rfl) (by kernel_rfl) (fun _ _ _ h => h) (Or.inl ⟨by rfl, ?_⟩) (by assumption) ?_
    rotate_left
    · intro w' hSw; (try dsimp only at hSw); go_simp; try with_reducible rfl
    try simp only [Act.put, List.getElem_toArray, List.getElem_cons_zero, List.getElem_cons_succ, List.setIfInBounds_toArray, List.set_cons_zero, List.set_cons_succ]
    refine wpAnyH_ready (rs := [3]) (by kernel_rfl) (by simp) ?_
    refine AllReadyH.cons rfl (fun K hK => ?_) AllReadyH.nil
    go_simp
    refine (apply_no (HNo.out _ (Fr.drew (Fr.refl (fun _ => False) _))) r).mono ?_
    rintro e w3 ⟨rfl, f3⟩
    have F3 := Lib.hid ((Fr.drew (Fr.refl (fun _ => False) _)).trans f3 (fun _ _ h => h))
    clear f3
    try go_simp
    refine hK.out _ _ ?_ (fun hHeld => ?_)
    · (try dsimp only); exact ⟨HSall.out _ F3.out, (HRef.out _ F3.out).c.1⟩
    clear hK K
    try simp only [Act.put, List.getElem_toArray, List.getElem_cons_zero, List.getElem_cons_succ, List.setIfInBounds_toArray, List.set_cons_zero, List.set_cons_succ]
    refine wpAnyH_ready (rs := [7]) (by kernel_rfl) (by simp) ?_
    refine AllReadyH.cons rfl (fun K hK => ?_) AllReadyH.nil
    go_simp
    refine (rapply_no (HRef.out _ F3.out) r).mono ?_
    rintro e w7 ⟨rfl, f7⟩
    have F7 := Lib.hid (F3.out.trans f7 (fun _ _ h => h))
    clear f7
    try go_simp
    refine hK.out _ _ ?_ (fun hHeld => ?_)
    · (try dsimp only); exact ⟨HSall.out _ F7.out, (HRef.out _ F7.out).c.1⟩
    clear hK K
    try simp only [Act.put, List.getElem_toArray, List.getElem_cons_zero, List.getElem_cons_succ, List.setIfInBounds_toArray, List.set_cons_zero, List.set_cons_succ]
    refine wpAnyH_take (i := 8) (v := ?_) rfl (by kernel_rfl) (by kernel_rfl) (by kernel_rfl) (fun _ _ _ h => h) (Or.inl ⟨by rfl, ?_⟩) (by assumption) ?_
    rotate_left
    · intro w' hSw; (try dsimp only at hSw); go_simp; try with_reducible rfl
    try simp only [Act.put, List.getElem_toArray, List.getElem_cons_zero, List.getElem_cons_succ, List.setIfInBounds_toArray, List.set_cons_zero, List.set_cons_succ]
    refine wpAnyH_take (i := 9) (v := ?_) rfl (by kernel_rfl) (by kernel_rfl) (by kernel_rfl) (fun _ _ _ h => h) (Or.inl ⟨by rfl, ?_⟩) (by assumption) ?_
    rotate_left
    · intro w' hSw; (try dsimp only at hSw); go_simp; try with_reducible rfl
    try simp only [Act.put, List.getElem_toArray, List.getElem_cons_zero, List.getElem_cons_succ, List.setIfInBounds_toArray, List.set_cons_zero, List.set_cons_succ]
    refine wpAnyH_done (by kernel_rfl) ?_ _
    go_wp2_with fail
    go_ret
    exact ⟨rfl, F0.out.trans F7.out (fun _ _ h => h)⟩
  · go_wp2_with fail
    refine (get_no (HNo.out _ (Fr.refl _ _)) id).mono ?_
    rintro e w3 ⟨rfl, f3⟩
    have F3 := Lib.hid f3
    clear f3 z0 z2 z3 z4 z5 z6 z7 z8
    go_upto_region 6 with fail
    obtain ⟨W4, hW4⟩ : ∃ W4, W4 = w3.alloc (.cells #[.int .u32 0, .int .i64 0, .int .i64 0] 70) := ⟨_, rfl⟩
    obtain ⟨xb, hxb⟩ : ∃ xb, xb = w3.heap.size := ⟨_, rfl⟩
    rw [← hW4, ← hxb]
    have f4 : Fr (fun _ => False) w3 W4 := by rw [hW4]; exact Fr.alloc (Fr.refl _ _) _
    have Hg4 := Lib.hid (show W4.heap[xb]? = some (.cells #[.int .u32 0, .int .i64 0, .int .i64 0] 70 (0, 0)) by rw [hW4, hxb]; exact heap_alloc_at _ _)
    have F4 := Lib.hid (F3.out.trans f4 (fun _ _ h => h))
    clear f4 hW4 hxb
    obtain ⟨z0, z2, z3, z4, z5, z6, z7, z8⟩ := HSall.out _ F4.out
    go_wp2_with fail
    refine (rget_no (HRef.out _ F4.out) id).mono ?_
    rintro e w5 ⟨rfl, f5⟩
    have Hg5 := Lib.hid (f5.get Hg4.out (fun h => h)); have F5 := Lib.hid (F4.out.trans f5 (fun _ _ h => h))
    clear f5 z0 z2 z3 z4 z5 z6 z7 z8 Hg4
    go_upto_region 7 with fail
    obtain ⟨W6, hW6⟩ : ∃ W6, W6 = w5.alloc (.cells #[.int .u32 0, .int .i64 0, .int .i64 0] 70) := ⟨_, rfl⟩
    obtain ⟨yb, hyb⟩ : ∃ yb, yb = w5.heap.size := ⟨_, rfl⟩
    rw [← hW6, ← hyb]
    have f6 : Fr (fun _ => False) w5 W6 := by rw [hW6]; exact Fr.alloc (Fr.refl _ _) _
    have hg6 : W6.heap[yb]? = some (.cells #[.int .u32 0, .int .i64 0, .int .i64 0] 70 (0, 0)) := by rw [hW6, hyb]; exact heap_alloc_at _ _
    have hg7 := f6.get Hg5.out (fun h => h)
    have x0 := (cell_of hg7 0).trans (show _ = some (Value.int .u32 0) from rfl)
    have x1 := (cell_of hg7 1).trans (show _ = some (Value.int .i64 0) from rfl)
    have x2 := (cell_of hg7 2).trans (show _ = some (Value.int .i64 0) from rfl)
    have y0 := (cell_of hg6 0).trans (show _ = some (Value.int .u32 0) from rfl)
    have y1 := (cell_of hg6 1).trans (show _ = some (Value.int .i64 0) from rfl)
    have y2 := (cell_of hg6 2).trans (show _ = some (Value.int .i64 0) from rfl)
    have hq : ∀ W : World, (binOp .eql 70 (.agg #[.int .u32 0, .int .i64 0, .int .i64 0]) (.agg #[.int .u32 0, .int .i64 0, .int .i64 0])).run Tryz.prog W = .ok (.bool true) W := fun W => eqlBo W (0, 0, 0) (0, 0, 0)
    have F6 := Lib.hid (F5.out.trans f6 (fun _ _ h => h))
    clear hg6 hg7 f6 hW6 hyb Hg5
    go_wp2_with fail
    go_ret
    exact ⟨rfl, F0.out.trans F6.out (fun _ _ h => h)⟩
  · go_wp2_with fail
    refine (at_no (HNo.out _ (Fr.refl _ _)) k).mono ?_
    rintro e w3 ⟨rfl, f3⟩
    have F3 := Lib.hid f3
    clear f3 z0 z2 z3 z4 z5 z6 z7 z8
    go_upto_region 10 with fail
    obtain ⟨W4, hW4⟩ : ∃ W4, W4 = w3.alloc (.cells #[.int .u32 0, .int .i64 0, .int .i64 0] 70) := ⟨_, rfl⟩
    obtain ⟨xb, hxb⟩ : ∃ xb, xb = w3.heap.size := ⟨_, rfl⟩
    rw [← hW4, ← hxb]
    have f4 : Fr (fun _ => False) w3 W4 := by rw [hW4]; exact Fr.alloc (Fr.refl _ _) _
    have Hg4 := Lib.hid (show W4.heap[xb]? = some (.cells #[.int .u32 0, .int .i64 0, .int .i64 0] 70 (0, 0)) by rw [hW4, hxb]; exact heap_alloc_at _ _)
    have F4 := Lib.hid (F3.out.trans f4 (fun _ _ h => h))
    clear f4 hW4 hxb
    obtain ⟨z0, z2, z3, z4, z5, z6, z7, z8⟩ := HSall.out _ F4.out
    go_wp2_with fail
    refine (rat_no (HRef.out _ F4.out) k).mono ?_
    rintro e w5 ⟨rfl, f5⟩
    have Hg5 := Lib.hid (f5.get Hg4.out (fun h => h)); have F5 := Lib.hid (F4.out.trans f5 (fun _ _ h => h))
    clear f5 z0 z2 z3 z4 z5 z6 z7 z8 Hg4
    go_upto_region 11 with fail
    obtain ⟨W6, hW6⟩ : ∃ W6, W6 = w5.alloc (.cells #[.int .u32 0, .int .i64 0, .int .i64 0] 70) := ⟨_, rfl⟩
    obtain ⟨yb, hyb⟩ : ∃ yb, yb = w5.heap.size := ⟨_, rfl⟩
    rw [← hW6, ← hyb]
    have f6 : Fr (fun _ => False) w5 W6 := by rw [hW6]; exact Fr.alloc (Fr.refl _ _) _
    have hg6 : W6.heap[yb]? = some (.cells #[.int .u32 0, .int .i64 0, .int .i64 0] 70 (0, 0)) := by rw [hW6, hyb]; exact heap_alloc_at _ _
    have hg7 := f6.get Hg5.out (fun h => h)
    have x0 := (cell_of hg7 0).trans (show _ = some (Value.int .u32 0) from rfl)
    have x1 := (cell_of hg7 1).trans (show _ = some (Value.int .i64 0) from rfl)
    have x2 := (cell_of hg7 2).trans (show _ = some (Value.int .i64 0) from rfl)
    have y0 := (cell_of hg6 0).trans (show _ = some (Value.int .u32 0) from rfl)
    have y1 := (cell_of hg6 1).trans (show _ = some (Value.int .i64 0) from rfl)
    have y2 := (cell_of hg6 2).trans (show _ = some (Value.int .i64 0) from rfl)
    have hq : ∀ W : World, (binOp .eql 70 (.agg #[.int .u32 0, .int .i64 0, .int .i64 0]) (.agg #[.int .u32 0, .int .i64 0, .int .i64 0])).run Tryz.prog W = .ok (.bool true) W := fun W => eqlBo W (0, 0, 0) (0, 0, 0)
    have F6 := Lib.hid (F5.out.trans f6 (fun _ _ h => h))
    clear hg6 hg7 f6 hW6 hyb Hg5
    go_wp2_with fail
    go_ret
    exact ⟨rfl, F0.out.trans F6.out (fun _ _ h => h)⟩
  · go_wp2_with fail
    refine (is_no (HNo.out _ (Fr.refl _ _)) (HRef.out _ (Fr.refl _ _))).mono ?_
    rintro e w3 ⟨rfl, f3⟩
    have F3 := Lib.hid f3
    clear f3
    go_wp2_with fail
    go_ret
    exact ⟨rfl, F0.out.trans F3.out (fun _ _ h => h)⟩
  · go_wp2_with fail
    refine (is_no (HNo.out _ (Fr.refl _ _)) (HRef.out _ (Fr.refl _ _))).mono ?_
    rintro e w3 ⟨rfl, f3⟩
    have F3 := Lib.hid f3
    clear f3
    go_wp2_with fail
    go_ret
    exact ⟨rfl, F0.out.trans F3.out (fun _ _ h => h)⟩
  · go_upto_region 16 with fail
    clear z0 z2 z3 z4 z5 z6 z7 z8
    refine wp_region_held_drew (S := fun w' => (w'.cell? ⟨z, 0, none⟩ = some (.int .i64 a) ∧ w'.cell? ⟨z, 2, none⟩ = some (.int .i64 r.kind) ∧ w'.cell? ⟨z, 3, none⟩ = some (.int .u32 (r.id : Int)) ∧ w'.cell? ⟨z, 4, none⟩ = some (.int .i64 r.seat) ∧ w'.cell? ⟨z, 5, none⟩ = some (.int .i64 r.till) ∧ w'.cell? ⟨z, 6, none⟩ = some (.int .i64 r.clock) ∧ w'.cell? ⟨z, 7, none⟩ = some (.int .u32 (id : Int)) ∧ w'.cell? ⟨z, 8, none⟩ = some (.int .i64 k)) ∧ w'.cell? ⟨wb, 0, none⟩ = some (.bool false)) (by kernel_rfl) (by exact ⟨HSall.out _ (Fr.drew (Fr.refl (fun _ => False) _)), (HRef.out _ (Fr.drew (Fr.refl (fun _ => False) _))).c.1⟩) (fun hHeld => ?_)
    refine wpAnyH_take (i := 0) (v := ?_) rfl (by kernel_rfl) (by kernel_rfl) (by kernel_rfl) (fun _ _ _ h => h) (Or.inl ⟨by rfl, ?_⟩) (by assumption) ?_
    rotate_left
    · intro w' hSw; (try dsimp only at hSw); go_simp; try with_reducible rfl
    try simp only [Act.put, List.getElem_toArray, List.getElem_cons_zero, List.getElem_cons_succ, List.setIfInBounds_toArray, List.set_cons_zero, List.set_cons_succ]
    refine wpAnyH_take (i := 1) (v := ?_) rfl (by kernel_rfl) (by kernel_rfl) (by kernel_rfl) (fun _ _ _ h => h) (Or.inl ⟨by rfl, ?_⟩) (by assumption) ?_
    rotate_left
    · intro w' hSw; (try dsimp only at hSw); go_simp; try with_reducible rfl
    try simp only [Act.put, List.getElem_toArray, List.getElem_cons_zero, List.getElem_cons_succ, List.setIfInBounds_toArray, List.set_cons_zero, List.set_cons_succ]
    refine wpAnyH_take (i := 3) (v := ?_) rfl (by kernel_rfl) (by kernel_rfl) (by kernel_rfl) (fun _ _ _ h => h) (Or.inl ⟨by rfl, ?_⟩) (by assumption) ?_
    rotate_left
    · intro w' hSw; (try dsimp only at hSw); go_simp; try with_reducible rfl
    try simp only [Act.put, List.getElem_toArray, List.getElem_cons_zero, List.getElem_cons_succ, List.setIfInBounds_toArray, List.set_cons_zero, List.set_cons_succ]
    refine wpAnyH_take (i := 4) (v := ?_) rfl (by kernel_rfl) (by kernel_rfl) (by kernel_rfl) (fun _ _ _ h => h) (Or.inl ⟨by rfl, ?_⟩) (by assumption) ?_
    rotate_left
    · intro w' hSw; (try dsimp only at hSw); go_simp; try with_reducible rfl
    try simp only [Act.put, List.getElem_toArray, List.getElem_cons_zero, List.getElem_cons_succ, List.setIfInBounds_toArray, List.set_cons_zero, List.set_cons_succ]
    refine wpAnyH_take (i := 5) (v := ?_) rfl (by kernel_rfl) (by kernel_rfl) (by kernel_rfl) (fun _ _ _ h => h) (Or.inl ⟨by rfl, ?_⟩) (by assumption) ?_
    rotate_left
    · intro w' hSw; (try dsimp only at hSw); go_simp; try with_reducible rfl
    try simp only [Act.put, List.getElem_toArray, List.getElem_cons_zero, List.getElem_cons_succ, List.setIfInBounds_toArray, List.set_cons_zero, List.set_cons_succ]
    refine wpAnyH_take (i := 6) (v := ?_) rfl (by kernel_rfl) (by kernel_rfl) (by kernel_rfl) (fun _ _ _ h => h) (Or.inl ⟨by rfl, ?_⟩) (by assumption) ?_
    rotate_left
    · intro w' hSw; (try dsimp only at hSw); go_simp; try with_reducible rfl
    try simp only [Act.put, List.getElem_toArray, List.getElem_cons_zero, List.getElem_cons_succ, List.setIfInBounds_toArray, List.set_cons_zero, List.set_cons_succ]
    refine wpAnyH_ready (rs := [2]) (by kernel_rfl) (by simp) ?_
    refine AllReadyH.cons rfl (fun K hK => ?_) AllReadyH.nil
    go_simp
    refine (bsame_no1 (HNo.out _ (Fr.drew (Fr.refl (fun _ => False) _)))).mono ?_
    rintro e w2 ⟨rfl, f2⟩
    have F2 := Lib.hid ((Fr.drew (Fr.refl (fun _ => False) _)).trans f2 (fun _ _ h => h))
    clear f2
    try go_simp
    refine hK.out _ _ ?_ (fun hHeld => ?_)
    · (try dsimp only); exact ⟨HSall.out _ F2.out, (HRef.out _ F2.out).c.1⟩
    clear hK K
    try simp only [Act.put, List.getElem_toArray, List.getElem_cons_zero, List.getElem_cons_succ, List.setIfInBounds_toArray, List.set_cons_zero, List.set_cons_succ]
    refine wpAnyH_take (i := 7) (v := ?_) rfl (by kernel_rfl) (by kernel_rfl) (by kernel_rfl) (fun _ _ _ h => h) (Or.inl ⟨by rfl, ?_⟩) (by assumption) ?_
    rotate_left
    · intro w' hSw; (try dsimp only at hSw); go_simp; try with_reducible rfl
    try simp only [Act.put, List.getElem_toArray, List.getElem_cons_zero, List.getElem_cons_succ, List.setIfInBounds_toArray, List.set_cons_zero, List.set_cons_succ]
    refine wpAnyH_take (i := 8) (v := ?_) rfl (by kernel_rfl) (by kernel_rfl) (by kernel_rfl) (fun _ _ _ h => h) (Or.inl ⟨by rfl, ?_⟩) (by assumption) ?_
    rotate_left
    · intro w' hSw; (try dsimp only at hSw); go_simp; try with_reducible rfl
    try simp only [Act.put, List.getElem_toArray, List.getElem_cons_zero, List.getElem_cons_succ, List.setIfInBounds_toArray, List.set_cons_zero, List.set_cons_succ]
    refine wpAnyH_done (by kernel_rfl) ?_ _
    go_wp2_with fail
    go_ret
    exact ⟨rfl, F0.out.trans F2.out (fun _ _ h => h)⟩
  · go_upto_region 17 with fail
    clear z0 z2 z3 z4 z5 z6 z7 z8
    refine wp_region_held_drew (S := fun w' => (w'.cell? ⟨z, 0, none⟩ = some (.int .i64 a) ∧ w'.cell? ⟨z, 2, none⟩ = some (.int .i64 r.kind) ∧ w'.cell? ⟨z, 3, none⟩ = some (.int .u32 (r.id : Int)) ∧ w'.cell? ⟨z, 4, none⟩ = some (.int .i64 r.seat) ∧ w'.cell? ⟨z, 5, none⟩ = some (.int .i64 r.till) ∧ w'.cell? ⟨z, 6, none⟩ = some (.int .i64 r.clock) ∧ w'.cell? ⟨z, 7, none⟩ = some (.int .u32 (id : Int)) ∧ w'.cell? ⟨z, 8, none⟩ = some (.int .i64 k)) ∧ w'.cell? ⟨wb, 0, none⟩ = some (.bool false)) (by kernel_rfl) (by exact ⟨HSall.out _ (Fr.drew (Fr.refl (fun _ => False) _)), (HRef.out _ (Fr.drew (Fr.refl (fun _ => False) _))).c.1⟩) (fun hHeld => ?_)
    refine wpAnyH_take (i := 0) (v := ?_) rfl (by kernel_rfl) (by kernel_rfl) (by kernel_rfl) (fun _ _ _ h => h) (Or.inl ⟨by rfl, ?_⟩) (by assumption) ?_
    rotate_left
    · intro w' hSw; (try dsimp only at hSw); go_simp; try with_reducible rfl
    try simp only [Act.put, List.getElem_toArray, List.getElem_cons_zero, List.getElem_cons_succ, List.setIfInBounds_toArray, List.set_cons_zero, List.set_cons_succ]
    refine wpAnyH_take (i := 3) (v := ?_) rfl (by kernel_rfl) (by kernel_rfl) (by kernel_rfl) (fun _ _ _ h => h) (Or.inl ⟨by rfl, ?_⟩) (by assumption) ?_
    rotate_left
    · intro w' hSw; (try dsimp only at hSw); go_simp; try with_reducible rfl
    try simp only [Act.put, List.getElem_toArray, List.getElem_cons_zero, List.getElem_cons_succ, List.setIfInBounds_toArray, List.set_cons_zero, List.set_cons_succ]
    refine wpAnyH_take (i := 4) (v := ?_) rfl (by kernel_rfl) (by kernel_rfl) (by kernel_rfl) (fun _ _ _ h => h) (Or.inl ⟨by rfl, ?_⟩) (by assumption) ?_
    rotate_left
    · intro w' hSw; (try dsimp only at hSw); go_simp; try with_reducible rfl
    try simp only [Act.put, List.getElem_toArray, List.getElem_cons_zero, List.getElem_cons_succ, List.setIfInBounds_toArray, List.set_cons_zero, List.set_cons_succ]
    refine wpAnyH_take (i := 5) (v := ?_) rfl (by kernel_rfl) (by kernel_rfl) (by kernel_rfl) (fun _ _ _ h => h) (Or.inl ⟨by rfl, ?_⟩) (by assumption) ?_
    rotate_left
    · intro w' hSw; (try dsimp only at hSw); go_simp; try with_reducible rfl
    try simp only [Act.put, List.getElem_toArray, List.getElem_cons_zero, List.getElem_cons_succ, List.setIfInBounds_toArray, List.set_cons_zero, List.set_cons_succ]
    refine wpAnyH_take (i := 6) (v := ?_) rfl (by kernel_rfl) (by kernel_rfl) (by kernel_rfl) (fun _ _ _ h => h) (Or.inl ⟨by rfl, ?_⟩) (by assumption) ?_
    rotate_left
    · intro w' hSw; (try dsimp only at hSw); go_simp; try with_reducible rfl
    try simp only [Act.put, List.getElem_toArray, List.getElem_cons_zero, List.getElem_cons_succ, List.setIfInBounds_toArray, List.set_cons_zero, List.set_cons_succ]
    refine wpAnyH_ready (rs := [1]) (by kernel_rfl) (by simp) ?_
    refine AllReadyH.cons rfl (fun K hK => ?_) AllReadyH.nil
    go_simp
    refine (copy_no (HNo.out _ (Fr.drew (Fr.refl (fun _ => False) _)))).mono ?_
    rintro e w2 ⟨rfl, rfl⟩
    try go_simp
    refine hK.out _ _ ?_ (fun hHeld => ?_)
    · (try dsimp only); exact ⟨HSall.out _ (Fr.drew (Fr.refl (fun _ => False) _)), (HRef.out _ (Fr.drew (Fr.refl (fun _ => False) _))).c.1⟩
    clear hK K
    try simp only [Act.put, List.getElem_toArray, List.getElem_cons_zero, List.getElem_cons_succ, List.setIfInBounds_toArray, List.set_cons_zero, List.set_cons_succ]
    refine wpAnyH_take (i := 2) (v := ?_) rfl (by kernel_rfl) (by kernel_rfl) (by kernel_rfl) (fun _ _ _ h => h) (Or.inl ⟨by rfl, ?_⟩) (by assumption) ?_
    rotate_left
    · intro w' hSw; (try dsimp only at hSw); go_simp; try with_reducible rfl
    try simp only [Act.put, List.getElem_toArray, List.getElem_cons_zero, List.getElem_cons_succ, List.setIfInBounds_toArray, List.set_cons_zero, List.set_cons_succ]
    refine wpAnyH_take (i := 7) (v := ?_) rfl (by kernel_rfl) (by kernel_rfl) (by kernel_rfl) (fun _ _ _ h => h) (Or.inl ⟨by rfl, ?_⟩) (by assumption) ?_
    rotate_left
    · intro w' hSw; (try dsimp only at hSw); go_simp; try with_reducible rfl
    try simp only [Act.put, List.getElem_toArray, List.getElem_cons_zero, List.getElem_cons_succ, List.setIfInBounds_toArray, List.set_cons_zero, List.set_cons_succ]
    refine wpAnyH_take (i := 8) (v := ?_) rfl (by kernel_rfl) (by kernel_rfl) (by kernel_rfl) (fun _ _ _ h => h) (Or.inl ⟨by rfl, ?_⟩) (by assumption) ?_
    rotate_left
    · intro w' hSw; (try dsimp only at hSw); go_simp; try with_reducible rfl
    try simp only [Act.put, List.getElem_toArray, List.getElem_cons_zero, List.getElem_cons_succ, List.setIfInBounds_toArray, List.set_cons_zero, List.set_cons_succ]
    refine wpAnyH_done (by kernel_rfl) ?_ _
    go_wp2_with fail
    go_ret
    exact ⟨rfl, F0.out.trans (Fr.drew (Fr.refl (fun _ => False) _)) (fun _ _ h => h)⟩
end Go.Proofs.YtmmjlnicfndmcaaGreat.Bk
namespace Go.Proofs.YtmmjlnicfndmcaaGreat
open Go.ChangeShapes Go.WideShapes Go.ChangeAt Go.RowKit Go.Deep
section
variable {H : Type} {enc : TypeId × Value → H} {P : Program} {w : World} {base : Nat} {spare : Nat → Bool} {held : Bool}
/-- The kind of a type's j-th cell, when it is a number. -/
def kindAt (P : Program) : Nat → TypeId → Nat → Option IntKind
  | 0, _, _ => none
  | n + 1, t, j => match P.underlying t with
    | some (.int k) => if j = 0 then some k else none
    | some (.struct fs) => fs.toList.findSome? fun f => if f.offset ≤ j ∧ j < f.offset + P.cellsOf f.type then kindAt P n f.type (j - f.offset) else none
    | _ => none
theorem trod_kindAt : ∀ (n : Nat) {t : TypeId} {j : Nat} {k : IntKind} {fuel : Nat} {cs : List Value} {x : DataW H × List MemPlace}, kindAt P n t j = some k → DataW.trod enc P w base spare held fuel t cs = some x → ∃ v, cs[j]? = some (.int k v) ∧ (Lit.int k v).wf = true := by
  intro n
  induction n with
  | zero => intro t j k fuel cs x h; simp [kindAt] at h
  | succ n ih =>
    intro t j k fuel cs x h hf
    unfold kindAt at h
    split at h
    · rename_i k' hu
      split at h
      · rename_i hj
        subst hj
        obtain ⟨v, rfl, _, h3⟩ := DataW.trod_int hu hf
        obtain rfl : k' = k := Option.some.inj h
        exact ⟨v, rfl, h3⟩
      · cases h
    · rename_i fs hu
      obtain ⟨ys, n', _, _, hlen, hyl, hff⟩ := DataW.trod_struct hu hf
      obtain ⟨f, hfm, hfk⟩ := List.exists_of_findSome?_eq_some h
      split at hfk
      · rename_i hc
        obtain ⟨i, hi, rfl⟩ := List.getElem_of_mem hfm
        have hi' : i < fs.size := by simpa using hi
        have h1 := hff i _ (Array.getElem?_eq_getElem hi')
        have hys : ys[i]? = some (ys[i]'(by omega)) := List.getElem?_eq_getElem (by omega)
        obtain ⟨v, hv, hw⟩ := ih (by simpa using hfk) (h1.trans hys)
        refine ⟨v, ?_, hw⟩
        rw [List.getElem?_take, if_pos (by simp at hc; omega), List.getElem?_drop] at hv
        rw [← hv]
        simp at hc
        congr 1
        omega
      · cases hfk
    · cases h
theorem kindsAt_flat {m : Nat} {kd : Nat → IntKind} {t e : TypeId} {a0 : Option Addr} {len0 cap0 : Nat} {d : DataW H} {p : List MemPlace} (n : Nat) (ht : P.underlying t = some (.slice e))
    (hone : (List.range m).all (fun j => kindAt P n e j == some (kd j)) = true) (hC : P.cellsOf e = m) (h0 : 0 < m) (h : DataW.Trod enc P w base spare held t (.slice a0 len0 cap0) d p) :
    ∃ K, KindsAt w (.slice a0 len0 cap0) m kd K len0 := by
  obtain ⟨fuel, hf⟩ := h
  rcases open_slice ht hf with ⟨hcs, _⟩ | ⟨a, len, cap, q, n1, D, Pl, hcs, hb, hl, hm, hmm, hx, hi⟩
  · simp [Value.cells] at hcs
    obtain ⟨rfl, rfl, rfl⟩ := hcs
    exact ⟨fun _ _ => 0, none, 0, rfl, Nat.le_refl _, Nat.zero_le _, .inl rfl⟩
  · simp [Value.cells] at hcs
    obtain ⟨rfl, rfl, rfl⟩ := hcs
    have hlm : len0 ≤ q := by rw [hmm]; split <;> omega
    have cell : ∀ i j, i < len0 → j < m → ∃ x, w.cell? (a.add (i * m + j)) = some (.int (kd j) x) ∧ (Lit.int (kd j) x).wf = true := by
      intro i j hil hjl
      obtain ⟨cs', hc, ht'⟩ := hi i (by omega)
      rw [hC] at hc
      obtain ⟨_, hcl, hat⟩ := World.cells?_some hc
      have hk : kindAt P n e j = some (kd j) := by
        have := List.all_eq_true.1 hone j (List.mem_range.2 hjl)
        exact eq_of_beq this
      obtain ⟨x, hx1, hx3⟩ := trod_kindAt n hk ht'
      refine ⟨x, ?_, hx3⟩
      rw [← Go.Deep.add_add, hat j hjl, hx1]
    by_cases hz : len0 = 0
    · subst hz; exact ⟨fun _ _ => 0, some a, cap0, rfl, hl, hm, .inl rfl⟩
    · obtain ⟨b, o, sp⟩ := a
      have hsp : sp = none := by
        obtain ⟨x, hx1, _⟩ := cell 0 0 (by omega) h0
        simpa [Addr.add] using World.cell?_spot hx1
      subst hsp
      have cell' : ∀ i j, i < len0 → j < m → ∃ x, w.cell? ⟨b, o + i * m + j, none⟩ = some (.int (kd j) x) ∧ (Lit.int (kd j) x).wf = true := by
        intro i j hil hjl
        have e : (⟨b, o, none⟩ : Addr).add (i * m + j) = ⟨b, o + i * m + j, none⟩ := by
          unfold Addr.add
          split
          · first | (simp; done) | (simp; omega)
          · simp [Nat.add_assoc]
        rw [← e]
        exact cell i j hil hjl
      refine ⟨fun i j => if h : i < len0 ∧ j < m then (cell' i j h.1 h.2).choose else 0, some ⟨b, o, none⟩, cap0, rfl, hl, hm, .inr ⟨b, o, rfl, ?_⟩⟩
      intro i j hil hjl
      have hsp := (cell' i j hil hjl).choose_spec
      dsimp only
      rw [dif_pos ⟨hil, hjl⟩]
      exact hsp
end
end Go.Proofs.YtmmjlnicfndmcaaGreat
namespace Go.Proofs.YtmmjlnicfndmcaaGreat
open Go.ChangeShapes Go.WideShapes Go.ChangeAt Go.RowKit Go.Deep
section
variable {H : Type} {enc : TypeId × Value → H} {P : Program} {w : World} {base : Nat} {spare : Nat → Bool} {held : Bool}
/-- A struct of numbers, nested or not, by value. -/
theorem open_struct {m : Nat} {kd : Nat → IntKind} {t : TypeId} {fs : Array Field} {v : Value} {d : DataW H} {p : List MemPlace} (n : Nat) (ht : P.underlying t = some (.struct fs))
    (hone : (List.range m).all (fun j => kindAt P n t j == some (kd j)) = true) (hC : P.cellsOf t = m) (h0 : 2 ≤ m) (h : DataW.Trod enc P w base spare held t v d p) :
    ∃ K : Nat → Int, v = .agg ((List.range m).map fun j => Value.int (kd j) (K j)).toArray ∧ ∀ j, j < m → (Lit.int (kd j) (K j)).wf = true := by
  obtain ⟨fuel, hf⟩ := h
  obtain ⟨ys, n', _, _, hlen, _, _⟩ := DataW.trod_struct ht hf
  rw [hC] at hlen
  have key : ∀ j, j < m → ∃ x, v.cells.toList[j]? = some (.int (kd j) x) ∧ (Lit.int (kd j) x).wf = true := by
    intro j hj
    have hk : kindAt P n t j = some (kd j) := eq_of_beq (List.all_eq_true.1 hone j (List.mem_range.2 hj))
    exact trod_kindAt n hk hf
  refine ⟨fun j => if hj : j < m then (key j hj).choose else 0, ?_, fun j hj => by dsimp only; rw [dif_pos hj]; exact (key j hj).choose_spec.2⟩
  have hcs : v.cells.toList = (List.range m).map fun j => Value.int (kd j) (if hj : j < m then (key j hj).choose else 0) := by
    apply List.ext_getElem?
    intro j
    rw [List.getElem?_map]
    by_cases hj : j < m
    · rw [List.getElem?_range hj, (key j hj).choose_spec.1]
      simp only [Option.map_some]
      rw [dif_pos hj]
    · rw [List.getElem?_eq_none (by omega), List.getElem?_eq_none (by simp; omega)]; rfl
  cases v with
  | agg cs =>
    have : cs.toList = _ := hcs
    rw [← this]
  | _ => simp [Value.cells] at hlen; omega
end
end Go.Proofs.YtmmjlnicfndmcaaGreat
namespace Go.Proofs.YtmmjlnicfndmcaaGreat.Bk
open Go.RowKit Go.Shelf
attribute [local go_sem] Oper.semAt_some
def kOp (j : Nat) : IntKind := if j = 3 ∨ j = 7 then .u32 else .i64
theorem fits64 {x : Int} (h : (Lit.int .i64 x).wf = true) : -9223372036854775808 ≤ x ∧ x ≤ 9223372036854775807 := by
  simp [Lit.wf, IntKind.min, IntKind.max, IntKind.signed, IntKind.bits] at h
  omega
set_option maxRecDepth 100000 in
set_option maxHeartbeats 4000000 in
theorem none_walk (w : World) {a b k : Int} {id : Nat} {r : Rc} (ha : -9223372036854775808 ≤ a ∧ a ≤ 9223372036854775807) :
    Calls Tryz.prog 4 #[.agg #[.int .i64 a, .int .i64 b, .int .i64 r.kind, .int .u32 (r.id : Int), .int .i64 r.seat, .int .i64 r.till, .int .i64 r.clock, .int .u32 (id : Int), .int .i64 k]] w fun e w' => e = .returned (.bool true) ∧ Fr (fun _ => False) w w' := by
  obtain ⟨W, hW⟩ : ∃ W, W = w.alloc (.cells #[.int .i64 a, .int .i64 b, .int .i64 r.kind, .int .u32 (r.id : Int), .int .i64 r.seat, .int .i64 r.till, .int .i64 r.clock, .int .u32 (id : Int), .int .i64 k] 48) := ⟨_, rfl⟩
  obtain ⟨z, hz⟩ : ∃ z, z = w.heap.size := ⟨_, rfl⟩
  have f0 : Fr (fun _ => False) w W := by rw [hW]; exact Fr.alloc (Fr.refl _ _) _
  have hg : W.heap[z]? = some (.cells #[.int .i64 a, .int .i64 b, .int .i64 r.kind, .int .u32 (r.id : Int), .int .i64 r.seat, .int .i64 r.till, .int .i64 r.clock, .int .u32 (id : Int), .int .i64 k] 48 (0, 0)) := by rw [hW, hz]; exact heap_alloc_at _ _
  have F0 := Lib.hid f0; have HG := Lib.hid hg; have HA := Lib.hid ha
  clear f0 hg ha
  go_enter Tryz.func4, Tryz.ntmps4
  go_upto_region 1 with fail
  rw [← hW, ← hz]
  clear hW hz
  go_wp2_with fail
  refine (awake_ok _).mono ?_
  rintro e w1 ⟨rfl, f1⟩
  have F1 := Lib.hid (F0.out.trans f1 (fun _ _ h => h)); have HG1 := Lib.hid (f1.get HG.out (fun h => h))
  clear f1
  go_upto_region 5 with fail
  obtain ⟨W2, hW2⟩ : ∃ W2, W2 = w1.alloc (.cells #[.bool false, .int .i64 0, .int .i64 0, .int .i64 0, .slice none 0 0, .int .u32 0, .int .i64 0] 52) := ⟨_, rfl⟩
  obtain ⟨wb, hwb⟩ : ∃ wb, wb = w1.heap.size := ⟨_, rfl⟩
  rw [← hW2, ← hwb]
  have f2 : Fr (fun _ => False) w1 W2 := by rw [hW2]; exact Fr.alloc (Fr.refl _ _) _
  have HR2 := Lib.hid (show RefNo W2 wb by unfold RefNo; rw [hW2, hwb]; exact heap_alloc_at _ _)
  have F2 := Lib.hid (F1.out.trans f2 (fun _ _ h => h)); have HG2 := Lib.hid (f2.get HG1.out (fun h => h))
  clear f2 hW2 hwb
  have HN := Lib.hid (show Calls Tryz.prog 8 #[.agg #[.int .i64 1, .int .i64 1, .int .i64 1]] W2 _ from new_ok W2 (n := 1) (m := 1) (q := 1) (by omega) (by omega) (by omega))
  go_wp2_with fail
  refine HN.out.mono ?_
  rintro e w3 ⟨p, bb, rfl, hB, hn, f3⟩
  have HB3 := Lib.hid (show BkP p bb (bk0 1 1 1).next (bk0 1 1 1) (bk0 1 1 1).L (bk0 1 1 1).L w3 from hB)
  have HR3 := Lib.hid (HR2.out.fr f3); have F3 := Lib.hid (F2.out.trans f3 (fun _ _ h => h)); have HG3 := Lib.hid (f3.get HG2.out (fun h => h))
  clear hB hn f3 HN
  have z0 := (cell_of HG3.out 0).trans (show _ = some (Value.int .i64 a) from rfl)
  have z1 := (cell_of HG3.out 1).trans (show _ = some (Value.int .i64 b) from rfl)
  obtain ⟨-, z2, z3, z4, z5, z6, z7, z8⟩ := op_cells HG3.out
  go_wp2_with fail
  refine (one_no (.inl rfl) HR3.out HA.out).mono ?_
  rintro e w4 ⟨rfl, f4⟩
  have HB4 := Lib.hid (HB3.out.keep f4); have HR4 := Lib.hid (HR3.out.fr f4); have F4 := Lib.hid (F3.out.trans f4 (fun _ _ h => h)); have HG4 := Lib.hid (f4.get HG3.out (fun h => h))
  clear f4 z0 z1 z2 z3 z4 z5 z6 z7 z8
  have f5 : Fr (fun _ => False) w4 (w4.alloc (.cells #[.int .i64 0, .int .i64 0, .int .i64 0, .bool false, .int .i64 0, .int .u32 0, .pointer none, .pointer none, .slice none 0 0, .pointer none, .map none] 66)) := Fr.alloc (Fr.refl _ _) _
  have hz5 : NoBook (w4.alloc (.cells #[.int .i64 0, .int .i64 0, .int .i64 0, .bool false, .int .i64 0, .int .u32 0, .pointer none, .pointer none, .slice none 0 0, .pointer none, .map none] 66)) (some ⟨w4.heap.size, 0, none⟩) := .inr ⟨_, _, rfl, heap_alloc_at _ _, rfl⟩
  have HG5 := Lib.hid (f5.get HG4.out (fun h => h))
  have z0 := (cell_of HG5.out 0).trans (show _ = some (Value.int .i64 a) from rfl)
  have z1 := (cell_of HG5.out 1).trans (show _ = some (Value.int .i64 b) from rfl)
  obtain ⟨-, z2, z3, z4, z5, z6, z7, z8⟩ := op_cells HG5.out
  have HO := Lib.hid (one_no hz5 (HR4.out.fr f5) (b := b) (k := k) (id := id) (r := r) HA.out)
  have HB5 := Lib.hid (HB4.out.keep f5); have F5 := Lib.hid (F4.out.trans f5 (fun _ _ h => h))
  clear f5 hz5
  go_wp2_with fail
  refine HO.out.mono ?_
  rintro e w6 ⟨rfl, f6⟩
  have HB6 := Lib.hid (HB5.out.keep f6); have F6 := Lib.hid (F5.out.trans f6 (fun _ _ h => h))
  clear f6 z0 z1 z2 z3 z4 z5 z6 z7 z8 HO
  go_wp2_with fail
  refine (bsame_no1 (.inl rfl)).mono ?_
  rintro e w7 ⟨rfl, f7⟩
  have f8 : Fr (fun _ => False) w7 (w7.alloc (.cells #[.int .i64 0, .int .i64 0, .int .i64 0, .bool false, .int .i64 0, .int .u32 0, .pointer none, .pointer none, .slice none 0 0, .pointer none, .map none] 66)) := Fr.alloc (Fr.refl _ _) _
  have hz8 : NoBook (w7.alloc (.cells #[.int .i64 0, .int .i64 0, .int .i64 0, .bool false, .int .i64 0, .int .u32 0, .pointer none, .pointer none, .slice none 0 0, .pointer none, .map none] 66)) (some ⟨w7.heap.size, 0, none⟩) := .inr ⟨_, _, rfl, heap_alloc_at _ _, rfl⟩
  have HB8 := Lib.hid ((HB6.out.keep f7).keep f8); have F8 := Lib.hid ((F6.out.trans f7 (fun _ _ h => h)).trans f8 (fun _ _ h => h))
  have HS8 := Lib.hid (bsame_no2 HB8.out hz8)
  clear f7 f8 hz8
  go_wp2_with fail
  refine HS8.out.mono ?_
  rintro e w9 ⟨rfl, f9⟩
  have HB9 := Lib.hid (HB8.out.keep f9); have F9 := Lib.hid (F8.out.trans f9 (fun _ _ h => h))
  clear f9 HS8
  go_wp2_with fail
  refine (bsame_no1 (.inl rfl)).mono ?_
  rintro e w10 ⟨rfl, f10⟩
  have HB10 := Lib.hid (HB9.out.keep f10); have F10 := Lib.hid (F9.out.trans f10 (fun _ _ h => h))
  clear f10
  have hS := bsame_ok HB10.out HB10.out
  rw [show sameK (bk0 1 1 1) (bk0 1 1 1).next (bk0 1 1 1) (bk0 1 1 1).next = true by simp [sameK]] at hS
  have HS := Lib.hid hS
  clear hS
  go_wp2_with fail
  refine HS.out.mono ?_
  rintro e w11 ⟨rfl, f11⟩
  have F11 := Lib.hid (F10.out.trans f11 (fun _ _ h => h))
  clear f11
  go_wp2_with fail
  go_ret
  exact ⟨rfl, F11.out⟩
theorem none_law (w : World) (K : Nat → Int) (hK : ∀ j, j < 9 → (Lit.int (kOp j) (K j)).wf = true) :
    Calls Tryz.prog 4 #[.agg ((List.range 9).map fun j => Value.int (kOp j) (K j)).toArray] w fun e w' => e = .returned (.bool true) ∧ Fr (fun _ => False) w w' := by
  have h3 := wf_u32 (hK 3 (by omega)); have h7 := wf_u32 (hK 7 (by omega))
  have h0 := fits64 (hK 0 (by omega))
  have e : ((List.range 9).map fun j => Value.int (kOp j) (K j)).toArray = #[.int .i64 (K 0), .int .i64 (K 1), .int .i64 (K 2), .int .u32 (K 3), .int .i64 (K 4), .int .i64 (K 5), .int .i64 (K 6), .int .u32 (K 7), .int .i64 (K 8)] := rfl
  rw [e]
  have := none_walk w (a := K 0) (b := K 1) (k := K 8) (id := (K 7).toNat) (r := ⟨K 2, (K 3).toNat, K 4, K 5, K 6⟩) h0
  simp only at this
  rw [Int.toNat_of_nonneg h3.1, Int.toNat_of_nonneg h7.1] at this
  exact this
end Go.Proofs.YtmmjlnicfndmcaaGreat.Bk
