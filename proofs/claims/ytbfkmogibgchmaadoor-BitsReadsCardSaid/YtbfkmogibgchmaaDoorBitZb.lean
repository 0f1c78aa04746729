/- one, of two sets that are there. Condition: the table of math/bits. -/
import Derived.Test.YtbfkmogibgchmaaDoorBitZa
import Derived.Test.YtbfkmogibgchmaaDoorBitX
namespace Go.Proofs.YtbfkmogibgchmaaDoor.Bt
open Go.RowKit
/-- A set and the document's, that have the same. -/
structure PairAt (w : World) (bh : Nat) (v : Value) (rh : Nat) (rv : Value) (B : List Bool) : Prop where
  s : SetAt w bh v B
  r : RefAt w rh rv true B
  ne1 : v.ownBlock ≠ some bh
  ne2 : rv.ownBlock ≠ some rh
  sr : ∀ b, v.ownBlock = some b → b ≠ rh
  rs : ∀ b, rv.ownBlock = some b → b ≠ bh
  ap : ∀ b, v.ownBlock = some b → rv.ownBlock ≠ some b
def pairO (v rv : Value) (b : Nat) : Prop := v.ownBlock = some b ∨ rv.ownBlock = some b
theorem PairAt.fr {w w' : World} {bh rh : Nat} {v rv : Value} {B : List Bool} (h : PairAt w bh v rh rv B) {F : Nat → Prop} (f : Fr F w w') (h1 : ¬ F bh) (h2 : ¬ F rh) (h3 : ∀ b, pairO v rv b → ¬ F b) : PairAt w' bh v rh rv B :=
  ⟨h.s.fr f h1 (fun b hb => h3 b (.inl hb)), h.r.fr f h2 (fun b hb => h3 b (.inr hb)), h.ne1, h.ne2, h.sr, h.rs, h.ap⟩
theorem PairAt.keep {w w' : World} {bh rh : Nat} {v rv : Value} {B : List Bool} (h : PairAt w bh v rh rv B) (f : Fr (fun _ => False) w w') : PairAt w' bh v rh rv B := h.fr f (fun h => h) (fun h => h) (fun _ _ h => h)
theorem PairAt.lt {w : World} {bh rh : Nat} {v rv : Value} {B : List Bool} (h : PairAt w bh v rh rv B) : ∀ b, pairO v rv b → b < w.heap.size := by
  rintro b (hb | hb)
  · exact Row.lt h.s.row hb
  · exact Row.lt h.r.row hb
theorem PairAt.step {W w0 w1 w2 : World} {bh rh : Nat} {v rv : Value} {B C : List Bool} (h : PairAt W bh v rh rv B) (f0 : Fr (fun _ => False) W w0) (s1 : SetAt w1 bh v C) (f1 : Fr (fun b => v.ownBlock = some b) w0 w1) (r2 : RefAt w2 rh rv true C) (f2 : Fr (fun b => rv.ownBlock = some b) w1 w2) :
    PairAt w2 bh v rh rv C ∧ Fr (pairO v rv) W w2 :=
  ⟨⟨s1.fr f2 (fun e => h.rs _ e rfl) (fun b hb e => h.ap b hb e), r2, h.ne1, h.ne2, h.sr, h.rs, h.ap⟩, ((f0.mono (fun _ _ h => h.elim)).trans f1 (fun _ _ h => .inl h)).trans f2 (fun _ _ h => .inr h)⟩
theorem PairAt.mid {W w0 w1 : World} {bh rh : Nat} {v rv : Value} {B : List Bool} (h : PairAt W bh v rh rv B) (f0 : Fr (fun _ => False) W w0) (f1 : Fr (fun b => v.ownBlock = some b) w0 w1) : RefAt w1 rh rv true B :=
  (h.r.fr f0 (fun h => h) (fun _ _ h => h)).fr f1 (fun e => h.sr _ e rfl) (fun b hb e => h.ap b e hb)
set_option maxRecDepth 100000 in
set_option maxHeartbeats 16000000 in
theorem one_ok {w : World} (hT : TabOk w) {bh rh : Nat} {v rv : Value} {B : List Bool} (hp : PairAt w bh v rh rv B) (Do On I : Int) (hD : -9223372036854775808 ≤ Do ∧ Do ≤ 9223372036854775807) :
    Calls Tryd.prog 35 #[.pointer (some ⟨bh, 0, none⟩), .pointer (some ⟨rh, 0, none⟩), .agg #[.int .i64 Do, .int .i64 On, .int .i64 I]] w fun e w' => e = .returned (.bool true) ∧ ∃ B', B'.length = B.length ∧ PairAt w' bh v rh rv B' ∧ Fr (pairO v rv) w w' := by
  obtain ⟨a, c, rfl⟩ := hp.r.shape
  have h5 : (asInts (allL B)).length ≤ 1000000 := by
    have h1 := allTo_len B B.length
    have h2 := hp.s.small
    unfold asInts allL
    simp; omega
  have h7 : (flatG (gapsL B)).length ≤ 1000000 := by
    have h1 := gapsL_len B
    have h2 := hp.s.small
    rw [flatG_length]; omega
  have h8 : nb B.length ≤ 1000000 := by have h2 := hp.s.small; unfold nb; omega
  have hlt := hp.lt
  have hW : Fr (fun _ => False) w (w.alloc (.cells #[.int .i64 Do, .int .i64 On, .int .i64 I] 67)) := Fr.alloc (Fr.refl _ _) _
  have hob : (w.alloc (.cells #[.int .i64 Do, .int .i64 On, .int .i64 I] 67)).heap[w.heap.size]? = some (.cells #[.int .i64 Do, .int .i64 On, .int .i64 I] 67 (0, 0)) := by rw [heap_alloc_get]; simp
  have o2 := (cell_of hob 2).trans (show _ = some (Value.int .i64 I) from rfl)
  have hp1 := hp.keep hW
  have ht1 := hT.fr hW (fun h => h)
  have r0 := hp1.r.c0
  have r1 := hp1.r.c1
  have Hpk := Lib.hid (fun w0 => pick_ok Do 11 w0 hD.1 hD.2 (by omega) (by omega))
  have hd := part11 Do
  have Hlt := Lib.hid hlt; have Hs5 := Lib.hid h5; have Hs7 := Lib.hid h7; have Hs8 := Lib.hid h8
  clear hp hT hD hlt h5 h7 h8
  go_enter Tryd.func35, Tryd.ntmps35
  go_wp2_with fail
  refine (Hpk.out _).mono ?_
  rintro e w1 ⟨rfl, rfl⟩
  generalize (w.alloc (.cells #[.int .i64 Do, .int .i64 On, .int .i64 I] 67)) = W at *
  have HW := Lib.hid hW; have Hob := Lib.hid hob; have HP1 := Lib.hid hp1; have HT1 := Lib.hid ht1
  clear hW hob hp1 ht1 Hpk
  have HHas := Lib.hid (show ∀ w0, Fr (fun _ => False) W w0 → Calls Tryd.prog 20 #[.pointer (some ⟨bh, 0, none⟩), .int .i64 I] w0 (fun e w' => e = .returned (.bool (decide (0 ≤ I) && B.getD I.toNat false)) ∧ Fr (fun _ => False) w0 w') from fun w0 f => (has_ok (HP1.out.keep f).s I).mono (fun e w' h => ⟨h.1, h.2 ▸ Fr.refl _ _⟩))
  have HNext := Lib.hid (show ∀ w0, Fr (fun _ => False) W w0 → Calls Tryd.prog 18 #[.pointer (some ⟨bh, 0, none⟩), .int .i64 I] w0 (fun e w' => e = .returned (.int .i64 (seekI true B I)) ∧ Fr (fun _ => False) w0 w') from fun w0 f => (next_ok (HT1.out.fr f (fun h => h)) (HP1.out.keep f).s I).mono (fun e w' h => ⟨h.1, h.2 ▸ Fr.refl _ _⟩))
  have HFree := Lib.hid (show ∀ w0, Fr (fun _ => False) W w0 → Calls Tryd.prog 19 #[.pointer (some ⟨bh, 0, none⟩), .int .i64 I] w0 (fun e w' => e = .returned (.int .i64 (seekI false B I)) ∧ Fr (fun _ => False) w0 w') from fun w0 f => (free_ok (HT1.out.fr f (fun h => h)) (HP1.out.keep f).s I).mono (fun e w' h => ⟨h.1, h.2 ▸ Fr.refl _ _⟩))
  have HBound := Lib.hid (show ∀ w0, Fr (fun _ => False) W w0 → Calls Tryd.prog 49 #[.pointer (some ⟨bh, 0, none⟩)] w0 (fun e w' => e = .returned (.int .i64 B.length) ∧ Fr (fun _ => False) w0 w') from fun w0 f => (bound_ok (HP1.out.keep f).s).mono (fun e w' h => ⟨h.1, h.2 ▸ Fr.refl _ _⟩))
  have HCount := Lib.hid (show ∀ w0, Fr (fun _ => False) W w0 → Calls Tryd.prog 39 #[.pointer (some ⟨bh, 0, none⟩)] w0 (fun e w' => e = .returned (.int .i64 (cnt B)) ∧ Fr (fun _ => False) w0 w') from fun w0 f => (count_ok (HP1.out.keep f).s).mono (fun e w' h => ⟨h.1, h.2 ▸ Fr.refl _ _⟩))
  have RCount := Lib.hid (show ∀ w0, Fr (fun _ => False) W w0 → Calls Tryd.prog 50 #[.pointer (some ⟨rh, 0, none⟩)] w0 (fun e w' => e = .returned (.int .i64 (cnt B)) ∧ Fr (fun _ => False) w0 w') from fun w0 f => (rcount_ok (HP1.out.keep f).r).mono (fun e w' h => ⟨h.1, h.2 ▸ Fr.refl _ _⟩))
  have RHas := Lib.hid (show ∀ w0, Fr (fun _ => False) W w0 → Calls Tryd.prog 56 #[.pointer (some ⟨rh, 0, none⟩), .int .i64 I] w0 (fun e w' => e = .returned (.bool (decide (0 ≤ I) && B.getD I.toNat false)) ∧ Fr (fun _ => False) w0 w') from fun w0 f => (rhas_ok (HP1.out.keep f).r I).mono (fun e w' h => ⟨h.1, h.2 ▸ Fr.refl _ _⟩))
  have RNext := Lib.hid (show ∀ w0, Fr (fun _ => False) W w0 → Calls Tryd.prog 57 #[.pointer (some ⟨rh, 0, none⟩), .int .i64 I] w0 (fun e w' => e = .returned (.int .i64 (seekI true B I)) ∧ Fr (fun _ => False) w0 w') from fun w0 f => (rnext_ok (HP1.out.keep f).r I).mono (fun e w' h => ⟨h.1, h.2 ▸ Fr.refl _ _⟩))
  have RFree := Lib.hid (show ∀ w0, Fr (fun _ => False) W w0 → Calls Tryd.prog 58 #[.pointer (some ⟨rh, 0, none⟩), .int .i64 I] w0 (fun e w' => e = .returned (.int .i64 (seekI false B I)) ∧ Fr (fun _ => False) w0 w') from fun w0 f => (rfree_ok (HP1.out.keep f).r I).mono (fun e w' h => ⟨h.1, h.2 ▸ Fr.refl _ _⟩))
  have HSame := Lib.hid (show ∀ w0, Fr (fun _ => False) W w0 → Calls Tryd.prog 36 #[.pointer (some ⟨bh, 0, none⟩), .pointer (some ⟨bh, 0, none⟩)] w0 (fun e w' => e = .returned (.bool true) ∧ Fr (fun _ => False) w0 w') from fun w0 f => (same_ok (HP1.out.keep f).s (HP1.out.keep f).s).mono (fun e w' h => ⟨by rw [h.1]; simp, h.2⟩))
  have HCopy := Lib.hid (show ∀ w0, Fr (fun _ => False) W w0 → Calls Tryd.prog 23 #[.pointer (some ⟨bh, 0, none⟩)] w0 (fun e w' => ∃ b2, e = .returned (.pointer (some ⟨b2, 0, none⟩)) ∧ Fr (fun _ => False) w0 w') from fun w0 f => (copy_ok (HP1.out.keep f).s).mono (fun e w' ⟨b2, v2, h1, h2⟩ => ⟨b2, h1, h2.fr⟩))
  generalize cnt B = cq at HCount RCount
  generalize (decide (0 ≤ I) && B.getD I.toNat false) = hq at HHas RHas
  generalize seekI true B I = nq at HNext RNext
  generalize seekI false B I = fq at HFree RFree
  rcases hd with hd | hd | hd | hd | hd | hd | hd | hd | hd | hd | hd
  all_goals rw [hd]
  · clear hd
    by_cases hin : 0 ≤ I ∧ I < (B.length : Int)
    · obtain ⟨j, rfl⟩ : ∃ j : Nat, I = (j : Int) := ⟨I.toNat, by omega⟩
      have Hj := Lib.hid (show j < B.length by omega)
      clear hin
      go_upto_region 3 with fail
      refine wp_region_held_drew (S := fun w' => w'.cell? ⟨w.heap.size, 2, none⟩ = some (.int .i64 (j : Int))) (by kernel_rfl) (by exact o2) (fun hHeld => ?_)
      refine wpAnyH_take (i := 0) (v := ?_) rfl (by kernel_rfl) (by kernel_rfl) (by kernel_rfl) (fun _ _ _ h => h) (Or.inl ⟨by rfl, ?_⟩) (by assumption) ?_
      rotate_left
      · intro w' hSw; (try dsimp only at hSw); go_simp; try with_reducible rfl
      try simp only [Act.put, List.getElem_toArray, List.getElem_cons_zero, List.getElem_cons_succ, List.setIfInBounds_toArray, List.set_cons_zero, List.set_cons_succ]
      refine wpAnyH_take (i := 1) (v := ?_) rfl (by kernel_rfl) (by kernel_rfl) (by kernel_rfl) (fun _ _ _ h => h) (Or.inl ⟨by rfl, ?_⟩) (by assumption) ?_
      rotate_left
      · intro w' hSw; (try dsimp only at hSw); go_simp; try with_reducible rfl
      try simp only [Act.put, List.getElem_toArray, List.getElem_cons_zero, List.getElem_cons_succ, List.setIfInBounds_toArray, List.set_cons_zero, List.set_cons_succ]
      refine wpAnyH_take (i := 2) (v := ?_) rfl (by kernel_rfl) (by kernel_rfl) (by kernel_rfl) (fun _ _ _ h => h) (Or.inl ⟨by rfl, ?_⟩) (by assumption) ?_
      rotate_left
      · intro w' hSw; (try dsimp only at hSw); go_simp; try with_reducible rfl
      try simp only [Act.put, List.getElem_toArray, List.getElem_cons_zero, List.getElem_cons_succ, List.setIfInBounds_toArray, List.set_cons_zero, List.set_cons_succ]
      refine wpAnyH_take (i := 4) (v := ?_) rfl (by kernel_rfl) (by kernel_rfl) (by kernel_rfl) (fun _ _ _ h => h) (Or.inl ⟨by rfl, ?_⟩) (by assumption) ?_
      rotate_left
      · intro w' hSw; (try dsimp only at hSw); go_simp; try with_reducible rfl
      try simp only [Act.put, List.getElem_toArray, List.getElem_cons_zero, List.getElem_cons_succ, List.setIfInBounds_toArray, List.set_cons_zero, List.set_cons_succ]
      refine wpAnyH_take (i := 5) (v := ?_) rfl (by kernel_rfl) (by kernel_rfl) (by kernel_rfl) (fun _ _ _ h => h) (Or.inl ⟨by rfl, ?_⟩) (by assumption) ?_
      rotate_left
      · intro w' hSw; (try dsimp only at hSw); go_simp; try with_reducible rfl
      try simp only [Act.put, List.getElem_toArray, List.getElem_cons_zero, List.getElem_cons_succ, List.setIfInBounds_toArray, List.set_cons_zero, List.set_cons_succ]
      refine wpAnyH_take (i := 6) (v := ?_) rfl (by kernel_rfl) (by kernel_rfl) (by kernel_rfl) (fun _ _ _ h => h) (Or.inl ⟨by rfl, ?_⟩) (by assumption) ?_
      rotate_left
      · intro w' hSw; (try dsimp only at hSw); go_simp; try with_reducible rfl
      try simp only [Act.put, List.getElem_toArray, List.getElem_cons_zero, List.getElem_cons_succ, List.setIfInBounds_toArray, List.set_cons_zero, List.set_cons_succ]
      refine wpAnyH_ready (rs := [3]) (by kernel_rfl) (by simp) ?_
      refine AllReadyH.cons rfl (fun K hK => ?_) AllReadyH.nil
      go_simp
      refine (put_in (HP1.out.keep (Fr.drew (Fr.refl _ _))).s HP1.out.ne1 Hj.out).mono ?_
      rintro e w1 ⟨rfl, s1, f1⟩
      have S1 := Lib.hid s1; have F1 := Lib.hid f1
      clear s1 f1
      try go_simp
      refine hK.out _ _ ?_ (fun hHeld => ?_)
      · (try dsimp only); exact (F1.out.cell (World.block_lt_of_cell? _ _ hHeld) (fun e => Nat.lt_irrefl _ (Hlt.out _ (.inl e)))).trans hHeld
      clear hK K
      try simp only [Act.put, List.getElem_toArray, List.getElem_cons_zero, List.getElem_cons_succ, List.setIfInBounds_toArray, List.set_cons_zero, List.set_cons_succ]
      refine wpAnyH_ready (rs := [7]) (by kernel_rfl) (by simp) ?_
      refine AllReadyH.cons rfl (fun K hK => ?_) AllReadyH.nil
      go_simp
      refine (rput_in (HP1.out.mid (Fr.drew (Fr.refl _ _)) F1.out) HP1.out.ne2 Hj.out).mono ?_
      rintro e w2 ⟨rfl, s2, f2⟩
      have S2 := Lib.hid s2; have F2 := Lib.hid f2
      clear s2 f2
      try go_simp
      refine hK.out _ _ ?_ (fun hHeld => ?_)
      · (try dsimp only); exact (F2.out.cell (World.block_lt_of_cell? _ _ hHeld) (fun e => Nat.lt_irrefl _ (Hlt.out _ (.inr e)))).trans hHeld
      clear hK K
      try simp only [Act.put, List.getElem_toArray, List.getElem_cons_zero, List.getElem_cons_succ, List.setIfInBounds_toArray, List.set_cons_zero, List.set_cons_succ]
      refine wpAnyH_take (i := 8) (v := ?_) rfl (by kernel_rfl) (by kernel_rfl) (by kernel_rfl) (fun _ _ _ h => h) (Or.inl ⟨by rfl, ?_⟩) (by assumption) ?_
      rotate_left
      · intro w' hSw; (try dsimp only at hSw); go_simp; try with_reducible rfl
      try simp only [Act.put, List.getElem_toArray, List.getElem_cons_zero, List.getElem_cons_succ, List.setIfInBounds_toArray, List.set_cons_zero, List.set_cons_succ]
      refine wpAnyH_take (i := 9) (v := ?_) rfl (by kernel_rfl) (by kernel_rfl) (by kernel_rfl) (fun _ _ _ h => h) (Or.inl ⟨by rfl, ?_⟩) (by assumption) ?_
      rotate_left
      · intro w' hSw; (try dsimp only at hSw); go_simp; try with_reducible rfl
      try simp only [Act.put, List.getElem_toArray, List.getElem_cons_zero, List.getElem_cons_succ, List.setIfInBounds_toArray, List.set_cons_zero, List.set_cons_succ]
      refine wpAnyH_done (by kernel_rfl) ?_ _
      have hst := HP1.out.step (Fr.drew (Fr.refl _ _)) S1.out F1.out S2.out F2.out
      have Hst := Lib.hid hst
      clear hst
      go_wp2_with fail
      go_ret
      exact ⟨by first | rfl | simp, _, by simp, Hst.out.1, (HW.out.mono (fun _ _ h => h.elim)).trans Hst.out.2 (fun _ _ h => h)⟩
    · have Ho := Lib.hid (show I < 0 ∨ (B.length : Int) ≤ I by omega)
      have HX := Lib.hid (show ∀ w0, Fr (fun _ => False) W w0 → Calls Tryd.prog 12 #[.pointer (some ⟨bh, 0, none⟩), .int .i64 I] w0 (fun e w' => e = .returned (.int .i64 2) ∧ Fr (fun _ => False) w0 w') from fun w0 f => (put_out (HP1.out.keep f).s Ho.out).mono (fun e w' h => ⟨h.1, h.2 ▸ Fr.refl _ _⟩))
      have RX := Lib.hid (show ∀ w0, Fr (fun _ => False) W w0 → Calls Tryd.prog 54 #[.pointer (some ⟨rh, 0, none⟩), .int .i64 I] w0 (fun e w' => e = .returned (.int .i64 2) ∧ Fr (fun _ => False) w0 w') from fun w0 f => (rput_out (HP1.out.keep f).r Ho.out).mono (fun e w' h => ⟨h.1, h.2 ▸ Fr.refl _ _⟩))
      clear hin
      go_upto_region 3 with fail
      refine wp_region_held_drew (S := fun w' => Fr (fun _ => False) W w' ∧ w'.cell? ⟨w.heap.size, 2, none⟩ = some (.int .i64 I) ∧ w'.cell? ⟨rh, 0, none⟩ = some (.bool true) ∧ w'.cell? ⟨rh, 1, none⟩ = some (.slice a B.length c)) (by kernel_rfl) (by exact ⟨Fr.drew (Fr.refl _ _), o2, r0, r1⟩) (fun hHeld => ?_)
      refine wpAnyH_take (i := 0) (v := ?_) rfl (by kernel_rfl) (by kernel_rfl) (by kernel_rfl) (fun _ _ _ h => h) (Or.inl ⟨by rfl, ?_⟩) (by assumption) ?_
      rotate_left
      · intro w' hSw; (try dsimp only at hSw); go_simp; try with_reducible rfl
      try simp only [Act.put, List.getElem_toArray, List.getElem_cons_zero, List.getElem_cons_succ, List.setIfInBounds_toArray, List.set_cons_zero, List.set_cons_succ]
      refine wpAnyH_take (i := 1) (v := ?_) rfl (by kernel_rfl) (by kernel_rfl) (by kernel_rfl) (fun _ _ _ h => h) (Or.inl ⟨by rfl, ?_⟩) (by assumption) ?_
      rotate_left
      · intro w' hSw; (try dsimp only at hSw); go_simp; try with_reducible rfl
      try simp only [Act.put, List.getElem_toArray, List.getElem_cons_zero, List.getElem_cons_succ, List.setIfInBounds_toArray, List.set_cons_zero, List.set_cons_succ]
      refine wpAnyH_take (i := 2) (v := ?_) rfl (by kernel_rfl) (by kernel_rfl) (by kernel_rfl) (fun _ _ _ h => h) (Or.inl ⟨by rfl, ?_⟩) (by assumption) ?_
      rotate_left
      · intro w' hSw; (try dsimp only at hSw); go_simp; try with_reducible rfl
      try simp only [Act.put, List.getElem_toArray, List.getElem_cons_zero, List.getElem_cons_succ, List.setIfInBounds_toArray, List.set_cons_zero, List.set_cons_succ]
      refine wpAnyH_take (i := 4) (v := ?_) rfl (by kernel_rfl) (by kernel_rfl) (by kernel_rfl) (fun _ _ _ h => h) (Or.inl ⟨by rfl, ?_⟩) (by assumption) ?_
      rotate_left
      · intro w' hSw; (try dsimp only at hSw); go_simp; try with_reducible rfl
      try simp only [Act.put, List.getElem_toArray, List.getElem_cons_zero, List.getElem_cons_succ, List.setIfInBounds_toArray, List.set_cons_zero, List.set_cons_succ]
      refine wpAnyH_take (i := 5) (v := ?_) rfl (by kernel_rfl) (by kernel_rfl) (by kernel_rfl) (fun _ _ _ h => h) (Or.inl ⟨by rfl, ?_⟩) (by assumption) ?_
      rotate_left
      · intro w' hSw; (try dsimp only at hSw); go_simp; try with_reducible rfl
      try simp only [Act.put, List.getElem_toArray, List.getElem_cons_zero, List.getElem_cons_succ, List.setIfInBounds_toArray, List.set_cons_zero, List.set_cons_succ]
      refine wpAnyH_take (i := 6) (v := ?_) rfl (by kernel_rfl) (by kernel_rfl) (by kernel_rfl) (fun _ _ _ h => h) (Or.inl ⟨by rfl, ?_⟩) (by assumption) ?_
      rotate_left
      · intro w' hSw; (try dsimp only at hSw); go_simp; try with_reducible rfl
      try simp only [Act.put, List.getElem_toArray, List.getElem_cons_zero, List.getElem_cons_succ, List.setIfInBounds_toArray, List.set_cons_zero, List.set_cons_succ]
      refine wpAnyH_ready (rs := [3]) (by kernel_rfl) (by simp) ?_
      refine AllReadyH.cons rfl (fun K hK => ?_) AllReadyH.nil
      go_simp
      refine (HX.out _ (by first | exact hHeld.1 | exact Fr.drew (Fr.refl _ _))).mono ?_
      rintro e w1 ⟨rfl, hf⟩
      have Hf := Lib.hid hf
      clear hf
      try go_simp
      refine hK.out _ _ ?_ (fun hHeld => ?_)
      · (try dsimp only); exact ⟨hHeld.1.trans Hf.out (fun _ _ h => h), (Hf.out.cell (World.block_lt_of_cell? _ _ hHeld.2.1) (fun h => h)).trans hHeld.2.1, (Hf.out.cell (World.block_lt_of_cell? _ _ hHeld.2.2.1) (fun h => h)).trans hHeld.2.2.1, (Hf.out.cell (World.block_lt_of_cell? _ _ hHeld.2.2.2) (fun h => h)).trans hHeld.2.2.2⟩
      clear hK K
      try simp only [Act.put, List.getElem_toArray, List.getElem_cons_zero, List.getElem_cons_succ, List.setIfInBounds_toArray, List.set_cons_zero, List.set_cons_succ]
      refine wpAnyH_ready (rs := [7]) (by kernel_rfl) (by simp) ?_
      refine AllReadyH.cons rfl (fun K hK => ?_) AllReadyH.nil
      go_simp
      refine (RX.out _ (by first | exact hHeld.1 | exact Fr.drew (Fr.refl _ _))).mono ?_
      rintro e w1 ⟨rfl, hf⟩
      have Hf := Lib.hid hf
      clear hf
      try go_simp
      refine hK.out _ _ ?_ (fun hHeld => ?_)
      · (try dsimp only); exact ⟨hHeld.1.trans Hf.out (fun _ _ h => h), (Hf.out.cell (World.block_lt_of_cell? _ _ hHeld.2.1) (fun h => h)).trans hHeld.2.1, (Hf.out.cell (World.block_lt_of_cell? _ _ hHeld.2.2.1) (fun h => h)).trans hHeld.2.2.1, (Hf.out.cell (World.block_lt_of_cell? _ _ hHeld.2.2.2) (fun h => h)).trans hHeld.2.2.2⟩
      clear hK K
      try simp only [Act.put, List.getElem_toArray, List.getElem_cons_zero, List.getElem_cons_succ, List.setIfInBounds_toArray, List.set_cons_zero, List.set_cons_succ]
      refine wpAnyH_take (i := 8) (v := ?_) rfl (by kernel_rfl) (by kernel_rfl) (by kernel_rfl) (fun _ _ _ h => h) (Or.inl ⟨by rfl, ?_⟩) (by assumption) ?_
      rotate_left
      · intro w' hSw; (try dsimp only at hSw); go_simp; try with_reducible rfl
      try simp only [Act.put, List.getElem_toArray, List.getElem_cons_zero, List.getElem_cons_succ, List.setIfInBounds_toArray, List.set_cons_zero, List.set_cons_succ]
      refine wpAnyH_take (i := 9) (v := ?_) rfl (by kernel_rfl) (by kernel_rfl) (by kernel_rfl) (fun _ _ _ h => h) (Or.inl ⟨by rfl, ?_⟩) (by assumption) ?_
      rotate_left
      · intro w' hSw; (try dsimp only at hSw); go_simp; try with_reducible rfl
      try simp only [Act.put, List.getElem_toArray, List.getElem_cons_zero, List.getElem_cons_succ, List.setIfInBounds_toArray, List.set_cons_zero, List.set_cons_succ]
      refine wpAnyH_done (by kernel_rfl) ?_ _
      go_wp2_with fail
      go_ret
      exact ⟨by first | rfl | simp, B, rfl, HP1.out.keep hHeld.1, (HW.out.trans hHeld.1 (fun _ _ h => h)).mono (fun _ _ h => h.elim)⟩
  · clear hd
    by_cases hin : 0 ≤ I ∧ I < (B.length : Int)
    · obtain ⟨j, rfl⟩ : ∃ j : Nat, I = (j : Int) := ⟨I.toNat, by omega⟩
      have Hj := Lib.hid (show j < B.length by omega)
      clear hin
      go_upto_region 5 with fail
      refine wp_region_held_drew (S := fun w' => w'.cell? ⟨w.heap.size, 2, none⟩ = some (.int .i64 (j : Int))) (by kernel_rfl) (by exact o2) (fun hHeld => ?_)
      refine wpAnyH_take (i := 0) (v := ?_) rfl (by kernel_rfl) (by kernel_rfl) (by kernel_rfl) (fun _ _ _ h => h) (Or.inl ⟨by rfl, ?_⟩) (by assumption) ?_
      rotate_left
      · intro w' hSw; (try dsimp only at hSw); go_simp; try with_reducible rfl
      try simp only [Act.put, List.getElem_toArray, List.getElem_cons_zero, List.getElem_cons_succ, List.setIfInBounds_toArray, List.set_cons_zero, List.set_cons_succ]
      refine wpAnyH_take (i := 1) (v := ?_) rfl (by kernel_rfl) (by kernel_rfl) (by kernel_rfl) (fun _ _ _ h => h) (Or.inl ⟨by rfl, ?_⟩) (by assumption) ?_
      rotate_left
      · intro w' hSw; (try dsimp only at hSw); go_simp; try with_reducible rfl
      try simp only [Act.put, List.getElem_toArray, List.getElem_cons_zero, List.getElem_cons_succ, List.setIfInBounds_toArray, List.set_cons_zero, List.set_cons_succ]
      refine wpAnyH_take (i := 2) (v := ?_) rfl (by kernel_rfl) (by kernel_rfl) (by kernel_rfl) (fun _ _ _ h => h) (Or.inl ⟨by rfl, ?_⟩) (by assumption) ?_
      rotate_left
      · intro w' hSw; (try dsimp only at hSw); go_simp; try with_reducible rfl
      try simp only [Act.put, List.getElem_toArray, List.getElem_cons_zero, List.getElem_cons_succ, List.setIfInBounds_toArray, List.set_cons_zero, List.set_cons_succ]
      refine wpAnyH_take (i := 4) (v := ?_) rfl (by kernel_rfl) (by kernel_rfl) (by kernel_rfl) (fun _ _ _ h => h) (Or.inl ⟨by rfl, ?_⟩) (by assumption) ?_
      rotate_left
      · intro w' hSw; (try dsimp only at hSw); go_simp; try with_reducible rfl
      try simp only [Act.put, List.getElem_toArray, List.getElem_cons_zero, List.getElem_cons_succ, List.setIfInBounds_toArray, List.set_cons_zero, List.set_cons_succ]
      refine wpAnyH_take (i := 5) (v := ?_) rfl (by kernel_rfl) (by kernel_rfl) (by kernel_rfl) (fun _ _ _ h => h) (Or.inl ⟨by rfl, ?_⟩) (by assumption) ?_
      rotate_left
      · intro w' hSw; (try dsimp only at hSw); go_simp; try with_reducible rfl
      try simp only [Act.put, List.getElem_toArray, List.getElem_cons_zero, List.getElem_cons_succ, List.setIfInBounds_toArray, List.set_cons_zero, List.set_cons_succ]
      refine wpAnyH_take (i := 6) (v := ?_) rfl (by kernel_rfl) (by kernel_rfl) (by kernel_rfl) (fun _ _ _ h => h) (Or.inl ⟨by rfl, ?_⟩) (by assumption) ?_
      rotate_left
      · intro w' hSw; (try dsimp only at hSw); go_simp; try with_reducible rfl
      try simp only [Act.put, List.getElem_toArray, List.getElem_cons_zero, List.getElem_cons_succ, List.setIfInBounds_toArray, List.set_cons_zero, List.set_cons_succ]
      refine wpAnyH_ready (rs := [3]) (by kernel_rfl) (by simp) ?_
      refine AllReadyH.cons rfl (fun K hK => ?_) AllReadyH.nil
      go_simp
      refine (drop_in (HP1.out.keep (Fr.drew (Fr.refl _ _))).s HP1.out.ne1 Hj.out).mono ?_
      rintro e w1 ⟨rfl, s1, f1⟩
      have S1 := Lib.hid s1; have F1 := Lib.hid f1
      clear s1 f1
      try go_simp
      refine hK.out _ _ ?_ (fun hHeld => ?_)
      · (try dsimp only); exact (F1.out.cell (World.block_lt_of_cell? _ _ hHeld) (fun e => Nat.lt_irrefl _ (Hlt.out _ (.inl e)))).trans hHeld
      clear hK K
      try simp only [Act.put, List.getElem_toArray, List.getElem_cons_zero, List.getElem_cons_succ, List.setIfInBounds_toArray, List.set_cons_zero, List.set_cons_succ]
      refine wpAnyH_ready (rs := [7]) (by kernel_rfl) (by simp) ?_
      refine AllReadyH.cons rfl (fun K hK => ?_) AllReadyH.nil
      go_simp
      refine (rdrop_in (HP1.out.mid (Fr.drew (Fr.refl _ _)) F1.out) HP1.out.ne2 Hj.out).mono ?_
      rintro e w2 ⟨rfl, s2, f2⟩
      have S2 := Lib.hid s2; have F2 := Lib.hid f2
      clear s2 f2
      try go_simp
      refine hK.out _ _ ?_ (fun hHeld => ?_)
      · (try dsimp only); exact (F2.out.cell (World.block_lt_of_cell? _ _ hHeld) (fun e => Nat.lt_irrefl _ (Hlt.out _ (.inr e)))).trans hHeld
      clear hK K
      try simp only [Act.put, List.getElem_toArray, List.getElem_cons_zero, List.getElem_cons_succ, List.setIfInBounds_toArray, List.set_cons_zero, List.set_cons_succ]
      refine wpAnyH_take (i := 8) (v := ?_) rfl (by kernel_rfl) (by kernel_rfl) (by kernel_rfl) (fun _ _ _ h => h) (Or.inl ⟨by rfl, ?_⟩) (by assumption) ?_
      rotate_left
      · intro w' hSw; (try dsimp only at hSw); go_simp; try with_reducible rfl
      try simp only [Act.put, List.getElem_toArray, List.getElem_cons_zero, List.getElem_cons_succ, List.setIfInBounds_toArray, List.set_cons_zero, List.set_cons_succ]
      refine wpAnyH_take (i := 9) (v := ?_) rfl (by kernel_rfl) (by kernel_rfl) (by kernel_rfl) (fun _ _ _ h => h) (Or.inl ⟨by rfl, ?_⟩) (by assumption) ?_
      rotate_left
      · intro w' hSw; (try dsimp only at hSw); go_simp; try with_reducible rfl
      try simp only [Act.put, List.getElem_toArray, List.getElem_cons_zero, List.getElem_cons_succ, List.setIfInBounds_toArray, List.set_cons_zero, List.set_cons_succ]
      refine wpAnyH_done (by kernel_rfl) ?_ _
      have hst := HP1.out.step (Fr.drew (Fr.refl _ _)) S1.out F1.out S2.out F2.out
      have Hst := Lib.hid hst
      clear hst
      go_wp2_with fail
      go_ret
      exact ⟨by first | rfl | simp, _, by simp, Hst.out.1, (HW.out.mono (fun _ _ h => h.elim)).trans Hst.out.2 (fun _ _ h => h)⟩
    · have Ho := Lib.hid (show I < 0 ∨ (B.length : Int) ≤ I by omega)
      have HX := Lib.hid (show ∀ w0, Fr (fun _ => False) W w0 → Calls Tryd.prog 26 #[.pointer (some ⟨bh, 0, none⟩), .int .i64 I] w0 (fun e w' => e = .returned (.int .i64 2) ∧ Fr (fun _ => False) w0 w') from fun w0 f => (drop_out (HP1.out.keep f).s Ho.out).mono (fun e w' h => ⟨h.1, h.2 ▸ Fr.refl _ _⟩))
      have RX := Lib.hid (show ∀ w0, Fr (fun _ => False) W w0 → Calls Tryd.prog 55 #[.pointer (some ⟨rh, 0, none⟩), .int .i64 I] w0 (fun e w' => e = .returned (.int .i64 2) ∧ Fr (fun _ => False) w0 w') from fun w0 f => (rdrop_out (HP1.out.keep f).r Ho.out).mono (fun e w' h => ⟨h.1, h.2 ▸ Fr.refl _ _⟩))
      clear hin
      go_upto_region 5 with fail
      refine wp_region_held_drew (S := fun w' => Fr (fun _ => False) W w' ∧ w'.cell? ⟨w.heap.size, 2, none⟩ = some (.int .i64 I) ∧ w'.cell? ⟨rh, 0, none⟩ = some (.bool true) ∧ w'.cell? ⟨rh, 1, none⟩ = some (.slice a B.length c)) (by kernel_rfl) (by exact ⟨Fr.drew (Fr.refl _ _), o2, r0, r1⟩) (fun hHeld => ?_)
      refine wpAnyH_take (i := 0) (v := ?_) rfl (by kernel_rfl) (by kernel_rfl) (by kernel_rfl) (fun _ _ _ h => h) (Or.inl ⟨by rfl, ?_⟩) (by assumption) ?_
      rotate_left
      · intro w' hSw; (try dsimp only at hSw); go_simp; try with_reducible rfl
      try simp only [Act.put, List.getElem_toArray, List.getElem_cons_zero, List.getElem_cons_succ, List.setIfInBounds_toArray, List.set_cons_zero, List.set_cons_succ]
      refine wpAnyH_take (i := 1) (v := ?_) rfl (by kernel_rfl) (by kernel_rfl) (by kernel_rfl) (fun _ _ _ h => h) (Or.inl ⟨by rfl, ?_⟩) (by assumption) ?_
      rotate_left
      · intro w' hSw; (try dsimp only at hSw); go_simp; try with_reducible rfl
      try simp only [Act.put, List.getElem_toArray, List.getElem_cons_zero, List.getElem_cons_succ, List.setIfInBounds_toArray, List.set_cons_zero, List.set_cons_succ]
      refine wpAnyH_take (i := 2) (v := ?_) rfl (by kernel_rfl) (by kernel_rfl) (by kernel_rfl) (fun _ _ _ h => h) (Or.inl ⟨by rfl, ?_⟩) (by assumption) ?_
      rotate_left
      · intro w' hSw; (try dsimp only at hSw); go_simp; try with_reducible rfl
      try simp only [Act.put, List.getElem_toArray, List.getElem_cons_zero, List.getElem_cons_succ, List.setIfInBounds_toArray, List.set_cons_zero, List.set_cons_succ]
      refine wpAnyH_take (i := 4) (v := ?_) rfl (by kernel_rfl) (by kernel_rfl) (by kernel_rfl) (fun _ _ _ h => h) (Or.inl ⟨by rfl, ?_⟩) (by assumption) ?_
      rotate_left
      · intro w' hSw; (try dsimp only at hSw); go_simp; try with_reducible rfl
      try simp only [Act.put, List.getElem_toArray, List.getElem_cons_zero, List.getElem_cons_succ, List.setIfInBounds_toArray, List.set_cons_zero, List.set_cons_succ]
      refine wpAnyH_take (i := 5) (v := ?_) rfl (by kernel_rfl) (by kernel_rfl) (by kernel_rfl) (fun _ _ _ h => h) (Or.inl ⟨by rfl, ?_⟩) (by assumption) ?_
      rotate_left
      · intro w' hSw; (try dsimp only at hSw); go_simp; try with_reducible rfl
      try simp only [Act.put, List.getElem_toArray, List.getElem_cons_zero, List.getElem_cons_succ, List.setIfInBounds_toArray, List.set_cons_zero, List.set_cons_succ]
      refine wpAnyH_take (i := 6) (v := ?_) rfl (by kernel_rfl) (by kernel_rfl) (by kernel_rfl) (fun _ _ _ h => h) (Or.inl ⟨by rfl, ?_⟩) (by assumption) ?_
      rotate_left
      · intro w' hSw; (try dsimp only at hSw); go_simp; try with_reducible rfl
      try simp only [Act.put, List.getElem_toArray, List.getElem_cons_zero, List.getElem_cons_succ, List.setIfInBounds_toArray, List.set_cons_zero, List.set_cons_succ]
      refine wpAnyH_ready (rs := [3]) (by kernel_rfl) (by simp) ?_
      refine AllReadyH.cons rfl (fun K hK => ?_) AllReadyH.nil
      go_simp
      refine (HX.out _ (by first | exact hHeld.1 | exact Fr.drew (Fr.refl _ _))).mono ?_
      rintro e w1 ⟨rfl, hf⟩
      have Hf := Lib.hid hf
      clear hf
      try go_simp
      refine hK.out _ _ ?_ (fun hHeld => ?_)
      · (try dsimp only); exact ⟨hHeld.1.trans Hf.out (fun _ _ h => h), (Hf.out.cell (World.block_lt_of_cell? _ _ hHeld.2.1) (fun h => h)).trans hHeld.2.1, (Hf.out.cell (World.block_lt_of_cell? _ _ hHeld.2.2.1) (fun h => h)).trans hHeld.2.2.1, (Hf.out.cell (World.block_lt_of_cell? _ _ hHeld.2.2.2) (fun h => h)).trans hHeld.2.2.2⟩
      clear hK K
      try simp only [Act.put, List.getElem_toArray, List.getElem_cons_zero, List.getElem_cons_succ, List.setIfInBounds_toArray, List.set_cons_zero, List.set_cons_succ]
      refine wpAnyH_ready (rs := [7]) (by kernel_rfl) (by simp) ?_
      refine AllReadyH.cons rfl (fun K hK => ?_) AllReadyH.nil
      go_simp
      refine (RX.out _ (by first | exact hHeld.1 | exact Fr.drew (Fr.refl _ _))).mono ?_
      rintro e w1 ⟨rfl, hf⟩
      have Hf := Lib.hid hf
      clear hf
      try go_simp
      refine hK.out _ _ ?_ (fun hHeld => ?_)
      · (try dsimp only); exact ⟨hHeld.1.trans Hf.out (fun _ _ h => h), (Hf.out.cell (World.block_lt_of_cell? _ _ hHeld.2.1) (fun h => h)).trans hHeld.2.1, (Hf.out.cell (World.block_lt_of_cell? _ _ hHeld.2.2.1) (fun h => h)).trans hHeld.2.2.1, (Hf.out.cell (World.block_lt_of_cell? _ _ hHeld.2.2.2) (fun h => h)).trans hHeld.2.2.2⟩
      clear hK K
      try simp only [Act.put, List.getElem_toArray, List.getElem_cons_zero, List.getElem_cons_succ, List.setIfInBounds_toArray, List.set_cons_zero, List.set_cons_succ]
      refine wpAnyH_take (i := 8) (v := ?_) rfl (by kernel_rfl) (by kernel_rfl) (by kernel_rfl) (fun _ _ _ h => h) (Or.inl ⟨by rfl, ?_⟩) (by assumption) ?_
      rotate_left
      · intro w' hSw; (try dsimp only at hSw); go_simp; try with_reducible rfl
      try simp only [Act.put, List.getElem_toArray, List.getElem_cons_zero, List.getElem_cons_succ, List.setIfInBounds_toArray, List.set_cons_zero, List.set_cons_succ]
      refine wpAnyH_take (i := 9) (v := ?_) rfl (by kernel_rfl) (by kernel_rfl) (by kernel_rfl) (fun _ _ _ h => h) (Or.inl ⟨by rfl, ?_⟩) (by assumption) ?_
      rotate_left
      · intro w' hSw; (try dsimp only at hSw); go_simp; try with_reducible rfl
      try simp only [Act.put, List.getElem_toArray, List.getElem_cons_zero, List.getElem_cons_succ, List.setIfInBounds_toArray, List.set_cons_zero, List.set_cons_succ]
      refine wpAnyH_done (by kernel_rfl) ?_ _
      go_wp2_with fail
      go_ret
      exact ⟨by first | rfl | simp, B, rfl, HP1.out.keep hHeld.1, (HW.out.trans hHeld.1 (fun _ _ h => h)).mono (fun _ _ h => h.elim)⟩
  · clear hd
    go_upto_region 7 with fail
    refine wp_region_held_drew (S := fun w' => Fr (fun _ => False) W w' ∧ w'.cell? ⟨w.heap.size, 2, none⟩ = some (.int .i64 I) ∧ w'.cell? ⟨rh, 0, none⟩ = some (.bool true) ∧ w'.cell? ⟨rh, 1, none⟩ = some (.slice a B.length c)) (by kernel_rfl) (by exact ⟨Fr.drew (Fr.refl _ _), o2, r0, r1⟩) (fun hHeld => ?_)
    refine wpAnyH_take (i := 0) (v := ?_) rfl (by kernel_rfl) (by kernel_rfl) (by kernel_rfl) (fun _ _ _ h => h) (Or.inl ⟨by rfl, ?_⟩) (by assumption) ?_
    rotate_left
    · intro w' hSw; (try dsimp only at hSw); go_simp; try with_reducible rfl
    try simp only [Act.put, List.getElem_toArray, List.getElem_cons_zero, List.getElem_cons_succ, List.setIfInBounds_toArray, List.set_cons_zero, List.set_cons_succ]
    refine wpAnyH_take (i := 1) (v := ?_) rfl (by kernel_rfl) (by kernel_rfl) (by kernel_rfl) (fun _ _ _ h => h) (Or.inl ⟨by rfl, ?_⟩) (by assumption) ?_
    rotate_left
    · intro w' hSw; (try dsimp only at hSw); go_simp; try with_reducible rfl
    try simp only [Act.put, List.getElem_toArray, List.getElem_cons_zero, List.getElem_cons_succ, List.setIfInBounds_toArray, List.set_cons_zero, List.set_cons_succ]
    refine wpAnyH_take (i := 2) (v := ?_) rfl (by kernel_rfl) (by kernel_rfl) (by kernel_rfl) (fun _ _ _ h => h) (Or.inl ⟨by rfl, ?_⟩) (by assumption) ?_
    rotate_left
    · intro w' hSw; (try dsimp only at hSw); go_simp; try with_reducible rfl
    try simp only [Act.put, List.getElem_toArray, List.getElem_cons_zero, List.getElem_cons_succ, List.setIfInBounds_toArray, List.set_cons_zero, List.set_cons_succ]
    refine wpAnyH_take (i := 4) (v := ?_) rfl (by kernel_rfl) (by kernel_rfl) (by kernel_rfl) (fun _ _ _ h => h) (Or.inl ⟨by rfl, ?_⟩) (by assumption) ?_
    rotate_left
    · intro w' hSw; (try dsimp only at hSw); go_simp; try with_reducible rfl
    try simp only [Act.put, List.getElem_toArray, List.getElem_cons_zero, List.getElem_cons_succ, List.setIfInBounds_toArray, List.set_cons_zero, List.set_cons_succ]
    refine wpAnyH_take (i := 5) (v := ?_) rfl (by kernel_rfl) (by kernel_rfl) (by kernel_rfl) (fun _ _ _ h => h) (Or.inl ⟨by rfl, ?_⟩) (by assumption) ?_
    rotate_left
    · intro w' hSw; (try dsimp only at hSw); go_simp; try with_reducible rfl
    try simp only [Act.put, List.getElem_toArray, List.getElem_cons_zero, List.getElem_cons_succ, List.setIfInBounds_toArray, List.set_cons_zero, List.set_cons_succ]
    refine wpAnyH_take (i := 6) (v := ?_) rfl (by kernel_rfl) (by kernel_rfl) (by kernel_rfl) (fun _ _ _ h => h) (Or.inl ⟨by rfl, ?_⟩) (by assumption) ?_
    rotate_left
    · intro w' hSw; (try dsimp only at hSw); go_simp; try with_reducible rfl
    try simp only [Act.put, List.getElem_toArray, List.getElem_cons_zero, List.getElem_cons_succ, List.setIfInBounds_toArray, List.set_cons_zero, List.set_cons_succ]
    refine wpAnyH_ready (rs := [3]) (by kernel_rfl) (by simp) ?_
    refine AllReadyH.cons rfl (fun K hK => ?_) AllReadyH.nil
    go_simp
    refine (HHas.out _ (by first | exact hHeld.1 | exact Fr.drew (Fr.refl _ _))).mono ?_
    rintro e w1 ⟨rfl, hf⟩
    have Hf := Lib.hid hf
    clear hf
    try go_simp
    refine hK.out _ _ ?_ (fun hHeld => ?_)
    · (try dsimp only); exact ⟨hHeld.1.trans Hf.out (fun _ _ h => h), (Hf.out.cell (World.block_lt_of_cell? _ _ hHeld.2.1) (fun h => h)).trans hHeld.2.1, (Hf.out.cell (World.block_lt_of_cell? _ _ hHeld.2.2.1) (fun h => h)).trans hHeld.2.2.1, (Hf.out.cell (World.block_lt_of_cell? _ _ hHeld.2.2.2) (fun h => h)).trans hHeld.2.2.2⟩
    clear hK K
    try simp only [Act.put, List.getElem_toArray, List.getElem_cons_zero, List.getElem_cons_succ, List.setIfInBounds_toArray, List.set_cons_zero, List.set_cons_succ]
    refine wpAnyH_ready (rs := [7]) (by kernel_rfl) (by simp) ?_
    refine AllReadyH.cons rfl (fun K hK => ?_) AllReadyH.nil
    go_simp
    refine (RHas.out _ (by first | exact hHeld.1 | exact Fr.drew (Fr.refl _ _))).mono ?_
    rintro e w1 ⟨rfl, hf⟩
    have Hf := Lib.hid hf
    clear hf
    try go_simp
    refine hK.out _ _ ?_ (fun hHeld => ?_)
    · (try dsimp only); exact ⟨hHeld.1.trans Hf.out (fun _ _ h => h), (Hf.out.cell (World.block_lt_of_cell? _ _ hHeld.2.1) (fun h => h)).trans hHeld.2.1, (Hf.out.cell (World.block_lt_of_cell? _ _ hHeld.2.2.1) (fun h => h)).trans hHeld.2.2.1, (Hf.out.cell (World.block_lt_of_cell? _ _ hHeld.2.2.2) (fun h => h)).trans hHeld.2.2.2⟩
    clear hK K
    try simp only [Act.put, List.getElem_toArray, List.getElem_cons_zero, List.getElem_cons_succ, List.setIfInBounds_toArray, List.set_cons_zero, List.set_cons_succ]
    refine wpAnyH_take (i := 8) (v := ?_) rfl (by kernel_rfl) (by kernel_rfl) (by kernel_rfl) (fun _ _ _ h => h) (Or.inl ⟨by rfl, ?_⟩) (by assumption) ?_
    rotate_left
    · intro w' hSw; (try dsimp only at hSw); go_simp; try with_reducible rfl
    try simp only [Act.put, List.getElem_toArray, List.getElem_cons_zero, List.getElem_cons_succ, List.setIfInBounds_toArray, List.set_cons_zero, List.set_cons_succ]
    refine wpAnyH_take (i := 9) (v := ?_) rfl (by kernel_rfl) (by kernel_rfl) (by kernel_rfl) (fun _ _ _ h => h) (Or.inl ⟨by rfl, ?_⟩) (by assumption) ?_
    rotate_left
    · intro w' hSw; (try dsimp only at hSw); go_simp; try with_reducible rfl
    try simp only [Act.put, List.getElem_toArray, List.getElem_cons_zero, List.getElem_cons_succ, List.setIfInBounds_toArray, List.set_cons_zero, List.set_cons_succ]
    refine wpAnyH_done (by kernel_rfl) ?_ _
    go_wp2_with fail
    go_ret
    exact ⟨by first | rfl | simp, B, rfl, HP1.out.keep hHeld.1, (HW.out.trans hHeld.1 (fun _ _ h => h)).mono (fun _ _ h => h.elim)⟩
  · clear hd
    go_upto_region 9 with fail
    refine wp_region_held_drew (S := fun w' => Fr (fun _ => False) W w' ∧ w'.cell? ⟨w.heap.size, 2, none⟩ = some (.int .i64 I) ∧ w'.cell? ⟨rh, 0, none⟩ = some (.bool true) ∧ w'.cell? ⟨rh, 1, none⟩ = some (.slice a B.length c)) (by kernel_rfl) (by exact ⟨Fr.drew (Fr.refl _ _), o2, r0, r1⟩) (fun hHeld => ?_)
    refine wpAnyH_take (i := 0) (v := ?_) rfl (by kernel_rfl) (by kernel_rfl) (by kernel_rfl) (fun _ _ _ h => h) (Or.inl ⟨by rfl, ?_⟩) (by assumption) ?_
    rotate_left
    · intro w' hSw; (try dsimp only at hSw); go_simp; try with_reducible rfl
    try simp only [Act.put, List.getElem_toArray, List.getElem_cons_zero, List.getElem_cons_succ, List.setIfInBounds_toArray, List.set_cons_zero, List.set_cons_succ]
    refine wpAnyH_take (i := 1) (v := ?_) rfl (by kernel_rfl) (by kernel_rfl) (by kernel_rfl) (fun _ _ _ h => h) (Or.inl ⟨by rfl, ?_⟩) (by assumption) ?_
    rotate_left
    · intro w' hSw; (try dsimp only at hSw); go_simp; try with_reducible rfl
    try simp only [Act.put, List.getElem_toArray, List.getElem_cons_zero, List.getElem_cons_succ, List.setIfInBounds_toArray, List.set_cons_zero, List.set_cons_succ]
    refine wpAnyH_take (i := 2) (v := ?_) rfl (by kernel_rfl) (by kernel_rfl) (by kernel_rfl) (fun _ _ _ h => h) (Or.inl ⟨by rfl, ?_⟩) (by assumption) ?_
    rotate_left
    · intro w' hSw; (try dsimp only at hSw); go_simp; try with_reducible rfl
    try simp only [Act.put, List.getElem_toArray, List.getElem_cons_zero, List.getElem_cons_succ, List.setIfInBounds_toArray, List.set_cons_zero, List.set_cons_succ]
    refine wpAnyH_take (i := 4) (v := ?_) rfl (by kernel_rfl) (by kernel_rfl) (by kernel_rfl) (fun _ _ _ h => h) (Or.inl ⟨by rfl, ?_⟩) (by assumption) ?_
    rotate_left
    · intro w' hSw; (try dsimp only at hSw); go_simp; try with_reducible rfl
    try simp only [Act.put, List.getElem_toArray, List.getElem_cons_zero, List.getElem_cons_succ, List.setIfInBounds_toArray, List.set_cons_zero, List.set_cons_succ]
    refine wpAnyH_take (i := 5) (v := ?_) rfl (by kernel_rfl) (by kernel_rfl) (by kernel_rfl) (fun _ _ _ h => h) (Or.inl ⟨by rfl, ?_⟩) (by assumption) ?_
    rotate_left
    · intro w' hSw; (try dsimp only at hSw); go_simp; try with_reducible rfl
    try simp only [Act.put, List.getElem_toArray, List.getElem_cons_zero, List.getElem_cons_succ, List.setIfInBounds_toArray, List.set_cons_zero, List.set_cons_succ]
    refine wpAnyH_take (i := 6) (v := ?_) rfl (by kernel_rfl) (by kernel_rfl) (by kernel_rfl) (fun _ _ _ h => h) (Or.inl ⟨by rfl, ?_⟩) (by assumption) ?_
    rotate_left
    · intro w' hSw; (try dsimp only at hSw); go_simp; try with_reducible rfl
    try simp only [Act.put, List.getElem_toArray, List.getElem_cons_zero, List.getElem_cons_succ, List.setIfInBounds_toArray, List.set_cons_zero, List.set_cons_succ]
    refine wpAnyH_ready (rs := [3]) (by kernel_rfl) (by simp) ?_
    refine AllReadyH.cons rfl (fun K hK => ?_) AllReadyH.nil
    go_simp
    refine (HNext.out _ (by first | exact hHeld.1 | exact Fr.drew (Fr.refl _ _))).mono ?_
    rintro e w1 ⟨rfl, hf⟩
    have Hf := Lib.hid hf
    clear hf
    try go_simp
    refine hK.out _ _ ?_ (fun hHeld => ?_)
    · (try dsimp only); exact ⟨hHeld.1.trans Hf.out (fun _ _ h => h), (Hf.out.cell (World.block_lt_of_cell? _ _ hHeld.2.1) (fun h => h)).trans hHeld.2.1, (Hf.out.cell (World.block_lt_of_cell? _ _ hHeld.2.2.1) (fun h => h)).trans hHeld.2.2.1, (Hf.out.cell (World.block_lt_of_cell? _ _ hHeld.2.2.2) (fun h => h)).trans hHeld.2.2.2⟩
    clear hK K
    try simp only [Act.put, List.getElem_toArray, List.getElem_cons_zero, List.getElem_cons_succ, List.setIfInBounds_toArray, List.set_cons_zero, List.set_cons_succ]
    refine wpAnyH_ready (rs := [7]) (by kernel_rfl) (by simp) ?_
    refine AllReadyH.cons rfl (fun K hK => ?_) AllReadyH.nil
    go_simp
    refine (RNext.out _ (by first | exact hHeld.1 | exact Fr.drew (Fr.refl _ _))).mono ?_
    rintro e w1 ⟨rfl, hf⟩
    have Hf := Lib.hid hf
    clear hf
    try go_simp
    refine hK.out _ _ ?_ (fun hHeld => ?_)
    · (try dsimp only); exact ⟨hHeld.1.trans Hf.out (fun _ _ h => h), (Hf.out.cell (World.block_lt_of_cell? _ _ hHeld.2.1) (fun h => h)).trans hHeld.2.1, (Hf.out.cell (World.block_lt_of_cell? _ _ hHeld.2.2.1) (fun h => h)).trans hHeld.2.2.1, (Hf.out.cell (World.block_lt_of_cell? _ _ hHeld.2.2.2) (fun h => h)).trans hHeld.2.2.2⟩
    clear hK K
    try simp only [Act.put, List.getElem_toArray, List.getElem_cons_zero, List.getElem_cons_succ, List.setIfInBounds_toArray, List.set_cons_zero, List.set_cons_succ]
    refine wpAnyH_take (i := 8) (v := ?_) rfl (by kernel_rfl) (by kernel_rfl) (by kernel_rfl) (fun _ _ _ h => h) (Or.inl ⟨by rfl, ?_⟩) (by assumption) ?_
    rotate_left
    · intro w' hSw; (try dsimp only at hSw); go_simp; try with_reducible rfl
    try simp only [Act.put, List.getElem_toArray, List.getElem_cons_zero, List.getElem_cons_succ, List.setIfInBounds_toArray, List.set_cons_zero, List.set_cons_succ]
    refine wpAnyH_take (i := 9) (v := ?_) rfl (by kernel_rfl) (by kernel_rfl) (by kernel_rfl) (fun _ _ _ h => h) (Or.inl ⟨by rfl, ?_⟩) (by assumption) ?_
    rotate_left
    · intro w' hSw; (try dsimp only at hSw); go_simp; try with_reducible rfl
    try simp only [Act.put, List.getElem_toArray, List.getElem_cons_zero, List.getElem_cons_succ, List.setIfInBounds_toArray, List.set_cons_zero, List.set_cons_succ]
    refine wpAnyH_done (by kernel_rfl) ?_ _
    go_wp2_with fail
    go_ret
    exact ⟨by first | rfl | simp, B, rfl, HP1.out.keep hHeld.1, (HW.out.trans hHeld.1 (fun _ _ h => h)).mono (fun _ _ h => h.elim)⟩
  · clear hd
    go_upto_region 11 with fail
    refine wp_region_held_drew (S := fun w' => Fr (fun _ => False) W w' ∧ w'.cell? ⟨w.heap.size, 2, none⟩ = some (.int .i64 I) ∧ w'.cell? ⟨rh, 0, none⟩ = some (.bool true) ∧ w'.cell? ⟨rh, 1, none⟩ = some (.slice a B.length c)) (by kernel_rfl) (by exact ⟨Fr.drew (Fr.refl _ _), o2, r0, r1⟩) (fun hHeld => ?_)
    refine wpAnyH_take (i := 0) (v := ?_) rfl (by kernel_rfl) (by kernel_rfl) (by kernel_rfl) (fun _ _ _ h => h) (Or.inl ⟨by rfl, ?_⟩) (by assumption) ?_
    rotate_left
    · intro w' hSw; (try dsimp only at hSw); go_simp; try with_reducible rfl
    try simp only [Act.put, List.getElem_toArray, List.getElem_cons_zero, List.getElem_cons_succ, List.setIfInBounds_toArray, List.set_cons_zero, List.set_cons_succ]
    refine wpAnyH_take (i := 1) (v := ?_) rfl (by kernel_rfl) (by kernel_rfl) (by kernel_rfl) (fun _ _ _ h => h) (Or.inl ⟨by rfl, ?_⟩) (by assumption) ?_
    rotate_left
    · intro w' hSw; (try dsimp only at hSw); go_simp; try with_reducible rfl
    try simp only [Act.put, List.getElem_toArray, List.getElem_cons_zero, List.getElem_cons_succ, List.setIfInBounds_toArray, List.set_cons_zero, List.set_cons_succ]
    refine wpAnyH_take (i := 2) (v := ?_) rfl (by kernel_rfl) (by kernel_rfl) (by kernel_rfl) (fun _ _ _ h => h) (Or.inl ⟨by rfl, ?_⟩) (by assumption) ?_
    rotate_left
    · intro w' hSw; (try dsimp only at hSw); go_simp; try with_reducible rfl
    try simp only [Act.put, List.getElem_toArray, List.getElem_cons_zero, List.getElem_cons_succ, List.setIfInBounds_toArray, List.set_cons_zero, List.set_cons_succ]
    refine wpAnyH_take (i := 4) (v := ?_) rfl (by kernel_rfl) (by kernel_rfl) (by kernel_rfl) (fun _ _ _ h => h) (Or.inl ⟨by rfl, ?_⟩) (by assumption) ?_
    rotate_left
    · intro w' hSw; (try dsimp only at hSw); go_simp; try with_reducible rfl
    try simp only [Act.put, List.getElem_toArray, List.getElem_cons_zero, List.getElem_cons_succ, List.setIfInBounds_toArray, List.set_cons_zero, List.set_cons_succ]
    refine wpAnyH_take (i := 5) (v := ?_) rfl (by kernel_rfl) (by kernel_rfl) (by kernel_rfl) (fun _ _ _ h => h) (Or.inl ⟨by rfl, ?_⟩) (by assumption) ?_
    rotate_left
    · intro w' hSw; (try dsimp only at hSw); go_simp; try with_reducible rfl
    try simp only [Act.put, List.getElem_toArray, List.getElem_cons_zero, List.getElem_cons_succ, List.setIfInBounds_toArray, List.set_cons_zero, List.set_cons_succ]
    refine wpAnyH_take (i := 6) (v := ?_) rfl (by kernel_rfl) (by kernel_rfl) (by kernel_rfl) (fun _ _ _ h => h) (Or.inl ⟨by rfl, ?_⟩) (by assumption) ?_
    rotate_left
    · intro w' hSw; (try dsimp only at hSw); go_simp; try with_reducible rfl
    try simp only [Act.put, List.getElem_toArray, List.getElem_cons_zero, List.getElem_cons_succ, List.setIfInBounds_toArray, List.set_cons_zero, List.set_cons_succ]
    refine wpAnyH_ready (rs := [3]) (by kernel_rfl) (by simp) ?_
    refine AllReadyH.cons rfl (fun K hK => ?_) AllReadyH.nil
    go_simp
    refine (HFree.out _ (by first | exact hHeld.1 | exact Fr.drew (Fr.refl _ _))).mono ?_
    rintro e w1 ⟨rfl, hf⟩
    have Hf := Lib.hid hf
    clear hf
    try go_simp
    refine hK.out _ _ ?_ (fun hHeld => ?_)
    · (try dsimp only); exact ⟨hHeld.1.trans Hf.out (fun _ _ h => h), (Hf.out.cell (World.block_lt_of_cell? _ _ hHeld.2.1) (fun h => h)).trans hHeld.2.1, (Hf.out.cell (World.block_lt_of_cell? _ _ hHeld.2.2.1) (fun h => h)).trans hHeld.2.2.1, (Hf.out.cell (World.block_lt_of_cell? _ _ hHeld.2.2.2) (fun h => h)).trans hHeld.2.2.2⟩
    clear hK K
    try simp only [Act.put, List.getElem_toArray, List.getElem_cons_zero, List.getElem_cons_succ, List.setIfInBounds_toArray, List.set_cons_zero, List.set_cons_succ]
    refine wpAnyH_ready (rs := [7]) (by kernel_rfl) (by simp) ?_
    refine AllReadyH.cons rfl (fun K hK => ?_) AllReadyH.nil
    go_simp
    refine (RFree.out _ (by first | exact hHeld.1 | exact Fr.drew (Fr.refl _ _))).mono ?_
    rintro e w1 ⟨rfl, hf⟩
    have Hf := Lib.hid hf
    clear hf
    try go_simp
    refine hK.out _ _ ?_ (fun hHeld => ?_)
    · (try dsimp only); exact ⟨hHeld.1.trans Hf.out (fun _ _ h => h), (Hf.out.cell (World.block_lt_of_cell? _ _ hHeld.2.1) (fun h => h)).trans hHeld.2.1, (Hf.out.cell (World.block_lt_of_cell? _ _ hHeld.2.2.1) (fun h => h)).trans hHeld.2.2.1, (Hf.out.cell (World.block_lt_of_cell? _ _ hHeld.2.2.2) (fun h => h)).trans hHeld.2.2.2⟩
    clear hK K
    try simp only [Act.put, List.getElem_toArray, List.getElem_cons_zero, List.getElem_cons_succ, List.setIfInBounds_toArray, List.set_cons_zero, List.set_cons_succ]
    refine wpAnyH_take (i := 8) (v := ?_) rfl (by kernel_rfl) (by kernel_rfl) (by kernel_rfl) (fun _ _ _ h => h) (Or.inl ⟨by rfl, ?_⟩) (by assumption) ?_
    rotate_left
    · intro w' hSw; (try dsimp only at hSw); go_simp; try with_reducible rfl
    try simp only [Act.put, List.getElem_toArray, List.getElem_cons_zero, List.getElem_cons_succ, List.setIfInBounds_toArray, List.set_cons_zero, List.set_cons_succ]
    refine wpAnyH_take (i := 9) (v := ?_) rfl (by kernel_rfl) (by kernel_rfl) (by kernel_rfl) (fun _ _ _ h => h) (Or.inl ⟨by rfl, ?_⟩) (by assumption) ?_
    rotate_left
    · intro w' hSw; (try dsimp only at hSw); go_simp; try with_reducible rfl
    try simp only [Act.put, List.getElem_toArray, List.getElem_cons_zero, List.getElem_cons_succ, List.setIfInBounds_toArray, List.set_cons_zero, List.set_cons_succ]
    refine wpAnyH_done (by kernel_rfl) ?_ _
    go_wp2_with fail
    go_ret
    exact ⟨by first | rfl | simp, B, rfl, HP1.out.keep hHeld.1, (HW.out.trans hHeld.1 (fun _ _ h => h)).mono (fun _ _ h => h.elim)⟩
  · clear hd
    go_upto_region 13 with fail
    refine wp_region_held_drew (S := fun w' => Fr (fun _ => False) W w' ∧ w'.cell? ⟨w.heap.size, 2, none⟩ = some (.int .i64 I) ∧ w'.cell? ⟨rh, 0, none⟩ = some (.bool true) ∧ w'.cell? ⟨rh, 1, none⟩ = some (.slice a B.length c)) (by kernel_rfl) (by exact ⟨Fr.drew (Fr.refl _ _), o2, r0, r1⟩) (fun hHeld => ?_)
    refine wpAnyH_take (i := 0) (v := ?_) rfl (by kernel_rfl) (by kernel_rfl) (by kernel_rfl) (fun _ _ _ h => h) (Or.inl ⟨by rfl, ?_⟩) (by assumption) ?_
    rotate_left
    · intro w' hSw; (try dsimp only at hSw); go_simp; try with_reducible rfl
    try simp only [Act.put, List.getElem_toArray, List.getElem_cons_zero, List.getElem_cons_succ, List.setIfInBounds_toArray, List.set_cons_zero, List.set_cons_succ]
    refine wpAnyH_take (i := 2) (v := ?_) rfl (by kernel_rfl) (by kernel_rfl) (by kernel_rfl) (fun _ _ _ h => h) (Or.inl ⟨by rfl, ?_⟩) (by assumption) ?_
    rotate_left
    · intro w' hSw; (try dsimp only at hSw); go_simp; try with_reducible rfl
    try simp only [Act.put, List.getElem_toArray, List.getElem_cons_zero, List.getElem_cons_succ, List.setIfInBounds_toArray, List.set_cons_zero, List.set_cons_succ]
    refine wpAnyH_ready (rs := [1]) (by kernel_rfl) (by simp) ?_
    refine AllReadyH.cons rfl (fun K hK => ?_) AllReadyH.nil
    go_simp
    refine (HCount.out _ (by first | exact hHeld.1 | exact Fr.drew (Fr.refl _ _))).mono ?_
    rintro e w1 ⟨rfl, hf⟩
    have Hf := Lib.hid hf
    clear hf
    try go_simp
    refine hK.out _ _ ?_ (fun hHeld => ?_)
    · (try dsimp only); exact ⟨hHeld.1.trans Hf.out (fun _ _ h => h), (Hf.out.cell (World.block_lt_of_cell? _ _ hHeld.2.1) (fun h => h)).trans hHeld.2.1, (Hf.out.cell (World.block_lt_of_cell? _ _ hHeld.2.2.1) (fun h => h)).trans hHeld.2.2.1, (Hf.out.cell (World.block_lt_of_cell? _ _ hHeld.2.2.2) (fun h => h)).trans hHeld.2.2.2⟩
    clear hK K
    try simp only [Act.put, List.getElem_toArray, List.getElem_cons_zero, List.getElem_cons_succ, List.setIfInBounds_toArray, List.set_cons_zero, List.set_cons_succ]
    refine wpAnyH_ready (rs := [3]) (by kernel_rfl) (by simp) ?_
    refine AllReadyH.cons rfl (fun K hK => ?_) AllReadyH.nil
    go_simp
    refine (RCount.out _ (by first | exact hHeld.1 | exact Fr.drew (Fr.refl _ _))).mono ?_
    rintro e w1 ⟨rfl, hf⟩
    have Hf := Lib.hid hf
    clear hf
    try go_simp
    refine hK.out _ _ ?_ (fun hHeld => ?_)
    · (try dsimp only); exact ⟨hHeld.1.trans Hf.out (fun _ _ h => h), (Hf.out.cell (World.block_lt_of_cell? _ _ hHeld.2.1) (fun h => h)).trans hHeld.2.1, (Hf.out.cell (World.block_lt_of_cell? _ _ hHeld.2.2.1) (fun h => h)).trans hHeld.2.2.1, (Hf.out.cell (World.block_lt_of_cell? _ _ hHeld.2.2.2) (fun h => h)).trans hHeld.2.2.2⟩
    clear hK K
    try simp only [Act.put, List.getElem_toArray, List.getElem_cons_zero, List.getElem_cons_succ, List.setIfInBounds_toArray, List.set_cons_zero, List.set_cons_succ]
    refine wpAnyH_take (i := 4) (v := ?_) rfl (by kernel_rfl) (by kernel_rfl) (by kernel_rfl) (fun _ _ _ h => h) (Or.inl ⟨by rfl, ?_⟩) (by assumption) ?_
    rotate_left
    · intro w' hSw; (try dsimp only at hSw); go_simp; try with_reducible rfl
    try simp only [Act.put, List.getElem_toArray, List.getElem_cons_zero, List.getElem_cons_succ, List.setIfInBounds_toArray, List.set_cons_zero, List.set_cons_succ]
    refine wpAnyH_take (i := 5) (v := ?_) rfl (by kernel_rfl) (by kernel_rfl) (by kernel_rfl) (fun _ _ _ h => h) (Or.inl ⟨by rfl, ?_⟩) (by assumption) ?_
    rotate_left
    · intro w' hSw; (try dsimp only at hSw); go_simp; try with_reducible rfl
    try simp only [Act.put, List.getElem_toArray, List.getElem_cons_zero, List.getElem_cons_succ, List.setIfInBounds_toArray, List.set_cons_zero, List.set_cons_succ]
    refine wpAnyH_take (i := 6) (v := ?_) rfl (by kernel_rfl) (by kernel_rfl) (by kernel_rfl) (fun _ _ _ h => h) (Or.inl ⟨by rfl, ?_⟩) (by assumption) ?_
    rotate_left
    · intro w' hSw; (try dsimp only at hSw); go_simp; try with_reducible rfl
    try simp only [Act.put, List.getElem_toArray, List.getElem_cons_zero, List.getElem_cons_succ, List.setIfInBounds_toArray, List.set_cons_zero, List.set_cons_succ]
    refine wpAnyH_take (i := 8) (v := ?_) rfl (by kernel_rfl) (by kernel_rfl) (by kernel_rfl) (fun _ _ _ h => h) (Or.inl ⟨by rfl, ?_⟩) (by assumption) ?_
    rotate_left
    · intro w' hSw; (try dsimp only at hSw); go_simp; try with_reducible rfl
    try simp only [Act.put, List.getElem_toArray, List.getElem_cons_zero, List.getElem_cons_succ, List.setIfInBounds_toArray, List.set_cons_zero, List.set_cons_succ]
    refine wpAnyH_take (i := 9) (v := ?_) rfl (by kernel_rfl) (by kernel_rfl) (by kernel_rfl) (fun _ _ _ h => h) (Or.inl ⟨by rfl, ?_⟩) (by assumption) ?_
    rotate_left
    · intro w' hSw; (try dsimp only at hSw); go_simp; try with_reducible rfl
    try simp only [Act.put, List.getElem_toArray, List.getElem_cons_zero, List.getElem_cons_succ, List.setIfInBounds_toArray, List.set_cons_zero, List.set_cons_succ]
    refine wpAnyH_take (i := 10) (v := ?_) rfl (by kernel_rfl) (by kernel_rfl) (by kernel_rfl) (fun _ _ _ h => h) (Or.inl ⟨by rfl, ?_⟩) (by assumption) ?_
    rotate_left
    · intro w' hSw; (try dsimp only at hSw); go_simp; try with_reducible rfl
    try simp only [Act.put, List.getElem_toArray, List.getElem_cons_zero, List.getElem_cons_succ, List.setIfInBounds_toArray, List.set_cons_zero, List.set_cons_succ]
    refine wpAnyH_take (i := 11) (v := ?_) rfl (by kernel_rfl) (by kernel_rfl) (by kernel_rfl) (fun _ _ _ h => h) (Or.inl ⟨by rfl, ?_⟩) (by assumption) ?_
    rotate_left
    · intro w' hSw; (try dsimp only at hSw); go_simp; try with_reducible rfl
    try simp only [Act.put, List.getElem_toArray, List.getElem_cons_zero, List.getElem_cons_succ, List.setIfInBounds_toArray, List.set_cons_zero, List.set_cons_succ]
    refine wpAnyH_take (i := 12) (v := ?_) rfl (by kernel_rfl) (by kernel_rfl) (by kernel_rfl) (fun _ _ _ h => h) (Or.inl ⟨by rfl, ?_⟩) (by assumption) ?_
    rotate_left
    · intro w' hSw; (try dsimp only at hSw); go_simp; try with_reducible rfl
    try simp only [Act.put, List.getElem_toArray, List.getElem_cons_zero, List.getElem_cons_succ, List.setIfInBounds_toArray, List.set_cons_zero, List.set_cons_succ]
    refine wpAnyH_ready (rs := [7]) (by kernel_rfl) (by simp) ?_
    refine AllReadyH.cons rfl (fun K hK => ?_) AllReadyH.nil
    go_simp
    refine (HBound.out _ (by first | exact hHeld.1 | exact Fr.drew (Fr.refl _ _))).mono ?_
    rintro e w1 ⟨rfl, hf⟩
    have Hf := Lib.hid hf
    clear hf
    try go_simp
    refine hK.out _ _ ?_ (fun hHeld => ?_)
    · (try dsimp only); exact ⟨hHeld.1.trans Hf.out (fun _ _ h => h), (Hf.out.cell (World.block_lt_of_cell? _ _ hHeld.2.1) (fun h => h)).trans hHeld.2.1, (Hf.out.cell (World.block_lt_of_cell? _ _ hHeld.2.2.1) (fun h => h)).trans hHeld.2.2.1, (Hf.out.cell (World.block_lt_of_cell? _ _ hHeld.2.2.2) (fun h => h)).trans hHeld.2.2.2⟩
    clear hK K
    try simp only [Act.put, List.getElem_toArray, List.getElem_cons_zero, List.getElem_cons_succ, List.setIfInBounds_toArray, List.set_cons_zero, List.set_cons_succ]
    refine wpAnyH_take (i := 13) (v := ?_) rfl (by kernel_rfl) (by kernel_rfl) (by kernel_rfl) (fun _ _ _ h => h) (Or.inl ⟨by rfl, ?_⟩) (by assumption) ?_
    rotate_left
    · intro w' hSw; (try dsimp only at hSw); go_simp; try with_reducible rfl
    try simp only [Act.put, List.getElem_toArray, List.getElem_cons_zero, List.getElem_cons_succ, List.setIfInBounds_toArray, List.set_cons_zero, List.set_cons_succ]
    refine wpAnyH_take (i := 14) (v := ?_) rfl (by kernel_rfl) (by kernel_rfl) (by kernel_rfl) (fun _ _ _ h => h) (Or.inl ⟨by rfl, ?_⟩) (by assumption) ?_
    rotate_left
    · intro w' hSw; (try dsimp only at hSw); go_simp; try with_reducible rfl
    try simp only [Act.put, List.getElem_toArray, List.getElem_cons_zero, List.getElem_cons_succ, List.setIfInBounds_toArray, List.set_cons_zero, List.set_cons_succ]
    refine wpAnyH_take (i := 15) (v := ?_) rfl (by kernel_rfl) (by kernel_rfl) (by kernel_rfl) (fun _ _ _ h => h) (Or.inl ⟨by rfl, ?_⟩) (by assumption) ?_
    rotate_left
    · intro w' hSw; (try dsimp only at hSw); go_simp; try with_reducible rfl
    try simp only [Act.put, List.getElem_toArray, List.getElem_cons_zero, List.getElem_cons_succ, List.setIfInBounds_toArray, List.set_cons_zero, List.set_cons_succ]
    refine wpAnyH_done (by kernel_rfl) ?_ _
    go_wp2_with fail
    go_ret
    exact ⟨by first | rfl | simp, B, rfl, HP1.out.keep hHeld.1, (HW.out.trans hHeld.1 (fun _ _ h => h)).mono (fun _ _ h => h.elim)⟩
  · clear hd
    go_wp2_with fail
    refine (all_ok HT1.out HP1.out.s).mono ?_
    rintro e w2 ⟨cb, bh', v', rfl, hq⟩
    have Hq := Lib.hid hq
    clear hq
    go_wp2_with fail
    refine (told_ok Hq.out.seq).mono ?_
    rintro e w3 ⟨sv, rfl, r5, _, f3⟩
    have F3 := Lib.hid (Hq.out.fr.trans f3 (fun _ _ h => h)); have R5 := Lib.hid r5
    clear f3 r5
    go_wp2_with fail
    refine (rall_ok (HP1.out.keep F3.out).r).mono ?_
    rintro e w4 ⟨sv2, rfl, ho, f4⟩
    have F4 := Lib.hid (F3.out.trans f4 (fun _ _ h => h)); have Ho := Lib.hid ho; have R5 := Lib.hid (Row.fr R5.out f4 (fun _ _ h => h))
    clear ho f4
    go_wp2_with fail
    refine (sameInts_ok R5.out Ho.out.row Hs5.out Hs5.out).mono ?_
    rintro e w5 ⟨rfl, f5⟩
    have F5 := Lib.hid (F4.out.trans f5 (fun _ _ h => h))
    clear f5
    simp only [decide_true]
    go_wp2_with fail
    go_ret
    exact ⟨rfl, B, rfl, HP1.out.keep F5.out, (HW.out.trans F5.out (fun _ _ h => h)).mono (fun _ _ h => h.elim)⟩
  · clear hd
    go_wp2_with fail
    refine (gaps_ok HT1.out HP1.out.s).mono ?_
    rintro e w2 ⟨cb, bh', v', rfl, hq⟩
    have Hq := Lib.hid hq
    clear hq
    go_wp2_with fail
    refine (pairs_ok Hq.out.seq).mono ?_
    rintro e w3 ⟨sv, rfl, r5, _, f3⟩
    have F3 := Lib.hid (Hq.out.fr.trans f3 (fun _ _ h => h)); have R5 := Lib.hid r5
    clear f3 r5
    go_wp2_with fail
    refine (rgaps_ok (HP1.out.keep F3.out).r).mono ?_
    rintro e w4 ⟨sv2, rfl, ho, f4⟩
    have F4 := Lib.hid (F3.out.trans f4 (fun _ _ h => h)); have Ho := Lib.hid ho; have R5 := Lib.hid (Row.fr R5.out f4 (fun _ _ h => h))
    clear ho f4
    go_wp2_with fail
    refine (sameInts_ok R5.out Ho.out.row Hs7.out Hs7.out).mono ?_
    rintro e w5 ⟨rfl, f5⟩
    have F5 := Lib.hid (F4.out.trans f5 (fun _ _ h => h))
    clear f5
    simp only [decide_true]
    go_wp2_with fail
    go_ret
    exact ⟨rfl, B, rfl, HP1.out.keep F5.out, (HW.out.trans F5.out (fun _ _ h => h)).mono (fun _ _ h => h.elim)⟩
  · clear hd
    go_wp2_with fail
    refine (bytes_ok HP1.out.s).mono ?_
    rintro e w2 ⟨a2, c2, rfl, r2, _, f2⟩
    have F2 := Lib.hid f2; have R2 := Lib.hid r2
    clear f2 r2
    go_wp2_with fail
    refine (rbytes_ok (HP1.out.keep F2.out).r).mono ?_
    rintro e w3 ⟨a3, c3, rfl, r3, _, f3⟩
    have F3 := Lib.hid (F2.out.trans f3 (fun _ _ h => h)); have R3 := Lib.hid r3; have R2 := Lib.hid (Row.fr R2.out f3 (fun _ _ h => h))
    clear f3 r3
    go_wp2_with fail
    refine (sameBytes_ok R2.out R3.out Hs8.out Hs8.out).mono ?_
    rintro e w5 ⟨rfl, f5⟩
    have F5 := Lib.hid (F3.out.trans f5 (fun _ _ h => h))
    clear f5
    simp only [decide_true]
    go_wp2_with fail
    go_ret
    exact ⟨rfl, B, rfl, HP1.out.keep F5.out, (HW.out.trans F5.out (fun _ _ h => h)).mono (fun _ _ h => h.elim)⟩
  · clear hd
    go_upto_region 23 with fail
    refine wp_region_held_drew (S := fun w' => Fr (fun _ => False) W w' ∧ w'.cell? ⟨w.heap.size, 2, none⟩ = some (.int .i64 I) ∧ w'.cell? ⟨rh, 0, none⟩ = some (.bool true) ∧ w'.cell? ⟨rh, 1, none⟩ = some (.slice a B.length c)) (by kernel_rfl) (by exact ⟨Fr.drew (Fr.refl _ _), o2, r0, r1⟩) (fun hHeld => ?_)
    refine wpAnyH_take (i := 0) (v := ?_) rfl (by kernel_rfl) (by kernel_rfl) (by kernel_rfl) (fun _ _ _ h => h) (Or.inl ⟨by rfl, ?_⟩) (by assumption) ?_
    rotate_left
    · intro w' hSw; (try dsimp only at hSw); go_simp; try with_reducible rfl
    try simp only [Act.put, List.getElem_toArray, List.getElem_cons_zero, List.getElem_cons_succ, List.setIfInBounds_toArray, List.set_cons_zero, List.set_cons_succ]
    refine wpAnyH_take (i := 1) (v := ?_) rfl (by kernel_rfl) (by kernel_rfl) (by kernel_rfl) (fun _ _ _ h => h) (Or.inl ⟨by rfl, ?_⟩) (by assumption) ?_
    rotate_left
    · intro w' hSw; (try dsimp only at hSw); go_simp; try with_reducible rfl
    try simp only [Act.put, List.getElem_toArray, List.getElem_cons_zero, List.getElem_cons_succ, List.setIfInBounds_toArray, List.set_cons_zero, List.set_cons_succ]
    refine wpAnyH_take (i := 3) (v := ?_) rfl (by kernel_rfl) (by kernel_rfl) (by kernel_rfl) (fun _ _ _ h => h) (Or.inl ⟨by rfl, ?_⟩) (by assumption) ?_
    rotate_left
    · intro w' hSw; (try dsimp only at hSw); go_simp; try with_reducible rfl
    try simp only [Act.put, List.getElem_toArray, List.getElem_cons_zero, List.getElem_cons_succ, List.setIfInBounds_toArray, List.set_cons_zero, List.set_cons_succ]
    refine wpAnyH_take (i := 4) (v := ?_) rfl (by kernel_rfl) (by kernel_rfl) (by kernel_rfl) (fun _ _ _ h => h) (Or.inl ⟨by rfl, ?_⟩) (by assumption) ?_
    rotate_left
    · intro w' hSw; (try dsimp only at hSw); go_simp; try with_reducible rfl
    try simp only [Act.put, List.getElem_toArray, List.getElem_cons_zero, List.getElem_cons_succ, List.setIfInBounds_toArray, List.set_cons_zero, List.set_cons_succ]
    refine wpAnyH_take (i := 5) (v := ?_) rfl (by kernel_rfl) (by kernel_rfl) (by kernel_rfl) (fun _ _ _ h => h) (Or.inl ⟨by rfl, ?_⟩) (by assumption) ?_
    rotate_left
    · intro w' hSw; (try dsimp only at hSw); go_simp; try with_reducible rfl
    try simp only [Act.put, List.getElem_toArray, List.getElem_cons_zero, List.getElem_cons_succ, List.setIfInBounds_toArray, List.set_cons_zero, List.set_cons_succ]
    refine wpAnyH_take (i := 6) (v := ?_) rfl (by kernel_rfl) (by kernel_rfl) (by kernel_rfl) (fun _ _ _ h => h) (Or.inl ⟨by rfl, ?_⟩) (by assumption) ?_
    rotate_left
    · intro w' hSw; (try dsimp only at hSw); go_simp; try with_reducible rfl
    try simp only [Act.put, List.getElem_toArray, List.getElem_cons_zero, List.getElem_cons_succ, List.setIfInBounds_toArray, List.set_cons_zero, List.set_cons_succ]
    refine wpAnyH_ready (rs := [2]) (by kernel_rfl) (by simp) ?_
    refine AllReadyH.cons rfl (fun K hK => ?_) AllReadyH.nil
    go_simp
    refine (HSame.out _ (by first | exact hHeld.1 | exact Fr.drew (Fr.refl _ _))).mono ?_
    rintro e w1 ⟨rfl, hf⟩
    have Hf := Lib.hid hf
    clear hf
    try go_simp
    refine hK.out _ _ ?_ (fun hHeld => ?_)
    · (try dsimp only); exact ⟨hHeld.1.trans Hf.out (fun _ _ h => h), (Hf.out.cell (World.block_lt_of_cell? _ _ hHeld.2.1) (fun h => h)).trans hHeld.2.1, (Hf.out.cell (World.block_lt_of_cell? _ _ hHeld.2.2.1) (fun h => h)).trans hHeld.2.2.1, (Hf.out.cell (World.block_lt_of_cell? _ _ hHeld.2.2.2) (fun h => h)).trans hHeld.2.2.2⟩
    clear hK K
    try simp only [Act.put, List.getElem_toArray, List.getElem_cons_zero, List.getElem_cons_succ, List.setIfInBounds_toArray, List.set_cons_zero, List.set_cons_succ]
    refine wpAnyH_take (i := 7) (v := ?_) rfl (by kernel_rfl) (by kernel_rfl) (by kernel_rfl) (fun _ _ _ h => h) (Or.inl ⟨by rfl, ?_⟩) (by assumption) ?_
    rotate_left
    · intro w' hSw; (try dsimp only at hSw); go_simp; try with_reducible rfl
    try simp only [Act.put, List.getElem_toArray, List.getElem_cons_zero, List.getElem_cons_succ, List.setIfInBounds_toArray, List.set_cons_zero, List.set_cons_succ]
    refine wpAnyH_take (i := 8) (v := ?_) rfl (by kernel_rfl) (by kernel_rfl) (by kernel_rfl) (fun _ _ _ h => h) (Or.inl ⟨by rfl, ?_⟩) (by assumption) ?_
    rotate_left
    · intro w' hSw; (try dsimp only at hSw); go_simp; try with_reducible rfl
    try simp only [Act.put, List.getElem_toArray, List.getElem_cons_zero, List.getElem_cons_succ, List.setIfInBounds_toArray, List.set_cons_zero, List.set_cons_succ]
    refine wpAnyH_done (by kernel_rfl) ?_ _
    go_wp2_with fail
    go_ret
    exact ⟨by first | rfl | simp, B, rfl, HP1.out.keep hHeld.1, (HW.out.trans hHeld.1 (fun _ _ h => h)).mono (fun _ _ h => h.elim)⟩
  · clear hd
    go_upto_region 24 with fail
    refine wp_region_held_drew (S := fun w' => Fr (fun _ => False) W w' ∧ w'.cell? ⟨w.heap.size, 2, none⟩ = some (.int .i64 I) ∧ w'.cell? ⟨rh, 0, none⟩ = some (.bool true) ∧ w'.cell? ⟨rh, 1, none⟩ = some (.slice a B.length c)) (by kernel_rfl) (by exact ⟨Fr.drew (Fr.refl _ _), o2, r0, r1⟩) (fun hHeld => ?_)
    refine wpAnyH_take (i := 0) (v := ?_) rfl (by kernel_rfl) (by kernel_rfl) (by kernel_rfl) (fun _ _ _ h => h) (Or.inl ⟨by rfl, ?_⟩) (by assumption) ?_
    rotate_left
    · intro w' hSw; (try dsimp only at hSw); go_simp; try with_reducible rfl
    try simp only [Act.put, List.getElem_toArray, List.getElem_cons_zero, List.getElem_cons_succ, List.setIfInBounds_toArray, List.set_cons_zero, List.set_cons_succ]
    refine wpAnyH_take (i := 3) (v := ?_) rfl (by kernel_rfl) (by kernel_rfl) (by kernel_rfl) (fun _ _ _ h => h) (Or.inl ⟨by rfl, ?_⟩) (by assumption) ?_
    rotate_left
    · intro w' hSw; (try dsimp only at hSw); go_simp; try with_reducible rfl
    try simp only [Act.put, List.getElem_toArray, List.getElem_cons_zero, List.getElem_cons_succ, List.setIfInBounds_toArray, List.set_cons_zero, List.set_cons_succ]
    refine wpAnyH_take (i := 4) (v := ?_) rfl (by kernel_rfl) (by kernel_rfl) (by kernel_rfl) (fun _ _ _ h => h) (Or.inl ⟨by rfl, ?_⟩) (by assumption) ?_
    rotate_left
    · intro w' hSw; (try dsimp only at hSw); go_simp; try with_reducible rfl
    try simp only [Act.put, List.getElem_toArray, List.getElem_cons_zero, List.getElem_cons_succ, List.setIfInBounds_toArray, List.set_cons_zero, List.set_cons_succ]
    refine wpAnyH_take (i := 5) (v := ?_) rfl (by kernel_rfl) (by kernel_rfl) (by kernel_rfl) (fun _ _ _ h => h) (Or.inl ⟨by rfl, ?_⟩) (by assumption) ?_
    rotate_left
    · intro w' hSw; (try dsimp only at hSw); go_simp; try with_reducible rfl
    try simp only [Act.put, List.getElem_toArray, List.getElem_cons_zero, List.getElem_cons_succ, List.setIfInBounds_toArray, List.set_cons_zero, List.set_cons_succ]
    refine wpAnyH_take (i := 6) (v := ?_) rfl (by kernel_rfl) (by kernel_rfl) (by kernel_rfl) (fun _ _ _ h => h) (Or.inl ⟨by rfl, ?_⟩) (by assumption) ?_
    rotate_left
    · intro w' hSw; (try dsimp only at hSw); go_simp; try with_reducible rfl
    try simp only [Act.put, List.getElem_toArray, List.getElem_cons_zero, List.getElem_cons_succ, List.setIfInBounds_toArray, List.set_cons_zero, List.set_cons_succ]
    refine wpAnyH_ready (rs := [1]) (by kernel_rfl) (by simp) ?_
    refine AllReadyH.cons rfl (fun K hK => ?_) AllReadyH.nil
    go_simp
    refine (HCopy.out _ (by first | exact hHeld.1 | exact Fr.drew (Fr.refl _ _))).mono ?_
    rintro e w1 ⟨b2, rfl, hf⟩
    have Hf := Lib.hid hf
    clear hf
    try go_simp
    refine hK.out _ _ ?_ (fun hHeld => ?_)
    · (try dsimp only); exact ⟨hHeld.1.trans Hf.out (fun _ _ h => h), (Hf.out.cell (World.block_lt_of_cell? _ _ hHeld.2.1) (fun h => h)).trans hHeld.2.1, (Hf.out.cell (World.block_lt_of_cell? _ _ hHeld.2.2.1) (fun h => h)).trans hHeld.2.2.1, (Hf.out.cell (World.block_lt_of_cell? _ _ hHeld.2.2.2) (fun h => h)).trans hHeld.2.2.2⟩
    clear hK K
    try simp only [Act.put, List.getElem_toArray, List.getElem_cons_zero, List.getElem_cons_succ, List.setIfInBounds_toArray, List.set_cons_zero, List.set_cons_succ]
    refine wpAnyH_take (i := 2) (v := ?_) rfl (by kernel_rfl) (by kernel_rfl) (by kernel_rfl) (fun _ _ _ h => h) (Or.inl ⟨by rfl, ?_⟩) (by assumption) ?_
    rotate_left
    · intro w' hSw; (try dsimp only at hSw); go_simp; try with_reducible rfl
    try simp only [Act.put, List.getElem_toArray, List.getElem_cons_zero, List.getElem_cons_succ, List.setIfInBounds_toArray, List.set_cons_zero, List.set_cons_succ]
    refine wpAnyH_take (i := 7) (v := ?_) rfl (by kernel_rfl) (by kernel_rfl) (by kernel_rfl) (fun _ _ _ h => h) (Or.inl ⟨by rfl, ?_⟩) (by assumption) ?_
    rotate_left
    · intro w' hSw; (try dsimp only at hSw); go_simp; try with_reducible rfl
    try simp only [Act.put, List.getElem_toArray, List.getElem_cons_zero, List.getElem_cons_succ, List.setIfInBounds_toArray, List.set_cons_zero, List.set_cons_succ]
    refine wpAnyH_take (i := 8) (v := ?_) rfl (by kernel_rfl) (by kernel_rfl) (by kernel_rfl) (fun _ _ _ h => h) (Or.inl ⟨by rfl, ?_⟩) (by assumption) ?_
    rotate_left
    · intro w' hSw; (try dsimp only at hSw); go_simp; try with_reducible rfl
    try simp only [Act.put, List.getElem_toArray, List.getElem_cons_zero, List.getElem_cons_succ, List.setIfInBounds_toArray, List.set_cons_zero, List.set_cons_succ]
    refine wpAnyH_done (by kernel_rfl) ?_ _
    go_wp2_with fail
    go_ret
    exact ⟨by first | rfl | simp, B, rfl, HP1.out.keep hHeld.1, (HW.out.trans hHeld.1 (fun _ _ h => h)).mono (fun _ _ h => h.elim)⟩
end Go.Proofs.YtbfkmogibgchmaaDoor.Bt
