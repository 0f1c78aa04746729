/- Put, Drop; and that sets are awake. Condition: the table of math/bits. -/
import Derived.Test.YticcjnfninhjlaaDoorBitO
namespace Go.Proofs.YticcjnfninhjlaaDoor.Bt
open Go.RowKit
set_option maxRecDepth 100000 in
theorem put_in {w : World} {bh : Nat} {v : Value} {B : List Bool} (h : SetAt w bh v B) (hne : v.ownBlock ≠ some bh) {j : Nat} (h1 : j < B.length) : Calls Tryd.prog 10 #[.pointer (some ⟨bh, 0, none⟩), .int .i64 j] w fun e w' => e = .returned (.int .i64 0) ∧ SetAt w' bh v (B.set j true) ∧ Fr (fun b => v.ownBlock = some b) w w' := by
  have HC := Lib.hid (change_true h hne h1)
  clear h hne h1
  go_enter Tryd.func10, Tryd.ntmps10
  go_wp2_with fail
  refine HC.out.mono ?_
  rintro e w1 ⟨rfl, h2, f2⟩
  go_wp2_with fail
  go_ret
  exact ⟨rfl, h2, f2⟩
set_option maxRecDepth 100000 in
theorem put_out {w : World} {bh : Nat} {v : Value} {B : List Bool} (h : SetAt w bh v B) {i : Int} (hi : i < 0 ∨ (B.length : Int) ≤ i) : Calls Tryd.prog 10 #[.pointer (some ⟨bh, 0, none⟩), .int .i64 i] w fun e w' => e = .returned (.int .i64 2) ∧ w = w' := by
  have HC := Lib.hid (change_arg h hi true)
  clear h hi
  go_enter Tryd.func10, Tryd.ntmps10
  go_wp2_with fail
  refine HC.out.mono ?_
  rintro e w1 ⟨rfl, rfl⟩
  go_wp2_with fail
  go_ret
  exact ⟨rfl, rfl⟩
set_option maxRecDepth 100000 in
theorem put_no {w : World} {p : Option Addr} (h : NoSet w p) (i : Int) : Calls Tryd.prog 10 #[.pointer p, .int .i64 i] w fun e w' => e = .returned (.int .i64 1) ∧ w = w' := by
  have HC := Lib.hid (change_no h i true)
  clear h
  go_enter Tryd.func10, Tryd.ntmps10
  go_wp2_with fail
  refine HC.out.mono ?_
  rintro e w1 ⟨rfl, rfl⟩
  go_wp2_with fail
  go_ret
  exact ⟨rfl, rfl⟩
theorem NewSet.step {w w1 w2 : World} {bh : Nat} {v : Value} {B C : List Bool} (h : NewSet w w1 bh v B) (s : SetAt w2 bh v C) (f : Fr (fun b => v.ownBlock = some b) w1 w2) : NewSet w w2 bh v C :=
  ⟨s, h.new, h.newv, ((h.fr.mono (G := fun b => w.heap.size ≤ b) (fun _ _ h => h.elim)).trans f (fun b _ e => (h.newv b e).1)).toNew⟩
theorem NewSet.keep {w w1 w2 : World} {bh : Nat} {v : Value} {B : List Bool} (h : NewSet w w1 bh v B) (f : Fr (fun _ => False) w1 w2) : NewSet w w2 bh v B :=
  ⟨h.at_.fr f (fun h => h) (fun _ _ h => h), h.new, h.newv, h.fr.trans f (fun _ _ h => h)⟩
theorem NewSet.ne {w w1 : World} {bh : Nat} {v : Value} {B : List Bool} (h : NewSet w w1 bh v B) : v.ownBlock ≠ some bh := fun e => (h.newv bh e).2 rfl
def aB : List Bool := ((List.replicate 10 false).set 3 true).set 9 true
theorem aB1 : cnt aB = 2 := by decide
theorem aB2 : seekI true aB 4 = 9 := by decide
theorem aB3 : seekI false aB 3 = 4 := by decide
theorem aB4 : bytes aB = [8, 2] := by decide
theorem aB5 : flatG (gapsL aB) = [0, 3, 4, 5] := by decide
theorem aB6 : aB.length = 10 := by decide
theorem u8_row (w : World) (L : List Nat) (h : L.length ≤ 1000) : Row (w.alloc (.cells (L.map u8v).toArray 5)) 5 1 (.slice (some ⟨w.heap.size, 0, none⟩) L.length L.length) L.length (L.map u8v) := by
  refine ⟨by simp, .inr ⟨w.heap.size, L.length, (L.map u8v).toArray, rfl, Nat.zero_le _, ?_, Nat.le_refl _, by unfold maxLen; omega, by simp, by rw [Nat.mul_one]; exact List.take_of_length_le (by simp)⟩⟩
  rw [heap_alloc_get]; simp
theorem i64_row (w : World) (L : List Int) (h : L.length ≤ 1000) : Row (w.alloc (.cells (L.map i64v).toArray 3)) 3 1 (.slice (some ⟨w.heap.size, 0, none⟩) L.length L.length) L.length (L.map i64v) := by
  refine ⟨by simp, .inr ⟨w.heap.size, L.length, (L.map i64v).toArray, rfl, Nat.zero_le _, ?_, Nat.le_refl _, by unfold maxLen; omega, by simp, by rw [Nat.mul_one]; exact List.take_of_length_le (by simp)⟩⟩
  rw [heap_alloc_get]; simp
set_option maxRecDepth 100000 in
set_option maxHeartbeats 4000000 in
theorem awake_ok {w : World} (hT : TabOk w) : Calls Tryd.prog 8 #[] w fun e w' => e = .returned (.bool true) ∧ Fr (fun _ => False) w w' := by
  have HT := Lib.hid hT
  clear hT
  go_enter Tryd.func8, Tryd.ntmps8
  go_wp2_with fail
  refine (new_ok w (n := 10) (by omega) (by omega)).mono ?_
  rintro e w1 ⟨bh, v, rfl, s1, n1, n2, f1⟩
  have N1 := Lib.hid (NewSet.mk (w := w) s1 n1 n2 f1)
  clear s1 n1 n2 f1
  go_wp2_with fail
  refine (put_in N1.out.at_ N1.out.ne (j := 3) (by simp)).mono ?_
  rintro e w2 ⟨rfl, s2, f2⟩
  have N2 := Lib.hid (N1.out.step s2 f2)
  clear s2 f2
  go_wp2_with fail
  refine (put_in N2.out.at_ N2.out.ne (j := 9) (by simp)).mono ?_
  rintro e w3 ⟨rfl, s3, f3⟩
  have N3 := Lib.hid (show NewSet w w3 bh v aB from N2.out.step s3 f3)
  clear s3 f3
  go_wp2_with fail
  refine (put_out N3.out.at_ (i := 10) (by right; rw [aB6]; decide)).mono ?_
  rintro e w4 ⟨rfl, rfl⟩
  go_wp2_with fail
  refine (gaps_ok (HT.out.fr N3.out.fr (fun h => h)) N3.out.at_).mono ?_
  rintro e w5 ⟨cb, bh', v', rfl, hseq⟩
  have N5 := Lib.hid (N3.out.keep hseq.fr)
  have Hseq := Lib.hid hseq
  clear hseq
  go_wp2_with fail
  refine (pairs_ok Hseq.out.seq).mono ?_
  rintro e w6 ⟨sv, rfl, r6, o6, f6⟩
  rw [aB5] at r6
  have N6 := Lib.hid (N5.out.keep f6)
  have R6 := Lib.hid r6
  clear r6 o6 f6
  go_wp2_with fail
  refine (count_ok N6.out.at_).mono ?_
  rintro e w7 ⟨rfl, rfl⟩
  rw [aB1]
  go_wp2_with fail
  refine (next_ok (HT.out.fr N6.out.fr (fun h => h)) N6.out.at_ 4).mono ?_
  rintro e w7 ⟨rfl, rfl⟩
  rw [aB2]
  go_wp2_with fail
  refine (free_ok (HT.out.fr N6.out.fr (fun h => h)) N6.out.at_ 3).mono ?_
  rintro e w7 ⟨rfl, rfl⟩
  rw [aB3]
  go_wp2_with fail
  refine (bytes_ok N6.out.at_).mono ?_
  rintro e w8 ⟨a8, c8, rfl, r8, o8, f8⟩
  rw [aB4] at r8
  have N8 := Lib.hid (N6.out.keep f8)
  have R8 := Lib.hid r8
  have R6' := Lib.hid (Row.fr R6.out f8 (fun _ _ h => h))
  clear r8 o8 f8
  go_wp2_with fail
  have fa : Fr (fun _ => False) w8 (w8.alloc (.cells #[.int .u8 8, .int .u8 2] 5)) := Fr.alloc (Fr.refl _ _) _
  have ra := u8_row w8 [8, 2] (by simp)
  refine (sameBytes_ok (Row.fr R8.out fa (fun _ _ h => h)) ra (by decide) (by decide)).mono ?_
  rintro e w9 ⟨rfl, f9⟩
  have F9 := Lib.hid (fa.trans f9 (fun _ _ h => h))
  clear f9 fa ra
  simp only [decide_true]
  go_wp2_with fail
  have fb : Fr (fun _ => False) w9 (w9.alloc (.cells #[.int .i64 0, .int .i64 3, .int .i64 4, .int .i64 5] 3)) := Fr.alloc (Fr.refl _ _) _
  have rb := i64_row w9 [0, 3, 4, 5] (by simp)
  refine (sameInts_ok (Row.fr R6'.out (F9.out.trans fb (fun _ _ h => h)) (fun _ _ h => h)) rb (by decide) (by decide)).mono ?_
  rintro e w10 ⟨rfl, f10⟩
  have F10 := Lib.hid (fb.trans f10 (fun _ _ h => h))
  clear f10 fb rb
  simp only [decide_true]
  go_wp2_with fail
  go_ret
  exact ⟨rfl, (N8.out.fr.trans F9.out (fun _ _ h => h)).trans F10.out (fun _ _ h => h)⟩
end Go.Proofs.YticcjnfninhjlaaDoor.Bt
