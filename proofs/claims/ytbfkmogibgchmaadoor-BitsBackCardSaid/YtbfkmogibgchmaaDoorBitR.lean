/- The document's set in memory: New, Count, Has, Next, Free, Put, Drop. No condition. -/
import Derived.Test.YtbfkmogibgchmaaDoorBitP
namespace Go.Proofs.YtbfkmogibgchmaaDoor.Bt
open Go.RowKit
structure RefAt (w : World) (rh : Nat) (v : Value) (th : Bool) (B : List Bool) : Prop where
  head : w.heap[rh]? = some (.cells #[.bool th, v] 59 (0, 0))
  row : Row w 4 1 v B.length (B.map Value.bool)
  small : B.length ≤ 65536
theorem RefAt.lt {w : World} {rh : Nat} {v : Value} {th : Bool} {B : List Bool} (h : RefAt w rh v th B) : rh < w.heap.size := World.block_lt_of_cell? _ _ ((cell_of h.head 0).trans (show _ = some (Value.bool th) from rfl))
theorem RefAt.fr {w w' : World} {rh : Nat} {v : Value} {th : Bool} {B : List Bool} (h : RefAt w rh v th B) {F : Nat → Prop} (f : Fr F w w') (h1 : ¬ F rh) (h2 : ∀ b, v.ownBlock = some b → ¬ F b) : RefAt w' rh v th B := ⟨f.get h.head h1, Row.fr h.row f h2, h.small⟩
theorem RefAt.c0 {w : World} {rh : Nat} {v : Value} {th : Bool} {B : List Bool} (h : RefAt w rh v th B) : w.cell? ⟨rh, 0, none⟩ = some (.bool th) := (cell_of h.head 0).trans rfl
theorem RefAt.c1 {w : World} {rh : Nat} {v : Value} {th : Bool} {B : List Bool} (h : RefAt w rh v th B) : w.cell? ⟨rh, 1, none⟩ = some v := (cell_of h.head 1).trans rfl
theorem RefAt.shape {w : World} {rh : Nat} {v : Value} {th : Bool} {B : List Bool} (h : RefAt w rh v th B) : ∃ a c, v = .slice a B.length c := by
  obtain ⟨a, c, e, _⟩ := row_cell h.row
  exact ⟨a, c, e⟩
theorem RefAt.bit {w : World} {rh : Nat} {a : Option Addr} {n c : Nat} {th : Bool} {B : List Bool} (h : RefAt w rh (.slice a n c) th B) {i : Nat} (hi : i < B.length) : ∃ g, a = some ⟨g, 0, none⟩ ∧ w.cell? ⟨g, i, none⟩ = some (.bool (B.getD i false)) := by
  obtain ⟨a', c', e, hc⟩ := row_cell h.row
  obtain ⟨rfl, -, -⟩ := Value.slice.inj e
  obtain ⟨g, e2, e3⟩ := hc i hi
  refine ⟨g, e2, ?_⟩
  rw [e3, List.getElem?_map, List.getElem?_eq_getElem hi, List.getD_eq_getElem?_getD, List.getElem?_eq_getElem hi]; rfl
theorem RefAt.store {w : World} {rh : Nat} {g n c : Nat} {th : Bool} {B : List Bool} (h : RefAt w rh (.slice (some ⟨g, 0, none⟩) n c) th B) (hne : g ≠ rh) {i : Nat} (hi : i < B.length) (b : Bool) :
    w.frozen? ⟨g, i, none⟩ = false ∧ RefAt (w.setCell ⟨g, i, none⟩ (.bool b)) rh (.slice (some ⟨g, 0, none⟩) n c) th (B.set i b) := by
  obtain ⟨a', c', e, _⟩ := row_cell h.row
  obtain ⟨-, e2, -⟩ := Value.slice.inj e
  subst e2
  obtain ⟨g', e3, k1, k2, k3⟩ := row_set h.row hi
  obtain rfl : g = g' := by simpa using e3
  refine ⟨k2, ?_, ?_, by simpa using h.small⟩
  · rw [setCell_blk_ne (by exact fun e => hne e.symm)]; exact h.head
  · have := k3 (.bool b)
    rw [List.length_set, List.map_set]; exact this
theorem cnt_take (B : List Bool) {i : Nat} (hi : i < B.length) : cnt (B.take (i + 1)) = cnt (B.take i) + if B.getD i false = true then 1 else 0 := by
  unfold cnt
  rw [List.take_add_one, List.getElem?_eq_getElem hi, List.filter_append, List.length_append, List.getD_eq_getElem?_getD, List.getElem?_eq_getElem hi]
  congr 1
  cases h : B[i] <;> simp [h]
theorem cnt_le (B : List Bool) : cnt B ≤ B.length := List.length_filter_le _ _
section
variable {w : World} {rh : Nat} {v : Value} {th : Bool} {B : List Bool}
set_option maxRecDepth 100000 in
theorem rcount_ok (h : RefAt w rh v th B) : Calls Tryd.prog 50 #[.pointer (some ⟨rh, 0, none⟩)] w fun e w' => e = .returned (.int .i64 (cnt B)) ∧ w = w' := by
  have c1 := h.c1
  obtain ⟨a, c, rfl⟩ := h.shape
  have hsm : (B.length : Int) ≤ 65536 := by have := h.small; omega
  have H := Lib.hid h
  clear h
  go_enter Tryd.func50, Tryd.ntmps50
  go_upto_block 0 with fail
  go_cut [3, 4] (fun s3 _ wx => s3 = .int .i64 (cnt B) ∧ w = wx)
  case first =>
    go_wp2_with fail
    go_loopw [3, 4] (fun s3 s4 wr => ∃ i : Nat, i ≤ B.length ∧ s4 = .int .i64 i ∧ s3 = .int .i64 (cnt (B.take i)) ∧ w = wr) (fun _ s4 _ => B.length - (intOf s4).toNat)
    case atStart => exact ⟨0, Nat.zero_le _, rfl, rfl, rfl⟩
    case round =>
      obtain ⟨i, hi, rfl, rfl, rfl⟩ := hrel
      by_cases hlt : i < B.length
      · have hlt' : (i : Int) < (B.length : Int) := by omega
        obtain ⟨g, rfl, kb⟩ := H.out.bit hlt
        have ht := cnt_take B hlt
        have hle := cnt_le (B.take i)
        rw [List.length_take] at hle
        obtain ⟨q, hq⟩ : ∃ q, q = cnt (B.take i) := ⟨_, rfl⟩
        rw [← hq] at ht hle ⊢
        have hq5 : (q : Int) ≤ 65536 := by omega
        have Hlt := Lib.hid hlt
        cases hb : B.getD i false with
        | true =>
          rw [hb] at kb ht
          rw [if_pos rfl] at ht
          have Ht := Lib.hid ht
          clear hq ht hlt hle hb
          go_wp2_with fail
          go_roundw
          case rel => exact ⟨i + 1, Hlt.out, by first | (simp; done) | go_num, by rw [Ht.out]; first | (simp; done) | go_num, trivial⟩
          case measure => have := Hlt.out; simp [intOf]; omega
        | false =>
          rw [hb] at kb ht
          rw [if_neg (by decide)] at ht
          have Ht := Lib.hid ht
          clear hq ht hlt hle hb
          go_wp2_with fail
          go_roundw
          case rel => exact ⟨i + 1, Hlt.out, by first | (simp; done) | go_num, by rw [Ht.out]; rfl, trivial⟩
          case measure => have := Hlt.out; simp [intOf]; omega
      · obtain rfl : i = B.length := by omega
        clear hlt
        go_wp2_with fail
        go_meet
        exact ⟨by rw [List.take_of_length_le (Nat.le_refl _)], rfl⟩
  case rest =>
  obtain ⟨rfl, rfl⟩ := hcut
  go_wp2_with fail
  go_ret
  exact ⟨rfl, rfl⟩
set_option maxRecDepth 100000 in
theorem rhas_ok (h : RefAt w rh v th B) (i : Int) : Calls Tryd.prog 56 #[.pointer (some ⟨rh, 0, none⟩), .int .i64 i] w fun e w' => e = .returned (.bool (decide (0 ≤ i) && B.getD i.toNat false)) ∧ w = w' := by
  have c1 := h.c1
  obtain ⟨a, c, rfl⟩ := h.shape
  by_cases h0 : 0 ≤ i
  · obtain ⟨j, rfl⟩ : ∃ j : Nat, i = (j : Int) := ⟨i.toNat, by omega⟩
    by_cases h1 : j < B.length
    · have b1 : (j : Int) < (B.length : Int) := by omega
      obtain ⟨g, rfl, kb⟩ := h.bit h1
      rw [Int.toNat_natCast]
      generalize B.getD j false = q at kb
      clear h h0 h1
      go_enter Tryd.func56, Tryd.ntmps56
      go_wp2_with fail
      go_ret
      exact ⟨by simp, rfl⟩
    · have b1 : decide ((j : Int) < (B.length : Int)) = false := by simpa using h1
      have hg : B.getD j false = false := by rw [List.getD_eq_getElem?_getD, List.getElem?_eq_none (by omega)]; rfl
      clear h h0
      go_enter Tryd.func56, Tryd.ntmps56
      go_wp2_with fail
      go_ret
      exact ⟨by rw [Int.toNat_natCast, hg]; simp, rfl⟩
  · have b1 : decide (0 ≤ i) = false := by simpa using h0
    clear h
    go_enter Tryd.func56, Tryd.ntmps56
    go_wp2_with fail
    go_ret
    exact ⟨by first | rfl | (rw [b1]; rfl), rfl⟩
set_option maxRecDepth 100000 in
theorem rseek_ok (h : RefAt w rh v th B) (b : Bool) (i : Int) : Calls Tryd.prog 83 #[.pointer (some ⟨rh, 0, none⟩), .int .i64 i, .bool b] w fun e w' => e = .returned (.int .i64 (seekI b B i)) ∧ w = w' := by
  have c1 := h.c1
  obtain ⟨a, c, rfl⟩ := h.shape
  have hsm : (B.length : Int) ≤ 65536 := by have := h.small; omega
  have H := Lib.hid h
  obtain ⟨m, hm⟩ : ∃ m, m = i.toNat := ⟨_, rfl⟩
  have Hm := Lib.hid hm
  clear h hm
  go_enter Tryd.func83, Tryd.ntmps83
  go_upto_region 1 with fail
  go_cut [7] (fun s7 wx => s7 = .int .i64 m ∧ w = wx)
  case first =>
    go_wp2_with fail
    all_goals go_meet
    all_goals refine ⟨?_, rfl⟩
    all_goals have := Hm.out
    all_goals congr 1
    all_goals omega
  case rest =>
  obtain ⟨rfl, rfl⟩ := hcut
  go_upto_block 0 with fail
  go_cut [7] (fun _ wx => seekO b B m = none ∧ w = wx)
  case first =>
    go_wp2_with fail
    go_loopw [7] (fun s7 wr => ∃ k : Nat, s7 = .int .i64 k ∧ m ≤ k ∧ (∀ j, m ≤ j → j < k → B.getD j false ≠ b) ∧ w = wr) (fun s7 _ => B.length - (intOf s7).toNat)
    case atStart => exact ⟨m, rfl, Nat.le_refl _, fun j h1 h2 => by omega, rfl⟩
    case round =>
      obtain ⟨k, rfl, hk, hno, rfl⟩ := hrel
      have Hno := Lib.hid hno; have Hk := Lib.hid hk
      clear hno hk
      by_cases hlt : k < B.length
      · have hlt' : (k : Int) < (B.length : Int) := by omega
        obtain ⟨g, rfl, kb⟩ := H.out.bit hlt
        have Hlt := Lib.hid hlt
        by_cases hb : B.getD k false = b
        · have hs := seekI_some (b := b) (B := B) (i := i) (by rw [← Hm.out]; exact seekO_is Hk.out hlt hb Hno.out)
          have Hs := Lib.hid hs
          have b0 : (B.getD k false == b) = true := by rw [hb]; simp
          generalize B.getD k false = q at kb b0
          clear hs hb hlt
          go_wp2_with fail
          go_ret
          exact ⟨by rw [Hs.out]; rfl, rfl⟩
        · have Hb := Lib.hid hb
          have b0 : (B.getD k false == b) = false := by simpa using hb
          generalize hq : B.getD k false = q at kb b0
          have Hq := Lib.hid hq
          clear hb hlt hq
          go_wp2_with fail
          go_roundw
          case rel =>
            refine ⟨k + 1, by first | (simp; done) | go_num, by have := Hk.out; omega, ?_, trivial⟩
            intro j h1 h2
            by_cases e : j = k
            · subst e; exact Hb.out
            · exact Hno.out j h1 (by omega)
          case measure => have := Hlt.out; simp [intOf]; omega
      · have hlt' : ¬ (k : Int) < (B.length : Int) := by omega
        have Hlt := Lib.hid hlt
        clear hlt
        go_wp2_with fail
        go_meet
        exact ⟨seekO_not (fun j h1 h2 => Hno.out j h1 (by have := Hlt.out; omega)), rfl⟩
  case rest =>
  obtain ⟨hs, rfl⟩ := hcut
  go_wp2_with fail
  go_ret
  exact ⟨by rw [seekI_none (by rw [← Hm.out]; exact hs)]; rfl, rfl⟩
set_option maxRecDepth 100000 in
theorem rnext_ok (h : RefAt w rh v th B) (i : Int) : Calls Tryd.prog 57 #[.pointer (some ⟨rh, 0, none⟩), .int .i64 i] w fun e w' => e = .returned (.int .i64 (seekI true B i)) ∧ w = w' := by
  have HC := Lib.hid (rseek_ok h true i)
  clear h
  go_enter Tryd.func57, Tryd.ntmps57
  go_wp2_with fail
  refine HC.out.mono ?_
  rintro e w1 ⟨rfl, rfl⟩
  go_wp2_with fail
  go_ret
  exact ⟨rfl, rfl⟩
set_option maxRecDepth 100000 in
theorem rfree_ok (h : RefAt w rh v th B) (i : Int) : Calls Tryd.prog 58 #[.pointer (some ⟨rh, 0, none⟩), .int .i64 i] w fun e w' => e = .returned (.int .i64 (seekI false B i)) ∧ w = w' := by
  have HC := Lib.hid (rseek_ok h false i)
  clear h
  go_enter Tryd.func58, Tryd.ntmps58
  go_wp2_with fail
  refine HC.out.mono ?_
  rintro e w1 ⟨rfl, rfl⟩
  go_wp2_with fail
  go_ret
  exact ⟨rfl, rfl⟩
set_option maxRecDepth 100000 in
theorem rset_in (h : RefAt w rh v true B) (hne : v.ownBlock ≠ some rh) {j : Nat} (h1 : j < B.length) (b : Bool) : Calls Tryd.prog 82 #[.pointer (some ⟨rh, 0, none⟩), .int .i64 j, .bool b] w fun e w' => e = .returned (.int .i64 0) ∧ RefAt w' rh v true (B.set j b) ∧ Fr (fun b => v.ownBlock = some b) w w' := by
  have c0 := h.c0; have c1 := h.c1
  obtain ⟨a, c, rfl⟩ := h.shape
  have b1 : decide ((B.length : Int) ≤ (j : Int)) = false := by simpa using h1
  have b1' : decide (B.length ≤ j) = false := by simpa using h1
  have b2 : (j : Int) < (B.length : Int) := by omega
  obtain ⟨g, rfl, kb⟩ := h.bit h1
  obtain ⟨kf, hst⟩ := h.store (fun e => hne (by rw [← e]; rfl)) h1 b
  have Hst := Lib.hid hst
  clear h h1 hst hne
  go_enter Tryd.func82, Tryd.ntmps82
  go_wp2_with fail
  go_ret
  exact ⟨rfl, Hst.out, Fr.setCell (F := fun b => Value.ownBlock (.slice (some ⟨g, 0, none⟩) B.length c) = some b) (p := ⟨g, j, none⟩) (Fr.refl _ _) (fun _ => rfl) _⟩
set_option maxRecDepth 100000 in
theorem rset_out (h : RefAt w rh v true B) {i : Int} (hi : i < 0 ∨ (B.length : Int) ≤ i) (b : Bool) : Calls Tryd.prog 82 #[.pointer (some ⟨rh, 0, none⟩), .int .i64 i, .bool b] w fun e w' => e = .returned (.int .i64 2) ∧ w = w' := by
  have c0 := h.c0; have c1 := h.c1
  obtain ⟨a, c, rfl⟩ := h.shape
  by_cases h0 : i < 0
  · have b0 : decide (i < 0) = true := by simpa using h0
    clear hi h
    go_enter Tryd.func82, Tryd.ntmps82
    go_wp2_with fail
    go_ret
    exact ⟨rfl, rfl⟩
  · have b0 : decide (i < 0) = false := by simpa using h0
    have b1 : decide ((B.length : Int) ≤ i) = true := by simp; omega
    clear hi h0 h
    go_enter Tryd.func82, Tryd.ntmps82
    go_wp2_with fail
    go_ret
    exact ⟨rfl, rfl⟩
set_option maxRecDepth 100000 in
theorem rset_no (h : RefAt w rh v false B) (i : Int) (b : Bool) : Calls Tryd.prog 82 #[.pointer (some ⟨rh, 0, none⟩), .int .i64 i, .bool b] w fun e w' => e = .returned (.int .i64 1) ∧ w = w' := by
  have c0 := h.c0
  clear h
  go_enter Tryd.func82, Tryd.ntmps82
  go_wp2_with fail
  go_ret
  exact ⟨rfl, rfl⟩
set_option maxRecDepth 100000 in
theorem rput_in (h : RefAt w rh v true B) (hne : v.ownBlock ≠ some rh) {j : Nat} (h1 : j < B.length) : Calls Tryd.prog 54 #[.pointer (some ⟨rh, 0, none⟩), .int .i64 j] w fun e w' => e = .returned (.int .i64 0) ∧ RefAt w' rh v true (B.set j true) ∧ Fr (fun b => v.ownBlock = some b) w w' := by
  have HC := Lib.hid (rset_in h hne h1 true)
  clear h hne h1
  go_enter Tryd.func54, Tryd.ntmps54
  go_wp2_with fail
  refine HC.out.mono ?_
  rintro e w1 ⟨rfl, h2, f2⟩
  go_wp2_with fail
  go_ret
  exact ⟨rfl, h2, f2⟩
set_option maxRecDepth 100000 in
theorem rput_out (h : RefAt w rh v true B) {i : Int} (hi : i < 0 ∨ (B.length : Int) ≤ i) : Calls Tryd.prog 54 #[.pointer (some ⟨rh, 0, none⟩), .int .i64 i] w fun e w' => e = .returned (.int .i64 2) ∧ w = w' := by
  have HC := Lib.hid (rset_out h hi true)
  clear h hi
  go_enter Tryd.func54, Tryd.ntmps54
  go_wp2_with fail
  refine HC.out.mono ?_
  rintro e w1 ⟨rfl, rfl⟩
  go_wp2_with fail
  go_ret
  exact ⟨rfl, rfl⟩
set_option maxRecDepth 100000 in
theorem rput_no (h : RefAt w rh v false B) (i : Int) : Calls Tryd.prog 54 #[.pointer (some ⟨rh, 0, none⟩), .int .i64 i] w fun e w' => e = .returned (.int .i64 1) ∧ w = w' := by
  have HC := Lib.hid (rset_no h i true)
  clear h
  go_enter Tryd.func54, Tryd.ntmps54
  go_wp2_with fail
  refine HC.out.mono ?_
  rintro e w1 ⟨rfl, rfl⟩
  go_wp2_with fail
  go_ret
  exact ⟨rfl, rfl⟩
set_option maxRecDepth 100000 in
theorem rdrop_in (h : RefAt w rh v true B) (hne : v.ownBlock ≠ some rh) {j : Nat} (h1 : j < B.length) : Calls Tryd.prog 55 #[.pointer (some ⟨rh, 0, none⟩), .int .i64 j] w fun e w' => e = .returned (.int .i64 0) ∧ RefAt w' rh v true (B.set j false) ∧ Fr (fun b => v.ownBlock = some b) w w' := by
  have HC := Lib.hid (rset_in h hne h1 false)
  clear h hne h1
  go_enter Tryd.func55, Tryd.ntmps55
  go_wp2_with fail
  refine HC.out.mono ?_
  rintro e w1 ⟨rfl, h2, f2⟩
  go_wp2_with fail
  go_ret
  exact ⟨rfl, h2, f2⟩
set_option maxRecDepth 100000 in
theorem rdrop_out (h : RefAt w rh v true B) {i : Int} (hi : i < 0 ∨ (B.length : Int) ≤ i) : Calls Tryd.prog 55 #[.pointer (some ⟨rh, 0, none⟩), .int .i64 i] w fun e w' => e = .returned (.int .i64 2) ∧ w = w' := by
  have HC := Lib.hid (rset_out h hi false)
  clear h hi
  go_enter Tryd.func55, Tryd.ntmps55
  go_wp2_with fail
  refine HC.out.mono ?_
  rintro e w1 ⟨rfl, rfl⟩
  go_wp2_with fail
  go_ret
  exact ⟨rfl, rfl⟩
set_option maxRecDepth 100000 in
theorem rdrop_no (h : RefAt w rh v false B) (i : Int) : Calls Tryd.prog 55 #[.pointer (some ⟨rh, 0, none⟩), .int .i64 i] w fun e w' => e = .returned (.int .i64 1) ∧ w = w' := by
  have HC := Lib.hid (rset_no h i false)
  clear h
  go_enter Tryd.func55, Tryd.ntmps55
  go_wp2_with fail
  refine HC.out.mono ?_
  rintro e w1 ⟨rfl, rfl⟩
  go_wp2_with fail
  go_ret
  exact ⟨rfl, rfl⟩
end
/-- A set of a call's own. -/
structure NewRef (w w' : World) (rh : Nat) (v : Value) (th : Bool) (B : List Bool) : Prop where
  at_ : RefAt w' rh v th B
  new : w.heap.size ≤ rh
  newv : ∀ b, v.ownBlock = some b → w.heap.size ≤ b ∧ b ≠ rh
  fr : Fr (fun _ => False) w w'
theorem NewRef.step {w w1 w2 : World} {rh : Nat} {v : Value} {th : Bool} {B C : List Bool} (h : NewRef w w1 rh v th B) (s : RefAt w2 rh v th C) (f : Fr (fun b => v.ownBlock = some b) w1 w2) : NewRef w w2 rh v th C :=
  ⟨s, h.new, h.newv, ((h.fr.mono (G := fun b => w.heap.size ≤ b) (fun _ _ h => h.elim)).trans f (fun b _ e => (h.newv b e).1)).toNew⟩
theorem NewRef.keep {w w1 w2 : World} {rh : Nat} {v : Value} {th : Bool} {B : List Bool} (h : NewRef w w1 rh v th B) (f : Fr (fun _ => False) w1 w2) : NewRef w w2 rh v th B :=
  ⟨h.at_.fr f (fun h => h) (fun _ _ h => h), h.new, h.newv, h.fr.trans f (fun _ _ h => h)⟩
theorem NewRef.ne {w w1 : World} {rh : Nat} {v : Value} {th : Bool} {B : List Bool} (h : NewRef w w1 rh v th B) : v.ownBlock ≠ some rh := fun e => (h.newv rh e).2 rfl
theorem ref_none (w : World) : NewRef w (w.alloc (.cells #[.bool false, .slice none 0 0] 59)) w.heap.size (.slice none 0 0) false [] :=
  ⟨⟨by rw [heap_alloc_get]; simp, World.ownsRow_nil _ _ _ _, by simp⟩, Nat.le_refl _, by simp [Value.ownBlock], Fr.alloc (Fr.refl _ _) _⟩
theorem Tryd.infoBool : (Tryd.prog.info? 4).map (fun i => (i.zero, i.size, i.bytes)) = some (some (.bool false), 1, 1) := by kernel_rfl
set_option maxRecDepth 100000 in
theorem rnew_ok (w : World) {n : Int} (h0 : 0 ≤ n) (h1 : n ≤ 65536) : Calls Tryd.prog 34 #[.int .i64 n] w fun e w' => ∃ rh v, e = .returned (.tuple #[.pointer (some ⟨rh, 0, none⟩), .int .i64 0]) ∧ NewRef w w' rh v true (List.replicate n.toNat false) := by
  obtain ⟨m, rfl⟩ : ∃ m : Nat, n = (m : Int) := ⟨n.toNat, by omega⟩
  obtain ⟨i0, hi, hz0, hz1, hz2⟩ := info_parts Tryd.infoBool
  have hmk := run_make (P := Tryd.prog) w 57 4 i0 (.bool false) Tryd.underlying57 hi hz0 .i64 .i64 (m : Int) (m : Int) (by omega) (Int.le_refl _) (by rw [hz2]; omega) (by omega)
  rw [hz1] at hmk
  simp only [Nat.mul_one, Int.toNat_natCast] at hmk
  have b1 : decide ((m : Int) < 0) = false := by simp
  have b2 : decide ((65536 : Int) < (m : Int)) = false := by simp; omega
  have b2' : decide (65536 < m) = false := by simp; omega
  go_enter Tryd.func34, Tryd.ntmps34
  go_wp2_with fail
  refine bodyPost_ret (v := .tuple #[.pointer (some ⟨w.heap.size + 1, 0, none⟩), .int .i64 0]) ?_ rfl ?_
  · simp [results, Tryd.results34, Tryd.f34, go_sem]
  · refine ⟨w.heap.size + 1, .slice (some ⟨w.heap.size, 0, none⟩) m m, rfl, ⟨?_, ?_, ?_⟩, by omega, ?_, Fr.alloc (Fr.alloc (Fr.refl _ _) _) _⟩
    · rw [heap_alloc_get]; simp
    · refine ⟨by simp, .inr ⟨w.heap.size, m, madeCells #[.bool false] m, by simp, Nat.zero_le _, ?_, ?_, ?_, ?_, ?_⟩⟩
      · rw [heap_alloc_get, heap_alloc_get]; simp
      · simp
      · unfold maxLen; omega
      · simp [size_madeCells]
      · rw [made_list]; simp
    · simp; omega
    · intro b hb; simp [Value.ownBlock] at hb; subst hb; simp
set_option maxRecDepth 100000 in
theorem rnew_err (w : World) {n : Int} (h : n < 0 ∨ 65536 < n) : Calls Tryd.prog 34 #[.int .i64 n] w fun e w' => ∃ rh v, e = .returned (.tuple #[.pointer (some ⟨rh, 0, none⟩), .int .i64 2]) ∧ NewRef w w' rh v false [] := by
  by_cases h0 : n < 0
  · have b1 : decide (n < 0) = true := by simpa using h0
    clear h
    go_enter Tryd.func34, Tryd.ntmps34
    go_wp2_with fail
    refine bodyPost_ret (v := .tuple #[.pointer (some ⟨w.heap.size, 0, none⟩), .int .i64 2]) ?_ rfl ⟨_, _, rfl, ref_none w⟩
    simp [results, Tryd.results34, Tryd.f34, go_sem]
  · have b1 : decide (n < 0) = false := by simpa using h0
    have h1 : 65536 < n := by omega
    have b2 : decide (65536 < n) = true := by simpa using h1
    clear h h0 h1
    go_enter Tryd.func34, Tryd.ntmps34
    go_wp2_with fail
    refine bodyPost_ret (v := .tuple #[.pointer (some ⟨w.heap.size, 0, none⟩), .int .i64 2]) ?_ rfl ⟨_, _, rfl, ref_none w⟩
    simp [results, Tryd.results34, Tryd.f34, go_sem]
end Go.Proofs.YtbfkmogibgchmaaDoor.Bt
