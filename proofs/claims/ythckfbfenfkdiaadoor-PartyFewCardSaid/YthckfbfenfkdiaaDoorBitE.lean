/- A set in memory; New, Has, Put, Drop. No condition. -/
import Derived.Test.YthckfbfenfkdiaaDoorMore
import Derived.Test.YthckfbfenfkdiaaDoorBitD
import Derived.Test.YthckfbfenfkdiaaDoorProg
import Derived.Laws.Bits64b
import Derived.Laws.ShiftsVarLaws
import Derived.Laws.MakeOwn
import Derived.StillTailTactics
import Derived.Lib.Hide
namespace Go.Proofs.YthckfbfenfkdiaaDoor.Bt
open Go.RowKit
def u64v (x : Nat) : Value := .int .u64 x
/-- The set B lies at bh, its words in v. -/
structure SetAt (w : World) (bh : Nat) (v : Value) (B : List Bool) : Prop where
  head : w.heap[bh]? = some (.cells #[.bool true, .int .i64 B.length, v] 30 (0, 0))
  row : Row w 70 1 v (nw B.length) ((words B).map u64v)
  small : B.length ≤ 65536
theorem SetAt.lt {w : World} {bh : Nat} {v : Value} {B : List Bool} (h : SetAt w bh v B) : bh < w.heap.size := World.block_lt_of_cell? _ _ ((cell_of h.head 0).trans (show _ = some (Value.bool true) from rfl))
theorem SetAt.fr {w w' : World} {bh : Nat} {v : Value} {B : List Bool} (h : SetAt w bh v B) {F : Nat → Prop} (f : Fr F w w') (h1 : ¬ F bh) (h2 : ∀ b, v.ownBlock = some b → ¬ F b) : SetAt w' bh v B := ⟨f.get h.head h1, Row.fr h.row f h2, h.small⟩
theorem SetAt.c0 {w : World} {bh : Nat} {v : Value} {B : List Bool} (h : SetAt w bh v B) : w.cell? ⟨bh, 0, none⟩ = some (.bool true) := (cell_of h.head 0).trans rfl
theorem SetAt.c1 {w : World} {bh : Nat} {v : Value} {B : List Bool} (h : SetAt w bh v B) : w.cell? ⟨bh, 1, none⟩ = some (.int .i64 B.length) := (cell_of h.head 1).trans rfl
theorem SetAt.c2 {w : World} {bh : Nat} {v : Value} {B : List Bool} (h : SetAt w bh v B) : w.cell? ⟨bh, 2, none⟩ = some v := (cell_of h.head 2).trans rfl
/-- A set that isn't there. -/
def NoSet (w : World) (p : Option Addr) : Prop := p = none ∨ ∃ b v1 v2, p = some ⟨b, 0, none⟩ ∧ w.heap[b]? = some (.cells #[.bool false, v1, v2] 30 (0, 0))
set_option maxRecDepth 100000 in
theorem there_ok {w : World} {bh : Nat} {v : Value} {B : List Bool} (h : SetAt w bh v B) : Calls Tryd.prog 35 #[.pointer (some ⟨bh, 0, none⟩)] w fun e w' => e = .returned (.bool true) ∧ w = w' := by
  have c0 := h.c0
  go_enter Tryd.func35, Tryd.ntmps35
  go_wp2_with fail
  go_ret
  exact ⟨rfl, rfl⟩
set_option maxRecDepth 100000 in
theorem there_no {w : World} {p : Option Addr} (h : NoSet w p) : Calls Tryd.prog 35 #[.pointer p] w fun e w' => e = .returned (.bool false) ∧ w = w' := by
  rcases h with rfl | ⟨b, v1, v2, rfl, h⟩
  · go_enter Tryd.func35, Tryd.ntmps35
    go_wp2_with fail
    go_ret
    exact ⟨rfl, rfl⟩
  · have c0 := (cell_of h 0).trans (show _ = some (Value.bool false) from rfl)
    clear h
    go_enter Tryd.func35, Tryd.ntmps35
    go_wp2_with fail
    go_ret
    exact ⟨rfl, rfl⟩
set_option maxRecDepth 100000 in
theorem bound_ok {w : World} {bh : Nat} {v : Value} {B : List Bool} (h : SetAt w bh v B) : Calls Tryd.prog 24 #[.pointer (some ⟨bh, 0, none⟩)] w fun e w' => e = .returned (.int .i64 B.length) ∧ w = w' := by
  have c1 := h.c1
  have H := Lib.hid h
  clear h
  go_enter Tryd.func24, Tryd.ntmps24
  go_wp2_with fail
  refine (there_ok H.out).mono ?_
  rintro e w1 ⟨rfl, rfl⟩
  go_wp2_with fail
  go_ret
  exact ⟨rfl, rfl⟩
theorem Tryd.infoU64 : (Tryd.prog.info? 70).map (fun i => (i.zero, i.size, i.bytes)) = some (some (.int .u64 0), 1, 8) := by kernel_rfl
theorem info_parts {i : Option TypeInfo} {z : Option Value} {s b : Nat} (h : i.map (fun i => (i.zero, i.size, i.bytes)) = some (z, s, b)) : ∃ i0, i = some i0 ∧ i0.zero = z ∧ i0.size = s ∧ i0.bytes = b := by
  cases i with
  | none => simp at h
  | some i0 => simp at h; exact ⟨i0, rfl, h⟩
theorem made_list (n : Nat) (z : Value) : (madeCells #[z] n).toList = List.replicate n z := by
  apply List.ext_getElem
  · simp [madeCells]
  · intro i h1 h2
    simp [madeCells, Nat.mod_one]
theorem new_words (n : Nat) : (words (List.replicate n false)).map u64v = List.replicate (nw n) (.int .u64 0) := by
  apply List.ext_getElem
  · simp [words_length]
  · intro i h1 h2
    have hi : i < nw (List.replicate n false).length := by simpa [words_length] using h1
    have e : (words (List.replicate n false))[i]'(by simpa [words_length] using hi) = wd (List.replicate n false) i := by
      have := words_get (List.replicate n false) hi
      rw [List.getElem?_eq_getElem (by rw [words_length]; exact hi)] at this
      exact Option.some.inj this
    have e2 : wd (List.replicate n false) i = 0 := by
      apply Nat.eq_of_testBit_eq
      intro j
      by_cases hj : j < 64
      · rw [wd_bit _ _ _ hj]
        simp [List.getD_eq_getElem?_getD, List.getElem?_replicate]
        split <;> rfl
      · rw [Nat.testBit_lt_two_pow (Nat.lt_of_lt_of_le (wd_lt _ _) (Nat.pow_le_pow_right (by decide : 2 > 0) (by omega : 64 ≤ j)))]
        simp
    simp [u64v, e, e2]
set_option maxRecDepth 100000 in
theorem new_ok (w : World) {n : Int} (h0 : 0 ≤ n) (h1 : n ≤ 65536) : Calls Tryd.prog 34 #[.int .i64 n] w fun e w' => ∃ bh v, e = .returned (.tuple #[.pointer (some ⟨bh, 0, none⟩), .int .i64 0]) ∧ SetAt w' bh v (List.replicate n.toNat false) ∧ w.heap.size ≤ bh ∧ (∀ b, v.ownBlock = some b → w.heap.size ≤ b ∧ b ≠ bh) ∧ Fr (fun _ => False) w w' := by
  obtain ⟨m, rfl⟩ : ∃ m : Nat, n = (m : Int) := ⟨n.toNat, by omega⟩
  obtain ⟨i0, hi, hz0, hz1, hz2⟩ := info_parts Tryd.infoU64
  have hq : ((m : Int) + 63).tdiv 64 = (nw m : Int) := by rw [Int.tdiv_eq_ediv_of_nonneg (by omega)]; unfold nw; omega
  have hnw : nw m ≤ 2000 := by unfold nw; omega
  have hmk := run_make (P := Tryd.prog) w 28 70 i0 (.int .u64 0) Tryd.underlying28 hi hz0 .i64 .i64 (nw m : Int) (nw m : Int) (by omega) (Int.le_refl _) (by rw [hz2]; omega) (by omega)
  have b1 : decide ((m : Int) < 0) = false := by simp
  have b2 : decide ((65536 : Int) < (m : Int)) = false := by simp; omega
  have b2' : decide (65536 < m) = false := by simp; omega
  go_enter Tryd.func34, Tryd.ntmps34
  go_wp2_with fail
  refine bodyPost_ret (v := .tuple #[.pointer (some ⟨w.heap.size + 1, 0, none⟩), .int .i64 0]) ?_ rfl ?_
  · simp [results, Tryd.f34, go_sem]
  · refine ⟨w.heap.size + 1, .slice (some ⟨w.heap.size, 0, none⟩) (nw m) (nw m), rfl, ⟨?_, ?_, ?_⟩, by omega, ?_, Fr.alloc (Fr.alloc (Fr.refl _ _) _) _⟩
    · rw [heap_alloc_get]; simp
    · refine ⟨by simp [words_length], .inr ⟨w.heap.size, nw m, madeCells #[.int .u64 0] (nw m), by simp, Nat.zero_le _, ?_, ?_, ?_, ?_, ?_⟩⟩
      · rw [heap_alloc_get, heap_alloc_get]; simp
      · simp
      · unfold maxLen; omega
      · simp [size_madeCells]
      · rw [made_list, Int.toNat_natCast, new_words]; simp
    · simp; omega
    · intro b hb; simp [Value.ownBlock] at hb; subst hb; simp
set_option maxRecDepth 100000 in
theorem new_err (w : World) {n : Int} (h : n < 0 ∨ 65536 < n) : Calls Tryd.prog 34 #[.int .i64 n] w fun e w' => e = .returned (.tuple #[.pointer none, .int .i64 2]) ∧ w = w' := by
  by_cases h0 : n < 0
  · have b1 : decide (n < 0) = true := by simpa using h0
    clear h
    go_enter Tryd.func34, Tryd.ntmps34
    go_wp2_with fail
    refine bodyPost_ret (v := .tuple #[.pointer none, .int .i64 2]) ?_ rfl ⟨rfl, rfl⟩
    simp [results, Tryd.f34, go_sem]
  · have b1 : decide (n < 0) = false := by simpa using h0
    have h1 : 65536 < n := by omega
    have b2 : decide (65536 < n) = true := by simpa using h1
    clear h h0 h1
    go_enter Tryd.func34, Tryd.ntmps34
    go_wp2_with fail
    refine bodyPost_ret (v := .tuple #[.pointer none, .int .i64 2]) ?_ rfl ⟨rfl, rfl⟩
    simp [results, Tryd.f34, go_sem]
theorem row_u64 {w : World} {v : Value} {B : List Bool} (h : Row w 70 1 v (nw B.length) ((words B).map u64v)) {k : Nat} (hk : k < nw B.length) : ∃ g c, v = .slice (some ⟨g, 0, none⟩) (nw B.length) c ∧ w.cell? ⟨g, k, none⟩ = some (.int .u64 (wd B k)) ∧ w.frozen? ⟨g, k, none⟩ = false ∧
    ∀ C : List Bool, C.length = B.length → words C = (words B).set k (wd C k) → Row (w.setCell ⟨g, k, none⟩ (.int .u64 (wd C k))) 70 1 v (nw C.length) ((words C).map u64v) := by
  rcases h.2 with ⟨_, h0⟩ | ⟨g, cap, cur, rfl, _, k1, k2, k3, k4, k5⟩
  · omega
  · refine ⟨g, cap, rfl, ?_, free_of k1 k, ?_⟩
    · rw [cell_of k1 k]
      have : (cur.toList.take (nw B.length * 1))[k]? = ((words B).map u64v)[k]? := by rw [k5]
      rw [List.getElem?_take, if_pos (by omega), List.getElem?_map, words_get B hk] at this
      simpa [u64v] using this
    · intro C hC hw
      refine ⟨by simp [words_length], .inr ⟨g, cap, _, by rw [hC], Nat.zero_le _, setCell_blk (o := k) k1 _, by rw [hC]; exact k2, k3, by simpa using k4, ?_⟩⟩
      rw [hw, hC, List.map_set, ← k5]
      rw [Array.toList_setIfInBounds, List.take_set]
      rfl
theorem parts64 (j : Nat) (h : j ≤ 1000000000) : ∃ q r : Nat, wrap64 ((j : Int) / 64) = (q : Int) ∧ IntKind.i64.wrap ((j : Int) / 64) = (q : Int) ∧ (j : Int) % 64 = (r : Int) ∧ (j : Int).tmod 64 = (r : Int) ∧ q = j / 64 ∧ r = j % 64 ∧ r < 64 :=
  ⟨j / 64, j % 64, by unfold wrap64; omega, by rw [IntKind.wrap_i64]; omega, by omega, by rw [Int.tmod_eq_emod_of_nonneg (by omega)]; omega, rfl, rfl, by omega⟩
theorem bits_andNot_u64_nat (a b : Nat) (ha : a < 18446744073709551616) (hb : b < 18446744073709551616) : bits .andNot .u64 (a : Int) (b : Int) = ((a &&& (18446744073709551615 - b) : Nat) : Int) := by
  have hx : a &&& (18446744073709551615 - b) ≤ a := Nat.and_le_left
  have h1 : (BitVec.ofInt 64 (a : Int)).toNat = a := by
    rw [BitVec.ofInt_natCast, BitVec.toNat_ofNat]; exact Nat.mod_eq_of_lt (by omega)
  have h2 : (BitVec.ofInt 64 (b : Int)).toNat = b := by
    rw [BitVec.ofInt_natCast, BitVec.toNat_ofNat]; exact Nat.mod_eq_of_lt (by omega)
  show IntKind.u64.wrap ((BitVec.ofInt 64 (a : Int) &&& ~~~ BitVec.ofInt 64 (b : Int)).toNat : Int) = _
  rw [BitVec.toNat_and, BitVec.toNat_not, h1, h2, IntKind.wrap_u64]
  have : 2 ^ 64 - 1 - b = 18446744073709551615 - b := by omega
  rw [this]
  omega
theorem shr_nat (x r : Nat) : (x : Int) / 2 ^ r = ((x / 2 ^ r : Nat) : Int) := by
  rw [Int.natCast_ediv, Int.natCast_pow]; rfl
theorem bit_one (x r : Nat) (hx : x < 18446744073709551616) : bits .and .u64 ((x : Int) / 2 ^ r) 1 = ((x / 2 ^ r % 2 : Nat) : Int) := by
  have h := bits_and_u64_nat (x / 2 ^ r) 1 (Nat.lt_of_le_of_lt (Nat.div_le_self _ _) hx) (by decide)
  rw [shr_nat, show (1 : Int) = ((1 : Nat) : Int) from rfl, h]
  have : x / 2 ^ r &&& 1 = x / 2 ^ r % 2 := Nat.and_one_is_mod _
  rw [this]
set_option maxRecDepth 100000 in
theorem has_ok {w : World} {bh : Nat} {v : Value} {B : List Bool} (h : SetAt w bh v B) (i : Int) : Calls Tryd.prog 16 #[.pointer (some ⟨bh, 0, none⟩), .int .i64 i] w fun e w' => e = .returned (.bool (decide (0 ≤ i) && B.getD i.toNat false)) ∧ w = w' := by
  have c1 := h.c1
  have c2 := h.c2
  have H := Lib.hid h
  have hsm := h.small
  by_cases h0 : 0 ≤ i
  · obtain ⟨j, rfl⟩ : ∃ j : Nat, i = (j : Int) := ⟨i.toNat, by omega⟩
    by_cases h1 : j < B.length
    · have b1 : decide ((j : Int) < (B.length : Int)) = true := by simpa using h1
      obtain ⟨q, r, hq, hqw, hr, hrt, hq1, hr1, hrl⟩ := parts64 j (by omega)
      obtain ⟨g, c, rfl, hc, _, _⟩ := row_u64 h.row (nw_lt h1)
      rw [← hq1] at hc
      have hk := nw_lt h1
      rw [← hq1] at hk
      have hk' : (q : Int) < (nw B.length : Int) := by omega
      have hb := bit_one (wd B q) r (wd_lt B q)
      have hat := wd_at B j
      rw [← hq1, ← hr1] at hat
      rw [hat] at hb
      obtain ⟨t, ht⟩ : ∃ t : Int, t = ((if B.getD j false then 1 else 0 : Nat) : Int) := ⟨_, rfl⟩
      rw [← ht] at hb
      have Ht := Lib.hid ht
      clear ht
      have Hq1 := Lib.hid hq1; have Hr1 := Lib.hid hr1
      clear h h0 hq1 hr1 hat hsm
      go_enter Tryd.func16, Tryd.ntmps16
      go_wp2_with fail
      refine (there_ok H.out).mono ?_
      rintro e w1 ⟨rfl, rfl⟩
      go_wp2_with fail
      go_ret
      refine ⟨?_, rfl⟩
      have := Ht.out
      rw [this, Int.toNat_natCast]
      cases B.getD j false <;> simp
    · have b1 : decide ((j : Int) < (B.length : Int)) = false := by simpa using h1
      have hg : B.getD j false = false := by rw [List.getD_eq_getElem?_getD, List.getElem?_eq_none (by omega)]; rfl
      clear h h0
      go_enter Tryd.func16, Tryd.ntmps16
      go_wp2_with fail
      refine (there_ok H.out).mono ?_
      rintro e w1 ⟨rfl, rfl⟩
      go_wp2_with fail
      go_ret
      exact ⟨by rw [Int.toNat_natCast, hg]; simp, rfl⟩
  · have b1 : decide (0 ≤ i) = false := by simpa using h0
    clear h
    go_enter Tryd.func16, Tryd.ntmps16
    go_wp2_with fail
    refine (there_ok H.out).mono ?_
    rintro e w1 ⟨rfl, rfl⟩
    go_wp2_with fail
    go_ret
    exact ⟨by rw [b1]; rfl, rfl⟩
theorem SetAt.store {w : World} {bh : Nat} {v : Value} {B : List Bool} (h : SetAt w bh v B) {g : Nat} {c : Nat} (hv : v = .slice (some ⟨g, 0, none⟩) (nw B.length) c) (hne : v.ownBlock ≠ some bh) {j : Nat} (h1 : j < B.length) (b : Bool) :
    SetAt (w.setCell ⟨g, j / 64, none⟩ (.int .u64 (wd (B.set j b) (j / 64)))) bh v (B.set j b) := by
  obtain ⟨g', c', e, _, _, hr⟩ := row_u64 h.row (nw_lt h1)
  rw [hv] at e
  have : g = g' := by simpa using (Value.slice.inj e).1
  subst this
  have hgb : bh ≠ g := fun e => hne (by rw [hv, e]; rfl)
  refine ⟨?_, hr _ (by simp) (words_set B h1 b), by simpa using h.small⟩
  rw [setCell_blk_ne (by exact hgb)]
  simpa using h.head
theorem pow_wrap {r : Nat} (hr : r < 64) : IntKind.u64.wrap (2 ^ r) = ((2 ^ r : Nat) : Int) := by
  have hp : (2 : Nat) ^ r < 2 ^ 64 := Nat.pow_lt_pow_right (by decide) hr
  have e : (2 : Int) ^ r = ((2 ^ r : Nat) : Int) := by rw [Int.natCast_pow]; rfl
  rw [e, IntKind.wrap_u64]
  generalize (2 : Nat) ^ r = p at hp ⊢
  omega
theorem put_bits (B : List Bool) {j q r : Nat} (h1 : j < B.length) (hq : q = j / 64) (hr : r = j % 64) : bits BinOp.or IntKind.u64 (wd B q : Int) (IntKind.u64.wrap (2 ^ r)) = (wd (B.set j true) q : Int) := by
  have hl : r < 64 := by omega
  have hp : (2 : Nat) ^ r < 2 ^ 64 := Nat.pow_lt_pow_right (by decide) hl
  rw [pow_wrap hl, bits_or_u64_nat _ _ (wd_lt B q) hp, hq, wd_put B h1, hr]
theorem drop_bits (B : List Bool) {j q r : Nat} (h1 : j < B.length) (hq : q = j / 64) (hr : r = j % 64) : bits BinOp.andNot IntKind.u64 (wd B q : Int) (IntKind.u64.wrap (2 ^ r)) = (wd (B.set j false) q : Int) := by
  have hl : r < 64 := by omega
  have hp : (2 : Nat) ^ r < 2 ^ 64 := Nat.pow_lt_pow_right (by decide) hl
  rw [pow_wrap hl, bits_andNot_u64_nat _ _ (wd_lt B q) hp, hq, wd_drop B h1, hr]
set_option maxRecDepth 100000 in
theorem change_true {w : World} {bh : Nat} {v : Value} {B : List Bool} (h : SetAt w bh v B) (hne : v.ownBlock ≠ some bh) {j : Nat} (h1 : j < B.length) : Calls Tryd.prog 37 #[.pointer (some ⟨bh, 0, none⟩), .int .i64 j, .bool true] w fun e w' => e = .returned (.int .i64 0) ∧ SetAt w' bh v (B.set j true) ∧ Fr (fun b => v.ownBlock = some b) w w' := by
  have c1 := h.c1
  have c2 := h.c2
  have H := Lib.hid h
  have hsm := h.small
  have b1 : decide ((B.length : Int) ≤ (j : Int)) = false := by simpa using h1
  have b1' : decide (B.length ≤ j) = false := by simpa using h1
  obtain ⟨q, r, hq, hqw, hr, hrt, hq1, hr1, hrl⟩ := parts64 j (by omega)
  obtain ⟨g, c, rfl, hc, hf, _⟩ := row_u64 h.row (nw_lt h1)
  rw [← hq1] at hc hf
  have hk := nw_lt h1
  rw [← hq1] at hk
  have hk' : (q : Int) < (nw B.length : Int) := by omega
  have hst := h.store (g := g) rfl hne h1 true
  rw [← hq1, ← put_bits B h1 hq1 hr1] at hst
  have Hst := Lib.hid hst
  clear h hq1 hr1 hsm hst
  go_enter Tryd.func37, Tryd.ntmps37
  go_wp2_with fail
  refine (there_ok H.out).mono ?_
  rintro e w1 ⟨rfl, rfl⟩
  go_wp2_with fail
  go_still_tail 13, (by kernel_rfl)
  go_wp2_with fail
  go_ret
  exact ⟨rfl, Hst.out.fr (Fr.drew (Fr.refl (fun _ => False) _)) (fun h => h) (fun _ _ h => h), Fr.drew (Fr.setCell (F := fun b => Value.ownBlock (.slice (some ⟨g, 0, none⟩) (nw B.length) c) = some b) (p := ⟨g, q, none⟩) (Fr.refl _ _) (fun _ => rfl) _)⟩
set_option maxRecDepth 100000 in
theorem change_false {w : World} {bh : Nat} {v : Value} {B : List Bool} (h : SetAt w bh v B) (hne : v.ownBlock ≠ some bh) {j : Nat} (h1 : j < B.length) : Calls Tryd.prog 37 #[.pointer (some ⟨bh, 0, none⟩), .int .i64 j, .bool false] w fun e w' => e = .returned (.int .i64 0) ∧ SetAt w' bh v (B.set j false) ∧ Fr (fun b => v.ownBlock = some b) w w' := by
  have c1 := h.c1
  have c2 := h.c2
  have H := Lib.hid h
  have hsm := h.small
  have b1 : decide ((B.length : Int) ≤ (j : Int)) = false := by simpa using h1
  have b1' : decide (B.length ≤ j) = false := by simpa using h1
  obtain ⟨q, r, hq, hqw, hr, hrt, hq1, hr1, hrl⟩ := parts64 j (by omega)
  obtain ⟨g, c, rfl, hc, hf, _⟩ := row_u64 h.row (nw_lt h1)
  rw [← hq1] at hc hf
  have hk := nw_lt h1
  rw [← hq1] at hk
  have hk' : (q : Int) < (nw B.length : Int) := by omega
  have hst := h.store (g := g) rfl hne h1 false
  rw [← hq1, ← drop_bits B h1 hq1 hr1] at hst
  have Hst := Lib.hid hst
  clear h hq1 hr1 hsm hst
  go_enter Tryd.func37, Tryd.ntmps37
  go_wp2_with fail
  refine (there_ok H.out).mono ?_
  rintro e w1 ⟨rfl, rfl⟩
  go_wp2_with fail
  go_still_tail 13, (by kernel_rfl)
  go_wp2_with fail
  go_ret
  exact ⟨rfl, Hst.out.fr (Fr.drew (Fr.refl (fun _ => False) _)) (fun h => h) (fun _ _ h => h), Fr.drew (Fr.setCell (F := fun b => Value.ownBlock (.slice (some ⟨g, 0, none⟩) (nw B.length) c) = some b) (p := ⟨g, q, none⟩) (Fr.refl _ _) (fun _ => rfl) _)⟩
set_option maxRecDepth 100000 in
theorem change_arg {w : World} {bh : Nat} {v : Value} {B : List Bool} (h : SetAt w bh v B) {i : Int} (hi : i < 0 ∨ (B.length : Int) ≤ i) (b : Bool) : Calls Tryd.prog 37 #[.pointer (some ⟨bh, 0, none⟩), .int .i64 i, .bool b] w fun e w' => e = .returned (.int .i64 2) ∧ w = w' := by
  have c1 := h.c1
  have H := Lib.hid h
  clear h
  by_cases h0 : i < 0
  · have b0 : decide (i < 0) = true := by simpa using h0
    clear hi
    go_enter Tryd.func37, Tryd.ntmps37
    go_wp2_with fail
    refine (there_ok H.out).mono ?_
    rintro e w1 ⟨rfl, rfl⟩
    go_wp2_with fail
    go_ret
    exact ⟨rfl, rfl⟩
  · have b0 : decide (i < 0) = false := by simpa using h0
    have b1 : decide ((B.length : Int) ≤ i) = true := by simp; omega
    clear hi h0
    go_enter Tryd.func37, Tryd.ntmps37
    go_wp2_with fail
    refine (there_ok H.out).mono ?_
    rintro e w1 ⟨rfl, rfl⟩
    go_wp2_with fail
    go_ret
    exact ⟨rfl, rfl⟩
set_option maxRecDepth 100000 in
theorem change_no {w : World} {p : Option Addr} (h : NoSet w p) (i : Int) (b : Bool) : Calls Tryd.prog 37 #[.pointer p, .int .i64 i, .bool b] w fun e w' => e = .returned (.int .i64 1) ∧ w = w' := by
  have H := Lib.hid h
  clear h
  go_enter Tryd.func37, Tryd.ntmps37
  go_wp2_with fail
  refine (there_no H.out).mono ?_
  rintro e w1 ⟨rfl, rfl⟩
  go_wp2_with fail
  go_ret
  exact ⟨rfl, rfl⟩
end Go.Proofs.YthckfbfenfkdiaaDoor.Bt
