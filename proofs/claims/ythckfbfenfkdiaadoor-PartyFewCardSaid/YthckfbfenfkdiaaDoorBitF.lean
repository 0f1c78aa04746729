/- Which bit is lowest, and how many there are: math/bits. Condition: the table reads as its initialiser lays it. -/
import Derived.Test.YthckfbfenfkdiaaDoorBitE
import Derived.Lib.TrailingZeros
import Derived.Deep.CutBlock
import Derived.Deep.DeepCutAuto
import Derived.Deep.RegionHeld3
import Derived.Deep.QuietTactic
import Derived.BigQuiet
import Derived.Deep.LoopGhost
namespace Go.Proofs.YthckfbfenfkdiaaDoor.Bt
open Go.RowKit
/-- The table of math/bits. -/
def TabOk (w : World) : Prop := ∀ j, j < 64 → w.cell? ⟨0, j, none⟩ = some (.int .u8 (Lib.deBruijn64tab.getD j 0))
theorem TabOk.fr {w w' : World} (h : TabOk w) {F : Nat → Prop} (f : Fr F w w') (h0 : ¬ F 0) : TabOk w' := fun j hj => by
  rw [f.cell (World.block_lt_of_cell? _ _ (h j hj)) h0]; exact h j hj
theorem ctz_eq (x : Nat) (h : x ≠ 0) : Lib.ctz 64 x = ctzN 64 x := by
  have e : ∀ f x, Lib.ctzFrom f x = ctzN f x := by
    intro f
    induction f with
    | zero => intro x; rfl
    | succ f ih => intro x; unfold Lib.ctzFrom ctzN; rw [ih]
  unfold Lib.ctz
  rw [if_neg h, e]
theorem tz_key (x a : Nat) (hx : x < 18446744073709551616) (hx0 : x ≠ 0) (hlow : x &&& (18446744073709551616 - x) = a) :
    IntKind.u64.wrap (bits BinOp.and IntKind.u64 (x : Int) (IntKind.u64.wrap (-(x : Int))) * 285870213051353865) / 288230376151711744 = ((a * 285870213051353865 % 18446744073709551616 / 288230376151711744 : Nat) : Int) := by
  have e1 : IntKind.u64.wrap (-(x : Int)) = ((18446744073709551616 - x : Nat) : Int) := by rw [IntKind.wrap_u64]; omega
  rw [e1, bits_and_u64_nat x _ hx (by omega), hlow, IntKind.wrap_u64]
  omega
set_option maxRecDepth 100000 in
theorem tz_ok {w : World} (hT : TabOk w) {x : Nat} (hx : x < 18446744073709551616) (h0 : x ≠ 0) : Calls Tryd.prog 48 #[.int .u64 x] w fun e w' => e = .returned (.int .i64 (ctzN 64 x)) ∧ w = w' := by
  obtain ⟨hlow, hk⟩ := Lib.lowest_bit 64 x h0 hx
  obtain ⟨hi, htab⟩ := Lib.deBruijn64_at _ hk
  have key := tz_key x _ hx h0 hlow
  have hcell := hT _ hi
  rw [htab] at hcell
  rw [ctz_eq x h0] at hk hcell key hi
  obtain ⟨idx, hidx⟩ : ∃ idx, idx = 2 ^ ctzN 64 x * 285870213051353865 % 18446744073709551616 / 288230376151711744 := ⟨_, rfl⟩
  rw [← hidx] at key hcell hi
  generalize ctzN 64 x = k at hk hcell
  have hx0 : ((x : Int) == 0) = false := by simp; omega
  clear hidx htab hlow
  go_enter Tryd.func48, Tryd.ntmps48
  go_wp2_with (simp only [key])
  go_ret
  exact ⟨rfl, rfl⟩
theorem low7 (x : Nat) (hx : x < 18446744073709551616) : bits BinOp.and IntKind.i64 (wrap64 (x : Int)) 127 = ((x % 128 : Nat) : Int) := by
  have h1 : (BitVec.ofInt 64 (wrap64 (x : Int))).toNat = x := by
    rw [BitVec.toNat_ofInt]; unfold wrap64; omega
  have h2 : (BitVec.ofInt 64 127).toNat = 127 := rfl
  show IntKind.i64.wrap ((BitVec.ofInt 64 (wrap64 (x : Int)) &&& BitVec.ofInt 64 127).toNat : Int) = _
  have e : x &&& 127 = x % 128 := Nat.and_two_pow_sub_one_eq_mod x 7
  rw [BitVec.toNat_and, h1, h2, e, IntKind.wrap_i64]
  omega
set_option maxRecDepth 100000 in
theorem ones_ok (w : World) {x : Nat} (hx : x < 18446744073709551616) : Calls Tryd.prog 36 #[.int .u64 x] w fun e w' => e = .returned (.int .i64 (pop x 64)) ∧ w = w' := by
  obtain ⟨c1, c2, c3, x1, x2, x3, e1, e2, e3, e4, e5, e6, b1, b2, b2', b3, b4, b5, b6, e7⟩ := ones x hx
  have h1 : IntKind.u64.wrap (bits .and .u64 ((x : Int) / 2) 6148914691236517205 + bits .and .u64 (x : Int) 6148914691236517205) = (c1 : Int) := by
    rw [show (x : Int) / 2 = ((x / 2 : Nat) : Int) by omega, show (6148914691236517205 : Int) = ((6148914691236517205 : Nat) : Int) from rfl, bits_and_u64_nat _ _ (by omega) (by omega), bits_and_u64_nat _ _ hx (by omega), IntKind.wrap_u64]
    omega
  have h2 : IntKind.u64.wrap (bits .and .u64 ((c1 : Int) / 4) 3689348814741910323 + bits .and .u64 (c1 : Int) 3689348814741910323) = (c2 : Int) := by
    rw [show (c1 : Int) / 4 = ((c1 / 4 : Nat) : Int) by omega, show (3689348814741910323 : Int) = ((3689348814741910323 : Nat) : Int) from rfl, bits_and_u64_nat _ _ (by omega) (by omega), bits_and_u64_nat _ _ b1 (by omega), IntKind.wrap_u64]
    omega
  obtain ⟨s, hs⟩ : ∃ s, s = c2 / 16 + c2 := ⟨_, rfl⟩
  have h3 : IntKind.u64.wrap ((c2 : Int) / 16 + (c2 : Int)) = (s : Int) := by rw [IntKind.wrap_u64]; omega
  have h3' : bits .and .u64 (s : Int) 1085102592571150095 = (c3 : Int) := by
    rw [show (1085102592571150095 : Int) = ((1085102592571150095 : Nat) : Int) from rfl, bits_and_u64_nat _ _ (by omega) (by omega), hs, e3]
  have h4 : IntKind.u64.wrap ((c3 : Int) + (c3 : Int) / 256) = (x1 : Int) := by rw [IntKind.wrap_u64]; omega
  have h5 : IntKind.u64.wrap ((x1 : Int) + (x1 : Int) / 65536) = (x2 : Int) := by rw [IntKind.wrap_u64]; omega
  have h6 : IntKind.u64.wrap ((x2 : Int) + (x2 : Int) / 4294967296) = (x3 : Int) := by rw [IntKind.wrap_u64]; omega
  have E7 := Lib.hid e7; have B6 := Lib.hid b6
  clear e1 e2 e3 e4 e5 e6 e7 b1 b2 b2' b3 b4 b5 b6 hs hx
  go_enter Tryd.func36, Tryd.ntmps36
  go_wp2_with fail
  go_ret
  have := E7.out; have := B6.out
  refine ⟨?_, rfl⟩
  show Ending.returned (Value.int IntKind.i64 (bits BinOp.and IntKind.i64 (wrap64 (x3 : Int)) 127)) = _
  rw [low7 x3 B6.out, E7.out]
theorem pop_le (x : Nat) : pop x 64 ≤ 64 := by
  have h : ∀ l : List Nat, (∀ d ∈ l, d ≤ 1) → l.sum ≤ l.length := by
    intro l
    induction l with
    | nil => intro _; simp
    | cons a l ih => intro h; have := h a (by simp); have := ih (fun d hd => h d (by simp [hd])); simp; omega
  have := h _ (digs_le 64 x)
  rwa [digs_length] at this
def popTo (B : List Bool) (i : Nat) : Nat := ((List.range i).map (fun q => pop (wd B q) 64)).sum
theorem popTo_succ (B : List Bool) (i : Nat) : popTo B (i + 1) = popTo B i + pop (wd B i) 64 := by
  unfold popTo
  rw [List.range_succ, List.map_append, List.sum_append]; simp
theorem popTo_le (B : List Bool) (i : Nat) : popTo B i ≤ 64 * i := by
  induction i with
  | zero => simp [popTo]
  | succ i ih => rw [popTo_succ]; have := pop_le (wd B i); omega
theorem popTo_all (B : List Bool) : popTo B (nw B.length) = cnt B := by
  have := pop_all B
  unfold words at this
  rw [List.map_map] at this
  exact this
set_option maxRecDepth 100000 in
theorem count_ok {w : World} {bh : Nat} {v : Value} {B : List Bool} (h : SetAt w bh v B) : Calls Tryd.prog 15 #[.pointer (some ⟨bh, 0, none⟩)] w fun e w' => e = .returned (.int .i64 (cnt B)) ∧ w = w' := by
  have c2 := h.c2
  have H := Lib.hid h
  have hnw : nw B.length ≤ 2000 := by have := h.small; unfold nw; omega
  obtain ⟨n, hn⟩ : ∃ n, n = nw B.length := ⟨_, rfl⟩
  obtain ⟨a, c, rfl⟩ : ∃ a c, v = .slice a n c := by
    rcases h.row.2 with ⟨rfl, h0⟩ | ⟨g, cap, cur, rfl, _⟩
    · exact ⟨none, 0, by rw [hn, h0]⟩
    · exact ⟨_, _, by rw [hn]⟩
  rw [← hn] at hnw
  have Hn := Lib.hid hn
  clear h hn
  go_enter Tryd.func15, Tryd.ntmps15
  go_wp2_with fail
  refine (there_ok H.out).mono ?_
  rintro e w1 ⟨rfl, rfl⟩
  go_upto_block 0 with fail
  go_cut [3] (fun s3 wx => s3 = .int .i64 (cnt B) ∧ wx = w)
  case first =>
    go_wp2_with fail
    go_loopw [3, 14] (fun s3 s14 wr => ∃ i : Nat, i ≤ n ∧ s14 = .int .i64 i ∧ s3 = .int .i64 (popTo B i) ∧ wr = w) (fun _ s14 _ => n - (intOf s14).toNat)
    case atStart => exact ⟨0, Nat.zero_le _, rfl, rfl, rfl⟩
    case round =>
      obtain ⟨i, hi, rfl, rfl, rfl⟩ := hrel
      by_cases hlt : i < n
      · have hlt' : (i : Int) < (n : Int) := by omega
        obtain ⟨g, c', e, hc, _, _⟩ := row_u64 H.out.row (k := i) (by rw [← Hn.out]; exact hlt)
        rw [← Hn.out] at e
        obtain ⟨rfl, _, rfl⟩ : a = some ⟨g, 0, none⟩ ∧ True ∧ c = c' := by
          have := Value.slice.inj e; exact ⟨this.1, trivial, this.2.2⟩
        have hp := popTo_le B i
        have hp2 := pop_le (wd B i)
        obtain ⟨t, ht⟩ : ∃ t, t = popTo B i := ⟨_, rfl⟩
        have hs := popTo_succ B i
        rw [← ht] at hp hs ⊢
        have HS := Lib.hid hs; have Hlt := Lib.hid hlt
        have hwl := Lib.hid (wd_lt B i)
        clear e hs ht hlt
        go_wp2_with fail
        refine (ones_ok _ hwl.out).mono ?_
        rintro e w1 ⟨rfl, rfl⟩
        go_wp2_with fail
        go_roundw
        case rel => exact ⟨i + 1, Hlt.out, by first | (simp; done) | go_num, by rw [HS.out]; first | (simp; done) | go_num, trivial⟩
        case measure => have := Hlt.out; simp [intOf]; omega
      · obtain rfl : i = n := by omega
        clear hlt
        go_wp2_with fail
        go_meet
        exact ⟨by rw [Hn.out, popTo_all], rfl⟩
  case rest =>
  obtain ⟨rfl, rfl⟩ := hcut
  go_wp2_with fail
  go_ret
  exact ⟨rfl, rfl⟩
end Go.Proofs.YthckfbfenfkdiaaDoor.Bt
