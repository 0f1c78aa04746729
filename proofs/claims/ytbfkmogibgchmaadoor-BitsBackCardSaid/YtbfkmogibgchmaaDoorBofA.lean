/- Of: the set of some bytes. No condition. -/
import Derived.Test.YtbfkmogibgchmaaDoorBitP
namespace Go.Proofs.YtbfkmogibgchmaaDoor.Bt
open Go.RowKit
/-- The words while the bytes ahead of i are laid. -/
def ofL (n : Nat) (L : List Nat) (i : Nat) : List Nat := (List.range (nw n)).map (ofTo L i)
theorem ofL_zero (n : Nat) (L : List Nat) : (ofL n L 0).map u64v = (words (List.replicate n false)).map u64v := by
  rw [new_words]
  apply List.ext_getElem
  · simp [ofL]
  · intro i h1 h2; simp [ofL, ofTo_zero, u64v]
theorem ofL_all {n : Nat} {L : List Nat} (hl : L.length = nb n) (hm : ∀ p, n ≤ p → p < 8 * L.length → bitOf L p = false) : ofL n L L.length = words (setOf n L) := by
  unfold ofL words
  rw [setOf_length]
  apply List.map_congr_left
  intro k _
  exact ofTo_all hl hm k
theorem ofL_succ {n : Nat} {L : List Nat} {i : Nat} (hi : i / 8 < nw n) : (ofL n L (i + 1)).map u64v = ((ofL n L i).map u64v).set (i / 8) (.int .u64 (ofTo L (i + 1) (i / 8))) := by
  apply List.ext_getElem?
  intro k
  rw [List.getElem?_set]
  by_cases hk : k < nw n
  · by_cases e : i / 8 = k
    · subst e; simp [ofL, u64v, hi]
    · simp [ofL, hk, e, ofTo_other L (fun h => e h.symm)]
  · have : ¬ i / 8 = k := by omega
    simp [ofL, hk, this]
theorem ofTo_lt (L : List Nat) (i k : Nat) : ofTo L i k < 18446744073709551616 := num_lt _ 64
theorem of_or {L : List Nat} {i : Nat} (hb : L.getD i 0 < 256) : bits BinOp.or IntKind.u64 (ofTo L i (i / 8) : Int) (IntKind.u64.wrap ((L.getD i 0 : Nat) * 2 ^ (i % 8 * 8))) = (ofTo L (i + 1) (i / 8) : Int) := by
  have hs : i % 8 * 8 ≤ 56 := by omega
  have hp : (2 : Nat) ^ (i % 8 * 8) ≤ 2 ^ 56 := Nat.pow_le_pow_right (by decide) hs
  have hx : L.getD i 0 * 2 ^ (i % 8 * 8) < 2 ^ 64 := by
    have h1 : L.getD i 0 * 2 ^ (i % 8 * 8) ≤ 255 * 2 ^ 56 := Nat.mul_le_mul (by omega) hp
    have h2 : 255 * 2 ^ 56 < 2 ^ 64 := by decide
    omega
  have e : ((L.getD i 0 : Nat) : Int) * 2 ^ (i % 8 * 8) = ((L.getD i 0 * 2 ^ (i % 8 * 8) : Nat) : Int) := by
    rw [Int.natCast_mul, Int.natCast_pow]; rfl
  have e2 : IntKind.u64.wrap (((L.getD i 0 : Nat) : Int) * 2 ^ (i % 8 * 8)) = ((L.getD i 0 * 2 ^ (i % 8 * 8) : Nat) : Int) := by
    rw [e, IntKind.wrap_u64]
    generalize L.getD i 0 * 2 ^ (i % 8 * 8) = p at hx ⊢
    omega
  rw [e2, bits_or_u64_nat _ _ (ofTo_lt L i _) hx, ← ofTo_on L hb]
theorem getD_mem {L : List Nat} {i : Nat} (h : ∀ b ∈ L, b < 256) : L.getD i 0 < 256 := by
  rw [List.getD_eq_getElem?_getD]
  cases e : L[i]? with
  | none => simp
  | some x => exact h x (List.mem_of_getElem? e)
section
variable {w : World} {bv : Value} {L : List Nat}
set_option maxRecDepth 100000 in
theorem of_err {n8 : Nat} (hb : Row w 5 1 bv n8 (L.map u8v)) {n : Int} (h : n < 0 ∨ 65536 < n) : Calls Tryd.prog 29 #[.int .i64 n, bv] w fun e w' => e = .returned (.tuple #[.pointer none, .int .i64 2]) ∧ Fr (fun _ => False) w w' := by
  have HC := Lib.hid (new_err w h)
  clear h hb
  go_enter Tryd.func29, Tryd.ntmps29
  go_wp2_with fail
  refine HC.out.mono ?_
  rintro e w1 ⟨rfl, rfl⟩
  go_wp2_with fail
  refine bodyPost_ret (v := .tuple #[.pointer none, .int .i64 2]) ?_ rfl ⟨rfl, Fr.refl _ _⟩
  simp [results, Tryd.results29, Tryd.f29, go_sem]
set_option maxRecDepth 100000 in
theorem of_long {n8 : Nat} (hb : Row w 5 1 bv n8 (L.map u8v)) {m : Nat} (h6 : m ≤ 65536) (hl : n8 ≠ nb m) : Calls Tryd.prog 29 #[.int .i64 m, bv] w fun e w' => e = .returned (.tuple #[.pointer none, .int .i64 3]) ∧ Fr (fun _ => False) w w' := by
  obtain ⟨a, c, rfl⟩ : ∃ a c, bv = .slice a n8 c := by obtain ⟨a, c, e, _⟩ := row_cell hb; exact ⟨a, c, e⟩
  have HC := Lib.hid (new_ok w (n := (m : Int)) (by omega) (by omega))
  obtain ⟨q, hq⟩ : ∃ q, q = nb m := ⟨_, rfl⟩
  have hq1 : wrap64 (((m : Int) + 7) / 8) = (q : Int) := by rw [hq]; unfold nb wrap64; omega
  have hqt : ((m : Int) + 7).tdiv 8 = (q : Int) := by rw [Int.tdiv_eq_ediv_of_nonneg (by omega), hq]; unfold nb; omega
  have hm6 : (m : Int) ≤ 65536 := by omega
  have b1 : ((n8 : Int) == (q : Int)) = false := by simp; omega
  have b2 : ((n8 : Int) != (q : Int)) = true := by simp; omega
  have hqb : (q : Int) ≤ 10000 := by rw [hq]; unfold nb; omega
  have b3 : ¬ n8 = q := by omega
  have b4 : ¬ (n8 : Int) = (q : Int) := by omega
  clear hb hq hl
  go_enter Tryd.func29, Tryd.ntmps29
  go_wp2_with fail
  refine HC.out.mono ?_
  rintro e w1 ⟨bh, v, rfl, s1, s2, s3, s4⟩
  have F4 := Lib.hid s4
  clear s1 s2 s3 s4
  go_wp2_with fail
  refine bodyPost_ret (v := .tuple #[.pointer none, .int .i64 3]) ?_ rfl ⟨rfl, F4.out⟩
  simp [results, Tryd.results29, Tryd.f29, go_sem]
theorem row_u8 {n8 : Nat} (hb : Row w 5 1 bv n8 (L.map u8v)) : ∃ a c, bv = .slice a n8 c ∧ L.length = n8 ∧ ∀ i, i < n8 → ∃ g, a = some ⟨g, 0, none⟩ ∧ w.cell? ⟨g, i, none⟩ = some (.int .u8 ((L.getD i 0 : Nat) : Int)) := by
  obtain ⟨a, c, e, hc⟩ := row_cell hb
  have hl : L.length = n8 := by have := hb.1; simpa using this
  refine ⟨a, c, e, hl, fun i hi => ?_⟩
  obtain ⟨g, e1, e2⟩ := hc i hi
  exact ⟨g, e1, e2.trans (sameBytes_ok_get (by omega))⟩
set_option maxRecDepth 100000 in
set_option maxHeartbeats 1000000 in
theorem of_more {n8 : Nat} (hb : Row w 5 1 bv n8 (L.map u8v)) {m : Nat} (h6 : m ≤ 65536) (hl : n8 = nb m) (h8 : 0 < m % 8) (hx : L.getD (n8 - 1) 0 / 2 ^ (m % 8) ≠ 0) : Calls Tryd.prog 29 #[.int .i64 m, bv] w fun e w' => e = .returned (.tuple #[.pointer none, .int .i64 5]) ∧ Fr (fun _ => False) w w' := by
  have HB := Lib.hid hb
  obtain ⟨a, c, rfl, hL, hcl⟩ := row_u8 hb
  have HC := Lib.hid (new_ok w (n := (m : Int)) (by omega) (by omega))
  have hq1 : wrap64 (((m : Int) + 7) / 8) = (n8 : Int) := by rw [hl]; unfold nb wrap64; omega
  have hqt : ((m : Int) + 7).tdiv 8 = (n8 : Int) := by rw [Int.tdiv_eq_ediv_of_nonneg (by omega), hl]; unfold nb; omega
  have hm6 : (m : Int) ≤ 65536 := by omega
  obtain ⟨r, hr⟩ : ∃ r, r = m % 8 := ⟨_, rfl⟩
  have hr1 : (m : Int) % 8 = (r : Int) := by omega
  have hr2 : (m : Int).tmod 8 = (r : Int) := by rw [Int.tmod_eq_emod_of_nonneg (by omega)]; omega
  have hr8 : r < 8 := by omega
  have hr0 : (0 : Int) < (r : Int) := by omega
  have hn1 : 1 ≤ n8 := by rw [hl]; unfold nb; omega
  obtain ⟨p, hp⟩ : ∃ p, p = n8 - 1 := ⟨_, rfl⟩
  have hp1 : (n8 : Int) - 1 = (p : Int) := by omega
  have hpn : (p : Int) < (n8 : Int) := by omega
  have hp0 : (0 : Int) ≤ (p : Int) := by omega
  obtain ⟨g, rfl, kc⟩ := hcl p (by omega)
  rw [← hp, ← hr] at hx
  obtain ⟨x, hxe⟩ : ∃ x, x = L.getD p 0 := ⟨_, rfl⟩
  rw [← hxe] at hx kc
  have hxs : (0 : Int) < (x : Int) / 2 ^ r := by rw [shr_nat]; exact Int.natCast_pos.2 (Nat.pos_of_ne_zero hx)
  have Hn6 : (n8 : Int) ≤ 10000 := by rw [hl]; unfold nb; omega
  clear hl hr hp hx hxe hL hcl hb h8
  go_enter Tryd.func29, Tryd.ntmps29
  go_wp2_with fail
  refine HC.out.mono ?_
  rintro e w1 ⟨bh, v, rfl, s1, s2, s3, s4⟩
  have F4 := Lib.hid s4
  have kc1 := (s4.cell (World.block_lt_of_cell? _ _ kc) (fun h => h)).trans kc
  clear s1 s2 s3 s4 kc
  go_wp2_with fail
  refine bodyPost_ret (v := .tuple #[.pointer none, .int .i64 5]) ?_ rfl ⟨rfl, F4.out⟩
  simp [results, Tryd.results29, Tryd.f29, go_sem]
end
end Go.Proofs.YtbfkmogibgchmaaDoor.Bt
