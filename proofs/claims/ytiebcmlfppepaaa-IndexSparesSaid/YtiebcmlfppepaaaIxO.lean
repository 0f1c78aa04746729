/- The index layer: New. No condition. -/
import Derived.Test.YtiebcmlfppepaaaIxN
namespace Go.Proofs.Ytiebcmlfppepaaa.Ix
open Go.RowKit
/-- The least power of two from t on. -/
def IsUp (n t : Nat) : Prop := ∃ k, n = 2 ^ k ∧ t ≤ n ∧ (k = 0 ∨ n < 2 * t)
theorem IsUp.same {n m t : Nat} (h : IsUp n t) (k : IsUp m t) : n = m := by
  obtain ⟨a, rfl, h1, h2⟩ := h
  obtain ⟨b, rfl, k1, k2⟩ := k
  have key : ∀ {a b : Nat}, t ≤ 2 ^ a → (b = 0 ∨ 2 ^ b < 2 * t) → ¬ a < b := by
    intro a b h1 k2 hab
    have : 2 ^ (a + 1) ≤ 2 ^ b := Nat.pow_le_pow_right (by decide) hab
    rw [Nat.pow_succ] at this
    rcases k2 with rfl | k2 <;> omega
  have := key h1 k2
  have := key k1 h2
  rw [show a = b by omega]
theorem IsUp.le {n t : Nat} (h : IsUp n t) (ht : t ≤ 8192) : n ≤ 8192 := by
  obtain ⟨k, rfl, h1, h2⟩ := h
  rcases h2 with rfl | h2
  · decide
  · have : k < 14 := by
      have : (2 : Nat) ^ k < 2 ^ 14 := by omega
      exact (Nat.pow_lt_pow_iff_right (by decide)).1 this
    exact Nat.pow_le_pow_right (n := 2) (by decide) (show k ≤ 13 by omega)
/-- On the way up. -/
def Way (n t : Nat) : Prop := ∃ k, n = 2 ^ k ∧ (k = 0 ∨ n < 2 * t)
theorem Way.one (t : Nat) : Way 1 t := ⟨0, rfl, .inl rfl⟩
theorem Way.next {n t : Nat} (h : Way n t) (hl : n < t) : Way (2 * n) t := by
  obtain ⟨k, rfl, _⟩ := h
  exact ⟨k + 1, by rw [Nat.pow_succ]; omega, .inr (by omega)⟩
theorem Way.up {n t : Nat} (h : Way n t) (hl : ¬ n < t) : IsUp n t := by
  obtain ⟨k, e, h⟩ := h
  exact ⟨k, e, by omega, h⟩
theorem Way.pos {n t : Nat} (h : Way n t) : 1 ≤ n := by
  obtain ⟨k, rfl, h⟩ := h
  exact Nat.one_le_two_pow
theorem zeros3 (n : Nat) : (madeCells (Value.cells (.agg #[.int .u8 0, .int .u32 0, .int .i64 0])) (n * 3)).toList = flat3 (List.replicate n (0, 0, 0)) := by
  apply List.ext_getElem?
  intro k
  by_cases hk : k < n * 3
  · have hs : slAt (List.replicate n ((0, 0, 0) : Sl)) (k / 3) = (0, 0, 0) := by unfold slAt; rw [List.getD_eq_getElem?_getD, List.getElem?_replicate]; split <;> rfl
    obtain ⟨g0, g1, g2⟩ := flat3_get (List.replicate n ((0, 0, 0) : Sl)) (k / 3) (by rw [List.length_replicate]; omega)
    rw [hs] at g0 g1 g2
    obtain ⟨i, hi, hki⟩ : ∃ i, i < 3 ∧ k = k / 3 * 3 + i := ⟨k % 3, Nat.mod_lt _ (by decide), by omega⟩
    have hm : k % 3 = i := by omega
    have hz : (madeCells (Value.cells (.agg #[.int .u8 0, .int .u32 0, .int .i64 0])) (n * 3)).toList[k]? = (#[Value.int .u8 0, Value.int .u32 0, Value.int .i64 0] : Array Value)[i]? := by
      rw [Array.getElem?_toList]
      simp only [madeCells, Value.cells]
      rw [Array.getElem?_map, Array.getElem?_range, if_pos hk]
      show some ((#[Value.int .u8 0, Value.int .u32 0, Value.int .i64 0] : Array Value)[k % 3]!) = _
      rw [hm]
      rcases (by omega : i = 0 ∨ i = 1 ∨ i = 2) with rfl | rfl | rfl <;> rfl
    rw [hz, hki]
    rcases (by omega : i = 0 ∨ i = 1 ∨ i = 2) with rfl | rfl | rfl
    · rw [Nat.add_zero, g0]; rfl
    · rw [g1]; rfl
    · rw [g2]; rfl
  · rw [List.getElem?_eq_none (by simp [size_madeCells]; omega), List.getElem?_eq_none (by rw [flat3_length, List.length_replicate]; omega)]
set_option maxRecDepth 100000 in
theorem new_ok (w : World) {m : Nat} (h1 : 1 ≤ m) (h2 : m ≤ 4096) : Calls Try.prog 30 #[.int .i64 (m : Int)] w fun e w' => ∃ bh g N, e = .returned (.tuple #[.pointer (some ⟨bh, 0, none⟩), .int .i64 0]) ∧ IsUp N (2 * m) ∧ IxAt w' bh g N m [] 0 ∧ w.heap.size ≤ bh ∧ w.heap.size ≤ g ∧ Fr (fun _ => False) w w' := by
  obtain ⟨i0, hi, hz0, hz1, hz2⟩ := info_parts Try.infoSlot
  have hmk := fun (w0 : World) (n : Nat) (hn : n ≤ 8192) => run_make (P := Try.prog) w0 81 86 i0 _ Try.underlying81 hi hz0 .i64 .i64 (n : Int) (n : Int) (by omega) (Int.le_refl _) (by rw [hz2]; omega) (by omega)
  rw [hz1] at hmk
  simp only [Int.toNat_natCast] at hmk
  have HMK := Lib.hid hmk
  clear hmk hi hz0 hz1 hz2
  have b1 : decide ((m : Int) < 1) = false := by simp; omega
  have b2 : decide ((4096 : Int) < (m : Int)) = false := by simp; omega
  obtain ⟨t, ht⟩ : ∃ t, t = 2 * m := ⟨_, rfl⟩
  have e1 : 2 * (m : Int) = (t : Int) := by omega
  obtain ⟨e2, e3, -⟩ := wrap_small (x := t) (by omega)
  have H1 := Lib.hid h1; have H2 := Lib.hid h2; have Ht := Lib.hid ht
  clear h1 h2 ht
  go_enter Try.func30, Try.ntmps30
  go_upto_block 0 with fail
  go_cut [4] (fun s4 wx => ∃ N : Nat, s4 = .int .i64 (N : Int) ∧ IsUp N t ∧ wx = w)
  case first =>
    go_wp2_with fail
    go_loopw [4] (fun s4 wr => ∃ n : Nat, s4 = .int .i64 (n : Int) ∧ Way n t ∧ wr = w) (fun s4 _ => t - (intOf s4).toNat)
    case atStart => exact ⟨1, rfl, Way.one _, rfl⟩
    case round =>
      obtain ⟨n, rfl, hw, rfl⟩ := hrel
      have HW := Lib.hid hw
      clear hw
      by_cases hlt : n < t
      · have hlt' : (n : Int) < (t : Int) := by omega
        obtain ⟨n2, hn2⟩ : ∃ n2, n2 = 2 * n := ⟨_, rfl⟩
        have f1 : (n : Int) * 2 = (n2 : Int) := by omega
        obtain ⟨f2, f3, -⟩ := wrap_small (x := n2) (by have := H2.out; have := Ht.out; omega)
        have Hn2 := Lib.hid hn2; have Hlt := Lib.hid hlt
        clear hn2 hlt
        go_wp2_with fail
        go_roundw
        case rel => exact ⟨n2, rfl, by rw [Hn2.out]; exact HW.out.next Hlt.out, by first | rfl | trivial⟩
        case measure => have := Hn2.out; have := Hlt.out; have := HW.out.pos; simp [intOf]; omega
      · have hlt' : ¬ (n : Int) < (t : Int) := by omega
        have Hlt := Lib.hid hlt
        clear hlt
        go_wp2_with fail
        go_meet
        exact ⟨n, rfl, HW.out.up Hlt.out, rfl⟩
  case rest =>
  obtain ⟨N, rfl, hu, rfl⟩ := hcut
  have hN8 := hu.le (by rw [Ht.out]; have := H2.out; omega)
  have hmk := fun w0 => HMK.out w0 N hN8
  have HU := Lib.hid hu; have HN8 := Lib.hid hN8
  clear hu hN8 b1 b2 e1 e2 e3
  go_wp2_with fail
  refine bodyPost_ret (v := .tuple #[.pointer (some ⟨wc.heap.size + 1, 0, none⟩), .int .i64 0]) ?_ rfl ?_
  · simp [results, Try.results30, Try.f30, go_sem]
  · have hlo : 2 * m ≤ N := by rw [← Ht.out]; obtain ⟨_, _, h, _⟩ := HU.out; exact h
    refine ⟨wc.heap.size + 1, wc.heap.size, N, rfl, by rw [← Ht.out]; exact HU.out, ⟨List.replicate N (0, 0, 0), ⟨?_, ?_, List.length_replicate, Good.nil _ _, Maps.nil _, (fun x hx => by simp at hx), by omega, hlo, H1.out, HN8.out⟩, ?_, Nat.zero_le _, Nat.zero_le _⟩, by omega, Nat.le_refl _, Fr.alloc (Fr.alloc (Fr.refl _ _) _) _⟩
    · unfold HeadAt
      rw [graves_nil, heap_alloc_get]; simp
    · unfold SlotsAt
      rw [← zeros3, heap_alloc_get, heap_alloc_get]; simp; rfl
    · rw [graves_nil]; simp
set_option maxRecDepth 100000 in
theorem new_err (w : World) {n : Int} (h : n < 1 ∨ 4096 < n) : Calls Try.prog 30 #[.int .i64 n] w fun e w' => e = .returned (.tuple #[.pointer none, .int .i64 2]) ∧ w = w' := by
  by_cases h0 : n < 1
  · have b1 : decide (n < 1) = true := by simpa using h0
    clear h
    go_enter Try.func30, Try.ntmps30
    go_wp2_with fail
    refine bodyPost_ret (v := .tuple #[.pointer none, .int .i64 2]) ?_ rfl ⟨rfl, rfl⟩
    simp [results, Try.results30, Try.f30, go_sem]
  · have b1 : decide (n < 1) = false := by simpa using h0
    have h1 : 4096 < n := by omega
    have b2 : decide (4096 < n) = true := by simpa using h1
    clear h h0 h1
    go_enter Try.func30, Try.ntmps30
    go_wp2_with fail
    refine bodyPost_ret (v := .tuple #[.pointer none, .int .i64 2]) ?_ rfl ⟨rfl, rfl⟩
    simp [results, Try.results30, Try.f30, go_sem]
end Go.Proofs.Ytiebcmlfppepaaa.Ix
