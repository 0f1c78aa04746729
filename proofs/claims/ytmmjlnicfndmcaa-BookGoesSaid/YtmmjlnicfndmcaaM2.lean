/- Texts put together: Maps from uint32 to int, Numbers as rows of bits, Sets as rows of Bools, and the words they are kept in, The search word by word, What the iterators go over; bytes, A set in memory; New, Has, Put, Drop, A set's Put and Drop by themselves (for seats whose programs lack the rest of the sets), The index layer in memory: slots, the head; mix.Hash, made, The index layer: find, The index layer: what an index is in memory; Most, Len, Steps, Slots, Get, Set, Drop, The contract of ahead, over a heap of what is due and whatever function that is kept in its field. Conditions: both places are in the heap. No condition. -/
import Derived.Test.YtmmjlnicfndmcaaProg
import Derived.Laws.Bits64b
import Derived.Laws.ShiftsVarLaws
import Derived.Laws.MakeOwn
import Derived.StillTailTactics
import Derived.Lib.Hide
import Derived.WalkMore
import Derived.Deep.CutBlock
import Derived.Deep.DeepCutAuto
import Derived.Deep.RegionHeld3
import Derived.Deep.QuietTactic
import Derived.BigQuiet
import Derived.Deep.LoopGhost
import Derived.Test.YtmmjlnicfndmcaaM1
namespace Go.Proofs.Ytmmjlnicfndmcaa
open Go.RowKit
/-- An entry. -/
def entU (x : Int × Int × Nat) : MapEntry := { key := .int .u32 x.1, val := .int .i64 x.2.1, born := x.2.2 }
/-- Block b is a map that has f. -/
def UMap (w : World) (b : Nat) (f : Int → Option Int) : Prop :=
  ∃ (l : List (Int × Int × Nat)) (c : Nat), w.heap[b]? = some (.map (l.map entU).toArray c) ∧ (l.map (·.1)).Nodup ∧ ∀ k, f k = kv l k
theorem UMap.fr {w w' : World} {b : Nat} {f : Int → Option Int} (h : UMap w b f) {F : Nat → Prop} (hf : Fr F w w') (hb : ¬ F b) : UMap w' b f := by
  obtain ⟨l, c, hb1, h2, h3⟩ := h
  exact ⟨l, c, hf.get hb1 hb, h2, h3⟩
theorem UMap.lt {w : World} {b : Nat} {f : Int → Option Int} (h : UMap w b f) : b < w.heap.size := by
  obtain ⟨l, c, hb1, h2, h3⟩ := h
  exact lt_of_block hb1
theorem findNow_entU (k : Int) (l : List (Int × Int × Nat)) (i : Nat) : Instr.findNow (.int .u32) (.int .u32 k) (l.map entU) i =
    some ((l.findIdx? (fun x => x.1 == k)).bind fun j => (l[j]?).map fun x => (i + j, Value.int .i64 x.2.1)) := by
  induction l generalizing i with
  | nil => rfl
  | cons x l ih =>
    simp only [List.map_cons, Instr.findNow, entU, Instr.sameNow, if_true]
    by_cases h : k = x.1
    · subst h; simp [List.findIdx?_cons]
    · have h1 : (k == x.1) = false := by simpa using h
      have h2 : (x.1 == k) = false := by simpa using fun e => h e.symm
      rw [h1]
      simp only [List.findIdx?_cons, h2]
      rw [ih]
      cases hf : l.findIdx? (fun x => x.1 == k) with
      | none => simp
      | some j => simp [Nat.add_assoc, Nat.add_comm 1 j]
section
variable {P : Program} {T K E : TypeId}
theorem checkKey_u32 (hK : P.underlying K = some (.int .u32)) (e : Bool) (k : Int) (w : World) : (Instr.checkKey e 10000 K (.int .u32 k)).run P w = .ok () w := by
  unfold Instr.checkKey
  simp [run_underlying hK]
theorem findKey_entU (hK : P.underlying K = some (.int .u32)) (k : Int) (l : List (Int × Int × Nat)) (w : World) :
    (Instr.findKey K (.int .u32 k) (l.map entU)).run P w = .ok ((l.findIdx? (fun x => x.1 == k)).bind fun j => (l[j]?).map fun x => (j, Value.int .i64 x.2.1)) w := by
  unfold Instr.findKey
  simp [run_underlying hK, findNow_entU]
variable (hT : P.underlying T = some (.map K E)) (hK : P.underlying K = some (.int .u32))
include hT hK
theorem run_lookup2U {w : World} {b : Nat} {f : Int → Option Int} (hm : UMap w b f) (hz : (zeroValue E).run P w = .ok (.int .i64 0) w) (k : Int) :
    (Instr.lookup T (.map (some b)) (.int .u32 k) true).run P w = .ok (.tuple #[.int .i64 ((f k).getD 0), .bool (f k).isSome]) w := by
  obtain ⟨l, c, hb, hn, hf⟩ := hm
  simp only [Instr.lookup, Sem.run_bind, run_underlying hT, Result.andThen_ok, Sem.run_pure, checkKey_u32 hK, run_getMap P hb, findKey_entU hK]
  rw [hf, kv_idx]
  cases hi : l.findIdx? (fun x => x.1 == k) with
  | none => simp [hz]
  | some j =>
    have hj : j < l.length := by have := List.findIdx?_eq_some_iff_getElem.1 hi; exact this.1
    simp [hj]
theorem run_lookup1U {w : World} {b : Nat} {f : Int → Option Int} (hm : UMap w b f) (hz : (zeroValue E).run P w = .ok (.int .i64 0) w) (k : Int) :
    (Instr.lookup T (.map (some b)) (.int .u32 k) false).run P w = .ok (.int .i64 ((f k).getD 0)) w := by
  obtain ⟨l, c, hb, hn, hf⟩ := hm
  simp only [Instr.lookup, Sem.run_bind, run_underlying hT, Result.andThen_ok, Sem.run_pure, checkKey_u32 hK, run_getMap P hb, findKey_entU hK]
  rw [hf, kv_idx]
  cases hi : l.findIdx? (fun x => x.1 == k) with
  | none => simp [hz]
  | some j =>
    have hj : j < l.length := by have := List.findIdx?_eq_some_iff_getElem.1 hi; exact this.1
    simp [hj]
theorem run_updateU {w : World} {b : Nat} {f : Int → Option Int} (hm : UMap w b f) (k v : Int) :
    ∃ es c, (Instr.mapUpdate T (.map (some b)) (.int .u32 k) (.int .i64 v)).run P w = .ok () (setMap w b es c) ∧ UMap (setMap w b es c) b (fun j => if j = k then some v else f j) := by
  obtain ⟨l, c, hb, hn, hf⟩ := hm
  simp only [Instr.mapUpdate, Sem.run_bind, run_underlying hT, Result.andThen_ok, checkKey_u32 hK, run_getMap P hb, findKey_entU hK]
  cases hi : l.findIdx? (fun x => x.1 == k) with
  | none =>
    refine ⟨_, _, run_putMap P hb _ _, l ++ [(k, v, c)], c + 1, ?_, ?_, ?_⟩
    · rw [setMap_at hb]; simp [entU]
    · have hk : ∀ x ∈ l, x.1 ≠ k := by
        intro x hx he
        have := List.findIdx?_eq_none_iff.1 hi x hx
        simp [he] at this
      rw [List.map_append, List.nodup_append]
      refine ⟨hn, by simp, ?_⟩
      intro a ha b hb
      simp at hb; subst hb
      obtain ⟨x, hx, rfl⟩ := List.mem_map.1 ha
      exact hk x hx
    · intro j
      have hk : l.find? (fun x => x.1 == k) = none := by
        rw [List.find?_eq_none]
        intro x hx
        have := List.findIdx?_eq_none_iff.1 hi x hx
        simpa using this
      by_cases hj : j = k
      · subst hj; simp [kv, List.find?_append, hk]
      · have : (k == j) = false := by simpa using fun e => hj e.symm
        simp [kv, List.find?_append, hj, hf, this]
  | some j =>
    obtain ⟨hj, hjk, hlt⟩ := List.findIdx?_eq_some_iff_getElem.1 hi
    have hjk' : l[j].1 = k := by simpa using hjk
    simp only [Option.bind_some, List.getElem?_eq_getElem hj, Option.map_some]
    have hsb : Instr.sameBits 10000 (.int .u32 k) (.int .u32 k) = true := by simp [Instr.sameBits]
    have hks : (Instr.keyThatStays (.int .u32 k) (.int .u32 k)).run P w = .ok (.int .u32 k) w := by
      unfold Instr.keyThatStays; rw [if_pos hsb]; rfl
    have hkey : (Option.map (fun x => x.key) (List.map entU l).toArray[j]?).getD (Value.int IntKind.u32 k) = .int .u32 k := by
      simp [hj, entU, hjk']
    rw [hkey]
    simp only [Sem.run_bind, hks, Result.andThen_ok]
    refine ⟨_, _, run_putMap P hb _ _, l.set j (k, v, l[j].2.2), c, ?_, ?_, ?_⟩
    · rw [setMap_at hb]
      congr 2
      apply Array.ext'
      simp only [Array.toList_modify]
      apply List.ext_getElem (by simp)
      intro i h1 h2
      rw [List.getElem_modify, List.getElem_map, List.getElem_map, List.getElem_set]
      split
      · rename_i h; subst h; rfl
      · rfl
    · rw [List.map_set]
      have : (l.map (·.1)).set j k = l.map (·.1) := by
        apply List.ext_getElem (by simp)
        intro i h1 h2
        rw [List.getElem_set]
        split
        · rename_i h; subst h; simp [hjk']
        · rfl
      simp only [this]; exact hn
    · intro i
      rw [kv_idx]
      by_cases hik : i = k
      · subst hik
        have : (l.set j (i, v, l[j].2.2)).findIdx? (fun x => x.1 == i) = some j := by
          rw [List.findIdx?_eq_some_iff_getElem]
          refine ⟨by simpa using hj, by simp, ?_⟩
          intro m hm
          rw [List.getElem_set_ne (by omega)]
          exact hlt m hm
        rw [this]; simp [hj]
      · have : (l.set j (k, v, l[j].2.2)).findIdx? (fun x => x.1 == i) = l.findIdx? (fun x => x.1 == i) := by
          apply findIdx_set
          · simpa using fun e => hik e.symm
          · intro h; simpa [hjk'] using fun e => hik e.symm
        dsimp only
        rw [this, if_neg hik, hf, kv_idx]
        cases hfi : l.findIdx? (fun x => x.1 == i) with
        | none => simp
        | some m =>
          have hmj : j ≠ m := by
            intro e; subst e
            obtain ⟨_, h1, _⟩ := List.findIdx?_eq_some_iff_getElem.1 hfi
            simp [hjk'] at h1; exact hik h1.symm
          simp [List.getElem?_set_ne hmj]
theorem run_deleteU {w : World} {b : Nat} {f : Int → Option Int} (hm : UMap w b f) (k : Int) (ats : Array TypeId) (h0 : ats[0]? = some T) (ty : TypeId) :
    ∃ es c, (Builtin.delete_ ats ty #[.map (some b), .int .u32 k]).run P w = .ok (.tuple #[]) (setMap w b es c) ∧ UMap (setMap w b es c) b (fun j => if j = k then none else f j) := by
  obtain ⟨l, c, hb, hn, hf⟩ := hm
  have e1 : (#[Value.map (some b), Value.int .u32 k] : Array Value)[0]? = some (.map (some b)) := rfl
  have e2 : (#[Value.map (some b), Value.int .u32 k] : Array Value)[1]? = some (.int .u32 k) := rfl
  simp only [Builtin.delete_, h0, e1, e2, Sem.run_bind, run_underlying hT, Result.andThen_ok, checkKey_u32 hK, run_getMap P hb, findKey_entU hK]
  cases hi : l.findIdx? (fun x => x.1 == k) with
  | none =>
    have hk : ∀ x ∈ l, x.1 ≠ k := by
      intro x hx he
      have := List.findIdx?_eq_none_iff.1 hi x hx
      simp [he] at this
    simp only [Option.bind_none]
    refine ⟨(l.map entU).toArray, c, by rw [Sem.run_bind, run_putMap P hb]; rfl, l, c, setMap_at hb _ _, hn, ?_⟩
    intro j
    by_cases hj : j = k
    · subst hj
      have hk2 : l.find? (fun x => x.1 == j) = none := by
        rw [List.find?_eq_none]; intro x hx; simpa using hk x hx
      simp [kv, hk2]
    · simp [hj, hf]
  | some j =>
    obtain ⟨hj, hjk, hlt⟩ := List.findIdx?_eq_some_iff_getElem.1 hi
    have hjk' : l[j].1 = k := by simpa using hjk
    simp only [Option.bind_some, List.getElem?_eq_getElem hj, Option.map_some]
    refine ⟨_, _, by rw [Sem.run_bind, run_putMap P hb]; rfl, l.eraseIdx j, c, ?_, ?_, ?_⟩
    · rw [setMap_at hb]
      congr 2
      simp [Array.eraseIdxIfInBounds, hj, eraseIdx_map']
    · rw [← eraseIdx_map']; exact (List.eraseIdx_sublist _ _).nodup hn
    · intro i
      have hnk : ∀ m (hm : m < l.length), m ≠ j → l[m].1 ≠ k := by
        intro m hm hmj he
        have hp := List.pairwise_iff_getElem.1 hn
        rcases Nat.lt_or_gt_of_ne hmj with h | h
        · exact hp m j (by simpa using hm) (by simpa using hj) h (by simp [he, hjk'])
        · exact hp j m (by simpa using hj) (by simpa using hm) h (by simp [he, hjk'])
      by_cases hik : i = k
      · subst hik
        dsimp only
        rw [if_pos rfl]
        symm
        unfold kv
        have : (l.eraseIdx j).find? (fun x => x.1 == i) = none := by
          rw [List.find?_eq_none]
          intro x hx
          obtain ⟨m, hm1, hm2, hm3⟩ := List.mem_eraseIdx_iff_getElem.1 hx
          rw [← hm3]; simpa using hnk m hm1 hm2
        rw [this]; rfl
      · dsimp only
        rw [if_neg hik, hf]
        unfold kv
        congr 1
        have e : l = l.take j ++ l[j] :: l.drop (j+1) := by simp
        rw [List.eraseIdx_eq_take_drop_succ]
        conv => lhs; rw [e]
        rw [List.find?_append, List.find?_append, List.find?_cons]
        have : (l[j].1 == i) = false := by simpa [hjk'] using fun e => hik e.symm
        rw [this]
end
end Go.Proofs.Ytmmjlnicfndmcaa
/- Numbers as rows of bits. No condition. -/
namespace Go.Proofs.Ytmmjlnicfndmcaa.Bt
/-- The number of which the bits below n are f's. -/
def num (f : Nat → Bool) : Nat → Nat
  | 0 => 0
  | n + 1 => num f n + (if f n then 2 ^ n else 0)
theorem num_lt (f : Nat → Bool) : ∀ n, num f n < 2 ^ n
  | 0 => by simp [num]
  | n + 1 => by
    have := num_lt f n
    unfold num
    rw [Nat.pow_succ]
    split <;> omega
theorem num_testBit (f : Nat → Bool) : ∀ n i, (num f n).testBit i = (decide (i < n) && f i)
  | 0, i => by simp [num]
  | n + 1, i => by
    have ih := num_testBit f n i
    have hl := num_lt f n
    unfold num
    split
    · rename_i hf
      have e : num f n + 2 ^ n = 2 ^ n * 1 + num f n := by omega
      rw [e, Nat.testBit_two_pow_mul_add _ hl]
      by_cases h : i < n
      · rw [if_pos h, ih]
        simp [h, Nat.lt_succ_of_lt h]
      · rw [if_neg h]
        by_cases h2 : i = n
        · subst h2; simp [hf]
        · have h3 : ¬ i < n + 1 := by omega
          have h4 : i - n ≠ 0 := by omega
          simp [h3]
          obtain ⟨k, hk⟩ := Nat.exists_eq_succ_of_ne_zero h4
          rw [hk]; simp [Nat.testBit_succ]
    · rename_i hf
      rw [Nat.add_zero, ih]
      by_cases h : i < n
      · simp [h, Nat.lt_succ_of_lt h]
      · by_cases h2 : i = n
        · subst h2; simp at hf; simp [hf]
        · have h3 : ¬ i < n + 1 := by omega
          simp [h, h3]
theorem num_congr {f g : Nat → Bool} {n : Nat} (h : ∀ i, i < n → f i = g i) : num f n = num g n := by
  apply Nat.eq_of_testBit_eq
  intro i
  rw [num_testBit, num_testBit]
  by_cases hi : i < n
  · simp [hi, h i hi]
  · simp [hi]
theorem eq_num {x n : Nat} (hx : x < 2 ^ n) : x = num x.testBit n := by
  apply Nat.eq_of_testBit_eq
  intro i
  rw [num_testBit]
  by_cases hi : i < n
  · simp [hi]
  · simp [hi]
    exact Nat.testBit_lt_two_pow (Nat.lt_of_lt_of_le hx (Nat.pow_le_pow_right (by decide) (by omega)))
theorem num_inj {f g : Nat → Bool} {n : Nat} (h : num f n = num g n) (i : Nat) (hi : i < n) : f i = g i := by
  have a := num_testBit f n i
  have b := num_testBit g n i
  rw [h, b] at a
  simpa [hi] using a.symm
/-! How many bits are set: the count by halves. -/
def val (k : Nat) : List Nat → Nat
  | [] => 0
  | d :: ds => 2 ^ k * val k ds + d
def pair : List Nat → List Nat
  | a :: b :: r => (a + b) :: pair r
  | l => l
def mask (k : Nat) : Nat → Nat
  | 0 => 0
  | n + 1 => 2 ^ (2 * k) * mask k n + (2 ^ k - 1)
theorem and_split {m a b x y : Nat} (ha : a < 2 ^ m) (hb : b < 2 ^ m) : (2 ^ m * x + a) &&& (2 ^ m * y + b) = 2 ^ m * (x &&& y) + (a &&& b) := by
  apply Nat.eq_of_testBit_eq
  intro i
  have hab : a &&& b < 2 ^ m := Nat.lt_of_le_of_lt Nat.and_le_left ha
  rw [Nat.testBit_and, Nat.testBit_two_pow_mul_add _ ha, Nat.testBit_two_pow_mul_add _ hb, Nat.testBit_two_pow_mul_add _ hab]
  split <;> simp [Nat.testBit_and]
theorem sum_pair : ∀ ds : List Nat, (pair ds).sum = ds.sum
  | [] => rfl
  | [_] => rfl
  | a :: b :: r => by simp [pair, sum_pair r]; omega
theorem pair_length : ∀ (n : Nat) (ds : List Nat), ds.length = 2 * n → (pair ds).length = n
  | 0, [], _ => rfl
  | n + 1, a :: b :: r, h => by simp [pair]; exact pair_length n r (by simp at h; omega)
  | n + 1, [], h => by simp at h
  | n + 1, [_], h => by simp at h; omega
  | 0, _ :: _, h => by simp at h
theorem pair_le {c : Nat} : ∀ (ds : List Nat), (∀ d ∈ ds, d ≤ c) → ∀ d ∈ pair ds, d ≤ 2 * c
  | [], _ => by simp [pair]
  | [a], h => by simp [pair] at h ⊢; omega
  | a :: b :: r, h => by
    intro d hd
    simp only [pair, List.mem_cons] at hd
    rcases hd with rfl | hd
    · have := h a (by simp); have := h b (by simp); omega
    · exact pair_le r (fun d hd => h d (by simp [hd])) d hd
theorem low_mask {k a R : Nat} (ha : a < 2 ^ k) : (2 ^ k * R + a) % 2 ^ k = a := by
  rw [Nat.mul_add_mod]; exact Nat.mod_eq_of_lt ha
/-- Of two fields the one behind is laid on the one ahead. -/
theorem halves1 (k : Nat) : ∀ (n : Nat) (ds : List Nat), ds.length = 2 * n → (∀ d ∈ ds, d < 2 ^ k) → (val k ds / 2 ^ k &&& mask k n) + (val k ds &&& mask k n) = val (2 * k) (pair ds)
  | 0, [], _, _ => by simp [val, mask, pair]
  | 0, _ :: _, h, _ => by simp at h
  | n + 1, [], h, _ => by simp at h
  | n + 1, [_], h, _ => by simp at h; omega
  | n + 1, a :: b :: r, h, hd => by
    have ih := halves1 k n r (by simp at h; omega) (fun d hm => hd d (by simp [hm]))
    have ha := hd a (by simp)
    have hb := hd b (by simp)
    have hp : 0 < 2 ^ k := Nat.two_pow_pos k
    have e2 : 2 ^ (2 * k) = 2 ^ k * 2 ^ k := by rw [Nat.two_mul, Nat.pow_add]
    have hM : 2 ^ k - 1 < 2 ^ (2 * k) := by rw [e2]; have := Nat.le_mul_of_pos_left (2 ^ k) hp; omega
    simp only [val, mask, pair]
    generalize hR : val k r = R at ih ⊢
    have q1 : (2 ^ k * (2 ^ k * R + b) + a) / 2 ^ k = 2 ^ k * R + b := by
      rw [Nat.mul_add_div hp, Nat.div_eq_of_lt ha]; rfl
    have sm : ∀ x y : Nat, x < 2 ^ k → y < 2 ^ k → 2 ^ k * x + y < 2 ^ (2 * k) := by
      intro x y hx hy
      rw [e2]
      have := Nat.mul_le_mul_left (2 ^ k) hx
      rw [Nat.mul_succ] at this
      omega
    have q2 : 2 ^ k * R + b = 2 ^ (2 * k) * (R / 2 ^ k) + (2 ^ k * (R % 2 ^ k) + b) := by
      have := Nat.div_add_mod R (2 ^ k)
      have h3 : 2 ^ k * R = 2 ^ k * (2 ^ k * (R / 2 ^ k) + R % 2 ^ k) := by rw [this]
      rw [Nat.mul_add, ← Nat.mul_assoc, ← e2] at h3
      omega
    have q3 : 2 ^ k * (2 ^ k * R + b) + a = 2 ^ (2 * k) * R + (2 ^ k * b + a) := by
      rw [Nat.mul_add, ← Nat.mul_assoc, ← e2]; omega
    rw [q1, q3, q2, and_split (sm _ _ (Nat.mod_lt _ hp) hb) hM, and_split (sm _ _ hb ha) hM, Nat.and_two_pow_sub_one_eq_mod, Nat.and_two_pow_sub_one_eq_mod, low_mask hb, low_mask ha, ← ih, Nat.mul_add]
    omega
/-- The same where the sum is masked, not what is added. -/
theorem halves2 (k : Nat) : ∀ (n : Nat) (ds : List Nat), ds.length = 2 * n → (∀ d ∈ ds, 2 * d < 2 ^ k) → (val k ds / 2 ^ k + val k ds) &&& mask k n = val (2 * k) (pair ds)
  | 0, [], _, _ => by simp [val, mask, pair]
  | 0, _ :: _, h, _ => by simp at h
  | n + 1, [], h, _ => by simp at h
  | n + 1, [_], h, _ => by simp at h; omega
  | n + 1, a :: b :: r, h, hd => by
    have ih := halves2 k n r (by simp at h; omega) (fun d hm => hd d (by simp [hm]))
    have ha := hd a (by simp)
    have hb := hd b (by simp)
    have hp : 0 < 2 ^ k := Nat.two_pow_pos k
    have e2 : 2 ^ (2 * k) = 2 ^ k * 2 ^ k := by rw [Nat.two_mul, Nat.pow_add]
    have hM : 2 ^ k - 1 < 2 ^ (2 * k) := by rw [e2]; have := Nat.le_mul_of_pos_left (2 ^ k) hp; omega
    have hrm : 2 * (val k r % 2 ^ k) < 2 ^ k := by
      cases r with
      | nil => simp [val]; exact hp
      | cons c r' =>
        have hc := hd c (by simp)
        simp only [val]
        rw [low_mask (by omega)]; exact hc
    simp only [val, mask, pair]
    generalize hR : val k r = R at ih hrm ⊢
    have q1 : (2 ^ k * (2 ^ k * R + b) + a) / 2 ^ k = 2 ^ k * R + b := by
      rw [Nat.mul_add_div hp, Nat.div_eq_of_lt (by omega)]; rfl
    have sm : ∀ x y : Nat, x < 2 ^ k → y < 2 ^ k → 2 ^ k * x + y < 2 ^ (2 * k) := by
      intro x y hx hy
      rw [e2]
      have := Nat.mul_le_mul_left (2 ^ k) hx
      rw [Nat.mul_succ] at this
      omega
    have q2 : 2 ^ k * R = 2 ^ (2 * k) * (R / 2 ^ k) + 2 ^ k * (R % 2 ^ k) := by
      have := Nat.div_add_mod R (2 ^ k)
      have h3 : 2 ^ k * R = 2 ^ k * (2 ^ k * (R / 2 ^ k) + R % 2 ^ k) := by rw [this]
      rw [Nat.mul_add, ← Nat.mul_assoc, ← e2] at h3
      exact h3
    have q3 : 2 ^ k * (2 ^ k * R + b) + a = 2 ^ (2 * k) * R + (2 ^ k * b + a) := by
      rw [Nat.mul_add, ← Nat.mul_assoc, ← e2]; omega
    have q4 : 2 ^ k * R + b + (2 ^ (2 * k) * R + (2 ^ k * b + a)) = 2 ^ (2 * k) * (R / 2 ^ k + R) + (2 ^ k * (R % 2 ^ k + b) + (a + b)) := by
      rw [Nat.mul_add (2 ^ (2 * k)), Nat.mul_add (2 ^ k)]; omega
    rw [q1, q3, q4, and_split (sm _ _ (by omega) (by omega)) hM, Nat.and_two_pow_sub_one_eq_mod, low_mask (by omega), ih]
/-- The digits of a number. -/
def digs (x : Nat) : Nat → List Nat
  | 0 => []
  | n + 1 => (x % 2) :: digs (x / 2) n
theorem digs_length : ∀ (n x : Nat), (digs x n).length = n
  | 0, _ => rfl
  | n + 1, x => by simp [digs, digs_length n]
theorem digs_le : ∀ (n x : Nat), ∀ d ∈ digs x n, d ≤ 1
  | 0, _ => by simp [digs]
  | n + 1, x => by
    intro d hd
    simp only [digs, List.mem_cons] at hd
    rcases hd with rfl | hd
    · omega
    · exact digs_le n _ d hd
theorem digs_val : ∀ (n x : Nat), x < 2 ^ n → val 1 (digs x n) = x
  | 0, x, h => by simp at h; simp [digs, val, h]
  | n + 1, x, h => by
    simp only [digs, val]
    rw [digs_val n (x / 2) (by rw [Nat.pow_succ] at h; omega)]
    omega
/-- How many of the bits below n are set. -/
def pop (x n : Nat) : Nat := (digs x n).sum
theorem last8 {e : List Nat} (hl : e.length = 8) (he : ∀ d ∈ e, d ≤ 8) :
    ∃ x1 x2 x3, val 8 e / 256 + val 8 e = x1 ∧ x1 / 65536 + x1 = x2 ∧ x2 / 4294967296 + x2 = x3 ∧ x1 < 18446744073709551616 ∧ x2 < 18446744073709551616 ∧ x3 < 18446744073709551616 ∧ x3 % 128 = e.sum := by
  match e, hl with
  | [e0, e1, e2, e3, e4, e5, e6, e7], _ =>
    have h0 := he e0 (by simp); have h1 := he e1 (by simp); have h2 := he e2 (by simp); have h3 := he e3 (by simp)
    have h4 := he e4 (by simp); have h5 := he e5 (by simp); have h6 := he e6 (by simp); have h7 := he e7 (by simp)
    refine ⟨_, _, _, rfl, rfl, rfl, ?_⟩
    simp only [val, List.sum_cons, List.sum_nil]
    have a0 : 2 ^ 8 * (2 ^ 8 * (2 ^ 8 * (2 ^ 8 * (2 ^ 8 * (2 ^ 8 * (2 ^ 8 * (2 ^ 8 * 0 + e7) + e6) + e5) + e4) + e3) + e2) + e1) + e0 = (e0) + 256 * (e1) + 65536 * (e2) + 16777216 * (e3) + 4294967296 * (e4) + 1099511627776 * (e5) + 281474976710656 * (e6) + 72057594037927936 * (e7) := by omega
    rw [a0]
    clear a0 he
    have a1 : ((e0) + 256 * (e1) + 65536 * (e2) + 16777216 * (e3) + 4294967296 * (e4) + 1099511627776 * (e5) + 281474976710656 * (e6) + 72057594037927936 * (e7)) / 256 + ((e0) + 256 * (e1) + 65536 * (e2) + 16777216 * (e3) + 4294967296 * (e4) + 1099511627776 * (e5) + 281474976710656 * (e6) + 72057594037927936 * (e7)) = (e0 + e1) + 256 * (e1 + e2) + 65536 * (e2 + e3) + 16777216 * (e3 + e4) + 4294967296 * (e4 + e5) + 1099511627776 * (e5 + e6) + 281474976710656 * (e6 + e7) + 72057594037927936 * (e7) := by omega
    have a2 : ((e0 + e1) + 256 * (e1 + e2) + 65536 * (e2 + e3) + 16777216 * (e3 + e4) + 4294967296 * (e4 + e5) + 1099511627776 * (e5 + e6) + 281474976710656 * (e6 + e7) + 72057594037927936 * (e7)) / 65536 + ((e0 + e1) + 256 * (e1 + e2) + 65536 * (e2 + e3) + 16777216 * (e3 + e4) + 4294967296 * (e4 + e5) + 1099511627776 * (e5 + e6) + 281474976710656 * (e6 + e7) + 72057594037927936 * (e7)) = (e0 + e1 + (e2 + e3)) + 256 * (e1 + e2 + (e3 + e4)) + 65536 * (e2 + e3 + (e4 + e5)) + 16777216 * (e3 + e4 + (e5 + e6)) + 4294967296 * (e4 + e5 + (e6 + e7)) + 1099511627776 * (e5 + e6 + (e7)) + 281474976710656 * (e6 + e7) + 72057594037927936 * (e7) := by omega
    have a3 : ((e0 + e1 + (e2 + e3)) + 256 * (e1 + e2 + (e3 + e4)) + 65536 * (e2 + e3 + (e4 + e5)) + 16777216 * (e3 + e4 + (e5 + e6)) + 4294967296 * (e4 + e5 + (e6 + e7)) + 1099511627776 * (e5 + e6 + (e7)) + 281474976710656 * (e6 + e7) + 72057594037927936 * (e7)) / 4294967296 + ((e0 + e1 + (e2 + e3)) + 256 * (e1 + e2 + (e3 + e4)) + 65536 * (e2 + e3 + (e4 + e5)) + 16777216 * (e3 + e4 + (e5 + e6)) + 4294967296 * (e4 + e5 + (e6 + e7)) + 1099511627776 * (e5 + e6 + (e7)) + 281474976710656 * (e6 + e7) + 72057594037927936 * (e7)) = (e0 + e1 + (e2 + e3) + (e4 + e5 + (e6 + e7))) + 256 * (e1 + e2 + (e3 + e4) + (e5 + e6 + (e7))) + 65536 * (e2 + e3 + (e4 + e5) + (e6 + e7)) + 16777216 * (e3 + e4 + (e5 + e6) + (e7)) + 4294967296 * (e4 + e5 + (e6 + e7)) + 1099511627776 * (e5 + e6 + (e7)) + 281474976710656 * (e6 + e7) + 72057594037927936 * (e7) := by omega
    rw [a1, a2, a3]
    clear a1 a2 a3
    refine ⟨by omega, by omega, by omega, by omega⟩
theorem ones (x : Nat) (hx : x < 2 ^ 64) : ∃ c1 c2 c3 x1 x2 x3,
    (x / 2 &&& 6148914691236517205) + (x &&& 6148914691236517205) = c1 ∧ (c1 / 4 &&& 3689348814741910323) + (c1 &&& 3689348814741910323) = c2 ∧ (c2 / 16 + c2) &&& 1085102592571150095 = c3 ∧
    c3 / 256 + c3 = x1 ∧ x1 / 65536 + x1 = x2 ∧ x2 / 4294967296 + x2 = x3 ∧ c1 < 18446744073709551616 ∧ c2 < 18446744073709551616 ∧ c2 / 16 + c2 < 18446744073709551616 ∧ c3 < 18446744073709551616 ∧ x1 < 18446744073709551616 ∧ x2 < 18446744073709551616 ∧ x3 < 18446744073709551616 ∧ x3 % 128 = pop x 64 := by
  have l0 := digs_length 64 x
  have d0 := digs_le 64 x
  have v0 := digs_val 64 x hx
  have s1 := halves1 1 32 _ l0 (fun d h => by have := d0 d h; omega)
  have l1 := pair_length 32 _ l0
  have d1 := pair_le _ d0
  have s2 := halves1 2 16 _ l1 (fun d h => by have := d1 d h; omega)
  have l2 := pair_length 16 _ l1
  have d2 := pair_le _ d1
  have s3 := halves2 4 8 _ l2 (fun d h => by have := d2 d h; omega)
  have l3 := pair_length 8 _ l2
  have d3 := pair_le _ d2
  obtain ⟨x1, x2, x3, e1, e2, e3, b1, b2, b3, e4⟩ := last8 l3 (fun d h => by have := d3 d h; omega)
  have m0 : mask 1 32 = 6148914691236517205 := by decide
  have m1 : mask 2 16 = 3689348814741910323 := by decide
  have m2 : mask 4 8 = 1085102592571150095 := by decide
  rw [v0, m0] at s1
  rw [m1] at s2
  rw [m2] at s3
  have p1 : (2 : Nat) ^ 1 = 2 := rfl
  have p2 : (2 : Nat) ^ 2 = 4 := rfl
  have p4 : (2 : Nat) ^ 4 = 16 := rfl
  have t1 : 2 * 1 = 2 := rfl
  have t2 : 2 * 2 = 4 := rfl
  have t4 : 2 * 4 = 8 := rfl
  rw [p1, t1] at s1
  rw [p2, t2] at s2
  rw [p4, t4] at s3
  have a1 : (x / 2 &&& 6148914691236517205) ≤ 6148914691236517205 := Nat.and_le_right
  have a2 : (x &&& 6148914691236517205) ≤ 6148914691236517205 := Nat.and_le_right
  generalize hc1 : val 2 (pair (digs x 64)) = c1 at *
  have a3 : (c1 / 4 &&& 3689348814741910323) ≤ 3689348814741910323 := Nat.and_le_right
  have a4 : (c1 &&& 3689348814741910323) ≤ 3689348814741910323 := Nat.and_le_right
  generalize hc2 : val 4 (pair (pair (digs x 64))) = c2 at *
  have a5 : ((c2 / 16 + c2) &&& 1085102592571150095) ≤ 1085102592571150095 := Nat.and_le_right
  refine ⟨c1, c2, _, x1, x2, x3, s1, s2, s3, e1, e2, e3, by omega, by omega, by omega, by omega, b1, b2, b3, ?_⟩
  rw [e4, sum_pair, sum_pair, sum_pair]; rfl
end Go.Proofs.Ytmmjlnicfndmcaa.Bt
namespace Go.Proofs.Ytmmjlnicfndmcaa.Bt
/-- Word k of a set. -/
def wd (B : List Bool) (k : Nat) : Nat := num (fun j => B.getD (64 * k + j) false) 64
/-- How many words. -/
def nw (n : Nat) : Nat := (n + 63) / 64
def words (B : List Bool) : List Nat := (List.range (nw B.length)).map (wd B)
theorem words_length (B : List Bool) : (words B).length = nw B.length := by simp [words]
theorem words_get (B : List Bool) {k : Nat} (h : k < nw B.length) : (words B)[k]? = some (wd B k) := by
  simp [words, h]
theorem wd_lt (B : List Bool) (k : Nat) : wd B k < 18446744073709551616 := num_lt _ 64
theorem wd_bit (B : List Bool) (k j : Nat) (h : j < 64) : (wd B k).testBit j = B.getD (64 * k + j) false := by
  unfold wd; rw [num_testBit]; simp [h]
theorem split64 (i : Nat) : 64 * (i / 64) + i % 64 = i := by omega
theorem nw_lt {n i : Nat} (h : i < n) : i / 64 < nw n := by unfold nw; omega
theorem wd_at (B : List Bool) (i : Nat) : wd B (i / 64) / 2 ^ (i % 64) % 2 = if B.getD i false then 1 else 0 := by
  have h := wd_bit B (i / 64) (i % 64) (Nat.mod_lt _ (by decide))
  rw [split64, Nat.testBit_eq_decide_div_mod_eq] at h
  rw [← h]
  by_cases h1 : wd B (i / 64) / 2 ^ (i % 64) % 2 = 1
  · simp [h1]
  · simp [h1]; omega
theorem getD_set_b (B : List Bool) (i j : Nat) (b : Bool) : (B.set i b).getD j false = if j = i ∧ i < B.length then b else B.getD j false := by
  simp only [List.getD_eq_getElem?_getD, List.getElem?_set]
  by_cases h : i = j
  · subst h
    by_cases h2 : i < B.length
    · simp [h2]
    · simp [h2]
  · rw [if_neg h, if_neg (fun e => h e.1.symm)]
theorem wd_put (B : List Bool) {i : Nat} (hi : i < B.length) : wd (B.set i true) (i / 64) = wd B (i / 64) ||| 2 ^ (i % 64) := by
  apply Nat.eq_of_testBit_eq
  intro j
  rw [Nat.testBit_or, Nat.testBit_two_pow]
  by_cases hj : j < 64
  · rw [wd_bit _ _ _ hj, wd_bit _ _ _ hj, getD_set_b]
    by_cases e : i % 64 = j
    · have : 64 * (i / 64) + j = i := by omega
      rw [if_pos ⟨this, hi⟩]; simp [e]
    · have : ¬ 64 * (i / 64) + j = i := by omega
      rw [if_neg (fun h => this h.1)]; simp [e]
  · have e : ¬ i % 64 = j := by omega
    unfold wd
    rw [num_testBit, num_testBit]; simp [hj, e]
theorem wd_drop (B : List Bool) {i : Nat} (hi : i < B.length) : wd (B.set i false) (i / 64) = wd B (i / 64) &&& (18446744073709551615 - 2 ^ (i % 64)) := by
  apply Nat.eq_of_testBit_eq
  intro j
  have hp : (2 : Nat) ^ (i % 64) < 2 ^ 64 := Nat.pow_lt_pow_right (by decide) (Nat.mod_lt _ (by decide))
  have e64 : (18446744073709551615 : Nat) - 2 ^ (i % 64) = 2 ^ 64 - (2 ^ (i % 64) + 1) := by omega
  rw [Nat.testBit_and, e64, Nat.testBit_two_pow_sub_succ hp, Nat.testBit_two_pow]
  by_cases hj : j < 64
  · rw [wd_bit _ _ _ hj, wd_bit _ _ _ hj, getD_set_b]
    by_cases e : i % 64 = j
    · have : 64 * (i / 64) + j = i := by omega
      rw [if_pos ⟨this, hi⟩]; simp [e]
    · have : ¬ 64 * (i / 64) + j = i := by omega
      rw [if_neg (fun h => this h.1)]; simp [e, hj]
  · unfold wd
    rw [num_testBit, num_testBit]; simp [hj]
theorem wd_other (B : List Bool) {i k : Nat} (b : Bool) (h : k ≠ i / 64) : wd (B.set i b) k = wd B k := by
  unfold wd
  apply num_congr
  intro j hj
  rw [getD_set_b, if_neg]
  intro e; omega
theorem words_set (B : List Bool) {i : Nat} (hi : i < B.length) (b : Bool) : words (B.set i b) = (words B).set (i / 64) (wd (B.set i b) (i / 64)) := by
  apply List.ext_getElem?
  intro k
  rw [List.getElem?_set]
  by_cases hk : k < nw B.length
  · rw [words_get _ (by simpa using hk)]
    by_cases e : i / 64 = k
    · subst e; simp [words_length, hk]
    · rw [if_neg e, words_get _ hk, wd_other _ _ (fun h => e h.symm)]
  · have h1 : (words (B.set i b))[k]? = none := List.getElem?_eq_none (by rw [words_length]; simp; omega)
    have h2 : (words B)[k]? = none := List.getElem?_eq_none (by rw [words_length]; omega)
    have : ¬ i / 64 = k := by have := nw_lt hi; omega
    rw [h1, if_neg this, h2]
theorem words_inj {B C : List Bool} (hl : B.length = C.length) (h : words B = words C) : B = C := by
  apply List.ext_getElem hl
  intro i h1 h2
  have a := words_get B (nw_lt h1)
  have b := words_get C (nw_lt h2)
  rw [h, b] at a
  have e := Option.some.inj a
  have w1 := wd_bit B (i / 64) (i % 64) (Nat.mod_lt _ (by decide))
  have w2 := wd_bit C (i / 64) (i % 64) (Nat.mod_lt _ (by decide))
  rw [e, w1, split64] at w2
  simpa [List.getD_eq_getElem?_getD, h1, h2] using w2
/-! The least from one on. -/
/-- The least k, i ≤ k < B.length, where B says b. -/
def seekN (b : Bool) (B : List Bool) (i : Nat) : Nat → Option Nat
  | 0 => none
  | f + 1 => if i < B.length then (if B.getD i false = b then some i else seekN b B (i + 1) f) else none
def seekO (b : Bool) (B : List Bool) (i : Nat) : Option Nat := seekN b B i (B.length - i + 1)
def seekI (b : Bool) (B : List Bool) (i : Int) : Int := match seekO b B i.toNat with
  | some k => k
  | none => -1
theorem seekN_some {b : Bool} {B : List Bool} : ∀ (f i k : Nat), seekN b B i f = some k → i ≤ k ∧ k < B.length ∧ B.getD k false = b ∧ ∀ j, i ≤ j → j < k → B.getD j false ≠ b
  | 0, i, k, h => by simp [seekN] at h
  | f + 1, i, k, h => by
    unfold seekN at h
    split at h
    · split at h
      · cases h; rename_i h1 h2; exact ⟨Nat.le_refl _, h1, h2, fun j h3 h4 => by omega⟩
      · rename_i h1 h2
        obtain ⟨a1, a2, a3, a4⟩ := seekN_some f (i + 1) k h
        refine ⟨by omega, a2, a3, fun j h3 h4 => ?_⟩
        by_cases e : j = i
        · subst e; exact h2
        · exact a4 j (by omega) h4
    · cases h
theorem seekN_none {b : Bool} {B : List Bool} : ∀ (f i : Nat), B.length < i + f → seekN b B i f = none → ∀ j, i ≤ j → j < B.length → B.getD j false ≠ b
  | 0, i, hf, h => fun j h1 h2 => by omega
  | f + 1, i, hf, h => by
    unfold seekN at h
    intro j h1 h2
    split at h
    · split at h
      · cases h
      · rename_i h3 h4
        by_cases e : j = i
        · subst e; exact h4
        · exact seekN_none f (i + 1) (by omega) h j (by omega) h2
    · omega
theorem seekO_some {b : Bool} {B : List Bool} {i k : Nat} (h : seekO b B i = some k) : i ≤ k ∧ k < B.length ∧ B.getD k false = b ∧ ∀ j, i ≤ j → j < k → B.getD j false ≠ b := seekN_some _ _ _ h
theorem seekO_none {b : Bool} {B : List Bool} {i : Nat} (h : seekO b B i = none) : ∀ j, i ≤ j → j < B.length → B.getD j false ≠ b := seekN_none _ _ (by omega) h
theorem seekO_is {b : Bool} {B : List Bool} {i k : Nat} (h1 : i ≤ k) (h2 : k < B.length) (h3 : B.getD k false = b) (h4 : ∀ j, i ≤ j → j < k → B.getD j false ≠ b) : seekO b B i = some k := by
  cases h : seekO b B i with
  | none => exact absurd h3 (seekO_none h k h1 h2)
  | some q =>
    obtain ⟨a1, a2, a3, a4⟩ := seekO_some h
    congr 1
    rcases Nat.lt_trichotomy q k with e | e | e
    · exact absurd a3 (h4 q a1 e)
    · exact e
    · exact absurd h3 (a4 k h1 e)
theorem seekO_not {b : Bool} {B : List Bool} {i : Nat} (h : ∀ j, i ≤ j → j < B.length → B.getD j false ≠ b) : seekO b B i = none := by
  cases e : seekO b B i with
  | none => rfl
  | some k => obtain ⟨a1, a2, a3, _⟩ := seekO_some e; exact absurd a3 (h k a1 a2)
theorem seekO_here {b : Bool} {B : List Bool} {i : Nat} (h1 : i < B.length) (h2 : B.getD i false = b) : seekO b B i = some i := seekO_is (Nat.le_refl _) h1 h2 (fun j h3 h4 => by omega)
theorem seekO_next {b : Bool} {B : List Bool} {i : Nat} (h2 : B.getD i false ≠ b) : seekO b B i = seekO b B (i + 1) := by
  cases e : seekO b B (i + 1) with
  | none =>
    refine seekO_not (fun j h3 h4 => ?_)
    by_cases e2 : j = i
    · subst e2; exact h2
    · exact seekO_none e j (by omega) h4
  | some k =>
    obtain ⟨a1, a2, a3, a4⟩ := seekO_some e
    refine seekO_is (by omega) a2 a3 (fun j h3 h4 => ?_)
    by_cases e2 : j = i
    · subst e2; exact h2
    · exact a4 j (by omega) h4
end Go.Proofs.Ytmmjlnicfndmcaa.Bt
namespace Go.Proofs.Ytmmjlnicfndmcaa.Bt
/-- How far the lowest bit lies. -/
def ctzN : Nat → Nat → Nat
  | 0, _ => 0
  | f + 1, x => if x % 2 = 1 then 0 else 1 + ctzN f (x / 2)
theorem ctzN_spec : ∀ (f x : Nat), 0 < x → x < 2 ^ f → ctzN f x < f ∧ x.testBit (ctzN f x) = true ∧ ∀ j, j < ctzN f x → x.testBit j = false
  | 0, x, h0, h => by simp at h; omega
  | f + 1, x, h0, h => by
    unfold ctzN
    split
    · rename_i h1
      refine ⟨by omega, by simp [Nat.testBit_zero, h1], fun j hj => by omega⟩
    · rename_i h1
      obtain ⟨a, b, c⟩ := ctzN_spec f (x / 2) (by omega) (by rw [Nat.pow_succ] at h; omega)
      refine ⟨by omega, by rw [Nat.add_comm, Nat.testBit_succ]; exact b, ?_⟩
      intro j hj
      cases j with
      | zero => simp [Nat.testBit_zero]; omega
      | succ j => rw [Nat.testBit_succ]; exact c j (by omega)
def maskOf (b : Bool) : Nat := if b then 0 else 18446744073709551615
theorem mask_bit (b : Bool) {j : Nat} (h : j < 64) : (maskOf b).testBit j = !b := by
  cases b
  · have e : maskOf false = 2 ^ 64 - 1 := rfl
    rw [e, Nat.testBit_two_pow_sub_one]; simp [h]
  · simp [maskOf]
/-- While the search is at word k, with w left of it. -/
structure Sk (B : List Bool) (b : Bool) (i k w : Nat) : Prop where
  lt : w < 2 ^ 64
  kk : k < nw B.length
  bit : ∀ j, j < 64 → w.testBit j = (decide (i ≤ 64 * k + j) && (B.getD (64 * k + j) false == b))
  no : ∀ p, i ≤ p → p < 64 * k → B.getD p false ≠ b
  ik : i < 64 * k + 64
theorem xor_bit (B : List Bool) (b : Bool) (k : Nat) {j : Nat} (h : j < 64) : (wd B k ^^^ maskOf b).testBit j = (B.getD (64 * k + j) false == b) := by
  rw [Nat.testBit_xor, wd_bit _ _ _ h, mask_bit b h]
  cases B.getD (64 * k + j) false <;> cases b <;> rfl
theorem mask_lt (b : Bool) : maskOf b < 2 ^ 64 := by cases b <;> decide
theorem xor_lt (B : List Bool) (b : Bool) (k : Nat) : wd B k ^^^ maskOf b < 2 ^ 64 := Nat.xor_lt_two_pow (wd_lt B k) (mask_lt b)
theorem Sk.start {B : List Bool} (b : Bool) {i : Nat} (hi : i < B.length) : Sk B b i (i / 64) ((wd B (i / 64) ^^^ maskOf b) / 2 ^ (i % 64) * 2 ^ (i % 64)) := by
  refine ⟨?_, nw_lt hi, ?_, fun p h1 h2 => by omega, by omega⟩
  · exact Nat.lt_of_le_of_lt (Nat.div_mul_le_self _ _) (xor_lt B b _)
  · intro j hj
    rw [Nat.testBit_mul_two_pow]
    by_cases h : i % 64 ≤ j
    · rw [← Nat.shiftRight_eq_div_pow, Nat.testBit_shiftRight]
      have e : i % 64 + (j - i % 64) = j := by omega
      rw [e, xor_bit B b _ hj]
      have : i ≤ 64 * (i / 64) + j := by omega
      simp [h, this]
    · have : ¬ i ≤ 64 * (i / 64) + j := by omega
      simp [h, this]
theorem Sk.next {B : List Bool} {b : Bool} {i k : Nat} (h : Sk B b i k 0) (hk : k + 1 < nw B.length) : Sk B b i (k + 1) (wd B (k + 1) ^^^ maskOf b) := by
  refine ⟨xor_lt B b _, hk, ?_, ?_, by have := h.ik; omega⟩
  · intro j hj
    have := h.ik
    have e : i ≤ 64 * (k + 1) + j := by omega
    rw [xor_bit B b _ hj]; simp [e]
  · intro p h1 h2
    by_cases h3 : p < 64 * k
    · exact h.no p h1 h3
    · have h4 := h.bit (p - 64 * k) (by omega)
      have e : 64 * k + (p - 64 * k) = p := by omega
      rw [e] at h4
      intro hc
      rw [hc] at h4; simp [h1] at h4
theorem Sk.ended {B : List Bool} {b : Bool} {i k : Nat} (h : Sk B b i k 0) (hk : k + 1 = nw B.length) : seekO b B i = none := by
  refine seekO_not (fun p h1 h2 => ?_)
  by_cases h3 : p < 64 * k
  · exact h.no p h1 h3
  · have hp : p < 64 * k + 64 := by unfold nw at hk; omega
    have h4 := h.bit (p - 64 * k) (by omega)
    have e : 64 * k + (p - 64 * k) = p := by omega
    rw [e] at h4
    intro hc
    rw [hc] at h4; simp [h1] at h4
theorem Sk.found {B : List Bool} {b : Bool} {i k w : Nat} (h : Sk B b i k w) (hw : w ≠ 0) : ctzN 64 w < 64 ∧ seekO b B i = if B.length ≤ 64 * k + ctzN 64 w then none else some (64 * k + ctzN 64 w) := by
  obtain ⟨c1, c2, c3⟩ := ctzN_spec 64 w (Nat.pos_of_ne_zero hw) h.lt
  refine ⟨c1, ?_⟩
  generalize ctzN 64 w = c at c1 c2 c3
  have h4 := h.bit c c1
  rw [c2] at h4
  have h5 : i ≤ 64 * k + c ∧ B.getD (64 * k + c) false = b := by
    by_cases a : i ≤ 64 * k + c
    · simp [a] at h4; exact ⟨a, h4⟩
    · simp [a] at h4
  have hno : ∀ j, i ≤ j → j < 64 * k + c → B.getD j false ≠ b := by
    intro p h1 h2
    by_cases h3 : p < 64 * k
    · exact h.no p h1 h3
    · have h4 := h.bit (p - 64 * k) (by omega)
      rw [c3 (p - 64 * k) (by omega)] at h4
      have e : 64 * k + (p - 64 * k) = p := by omega
      rw [e] at h4
      intro hc
      rw [hc] at h4; simp [h1] at h4
  split
  · rename_i hl
    exact seekO_not (fun j h1 h2 => hno j h1 (by omega))
  · rename_i hl
    exact seekO_is h5.1 (by omega) h5.2 hno
/-! How many. -/
def cnt (B : List Bool) : Nat := (B.filter id).length
theorem digs_num (f : Nat → Bool) : ∀ n, digs (num f n) n = (List.range n).map (fun j => if f j then 1 else 0) := by
  intro n
  have key : ∀ (n : Nat) (f : Nat → Bool), digs (num f n) n = (List.range n).map (fun j => if f j then 1 else 0) := by
    intro n
    induction n with
    | zero => intro f; rfl
    | succ n ih =>
      intro f
      have h0 : num f (n + 1) % 2 = if f 0 then 1 else 0 := by
        have := num_testBit f (n + 1) 0
        rw [Nat.testBit_zero] at this
        simp at this
        cases h : f 0 <;> simp [h] at this ⊢ <;> omega
      have h1 : num f (n + 1) / 2 = num (fun j => f (j + 1)) n := by
        apply Nat.eq_of_testBit_eq
        intro i
        rw [← Nat.testBit_succ, num_testBit, num_testBit]
        simp
      show (num f (n + 1) % 2) :: digs (num f (n + 1) / 2) n = _
      rw [h0, h1, ih, List.range_succ_eq_map]
      simp [Function.comp_def]
  exact key n f
theorem sum_bits (B : List Bool) : ((List.range B.length).map (fun j => if B.getD j false then 1 else 0)).sum = cnt B := by
  induction B with
  | nil => rfl
  | cons b B ih =>
    rw [List.length_cons, List.range_succ_eq_map]
    simp only [List.map_cons, List.sum_cons, List.map_map, Function.comp_def, List.getD_cons_zero, List.getD_cons_succ, ih]
    unfold cnt
    cases b <;> simp [Nat.add_comm]
theorem sum_past (B : List Bool) : ∀ d, ((List.range (B.length + d)).map (fun j => if B.getD j false then 1 else 0)).sum = cnt B
  | 0 => sum_bits B
  | d + 1 => by
    rw [← Nat.add_assoc, List.range_succ, List.map_append, List.sum_append, sum_past B d]
    simp
theorem pop_num (f : Nat → Bool) (n : Nat) : pop (num f n) n = ((List.range n).map (fun j => if f j then 1 else 0)).sum := by unfold pop; rw [digs_num]
theorem pop_wd (B : List Bool) (k : Nat) : pop (wd B k) 64 = ((List.range 64).map (fun j => if B.getD (64 * k + j) false then 1 else 0)).sum := pop_num _ 64
/-- What the words ahead of the k-th have. -/
theorem pop_words (B : List Bool) (k : Nat) : ((List.range k).map (fun q => pop (wd B q) 64)).sum = ((List.range (64 * k)).map (fun j => if B.getD j false then 1 else 0)).sum := by
  induction k with
  | zero => simp
  | succ k ih =>
    have e : 64 * (k + 1) = 64 * k + 64 := by omega
    rw [List.range_succ, List.map_append, List.sum_append, ih, e, List.range_add, List.map_append, List.sum_append, List.map_singleton, List.sum_singleton, pop_wd, List.map_map]
    rfl
theorem pop_all (B : List Bool) : ((words B).map (fun x => pop x 64)).sum = cnt B := by
  unfold words
  rw [List.map_map]
  have := pop_words B (nw B.length)
  simp only [Function.comp_def]
  rw [this]
  have e : 64 * nw B.length = B.length + (64 * nw B.length - B.length) := by unfold nw; omega
  rw [e]
  exact sum_past B _
end Go.Proofs.Ytmmjlnicfndmcaa.Bt
namespace Go.Proofs.Ytmmjlnicfndmcaa.Bt
/-- The numbers ahead of the i-th that are in it. -/
def allTo (B : List Bool) (i : Nat) : List Nat := (List.range i).filter (fun j => B.getD j false)
def allL (B : List Bool) : List Nat := allTo B B.length
theorem allTo_succ (B : List Bool) (i : Nat) : allTo B (i + 1) = if B.getD i false = true then allTo B i ++ [i] else allTo B i := by
  unfold allTo
  rw [List.range_succ, List.filter_append]
  cases h : B.getD i false
  · rw [List.filter_cons_of_neg (p := fun j => B.getD j false) (a := i) (by simpa using h)]; simp
  · rw [List.filter_cons_of_pos (p := fun j => B.getD j false) (a := i) h]; simp
theorem allTo_skip {B : List Bool} {i : Nat} : ∀ d, (∀ j, i ≤ j → j < i + d → B.getD j false ≠ true) → allTo B (i + d) = allTo B i
  | 0, _ => rfl
  | d + 1, h => by
    rw [← Nat.add_assoc, allTo_succ, if_neg (h (i + d) (by omega) (by omega)), allTo_skip d (fun j h1 h2 => h j h1 (by omega))]
theorem allTo_none {B : List Bool} {i : Nat} (hi : i ≤ B.length) (h : seekO true B i = none) : allL B = allTo B i := by
  have e : B.length = i + (B.length - i) := by omega
  unfold allL
  rw [e]
  exact allTo_skip _ (fun j h1 h2 => seekO_none h j h1 (by omega))
theorem allTo_some {B : List Bool} {i k : Nat} (h : seekO true B i = some k) : allTo B (k + 1) = allTo B i ++ [k] := by
  obtain ⟨a1, a2, a3, a4⟩ := seekO_some h
  rw [allTo_succ, if_pos a3]
  have e : k = i + (k - i) := by omega
  congr 1
  rw [e]
  exact allTo_skip _ (fun j h1 h2 => a4 j h1 (by omega))
theorem allTo_prefix (B : List Bool) {i k : Nat} (h : i ≤ k) : allTo B i <+: allTo B k := by
  unfold allTo
  have e : k = i + (k - i) := by omega
  rw [e, List.range_add, List.filter_append]
  exact List.prefix_append _ _
theorem allL_cnt (B : List Bool) : (allL B).length = cnt B := by
  have key : ∀ B : List Bool, ((List.range B.length).filter (fun j => B.getD j false)).length = cnt B := by
    intro B
    have h : ∀ (l : List Nat) (p : Nat → Bool), (l.filter p).length = (l.map (fun j => if p j then 1 else 0)).sum := by
      intro l p
      induction l with
      | nil => rfl
      | cons a l ih => cases h : p a <;> simp [h, ih]; omega
    rw [h]; exact sum_bits B
  exact key B
/-! The rows of numbers that are not in it. -/
def bump : List (Nat × Nat) → List (Nat × Nat)
  | [] => []
  | [(a, n)] => [(a, n + 1)]
  | x :: y :: r => x :: bump (y :: r)
theorem bump_append (X : List (Nat × Nat)) (a n : Nat) : bump (X ++ [(a, n)]) = X ++ [(a, n + 1)] := by
  induction X with
  | nil => rfl
  | cons x X ih =>
    cases X with
    | nil => rfl
    | cons y r => simp only [List.cons_append, bump] at ih ⊢; rw [ih]
/-- The gaps among the numbers below i. -/
def gapsTo (B : List Bool) : Nat → List (Nat × Nat)
  | 0 => []
  | i + 1 => if B.getD i false = true then gapsTo B i else if i = 0 ∨ B.getD (i - 1) false = true then gapsTo B i ++ [(i, 1)] else bump (gapsTo B i)
def gapsL (B : List Bool) : List (Nat × Nat) := gapsTo B B.length
theorem gapsTo_in {B : List Bool} {i : Nat} : ∀ d, (∀ j, i ≤ j → j < i + d → B.getD j false ≠ false) → gapsTo B (i + d) = gapsTo B i
  | 0, _ => rfl
  | d + 1, h => by
    have h1 : B.getD (i + d) false = true := by have := h (i + d) (by omega) (by omega); simpa using this
    rw [← Nat.add_assoc]
    show (if B.getD (i + d) false = true then gapsTo B (i + d) else _) = _
    rw [if_pos h1, gapsTo_in d (fun j h1 h2 => h j h1 (by omega))]
theorem gapsTo_out {B : List Bool} {i : Nat} (h0 : i = 0 ∨ B.getD (i - 1) false = true) : ∀ d, (∀ j, i ≤ j → j < i + (d + 1) → B.getD j false ≠ true) → gapsTo B (i + (d + 1)) = gapsTo B i ++ [(i, d + 1)]
  | 0, h => by
    have h1 := h i (by omega) (by omega)
    show (if B.getD i false = true then _ else if i = 0 ∨ B.getD (i - 1) false = true then gapsTo B i ++ [(i, 1)] else _) = _
    rw [if_neg h1, if_pos h0]
  | d + 1, h => by
    have h1 := h (i + (d + 1)) (by omega) (by omega)
    have h2 := h (i + d) (by omega) (by omega)
    have e : i + (d + 1) - 1 = i + d := by omega
    have h3 : ¬ (i + (d + 1) = 0 ∨ B.getD (i + (d + 1) - 1) false = true) := by rw [e]; intro hc; rcases hc with hc | hc; omega; exact h2 hc
    show (if B.getD (i + (d + 1)) false = true then _ else if i + (d + 1) = 0 ∨ B.getD (i + (d + 1) - 1) false = true then _ else bump (gapsTo B (i + (d + 1)))) = _
    rw [if_neg h1, if_neg h3, gapsTo_out h0 d (fun j h1 h2 => h j h1 (by omega)), bump_append]
/-- At a number behind which a gap may begin. -/
def Edge (B : List Bool) (i : Nat) : Prop := i = 0 ∨ B.getD i false = true
theorem edge_free {B : List Bool} {i a : Nat} (h : Edge B i) (hs : seekO false B i = some a) : gapsTo B a = gapsTo B i ∧ (a = 0 ∨ B.getD (a - 1) false = true) := by
  obtain ⟨a1, a2, a3, a4⟩ := seekO_some hs
  have e : a = i + (a - i) := by omega
  refine ⟨?_, ?_⟩
  · rw [e]; exact gapsTo_in _ (fun j h1 h2 => a4 j h1 (by omega))
  · by_cases h2 : a = 0
    · exact .inl h2
    · right
      by_cases h3 : a = i
      · rcases h with h | h
        · omega
        · rw [← h3, a3] at h; cases h
      · have := a4 (a - 1) (by omega) (by omega); simpa using this
theorem edge_end {B : List Bool} {i a e : Nat} (h : Edge B i) (hs : seekO false B i = some a) (he : seekO true B a = some e) : gapsTo B e = gapsTo B i ++ [(a, e - a)] ∧ Edge B e ∧ a < e ∧ e < B.length := by
  obtain ⟨g, h0⟩ := edge_free h hs
  obtain ⟨b1, b2, b3, b4⟩ := seekO_some he
  obtain ⟨_, _, a3, _⟩ := seekO_some hs
  have ne : a ≠ e := fun h => by rw [h, b3] at a3; cases a3
  have q : e = a + (e - a - 1 + 1) := by omega
  refine ⟨?_, .inr b3, by omega, b2⟩
  have := gapsTo_out h0 (e - a - 1) (fun j h1 h2 => b4 j h1 (by omega))
  rw [← q, g] at this
  rw [this]
  have : e - a - 1 + 1 = e - a := by omega
  rw [this]
theorem edge_last {B : List Bool} {i a : Nat} (h : Edge B i) (hs : seekO false B i = some a) (he : seekO true B a = none) : gapsL B = gapsTo B i ++ [(a, B.length - a)] := by
  obtain ⟨g, h0⟩ := edge_free h hs
  obtain ⟨_, a2, _, _⟩ := seekO_some hs
  have q : B.length = a + (B.length - a - 1 + 1) := by omega
  have := gapsTo_out h0 (B.length - a - 1) (fun j h1 h2 => seekO_none he j h1 (by omega))
  rw [← q, g] at this
  unfold gapsL
  rw [this]
  have : B.length - a - 1 + 1 = B.length - a := by omega
  rw [this]
theorem edge_none {B : List Bool} {i : Nat} (hi : i ≤ B.length) (hs : seekO false B i = none) : gapsL B = gapsTo B i := by
  have q : B.length = i + (B.length - i) := by omega
  unfold gapsL
  rw [q]
  exact gapsTo_in _ (fun j h1 h2 => seekO_none hs j h1 (by omega))
/-! Bytes. -/
def byt (B : List Bool) (k : Nat) : Nat := num (fun j => B.getD (8 * k + j) false) 8
def nb (n : Nat) : Nat := (n + 7) / 8
def bytes (B : List Bool) : List Nat := (List.range (nb B.length)).map (byt B)
theorem byt_lt (B : List Bool) (k : Nat) : byt B k < 256 := num_lt _ 8
theorem byt_wd (B : List Bool) (i : Nat) : wd B (i / 8) / 2 ^ (i % 8 * 8) % 256 = byt B i := by
  apply Nat.eq_of_testBit_eq
  intro j
  have e : (256 : Nat) = 2 ^ 8 := rfl
  rw [e, Nat.testBit_mod_two_pow, ← Nat.shiftRight_eq_div_pow, Nat.testBit_shiftRight]
  unfold byt
  rw [num_testBit]
  by_cases hj : j < 8
  · rw [wd_bit _ _ _ (by omega)]
    have e2 : 64 * (i / 8) + (i % 8 * 8 + j) = 8 * i + j := by omega
    rw [e2]
  · simp [hj]
/-- The bytes while the bits ahead of i are laid. -/
def bytTo (B : List Bool) (i k : Nat) : Nat := num (fun j => decide (8 * k + j < i) && B.getD (8 * k + j) false) 8
theorem bytTo_all (B : List Bool) (k : Nat) : bytTo B B.length k = byt B k := by
  apply num_congr
  intro j _
  by_cases h : 8 * k + j < B.length
  · simp [h]
  · simp [h]
theorem bytTo_zero (B : List Bool) (k : Nat) : bytTo B 0 k = 0 := by
  apply Nat.eq_of_testBit_eq
  intro i
  unfold bytTo
  rw [num_testBit]; simp
theorem bytTo_off (B : List Bool) {i : Nat} (h : B.getD i false = false) (k : Nat) : bytTo B (i + 1) k = bytTo B i k := by
  apply num_congr
  intro j _
  by_cases e : 8 * k + j = i
  · rw [e, h]; simp
  · have : (8 * k + j < i + 1) = (8 * k + j < i) := by apply propext; omega
    simp [this]
theorem bytTo_other (B : List Bool) {i k : Nat} (h : k ≠ i / 8) : bytTo B (i + 1) k = bytTo B i k := by
  apply num_congr
  intro j hj
  have : (8 * k + j < i + 1) = (8 * k + j < i) := by apply propext; omega
  simp [this]
theorem bytTo_on (B : List Bool) {i : Nat} (h : B.getD i false = true) : bytTo B (i + 1) (i / 8) = bytTo B i (i / 8) ||| 2 ^ (i % 8) := by
  apply Nat.eq_of_testBit_eq
  intro j
  unfold bytTo
  rw [Nat.testBit_or, Nat.testBit_two_pow, num_testBit, num_testBit]
  by_cases hj : j < 8
  · by_cases e : i % 8 = j
    · have e2 : 8 * (i / 8) + j = i := by omega
      rw [e2, h]; simp [hj, e]
    · have : (8 * (i / 8) + j < i + 1) = (8 * (i / 8) + j < i) := by apply propext; omega
      simp [hj, e, this]
  · have e : ¬ i % 8 = j := by omega
    simp [hj, e]
/-! Of. -/
/-- The bits that some bytes say. -/
def bitOf (bs : List Nat) (p : Nat) : Bool := (bs.getD (p / 8) 0).testBit (p % 8)
def setOf (n : Nat) (bs : List Nat) : List Bool := (List.range n).map (bitOf bs)
theorem setOf_length (n : Nat) (bs : List Nat) : (setOf n bs).length = n := by simp [setOf]
theorem setOf_get (n : Nat) (bs : List Nat) {p : Nat} (h : p < n) : (setOf n bs).getD p false = bitOf bs p := by
  simp [setOf, List.getD_eq_getElem?_getD, h]
/-- Word k while the bytes ahead of i are laid. -/
def ofTo (bs : List Nat) (i k : Nat) : Nat := num (fun j => decide (64 * k + j < 8 * i) && bitOf bs (64 * k + j)) 64
theorem ofTo_zero (bs : List Nat) (k : Nat) : ofTo bs 0 k = 0 := by
  apply Nat.eq_of_testBit_eq
  intro i
  unfold ofTo
  rw [num_testBit]; simp
theorem ofTo_other (bs : List Nat) {i k : Nat} (h : k ≠ i / 8) : ofTo bs (i + 1) k = ofTo bs i k := by
  apply num_congr
  intro j hj
  have : (64 * k + j < 8 * (i + 1)) = (64 * k + j < 8 * i) := by apply propext; omega
  simp [this]
theorem ofTo_on (bs : List Nat) {i : Nat} (hb : bs.getD i 0 < 256) : ofTo bs (i + 1) (i / 8) = ofTo bs i (i / 8) ||| bs.getD i 0 * 2 ^ (i % 8 * 8) := by
  apply Nat.eq_of_testBit_eq
  intro j
  unfold ofTo
  rw [Nat.testBit_or, Nat.testBit_mul_two_pow, num_testBit, num_testBit]
  by_cases hj : j < 64
  · by_cases h1 : i % 8 * 8 ≤ j
    · by_cases h2 : j < i % 8 * 8 + 8
      · have a1 : 64 * (i / 8) + j < 8 * (i + 1) := by omega
        have a2 : ¬ 64 * (i / 8) + j < 8 * i := by omega
        have a3 : (64 * (i / 8) + j) / 8 = i := by omega
        have a4 : (64 * (i / 8) + j) % 8 = j - i % 8 * 8 := by omega
        simp [hj, h1, a1, a2, bitOf, a3, a4]
      · have a1 : ¬ 64 * (i / 8) + j < 8 * (i + 1) := by omega
        have a2 : ¬ 64 * (i / 8) + j < 8 * i := by omega
        have a3 : (bs.getD i 0).testBit (j - i % 8 * 8) = false := Nat.testBit_lt_two_pow (Nat.lt_of_lt_of_le hb (by
          have : (256 : Nat) = 2 ^ 8 := rfl
          rw [this]; exact Nat.pow_le_pow_right (by decide) (by omega)))
        rw [a3]
        simp [a1, a2]
    · have : (64 * (i / 8) + j < 8 * (i + 1)) = (64 * (i / 8) + j < 8 * i) := by apply propext; omega
      simp [h1, this]
  · have h3 : (bs.getD i 0).testBit (j - i % 8 * 8) = false := Nat.testBit_lt_two_pow (Nat.lt_of_lt_of_le hb (by
      have : (256 : Nat) = 2 ^ 8 := rfl
      rw [this]; exact Nat.pow_le_pow_right (by decide) (by omega)))
    rw [h3]; simp [hj]
theorem ofTo_all {n : Nat} {bs : List Nat} (hl : bs.length = nb n) (hm : ∀ p, n ≤ p → p < 8 * bs.length → bitOf bs p = false) (k : Nat) : ofTo bs bs.length k = wd (setOf n bs) k := by
  apply num_congr
  intro j hj
  by_cases h : 64 * k + j < n
  · have : 64 * k + j < 8 * bs.length := by rw [hl]; unfold nb; omega
    rw [setOf_get n bs h]; simp [this]
  · rw [List.getD_eq_getElem?_getD, List.getElem?_eq_none (by rw [setOf_length]; omega)]
    by_cases h2 : 64 * k + j < 8 * bs.length
    · simp [h2, hm _ (by omega) h2]
    · simp [h2]
/-- The bits at the bound and above: what Of looks at. -/
theorem more_iff {n : Nat} {bs : List Nat} (hl : bs.length = nb n) (hb : ∀ b ∈ bs, b < 256) : (∀ p, n ≤ p → p < 8 * bs.length → bitOf bs p = false) ↔ (n % 8 = 0 ∨ bs.getD (bs.length - 1) 0 / 2 ^ (n % 8) = 0) := by
  have hnb : nb n = (n + 7) / 8 := rfl
  constructor
  · intro h
    by_cases h8 : n % 8 = 0
    · exact .inl h8
    · right
      apply Nat.eq_of_testBit_eq
      intro j
      rw [← Nat.shiftRight_eq_div_pow, Nat.testBit_shiftRight, Nat.zero_testBit]
      by_cases hj : n % 8 + j < 8
      · have := h (8 * (bs.length - 1) + (n % 8 + j)) (by omega) (by omega)
        unfold bitOf at this
        have e1 : (8 * (bs.length - 1) + (n % 8 + j)) / 8 = bs.length - 1 := by omega
        have e2 : (8 * (bs.length - 1) + (n % 8 + j)) % 8 = n % 8 + j := by omega
        rw [e1, e2] at this; exact this
      · have hlt : bs.getD (bs.length - 1) 0 < 256 := by
          rw [List.getD_eq_getElem?_getD, List.getElem?_eq_getElem (by omega)]
          exact hb _ (List.getElem_mem _)
        exact Nat.testBit_lt_two_pow (Nat.lt_of_lt_of_le hlt (by
          have : (256 : Nat) = 2 ^ 8 := rfl
          rw [this]; exact Nat.pow_le_pow_right (by decide) (by omega)))
  · rintro (h8 | h0) p h1 h2
    · omega
    · unfold bitOf
      have e1 : p / 8 = bs.length - 1 := by omega
      have e2 : p % 8 = n % 8 + (p % 8 - n % 8) := by omega
      rw [e1, e2, ← Nat.testBit_shiftRight, Nat.shiftRight_eq_div_pow, h0, Nat.zero_testBit]
theorem setOf_bytes (B : List Bool) : setOf B.length (bytes B) = B := by
  apply List.ext_getElem (setOf_length _ _)
  intro i h1 h2
  have h := setOf_get B.length (bytes B) h2
  have e : bitOf (bytes B) i = B.getD i false := by
    unfold bitOf bytes
    have hi : i / 8 < nb B.length := by unfold nb; omega
    rw [List.getD_eq_getElem?_getD, List.getElem?_map, List.getElem?_range hi]
    simp only [Option.map_some, Option.getD_some]
    unfold byt
    rw [num_testBit]
    have : 8 * (i / 8) + i % 8 = i := by omega
    rw [this]; simp [Nat.mod_lt]
  rw [e] at h
  simpa [List.getD_eq_getElem?_getD, h1, h2] using h
end Go.Proofs.Ytmmjlnicfndmcaa.Bt
namespace Go.Proofs.Ytmmjlnicfndmcaa.Bt
open Go.RowKit
def u64v (x : Nat) : Value := .int .u64 x
/-- The set B lies at bh, its words in v. -/
structure SetAt (w : World) (bh : Nat) (v : Value) (B : List Bool) : Prop where
  head : w.heap[bh]? = some (.cells #[.bool true, .int .i64 B.length, v] 112 (0, 0))
  row : Row w 113 1 v (nw B.length) ((words B).map u64v)
  small : B.length ≤ 65536
theorem SetAt.lt {w : World} {bh : Nat} {v : Value} {B : List Bool} (h : SetAt w bh v B) : bh < w.heap.size := World.block_lt_of_cell? _ _ ((cell_of h.head 0).trans (show _ = some (Value.bool true) from rfl))
theorem SetAt.fr {w w' : World} {bh : Nat} {v : Value} {B : List Bool} (h : SetAt w bh v B) {F : Nat → Prop} (f : Fr F w w') (h1 : ¬ F bh) (h2 : ∀ b, v.ownBlock = some b → ¬ F b) : SetAt w' bh v B := ⟨f.get h.head h1, Row.fr h.row f h2, h.small⟩
theorem SetAt.c0 {w : World} {bh : Nat} {v : Value} {B : List Bool} (h : SetAt w bh v B) : w.cell? ⟨bh, 0, none⟩ = some (.bool true) := (cell_of h.head 0).trans rfl
theorem SetAt.c1 {w : World} {bh : Nat} {v : Value} {B : List Bool} (h : SetAt w bh v B) : w.cell? ⟨bh, 1, none⟩ = some (.int .i64 B.length) := (cell_of h.head 1).trans rfl
theorem SetAt.c2 {w : World} {bh : Nat} {v : Value} {B : List Bool} (h : SetAt w bh v B) : w.cell? ⟨bh, 2, none⟩ = some v := (cell_of h.head 2).trans rfl
/-- A set that isn't there. -/
def NoSet (w : World) (p : Option Addr) : Prop := p = none ∨ ∃ b v1 v2, p = some ⟨b, 0, none⟩ ∧ w.heap[b]? = some (.cells #[.bool false, v1, v2] 112 (0, 0))
set_option maxRecDepth 100000 in
theorem there_ok {w : World} {bh : Nat} {v : Value} {B : List Bool} (h : SetAt w bh v B) : Calls Try.prog 58 #[.pointer (some ⟨bh, 0, none⟩)] w fun e w' => e = .returned (.bool true) ∧ w = w' := by
  have c0 := h.c0
  go_enter Try.func58, Try.ntmps58
  go_wp2_with fail
  go_ret
  exact ⟨rfl, rfl⟩
set_option maxRecDepth 100000 in
theorem there_no {w : World} {p : Option Addr} (h : NoSet w p) : Calls Try.prog 58 #[.pointer p] w fun e w' => e = .returned (.bool false) ∧ w = w' := by
  rcases h with rfl | ⟨b, v1, v2, rfl, h⟩
  · go_enter Try.func58, Try.ntmps58
    go_wp2_with fail
    go_ret
    exact ⟨rfl, rfl⟩
  · have c0 := (cell_of h 0).trans (show _ = some (Value.bool false) from rfl)
    clear h
    go_enter Try.func58, Try.ntmps58
    go_wp2_with fail
    go_ret
    exact ⟨rfl, rfl⟩
theorem Try.infoU64 : (Try.prog.info? 113).map (fun i => (i.zero, i.size, i.bytes)) = some (some (.int .u64 0), 1, 8) := by kernel_rfl
theorem info_parts {i : Option TypeInfo} {z : Option Value} {s b : Nat} (h : i.map (fun i => (i.zero, i.size, i.bytes)) = some (z, s, b)) : ∃ i0, i = some i0 ∧ i0.zero = z ∧ i0.size = s ∧ i0.bytes = b := by
  cases i with
  | none => simp at h
  | some i0 => simp at h; exact ⟨i0, rfl, h⟩
theorem made_list (n : Nat) (z : Value) : (madeCells #[z] n).toList = List.replicate n z := by
  apply List.ext_getElem
  · simp [madeCells]
  · intro i h1 h2
    simp [madeCells, Nat.mod_one]
theorem new_words (n : Nat) : (words (List.replicate n false)).map u64v = List.replicate (nw n) (.int .u64 0) := by
  apply List.ext_getElem
  · simp [words_length]
  · intro i h1 h2
    have hi : i < nw (List.replicate n false).length := by simpa [words_length] using h1
    have e : (words (List.replicate n false))[i]'(by simpa [words_length] using hi) = wd (List.replicate n false) i := by
      have := words_get (List.replicate n false) hi
      rw [List.getElem?_eq_getElem (by rw [words_length]; exact hi)] at this
      exact Option.some.inj this
    have e2 : wd (List.replicate n false) i = 0 := by
      apply Nat.eq_of_testBit_eq
      intro j
      by_cases hj : j < 64
      · rw [wd_bit _ _ _ hj]
        simp [List.getD_eq_getElem?_getD, List.getElem?_replicate]
        split <;> rfl
      · rw [Nat.testBit_lt_two_pow (Nat.lt_of_lt_of_le (wd_lt _ _) (Nat.pow_le_pow_right (by decide : 2 > 0) (by omega : 64 ≤ j)))]
        simp
    simp [u64v, e, e2]
set_option maxRecDepth 100000 in
theorem new_ok (w : World) {n : Int} (h0 : 0 ≤ n) (h1 : n ≤ 65536) : Calls Try.prog 43 #[.int .i64 n] w fun e w' => ∃ bh v, e = .returned (.tuple #[.pointer (some ⟨bh, 0, none⟩), .int .i64 0]) ∧ SetAt w' bh v (List.replicate n.toNat false) ∧ w.heap.size ≤ bh ∧ (∀ b, v.ownBlock = some b → w.heap.size ≤ b ∧ b ≠ bh) ∧ Fr (fun _ => False) w w' := by
  obtain ⟨m, rfl⟩ : ∃ m : Nat, n = (m : Int) := ⟨n.toNat, by omega⟩
  obtain ⟨i0, hi, hz0, hz1, hz2⟩ := info_parts Try.infoU64
  have hq : ((m : Int) + 63).tdiv 64 = (nw m : Int) := by rw [Int.tdiv_eq_ediv_of_nonneg (by omega)]; unfold nw; omega
  have hnw : nw m ≤ 2000 := by unfold nw; omega
  have hmk := run_make (P := Try.prog) w 110 113 i0 (.int .u64 0) Try.underlying110 hi hz0 .i64 .i64 (nw m : Int) (nw m : Int) (by omega) (Int.le_refl _) (by rw [hz2]; omega) (by omega)
  have b1 : decide ((m : Int) < 0) = false := by simp
  have b2 : decide ((65536 : Int) < (m : Int)) = false := by simp; omega
  have b2' : decide (65536 < m) = false := by simp; omega
  go_enter Try.func43, Try.ntmps43
  go_wp2_with fail
  refine bodyPost_ret (v := .tuple #[.pointer (some ⟨w.heap.size + 1, 0, none⟩), .int .i64 0]) ?_ rfl ?_
  · simp [results, Try.f43, go_sem]
  · refine ⟨w.heap.size + 1, .slice (some ⟨w.heap.size, 0, none⟩) (nw m) (nw m), rfl, ⟨?_, ?_, ?_⟩, by omega, ?_, Fr.alloc (Fr.alloc (Fr.refl _ _) _) _⟩
    · rw [heap_alloc_get]; simp
    · refine ⟨by simp [words_length], .inr ⟨w.heap.size, nw m, madeCells #[.int .u64 0] (nw m), by simp, Nat.zero_le _, ?_, ?_, ?_, ?_, ?_⟩⟩
      · rw [heap_alloc_get, heap_alloc_get]; simp
      · simp
      · unfold maxLen; omega
      · simp [size_madeCells]
      · rw [made_list, Int.toNat_natCast, new_words]; simp
    · simp; omega
    · intro b hb; simp [Value.ownBlock] at hb; subst hb; simp
set_option maxRecDepth 100000 in
theorem new_err (w : World) {n : Int} (h : n < 0 ∨ 65536 < n) : Calls Try.prog 43 #[.int .i64 n] w fun e w' => e = .returned (.tuple #[.pointer none, .int .i64 2]) ∧ w = w' := by
  by_cases h0 : n < 0
  · have b1 : decide (n < 0) = true := by simpa using h0
    clear h
    go_enter Try.func43, Try.ntmps43
    go_wp2_with fail
    refine bodyPost_ret (v := .tuple #[.pointer none, .int .i64 2]) ?_ rfl ⟨rfl, rfl⟩
    simp [results, Try.f43, go_sem]
  · have b1 : decide (n < 0) = false := by simpa using h0
    have h1 : 65536 < n := by omega
    have b2 : decide (65536 < n) = true := by simpa using h1
    clear h h0 h1
    go_enter Try.func43, Try.ntmps43
    go_wp2_with fail
    refine bodyPost_ret (v := .tuple #[.pointer none, .int .i64 2]) ?_ rfl ⟨rfl, rfl⟩
    simp [results, Try.f43, go_sem]
theorem row_u64 {w : World} {v : Value} {B : List Bool} (h : Row w 113 1 v (nw B.length) ((words B).map u64v)) {k : Nat} (hk : k < nw B.length) : ∃ g c, v = .slice (some ⟨g, 0, none⟩) (nw B.length) c ∧ w.cell? ⟨g, k, none⟩ = some (.int .u64 (wd B k)) ∧ w.frozen? ⟨g, k, none⟩ = false ∧
    ∀ C : List Bool, C.length = B.length → words C = (words B).set k (wd C k) → Row (w.setCell ⟨g, k, none⟩ (.int .u64 (wd C k))) 113 1 v (nw C.length) ((words C).map u64v) := by
  rcases h.2 with ⟨_, h0⟩ | ⟨g, cap, cur, rfl, _, k1, k2, k3, k4, k5⟩
  · omega
  · refine ⟨g, cap, rfl, ?_, free_of k1 k, ?_⟩
    · rw [cell_of k1 k]
      have : (cur.toList.take (nw B.length * 1))[k]? = ((words B).map u64v)[k]? := by rw [k5]
      rw [List.getElem?_take, if_pos (by omega), List.getElem?_map, words_get B hk] at this
      simpa [u64v] using this
    · intro C hC hw
      refine ⟨by simp [words_length], .inr ⟨g, cap, _, by rw [hC], Nat.zero_le _, setCell_blk (o := k) k1 _, by rw [hC]; exact k2, k3, by simpa using k4, ?_⟩⟩
      rw [hw, hC, List.map_set, ← k5]
      rw [Array.toList_setIfInBounds, List.take_set]
      rfl
theorem parts64 (j : Nat) (h : j ≤ 1000000000) : ∃ q r : Nat, wrap64 ((j : Int) / 64) = (q : Int) ∧ IntKind.i64.wrap ((j : Int) / 64) = (q : Int) ∧ (j : Int) % 64 = (r : Int) ∧ (j : Int).tmod 64 = (r : Int) ∧ q = j / 64 ∧ r = j % 64 ∧ r < 64 :=
  ⟨j / 64, j % 64, by unfold wrap64; omega, by rw [IntKind.wrap_i64]; omega, by omega, by rw [Int.tmod_eq_emod_of_nonneg (by omega)]; omega, rfl, rfl, by omega⟩
theorem bits_andNot_u64_nat (a b : Nat) (ha : a < 18446744073709551616) (hb : b < 18446744073709551616) : bits .andNot .u64 (a : Int) (b : Int) = ((a &&& (18446744073709551615 - b) : Nat) : Int) := by
  have hx : a &&& (18446744073709551615 - b) ≤ a := Nat.and_le_left
  have h1 : (BitVec.ofInt 64 (a : Int)).toNat = a := by
    rw [BitVec.ofInt_natCast, BitVec.toNat_ofNat]; exact Nat.mod_eq_of_lt (by omega)
  have h2 : (BitVec.ofInt 64 (b : Int)).toNat = b := by
    rw [BitVec.ofInt_natCast, BitVec.toNat_ofNat]; exact Nat.mod_eq_of_lt (by omega)
  show IntKind.u64.wrap ((BitVec.ofInt 64 (a : Int) &&& ~~~ BitVec.ofInt 64 (b : Int)).toNat : Int) = _
  rw [BitVec.toNat_and, BitVec.toNat_not, h1, h2, IntKind.wrap_u64]
  have : 2 ^ 64 - 1 - b = 18446744073709551615 - b := by omega
  rw [this]
  omega
theorem shr_nat (x r : Nat) : (x : Int) / 2 ^ r = ((x / 2 ^ r : Nat) : Int) := by
  rw [Int.natCast_ediv, Int.natCast_pow]; rfl
theorem bit_one (x r : Nat) (hx : x < 18446744073709551616) : bits .and .u64 ((x : Int) / 2 ^ r) 1 = ((x / 2 ^ r % 2 : Nat) : Int) := by
  have h := bits_and_u64_nat (x / 2 ^ r) 1 (Nat.lt_of_le_of_lt (Nat.div_le_self _ _) hx) (by decide)
  rw [shr_nat, show (1 : Int) = ((1 : Nat) : Int) from rfl, h]
  have : x / 2 ^ r &&& 1 = x / 2 ^ r % 2 := Nat.and_one_is_mod _
  rw [this]
set_option maxRecDepth 100000 in
theorem has_ok {w : World} {bh : Nat} {v : Value} {B : List Bool} (h : SetAt w bh v B) (i : Int) : Calls Try.prog 37 #[.pointer (some ⟨bh, 0, none⟩), .int .i64 i] w fun e w' => e = .returned (.bool (decide (0 ≤ i) && B.getD i.toNat false)) ∧ w = w' := by
  have c1 := h.c1
  have c2 := h.c2
  have H := Lib.hid h
  have hsm := h.small
  by_cases h0 : 0 ≤ i
  · obtain ⟨j, rfl⟩ : ∃ j : Nat, i = (j : Int) := ⟨i.toNat, by omega⟩
    by_cases h1 : j < B.length
    · have b1 : decide ((j : Int) < (B.length : Int)) = true := by simpa using h1
      obtain ⟨q, r, hq, hqw, hr, hrt, hq1, hr1, hrl⟩ := parts64 j (by omega)
      obtain ⟨g, c, rfl, hc, _, _⟩ := row_u64 h.row (nw_lt h1)
      rw [← hq1] at hc
      have hk := nw_lt h1
      rw [← hq1] at hk
      have hk' : (q : Int) < (nw B.length : Int) := by omega
      have hb := bit_one (wd B q) r (wd_lt B q)
      have hat := wd_at B j
      rw [← hq1, ← hr1] at hat
      rw [hat] at hb
      obtain ⟨t, ht⟩ : ∃ t : Int, t = ((if B.getD j false then 1 else 0 : Nat) : Int) := ⟨_, rfl⟩
      rw [← ht] at hb
      have Ht := Lib.hid ht
      clear ht
      have Hq1 := Lib.hid hq1; have Hr1 := Lib.hid hr1
      clear h h0 hq1 hr1 hat hsm
      go_enter Try.func37, Try.ntmps37
      go_wp2_with fail
      refine (there_ok H.out).mono ?_
      rintro e w1 ⟨rfl, rfl⟩
      go_wp2_with fail
      go_ret
      refine ⟨?_, rfl⟩
      have := Ht.out
      rw [this, Int.toNat_natCast]
      cases B.getD j false <;> simp
    · have b1 : decide ((j : Int) < (B.length : Int)) = false := by simpa using h1
      have hg : B.getD j false = false := by rw [List.getD_eq_getElem?_getD, List.getElem?_eq_none (by omega)]; rfl
      clear h h0
      go_enter Try.func37, Try.ntmps37
      go_wp2_with fail
      refine (there_ok H.out).mono ?_
      rintro e w1 ⟨rfl, rfl⟩
      go_wp2_with fail
      go_ret
      exact ⟨by rw [Int.toNat_natCast, hg]; simp, rfl⟩
  · have b1 : decide (0 ≤ i) = false := by simpa using h0
    clear h
    go_enter Try.func37, Try.ntmps37
    go_wp2_with fail
    refine (there_ok H.out).mono ?_
    rintro e w1 ⟨rfl, rfl⟩
    go_wp2_with fail
    go_ret
    exact ⟨by rw [b1]; rfl, rfl⟩
theorem SetAt.store {w : World} {bh : Nat} {v : Value} {B : List Bool} (h : SetAt w bh v B) {g : Nat} {c : Nat} (hv : v = .slice (some ⟨g, 0, none⟩) (nw B.length) c) (hne : v.ownBlock ≠ some bh) {j : Nat} (h1 : j < B.length) (b : Bool) :
    SetAt (w.setCell ⟨g, j / 64, none⟩ (.int .u64 (wd (B.set j b) (j / 64)))) bh v (B.set j b) := by
  obtain ⟨g', c', e, _, _, hr⟩ := row_u64 h.row (nw_lt h1)
  rw [hv] at e
  have : g = g' := by simpa using (Value.slice.inj e).1
  subst this
  have hgb : bh ≠ g := fun e => hne (by rw [hv, e]; rfl)
  refine ⟨?_, hr _ (by simp) (words_set B h1 b), by simpa using h.small⟩
  rw [setCell_blk_ne (by exact hgb)]
  simpa using h.head
theorem pow_wrap {r : Nat} (hr : r < 64) : IntKind.u64.wrap (2 ^ r) = ((2 ^ r : Nat) : Int) := by
  have hp : (2 : Nat) ^ r < 2 ^ 64 := Nat.pow_lt_pow_right (by decide) hr
  have e : (2 : Int) ^ r = ((2 ^ r : Nat) : Int) := by rw [Int.natCast_pow]; rfl
  rw [e, IntKind.wrap_u64]
  generalize (2 : Nat) ^ r = p at hp ⊢
  omega
theorem put_bits (B : List Bool) {j q r : Nat} (h1 : j < B.length) (hq : q = j / 64) (hr : r = j % 64) : bits BinOp.or IntKind.u64 (wd B q : Int) (IntKind.u64.wrap (2 ^ r)) = (wd (B.set j true) q : Int) := by
  have hl : r < 64 := by omega
  have hp : (2 : Nat) ^ r < 2 ^ 64 := Nat.pow_lt_pow_right (by decide) hl
  rw [pow_wrap hl, bits_or_u64_nat _ _ (wd_lt B q) hp, hq, wd_put B h1, hr]
theorem drop_bits (B : List Bool) {j q r : Nat} (h1 : j < B.length) (hq : q = j / 64) (hr : r = j % 64) : bits BinOp.andNot IntKind.u64 (wd B q : Int) (IntKind.u64.wrap (2 ^ r)) = (wd (B.set j false) q : Int) := by
  have hl : r < 64 := by omega
  have hp : (2 : Nat) ^ r < 2 ^ 64 := Nat.pow_lt_pow_right (by decide) hl
  rw [pow_wrap hl, bits_andNot_u64_nat _ _ (wd_lt B q) hp, hq, wd_drop B h1, hr]
set_option maxRecDepth 100000 in
theorem change_true {w : World} {bh : Nat} {v : Value} {B : List Bool} (h : SetAt w bh v B) (hne : v.ownBlock ≠ some bh) {j : Nat} (h1 : j < B.length) : Calls Try.prog 66 #[.pointer (some ⟨bh, 0, none⟩), .int .i64 j, .bool true] w fun e w' => e = .returned (.int .i64 0) ∧ SetAt w' bh v (B.set j true) ∧ Fr (fun b => v.ownBlock = some b) w w' := by
  have c1 := h.c1
  have c2 := h.c2
  have H := Lib.hid h
  have hsm := h.small
  have b1 : decide ((B.length : Int) ≤ (j : Int)) = false := by simpa using h1
  have b1' : decide (B.length ≤ j) = false := by simpa using h1
  obtain ⟨q, r, hq, hqw, hr, hrt, hq1, hr1, hrl⟩ := parts64 j (by omega)
  obtain ⟨g, c, rfl, hc, hf, _⟩ := row_u64 h.row (nw_lt h1)
  rw [← hq1] at hc hf
  have hk := nw_lt h1
  rw [← hq1] at hk
  have hk' : (q : Int) < (nw B.length : Int) := by omega
  have hst := h.store (g := g) rfl hne h1 true
  rw [← hq1, ← put_bits B h1 hq1 hr1] at hst
  have Hst := Lib.hid hst
  clear h hq1 hr1 hsm hst
  go_enter Try.func66, Try.ntmps66
  go_wp2_with fail
  refine (there_ok H.out).mono ?_
  rintro e w1 ⟨rfl, rfl⟩
  go_wp2_with fail
  go_still_tail 13, (by kernel_rfl)
  go_wp2_with fail
  go_ret
  exact ⟨rfl, Hst.out.fr (Fr.drew (Fr.refl (fun _ => False) _)) (fun h => h) (fun _ _ h => h), Fr.drew (Fr.setCell (F := fun b => Value.ownBlock (.slice (some ⟨g, 0, none⟩) (nw B.length) c) = some b) (p := ⟨g, q, none⟩) (Fr.refl _ _) (fun _ => rfl) _)⟩
set_option maxRecDepth 100000 in
theorem change_false {w : World} {bh : Nat} {v : Value} {B : List Bool} (h : SetAt w bh v B) (hne : v.ownBlock ≠ some bh) {j : Nat} (h1 : j < B.length) : Calls Try.prog 66 #[.pointer (some ⟨bh, 0, none⟩), .int .i64 j, .bool false] w fun e w' => e = .returned (.int .i64 0) ∧ SetAt w' bh v (B.set j false) ∧ Fr (fun b => v.ownBlock = some b) w w' := by
  have c1 := h.c1
  have c2 := h.c2
  have H := Lib.hid h
  have hsm := h.small
  have b1 : decide ((B.length : Int) ≤ (j : Int)) = false := by simpa using h1
  have b1' : decide (B.length ≤ j) = false := by simpa using h1
  obtain ⟨q, r, hq, hqw, hr, hrt, hq1, hr1, hrl⟩ := parts64 j (by omega)
  obtain ⟨g, c, rfl, hc, hf, _⟩ := row_u64 h.row (nw_lt h1)
  rw [← hq1] at hc hf
  have hk := nw_lt h1
  rw [← hq1] at hk
  have hk' : (q : Int) < (nw B.length : Int) := by omega
  have hst := h.store (g := g) rfl hne h1 false
  rw [← hq1, ← drop_bits B h1 hq1 hr1] at hst
  have Hst := Lib.hid hst
  clear h hq1 hr1 hsm hst
  go_enter Try.func66, Try.ntmps66
  go_wp2_with fail
  refine (there_ok H.out).mono ?_
  rintro e w1 ⟨rfl, rfl⟩
  go_wp2_with fail
  go_still_tail 13, (by kernel_rfl)
  go_wp2_with fail
  go_ret
  exact ⟨rfl, Hst.out.fr (Fr.drew (Fr.refl (fun _ => False) _)) (fun h => h) (fun _ _ h => h), Fr.drew (Fr.setCell (F := fun b => Value.ownBlock (.slice (some ⟨g, 0, none⟩) (nw B.length) c) = some b) (p := ⟨g, q, none⟩) (Fr.refl _ _) (fun _ => rfl) _)⟩
set_option maxRecDepth 100000 in
theorem change_arg {w : World} {bh : Nat} {v : Value} {B : List Bool} (h : SetAt w bh v B) {i : Int} (hi : i < 0 ∨ (B.length : Int) ≤ i) (b : Bool) : Calls Try.prog 66 #[.pointer (some ⟨bh, 0, none⟩), .int .i64 i, .bool b] w fun e w' => e = .returned (.int .i64 2) ∧ w = w' := by
  have c1 := h.c1
  have H := Lib.hid h
  clear h
  by_cases h0 : i < 0
  · have b0 : decide (i < 0) = true := by simpa using h0
    clear hi
    go_enter Try.func66, Try.ntmps66
    go_wp2_with fail
    refine (there_ok H.out).mono ?_
    rintro e w1 ⟨rfl, rfl⟩
    go_wp2_with fail
    go_ret
    exact ⟨rfl, rfl⟩
  · have b0 : decide (i < 0) = false := by simpa using h0
    have b1 : decide ((B.length : Int) ≤ i) = true := by simp; omega
    clear hi h0
    go_enter Try.func66, Try.ntmps66
    go_wp2_with fail
    refine (there_ok H.out).mono ?_
    rintro e w1 ⟨rfl, rfl⟩
    go_wp2_with fail
    go_ret
    exact ⟨rfl, rfl⟩
set_option maxRecDepth 100000 in
theorem change_no {w : World} {p : Option Addr} (h : NoSet w p) (i : Int) (b : Bool) : Calls Try.prog 66 #[.pointer p, .int .i64 i, .bool b] w fun e w' => e = .returned (.int .i64 1) ∧ w = w' := by
  have H := Lib.hid h
  clear h
  go_enter Try.func66, Try.ntmps66
  go_wp2_with fail
  refine (there_no H.out).mono ?_
  rintro e w1 ⟨rfl, rfl⟩
  go_wp2_with fail
  go_ret
  exact ⟨rfl, rfl⟩
end Go.Proofs.Ytmmjlnicfndmcaa.Bt
namespace Go.Proofs.Ytmmjlnicfndmcaa.Bk
open Go.RowKit Go.Proofs.Ytmmjlnicfndmcaa.Bt
set_option maxRecDepth 100000 in
theorem put_in {w : World} {bh : Nat} {v : Value} {B : List Bool} (h : SetAt w bh v B) (hne : v.ownBlock ≠ some bh) {j : Nat} (h1 : j < B.length) : Calls Try.prog 54 #[.pointer (some ⟨bh, 0, none⟩), .int .i64 j] w fun e w' => e = .returned (.int .i64 0) ∧ SetAt w' bh v (B.set j true) ∧ Fr (fun b => v.ownBlock = some b) w w' := by
  have HC := Lib.hid (change_true h hne h1)
  clear h hne h1
  go_enter Try.func54, Try.ntmps54
  go_wp2_with fail
  refine HC.out.mono ?_
  rintro e w1 ⟨rfl, h2, f2⟩
  go_wp2_with fail
  go_ret
  exact ⟨rfl, h2, f2⟩
set_option maxRecDepth 100000 in
theorem put_out {w : World} {bh : Nat} {v : Value} {B : List Bool} (h : SetAt w bh v B) {i : Int} (hi : i < 0 ∨ (B.length : Int) ≤ i) : Calls Try.prog 54 #[.pointer (some ⟨bh, 0, none⟩), .int .i64 i] w fun e w' => e = .returned (.int .i64 2) ∧ w = w' := by
  have HC := Lib.hid (change_arg h hi true)
  clear h hi
  go_enter Try.func54, Try.ntmps54
  go_wp2_with fail
  refine HC.out.mono ?_
  rintro e w1 ⟨rfl, rfl⟩
  go_wp2_with fail
  go_ret
  exact ⟨rfl, rfl⟩
set_option maxRecDepth 100000 in
theorem put_no {w : World} {p : Option Addr} (h : NoSet w p) (i : Int) : Calls Try.prog 54 #[.pointer p, .int .i64 i] w fun e w' => e = .returned (.int .i64 1) ∧ w = w' := by
  have HC := Lib.hid (change_no h i true)
  clear h
  go_enter Try.func54, Try.ntmps54
  go_wp2_with fail
  refine HC.out.mono ?_
  rintro e w1 ⟨rfl, rfl⟩
  go_wp2_with fail
  go_ret
  exact ⟨rfl, rfl⟩
set_option maxRecDepth 100000 in
theorem drop_in {w : World} {bh : Nat} {v : Value} {B : List Bool} (h : SetAt w bh v B) (hne : v.ownBlock ≠ some bh) {j : Nat} (h1 : j < B.length) : Calls Try.prog 53 #[.pointer (some ⟨bh, 0, none⟩), .int .i64 j] w fun e w' => e = .returned (.int .i64 0) ∧ SetAt w' bh v (B.set j false) ∧ Fr (fun b => v.ownBlock = some b) w w' := by
  have HC := Lib.hid (change_false h hne h1)
  clear h hne h1
  go_enter Try.func53, Try.ntmps53
  go_wp2_with fail
  refine HC.out.mono ?_
  rintro e w1 ⟨rfl, h2, f2⟩
  go_wp2_with fail
  go_ret
  exact ⟨rfl, h2, f2⟩
set_option maxRecDepth 100000 in
theorem drop_out {w : World} {bh : Nat} {v : Value} {B : List Bool} (h : SetAt w bh v B) {i : Int} (hi : i < 0 ∨ (B.length : Int) ≤ i) : Calls Try.prog 53 #[.pointer (some ⟨bh, 0, none⟩), .int .i64 i] w fun e w' => e = .returned (.int .i64 2) ∧ w = w' := by
  have HC := Lib.hid (change_arg h hi false)
  clear h hi
  go_enter Try.func53, Try.ntmps53
  go_wp2_with fail
  refine HC.out.mono ?_
  rintro e w1 ⟨rfl, rfl⟩
  go_wp2_with fail
  go_ret
  exact ⟨rfl, rfl⟩
set_option maxRecDepth 100000 in
theorem drop_no {w : World} {p : Option Addr} (h : NoSet w p) (i : Int) : Calls Try.prog 53 #[.pointer p, .int .i64 i] w fun e w' => e = .returned (.int .i64 1) ∧ w = w' := by
  have HC := Lib.hid (change_no h i false)
  clear h
  go_enter Try.func53, Try.ntmps53
  go_wp2_with fail
  refine HC.out.mono ?_
  rintro e w1 ⟨rfl, rfl⟩
  go_wp2_with fail
  go_ret
  exact ⟨rfl, rfl⟩
structure NewSet (w w' : World) (bh : Nat) (v : Value) (B : List Bool) : Prop where
  at_ : SetAt w' bh v B
  new : w.heap.size ≤ bh
  newv : ∀ b, v.ownBlock = some b → w.heap.size ≤ b ∧ b ≠ bh
  fr : Fr (fun _ => False) w w'
theorem NewSet.step {w w1 w2 : World} {bh : Nat} {v : Value} {B C : List Bool} (h : NewSet w w1 bh v B) (s : SetAt w2 bh v C) (f : Fr (fun b => v.ownBlock = some b) w1 w2) : NewSet w w2 bh v C :=
  ⟨s, h.new, h.newv, ((h.fr.mono (G := fun b => w.heap.size ≤ b) (fun _ _ h => h.elim)).trans f (fun b _ e => (h.newv b e).1)).toNew⟩
theorem NewSet.keep {w w1 w2 : World} {bh : Nat} {v : Value} {B : List Bool} (h : NewSet w w1 bh v B) (f : Fr (fun _ => False) w1 w2) : NewSet w w2 bh v B :=
  ⟨h.at_.fr f (fun h => h) (fun _ _ h => h), h.new, h.newv, h.fr.trans f (fun _ _ h => h)⟩
theorem NewSet.ne {w w1 : World} {bh : Nat} {v : Value} {B : List Bool} (h : NewSet w w1 bh v B) : v.ownBlock ≠ some bh := fun e => (h.newv bh e).2 rfl
def aB : List Bool := ((List.replicate 10 false).set 3 true).set 9 true
end Go.Proofs.Ytmmjlnicfndmcaa.Bk
namespace Go.Proofs.Ytmmjlnicfndmcaa.Ix
open Go.RowKit
def cells3 (x : Sl) : List Value := [.int .u8 (x.1 : Int), .int .u32 (x.2.1 : Int), .int .i64 x.2.2]
def flat3 (S : List Sl) : List Value := S.flatMap cells3
theorem flat3_cons (x : Sl) (S : List Sl) : flat3 (x :: S) = cells3 x ++ flat3 S := by simp [flat3]
theorem flat3_append (A B : List Sl) : flat3 (A ++ B) = flat3 A ++ flat3 B := by simp [flat3]
theorem flat3_length (S : List Sl) : (flat3 S).length = S.length * 3 := by
  induction S with
  | nil => rfl
  | cons x S ih => rw [flat3_cons, List.length_append, ih, List.length_cons]; show 3 + _ = _; omega
theorem flat3_get : ∀ (S : List Sl) (p : Nat), p < S.length → (flat3 S)[p * 3]? = some (.int .u8 ((slAt S p).1 : Int)) ∧ (flat3 S)[p * 3 + 1]? = some (.int .u32 ((slAt S p).2.1 : Int)) ∧ (flat3 S)[p * 3 + 2]? = some (.int .i64 (slAt S p).2.2)
  | [], p, h => absurd h (Nat.not_lt_zero _)
  | x :: S, 0, _ => ⟨rfl, rfl, rfl⟩
  | x :: S, p + 1, h => by
    have := flat3_get S p (by simpa using h)
    have e : ∀ k, (flat3 (x :: S))[(p + 1) * 3 + k]? = (flat3 S)[p * 3 + k]? := by
      intro k
      rw [flat3_cons, List.getElem?_append_right (by show 3 ≤ _; omega)]
      congr 1
      show (p + 1) * 3 + k - 3 = _
      omega
    have e0 := e 0
    simp only [Nat.add_zero] at e0
    rw [e0, e 1, e 2]
    exact this
theorem flat3_set {S : List Sl} {p : Nat} (hp : p < S.length) (x : Sl) : flat3 (S.set p x) = (((flat3 S).set (p * 3) (.int .u8 (x.1 : Int))).set (p * 3 + 1) (.int .u32 (x.2.1 : Int))).set (p * 3 + 2) (.int .i64 x.2.2) := by
  rw [set_split hp]
  conv => rhs; rw [self_split hp]
  rw [flat3_append, flat3_append, flat3_cons, flat3_cons]
  have hl : (flat3 (S.take p)).length = p * 3 := by rw [flat3_length, List.length_take, Nat.min_eq_left (Nat.le_of_lt hp)]
  rw [List.set_append_right _ _ (by omega), List.set_append_right _ _ (by omega), List.set_append_right _ _ (by omega), hl]
  congr 1
  have e0 : p * 3 - p * 3 = 0 := by omega
  have e1 : p * 3 + 1 - p * 3 = 1 := by omega
  have e2 : p * 3 + 2 - p * 3 = 2 := by omega
  rw [e0, e1, e2]
  rfl
/-- The slots lie in block g. -/
def SlotsAt (w : World) (g : Nat) (S : List Sl) : Prop := w.heap[g]? = some (.cells (flat3 S).toArray 106 (0, 0))
/-- The index's own block. -/
def HeadAt (w : World) (bh g N most len gr st : Nat) : Prop := w.heap[bh]? = some (.cells #[.slice (some ⟨g, 0, none⟩) N N, .int .i64 most, .int .i64 len, .int .i64 gr, .int .i64 st] 109 (0, 0))
theorem SlotsAt.cells {w : World} {g : Nat} {S : List Sl} (h : SlotsAt w g S) {p : Nat} (hp : p < S.length) : w.cell? ⟨g, p * 3, none⟩ = some (.int .u8 ((slAt S p).1 : Int)) ∧ w.cell? ⟨g, p * 3 + 1, none⟩ = some (.int .u32 ((slAt S p).2.1 : Int)) ∧ w.cell? ⟨g, p * 3 + 2, none⟩ = some (.int .i64 (slAt S p).2.2) := by
  have := flat3_get S p hp
  rw [cell_of h, cell_of h, cell_of h]
  simpa using this
theorem SlotsAt.free {w : World} {g : Nat} {S : List Sl} (h : SlotsAt w g S) (k : Nat) : w.frozen? ⟨g, k, none⟩ = false := free_of h k
theorem SlotsAt.fr {w w' : World} {g : Nat} {S : List Sl} (h : SlotsAt w g S) {F : Nat → Prop} (f : Fr F w w') (hn : ¬ F g) : SlotsAt w' g S := f.get h hn
theorem SlotsAt.lt {w : World} {g : Nat} {S : List Sl} (h : SlotsAt w g S) : g < w.heap.size := lt_of_block h
theorem SlotsAt.set {w : World} {g : Nat} {S : List Sl} (h : SlotsAt w g S) {p : Nat} (hp : p < S.length) (x : Sl) :
    SlotsAt (((w.setCell ⟨g, p * 3, none⟩ (.int .u8 (x.1 : Int))).setCell ⟨g, p * 3 + 1, none⟩ (.int .u32 (x.2.1 : Int))).setCell ⟨g, p * 3 + 2, none⟩ (.int .i64 x.2.2)) g (S.set p x) := by
  unfold SlotsAt
  rw [flat3_set hp]
  have h1 := setCell_blk (o := p * 3) h (.int .u8 (x.1 : Int))
  have h2 := setCell_blk (o := p * 3 + 1) h1 (.int .u32 (x.2.1 : Int))
  have h3 := setCell_blk (o := p * 3 + 2) h2 (.int .i64 x.2.2)
  rw [h3]; simp
theorem SlotsAt.setv {w : World} {g : Nat} {S : List Sl} (h : SlotsAt w g S) {p : Nat} (hp : p < S.length) (v : Int) : SlotsAt (w.setCell ⟨g, p * 3 + 2, none⟩ (.int .i64 v)) g (S.set p ((slAt S p).1, (slAt S p).2.1, v)) := by
  unfold SlotsAt
  rw [flat3_set hp, setCell_blk (o := p * 3 + 2) h (.int .i64 v)]
  obtain ⟨g0, g1, -⟩ := flat3_get S p hp
  have e0 : (flat3 S).set (p * 3) (.int .u8 ((slAt S p).1 : Int)) = flat3 S := by
    obtain ⟨hl, e⟩ := List.getElem?_eq_some_iff.1 g0
    rw [← e, List.set_getElem_self]
  have e1 : (flat3 S).set (p * 3 + 1) (.int .u32 ((slAt S p).2.1 : Int)) = flat3 S := by
    obtain ⟨hl, e⟩ := List.getElem?_eq_some_iff.1 g1
    rw [← e, List.set_getElem_self]
  simp only at *
  rw [e0, e1]; simp
theorem HeadAt.cells {w : World} {bh g N most len gr st : Nat} (h : HeadAt w bh g N most len gr st) : w.cell? ⟨bh, 0, none⟩ = some (.slice (some ⟨g, 0, none⟩) N N) ∧ w.cell? ⟨bh, 1, none⟩ = some (.int .i64 most) ∧ w.cell? ⟨bh, 2, none⟩ = some (.int .i64 len) ∧ w.cell? ⟨bh, 3, none⟩ = some (.int .i64 gr) ∧ w.cell? ⟨bh, 4, none⟩ = some (.int .i64 st) := by
  rw [cell_of h, cell_of h, cell_of h, cell_of h, cell_of h]; exact ⟨rfl, rfl, rfl, rfl, rfl⟩
theorem HeadAt.free {w : World} {bh g N most len gr st : Nat} (h : HeadAt w bh g N most len gr st) (k : Nat) : w.frozen? ⟨bh, k, none⟩ = false := free_of h k
theorem HeadAt.fr {w w' : World} {bh g N most len gr st : Nat} (h : HeadAt w bh g N most len gr st) {F : Nat → Prop} (f : Fr F w w') (hn : ¬ F bh) : HeadAt w' bh g N most len gr st := f.get h hn
theorem HeadAt.lt {w : World} {bh g N most len gr st : Nat} (h : HeadAt w bh g N most len gr st) : bh < w.heap.size := lt_of_block h
theorem HeadAt.len {w : World} {bh g N most len gr st : Nat} (h : HeadAt w bh g N most len gr st) (x : Nat) : HeadAt (w.setCell ⟨bh, 2, none⟩ (.int .i64 x)) bh g N most x gr st := by
  unfold HeadAt; rw [setCell_blk (o := 2) h]; rfl
theorem HeadAt.graves {w : World} {bh g N most len gr st : Nat} (h : HeadAt w bh g N most len gr st) (x : Nat) : HeadAt (w.setCell ⟨bh, 3, none⟩ (.int .i64 x)) bh g N most len x st := by
  unfold HeadAt; rw [setCell_blk (o := 3) h]; rfl
theorem HeadAt.steps {w : World} {bh g N most len gr st : Nat} (h : HeadAt w bh g N most len gr st) (x : Nat) : HeadAt (w.setCell ⟨bh, 4, none⟩ (.int .i64 x)) bh g N most len gr x := by
  unfold HeadAt; rw [setCell_blk (o := 4) h]; rfl
/-- An index that isn't there. -/
def NoIdx (w : World) (p : Option Addr) : Prop := p = none ∨ ∃ b v1 v2 v3 v4, p = some ⟨b, 0, none⟩ ∧ w.heap[b]? = some (.cells #[.slice none 0 0, v1, v2, v3, v4] 109 (0, 0))
theorem run_neq_slice_nil {P : Program} (w : World) (t e : TypeId) (a : Option Addr) (n c n' c' : Nat) (h : P.underlying t = some (.slice e)) :
    (binOp .neq t (.slice a n c) (.slice none n' c')).run P w = .ok (.bool (!a.isNone)) w := by
  simp only [binOp]
  simp [Op.equal, Op.maxDepth, Lib.run_equalIn_slice_nil w 9999 t e a n c n' c' h]
set_option maxRecDepth 100000 in
theorem made_ok {w : World} {bh g N most len gr st : Nat} (h : HeadAt w bh g N most len gr st) : Calls Try.prog 56 #[.pointer (some ⟨bh, 0, none⟩)] w fun e w' => e = .returned (.bool true) ∧ w = w' := by
  have c0 := h.cells.1
  have q := fun w a n c => run_neq_slice_nil (P := Try.prog) w _ _ a n c 0 0 Try.underlying107
  clear h
  go_enter Try.func56, Try.ntmps56
  go_wp2_with fail
  go_ret
  exact ⟨rfl, rfl⟩
set_option maxRecDepth 100000 in
theorem made_no {w : World} {p : Option Addr} (h : NoIdx w p) : Calls Try.prog 56 #[.pointer p] w fun e w' => e = .returned (.bool false) ∧ w = w' := by
  have q := fun w a n c => run_neq_slice_nil (P := Try.prog) w _ _ a n c 0 0 Try.underlying107
  rcases h with rfl | ⟨b, v1, v2, v3, v4, rfl, h⟩
  · go_enter Try.func56, Try.ntmps56
    go_wp2_with fail
    go_ret
    exact ⟨rfl, rfl⟩
  · have c0 := (cell_of h 0).trans (show _ = some (Value.slice none 0 0) from rfl)
    clear h
    go_enter Try.func56, Try.ntmps56
    go_wp2_with fail
    go_ret
    exact ⟨rfl, rfl⟩
def mixA (x : Int) : Int := IntKind.u64.wrap (bits .xor .u64 x (x / 1073741824) * 13787848793156543929)
def mixB (x : Int) : Int := IntKind.u64.wrap (bits .xor .u64 x (x / 134217728) * 10723151780598845931)
def mixC (x : Int) : Int := bits .xor .u64 x (x / 2147483648)
/-- What mix.Hash gives. -/
def hash (x : Nat) : Nat := (mixC (mixB (mixA x))).toNat
theorem mixC_range (x : Int) : 0 ≤ mixC x ∧ mixC x < 18446744073709551616 := by
  have h : ∃ y, mixC x = IntKind.u64.wrap y := ⟨_, rfl⟩
  obtain ⟨y, e⟩ := h
  rw [e, IntKind.wrap_u64]; omega
theorem hash_lt (x : Nat) : hash x < 18446744073709551616 := by
  have := mixC_range (mixB (mixA x)); unfold hash; omega
set_option maxRecDepth 100000 in
theorem hash_ok (w : World) {x : Nat} (_hx : x < 18446744073709551616) : Calls Try.prog 67 #[.int .u64 (x : Int)] w fun e w' => e = .returned (.int .u64 (hash x : Int)) ∧ w = w' := by
  go_enter Try.func67, Try.ntmps67
  go_wp2_with fail
  go_ret
  refine ⟨?_, rfl⟩
  have e : (hash x : Int) = mixC (mixB (mixA x)) := by
    have := mixC_range (mixB (mixA x)); unfold hash; omega
  rw [e]
  rfl
/-- An id's home among N slots. -/
def home (N id : Nat) : Nat := hash id % N
attribute [irreducible] hash
end Go.Proofs.Ytmmjlnicfndmcaa.Ix
namespace Go.Proofs.Ytmmjlnicfndmcaa.Ix
open Go.RowKit
def frV (f : Option Nat) : Int := match f with | none => -1 | some p => (p : Int)
/-- What a search comes to. -/
def Found (S : List Sl) (N id : Nat) (e : Ending) : Prop :=
  (∃ p : Nat, e = .returned (.tuple #[.int .i64 (p : Int), .bool true]) ∧ p < N ∧ (slAt S p).1 = 1 ∧ (slAt S p).2.1 = id) ∨
  (∃ p : Nat, e = .returned (.tuple #[.int .i64 (p : Int), .bool false]) ∧ Place S (home N id) p ∧ ∀ q, q < S.length → ¬ ((slAt S q).1 = 1 ∧ (slAt S q).2.1 = id))
def stepsOf (w : World) (bh : Nat) : Nat := match w.cell? ⟨bh, 4, none⟩ with | some (.int _ x) => x.toNat | _ => 0
theorem stepsOf_head {w : World} {bh g N most len gr st : Nat} (h : HeadAt w bh g N most len gr st) : stepsOf w bh = st := by unfold stepsOf; rw [h.cells.2.2.2.2]; rfl
/-- Where the search stands. -/
structure Stand (w : World) (bh g N most len gr id : Nat) (S : List Sl) (t : Nat) (f : Option Nat) (wr : World) : Prop where
  look : Look S (home N id) id t f
  le : t ≤ N
  head : HeadAt wr bh g N most len gr t
  fr : Fr (fun b => b = bh) w wr
theorem wrap_small {x : Nat} (h : x ≤ 1000000) : wrap64 (x : Int) = (x : Int) ∧ IntKind.i64.wrap (x : Int) = (x : Int) ∧ IntKind.u64.wrap (x : Int) = (x : Int) := by
  refine ⟨by unfold wrap64; omega, by rw [IntKind.wrap_i64]; omega, by rw [IntKind.wrap_u64]; omega⟩
theorem mod_small {x n : Nat} : (x : Int).tmod (n : Int) = ((x % n : Nat) : Int) ∧ (x : Int) % (n : Int) = ((x % n : Nat) : Int) := by
  rw [Int.tmod_eq_emod_of_nonneg (by omega)]; exact ⟨(Int.natCast_emod _ _).symm, (Int.natCast_emod _ _).symm⟩
set_option maxRecDepth 100000 in
set_option maxHeartbeats 2000000 in
theorem find_ok {w : World} {bh g N most len gr st id : Nat} {S : List Sl} (H : HeadAt w bh g N most len gr st) (HS : SlotsAt w g S) (hN : S.length = N) (G : Good (home N) S) (hg : ∃ p, p < N ∧ (slAt S p).1 = 0) (hne : bh ≠ g) (hid : id < 4294967296) (hN2 : N ≤ 8192) :
    Calls Try.prog 57 #[.pointer (some ⟨bh, 0, none⟩), .int .u32 (id : Int)] w fun e w' => ∃ st', 1 ≤ st' ∧ st' ≤ N ∧ HeadAt w' bh g N most len gr st' ∧ Fr (fun b => b = bh) w w' ∧ Found S N id e := by
  obtain ⟨p0, hp0, hz⟩ := hg
  have hN0 : 0 < N := by omega
  obtain ⟨c0, -, -, -, c4⟩ := H.cells
  have hcv : IntKind.u64.wrap (id : Int) = (id : Int) := by rw [IntKind.wrap_u64]; omega
  have hcn : IntKind.u64.wrap (N : Int) = (N : Int) := by rw [IntKind.wrap_u64]; omega
  obtain ⟨hx, hhx⟩ : ∃ hx, hx = hash id := ⟨_, rfl⟩
  obtain ⟨h0, hh0⟩ : ∃ h0, h0 = home N id := ⟨_, rfl⟩
  have hhl := hash_lt id
  have hhm : h0 = hx % N := by rw [hh0, hhx]; rfl
  have hq : (hx : Int).tmod (N : Int) = (h0 : Int) := by rw [Int.tmod_eq_emod_of_nonneg (by omega), hhm]; rfl
  have hq2 : (hx : Int) % (N : Int) = (h0 : Int) := by rw [hhm]; rfl
  have hh : h0 < N := by rw [hhm]; exact Nat.mod_lt _ hN0
  have hw0 : IntKind.i64.wrap (h0 : Int) = (h0 : Int) := by rw [IntKind.wrap_i64]; omega
  have hwu : IntKind.u64.wrap (h0 : Int) = (h0 : Int) := by rw [IntKind.wrap_u64]; omega
  have hn0 : ((N : Int) == 0) = false := by simp; omega
  have fz := H.free 4
  have HH := Lib.hid H; have HHS := Lib.hid HS; have HG := Lib.hid G; have HZ := Lib.hid (show p0 < S.length ∧ (slAt S p0).1 = 0 from ⟨by omega, hz⟩); have HN := Lib.hid hN; have HN2 := Lib.hid hN2; have Hne := Lib.hid hne
  have HK := Lib.hid (hash_ok w (x := id) (by omega))
  rw [← hhx] at HK
  have Hh0 := Lib.hid hh0; have Hh := Lib.hid hh; have Hhl := Lib.hid hhl
  clear H HS G hz hN hN2 hne hh0 hhm hh hhl hp0 hhx hid
  go_enter Try.func57, Try.ntmps57
  go_wp2_with fail
  apply wp_scope_straight
  go_wp2_with fail
  refine HK.out.mono ?_
  rintro e w1 ⟨rfl, rfl⟩
  go_wp2_with fail
  apply wp_label
  have HH1 := Lib.hid (HH.out.steps 0)
  have hf1 : Fr (fun b => b = bh) w (w.setCell ⟨bh, 4, none⟩ (.int .i64 0)) := Fr.setCell (F := fun b => b = bh) (p := ⟨bh, 4, none⟩) (Fr.refl _ _) (fun _ => rfl) _
  simp only [Int.natCast_zero] at HH1
  have HF1 := Lib.hid hf1
  clear c0 c4 fz hf1 hq hq2 hcv hcn
  generalize w.setCell ⟨bh, 4, none⟩ (.int .i64 0) = w2 at HH1 HF1 ⊢
  go_upto_block 0 with fail
  go_cut [7, 8] (fun _ s8 wx => ∃ (p st' : Nat), s8 = .int .i64 (p : Int) ∧ 1 ≤ st' ∧ st' ≤ N ∧ HeadAt wx bh g N most len gr st' ∧ Fr (fun b => b = bh) w wx ∧ Place S (home N id) p ∧ ∀ q, q < S.length → ¬ ((slAt S q).1 = 1 ∧ (slAt S q).2.1 = id))
  case first =>
    go_wp2_with fail
    go_loopw [7, 8] (fun s7 s8 wr => ∃ (t p : Nat) (f : Option Nat) (y : Int), s7 = .int .i64 (p : Int) ∧ s8 = .int .i64 y ∧ y = frV f ∧ p = (home N id + t) % N ∧ Stand w bh g N most len gr id S t f wr) (fun _ _ wr => N - stepsOf wr bh)
    case atStart => exact ⟨0, h0, none, -1, rfl, rfl, rfl, by rw [Hh0.out, Nat.add_zero, Nat.mod_eq_of_lt (by rw [← Hh0.out]; exact Hh.out)], ⟨Look.start _ _ _, Nat.zero_le _, HH1.out, HF1.out⟩⟩
    case round =>
      obtain ⟨t, p, f, y, rfl, rfl, hy, hp, hs⟩ := hrel
      have hpN : p < N := by rw [hp]; exact Nat.mod_lt _ (Nat.lt_of_le_of_lt (Nat.zero_le _) Hh.out)
      have htN : t < N := by
        refine Nat.lt_of_le_of_ne hs.le fun e => ?_
        have h : Look S (home N id) id S.length f := by rw [HN.out.trans e.symm]; exact hs.look
        exact h.full HZ.out.1 HZ.out.2
      obtain ⟨x, hx⟩ : ∃ x, x = slAt S p := ⟨_, rfl⟩
      have hle2 : x.1 ≤ 2 := by
        refine HG.out.le2 x ?_
        have := slAt_of (S := S) (p := p) (by rw [HN.out]; exact hpN)
        rw [← hx] at this
        exact List.mem_of_getElem? this
      obtain ⟨sa, si, sv⟩ := x
      simp only at hle2
      obtain ⟨c0, -, -, -, c4⟩ := hs.head.cells
      have fz := hs.head.free 4
      have htl : (t : Int) < (N : Int) := by omega
      have hpl : (p : Int) < (N : Int) := by omega
      have hp0 : (0 : Int) ≤ (p : Int) := by omega
      obtain ⟨t1, ht1⟩ : ∃ t1, t1 = t + 1 := ⟨_, rfl⟩
      have ht2 : (t : Int) + 1 = (t1 : Int) := by omega
      obtain ⟨ht3, ht4, -⟩ := wrap_small (x := t1) (by have := HN2.out; omega)
      obtain ⟨p1, hp1⟩ : ∃ p1, p1 = p + 1 := ⟨_, rfl⟩
      have hp2 : (p : Int) + 1 = (p1 : Int) := by omega
      obtain ⟨hp3, hp4, -⟩ := wrap_small (x := p1) (by have := HN2.out; omega)
      obtain ⟨pn, hpn⟩ : ∃ pn, pn = p1 % N := ⟨_, rfl⟩
      obtain ⟨hpn1, hpn2⟩ := mod_small (x := p1) (n := N)
      rw [← hpn] at hpn1 hpn2
      have hnext : pn = (home N id + t1) % N := by rw [hpn, hp1, hp, ht1]; exact next_turn _ _ _
      have hpnl : pn < N := by rw [hpn]; exact Nat.mod_lt _ (Nat.lt_of_le_of_lt (Nat.zero_le _) hpN)
      obtain ⟨hp5, hp6, -⟩ := wrap_small (x := pn) (Nat.le_trans (Nat.le_of_lt hpnl) (Nat.le_trans HN2.out (by decide)))
      have Hp := Lib.hid hp; have Hs := Lib.hid hs; have HpN := Lib.hid hpN; have HtN := Lib.hid htN; have HX := Lib.hid hx; have Hnext := Lib.hid hnext; have Ht1 := Lib.hid ht1
      clear hp hs hpN htN hx hnext ht1 hp1 hpn hpnl
      go_upto_region 7 with fail
      have hf3 : Fr (fun b => b = bh) w (wr.setCell ⟨bh, 4, none⟩ (.int .i64 t1)) := Fr.setCell (F := fun b => b = bh) (p := ⟨bh, 4, none⟩) Hs.out.fr (fun _ => rfl) _
      have hh3 := Hs.out.head.steps t1
      clear c0 c4 fz htl ht2 ht3 ht4
      generalize wr.setCell ⟨bh, 4, none⟩ (.int .i64 t1) = w3 at hf3 hh3 ⊢
      obtain ⟨k0, k1, k2⟩ := (HHS.out.fr hf3 (fun e => Hne.out e.symm)).cells (p := p) (by rw [HN.out]; exact HpN.out)
      rw [← HX.out] at k0 k1 k2
      simp only at k0 k1 k2
      have c0 := hh3.cells.1
      have HF3 := Lib.hid hf3; have HH3 := Lib.hid hh3
      clear hf3 hh3
      go_upto_region 8 with fail
      have hw4 : (w3.alloc (.cells #[.int .u8 (sa : Int), .int .u32 (si : Int), .int .i64 sv] 106)).heap[w3.heap.size]? = some (.cells #[.int .u8 (sa : Int), .int .u32 (si : Int), .int .i64 sv] 106 (0, 0)) := by rw [heap_alloc_get]; simp
      have hf4 : Fr (fun b => b = bh) w (w3.alloc (.cells #[.int .u8 (sa : Int), .int .u32 (si : Int), .int .i64 sv] 106)) := Fr.alloc HF3.out _
      have hh4 : HeadAt (w3.alloc (.cells #[.int .u8 (sa : Int), .int .u32 (si : Int), .int .i64 sv] 106)) bh g N most len gr t1 := HH3.out.fr (Fr.alloc (Fr.refl (fun _ => False) _) _) (fun h => h)
      clear k0 k1 k2 c0
      generalize w3.alloc (.cells #[.int .u8 (sa : Int), .int .u32 (si : Int), .int .i64 sv] 106) = w4 at hw4 hf4 hh4 ⊢
      generalize w3.heap.size = lb at hw4 ⊢
      have HF4 := Lib.hid hf4; have HH4 := Lib.hid hh4
      have ht1 : t1 ≤ N ∧ 1 ≤ t1 := by have := Ht1.out; have := HtN.out; omega
      have HT1 := Lib.hid ht1
      have hx2 : slAt S ((home N id + t) % S.length) = (sa, si, sv) := by rw [HN.out, ← Hp.out]; exact HX.out.symm
      have HX2 := Lib.hid hx2
      clear hf4 hh4 ht1 hx2
      rcases (by omega : sa = 0 ∨ sa = 2 ∨ sa = 1) with rfl | rfl | rfl
      · have b0 : w4.cell? ⟨lb, 0, none⟩ = some (.int .u8 0) := (cell_of hw4 0).trans rfl
        have HE := Lib.hid (Hs.out.look.ends HG.out (by rw [HN.out]; exact HtN.out) (by rw [HX2.out]))
        clear hw4
        cases f with
        | none =>
          obtain rfl : y = -1 := hy
          go_wp2_with fail
          go_meet
          refine ⟨p, t1, rfl, HT1.out.2, HT1.out.1, HH4.out, HF4.out, ?_, HE.out.2⟩
          have := HE.out.1
          rw [Option.getD_none, HN.out, ← Hp.out] at this
          exact this
        | some q =>
          obtain rfl : y = (q : Int) := hy
          have hq0 : decide ((q : Int) < 0) = false := by simp
          go_wp2_with fail
          go_meet
          exact ⟨q, t1, rfl, HT1.out.2, HT1.out.1, HH4.out, HF4.out, HE.out.1, HE.out.2⟩
      · have b0 : w4.cell? ⟨lb, 0, none⟩ = some (.int .u8 2) := (cell_of hw4 0).trans rfl
        clear hw4
        cases f with
        | none =>
          obtain rfl : y = -1 := hy
          have HL := Lib.hid (Hs.out.look.grave (by rw [HX2.out]))
          go_wp2_with fail
          go_roundw
          case rel => exact ⟨t1, pn, some p, _, rfl, rfl, rfl, Hnext.out, ⟨by have := HL.out; rw [HN.out, ← Hp.out, ← Ht1.out] at this; exact this, HT1.out.1, HH4.out, HF4.out⟩⟩
          case measure => have h1 := stepsOf_head Hs.out.head; have h2 := stepsOf_head HH4.out; have := HtN.out; have := Ht1.out; rw [h1, h2]; omega
        | some q =>
          obtain rfl : y = (q : Int) := hy
          have hq0 : decide ((q : Int) < 0) = false := by simp
          have HL := Lib.hid (Hs.out.look.more (by rw [HX2.out]; simp) (by rw [HX2.out]; simp))
          go_wp2_with fail
          go_roundw
          case rel => exact ⟨t1, pn, some q, _, rfl, rfl, rfl, Hnext.out, ⟨by rw [Ht1.out]; exact HL.out, HT1.out.1, HH4.out, HF4.out⟩⟩
          case measure => have h1 := stepsOf_head Hs.out.head; have h2 := stepsOf_head HH4.out; have := HtN.out; have := Ht1.out; rw [h1, h2]; omega
      · have b0 : w4.cell? ⟨lb, 0, none⟩ = some (.int .u8 1) := (cell_of hw4 0).trans rfl
        have b1 : w4.cell? ⟨lb, 1, none⟩ = some (.int .u32 (si : Int)) := (cell_of hw4 1).trans rfl
        clear hw4
        by_cases hi : si = id
        · subst hi
          have hb : ((si : Int) == (si : Int)) = true := by simp
          go_wp2_with fail
          rw [Exit.noGoto_ret]
          refine bodyPost_ret (v := .tuple #[.int .i64 (p : Int), .bool true]) ?_ rfl ?_
          · simp [results, Try.f57, go_sem]
          · exact ⟨t1, HT1.out.2, HT1.out.1, HH4.out, HF4.out, .inl ⟨p, rfl, HpN.out, by rw [← HX.out], by rw [← HX.out]⟩⟩
        · have hb : ((si : Int) == (id : Int)) = false := by simp; omega
          have HL := Lib.hid (Hs.out.look.more (by rw [HX2.out]; simp) (by rw [HX2.out]; exact fun h => hi h.2))
          clear hi
          go_wp2_with fail
          go_roundw
          case rel => exact ⟨t1, pn, f, y, rfl, rfl, hy, Hnext.out, ⟨by rw [Ht1.out]; exact HL.out, HT1.out.1, HH4.out, HF4.out⟩⟩
          case measure => have h1 := stepsOf_head Hs.out.head; have h2 := stepsOf_head HH4.out; have := HtN.out; have := Ht1.out; rw [h1, h2]; omega
  case rest =>
  obtain ⟨p, st', rfl, h1, h2, hh, hf, hpl, hab⟩ := hcut
  have HR := Lib.hid (show 1 ≤ st' ∧ st' ≤ N ∧ HeadAt _ bh g N most len gr st' ∧ Fr (fun b => b = bh) w _ ∧ Place S (home N id) p ∧ ∀ q, q < S.length → ¬ ((slAt S q).1 = 1 ∧ (slAt S q).2.1 = id) from ⟨h1, h2, hh, hf, hpl, hab⟩)
  clear h1 h2 hh hf hpl hab
  go_wp2_with fail
  rw [Exit.noGoto_ret]
  refine bodyPost_ret (v := .tuple #[.int .i64 (p : Int), .bool false]) ?_ rfl ?_
  · simp [results, Try.f57, go_sem]
  · obtain ⟨h1, h2, hh, hf, hpl, hab⟩ := HR.out
    exact ⟨st', h1, h2, hh, hf, .inr ⟨p, rfl, hpl, hab⟩⟩
end Go.Proofs.Ytmmjlnicfndmcaa.Ix
namespace Go.Proofs.Ytmmjlnicfndmcaa.Ix
open Go.RowKit
/-- An index's parts, whatever it is laden with. -/
structure Raw (w : World) (bh g N most : Nat) (S : List Sl) (L : List (Nat × Int)) (st : Nat) : Prop where
  head : HeadAt w bh g N most L.length (graves S) st
  slots : SlotsAt w g S
  len : S.length = N
  good : Good (home N) S
  maps : Maps S L
  ids : ∀ x ∈ L, x.1 < 4294967296
  ne : bh ≠ g
  lo : 2 * most ≤ N
  one : 1 ≤ most
  hi : N ≤ 8192
/-- An index that holds L, for at most so many; st: the last search's steps. -/
def IxAt (w : World) (bh g N most : Nat) (L : List (Nat × Int)) (st : Nat) : Prop := ∃ S, Raw w bh g N most S L st ∧ 4 * (L.length + graves S) ≤ 3 * N ∧ L.length ≤ most ∧ st ≤ N
theorem Raw.fr {w w' : World} {bh g N most : Nat} {S : List Sl} {L : List (Nat × Int)} {st : Nat} (h : Raw w bh g N most S L st) {F : Nat → Prop} (f : Fr F w w') (h1 : ¬ F bh) (h2 : ¬ F g) : Raw w' bh g N most S L st :=
  ⟨h.head.fr f h1, h.slots.fr f h2, h.len, h.good, h.maps, h.ids, h.ne, h.lo, h.one, h.hi⟩
theorem IxAt.fr {w w' : World} {bh g N most : Nat} {L : List (Nat × Int)} {st : Nat} (h : IxAt w bh g N most L st) {F : Nat → Prop} (f : Fr F w w') (h1 : ¬ F bh) (h2 : ¬ F g) : IxAt w' bh g N most L st := by
  obtain ⟨S, hr, h3⟩ := h; exact ⟨S, hr.fr f h1 h2, h3⟩
theorem Raw.gap {w : World} {bh g N most : Nat} {S : List Sl} {L : List (Nat × Int)} {st : Nat} (h : Raw w bh g N most S L st) (hl : L.length + graves S < N) : ∃ p, p < N ∧ (slAt S p).1 = 0 := by
  have := _root_.Go.Proofs.Ytmmjlnicfndmcaa.Ix.gap h.good.le2 (by rw [← h.maps.length, h.len]; exact hl)
  rwa [h.len] at this
theorem IxAt.lt {w : World} {bh g N most : Nat} {L : List (Nat × Int)} {st : Nat} (h : IxAt w bh g N most L st) : bh < w.heap.size ∧ g < w.heap.size := by
  obtain ⟨S, hr, _⟩ := h; exact ⟨hr.head.lt, hr.slots.lt⟩
theorem IxAt.ne {w : World} {bh g N most : Nat} {L : List (Nat × Int)} {st : Nat} (h : IxAt w bh g N most L st) : bh ≠ g := by
  obtain ⟨S, hr, _⟩ := h; exact hr.ne
theorem IxAt.up {w : World} {bh g N most : Nat} {L : List (Nat × Int)} {st : Nat} (h : IxAt w bh g N most L st) : L.Pairwise fun a b => a.1 < b.1 := by
  obtain ⟨S, hr, _⟩ := h; exact hr.maps.up
theorem IxAt.load {w : World} {bh g N most : Nat} {L : List (Nat × Int)} {st : Nat} (h : IxAt w bh g N most L st) : L.length ≤ most := by
  obtain ⟨S, hr, _, h2, _⟩ := h; exact h2
/-- Find, over an index's parts. -/
theorem find_raw {w : World} {bh g N most st id : Nat} {S : List Sl} {L : List (Nat × Int)} (H : Raw w bh g N most S L st) (hl : L.length + graves S < N) (hid : id < 4294967296) :
    Calls Try.prog 57 #[.pointer (some ⟨bh, 0, none⟩), .int .u32 (id : Int)] w fun e w' => ∃ st', 1 ≤ st' ∧ st' ≤ N ∧ Raw w' bh g N most S L st' ∧ Fr (fun b => b = bh) w w' ∧ Found S N id e := by
  refine (find_ok H.head H.slots H.len H.good (H.gap hl) H.ne hid H.hi).mono ?_
  rintro e w' ⟨st', h1, h2, h3, h4, h5⟩
  exact ⟨st', h1, h2, ⟨h3, H.slots.fr h4 (fun e => H.ne e.symm), H.len, H.good, H.maps, H.ids, H.ne, H.lo, H.one, H.hi⟩, h4, h5⟩
theorem upd_none {L : List (Nat × Int)} {id : Nat} (v : Int) (h : look L id = none) : upd L id v = L := by
  unfold upd
  conv => rhs; rw [← List.map_id L]
  apply List.map_congr_left
  intro x hx
  rw [if_neg (look_none.1 h x hx)]; rfl
theorem del_none {L : List (Nat × Int)} {id : Nat} (h : look L id = none) : del L id = L := by
  unfold del
  rw [List.filter_eq_self]
  intro x hx
  simpa using look_none.1 h x hx
section simple
variable {w : World} {bh g N most : Nat} {L : List (Nat × Int)} {st : Nat}
set_option maxRecDepth 100000 in
theorem len_ok (h : IxAt w bh g N most L st) : Calls Try.prog 36 #[.pointer (some ⟨bh, 0, none⟩)] w fun e w' => e = .returned (.int .i64 (L.length : Int)) ∧ w = w' := by
  obtain ⟨S, hr, _⟩ := h
  have c := hr.head.cells.2.2.1
  have H := Lib.hid hr.head
  clear hr
  go_enter Try.func36, Try.ntmps36
  go_wp2_with fail
  refine (made_ok H.out).mono ?_
  rintro e w1 ⟨rfl, rfl⟩
  go_wp2_with fail
  go_ret
  exact ⟨rfl, rfl⟩
theorem load_lt (hr : 2 * most ≤ N) (h1 : 1 ≤ most) {l gr : Nat} (h : 4 * (l + gr) ≤ 3 * N) : l + gr < N := by omega
set_option maxRecDepth 100000 in
theorem get_ok (h : IxAt w bh g N most L st) {id : Nat} (hid : id < 4294967296) : Calls Try.prog 35 #[.pointer (some ⟨bh, 0, none⟩), .int .u32 (id : Int)] w fun e w' => ∃ st', 1 ≤ st' ∧ e = .returned (.tuple #[.int .i64 ((look L id).getD 0), .bool (look L id).isSome]) ∧ IxAt w' bh g N most L st' ∧ Fr (fun b => b = bh) w w' := by
  obtain ⟨S, hr, hl1, hl2, hl3⟩ := h
  have HF := Lib.hid (find_raw hr (load_lt hr.lo hr.one hl1) hid)
  have H := Lib.hid hr.head; have HL := Lib.hid hl1; have HL2 := Lib.hid hl2
  clear hr hl1 hl2 hl3 hid
  go_enter Try.func35, Try.ntmps35
  go_wp2_with fail
  refine (made_ok H.out).mono ?_
  rintro e w1 ⟨rfl, rfl⟩
  go_wp2_with fail
  refine HF.out.mono ?_
  rintro e w1 ⟨st', h1, h2, hr, hf, hd⟩
  rcases hd with ⟨p, rfl, hp, hs⟩ | ⟨p, rfl, -, ha⟩
  · have hlk := hr.maps.found (by rw [hr.len]; exact hp) hs
    have c0 := hr.head.cells.1
    have c2 := (hr.slots.cells (p := p) (by rw [hr.len]; exact hp)).2.2
    have hpl : (p : Int) < (N : Int) := by omega
    have HR := Lib.hid hr; have Hf := Lib.hid hf; have HK := Lib.hid hlk; have HS := Lib.hid (And.intro h1 h2)
    clear hr hf hlk h1 h2 hs hp
    go_wp2_with fail
    refine bodyPost_ret (v := .tuple #[.int .i64 (slAt S p).2.2, .bool true]) ?_ rfl ?_
    · simp [results, Try.f35, go_sem]
    · exact ⟨st', HS.out.1, by rw [HK.out]; rfl, ⟨S, HR.out, HL.out, HL2.out, HS.out.2⟩, Hf.out⟩
  · have hlk := hr.maps.absent ha
    have HR := Lib.hid hr; have Hf := Lib.hid hf; have HK := Lib.hid hlk; have HS := Lib.hid (And.intro h1 h2)
    clear hr hf hlk h1 h2 ha
    go_wp2_with fail
    refine bodyPost_ret (v := .tuple #[.int .i64 0, .bool false]) ?_ rfl ?_
    · simp [results, Try.f35, go_sem]
    · exact ⟨st', HS.out.1, by rw [HK.out]; rfl, ⟨S, HR.out, HL.out, HL2.out, HS.out.2⟩, Hf.out⟩
theorem look_mem (hu : L.Pairwise fun a b => a.1 < b.1) {id : Nat} {v : Int} (h : look L id = some v) : ∃ x ∈ L, x.1 = id := ⟨(id, v), (look_of hu).1 h, rfl⟩
theorem Raw.upd {S : List Sl} {w' : World} (hr : Raw w bh g N most S L st) {p id : Nat} (v : Int) (hp : p < N) (hs : (slAt S p).1 = 1 ∧ (slAt S p).2.1 = id) (hh : HeadAt w' bh g N most L.length (graves S) st) (hsl : SlotsAt w' g (S.set p (1, id, v))) : Raw w' bh g N most (S.set p (1, id, v)) (upd L id v) st ∧ graves (S.set p (1, id, v)) = graves S := by
  have hp' : p < S.length := by rw [hr.len]; exact hp
  have hg : graves (S.set p (1, id, v)) = graves S := by
    have := graves_set hp' (1, id, v)
    rw [if_neg (by rw [hs.1]; simp), if_neg (by simp)] at this; omega
  refine ⟨⟨?_, hsl, by rw [List.length_set]; exact hr.len, hr.good.setv hp' hs, hr.maps.setv hr.good hp' hs, ?_, hr.ne, hr.lo, hr.one, hr.hi⟩, hg⟩
  · rw [upd_length, hg]; exact hh
  · intro x hx
    obtain ⟨y, hy, rfl⟩ := List.mem_map.1 hx
    obtain ⟨z, hz, hzi⟩ := look_mem hr.maps.up (hr.maps.found hp' hs)
    split
    · exact hzi ▸ hr.ids z hz
    · exact hr.ids y hy
set_option maxRecDepth 100000 in
theorem set_ok (h : IxAt w bh g N most L st) {id : Nat} (hid : id < 4294967296) (v : Int) : Calls Try.prog 55 #[.pointer (some ⟨bh, 0, none⟩), .int .u32 (id : Int), .int .i64 v] w fun e w' => ∃ st', 1 ≤ st' ∧ e = .returned (.bool (look L id).isSome) ∧ IxAt w' bh g N most (upd L id v) st' ∧ Fr (fun b => b = bh ∨ b = g) w w' := by
  obtain ⟨S, hr, hl1, hl2, hl3⟩ := h
  have HF := Lib.hid (find_raw hr (load_lt hr.lo hr.one hl1) hid)
  have H := Lib.hid hr.head; have HL := Lib.hid hl1; have HL2 := Lib.hid hl2
  clear hr hl1 hl2 hl3 hid
  go_enter Try.func55, Try.ntmps55
  go_wp2_with fail
  refine (made_ok H.out).mono ?_
  rintro e w1 ⟨rfl, rfl⟩
  go_wp2_with fail
  refine HF.out.mono ?_
  rintro e w1 ⟨st', h1, h2, hr, hf, hd⟩
  rcases hd with ⟨p, rfl, hp, hs⟩ | ⟨p, rfl, -, ha⟩
  · have hlk := hr.maps.found (by rw [hr.len]; exact hp) hs
    have c0 := hr.head.cells.1
    have c2 := (hr.slots.cells (p := p) (by rw [hr.len]; exact hp)).2.2
    have fz := hr.slots.free (p * 3 + 2)
    have hpl : (p : Int) < (N : Int) := by omega
    have hsl := hr.slots.setv (p := p) (by rw [hr.len]; exact hp) v
    rw [hs.1, hs.2] at hsl
    have hfs : Fr (fun b => b = bh ∨ b = g) w (w1.setCell ⟨g, p * 3 + 2, none⟩ (.int .i64 v)) := Fr.setCell (F := fun b => b = bh ∨ b = g) (p := ⟨g, p * 3 + 2, none⟩) (hf.mono (fun _ _ h => .inl h)) (fun _ => .inr rfl) _
    have hh := hr.head.fr (Fr.setCell (F := fun b => b = g) (p := ⟨g, p * 3 + 2, none⟩) (Fr.refl _ w1) (fun _ => rfl) (.int .i64 v)) hr.ne
    have HR := Lib.hid (hr.upd v hp hs hh hsl); have Hf := Lib.hid hfs; have HK := Lib.hid hlk; have HS := Lib.hid (And.intro h1 h2)
    clear hr hf hlk h1 h2 hs hp hsl hfs hh
    go_wp2_with fail
    go_ret
    obtain ⟨hr, hg⟩ := HR.out
    exact ⟨st', HS.out.1, by rw [HK.out]; rfl, ⟨_, hr, by rw [hg, upd_length]; exact HL.out, by rw [upd_length]; exact HL2.out, HS.out.2⟩, Hf.out⟩
  · have hlk := hr.maps.absent ha
    have HR := Lib.hid hr; have Hf := Lib.hid hf; have HK := Lib.hid hlk; have HS := Lib.hid (And.intro h1 h2)
    clear hr hf hlk h1 h2 ha
    go_wp2_with fail
    go_ret
    exact ⟨st', HS.out.1, by rw [HK.out]; rfl, by rw [upd_none v HK.out]; exact ⟨S, HR.out, HL.out, HL2.out, HS.out.2⟩, Hf.out.mono (fun _ _ h => .inl h)⟩
theorem Raw.del {S : List Sl} {w' : World} (hr : Raw w bh g N most S L st) {p id : Nat} (hp : p < N) (hs : (slAt S p).1 = 1 ∧ (slAt S p).2.1 = id) (hh : HeadAt w' bh g N most (L.length - 1) (graves S + 1) st) (hsl : SlotsAt w' g (S.set p (2, 0, 0))) : Raw w' bh g N most (S.set p (2, 0, 0)) (del L id) st ∧ graves (S.set p (2, 0, 0)) = graves S + 1 ∧ (del L id).length + 1 = L.length := by
  have hp' : p < S.length := by rw [hr.len]; exact hp
  have hg : graves (S.set p (2, 0, 0)) = graves S + 1 := by
    have := graves_set hp' (2, 0, 0)
    rw [if_neg (by rw [hs.1]; simp), if_pos (by simp)] at this; omega
  have hd := del_length hr.maps.up (hr.maps.found hp' hs)
  refine ⟨⟨?_, hsl, by rw [List.length_set]; exact hr.len, hr.good.drop hp', hr.maps.drop hr.good hp' hs, ?_, hr.ne, hr.lo, hr.one, hr.hi⟩, hg, hd⟩
  · rw [hg, show (Ix.del L id).length = L.length - 1 by omega]; exact hh
  · intro x hx
    exact hr.ids x (List.mem_filter.1 hx).1
set_option maxRecDepth 100000 in
theorem drop_ok (h : IxAt w bh g N most L st) {id : Nat} (hid : id < 4294967296) : Calls Try.prog 52 #[.pointer (some ⟨bh, 0, none⟩), .int .u32 (id : Int)] w fun e w' => ∃ st', 1 ≤ st' ∧ e = .returned (.bool (look L id).isSome) ∧ IxAt w' bh g N most (del L id) st' ∧ Fr (fun b => b = bh ∨ b = g) w w' := by
  obtain ⟨S, hr, hl1, hl2, hl3⟩ := h
  have HF := Lib.hid (find_raw hr (load_lt hr.lo hr.one hl1) hid)
  have H := Lib.hid hr.head; have HL := Lib.hid hl1; have HL2 := Lib.hid hl2
  have hN8 := hr.hi
  have hm : L.length ≤ most := hl2
  have hlo := hr.lo
  obtain ⟨q, hq⟩ : ∃ q, q = L.length := ⟨_, rfl⟩
  obtain ⟨gr, hgr⟩ : ∃ gr, gr = graves S := ⟨_, rfl⟩
  have hq6 : q ≤ 8192 := by omega
  have hgr6 : gr ≤ 8192 := by rw [hgr]; exact Nat.le_trans (graves_le S) (by rw [hr.len]; exact hr.hi)
  have HQ := Lib.hid hq; have HGR := Lib.hid hgr
  clear hr hl1 hl2 hl3 hid hm hq hgr hlo hN8
  go_enter Try.func52, Try.ntmps52
  go_wp2_with fail
  refine (made_ok H.out).mono ?_
  rintro e w1 ⟨rfl, rfl⟩
  go_wp2_with fail
  refine HF.out.mono ?_
  rintro e w1 ⟨st', h1, h2, hr, hf, hd⟩
  rcases hd with ⟨p, rfl, hp, hs⟩ | ⟨p, rfl, -, ha⟩
  · have hp' : p < S.length := by rw [hr.len]; exact hp
    have hlk := hr.maps.found hp' hs
    have hq1 : 1 ≤ q := by have := del_length hr.maps.up hlk; rw [HQ.out]; omega
    have hhd := hr.head
    rw [← HQ.out, ← HGR.out] at hhd
    have c0 := hhd.cells.1
    obtain ⟨k0, k1, k2⟩ := hr.slots.cells hp'
    have z0 := hr.slots.free (p * 3); have z1 := hr.slots.free (p * 3 + 1); have z2 := hr.slots.free (p * 3 + 2)
    have hpl : (p : Int) < (N : Int) := by omega
    have hsl : SlotsAt (((w1.setCell ⟨g, p * 3, none⟩ (.int .u8 2)).setCell ⟨g, p * 3 + 1, none⟩ (.int .u32 0)).setCell ⟨g, p * 3 + 2, none⟩ (.int .i64 0)) g (S.set p (2, 0, 0)) := hr.slots.set hp' (2, 0, 0)
    have fs : Fr (fun b => b = g) w1 (((w1.setCell ⟨g, p * 3, none⟩ (.int .u8 2)).setCell ⟨g, p * 3 + 1, none⟩ (.int .u32 0)).setCell ⟨g, p * 3 + 2, none⟩ (.int .i64 0)) := Fr.setCell (F := fun b => b = g) (p := ⟨g, p * 3 + 2, none⟩) (Fr.setCell (F := fun b => b = g) (p := ⟨g, p * 3 + 1, none⟩) (Fr.setCell (F := fun b => b = g) (p := ⟨g, p * 3, none⟩) (Fr.refl _ w1) (fun _ => rfl) _) (fun _ => rfl) _) (fun _ => rfl) _
    have HR := Lib.hid hr; have Hf := Lib.hid hf; have HK := Lib.hid hlk; have HS := Lib.hid (And.intro h1 h2); have Hhd := Lib.hid hhd; have Hsl := Lib.hid hsl; have Fs := Lib.hid fs; have Hp := Lib.hid hp; have Hs := Lib.hid hs
    clear hr hf hlk h1 h2 hp hp' hhd hsl fs hs
    go_upto_region 6 with fail
    have hh2 := Hhd.out.fr Fs.out HR.out.ne
    have hsl2 := Hsl.out
    have hf2 := Hf.out.mono (G := fun b => b = bh ∨ b = g) (fun _ _ h => .inl h) |>.trans Fs.out (fun _ _ h => .inr h)
    clear k0 k1 k2 z0 z1 z2 c0 hpl
    generalize ((w1.setCell ⟨g, p * 3, none⟩ (.int .u8 2)).setCell ⟨g, p * 3 + 1, none⟩ (.int .u32 0)).setCell ⟨g, p * 3 + 2, none⟩ (.int .i64 0) = w3 at hh2 hsl2 hf2 ⊢
    obtain ⟨q1, hq2⟩ : ∃ q1, q = q1 + 1 := ⟨q - 1, by omega⟩
    have e1 : (q : Int) - 1 = (q1 : Int) := by omega
    obtain ⟨e2, e3, -⟩ := wrap_small (x := q1) (by omega)
    have e4 : (gr : Int) + 1 = ((gr + 1 : Nat) : Int) := by omega
    obtain ⟨e5, e6, -⟩ := wrap_small (x := gr + 1) (by omega)
    obtain ⟨gr1, hgr1⟩ : ∃ gr1, gr1 = gr + 1 := ⟨_, rfl⟩
    rw [← hgr1] at e4 e5 e6
    obtain ⟨-, -, c2, c3, -⟩ := hh2.cells
    have z2 := hh2.free 2; have z3 := hh2.free 3
    have hh3 := (hh2.len q1).graves gr1
    have hsl3 : SlotsAt ((w3.setCell ⟨bh, 2, none⟩ (.int .i64 (q1 : Int))).setCell ⟨bh, 3, none⟩ (.int .i64 (gr1 : Int))) g (S.set p (2, 0, 0)) := hsl2.fr (Fr.setCell (F := fun b => b = bh) (p := ⟨bh, 3, none⟩) (Fr.setCell (F := fun b => b = bh) (p := ⟨bh, 2, none⟩) (Fr.refl _ w3) (fun _ => rfl) _) (fun _ => rfl) _) (fun e => HR.out.ne e.symm)
    have hf3 : Fr (fun b => b = bh ∨ b = g) w ((w3.setCell ⟨bh, 2, none⟩ (.int .i64 (q1 : Int))).setCell ⟨bh, 3, none⟩ (.int .i64 (gr1 : Int))) := Fr.setCell (F := fun b => b = bh ∨ b = g) (p := ⟨bh, 3, none⟩) (Fr.setCell (F := fun b => b = bh ∨ b = g) (p := ⟨bh, 2, none⟩) hf2 (fun _ => .inl rfl) _) (fun _ => .inl rfl) _
    have hq1e : q1 = L.length - 1 := by rw [← HQ.out]; omega
    rw [hq1e, hgr1, HGR.out, ← hq1e] at hh3
    have HRD := Lib.hid (HR.out.del Hp.out Hs.out (by rw [← hq1e]; exact hh3) (by have h := hsl3; rw [hgr1, HGR.out] at h; exact h))
    have Hf3 := Lib.hid hf3; have Hg1 := Lib.hid hgr1
    clear hh2 hsl2 hf2 hh3 hsl3 hf3 hq1e hq2 hgr1 hq6 hgr6 hq1
    go_wp2_with fail
    go_ret
    obtain ⟨hr, hg, hd⟩ := HRD.out
    refine ⟨st', HS.out.1, by rw [HK.out]; rfl, ⟨_, ?_, by rw [hg]; have := HL.out; omega, by have := HL2.out; omega, HS.out.2⟩, Hf3.out⟩
    have e := Hg1.out
    rw [HGR.out] at e
    rw [e]; exact hr
  · have hlk := hr.maps.absent ha
    have HR := Lib.hid hr; have Hf := Lib.hid hf; have HK := Lib.hid hlk; have HS := Lib.hid (And.intro h1 h2)
    clear hr hf hlk h1 h2 ha hq6 hgr6
    go_wp2_with fail
    go_ret
    exact ⟨st', HS.out.1, by rw [HK.out]; rfl, by rw [del_none HK.out]; exact ⟨S, HR.out, HL.out, HL2.out, HS.out.2⟩, Hf.out.mono (fun _ _ h => .inl h)⟩
end simple
end Go.Proofs.Ytmmjlnicfndmcaa.Ix
namespace Go.Proofs.Ytmmjlnicfndmcaa.Du
open Go.RowKit
/-- fv is a function value that answers lt of items in A; it keeps J, and writes no blocks but those in FJ. -/
structure LessOk (P : Program) (fv : Value) (lt : Int → Int → Bool) (J : World → Prop) (FJ : Nat → Prop) (A : Int → Prop) (fl : Nat) (caps : Array Value) : Prop where
  eq : fv = .func (.func fl) #[] caps
  enter : ∀ args w, (callFunc fl args).run P w = .ok (.enter fl args) w
  call : ∀ w x y, J w → A x → A y → Calls P fl (#[.agg #[.int .i64 (dU x), .int .u32 (dI x)], .agg #[.int .i64 (dU y), .int .u32 (dI y)]] ++ caps) w fun e w' => e = .returned (.bool (lt x y)) ∧ J w' ∧ Fr FJ w w'
  keep : ∀ w w', J w → Fr (fun b => ¬ FJ b) w w' → J w'
  bound : ∀ w b, J w → FJ b → b < w.heap.size
set_option maxRecDepth 100000 in
set_option maxHeartbeats 1000000 in
theorem ahead_spec {fv : Value} {lt : Int → Int → Bool} {J : World → Prop} {FJ : Nat → Prop} {A : Int → Prop} {fl : Nat} {caps : Array Value} (hL : LessOk Try.prog fv lt J FJ A fl caps)
    {w : World} (hJ : J w) {bh bi n cap : Nat} {mv nv : Value} {arr : Array Value}
    (hH : w.heap[bh]? = some (.cells #[fv, .slice (some ⟨bi, 0, none⟩) n cap, mv, nv] 117 (0, 0)))
    (hI : w.heap[bi]? = some (.cells arr 119 (0, 0))) (hbh : ¬ FJ bh) (_hbi : ¬ FJ bi)
    {i k : Nat} (hi : (i : Int) < n) (hk : (k : Int) < n) (_hn : n ≤ 9223372036854775807) {xv xh yv yh : Int}
    (h1 : arr[i * 3]? = some (.int .i64 (dU xv))) (h1' : arr[i * 3 + 1]? = some (.int .u32 (dI xv))) (h2 : arr[i * 3 + 2]? = some (.int .i64 xh)) (h3 : arr[k * 3]? = some (.int .i64 (dU yv))) (h3' : arr[k * 3 + 1]? = some (.int .u32 (dI yv))) (h4 : arr[k * 3 + 2]? = some (.int .i64 yh))
    (hx : A xv) (hy : A yv) :
    Calls Try.prog 77 #[.pointer (some ⟨bh, 0, none⟩), .int .i64 i, .int .i64 k] w fun e w' => e = .returned (.bool (aheadB lt xv xh yv yh)) ∧ J w' ∧ Fr FJ w w' := by
  have hfv := hL.eq
  subst hfv
  have c0 := (cell_of hH 0); have c1 := (cell_of hH 1)
  simp at c0 c1
  have d1 := (cell_of hI (i * 3)).trans h1
  have d1' := (cell_of hI (i * 3 + 1)).trans h1'
  have d2 := (cell_of hI (i * 3 + 2)).trans h2
  have d3 := (cell_of hI (k * 3)).trans h3
  have d3' := (cell_of hI (k * 3 + 1)).trans h3'
  have d4 := (cell_of hI (k * 3 + 2)).trans h4
  have lh := lt_of_block hH
  have li := lt_of_block hI
  have hent := hL.enter
  have hB := Lib.hid (hL.bound w)
  have HL := Lib.hid hL
  have HH := Lib.hid hH; have HI := Lib.hid hI
  clear hH hI h1 h1' h2 h3 h3' h4 hL
  go_enter Try.func77, Try.ntmps77
  go_upto_region 1 with fail
  go_cut [7, 8] (fun a b wx => ∃ ba bb : Nat, a = .pointer (some ⟨ba, 0, none⟩) ∧ b = .pointer (some ⟨bb, 0, none⟩) ∧ w.heap.size ≤ ba ∧ w.heap.size ≤ bb ∧ wx.heap[ba]? = some (.cells #[.int .i64 (dU xv), .int .u32 (dI xv), .int .i64 xh] 119 (0, 0)) ∧ wx.heap[bb]? = some (.cells #[.int .i64 (dU yv), .int .u32 (dI yv), .int .i64 yh] 119 (0, 0)) ∧ Fr (fun _ => False) w wx)
  case first =>
    go_region_held3 (fun w' => w'.cell? ⟨bh,0,none⟩ = some (.func (.func fl) #[] caps) ∧ w'.cell? ⟨bh,1,none⟩ = some (.slice (some ⟨bi,0,none⟩) n cap) ∧ w'.cell? ⟨bi, i*3, none⟩ = some (.int .i64 (dU xv)) ∧ w'.cell? ⟨bi, i*3+1, none⟩ = some (.int .u32 (dI xv)) ∧ w'.cell? ⟨bi, i*3+2, none⟩ = some (.int .i64 xh) ∧ w'.cell? ⟨bi, k*3, none⟩ = some (.int .i64 (dU yv)) ∧ w'.cell? ⟨bi, k*3+1, none⟩ = some (.int .u32 (dI yv)) ∧ w'.cell? ⟨bi, k*3+2, none⟩ = some (.int .i64 yh)) (go_keep) (fail)
    all_goals (go_wp2_with fail; go_meet)
    · exact ⟨_, _, rfl, rfl, by simp, by simp, by simp only [heap_alloc_get, heap_drew, World.size_alloc]; simp, by simp only [heap_alloc_get, heap_drew, World.size_alloc]; simp, (((Fr.refl _ _).alloc _).alloc _).drew⟩
    · exact ⟨_, _, rfl, rfl, by simp, by simp, by simp only [heap_alloc_get, heap_drew, World.size_alloc]; simp, by simp only [heap_alloc_get, heap_drew, World.size_alloc]; simp, (((Fr.refl _ _).alloc _).alloc _).drew⟩
  case rest =>
    obtain ⟨ba, bb, rfl, rfl, ga, gb, ha, hb, hf⟩ := hcut
    have e0 := (hf.cell (o := 0) (s := none) lh (fun h => h)).trans c0
    have a0 := cell_of ha 0; have a1 := cell_of ha 1; have a2 := cell_of ha 2
    have b0 := cell_of hb 0; have b1 := cell_of hb 1; have b2 := cell_of hb 2
    simp at a0 a1 a2 b0 b1 b2
    have lca := lt_of_block ha; have lcb := lt_of_block hb
    have hJc := Lib.hid (HL.out.keep w wc hJ (hf.mono (fun _ _ h => h.elim)))
    have na : ¬ FJ ba := fun h => by have := hB.out ba hJ h; omega
    have nb : ¬ FJ bb := fun h => by have := hB.out bb hJ h; omega
    have lhc : bh < wc.heap.size := Nat.lt_of_lt_of_le lh hf.size
    have Hf := Lib.hid hf
    clear c0 c1 d1 d1' d2 d3 d3' d4 ha hb hf hJ
    cases hxy : lt xv yv
    · cases hyx : lt yv xv
      · go_wp2_with fail
        go_region_held3 (fun w' => w'.cell? ⟨bh,0,none⟩ = some (.func (.func fl) #[] caps) ∧ w'.cell? ⟨ba,0,none⟩ = some (.int .i64 (dU xv)) ∧ w'.cell? ⟨ba,1,none⟩ = some (.int .u32 (dI xv)) ∧ w'.cell? ⟨ba,2,none⟩ = some (.int .i64 xh) ∧ w'.cell? ⟨bb,0,none⟩ = some (.int .i64 (dU yv)) ∧ w'.cell? ⟨bb,1,none⟩ = some (.int .u32 (dI yv)) ∧ w'.cell? ⟨bb,2,none⟩ = some (.int .i64 yh))
          (first | (go_keep; done) | (refine ⟨?_, ?_, ?_, ?_, ?_, ?_, ?_⟩ <;> (first | exact (hf1.cell lhc hbh).trans e0 | exact (hf1.cell lca na).trans a0 | exact (hf1.cell lca na).trans a1 | exact (hf1.cell lca na).trans a2 | exact (hf1.cell lcb nb).trans b0 | exact (hf1.cell lcb nb).trans b1 | exact (hf1.cell lcb nb).trans b2)))
          (first | (refine (HL.out.call _ xv yv (HL.out.keep _ _ hJc.out (Fr.drew (Fr.refl _ _))) hx hy).mono ?_; rintro e w1 ⟨rfl, hJ1, hf1⟩))
        have f0 := (hf1.cell (o := 0) (s := none) lhc hbh).trans e0
        have f1 := (hf1.cell (o := 0) (s := none) lca na).trans a0
        have f2 := (hf1.cell (o := 1) (s := none) lca na).trans a1
        have f2' := (hf1.cell (o := 2) (s := none) lca na).trans a2
        have f3 := (hf1.cell (o := 0) (s := none) lcb nb).trans b0
        have f4 := (hf1.cell (o := 1) (s := none) lcb nb).trans b1
        have f4' := (hf1.cell (o := 2) (s := none) lcb nb).trans b2
        have HJ1 := Lib.hid hJ1; have HF1 := Lib.hid hf1; clear hJ1
        go_wp2_with fail
        go_region_held3 (fun w' => w'.cell? ⟨bh,0,none⟩ = some (.func (.func fl) #[] caps) ∧ w'.cell? ⟨ba,0,none⟩ = some (.int .i64 (dU xv)) ∧ w'.cell? ⟨ba,1,none⟩ = some (.int .u32 (dI xv)) ∧ w'.cell? ⟨ba,2,none⟩ = some (.int .i64 xh) ∧ w'.cell? ⟨bb,0,none⟩ = some (.int .i64 (dU yv)) ∧ w'.cell? ⟨bb,1,none⟩ = some (.int .u32 (dI yv)) ∧ w'.cell? ⟨bb,2,none⟩ = some (.int .i64 yh))
          (first | (go_keep; done) | (refine ⟨?_, ?_, ?_, ?_, ?_, ?_, ?_⟩ <;> (first | exact (hf2.cell (Nat.lt_of_lt_of_le lhc hf1.size) hbh).trans f0 | exact (hf2.cell (Nat.lt_of_lt_of_le lca hf1.size) na).trans f1 | exact (hf2.cell (Nat.lt_of_lt_of_le lca hf1.size) na).trans f2 | exact (hf2.cell (Nat.lt_of_lt_of_le lca hf1.size) na).trans f2' | exact (hf2.cell (Nat.lt_of_lt_of_le lcb hf1.size) nb).trans f3 | exact (hf2.cell (Nat.lt_of_lt_of_le lcb hf1.size) nb).trans f4 | exact (hf2.cell (Nat.lt_of_lt_of_le lcb hf1.size) nb).trans f4')))
          (first | (refine (HL.out.call _ yv xv (HL.out.keep _ _ HJ1.out (Fr.drew (Fr.refl _ _))) hy hx).mono ?_; rintro e w2 ⟨rfl, hJ2, hf2⟩))
        go_wp2_with fail
        go_ret
        exact ⟨by simp [aheadB, hxy, hyx], hJ2, ((Hf.out.mono (fun _ _ h => h.elim)).drew.trans HF1.out (fun _ _ h => h)).drew.trans hf2 (fun _ _ h => h)⟩
      · go_wp2_with fail
        go_region_held3 (fun w' => w'.cell? ⟨bh,0,none⟩ = some (.func (.func fl) #[] caps) ∧ w'.cell? ⟨ba,0,none⟩ = some (.int .i64 (dU xv)) ∧ w'.cell? ⟨ba,1,none⟩ = some (.int .u32 (dI xv)) ∧ w'.cell? ⟨ba,2,none⟩ = some (.int .i64 xh) ∧ w'.cell? ⟨bb,0,none⟩ = some (.int .i64 (dU yv)) ∧ w'.cell? ⟨bb,1,none⟩ = some (.int .u32 (dI yv)) ∧ w'.cell? ⟨bb,2,none⟩ = some (.int .i64 yh))
          (first | (go_keep; done) | (refine ⟨?_, ?_, ?_, ?_, ?_, ?_, ?_⟩ <;> (first | exact (hf1.cell lhc hbh).trans e0 | exact (hf1.cell lca na).trans a0 | exact (hf1.cell lca na).trans a1 | exact (hf1.cell lca na).trans a2 | exact (hf1.cell lcb nb).trans b0 | exact (hf1.cell lcb nb).trans b1 | exact (hf1.cell lcb nb).trans b2)))
          (first | (refine (HL.out.call _ xv yv (HL.out.keep _ _ hJc.out (Fr.drew (Fr.refl _ _))) hx hy).mono ?_; rintro e w1 ⟨rfl, hJ1, hf1⟩))
        have f0 := (hf1.cell (o := 0) (s := none) lhc hbh).trans e0
        have f1 := (hf1.cell (o := 0) (s := none) lca na).trans a0
        have f2 := (hf1.cell (o := 1) (s := none) lca na).trans a1
        have f2' := (hf1.cell (o := 2) (s := none) lca na).trans a2
        have f3 := (hf1.cell (o := 0) (s := none) lcb nb).trans b0
        have f4 := (hf1.cell (o := 1) (s := none) lcb nb).trans b1
        have f4' := (hf1.cell (o := 2) (s := none) lcb nb).trans b2
        have HJ1 := Lib.hid hJ1; have HF1 := Lib.hid hf1; clear hJ1
        go_wp2_with fail
        refine wp_region_held_drew (S := (fun w' => w'.cell? ⟨bh,0,none⟩ = some (.func (.func fl) #[] caps) ∧ w'.cell? ⟨ba,0,none⟩ = some (.int .i64 (dU xv)) ∧ w'.cell? ⟨ba,1,none⟩ = some (.int .u32 (dI xv)) ∧ w'.cell? ⟨ba,2,none⟩ = some (.int .i64 xh) ∧ w'.cell? ⟨bb,0,none⟩ = some (.int .i64 (dU yv)) ∧ w'.cell? ⟨bb,1,none⟩ = some (.int .u32 (dI yv)) ∧ w'.cell? ⟨bb,2,none⟩ = some (.int .i64 yh))) (by kernel_rfl) (by go_keep) (fun hHeld => ?_)
        refine wpAnyH_take (i := 0) (v := ?_) rfl (by kernel_rfl) (by kernel_rfl) (by kernel_rfl) (fun _ _ _ h => h) (Or.inl ⟨by rfl, ?_⟩) (by assumption) ?_
        rotate_left
        · intro w' hSw; (try dsimp only at hSw); go_simp; try with_reducible rfl
        try simp only [Act.put, List.getElem_toArray, List.getElem_cons_zero, List.setIfInBounds_toArray, List.set_cons_zero, List.set_cons_succ]
        refine wpAnyH_take (i := 1) (v := ?_) rfl (by kernel_rfl) (by kernel_rfl) (by kernel_rfl) (fun _ _ _ h => h) (Or.inl ⟨by rfl, ?_⟩) (by assumption) ?_
        rotate_left
        · intro w' hSw; (try dsimp only at hSw); go_simp; try with_reducible rfl
        try simp only [Act.put, List.getElem_toArray, List.getElem_cons_zero, List.getElem_cons_succ, List.setIfInBounds_toArray, List.set_cons_zero, List.set_cons_succ]
        refine wpAnyH_take (i := 2) (v := ?_) rfl (by kernel_rfl) (by kernel_rfl) (by kernel_rfl) (fun _ _ _ h => h) (Or.inl ⟨by rfl, ?_⟩) (by assumption) ?_
        rotate_left
        · intro w' hSw; (try dsimp only at hSw); go_simp; try with_reducible rfl
        try simp only [Act.put, List.getElem_toArray, List.getElem_cons_zero, List.getElem_cons_succ, List.setIfInBounds_toArray, List.set_cons_zero, List.set_cons_succ]
        refine wpAnyH_take (i := 3) (v := ?_) rfl (by kernel_rfl) (by kernel_rfl) (by kernel_rfl) (fun _ _ _ h => h) (Or.inl ⟨by rfl, ?_⟩) (by assumption) ?_
        rotate_left
        · intro w' hSw; (try dsimp only at hSw); go_simp; try with_reducible rfl
        try simp only [Act.put, List.getElem_toArray, List.getElem_cons_zero, List.getElem_cons_succ, List.setIfInBounds_toArray, List.set_cons_zero, List.set_cons_succ]
        refine wpAnyH_take (i := 4) (v := ?_) rfl (by kernel_rfl) (by kernel_rfl) (by kernel_rfl) (fun _ _ _ h => h) (Or.inl ⟨by rfl, ?_⟩) (by assumption) ?_
        rotate_left
        · intro w' hSw; (try dsimp only at hSw); go_simp; try with_reducible rfl
        try simp only [Act.put, List.getElem_toArray, List.getElem_cons_zero, List.getElem_cons_succ, List.setIfInBounds_toArray, List.set_cons_zero, List.set_cons_succ]
        refine wpAnyH_take (i := 5) (v := ?_) rfl (by kernel_rfl) (by kernel_rfl) (by kernel_rfl) (fun _ _ _ h => h) (Or.inl ⟨by rfl, ?_⟩) (by assumption) ?_
        rotate_left
        · intro w' hSw; (try dsimp only at hSw); go_simp; try with_reducible rfl
        try simp only [Act.put, List.getElem_toArray, List.getElem_cons_zero, List.getElem_cons_succ, List.setIfInBounds_toArray, List.set_cons_zero, List.set_cons_succ]
        refine wpAnyH_take (i := 6) (v := ?_) rfl (by kernel_rfl) (by kernel_rfl) (by kernel_rfl) (fun _ _ _ h => h) (Or.inl ⟨by rfl, ?_⟩) (by assumption) ?_
        rotate_left
        · intro w' hSw; (try dsimp only at hSw); go_simp; try with_reducible rfl
        try simp only [Act.put, List.getElem_toArray, List.getElem_cons_zero, List.getElem_cons_succ, List.setIfInBounds_toArray, List.set_cons_zero, List.set_cons_succ]
        refine wpAnyH_take (i := 7) (v := ?_) rfl (by kernel_rfl) (by kernel_rfl) (by kernel_rfl) (fun _ _ _ h => h) (Or.inl ⟨by rfl, ?_⟩) (by assumption) ?_
        rotate_left
        · intro w' hSw; (try dsimp only at hSw); go_simp; try with_reducible rfl
        try simp only [Act.put, List.getElem_toArray, List.getElem_cons_zero, List.getElem_cons_succ, List.setIfInBounds_toArray, List.set_cons_zero, List.set_cons_succ]
        refine wpAnyH_ready (rs := [8]) (by kernel_rfl) (by simp) ?_
        refine AllReadyH.cons rfl (fun K hK => ?_) AllReadyH.nil
        go_simp
        refine (HL.out.call _ yv xv (HL.out.keep _ _ HJ1.out (Fr.drew (Fr.refl _ _))) hy hx).mono ?_; rintro e w2 ⟨rfl, hJ2, hf2⟩
        try go_simp
        refine hK.out _ _ ?_ (fun hHeld => ?_)
        · (try dsimp only); (refine ⟨?_, ?_, ?_, ?_, ?_, ?_, ?_⟩ <;> (first | exact (hf2.cell (Nat.lt_of_lt_of_le lhc hf1.size) hbh).trans f0 | exact (hf2.cell (Nat.lt_of_lt_of_le lca hf1.size) na).trans f1 | exact (hf2.cell (Nat.lt_of_lt_of_le lca hf1.size) na).trans f2 | exact (hf2.cell (Nat.lt_of_lt_of_le lca hf1.size) na).trans f2' | exact (hf2.cell (Nat.lt_of_lt_of_le lcb hf1.size) nb).trans f3 | exact (hf2.cell (Nat.lt_of_lt_of_le lcb hf1.size) nb).trans f4 | exact (hf2.cell (Nat.lt_of_lt_of_le lcb hf1.size) nb).trans f4'))
        clear hK K
        try simp only [Act.put, List.getElem_toArray, List.getElem_cons_zero, List.getElem_cons_succ, List.setIfInBounds_toArray, List.set_cons_zero, List.set_cons_succ]
        refine wpAnyH_take (i := 9) (v := ?_) rfl (by kernel_rfl) (by kernel_rfl) (by kernel_rfl) (fun _ _ _ h => h) (Or.inl ⟨by rfl, ?_⟩) (by assumption) ?_
        rotate_left
        · intro w' hSw; (try dsimp only at hSw); go_simp; try with_reducible rfl
        try simp only [Act.put, List.getElem_toArray, List.getElem_cons_zero, List.getElem_cons_succ, List.setIfInBounds_toArray, List.set_cons_zero, List.set_cons_succ]
        refine wpAnyH_take (i := 10) (v := ?_) rfl (by kernel_rfl) (by kernel_rfl) (by kernel_rfl) (fun _ _ _ h => h) (Or.inl ⟨by rfl, ?_⟩) (by assumption) ?_
        rotate_left
        · intro w' hSw; (try dsimp only at hSw); go_simp; try with_reducible rfl
        try simp only [Act.put, List.getElem_toArray, List.getElem_cons_zero, List.getElem_cons_succ, List.setIfInBounds_toArray, List.set_cons_zero, List.set_cons_succ]
        refine wpAnyH_take (i := 11) (v := undef) rfl (by kernel_rfl) (by kernel_rfl) (by kernel_rfl) (fun _ _ _ h => h) (Or.inr ⟨rfl, rfl⟩) (by assumption) ?_
        try simp only [Act.put, List.getElem_toArray, List.getElem_cons_zero, List.getElem_cons_succ, List.setIfInBounds_toArray, List.set_cons_zero, List.set_cons_succ]
        refine wpAnyH_take (i := 12) (v := undef) rfl (by kernel_rfl) (by kernel_rfl) (by kernel_rfl) (fun _ _ _ h => h) (Or.inr ⟨rfl, rfl⟩) (by assumption) ?_
        try simp only [Act.put, List.getElem_toArray, List.getElem_cons_zero, List.getElem_cons_succ, List.setIfInBounds_toArray, List.set_cons_zero, List.set_cons_succ]
        refine wpAnyH_take (i := 13) (v := undef) rfl (by kernel_rfl) (by kernel_rfl) (by kernel_rfl) (fun _ _ _ h => h) (Or.inr ⟨rfl, rfl⟩) (by assumption) ?_
        try simp only [Act.put, List.getElem_toArray, List.getElem_cons_zero, List.getElem_cons_succ, List.setIfInBounds_toArray, List.set_cons_zero, List.set_cons_succ]
        refine wpAnyH_take (i := 14) (v := undef) rfl (by kernel_rfl) (by kernel_rfl) (by kernel_rfl) (fun _ _ _ h => h) (Or.inr ⟨rfl, rfl⟩) (by assumption) ?_
        try simp only [Act.put, List.getElem_toArray, List.getElem_cons_zero, List.getElem_cons_succ, List.setIfInBounds_toArray, List.set_cons_zero, List.set_cons_succ]
        refine wpAnyH_take (i := 15) (v := undef) rfl (by kernel_rfl) (by kernel_rfl) (by kernel_rfl) (fun _ _ _ h => h) (Or.inr ⟨rfl, rfl⟩) (by assumption) ?_
        try simp only [Act.put, List.getElem_toArray, List.getElem_cons_zero, List.getElem_cons_succ, List.setIfInBounds_toArray, List.set_cons_zero, List.set_cons_succ]
        refine wpAnyH_take (i := 16) (v := ?_) rfl (by kernel_rfl) (by kernel_rfl) (by kernel_rfl) (fun _ _ _ h => h) (Or.inl ⟨by rfl, ?_⟩) (by assumption) ?_
        rotate_left
        · intro w' hSw; (try dsimp only at hSw); go_simp; try with_reducible rfl
        try simp only [Act.put, List.getElem_toArray, List.getElem_cons_zero, List.getElem_cons_succ, List.setIfInBounds_toArray, List.set_cons_zero, List.set_cons_succ]
        refine wpAnyH_take (i := 17) (v := ?_) rfl (by kernel_rfl) (by kernel_rfl) (by kernel_rfl) (fun _ _ _ h => h) (Or.inl ⟨by rfl, ?_⟩) (by assumption) ?_
        rotate_left
        · intro w' hSw; (try dsimp only at hSw); go_simp; try with_reducible rfl
        try simp only [Act.put, List.getElem_toArray, List.getElem_cons_zero, List.getElem_cons_succ, List.setIfInBounds_toArray, List.set_cons_zero, List.set_cons_succ]
        refine wpAnyH_done (by kernel_rfl) ?_ _
        go_wp2_with fail
        go_ret
        exact ⟨by simp [aheadB, hxy, hyx], hJ2, ((Hf.out.mono (fun _ _ h => h.elim)).drew.trans HF1.out (fun _ _ h => h)).drew.trans hf2 (fun _ _ h => h)⟩
    · have hyx : True := trivial
      go_wp2_with fail
      go_region_held3 (fun w' => w'.cell? ⟨bh,0,none⟩ = some (.func (.func fl) #[] caps) ∧ w'.cell? ⟨ba,0,none⟩ = some (.int .i64 (dU xv)) ∧ w'.cell? ⟨ba,1,none⟩ = some (.int .u32 (dI xv)) ∧ w'.cell? ⟨ba,2,none⟩ = some (.int .i64 xh) ∧ w'.cell? ⟨bb,0,none⟩ = some (.int .i64 (dU yv)) ∧ w'.cell? ⟨bb,1,none⟩ = some (.int .u32 (dI yv)) ∧ w'.cell? ⟨bb,2,none⟩ = some (.int .i64 yh))
        (first | (go_keep; done) | (refine ⟨?_, ?_, ?_, ?_, ?_, ?_, ?_⟩ <;> (first | exact (hf1.cell lhc hbh).trans e0 | exact (hf1.cell lca na).trans a0 | exact (hf1.cell lca na).trans a1 | exact (hf1.cell lca na).trans a2 | exact (hf1.cell lcb nb).trans b0 | exact (hf1.cell lcb nb).trans b1 | exact (hf1.cell lcb nb).trans b2)))
        (first | (refine (HL.out.call _ xv yv (HL.out.keep _ _ hJc.out (Fr.drew (Fr.refl _ _))) hx hy).mono ?_; rintro e w1 ⟨rfl, hJ1, hf1⟩))
      go_wp2_with fail
      go_ret
      exact ⟨by simp [aheadB, hxy], hJ1, (Hf.out.mono (fun _ _ h => h.elim)).drew.trans hf1 (fun _ _ h => h)⟩
end Go.Proofs.Ytmmjlnicfndmcaa.Du
