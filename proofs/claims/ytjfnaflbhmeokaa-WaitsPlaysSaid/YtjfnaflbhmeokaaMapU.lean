/- Maps from uint32 to int. No condition. -/
import Derived.Test.YtjfnaflbhmeokaaLib
namespace Go.Proofs.Ytjfnaflbhmeokaa
open Go.RowKit
/-- An entry. -/
def entU (x : Int × Int × Nat) : MapEntry := { key := .int .u32 x.1, val := .int .i64 x.2.1, born := x.2.2 }
/-- Block b is a map that has f. -/
def UMap (w : World) (b : Nat) (f : Int → Option Int) : Prop :=
  ∃ (l : List (Int × Int × Nat)) (c : Nat), w.heap[b]? = some (.map (l.map entU).toArray c) ∧ (l.map (·.1)).Nodup ∧ ∀ k, f k = kv l k
theorem UMap.fr {w w' : World} {b : Nat} {f : Int → Option Int} (h : UMap w b f) {F : Nat → Prop} (hf : Fr F w w') (hb : ¬ F b) : UMap w' b f := by
  obtain ⟨l, c, hb1, h2, h3⟩ := h
  exact ⟨l, c, hf.get hb1 hb, h2, h3⟩
theorem UMap.lt {w : World} {b : Nat} {f : Int → Option Int} (h : UMap w b f) : b < w.heap.size := by
  obtain ⟨l, c, hb1, h2, h3⟩ := h
  exact lt_of_block hb1
theorem findNow_entU (k : Int) (l : List (Int × Int × Nat)) (i : Nat) : Instr.findNow (.int .u32) (.int .u32 k) (l.map entU) i =
    some ((l.findIdx? (fun x => x.1 == k)).bind fun j => (l[j]?).map fun x => (i + j, Value.int .i64 x.2.1)) := by
  induction l generalizing i with
  | nil => rfl
  | cons x l ih =>
    simp only [List.map_cons, Instr.findNow, entU, Instr.sameNow, if_true]
    by_cases h : k = x.1
    · subst h; simp [List.findIdx?_cons]
    · have h1 : (k == x.1) = false := by simpa using h
      have h2 : (x.1 == k) = false := by simpa using fun e => h e.symm
      rw [h1]
      simp only [List.findIdx?_cons, h2]
      rw [ih]
      cases hf : l.findIdx? (fun x => x.1 == k) with
      | none => simp
      | some j => simp [Nat.add_assoc, Nat.add_comm 1 j]
section
variable {P : Program} {T K E : TypeId}
theorem checkKey_u32 (hK : P.underlying K = some (.int .u32)) (e : Bool) (k : Int) (w : World) : (Instr.checkKey e 10000 K (.int .u32 k)).run P w = .ok () w := by
  unfold Instr.checkKey
  simp [run_underlying hK]
theorem findKey_entU (hK : P.underlying K = some (.int .u32)) (k : Int) (l : List (Int × Int × Nat)) (w : World) :
    (Instr.findKey K (.int .u32 k) (l.map entU)).run P w = .ok ((l.findIdx? (fun x => x.1 == k)).bind fun j => (l[j]?).map fun x => (j, Value.int .i64 x.2.1)) w := by
  unfold Instr.findKey
  simp [run_underlying hK, findNow_entU]
variable (hT : P.underlying T = some (.map K E)) (hK : P.underlying K = some (.int .u32))
include hT hK
theorem run_lookup2U {w : World} {b : Nat} {f : Int → Option Int} (hm : UMap w b f) (hz : (zeroValue E).run P w = .ok (.int .i64 0) w) (k : Int) :
    (Instr.lookup T (.map (some b)) (.int .u32 k) true).run P w = .ok (.tuple #[.int .i64 ((f k).getD 0), .bool (f k).isSome]) w := by
  obtain ⟨l, c, hb, hn, hf⟩ := hm
  simp only [Instr.lookup, Sem.run_bind, run_underlying hT, Result.andThen_ok, Sem.run_pure, checkKey_u32 hK, run_getMap P hb, List.toList_toArray, findKey_entU hK]
  rw [hf, kv_idx]
  cases hi : l.findIdx? (fun x => x.1 == k) with
  | none => simp [hz]
  | some j =>
    have hj : j < l.length := by have := List.findIdx?_eq_some_iff_getElem.1 hi; exact this.1
    simp [hj]
theorem run_lookup1U {w : World} {b : Nat} {f : Int → Option Int} (hm : UMap w b f) (hz : (zeroValue E).run P w = .ok (.int .i64 0) w) (k : Int) :
    (Instr.lookup T (.map (some b)) (.int .u32 k) false).run P w = .ok (.int .i64 ((f k).getD 0)) w := by
  obtain ⟨l, c, hb, hn, hf⟩ := hm
  simp only [Instr.lookup, Sem.run_bind, run_underlying hT, Result.andThen_ok, Sem.run_pure, checkKey_u32 hK, run_getMap P hb, List.toList_toArray, findKey_entU hK]
  rw [hf, kv_idx]
  cases hi : l.findIdx? (fun x => x.1 == k) with
  | none => simp [hz]
  | some j =>
    have hj : j < l.length := by have := List.findIdx?_eq_some_iff_getElem.1 hi; exact this.1
    simp [hj]
theorem run_updateU {w : World} {b : Nat} {f : Int → Option Int} (hm : UMap w b f) (k v : Int) :
    ∃ es c, (Instr.mapUpdate T (.map (some b)) (.int .u32 k) (.int .i64 v)).run P w = .ok () (setMap w b es c) ∧ UMap (setMap w b es c) b (fun j => if j = k then some v else f j) := by
  obtain ⟨l, c, hb, hn, hf⟩ := hm
  simp only [Instr.mapUpdate, Sem.run_bind, run_underlying hT, Result.andThen_ok, Sem.run_pure, checkKey_u32 hK, run_getMap P hb, List.toList_toArray, findKey_entU hK]
  cases hi : l.findIdx? (fun x => x.1 == k) with
  | none =>
    refine ⟨_, _, run_putMap P hb _ _, l ++ [(k, v, c)], c + 1, ?_, ?_, ?_⟩
    · rw [setMap_at hb]; simp [entU]
    · have hk : ∀ x ∈ l, x.1 ≠ k := by
        intro x hx he
        have := List.findIdx?_eq_none_iff.1 hi x hx
        simp [he] at this
      rw [List.map_append, List.nodup_append]
      refine ⟨hn, by simp, ?_⟩
      intro a ha b hb
      simp at hb; subst hb
      obtain ⟨x, hx, rfl⟩ := List.mem_map.1 ha
      exact hk x hx
    · intro j
      have hk : l.find? (fun x => x.1 == k) = none := by
        rw [List.find?_eq_none]
        intro x hx
        have := List.findIdx?_eq_none_iff.1 hi x hx
        simpa using this
      by_cases hj : j = k
      · subst hj; simp [kv, List.find?_append, hk]
      · have : (k == j) = false := by simpa using fun e => hj e.symm
        simp [kv, List.find?_append, hj, hf, this]
  | some j =>
    obtain ⟨hj, hjk, hlt⟩ := List.findIdx?_eq_some_iff_getElem.1 hi
    have hjk' : l[j].1 = k := by simpa using hjk
    simp only [Option.bind_some, List.getElem?_eq_getElem hj, Option.map_some]
    have hsb : Instr.sameBits 10000 (.int .u32 k) (.int .u32 k) = true := by simp [Instr.sameBits]
    have hks : (Instr.keyThatStays (.int .u32 k) (.int .u32 k)).run P w = .ok (.int .u32 k) w := by
      unfold Instr.keyThatStays; rw [if_pos hsb]; rfl
    have hkey : (Option.map (fun x => x.key) (List.map entU l).toArray[j]?).getD (Value.int IntKind.u32 k) = .int .u32 k := by
      simp [hj, entU, hjk']
    rw [hkey]
    simp only [Sem.run_bind, hks, Result.andThen_ok]
    refine ⟨_, _, run_putMap P hb _ _, l.set j (k, v, l[j].2.2), c, ?_, ?_, ?_⟩
    · rw [setMap_at hb]
      congr 2
      apply Array.ext'
      simp only [Array.toList_modify, List.toList_toArray]
      apply List.ext_getElem (by simp)
      intro i h1 h2
      rw [List.getElem_modify, List.getElem_map, List.getElem_map, List.getElem_set]
      split
      · rename_i h; subst h; rfl
      · rfl
    · rw [List.map_set]
      have : (l.map (·.1)).set j k = l.map (·.1) := by
        apply List.ext_getElem (by simp)
        intro i h1 h2
        rw [List.getElem_set]
        split
        · rename_i h; subst h; simp [hjk']
        · rfl
      simp only [this]; exact hn
    · intro i
      rw [kv_idx]
      by_cases hik : i = k
      · subst hik
        have : (l.set j (i, v, l[j].2.2)).findIdx? (fun x => x.1 == i) = some j := by
          rw [List.findIdx?_eq_some_iff_getElem]
          refine ⟨by simpa using hj, by simp, ?_⟩
          intro m hm
          rw [List.getElem_set_ne (by omega)]
          exact hlt m hm
        rw [this]; simp [hj]
      · have : (l.set j (k, v, l[j].2.2)).findIdx? (fun x => x.1 == i) = l.findIdx? (fun x => x.1 == i) := by
          apply findIdx_set
          · simpa using fun e => hik e.symm
          · intro h; simpa [hjk'] using fun e => hik e.symm
        dsimp only
        rw [this, if_neg hik, hf, kv_idx]
        cases hfi : l.findIdx? (fun x => x.1 == i) with
        | none => simp
        | some m =>
          have hmj : j ≠ m := by
            intro e; subst e
            obtain ⟨_, h1, _⟩ := List.findIdx?_eq_some_iff_getElem.1 hfi
            simp [hjk'] at h1; exact hik h1.symm
          simp [List.getElem?_set_ne hmj]
theorem run_deleteU {w : World} {b : Nat} {f : Int → Option Int} (hm : UMap w b f) (k : Int) (ats : Array TypeId) (h0 : ats[0]? = some T) (ty : TypeId) :
    ∃ es c, (Builtin.delete_ ats ty #[.map (some b), .int .u32 k]).run P w = .ok (.tuple #[]) (setMap w b es c) ∧ UMap (setMap w b es c) b (fun j => if j = k then none else f j) := by
  obtain ⟨l, c, hb, hn, hf⟩ := hm
  have e1 : (#[Value.map (some b), Value.int .u32 k] : Array Value)[0]? = some (.map (some b)) := rfl
  have e2 : (#[Value.map (some b), Value.int .u32 k] : Array Value)[1]? = some (.int .u32 k) := rfl
  simp only [Builtin.delete_, h0, e1, e2, Sem.run_bind, run_underlying hT, Result.andThen_ok, Sem.run_pure, checkKey_u32 hK, run_getMap P hb, findKey_entU hK]
  cases hi : l.findIdx? (fun x => x.1 == k) with
  | none =>
    have hk : ∀ x ∈ l, x.1 ≠ k := by
      intro x hx he
      have := List.findIdx?_eq_none_iff.1 hi x hx
      simp [he] at this
    simp only [Option.bind_none]
    refine ⟨(l.map entU).toArray, c, by rw [Sem.run_bind, run_putMap P hb]; rfl, l, c, setMap_at hb _ _, hn, ?_⟩
    intro j
    by_cases hj : j = k
    · subst hj
      have hk2 : l.find? (fun x => x.1 == j) = none := by
        rw [List.find?_eq_none]; intro x hx; simpa using hk x hx
      simp [kv, hk2]
    · simp [hj, hf]
  | some j =>
    obtain ⟨hj, hjk, hlt⟩ := List.findIdx?_eq_some_iff_getElem.1 hi
    have hjk' : l[j].1 = k := by simpa using hjk
    simp only [Option.bind_some, List.getElem?_eq_getElem hj, Option.map_some]
    refine ⟨_, _, by rw [Sem.run_bind, run_putMap P hb]; rfl, l.eraseIdx j, c, ?_, ?_, ?_⟩
    · rw [setMap_at hb]
      congr 2
      simp [Array.eraseIdxIfInBounds, hj, eraseIdx_map']
    · rw [← eraseIdx_map']; exact (List.eraseIdx_sublist _ _).nodup hn
    · intro i
      have hnk : ∀ m (hm : m < l.length), m ≠ j → l[m].1 ≠ k := by
        intro m hm hmj he
        have hp := List.pairwise_iff_getElem.1 hn
        rcases Nat.lt_or_gt_of_ne hmj with h | h
        · exact hp m j (by simpa using hm) (by simpa using hj) h (by simp [he, hjk'])
        · exact hp j m (by simpa using hj) (by simpa using hm) h (by simp [he, hjk'])
      by_cases hik : i = k
      · subst hik
        dsimp only
        rw [if_pos rfl]
        symm
        unfold kv
        have : (l.eraseIdx j).find? (fun x => x.1 == i) = none := by
          rw [List.find?_eq_none]
          intro x hx
          obtain ⟨m, hm1, hm2, hm3⟩ := List.mem_eraseIdx_iff_getElem.1 hx
          rw [← hm3]; simpa using hnk m hm1 hm2
        rw [this]; rfl
      · dsimp only
        rw [if_neg hik, hf]
        unfold kv
        congr 1
        have e : l = l.take j ++ l[j] :: l.drop (j+1) := by simp
        rw [List.eraseIdx_eq_take_drop_succ]
        conv => lhs; rw [e]
        rw [List.find?_append, List.find?_append, List.find?_cons]
        have : (l[j].1 == i) = false := by simpa [hjk'] using fun e => hik e.symm
        rw [this]
end
end Go.Proofs.Ytjfnaflbhmeokaa
