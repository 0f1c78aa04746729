/- Texts put together: General facts on worlds, block by block, The plain book: what it is, what each change makes of it, The index layer, plain: slots, what a search meets, what is held, The index layer, plain: what slots hold, as a list by rising ids, A heap of numbers, plainly: its items in a list, what the exchanges m. No condition. -/
import Derived.WalkKit
import Derived.WalkSpells
import Derived.WalkLawsBesides
import Derived.Deep.Draws
import Derived.Lib.Hide
import Derived.WideLaws
import Derived.StillTailTactics
import Derived.Deep.Upon
import Derived.Test.YtffnjnnmlfgngaaGreatProg
import Derived.Laws.Bits64b
import Derived.Laws.ShiftsVarLaws
import Derived.Laws.MakeOwn
import Derived.WalkMore
import Derived.Deep.CutBlock
import Derived.Deep.DeepCutAuto
import Derived.Deep.RegionHeld3
import Derived.Deep.QuietTactic
import Derived.BigQuiet
import Derived.Deep.LoopGhost
import Derived.BigRegion
namespace Go.Proofs.YtffnjnnmlfgngaaGreat
theorem sL {α : Type} : (∀ (a : α) (l : List α), (a :: l)[0]'(by simp) = a) ∧ (∀ (a : α) (l : List α) (i : Nat) (h : i + 1 < (a :: l).length), (a :: l)[i + 1] = l[i]'(by simpa using h)) ∧ (∀ (l : List α) (i : Nat) (h : i < l.toArray.size), l.toArray[i] = l[i]'(by simpa using h)) ∧ (∀ (l : List α) (i : Nat) (a : α), l.toArray.setIfInBounds i a = (l.set i a).toArray) ∧ (∀ (a b : α) (l : List α), (a :: l).set 0 b = b :: l) ∧ (∀ (a b : α) (l : List α) (i : Nat), (a :: l).set (i + 1) b = a :: l.set i b) :=
  ⟨fun _ _ => rfl, fun _ _ _ _ => rfl, fun _ _ _ => by simp, fun _ _ _ => by simp, fun _ _ _ => rfl, fun _ _ _ _ => rfl⟩
end Go.Proofs.YtffnjnnmlfgngaaGreat
namespace Go.Proofs.YtffnjnnmlfgngaaGreat
open Go.RowKit
/-- w' is w but for the blocks in F, and for new blocks. -/
structure Fr (F : Nat → Prop) (w w' : World) : Prop where
  os : w'.os = w.os
  tape : w'.tape = w.tape
  output : w'.output = w.output
  size : w.heap.size ≤ w'.heap.size
  blk : ∀ k, k < w.heap.size → ¬ F k → w'.heap[k]? = w.heap[k]?
theorem Fr.refl (F : Nat → Prop) (w : World) : Fr F w w := ⟨rfl, rfl, rfl, Nat.le_refl _, fun _ _ _ => rfl⟩
theorem Fr.trans {F G : Nat → Prop} {a b c : World} (h : Fr F a b) (k : Fr G b c) (hs : ∀ i, i < a.heap.size → G i → F i) : Fr F a c :=
  ⟨k.os.trans h.os, k.tape.trans h.tape, k.output.trans h.output, Nat.le_trans h.size k.size,
   fun i hi hn => (k.blk i (Nat.lt_of_lt_of_le hi h.size) (fun hg => hn (hs i hi hg))).trans (h.blk i hi hn)⟩
theorem Fr.mono {F G : Nat → Prop} {w w' : World} (h : Fr F w w') (hs : ∀ i, i < w.heap.size → F i → G i) : Fr G w w' :=
  ⟨h.os, h.tape, h.output, h.size, fun i hi hn => h.blk i hi (fun hf => hn (hs i hi hf))⟩
theorem Fr.drew {F : Nat → Prop} {a w : World} (h : Fr F a w) : Fr F a w.drew := ⟨h.os, h.tape, h.output, h.size, h.blk⟩
theorem heap_alloc_old (w : World) (o : Obj) (k : Nat) (h : k < w.heap.size) : (w.alloc o).heap[k]? = w.heap[k]? := Below.heap_alloc w o k h
theorem heap_alloc_at (w : World) (o : Obj) : (w.alloc o).heap[w.heap.size]? = some o := by
  show (w.heap.push o)[w.heap.size]? = _
  simp
theorem heap_alloc_get (w : World) (o : Obj) (k : Nat) : (w.alloc o).heap[k]? = if k = w.heap.size then some o else w.heap[k]? := by
  show (w.heap.push o)[k]? = _
  rw [Array.getElem?_push]
theorem heap_drew (w : World) : w.drew.heap = w.heap := rfl
theorem Fr.alloc {F : Nat → Prop} {a w : World} (h : Fr F a w) (o : Obj) : Fr F a (w.alloc o) :=
  h.trans (G := fun _ => False) ⟨rfl, rfl, rfl, by simp, fun k hk _ => heap_alloc_old w o k hk⟩ (fun _ _ hf => hf.elim)
theorem Fr.setCell {F : Nat → Prop} {a w : World} (h : Fr F a w) {p : Addr} (hp : p.block < a.heap.size → F p.block) (u : Value) : Fr F a (w.setCell p u) :=
  h.trans (G := fun i => i = p.block) ⟨rfl, rfl, rfl, by simp, fun k _ hk => Below.heap_setCell w p u k hk⟩ (fun i hi e => by subst e; exact hp hi)
theorem Fr.cell {F : Nat → Prop} {w w' : World} (h : Fr F w w') {b o : Nat} {s : Option Nat} (hb : b < w.heap.size) (hn : ¬ F b) : w'.cell? ⟨b, o, s⟩ = w.cell? ⟨b, o, s⟩ := by
  simp only [World.cell?, h.blk b hb hn]
theorem Fr.frozen {F : Nat → Prop} {w w' : World} (h : Fr F w w') {b o : Nat} {s : Option Nat} (hb : b < w.heap.size) (hn : ¬ F b) : w'.frozen? ⟨b, o, s⟩ = w.frozen? ⟨b, o, s⟩ := by
  simp only [World.frozen?, h.blk b hb hn]
theorem Fr.get {F : Nat → Prop} {w w' : World} (h : Fr F w w') {b : Nat} {o : Obj} (hb : w.heap[b]? = some o) (hn : ¬ F b) : w'.heap[b]? = some o :=
  (h.blk b (lt_of_block hb) hn).trans hb
theorem Fr.below {w w' : World} (h : Fr (fun _ => False) w w') : Below w.heap.size w w' := ⟨h.os, h.tape, h.output, h.size, fun k hk => h.blk k hk (fun f => f)⟩
theorem Below.fr {w w' : World} (h : Below w.heap.size w w') (F : Nat → Prop) : Fr F w w' := ⟨h.os, h.tape, h.output, h.size, fun k hk _ => h.block k hk⟩
theorem cell_of {w : World} {b : Nat} {c : Array Value} {t : TypeId} {z : Nat × Nat} (h : w.heap[b]? = some (.cells c t z)) (o : Nat) : w.cell? ⟨b, o, none⟩ = c[o]? := by
  simp [World.cell?, h]
theorem free_of {w : World} {b : Nat} {c : Array Value} {t : TypeId} (h : w.heap[b]? = some (.cells c t (0, 0))) (o : Nat) : w.frozen? ⟨b, o, none⟩ = false := by
  simp [World.frozen?, h]
theorem setCell_blk {w : World} {b o : Nat} {c : Array Value} {t : TypeId} {z : Nat × Nat} (h : w.heap[b]? = some (.cells c t z)) (v : Value) :
    (w.setCell ⟨b, o, none⟩ v).heap[b]? = some (.cells (c.setIfInBounds o v) t z) := by
  simp only [World.setCell, Array.getElem?_modify, h]; simp
theorem setCell_blk_ne {w : World} {a : Addr} {b : Nat} (hn : b ≠ a.block) (v : Value) : (w.setCell a v).heap[b]? = w.heap[b]? := Below.heap_setCell w a v b hn
/-! ### Maps from int to int -/
/-- Block b holds another map. -/
def setMap (w : World) (b : Nat) (es : Array MapEntry) (c : Nat) : World := { w with heap := w.heap.setIfInBounds b (.map es c) }
theorem setMap_at {w : World} {b : Nat} {o : Obj} (h : w.heap[b]? = some o) (es : Array MapEntry) (c : Nat) : (setMap w b es c).heap[b]? = some (.map es c) := by
  have := lt_of_block h
  simp [setMap, this]
theorem setMap_ne {w : World} {b k : Nat} (h : k ≠ b) (es : Array MapEntry) (c : Nat) : (setMap w b es c).heap[k]? = w.heap[k]? := by
  simp only [setMap]; rw [Array.getElem?_setIfInBounds_ne (Ne.symm h)]
theorem setMap_cell {w : World} {b : Nat} {es0 : Array MapEntry} {c0 : Nat} (h : w.heap[b]? = some (.map es0 c0)) (es : Array MapEntry) (c : Nat) (a : Addr) : (setMap w b es c).cell? a = w.cell? a := by
  by_cases hb : a.block = b
  · subst hb; simp only [World.cell?, setMap_at h, h]
  · simp only [World.cell?, setMap_ne hb]
theorem Fr.setMap {F : Nat → Prop} {a w : World} (h : Fr F a w) {b : Nat} (hp : b < a.heap.size → F b) (es : Array MapEntry) (c : Nat) : Fr F a (setMap w b es c) :=
  h.trans (G := fun i => i = b) ⟨rfl, rfl, rfl, by simp [YtffnjnnmlfgngaaGreat.setMap], fun k _ hk => setMap_ne hk es c⟩ (fun i hi e => by subst e; exact hp hi)
/-- An entry. -/
def ent (x : Int × Int × Nat) : MapEntry := { key := .int .i64 x.1, val := .int .i64 x.2.1, born := x.2.2 }
/-- What a list of entries has under a key. -/
def kv (l : List (Int × Int × Nat)) (k : Int) : Option Int := (l.find? (fun x => x.1 == k)).map (fun x => x.2.1)
/-- Block b is a map that has f. -/
def IMap (w : World) (b : Nat) (f : Int → Option Int) : Prop :=
  ∃ (l : List (Int × Int × Nat)) (c : Nat), w.heap[b]? = some (.map (l.map ent).toArray c) ∧ (l.map (·.1)).Nodup ∧ ∀ k, f k = kv l k
theorem IMap.fr {w w' : World} {b : Nat} {f : Int → Option Int} (h : IMap w b f) {F : Nat → Prop} (hf : Fr F w w') (hb : ¬ F b) : IMap w' b f := by
  obtain ⟨l, c, hb1, h2, h3⟩ := h
  exact ⟨l, c, hf.get hb1 hb, h2, h3⟩
theorem IMap.lt {w : World} {b : Nat} {f : Int → Option Int} (h : IMap w b f) : b < w.heap.size := by
  obtain ⟨l, c, hb1, h2, h3⟩ := h
  exact lt_of_block hb1
theorem findNow_ent (k : Int) (l : List (Int × Int × Nat)) (i : Nat) : Instr.findNow (.int .i64) (.int .i64 k) (l.map ent) i =
    some ((l.findIdx? (fun x => x.1 == k)).bind fun j => (l[j]?).map fun x => (i + j, Value.int .i64 x.2.1)) := by
  induction l generalizing i with
  | nil => rfl
  | cons x l ih =>
    simp only [List.map_cons, Instr.findNow, ent, Instr.sameNow, if_true]
    by_cases h : k = x.1
    · subst h; simp [List.findIdx?_cons]
    · have h1 : (k == x.1) = false := by simpa using h
      have h2 : (x.1 == k) = false := by simpa using fun e => h e.symm
      rw [h1]
      simp only [List.findIdx?_cons, h2]
      rw [ih]
      cases hf : l.findIdx? (fun x => x.1 == k) with
      | none => simp
      | some j => simp [Nat.add_assoc, Nat.add_comm 1 j]
theorem findIdx_set {α : Type} {p : α → Bool} {l : List α} {j : Nat} {x : α} (hx : p x = false) (hj : ∀ h : j < l.length, p l[j] = false) : (l.set j x).findIdx? p = l.findIdx? p := by
  induction l generalizing j with
  | nil => simp
  | cons y l ih =>
    cases j with
    | zero =>
      have := hj (by simp)
      simp at this
      simp [List.findIdx?_cons, hx, this]
    | succ j =>
      simp only [List.set_cons_succ, List.findIdx?_cons]
      rw [ih (fun h => by have := hj (by simpa using h); simpa using this)]
theorem eraseIdx_map' {α β : Type} (f : α → β) (l : List α) (j : Nat) : (l.map f).eraseIdx j = (l.eraseIdx j).map f := by
  rw [List.eraseIdx_eq_take_drop_succ, List.eraseIdx_eq_take_drop_succ]; simp
section
variable {P : Program} {T K E : TypeId}
theorem run_getMap (P : Program) {w : World} {b : Nat} {es : Array MapEntry} {c : Nat} (hb : w.heap[b]? = some (.map es c)) : (getObj b).run P w = .ok (.map es c) w := by
  simp [getObj, Sem.run, hb]
theorem run_putMap (P : Program) {w : World} {b : Nat} {es : Array MapEntry} {c : Nat} (hb : w.heap[b]? = some (.map es c)) (es' : Array MapEntry) (c' : Nat) :
    (setObj b (.map es' c')).run P w = .ok () (setMap w b es' c') := by
  simp [setObj, Sem.run, hb, setMap]
theorem checkKey_int (hK : P.underlying K = some (.int .i64)) (e : Bool) (k : Int) (w : World) : (Instr.checkKey e 10000 K (.int .i64 k)).run P w = .ok () w := by
  unfold Instr.checkKey
  simp [run_underlying hK]
theorem findKey_ent (hK : P.underlying K = some (.int .i64)) (k : Int) (l : List (Int × Int × Nat)) (w : World) :
    (Instr.findKey K (.int .i64 k) (l.map ent)).run P w = .ok ((l.findIdx? (fun x => x.1 == k)).bind fun j => (l[j]?).map fun x => (j, Value.int .i64 x.2.1)) w := by
  unfold Instr.findKey
  simp [run_underlying hK, findNow_ent]
theorem kv_idx (l : List (Int × Int × Nat)) (k : Int) : kv l k = ((l.findIdx? (fun x => x.1 == k)).bind fun j => (l[j]?).map fun x => x.2.1) := by
  unfold kv
  induction l with
  | nil => rfl
  | cons x l ih =>
    by_cases h : x.1 = k
    · simp [List.findIdx?_cons, h]
    · have h2 : (x.1 == k) = false := by simpa using h
      simp only [List.find?_cons, List.findIdx?_cons, h2, ih]
      cases l.findIdx? (fun x => x.1 == k) <;> simp
variable (hT : P.underlying T = some (.map K E)) (hK : P.underlying K = some (.int .i64))
include hT hK
theorem run_lookup2 {w : World} {b : Nat} {f : Int → Option Int} (hm : IMap w b f) (hz : (zeroValue E).run P w = .ok (.int .i64 0) w) (k : Int) :
    (Instr.lookup T (.map (some b)) (.int .i64 k) true).run P w = .ok (.tuple #[.int .i64 ((f k).getD 0), .bool (f k).isSome]) w := by
  obtain ⟨l, c, hb, hn, hf⟩ := hm
  simp only [Instr.lookup, Sem.run_bind, run_underlying hT, Result.andThen_ok, Sem.run_pure, checkKey_int hK, run_getMap P hb, findKey_ent hK]
  rw [hf, kv_idx]
  cases hi : l.findIdx? (fun x => x.1 == k) with
  | none => simp [hz]
  | some j =>
    have hj : j < l.length := by have := List.findIdx?_eq_some_iff_getElem.1 hi; exact this.1
    simp [hj]
theorem run_update {w : World} {b : Nat} {f : Int → Option Int} (hm : IMap w b f) (k v : Int) :
    ∃ es c, (Instr.mapUpdate T (.map (some b)) (.int .i64 k) (.int .i64 v)).run P w = .ok () (setMap w b es c) ∧ IMap (setMap w b es c) b (fun j => if j = k then some v else f j) := by
  obtain ⟨l, c, hb, hn, hf⟩ := hm
  simp only [Instr.mapUpdate, Sem.run_bind, run_underlying hT, Result.andThen_ok, checkKey_int hK, run_getMap P hb, findKey_ent hK]
  cases hi : l.findIdx? (fun x => x.1 == k) with
  | none =>
    refine ⟨_, _, run_putMap P hb _ _, l ++ [(k, v, c)], c + 1, ?_, ?_, ?_⟩
    · rw [setMap_at hb]; simp [ent]
    · have hk : ∀ x ∈ l, x.1 ≠ k := by
        intro x hx he
        have := List.findIdx?_eq_none_iff.1 hi x hx
        simp [he] at this
      rw [List.map_append, List.nodup_append]
      refine ⟨hn, by simp, ?_⟩
      intro a ha b hb
      simp at hb; subst hb
      obtain ⟨x, hx, rfl⟩ := List.mem_map.1 ha
      exact hk x hx
    · intro j
      have hk : l.find? (fun x => x.1 == k) = none := by
        rw [List.find?_eq_none]
        intro x hx
        have := List.findIdx?_eq_none_iff.1 hi x hx
        simpa using this
      by_cases hj : j = k
      · subst hj; simp [kv, List.find?_append, hk]
      · have : (k == j) = false := by simpa using fun e => hj e.symm
        simp [kv, List.find?_append, hj, hf, this]
  | some j =>
    obtain ⟨hj, hjk, hlt⟩ := List.findIdx?_eq_some_iff_getElem.1 hi
    have hjk' : l[j].1 = k := by simpa using hjk
    simp only [Option.bind_some, List.getElem?_eq_getElem hj, Option.map_some]
    have hsb : Instr.sameBits 10000 (.int .i64 k) (.int .i64 k) = true := by simp [Instr.sameBits]
    have hks : (Instr.keyThatStays (.int .i64 k) (.int .i64 k)).run P w = .ok (.int .i64 k) w := by
      unfold Instr.keyThatStays; rw [if_pos hsb]; rfl
    have hkey : (Option.map (fun x => x.key) (List.map ent l).toArray[j]?).getD (Value.int IntKind.i64 k) = .int .i64 k := by
      simp [hj, ent, hjk']
    rw [hkey]
    simp only [Sem.run_bind, hks, Result.andThen_ok]
    refine ⟨_, _, run_putMap P hb _ _, l.set j (k, v, l[j].2.2), c, ?_, ?_, ?_⟩
    · rw [setMap_at hb]
      congr 2
      apply Array.ext'
      simp only [Array.toList_modify]
      apply List.ext_getElem (by simp)
      intro i h1 h2
      rw [List.getElem_modify, List.getElem_map, List.getElem_map, List.getElem_set]
      split
      · rename_i h; subst h; rfl
      · rfl
    · rw [List.map_set]
      have : (l.map (·.1)).set j k = l.map (·.1) := by
        apply List.ext_getElem (by simp)
        intro i h1 h2
        rw [List.getElem_set]
        split
        · rename_i h; subst h; simp [hjk']
        · rfl
      simp only [this]; exact hn
    · intro i
      rw [kv_idx]
      by_cases hik : i = k
      · subst hik
        have : (l.set j (i, v, l[j].2.2)).findIdx? (fun x => x.1 == i) = some j := by
          rw [List.findIdx?_eq_some_iff_getElem]
          refine ⟨by simpa using hj, by simp, ?_⟩
          intro m hm
          rw [List.getElem_set_ne (by omega)]
          exact hlt m hm
        rw [this]; simp [hj]
      · have : (l.set j (k, v, l[j].2.2)).findIdx? (fun x => x.1 == i) = l.findIdx? (fun x => x.1 == i) := by
          apply findIdx_set
          · simpa using fun e => hik e.symm
          · intro h; simpa [hjk'] using fun e => hik e.symm
        dsimp only
        rw [this, if_neg hik, hf, kv_idx]
        cases hfi : l.findIdx? (fun x => x.1 == i) with
        | none => simp
        | some m =>
          have hmj : j ≠ m := by
            intro e; subst e
            obtain ⟨_, h1, _⟩ := List.findIdx?_eq_some_iff_getElem.1 hfi
            simp [hjk'] at h1; exact hik h1.symm
          simp [List.getElem?_set_ne hmj]
theorem run_delete {w : World} {b : Nat} {f : Int → Option Int} (hm : IMap w b f) (k : Int) (ats : Array TypeId) (h0 : ats[0]? = some T) (ty : TypeId) :
    ∃ es c, (Builtin.delete_ ats ty #[.map (some b), .int .i64 k]).run P w = .ok (.tuple #[]) (setMap w b es c) ∧ IMap (setMap w b es c) b (fun j => if j = k then none else f j) := by
  obtain ⟨l, c, hb, hn, hf⟩ := hm
  have e1 : (#[Value.map (some b), Value.int .i64 k] : Array Value)[0]? = some (.map (some b)) := rfl
  have e2 : (#[Value.map (some b), Value.int .i64 k] : Array Value)[1]? = some (.int .i64 k) := rfl
  simp only [Builtin.delete_, h0, e1, e2, Sem.run_bind, run_underlying hT, Result.andThen_ok, checkKey_int hK, run_getMap P hb, findKey_ent hK]
  cases hi : l.findIdx? (fun x => x.1 == k) with
  | none =>
    have hk : ∀ x ∈ l, x.1 ≠ k := by
      intro x hx he
      have := List.findIdx?_eq_none_iff.1 hi x hx
      simp [he] at this
    simp only [Option.bind_none]
    refine ⟨(l.map ent).toArray, c, by rw [Sem.run_bind, run_putMap P hb]; rfl, l, c, setMap_at hb _ _, hn, ?_⟩
    intro j
    by_cases hj : j = k
    · subst hj
      have hk2 : l.find? (fun x => x.1 == j) = none := by
        rw [List.find?_eq_none]; intro x hx; simpa using hk x hx
      simp [kv, hk2]
    · simp [hj, hf]
  | some j =>
    obtain ⟨hj, hjk, hlt⟩ := List.findIdx?_eq_some_iff_getElem.1 hi
    have hjk' : l[j].1 = k := by simpa using hjk
    simp only [Option.bind_some, List.getElem?_eq_getElem hj, Option.map_some]
    refine ⟨_, _, by rw [Sem.run_bind, run_putMap P hb]; rfl, l.eraseIdx j, c, ?_, ?_, ?_⟩
    · rw [setMap_at hb]
      congr 2
      simp [Array.eraseIdxIfInBounds, hj, eraseIdx_map']
    · rw [← eraseIdx_map']; exact (List.eraseIdx_sublist _ _).nodup hn
    · intro i
      have hnk : ∀ m (hm : m < l.length), m ≠ j → l[m].1 ≠ k := by
        intro m hm hmj he
        have hp := List.pairwise_iff_getElem.1 hn
        rcases Nat.lt_or_gt_of_ne hmj with h | h
        · exact hp m j (by simpa using hm) (by simpa using hj) h (by simp [he, hjk'])
        · exact hp j m (by simpa using hj) (by simpa using hm) h (by simp [he, hjk'])
      by_cases hik : i = k
      · subst hik
        dsimp only
        rw [if_pos rfl]
        symm
        unfold kv
        have : (l.eraseIdx j).find? (fun x => x.1 == i) = none := by
          rw [List.find?_eq_none]
          intro x hx
          obtain ⟨m, hm1, hm2, hm3⟩ := List.mem_eraseIdx_iff_getElem.1 hx
          rw [← hm3]; simpa using hnk m hm1 hm2
        rw [this]; rfl
      · dsimp only
        rw [if_neg hik, hf]
        unfold kv
        congr 1
        have e : l = l.take j ++ l[j] :: l.drop (j+1) := by simp
        rw [List.eraseIdx_eq_take_drop_succ]
        conv => lhs; rw [e]
        rw [List.find?_append, List.find?_append, List.find?_cons]
        have : (l[j].1 == i) = false := by simpa [hjk'] using fun e => hik e.symm
        rw [this]
end
/-! ### Rows that grow -/
/-- The slice value v has n elements of type e (size cells each), whose cells are xs; it begins at the head of its row. -/
abbrev Row (w : World) (e : TypeId) (size : Nat) (v : Value) (n : Nat) (xs : List Value) : Prop := w.ownsRow 0 e size v n xs
theorem Row.fr {w w' : World} {e : TypeId} {size : Nat} {v : Value} {n : Nat} {xs : List Value} (h : Row w e size v n xs) {F : Nat → Prop} (hf : Fr F w w') (hb : ∀ b, v.ownBlock = some b → ¬ F b) : Row w' e size v n xs := by
  rcases h with ⟨h1, h2 | ⟨g, cap, cur, rfl, h3, h4, h5⟩⟩
  · exact ⟨h1, .inl h2⟩
  · exact ⟨h1, .inr ⟨g, cap, cur, rfl, h3, hf.get h4 (hb g rfl), h5⟩⟩
theorem Row.lt {w : World} {e : TypeId} {size : Nat} {v : Value} {n : Nat} {xs : List Value} (h : Row w e size v n xs) {b : Nat} (hb : v.ownBlock = some b) : b < w.heap.size :=
  (World.ownsRow.lt h b hb).2
theorem grownBy.fr {w w' : World} {r : Option Nat} (h : w.grownBy w' r) : Fr (fun b => r = some b) w w' :=
  ⟨h.os, h.tape, h.output, h.size, fun k hk hn => h.block k hk (fun e => hn e.symm)⟩
section
variable {P : Program} (w : World)
/-- append of m elements, by its run: what is owned then, and in which block. -/
theorem run_append_fr (t ty e : TypeId) (i : TypeInfo) (z : Value) (size bytes : Nat) (ht : P.underlying t = some (.slice e)) (hi : P.info? e = some i) (hz : i.zero = some z)
    (hsize : i.size = size) (hby : i.bytes = bytes) (hzs : z.cells.size = size) (hsz : 0 < size)
    (v : Value) (n : Nat) (xs : List Value) (hown : Row w e size v n xs)
    (a : Addr) (m c : Nat) (news : List Value) (hl : news.length = m * size) (hnews : ∀ j u, news[j]? = some u → w.cell? (a.add j) = some u) (h1 : ∀ u ∈ news, u.oneCell' = true)
    (h63 : n + m ≤ maxLen) (hbytes : (n + m) * bytes ≤ 140737488355328) :
    ∃ v' w', (Builtin.append_ #[t, t] ty #[v, .slice (some a) m c]).run P w = .ok v' w' ∧ Row w' e size v' (n + m) (xs ++ news) ∧ Fr (fun b => v.ownBlock = some b) w w' ∧
      (v'.ownBlock = v.ownBlock ∨ v'.ownBlock = some w.heap.size) := by
  subst hsize
  subst hby
  have hsmall : n + m ≤ 9223372036854775807 := by simp only [maxLen] at h63; omega
  have hlen : (xs ++ news).length = (n + m) * i.size := by rw [List.length_append, hown.1, hl, Nat.add_mul]
  have grown : ∀ (old : Nat), old < n + m → ∀ (row : Option Nat),
      Row (w.drew.alloc (.cells (xs.toArray ++ news.toArray ++ Builtin.zeroCells z.cells (grownCap w (n + m) old e - (n + m))) e)) e i.size
        (.slice (some ⟨w.heap.size, 0, none⟩) (n + m) (grownCap w (n + m) old e)) (n + m) (xs ++ news) ∧
      w.grownBy (w.drew.alloc (.cells (xs.toArray ++ news.toArray ++ Builtin.zeroCells z.cells (grownCap w (n + m) old e - (n + m))) e)) row := by
    intro old ho row
    have hge := grownCap_ge w (n + m) old e
    have hcm : grownCap w (n + m) old e ≤ maxLen := grownCap_le_maxLen w (n + m) old e h63
    refine ⟨⟨hlen, .inr ⟨w.heap.size, _, _, rfl, Nat.zero_le _, heap_alloc_new w.drew _, hge, hcm, ?_, ?_⟩⟩, ⟨rfl, rfl, rfl, by simp, fun k hk _ => heap_alloc_old w.drew _ k hk⟩⟩
    · simp only [Array.size_append, List.size_toArray, size_zeroCells, hzs, hown.1, hl, ← Nat.add_mul]
      congr 1
      omega
    · simp only [Array.toList_append, List.append_assoc]
      rw [← List.append_assoc, ← hlen]
      exact List.take_left
  rcases hown.2 with ⟨rfl, rfl⟩ | ⟨g, cap, cur, rfl, hbg, hg, hnc, hcm, hcs, htake⟩
  · have hx : xs = [] := List.eq_nil_of_length_eq_zero (by simpa using hown.1)
    subst hx
    by_cases hm : m = 0
    · subst hm
      have hn : news = [] := List.eq_nil_of_length_eq_zero (by simpa using hl)
      subst hn
      refine ⟨.slice none 0 0, w, ?_, World.ownsRow_nil w 0 e i.size, Fr.refl _ _, .inl rfl⟩
      simp [Builtin.append_, run_underlying ht, sizeOf, typeInfo, hi, Builtin.lenOf, Builtin.firstCells, loadCells, loadCellsFrom]
    · have hr := run_append_nil (P := P) w t ty e i z ht hi hz a m c news hl hnews (by omega) (by omega) (by have hb := hbytes; simp only [Nat.zero_add] at hb; omega)
      have hgr := grown 0 (by omega) (Value.ownBlock (.slice none 0 0))
      simp only [Nat.zero_add, List.nil_append, Array.empty_append] at hgr ⊢
      exact ⟨_, _, hr, hgr.1, grownBy.fr hgr.2, .inr rfl⟩
  · by_cases hroom : n + m ≤ cap
    · have hfit : n * i.size + news.length ≤ cur.size := by rw [hl, hcs, ← Nat.add_mul]; exact Nat.mul_le_mul_right _ hroom
      have hr := run_append_room (P := P) w t ty e i ht hi g n cap cur hg a m c news hl hnews h1 hroom hfit
      refine ⟨_, _, hr, ⟨hlen, .inr ⟨g, cap, _, rfl, hbg, setRow_heap w g cur _ e _ hg, hroom, hcm, ?_, ?_⟩⟩, ⟨rfl, rfl, rfl, by simp, fun k _ hk => setRow_other w g k _ (fun e => hk (by simp [Value.ownBlock, e]))⟩, .inl rfl⟩
      · simp only [List.size_toArray, List.length_append, List.length_take, List.length_drop, Array.length_toList]
        omega
      · rw [htake, ← hlen]
        exact List.take_left
    · have holds : ∀ j u, xs[j]? = some u → w.cell? ((⟨g, 0, none⟩ : Addr).add j) = some u := hown.cells (g := g) rfl
      have hr := run_append_grow (P := P) w t ty e i z ht hi hz ⟨g, 0, none⟩ n cap xs hown.1 holds a m c news hl hnews (by omega) (by omega) (growslice_fits (by omega) hbytes)
      have hgr := grown cap (by omega) (Value.ownBlock (.slice (some ⟨g, 0, none⟩) n cap))
      exact ⟨_, _, hr, hgr.1, grownBy.fr hgr.2, .inr rfl⟩
end
end Go.Proofs.YtffnjnnmlfgngaaGreat
namespace Go.Proofs.YtffnjnnmlfgngaaGreat.Bk
/-- A booking: its id, its seat, until when it is held. -/
abbrev Bo := Nat × Int × Int
structure Bk where
  seats : Nat
  codes : Nat
  group : Nat
  next : Nat
  clock : Int
  L : List Bo
structure Rc where
  kind : Int
  id : Nat
  seat : Int
  till : Int
  clock : Int
def recB (r : Rc) : Bool :=
  (decide (r.kind = 1) && (decide (r.id ≠ 0) && decide (0 ≤ r.seat ∧ r.seat < 1024) && decide (1 ≤ r.till ∧ r.till ≤ 1099511627776) && decide (r.clock = 0)))
  || ((decide (r.kind = 2 ∨ r.kind = 3)) && (decide (r.id ≠ 0) && decide (r.seat = 0) && decide (r.till = 0) && decide (r.clock = 0)))
  || (decide (r.kind = 4) && (decide (r.id ≠ 0) && decide (0 ≤ r.seat ∧ r.seat < 1024) && decide (r.till = 0) && decide (r.clock = 0)))
  || (decide (r.kind = 5) && (decide (r.id = 0) && decide (r.seat = 0) && decide (r.till = 0) && decide (1 ≤ r.clock ∧ r.clock ≤ 1099511627776)))
def bFind (L : List Bo) (id : Nat) : Option Bo := L.find? (fun x => x.1 == id)
def bSeat (L : List Bo) (k : Int) : Option Bo := L.find? (fun x => x.2.1 == k)
def bFirm (L : List Bo) (id : Nat) : List Bo := L.map (fun x => if x.1 = id then (x.1, x.2.1, 0) else x)
def bDrop (L : List Bo) (id : Nat) : List Bo := L.filter (fun x => decide (x.1 ≠ id))
def bMove (L : List Bo) (id : Nat) (k : Int) : List Bo := L.map (fun x => if x.1 = id then (x.1, k, x.2.2) else x)
def bTick (L : List Bo) (c : Int) : List Bo := L.filter (fun x => decide (x.2.2 = 0 ∨ c < x.2.2))
def holdE (b : Bk) (r : Rc) : Nat :=
  if r.id ≠ b.next then 2 else if (b.seats : Int) ≤ r.seat then 140 else if r.till ≤ b.clock then 173
  else if (bSeat b.L r.seat).isSome then 170 else if b.codes ≤ b.L.length ∨ b.next = 4294967295 then 6 else 0
def holdB (b : Bk) (r : Rc) : Bk := if holdE b r = 0 then { b with L := b.L ++ [(r.id, r.seat, r.till)], next := b.next + 1 } else b
def tickE (b : Bk) (c : Int) : Nat := if c ≤ b.clock then 173 else 0
def tickB (b : Bk) (c : Int) : Bk := if c ≤ b.clock then b else { b with L := bTick b.L c, clock := c }
def seatE (b : Bk) (x : Bo) (k : Int) : Nat := if (b.seats : Int) ≤ k then 140 else if k = x.2.1 then 0 else if (bSeat b.L k).isSome then 170 else 0
def seatB (b : Bk) (x : Bo) (k : Int) : Bk := if seatE b x k = 0 then { b with L := bMove b.L x.1 k } else b
def appE (b : Bk) (r : Rc) : Nat :=
  if recB r = false then 160 else if r.kind = 1 then holdE b r else if r.kind = 5 then tickE b r.clock
  else match bFind b.L r.id with
    | none => 171
    | some x => if r.kind = 4 then seatE b x r.seat else 0
def appB (b : Bk) (r : Rc) : Bk :=
  if recB r = false then b else if r.kind = 1 then holdB b r else if r.kind = 5 then tickB b r.clock
  else match bFind b.L r.id with
    | none => b
    | some x => if r.kind = 2 then { b with L := bFirm b.L r.id } else if r.kind = 3 then { b with L := bDrop b.L r.id } else seatB b x r.seat
/-- What a book is in whatever state (a tick lets the clock run ahead). -/
structure Raw (b : Bk) : Prop where
  s0 : 1 ≤ b.seats
  s1 : b.seats ≤ 1024
  c0 : 1 ≤ b.codes
  c1 : b.codes ≤ 4096
  n0 : 1 ≤ b.next
  n1 : b.next < 4294967296
  t0 : 0 ≤ b.clock
  t1 : b.clock ≤ 1099511627776
  up : b.L.Pairwise fun x y => x.1 < y.1
  ids : ∀ x ∈ b.L, 1 ≤ x.1 ∧ x.1 < b.next
  at_ : ∀ x ∈ b.L, 0 ≤ x.2.1 ∧ x.2.1 < (b.seats : Int)
  lone : b.L.Pairwise fun x y => x.2.1 ≠ y.2.1
  till : ∀ x ∈ b.L, 0 ≤ x.2.2 ∧ x.2.2 ≤ 1099511627776
  few : b.L.length ≤ b.codes
structure Ok (b : Bk) : Prop extends Raw b where
  held : ∀ x ∈ b.L, x.2.2 = 0 ∨ b.clock < x.2.2
theorem pairwise_pred {α : Type} {R : α → α → Prop} {L : List α} (h : L.Pairwise R) (p : α → Bool) : (L.filter p).Pairwise R := h.sublist List.filter_sublist
theorem bFind_some {L : List Bo} (h : L.Pairwise fun x y => x.1 < y.1) {x : Bo} : bFind L x.1 = some x ↔ x ∈ L := by
  unfold bFind
  constructor
  · intro e; exact List.mem_of_find?_eq_some e
  · intro hx
    induction L with
    | nil => simp at hx
    | cons y L ih =>
      rw [List.find?_cons]
      rcases List.mem_cons.1 hx with rfl | hx
      · simp
      · have h1 := List.pairwise_cons.1 h
        have h2 := h1.1 x hx
        have : (y.1 == x.1) = false := by simp; omega
        rw [this]; exact ih h1.2 hx
theorem bFind_id {L : List Bo} {id : Nat} {x : Bo} (h : bFind L id = some x) : x.1 = id ∧ x ∈ L := by
  have h1 := List.find?_some h
  exact ⟨by simpa using h1, List.mem_of_find?_eq_some h⟩
theorem bFind_none {L : List Bo} {id : Nat} (h : bFind L id = none) : ∀ x ∈ L, x.1 ≠ id := by
  intro x hx
  have := List.find?_eq_none.1 h x hx
  simpa using this
theorem bSeat_some {L : List Bo} (h : L.Pairwise fun x y => x.2.1 ≠ y.2.1) {x : Bo} : bSeat L x.2.1 = some x ↔ x ∈ L := by
  unfold bSeat
  constructor
  · intro e; exact List.mem_of_find?_eq_some e
  · intro hx
    induction L with
    | nil => simp at hx
    | cons y L ih =>
      rw [List.find?_cons]
      rcases List.mem_cons.1 hx with rfl | hx
      · simp
      · have h1 := List.pairwise_cons.1 h
        have h2 := h1.1 x hx
        have : (y.2.1 == x.2.1) = false := by simpa using h2
        rw [this]; exact ih h1.2 hx
theorem bSeat_id {L : List Bo} {k : Int} {x : Bo} (h : bSeat L k = some x) : x.2.1 = k ∧ x ∈ L := by
  have h1 := List.find?_some h
  exact ⟨by simpa using h1, List.mem_of_find?_eq_some h⟩
theorem bSeat_none {L : List Bo} {k : Int} (h : bSeat L k = none) : ∀ x ∈ L, x.2.1 ≠ k := by
  intro x hx
  have := List.find?_eq_none.1 h x hx
  simpa using this
theorem bSeat_free {L : List Bo} {k : Int} (h : (bSeat L k).isSome = false) : ∀ x ∈ L, x.2.1 ≠ k := by
  apply bSeat_none
  cases e : bSeat L k with
  | none => rfl
  | some x => rw [e] at h; simp at h
theorem uniq_id {L : List Bo} (h : L.Pairwise fun x y => x.1 < y.1) {x y : Bo} (hx : x ∈ L) (hy : y ∈ L) (e : x.1 = y.1) : x = y := by
  have h1 := (bFind_some h).2 hx
  have h2 := (bFind_some h).2 hy
  rw [e, h2] at h1; exact (Option.some.inj h1).symm
theorem pw_map {R : Bo → Bo → Prop} {f : Bo → Bo} {L : List Bo} (h : L.Pairwise R) (hf : ∀ x y, x ∈ L → y ∈ L → R x y → R (f x) (f y)) : (L.map f).Pairwise R := by
  rw [List.pairwise_map]
  exact h.imp_of_mem (fun {a b} ha hb hr => hf a b ha hb hr)
theorem Raw.firm {b : Bk} (h : Raw b) (id : Nat) : Raw { b with L := bFirm b.L id } := by
  have hx : ∀ x : Bo, (if x.1 = id then ((x.1, x.2.1, 0) : Bo) else x).1 = x.1 ∧ (if x.1 = id then ((x.1, x.2.1, 0) : Bo) else x).2.1 = x.2.1 := by
    intro x; split <;> simp
  refine ⟨h.s0, h.s1, h.c0, h.c1, h.n0, h.n1, h.t0, h.t1, ?_, ?_, ?_, ?_, ?_, by simpa [bFirm] using h.few⟩
  · exact pw_map h.up (fun x y _ _ r => by rw [(hx x).1, (hx y).1]; exact r)
  · intro y hy
    obtain ⟨x, hm, rfl⟩ := List.mem_map.1 hy
    rw [(hx x).1]; exact h.ids x hm
  · intro y hy
    obtain ⟨x, hm, rfl⟩ := List.mem_map.1 hy
    rw [(hx x).2]; exact h.at_ x hm
  · exact pw_map h.lone (fun x y _ _ r => by rw [(hx x).2, (hx y).2]; exact r)
  · intro y hy
    obtain ⟨x, hm, rfl⟩ := List.mem_map.1 hy
    split
    · simp
    · exact h.till x hm
theorem Raw.filt {b : Bk} (h : Raw b) (p : Bo → Bool) : Raw { b with L := b.L.filter p } :=
  ⟨h.s0, h.s1, h.c0, h.c1, h.n0, h.n1, h.t0, h.t1, pairwise_pred h.up p, fun x hx => h.ids x (List.mem_filter.1 hx).1, fun x hx => h.at_ x (List.mem_filter.1 hx).1, pairwise_pred h.lone p,
    fun x hx => h.till x (List.mem_filter.1 hx).1, Nat.le_trans (List.length_filter_le _ _) h.few⟩
theorem Raw.move {b : Bk} (h : Raw b) {id : Nat} {k : Int} (h0 : 0 ≤ k) (h1 : k < (b.seats : Int)) (hk : ∀ x ∈ b.L, x.2.1 = k → x.1 = id) : Raw { b with L := bMove b.L id k } := by
  have hx : ∀ x : Bo, (if x.1 = id then ((x.1, k, x.2.2) : Bo) else x).1 = x.1 ∧ (if x.1 = id then ((x.1, k, x.2.2) : Bo) else x).2.2 = x.2.2 := by
    intro x; split <;> simp
  refine ⟨h.s0, h.s1, h.c0, h.c1, h.n0, h.n1, h.t0, h.t1, ?_, ?_, ?_, ?_, ?_, by simpa [bMove] using h.few⟩
  · exact pw_map h.up (fun x y _ _ r => by rw [(hx x).1, (hx y).1]; exact r)
  · intro y hy
    obtain ⟨x, hm, rfl⟩ := List.mem_map.1 hy
    rw [(hx x).1]; exact h.ids x hm
  · intro y hy
    obtain ⟨x, hm, rfl⟩ := List.mem_map.1 hy
    split
    · exact ⟨h0, h1⟩
    · exact h.at_ x hm
  · have h2 := h.lone.and h.up
    unfold bMove
    rw [List.pairwise_map]
    refine h2.imp_of_mem ?_
    intro x y hxm hym r
    obtain ⟨r1, r2⟩ := r
    by_cases ex : x.1 = id <;> by_cases ey : y.1 = id
    · omega
    · rw [if_pos ex, if_neg ey]; intro e; exact ey (hk y hym e.symm)
    · rw [if_neg ex, if_pos ey]; intro e; exact ex (hk x hxm e)
    · rw [if_neg ex, if_neg ey]; exact r1
  · intro y hy
    obtain ⟨x, hm, rfl⟩ := List.mem_map.1 hy
    rw [(hx x).2]; exact h.till x hm
theorem Raw.put {b : Bk} (h : Raw b) {x : Bo} {n : Nat} (hn : b.next ≤ n) (hn2 : n < 4294967296) (h1 : 1 ≤ x.1 ∧ x.1 < n) (hl : ∀ y ∈ b.L, y.1 < x.1) (hs : 0 ≤ x.2.1 ∧ x.2.1 < (b.seats : Int)) (hf : ∀ y ∈ b.L, y.2.1 ≠ x.2.1) (ht : 0 ≤ x.2.2 ∧ x.2.2 ≤ 1099511627776) (hc : b.L.length < b.codes) :
    Raw { b with L := b.L ++ [x], next := n } := by
  have e : ∀ y ∈ b.L ++ [x], y ∈ b.L ∨ y = x := fun y hy => by simpa using hy
  refine ⟨h.s0, h.s1, h.c0, h.c1, Nat.le_trans h.n0 hn, hn2, h.t0, h.t1, ?_, ?_, ?_, ?_, ?_, by simp; omega⟩
  · rw [List.pairwise_append]
    exact ⟨h.up, by simp, fun a ha c hc => by simp at hc; subst hc; exact hl a ha⟩
  · intro y hy
    rcases e y hy with hy | rfl
    · have := h.ids y hy; exact ⟨this.1, Nat.lt_of_lt_of_le this.2 hn⟩
    · exact h1
  · intro y hy
    rcases e y hy with hy | rfl
    · exact h.at_ y hy
    · exact hs
  · rw [List.pairwise_append]
    exact ⟨h.lone, by simp, fun a ha c hc => by simp at hc; subst hc; exact hf a ha⟩
  · intro y hy
    rcases e y hy with hy | rfl
    · exact h.till y hy
    · exact ht
theorem recB_hold {r : Rc} (h : recB r = true) (k : r.kind = 1) : r.id ≠ 0 ∧ 0 ≤ r.seat ∧ r.seat < 1024 ∧ 1 ≤ r.till ∧ r.till ≤ 1099511627776 := by
  unfold recB at h; simp [k] at h; omega
theorem recB_tick {r : Rc} (h : recB r = true) (k : r.kind = 5) : 1 ≤ r.clock ∧ r.clock ≤ 1099511627776 := by
  unfold recB at h; simp [k] at h; omega
theorem recB_move {r : Rc} (h : recB r = true) (k : r.kind = 4) : 0 ≤ r.seat ∧ r.seat < 1024 := by
  unfold recB at h; simp [k] at h; omega
theorem recB_kind {r : Rc} (h : recB r = true) : 1 ≤ r.kind ∧ r.kind ≤ 5 := by
  unfold recB at h; simp at h; omega
theorem holdE_zero {b : Bk} {r : Rc} (h : holdE b r = 0) : r.id = b.next ∧ r.seat < (b.seats : Int) ∧ b.clock < r.till ∧ (∀ x ∈ b.L, x.2.1 ≠ r.seat) ∧ b.L.length < b.codes ∧ b.next ≠ 4294967295 := by
  unfold holdE at h
  by_cases h1 : r.id ≠ b.next
  · rw [if_pos h1] at h; simp at h
  rw [if_neg h1] at h
  by_cases h2 : (b.seats : Int) ≤ r.seat
  · rw [if_pos h2] at h; simp at h
  rw [if_neg h2] at h
  by_cases h3 : r.till ≤ b.clock
  · rw [if_pos h3] at h; simp at h
  rw [if_neg h3] at h
  by_cases h4 : (bSeat b.L r.seat).isSome
  · rw [if_pos h4] at h; simp at h
  rw [if_neg h4] at h
  by_cases h5 : b.codes ≤ b.L.length ∨ b.next = 4294967295
  · rw [if_pos h5] at h; simp at h
  refine ⟨by omega, by omega, by omega, bSeat_free (by simpa using h4), by omega, by omega⟩
theorem hold_raw {b : Bk} {r : Rc} (h : Raw b) (h1 : recB r = true) (k : r.kind = 1) : Raw (holdB b r) := by
  unfold holdB
  split
  · rename_i h0
    have z := holdE_zero h0
    have q := recB_hold h1 k
    exact h.put (Nat.le_succ _) (by have := h.n1; omega) ⟨by omega, by rw [z.1]; exact Nat.lt_succ_self _⟩ (fun y hy => by rw [z.1]; exact (h.ids y hy).2) ⟨q.2.1, z.2.1⟩ z.2.2.2.1 ⟨by show 0 ≤ r.till; omega, q.2.2.2.2⟩ z.2.2.2.2.1
  · exact h
theorem seat_raw {b : Bk} {x : Bo} {k : Int} (h : Raw b) (hx : x ∈ b.L) (h0 : 0 ≤ k) : Raw (seatB b x k) := by
  unfold seatB
  split
  · rename_i he
    unfold seatE at he
    by_cases h2 : (b.seats : Int) ≤ k
    · rw [if_pos h2] at he; simp at he
    rw [if_neg h2] at he
    refine h.move h0 (by omega) ?_
    by_cases h3 : k = x.2.1
    · intro y hy ey
      have h4 := (bSeat_some h.lone).2 hx
      have h5 := (bSeat_some h.lone).2 hy
      rw [ey, h3, h4] at h5
      rw [Option.some.inj h5]
    · rw [if_neg h3] at he
      by_cases h4 : (bSeat b.L k).isSome
      · rw [if_pos h4] at he; simp at he
      · intro y hy ey; exact absurd ey (bSeat_free (by simpa using h4) y hy)
  · exact h
theorem app_raw {b : Bk} {r : Rc} (h : Raw b) : Raw (appB b r) := by
  unfold appB
  by_cases h0 : recB r = false
  · rw [if_pos h0]; exact h
  rw [if_neg h0]
  have h1 : recB r = true := by simpa using h0
  by_cases k1 : r.kind = 1
  · rw [if_pos k1]; exact hold_raw h h1 k1
  rw [if_neg k1]
  by_cases k5 : r.kind = 5
  · rw [if_pos k5]
    unfold tickB
    split
    · exact h
    · have q := recB_tick h1 k5
      have h2 := h.filt (fun x => decide (x.2.2 = 0 ∨ r.clock < x.2.2))
      exact ⟨h2.s0, h2.s1, h2.c0, h2.c1, h2.n0, h2.n1, by show 0 ≤ r.clock; omega, q.2, h2.up, h2.ids, h2.at_, h2.lone, h2.till, h2.few⟩
  rw [if_neg k5]
  cases hf : bFind b.L r.id with
  | none => exact h
  | some x =>
    simp only
    by_cases k2 : r.kind = 2
    · rw [if_pos k2]; exact h.firm _
    rw [if_neg k2]
    by_cases k3 : r.kind = 3
    · rw [if_pos k3]; exact h.filt _
    rw [if_neg k3]
    have q := recB_kind h1
    exact seat_raw h (bFind_id hf).2 (recB_move h1 (by omega)).1
theorem app_ok {b : Bk} {r : Rc} (h : Ok b) : Ok (appB b r) := by
  refine ⟨app_raw h.toRaw, ?_⟩
  unfold appB
  by_cases h0 : recB r = false
  · rw [if_pos h0]; exact h.held
  rw [if_neg h0]
  have h1 : recB r = true := by simpa using h0
  by_cases k1 : r.kind = 1
  · rw [if_pos k1]
    unfold holdB
    split
    · rename_i h2
      have z := holdE_zero h2
      intro y hy
      rcases (by simpa using hy : y ∈ b.L ∨ y = (r.id, r.seat, r.till)) with hy | rfl
      · exact h.held y hy
      · exact .inr z.2.2.1
    · exact h.held
  rw [if_neg k1]
  by_cases k5 : r.kind = 5
  · rw [if_pos k5]
    unfold tickB
    split
    · exact h.held
    · intro y hy
      have := (List.mem_filter.1 hy).2
      simpa using this
  rw [if_neg k5]
  cases hf : bFind b.L r.id with
  | none => exact h.held
  | some x =>
    simp only
    by_cases k2 : r.kind = 2
    · rw [if_pos k2]
      intro y hy
      obtain ⟨z, hm, rfl⟩ := List.mem_map.1 hy
      split
      · exact .inl rfl
      · exact h.held z hm
    rw [if_neg k2]
    by_cases k3 : r.kind = 3
    · rw [if_pos k3]
      intro y hy
      exact h.held y (List.mem_filter.1 hy).1
    rw [if_neg k3]
    unfold seatB
    split
    · intro y hy
      obtain ⟨z, hm, rfl⟩ := List.mem_map.1 hy
      have := h.held z hm
      split
      · exact this
      · exact this
    · exact h.held
end Go.Proofs.YtffnjnnmlfgngaaGreat.Bk
namespace Go.Proofs.YtffnjnnmlfgngaaGreat.Ix
/-- A slot: state (0 empty, 1 full, 2 grave), id, number. -/
abbrev Sl := Nat × Nat × Int
def slAt (S : List Sl) (p : Nat) : Sl := S.getD p (0, 0, 0)
def ent (S : List Sl) : List (Nat × Int) := (S.filter fun x => x.1 == 1).map (·.2)
theorem slAt_of {S : List Sl} {p : Nat} (h : p < S.length) : S[p]? = some (slAt S p) := by
  simp [slAt, h]
theorem slAt_set {S : List Sl} {p q : Nat} {x : Sl} (h : p < S.length) : slAt (S.set p x) q = if p = q then x else slAt S q := by
  unfold slAt
  rw [List.getD_eq_getElem?_getD, List.getElem?_set, List.getD_eq_getElem?_getD]
  by_cases e : p = q
  · subst e; simp [h]
  · simp [e]
/-- Every item is met from its home. -/
structure Good (hm : Nat → Nat) (S : List Sl) : Prop where
  met : ∀ p, p < S.length → (slAt S p).1 = 1 → ∃ j, j < S.length ∧ p = (hm (slAt S p).2.1 + j) % S.length ∧ ∀ i, i < j → (slAt S ((hm (slAt S p).2.1 + i) % S.length)).1 ≠ 0
  uniq : ∀ p q, p < S.length → q < S.length → (slAt S p).1 = 1 → (slAt S q).1 = 1 → (slAt S p).2.1 = (slAt S q).2.1 → p = q
  le2 : ∀ x ∈ S, x.1 ≤ 2
/-- What a search has seen behind t slots: no empty one, not the id; the first grave. -/
structure Look (S : List Sl) (h id t : Nat) (f : Option Nat) : Prop where
  none0 : ∀ i, i < t → (slAt S ((h + i) % S.length)).1 ≠ 0
  noid : ∀ i, i < t → ¬ ((slAt S ((h + i) % S.length)).1 = 1 ∧ (slAt S ((h + i) % S.length)).2.1 = id)
  free : ∀ p, f = some p → ∃ i, i < t ∧ p = (h + i) % S.length ∧ (slAt S p).1 = 2
/-- A place for an id that isn't there. -/
def Place (S : List Sl) (h p : Nat) : Prop := p < S.length ∧ (slAt S p).1 ≠ 1 ∧ ∃ j, j < S.length ∧ p = (h + j) % S.length ∧ ∀ i, i < j → (slAt S ((h + i) % S.length)).1 ≠ 0
theorem Look.start (S : List Sl) (h id : Nat) : Look S h id 0 none := ⟨fun i hi => absurd hi (Nat.not_lt_zero _), fun i hi => absurd hi (Nat.not_lt_zero _), fun _ h => by simp at h⟩
theorem Look.more {S : List Sl} {h id t : Nat} {f : Option Nat} (H : Look S h id t f) (h0 : (slAt S ((h + t) % S.length)).1 ≠ 0) (h1 : ¬ ((slAt S ((h + t) % S.length)).1 = 1 ∧ (slAt S ((h + t) % S.length)).2.1 = id)) : Look S h id (t + 1) f := by
  refine ⟨fun i hi => ?_, fun i hi => ?_, fun p e => ?_⟩
  · rcases Nat.lt_succ_iff_lt_or_eq.1 hi with h | rfl
    · exact H.none0 i h
    · exact h0
  · rcases Nat.lt_succ_iff_lt_or_eq.1 hi with h | rfl
    · exact H.noid i h
    · exact h1
  · obtain ⟨i, h1, h2⟩ := H.free p e
    exact ⟨i, by omega, h2⟩
theorem Look.grave {S : List Sl} {h id t : Nat} (H : Look S h id t none) (h2 : (slAt S ((h + t) % S.length)).1 = 2) : Look S h id (t + 1) (some ((h + t) % S.length)) := by
  have := H.more (by omega) (by omega)
  refine ⟨this.none0, this.noid, fun p e => ?_⟩
  simp only [Option.some.injEq] at e
  subst e
  exact ⟨t, by omega, rfl, h2⟩
theorem turn_all {N h p : Nat} (hN : 0 < N) (hp : p < N) : ∃ i, i < N ∧ (h + i) % N = p := by
  refine ⟨(p + (N - h % N)) % N, Nat.mod_lt _ hN, ?_⟩
  rw [Nat.add_mod_mod, Nat.add_mod]
  have hh : h % N < N := Nat.mod_lt _ hN
  by_cases e : h % N = 0
  · rw [e]; simp; exact Nat.mod_eq_of_lt hp
  · have h2 : (p + (N - h % N)) % N = if p < h % N then p + (N - h % N) else p - h % N := by
      by_cases c : p < h % N
      · rw [if_pos c, Nat.mod_eq_of_lt (by omega)]
      · rw [if_neg c, Nat.mod_eq_sub_mod (by omega), Nat.mod_eq_of_lt (by omega)]; omega
    rw [h2]
    by_cases c : p < h % N
    · rw [if_pos c, Nat.mod_eq_sub_mod (by omega), Nat.mod_eq_of_lt (by omega)]; omega
    · rw [if_neg c, Nat.mod_eq_of_lt (by omega)]; omega
/-- A search that meets an empty slot. -/
theorem Look.ends {S : List Sl} {hm : Nat → Nat} {id t : Nat} {f : Option Nat} (G : Good hm S) (H : Look S (hm id) id t f) (ht : t < S.length) (h0 : (slAt S ((hm id + t) % S.length)).1 = 0) :
    Place S (hm id) (f.getD ((hm id + t) % S.length)) ∧ ∀ p, p < S.length → ¬ ((slAt S p).1 = 1 ∧ (slAt S p).2.1 = id) := by
  have hN : 0 < S.length := by omega
  constructor
  · cases f with
    | none => exact ⟨Nat.mod_lt _ hN, by rw [Option.getD_none]; omega, t, ht, rfl, H.none0⟩
    | some p =>
      obtain ⟨i, hi, e, h2⟩ := H.free p rfl
      exact ⟨by rw [Option.getD_some, e]; exact Nat.mod_lt _ hN, by rw [Option.getD_some]; omega, i, by omega, e, fun k hk => H.none0 k (by omega)⟩
  · rintro p hp ⟨h1, rfl⟩
    obtain ⟨j, hj, e, hn⟩ := G.met p hp h1
    have : j ≤ t := by
      refine Nat.le_of_not_lt fun hlt => ?_
      exact hn t hlt h0
    rcases Nat.lt_or_eq_of_le this with h | rfl
    · exact H.noid j h ⟨by rw [← e]; exact h1, by rw [← e]⟩
    · rw [← e] at h0; omega
/-- A search over all slots would have met an empty one. -/
theorem Look.full {S : List Sl} {h id : Nat} {f : Option Nat} (H : Look S h id S.length f) {p : Nat} (hp : p < S.length) (h0 : (slAt S p).1 = 0) : False := by
  obtain ⟨i, hi, e⟩ := turn_all (h := h) (by omega) hp
  exact H.none0 i hi (by rw [e]; exact h0)
theorem next_turn (h t N : Nat) : ((h + t) % N + 1) % N = (h + (t + 1)) % N := by rw [Nat.mod_add_mod]; rfl
/-- An item laid into a place. -/
theorem Good.put {hm : Nat → Nat} {S : List Sl} (G : Good hm S) {id : Nat} {v : Int} {p : Nat} (hp : Place S (hm id) p) (ha : ∀ q, q < S.length → ¬ ((slAt S q).1 = 1 ∧ (slAt S q).2.1 = id)) : Good hm (S.set p (1, id, v)) := by
  obtain ⟨h1, h2, j, hj, e, hn⟩ := hp
  have keep : ∀ q, (slAt S q).1 ≠ 0 → (slAt (S.set p (1, id, v)) q).1 ≠ 0 := by
    intro q hq; rw [slAt_set h1]; split
    · simp
    · exact hq
  refine ⟨fun q hq => ?_, fun a b ha' hb' => ?_, fun x hx => ?_⟩
  · rw [List.length_set] at hq
    rw [slAt_set h1, List.length_set]
    by_cases c : p = q
    · subst c
      rw [if_pos rfl]
      intro _
      exact ⟨j, hj, e, fun i hi => keep _ (hn i hi)⟩
    · rw [if_neg c]
      intro hf
      obtain ⟨k, hk, e2, hn2⟩ := G.met q hq hf
      exact ⟨k, hk, e2, fun i hi => keep _ (hn2 i hi)⟩
  · rw [List.length_set] at ha' hb'
    rw [slAt_set h1, slAt_set h1]
    by_cases ca : p = a
    · by_cases cb : p = b
      · intro _ _ _; omega
      · rw [if_pos ca, if_neg cb]
        intro _ hb2 hb3
        exact absurd ⟨hb2, hb3.symm⟩ (ha b hb')
    · by_cases cb : p = b
      · rw [if_neg ca, if_pos cb]
        intro ha2 _ ha3
        exact absurd ⟨ha2, ha3⟩ (ha a ha')
      · rw [if_neg ca, if_neg cb]
        exact G.uniq a b ha' hb'
  · rcases List.mem_or_eq_of_mem_set hx with h | rfl
    · exact G.le2 x h
    · simp
/-- Another number under an id that is there. -/
theorem Good.setv {hm : Nat → Nat} {S : List Sl} (G : Good hm S) {id : Nat} {v : Int} {p : Nat} (h1 : p < S.length) (hf : (slAt S p).1 = 1 ∧ (slAt S p).2.1 = id) : Good hm (S.set p (1, id, v)) := by
  have same : ∀ q, (slAt (S.set p (1, id, v)) q).1 = (slAt S q).1 ∧ ((slAt S q).1 = 1 → (slAt (S.set p (1, id, v)) q).2.1 = (slAt S q).2.1) := by
    intro q; rw [slAt_set h1]
    by_cases c : p = q
    · subst c; rw [if_pos rfl]; exact ⟨hf.1.symm, fun _ => hf.2.symm⟩
    · rw [if_neg c]; exact ⟨rfl, fun _ => rfl⟩
  refine ⟨fun q hq => ?_, fun a b ha hb h1 h2 h3 => ?_, fun x hx => ?_⟩
  · rw [List.length_set] at hq ⊢
    rw [(same q).1]
    intro hq1
    rw [(same q).2 hq1]
    obtain ⟨k, hk, e2, hn2⟩ := G.met q hq hq1
    exact ⟨k, hk, e2, fun i hi => by rw [(same _).1]; exact hn2 i hi⟩
  · rw [List.length_set] at ha hb
    rw [(same a).1] at h1
    rw [(same b).1] at h2
    rw [(same a).2 h1, (same b).2 h2] at h3
    exact G.uniq a b ha hb h1 h2 h3
  · rcases List.mem_or_eq_of_mem_set hx with h | rfl
    · exact G.le2 x h
    · simp
/-- An item that goes. -/
theorem Good.drop {hm : Nat → Nat} {S : List Sl} (G : Good hm S) {p : Nat} (h1 : p < S.length) : Good hm (S.set p (2, 0, 0)) := by
  have keep : ∀ q, (slAt S q).1 ≠ 0 → (slAt (S.set p (2, 0, 0)) q).1 ≠ 0 := by
    intro q hq; rw [slAt_set h1]; split
    · simp
    · exact hq
  have was : ∀ q, (slAt (S.set p (2, 0, 0)) q).1 = 1 → slAt (S.set p (2, 0, 0)) q = slAt S q := by
    intro q; rw [slAt_set h1]; split
    · simp
    · intro _; rfl
  refine ⟨fun q hq hf => ?_, fun a b ha hb hfa hfb => ?_, fun x hx => ?_⟩
  · have e := was q hf
    rw [List.length_set] at hq ⊢
    rw [e] at hf ⊢
    obtain ⟨k, hk, e2, hn2⟩ := G.met q hq hf
    exact ⟨k, hk, e2, fun i hi => keep _ (hn2 i hi)⟩
  · have e1 := was a hfa
    have e2 := was b hfb
    rw [List.length_set] at ha hb
    rw [e1] at hfa ⊢
    rw [e2] at hfb ⊢
    exact G.uniq a b ha hb hfa hfb
  · rcases List.mem_or_eq_of_mem_set hx with h | rfl
    · exact G.le2 x h
    · simp
theorem Good.nil (hm : Nat → Nat) (N : Nat) : Good hm (List.replicate N (0, 0, 0)) := by
  have h0 : ∀ p, (slAt (List.replicate N ((0, 0, 0) : Sl)) p).1 = 0 := by
    intro p
    unfold slAt
    rw [List.getD_eq_getElem?_getD, List.getElem?_replicate]
    split <;> rfl
  refine ⟨fun p _ h => ?_, fun p q _ _ h => ?_, fun x hx => ?_⟩
  · rw [h0] at h; omega
  · rw [h0] at h; omega
  · rw [List.mem_replicate] at hx; rw [hx.2]; simp
end Go.Proofs.YtffnjnnmlfgngaaGreat.Ix
namespace Go.Proofs.YtffnjnnmlfgngaaGreat.Ix
/-- The slots hold just these items, told by rising ids. -/
structure Maps (S : List Sl) (L : List (Nat × Int)) : Prop where
  up : L.Pairwise (fun a b => a.1 < b.1)
  perm : L.Perm (ent S)
def ins (L : List (Nat × Int)) (id : Nat) (v : Int) : List (Nat × Int) := L.filter (fun x => decide (x.1 < id)) ++ (id, v) :: L.filter (fun x => decide (id < x.1))
def upd (L : List (Nat × Int)) (id : Nat) (v : Int) : List (Nat × Int) := L.map (fun x => if x.1 = id then (id, v) else x)
def del (L : List (Nat × Int)) (id : Nat) : List (Nat × Int) := L.filter (fun x => decide (x.1 ≠ id))
def look (L : List (Nat × Int)) (id : Nat) : Option Int := (L.find? (fun x => x.1 == id)).map (·.2)
theorem mem_ent {S : List Sl} {x : Nat × Int} : x ∈ ent S ↔ ∃ p, p < S.length ∧ slAt S p = (1, x) := by
  unfold ent
  rw [List.mem_map]
  constructor
  · rintro ⟨y, hy, rfl⟩
    obtain ⟨hy1, hy2⟩ := List.mem_filter.1 hy
    obtain ⟨p, hp, rfl⟩ := List.mem_iff_getElem.1 hy1
    refine ⟨p, hp, ?_⟩
    have : slAt S p = S[p] := by simp [slAt, hp]
    rw [this]
    have h1 : (S[p]).1 = 1 := by simpa using hy2
    exact Prod.ext h1 rfl
  · rintro ⟨p, hp, e⟩
    refine ⟨S[p], List.mem_filter.2 ⟨List.getElem_mem hp, ?_⟩, ?_⟩
    · have : slAt S p = S[p] := by simp [slAt, hp]
      rw [← this, e]; rfl
    · have : slAt S p = S[p] := by simp [slAt, hp]
      rw [← this, e]
theorem set_split {S : List Sl} {p : Nat} (hp : p < S.length) (x : Sl) : S.set p x = S.take p ++ x :: S.drop (p + 1) := List.set_eq_take_append_cons_drop.trans (by rw [if_pos hp])
theorem self_split {S : List Sl} {p : Nat} (hp : p < S.length) : S = S.take p ++ slAt S p :: S.drop (p + 1) := by
  have : slAt S p = S[p] := by simp [slAt, hp]
  rw [this, ← List.drop_eq_getElem_cons hp, List.take_append_drop]
theorem ent_append (A B : List Sl) : ent (A ++ B) = ent A ++ ent B := by simp [ent]
theorem ent_cons_full (id : Nat) (v : Int) (B : List Sl) : ent ((1, id, v) :: B) = (id, v) :: ent B := by simp [ent]
theorem ent_cons_not {x : Sl} (hx : x.1 ≠ 1) (B : List Sl) : ent (x :: B) = ent B := by
  unfold ent; rw [List.filter_cons_of_neg (by simpa using hx)]
theorem ent_put {S : List Sl} {p id : Nat} {v : Int} (hp : p < S.length) (h : (slAt S p).1 ≠ 1) : (ent (S.set p (1, id, v))).Perm ((id, v) :: ent S) := by
  rw [set_split hp, ent_append, ent_cons_full]
  conv => rhs; rw [self_split hp, ent_append, ent_cons_not h]
  exact List.perm_middle
theorem up_filter_lt {L : List (Nat × Int)} (h : L.Pairwise fun a b => a.1 < b.1) (id : Nat) (v : Int) : (ins L id v).Pairwise fun a b => a.1 < b.1 := by
  unfold ins
  rw [List.pairwise_append]
  refine ⟨h.filter _, ?_, ?_⟩
  · rw [List.pairwise_cons]
    refine ⟨fun a ha => ?_, h.filter _⟩
    have := (List.mem_filter.1 ha).2
    simpa using this
  · intro a ha b hb
    have h1 : a.1 < id := by simpa using (List.mem_filter.1 ha).2
    rcases List.mem_cons.1 hb with rfl | hb
    · exact h1
    · have h2 : id < b.1 := by simpa using (List.mem_filter.1 hb).2
      omega
theorem split_perm (id : Nat) : ∀ (L : List (Nat × Int)), (∀ x ∈ L, x.1 ≠ id) → L.Perm (L.filter (fun x => decide (x.1 < id)) ++ L.filter (fun x => decide (id < x.1)))
  | [], _ => List.Perm.refl _
  | x :: L, h => by
    have ih := split_perm id L (fun y hy => h y (List.mem_cons_of_mem _ hy))
    have hx := h x (List.mem_cons_self ..)
    rcases Nat.lt_or_gt_of_ne hx with c | c
    · rw [List.filter_cons_of_pos (by simpa using c), List.filter_cons_of_neg (by simp; omega)]
      exact ih.cons x
    · rw [List.filter_cons_of_neg (by simp; omega), List.filter_cons_of_pos (by simpa using c)]
      exact (ih.cons x).trans List.perm_middle.symm
theorem Maps.no {S : List Sl} {L : List (Nat × Int)} (M : Maps S L) {id : Nat} (h : ∀ p, p < S.length → ¬ ((slAt S p).1 = 1 ∧ (slAt S p).2.1 = id)) : ∀ x ∈ L, x.1 ≠ id := by
  rintro x hx rfl
  obtain ⟨p, hp, e⟩ := mem_ent.1 (M.perm.subset hx)
  exact h p hp (by rw [e]; exact ⟨rfl, rfl⟩)
theorem Maps.put {S : List Sl} {L : List (Nat × Int)} (M : Maps S L) {p id : Nat} {v : Int} (hp : p < S.length) (h : (slAt S p).1 ≠ 1) (ha : ∀ q, q < S.length → ¬ ((slAt S q).1 = 1 ∧ (slAt S q).2.1 = id)) : Maps (S.set p (1, id, v)) (ins L id v) := by
  refine ⟨up_filter_lt M.up id v, ?_⟩
  refine List.Perm.trans ?_ (ent_put hp h).symm
  unfold ins
  refine List.perm_middle.trans ?_
  exact ((split_perm id L (M.no ha)).symm.trans M.perm).cons _
theorem map_set {S : List Sl} (hm : Nat → Nat) (G : Good hm S) {p id : Nat} (y : Sl) (hp : p < S.length) (hf : (slAt S p).1 = 1 ∧ (slAt S p).2.1 = id) : S.set p y = S.map fun x => if x.1 = 1 ∧ x.2.1 = id then y else x := by
  apply List.ext_getElem
  · simp
  · intro i h1 h2
    have hi : i < S.length := by simpa using h2
    have es : slAt S i = S[i] := by simp [slAt, hi]
    rw [List.getElem_set, List.getElem_map, ← es]
    by_cases c : p = i
    · subst c; rw [if_pos rfl, if_pos hf]
    · rw [if_neg c, if_neg]
      intro hc
      exact c (G.uniq p i hp hi hf.1 hc.1 (hf.2.trans hc.2.symm))
theorem ent_map_upd (id : Nat) (v : Int) : ∀ (S : List Sl), ent (S.map fun x => if x.1 = 1 ∧ x.2.1 = id then (1, id, v) else x) = upd (ent S) id v
  | [] => rfl
  | x :: S => by
    have ih := ent_map_upd id v S
    rw [List.map_cons]
    by_cases c : x.1 = 1
    · obtain ⟨a, i, u⟩ := x
      obtain rfl : a = 1 := c
      by_cases d : i = id
      · subst d
        rw [if_pos ⟨rfl, rfl⟩, ent_cons_full, ent_cons_full, ih]; simp [upd]
      · rw [if_neg (fun h => d h.2), ent_cons_full, ent_cons_full, ih]; simp [upd, d]
    · rw [if_neg (fun h => c h.1), ent_cons_not c, ent_cons_not c, ih]
theorem ent_map_del (id : Nat) : ∀ (S : List Sl), ent (S.map fun x => if x.1 = 1 ∧ x.2.1 = id then (2, 0, 0) else x) = del (ent S) id
  | [] => rfl
  | x :: S => by
    have ih := ent_map_del id S
    rw [List.map_cons]
    by_cases c : x.1 = 1
    · obtain ⟨a, i, u⟩ := x
      obtain rfl : a = 1 := c
      by_cases d : i = id
      · subst d
        rw [if_pos ⟨rfl, rfl⟩, ent_cons_full, ent_cons_not (by simp), ih]; simp [del]
      · rw [if_neg (fun h => d h.2), ent_cons_full, ent_cons_full, ih]; simp [del, d]
    · rw [if_neg (fun h => c h.1), ent_cons_not c, ent_cons_not c, ih]
theorem Maps.setv {hm : Nat → Nat} {S : List Sl} {L : List (Nat × Int)} (M : Maps S L) (G : Good hm S) {p id : Nat} {v : Int} (hp : p < S.length) (hf : (slAt S p).1 = 1 ∧ (slAt S p).2.1 = id) : Maps (S.set p (1, id, v)) (upd L id v) := by
  rw [map_set hm G (1, id, v) hp hf]
  refine ⟨?_, ?_⟩
  · unfold upd
    rw [List.pairwise_map]
    refine M.up.imp ?_
    intro a b hab
    have h1 : ∀ x : Nat × Int, (if x.1 = id then (id, v) else x).1 = x.1 := by
      intro x; by_cases c : x.1 = id
      · rw [if_pos c]; exact c.symm
      · rw [if_neg c]
    rw [h1, h1]; exact hab
  · rw [ent_map_upd]; exact M.perm.map _
theorem Maps.drop {hm : Nat → Nat} {S : List Sl} {L : List (Nat × Int)} (M : Maps S L) (G : Good hm S) {p id : Nat} (hp : p < S.length) (hf : (slAt S p).1 = 1 ∧ (slAt S p).2.1 = id) : Maps (S.set p (2, 0, 0)) (del L id) := by
  rw [map_set hm G (2, 0, 0) hp hf]
  refine ⟨M.up.filter _, ?_⟩
  rw [ent_map_del]; exact M.perm.filter _
theorem Maps.nil (N : Nat) : Maps (List.replicate N (0, 0, 0)) [] := by
  refine ⟨List.Pairwise.nil, ?_⟩
  have : ent (List.replicate N (0, 0, 0)) = [] := by
    unfold ent
    rw [List.filter_replicate]; simp
  rw [this]
/-- What is found of a held id. -/
theorem look_of {L : List (Nat × Int)} (h : L.Pairwise fun a b => a.1 < b.1) {id : Nat} {v : Int} : look L id = some v ↔ (id, v) ∈ L := by
  unfold look
  constructor
  · intro e
    rw [Option.map_eq_some_iff] at e
    obtain ⟨x, hx, rfl⟩ := e
    have h1 := List.find?_some hx
    have h2 := List.mem_of_find?_eq_some hx
    have : x.1 = id := by simpa using h1
    rw [← this]; exact h2
  · intro hm
    induction L with
    | nil => simp at hm
    | cons x L ih =>
      rw [List.pairwise_cons] at h
      by_cases c : x.1 = id
      · rw [List.find?_cons_of_pos (by simpa using c)]
        rcases List.mem_cons.1 hm with rfl | hm
        · rfl
        · have := h.1 _ hm; simp only at this; omega
      · rw [List.find?_cons_of_neg (by simpa using c)]
        rcases List.mem_cons.1 hm with rfl | hm
        · exact absurd rfl c
        · exact ih h.2 hm
theorem look_none {L : List (Nat × Int)} {id : Nat} : look L id = none ↔ ∀ x ∈ L, x.1 ≠ id := by
  unfold look
  rw [Option.map_eq_none_iff, List.find?_eq_none]
  simp
theorem Maps.found {S : List Sl} {L : List (Nat × Int)} (M : Maps S L) {p id : Nat} (hp : p < S.length) (hf : (slAt S p).1 = 1 ∧ (slAt S p).2.1 = id) : look L id = some (slAt S p).2.2 := by
  rw [look_of M.up]
  refine M.perm.symm.subset (mem_ent.2 ⟨p, hp, ?_⟩)
  obtain ⟨h1, rfl⟩ := hf
  exact Prod.ext h1 rfl
theorem Maps.absent {S : List Sl} {L : List (Nat × Int)} (M : Maps S L) {id : Nat} (h : ∀ p, p < S.length → ¬ ((slAt S p).1 = 1 ∧ (slAt S p).2.1 = id)) : look L id = none := look_none.2 (M.no h)
/-- Counts: what is full, what is a grave; there is an empty one. -/
def graves (S : List Sl) : Nat := S.countP fun x => x.1 == 2
theorem ent_length (S : List Sl) : (ent S).length = S.countP fun x => x.1 == 1 := by unfold ent; rw [List.length_map, List.countP_eq_length_filter]
theorem gap {S : List Sl} (h2 : ∀ x ∈ S, x.1 ≤ 2) (h : (ent S).length + graves S < S.length) : ∃ p, p < S.length ∧ (slAt S p).1 = 0 := by
  have hex : ∃ x ∈ S, x.1 = 0 := by
    rw [ent_length] at h
    unfold graves at h
    induction S with
    | nil => simp at h
    | cons x S ih =>
      rw [List.countP_cons, List.countP_cons, List.length_cons] at h
      by_cases c : x.1 = 0
      · exact ⟨x, List.mem_cons_self .., c⟩
      · have hx := h2 x (List.mem_cons_self ..)
        have : (if (x.1 == 1) = true then 1 else 0) + (if (x.1 == 2) = true then 1 else 0) = 1 := by
          rcases (by omega : x.1 = 1 ∨ x.1 = 2) with e | e <;> rw [e] <;> simp
        obtain ⟨y, hy, e⟩ := ih (fun y hy => h2 y (List.mem_cons_of_mem _ hy)) (by omega)
        exact ⟨y, List.mem_cons_of_mem _ hy, e⟩
  obtain ⟨x, hx, e⟩ := hex
  obtain ⟨p, hp, rfl⟩ := List.mem_iff_getElem.1 hx
  refine ⟨p, hp, ?_⟩
  have : slAt S p = S[p] := by simp [slAt, hp]
  rw [this]; exact e
theorem graves_set {S : List Sl} {p : Nat} (hp : p < S.length) (x : Sl) : graves (S.set p x) + (if (slAt S p).1 = 2 then 1 else 0) = graves S + (if x.1 = 2 then 1 else 0) := by
  unfold graves
  rw [set_split hp]
  conv => rhs; rw [self_split hp]
  rw [List.countP_append, List.countP_append, List.countP_cons, List.countP_cons]
  simp only [beq_iff_eq]
  omega
theorem graves_le (S : List Sl) : graves S ≤ S.length := List.countP_le_length
theorem ins_length {L : List (Nat × Int)} {id : Nat} (v : Int) (h : look L id = none) : (ins L id v).length = L.length + 1 := by
  have := (split_perm id L (look_none.1 h)).length_eq
  unfold ins
  simp only [List.length_append, List.length_cons] at this ⊢; omega
theorem upd_length (L : List (Nat × Int)) (id : Nat) (v : Int) : (upd L id v).length = L.length := by simp [upd]
theorem Maps.length {S : List Sl} {L : List (Nat × Int)} (M : Maps S L) : L.length = (ent S).length := M.perm.length_eq
theorem del_length {L : List (Nat × Int)} (h : L.Pairwise fun a b => a.1 < b.1) {id : Nat} {v : Int} (hl : look L id = some v) : (del L id).length + 1 = L.length := by
  rw [look_of h] at hl
  induction L with
  | nil => simp at hl
  | cons x L ih =>
    rw [List.pairwise_cons] at h
    unfold del
    by_cases c : x.1 = id
    · rw [List.filter_cons_of_neg (by simpa using c)]
      have : L.filter (fun x => decide (x.1 ≠ id)) = L := by
        rw [List.filter_eq_self]
        intro y hy
        have := h.1 y hy
        simp; omega
      rw [this]; rfl
    · rw [List.filter_cons_of_pos (by simpa using c)]
      rcases List.mem_cons.1 hl with rfl | hl
      · exact absurd rfl c
      · have := ih h.2 hl
        unfold del at this
        simp only [List.length_cons]; omega
/-- Two lists by rising ids that hold the same are the same. -/
theorem up_eq {A B : List (Nat × Int)} (hA : A.Pairwise fun a b => a.1 < b.1) (hB : B.Pairwise fun a b => a.1 < b.1) (h : A.Perm B) : A = B :=
  List.Perm.eq_of_pairwise (fun a b _ _ h1 h2 => by omega) hA hB h
end Go.Proofs.YtffnjnnmlfgngaaGreat.Ix
namespace Go.Proofs.YtffnjnnmlfgngaaGreat
abbrev It := Int × Int
def aheadB (lt : Int → Int → Bool) (xv xh yv yh : Int) : Bool := lt xv yv || (!lt yv xv && decide (xh < yh))
def itAt (L : List It) (i : Nat) : It := L.getD i (0, 0)
def aheadL (lt : Int → Int → Bool) (L : List It) (i k : Nat) : Bool := aheadB lt (itAt L i).1 (itAt L i).2 (itAt L k).1 (itAt L k).2
def swapL (L : List It) (i k : Nat) : List It := (L.set i (itAt L k)).set k (itAt L i)
theorem swapL_length (L : List It) (i k : Nat) : (swapL L i k).length = L.length := by simp [swapL]
/-- The way up. -/
def upF (lt : Int → Int → Bool) : Nat → List It → Nat → List It × Nat
  | 0, L, at_ => (L, at_)
  | fuel + 1, L, at_ => if at_ > 0 && aheadL lt L at_ ((at_ - 1) / 2) then upF lt fuel (swapL L at_ ((at_ - 1) / 2)) ((at_ - 1) / 2) else (L, at_)
/-- Which of the item at a place and the first j of its two children is ahead of the others. -/
def lstF (lt : Int → Int → Bool) (L : List It) (at_ : Nat) : Nat → Nat
  | 0 => at_
  | j + 1 => if 2 * at_ + 1 + j < L.length && aheadL lt L (2 * at_ + 1 + j) (lstF lt L at_ j) then 2 * at_ + 1 + j else lstF lt L at_ j
def downF (lt : Int → Int → Bool) : Nat → List It → Nat → List It
  | 0, L, _ => L
  | fuel + 1, L, at_ => if lstF lt L at_ 2 = at_ then L else downF lt fuel (swapL L at_ (lstF lt L at_ 2)) (lstF lt L at_ 2)
def settleF (lt : Int → Int → Bool) (L : List It) (at_ : Nat) : List It :=
  downF lt (L.length - (upF lt at_ L at_).2) (upF lt at_ L at_).1 (upF lt at_ L at_).2
theorem upF_stop {lt : Int → Int → Bool} {L : List It} {n : Nat} (h : (decide (n > 0) && aheadL lt L n ((n - 1) / 2)) = false) : upF lt n L n = (L, n) := by
  cases n with
  | zero => rfl
  | succ n => simp only [upF]; rw [if_neg (by rw [h]; simp)]
/-- More fuel than the place changes nothing. -/
theorem upF_fuel (lt : Int → Int → Bool) : ∀ (a b : Nat) (L : List It) (n : Nat), n ≤ a → n ≤ b → upF lt a L n = upF lt b L n := by
  intro a
  induction a with
  | zero =>
    intro b L n ha hb
    have : n = 0 := by omega
    subst this
    cases b <;> simp [upF]
  | succ a ih =>
    intro b L n ha hb
    cases b with
    | zero => have : n = 0 := by omega
              subst this; simp [upF]
    | succ b =>
      simp only [upF]
      split
      · rename_i h
        have : n > 0 := by simp at h; exact h.1
        exact ih b _ _ (by omega) (by omega)
      · rfl
theorem upF_go {lt : Int → Int → Bool} {L : List It} {n : Nat} (h0 : 0 < n) (h : aheadL lt L n ((n - 1) / 2) = true) : upF lt n L n = upF lt ((n - 1) / 2) (swapL L n ((n - 1) / 2)) ((n - 1) / 2) := by
  obtain ⟨m, rfl⟩ : ∃ m, n = m + 1 := ⟨n - 1, by omega⟩
  have e : upF lt (m + 1) L (m + 1) = upF lt m (swapL L (m + 1) ((m + 1 - 1) / 2)) ((m + 1 - 1) / 2) := by
    rw [upF, if_pos (by rw [h]; simp)]
  rw [e]
  exact upF_fuel lt _ _ _ _ (by omega) (by omega)
theorem downF_stop {lt : Int → Int → Bool} {L : List It} {n f : Nat} (h : lstF lt L n 2 = n) : downF lt f L n = L := by
  cases f with
  | zero => rfl
  | succ f => rw [downF, if_pos h]
theorem lstF_ge (lt : Int → Int → Bool) (L : List It) (n j : Nat) : n ≤ lstF lt L n j := by
  induction j with
  | zero => simp [lstF]
  | succ j ih => rw [lstF]; split <;> omega
theorem lstF_lt (lt : Int → Int → Bool) (L : List It) (n j : Nat) (hn : n < L.length) : lstF lt L n j < L.length := by
  induction j with
  | zero => simpa [lstF] using hn
  | succ j ih => rw [lstF]; split
                 · rename_i h; simp at h; exact h.1
                 · exact ih
theorem downF_fuel (lt : Int → Int → Bool) : ∀ (a b : Nat) (L : List It) (n : Nat), n < L.length → L.length - n ≤ a → L.length - n ≤ b → downF lt a L n = downF lt b L n := by
  intro a
  induction a with
  | zero => intro b L n h0 ha hb; omega
  | succ a ih =>
    intro b L n h0 ha hb
    cases b with
    | zero => omega
    | succ b =>
      simp only [downF]
      split
      · rfl
      · rename_i h
        have h1 := lstF_ge lt L n 2
        have h2 := lstF_lt lt L n 2 h0
        have h3 : n < lstF lt L n 2 := by omega
        exact ih b _ _ (by rw [swapL_length]; exact h2) (by rw [swapL_length]; omega) (by rw [swapL_length]; omega)
theorem downF_go {lt : Int → Int → Bool} {L : List It} {n : Nat} (h0 : n < L.length) (h : lstF lt L n 2 ≠ n) :
    downF lt (L.length - n) L n = downF lt ((swapL L n (lstF lt L n 2)).length - lstF lt L n 2) (swapL L n (lstF lt L n 2)) (lstF lt L n 2) := by
  obtain ⟨m, hm⟩ : ∃ m, L.length - n = m + 1 := ⟨L.length - n - 1, by omega⟩
  have h1 := lstF_ge lt L n 2
  have h2 := lstF_lt lt L n 2 h0
  rw [hm, downF, if_neg h]
  exact downF_fuel lt _ _ _ _ (by rw [swapL_length]; exact h2) (by rw [swapL_length]; omega) (by rw [swapL_length]; omega)
/-- The children at whose places nothing lies do not matter. -/
theorem lstF_past {lt : Int → Int → Bool} {L : List It} {n j : Nat} (h : L.length ≤ 2 * n + 1 + j) : lstF lt L n (j + 1) = lstF lt L n j := by
  rw [lstF, if_neg (by simp; omega)]
theorem lstF_step {lt : Int → Int → Bool} {L : List It} {n j : Nat} (h : 2 * n + 1 + j < L.length) : lstF lt L n (j + 1) = if aheadL lt L (2 * n + 1 + j) (lstF lt L n j) then 2 * n + 1 + j else lstF lt L n j := by
  rw [lstF]; simp [h]
/-- f says where each handle's item lies. -/
structure PlaceOf (f : Int → Option Int) (L : List It) : Prop where
  here : ∀ n, n < L.length → f (itAt L n).2 = some (n : Int)
  gone : ∀ h, (∀ n, n < L.length → (itAt L n).2 ≠ h) → f h = none
theorem PlaceOf.inj {f : Int → Option Int} {L : List It} (h : PlaceOf f L) {n m : Nat} (hn : n < L.length) (hm : m < L.length) (e : (itAt L n).2 = (itAt L m).2) : n = m := by
  have h1 := h.here n hn
  rw [e, h.here m hm] at h1
  simp at h1; omega
theorem itAt_set (L : List It) (i n : Nat) (x : It) (hi : i < L.length) : itAt (L.set i x) n = if n = i then x else itAt L n := by
  unfold itAt
  simp only [List.getD_eq_getElem?_getD, List.getElem?_set]
  by_cases h : n = i
  · subst h; simp [hi]
  · rw [if_neg (fun e => h e.symm), if_neg h]
theorem itAt_swap {L : List It} {i k : Nat} (hi : i < L.length) (hk : k < L.length) (n : Nat) : itAt (swapL L i k) n = if n = k then itAt L i else if n = i then itAt L k else itAt L n := by
  unfold swapL
  rw [itAt_set _ _ _ _ (by simpa using hk), itAt_set _ _ _ _ hi]
theorem PlaceOf.swap {f : Int → Option Int} {L : List It} (h : PlaceOf f L) {i k : Nat} (hi : i < L.length) (hk : k < L.length) (hik : i ≠ k) :
    PlaceOf (fun j => if j = (itAt L i).2 then some (k : Int) else if j = (itAt L k).2 then some (i : Int) else f j) (swapL L i k) := by
  constructor
  · intro n hn
    rw [swapL_length] at hn
    rw [itAt_swap hi hk]
    by_cases h1 : n = k
    · subst h1; simp
    · rw [if_neg h1]
      by_cases h2 : n = i
      · subst h2
        rw [if_pos rfl]
        rw [if_neg (fun e => h1 (h.inj hk hi e).symm), if_pos rfl]
      · rw [if_neg h2]
        rw [if_neg (fun e => h2 (h.inj hn hi e)), if_neg (fun e => h1 (h.inj hn hk e))]
        exact h.here n hn
  · intro j hj
    have a1 := hj k (by rw [swapL_length]; exact hk)
    have a2 := hj i (by rw [swapL_length]; exact hi)
    rw [itAt_swap hi hk, if_pos rfl] at a1
    rw [itAt_swap hi hk, if_neg hik, if_pos rfl] at a2
    rw [if_neg (fun e => a1 e.symm), if_neg (fun e => a2 e.symm)]
    apply h.gone
    intro n hn
    have := hj n (by rw [swapL_length]; exact hn)
    rw [itAt_swap hi hk] at this
    by_cases h1 : n = k
    · subst h1; exact fun e => a2 e
    · by_cases h2 : n = i
      · subst h2; exact fun e => a1 e
      · rw [if_neg h1, if_neg h2] at this; exact this
end Go.Proofs.YtffnjnnmlfgngaaGreat
namespace Go.Proofs.YtffnjnnmlfgngaaGreat
theorem itAt_get {L : List It} {i : Nat} (h : i < L.length) : itAt L i = L[i] := by simp [itAt, h]
theorem itAt_mem {L : List It} {i : Nat} (h : i < L.length) : itAt L i ∈ L := by rw [itAt_get h]; exact List.getElem_mem h
theorem swapL_perm {L : List It} {i k : Nat} (hi : i < L.length) (hk : k < L.length) : (swapL L i k).Perm L := by
  have h := Array.swap_perm (xs := L.toArray) (i := i) (j := k) (by simpa using hi) (by simpa using hk)
  have h2 := h.toList
  have e : (L.toArray.swap i k (by simpa using hi) (by simpa using hk)).toList = swapL L i k := by
    unfold swapL
    rw [itAt_get hi, itAt_get hk]
    simp [Array.swap]
  rw [e] at h2
  simpa using h2
theorem upF_lt (lt : Int → Int → Bool) : ∀ (f : Nat) (L : List It) (n : Nat), n < L.length → (upF lt f L n).2 < L.length := by
  intro f
  induction f with
  | zero => intro L n h; exact h
  | succ f ih =>
    intro L n h
    simp only [upF]
    split
    · have := ih (swapL L n ((n - 1) / 2)) ((n - 1) / 2) (by rw [swapL_length]; omega)
      rw [swapL_length] at this; exact this
    · exact h
theorem upF_perm (lt : Int → Int → Bool) : ∀ (f : Nat) (L : List It) (n : Nat), n < L.length → ((upF lt f L n).1).Perm L := by
  intro f
  induction f with
  | zero => intro L n h; exact List.Perm.refl _
  | succ f ih =>
    intro L n h
    simp only [upF]
    split
    · exact (ih (swapL L n ((n - 1) / 2)) ((n - 1) / 2) (by rw [swapL_length]; omega)).trans (swapL_perm h (by omega))
    · exact List.Perm.refl _
theorem downF_perm (lt : Int → Int → Bool) : ∀ (f : Nat) (L : List It) (n : Nat), n < L.length → (downF lt f L n).Perm L := by
  intro f
  induction f with
  | zero => intro L n h; exact List.Perm.refl _
  | succ f ih =>
    intro L n h
    simp only [downF]
    split
    · exact List.Perm.refl _
    · have h2 := lstF_lt lt L n 2 h
      exact (ih (swapL L n (lstF lt L n 2)) (lstF lt L n 2) (by rw [swapL_length]; exact h2)).trans (swapL_perm h h2)
theorem settleF_perm (lt : Int → Int → Bool) {L : List It} {n : Nat} (h : n < L.length) : (settleF lt L n).Perm L := by
  unfold settleF
  have hp := upF_perm lt n L n h
  exact (downF_perm lt _ _ _ (by rw [hp.length_eq]; exact upF_lt lt n L n h)).trans hp
theorem settleF_length (lt : Int → Int → Bool) {L : List It} {n : Nat} (h : n < L.length) : (settleF lt L n).length = L.length := (settleF_perm lt h).length_eq
/-- What holds of all items holds of all of a heap that has the same. -/
theorem all_perm {L M : List It} (h : L.Perm M) {p : It → Prop} (hp : ∀ i, i < M.length → p (itAt M i)) : ∀ i, i < L.length → p (itAt L i) := by
  intro i hi
  have hm := h.mem_iff.1 (itAt_mem hi)
  obtain ⟨j, hj, e⟩ := List.getElem_of_mem hm
  have := hp j hj
  rwa [itAt_get hj, e] at this
theorem itAt_append_lt {L : List It} {x : It} {i : Nat} (h : i < L.length) : itAt (L ++ [x]) i = itAt L i := by
  simp [itAt, List.getElem?_append_left h]
theorem itAt_append_eq {L : List It} {x : It} : itAt (L ++ [x]) L.length = x := by simp [itAt]
theorem PlaceOf.push {f : Int → Option Int} {L : List It} (h : PlaceOf f L) {v x : Int} (hx : ∀ i, i < L.length → (itAt L i).2 ≠ x) :
    PlaceOf (fun j => if j = x then some (L.length : Int) else f j) (L ++ [(v, x)]) := by
  constructor
  · intro n hn
    simp only [List.length_append, List.length_cons, List.length_nil, Nat.zero_add] at hn
    by_cases h1 : n = L.length
    · subst h1; rw [itAt_append_eq]; simp
    · rw [itAt_append_lt (by omega), if_neg (hx n (by omega))]
      exact h.here n (by omega)
  · intro j hj
    have h1 := hj L.length (by simp)
    rw [itAt_append_eq] at h1
    rw [if_neg (fun e => h1 e.symm)]
    apply h.gone
    intro n hn
    have := hj n (by simp; omega)
    rwa [itAt_append_lt hn] at this
theorem all_append {L : List It} {x : It} {p : It → Prop} (hp : ∀ i, i < L.length → p (itAt L i)) (hx : p x) : ∀ i, i < (L ++ [x]).length → p (itAt (L ++ [x]) i) := by
  intro i hi
  simp only [List.length_append, List.length_cons, List.length_nil, Nat.zero_add] at hi
  by_cases h1 : i = L.length
  · subst h1; rw [itAt_append_eq]; exact hx
  · rw [itAt_append_lt (by omega)]; exact hp i (by omega)
/-- The items without the one at a place. -/
def takeF (lt : Int → Int → Bool) (L : List It) (at_ : Nat) : List It :=
  let last := L.length - 1
  let L2 := (if at_ = last then L else swapL L at_ last).take last
  if at_ < last then settleF lt L2 at_ else L2
theorem itAt_take {L : List It} {m i : Nat} (h : i < m) : itAt (L.take m) i = itAt L i := by simp [itAt, h]
theorem PlaceOf.pop {f : Int → Option Int} {L : List It} (h : PlaceOf f L) {m : Nat} (hm : L.length = m + 1) :
    PlaceOf (fun j => if j = (itAt L m).2 then none else f j) (L.take m) := by
  constructor
  · intro n hn
    have hn' : n < m := by simp at hn; omega
    rw [itAt_take hn', if_neg (fun e => by have := h.inj (by omega) (by omega) e; omega)]
    exact h.here n (by omega)
  · intro j hj
    by_cases e : j = (itAt L m).2
    · rw [if_pos e]
    · rw [if_neg e]
      apply h.gone
      intro n hn
      by_cases h1 : n = m
      · subst h1; exact fun e2 => e e2.symm
      · have := hj n (by simp; omega)
        rwa [itAt_take (by omega)] at this
end Go.Proofs.YtffnjnnmlfgngaaGreat
namespace Go.Proofs.YtffnjnnmlfgngaaGreat
/-- lt is a strict weak order. -/
structure Swo (lt : Int → Int → Bool) : Prop where
  asymm : ∀ x y, lt x y = true → lt y x = false
  split : ∀ x y z, lt x z = true → lt x y = true ∨ lt y z = true
/-- y is not ahead of x. -/
def leI (lt : Int → Int → Bool) (x y : It) : Prop := aheadB lt y.1 y.2 x.1 x.2 = false
theorem leI_iff {lt : Int → Int → Bool} {x y : It} : leI lt x y ↔ lt y.1 x.1 = false ∧ (lt x.1 y.1 = true ∨ x.2 ≤ y.2) := by
  unfold leI aheadB
  cases h1 : lt y.1 x.1 <;> cases h2 : lt x.1 y.1 <;> simp
theorem leI_trans {lt : Int → Int → Bool} (hs : Swo lt) {x y z : It} (h1 : leI lt x y) (h2 : leI lt y z) : leI lt x z := by
  rw [leI_iff] at h1 h2 ⊢
  obtain ⟨a1, a2⟩ := h1
  obtain ⟨b1, b2⟩ := h2
  have c1 : lt z.1 x.1 = false := by
    cases h : lt z.1 x.1 with
    | false => rfl
    | true => rcases hs.split _ y.1 _ h with h' | h'
              · rw [b1] at h'; cases h'
              · rw [a1] at h'; cases h'
  refine ⟨c1, ?_⟩
  rcases a2 with a2 | a2
  · rcases hs.split _ z.1 _ a2 with h' | h'
    · exact .inl h'
    · rw [b1] at h'; cases h'
  · rcases b2 with b2 | b2
    · rcases hs.split _ x.1 _ b2 with h' | h'
      · rw [a1] at h'; cases h'
      · exact .inl h'
    · exact .inr (by omega)
theorem leI_of_ahead {lt : Int → Int → Bool} (hs : Swo lt) {x y : It} (h : aheadB lt x.1 x.2 y.1 y.2 = true) : leI lt x y := by
  rw [leI_iff]
  unfold aheadB at h
  cases h1 : lt x.1 y.1 with
  | true => exact ⟨hs.asymm _ _ h1, .inl rfl⟩
  | false => rw [h1] at h; simp at h; exact ⟨h.1, .inr (by omega)⟩
theorem leI_refl {lt : Int → Int → Bool} (hs : Swo lt) (x : It) : leI lt x x := by
  rw [leI_iff]
  refine ⟨?_, .inr (by omega)⟩
  cases h : lt x.1 x.1 with
  | false => rfl
  | true => have := hs.asymm _ _ h; rw [h] at this; cases this
/-- The item at i is not ahead of the one above it. -/
def Edge (lt : Int → Int → Bool) (L : List It) (i : Nat) : Prop := leI lt (itAt L ((i - 1) / 2)) (itAt L i)
def Heaped (lt : Int → Int → Bool) (L : List It) : Prop := ∀ i, 0 < i → i < L.length → Edge lt L i
/-- All is in order but around n: what stands below n is not ahead of what stands above n. -/
structure Around (lt : Int → Int → Bool) (L : List It) (n : Nat) : Prop where
  far : ∀ i, 0 < i → i < L.length → i ≠ n → (i - 1) / 2 ≠ n → Edge lt L i
  near : ∀ i, i < L.length → 0 < i → (i - 1) / 2 = n → 0 < n → leI lt (itAt L ((n - 1) / 2)) (itAt L i)
/-- All is in order but below n. -/
structure Below_ (lt : Int → Int → Bool) (L : List It) (n : Nat) : Prop where
  far : ∀ i, 0 < i → i < L.length → (i - 1) / 2 ≠ n → Edge lt L i
  near : ∀ i, i < L.length → 0 < i → (i - 1) / 2 = n → 0 < n → leI lt (itAt L ((n - 1) / 2)) (itAt L i)
theorem Around.up {lt : Int → Int → Bool} (hs : Swo lt) {L : List It} {n : Nat} (h : Around lt L n) (hn : n < L.length) (h0 : 0 < n) (ha : aheadL lt L n ((n - 1) / 2) = true) :
    Around lt (swapL L n ((n - 1) / 2)) ((n - 1) / 2) := by
  have hp : (n - 1) / 2 < L.length := by omega
  have hg := itAt_swap hn hp
  have hle : leI lt (itAt L n) (itAt L ((n - 1) / 2)) := leI_of_ahead hs ha
  constructor
  · intro i h1 h2 h3 h4
    rw [swapL_length] at h2
    unfold Edge
    rw [hg, hg]
    rw [if_neg h4, if_neg h3]
    by_cases e : (i - 1) / 2 = n
    · rw [if_pos e, if_neg (by omega)]
      exact h.near i h2 h1 e h0
    · rw [if_neg e]
      have hin : i ≠ n := by intro e2; subst e2; exact h4 rfl
      rw [if_neg hin]
      exact h.far i h1 h2 hin e
  · intro i h2 h1 e hp0
    rw [swapL_length] at h2
    rw [hg, hg]
    rw [if_neg (by omega : ¬ (((n - 1) / 2 - 1) / 2 = (n - 1) / 2)), if_neg (by omega : ¬ (((n - 1) / 2 - 1) / 2 = n)), if_neg (by omega : ¬ i = (n - 1) / 2)]
    have hE := h.far ((n - 1) / 2) hp0 hp (by omega) (by omega)
    by_cases e2 : i = n
    · rw [if_pos e2]; exact hE
    · rw [if_neg e2]
      have hEi := h.far i h1 h2 e2 (by omega)
      unfold Edge at hEi hE
      rw [e] at hEi
      exact leI_trans hs hE hEi
theorem up_below {lt : Int → Int → Bool} (hs : Swo lt) : ∀ (f : Nat) (L : List It) (n : Nat), n < L.length → n ≤ f → Around lt L n → Below_ lt (upF lt f L n).1 (upF lt f L n).2 := by
  intro f
  induction f with
  | zero =>
    intro L n hn hf h
    have : n = 0 := by omega
    subst this
    exact ⟨fun i h1 h2 h3 => h.far i h1 h2 (by omega) h3, h.near⟩
  | succ f ih =>
    intro L n hn hf h
    simp only [upF]
    split
    · rename_i hc
      have h0 : 0 < n := by simp at hc; exact hc.1
      have ha : aheadL lt L n ((n - 1) / 2) = true := by simp at hc; exact hc.2
      exact ih _ _ (by rw [swapL_length]; omega) (by omega) (h.up hs hn h0 ha)
    · rename_i hc
      refine ⟨fun i h1 h2 h3 => ?_, h.near⟩
      by_cases e : i = n
      · subst e
        unfold Edge leI
        have : 0 < i := h1
        simp only [gt_iff_lt, this, decide_true, Bool.true_and, Bool.not_eq_true] at hc
        exact hc
      · exact h.far i h1 h2 e h3
theorem lst_cases (lt : Int → Int → Bool) (L : List It) (n : Nat) : (lstF lt L n 2 = n ∨ lstF lt L n 2 = 2 * n + 1 ∨ lstF lt L n 2 = 2 * n + 2) := by
  have h1 : lstF lt L n 1 = n ∨ lstF lt L n 1 = 2 * n + 1 := by
    rw [lstF, lstF]; split
    · right; omega
    · left; rfl
  rw [lstF]
  split
  · right; right; omega
  · omega
theorem lst_least {lt : Int → Int → Bool} (hs : Swo lt) {L : List It} {n : Nat} : ∀ i, i < L.length → (i = n ∨ i = 2 * n + 1 ∨ i = 2 * n + 2) → leI lt (itAt L (lstF lt L n 2)) (itAt L i) := by
  have step : ∀ j i, 2 * n + 1 + j < L.length → leI lt (itAt L (lstF lt L n j)) (itAt L i) → leI lt (itAt L (lstF lt L n (j + 1))) (itAt L i) ∧ leI lt (itAt L (lstF lt L n (j + 1))) (itAt L (2 * n + 1 + j)) := by
    intro j i hj h
    rw [lstF_step hj]
    split
    · rename_i ha
      exact ⟨leI_trans hs (leI_of_ahead hs ha) h, leI_refl hs _⟩
    · rename_i ha
      refine ⟨h, ?_⟩
      simp only [Bool.not_eq_true] at ha
      exact ha
  have base : leI lt (itAt L (lstF lt L n 0)) (itAt L n) := by rw [lstF]; exact leI_refl hs _
  intro i hi hc
  by_cases h1 : 2 * n + 1 < L.length
  · have s1 := step 0 n h1 base
    by_cases h2 : 2 * n + 2 < L.length
    · have s2 := step 1 n h2 s1.1
      have s3 := step 1 (2 * n + 1) h2 s1.2
      rcases hc with rfl | rfl | rfl
      · exact s2.1
      · exact s3.1
      · exact s2.2
    · rw [lstF_past (by omega)]
      rcases hc with rfl | rfl | rfl
      · exact s1.1
      · exact s1.2
      · omega
  · rw [lstF_past (by omega), lstF_past (by omega)]
    rcases hc with rfl | rfl | rfl
    · exact base
    · omega
    · omega
theorem Below_.down {lt : Int → Int → Bool} (hs : Swo lt) {L : List It} {n : Nat} (h : Below_ lt L n) (hn : n < L.length) (hl : lstF lt L n 2 ≠ n) : Below_ lt (swapL L n (lstF lt L n 2)) (lstF lt L n 2) := by
  have hll := lstF_lt lt L n 2 hn
  have hc := lst_cases lt L n
  have least := lst_least hs (L := L) (n := n)
  obtain ⟨l, hl'⟩ : ∃ l, l = lstF lt L n 2 := ⟨_, rfl⟩
  rw [← hl'] at hl hll hc least ⊢
  have hg := itAt_swap hn hll
  constructor
  · intro i h1 h2 h3
    rw [swapL_length] at h2
    unfold Edge
    rw [hg, hg, if_neg h3]
    by_cases e : (i - 1) / 2 = n
    · rw [if_pos e]
      by_cases e2 : i = l
      · rw [if_pos e2]; exact least n hn (.inl rfl)
      · rw [if_neg e2, if_neg (by omega)]
        exact least i h2 (by omega)
    · rw [if_neg e, if_neg (by omega : ¬ i = l)]
      by_cases e3 : i = n
      · subst e3
        rw [if_pos rfl]
        exact h.near l hll (by omega) (by omega) h1
      · rw [if_neg e3]
        exact h.far i h1 h2 e
  · intro i h2 h1 e h0
    rw [swapL_length] at h2
    rw [hg, hg]
    rw [if_neg (by omega : ¬ ((l - 1) / 2 = l)), if_pos (by omega : (l - 1) / 2 = n), if_neg (by omega : ¬ i = l), if_neg (by omega : ¬ i = n)]
    have := h.far i h1 h2 (by omega)
    unfold Edge at this
    rw [e] at this
    exact this
theorem down_heaped {lt : Int → Int → Bool} (hs : Swo lt) : ∀ (f : Nat) (L : List It) (n : Nat), n < L.length → L.length - n ≤ f → Below_ lt L n → Heaped lt (downF lt f L n) := by
  intro f
  induction f with
  | zero => intro L n hn hf; omega
  | succ f ih =>
    intro L n hn hf h
    simp only [downF]
    split
    · rename_i e
      intro i h1 h2
      by_cases e2 : (i - 1) / 2 = n
      · have := lst_least hs (L := L) (n := n) i h2 (by omega)
        rw [e] at this
        unfold Edge; rw [e2]; exact this
      · exact h.far i h1 h2 e2
    · rename_i e
      have h1 := lstF_ge lt L n 2
      have h2 := lstF_lt lt L n 2 hn
      exact ih _ _ (by rw [swapL_length]; exact h2) (by rw [swapL_length]; omega) (h.down hs hn e)
theorem settle_heaped {lt : Int → Int → Bool} (hs : Swo lt) {L : List It} {n : Nat} (hn : n < L.length) (h : Around lt L n) : Heaped lt (settleF lt L n) := by
  unfold settleF
  have hp := (upF_perm lt n L n hn).length_eq
  have h2 := upF_lt lt n L n hn
  exact down_heaped hs _ _ _ (by rw [hp]; exact h2) (by rw [hp]; omega) (up_below hs n L n hn (by omega) h)
theorem push_heaped {lt : Int → Int → Bool} (hs : Swo lt) {L : List It} (h : Heaped lt L) (x : It) : Heaped lt (settleF lt (L ++ [x]) L.length) := by
  refine settle_heaped hs (by simp) ⟨?_, ?_⟩
  · intro i h1 h2 h3 h4
    simp only [List.length_append, List.length_cons, List.length_nil, Nat.zero_add] at h2
    unfold Edge
    rw [itAt_append_lt (by omega), itAt_append_lt (by omega)]
    exact h i h1 (by omega)
  · intro i h1 h2 h3 h4
    simp only [List.length_append, List.length_cons, List.length_nil, Nat.zero_add] at h1
    omega
theorem take_heaped {lt : Int → Int → Bool} (hs : Swo lt) {L : List It} (h : Heaped lt L) {n : Nat} (hn : n < L.length) : Heaped lt (takeF lt L n) := by
  obtain ⟨m, hm⟩ : ∃ m, L.length = m + 1 := ⟨L.length - 1, by omega⟩
  have hl : ((if n = m then L else swapL L n m).take m).length = m := by split <;> simp [swapL_length, hm]
  unfold takeF
  dsimp only
  rw [hm, Nat.add_sub_cancel]
  split
  · rename_i hnm
    have hne : n ≠ m := by omega
    refine settle_heaped hs (by rw [hl]; exact hnm) ⟨?_, ?_⟩
    · intro i h1 h2 h3 h4
      rw [hl] at h2
      unfold Edge
      rw [itAt_take h2, itAt_take (by omega), if_neg hne, itAt_swap hn (by omega), itAt_swap hn (by omega), if_neg (by omega), if_neg h4, if_neg (by omega), if_neg h3]
      exact h i h1 (by omega)
    · intro i h1 h2 h3 h4
      rw [hl] at h1
      rw [itAt_take h1, itAt_take (by omega), if_neg hne, itAt_swap hn (by omega), itAt_swap hn (by omega), if_neg (by omega), if_neg (by omega), if_neg (by omega), if_neg (by omega)]
      have a := h i h2 (by omega)
      unfold Edge at a
      rw [h3] at a
      exact leI_trans hs (h n h4 hn) a
  · rename_i hnm
    have e : n = m := by omega
    rw [if_pos e]
    intro i h1 h2
    have h2' : i < m := by simp at h2; omega
    unfold Edge
    rw [itAt_take h2', itAt_take (by omega)]
    exact h i h1 (by omega)
/-- The first item is ahead of all. -/
theorem heaped_least {lt : Int → Int → Bool} (hs : Swo lt) {L : List It} (h : Heaped lt L) : ∀ i, i < L.length → leI lt (itAt L 0) (itAt L i) := by
  intro i
  induction i using Nat.strongRecOn with
  | _ i ih =>
    intro hi
    by_cases h0 : i = 0
    · subst h0; exact leI_refl hs _
    · exact leI_trans hs (ih ((i - 1) / 2) (by omega) (by omega)) (h i (by omega) hi)
theorem heaped_nil (lt : Int → Int → Bool) : Heaped lt [] := fun i _ h => by simp at h
end Go.Proofs.YtffnjnnmlfgngaaGreat
namespace Go.Proofs.YtffnjnnmlfgngaaGreat.Du
open Go.RowKit
theorem encD_ex : ∃ e : Int → Int × Int, ∀ x, e x = (x / 4294967296, x % 4294967296) := ⟨_, fun _ => rfl⟩
noncomputable def encD : Int → Int × Int := Classical.choose encD_ex
theorem encD_eq (x : Int) : encD x = (x / 4294967296, x % 4294967296) := Classical.choose_spec encD_ex x
/-- The tick and the id of what a number stands for. -/
noncomputable def dU (x : Int) : Int := (encD x).1
noncomputable def dI (x : Int) : Int := (encD x).2
/-- The number of a tick and an id. -/
def dueN (u i : Int) : Int := u * 4294967296 + i
theorem dU_n {u i : Int} (h1 : 0 ≤ i) (h2 : i < 4294967296) : dU (dueN u i) = u := by
  unfold dU dueN; rw [encD_eq]; simp only; omega
theorem dI_n {u i : Int} (h1 : 0 ≤ i) (h2 : i < 4294967296) : dI (dueN u i) = i := by
  unfold dI dueN; rw [encD_eq]; simp only; omega
theorem due_lt (x y : Int) : (x < y) ↔ (dU x < dU y ∨ (dU x = dU y ∧ dI x < dI y)) := by
  unfold dU dI; rw [encD_eq, encD_eq]; simp only; omega
/-- Row arr of cells has the items L. -/
def Cells3 (arr : Array Value) (L : List It) : Prop := ∀ i, i < L.length → arr[i * 3]? = some (.int .i64 (dU (itAt L i).1)) ∧ arr[i * 3 + 1]? = some (.int .u32 (dI (itAt L i).1)) ∧ arr[i * 3 + 2]? = some (.int .i64 (itAt L i).2)
theorem region_any {P : Program} {ops : Array Oper} {id : Nat} {Q : Exit → Act → World → Prop} {a : Act} {w : World} (hm : P.follows .mixedOrders = true)
    (h : wpAny P .any ops Q ops.size (Array.replicate ops.size false) a w.drew) : (Code.region id ops true).wp P Q a w := wp_region_any hm h
theorem ite_take {c : Prop} [Decidable c] {a b : Prop} (h : c) (ha : a) : if c then a else b := by rw [if_pos h]; exact ha
/-- A builtin append whose run is known, as one operation. -/
theorem wp_append_run {P : Program} {Q : Exit → Act → World → Prop} {K : Act → World → Prop} {o : Oper} {a : Act} {w : World} {s x : Operand} {t : TypeId}
    (ho : o.op = .call { callee := .builtin .append, args := #[s, x], argTypes := #[t, t] }) {v u r : Value} {w' : World} (hs : a.eval s = v) (hx : a.eval x = u)
    (hrun : (Builtin.append_ #[t, t] o.type #[v, u]).run P w = .ok r w') (h : K (a.put o.dst r) w') : o.wp P a w K Q := by
  unfold Oper.wp execOp
  simp only [ho, resolve, invoke, builtin, Sem.run_bind, Sem.run_pure, Result.andThen_ok, List.map_toArray, List.map_cons, List.map_nil, hs, hx, hrun]
  exact h
end Go.Proofs.YtffnjnnmlfgngaaGreat.Du
namespace Go.Proofs.YtffnjnnmlfgngaaGreat
def sw (x : It) : It := (x.2, x.1)
theorem sw_sw (x : It) : sw (sw x) = x := rfl
/-- R holds L's items, turned, in the order of their handles. -/
structure Rel (L R : List It) : Prop where
  perm : (R.map sw).Perm L
  up : R.Pairwise fun x y => x.1 < y.1
def without (L : List It) (i : Nat) : List It := L.take i ++ L.drop (i + 1)
theorem split_at {L : List It} {i : Nat} (h : i < L.length) : L = L.take i ++ itAt L i :: L.drop (i + 1) := by
  rw [itAt_get h, ← List.drop_eq_getElem_cons h, List.take_append_drop]
theorem perm_without {L : List It} {i : Nat} (h : i < L.length) : (itAt L i :: without L i).Perm L := by
  have := split_at h
  refine (List.perm_middle.symm).trans ?_
  rw [← this]
theorem perm_set {L : List It} {i : Nat} (h : i < L.length) (x : It) : (x :: without L i).Perm (L.set i x) := by
  rw [List.set_eq_take_append_cons_drop, if_pos h]
  exact List.perm_middle.symm
theorem perm_take (lt : Int → Int → Bool) {L : List It} {n : Nat} (h : n < L.length) : (itAt L n :: takeF lt L n).Perm L := by
  obtain ⟨m, hm⟩ : ∃ m, L.length = m + 1 := ⟨L.length - 1, by omega⟩
  obtain ⟨L2, h2⟩ : ∃ L2, (if n = m then L else swapL L n m) = L2 := ⟨_, rfl⟩
  have hl2 : L2.length = m + 1 := by rw [← h2]; split <;> simp [swapL_length, hm]
  have hp2 : L2.Perm L := by
    rw [← h2]; split
    · exact List.Perm.refl _
    · exact swapL_perm h (by omega)
  have he : itAt L2 m = itAt L n := by
    rw [← h2]; split
    · rename_i e; rw [e]
    · rename_i e; rw [itAt_swap h (by omega), if_pos rfl]
  have hs := split_at (L := L2) (i := m) (by omega)
  rw [List.drop_eq_nil_of_le (by omega), he] at hs
  have hp : (itAt L n :: L2.take m).Perm L2 := by
    have := (List.perm_middle (a := itAt L n) (l₁ := L2.take m) (l₂ := [])).symm
    rw [List.append_nil] at this
    rw [← hs] at this
    exact this
  have hk : (takeF lt L n).Perm (L2.take m) := by
    unfold takeF
    dsimp only
    rw [hm, Nat.add_sub_cancel, h2]
    split
    · exact settleF_perm lt (by simp; omega)
    · exact List.Perm.refl _
  exact ((hk.cons _).trans hp).trans hp2
theorem Rel.nil : Rel [] [] := ⟨List.Perm.refl _, List.Pairwise.nil⟩
theorem Rel.len {L R : List It} (h : Rel L R) : R.length = L.length := by have := h.perm.length_eq; simpa using this
theorem Rel.lone {L R : List It} (h : Rel L R) {i j : Nat} (hi : i < R.length) (hj : j < R.length) (e : (itAt R i).1 = (itAt R j).1) : i = j := by
  have hp := List.pairwise_iff_getElem.1 h.up
  rw [itAt_get hi, itAt_get hj] at e
  rcases Nat.lt_trichotomy i j with h1 | h1 | h1
  · have := hp i j hi hj h1; omega
  · exact h1
  · have := hp j i hj hi h1; omega
theorem Rel.find {L R : List It} (h : Rel L R) {i : Nat} (hi : i < L.length) : ∃ k, k < R.length ∧ itAt R k = sw (itAt L i) := by
  have hm : itAt L i ∈ R.map sw := h.perm.symm.subset (itAt_mem hi)
  obtain ⟨x, hx, e⟩ := List.mem_map.1 hm
  obtain ⟨k, hk, rfl⟩ := List.getElem_of_mem hx
  exact ⟨k, hk, by rw [itAt_get hk, ← e, sw_sw]⟩
theorem Rel.back {L R : List It} (h : Rel L R) {k : Nat} (hk : k < R.length) : ∃ i, i < L.length ∧ itAt L i = sw (itAt R k) := by
  have hm : sw (itAt R k) ∈ L := h.perm.subset (List.mem_map.2 ⟨_, itAt_mem hk, rfl⟩)
  obtain ⟨i, hi, e⟩ := List.getElem_of_mem hm
  exact ⟨i, hi, by rw [itAt_get hi, e]⟩
theorem Rel.push {lt : Int → Int → Bool} {L R : List It} (h : Rel L R) {next : Int} (v : Int) (hx : ∀ i, i < L.length → (itAt L i).2 < next) : Rel (settleF lt (L ++ [(v, next)]) L.length) (R ++ [(next, v)]) := by
  refine ⟨?_, ?_⟩
  · rw [List.map_append]
    exact (h.perm.append (List.Perm.refl [(v, next)])).trans (settleF_perm lt (by simp)).symm
  · rw [List.pairwise_append]
    refine ⟨h.up, List.pairwise_singleton _ _, ?_⟩
    intro x hxx y hy
    simp at hy
    subst hy
    obtain ⟨k, hk, rfl⟩ := List.getElem_of_mem hxx
    obtain ⟨i, hi, e⟩ := h.back hk
    have := hx i hi
    rw [e, itAt_get hk] at this
    exact this
theorem Rel.set {lt : Int → Int → Bool} {L R : List It} (h : Rel L R) {i k : Nat} (hi : i < L.length) (hk : k < R.length) (e : itAt R k = sw (itAt L i)) (v : Int) :
    Rel (settleF lt (L.set i (v, (itAt L i).2)) i) (R.set k ((itAt R k).1, v)) := by
  refine ⟨?_, ?_⟩
  · have h1 := (perm_set hk ((itAt R k).1, v)).map sw
    have h2 := perm_set hi (v, (itAt L i).2)
    have h3 : ((without R k).map sw).Perm (without L i) := by
      have a := (perm_without hk).map sw
      have b := perm_without hi
      rw [List.map_cons, e, sw_sw] at a
      exact ((a.trans h.perm).trans b.symm).cons_inv
    refine (h1.symm.trans ?_).trans (settleF_perm lt (by simpa using hi)).symm
    refine List.Perm.trans ?_ h2
    rw [List.map_cons, e]
    exact h3.cons _
  · rw [List.pairwise_iff_getElem]
    intro a b ha hb hab
    have hp := List.pairwise_iff_getElem.1 h.up
    simp only [List.length_set] at ha hb
    have := hp a b ha hb hab
    simp only [List.getElem_set]
    have ek : (itAt R k).1 = R[k].1 := by rw [itAt_get hk]
    split <;> split
    · omega
    · rename_i e1 _; subst e1; simpa [itAt_get hk] using this
    · rename_i _ e1; subst e1; simpa [itAt_get hk] using this
    · exact this
theorem Rel.take {lt : Int → Int → Bool} {L R : List It} (h : Rel L R) {i k : Nat} (hi : i < L.length) (hk : k < R.length) (e : itAt R k = sw (itAt L i)) :
    Rel (takeF lt L i) (R.take k ++ R.drop (k + 1)) := by
  refine ⟨?_, ?_⟩
  · have a := (perm_without hk).map sw
    have b := perm_take lt hi
    rw [List.map_cons, e, sw_sw] at a
    exact ((a.trans h.perm).trans b.symm).cons_inv
  · refine h.up.sublist ?_
    conv => rhs; rw [split_at hk]
    exact (List.Sublist.refl _).append (List.sublist_cons_self _ _)
end Go.Proofs.YtffnjnnmlfgngaaGreat
namespace Go.Proofs.YtffnjnnmlfgngaaGreat.Bk
/-! ### The set, the row of seats, the index -/
def takenOf (n : Nat) (L : List Bo) : List Bool := (List.range n).map fun (k : Nat) => (bSeat L (k : Int)).isSome
def seatsOf (n : Nat) (L : List Bo) : List Bo := (List.range n).map fun (k : Nat) => (bSeat L (k : Int)).getD (0, 0, 0)
def idsOf (L : List Bo) : List (Nat × Int) := L.map fun x => (x.1, x.2.1)
theorem takenOf_length (n : Nat) (L : List Bo) : (takenOf n L).length = n := by simp [takenOf]
theorem seatsOf_length (n : Nat) (L : List Bo) : (seatsOf n L).length = n := by simp [seatsOf]
theorem takenOf_get {n k : Nat} {L : List Bo} (h : k < n) : (takenOf n L).getD k false = (bSeat L (k : Int)).isSome := by
  simp [takenOf, List.getD_eq_getElem?_getD, h]
theorem seatsOf_get {n k : Nat} {L : List Bo} (h : k < (seatsOf n L).length) : (seatsOf n L)[k] = (bSeat L (k : Int)).getD (0, 0, 0) := by
  simp [seatsOf]
theorem takenOf_set {n k : Nat} {L M : List Bo} (h : ∀ j : Nat, j ≠ k → (bSeat M (j : Int)).isSome = (bSeat L (j : Int)).isSome) {v : Bool} (hv : (bSeat M (k : Int)).isSome = v) : takenOf n M = (takenOf n L).set k v := by
  apply List.ext_getElem?
  intro j
  rw [List.getElem?_set]
  by_cases hj : j < n
  · by_cases e : k = j
    · subst e; simp [takenOf, hj, hv]
    · rw [if_neg e]; simp [takenOf, hj, h j (fun e' => e e'.symm)]
  · by_cases e : k = j
    · subst e; simp [takenOf, hj]
    · rw [if_neg e]; simp [takenOf, hj]
theorem seatsOf_set {n k : Nat} {L M : List Bo} (h : ∀ j : Nat, j ≠ k → bSeat M (j : Int) = bSeat L (j : Int)) {v : Bo} (hv : (bSeat M (k : Int)).getD (0, 0, 0) = v) : seatsOf n M = (seatsOf n L).set k v := by
  apply List.ext_getElem?
  intro j
  rw [List.getElem?_set]
  by_cases hj : j < n
  · by_cases e : k = j
    · subst e; simp [seatsOf, hj, hv]
    · rw [if_neg e]; simp [seatsOf, hj, h j (fun e' => e e'.symm)]
  · by_cases e : k = j
    · subst e; simp [seatsOf, hj]
    · rw [if_neg e]; simp [seatsOf, hj]
theorem bSeat_append (L : List Bo) (x : Bo) (k : Int) : bSeat (L ++ [x]) k = (bSeat L k).or (if x.2.1 = k then some x else none) := by
  unfold bSeat
  rw [List.find?_append]
  congr 1
  simp only [List.find?_cons, List.find?_nil]
  by_cases h : x.2.1 = k
  · simp [h]
  · have : (x.2.1 == k) = false := by simpa using h
    simp [this, h]
theorem bSeat_put_ne {L : List Bo} {x : Bo} {k : Int} (h : k ≠ x.2.1) : bSeat (L ++ [x]) k = bSeat L k := by
  rw [bSeat_append, if_neg (fun e => h e.symm)]; simp
theorem bSeat_put_eq {L : List Bo} {x : Bo} (h : ∀ y ∈ L, y.2.1 ≠ x.2.1) : bSeat (L ++ [x]) x.2.1 = some x := by
  have : bSeat L x.2.1 = none := List.find?_eq_none.2 (fun y hy => by simpa using h y hy)
  rw [bSeat_append, this, if_pos rfl]; simp
/-- What a search by the seat finds is the list's booking of that seat. -/
theorem bSeat_iff {L : List Bo} (h : L.Pairwise fun x y => x.2.1 ≠ y.2.1) {k : Int} {x : Bo} : bSeat L k = some x ↔ x ∈ L ∧ x.2.1 = k := by
  constructor
  · intro e; have := bSeat_id e; exact ⟨this.2, this.1⟩
  · rintro ⟨h1, rfl⟩; exact (bSeat_some h).2 h1
theorem opt_eq {α : Type} {a b : Option α} (h : ∀ x, a = some x ↔ b = some x) : a = b := by
  cases a with
  | none => cases b with
    | none => rfl
    | some y => exact absurd ((h y).2 rfl) (by simp)
  | some x => exact ((h x).1 rfl).symm
section
variable {b : Bk} (h : Raw b)
include h
theorem seat_firm {x : Bo} (hx : x ∈ b.L) (k : Int) : bSeat (bFirm b.L x.1) k = if k = x.2.1 then some (x.1, x.2.1, 0) else bSeat b.L k := by
  have h2 := (h.firm x.1).lone
  apply opt_eq
  intro y
  rw [bSeat_iff h2]
  constructor
  · rintro ⟨hy, rfl⟩
    obtain ⟨z, hz, rfl⟩ := List.mem_map.1 hy
    by_cases e : z.1 = x.1
    · obtain rfl := uniq_id h.up hz hx e
      simp
    · simp only [if_neg e]
      have hne : z.2.1 ≠ x.2.1 := by
        intro e2
        have h3 := (bSeat_some h.lone).2 hz
        rw [e2, (bSeat_some h.lone).2 hx] at h3
        exact e (by rw [Option.some.inj h3])
      rw [if_neg hne]; exact (bSeat_some h.lone).2 hz
  · intro hy
    by_cases e : k = x.2.1
    · rw [if_pos e] at hy; subst e
      obtain rfl := Option.some.inj hy
      exact ⟨List.mem_map.2 ⟨x, hx, by simp⟩, rfl⟩
    · rw [if_neg e] at hy
      obtain ⟨h3, h4⟩ := (bSeat_iff h.lone).1 hy
      refine ⟨List.mem_map.2 ⟨y, h3, ?_⟩, h4⟩
      rw [if_neg]
      intro e2
      obtain rfl := uniq_id h.up h3 hx e2
      exact e h4.symm
theorem seat_drop {x : Bo} (hx : x ∈ b.L) (k : Int) : bSeat (bDrop b.L x.1) k = if k = x.2.1 then none else bSeat b.L k := by
  have h2 := (h.filt fun y => decide (y.1 ≠ x.1)).lone
  apply opt_eq
  intro y
  show bSeat (b.L.filter _) k = some y ↔ _
  rw [bSeat_iff h2]
  constructor
  · rintro ⟨hy, rfl⟩
    obtain ⟨hy, hp⟩ := List.mem_filter.1 hy
    have hp : y.1 ≠ x.1 := by simpa using hp
    have hne : y.2.1 ≠ x.2.1 := by
      intro e2
      have h3 := (bSeat_some h.lone).2 hy
      rw [e2, (bSeat_some h.lone).2 hx] at h3
      exact hp (by rw [Option.some.inj h3])
    rw [if_neg hne]; exact (bSeat_some h.lone).2 hy
  · intro hy
    by_cases e : k = x.2.1
    · rw [if_pos e] at hy; simp at hy
    · rw [if_neg e] at hy
      obtain ⟨h3, h4⟩ := (bSeat_iff h.lone).1 hy
      refine ⟨List.mem_filter.2 ⟨h3, ?_⟩, h4⟩
      simp only [decide_eq_true_eq]
      intro e2
      obtain rfl := uniq_id h.up h3 hx e2
      exact e h4.symm
theorem seat_move {x : Bo} (hx : x ∈ b.L) {q : Int} (h0 : 0 ≤ q) (h1 : q < (b.seats : Int)) (hf : ∀ y ∈ b.L, y.2.1 ≠ q) (k : Int) :
    bSeat (bMove b.L x.1 q) k = if k = q then some (x.1, q, x.2.2) else if k = x.2.1 then none else bSeat b.L k := by
  have h2 := (h.move (id := x.1) h0 h1 (fun y hy e => absurd e (hf y hy))).lone
  apply opt_eq
  intro y
  rw [bSeat_iff h2]
  constructor
  · rintro ⟨hy, rfl⟩
    obtain ⟨z, hz, rfl⟩ := List.mem_map.1 hy
    by_cases e : z.1 = x.1
    · obtain rfl := uniq_id h.up hz hx e
      simp
    · simp only [if_neg e]
      have hne : z.2.1 ≠ x.2.1 := by
        intro e2
        have h3 := (bSeat_some h.lone).2 hz
        rw [e2, (bSeat_some h.lone).2 hx] at h3
        exact e (by rw [Option.some.inj h3])
      rw [if_neg (hf z hz), if_neg hne]; exact (bSeat_some h.lone).2 hz
  · intro hy
    by_cases e : k = q
    · rw [if_pos e] at hy; subst e
      obtain rfl := Option.some.inj hy
      exact ⟨List.mem_map.2 ⟨x, hx, by simp⟩, rfl⟩
    · rw [if_neg e] at hy
      by_cases e3 : k = x.2.1
      · rw [if_pos e3] at hy; simp at hy
      rw [if_neg e3] at hy
      obtain ⟨h3, h4⟩ := (bSeat_iff h.lone).1 hy
      refine ⟨List.mem_map.2 ⟨y, h3, ?_⟩, h4⟩
      rw [if_neg]
      intro e2
      obtain rfl := uniq_id h.up h3 hx e2
      exact e3 h4.symm
omit h in
theorem ids_drop (id : Nat) : Ix.del (idsOf b.L) id = idsOf (bDrop b.L id) := by
  unfold Ix.del idsOf bDrop; rw [List.filter_map]; rfl
omit h in
theorem ids_firm (id : Nat) : idsOf (bFirm b.L id) = idsOf b.L := by
  unfold idsOf bFirm; rw [List.map_map]
  apply List.map_congr_left
  intro x _
  simp only [Function.comp]
  split <;> rfl
omit h in
theorem ids_move (id : Nat) (k : Int) : Ix.upd (idsOf b.L) id k = idsOf (bMove b.L id k) := by
  unfold Ix.upd idsOf bMove; rw [List.map_map, List.map_map]
  apply List.map_congr_left
  intro x _
  simp only [Function.comp]
  split
  · rename_i e; rw [e]
  · rfl
omit h in
theorem ids_look (id : Nat) : Ix.look (idsOf b.L) id = (bFind b.L id).map (fun x => x.2.1) := by
  unfold Ix.look idsOf bFind; rw [List.find?_map, Option.map_map]; rfl
omit h in
theorem ids_put {x : Bo} (hl : ∀ y ∈ b.L, y.1 < x.1) : Ix.ins (idsOf b.L) x.1 x.2.1 = idsOf (b.L ++ [x]) := by
  unfold Ix.ins idsOf
  have e1 : (b.L.map fun x => (x.1, x.2.1)).filter (fun y => decide (y.1 < x.1)) = b.L.map fun x => (x.1, x.2.1) := by
    rw [List.filter_eq_self]
    intro y hy
    obtain ⟨z, hz, rfl⟩ := List.mem_map.1 hy
    simpa using hl z hz
  have e2 : (b.L.map fun x => (x.1, x.2.1)).filter (fun y => decide (x.1 < y.1)) = [] := by
    rw [List.filter_eq_nil_iff]
    intro y hy
    obtain ⟨z, hz, rfl⟩ := List.mem_map.1 hy
    have := hl z hz
    simp; omega
  rw [e1, e2]; simp
omit h in
theorem ids_gone {x : Bo} (hl : ∀ y ∈ b.L, y.1 < x.1) : Ix.look (idsOf b.L) x.1 = none := by
  rw [ids_look]
  have : bFind b.L x.1 = none := List.find?_eq_none.2 (fun y hy => by have := hl y hy; simp; omega)
  rw [this]; rfl
end
/-! ### The heap of what is due, and where each id's handle stands -/
abbrev ltD (a b : Int) : Bool := decide (a < b)
theorem ltD_swo : Swo ltD := by
  constructor <;> intros <;> simp only [ltD, decide_eq_true_eq, decide_eq_false_iff_not] at * <;> omega
/-- What the heap has to hold for a list of bookings. -/
def dueOf (L : List Bo) : List Int := (L.filter fun x => decide (0 < x.2.2)).map fun x => Du.dueN x.2.2 (x.1 : Int)
structure Due (L : List Bo) (H : List It) (f : Int → Option Int) : Prop where
  perm : (H.map Prod.fst).Perm (dueOf L)
  here : ∀ y ∈ H, f (Du.dI y.1) = some y.2
  gone : ∀ id, (∀ y ∈ H, Du.dI y.1 ≠ id) → f id = none
  heap : Heaped ltD H
theorem dueOf_mem {L : List Bo} {v : Int} : v ∈ dueOf L ↔ ∃ x ∈ L, 0 < x.2.2 ∧ v = Du.dueN x.2.2 (x.1 : Int) := by
  unfold dueOf
  simp only [List.mem_map, List.mem_filter, decide_eq_true_eq]
  constructor
  · rintro ⟨x, ⟨h1, h2⟩, rfl⟩; exact ⟨x, h1, h2, rfl⟩
  · rintro ⟨x, h1, h2, rfl⟩; exact ⟨x, ⟨h1, h2⟩, rfl⟩
/-- Who is in the heap is a booking that is held. -/
theorem Due.mem {L : List Bo} {H : List It} {f : Int → Option Int} (h : Due L H f) (hi : ∀ x ∈ L, x.1 < 4294967296) {y : It} (hy : y ∈ H) : ∃ x ∈ L, 0 < x.2.2 ∧ Du.dU y.1 = x.2.2 ∧ Du.dI y.1 = (x.1 : Int) ∧ y.1 = Du.dueN x.2.2 (x.1 : Int) := by
  obtain ⟨x, h1, h2, h3⟩ := dueOf_mem.1 (h.perm.mem_iff.1 (List.mem_map.2 ⟨y, hy, rfl⟩))
  have := hi x h1
  refine ⟨x, h1, h2, ?_, ?_, h3⟩
  · rw [h3, Du.dU_n (by omega) (by omega)]
  · rw [h3, Du.dI_n (by omega) (by omega)]
theorem Due.held {L : List Bo} {H : List It} {f : Int → Option Int} (h : Due L H f) {x : Bo} (hx : x ∈ L) (ht : 0 < x.2.2) : ∃ y ∈ H, y.1 = Du.dueN x.2.2 (x.1 : Int) := by
  have := h.perm.mem_iff.2 (dueOf_mem.2 ⟨x, hx, ht, rfl⟩)
  obtain ⟨y, hy, e⟩ := List.mem_map.1 this
  exact ⟨y, hy, e⟩
theorem Due.len {L : List Bo} {H : List It} {f : Int → Option Int} (h : Due L H f) : H.length ≤ L.length := by
  have := h.perm.length_eq
  simp only [List.length_map, dueOf] at this
  rw [this]; exact List.length_filter_le _ _
theorem Due.nil : Due [] [] (fun _ => none) := ⟨by simp [dueOf], fun y hy => by simp at hy, fun _ _ => rfl, heaped_nil _⟩
theorem dueOf_app (L : List Bo) (x : Bo) : dueOf (L ++ [x]) = if 0 < x.2.2 then dueOf L ++ [Du.dueN x.2.2 (x.1 : Int)] else dueOf L := by
  unfold dueOf
  rw [List.filter_append]
  by_cases h : 0 < x.2.2
  · simp [h]
  · simp [h]
theorem Due.put0 {L : List Bo} {H : List It} {f : Int → Option Int} (h : Due L H f) {x : Bo} (hx : ¬ 0 < x.2.2) : Due (L ++ [x]) H f :=
  ⟨by rw [dueOf_app, if_neg hx]; exact h.perm, h.here, h.gone, h.heap⟩
def pushG (L : List It) (v next : Int) : List It := settleF ltD (L ++ [(v, next)]) L.length
theorem pushD_perm (L : List It) (v next : Int) : (pushG L v next).Perm ((v, next) :: L) := by
  unfold pushG
  refine (settleF_perm ltD (by simp)).trans ?_
  exact List.perm_append_singleton _ _
theorem Due.put {L : List Bo} {H : List It} {f : Int → Option Int} (h : Due L H f) (hi : ∀ x ∈ L, x.1 < 4294967296) {x : Bo} (hx : 0 < x.2.2) (hxi : x.1 < 4294967296) (hn : ∀ y ∈ L, y.1 ≠ x.1) (nh : Int) :
    Due (L ++ [x]) (pushG H (Du.dueN x.2.2 (x.1 : Int)) nh) (fun j => if j = (x.1 : Int) then some nh else f j) := by
  have hp := pushD_perm H (Du.dueN x.2.2 (x.1 : Int)) nh
  have hd : Du.dI (Du.dueN x.2.2 (x.1 : Int)) = (x.1 : Int) := Du.dI_n (by omega) (by omega)
  refine ⟨?_, ?_, ?_, push_heaped ltD_swo h.heap _⟩
  · rw [dueOf_app, if_pos hx]
    refine (hp.map Prod.fst).trans ?_
    rw [List.map_cons]
    exact (h.perm.cons _).trans (List.perm_append_singleton _ _).symm
  · intro y hy
    rcases List.mem_cons.1 (hp.mem_iff.1 hy) with rfl | hy
    · simp only [hd, if_pos]
    · obtain ⟨z, h1, h2, h3, h4, h5⟩ := h.mem hi hy
      have := hn z h1
      rw [if_neg (by rw [h4]; omega)]
      exact h.here y hy
  · intro id hid
    have h1 := hid _ (hp.mem_iff.2 (List.mem_cons_self))
    simp only [hd] at h1
    rw [if_neg (fun e => h1 e.symm)]
    exact h.gone id (fun y hy => hid y (hp.mem_iff.2 (List.mem_cons_of_mem _ hy)))
theorem dueOf_firm_none {L : List Bo} {id : Nat} (hn : ∀ x ∈ L, x.1 = id → x.2.2 ≤ 0) : dueOf (bFirm L id) = dueOf L := by
  unfold dueOf bFirm
  induction L with
  | nil => rfl
  | cons x L ih =>
    have ih' := ih (fun y hy => hn y (List.mem_cons_of_mem _ hy))
    have hx := hn x List.mem_cons_self
    rw [List.map_cons, List.filter_cons, List.filter_cons]
    by_cases e : x.1 = id
    · have := hx e
      have q : decide (0 < x.2.2) = false := by simp; omega
      simp only [if_pos e, q]
      simpa using ih'
    · simp only [if_neg e]
      split
      · rw [List.map_cons, List.map_cons, ih']
      · exact ih'
theorem dueOf_firm_drop (L : List Bo) (id : Nat) : dueOf (bFirm L id) = dueOf (bDrop L id) := by
  unfold dueOf bFirm bDrop
  induction L with
  | nil => rfl
  | cons x L ih =>
    rw [List.map_cons, List.filter_cons, List.filter_cons]
    by_cases e : x.1 = id
    · simp only [e]
      simpa using ih
    · have q : decide (x.1 ≠ id) = true := by simpa using e
      simp only [if_neg e, q, if_true, List.filter_cons]
      split
      · rw [List.map_cons, List.map_cons, ih]
      · exact ih
theorem dueOf_firm_perm {L : List Bo} (hu : L.Pairwise fun x y => x.1 < y.1) {x : Bo} (hx : x ∈ L) (ht : 0 < x.2.2) : (Du.dueN x.2.2 (x.1 : Int) :: dueOf (bFirm L x.1)).Perm (dueOf L) := by
  induction L with
  | nil => simp at hx
  | cons y L ih =>
    have hu2 := List.pairwise_cons.1 hu
    rcases List.mem_cons.1 hx with rfl | hx
    · have hn : ∀ z ∈ L, z.1 = x.1 → z.2.2 ≤ 0 := fun z hz e => by have := hu2.1 z hz; omega
      have e1 := dueOf_firm_none hn
      unfold dueOf bFirm at e1 ⊢
      rw [List.map_cons, List.filter_cons, List.filter_cons]
      simp only [if_pos]
      rw [if_neg (by simp), if_pos (by simpa using ht), List.map_cons, e1]
    · have e : ¬ y.1 = x.1 := by have := hu2.1 x hx; omega
      have := ih hu2.2 hx
      unfold dueOf bFirm at this ⊢
      rw [List.map_cons, List.filter_cons, List.filter_cons]
      simp only [if_neg e]
      split
      · rw [List.map_cons, List.map_cons]
        exact (List.Perm.swap _ _ _).trans (this.cons _)
      · exact this
theorem Due.firm0 {L : List Bo} {H : List It} {f : Int → Option Int} (h : Due L H f) (hi : ∀ x ∈ L, x.1 < 4294967296) {id : Nat} (hf : f (id : Int) = none) : Due (bFirm L id) H f := by
  refine ⟨?_, h.here, h.gone, h.heap⟩
  rw [dueOf_firm_none]
  · exact h.perm
  · intro x hx e
    apply Int.not_lt.1
    intro ht
    obtain ⟨y, hy, ey⟩ := h.held hx ht
    have := h.here y hy
    have hxi := hi x hx
    rw [ey, Du.dI_n (by omega) (by omega), e, hf] at this
    simp at this
/-- The handle of an id is one of the heap's. -/
theorem Due.find {L : List Bo} {H : List It} {f : Int → Option Int} (h : Due L H f) {id : Int} {k : Int} (hf : f id = some k) : ∃ i, i < H.length ∧ (itAt H i).2 = k ∧ Du.dI (itAt H i).1 = id := by
  by_cases hx : ∃ y ∈ H, Du.dI y.1 = id
  · obtain ⟨y, hy, e⟩ := hx
    have := h.here y hy
    rw [e, hf] at this
    obtain ⟨i, hi, ei⟩ := List.getElem_of_mem hy
    refine ⟨i, hi, ?_, ?_⟩
    · rw [itAt_get hi, ei]; exact (Option.some.inj this).symm
    · rw [itAt_get hi, ei]; exact e
  · have := h.gone id (fun y hy e => hx ⟨y, hy, e⟩)
    rw [this] at hf; simp at hf
theorem Due.firm {L : List Bo} {H : List It} {f : Int → Option Int} (h : Due L H f) (hi : ∀ x ∈ L, x.1 < 4294967296) (hu : L.Pairwise fun x y => x.1 < y.1) {id : Nat} {i : Nat} (hl : i < H.length) (he : Du.dI (itAt H i).1 = (id : Int)) :
    Due (bFirm L id) (takeF ltD H i) (fun j => if j = (id : Int) then none else f j) := by
  have hp := perm_take ltD hl
  have hm : itAt H i ∈ H := itAt_mem hl
  obtain ⟨x, h1, h2, h3, h4, h5⟩ := h.mem hi hm
  have hid : x.1 = id := by omega
  have hq := dueOf_firm_perm hu h1 h2
  rw [hid] at hq
  have hne : ∀ y ∈ takeF ltD H i, Du.dI y.1 ≠ (id : Int) := by
    intro y hy e
    have hm2 : y ∈ H := hp.mem_iff.1 (List.mem_cons_of_mem _ hy)
    obtain ⟨x2, g1, g2, g3, g4, g5⟩ := h.mem hi hm2
    have e2 : x2 = x := uniq_id hu g1 h1 (by omega)
    subst e2
    -- the number of x stands once in the heap
    have hn : (H.map Prod.fst).Nodup := by
      rw [h.perm.nodup_iff]
      unfold dueOf
      rw [List.nodup_iff_pairwise_ne, List.pairwise_map]
      refine (pairwise_pred hu _).imp_of_mem ?_
      intro a b ha hb r e
      have ha' := hi a (List.mem_filter.1 ha).1
      have hb' := hi b (List.mem_filter.1 hb).1
      have q1 := congrArg Du.dI e
      rw [Du.dI_n (by omega) (by omega), Du.dI_n (by omega) (by omega)] at q1
      omega
    have hn2 : ((itAt H i :: takeF ltD H i).map Prod.fst).Nodup := by rw [(hp.map Prod.fst).nodup_iff]; exact hn
    rw [List.map_cons, List.nodup_cons] at hn2
    exact hn2.1 (List.mem_map.2 ⟨y, hy, by rw [g5, h5]⟩)
  refine ⟨?_, ?_, ?_, take_heaped ltD_swo h.heap hl⟩
  · have q1 : ((itAt H i).1 :: (takeF ltD H i).map Prod.fst).Perm (dueOf L) := by
      have := hp.map Prod.fst
      rw [List.map_cons] at this
      exact this.trans h.perm
    rw [h5] at q1
    rw [hid] at q1
    exact (q1.trans hq.symm).cons_inv
  · intro y hy
    rw [if_neg (hne y hy)]
    exact h.here y (hp.mem_iff.1 (List.mem_cons_of_mem _ hy))
  · intro j hj
    by_cases e : j = (id : Int)
    · rw [if_pos e]
    · rw [if_neg e]
      apply h.gone
      intro y hy
      rcases List.mem_cons.1 (hp.mem_iff.2 hy) with rfl | hy
      · rw [he]; exact fun e' => e e'.symm
      · exact hj y hy
theorem Due.same {L M : List Bo} {H : List It} {f : Int → Option Int} (h : Due L H f) (e : dueOf L = dueOf M) : Due M H f := ⟨e ▸ h.perm, h.here, h.gone, h.heap⟩
theorem dueOf_move (L : List Bo) (id : Nat) (k : Int) : dueOf (bMove L id k) = dueOf L := by
  unfold dueOf bMove
  rw [List.filter_map, List.map_map]
  induction L with
  | nil => rfl
  | cons x L ih =>
    have e1 : (if x.1 = id then ((x.1, k, x.2.2) : Bo) else x).2.2 = x.2.2 := by split <;> rfl
    have e2 : (if x.1 = id then ((x.1, k, x.2.2) : Bo) else x).1 = x.1 := by split <;> rfl
    rw [List.filter_cons, List.filter_cons]
    simp only [Function.comp, e1]
    split
    · simp only [List.map_cons, Function.comp, e1, e2]
      congr 1
    · exact ih
/-- The least of the heap is the one that goes first. -/
theorem Due.least {L : List Bo} {H : List It} {f : Int → Option Int} (h : Due L H f) (hi : ∀ x ∈ L, x.1 < 4294967296) (_h0 : 0 < H.length) : ∀ x ∈ L, 0 < x.2.2 → Du.dU (itAt H 0).1 ≤ x.2.2 := by
  intro x hx ht
  obtain ⟨y, hy, ey⟩ := h.held hx ht
  obtain ⟨i, hil, ei⟩ := List.getElem_of_mem hy
  have hl := heaped_least ltD_swo h.heap i hil
  have h1 := (leI_iff.1 hl).1
  have h2 : itAt H i = y := by rw [itAt_get hil]; exact ei
  rw [h2] at h1
  have hxi := hi x hx
  have q : ¬ (y.1 < (itAt H 0).1) := by simpa [ltD] using h1
  rw [Du.due_lt] at q
  have e1 : Du.dU y.1 = x.2.2 := by rw [ey, Du.dU_n (by omega) (by omega)]
  omega
end Go.Proofs.YtffnjnnmlfgngaaGreat.Bk
namespace Go.Proofs.YtffnjnnmlfgngaaGreat
open Go.RowKit
theorem Fr.drewN {F : Nat → Prop} {a w : World} (h : Fr F a w) (n : Nat) : Fr F a (w.drewN n) := ⟨h.os, h.tape, h.output, h.size, h.blk⟩
/-- x fits an int. -/
def Fits (x : Int) : Prop := -9223372036854775808 ≤ x ∧ x ≤ 9223372036854775807
/-- What writes new blocks alone writes none of the old ones. -/
theorem Fr.toNew {w w' : World} (h : Fr (fun b => w.heap.size ≤ b) w w') : Fr (fun _ => False) w w' :=
  h.mono (fun b hb h => by omega)
/-- A builtin append whose run is known. -/
theorem wpList_append_run {P : Program} {ops : Array Oper} {Q : Exit → Act → World → Prop} {rest : List Oper} {o : Oper} {a : Act} {w : World} (hgd : o.guard = none) (s x : Operand) (t : TypeId)
    (ho : o.op = .call { callee := .builtin .append, args := #[s, x], argTypes := #[t, t] }) {v u v' : Value} {w' : World} (hs : a.eval s = v) (hx : a.eval x = u)
    (hrun : (Builtin.append_ #[t, t] o.type #[v, u]).run P w = .ok v' w') (h : wpList P ops Q rest (a.put o.dst v') w') : wpList P ops Q (o :: rest) a w :=
  wpList_plain hgd fun K hK => by
    unfold Oper.wp execOp
    simp only [ho, resolve, invoke, builtin, Sem.run_bind, Sem.run_pure, Result.andThen_ok, List.map_toArray, List.map_cons, List.map_nil, hs, hx, hrun]
    exact hK _ _ h
/-- A builtin delete whose run is known. -/
theorem wp_delete_run {P : Program} {Q : Exit → Act → World → Prop} {K : Act → World → Prop} {o : Oper} {a : Act} {w : World} {m k : Operand} {ats : Array TypeId}
    (ho : o.op = .call { callee := .builtin .delete, args := #[m, k], argTypes := ats }) {v u r : Value} {w' : World} (hs : a.eval m = v) (hx : a.eval k = u)
    (hrun : (Builtin.delete_ ats o.type #[v, u]).run P w = .ok r w') (h : K (a.put o.dst r) w') : o.wp P a w K Q := by
  unfold Oper.wp execOp
  simp only [ho, resolve, invoke, builtin, Sem.run_bind, Sem.run_pure, Result.andThen_ok, List.map_toArray, List.map_cons, List.map_nil, hs, hx, hrun]
  exact h
section
variable {P : Program} {T : TypeId} {ps rs : Array TypeId} {v : Bool} (hT : P.underlying T = some (.func ps rs v)) (w : World)
include hT
theorem run_equalIn_func_nil (d : Nat) (fn : Fn) (a c : Array Value) : (Op.equalIn (d + 1) T (.func fn a c) .nilFunc).run P w = .ok false w := by
  simp [Op.equalIn, run_underlying hT]
theorem run_eql_func_nil (fn : Fn) (a c : Array Value) : (binOp .eql T (.func fn a c) .nilFunc).run P w = .ok (.bool false) w := by
  simp only [binOp]
  simp [Op.equal, Op.maxDepth, run_equalIn_func_nil hT w 9999]
end
end Go.Proofs.YtffnjnnmlfgngaaGreat
namespace Go.Proofs.YtffnjnnmlfgngaaGreat
open Go.RowKit
/-- The slice sv has the elements L, K cells each, at the head of its row. -/
abbrev Els {α : Type} (w : World) (e : TypeId) (K : Nat) (enc : α → List Value) (sv : Value) (L : List α) : Prop := Row w e K sv L.length (L.flatMap enc)
section
variable {α : Type} {enc : α → List Value} {K : Nat} (hk : ∀ x, (enc x).length = K)
include hk
theorem flatK_length (L : List α) : (L.flatMap enc).length = L.length * K := by
  induction L with
  | nil => simp
  | cons x L ih => rw [List.flatMap_cons, List.length_append, ih, hk, List.length_cons, Nat.add_mul, Nat.one_mul, Nat.add_comm]
theorem flatK_get (L : List α) : ∀ i (hi : i < L.length) j, j < K → (L.flatMap enc)[i * K + j]? = (enc L[i])[j]? := by
  induction L with
  | nil => intro i hi; simp at hi
  | cons x L ih =>
    intro i hi j hj
    rw [List.flatMap_cons]
    cases i with
    | zero =>
      rw [Nat.zero_mul, Nat.zero_add, List.getElem?_append_left (by rw [hk]; exact hj)]
      rfl
    | succ i =>
      have e : (i + 1) * K + j = K + (i * K + j) := by rw [Nat.add_mul, Nat.one_mul]; omega
      rw [e, List.getElem?_append_right (by rw [hk]; omega), hk, Nat.add_sub_cancel_left]
      exact ih i (by simpa using hi) j hj
theorem Els.cells {w : World} {e : TypeId} {sv : Value} {L : List α} (h : Els w e K enc sv L) {i : Nat} (hi : i < L.length) :
    ∃ g cap, sv = .slice (some ⟨g, 0, none⟩) L.length cap ∧ ∀ j, j < K → w.cell? ⟨g, i * K + j, none⟩ = (enc L[i])[j]? := by
  rcases h.2 with ⟨_, h0⟩ | ⟨g, cap, cur, rfl, _, h1, h2, h3, h4, h5⟩
  · omega
  · refine ⟨g, cap, rfl, fun j hj => ?_⟩
    have hl : i * K + j < (L.flatMap enc).length := by
      rw [flatK_length hk]
      have := Nat.mul_le_mul_right K (show i + 1 ≤ L.length from hi)
      rw [Nat.add_mul, Nat.one_mul] at this
      omega
    have h5' : cur.toList.take (L.flatMap enc).length = L.flatMap enc := by rw [flatK_length hk]; exact h5
    rw [cell_of h1, ← flatK_get hk L i hi j hj]
    conv => rhs; rw [← h5']
    rw [List.getElem?_take, if_pos hl, Array.getElem?_toList]
/-- append of one element that lies in a new block. -/
theorem Els.app {P : Program} {w : World} {e t ty : TypeId} {z : Value} {B : Nat} {sv : Value} {L : List α} (h : Els w e K enc sv L) (ht : P.underlying t = some (.slice e))
    (hi : (P.info? e).map (fun i => (i.zero, i.size, i.bytes)) = some (some z, K, B)) (hz : z.cells.size = K) (hK : 0 < K) (h1 : ∀ x, ∀ v ∈ enc x, v.oneCell' = true) (x : α)
    (hn : L.length ≤ 1000000) (hB : B ≤ 1000) {arr : Array Value} (ha : arr = (enc x).toArray) :
    ∃ a c w2, (Builtin.append_ #[t, t] ty #[sv, .slice (some ⟨w.heap.size, 0, none⟩) 1 1]).run P (w.alloc (.cells arr e)) = .ok (.slice a (L.length + 1) c) w2 ∧
      Els w2 e K enc (.slice a (L.length + 1) c) (L ++ [x]) ∧ Fr (fun b => sv.ownBlock = some b) w w2 ∧ (∀ b, (Value.slice a (L.length + 1) c).ownBlock = some b → sv.ownBlock = some b ∨ w.heap.size ≤ b) := by
  subst ha
  obtain ⟨i0, hi, hz0, hz1, hz2⟩ := info_parts hi
  have f0 : Fr (fun _ => False) w (w.alloc (.cells (enc x).toArray e)) := Fr.alloc (Fr.refl _ _) _
  have hg : (w.alloc (.cells (enc x).toArray e)).heap[w.heap.size]? = some (.cells (enc x).toArray e (0, 0)) := heap_alloc_at _ _
  have hb : (L.length + 1) * B ≤ 140737488355328 := by
    have := Nat.mul_le_mul (show L.length + 1 ≤ 1000001 by omega) hB
    omega
  obtain ⟨v', w3, hrun, hR3, hf3, ho3⟩ := run_append_fr (P := P) _ t ty e i0 z K B ht hi hz0 hz1 hz2 hz hK _ _ _ (Row.fr h f0 (fun _ _ h => h)) ⟨w.heap.size, 0, none⟩ 1 1 (enc x) (by rw [hk]; omega)
    (by intro j u hu
        have e2 : (⟨w.heap.size, 0, none⟩ : Addr).add j = ⟨w.heap.size, j, none⟩ := by
          by_cases h0 : j = 0
          · subst h0; simp [Addr.add]
          · simp [Addr.add, h0]
        rw [e2, cell_of hg j]
        simpa using hu)
    (h1 x) (by unfold maxLen; omega) hb
  obtain ⟨a', c', rfl⟩ : ∃ a' c', v' = .slice a' (L.length + 1) c' := by
    rcases hR3.2 with ⟨rfl, h0⟩ | ⟨g, cap, cur, rfl, _⟩
    · exact ⟨none, 0, by rw [h0]⟩
    · exact ⟨_, _, rfl⟩
  refine ⟨a', c', w3, hrun, ?_, (f0.mono (fun _ _ h => h.elim)).trans hf3 (fun _ _ h => h), ?_⟩
  · show Row _ _ _ _ _ _
    rw [List.length_append, List.flatMap_append, List.flatMap_singleton]
    exact hR3
  · intro b hb
    rcases ho3 with h | h
    · rw [h] at hb; exact .inl hb
    · rw [h] at hb; simp at hb; right; omega
/-- Where the source of an append lies: m elements M, at a (at none, where there are none). -/
def SrcAt (w : World) (K : Nat) (enc : α → List Value) (a : Option Addr) (M : List α) : Prop := (M = [] ∧ a = none) ∨ ∃ g o, a = some ⟨g, o, none⟩ ∧ ∀ j, j < M.length * K → w.cell? ⟨g, o + j, none⟩ = (M.flatMap enc)[j]?
omit hk in
theorem SrcAt.fr {w w' : World} {a : Option Addr} {M : List α} (h : SrcAt w K enc a M) {F : Nat → Prop} (f : Fr F w w') (hn : ∀ g o, a = some ⟨g, o, none⟩ → ¬ F g) (hl : ∀ g o, a = some ⟨g, o, none⟩ → g < w.heap.size) : SrcAt w' K enc a M := by
  rcases h with h | ⟨g, o, e, h⟩
  · exact .inl h
  · exact .inr ⟨g, o, e, fun j hj => (f.cell (hl g o e) (hn g o e)).trans (h j hj)⟩
theorem Els.srcTake {w : World} {e : TypeId} {n c : Nat} {a : Option Addr} {L : List α} (h : Els w e K enc (.slice a n c) L) (k : Nat) : SrcAt w K enc a (L.take k) := by
  rcases h.2 with ⟨e0, h0⟩ | ⟨g, cap, cur, e0, _, h1, h2, h3, h4, h5⟩
  · simp only [Value.slice.injEq] at e0
    have : L = [] := List.eq_nil_of_length_eq_zero h0
    subst this
    exact .inl ⟨by simp, e0.1⟩
  · simp only [Value.slice.injEq] at e0
    refine .inr ⟨g, 0, e0.1, fun j hj => ?_⟩
    have hjl : j < L.length * K := Nat.lt_of_lt_of_le hj (Nat.mul_le_mul_right K (by rw [List.length_take]; omega))
    have h5' : cur.toList.take (L.flatMap enc).length = L.flatMap enc := by rw [flatK_length hk]; exact h5
    have e2 : ((L.take k).flatMap enc)[j]? = (L.flatMap enc)[j]? := by
      conv => rhs; rw [← List.take_append_drop k L, List.flatMap_append]
      rw [List.getElem?_append_left (by rw [flatK_length hk]; exact hj)]
    rw [Nat.zero_add, cell_of h1, e2]
    conv => rhs; rw [← h5']
    rw [List.getElem?_take, if_pos (by rw [flatK_length hk]; exact hjl), Array.getElem?_toList]
theorem Els.srcDrop {w : World} {e : TypeId} {g n c : Nat} {L : List α} (h : Els w e K enc (.slice (some ⟨g, 0, none⟩) n c) L) (k : Nat) : SrcAt w K enc (some ⟨g, k * K, none⟩) (L.drop k) := by
  rcases h.2 with ⟨e0, h0⟩ | ⟨g, cap, cur, e0, _, h1, h2, h3, h4, h5⟩
  · simp at e0
  · simp only [Value.slice.injEq, Option.some.injEq, Addr.mk.injEq] at e0
    obtain ⟨⟨rfl, -⟩, -⟩ := e0
    refine .inr ⟨_, k * K, rfl, fun j hj => ?_⟩
    have h5' : cur.toList.take (L.flatMap enc).length = L.flatMap enc := by rw [flatK_length hk]; exact h5
    by_cases hkl : k ≤ L.length
    · have hjl : k * K + j < L.length * K := by
        rw [List.length_drop, Nat.sub_mul] at hj
        have := Nat.mul_le_mul_right K hkl
        omega
      have e2 : ((L.drop k).flatMap enc)[j]? = (L.flatMap enc)[k * K + j]? := by
        conv => rhs; rw [← List.take_append_drop k L, List.flatMap_append]
        have e3 : ((L.take k).flatMap enc).length = k * K := by rw [flatK_length hk, List.length_take, Nat.min_eq_left hkl]
        rw [List.getElem?_append_right (by omega), e3, Nat.add_sub_cancel_left]
      rw [cell_of h1, e2]
      conv => rhs; rw [← h5']
      rw [List.getElem?_take, if_pos (by rw [flatK_length hk]; exact hjl), Array.getElem?_toList]
    · rw [List.length_drop, Nat.sub_eq_zero_of_le (by omega), Nat.zero_mul] at hj; omega
omit hk in
theorem SrcAt.nil {w : World} {a : Option Addr} (h : a = none ∨ ∃ g o, a = some ⟨g, o, none⟩) : SrcAt w K enc a ([] : List α) := by
  rcases h with h | ⟨g, o, h⟩
  · exact .inl ⟨rfl, h⟩
  · exact .inr ⟨g, o, h, fun j hj => by simp at hj⟩
/-- append of the elements of another slice. -/
theorem Els.apps {P : Program} {w : World} {e t ty : TypeId} {z : Value} {B : Nat} {sv : Value} {L M : List α} (h : Els w e K enc sv L) (ht : P.underlying t = some (.slice e))
    (hi : (P.info? e).map (fun i => (i.zero, i.size, i.bytes)) = some (some z, K, B)) (hz : z.cells.size = K) (hK : 0 < K) (h1 : ∀ x, ∀ v ∈ enc x, v.oneCell' = true)
    {a : Option Addr} {m c : Nat} (hs : SrcAt w K enc a M) (hm : m = M.length) (hn : L.length + M.length ≤ 1000000) (hB : B ≤ 1000) :
    ∃ a' c' w2, (Builtin.append_ #[t, t] ty #[sv, .slice a m c]).run P w = .ok (.slice a' (L.length + m) c') w2 ∧
      Els w2 e K enc (.slice a' (L.length + m) c') (L ++ M) ∧ Fr (fun b => sv.ownBlock = some b) w w2 ∧ (∀ b, (Value.slice a' (L.length + m) c').ownBlock = some b → sv.ownBlock = some b ∨ w.heap.size = b) := by
  subst hm
  obtain ⟨i0, hi, hz0, hz1, hz2⟩ := info_parts hi
  have hb : (L.length + M.length) * B ≤ 140737488355328 := by
    have := Nat.mul_le_mul hn hB
    omega
  rcases hs with ⟨rfl, rfl⟩ | ⟨g, o, rfl, hc⟩
  · have hsv : ∃ a' c', sv = .slice a' L.length c' ∧ L.length ≤ c' := by
      rcases h.2 with ⟨rfl, h0⟩ | ⟨g, cap, cur, rfl, _, _, h2, _⟩
      · exact ⟨none, 0, by rw [h0], by omega⟩
      · exact ⟨_, _, rfl, h2⟩
    obtain ⟨a', c', rfl, hle⟩ := hsv
    refine ⟨a', c', w, ?_, by simpa using h, Fr.refl _ _, fun b hb => .inl hb⟩
    exact run_append_nothing w t t ty e i0 ht hi a' L.length c' hle _ (Src.ofNil w ht c)
  · obtain ⟨v', w3, hrun, hR3, hf3, ho3⟩ := run_append_fr (P := P) w t ty e i0 z K B ht hi hz0 hz1 hz2 hz hK _ _ _ h ⟨g, o, none⟩ M.length c (M.flatMap enc) (flatK_length hk M)
      (by intro j u hu
          have e2 : (⟨g, o, none⟩ : Addr).add j = ⟨g, o + j, none⟩ := by
            by_cases h0 : j = 0
            · subst h0; simp [Addr.add]
            · simp [Addr.add, h0]
          have hj : j < (M.flatMap enc).length := (List.getElem?_eq_some_iff.1 hu).1
          rw [flatK_length hk] at hj
          rw [e2, hc j hj, hu])
      (by intro u hu
          obtain ⟨x, _, hx⟩ := List.mem_flatMap.1 hu
          exact h1 x u hx) (by unfold maxLen; omega) hb
    obtain ⟨a', c', rfl⟩ : ∃ a' c', v' = .slice a' (L.length + M.length) c' := by
      rcases hR3.2 with ⟨rfl, h0⟩ | ⟨g, cap, cur, rfl, _⟩
      · exact ⟨none, 0, by rw [h0]⟩
      · exact ⟨_, _, rfl⟩
    refine ⟨a', c', w3, hrun, ?_, hf3, ?_⟩
    · show Row _ _ _ _ _ _
      rw [List.length_append, List.flatMap_append]
      exact hR3
    · intro b hb
      rcases ho3 with h | h
      · rw [h] at hb; exact .inl hb
      · rw [h] at hb; simp at hb; right; omega
end
end Go.Proofs.YtffnjnnmlfgngaaGreat
namespace Go.Proofs.YtffnjnnmlfgngaaGreat
open Go.RowKit
/-- An entry. -/
def entU (x : Int × Int × Nat) : MapEntry := { key := .int .u32 x.1, val := .int .i64 x.2.1, born := x.2.2 }
/-- Block b is a map that has f. -/
def UMap (w : World) (b : Nat) (f : Int → Option Int) : Prop :=
  ∃ (l : List (Int × Int × Nat)) (c : Nat), w.heap[b]? = some (.map (l.map entU).toArray c) ∧ (l.map (·.1)).Nodup ∧ ∀ k, f k = kv l k
theorem UMap.fr {w w' : World} {b : Nat} {f : Int → Option Int} (h : UMap w b f) {F : Nat → Prop} (hf : Fr F w w') (hb : ¬ F b) : UMap w' b f := by
  obtain ⟨l, c, hb1, h2, h3⟩ := h
  exact ⟨l, c, hf.get hb1 hb, h2, h3⟩
theorem UMap.lt {w : World} {b : Nat} {f : Int → Option Int} (h : UMap w b f) : b < w.heap.size := by
  obtain ⟨l, c, hb1, h2, h3⟩ := h
  exact lt_of_block hb1
theorem findNow_entU (k : Int) (l : List (Int × Int × Nat)) (i : Nat) : Instr.findNow (.int .u32) (.int .u32 k) (l.map entU) i =
    some ((l.findIdx? (fun x => x.1 == k)).bind fun j => (l[j]?).map fun x => (i + j, Value.int .i64 x.2.1)) := by
  induction l generalizing i with
  | nil => rfl
  | cons x l ih =>
    simp only [List.map_cons, Instr.findNow, entU, Instr.sameNow, if_true]
    by_cases h : k = x.1
    · subst h; simp [List.findIdx?_cons]
    · have h1 : (k == x.1) = false := by simpa using h
      have h2 : (x.1 == k) = false := by simpa using fun e => h e.symm
      rw [h1]
      simp only [List.findIdx?_cons, h2]
      rw [ih]
      cases hf : l.findIdx? (fun x => x.1 == k) with
      | none => simp
      | some j => simp [Nat.add_assoc, Nat.add_comm 1 j]
section
variable {P : Program} {T K E : TypeId}
theorem checkKey_u32 (hK : P.underlying K = some (.int .u32)) (e : Bool) (k : Int) (w : World) : (Instr.checkKey e 10000 K (.int .u32 k)).run P w = .ok () w := by
  unfold Instr.checkKey
  simp [run_underlying hK]
theorem findKey_entU (hK : P.underlying K = some (.int .u32)) (k : Int) (l : List (Int × Int × Nat)) (w : World) :
    (Instr.findKey K (.int .u32 k) (l.map entU)).run P w = .ok ((l.findIdx? (fun x => x.1 == k)).bind fun j => (l[j]?).map fun x => (j, Value.int .i64 x.2.1)) w := by
  unfold Instr.findKey
  simp [run_underlying hK, findNow_entU]
variable (hT : P.underlying T = some (.map K E)) (hK : P.underlying K = some (.int .u32))
include hT hK
theorem run_lookup2U {w : World} {b : Nat} {f : Int → Option Int} (hm : UMap w b f) (hz : (zeroValue E).run P w = .ok (.int .i64 0) w) (k : Int) :
    (Instr.lookup T (.map (some b)) (.int .u32 k) true).run P w = .ok (.tuple #[.int .i64 ((f k).getD 0), .bool (f k).isSome]) w := by
  obtain ⟨l, c, hb, hn, hf⟩ := hm
  simp only [Instr.lookup, Sem.run_bind, run_underlying hT, Result.andThen_ok, Sem.run_pure, checkKey_u32 hK, run_getMap P hb, findKey_entU hK]
  rw [hf, kv_idx]
  cases hi : l.findIdx? (fun x => x.1 == k) with
  | none => simp [hz]
  | some j =>
    have hj : j < l.length := by have := List.findIdx?_eq_some_iff_getElem.1 hi; exact this.1
    simp [hj]
theorem run_updateU {w : World} {b : Nat} {f : Int → Option Int} (hm : UMap w b f) (k v : Int) :
    ∃ es c, (Instr.mapUpdate T (.map (some b)) (.int .u32 k) (.int .i64 v)).run P w = .ok () (setMap w b es c) ∧ UMap (setMap w b es c) b (fun j => if j = k then some v else f j) := by
  obtain ⟨l, c, hb, hn, hf⟩ := hm
  simp only [Instr.mapUpdate, Sem.run_bind, run_underlying hT, Result.andThen_ok, checkKey_u32 hK, run_getMap P hb, findKey_entU hK]
  cases hi : l.findIdx? (fun x => x.1 == k) with
  | none =>
    refine ⟨_, _, run_putMap P hb _ _, l ++ [(k, v, c)], c + 1, ?_, ?_, ?_⟩
    · rw [setMap_at hb]; simp [entU]
    · have hk : ∀ x ∈ l, x.1 ≠ k := by
        intro x hx he
        have := List.findIdx?_eq_none_iff.1 hi x hx
        simp [he] at this
      rw [List.map_append, List.nodup_append]
      refine ⟨hn, by simp, ?_⟩
      intro a ha b hb
      simp at hb; subst hb
      obtain ⟨x, hx, rfl⟩ := List.mem_map.1 ha
      exact hk x hx
    · intro j
      have hk : l.find? (fun x => x.1 == k) = none := by
        rw [List.find?_eq_none]
        intro x hx
        have := List.findIdx?_eq_none_iff.1 hi x hx
        simpa using this
      by_cases hj : j = k
      · subst hj; simp [kv, List.find?_append, hk]
      · have : (k == j) = false := by simpa using fun e => hj e.symm
        simp [kv, List.find?_append, hj, hf, this]
  | some j =>
    obtain ⟨hj, hjk, hlt⟩ := List.findIdx?_eq_some_iff_getElem.1 hi
    have hjk' : l[j].1 = k := by simpa using hjk
    simp only [Option.bind_some, List.getElem?_eq_getElem hj, Option.map_some]
    have hsb : Instr.sameBits 10000 (.int .u32 k) (.int .u32 k) = true := by simp [Instr.sameBits]
    have hks : (Instr.keyThatStays (.int .u32 k) (.int .u32 k)).run P w = .ok (.int .u32 k) w := by
      unfold Instr.keyThatStays; rw [if_pos hsb]; rfl
    have hkey : (Option.map (fun x => x.key) (List.map entU l).toArray[j]?).getD (Value.int IntKind.u32 k) = .int .u32 k := by
      simp [hj, entU, hjk']
    rw [hkey]
    simp only [Sem.run_bind, hks, Result.andThen_ok]
    refine ⟨_, _, run_putMap P hb _ _, l.set j (k, v, l[j].2.2), c, ?_, ?_, ?_⟩
    · rw [setMap_at hb]
      congr 2
      apply Array.ext'
      simp only [Array.toList_modify]
      apply List.ext_getElem (by simp)
      intro i h1 h2
      rw [List.getElem_modify, List.getElem_map, List.getElem_map, List.getElem_set]
      split
      · rename_i h; subst h; rfl
      · rfl
    · rw [List.map_set]
      have : (l.map (·.1)).set j k = l.map (·.1) := by
        apply List.ext_getElem (by simp)
        intro i h1 h2
        rw [List.getElem_set]
        split
        · rename_i h; subst h; simp [hjk']
        · rfl
      simp only [this]; exact hn
    · intro i
      rw [kv_idx]
      by_cases hik : i = k
      · subst hik
        have : (l.set j (i, v, l[j].2.2)).findIdx? (fun x => x.1 == i) = some j := by
          rw [List.findIdx?_eq_some_iff_getElem]
          refine ⟨by simpa using hj, by simp, ?_⟩
          intro m hm
          rw [List.getElem_set_ne (by omega)]
          exact hlt m hm
        rw [this]; simp [hj]
      · have : (l.set j (k, v, l[j].2.2)).findIdx? (fun x => x.1 == i) = l.findIdx? (fun x => x.1 == i) := by
          apply findIdx_set
          · simpa using fun e => hik e.symm
          · intro h; simpa [hjk'] using fun e => hik e.symm
        dsimp only
        rw [this, if_neg hik, hf, kv_idx]
        cases hfi : l.findIdx? (fun x => x.1 == i) with
        | none => simp
        | some m =>
          have hmj : j ≠ m := by
            intro e; subst e
            obtain ⟨_, h1, _⟩ := List.findIdx?_eq_some_iff_getElem.1 hfi
            simp [hjk'] at h1; exact hik h1.symm
          simp [List.getElem?_set_ne hmj]
theorem run_deleteU {w : World} {b : Nat} {f : Int → Option Int} (hm : UMap w b f) (k : Int) (ats : Array TypeId) (h0 : ats[0]? = some T) (ty : TypeId) :
    ∃ es c, (Builtin.delete_ ats ty #[.map (some b), .int .u32 k]).run P w = .ok (.tuple #[]) (setMap w b es c) ∧ UMap (setMap w b es c) b (fun j => if j = k then none else f j) := by
  obtain ⟨l, c, hb, hn, hf⟩ := hm
  have e1 : (#[Value.map (some b), Value.int .u32 k] : Array Value)[0]? = some (.map (some b)) := rfl
  have e2 : (#[Value.map (some b), Value.int .u32 k] : Array Value)[1]? = some (.int .u32 k) := rfl
  simp only [Builtin.delete_, h0, e1, e2, Sem.run_bind, run_underlying hT, Result.andThen_ok, checkKey_u32 hK, run_getMap P hb, findKey_entU hK]
  cases hi : l.findIdx? (fun x => x.1 == k) with
  | none =>
    have hk : ∀ x ∈ l, x.1 ≠ k := by
      intro x hx he
      have := List.findIdx?_eq_none_iff.1 hi x hx
      simp [he] at this
    simp only [Option.bind_none]
    refine ⟨(l.map entU).toArray, c, by rw [Sem.run_bind, run_putMap P hb]; rfl, l, c, setMap_at hb _ _, hn, ?_⟩
    intro j
    by_cases hj : j = k
    · subst hj
      have hk2 : l.find? (fun x => x.1 == j) = none := by
        rw [List.find?_eq_none]; intro x hx; simpa using hk x hx
      simp [kv, hk2]
    · simp [hj, hf]
  | some j =>
    obtain ⟨hj, hjk, hlt⟩ := List.findIdx?_eq_some_iff_getElem.1 hi
    have hjk' : l[j].1 = k := by simpa using hjk
    simp only [Option.bind_some, List.getElem?_eq_getElem hj, Option.map_some]
    refine ⟨_, _, by rw [Sem.run_bind, run_putMap P hb]; rfl, l.eraseIdx j, c, ?_, ?_, ?_⟩
    · rw [setMap_at hb]
      congr 2
      simp [Array.eraseIdxIfInBounds, hj, eraseIdx_map']
    · rw [← eraseIdx_map']; exact (List.eraseIdx_sublist _ _).nodup hn
    · intro i
      have hnk : ∀ m (hm : m < l.length), m ≠ j → l[m].1 ≠ k := by
        intro m hm hmj he
        have hp := List.pairwise_iff_getElem.1 hn
        rcases Nat.lt_or_gt_of_ne hmj with h | h
        · exact hp m j (by simpa using hm) (by simpa using hj) h (by simp [he, hjk'])
        · exact hp j m (by simpa using hj) (by simpa using hm) h (by simp [he, hjk'])
      by_cases hik : i = k
      · subst hik
        dsimp only
        rw [if_pos rfl]
        symm
        unfold kv
        have : (l.eraseIdx j).find? (fun x => x.1 == i) = none := by
          rw [List.find?_eq_none]
          intro x hx
          obtain ⟨m, hm1, hm2, hm3⟩ := List.mem_eraseIdx_iff_getElem.1 hx
          rw [← hm3]; simpa using hnk m hm1 hm2
        rw [this]; rfl
      · dsimp only
        rw [if_neg hik, hf]
        unfold kv
        congr 1
        have e : l = l.take j ++ l[j] :: l.drop (j+1) := by simp
        rw [List.eraseIdx_eq_take_drop_succ]
        conv => lhs; rw [e]
        rw [List.find?_append, List.find?_append, List.find?_cons]
        have : (l[j].1 == i) = false := by simpa [hjk'] using fun e => hik e.symm
        rw [this]
end
end Go.Proofs.YtffnjnnmlfgngaaGreat
/- Numbers as rows of bits. No condition. -/
namespace Go.Proofs.YtffnjnnmlfgngaaGreat.Bt
/-- The number of which the bits below n are f's. -/
def num (f : Nat → Bool) : Nat → Nat
  | 0 => 0
  | n + 1 => num f n + (if f n then 2 ^ n else 0)
theorem num_lt (f : Nat → Bool) : ∀ n, num f n < 2 ^ n
  | 0 => by simp [num]
  | n + 1 => by
    have := num_lt f n
    unfold num
    rw [Nat.pow_succ]
    split <;> omega
theorem num_testBit (f : Nat → Bool) : ∀ n i, (num f n).testBit i = (decide (i < n) && f i)
  | 0, i => by simp [num]
  | n + 1, i => by
    have ih := num_testBit f n i
    have hl := num_lt f n
    unfold num
    split
    · rename_i hf
      have e : num f n + 2 ^ n = 2 ^ n * 1 + num f n := by omega
      rw [e, Nat.testBit_two_pow_mul_add _ hl]
      by_cases h : i < n
      · rw [if_pos h, ih]
        simp [h, Nat.lt_succ_of_lt h]
      · rw [if_neg h]
        by_cases h2 : i = n
        · subst h2; simp [hf]
        · have h3 : ¬ i < n + 1 := by omega
          have h4 : i - n ≠ 0 := by omega
          simp [h3]
          obtain ⟨k, hk⟩ := Nat.exists_eq_succ_of_ne_zero h4
          rw [hk]; simp [Nat.testBit_succ]
    · rename_i hf
      rw [Nat.add_zero, ih]
      by_cases h : i < n
      · simp [h, Nat.lt_succ_of_lt h]
      · by_cases h2 : i = n
        · subst h2; simp at hf; simp [hf]
        · have h3 : ¬ i < n + 1 := by omega
          simp [h, h3]
theorem num_congr {f g : Nat → Bool} {n : Nat} (h : ∀ i, i < n → f i = g i) : num f n = num g n := by
  apply Nat.eq_of_testBit_eq
  intro i
  rw [num_testBit, num_testBit]
  by_cases hi : i < n
  · simp [hi, h i hi]
  · simp [hi]
/-! How many bits are set: the count by halves. -/
def val (k : Nat) : List Nat → Nat
  | [] => 0
  | d :: ds => 2 ^ k * val k ds + d
def pair : List Nat → List Nat
  | a :: b :: r => (a + b) :: pair r
  | l => l
def mask (k : Nat) : Nat → Nat
  | 0 => 0
  | n + 1 => 2 ^ (2 * k) * mask k n + (2 ^ k - 1)
theorem and_split {m a b x y : Nat} (ha : a < 2 ^ m) (hb : b < 2 ^ m) : (2 ^ m * x + a) &&& (2 ^ m * y + b) = 2 ^ m * (x &&& y) + (a &&& b) := by
  apply Nat.eq_of_testBit_eq
  intro i
  have hab : a &&& b < 2 ^ m := Nat.lt_of_le_of_lt Nat.and_le_left ha
  rw [Nat.testBit_and, Nat.testBit_two_pow_mul_add _ ha, Nat.testBit_two_pow_mul_add _ hb, Nat.testBit_two_pow_mul_add _ hab]
  split <;> simp [Nat.testBit_and]
theorem sum_pair : ∀ ds : List Nat, (pair ds).sum = ds.sum
  | [] => rfl
  | [_] => rfl
  | a :: b :: r => by simp [pair, sum_pair r]; omega
theorem pair_length : ∀ (n : Nat) (ds : List Nat), ds.length = 2 * n → (pair ds).length = n
  | 0, [], _ => rfl
  | n + 1, a :: b :: r, h => by simp [pair]; exact pair_length n r (by simp at h; omega)
  | n + 1, [], h => by simp at h
  | n + 1, [_], h => by simp at h; omega
  | 0, _ :: _, h => by simp at h
theorem pair_le {c : Nat} : ∀ (ds : List Nat), (∀ d ∈ ds, d ≤ c) → ∀ d ∈ pair ds, d ≤ 2 * c
  | [], _ => by simp [pair]
  | [a], h => by simp [pair] at h ⊢; omega
  | a :: b :: r, h => by
    intro d hd
    simp only [pair, List.mem_cons] at hd
    rcases hd with rfl | hd
    · have := h a (by simp); have := h b (by simp); omega
    · exact pair_le r (fun d hd => h d (by simp [hd])) d hd
theorem low_mask {k a R : Nat} (ha : a < 2 ^ k) : (2 ^ k * R + a) % 2 ^ k = a := by
  rw [Nat.mul_add_mod]; exact Nat.mod_eq_of_lt ha
/-- Of two fields the one behind is laid on the one ahead. -/
theorem halves1 (k : Nat) : ∀ (n : Nat) (ds : List Nat), ds.length = 2 * n → (∀ d ∈ ds, d < 2 ^ k) → (val k ds / 2 ^ k &&& mask k n) + (val k ds &&& mask k n) = val (2 * k) (pair ds)
  | 0, [], _, _ => by simp [val, mask, pair]
  | 0, _ :: _, h, _ => by simp at h
  | n + 1, [], h, _ => by simp at h
  | n + 1, [_], h, _ => by simp at h; omega
  | n + 1, a :: b :: r, h, hd => by
    have ih := halves1 k n r (by simp at h; omega) (fun d hm => hd d (by simp [hm]))
    have ha := hd a (by simp)
    have hb := hd b (by simp)
    have hp : 0 < 2 ^ k := Nat.two_pow_pos k
    have e2 : 2 ^ (2 * k) = 2 ^ k * 2 ^ k := by rw [Nat.two_mul, Nat.pow_add]
    have hM : 2 ^ k - 1 < 2 ^ (2 * k) := by rw [e2]; have := Nat.le_mul_of_pos_left (2 ^ k) hp; omega
    simp only [val, mask, pair]
    generalize hR : val k r = R at ih ⊢
    have q1 : (2 ^ k * (2 ^ k * R + b) + a) / 2 ^ k = 2 ^ k * R + b := by
      rw [Nat.mul_add_div hp, Nat.div_eq_of_lt ha]; rfl
    have sm : ∀ x y : Nat, x < 2 ^ k → y < 2 ^ k → 2 ^ k * x + y < 2 ^ (2 * k) := by
      intro x y hx hy
      rw [e2]
      have := Nat.mul_le_mul_left (2 ^ k) hx
      rw [Nat.mul_succ] at this
      omega
    have q2 : 2 ^ k * R + b = 2 ^ (2 * k) * (R / 2 ^ k) + (2 ^ k * (R % 2 ^ k) + b) := by
      have := Nat.div_add_mod R (2 ^ k)
      have h3 : 2 ^ k * R = 2 ^ k * (2 ^ k * (R / 2 ^ k) + R % 2 ^ k) := by rw [this]
      rw [Nat.mul_add, ← Nat.mul_assoc, ← e2] at h3
      omega
    have q3 : 2 ^ k * (2 ^ k * R + b) + a = 2 ^ (2 * k) * R + (2 ^ k * b + a) := by
      rw [Nat.mul_add, ← Nat.mul_assoc, ← e2]; omega
    rw [q1, q3, q2, and_split (sm _ _ (Nat.mod_lt _ hp) hb) hM, and_split (sm _ _ hb ha) hM, Nat.and_two_pow_sub_one_eq_mod, Nat.and_two_pow_sub_one_eq_mod, low_mask hb, low_mask ha, ← ih, Nat.mul_add]
    omega
/-- The same where the sum is masked, not what is added. -/
theorem halves2 (k : Nat) : ∀ (n : Nat) (ds : List Nat), ds.length = 2 * n → (∀ d ∈ ds, 2 * d < 2 ^ k) → (val k ds / 2 ^ k + val k ds) &&& mask k n = val (2 * k) (pair ds)
  | 0, [], _, _ => by simp [val, mask, pair]
  | 0, _ :: _, h, _ => by simp at h
  | n + 1, [], h, _ => by simp at h
  | n + 1, [_], h, _ => by simp at h; omega
  | n + 1, a :: b :: r, h, hd => by
    have ih := halves2 k n r (by simp at h; omega) (fun d hm => hd d (by simp [hm]))
    have ha := hd a (by simp)
    have hb := hd b (by simp)
    have hp : 0 < 2 ^ k := Nat.two_pow_pos k
    have e2 : 2 ^ (2 * k) = 2 ^ k * 2 ^ k := by rw [Nat.two_mul, Nat.pow_add]
    have hM : 2 ^ k - 1 < 2 ^ (2 * k) := by rw [e2]; have := Nat.le_mul_of_pos_left (2 ^ k) hp; omega
    have hrm : 2 * (val k r % 2 ^ k) < 2 ^ k := by
      cases r with
      | nil => simp [val]; exact hp
      | cons c r' =>
        have hc := hd c (by simp)
        simp only [val]
        rw [low_mask (by omega)]; exact hc
    simp only [val, mask, pair]
    generalize hR : val k r = R at ih hrm ⊢
    have q1 : (2 ^ k * (2 ^ k * R + b) + a) / 2 ^ k = 2 ^ k * R + b := by
      rw [Nat.mul_add_div hp, Nat.div_eq_of_lt (by omega)]; rfl
    have sm : ∀ x y : Nat, x < 2 ^ k → y < 2 ^ k → 2 ^ k * x + y < 2 ^ (2 * k) := by
      intro x y hx hy
      rw [e2]
      have := Nat.mul_le_mul_left (2 ^ k) hx
      rw [Nat.mul_succ] at this
      omega
    have q2 : 2 ^ k * R = 2 ^ (2 * k) * (R / 2 ^ k) + 2 ^ k * (R % 2 ^ k) := by
      have := Nat.div_add_mod R (2 ^ k)
      have h3 : 2 ^ k * R = 2 ^ k * (2 ^ k * (R / 2 ^ k) + R % 2 ^ k) := by rw [this]
      rw [Nat.mul_add, ← Nat.mul_assoc, ← e2] at h3
      exact h3
    have q3 : 2 ^ k * (2 ^ k * R + b) + a = 2 ^ (2 * k) * R + (2 ^ k * b + a) := by
      rw [Nat.mul_add, ← Nat.mul_assoc, ← e2]; omega
    have q4 : 2 ^ k * R + b + (2 ^ (2 * k) * R + (2 ^ k * b + a)) = 2 ^ (2 * k) * (R / 2 ^ k + R) + (2 ^ k * (R % 2 ^ k + b) + (a + b)) := by
      rw [Nat.mul_add (2 ^ (2 * k)), Nat.mul_add (2 ^ k)]; omega
    rw [q1, q3, q4, and_split (sm _ _ (by omega) (by omega)) hM, Nat.and_two_pow_sub_one_eq_mod, low_mask (by omega), ih]
/-- The digits of a number. -/
def digs (x : Nat) : Nat → List Nat
  | 0 => []
  | n + 1 => (x % 2) :: digs (x / 2) n
theorem digs_length : ∀ (n x : Nat), (digs x n).length = n
  | 0, _ => rfl
  | n + 1, x => by simp [digs, digs_length n]
theorem digs_le : ∀ (n x : Nat), ∀ d ∈ digs x n, d ≤ 1
  | 0, _ => by simp [digs]
  | n + 1, x => by
    intro d hd
    simp only [digs, List.mem_cons] at hd
    rcases hd with rfl | hd
    · omega
    · exact digs_le n _ d hd
theorem digs_val : ∀ (n x : Nat), x < 2 ^ n → val 1 (digs x n) = x
  | 0, x, h => by simp at h; simp [digs, val, h]
  | n + 1, x, h => by
    simp only [digs, val]
    rw [digs_val n (x / 2) (by rw [Nat.pow_succ] at h; omega)]
    omega
/-- How many of the bits below n are set. -/
def pop (x n : Nat) : Nat := (digs x n).sum
theorem last8 {e : List Nat} (hl : e.length = 8) (he : ∀ d ∈ e, d ≤ 8) :
    ∃ x1 x2 x3, val 8 e / 256 + val 8 e = x1 ∧ x1 / 65536 + x1 = x2 ∧ x2 / 4294967296 + x2 = x3 ∧ x1 < 18446744073709551616 ∧ x2 < 18446744073709551616 ∧ x3 < 18446744073709551616 ∧ x3 % 128 = e.sum := by
  match e, hl with
  | [e0, e1, e2, e3, e4, e5, e6, e7], _ =>
    have h0 := he e0 (by simp); have h1 := he e1 (by simp); have h2 := he e2 (by simp); have h3 := he e3 (by simp)
    have h4 := he e4 (by simp); have h5 := he e5 (by simp); have h6 := he e6 (by simp); have h7 := he e7 (by simp)
    refine ⟨_, _, _, rfl, rfl, rfl, ?_⟩
    simp only [val, List.sum_cons, List.sum_nil]
    have a0 : 2 ^ 8 * (2 ^ 8 * (2 ^ 8 * (2 ^ 8 * (2 ^ 8 * (2 ^ 8 * (2 ^ 8 * (2 ^ 8 * 0 + e7) + e6) + e5) + e4) + e3) + e2) + e1) + e0 = (e0) + 256 * (e1) + 65536 * (e2) + 16777216 * (e3) + 4294967296 * (e4) + 1099511627776 * (e5) + 281474976710656 * (e6) + 72057594037927936 * (e7) := by omega
    rw [a0]
    clear a0 he
    have a1 : ((e0) + 256 * (e1) + 65536 * (e2) + 16777216 * (e3) + 4294967296 * (e4) + 1099511627776 * (e5) + 281474976710656 * (e6) + 72057594037927936 * (e7)) / 256 + ((e0) + 256 * (e1) + 65536 * (e2) + 16777216 * (e3) + 4294967296 * (e4) + 1099511627776 * (e5) + 281474976710656 * (e6) + 72057594037927936 * (e7)) = (e0 + e1) + 256 * (e1 + e2) + 65536 * (e2 + e3) + 16777216 * (e3 + e4) + 4294967296 * (e4 + e5) + 1099511627776 * (e5 + e6) + 281474976710656 * (e6 + e7) + 72057594037927936 * (e7) := by omega
    have a2 : ((e0 + e1) + 256 * (e1 + e2) + 65536 * (e2 + e3) + 16777216 * (e3 + e4) + 4294967296 * (e4 + e5) + 1099511627776 * (e5 + e6) + 281474976710656 * (e6 + e7) + 72057594037927936 * (e7)) / 65536 + ((e0 + e1) + 256 * (e1 + e2) + 65536 * (e2 + e3) + 16777216 * (e3 + e4) + 4294967296 * (e4 + e5) + 1099511627776 * (e5 + e6) + 281474976710656 * (e6 + e7) + 72057594037927936 * (e7)) = (e0 + e1 + (e2 + e3)) + 256 * (e1 + e2 + (e3 + e4)) + 65536 * (e2 + e3 + (e4 + e5)) + 16777216 * (e3 + e4 + (e5 + e6)) + 4294967296 * (e4 + e5 + (e6 + e7)) + 1099511627776 * (e5 + e6 + (e7)) + 281474976710656 * (e6 + e7) + 72057594037927936 * (e7) := by omega
    have a3 : ((e0 + e1 + (e2 + e3)) + 256 * (e1 + e2 + (e3 + e4)) + 65536 * (e2 + e3 + (e4 + e5)) + 16777216 * (e3 + e4 + (e5 + e6)) + 4294967296 * (e4 + e5 + (e6 + e7)) + 1099511627776 * (e5 + e6 + (e7)) + 281474976710656 * (e6 + e7) + 72057594037927936 * (e7)) / 4294967296 + ((e0 + e1 + (e2 + e3)) + 256 * (e1 + e2 + (e3 + e4)) + 65536 * (e2 + e3 + (e4 + e5)) + 16777216 * (e3 + e4 + (e5 + e6)) + 4294967296 * (e4 + e5 + (e6 + e7)) + 1099511627776 * (e5 + e6 + (e7)) + 281474976710656 * (e6 + e7) + 72057594037927936 * (e7)) = (e0 + e1 + (e2 + e3) + (e4 + e5 + (e6 + e7))) + 256 * (e1 + e2 + (e3 + e4) + (e5 + e6 + (e7))) + 65536 * (e2 + e3 + (e4 + e5) + (e6 + e7)) + 16777216 * (e3 + e4 + (e5 + e6) + (e7)) + 4294967296 * (e4 + e5 + (e6 + e7)) + 1099511627776 * (e5 + e6 + (e7)) + 281474976710656 * (e6 + e7) + 72057594037927936 * (e7) := by omega
    rw [a1, a2, a3]
    clear a1 a2 a3
    refine ⟨by omega, by omega, by omega, by omega⟩
theorem ones (x : Nat) (hx : x < 2 ^ 64) : ∃ c1 c2 c3 x1 x2 x3,
    (x / 2 &&& 6148914691236517205) + (x &&& 6148914691236517205) = c1 ∧ (c1 / 4 &&& 3689348814741910323) + (c1 &&& 3689348814741910323) = c2 ∧ (c2 / 16 + c2) &&& 1085102592571150095 = c3 ∧
    c3 / 256 + c3 = x1 ∧ x1 / 65536 + x1 = x2 ∧ x2 / 4294967296 + x2 = x3 ∧ c1 < 18446744073709551616 ∧ c2 < 18446744073709551616 ∧ c2 / 16 + c2 < 18446744073709551616 ∧ c3 < 18446744073709551616 ∧ x1 < 18446744073709551616 ∧ x2 < 18446744073709551616 ∧ x3 < 18446744073709551616 ∧ x3 % 128 = pop x 64 := by
  have l0 := digs_length 64 x
  have d0 := digs_le 64 x
  have v0 := digs_val 64 x hx
  have s1 := halves1 1 32 _ l0 (fun d h => by have := d0 d h; omega)
  have l1 := pair_length 32 _ l0
  have d1 := pair_le _ d0
  have s2 := halves1 2 16 _ l1 (fun d h => by have := d1 d h; omega)
  have l2 := pair_length 16 _ l1
  have d2 := pair_le _ d1
  have s3 := halves2 4 8 _ l2 (fun d h => by have := d2 d h; omega)
  have l3 := pair_length 8 _ l2
  have d3 := pair_le _ d2
  obtain ⟨x1, x2, x3, e1, e2, e3, b1, b2, b3, e4⟩ := last8 l3 (fun d h => by have := d3 d h; omega)
  have m0 : mask 1 32 = 6148914691236517205 := by decide
  have m1 : mask 2 16 = 3689348814741910323 := by decide
  have m2 : mask 4 8 = 1085102592571150095 := by decide
  rw [v0, m0] at s1
  rw [m1] at s2
  rw [m2] at s3
  have p1 : (2 : Nat) ^ 1 = 2 := rfl
  have p2 : (2 : Nat) ^ 2 = 4 := rfl
  have p4 : (2 : Nat) ^ 4 = 16 := rfl
  have t1 : 2 * 1 = 2 := rfl
  have t2 : 2 * 2 = 4 := rfl
  have t4 : 2 * 4 = 8 := rfl
  rw [p1, t1] at s1
  rw [p2, t2] at s2
  rw [p4, t4] at s3
  have a1 : (x / 2 &&& 6148914691236517205) ≤ 6148914691236517205 := Nat.and_le_right
  have a2 : (x &&& 6148914691236517205) ≤ 6148914691236517205 := Nat.and_le_right
  generalize hc1 : val 2 (pair (digs x 64)) = c1 at *
  have a3 : (c1 / 4 &&& 3689348814741910323) ≤ 3689348814741910323 := Nat.and_le_right
  have a4 : (c1 &&& 3689348814741910323) ≤ 3689348814741910323 := Nat.and_le_right
  generalize hc2 : val 4 (pair (pair (digs x 64))) = c2 at *
  have a5 : ((c2 / 16 + c2) &&& 1085102592571150095) ≤ 1085102592571150095 := Nat.and_le_right
  refine ⟨c1, c2, _, x1, x2, x3, s1, s2, s3, e1, e2, e3, by omega, by omega, by omega, by omega, b1, b2, b3, ?_⟩
  rw [e4, sum_pair, sum_pair, sum_pair]; rfl
end Go.Proofs.YtffnjnnmlfgngaaGreat.Bt
namespace Go.Proofs.YtffnjnnmlfgngaaGreat.Bt
/-- Word k of a set. -/
def wd (B : List Bool) (k : Nat) : Nat := num (fun j => B.getD (64 * k + j) false) 64
/-- How many words. -/
def nw (n : Nat) : Nat := (n + 63) / 64
def words (B : List Bool) : List Nat := (List.range (nw B.length)).map (wd B)
theorem words_length (B : List Bool) : (words B).length = nw B.length := by simp [words]
theorem words_get (B : List Bool) {k : Nat} (h : k < nw B.length) : (words B)[k]? = some (wd B k) := by
  simp [words, h]
theorem wd_lt (B : List Bool) (k : Nat) : wd B k < 18446744073709551616 := num_lt _ 64
theorem wd_bit (B : List Bool) (k j : Nat) (h : j < 64) : (wd B k).testBit j = B.getD (64 * k + j) false := by
  unfold wd; rw [num_testBit]; simp [h]
theorem split64 (i : Nat) : 64 * (i / 64) + i % 64 = i := by omega
theorem nw_lt {n i : Nat} (h : i < n) : i / 64 < nw n := by unfold nw; omega
theorem wd_at (B : List Bool) (i : Nat) : wd B (i / 64) / 2 ^ (i % 64) % 2 = if B.getD i false then 1 else 0 := by
  have h := wd_bit B (i / 64) (i % 64) (Nat.mod_lt _ (by decide))
  rw [split64, Nat.testBit_eq_decide_div_mod_eq] at h
  rw [← h]
  by_cases h1 : wd B (i / 64) / 2 ^ (i % 64) % 2 = 1
  · simp [h1]
  · simp [h1]; omega
theorem getD_set_b (B : List Bool) (i j : Nat) (b : Bool) : (B.set i b).getD j false = if j = i ∧ i < B.length then b else B.getD j false := by
  simp only [List.getD_eq_getElem?_getD, List.getElem?_set]
  by_cases h : i = j
  · subst h
    by_cases h2 : i < B.length
    · simp [h2]
    · simp [h2]
  · rw [if_neg h, if_neg (fun e => h e.1.symm)]
theorem wd_put (B : List Bool) {i : Nat} (hi : i < B.length) : wd (B.set i true) (i / 64) = wd B (i / 64) ||| 2 ^ (i % 64) := by
  apply Nat.eq_of_testBit_eq
  intro j
  rw [Nat.testBit_or, Nat.testBit_two_pow]
  by_cases hj : j < 64
  · rw [wd_bit _ _ _ hj, wd_bit _ _ _ hj, getD_set_b]
    by_cases e : i % 64 = j
    · have : 64 * (i / 64) + j = i := by omega
      rw [if_pos ⟨this, hi⟩]; simp [e]
    · have : ¬ 64 * (i / 64) + j = i := by omega
      rw [if_neg (fun h => this h.1)]; simp [e]
  · have e : ¬ i % 64 = j := by omega
    unfold wd
    rw [num_testBit, num_testBit]; simp [hj, e]
theorem wd_drop (B : List Bool) {i : Nat} (hi : i < B.length) : wd (B.set i false) (i / 64) = wd B (i / 64) &&& (18446744073709551615 - 2 ^ (i % 64)) := by
  apply Nat.eq_of_testBit_eq
  intro j
  have hp : (2 : Nat) ^ (i % 64) < 2 ^ 64 := Nat.pow_lt_pow_right (by decide) (Nat.mod_lt _ (by decide))
  have e64 : (18446744073709551615 : Nat) - 2 ^ (i % 64) = 2 ^ 64 - (2 ^ (i % 64) + 1) := by omega
  rw [Nat.testBit_and, e64, Nat.testBit_two_pow_sub_succ hp, Nat.testBit_two_pow]
  by_cases hj : j < 64
  · rw [wd_bit _ _ _ hj, wd_bit _ _ _ hj, getD_set_b]
    by_cases e : i % 64 = j
    · have : 64 * (i / 64) + j = i := by omega
      rw [if_pos ⟨this, hi⟩]; simp [e]
    · have : ¬ 64 * (i / 64) + j = i := by omega
      rw [if_neg (fun h => this h.1)]; simp [e, hj]
  · unfold wd
    rw [num_testBit, num_testBit]; simp [hj]
theorem wd_other (B : List Bool) {i k : Nat} (b : Bool) (h : k ≠ i / 64) : wd (B.set i b) k = wd B k := by
  unfold wd
  apply num_congr
  intro j hj
  rw [getD_set_b, if_neg]
  intro e; omega
theorem words_set (B : List Bool) {i : Nat} (hi : i < B.length) (b : Bool) : words (B.set i b) = (words B).set (i / 64) (wd (B.set i b) (i / 64)) := by
  apply List.ext_getElem?
  intro k
  rw [List.getElem?_set]
  by_cases hk : k < nw B.length
  · rw [words_get _ (by simpa using hk)]
    by_cases e : i / 64 = k
    · subst e; simp [words_length, hk]
    · rw [if_neg e, words_get _ hk, wd_other _ _ (fun h => e h.symm)]
  · have h1 : (words (B.set i b))[k]? = none := List.getElem?_eq_none (by rw [words_length]; simp; omega)
    have h2 : (words B)[k]? = none := List.getElem?_eq_none (by rw [words_length]; omega)
    have : ¬ i / 64 = k := by have := nw_lt hi; omega
    rw [h1, if_neg this, h2]
/-! The least from one on. -/
/-- The least k, i ≤ k < B.length, where B says b. -/
def seekN (b : Bool) (B : List Bool) (i : Nat) : Nat → Option Nat
  | 0 => none
  | f + 1 => if i < B.length then (if B.getD i false = b then some i else seekN b B (i + 1) f) else none
def seekO (b : Bool) (B : List Bool) (i : Nat) : Option Nat := seekN b B i (B.length - i + 1)
theorem seekN_some {b : Bool} {B : List Bool} : ∀ (f i k : Nat), seekN b B i f = some k → i ≤ k ∧ k < B.length ∧ B.getD k false = b ∧ ∀ j, i ≤ j → j < k → B.getD j false ≠ b
  | 0, i, k, h => by simp [seekN] at h
  | f + 1, i, k, h => by
    unfold seekN at h
    split at h
    · split at h
      · cases h; rename_i h1 h2; exact ⟨Nat.le_refl _, h1, h2, fun j h3 h4 => by omega⟩
      · rename_i h1 h2
        obtain ⟨a1, a2, a3, a4⟩ := seekN_some f (i + 1) k h
        refine ⟨by omega, a2, a3, fun j h3 h4 => ?_⟩
        by_cases e : j = i
        · subst e; exact h2
        · exact a4 j (by omega) h4
    · cases h
theorem seekN_none {b : Bool} {B : List Bool} : ∀ (f i : Nat), B.length < i + f → seekN b B i f = none → ∀ j, i ≤ j → j < B.length → B.getD j false ≠ b
  | 0, i, hf, h => fun j h1 h2 => by omega
  | f + 1, i, hf, h => by
    unfold seekN at h
    intro j h1 h2
    split at h
    · split at h
      · cases h
      · rename_i h3 h4
        by_cases e : j = i
        · subst e; exact h4
        · exact seekN_none f (i + 1) (by omega) h j (by omega) h2
    · omega
theorem seekO_some {b : Bool} {B : List Bool} {i k : Nat} (h : seekO b B i = some k) : i ≤ k ∧ k < B.length ∧ B.getD k false = b ∧ ∀ j, i ≤ j → j < k → B.getD j false ≠ b := seekN_some _ _ _ h
theorem seekO_none {b : Bool} {B : List Bool} {i : Nat} (h : seekO b B i = none) : ∀ j, i ≤ j → j < B.length → B.getD j false ≠ b := seekN_none _ _ (by omega) h
theorem seekO_is {b : Bool} {B : List Bool} {i k : Nat} (h1 : i ≤ k) (h2 : k < B.length) (h3 : B.getD k false = b) (h4 : ∀ j, i ≤ j → j < k → B.getD j false ≠ b) : seekO b B i = some k := by
  cases h : seekO b B i with
  | none => exact absurd h3 (seekO_none h k h1 h2)
  | some q =>
    obtain ⟨a1, a2, a3, a4⟩ := seekO_some h
    congr 1
    rcases Nat.lt_trichotomy q k with e | e | e
    · exact absurd a3 (h4 q a1 e)
    · exact e
    · exact absurd h3 (a4 k h1 e)
theorem seekO_not {b : Bool} {B : List Bool} {i : Nat} (h : ∀ j, i ≤ j → j < B.length → B.getD j false ≠ b) : seekO b B i = none := by
  cases e : seekO b B i with
  | none => rfl
  | some k => obtain ⟨a1, a2, a3, _⟩ := seekO_some e; exact absurd a3 (h k a1 a2)
end Go.Proofs.YtffnjnnmlfgngaaGreat.Bt
namespace Go.Proofs.YtffnjnnmlfgngaaGreat.Bt
/-- How far the lowest bit lies. -/
def ctzN : Nat → Nat → Nat
  | 0, _ => 0
  | f + 1, x => if x % 2 = 1 then 0 else 1 + ctzN f (x / 2)
theorem ctzN_spec : ∀ (f x : Nat), 0 < x → x < 2 ^ f → ctzN f x < f ∧ x.testBit (ctzN f x) = true ∧ ∀ j, j < ctzN f x → x.testBit j = false
  | 0, x, h0, h => by simp at h; omega
  | f + 1, x, h0, h => by
    unfold ctzN
    split
    · rename_i h1
      refine ⟨by omega, by simp [Nat.testBit_zero, h1], fun j hj => by omega⟩
    · rename_i h1
      obtain ⟨a, b, c⟩ := ctzN_spec f (x / 2) (by omega) (by rw [Nat.pow_succ] at h; omega)
      refine ⟨by omega, by rw [Nat.add_comm, Nat.testBit_succ]; exact b, ?_⟩
      intro j hj
      cases j with
      | zero => simp [Nat.testBit_zero]; omega
      | succ j => rw [Nat.testBit_succ]; exact c j (by omega)
def maskOf (b : Bool) : Nat := if b then 0 else 18446744073709551615
theorem mask_bit (b : Bool) {j : Nat} (h : j < 64) : (maskOf b).testBit j = !b := by
  cases b
  · have e : maskOf false = 2 ^ 64 - 1 := rfl
    rw [e, Nat.testBit_two_pow_sub_one]; simp [h]
  · simp [maskOf]
/-- While the search is at word k, with w left of it. -/
structure Sk (B : List Bool) (b : Bool) (i k w : Nat) : Prop where
  lt : w < 2 ^ 64
  kk : k < nw B.length
  bit : ∀ j, j < 64 → w.testBit j = (decide (i ≤ 64 * k + j) && (B.getD (64 * k + j) false == b))
  no : ∀ p, i ≤ p → p < 64 * k → B.getD p false ≠ b
  ik : i < 64 * k + 64
theorem xor_bit (B : List Bool) (b : Bool) (k : Nat) {j : Nat} (h : j < 64) : (wd B k ^^^ maskOf b).testBit j = (B.getD (64 * k + j) false == b) := by
  rw [Nat.testBit_xor, wd_bit _ _ _ h, mask_bit b h]
  cases B.getD (64 * k + j) false <;> cases b <;> rfl
theorem mask_lt (b : Bool) : maskOf b < 2 ^ 64 := by cases b <;> decide
theorem xor_lt (B : List Bool) (b : Bool) (k : Nat) : wd B k ^^^ maskOf b < 2 ^ 64 := Nat.xor_lt_two_pow (wd_lt B k) (mask_lt b)
theorem Sk.start {B : List Bool} (b : Bool) {i : Nat} (hi : i < B.length) : Sk B b i (i / 64) ((wd B (i / 64) ^^^ maskOf b) / 2 ^ (i % 64) * 2 ^ (i % 64)) := by
  refine ⟨?_, nw_lt hi, ?_, fun p h1 h2 => by omega, by omega⟩
  · exact Nat.lt_of_le_of_lt (Nat.div_mul_le_self _ _) (xor_lt B b _)
  · intro j hj
    rw [Nat.testBit_mul_two_pow]
    by_cases h : i % 64 ≤ j
    · rw [← Nat.shiftRight_eq_div_pow, Nat.testBit_shiftRight]
      have e : i % 64 + (j - i % 64) = j := by omega
      rw [e, xor_bit B b _ hj]
      have : i ≤ 64 * (i / 64) + j := by omega
      simp [h, this]
    · have : ¬ i ≤ 64 * (i / 64) + j := by omega
      simp [h, this]
theorem Sk.next {B : List Bool} {b : Bool} {i k : Nat} (h : Sk B b i k 0) (hk : k + 1 < nw B.length) : Sk B b i (k + 1) (wd B (k + 1) ^^^ maskOf b) := by
  refine ⟨xor_lt B b _, hk, ?_, ?_, by have := h.ik; omega⟩
  · intro j hj
    have := h.ik
    have e : i ≤ 64 * (k + 1) + j := by omega
    rw [xor_bit B b _ hj]; simp [e]
  · intro p h1 h2
    by_cases h3 : p < 64 * k
    · exact h.no p h1 h3
    · have h4 := h.bit (p - 64 * k) (by omega)
      have e : 64 * k + (p - 64 * k) = p := by omega
      rw [e] at h4
      intro hc
      rw [hc] at h4; simp [h1] at h4
theorem Sk.found {B : List Bool} {b : Bool} {i k w : Nat} (h : Sk B b i k w) (hw : w ≠ 0) : ctzN 64 w < 64 ∧ seekO b B i = if B.length ≤ 64 * k + ctzN 64 w then none else some (64 * k + ctzN 64 w) := by
  obtain ⟨c1, c2, c3⟩ := ctzN_spec 64 w (Nat.pos_of_ne_zero hw) h.lt
  refine ⟨c1, ?_⟩
  generalize ctzN 64 w = c at c1 c2 c3
  have h4 := h.bit c c1
  rw [c2] at h4
  have h5 : i ≤ 64 * k + c ∧ B.getD (64 * k + c) false = b := by
    by_cases a : i ≤ 64 * k + c
    · simp [a] at h4; exact ⟨a, h4⟩
    · simp [a] at h4
  have hno : ∀ j, i ≤ j → j < 64 * k + c → B.getD j false ≠ b := by
    intro p h1 h2
    by_cases h3 : p < 64 * k
    · exact h.no p h1 h3
    · have h4 := h.bit (p - 64 * k) (by omega)
      rw [c3 (p - 64 * k) (by omega)] at h4
      have e : 64 * k + (p - 64 * k) = p := by omega
      rw [e] at h4
      intro hc
      rw [hc] at h4; simp [h1] at h4
  split
  · rename_i hl
    exact seekO_not (fun j h1 h2 => hno j h1 (by omega))
  · rename_i hl
    exact seekO_is h5.1 (by omega) h5.2 hno
/-! How many. -/
end Go.Proofs.YtffnjnnmlfgngaaGreat.Bt
namespace Go.Proofs.YtffnjnnmlfgngaaGreat.Bt
/-! The rows of numbers that are not in it. -/
/-- At a number behind which a gap may begin. -/
def Edge (B : List Bool) (i : Nat) : Prop := i = 0 ∨ B.getD i false = true
/-! Bytes. -/
def byt (B : List Bool) (k : Nat) : Nat := num (fun j => B.getD (8 * k + j) false) 8
def nb (n : Nat) : Nat := (n + 7) / 8
def bytes (B : List Bool) : List Nat := (List.range (nb B.length)).map (byt B)
/-! Of. -/
end Go.Proofs.YtffnjnnmlfgngaaGreat.Bt
namespace Go.Proofs.YtffnjnnmlfgngaaGreat.Bt
open Go.RowKit
def u64v (x : Nat) : Value := .int .u64 x
/-- The set B lies at bh, its words in v. -/
structure SetAt (w : World) (bh : Nat) (v : Value) (B : List Bool) : Prop where
  head : w.heap[bh]? = some (.cells #[.bool true, .int .i64 B.length, v] 153 (0, 0))
  row : Row w 193 1 v (nw B.length) ((words B).map u64v)
  small : B.length ≤ 65536
theorem SetAt.lt {w : World} {bh : Nat} {v : Value} {B : List Bool} (h : SetAt w bh v B) : bh < w.heap.size := World.block_lt_of_cell? _ _ ((cell_of h.head 0).trans (show _ = some (Value.bool true) from rfl))
theorem SetAt.fr {w w' : World} {bh : Nat} {v : Value} {B : List Bool} (h : SetAt w bh v B) {F : Nat → Prop} (f : Fr F w w') (h1 : ¬ F bh) (h2 : ∀ b, v.ownBlock = some b → ¬ F b) : SetAt w' bh v B := ⟨f.get h.head h1, Row.fr h.row f h2, h.small⟩
theorem SetAt.c0 {w : World} {bh : Nat} {v : Value} {B : List Bool} (h : SetAt w bh v B) : w.cell? ⟨bh, 0, none⟩ = some (.bool true) := (cell_of h.head 0).trans rfl
theorem SetAt.c1 {w : World} {bh : Nat} {v : Value} {B : List Bool} (h : SetAt w bh v B) : w.cell? ⟨bh, 1, none⟩ = some (.int .i64 B.length) := (cell_of h.head 1).trans rfl
theorem SetAt.c2 {w : World} {bh : Nat} {v : Value} {B : List Bool} (h : SetAt w bh v B) : w.cell? ⟨bh, 2, none⟩ = some v := (cell_of h.head 2).trans rfl
/-- A set that isn't there. -/
def NoSet (w : World) (p : Option Addr) : Prop := p = none ∨ ∃ b v1 v2, p = some ⟨b, 0, none⟩ ∧ w.heap[b]? = some (.cells #[.bool false, v1, v2] 153 (0, 0))
set_option maxRecDepth 100000 in
theorem there_ok {w : World} {bh : Nat} {v : Value} {B : List Bool} (h : SetAt w bh v B) : Calls Tryz.prog 112 #[.pointer (some ⟨bh, 0, none⟩)] w fun e w' => e = .returned (.bool true) ∧ w = w' := by
  have c0 := h.c0
  go_enter Tryz.func112, Tryz.ntmps112
  go_wp2_with fail
  go_ret
  exact ⟨rfl, rfl⟩
set_option maxRecDepth 100000 in
theorem there_no {w : World} {p : Option Addr} (h : NoSet w p) : Calls Tryz.prog 112 #[.pointer p] w fun e w' => e = .returned (.bool false) ∧ w = w' := by
  rcases h with rfl | ⟨b, v1, v2, rfl, h⟩
  · go_enter Tryz.func112, Tryz.ntmps112
    go_wp2_with fail
    go_ret
    exact ⟨rfl, rfl⟩
  · have c0 := (cell_of h 0).trans (show _ = some (Value.bool false) from rfl)
    clear h
    go_enter Tryz.func112, Tryz.ntmps112
    go_wp2_with fail
    go_ret
    exact ⟨rfl, rfl⟩
theorem Tryz.infoU64 : (Tryz.prog.info? 193).map (fun i => (i.zero, i.size, i.bytes)) = some (some (.int .u64 0), 1, 8) := by kernel_rfl
theorem info_parts {i : Option TypeInfo} {z : Option Value} {s b : Nat} (h : i.map (fun i => (i.zero, i.size, i.bytes)) = some (z, s, b)) : ∃ i0, i = some i0 ∧ i0.zero = z ∧ i0.size = s ∧ i0.bytes = b := by
  cases i with
  | none => simp at h
  | some i0 => simp at h; exact ⟨i0, rfl, h⟩
theorem made_list (n : Nat) (z : Value) : (madeCells #[z] n).toList = List.replicate n z := by
  apply List.ext_getElem
  · simp [madeCells]
  · intro i h1 h2
    simp [madeCells, Nat.mod_one]
theorem new_words (n : Nat) : (words (List.replicate n false)).map u64v = List.replicate (nw n) (.int .u64 0) := by
  apply List.ext_getElem
  · simp [words_length]
  · intro i h1 h2
    have hi : i < nw (List.replicate n false).length := by simpa [words_length] using h1
    have e : (words (List.replicate n false))[i]'(by simpa [words_length] using hi) = wd (List.replicate n false) i := by
      have := words_get (List.replicate n false) hi
      rw [List.getElem?_eq_getElem (by rw [words_length]; exact hi)] at this
      exact Option.some.inj this
    have e2 : wd (List.replicate n false) i = 0 := by
      apply Nat.eq_of_testBit_eq
      intro j
      by_cases hj : j < 64
      · rw [wd_bit _ _ _ hj]
        simp [List.getD_eq_getElem?_getD, List.getElem?_replicate]
        split <;> rfl
      · rw [Nat.testBit_lt_two_pow (Nat.lt_of_lt_of_le (wd_lt _ _) (Nat.pow_le_pow_right (by decide : 2 > 0) (by omega : 64 ≤ j)))]
        simp
    simp [u64v, e, e2]
set_option maxRecDepth 100000 in
theorem new_ok (w : World) {n : Int} (h0 : 0 ≤ n) (h1 : n ≤ 65536) : Calls Tryz.prog 41 #[.int .i64 n] w fun e w' => ∃ bh v, e = .returned (.tuple #[.pointer (some ⟨bh, 0, none⟩), .int .i64 0]) ∧ SetAt w' bh v (List.replicate n.toNat false) ∧ w.heap.size ≤ bh ∧ (∀ b, v.ownBlock = some b → w.heap.size ≤ b ∧ b ≠ bh) ∧ Fr (fun _ => False) w w' := by
  obtain ⟨m, rfl⟩ : ∃ m : Nat, n = (m : Int) := ⟨n.toNat, by omega⟩
  obtain ⟨i0, hi, hz0, hz1, hz2⟩ := info_parts Tryz.infoU64
  have hq : ((m : Int) + 63).tdiv 64 = (nw m : Int) := by rw [Int.tdiv_eq_ediv_of_nonneg (by omega)]; unfold nw; omega
  have hnw : nw m ≤ 2000 := by unfold nw; omega
  have hmk := run_make (P := Tryz.prog) w 151 193 i0 (.int .u64 0) Tryz.underlying151 hi hz0 .i64 .i64 (nw m : Int) (nw m : Int) (by omega) (Int.le_refl _) (by rw [hz2]; omega) (by omega)
  have b1 : decide ((m : Int) < 0) = false := by simp
  have b2 : decide ((65536 : Int) < (m : Int)) = false := by simp; omega
  have b2' : decide (65536 < m) = false := by simp; omega
  go_enter Tryz.func41, Tryz.ntmps41
  go_wp2_with fail
  refine bodyPost_ret (v := .tuple #[.pointer (some ⟨w.heap.size + 1, 0, none⟩), .int .i64 0]) ?_ rfl ?_
  · simp [results, Tryz.f41, go_sem]
  · refine ⟨w.heap.size + 1, .slice (some ⟨w.heap.size, 0, none⟩) (nw m) (nw m), rfl, ⟨?_, ?_, ?_⟩, by omega, ?_, Fr.alloc (Fr.alloc (Fr.refl _ _) _) _⟩
    · rw [heap_alloc_get]; simp
    · refine ⟨by simp [words_length], .inr ⟨w.heap.size, nw m, madeCells #[.int .u64 0] (nw m), by simp, Nat.zero_le _, ?_, ?_, ?_, ?_, ?_⟩⟩
      · rw [heap_alloc_get, heap_alloc_get]; simp
      · simp
      · unfold maxLen; omega
      · simp [size_madeCells]
      · rw [made_list, Int.toNat_natCast, new_words]; simp
    · simp; omega
    · intro b hb; simp [Value.ownBlock] at hb; subst hb; simp
theorem row_u64 {w : World} {v : Value} {B : List Bool} (h : Row w 193 1 v (nw B.length) ((words B).map u64v)) {k : Nat} (hk : k < nw B.length) : ∃ g c, v = .slice (some ⟨g, 0, none⟩) (nw B.length) c ∧ w.cell? ⟨g, k, none⟩ = some (.int .u64 (wd B k)) ∧ w.frozen? ⟨g, k, none⟩ = false ∧
    ∀ C : List Bool, C.length = B.length → words C = (words B).set k (wd C k) → Row (w.setCell ⟨g, k, none⟩ (.int .u64 (wd C k))) 193 1 v (nw C.length) ((words C).map u64v) := by
  rcases h.2 with ⟨_, h0⟩ | ⟨g, cap, cur, rfl, _, k1, k2, k3, k4, k5⟩
  · omega
  · refine ⟨g, cap, rfl, ?_, free_of k1 k, ?_⟩
    · rw [cell_of k1 k]
      have : (cur.toList.take (nw B.length * 1))[k]? = ((words B).map u64v)[k]? := by rw [k5]
      rw [List.getElem?_take, if_pos (by omega), List.getElem?_map, words_get B hk] at this
      simpa [u64v] using this
    · intro C hC hw
      refine ⟨by simp [words_length], .inr ⟨g, cap, _, by rw [hC], Nat.zero_le _, setCell_blk (o := k) k1 _, by rw [hC]; exact k2, k3, by simpa using k4, ?_⟩⟩
      rw [hw, hC, List.map_set, ← k5]
      rw [Array.toList_setIfInBounds, List.take_set]
      rfl
theorem parts64 (j : Nat) (h : j ≤ 1000000000) : ∃ q r : Nat, wrap64 ((j : Int) / 64) = (q : Int) ∧ IntKind.i64.wrap ((j : Int) / 64) = (q : Int) ∧ (j : Int) % 64 = (r : Int) ∧ (j : Int).tmod 64 = (r : Int) ∧ q = j / 64 ∧ r = j % 64 ∧ r < 64 :=
  ⟨j / 64, j % 64, by unfold wrap64; omega, by rw [IntKind.wrap_i64]; omega, by omega, by rw [Int.tmod_eq_emod_of_nonneg (by omega)]; omega, rfl, rfl, by omega⟩
theorem bits_andNot_u64_nat (a b : Nat) (ha : a < 18446744073709551616) (hb : b < 18446744073709551616) : bits .andNot .u64 (a : Int) (b : Int) = ((a &&& (18446744073709551615 - b) : Nat) : Int) := by
  have hx : a &&& (18446744073709551615 - b) ≤ a := Nat.and_le_left
  have h1 : (BitVec.ofInt 64 (a : Int)).toNat = a := by
    rw [BitVec.ofInt_natCast, BitVec.toNat_ofNat]; exact Nat.mod_eq_of_lt (by omega)
  have h2 : (BitVec.ofInt 64 (b : Int)).toNat = b := by
    rw [BitVec.ofInt_natCast, BitVec.toNat_ofNat]; exact Nat.mod_eq_of_lt (by omega)
  show IntKind.u64.wrap ((BitVec.ofInt 64 (a : Int) &&& ~~~ BitVec.ofInt 64 (b : Int)).toNat : Int) = _
  rw [BitVec.toNat_and, BitVec.toNat_not, h1, h2, IntKind.wrap_u64]
  have : 2 ^ 64 - 1 - b = 18446744073709551615 - b := by omega
  rw [this]
  omega
theorem shr_nat (x r : Nat) : (x : Int) / 2 ^ r = ((x / 2 ^ r : Nat) : Int) := by
  rw [Int.natCast_ediv, Int.natCast_pow]; rfl
theorem bit_one (x r : Nat) (hx : x < 18446744073709551616) : bits .and .u64 ((x : Int) / 2 ^ r) 1 = ((x / 2 ^ r % 2 : Nat) : Int) := by
  have h := bits_and_u64_nat (x / 2 ^ r) 1 (Nat.lt_of_le_of_lt (Nat.div_le_self _ _) hx) (by decide)
  rw [shr_nat, show (1 : Int) = ((1 : Nat) : Int) from rfl, h]
  have : x / 2 ^ r &&& 1 = x / 2 ^ r % 2 := Nat.and_one_is_mod _
  rw [this]
set_option maxRecDepth 100000 in
theorem has_ok {w : World} {bh : Nat} {v : Value} {B : List Bool} (h : SetAt w bh v B) (i : Int) : Calls Tryz.prog 79 #[.pointer (some ⟨bh, 0, none⟩), .int .i64 i] w fun e w' => e = .returned (.bool (decide (0 ≤ i) && B.getD i.toNat false)) ∧ w = w' := by
  have c1 := h.c1
  have c2 := h.c2
  have H := Lib.hid h
  have hsm := h.small
  by_cases h0 : 0 ≤ i
  · obtain ⟨j, rfl⟩ : ∃ j : Nat, i = (j : Int) := ⟨i.toNat, by omega⟩
    by_cases h1 : j < B.length
    · have b1 : decide ((j : Int) < (B.length : Int)) = true := by simpa using h1
      obtain ⟨q, r, hq, hqw, hr, hrt, hq1, hr1, hrl⟩ := parts64 j (by omega)
      obtain ⟨g, c, rfl, hc, _, _⟩ := row_u64 h.row (nw_lt h1)
      rw [← hq1] at hc
      have hk := nw_lt h1
      rw [← hq1] at hk
      have hk' : (q : Int) < (nw B.length : Int) := by omega
      have hb := bit_one (wd B q) r (wd_lt B q)
      have hat := wd_at B j
      rw [← hq1, ← hr1] at hat
      rw [hat] at hb
      obtain ⟨t, ht⟩ : ∃ t : Int, t = ((if B.getD j false then 1 else 0 : Nat) : Int) := ⟨_, rfl⟩
      rw [← ht] at hb
      have Ht := Lib.hid ht
      clear ht
      have Hq1 := Lib.hid hq1; have Hr1 := Lib.hid hr1
      clear h h0 hq1 hr1 hat hsm
      go_enter Tryz.func79, Tryz.ntmps79
      go_wp2_with fail
      refine (there_ok H.out).mono ?_
      rintro e w1 ⟨rfl, rfl⟩
      go_wp2_with fail
      go_ret
      refine ⟨?_, rfl⟩
      have := Ht.out
      rw [this, Int.toNat_natCast]
      cases B.getD j false <;> simp
    · have b1 : decide ((j : Int) < (B.length : Int)) = false := by simpa using h1
      have hg : B.getD j false = false := by rw [List.getD_eq_getElem?_getD, List.getElem?_eq_none (by omega)]; rfl
      clear h h0
      go_enter Tryz.func79, Tryz.ntmps79
      go_wp2_with fail
      refine (there_ok H.out).mono ?_
      rintro e w1 ⟨rfl, rfl⟩
      go_wp2_with fail
      go_ret
      exact ⟨by rw [Int.toNat_natCast, hg]; simp, rfl⟩
  · have b1 : decide (0 ≤ i) = false := by simpa using h0
    clear h
    go_enter Tryz.func79, Tryz.ntmps79
    go_wp2_with fail
    refine (there_ok H.out).mono ?_
    rintro e w1 ⟨rfl, rfl⟩
    go_wp2_with fail
    go_ret
    exact ⟨by rw [b1]; rfl, rfl⟩
theorem SetAt.store {w : World} {bh : Nat} {v : Value} {B : List Bool} (h : SetAt w bh v B) {g : Nat} {c : Nat} (hv : v = .slice (some ⟨g, 0, none⟩) (nw B.length) c) (hne : v.ownBlock ≠ some bh) {j : Nat} (h1 : j < B.length) (b : Bool) :
    SetAt (w.setCell ⟨g, j / 64, none⟩ (.int .u64 (wd (B.set j b) (j / 64)))) bh v (B.set j b) := by
  obtain ⟨g', c', e, _, _, hr⟩ := row_u64 h.row (nw_lt h1)
  rw [hv] at e
  have : g = g' := by simpa using (Value.slice.inj e).1
  subst this
  have hgb : bh ≠ g := fun e => hne (by rw [hv, e]; rfl)
  refine ⟨?_, hr _ (by simp) (words_set B h1 b), by simpa using h.small⟩
  rw [setCell_blk_ne (by exact hgb)]
  simpa using h.head
theorem pow_wrap {r : Nat} (hr : r < 64) : IntKind.u64.wrap (2 ^ r) = ((2 ^ r : Nat) : Int) := by
  have hp : (2 : Nat) ^ r < 2 ^ 64 := Nat.pow_lt_pow_right (by decide) hr
  have e : (2 : Int) ^ r = ((2 ^ r : Nat) : Int) := by rw [Int.natCast_pow]; rfl
  rw [e, IntKind.wrap_u64]
  generalize (2 : Nat) ^ r = p at hp ⊢
  omega
theorem put_bits (B : List Bool) {j q r : Nat} (h1 : j < B.length) (hq : q = j / 64) (hr : r = j % 64) : bits BinOp.or IntKind.u64 (wd B q : Int) (IntKind.u64.wrap (2 ^ r)) = (wd (B.set j true) q : Int) := by
  have hl : r < 64 := by omega
  have hp : (2 : Nat) ^ r < 2 ^ 64 := Nat.pow_lt_pow_right (by decide) hl
  rw [pow_wrap hl, bits_or_u64_nat _ _ (wd_lt B q) hp, hq, wd_put B h1, hr]
theorem drop_bits (B : List Bool) {j q r : Nat} (h1 : j < B.length) (hq : q = j / 64) (hr : r = j % 64) : bits BinOp.andNot IntKind.u64 (wd B q : Int) (IntKind.u64.wrap (2 ^ r)) = (wd (B.set j false) q : Int) := by
  have hl : r < 64 := by omega
  have hp : (2 : Nat) ^ r < 2 ^ 64 := Nat.pow_lt_pow_right (by decide) hl
  rw [pow_wrap hl, bits_andNot_u64_nat _ _ (wd_lt B q) hp, hq, wd_drop B h1, hr]
set_option maxRecDepth 100000 in
theorem change_true {w : World} {bh : Nat} {v : Value} {B : List Bool} (h : SetAt w bh v B) (hne : v.ownBlock ≠ some bh) {j : Nat} (h1 : j < B.length) : Calls Tryz.prog 116 #[.pointer (some ⟨bh, 0, none⟩), .int .i64 j, .bool true] w fun e w' => e = .returned (.int .i64 0) ∧ SetAt w' bh v (B.set j true) ∧ Fr (fun b => v.ownBlock = some b) w w' := by
  have c1 := h.c1
  have c2 := h.c2
  have H := Lib.hid h
  have hsm := h.small
  have b1 : decide ((B.length : Int) ≤ (j : Int)) = false := by simpa using h1
  have b1' : decide (B.length ≤ j) = false := by simpa using h1
  obtain ⟨q, r, hq, hqw, hr, hrt, hq1, hr1, hrl⟩ := parts64 j (by omega)
  obtain ⟨g, c, rfl, hc, hf, _⟩ := row_u64 h.row (nw_lt h1)
  rw [← hq1] at hc hf
  have hk := nw_lt h1
  rw [← hq1] at hk
  have hk' : (q : Int) < (nw B.length : Int) := by omega
  have hst := h.store (g := g) rfl hne h1 true
  rw [← hq1, ← put_bits B h1 hq1 hr1] at hst
  have Hst := Lib.hid hst
  clear h hq1 hr1 hsm hst
  go_enter Tryz.func116, Tryz.ntmps116
  go_wp2_with fail
  refine (there_ok H.out).mono ?_
  rintro e w1 ⟨rfl, rfl⟩
  go_wp2_with fail
  go_still_tail 13, (by kernel_rfl)
  go_wp2_with fail
  go_ret
  exact ⟨rfl, Hst.out.fr (Fr.drew (Fr.refl (fun _ => False) _)) (fun h => h) (fun _ _ h => h), Fr.drew (Fr.setCell (F := fun b => Value.ownBlock (.slice (some ⟨g, 0, none⟩) (nw B.length) c) = some b) (p := ⟨g, q, none⟩) (Fr.refl _ _) (fun _ => rfl) _)⟩
set_option maxRecDepth 100000 in
theorem change_false {w : World} {bh : Nat} {v : Value} {B : List Bool} (h : SetAt w bh v B) (hne : v.ownBlock ≠ some bh) {j : Nat} (h1 : j < B.length) : Calls Tryz.prog 116 #[.pointer (some ⟨bh, 0, none⟩), .int .i64 j, .bool false] w fun e w' => e = .returned (.int .i64 0) ∧ SetAt w' bh v (B.set j false) ∧ Fr (fun b => v.ownBlock = some b) w w' := by
  have c1 := h.c1
  have c2 := h.c2
  have H := Lib.hid h
  have hsm := h.small
  have b1 : decide ((B.length : Int) ≤ (j : Int)) = false := by simpa using h1
  have b1' : decide (B.length ≤ j) = false := by simpa using h1
  obtain ⟨q, r, hq, hqw, hr, hrt, hq1, hr1, hrl⟩ := parts64 j (by omega)
  obtain ⟨g, c, rfl, hc, hf, _⟩ := row_u64 h.row (nw_lt h1)
  rw [← hq1] at hc hf
  have hk := nw_lt h1
  rw [← hq1] at hk
  have hk' : (q : Int) < (nw B.length : Int) := by omega
  have hst := h.store (g := g) rfl hne h1 false
  rw [← hq1, ← drop_bits B h1 hq1 hr1] at hst
  have Hst := Lib.hid hst
  clear h hq1 hr1 hsm hst
  go_enter Tryz.func116, Tryz.ntmps116
  go_wp2_with fail
  refine (there_ok H.out).mono ?_
  rintro e w1 ⟨rfl, rfl⟩
  go_wp2_with fail
  go_still_tail 13, (by kernel_rfl)
  go_wp2_with fail
  go_ret
  exact ⟨rfl, Hst.out.fr (Fr.drew (Fr.refl (fun _ => False) _)) (fun h => h) (fun _ _ h => h), Fr.drew (Fr.setCell (F := fun b => Value.ownBlock (.slice (some ⟨g, 0, none⟩) (nw B.length) c) = some b) (p := ⟨g, q, none⟩) (Fr.refl _ _) (fun _ => rfl) _)⟩
set_option maxRecDepth 100000 in
theorem change_no {w : World} {p : Option Addr} (h : NoSet w p) (i : Int) (b : Bool) : Calls Tryz.prog 116 #[.pointer p, .int .i64 i, .bool b] w fun e w' => e = .returned (.int .i64 1) ∧ w = w' := by
  have H := Lib.hid h
  clear h
  go_enter Tryz.func116, Tryz.ntmps116
  go_wp2_with fail
  refine (there_no H.out).mono ?_
  rintro e w1 ⟨rfl, rfl⟩
  go_wp2_with fail
  go_ret
  exact ⟨rfl, rfl⟩
end Go.Proofs.YtffnjnnmlfgngaaGreat.Bt
namespace Go.Proofs.YtffnjnnmlfgngaaGreat.Bk
open Go.RowKit Go.Proofs.YtffnjnnmlfgngaaGreat.Bt
set_option maxRecDepth 100000 in
theorem put_in {w : World} {bh : Nat} {v : Value} {B : List Bool} (h : SetAt w bh v B) (hne : v.ownBlock ≠ some bh) {j : Nat} (h1 : j < B.length) : Calls Tryz.prog 83 #[.pointer (some ⟨bh, 0, none⟩), .int .i64 j] w fun e w' => e = .returned (.int .i64 0) ∧ SetAt w' bh v (B.set j true) ∧ Fr (fun b => v.ownBlock = some b) w w' := by
  have HC := Lib.hid (change_true h hne h1)
  clear h hne h1
  go_enter Tryz.func83, Tryz.ntmps83
  go_wp2_with fail
  refine HC.out.mono ?_
  rintro e w1 ⟨rfl, h2, f2⟩
  go_wp2_with fail
  go_ret
  exact ⟨rfl, h2, f2⟩
set_option maxRecDepth 100000 in
theorem drop_in {w : World} {bh : Nat} {v : Value} {B : List Bool} (h : SetAt w bh v B) (hne : v.ownBlock ≠ some bh) {j : Nat} (h1 : j < B.length) : Calls Tryz.prog 110 #[.pointer (some ⟨bh, 0, none⟩), .int .i64 j] w fun e w' => e = .returned (.int .i64 0) ∧ SetAt w' bh v (B.set j false) ∧ Fr (fun b => v.ownBlock = some b) w w' := by
  have HC := Lib.hid (change_false h hne h1)
  clear h hne h1
  go_enter Tryz.func110, Tryz.ntmps110
  go_wp2_with fail
  refine HC.out.mono ?_
  rintro e w1 ⟨rfl, h2, f2⟩
  go_wp2_with fail
  go_ret
  exact ⟨rfl, h2, f2⟩
structure NewSet (w w' : World) (bh : Nat) (v : Value) (B : List Bool) : Prop where
  at_ : SetAt w' bh v B
  new : w.heap.size ≤ bh
  newv : ∀ b, v.ownBlock = some b → w.heap.size ≤ b ∧ b ≠ bh
  fr : Fr (fun _ => False) w w'
theorem NewSet.step {w w1 w2 : World} {bh : Nat} {v : Value} {B C : List Bool} (h : NewSet w w1 bh v B) (s : SetAt w2 bh v C) (f : Fr (fun b => v.ownBlock = some b) w1 w2) : NewSet w w2 bh v C :=
  ⟨s, h.new, h.newv, ((h.fr.mono (G := fun b => w.heap.size ≤ b) (fun _ _ h => h.elim)).trans f (fun b _ e => (h.newv b e).1)).toNew⟩
theorem NewSet.keep {w w1 w2 : World} {bh : Nat} {v : Value} {B : List Bool} (h : NewSet w w1 bh v B) (f : Fr (fun _ => False) w1 w2) : NewSet w w2 bh v B :=
  ⟨h.at_.fr f (fun h => h) (fun _ _ h => h), h.new, h.newv, h.fr.trans f (fun _ _ h => h)⟩
theorem NewSet.ne {w w1 : World} {bh : Nat} {v : Value} {B : List Bool} (h : NewSet w w1 bh v B) : v.ownBlock ≠ some bh := fun e => (h.newv bh e).2 rfl
end Go.Proofs.YtffnjnnmlfgngaaGreat.Bk
namespace Go.Proofs.YtffnjnnmlfgngaaGreat.Ix
open Go.RowKit
def cells3 (x : Sl) : List Value := [.int .u8 (x.1 : Int), .int .u32 (x.2.1 : Int), .int .i64 x.2.2]
def flat3 (S : List Sl) : List Value := S.flatMap cells3
theorem flat3_cons (x : Sl) (S : List Sl) : flat3 (x :: S) = cells3 x ++ flat3 S := by simp [flat3]
theorem flat3_append (A B : List Sl) : flat3 (A ++ B) = flat3 A ++ flat3 B := by simp [flat3]
theorem flat3_length (S : List Sl) : (flat3 S).length = S.length * 3 := by
  induction S with
  | nil => rfl
  | cons x S ih => rw [flat3_cons, List.length_append, ih, List.length_cons]; show 3 + _ = _; omega
theorem flat3_get : ∀ (S : List Sl) (p : Nat), p < S.length → (flat3 S)[p * 3]? = some (.int .u8 ((slAt S p).1 : Int)) ∧ (flat3 S)[p * 3 + 1]? = some (.int .u32 ((slAt S p).2.1 : Int)) ∧ (flat3 S)[p * 3 + 2]? = some (.int .i64 (slAt S p).2.2)
  | [], p, h => absurd h (Nat.not_lt_zero _)
  | x :: S, 0, _ => ⟨rfl, rfl, rfl⟩
  | x :: S, p + 1, h => by
    have := flat3_get S p (by simpa using h)
    have e : ∀ k, (flat3 (x :: S))[(p + 1) * 3 + k]? = (flat3 S)[p * 3 + k]? := by
      intro k
      rw [flat3_cons, List.getElem?_append_right (by show 3 ≤ _; omega)]
      congr 1
      show (p + 1) * 3 + k - 3 = _
      omega
    have e0 := e 0
    simp only [Nat.add_zero] at e0
    rw [e0, e 1, e 2]
    exact this
theorem flat3_set {S : List Sl} {p : Nat} (hp : p < S.length) (x : Sl) : flat3 (S.set p x) = (((flat3 S).set (p * 3) (.int .u8 (x.1 : Int))).set (p * 3 + 1) (.int .u32 (x.2.1 : Int))).set (p * 3 + 2) (.int .i64 x.2.2) := by
  rw [set_split hp]
  conv => rhs; rw [self_split hp]
  rw [flat3_append, flat3_append, flat3_cons, flat3_cons]
  have hl : (flat3 (S.take p)).length = p * 3 := by rw [flat3_length, List.length_take, Nat.min_eq_left (Nat.le_of_lt hp)]
  rw [List.set_append_right _ _ (by omega), List.set_append_right _ _ (by omega), List.set_append_right _ _ (by omega), hl]
  congr 1
  have e0 : p * 3 - p * 3 = 0 := by omega
  have e1 : p * 3 + 1 - p * 3 = 1 := by omega
  have e2 : p * 3 + 2 - p * 3 = 2 := by omega
  rw [e0, e1, e2]
  rfl
/-- The slots lie in block g. -/
def SlotsAt (w : World) (g : Nat) (S : List Sl) : Prop := w.heap[g]? = some (.cells (flat3 S).toArray 196 (0, 0))
/-- The index's own block. -/
def HeadAt (w : World) (bh g N most len gr st : Nat) : Prop := w.heap[bh]? = some (.cells #[.slice (some ⟨g, 0, none⟩) N N, .int .i64 most, .int .i64 len, .int .i64 gr, .int .i64 st] 156 (0, 0))
theorem SlotsAt.cells {w : World} {g : Nat} {S : List Sl} (h : SlotsAt w g S) {p : Nat} (hp : p < S.length) : w.cell? ⟨g, p * 3, none⟩ = some (.int .u8 ((slAt S p).1 : Int)) ∧ w.cell? ⟨g, p * 3 + 1, none⟩ = some (.int .u32 ((slAt S p).2.1 : Int)) ∧ w.cell? ⟨g, p * 3 + 2, none⟩ = some (.int .i64 (slAt S p).2.2) := by
  have := flat3_get S p hp
  rw [cell_of h, cell_of h, cell_of h]
  simpa using this
theorem SlotsAt.free {w : World} {g : Nat} {S : List Sl} (h : SlotsAt w g S) (k : Nat) : w.frozen? ⟨g, k, none⟩ = false := free_of h k
theorem SlotsAt.fr {w w' : World} {g : Nat} {S : List Sl} (h : SlotsAt w g S) {F : Nat → Prop} (f : Fr F w w') (hn : ¬ F g) : SlotsAt w' g S := f.get h hn
theorem SlotsAt.lt {w : World} {g : Nat} {S : List Sl} (h : SlotsAt w g S) : g < w.heap.size := lt_of_block h
theorem SlotsAt.set {w : World} {g : Nat} {S : List Sl} (h : SlotsAt w g S) {p : Nat} (hp : p < S.length) (x : Sl) :
    SlotsAt (((w.setCell ⟨g, p * 3, none⟩ (.int .u8 (x.1 : Int))).setCell ⟨g, p * 3 + 1, none⟩ (.int .u32 (x.2.1 : Int))).setCell ⟨g, p * 3 + 2, none⟩ (.int .i64 x.2.2)) g (S.set p x) := by
  unfold SlotsAt
  rw [flat3_set hp]
  have h1 := setCell_blk (o := p * 3) h (.int .u8 (x.1 : Int))
  have h2 := setCell_blk (o := p * 3 + 1) h1 (.int .u32 (x.2.1 : Int))
  have h3 := setCell_blk (o := p * 3 + 2) h2 (.int .i64 x.2.2)
  rw [h3]; simp
theorem SlotsAt.setv {w : World} {g : Nat} {S : List Sl} (h : SlotsAt w g S) {p : Nat} (hp : p < S.length) (v : Int) : SlotsAt (w.setCell ⟨g, p * 3 + 2, none⟩ (.int .i64 v)) g (S.set p ((slAt S p).1, (slAt S p).2.1, v)) := by
  unfold SlotsAt
  rw [flat3_set hp, setCell_blk (o := p * 3 + 2) h (.int .i64 v)]
  obtain ⟨g0, g1, -⟩ := flat3_get S p hp
  have e0 : (flat3 S).set (p * 3) (.int .u8 ((slAt S p).1 : Int)) = flat3 S := by
    obtain ⟨hl, e⟩ := List.getElem?_eq_some_iff.1 g0
    rw [← e, List.set_getElem_self]
  have e1 : (flat3 S).set (p * 3 + 1) (.int .u32 ((slAt S p).2.1 : Int)) = flat3 S := by
    obtain ⟨hl, e⟩ := List.getElem?_eq_some_iff.1 g1
    rw [← e, List.set_getElem_self]
  simp only at *
  rw [e0, e1]; simp
theorem HeadAt.cells {w : World} {bh g N most len gr st : Nat} (h : HeadAt w bh g N most len gr st) : w.cell? ⟨bh, 0, none⟩ = some (.slice (some ⟨g, 0, none⟩) N N) ∧ w.cell? ⟨bh, 1, none⟩ = some (.int .i64 most) ∧ w.cell? ⟨bh, 2, none⟩ = some (.int .i64 len) ∧ w.cell? ⟨bh, 3, none⟩ = some (.int .i64 gr) ∧ w.cell? ⟨bh, 4, none⟩ = some (.int .i64 st) := by
  rw [cell_of h, cell_of h, cell_of h, cell_of h, cell_of h]; exact ⟨rfl, rfl, rfl, rfl, rfl⟩
theorem HeadAt.free {w : World} {bh g N most len gr st : Nat} (h : HeadAt w bh g N most len gr st) (k : Nat) : w.frozen? ⟨bh, k, none⟩ = false := free_of h k
theorem HeadAt.fr {w w' : World} {bh g N most len gr st : Nat} (h : HeadAt w bh g N most len gr st) {F : Nat → Prop} (f : Fr F w w') (hn : ¬ F bh) : HeadAt w' bh g N most len gr st := f.get h hn
theorem HeadAt.lt {w : World} {bh g N most len gr st : Nat} (h : HeadAt w bh g N most len gr st) : bh < w.heap.size := lt_of_block h
theorem HeadAt.len {w : World} {bh g N most len gr st : Nat} (h : HeadAt w bh g N most len gr st) (x : Nat) : HeadAt (w.setCell ⟨bh, 2, none⟩ (.int .i64 x)) bh g N most x gr st := by
  unfold HeadAt; rw [setCell_blk (o := 2) h]; rfl
theorem HeadAt.graves {w : World} {bh g N most len gr st : Nat} (h : HeadAt w bh g N most len gr st) (x : Nat) : HeadAt (w.setCell ⟨bh, 3, none⟩ (.int .i64 x)) bh g N most len x st := by
  unfold HeadAt; rw [setCell_blk (o := 3) h]; rfl
theorem HeadAt.steps {w : World} {bh g N most len gr st : Nat} (h : HeadAt w bh g N most len gr st) (x : Nat) : HeadAt (w.setCell ⟨bh, 4, none⟩ (.int .i64 x)) bh g N most len gr x := by
  unfold HeadAt; rw [setCell_blk (o := 4) h]; rfl
theorem run_neq_slice_nil {P : Program} (w : World) (t e : TypeId) (a : Option Addr) (n c n' c' : Nat) (h : P.underlying t = some (.slice e)) :
    (binOp .neq t (.slice a n c) (.slice none n' c')).run P w = .ok (.bool (!a.isNone)) w := by
  simp only [binOp]
  simp [Op.equal, Op.maxDepth, Lib.run_equalIn_slice_nil w 9999 t e a n c n' c' h]
set_option maxRecDepth 100000 in
theorem made_ok {w : World} {bh g N most len gr st : Nat} (h : HeadAt w bh g N most len gr st) : Calls Tryz.prog 113 #[.pointer (some ⟨bh, 0, none⟩)] w fun e w' => e = .returned (.bool true) ∧ w = w' := by
  have c0 := h.cells.1
  have q := fun w a n c => run_neq_slice_nil (P := Tryz.prog) w _ _ a n c 0 0 Tryz.underlying154
  clear h
  go_enter Tryz.func113, Tryz.ntmps113
  go_wp2_with fail
  go_ret
  exact ⟨rfl, rfl⟩
def mixA (x : Int) : Int := IntKind.u64.wrap (bits .xor .u64 x (x / 1073741824) * 13787848793156543929)
def mixB (x : Int) : Int := IntKind.u64.wrap (bits .xor .u64 x (x / 134217728) * 10723151780598845931)
def mixC (x : Int) : Int := bits .xor .u64 x (x / 2147483648)
/-- What mix.Hash gives. -/
def hash (x : Nat) : Nat := (mixC (mixB (mixA x))).toNat
theorem mixC_range (x : Int) : 0 ≤ mixC x ∧ mixC x < 18446744073709551616 := by
  have h : ∃ y, mixC x = IntKind.u64.wrap y := ⟨_, rfl⟩
  obtain ⟨y, e⟩ := h
  rw [e, IntKind.wrap_u64]; omega
theorem hash_lt (x : Nat) : hash x < 18446744073709551616 := by
  have := mixC_range (mixB (mixA x)); unfold hash; omega
set_option maxRecDepth 100000 in
theorem hash_ok (w : World) {x : Nat} (_hx : x < 18446744073709551616) : Calls Tryz.prog 142 #[.int .u64 (x : Int)] w fun e w' => e = .returned (.int .u64 (hash x : Int)) ∧ w = w' := by
  go_enter Tryz.func142, Tryz.ntmps142
  go_wp2_with fail
  go_ret
  refine ⟨?_, rfl⟩
  have e : (hash x : Int) = mixC (mixB (mixA x)) := by
    have := mixC_range (mixB (mixA x)); unfold hash; omega
  rw [e]
  rfl
/-- An id's home among N slots. -/
def home (N id : Nat) : Nat := hash id % N
attribute [irreducible] hash
end Go.Proofs.YtffnjnnmlfgngaaGreat.Ix
namespace Go.Proofs.YtffnjnnmlfgngaaGreat.Ix
open Go.RowKit
def frV (f : Option Nat) : Int := match f with | none => -1 | some p => (p : Int)
/-- What a search comes to. -/
def Found (S : List Sl) (N id : Nat) (e : Ending) : Prop :=
  (∃ p : Nat, e = .returned (.tuple #[.int .i64 (p : Int), .bool true]) ∧ p < N ∧ (slAt S p).1 = 1 ∧ (slAt S p).2.1 = id) ∨
  (∃ p : Nat, e = .returned (.tuple #[.int .i64 (p : Int), .bool false]) ∧ Place S (home N id) p ∧ ∀ q, q < S.length → ¬ ((slAt S q).1 = 1 ∧ (slAt S q).2.1 = id))
def stepsOf (w : World) (bh : Nat) : Nat := match w.cell? ⟨bh, 4, none⟩ with | some (.int _ x) => x.toNat | _ => 0
theorem stepsOf_head {w : World} {bh g N most len gr st : Nat} (h : HeadAt w bh g N most len gr st) : stepsOf w bh = st := by unfold stepsOf; rw [h.cells.2.2.2.2]; rfl
/-- Where the search stands. -/
structure Stand (w : World) (bh g N most len gr id : Nat) (S : List Sl) (t : Nat) (f : Option Nat) (wr : World) : Prop where
  look : Look S (home N id) id t f
  le : t ≤ N
  head : HeadAt wr bh g N most len gr t
  fr : Fr (fun b => b = bh) w wr
theorem wrap_small {x : Nat} (h : x ≤ 1000000) : wrap64 (x : Int) = (x : Int) ∧ IntKind.i64.wrap (x : Int) = (x : Int) ∧ IntKind.u64.wrap (x : Int) = (x : Int) := by
  refine ⟨by unfold wrap64; omega, by rw [IntKind.wrap_i64]; omega, by rw [IntKind.wrap_u64]; omega⟩
theorem mod_small {x n : Nat} : (x : Int).tmod (n : Int) = ((x % n : Nat) : Int) ∧ (x : Int) % (n : Int) = ((x % n : Nat) : Int) := by
  rw [Int.tmod_eq_emod_of_nonneg (by omega)]; exact ⟨(Int.natCast_emod _ _).symm, (Int.natCast_emod _ _).symm⟩
set_option maxRecDepth 100000 in
set_option maxHeartbeats 2000000 in
theorem find_ok {w : World} {bh g N most len gr st id : Nat} {S : List Sl} (H : HeadAt w bh g N most len gr st) (HS : SlotsAt w g S) (hN : S.length = N) (G : Good (home N) S) (hg : ∃ p, p < N ∧ (slAt S p).1 = 0) (hne : bh ≠ g) (hid : id < 4294967296) (hN2 : N ≤ 8192) :
    Calls Tryz.prog 114 #[.pointer (some ⟨bh, 0, none⟩), .int .u32 (id : Int)] w fun e w' => ∃ st', 1 ≤ st' ∧ st' ≤ N ∧ HeadAt w' bh g N most len gr st' ∧ Fr (fun b => b = bh) w w' ∧ Found S N id e := by
  obtain ⟨p0, hp0, hz⟩ := hg
  have hN0 : 0 < N := by omega
  obtain ⟨c0, -, -, -, c4⟩ := H.cells
  have hcv : IntKind.u64.wrap (id : Int) = (id : Int) := by rw [IntKind.wrap_u64]; omega
  have hcn : IntKind.u64.wrap (N : Int) = (N : Int) := by rw [IntKind.wrap_u64]; omega
  obtain ⟨hx, hhx⟩ : ∃ hx, hx = hash id := ⟨_, rfl⟩
  obtain ⟨h0, hh0⟩ : ∃ h0, h0 = home N id := ⟨_, rfl⟩
  have hhl := hash_lt id
  have hhm : h0 = hx % N := by rw [hh0, hhx]; rfl
  have hq : (hx : Int).tmod (N : Int) = (h0 : Int) := by rw [Int.tmod_eq_emod_of_nonneg (by omega), hhm]; rfl
  have hq2 : (hx : Int) % (N : Int) = (h0 : Int) := by rw [hhm]; rfl
  have hh : h0 < N := by rw [hhm]; exact Nat.mod_lt _ hN0
  have hw0 : IntKind.i64.wrap (h0 : Int) = (h0 : Int) := by rw [IntKind.wrap_i64]; omega
  have hwu : IntKind.u64.wrap (h0 : Int) = (h0 : Int) := by rw [IntKind.wrap_u64]; omega
  have hn0 : ((N : Int) == 0) = false := by simp; omega
  have fz := H.free 4
  have HH := Lib.hid H; have HHS := Lib.hid HS; have HG := Lib.hid G; have HZ := Lib.hid (show p0 < S.length ∧ (slAt S p0).1 = 0 from ⟨by omega, hz⟩); have HN := Lib.hid hN; have HN2 := Lib.hid hN2; have Hne := Lib.hid hne
  have HK := Lib.hid (hash_ok w (x := id) (by omega))
  rw [← hhx] at HK
  have Hh0 := Lib.hid hh0; have Hh := Lib.hid hh; have Hhl := Lib.hid hhl
  clear H HS G hz hN hN2 hne hh0 hhm hh hhl hp0 hhx hid
  go_enter Tryz.func114, Tryz.ntmps114
  go_wp2_with fail
  apply wp_scope_straight
  go_wp2_with fail
  refine HK.out.mono ?_
  rintro e w1 ⟨rfl, rfl⟩
  go_wp2_with fail
  apply wp_label
  have HH1 := Lib.hid (HH.out.steps 0)
  have hf1 : Fr (fun b => b = bh) w (w.setCell ⟨bh, 4, none⟩ (.int .i64 0)) := Fr.setCell (F := fun b => b = bh) (p := ⟨bh, 4, none⟩) (Fr.refl _ _) (fun _ => rfl) _
  simp only [Int.natCast_zero] at HH1
  have HF1 := Lib.hid hf1
  clear c0 c4 fz hf1 hq hq2 hcv hcn
  generalize w.setCell ⟨bh, 4, none⟩ (.int .i64 0) = w2 at HH1 HF1 ⊢
  go_upto_block 0 with fail
  go_cut [7, 8] (fun _ s8 wx => ∃ (p st' : Nat), s8 = .int .i64 (p : Int) ∧ 1 ≤ st' ∧ st' ≤ N ∧ HeadAt wx bh g N most len gr st' ∧ Fr (fun b => b = bh) w wx ∧ Place S (home N id) p ∧ ∀ q, q < S.length → ¬ ((slAt S q).1 = 1 ∧ (slAt S q).2.1 = id))
  case first =>
    go_wp2_with fail
    go_loopw [7, 8] (fun s7 s8 wr => ∃ (t p : Nat) (f : Option Nat) (y : Int), s7 = .int .i64 (p : Int) ∧ s8 = .int .i64 y ∧ y = frV f ∧ p = (home N id + t) % N ∧ Stand w bh g N most len gr id S t f wr) (fun _ _ wr => N - stepsOf wr bh)
    case atStart => exact ⟨0, h0, none, -1, rfl, rfl, rfl, by rw [Hh0.out, Nat.add_zero, Nat.mod_eq_of_lt (by rw [← Hh0.out]; exact Hh.out)], ⟨Look.start _ _ _, Nat.zero_le _, HH1.out, HF1.out⟩⟩
    case round =>
      obtain ⟨t, p, f, y, rfl, rfl, hy, hp, hs⟩ := hrel
      have hpN : p < N := by rw [hp]; exact Nat.mod_lt _ (Nat.lt_of_le_of_lt (Nat.zero_le _) Hh.out)
      have htN : t < N := by
        refine Nat.lt_of_le_of_ne hs.le fun e => ?_
        have h : Look S (home N id) id S.length f := by rw [HN.out.trans e.symm]; exact hs.look
        exact h.full HZ.out.1 HZ.out.2
      obtain ⟨x, hx⟩ : ∃ x, x = slAt S p := ⟨_, rfl⟩
      have hle2 : x.1 ≤ 2 := by
        refine HG.out.le2 x ?_
        have := slAt_of (S := S) (p := p) (by rw [HN.out]; exact hpN)
        rw [← hx] at this
        exact List.mem_of_getElem? this
      obtain ⟨sa, si, sv⟩ := x
      simp only at hle2
      obtain ⟨c0, -, -, -, c4⟩ := hs.head.cells
      have fz := hs.head.free 4
      have htl : (t : Int) < (N : Int) := by omega
      have hpl : (p : Int) < (N : Int) := by omega
      have hp0 : (0 : Int) ≤ (p : Int) := by omega
      obtain ⟨t1, ht1⟩ : ∃ t1, t1 = t + 1 := ⟨_, rfl⟩
      have ht2 : (t : Int) + 1 = (t1 : Int) := by omega
      obtain ⟨ht3, ht4, -⟩ := wrap_small (x := t1) (by have := HN2.out; omega)
      obtain ⟨p1, hp1⟩ : ∃ p1, p1 = p + 1 := ⟨_, rfl⟩
      have hp2 : (p : Int) + 1 = (p1 : Int) := by omega
      obtain ⟨hp3, hp4, -⟩ := wrap_small (x := p1) (by have := HN2.out; omega)
      obtain ⟨pn, hpn⟩ : ∃ pn, pn = p1 % N := ⟨_, rfl⟩
      obtain ⟨hpn1, hpn2⟩ := mod_small (x := p1) (n := N)
      rw [← hpn] at hpn1 hpn2
      have hnext : pn = (home N id + t1) % N := by rw [hpn, hp1, hp, ht1]; exact next_turn _ _ _
      have hpnl : pn < N := by rw [hpn]; exact Nat.mod_lt _ (Nat.lt_of_le_of_lt (Nat.zero_le _) hpN)
      obtain ⟨hp5, hp6, -⟩ := wrap_small (x := pn) (Nat.le_trans (Nat.le_of_lt hpnl) (Nat.le_trans HN2.out (by decide)))
      have Hp := Lib.hid hp; have Hs := Lib.hid hs; have HpN := Lib.hid hpN; have HtN := Lib.hid htN; have HX := Lib.hid hx; have Hnext := Lib.hid hnext; have Ht1 := Lib.hid ht1
      clear hp hs hpN htN hx hnext ht1 hp1 hpn hpnl
      go_upto_region 7 with fail
      have hf3 : Fr (fun b => b = bh) w (wr.setCell ⟨bh, 4, none⟩ (.int .i64 t1)) := Fr.setCell (F := fun b => b = bh) (p := ⟨bh, 4, none⟩) Hs.out.fr (fun _ => rfl) _
      have hh3 := Hs.out.head.steps t1
      clear c0 c4 fz htl ht2 ht3 ht4
      generalize wr.setCell ⟨bh, 4, none⟩ (.int .i64 t1) = w3 at hf3 hh3 ⊢
      obtain ⟨k0, k1, k2⟩ := (HHS.out.fr hf3 (fun e => Hne.out e.symm)).cells (p := p) (by rw [HN.out]; exact HpN.out)
      rw [← HX.out] at k0 k1 k2
      simp only at k0 k1 k2
      have c0 := hh3.cells.1
      have HF3 := Lib.hid hf3; have HH3 := Lib.hid hh3
      clear hf3 hh3
      go_upto_region 8 with fail
      have hw4 : (w3.alloc (.cells #[.int .u8 (sa : Int), .int .u32 (si : Int), .int .i64 sv] 196)).heap[w3.heap.size]? = some (.cells #[.int .u8 (sa : Int), .int .u32 (si : Int), .int .i64 sv] 196 (0, 0)) := by rw [heap_alloc_get]; simp
      have hf4 : Fr (fun b => b = bh) w (w3.alloc (.cells #[.int .u8 (sa : Int), .int .u32 (si : Int), .int .i64 sv] 196)) := Fr.alloc HF3.out _
      have hh4 : HeadAt (w3.alloc (.cells #[.int .u8 (sa : Int), .int .u32 (si : Int), .int .i64 sv] 196)) bh g N most len gr t1 := HH3.out.fr (Fr.alloc (Fr.refl (fun _ => False) _) _) (fun h => h)
      clear k0 k1 k2 c0
      generalize w3.alloc (.cells #[.int .u8 (sa : Int), .int .u32 (si : Int), .int .i64 sv] 196) = w4 at hw4 hf4 hh4 ⊢
      generalize w3.heap.size = lb at hw4 ⊢
      have HF4 := Lib.hid hf4; have HH4 := Lib.hid hh4
      have ht1 : t1 ≤ N ∧ 1 ≤ t1 := by have := Ht1.out; have := HtN.out; omega
      have HT1 := Lib.hid ht1
      have hx2 : slAt S ((home N id + t) % S.length) = (sa, si, sv) := by rw [HN.out, ← Hp.out]; exact HX.out.symm
      have HX2 := Lib.hid hx2
      clear hf4 hh4 ht1 hx2
      rcases (by omega : sa = 0 ∨ sa = 2 ∨ sa = 1) with rfl | rfl | rfl
      · have b0 : w4.cell? ⟨lb, 0, none⟩ = some (.int .u8 0) := (cell_of hw4 0).trans rfl
        have HE := Lib.hid (Hs.out.look.ends HG.out (by rw [HN.out]; exact HtN.out) (by rw [HX2.out]))
        clear hw4
        cases f with
        | none =>
          obtain rfl : y = -1 := hy
          go_wp2_with fail
          go_meet
          refine ⟨p, t1, rfl, HT1.out.2, HT1.out.1, HH4.out, HF4.out, ?_, HE.out.2⟩
          have := HE.out.1
          rw [Option.getD_none, HN.out, ← Hp.out] at this
          exact this
        | some q =>
          obtain rfl : y = (q : Int) := hy
          have hq0 : decide ((q : Int) < 0) = false := by simp
          go_wp2_with fail
          go_meet
          exact ⟨q, t1, rfl, HT1.out.2, HT1.out.1, HH4.out, HF4.out, HE.out.1, HE.out.2⟩
      · have b0 : w4.cell? ⟨lb, 0, none⟩ = some (.int .u8 2) := (cell_of hw4 0).trans rfl
        clear hw4
        cases f with
        | none =>
          obtain rfl : y = -1 := hy
          have HL := Lib.hid (Hs.out.look.grave (by rw [HX2.out]))
          go_wp2_with fail
          go_roundw
          case rel => exact ⟨t1, pn, some p, _, rfl, rfl, rfl, Hnext.out, ⟨by have := HL.out; rw [HN.out, ← Hp.out, ← Ht1.out] at this; exact this, HT1.out.1, HH4.out, HF4.out⟩⟩
          case measure => have h1 := stepsOf_head Hs.out.head; have h2 := stepsOf_head HH4.out; have := HtN.out; have := Ht1.out; rw [h1, h2]; omega
        | some q =>
          obtain rfl : y = (q : Int) := hy
          have hq0 : decide ((q : Int) < 0) = false := by simp
          have HL := Lib.hid (Hs.out.look.more (by rw [HX2.out]; simp) (by rw [HX2.out]; simp))
          go_wp2_with fail
          go_roundw
          case rel => exact ⟨t1, pn, some q, _, rfl, rfl, rfl, Hnext.out, ⟨by rw [Ht1.out]; exact HL.out, HT1.out.1, HH4.out, HF4.out⟩⟩
          case measure => have h1 := stepsOf_head Hs.out.head; have h2 := stepsOf_head HH4.out; have := HtN.out; have := Ht1.out; rw [h1, h2]; omega
      · have b0 : w4.cell? ⟨lb, 0, none⟩ = some (.int .u8 1) := (cell_of hw4 0).trans rfl
        have b1 : w4.cell? ⟨lb, 1, none⟩ = some (.int .u32 (si : Int)) := (cell_of hw4 1).trans rfl
        clear hw4
        by_cases hi : si = id
        · subst hi
          have hb : ((si : Int) == (si : Int)) = true := by simp
          go_wp2_with fail
          rw [Exit.noGoto_ret]
          refine bodyPost_ret (v := .tuple #[.int .i64 (p : Int), .bool true]) ?_ rfl ?_
          · simp [results, Tryz.f114, go_sem]
          · exact ⟨t1, HT1.out.2, HT1.out.1, HH4.out, HF4.out, .inl ⟨p, rfl, HpN.out, by rw [← HX.out], by rw [← HX.out]⟩⟩
        · have hb : ((si : Int) == (id : Int)) = false := by simp; omega
          have HL := Lib.hid (Hs.out.look.more (by rw [HX2.out]; simp) (by rw [HX2.out]; exact fun h => hi h.2))
          clear hi
          go_wp2_with fail
          go_roundw
          case rel => exact ⟨t1, pn, f, y, rfl, rfl, hy, Hnext.out, ⟨by rw [Ht1.out]; exact HL.out, HT1.out.1, HH4.out, HF4.out⟩⟩
          case measure => have h1 := stepsOf_head Hs.out.head; have h2 := stepsOf_head HH4.out; have := HtN.out; have := Ht1.out; rw [h1, h2]; omega
  case rest =>
  obtain ⟨p, st', rfl, h1, h2, hh, hf, hpl, hab⟩ := hcut
  have HR := Lib.hid (show 1 ≤ st' ∧ st' ≤ N ∧ HeadAt _ bh g N most len gr st' ∧ Fr (fun b => b = bh) w _ ∧ Place S (home N id) p ∧ ∀ q, q < S.length → ¬ ((slAt S q).1 = 1 ∧ (slAt S q).2.1 = id) from ⟨h1, h2, hh, hf, hpl, hab⟩)
  clear h1 h2 hh hf hpl hab
  go_wp2_with fail
  rw [Exit.noGoto_ret]
  refine bodyPost_ret (v := .tuple #[.int .i64 (p : Int), .bool false]) ?_ rfl ?_
  · simp [results, Tryz.f114, go_sem]
  · obtain ⟨h1, h2, hh, hf, hpl, hab⟩ := HR.out
    exact ⟨st', h1, h2, hh, hf, .inr ⟨p, rfl, hpl, hab⟩⟩
end Go.Proofs.YtffnjnnmlfgngaaGreat.Ix
namespace Go.Proofs.YtffnjnnmlfgngaaGreat.Ix
open Go.RowKit
/-- An index's parts, whatever it is laden with. -/
structure Raw (w : World) (bh g N most : Nat) (S : List Sl) (L : List (Nat × Int)) (st : Nat) : Prop where
  head : HeadAt w bh g N most L.length (graves S) st
  slots : SlotsAt w g S
  len : S.length = N
  good : Good (home N) S
  maps : Maps S L
  ids : ∀ x ∈ L, x.1 < 4294967296
  ne : bh ≠ g
  lo : 2 * most ≤ N
  one : 1 ≤ most
  hi : N ≤ 8192
/-- An index that holds L, for at most so many; st: the last search's steps. -/
def IxAt (w : World) (bh g N most : Nat) (L : List (Nat × Int)) (st : Nat) : Prop := ∃ S, Raw w bh g N most S L st ∧ 4 * (L.length + graves S) ≤ 3 * N ∧ L.length ≤ most ∧ st ≤ N
theorem Raw.fr {w w' : World} {bh g N most : Nat} {S : List Sl} {L : List (Nat × Int)} {st : Nat} (h : Raw w bh g N most S L st) {F : Nat → Prop} (f : Fr F w w') (h1 : ¬ F bh) (h2 : ¬ F g) : Raw w' bh g N most S L st :=
  ⟨h.head.fr f h1, h.slots.fr f h2, h.len, h.good, h.maps, h.ids, h.ne, h.lo, h.one, h.hi⟩
theorem IxAt.fr {w w' : World} {bh g N most : Nat} {L : List (Nat × Int)} {st : Nat} (h : IxAt w bh g N most L st) {F : Nat → Prop} (f : Fr F w w') (h1 : ¬ F bh) (h2 : ¬ F g) : IxAt w' bh g N most L st := by
  obtain ⟨S, hr, h3⟩ := h; exact ⟨S, hr.fr f h1 h2, h3⟩
theorem Raw.gap {w : World} {bh g N most : Nat} {S : List Sl} {L : List (Nat × Int)} {st : Nat} (h : Raw w bh g N most S L st) (hl : L.length + graves S < N) : ∃ p, p < N ∧ (slAt S p).1 = 0 := by
  have := _root_.Go.Proofs.YtffnjnnmlfgngaaGreat.Ix.gap h.good.le2 (by rw [← h.maps.length, h.len]; exact hl)
  rwa [h.len] at this
theorem IxAt.lt {w : World} {bh g N most : Nat} {L : List (Nat × Int)} {st : Nat} (h : IxAt w bh g N most L st) : bh < w.heap.size ∧ g < w.heap.size := by
  obtain ⟨S, hr, _⟩ := h; exact ⟨hr.head.lt, hr.slots.lt⟩
theorem IxAt.ne {w : World} {bh g N most : Nat} {L : List (Nat × Int)} {st : Nat} (h : IxAt w bh g N most L st) : bh ≠ g := by
  obtain ⟨S, hr, _⟩ := h; exact hr.ne
theorem IxAt.up {w : World} {bh g N most : Nat} {L : List (Nat × Int)} {st : Nat} (h : IxAt w bh g N most L st) : L.Pairwise fun a b => a.1 < b.1 := by
  obtain ⟨S, hr, _⟩ := h; exact hr.maps.up
/-- Find, over an index's parts. -/
theorem find_raw {w : World} {bh g N most st id : Nat} {S : List Sl} {L : List (Nat × Int)} (H : Raw w bh g N most S L st) (hl : L.length + graves S < N) (hid : id < 4294967296) :
    Calls Tryz.prog 114 #[.pointer (some ⟨bh, 0, none⟩), .int .u32 (id : Int)] w fun e w' => ∃ st', 1 ≤ st' ∧ st' ≤ N ∧ Raw w' bh g N most S L st' ∧ Fr (fun b => b = bh) w w' ∧ Found S N id e := by
  refine (find_ok H.head H.slots H.len H.good (H.gap hl) H.ne hid H.hi).mono ?_
  rintro e w' ⟨st', h1, h2, h3, h4, h5⟩
  exact ⟨st', h1, h2, ⟨h3, H.slots.fr h4 (fun e => H.ne e.symm), H.len, H.good, H.maps, H.ids, H.ne, H.lo, H.one, H.hi⟩, h4, h5⟩
theorem upd_none {L : List (Nat × Int)} {id : Nat} (v : Int) (h : look L id = none) : upd L id v = L := by
  unfold upd
  conv => rhs; rw [← List.map_id L]
  apply List.map_congr_left
  intro x hx
  rw [if_neg (look_none.1 h x hx)]; rfl
theorem del_none {L : List (Nat × Int)} {id : Nat} (h : look L id = none) : del L id = L := by
  unfold del
  rw [List.filter_eq_self]
  intro x hx
  simpa using look_none.1 h x hx
section simple
variable {w : World} {bh g N most : Nat} {L : List (Nat × Int)} {st : Nat}
set_option maxRecDepth 100000 in
theorem len_ok (h : IxAt w bh g N most L st) : Calls Tryz.prog 80 #[.pointer (some ⟨bh, 0, none⟩)] w fun e w' => e = .returned (.int .i64 (L.length : Int)) ∧ w = w' := by
  obtain ⟨S, hr, _⟩ := h
  have c := hr.head.cells.2.2.1
  have H := Lib.hid hr.head
  clear hr
  go_enter Tryz.func80, Tryz.ntmps80
  go_wp2_with fail
  refine (made_ok H.out).mono ?_
  rintro e w1 ⟨rfl, rfl⟩
  go_wp2_with fail
  go_ret
  exact ⟨rfl, rfl⟩
theorem load_lt (hr : 2 * most ≤ N) (h1 : 1 ≤ most) {l gr : Nat} (h : 4 * (l + gr) ≤ 3 * N) : l + gr < N := by omega
set_option maxRecDepth 100000 in
theorem get_ok (h : IxAt w bh g N most L st) {id : Nat} (hid : id < 4294967296) : Calls Tryz.prog 91 #[.pointer (some ⟨bh, 0, none⟩), .int .u32 (id : Int)] w fun e w' => ∃ st', 1 ≤ st' ∧ e = .returned (.tuple #[.int .i64 ((look L id).getD 0), .bool (look L id).isSome]) ∧ IxAt w' bh g N most L st' ∧ Fr (fun b => b = bh) w w' := by
  obtain ⟨S, hr, hl1, hl2, hl3⟩ := h
  have HF := Lib.hid (find_raw hr (load_lt hr.lo hr.one hl1) hid)
  have H := Lib.hid hr.head; have HL := Lib.hid hl1; have HL2 := Lib.hid hl2
  clear hr hl1 hl2 hl3 hid
  go_enter Tryz.func91, Tryz.ntmps91
  go_wp2_with fail
  refine (made_ok H.out).mono ?_
  rintro e w1 ⟨rfl, rfl⟩
  go_wp2_with fail
  refine HF.out.mono ?_
  rintro e w1 ⟨st', h1, h2, hr, hf, hd⟩
  rcases hd with ⟨p, rfl, hp, hs⟩ | ⟨p, rfl, -, ha⟩
  · have hlk := hr.maps.found (by rw [hr.len]; exact hp) hs
    have c0 := hr.head.cells.1
    have c2 := (hr.slots.cells (p := p) (by rw [hr.len]; exact hp)).2.2
    have hpl : (p : Int) < (N : Int) := by omega
    have HR := Lib.hid hr; have Hf := Lib.hid hf; have HK := Lib.hid hlk; have HS := Lib.hid (And.intro h1 h2)
    clear hr hf hlk h1 h2 hs hp
    go_wp2_with fail
    refine bodyPost_ret (v := .tuple #[.int .i64 (slAt S p).2.2, .bool true]) ?_ rfl ?_
    · simp [results, Tryz.f91, go_sem]
    · exact ⟨st', HS.out.1, by rw [HK.out]; rfl, ⟨S, HR.out, HL.out, HL2.out, HS.out.2⟩, Hf.out⟩
  · have hlk := hr.maps.absent ha
    have HR := Lib.hid hr; have Hf := Lib.hid hf; have HK := Lib.hid hlk; have HS := Lib.hid (And.intro h1 h2)
    clear hr hf hlk h1 h2 ha
    go_wp2_with fail
    refine bodyPost_ret (v := .tuple #[.int .i64 0, .bool false]) ?_ rfl ?_
    · simp [results, Tryz.f91, go_sem]
    · exact ⟨st', HS.out.1, by rw [HK.out]; rfl, ⟨S, HR.out, HL.out, HL2.out, HS.out.2⟩, Hf.out⟩
theorem look_mem (hu : L.Pairwise fun a b => a.1 < b.1) {id : Nat} {v : Int} (h : look L id = some v) : ∃ x ∈ L, x.1 = id := ⟨(id, v), (look_of hu).1 h, rfl⟩
theorem Raw.upd {S : List Sl} {w' : World} (hr : Raw w bh g N most S L st) {p id : Nat} (v : Int) (hp : p < N) (hs : (slAt S p).1 = 1 ∧ (slAt S p).2.1 = id) (hh : HeadAt w' bh g N most L.length (graves S) st) (hsl : SlotsAt w' g (S.set p (1, id, v))) : Raw w' bh g N most (S.set p (1, id, v)) (upd L id v) st ∧ graves (S.set p (1, id, v)) = graves S := by
  have hp' : p < S.length := by rw [hr.len]; exact hp
  have hg : graves (S.set p (1, id, v)) = graves S := by
    have := graves_set hp' (1, id, v)
    rw [if_neg (by rw [hs.1]; simp), if_neg (by simp)] at this; omega
  refine ⟨⟨?_, hsl, by rw [List.length_set]; exact hr.len, hr.good.setv hp' hs, hr.maps.setv hr.good hp' hs, ?_, hr.ne, hr.lo, hr.one, hr.hi⟩, hg⟩
  · rw [upd_length, hg]; exact hh
  · intro x hx
    obtain ⟨y, hy, rfl⟩ := List.mem_map.1 hx
    obtain ⟨z, hz, hzi⟩ := look_mem hr.maps.up (hr.maps.found hp' hs)
    split
    · exact hzi ▸ hr.ids z hz
    · exact hr.ids y hy
set_option maxRecDepth 100000 in
theorem set_ok (h : IxAt w bh g N most L st) {id : Nat} (hid : id < 4294967296) (v : Int) : Calls Tryz.prog 111 #[.pointer (some ⟨bh, 0, none⟩), .int .u32 (id : Int), .int .i64 v] w fun e w' => ∃ st', 1 ≤ st' ∧ e = .returned (.bool (look L id).isSome) ∧ IxAt w' bh g N most (upd L id v) st' ∧ Fr (fun b => b = bh ∨ b = g) w w' := by
  obtain ⟨S, hr, hl1, hl2, hl3⟩ := h
  have HF := Lib.hid (find_raw hr (load_lt hr.lo hr.one hl1) hid)
  have H := Lib.hid hr.head; have HL := Lib.hid hl1; have HL2 := Lib.hid hl2
  clear hr hl1 hl2 hl3 hid
  go_enter Tryz.func111, Tryz.ntmps111
  go_wp2_with fail
  refine (made_ok H.out).mono ?_
  rintro e w1 ⟨rfl, rfl⟩
  go_wp2_with fail
  refine HF.out.mono ?_
  rintro e w1 ⟨st', h1, h2, hr, hf, hd⟩
  rcases hd with ⟨p, rfl, hp, hs⟩ | ⟨p, rfl, -, ha⟩
  · have hlk := hr.maps.found (by rw [hr.len]; exact hp) hs
    have c0 := hr.head.cells.1
    have c2 := (hr.slots.cells (p := p) (by rw [hr.len]; exact hp)).2.2
    have fz := hr.slots.free (p * 3 + 2)
    have hpl : (p : Int) < (N : Int) := by omega
    have hsl := hr.slots.setv (p := p) (by rw [hr.len]; exact hp) v
    rw [hs.1, hs.2] at hsl
    have hfs : Fr (fun b => b = bh ∨ b = g) w (w1.setCell ⟨g, p * 3 + 2, none⟩ (.int .i64 v)) := Fr.setCell (F := fun b => b = bh ∨ b = g) (p := ⟨g, p * 3 + 2, none⟩) (hf.mono (fun _ _ h => .inl h)) (fun _ => .inr rfl) _
    have hh := hr.head.fr (Fr.setCell (F := fun b => b = g) (p := ⟨g, p * 3 + 2, none⟩) (Fr.refl _ w1) (fun _ => rfl) (.int .i64 v)) hr.ne
    have HR := Lib.hid (hr.upd v hp hs hh hsl); have Hf := Lib.hid hfs; have HK := Lib.hid hlk; have HS := Lib.hid (And.intro h1 h2)
    clear hr hf hlk h1 h2 hs hp hsl hfs hh
    go_wp2_with fail
    go_ret
    obtain ⟨hr, hg⟩ := HR.out
    exact ⟨st', HS.out.1, by rw [HK.out]; rfl, ⟨_, hr, by rw [hg, upd_length]; exact HL.out, by rw [upd_length]; exact HL2.out, HS.out.2⟩, Hf.out⟩
  · have hlk := hr.maps.absent ha
    have HR := Lib.hid hr; have Hf := Lib.hid hf; have HK := Lib.hid hlk; have HS := Lib.hid (And.intro h1 h2)
    clear hr hf hlk h1 h2 ha
    go_wp2_with fail
    go_ret
    exact ⟨st', HS.out.1, by rw [HK.out]; rfl, by rw [upd_none v HK.out]; exact ⟨S, HR.out, HL.out, HL2.out, HS.out.2⟩, Hf.out.mono (fun _ _ h => .inl h)⟩
theorem Raw.del {S : List Sl} {w' : World} (hr : Raw w bh g N most S L st) {p id : Nat} (hp : p < N) (hs : (slAt S p).1 = 1 ∧ (slAt S p).2.1 = id) (hh : HeadAt w' bh g N most (L.length - 1) (graves S + 1) st) (hsl : SlotsAt w' g (S.set p (2, 0, 0))) : Raw w' bh g N most (S.set p (2, 0, 0)) (del L id) st ∧ graves (S.set p (2, 0, 0)) = graves S + 1 ∧ (del L id).length + 1 = L.length := by
  have hp' : p < S.length := by rw [hr.len]; exact hp
  have hg : graves (S.set p (2, 0, 0)) = graves S + 1 := by
    have := graves_set hp' (2, 0, 0)
    rw [if_neg (by rw [hs.1]; simp), if_pos (by simp)] at this; omega
  have hd := del_length hr.maps.up (hr.maps.found hp' hs)
  refine ⟨⟨?_, hsl, by rw [List.length_set]; exact hr.len, hr.good.drop hp', hr.maps.drop hr.good hp' hs, ?_, hr.ne, hr.lo, hr.one, hr.hi⟩, hg, hd⟩
  · rw [hg, show (Ix.del L id).length = L.length - 1 by omega]; exact hh
  · intro x hx
    exact hr.ids x (List.mem_filter.1 hx).1
set_option maxRecDepth 100000 in
theorem drop_ok (h : IxAt w bh g N most L st) {id : Nat} (hid : id < 4294967296) : Calls Tryz.prog 109 #[.pointer (some ⟨bh, 0, none⟩), .int .u32 (id : Int)] w fun e w' => ∃ st', 1 ≤ st' ∧ e = .returned (.bool (look L id).isSome) ∧ IxAt w' bh g N most (del L id) st' ∧ Fr (fun b => b = bh ∨ b = g) w w' := by
  obtain ⟨S, hr, hl1, hl2, hl3⟩ := h
  have HF := Lib.hid (find_raw hr (load_lt hr.lo hr.one hl1) hid)
  have H := Lib.hid hr.head; have HL := Lib.hid hl1; have HL2 := Lib.hid hl2
  have hN8 := hr.hi
  have hm : L.length ≤ most := hl2
  have hlo := hr.lo
  obtain ⟨q, hq⟩ : ∃ q, q = L.length := ⟨_, rfl⟩
  obtain ⟨gr, hgr⟩ : ∃ gr, gr = graves S := ⟨_, rfl⟩
  have hq6 : q ≤ 8192 := by omega
  have hgr6 : gr ≤ 8192 := by rw [hgr]; exact Nat.le_trans (graves_le S) (by rw [hr.len]; exact hr.hi)
  have HQ := Lib.hid hq; have HGR := Lib.hid hgr
  clear hr hl1 hl2 hl3 hid hm hq hgr hlo hN8
  go_enter Tryz.func109, Tryz.ntmps109
  go_wp2_with fail
  refine (made_ok H.out).mono ?_
  rintro e w1 ⟨rfl, rfl⟩
  go_wp2_with fail
  refine HF.out.mono ?_
  rintro e w1 ⟨st', h1, h2, hr, hf, hd⟩
  rcases hd with ⟨p, rfl, hp, hs⟩ | ⟨p, rfl, -, ha⟩
  · have hp' : p < S.length := by rw [hr.len]; exact hp
    have hlk := hr.maps.found hp' hs
    have hq1 : 1 ≤ q := by have := del_length hr.maps.up hlk; rw [HQ.out]; omega
    have hhd := hr.head
    rw [← HQ.out, ← HGR.out] at hhd
    have c0 := hhd.cells.1
    obtain ⟨k0, k1, k2⟩ := hr.slots.cells hp'
    have z0 := hr.slots.free (p * 3); have z1 := hr.slots.free (p * 3 + 1); have z2 := hr.slots.free (p * 3 + 2)
    have hpl : (p : Int) < (N : Int) := by omega
    have hsl : SlotsAt (((w1.setCell ⟨g, p * 3, none⟩ (.int .u8 2)).setCell ⟨g, p * 3 + 1, none⟩ (.int .u32 0)).setCell ⟨g, p * 3 + 2, none⟩ (.int .i64 0)) g (S.set p (2, 0, 0)) := hr.slots.set hp' (2, 0, 0)
    have fs : Fr (fun b => b = g) w1 (((w1.setCell ⟨g, p * 3, none⟩ (.int .u8 2)).setCell ⟨g, p * 3 + 1, none⟩ (.int .u32 0)).setCell ⟨g, p * 3 + 2, none⟩ (.int .i64 0)) := Fr.setCell (F := fun b => b = g) (p := ⟨g, p * 3 + 2, none⟩) (Fr.setCell (F := fun b => b = g) (p := ⟨g, p * 3 + 1, none⟩) (Fr.setCell (F := fun b => b = g) (p := ⟨g, p * 3, none⟩) (Fr.refl _ w1) (fun _ => rfl) _) (fun _ => rfl) _) (fun _ => rfl) _
    have HR := Lib.hid hr; have Hf := Lib.hid hf; have HK := Lib.hid hlk; have HS := Lib.hid (And.intro h1 h2); have Hhd := Lib.hid hhd; have Hsl := Lib.hid hsl; have Fs := Lib.hid fs; have Hp := Lib.hid hp; have Hs := Lib.hid hs
    clear hr hf hlk h1 h2 hp hp' hhd hsl fs hs
    go_upto_region 6 with fail
    have hh2 := Hhd.out.fr Fs.out HR.out.ne
    have hsl2 := Hsl.out
    have hf2 := Hf.out.mono (G := fun b => b = bh ∨ b = g) (fun _ _ h => .inl h) |>.trans Fs.out (fun _ _ h => .inr h)
    clear k0 k1 k2 z0 z1 z2 c0 hpl
    generalize ((w1.setCell ⟨g, p * 3, none⟩ (.int .u8 2)).setCell ⟨g, p * 3 + 1, none⟩ (.int .u32 0)).setCell ⟨g, p * 3 + 2, none⟩ (.int .i64 0) = w3 at hh2 hsl2 hf2 ⊢
    obtain ⟨q1, hq2⟩ : ∃ q1, q = q1 + 1 := ⟨q - 1, by omega⟩
    have e1 : (q : Int) - 1 = (q1 : Int) := by omega
    obtain ⟨e2, e3, -⟩ := wrap_small (x := q1) (by omega)
    have e4 : (gr : Int) + 1 = ((gr + 1 : Nat) : Int) := by omega
    obtain ⟨e5, e6, -⟩ := wrap_small (x := gr + 1) (by omega)
    obtain ⟨gr1, hgr1⟩ : ∃ gr1, gr1 = gr + 1 := ⟨_, rfl⟩
    rw [← hgr1] at e4 e5 e6
    obtain ⟨-, -, c2, c3, -⟩ := hh2.cells
    have z2 := hh2.free 2; have z3 := hh2.free 3
    have hh3 := (hh2.len q1).graves gr1
    have hsl3 : SlotsAt ((w3.setCell ⟨bh, 2, none⟩ (.int .i64 (q1 : Int))).setCell ⟨bh, 3, none⟩ (.int .i64 (gr1 : Int))) g (S.set p (2, 0, 0)) := hsl2.fr (Fr.setCell (F := fun b => b = bh) (p := ⟨bh, 3, none⟩) (Fr.setCell (F := fun b => b = bh) (p := ⟨bh, 2, none⟩) (Fr.refl _ w3) (fun _ => rfl) _) (fun _ => rfl) _) (fun e => HR.out.ne e.symm)
    have hf3 : Fr (fun b => b = bh ∨ b = g) w ((w3.setCell ⟨bh, 2, none⟩ (.int .i64 (q1 : Int))).setCell ⟨bh, 3, none⟩ (.int .i64 (gr1 : Int))) := Fr.setCell (F := fun b => b = bh ∨ b = g) (p := ⟨bh, 3, none⟩) (Fr.setCell (F := fun b => b = bh ∨ b = g) (p := ⟨bh, 2, none⟩) hf2 (fun _ => .inl rfl) _) (fun _ => .inl rfl) _
    have hq1e : q1 = L.length - 1 := by rw [← HQ.out]; omega
    rw [hq1e, hgr1, HGR.out, ← hq1e] at hh3
    have HRD := Lib.hid (HR.out.del Hp.out Hs.out (by rw [← hq1e]; exact hh3) (by have h := hsl3; rw [hgr1, HGR.out] at h; exact h))
    have Hf3 := Lib.hid hf3; have Hg1 := Lib.hid hgr1
    clear hh2 hsl2 hf2 hh3 hsl3 hf3 hq1e hq2 hgr1 hq6 hgr6 hq1
    go_wp2_with fail
    go_ret
    obtain ⟨hr, hg, hd⟩ := HRD.out
    refine ⟨st', HS.out.1, by rw [HK.out]; rfl, ⟨_, ?_, by rw [hg]; have := HL.out; omega, by have := HL2.out; omega, HS.out.2⟩, Hf3.out⟩
    have e := Hg1.out
    rw [HGR.out] at e
    rw [e]; exact hr
  · have hlk := hr.maps.absent ha
    have HR := Lib.hid hr; have Hf := Lib.hid hf; have HK := Lib.hid hlk; have HS := Lib.hid (And.intro h1 h2)
    clear hr hf hlk h1 h2 ha hq6 hgr6
    go_wp2_with fail
    go_ret
    exact ⟨st', HS.out.1, by rw [HK.out]; rfl, by rw [del_none HK.out]; exact ⟨S, HR.out, HL.out, HL2.out, HS.out.2⟩, Hf.out.mono (fun _ _ h => .inl h)⟩
end simple
end Go.Proofs.YtffnjnnmlfgngaaGreat.Ix
namespace Go.Proofs.YtffnjnnmlfgngaaGreat.Du
open Go.RowKit
/-- fv is a function value that answers lt of items in A; it keeps J, and writes no blocks but those in FJ. -/
structure LessOk (P : Program) (fv : Value) (lt : Int → Int → Bool) (J : World → Prop) (FJ : Nat → Prop) (A : Int → Prop) (fl : Nat) (caps : Array Value) : Prop where
  eq : fv = .func (.func fl) #[] caps
  enter : ∀ args w, (callFunc fl args).run P w = .ok (.enter fl args) w
  call : ∀ w x y, J w → A x → A y → Calls P fl (#[.agg #[.int .i64 (dU x), .int .u32 (dI x)], .agg #[.int .i64 (dU y), .int .u32 (dI y)]] ++ caps) w fun e w' => e = .returned (.bool (lt x y)) ∧ J w' ∧ Fr FJ w w'
  keep : ∀ w w', J w → Fr (fun b => ¬ FJ b) w w' → J w'
  bound : ∀ w b, J w → FJ b → b < w.heap.size
set_option maxRecDepth 100000 in
set_option maxHeartbeats 1000000 in
theorem ahead_spec {fv : Value} {lt : Int → Int → Bool} {J : World → Prop} {FJ : Nat → Prop} {A : Int → Prop} {fl : Nat} {caps : Array Value} (hL : LessOk Tryz.prog fv lt J FJ A fl caps)
    {w : World} (hJ : J w) {bh bi n cap : Nat} {mv nv : Value} {arr : Array Value}
    (hH : w.heap[bh]? = some (.cells #[fv, .slice (some ⟨bi, 0, none⟩) n cap, mv, nv] 160 (0, 0)))
    (hI : w.heap[bi]? = some (.cells arr 199 (0, 0))) (hbh : ¬ FJ bh) (_hbi : ¬ FJ bi)
    {i k : Nat} (hi : (i : Int) < n) (hk : (k : Int) < n) (_hn : n ≤ 9223372036854775807) {xv xh yv yh : Int}
    (h1 : arr[i * 3]? = some (.int .i64 (dU xv))) (h1' : arr[i * 3 + 1]? = some (.int .u32 (dI xv))) (h2 : arr[i * 3 + 2]? = some (.int .i64 xh)) (h3 : arr[k * 3]? = some (.int .i64 (dU yv))) (h3' : arr[k * 3 + 1]? = some (.int .u32 (dI yv))) (h4 : arr[k * 3 + 2]? = some (.int .i64 yh))
    (hx : A xv) (hy : A yv) :
    Calls Tryz.prog 143 #[.pointer (some ⟨bh, 0, none⟩), .int .i64 i, .int .i64 k] w fun e w' => e = .returned (.bool (aheadB lt xv xh yv yh)) ∧ J w' ∧ Fr FJ w w' := by
  have hfv := hL.eq
  subst hfv
  have c0 := (cell_of hH 0); have c1 := (cell_of hH 1)
  simp at c0 c1
  have d1 := (cell_of hI (i * 3)).trans h1
  have d1' := (cell_of hI (i * 3 + 1)).trans h1'
  have d2 := (cell_of hI (i * 3 + 2)).trans h2
  have d3 := (cell_of hI (k * 3)).trans h3
  have d3' := (cell_of hI (k * 3 + 1)).trans h3'
  have d4 := (cell_of hI (k * 3 + 2)).trans h4
  have lh := lt_of_block hH
  have li := lt_of_block hI
  have hent := hL.enter
  have hB := Lib.hid (hL.bound w)
  have HL := Lib.hid hL
  have HH := Lib.hid hH; have HI := Lib.hid hI
  clear hH hI h1 h1' h2 h3 h3' h4 hL
  go_enter Tryz.func143, Tryz.ntmps143
  go_upto_region 1 with fail
  go_cut [7, 8] (fun a b wx => ∃ ba bb : Nat, a = .pointer (some ⟨ba, 0, none⟩) ∧ b = .pointer (some ⟨bb, 0, none⟩) ∧ w.heap.size ≤ ba ∧ w.heap.size ≤ bb ∧ wx.heap[ba]? = some (.cells #[.int .i64 (dU xv), .int .u32 (dI xv), .int .i64 xh] 199 (0, 0)) ∧ wx.heap[bb]? = some (.cells #[.int .i64 (dU yv), .int .u32 (dI yv), .int .i64 yh] 199 (0, 0)) ∧ Fr (fun _ => False) w wx)
  case first =>
    go_region_held3 (fun w' => w'.cell? ⟨bh,0,none⟩ = some (.func (.func fl) #[] caps) ∧ w'.cell? ⟨bh,1,none⟩ = some (.slice (some ⟨bi,0,none⟩) n cap) ∧ w'.cell? ⟨bi, i*3, none⟩ = some (.int .i64 (dU xv)) ∧ w'.cell? ⟨bi, i*3+1, none⟩ = some (.int .u32 (dI xv)) ∧ w'.cell? ⟨bi, i*3+2, none⟩ = some (.int .i64 xh) ∧ w'.cell? ⟨bi, k*3, none⟩ = some (.int .i64 (dU yv)) ∧ w'.cell? ⟨bi, k*3+1, none⟩ = some (.int .u32 (dI yv)) ∧ w'.cell? ⟨bi, k*3+2, none⟩ = some (.int .i64 yh)) (go_keep) (fail)
    all_goals (go_wp2_with fail; go_meet)
    · exact ⟨_, _, rfl, rfl, by simp, by simp, by simp only [heap_alloc_get, heap_drew, World.size_alloc]; simp, by simp only [heap_alloc_get, heap_drew, World.size_alloc]; simp, (((Fr.refl _ _).alloc _).alloc _).drew⟩
    · exact ⟨_, _, rfl, rfl, by simp, by simp, by simp only [heap_alloc_get, heap_drew, World.size_alloc]; simp, by simp only [heap_alloc_get, heap_drew, World.size_alloc]; simp, (((Fr.refl _ _).alloc _).alloc _).drew⟩
  case rest =>
    obtain ⟨ba, bb, rfl, rfl, ga, gb, ha, hb, hf⟩ := hcut
    have e0 := (hf.cell (o := 0) (s := none) lh (fun h => h)).trans c0
    have a0 := cell_of ha 0; have a1 := cell_of ha 1; have a2 := cell_of ha 2
    have b0 := cell_of hb 0; have b1 := cell_of hb 1; have b2 := cell_of hb 2
    simp at a0 a1 a2 b0 b1 b2
    have lca := lt_of_block ha; have lcb := lt_of_block hb
    have hJc := Lib.hid (HL.out.keep w wc hJ (hf.mono (fun _ _ h => h.elim)))
    have na : ¬ FJ ba := fun h => by have := hB.out ba hJ h; omega
    have nb : ¬ FJ bb := fun h => by have := hB.out bb hJ h; omega
    have lhc : bh < wc.heap.size := Nat.lt_of_lt_of_le lh hf.size
    have Hf := Lib.hid hf
    clear c0 c1 d1 d1' d2 d3 d3' d4 ha hb hf hJ
    cases hxy : lt xv yv
    · cases hyx : lt yv xv
      · go_wp2_with fail
        go_region_held3 (fun w' => w'.cell? ⟨bh,0,none⟩ = some (.func (.func fl) #[] caps) ∧ w'.cell? ⟨ba,0,none⟩ = some (.int .i64 (dU xv)) ∧ w'.cell? ⟨ba,1,none⟩ = some (.int .u32 (dI xv)) ∧ w'.cell? ⟨ba,2,none⟩ = some (.int .i64 xh) ∧ w'.cell? ⟨bb,0,none⟩ = some (.int .i64 (dU yv)) ∧ w'.cell? ⟨bb,1,none⟩ = some (.int .u32 (dI yv)) ∧ w'.cell? ⟨bb,2,none⟩ = some (.int .i64 yh))
          (first | (go_keep; done) | (refine ⟨?_, ?_, ?_, ?_, ?_, ?_, ?_⟩ <;> (first | exact (hf1.cell lhc hbh).trans e0 | exact (hf1.cell lca na).trans a0 | exact (hf1.cell lca na).trans a1 | exact (hf1.cell lca na).trans a2 | exact (hf1.cell lcb nb).trans b0 | exact (hf1.cell lcb nb).trans b1 | exact (hf1.cell lcb nb).trans b2)))
          (first | (refine (HL.out.call _ xv yv (HL.out.keep _ _ hJc.out (Fr.drew (Fr.refl _ _))) hx hy).mono ?_; rintro e w1 ⟨rfl, hJ1, hf1⟩))
        have f0 := (hf1.cell (o := 0) (s := none) lhc hbh).trans e0
        have f1 := (hf1.cell (o := 0) (s := none) lca na).trans a0
        have f2 := (hf1.cell (o := 1) (s := none) lca na).trans a1
        have f2' := (hf1.cell (o := 2) (s := none) lca na).trans a2
        have f3 := (hf1.cell (o := 0) (s := none) lcb nb).trans b0
        have f4 := (hf1.cell (o := 1) (s := none) lcb nb).trans b1
        have f4' := (hf1.cell (o := 2) (s := none) lcb nb).trans b2
        have HJ1 := Lib.hid hJ1; have HF1 := Lib.hid hf1; clear hJ1
        go_wp2_with fail
        go_region_held3 (fun w' => w'.cell? ⟨bh,0,none⟩ = some (.func (.func fl) #[] caps) ∧ w'.cell? ⟨ba,0,none⟩ = some (.int .i64 (dU xv)) ∧ w'.cell? ⟨ba,1,none⟩ = some (.int .u32 (dI xv)) ∧ w'.cell? ⟨ba,2,none⟩ = some (.int .i64 xh) ∧ w'.cell? ⟨bb,0,none⟩ = some (.int .i64 (dU yv)) ∧ w'.cell? ⟨bb,1,none⟩ = some (.int .u32 (dI yv)) ∧ w'.cell? ⟨bb,2,none⟩ = some (.int .i64 yh))
          (first | (go_keep; done) | (refine ⟨?_, ?_, ?_, ?_, ?_, ?_, ?_⟩ <;> (first | exact (hf2.cell (Nat.lt_of_lt_of_le lhc hf1.size) hbh).trans f0 | exact (hf2.cell (Nat.lt_of_lt_of_le lca hf1.size) na).trans f1 | exact (hf2.cell (Nat.lt_of_lt_of_le lca hf1.size) na).trans f2 | exact (hf2.cell (Nat.lt_of_lt_of_le lca hf1.size) na).trans f2' | exact (hf2.cell (Nat.lt_of_lt_of_le lcb hf1.size) nb).trans f3 | exact (hf2.cell (Nat.lt_of_lt_of_le lcb hf1.size) nb).trans f4 | exact (hf2.cell (Nat.lt_of_lt_of_le lcb hf1.size) nb).trans f4')))
          (first | (refine (HL.out.call _ yv xv (HL.out.keep _ _ HJ1.out (Fr.drew (Fr.refl _ _))) hy hx).mono ?_; rintro e w2 ⟨rfl, hJ2, hf2⟩))
        go_wp2_with fail
        go_ret
        exact ⟨by simp [aheadB, hxy, hyx], hJ2, ((Hf.out.mono (fun _ _ h => h.elim)).drew.trans HF1.out (fun _ _ h => h)).drew.trans hf2 (fun _ _ h => h)⟩
      · go_wp2_with fail
        go_region_held3 (fun w' => w'.cell? ⟨bh,0,none⟩ = some (.func (.func fl) #[] caps) ∧ w'.cell? ⟨ba,0,none⟩ = some (.int .i64 (dU xv)) ∧ w'.cell? ⟨ba,1,none⟩ = some (.int .u32 (dI xv)) ∧ w'.cell? ⟨ba,2,none⟩ = some (.int .i64 xh) ∧ w'.cell? ⟨bb,0,none⟩ = some (.int .i64 (dU yv)) ∧ w'.cell? ⟨bb,1,none⟩ = some (.int .u32 (dI yv)) ∧ w'.cell? ⟨bb,2,none⟩ = some (.int .i64 yh))
          (first | (go_keep; done) | (refine ⟨?_, ?_, ?_, ?_, ?_, ?_, ?_⟩ <;> (first | exact (hf1.cell lhc hbh).trans e0 | exact (hf1.cell lca na).trans a0 | exact (hf1.cell lca na).trans a1 | exact (hf1.cell lca na).trans a2 | exact (hf1.cell lcb nb).trans b0 | exact (hf1.cell lcb nb).trans b1 | exact (hf1.cell lcb nb).trans b2)))
          (first | (refine (HL.out.call _ xv yv (HL.out.keep _ _ hJc.out (Fr.drew (Fr.refl _ _))) hx hy).mono ?_; rintro e w1 ⟨rfl, hJ1, hf1⟩))
        have f0 := (hf1.cell (o := 0) (s := none) lhc hbh).trans e0
        have f1 := (hf1.cell (o := 0) (s := none) lca na).trans a0
        have f2 := (hf1.cell (o := 1) (s := none) lca na).trans a1
        have f2' := (hf1.cell (o := 2) (s := none) lca na).trans a2
        have f3 := (hf1.cell (o := 0) (s := none) lcb nb).trans b0
        have f4 := (hf1.cell (o := 1) (s := none) lcb nb).trans b1
        have f4' := (hf1.cell (o := 2) (s := none) lcb nb).trans b2
        have HJ1 := Lib.hid hJ1; have HF1 := Lib.hid hf1; clear hJ1
        go_wp2_with fail
        refine wp_region_held_drew (S := (fun w' => w'.cell? ⟨bh,0,none⟩ = some (.func (.func fl) #[] caps) ∧ w'.cell? ⟨ba,0,none⟩ = some (.int .i64 (dU xv)) ∧ w'.cell? ⟨ba,1,none⟩ = some (.int .u32 (dI xv)) ∧ w'.cell? ⟨ba,2,none⟩ = some (.int .i64 xh) ∧ w'.cell? ⟨bb,0,none⟩ = some (.int .i64 (dU yv)) ∧ w'.cell? ⟨bb,1,none⟩ = some (.int .u32 (dI yv)) ∧ w'.cell? ⟨bb,2,none⟩ = some (.int .i64 yh))) (by kernel_rfl) (by go_keep) (fun hHeld => ?_)
        refine wpAnyH_take (i := 0) (v := ?_) rfl (by kernel_rfl) (by kernel_rfl) (by kernel_rfl) (fun _ _ _ h => h) (Or.inl ⟨by rfl, ?_⟩) (by assumption) ?_
        rotate_left
        · intro w' hSw; (try dsimp only at hSw); go_simp; try with_reducible rfl
        try simp only [Act.put, List.getElem_toArray, List.getElem_cons_zero, List.setIfInBounds_toArray, List.set_cons_zero, List.set_cons_succ]
        refine wpAnyH_take (i := 1) (v := ?_) rfl (by kernel_rfl) (by kernel_rfl) (by kernel_rfl) (fun _ _ _ h => h) (Or.inl ⟨by rfl, ?_⟩) (by assumption) ?_
        rotate_left
        · intro w' hSw; (try dsimp only at hSw); go_simp; try with_reducible rfl
        try simp only [Act.put, sL]
        refine wpAnyH_take (i := 2) (v := ?_) rfl (by kernel_rfl) (by kernel_rfl) (by kernel_rfl) (fun _ _ _ h => h) (Or.inl ⟨by rfl, ?_⟩) (by assumption) ?_
        rotate_left
        · intro w' hSw; (try dsimp only at hSw); go_simp; try with_reducible rfl
        try simp only [Act.put, sL]
        refine wpAnyH_take (i := 3) (v := ?_) rfl (by kernel_rfl) (by kernel_rfl) (by kernel_rfl) (fun _ _ _ h => h) (Or.inl ⟨by rfl, ?_⟩) (by assumption) ?_
        rotate_left
        · intro w' hSw; (try dsimp only at hSw); go_simp; try with_reducible rfl
        try simp only [Act.put, sL]
        refine wpAnyH_take (i := 4) (v := ?_) rfl (by kernel_rfl) (by kernel_rfl) (by kernel_rfl) (fun _ _ _ h => h) (Or.inl ⟨by rfl, ?_⟩) (by assumption) ?_
        rotate_left
        · intro w' hSw; (try dsimp only at hSw); go_simp; try with_reducible rfl
        try simp only [Act.put, sL]
        refine wpAnyH_take (i := 5) (v := ?_) rfl (by kernel_rfl) (by kernel_rfl) (by kernel_rfl) (fun _ _ _ h => h) (Or.inl ⟨by rfl, ?_⟩) (by assumption) ?_
        rotate_left
        · intro w' hSw; (try dsimp only at hSw); go_simp; try with_reducible rfl
        try simp only [Act.put, sL]
        refine wpAnyH_take (i := 6) (v := ?_) rfl (by kernel_rfl) (by kernel_rfl) (by kernel_rfl) (fun _ _ _ h => h) (Or.inl ⟨by rfl, ?_⟩) (by assumption) ?_
        rotate_left
        · intro w' hSw; (try dsimp only at hSw); go_simp; try with_reducible rfl
        try simp only [Act.put, sL]
        refine wpAnyH_take (i := 7) (v := ?_) rfl (by kernel_rfl) (by kernel_rfl) (by kernel_rfl) (fun _ _ _ h => h) (Or.inl ⟨by rfl, ?_⟩) (by assumption) ?_
        rotate_left
        · intro w' hSw; (try dsimp only at hSw); go_simp; try with_reducible rfl
        try simp only [Act.put, sL]
        refine wpAnyH_ready (rs := [8]) (by kernel_rfl) (by simp) ?_
        refine AllReadyH.cons rfl (fun K hK => ?_) AllReadyH.nil
        go_simp
        refine (HL.out.call _ yv xv (HL.out.keep _ _ HJ1.out (Fr.drew (Fr.refl _ _))) hy hx).mono ?_; rintro e w2 ⟨rfl, hJ2, hf2⟩
        try go_simp
        refine hK.out _ _ ?_ (fun hHeld => ?_)
        · (try dsimp only); (refine ⟨?_, ?_, ?_, ?_, ?_, ?_, ?_⟩ <;> (first | exact (hf2.cell (Nat.lt_of_lt_of_le lhc hf1.size) hbh).trans f0 | exact (hf2.cell (Nat.lt_of_lt_of_le lca hf1.size) na).trans f1 | exact (hf2.cell (Nat.lt_of_lt_of_le lca hf1.size) na).trans f2 | exact (hf2.cell (Nat.lt_of_lt_of_le lca hf1.size) na).trans f2' | exact (hf2.cell (Nat.lt_of_lt_of_le lcb hf1.size) nb).trans f3 | exact (hf2.cell (Nat.lt_of_lt_of_le lcb hf1.size) nb).trans f4 | exact (hf2.cell (Nat.lt_of_lt_of_le lcb hf1.size) nb).trans f4'))
        clear hK K
        try simp only [Act.put, sL]
        refine wpAnyH_take (i := 9) (v := ?_) rfl (by kernel_rfl) (by kernel_rfl) (by kernel_rfl) (fun _ _ _ h => h) (Or.inl ⟨by rfl, ?_⟩) (by assumption) ?_
        rotate_left
        · intro w' hSw; (try dsimp only at hSw); go_simp; try with_reducible rfl
        try simp only [Act.put, sL]
        refine wpAnyH_take (i := 10) (v := ?_) rfl (by kernel_rfl) (by kernel_rfl) (by kernel_rfl) (fun _ _ _ h => h) (Or.inl ⟨by rfl, ?_⟩) (by assumption) ?_
        rotate_left
        · intro w' hSw; (try dsimp only at hSw); go_simp; try with_reducible rfl
        try simp only [Act.put, sL]
        refine wpAnyH_take (i := 11) (v := undef) rfl (by kernel_rfl) (by kernel_rfl) (by kernel_rfl) (fun _ _ _ h => h) (Or.inr ⟨rfl, rfl⟩) (by assumption) ?_
        try simp only [Act.put, sL]
        refine wpAnyH_take (i := 12) (v := undef) rfl (by kernel_rfl) (by kernel_rfl) (by kernel_rfl) (fun _ _ _ h => h) (Or.inr ⟨rfl, rfl⟩) (by assumption) ?_
        try simp only [Act.put, sL]
        refine wpAnyH_take (i := 13) (v := undef) rfl (by kernel_rfl) (by kernel_rfl) (by kernel_rfl) (fun _ _ _ h => h) (Or.inr ⟨rfl, rfl⟩) (by assumption) ?_
        try simp only [Act.put, sL]
        refine wpAnyH_take (i := 14) (v := undef) rfl (by kernel_rfl) (by kernel_rfl) (by kernel_rfl) (fun _ _ _ h => h) (Or.inr ⟨rfl, rfl⟩) (by assumption) ?_
        try simp only [Act.put, sL]
        refine wpAnyH_take (i := 15) (v := undef) rfl (by kernel_rfl) (by kernel_rfl) (by kernel_rfl) (fun _ _ _ h => h) (Or.inr ⟨rfl, rfl⟩) (by assumption) ?_
        try simp only [Act.put, sL]
        refine wpAnyH_take (i := 16) (v := ?_) rfl (by kernel_rfl) (by kernel_rfl) (by kernel_rfl) (fun _ _ _ h => h) (Or.inl ⟨by rfl, ?_⟩) (by assumption) ?_
        rotate_left
        · intro w' hSw; (try dsimp only at hSw); go_simp; try with_reducible rfl
        try simp only [Act.put, sL]
        refine wpAnyH_take (i := 17) (v := ?_) rfl (by kernel_rfl) (by kernel_rfl) (by kernel_rfl) (fun _ _ _ h => h) (Or.inl ⟨by rfl, ?_⟩) (by assumption) ?_
        rotate_left
        · intro w' hSw; (try dsimp only at hSw); go_simp; try with_reducible rfl
        try simp only [Act.put, sL]
        refine wpAnyH_done (by kernel_rfl) ?_ _
        go_wp2_with fail
        go_ret
        exact ⟨by simp [aheadB, hxy, hyx], hJ2, ((Hf.out.mono (fun _ _ h => h.elim)).drew.trans HF1.out (fun _ _ h => h)).drew.trans hf2 (fun _ _ h => h)⟩
    · have hyx : True := trivial
      go_wp2_with fail
      go_region_held3 (fun w' => w'.cell? ⟨bh,0,none⟩ = some (.func (.func fl) #[] caps) ∧ w'.cell? ⟨ba,0,none⟩ = some (.int .i64 (dU xv)) ∧ w'.cell? ⟨ba,1,none⟩ = some (.int .u32 (dI xv)) ∧ w'.cell? ⟨ba,2,none⟩ = some (.int .i64 xh) ∧ w'.cell? ⟨bb,0,none⟩ = some (.int .i64 (dU yv)) ∧ w'.cell? ⟨bb,1,none⟩ = some (.int .u32 (dI yv)) ∧ w'.cell? ⟨bb,2,none⟩ = some (.int .i64 yh))
        (first | (go_keep; done) | (refine ⟨?_, ?_, ?_, ?_, ?_, ?_, ?_⟩ <;> (first | exact (hf1.cell lhc hbh).trans e0 | exact (hf1.cell lca na).trans a0 | exact (hf1.cell lca na).trans a1 | exact (hf1.cell lca na).trans a2 | exact (hf1.cell lcb nb).trans b0 | exact (hf1.cell lcb nb).trans b1 | exact (hf1.cell lcb nb).trans b2)))
        (first | (refine (HL.out.call _ xv yv (HL.out.keep _ _ hJc.out (Fr.drew (Fr.refl _ _))) hx hy).mono ?_; rintro e w1 ⟨rfl, hJ1, hf1⟩))
      go_wp2_with fail
      go_ret
      exact ⟨by simp [aheadB, hxy], hJ1, (Hf.out.mono (fun _ _ h => h.elim)).drew.trans hf1 (fun _ _ h => h)⟩
end Go.Proofs.YtffnjnnmlfgngaaGreat.Du
namespace Go.Proofs.YtffnjnnmlfgngaaGreat.Du
open Go.RowKit
/-- The row with the items at two places exchanged. -/
noncomputable def swp (arr : Array Value) (i k : Nat) (xv xh yv yh : Int) : Array Value :=
  (((((arr.setIfInBounds (i * 3) (.int .i64 (dU yv))).setIfInBounds (i * 3 + 1) (.int .u32 (dI yv))).setIfInBounds (i * 3 + 2) (.int .i64 yh)).setIfInBounds (k * 3) (.int .i64 (dU xv))).setIfInBounds (k * 3 + 1) (.int .u32 (dI xv))).setIfInBounds (k * 3 + 2) (.int .i64 xh)
theorem swp_get {arr : Array Value} {i k : Nat} {xv xh yv yh : Int} (hi : i * 3 + 2 < arr.size) (hk : k * 3 + 2 < arr.size) (j : Nat) :
    (swp arr i k xv xh yv yh)[j]? = if j = k * 3 + 2 then some (.int .i64 xh) else if j = k * 3 + 1 then some (.int .u32 (dI xv)) else if j = k * 3 then some (.int .i64 (dU xv)) else if j = i * 3 + 2 then some (.int .i64 yh) else if j = i * 3 + 1 then some (.int .u32 (dI yv)) else if j = i * 3 then some (.int .i64 (dU yv)) else arr[j]? := by
  unfold swp
  simp only [Array.getElem?_setIfInBounds, Array.size_setIfInBounds]
  repeat' split
  all_goals first | rfl | omega
theorem swp_size {arr : Array Value} {i k : Nat} {xv xh yv yh : Int} : (swp arr i k xv xh yv yh).size = arr.size := by simp [swp]
theorem swp_blk {w : World} {bi : Nat} {arr : Array Value} {t : TypeId} {z : Nat × Nat} (h : w.heap[bi]? = some (.cells arr t z)) (xv xh yv yh : Int) (i k : Nat) :
    ((((((w.setCell ⟨bi, i * 3, none⟩ (.int .i64 (dU yv))).setCell ⟨bi, i * 3 + 1, none⟩ (.int .u32 (dI yv))).setCell ⟨bi, i * 3 + 2, none⟩ (.int .i64 yh)).setCell ⟨bi, k * 3, none⟩ (.int .i64 (dU xv))).setCell ⟨bi, k * 3 + 1, none⟩ (.int .u32 (dI xv))).setCell ⟨bi, k * 3 + 2, none⟩ (.int .i64 xh)).heap[bi]? = some (.cells (swp arr i k xv xh yv yh) t z) := by
  have h1 := setCell_blk (o := i * 3) h (.int .i64 (dU yv))
  have h2 := setCell_blk (o := i * 3 + 1) h1 (.int .u32 (dI yv))
  have h3 := setCell_blk (o := i * 3 + 2) h2 (.int .i64 yh)
  have h4 := setCell_blk (o := k * 3) h3 (.int .i64 (dU xv))
  have h5 := setCell_blk (o := k * 3 + 1) h4 (.int .u32 (dI xv))
  exact setCell_blk (o := k * 3 + 2) h5 (.int .i64 xh)
theorem lt_of_get {arr : Array Value} {j : Nat} {v : Value} (h : arr[j]? = some v) : j < arr.size := by
  rcases Nat.lt_or_ge j arr.size with h' | h'
  · exact h'
  · simp [Array.getElem?_eq_none h'] at h
set_option maxRecDepth 100000 in
set_option maxHeartbeats 1000000 in
theorem swap_spec {w : World} {bh bi bm n cap : Nat} {fv nv : Value} {arr : Array Value} {f : Int → Option Int}
    (hH : w.heap[bh]? = some (.cells #[fv, .slice (some ⟨bi, 0, none⟩) n cap, .map (some bm), nv] 160 (0, 0)))
    (hI : w.heap[bi]? = some (.cells arr 199 (0, 0))) (hM : IMap w bm f) (hbi : bh ≠ bi) (hbm : bm ≠ bi)
    {i k : Nat} (hi : (i : Int) < n) (hk : (k : Int) < n) (hik : i ≠ k) (_hn : n ≤ 9223372036854775807) {xv xh yv yh : Int}
    (h1 : arr[i * 3]? = some (.int .i64 (dU xv))) (h1' : arr[i * 3 + 1]? = some (.int .u32 (dI xv))) (h2 : arr[i * 3 + 2]? = some (.int .i64 xh)) (h3 : arr[k * 3]? = some (.int .i64 (dU yv))) (h3' : arr[k * 3 + 1]? = some (.int .u32 (dI yv))) (h4 : arr[k * 3 + 2]? = some (.int .i64 yh)) :
    Calls Tryz.prog 144 #[.pointer (some ⟨bh, 0, none⟩), .int .i64 i, .int .i64 k] w fun e w' => e = .returned (.tuple #[]) ∧ Fr (fun b => b = bi ∨ b = bm) w w' ∧
      w'.heap[bi]? = some (.cells (swp arr i k xv xh yv yh) 199 (0, 0)) ∧
      IMap w' bm (fun j => if j = xh then some (k : Int) else if j = yh then some (i : Int) else f j) := by
  have c1 := (cell_of hH 1)
  have c2 := (cell_of hH 2)
  simp at c1 c2
  have d1 := (cell_of hI (i * 3)).trans h1
  have d1' := (cell_of hI (i * 3 + 1)).trans h1'
  have d2 := (cell_of hI (i * 3 + 2)).trans h2
  have d3 := (cell_of hI (k * 3)).trans h3
  have d3' := (cell_of hI (k * 3 + 1)).trans h3'
  have d4 := (cell_of hI (k * 3 + 2)).trans h4
  have z1 := free_of hI (i * 3)
  have z1' := free_of hI (i * 3 + 1)
  have z2 := free_of hI (i * 3 + 2)
  have z3 := free_of hI (k * 3)
  have z3' := free_of hI (k * 3 + 1)
  have z4 := free_of hI (k * 3 + 2)
  have lh := lt_of_block hH
  have h2' := h2; have h4' := h4
  have HH := Lib.hid hH; have HI := Lib.hid hI
  clear hH hI h1 h1' h2 h3 h3' h4
  go_enter Tryz.func144, Tryz.ntmps144
  go_upto_region 0 with fail
  go_cut [6] (fun _ wx => wx.heap[bi]? = some (.cells (swp arr i k xv xh yv yh) 199 (0, 0)) ∧ Fr (fun b => b = bi) w wx)
  case first =>
    go_region
    go_wp2_with fail
    go_meet
    refine ⟨?_, ?_⟩
    · rw [heap_drew]; exact swp_blk HI.out xv xh yv yh i k
    refine Fr.drew ?_
    iterate 6 refine Fr.setCell ?_ (by intro _; rfl) _
    exact Fr.refl _ _
  case rest =>
    obtain ⟨gI, gf⟩ := hcut
    have s1 := lt_of_get h2'; have s2 := lt_of_get h4'
    have e1 := (gf.cell (o := 1) (s := none) lh hbi).trans c1
    have e2 := (gf.cell (o := 2) (s := none) lh hbi).trans c2
    have x1 : wc.cell? ⟨bi, i * 3 + 2, none⟩ = some (.int .i64 yh) := by
      rw [cell_of gI, swp_get s1 s2, if_neg (by omega), if_neg (by omega), if_neg (by omega), if_pos rfl]
    have x2 : wc.cell? ⟨bi, k * 3 + 2, none⟩ = some (.int .i64 xh) := by
      rw [cell_of gI, swp_get s1 s2, if_pos rfl]
    have hMc : IMap wc bm f := IMap.fr hM gf hbm
    obtain ⟨es, c, hrun, hM1⟩ := run_update (P := Tryz.prog) Tryz.underlying157 Tryz.underlying3 (w := wc.drew) hMc yh i
    have hc1 : ∀ a, (setMap wc.drew bm es c).cell? a = wc.cell? a := by
      obtain ⟨l, c0, hb, _⟩ := hMc; exact fun a => setMap_cell (w := wc.drew) hb es c a
    clear c1 c2 d1 d1' d2 d3 d3' d4 z1 z1' z2 z3 z3' z4
    go_wp2_with fail
    go_region_held3 (fun w' => w'.cell? ⟨bh,1,none⟩ = some (.slice (some ⟨bi,0,none⟩) n cap) ∧ w'.cell? ⟨bh,2,none⟩ = some (.map (some bm)) ∧ w'.cell? ⟨bi, i*3+2, none⟩ = some (.int .i64 yh) ∧ w'.cell? ⟨bi, k*3+2, none⟩ = some (.int .i64 xh)) (go_keep) (fail)
    obtain ⟨es2, c2, hrun2, hM2⟩ := run_update (P := Tryz.prog) Tryz.underlying157 Tryz.underlying3 (w := (setMap wc.drew bm es c).drew) hM1 xh k
    have hc2 : ∀ a, (setMap (setMap wc.drew bm es c).drew bm es2 c2).cell? a = wc.cell? a := by
      obtain ⟨l, c0, hb, _⟩ := hM1; exact fun a => (setMap_cell (w := (setMap wc.drew bm es c).drew) hb es2 c2 a).trans (hc1 a)
    have HM2 := Lib.hid hM2; have HF := Lib.hid gf; have HG := Lib.hid gI
    clear hM2 gf gI hM1 hMc hrun
    go_wp2_with fail
    go_region_held3 (fun w' => w'.cell? ⟨bh,1,none⟩ = some (.slice (some ⟨bi,0,none⟩) n cap) ∧ w'.cell? ⟨bh,2,none⟩ = some (.map (some bm)) ∧ w'.cell? ⟨bi, i*3+2, none⟩ = some (.int .i64 yh) ∧ w'.cell? ⟨bi, k*3+2, none⟩ = some (.int .i64 xh)) (go_keep) (fail)
    go_wp2_with fail
    go_end0
    refine ⟨rfl, ?_, ?_, ?_⟩
    · refine Fr.setMap (Fr.drew (Fr.setMap (Fr.drew ?_) (fun _ => Or.inr rfl) _ _)) (fun _ => Or.inr rfl) _ _
      exact HF.out.mono (fun _ _ h => Or.inl h)
    · rw [setMap_ne (Ne.symm hbm), heap_drew, setMap_ne (Ne.symm hbm), heap_drew]; exact HG.out
    · exact HM2.out
end Go.Proofs.YtffnjnnmlfgngaaGreat.Du
namespace Go.Proofs.YtffnjnnmlfgngaaGreat.Du
open Go.RowKit
/-- The heap in block bh has the items L (n of them); its row is block bi, of capacity cap; its map is block bm. -/
structure Hp (J : World → Prop) (A : Int → Prop) (fv nv : Value) (bh bi bm n cap : Nat) (L : List It) (w : World) : Prop where
  j : J w
  hH : w.heap[bh]? = some (.cells #[fv, .slice (some ⟨bi, 0, none⟩) n cap, .map (some bm), nv] 160 (0, 0))
  row : ∃ arr, w.heap[bi]? = some (.cells arr 199 (0, 0)) ∧ arr.size = cap * 3 ∧ Cells3 arr L
  map : ∃ f, IMap w bm f ∧ PlaceOf f L
  all : ∀ i, i < n → A (itAt L i).1
  len : L.length = n
section
variable {fv : Value} {lt : Int → Int → Bool} {J : World → Prop} {FJ : Nat → Prop} {A : Int → Prop} {fl : Nat} {caps : Array Value}
variable {nv : Value} {bh bi bm n cap : Nat} {L : List It} {w : World}
theorem Hp.ne1 (h : Hp J A fv nv bh bi bm n cap L w) : bh ≠ bi := by
  intro e
  obtain ⟨arr, h1, _⟩ := h.row
  have := h.hH
  rw [e, h1] at this
  simp at this
theorem Hp.ne2 (h : Hp J A fv nv bh bi bm n cap L w) : bm ≠ bi := by
  intro e
  obtain ⟨arr, h1, _⟩ := h.row
  obtain ⟨f, ⟨l, c, h2, _⟩, _⟩ := h.map
  rw [e, h1] at h2
  simp at h2
theorem Hp.ne3 (h : Hp J A fv nv bh bi bm n cap L w) : bm ≠ bh := by
  intro e
  obtain ⟨f, ⟨l, c, h2, _⟩, _⟩ := h.map
  rw [e, h.hH] at h2
  simp at h2
theorem Hp.fr (h : Hp J A fv nv bh bi bm n cap L w) {F : Nat → Prop} {w' : World} (hf : Fr F w w') (hj : J w') (h1 : ¬ F bh) (h2 : ¬ F bi) (h3 : ¬ F bm) : Hp J A fv nv bh bi bm n cap L w' := by
  obtain ⟨arr, r1, r2, r3⟩ := h.row
  obtain ⟨f, m1, m2⟩ := h.map
  exact ⟨hj, hf.get h.hH h1, ⟨arr, hf.get r1 h2, r2, r3⟩, ⟨f, m1.fr hf h3, m2⟩, h.all, h.len⟩
theorem cells3_swp {arr : Array Value} {L : List It} (h : Cells3 arr L) {i k : Nat} (hi : i < L.length) (hk : k < L.length) (_hik : i ≠ k) :
    Cells3 (swp arr i k (itAt L i).1 (itAt L i).2 (itAt L k).1 (itAt L k).2) (swapL L i k) := by
  intro j hj
  rw [swapL_length] at hj
  have s1 := lt_of_get (h i hi).2.2
  have s2 := lt_of_get (h k hk).2.2
  rw [swp_get s1 s2, swp_get s1 s2, swp_get s1 s2, itAt_swap hi hk]
  refine ⟨?_, ?_, ?_⟩ <;> (repeat' split) <;> first | rfl | (exfalso; omega) | exact (h j hj).1 | exact (h j hj).2.1 | exact (h j hj).2.2
variable (hL : LessOk Tryz.prog fv lt J FJ A fl caps) (nh : ¬ FJ bh) (ni : ¬ FJ bi) (nm : ¬ FJ bm)
include hL nh ni nm
theorem Hp.ahead (h : Hp J A fv nv bh bi bm n cap L w) (hn : n ≤ 65536) {i k : Nat} (hi : i < n) (hk : k < n) :
    Calls Tryz.prog 143 #[.pointer (some ⟨bh, 0, none⟩), .int .i64 i, .int .i64 k] w fun e w' => e = .returned (.bool (aheadL lt L i k)) ∧ Hp J A fv nv bh bi bm n cap L w' ∧ Fr FJ w w' := by
  obtain ⟨arr, r1, r2, r3⟩ := h.row
  have hl := h.len
  refine (ahead_spec hL h.j h.hH r1 nh ni (i := i) (k := k) (by omega) (by omega) (by omega) (r3 i (by omega)).1 (r3 i (by omega)).2.1 (r3 i (by omega)).2.2 (r3 k (by omega)).1 (r3 k (by omega)).2.1 (r3 k (by omega)).2.2 (h.all i hi) (h.all k hk)).mono ?_
  rintro e w' ⟨rfl, hj, hf⟩
  exact ⟨rfl, h.fr hf hj nh ni nm, hf⟩
omit nh in
theorem Hp.swap (h : Hp J A fv nv bh bi bm n cap L w) (hn : n ≤ 65536) {i k : Nat} (hi : i < n) (hk : k < n) (hik : i ≠ k) :
    Calls Tryz.prog 144 #[.pointer (some ⟨bh, 0, none⟩), .int .i64 i, .int .i64 k] w fun e w' => e = .returned (.tuple #[]) ∧ Hp J A fv nv bh bi bm n cap (swapL L i k) w' ∧ Fr (fun b => b = bi ∨ b = bm) w w' := by
  obtain ⟨arr, r1, r2, r3⟩ := h.row
  obtain ⟨f, m1, m2⟩ := h.map
  have hl := h.len
  refine (swap_spec h.hH r1 m1 h.ne1 h.ne2 (i := i) (k := k) (by omega) (by omega) hik (by omega) (r3 i (by omega)).1 (r3 i (by omega)).2.1 (r3 i (by omega)).2.2 (r3 k (by omega)).1 (r3 k (by omega)).2.1 (r3 k (by omega)).2.2).mono ?_
  rintro e w' ⟨rfl, hf, hr, hm⟩
  have hj : J w' := hL.keep w w' h.j (hf.mono (fun b _ hb hF => by rcases hb with rfl | rfl <;> contradiction))
  refine ⟨rfl, ⟨hj, hf.get h.hH (by have := h.ne1; have := h.ne3; intro hb; rcases hb with hb | hb <;> omega), ⟨_, hr, by rw [swp_size]; exact r2, cells3_swp r3 (by omega) (by omega) hik⟩,
    ⟨_, hm, m2.swap (by omega) (by omega) hik⟩, ?_, by rw [swapL_length]; exact hl⟩, hf⟩
  intro j hj
  rw [itAt_swap (by omega) (by omega)]
  split
  · exact h.all i hi
  · split
    · exact h.all k hk
    · exact h.all j hj
end
end Go.Proofs.YtffnjnnmlfgngaaGreat.Du
namespace Go.Proofs.YtffnjnnmlfgngaaGreat.Du
open Go.RowKit
section
variable {fv : Value} {lt : Int → Int → Bool} {J : World → Prop} {FJ : Nat → Prop} {A : Int → Prop} {fl : Nat} {caps : Array Value}
variable {nv : Value} {bh bi bm n cap : Nat} {L : List It} {w : World}
variable (hL : LessOk Tryz.prog fv lt J FJ A fl caps) (nh : ¬ FJ bh) (ni : ¬ FJ bi) (nm : ¬ FJ bm)
include hL nh ni nm
set_option maxRecDepth 100000 in
set_option maxHeartbeats 1000000 in
theorem Hp.settle (h : Hp J A fv nv bh bi bm n cap L w) (hn : n ≤ 65536) {at_ : Nat} (ha : at_ < n) :
    Calls Tryz.prog 118 #[.pointer (some ⟨bh, 0, none⟩), .int .i64 at_] w fun e w' => e = .returned (.tuple #[]) ∧ Hp J A fv nv bh bi bm n cap (settleF lt L at_) w' ∧ Fr (fun b => FJ b ∨ b = bi ∨ b = bm) w w' := by
  have HL := Lib.hid hL
  clear hL
  have hlen := h.len
  have Hlen := Lib.hid hlen
  go_enter Tryz.func118, Tryz.ntmps118
  go_upto_block 0 with fail
  go_cut [1] (fun s1 wx => ∃ (m : Nat) (L' : List It), s1 = .int .i64 m ∧ m < n ∧ Hp J A fv nv bh bi bm n cap L' wx ∧ Fr (fun b => FJ b ∨ b = bi ∨ b = bm) w wx ∧ upF lt at_ L at_ = (L', m))
  case first =>
    go_wp2_with fail
    go_loopw [1] (fun s1 wr => ∃ (m : Nat) (L' : List It), s1 = .int .i64 m ∧ m < n ∧ Hp J A fv nv bh bi bm n cap L' wr ∧ Fr (fun b => FJ b ∨ b = bi ∨ b = bm) w wr ∧ upF lt m L' m = upF lt at_ L at_) (fun s1 _ => (intOf s1).toNat)
    case atStart => exact ⟨at_, L, rfl, ha, h, Fr.refl _ _, rfl⟩
    case round =>
      obtain ⟨m, L', rfl, hm, hp, hf, hu⟩ := hrel
      have Hp' := Lib.hid hp; have Hf := Lib.hid hf; have Hu := Lib.hid hu
      clear h hlen hp hf hu
      obtain ⟨p, hp⟩ : ∃ p, p = (m - 1) / 2 := ⟨_, rfl⟩
      cases hc : (decide (m > 0) && aheadL lt L' m p)
      · have hstop : upF lt m L' m = (L', m) := upF_stop (by rw [← hp]; exact hc)
        rw [Hu.out] at hstop
        have Hs := Lib.hid hstop; clear hstop
        by_cases h0 : 0 < m
        · have h0' : (0 : Int) < (m : Int) := by omega
          have ht : aheadL lt L' m p = false := by simpa [h0] using hc
          have e : ((m : Int) - 1) / 2 = (p : Int) := by omega
          have hpm : p < m := by omega
          have hpn : p < n := by omega
          clear hc hp
          go_wp2_with fail
          refine (Hp'.out.ahead HL.out nh ni nm hn hm hpn).mono ?_
          rintro e1 w1 ⟨rfl, h1, f1⟩
          have H1 := Lib.hid h1; have F1 := Lib.hid f1; clear h1 f1
          go_wp2_with fail
          go_meet
          exact ⟨m, L', rfl, hm, H1.out, Hf.out.trans F1.out (fun _ _ h => Or.inl h), Hs.out⟩
        · obtain rfl : m = 0 := by omega
          clear hc hp
          go_wp2_with fail
          go_meet
          exact ⟨0, L', rfl, hm, Hp'.out, Hf.out, Hs.out⟩
      · have h0 : 0 < m := by simp at hc; exact hc.1
        have ht : aheadL lt L' m p = true := by simp at hc; exact hc.2
        have h0' : (0 : Int) < (m : Int) := by omega
        have e : ((m : Int) - 1) / 2 = (p : Int) := by omega
        have hpm : p < m := by omega
        have Hgo := Lib.hid (upF_go h0 (by rw [← hp]; exact ht) : upF lt m L' m = _)
        rw [← hp] at Hgo
        have hpn : p < n := by omega
        clear hc hp
        go_wp2_with fail
        refine (Hp'.out.ahead HL.out nh ni nm hn hm hpn).mono ?_
        rintro e1 w1 ⟨rfl, h1, f1⟩
        have H1 := Lib.hid h1; have F1 := Lib.hid f1; clear h1 f1
        go_wp2_with fail
        refine (H1.out.swap HL.out ni nm hn hm hpn (by omega)).mono ?_
        rintro e2 w2 ⟨rfl, h2, f2⟩
        have H2 := Lib.hid h2; have F2 := Lib.hid f2; clear h2 f2
        go_wp2_with fail
        go_roundw
        case rel => exact ⟨p, swapL L' m p, by rw [e], hpn, H2.out, (Hf.out.trans F1.out (fun _ _ h => Or.inl h)).trans F2.out (fun _ _ h => Or.inr h), by rw [← Hgo.out]; exact Hu.out⟩
        case measure => simp [intOf]; omega
  case rest =>
    obtain ⟨m, L1, rfl, hm, hp, hf, hu⟩ := hcut
    have hlm := hp.len
    have Hu := Lib.hid hu; have Hp1 := Lib.hid hp; have Hf := Lib.hid hf
    have hS : downF lt (L1.length - m) L1 m = settleF lt L at_ := by unfold settleF; rw [hu, hlm, Hlen.out]
    have HS := Lib.hid hS
    clear hu hp hf hS
    go_wp2_with fail
    go_loopw [1] (fun s1 wr => ∃ (m : Nat) (L' : List It), s1 = .int .i64 m ∧ m < n ∧ Hp J A fv nv bh bi bm n cap L' wr ∧ Fr (fun b => FJ b ∨ b = bi ∨ b = bm) w wr ∧ downF lt (L'.length - m) L' m = settleF lt L at_) (fun s1 _ => n - (intOf s1).toNat)
    case atStart => exact ⟨m, L1, rfl, hm, Hp1.out, Hf.out, HS.out⟩
    case round =>
      clear Hp1 Hf HS Hu hm hlm
      obtain ⟨m, L', rfl, hm, hp, hf, hu⟩ := hrel
      have hlm := hp.len
      have Hp' := Lib.hid hp; have Hf := Lib.hid hf; have Hu := Lib.hid hu
      have HLm := Lib.hid hlm
      clear hp hf hu hlm
      obtain ⟨wo, rfl⟩ : ∃ wo : World, wo = wr := ⟨_, rfl⟩
      go_upto_block 4 with fail
      go_cut [4] (fun s4 wx => s4 = .int .i64 (lstF lt L' m 2 : Nat) ∧ Hp J A fv nv bh bi bm n cap L' wx ∧ Fr FJ wo wx)
      case first =>
        go_wp2_with fail
        go_loopw [4, 5] (fun s4 s5 wr => ∃ j : Nat, j ≤ 2 ∧ s5 = .int .i64 (2 * m + 1 + j : Nat) ∧ s4 = .int .i64 (lstF lt L' m j : Nat) ∧ Hp J A fv nv bh bi bm n cap L' wr ∧ Fr FJ wo wr) (fun _ s5 _ => 2 * m + 3 - (intOf s5).toNat)
        case atStart => exact ⟨0, by omega, by simp, by simp [lstF], Hp'.out, Fr.refl _ _⟩
        case round =>
          obtain ⟨j, hj, rfl, rfl, hp, hf2⟩ := hrel
          obtain ⟨q, hq⟩ : ∃ q, q = lstF lt L' m j := ⟨_, rfl⟩
          have hqn : q < n := by rw [hq, ← HLm.out]; exact lstF_lt lt L' m j (by rw [HLm.out]; exact hm)
          rw [← hq]
          have Hq := Lib.hid hq
          have c1 := cell_of hp.hH 1
          simp at c1
          have Hr := Lib.hid hp; have Hf2 := Lib.hid hf2
          clear hp hf2 hq
          by_cases hj2 : j = 2
          · subst hj2
            go_wp2_with fail
            go_meet
            exact ⟨by rw [Hq.out], Hr.out, Hf2.out⟩
          · have hjl : (j : Int) < 2 := by omega
            by_cases hk : 2 * m + 1 + j < n
            · have hk' : 2 * (m : Int) + 1 + j < n := by omega
              cases ht : aheadL lt L' (2 * m + 1 + j) q
              · have Hn := Lib.hid (lstF_step (lt := lt) (L := L') (n := m) (j := j) (by rw [HLm.out]; exact hk))
                go_wp2_with fail
                refine (Hr.out.ahead (i := 2 * m + 1 + j) (k := q) HL.out nh ni nm hn hk hqn).mono ?_
                rintro e1 w1 ⟨rfl, h1, f1⟩
                have H1 := Lib.hid h1; have F1 := Lib.hid f1; clear h1 f1
                go_wp2_with fail
                go_roundw
                case rel => exact ⟨j + 1, by omega, by go_num, by rw [Hn.out, ← Hq.out, ht]; simp, H1.out, Hf2.out.trans F1.out (fun _ _ h => h)⟩
                case measure => simp [intOf]; omega
              · have Hn := Lib.hid (lstF_step (lt := lt) (L := L') (n := m) (j := j) (by rw [HLm.out]; exact hk))
                go_wp2_with fail
                refine (Hr.out.ahead (i := 2 * m + 1 + j) (k := q) HL.out nh ni nm hn hk hqn).mono ?_
                rintro e1 w1 ⟨rfl, h1, f1⟩
                have H1 := Lib.hid h1; have F1 := Lib.hid f1; clear h1 f1
                go_wp2_with fail
                go_roundw
                case rel => exact ⟨j + 1, by omega, by go_num, by rw [Hn.out, ← Hq.out, ht]; simp, H1.out, Hf2.out.trans F1.out (fun _ _ h => h)⟩
                case measure => simp [intOf]; omega
            · have hk' : ¬ (2 * (m : Int) + 1 + j < n) := by omega
              go_wp2_with fail
              go_meet
              refine ⟨?_, Hr.out, Hf2.out⟩
              rw [Hq.out]
              have hl := HLm.out
              have e2 : lstF lt L' m 2 = lstF lt L' m 1 := by
                by_cases h0 : j = 1
                · subst h0; exact lstF_past (by omega)
                · exact lstF_past (by omega)
              rw [e2]
              by_cases h0 : j = 1
              · subst h0; rfl
              · obtain rfl : j = 0 := by omega
                rw [lstF_past (by omega)]
      case rest =>
        obtain ⟨rfl, hp, hf2⟩ := hcut
        obtain ⟨q, hq⟩ : ∃ q, q = lstF lt L' m 2 := ⟨_, rfl⟩
        have hqn : q < n := by rw [hq, ← HLm.out]; exact lstF_lt lt L' m 2 (by rw [HLm.out]; exact hm)
        have hqm : m ≤ q := by rw [hq]; exact lstF_ge lt L' m 2
        rw [← hq]
        have Hq := Lib.hid hq
        have Hr := Lib.hid hp; have Hf2 := Lib.hid hf2
        clear hp hf2 hq
        by_cases he : q = m
        · subst he
          have Hd := Lib.hid (downF_stop (lt := lt) (L := L') (n := q) (f := L'.length - q) Hq.out.symm)
          go_wp2_with fail
          refine bodyPost_ret (results_none rfl _ _ _) rfl ?_
          rw [← Hu.out, Hd.out]
          exact ⟨rfl, Hr.out, Hf.out.trans Hf2.out (fun _ _ h => Or.inl h)⟩
        · have hlt : m < q := by omega
          have Hd := Lib.hid (downF_go (lt := lt) (L := L') (n := m) (by rw [HLm.out]; exact hm) (by rw [← Hq.out]; exact he))
          have hb : ((q : Int) == (m : Int)) = false := by simp; omega
          clear he
          go_wp2_with fail
          refine (Hr.out.swap HL.out ni nm hn hm hqn (by omega)).mono ?_
          rintro e2 w2 ⟨rfl, h2, f2⟩
          have H2 := Lib.hid h2; have F2 := Lib.hid f2; clear h2 f2
          go_wp2_with fail
          go_roundw
          case rel => exact ⟨q, swapL L' m q, rfl, hqn, H2.out, (Hf.out.trans Hf2.out (fun _ _ h => Or.inl h)).trans F2.out (fun _ _ h => Or.inr h), by rw [← Hu.out, Hd.out, ← Hq.out]⟩
          case measure => simp [intOf]; omega
end
end Go.Proofs.YtffnjnnmlfgngaaGreat.Du
namespace Go.Proofs.YtffnjnnmlfgngaaGreat.Du
open Go.RowKit
noncomputable def flat (L : List It) : List Value := L.flatMap fun x => [.int .i64 (dU x.1), .int .u32 (dI x.1), .int .i64 x.2]
theorem flat_length (L : List It) : (flat L).length = L.length * 3 := by
  induction L with
  | nil => rfl
  | cons x L ih => simp only [flat, List.flatMap_cons, List.length_append, List.length_cons, List.length_nil] at ih ⊢; omega
theorem flat_get (L : List It) : ∀ i, i < L.length → (flat L)[i * 3]? = some (.int .i64 (dU (itAt L i).1)) ∧ (flat L)[i * 3 + 1]? = some (.int .u32 (dI (itAt L i).1)) ∧ (flat L)[i * 3 + 2]? = some (.int .i64 (itAt L i).2) := by
  induction L with
  | nil => intro i hi; simp at hi
  | cons x L ih =>
    intro i hi
    have e : flat (x :: L) = .int .i64 (dU x.1) :: .int .u32 (dI x.1) :: .int .i64 x.2 :: flat L := rfl
    rw [e]
    cases i with
    | zero => simp [itAt]
    | succ i =>
      have := ih i (by simpa using hi)
      have e1 : (i + 1) * 3 = i * 3 + 1 + 1 + 1 := by omega
      rw [e1]
      simpa [itAt] using this
theorem cells3_of_take {arr : Array Value} {L : List It} (h : arr.toList.take (L.length * 3) = flat L) : Cells3 arr L := by
  intro i hi
  have g := flat_get L i hi
  rw [← h, List.getElem?_take, List.getElem?_take, List.getElem?_take, if_pos (by omega), if_pos (by omega), if_pos (by omega)] at g
  simpa using g
theorem take_of_cells3 {arr : Array Value} {L : List It} (h : Cells3 arr L) (_hs : L.length * 3 ≤ arr.size) : arr.toList.take (L.length * 3) = flat L := by
  apply List.ext_getElem?
  intro j
  rw [List.getElem?_take]
  split
  · rename_i hj
    obtain ⟨i, hi | hi | hi⟩ : ∃ i, j = i * 3 ∨ j = i * 3 + 1 ∨ j = i * 3 + 2 := ⟨j / 3, by omega⟩
    · subst hi; rw [(flat_get L i (by omega)).1]; simpa using (h i (by omega)).1
    · subst hi; rw [(flat_get L i (by omega)).2.1]; simpa using (h i (by omega)).2.1
    · subst hi; rw [(flat_get L i (by omega)).2.2]; simpa using (h i (by omega)).2.2
  · rename_i hj
    rw [List.getElem?_eq_none (by rw [flat_length]; omega)]
theorem flat_append (L M : List It) : flat (L ++ M) = flat L ++ flat M := by simp [flat]
/-- The value of the field place and items and next, under G: all blocks that are the heap's own. -/
structure HeapIs (J : World → Prop) (FJ : Nat → Prop) (A : Int → Prop) (fv : Value) (G : Nat → Prop) (bh : Nat) (L : List It) (next : Int) (w : World) : Prop where
  ex : ∃ sv bm, w.heap[bh]? = some (.cells #[fv, sv, .map (some bm), .int .i64 next] 160 (0, 0)) ∧ Row w 199 3 sv L.length (flat L) ∧ (∃ f, IMap w bm f ∧ PlaceOf f L) ∧ G bm ∧ (∀ b, sv.ownBlock = some b → G b)
  gh : G bh
  bd : ∀ b, G b → b < w.heap.size
  nj : ∀ b, G b → ¬ FJ b
  j : J w
  all : ∀ i, i < L.length → A (itAt L i).1
  hs : ∀ i, i < L.length → 0 ≤ (itAt L i).2 ∧ (itAt L i).2 < next
  len : L.length ≤ 65536
  nx : 0 ≤ next
/-- The blocks of G' were G's, or are new. -/
def Grew (w : World) (G G' : Nat → Prop) : Prop := ∀ b, G' b → G b ∨ w.heap.size ≤ b
section
variable {J : World → Prop} {FJ : Nat → Prop} {A : Int → Prop} {fv : Value} {G : Nat → Prop} {bh : Nat} {L : List It} {next : Int} {w : World}
theorem HeapIs.fr (h : HeapIs J FJ A fv G bh L next w) {F : Nat → Prop} {w' : World} (hf : Fr F w w') (hj : J w') (hn : ∀ b, G b → ¬ F b) : HeapIs J FJ A fv G bh L next w' := by
  obtain ⟨sv, bm, h1, h2, ⟨f, h3, h4⟩, h5, h6⟩ := h.ex
  exact ⟨⟨sv, bm, hf.get h1 (hn _ h.gh), Row.fr h2 hf (fun b hb => hn b (h6 b hb)), ⟨f, h3.fr hf (hn _ h5), h4⟩, h5, h6⟩, h.gh, fun b hb => Nat.lt_of_lt_of_le (h.bd b hb) hf.size, h.nj, hj, h.all, h.hs, h.len, h.nx⟩
end
end Go.Proofs.YtffnjnnmlfgngaaGreat.Du
namespace Go.Proofs.YtffnjnnmlfgngaaGreat.Du
open Go.RowKit
section
variable {fv : Value} {lt : Int → Int → Bool} {J : World → Prop} {FJ : Nat → Prop} {A : Int → Prop} {fl : Nat} {caps : Array Value}
variable {nv : Value} {bh bi bm n cap : Nat} {L : List It} {w : World}
variable (hL : LessOk Tryz.prog fv lt J FJ A fl caps) (nh : ¬ FJ bh) (ni : ¬ FJ bi) (nm : ¬ FJ bm)
include hL nh ni nm
set_option maxRecDepth 100000 in
set_option maxHeartbeats 2000000 in
theorem Hp.take (h : Hp J A fv nv bh bi bm n cap L w) (hn : n ≤ 65536) (hcn : n ≤ cap) {at_ : Nat} (ha : at_ < n) :
    Calls Tryz.prog 141 #[.pointer (some ⟨bh, 0, none⟩), .int .i64 at_] w fun e w' => e = .returned (.agg #[.int .i64 (dU (itAt L at_).1), .int .u32 (dI (itAt L at_).1), .int .i64 (itAt L at_).2]) ∧ Hp J A fv nv bh bi bm (n - 1) cap (takeF lt L at_) w' ∧ Fr (fun b => FJ b ∨ b = bh ∨ b = bi ∨ b = bm) w w' := by
  have hlen := h.len
  obtain ⟨arr, r1, r2, r3⟩ := h.row
  have c1 := cell_of h.hH 1
  simp at c1
  have d1 := (cell_of r1 (at_ * 3)).trans (r3 at_ (by omega)).1
  have d1' := (cell_of r1 (at_ * 3 + 1)).trans (r3 at_ (by omega)).2.1
  have d2 := (cell_of r1 (at_ * 3 + 2)).trans (r3 at_ (by omega)).2.2
  obtain ⟨xv, hxv⟩ : ∃ x, x = (itAt L at_).1 := ⟨_, rfl⟩
  obtain ⟨xh, hxh⟩ : ∃ x, x = (itAt L at_).2 := ⟨_, rfl⟩
  rw [← hxv] at d1 d1' ⊢
  rw [← hxh] at d2 ⊢
  obtain ⟨m, hm⟩ : ∃ m, n = m + 1 := ⟨n - 1, by omega⟩
  subst hm
  have hai : (at_ : Int) < ((m + 1 : Nat) : Int) := by omega
  have lh := lt_of_block h.hH; have li := lt_of_block r1
  have HL := Lib.hid hL; have Hh := Lib.hid h; have Hlen := Lib.hid hlen
  have Hx := Lib.hid hxv; have Hy := Lib.hid hxh
  clear hL h hlen r1 r2 r3 hxv hxh
  go_enter Tryz.func141, Tryz.ntmps141
  go_upto_region 2 with fail
  go_cut [4, 5, 6] (fun s4 s5 s6 wx => ∃ b4 b5 : Nat, s4 = .pointer (some ⟨b4, 0, none⟩) ∧ s5 = .pointer (some ⟨b5, 0, none⟩) ∧ s6 = .int .i64 m ∧ w.heap.size ≤ b4 ∧ w.heap.size ≤ b5 ∧ b4 ≠ b5 ∧
      wx.heap[b4]? = some (.cells #[.int .i64 0, .int .u32 0, .int .i64 0] 199 (0, 0)) ∧ wx.heap[b5]? = some (.cells #[.int .i64 (dU xv), .int .u32 (dI xv), .int .i64 xh] 199 (0, 0)) ∧ Fr (fun _ => False) w wx)
  case first =>
    go_wp2_with fail
    go_meet
    refine ⟨_, _, rfl, rfl, by go_num, by simp, by simp, by omega, ?_, ?_, Fr.alloc (Fr.alloc (Fr.refl _ _) _) _⟩
    · simp only [heap_alloc_get, World.size_alloc]; simp
    · simp only [heap_alloc_get, World.size_alloc]; simp
  case rest =>
    obtain ⟨b4, b5, rfl, rfl, rfl, g4, g5, hne, hb4, hb5, hf⟩ := hcut
    have hp : Hp J A fv nv bh bi bm (m + 1) cap L wc := Hh.out.fr hf (HL.out.keep _ _ Hh.out.j (hf.mono (fun _ _ x => x.elim))) (fun x => x) (fun x => x) (fun x => x)
    have Hp0 := Lib.hid hp; have Hb4 := Lib.hid hb4; have Hb5 := Lib.hid hb5; have Hf := Lib.hid hf
    have lm := Hp0.out.map.elim (fun f x => x.1.lt)
    have lm0 := Hh.out.map.elim (fun f x => x.1.lt)
    obtain ⟨bq, hx5⟩ : ∃ b : Bool, ((at_ : Int) != (m : Int)) = b := ⟨_, rfl⟩
    have hx7 : (bq = false ∧ at_ = m) ∨ (bq = true ∧ at_ < m) := by
      by_cases e : at_ = m
      · subst e; left; simp at hx5; exact ⟨hx5, rfl⟩
      · right; have : ¬ ((at_ : Int) = (m : Int)) := by omega
        refine ⟨?_, by omega⟩; rw [← hx5]; simp [bne, this]
    have Hx7 := Lib.hid hx7; clear hx7
    clear hp hb4 hb5 hf c1 d1 d1' d2
    go_upto_if 23 with fail
    go_cut [27] from 24 to 27 (fun _ wx => Hp J A fv nv bh bi bm (m + 1) cap (if at_ = m then L else swapL L at_ m) wx ∧ Fr (fun b => b = bi ∨ b = bm) wc wx)
    case first =>
      clear hx5
      rcases Hx7.out with ⟨rfl, e⟩ | ⟨rfl, e⟩
      · have He := Lib.hid e; clear e
        go_wp2_with fail
        go_meet
        exact ⟨by rw [if_pos He.out]; exact Hp0.out, Fr.refl _ _⟩
      · have He := Lib.hid e; clear e
        go_wp2_with fail
        refine (Hp0.out.swap HL.out ni nm hn ha (by omega : m < m + 1) (by have := He.out; omega)).mono ?_
        rintro e1 w1 ⟨rfl, h1, f1⟩
        have H1 := Lib.hid h1; have F1 := Lib.hid f1; clear h1 f1
        go_wp2_with fail
        go_meet
        exact ⟨by rw [if_neg (by have := He.out; omega)]; exact H1.out, F1.out⟩
    case rest =>
      obtain ⟨hp, hf⟩ := hcut
      obtain ⟨L1, hL1⟩ : ∃ L1, L1 = if at_ = m then L else swapL L at_ m := ⟨_, rfl⟩
      rw [← hL1] at hp
      have hl1 : L1.length = m + 1 := hp.len
      have hx1 : itAt L1 m = itAt L at_ := by
        rw [hL1]
        split
        · rename_i e; rw [e]
        · rw [itAt_swap (by rw [Hlen.out]; omega) (by rw [Hlen.out]; omega), if_pos rfl]
      obtain ⟨arr, r1, r2, r3⟩ := hp.row
      obtain ⟨f, m1, m2⟩ := hp.map
      have lw := Hf.out.size
      have n4 : ¬ (b4 = bi ∨ b4 = bm) := by omega
      have n5 : ¬ (b5 = bi ∨ b5 = bm) := by omega
      have q4 := hf.get Hb4.out n4
      have q5 := hf.get Hb5.out n5
      have c1 := cell_of hp.hH 1
      have c2 := cell_of hp.hH 2
      simp at c1 c2
      have d1 := (cell_of r1 (m * 3)).trans (r3 m (by omega)).1
      have d1' := (cell_of r1 (m * 3 + 1)).trans (r3 m (by omega)).2.1
      have d2 := (cell_of r1 (m * 3 + 2)).trans (r3 m (by omega)).2.2
      have z1 := free_of r1 (m * 3)
      have z1' := free_of r1 (m * 3 + 1)
      have z2 := free_of r1 (m * 3 + 2)
      have zh := free_of hp.hH 1
      have a51 := cell_of q5 2
      simp at a51
      have lh2 := lt_of_block hp.hH; have li2 := lt_of_block r1; have l42 := lt_of_block q4; have l52 := lt_of_block q5
      have n1 := hp.ne1; have n2 := hp.ne2; have n3 := hp.ne3
      have Hq := Lib.hid hp; have Hf1 := Lib.hid hf; have R1 := Lib.hid r1; have R2 := Lib.hid r2; have R3 := Lib.hid r3; have M1 := Lib.hid m1; have M2 := Lib.hid m2
      have Q4 := Lib.hid q4; have Q5 := Lib.hid q5; have HL1 := Lib.hid hL1; have Hl1 := Lib.hid hl1; have Hx1 := Lib.hid hx1
      clear hp hf r1 r2 r3 m1 m2 q4 q5 hL1 hl1 hx1 hx5
      have hmc : (m : Int) < ((m + 1 : Nat) : Int) := by omega
      go_upto_region 6 with fail
      go_cut [28] (fun _ wx => wx.heap[bi]? = some (.cells (((arr.setIfInBounds (m * 3) (.int .i64 0)).setIfInBounds (m * 3 + 1) (.int .u32 0)).setIfInBounds (m * 3 + 2) (.int .i64 0)) 199 (0, 0)) ∧ Fr (fun b => b = bi) wc wx)
      case first =>
        go_region
        all_goals (go_wp2_with fail; go_meet)
        refine ⟨?_, ?_⟩
        · rw [heap_drew, heap_alloc_old _ _ _ (by simpa using li2)]
          exact setCell_blk (setCell_blk (setCell_blk R1.out _) _) _
        · refine Fr.drew (Fr.alloc ?_ _)
          iterate 3 refine Fr.setCell ?_ (by intro _; rfl) _
          exact Fr.refl _ _
      case rest =>
        obtain ⟨hI2, hf2⟩ := hcut
        have k1 := (hf2.cell (o := 1) (s := none) lh2 n1).trans c1
        have k2 := (hf2.cell (o := 2) (s := none) lh2 n1).trans c2
        have kz := (hf2.frozen (o := 1) (s := none) lh2 n1).trans zh
        have n6 : b5 ≠ bi := by omega
        have n7 : b4 ≠ bi := by omega
        have k5 := (hf2.cell (o := 2) (s := none) l52 n6).trans a51
        have K5 := Lib.hid (hf2.get Q5.out n6)
        have K4 := Lib.hid (hf2.get Q4.out n7)
        have KH := Lib.hid (hf2.get Hq.out.hH n1)
        have KM := Lib.hid (IMap.fr M1.out hf2 n2)
        have lh3 := lt_of_block KH.out; have l53 := lt_of_block K5.out; have l43 := lt_of_block K4.out; have li3 := lt_of_block hI2
        have n8 : b5 ≠ bh := by omega
        have n9 : b4 ≠ bh := by omega
        have HI2 := Lib.hid hI2; have Hf2 := Lib.hid hf2
        have hmcap : (m : Int) ≤ (cap : Int) := by omega
        clear hI2 hf2 c1 c2 d1 d1' d2 z1 z1' z2 zh a51 lh2 li2 l42 l52 hmc
        have hM3 : IMap (wc.setCell ⟨bh, 1, none⟩ (.slice (some ⟨bi, 0, none⟩) m cap)).drew bm f := IMap.fr (F := fun b => b = bh) KM.out (Fr.drew (Fr.setCell (Fr.refl _ _) (by intro _; rfl) _)) n3
        obtain ⟨es, c, hrun, hM4⟩ := run_delete (P := Tryz.prog) Tryz.underlying157 Tryz.underlying3 hM3 xh #[157, 3] rfl 0
        have hc4 : ∀ a, (setMap (wc.setCell ⟨bh, 1, none⟩ (.slice (some ⟨bi, 0, none⟩) m cap)).drew bm es c).cell? a = (wc.setCell ⟨bh, 1, none⟩ (.slice (some ⟨bi, 0, none⟩) m cap)).cell? a := by
          obtain ⟨l, c0, hb, _⟩ := hM3; exact fun a => setMap_cell hb es c a
        have e2 := (World.cell?_setCell_other wc ⟨bh, 1, none⟩ ⟨bh, 2, none⟩ (.slice (some ⟨bi, 0, none⟩) m cap) (by simp)).trans k2
        have e5 := (World.cell?_setCell_other wc ⟨bh, 1, none⟩ ⟨b5, 2, none⟩ (.slice (some ⟨bi, 0, none⟩) m cap) (by simp)).trans k5
        have HM4 := Lib.hid hM4
        clear hM3 hM4
        go_upto_region 8 with fail
        go_region_held3 (fun w' => w'.cell? ⟨bh, 2, none⟩ = some (.map (some bm)) ∧ w'.cell? ⟨b5, 2, none⟩ = some (.int .i64 xh)) (go_keep) ((rw [if_pos rfl]; refine wp_delete_run rfl rfl rfl hrun ?_))
        obtain ⟨W, hW⟩ : ∃ W, W = setMap (wc.setCell ⟨bh, 1, none⟩ (.slice (some ⟨bi, 0, none⟩) m cap)).drew bm es c := ⟨_, rfl⟩
        have hfW : Fr (fun b => b = bh ∨ b = bm) wc W := by
          rw [hW]
          exact Fr.setMap (Fr.drew (Fr.setCell (Fr.refl _ _) (by intro _; exact Or.inl rfl) _)) (fun _ => Or.inr rfl) _ _
        have hWh : W.heap[bh]? = some (.cells #[fv, .slice (some ⟨bi, 0, none⟩) m cap, .map (some bm), nv] 160 (0, 0)) := by
          rw [hW, setMap_ne n3.symm, heap_drew]; exact setCell_blk KH.out _
        have hWi := hfW.get HI2.out (by omega)
        have hWJ : J W := HL.out.keep _ W Hq.out.j ((((Hf2.out.mono (G := fun b => ¬ FJ b) (fun b _ hb => by subst hb; exact ni)).trans hfW (fun b _ hb => by rcases hb with rfl | rfl <;> assumption))))
        have hWp : Hp J A fv nv bh bi bm m cap (L1.take m) W := by
          have hl1 := Hl1.out
          refine ⟨hWJ, hWh, ⟨_, hWi, by simp [R2.out], ?_⟩, ⟨_, by rw [hW]; exact HM4.out, ?_⟩, ?_, by simp [hl1]⟩
          · intro i hi
            have him : i < m := by simp at hi; omega
            rw [itAt_take him]
            have := R3.out i (by omega)
            simp only [Array.getElem?_setIfInBounds_ne (show m * 3 + 2 ≠ i * 3 by omega), Array.getElem?_setIfInBounds_ne (show m * 3 + 2 ≠ i * 3 + 1 by omega), Array.getElem?_setIfInBounds_ne (show m * 3 + 2 ≠ i * 3 + 2 by omega), Array.getElem?_setIfInBounds_ne (show m * 3 + 1 ≠ i * 3 by omega), Array.getElem?_setIfInBounds_ne (show m * 3 + 1 ≠ i * 3 + 1 by omega), Array.getElem?_setIfInBounds_ne (show m * 3 + 1 ≠ i * 3 + 2 by omega), Array.getElem?_setIfInBounds_ne (show m * 3 ≠ i * 3 by omega), Array.getElem?_setIfInBounds_ne (show m * 3 ≠ i * 3 + 1 by omega), Array.getElem?_setIfInBounds_ne (show m * 3 ≠ i * 3 + 2 by omega)]
            exact this
          · have := M2.out.pop hl1
            rw [Hx1.out, ← Hy.out] at this
            exact this
          · intro i hi
            rw [itAt_take hi]
            exact Hq.out.all i (by omega)
        have w5 := hfW.get K5.out (by omega)
        have w4 := hfW.get K4.out (by omega)
        rw [← hW]
        have Hwp := Lib.hid hWp; have W5 := Lib.hid w5; have W4 := Lib.hid w4; have HfW := Lib.hid hfW
        clear hfW hWh hWi hWJ hWp w5 w4 hc4 hrun HM4 e2 e5 k1 k2 kz k5
        clear hW
        obtain ⟨bq, hx5⟩ : ∃ b : Bool, decide (at_ < m) = b := ⟨_, rfl⟩
        have hx7 : (bq = false ∧ ¬ at_ < m) ∨ (bq = true ∧ at_ < m) := by
          by_cases e : at_ < m
          · right; simp [e] at hx5; exact ⟨hx5, e⟩
          · left; simp [e] at hx5; exact ⟨hx5, e⟩
        have Hx7 := Lib.hid hx7; clear hx7
        go_upto_if 52 with fail
        go_cut [55] from 53 to 55 (fun _ wx => Hp J A fv nv bh bi bm m cap (takeF lt L at_) wx ∧ Fr (fun b => FJ b ∨ b = bi ∨ b = bm) W wx)
        case first =>
          clear hx5
          have hT : takeF lt L at_ = if at_ < m then settleF lt (L1.take m) at_ else L1.take m := by
            unfold takeF
            dsimp only
            rw [Hlen.out, Nat.add_sub_cancel, ← HL1.out]
          have HT := Lib.hid hT; clear hT
          rcases Hx7.out with ⟨rfl, e⟩ | ⟨rfl, e⟩
          · have He := Lib.hid e; clear e
            go_wp2_with fail
            go_meet
            exact ⟨by rw [HT.out, if_neg He.out]; exact Hwp.out, Fr.refl _ _⟩
          · have He := Lib.hid e; clear e
            go_wp2_with fail
            refine (Hwp.out.settle HL.out nh ni nm (by omega) He.out).mono ?_
            rintro e1 w1 ⟨rfl, h1, f1⟩
            have H1 := Lib.hid h1; have F1 := Lib.hid f1; clear h1 f1
            go_wp2_with fail
            go_meet
            exact ⟨by rw [HT.out, if_pos He.out]; exact H1.out, F1.out⟩
        case rest =>
          obtain ⟨hq, hf9⟩ := hcut
          have b9 : ∀ b, w.heap.size ≤ b → ¬ (FJ b ∨ b = bi ∨ b = bm) := by
            rintro b hb (h | h | h)
            · have := HL.out.bound w b Hh.out.j h; omega
            · omega
            · omega
          have v5 := hf9.get W5.out (b9 b5 g5)
          have v4 := hf9.get W4.out (b9 b4 g4)
          have v50 := cell_of v5 0
          have v51 := cell_of v5 1
          have v52 := cell_of v5 2
          have v40 := cell_of v4 0
          have v41 := cell_of v4 1
          have v42 := cell_of v4 2
          have y40 := free_of v4 0
          have y41 := free_of v4 1
          have y42 := free_of v4 2
          simp at v50 v51 v52 v40 v41 v42
          have V4 := Lib.hid v4; have HQ := Lib.hid hq; have Hf9 := Lib.hid hf9
          clear v5 v4 hq hf9 b9
          go_wp2_with fail
          have hb4 : ∀ b, b = b4 → b < w.heap.size → False := by omega
          have hfin := setCell_blk (o := 2) (setCell_blk (o := 1) (setCell_blk (o := 0) V4.out (.int .i64 (dU xv))) (.int .u32 (dI xv))) (.int .i64 xh)
          have g0 := cell_of hfin 0
          have g1 := cell_of hfin 1
          have g2 := cell_of hfin 2
          simp at g0 g1 g2
          refine bodyPost_ret (v := .agg #[.int .i64 (dU xv), .int .u32 (dI xv), .int .i64 xh]) (by simp [results, Tryz.results141, go_sem, g0, g1, g2]) rfl ⟨rfl, ?_, ?_⟩
          · show Hp J A fv nv bh bi bm m cap (takeF lt L at_) _
            have hfr : Fr (fun b => b = b4) _ _ := Fr.setCell (Fr.setCell (Fr.setCell (p := ⟨b4, 0, none⟩) (Fr.refl (fun b => b = b4) wc) (by intro _; rfl) (.int .i64 (dU xv))) (p := ⟨b4, 1, none⟩) (by intro _; rfl) (.int .u32 (dI xv))) (p := ⟨b4, 2, none⟩) (by intro _; rfl) (.int .i64 xh)
            exact HQ.out.fr hfr (HL.out.keep _ _ HQ.out.j (hfr.mono (fun b _ hb hF => by subst hb; have := HL.out.bound w b Hh.out.j hF; omega))) (by omega) (by omega) (by omega)
          · refine Fr.setCell (Fr.setCell (Fr.setCell ?_ (by intro h; exact (hb4 _ rfl h).elim) _) (by intro h; exact (hb4 _ rfl h).elim) _) (by intro h; exact (hb4 _ rfl h).elim) _
            refine ((((Hf.out.mono (G := fun b => FJ b ∨ b = bh ∨ b = bi ∨ b = bm) (fun _ _ h => h.elim)).trans Hf1.out ?_).trans Hf2.out ?_).trans HfW.out ?_).trans Hf9.out ?_
            · rintro b _ (h | h)
              · exact .inr (.inr (.inl h))
              · exact .inr (.inr (.inr h))
            · rintro b _ h; exact .inr (.inr (.inl h))
            · rintro b _ (h | h)
              · exact .inr (.inl h)
              · exact .inr (.inr (.inr h))
            · rintro b _ (h | h | h)
              · exact .inl h
              · exact .inr (.inr (.inl h))
              · exact .inr (.inr (.inr h))
end
end Go.Proofs.YtffnjnnmlfgngaaGreat.Du
namespace Go.Proofs.YtffnjnnmlfgngaaGreat.Du
open Go.RowKit
section
variable {J : World → Prop} {FJ : Nat → Prop} {A : Int → Prop} {fv : Value} {G : Nat → Prop} {bh : Nat} {L : List It} {next : Int} {w : World}
variable {lt : Int → Int → Bool} {fl : Nat} {caps : Array Value} (hL : LessOk Tryz.prog fv lt J FJ A fl caps)
include hL
theorem none_ok (h : HeapIs J FJ A fv G bh L next w) : Calls Tryz.prog 117 #[.pointer (some ⟨bh, 0, none⟩)] w fun e w' => e = .returned (.bool false) ∧ w = w' := by
  obtain ⟨sv, bm, hH, _⟩ := h.ex
  have hfv := hL.eq
  subst hfv
  have c0 := cell_of hH 0
  simp at c0
  have q := fun w => run_eql_func_nil (P := Tryz.prog) Tryz.underlying112 w (.func fl) #[] caps
  clear hL h hH
  go_enter Tryz.func117, Tryz.ntmps117
  go_wp2_with fail
  go_ret
  exact ⟨rfl, rfl⟩
theorem HeapIs.keepFr (h : HeapIs J FJ A fv G bh L next w) {w' : World} (hf : Fr (fun _ => False) w w') : HeapIs J FJ A fv G bh L next w' :=
  h.fr hf (hL.keep _ _ h.j (hf.mono (fun _ _ x => x.elim))) (fun _ _ x => x)
omit hL in
theorem row_at {sv : Value} (h : Row w 199 3 sv L.length (flat L)) (h0 : L ≠ []) : ∃ bi cap arr, sv = .slice (some ⟨bi, 0, none⟩) L.length cap ∧ L.length ≤ cap ∧ cap ≤ maxLen ∧ w.heap[bi]? = some (.cells arr 199 (0, 0)) ∧ arr.size = cap * 3 ∧ Cells3 arr L := by
  rcases h.2 with ⟨_, h1⟩ | ⟨g, cap, cur, rfl, _, h1, h2, h3, h4, h5⟩
  · exact absurd (List.eq_nil_of_length_eq_zero h1) h0
  · exact ⟨g, cap, cur, rfl, h2, h3, h1, h4, cells3_of_take h5⟩
abbrev zeroT : Value := .agg #[.int .i64 0, .int .u32 0]
noncomputable abbrev dueT (x : Int) : Value := .agg #[.int .i64 (dU x), .int .u32 (dI x)]
theorem least_none (h : HeapIs J FJ A fv G bh [] next w) : Calls Tryz.prog 93 #[.pointer (some ⟨bh, 0, none⟩)] w fun e w' => e = .returned (.tuple #[zeroT, .int .i64 0, .bool false]) ∧ Fr (fun _ => False) w w' := by
  have f0 : Fr (fun _ => False) w (w.alloc (.cells #[.int .i64 0, .int .u32 0] 111)) := Fr.alloc (Fr.refl _ _) _
  have h' := HeapIs.keepFr hL h f0
  obtain ⟨sv, bm, hH, hR, _⟩ := h'.ex
  have c1 := cell_of hH 1
  simp at c1
  obtain ⟨sa, sc, hsv⟩ : ∃ a c, sv = .slice a 0 c := by
    rcases hR.2 with ⟨rfl, h0⟩ | ⟨g, cap, cur, rfl, _⟩
    · exact ⟨none, 0, rfl⟩
    · exact ⟨_, _, rfl⟩
  subst hsv
  have HL := Lib.hid hL; have Hh := Lib.hid h'
  clear hL h h' hH hR f0
  go_enter Tryz.func93, Tryz.ntmps93
  go_wp2_with fail
  refine (none_ok HL.out Hh.out).mono ?_
  rintro e w' ⟨rfl, rfl⟩
  go_wp2_with fail
  have g0 : ((w.alloc (.cells #[.int .i64 0, .int .u32 0] 111)).alloc (.cells #[.int .i64 0, .int .u32 0] 111)).heap[w.heap.size]? = some (.cells #[.int .i64 0, .int .u32 0] 111 (0, 0)) := by
    simp only [heap_alloc_get, World.size_alloc]; simp
  have g1 := cell_of g0 0
  have g2 := cell_of g0 1
  simp at g1 g2
  refine bodyPost_ret (v := .tuple #[zeroT, .int .i64 0, .bool false]) ?_ rfl ⟨rfl, Fr.alloc (Fr.alloc (Fr.refl _ _) _) _⟩
  simp [results, Tryz.f93, go_sem]
theorem least_some (h : HeapIs J FJ A fv G bh L next w) (h0 : L ≠ []) : Calls Tryz.prog 93 #[.pointer (some ⟨bh, 0, none⟩)] w fun e w' => e = .returned (.tuple #[dueT (itAt L 0).1, .int .i64 (itAt L 0).2, .bool true]) ∧ Fr (fun _ => False) w w' := by
  have f0 : Fr (fun _ => False) w (w.alloc (.cells #[.int .i64 0, .int .u32 0] 111)) := Fr.alloc (Fr.refl _ _) _
  have h' := HeapIs.keepFr hL h f0
  have gz : (w.alloc (.cells #[.int .i64 0, .int .u32 0] 111)).heap[w.heap.size]? = some (.cells #[.int .i64 0, .int .u32 0] 111 (0, 0)) := heap_alloc_at _ _
  obtain ⟨sv, bm, hH, hR, _⟩ := h'.ex
  obtain ⟨bi, cap, arr, rfl, _, _, hI, hs, hc⟩ := row_at hR h0
  have c1 := cell_of hH 1
  simp at c1
  have hlen := h.len
  have hpos : 0 < L.length := List.length_pos_iff.2 h0
  have d0 := (cell_of hI (0 * 3)).trans (hc 0 hpos).1
  have d1 := (cell_of hI (0 * 3 + 1)).trans (hc 0 hpos).2.1
  have d2 := (cell_of hI (0 * 3 + 2)).trans (hc 0 hpos).2.2
  simp only [Nat.zero_mul, Nat.zero_add] at d0 d1 d2
  have z0 : (w.alloc (.cells #[.int .i64 0, .int .u32 0] 111)).cell? ⟨w.heap.size, 0, none⟩ = some (.int .i64 0) := (cell_of gz 0).trans (by rfl)
  have z1 : (w.alloc (.cells #[.int .i64 0, .int .u32 0] 111)).cell? ⟨w.heap.size, 1, none⟩ = some (.int .u32 0) := (cell_of gz 1).trans (by rfl)
  have y0 := free_of gz 0
  have y1 := free_of gz 1
  have hpos' : (0 : Int) < (L.length : Int) := by omega
  have hne : ((L.length : Int) == 0) = false := by simp; omega
  obtain ⟨xv, hxv⟩ : ∃ x, x = (itAt L 0).1 := ⟨_, rfl⟩
  obtain ⟨xh, hxh⟩ : ∃ x, x = (itAt L 0).2 := ⟨_, rfl⟩
  rw [← hxv] at d0 d1 ⊢
  rw [← hxh] at d2 ⊢
  have n1 : ¬ bh = w.heap.size := fun e => by have := h.bd bh h.gh; omega
  have n2 : ¬ w.heap.size = bh := fun e => n1 e.symm
  have n3 : ¬ bi = w.heap.size := fun e => by rw [e, gz] at hI; simp at hI
  have n4 : ¬ w.heap.size = bi := fun e => n3 e.symm
  have HL := Lib.hid hL; have Hh := Lib.hid h'; have F0 := Lib.hid f0; have Gz := Lib.hid gz
  clear hL h h' hH hR hs hc h0 f0 gz hxv hxh hI
  go_enter Tryz.func93, Tryz.ntmps93
  go_upto_region 1 with fail
  generalize (w.alloc (.cells #[.int .i64 0, .int .u32 0] 111)) = W at *
  generalize hbz : w.heap.size = bz at *
  go_wp2_with fail
  refine (none_ok HL.out Hh.out).mono ?_
  rintro e w' ⟨rfl, rfl⟩
  go_wp2_with fail
  go_region
  go_wp2_with fail
  have hfin := setCell_blk (o := 1) (setCell_blk (o := 0) Gz.out (.int .i64 (dU xv))) (.int .u32 (dI xv))
  have g1 := cell_of hfin 0
  have g2 := cell_of hfin 1
  simp at g1 g2
  refine bodyPost_ret (v := .tuple #[dueT xv, .int .i64 xh, .bool true]) ?_ rfl ⟨rfl, ?_⟩
  · simp [results, Tryz.f93, go_sem, g1, g2]
  · refine Fr.toNew (Fr.drew (Fr.setCell (p := ⟨bz, 1, none⟩) (Fr.setCell (p := ⟨bz, 0, none⟩) (F0.out.mono (fun _ _ h => h.elim)) (fun _ => ?_) _) (fun _ => ?_) _))
    all_goals (rw [hbz]; exact Nat.le_refl _)
end
end Go.Proofs.YtffnjnnmlfgngaaGreat.Du
