/- General facts on worlds, block by block. No condition. -/
import Derived.WalkKit
import Derived.WalkSpells
import Derived.WalkLawsBesides
import Derived.Deep.Draws
namespace Go.Proofs.YthckfbfenfkdiaaDoor
open Go.RowKit
/-- w' is w but for the blocks in F, and for new blocks. -/
structure Fr (F : Nat → Prop) (w w' : World) : Prop where
  os : w'.os = w.os
  tape : w'.tape = w.tape
  output : w'.output = w.output
  size : w.heap.size ≤ w'.heap.size
  blk : ∀ k, k < w.heap.size → ¬ F k → w'.heap[k]? = w.heap[k]?
theorem Fr.refl (F : Nat → Prop) (w : World) : Fr F w w := ⟨rfl, rfl, rfl, Nat.le_refl _, fun _ _ _ => rfl⟩
theorem Fr.trans {F G : Nat → Prop} {a b c : World} (h : Fr F a b) (k : Fr G b c) (hs : ∀ i, i < a.heap.size → G i → F i) : Fr F a c :=
  ⟨k.os.trans h.os, k.tape.trans h.tape, k.output.trans h.output, Nat.le_trans h.size k.size,
   fun i hi hn => (k.blk i (Nat.lt_of_lt_of_le hi h.size) (fun hg => hn (hs i hi hg))).trans (h.blk i hi hn)⟩
theorem Fr.mono {F G : Nat → Prop} {w w' : World} (h : Fr F w w') (hs : ∀ i, i < w.heap.size → F i → G i) : Fr G w w' :=
  ⟨h.os, h.tape, h.output, h.size, fun i hi hn => h.blk i hi (fun hf => hn (hs i hi hf))⟩
theorem Fr.drew {F : Nat → Prop} {a w : World} (h : Fr F a w) : Fr F a w.drew := ⟨h.os, h.tape, h.output, h.size, h.blk⟩
theorem heap_alloc_old (w : World) (o : Obj) (k : Nat) (h : k < w.heap.size) : (w.alloc o).heap[k]? = w.heap[k]? := Below.heap_alloc w o k h
theorem heap_alloc_at (w : World) (o : Obj) : (w.alloc o).heap[w.heap.size]? = some o := by
  show (w.heap.push o)[w.heap.size]? = _
  simp
theorem heap_alloc_get (w : World) (o : Obj) (k : Nat) : (w.alloc o).heap[k]? = if k = w.heap.size then some o else w.heap[k]? := by
  show (w.heap.push o)[k]? = _
  rw [Array.getElem?_push]
theorem heap_drew (w : World) : w.drew.heap = w.heap := rfl
theorem Fr.alloc {F : Nat → Prop} {a w : World} (h : Fr F a w) (o : Obj) : Fr F a (w.alloc o) :=
  h.trans (G := fun _ => False) ⟨rfl, rfl, rfl, by simp, fun k hk _ => heap_alloc_old w o k hk⟩ (fun _ _ hf => hf.elim)
theorem Fr.setCell {F : Nat → Prop} {a w : World} (h : Fr F a w) {p : Addr} (hp : p.block < a.heap.size → F p.block) (u : Value) : Fr F a (w.setCell p u) :=
  h.trans (G := fun i => i = p.block) ⟨rfl, rfl, rfl, by simp, fun k _ hk => Below.heap_setCell w p u k hk⟩ (fun i hi e => by subst e; exact hp hi)
theorem Fr.cell {F : Nat → Prop} {w w' : World} (h : Fr F w w') {b o : Nat} {s : Option Nat} (hb : b < w.heap.size) (hn : ¬ F b) : w'.cell? ⟨b, o, s⟩ = w.cell? ⟨b, o, s⟩ := by
  simp only [World.cell?, h.blk b hb hn]
theorem Fr.frozen {F : Nat → Prop} {w w' : World} (h : Fr F w w') {b o : Nat} {s : Option Nat} (hb : b < w.heap.size) (hn : ¬ F b) : w'.frozen? ⟨b, o, s⟩ = w.frozen? ⟨b, o, s⟩ := by
  simp only [World.frozen?, h.blk b hb hn]
theorem Fr.get {F : Nat → Prop} {w w' : World} (h : Fr F w w') {b : Nat} {o : Obj} (hb : w.heap[b]? = some o) (hn : ¬ F b) : w'.heap[b]? = some o :=
  (h.blk b (lt_of_block hb) hn).trans hb
theorem Fr.below {w w' : World} (h : Fr (fun _ => False) w w') : Below w.heap.size w w' := ⟨h.os, h.tape, h.output, h.size, fun k hk => h.blk k hk (fun f => f)⟩
theorem Below.fr {w w' : World} (h : Below w.heap.size w w') (F : Nat → Prop) : Fr F w w' := ⟨h.os, h.tape, h.output, h.size, fun k hk _ => h.block k hk⟩
theorem cell_of {w : World} {b : Nat} {c : Array Value} {t : TypeId} {z : Nat × Nat} (h : w.heap[b]? = some (.cells c t z)) (o : Nat) : w.cell? ⟨b, o, none⟩ = c[o]? := by
  simp [World.cell?, h]
theorem free_of {w : World} {b : Nat} {c : Array Value} {t : TypeId} (h : w.heap[b]? = some (.cells c t (0, 0))) (o : Nat) : w.frozen? ⟨b, o, none⟩ = false := by
  simp [World.frozen?, h]
theorem setCell_blk {w : World} {b o : Nat} {c : Array Value} {t : TypeId} {z : Nat × Nat} (h : w.heap[b]? = some (.cells c t z)) (v : Value) :
    (w.setCell ⟨b, o, none⟩ v).heap[b]? = some (.cells (c.setIfInBounds o v) t z) := by
  simp only [World.setCell, Array.getElem?_modify, h]; simp
theorem setCell_blk_ne {w : World} {a : Addr} {b : Nat} (hn : b ≠ a.block) (v : Value) : (w.setCell a v).heap[b]? = w.heap[b]? := Below.heap_setCell w a v b hn
/-! ### Maps from int to int -/
/-- Block b holds another map. -/
def setMap (w : World) (b : Nat) (es : Array MapEntry) (c : Nat) : World := { w with heap := w.heap.setIfInBounds b (.map es c) }
theorem setMap_eq (w : World) (b : Nat) (es : Array MapEntry) (c : Nat) : { w with heap := w.heap.setIfInBounds b (.map es c) } = setMap w b es c := rfl
theorem setMap_size (w : World) (b : Nat) (es : Array MapEntry) (c : Nat) : (setMap w b es c).heap.size = w.heap.size := by simp [setMap]
theorem setMap_drew (w : World) (b : Nat) (es : Array MapEntry) (c : Nat) : setMap w.drew b es c = (setMap w b es c).drew := rfl
theorem setMap_at {w : World} {b : Nat} {o : Obj} (h : w.heap[b]? = some o) (es : Array MapEntry) (c : Nat) : (setMap w b es c).heap[b]? = some (.map es c) := by
  have := lt_of_block h
  simp [setMap, this]
theorem setMap_ne {w : World} {b k : Nat} (h : k ≠ b) (es : Array MapEntry) (c : Nat) : (setMap w b es c).heap[k]? = w.heap[k]? := by
  simp only [setMap]; rw [Array.getElem?_setIfInBounds_ne (Ne.symm h)]
theorem setMap_cell {w : World} {b : Nat} {es0 : Array MapEntry} {c0 : Nat} (h : w.heap[b]? = some (.map es0 c0)) (es : Array MapEntry) (c : Nat) (a : Addr) : (setMap w b es c).cell? a = w.cell? a := by
  by_cases hb : a.block = b
  · subst hb; simp only [World.cell?, setMap_at h, h]
  · simp only [World.cell?, setMap_ne hb]
theorem Fr.setMap {F : Nat → Prop} {a w : World} (h : Fr F a w) {b : Nat} (hp : b < a.heap.size → F b) (es : Array MapEntry) (c : Nat) : Fr F a (setMap w b es c) :=
  h.trans (G := fun i => i = b) ⟨rfl, rfl, rfl, by simp [YthckfbfenfkdiaaDoor.setMap], fun k _ hk => setMap_ne hk es c⟩ (fun i hi e => by subst e; exact hp hi)
/-- An entry. -/
def ent (x : Int × Int × Nat) : MapEntry := { key := .int .i64 x.1, val := .int .i64 x.2.1, born := x.2.2 }
/-- What a list of entries has under a key. -/
def kv (l : List (Int × Int × Nat)) (k : Int) : Option Int := (l.find? (fun x => x.1 == k)).map (fun x => x.2.1)
/-- Block b is a map that has f. -/
def IMap (w : World) (b : Nat) (f : Int → Option Int) : Prop :=
  ∃ (l : List (Int × Int × Nat)) (c : Nat), w.heap[b]? = some (.map (l.map ent).toArray c) ∧ (l.map (·.1)).Nodup ∧ ∀ k, f k = kv l k
theorem IMap.fr {w w' : World} {b : Nat} {f : Int → Option Int} (h : IMap w b f) {F : Nat → Prop} (hf : Fr F w w') (hb : ¬ F b) : IMap w' b f := by
  obtain ⟨l, c, hb1, h2, h3⟩ := h
  exact ⟨l, c, hf.get hb1 hb, h2, h3⟩
theorem IMap.lt {w : World} {b : Nat} {f : Int → Option Int} (h : IMap w b f) : b < w.heap.size := by
  obtain ⟨l, c, hb1, h2, h3⟩ := h
  exact lt_of_block hb1
theorem findNow_ent (k : Int) (l : List (Int × Int × Nat)) (i : Nat) : Instr.findNow (.int .i64) (.int .i64 k) (l.map ent) i =
    some ((l.findIdx? (fun x => x.1 == k)).bind fun j => (l[j]?).map fun x => (i + j, Value.int .i64 x.2.1)) := by
  induction l generalizing i with
  | nil => rfl
  | cons x l ih =>
    simp only [List.map_cons, Instr.findNow, ent, Instr.sameNow, if_true]
    by_cases h : k = x.1
    · subst h; simp [List.findIdx?_cons]
    · have h1 : (k == x.1) = false := by simpa using h
      have h2 : (x.1 == k) = false := by simpa using fun e => h e.symm
      rw [h1]
      simp only [List.findIdx?_cons, h2]
      rw [ih]
      cases hf : l.findIdx? (fun x => x.1 == k) with
      | none => simp
      | some j => simp [Nat.add_assoc, Nat.add_comm 1 j]
theorem findIdx_set {α : Type} {p : α → Bool} {l : List α} {j : Nat} {x : α} (hx : p x = false) (hj : ∀ h : j < l.length, p l[j] = false) : (l.set j x).findIdx? p = l.findIdx? p := by
  induction l generalizing j with
  | nil => simp
  | cons y l ih =>
    cases j with
    | zero =>
      have := hj (by simp)
      simp at this
      simp [List.findIdx?_cons, hx, this]
    | succ j =>
      simp only [List.set_cons_succ, List.findIdx?_cons]
      rw [ih (fun h => by have := hj (by simpa using h); simpa using this)]
theorem eraseIdx_map' {α β : Type} (f : α → β) (l : List α) (j : Nat) : (l.map f).eraseIdx j = (l.eraseIdx j).map f := by
  rw [List.eraseIdx_eq_take_drop_succ, List.eraseIdx_eq_take_drop_succ]; simp
section
variable {P : Program} {T K E : TypeId}
theorem run_getMap (P : Program) {w : World} {b : Nat} {es : Array MapEntry} {c : Nat} (hb : w.heap[b]? = some (.map es c)) : (getObj b).run P w = .ok (.map es c) w := by
  simp [getObj, Sem.run, hb]
theorem run_putMap (P : Program) {w : World} {b : Nat} {es : Array MapEntry} {c : Nat} (hb : w.heap[b]? = some (.map es c)) (es' : Array MapEntry) (c' : Nat) :
    (setObj b (.map es' c')).run P w = .ok () (setMap w b es' c') := by
  simp [setObj, Sem.run, hb, setMap]
theorem checkKey_int (hK : P.underlying K = some (.int .i64)) (e : Bool) (k : Int) (w : World) : (Instr.checkKey e 10000 K (.int .i64 k)).run P w = .ok () w := by
  unfold Instr.checkKey
  simp [run_underlying hK]
theorem findKey_ent (hK : P.underlying K = some (.int .i64)) (k : Int) (l : List (Int × Int × Nat)) (w : World) :
    (Instr.findKey K (.int .i64 k) (l.map ent)).run P w = .ok ((l.findIdx? (fun x => x.1 == k)).bind fun j => (l[j]?).map fun x => (j, Value.int .i64 x.2.1)) w := by
  unfold Instr.findKey
  simp [run_underlying hK, findNow_ent]
theorem kv_idx (l : List (Int × Int × Nat)) (k : Int) : kv l k = ((l.findIdx? (fun x => x.1 == k)).bind fun j => (l[j]?).map fun x => x.2.1) := by
  unfold kv
  induction l with
  | nil => rfl
  | cons x l ih =>
    by_cases h : x.1 = k
    · simp [List.findIdx?_cons, h]
    · have h2 : (x.1 == k) = false := by simpa using h
      simp only [List.find?_cons, List.findIdx?_cons, h2, ih]
      cases l.findIdx? (fun x => x.1 == k) <;> simp
variable (hT : P.underlying T = some (.map K E)) (hK : P.underlying K = some (.int .i64))
include hT hK
theorem run_lookup2 {w : World} {b : Nat} {f : Int → Option Int} (hm : IMap w b f) (hz : (zeroValue E).run P w = .ok (.int .i64 0) w) (k : Int) :
    (Instr.lookup T (.map (some b)) (.int .i64 k) true).run P w = .ok (.tuple #[.int .i64 ((f k).getD 0), .bool (f k).isSome]) w := by
  obtain ⟨l, c, hb, hn, hf⟩ := hm
  simp only [Instr.lookup, Sem.run_bind, run_underlying hT, Result.andThen_ok, Sem.run_pure, checkKey_int hK, run_getMap P hb, findKey_ent hK]
  rw [hf, kv_idx]
  cases hi : l.findIdx? (fun x => x.1 == k) with
  | none => simp [hz]
  | some j =>
    have hj : j < l.length := by have := List.findIdx?_eq_some_iff_getElem.1 hi; exact this.1
    simp [hj]
theorem run_lookup1 {w : World} {b : Nat} {f : Int → Option Int} (hm : IMap w b f) (hz : (zeroValue E).run P w = .ok (.int .i64 0) w) (k : Int) :
    (Instr.lookup T (.map (some b)) (.int .i64 k) false).run P w = .ok (.int .i64 ((f k).getD 0)) w := by
  obtain ⟨l, c, hb, hn, hf⟩ := hm
  simp only [Instr.lookup, Sem.run_bind, run_underlying hT, Result.andThen_ok, Sem.run_pure, checkKey_int hK, run_getMap P hb, findKey_ent hK]
  rw [hf, kv_idx]
  cases hi : l.findIdx? (fun x => x.1 == k) with
  | none => simp [hz]
  | some j =>
    have hj : j < l.length := by have := List.findIdx?_eq_some_iff_getElem.1 hi; exact this.1
    simp [hj]
theorem run_update {w : World} {b : Nat} {f : Int → Option Int} (hm : IMap w b f) (k v : Int) :
    ∃ es c, (Instr.mapUpdate T (.map (some b)) (.int .i64 k) (.int .i64 v)).run P w = .ok () (setMap w b es c) ∧ IMap (setMap w b es c) b (fun j => if j = k then some v else f j) := by
  obtain ⟨l, c, hb, hn, hf⟩ := hm
  simp only [Instr.mapUpdate, Sem.run_bind, run_underlying hT, Result.andThen_ok, checkKey_int hK, run_getMap P hb, findKey_ent hK]
  cases hi : l.findIdx? (fun x => x.1 == k) with
  | none =>
    refine ⟨_, _, run_putMap P hb _ _, l ++ [(k, v, c)], c + 1, ?_, ?_, ?_⟩
    · rw [setMap_at hb]; simp [ent]
    · have hk : ∀ x ∈ l, x.1 ≠ k := by
        intro x hx he
        have := List.findIdx?_eq_none_iff.1 hi x hx
        simp [he] at this
      rw [List.map_append, List.nodup_append]
      refine ⟨hn, by simp, ?_⟩
      intro a ha b hb
      simp at hb; subst hb
      obtain ⟨x, hx, rfl⟩ := List.mem_map.1 ha
      exact hk x hx
    · intro j
      have hk : l.find? (fun x => x.1 == k) = none := by
        rw [List.find?_eq_none]
        intro x hx
        have := List.findIdx?_eq_none_iff.1 hi x hx
        simpa using this
      by_cases hj : j = k
      · subst hj; simp [kv, List.find?_append, hk]
      · have : (k == j) = false := by simpa using fun e => hj e.symm
        simp [kv, List.find?_append, hj, hf, this]
  | some j =>
    obtain ⟨hj, hjk, hlt⟩ := List.findIdx?_eq_some_iff_getElem.1 hi
    have hjk' : l[j].1 = k := by simpa using hjk
    simp only [Option.bind_some, List.getElem?_eq_getElem hj, Option.map_some]
    have hsb : Instr.sameBits 10000 (.int .i64 k) (.int .i64 k) = true := by simp [Instr.sameBits]
    have hks : (Instr.keyThatStays (.int .i64 k) (.int .i64 k)).run P w = .ok (.int .i64 k) w := by
      unfold Instr.keyThatStays; rw [if_pos hsb]; rfl
    have hkey : (Option.map (fun x => x.key) (List.map ent l).toArray[j]?).getD (Value.int IntKind.i64 k) = .int .i64 k := by
      simp [hj, ent, hjk']
    rw [hkey]
    simp only [Sem.run_bind, hks, Result.andThen_ok]
    refine ⟨_, _, run_putMap P hb _ _, l.set j (k, v, l[j].2.2), c, ?_, ?_, ?_⟩
    · rw [setMap_at hb]
      congr 2
      apply Array.ext'
      simp only [Array.toList_modify]
      apply List.ext_getElem (by simp)
      intro i h1 h2
      rw [List.getElem_modify, List.getElem_map, List.getElem_map, List.getElem_set]
      split
      · rename_i h; subst h; rfl
      · rfl
    · rw [List.map_set]
      have : (l.map (·.1)).set j k = l.map (·.1) := by
        apply List.ext_getElem (by simp)
        intro i h1 h2
        rw [List.getElem_set]
        split
        · rename_i h; subst h; simp [hjk']
        · rfl
      simp only [this]; exact hn
    · intro i
      rw [kv_idx]
      by_cases hik : i = k
      · subst hik
        have : (l.set j (i, v, l[j].2.2)).findIdx? (fun x => x.1 == i) = some j := by
          rw [List.findIdx?_eq_some_iff_getElem]
          refine ⟨by simpa using hj, by simp, ?_⟩
          intro m hm
          rw [List.getElem_set_ne (by omega)]
          exact hlt m hm
        rw [this]; simp [hj]
      · have : (l.set j (k, v, l[j].2.2)).findIdx? (fun x => x.1 == i) = l.findIdx? (fun x => x.1 == i) := by
          apply findIdx_set
          · simpa using fun e => hik e.symm
          · intro h; simpa [hjk'] using fun e => hik e.symm
        dsimp only
        rw [this, if_neg hik, hf, kv_idx]
        cases hfi : l.findIdx? (fun x => x.1 == i) with
        | none => simp
        | some m =>
          have hmj : j ≠ m := by
            intro e; subst e
            obtain ⟨_, h1, _⟩ := List.findIdx?_eq_some_iff_getElem.1 hfi
            simp [hjk'] at h1; exact hik h1.symm
          simp [List.getElem?_set_ne hmj]
theorem run_delete {w : World} {b : Nat} {f : Int → Option Int} (hm : IMap w b f) (k : Int) (ats : Array TypeId) (h0 : ats[0]? = some T) (ty : TypeId) :
    ∃ es c, (Builtin.delete_ ats ty #[.map (some b), .int .i64 k]).run P w = .ok (.tuple #[]) (setMap w b es c) ∧ IMap (setMap w b es c) b (fun j => if j = k then none else f j) := by
  obtain ⟨l, c, hb, hn, hf⟩ := hm
  have e1 : (#[Value.map (some b), Value.int .i64 k] : Array Value)[0]? = some (.map (some b)) := rfl
  have e2 : (#[Value.map (some b), Value.int .i64 k] : Array Value)[1]? = some (.int .i64 k) := rfl
  simp only [Builtin.delete_, h0, e1, e2, Sem.run_bind, run_underlying hT, Result.andThen_ok, checkKey_int hK, run_getMap P hb, findKey_ent hK]
  cases hi : l.findIdx? (fun x => x.1 == k) with
  | none =>
    have hk : ∀ x ∈ l, x.1 ≠ k := by
      intro x hx he
      have := List.findIdx?_eq_none_iff.1 hi x hx
      simp [he] at this
    simp only [Option.bind_none]
    refine ⟨(l.map ent).toArray, c, by rw [Sem.run_bind, run_putMap P hb]; rfl, l, c, setMap_at hb _ _, hn, ?_⟩
    intro j
    by_cases hj : j = k
    · subst hj
      have hk2 : l.find? (fun x => x.1 == j) = none := by
        rw [List.find?_eq_none]; intro x hx; simpa using hk x hx
      simp [kv, hk2]
    · simp [hj, hf]
  | some j =>
    obtain ⟨hj, hjk, hlt⟩ := List.findIdx?_eq_some_iff_getElem.1 hi
    have hjk' : l[j].1 = k := by simpa using hjk
    simp only [Option.bind_some, List.getElem?_eq_getElem hj, Option.map_some]
    refine ⟨_, _, by rw [Sem.run_bind, run_putMap P hb]; rfl, l.eraseIdx j, c, ?_, ?_, ?_⟩
    · rw [setMap_at hb]
      congr 2
      simp [Array.eraseIdxIfInBounds, hj, eraseIdx_map']
    · rw [← eraseIdx_map']; exact (List.eraseIdx_sublist _ _).nodup hn
    · intro i
      have hnk : ∀ m (hm : m < l.length), m ≠ j → l[m].1 ≠ k := by
        intro m hm hmj he
        have hp := List.pairwise_iff_getElem.1 hn
        rcases Nat.lt_or_gt_of_ne hmj with h | h
        · exact hp m j (by simpa using hm) (by simpa using hj) h (by simp [he, hjk'])
        · exact hp j m (by simpa using hj) (by simpa using hm) h (by simp [he, hjk'])
      by_cases hik : i = k
      · subst hik
        dsimp only
        rw [if_pos rfl]
        symm
        unfold kv
        have : (l.eraseIdx j).find? (fun x => x.1 == i) = none := by
          rw [List.find?_eq_none]
          intro x hx
          obtain ⟨m, hm1, hm2, hm3⟩ := List.mem_eraseIdx_iff_getElem.1 hx
          rw [← hm3]; simpa using hnk m hm1 hm2
        rw [this]; rfl
      · dsimp only
        rw [if_neg hik, hf]
        unfold kv
        congr 1
        have e : l = l.take j ++ l[j] :: l.drop (j+1) := by simp
        rw [List.eraseIdx_eq_take_drop_succ]
        conv => lhs; rw [e]
        rw [List.find?_append, List.find?_append, List.find?_cons]
        have : (l[j].1 == i) = false := by simpa [hjk'] using fun e => hik e.symm
        rw [this]
end
/-! ### Rows that grow -/
/-- The slice value v has n elements of type e (size cells each), whose cells are xs; it begins at the head of its row. -/
abbrev Row (w : World) (e : TypeId) (size : Nat) (v : Value) (n : Nat) (xs : List Value) : Prop := w.ownsRow 0 e size v n xs
theorem Row.fr {w w' : World} {e : TypeId} {size : Nat} {v : Value} {n : Nat} {xs : List Value} (h : Row w e size v n xs) {F : Nat → Prop} (hf : Fr F w w') (hb : ∀ b, v.ownBlock = some b → ¬ F b) : Row w' e size v n xs := by
  rcases h with ⟨h1, h2 | ⟨g, cap, cur, rfl, h3, h4, h5⟩⟩
  · exact ⟨h1, .inl h2⟩
  · exact ⟨h1, .inr ⟨g, cap, cur, rfl, h3, hf.get h4 (hb g rfl), h5⟩⟩
theorem Row.lt {w : World} {e : TypeId} {size : Nat} {v : Value} {n : Nat} {xs : List Value} (h : Row w e size v n xs) {b : Nat} (hb : v.ownBlock = some b) : b < w.heap.size :=
  (World.ownsRow.lt h b hb).2
theorem grownBy.fr {w w' : World} {r : Option Nat} (h : w.grownBy w' r) : Fr (fun b => r = some b) w w' :=
  ⟨h.os, h.tape, h.output, h.size, fun k hk hn => h.block k hk (fun e => hn e.symm)⟩
section
variable {P : Program} (w : World)
/-- append of m elements, by its run: what is owned then, and in which block. -/
theorem run_append_fr (t ty e : TypeId) (i : TypeInfo) (z : Value) (size bytes : Nat) (ht : P.underlying t = some (.slice e)) (hi : P.info? e = some i) (hz : i.zero = some z)
    (hsize : i.size = size) (hby : i.bytes = bytes) (hzs : z.cells.size = size) (hsz : 0 < size)
    (v : Value) (n : Nat) (xs : List Value) (hown : Row w e size v n xs)
    (a : Addr) (m c : Nat) (news : List Value) (hl : news.length = m * size) (hnews : ∀ j u, news[j]? = some u → w.cell? (a.add j) = some u) (h1 : ∀ u ∈ news, u.oneCell' = true)
    (h63 : n + m ≤ maxLen) (hbytes : (n + m) * bytes ≤ 140737488355328) :
    ∃ v' w', (Builtin.append_ #[t, t] ty #[v, .slice (some a) m c]).run P w = .ok v' w' ∧ Row w' e size v' (n + m) (xs ++ news) ∧ Fr (fun b => v.ownBlock = some b) w w' ∧
      (v'.ownBlock = v.ownBlock ∨ v'.ownBlock = some w.heap.size) := by
  subst hsize
  subst hby
  have hsmall : n + m ≤ 9223372036854775807 := by simp only [maxLen] at h63; omega
  have hlen : (xs ++ news).length = (n + m) * i.size := by rw [List.length_append, hown.1, hl, Nat.add_mul]
  have grown : ∀ (old : Nat), old < n + m → ∀ (row : Option Nat),
      Row (w.drew.alloc (.cells (xs.toArray ++ news.toArray ++ Builtin.zeroCells z.cells (grownCap w (n + m) old e - (n + m))) e)) e i.size
        (.slice (some ⟨w.heap.size, 0, none⟩) (n + m) (grownCap w (n + m) old e)) (n + m) (xs ++ news) ∧
      w.grownBy (w.drew.alloc (.cells (xs.toArray ++ news.toArray ++ Builtin.zeroCells z.cells (grownCap w (n + m) old e - (n + m))) e)) row := by
    intro old ho row
    have hge := grownCap_ge w (n + m) old e
    have hcm : grownCap w (n + m) old e ≤ maxLen := grownCap_le_maxLen w (n + m) old e h63
    refine ⟨⟨hlen, .inr ⟨w.heap.size, _, _, rfl, Nat.zero_le _, heap_alloc_new w.drew _, hge, hcm, ?_, ?_⟩⟩, ⟨rfl, rfl, rfl, by simp, fun k hk _ => heap_alloc_old w.drew _ k hk⟩⟩
    · simp only [Array.size_append, List.size_toArray, size_zeroCells, hzs, hown.1, hl, ← Nat.add_mul]
      congr 1
      omega
    · simp only [Array.toList_append, List.append_assoc]
      rw [← List.append_assoc, ← hlen]
      exact List.take_left
  rcases hown.2 with ⟨rfl, rfl⟩ | ⟨g, cap, cur, rfl, hbg, hg, hnc, hcm, hcs, htake⟩
  · have hx : xs = [] := List.eq_nil_of_length_eq_zero (by simpa using hown.1)
    subst hx
    by_cases hm : m = 0
    · subst hm
      have hn : news = [] := List.eq_nil_of_length_eq_zero (by simpa using hl)
      subst hn
      refine ⟨.slice none 0 0, w, ?_, World.ownsRow_nil w 0 e i.size, Fr.refl _ _, .inl rfl⟩
      simp [Builtin.append_, run_underlying ht, sizeOf, typeInfo, hi, Builtin.lenOf, Builtin.firstCells, loadCells, loadCellsFrom]
    · have hr := run_append_nil (P := P) w t ty e i z ht hi hz a m c news hl hnews (by omega) (by omega) (by have hb := hbytes; simp only [Nat.zero_add] at hb; omega)
      have hgr := grown 0 (by omega) (Value.ownBlock (.slice none 0 0))
      simp only [Nat.zero_add, List.nil_append, Array.empty_append] at hgr ⊢
      exact ⟨_, _, hr, hgr.1, grownBy.fr hgr.2, .inr rfl⟩
  · by_cases hroom : n + m ≤ cap
    · have hfit : n * i.size + news.length ≤ cur.size := by rw [hl, hcs, ← Nat.add_mul]; exact Nat.mul_le_mul_right _ hroom
      have hr := run_append_room (P := P) w t ty e i ht hi g n cap cur hg a m c news hl hnews h1 hroom hfit
      refine ⟨_, _, hr, ⟨hlen, .inr ⟨g, cap, _, rfl, hbg, setRow_heap w g cur _ e _ hg, hroom, hcm, ?_, ?_⟩⟩, ⟨rfl, rfl, rfl, by simp, fun k _ hk => setRow_other w g k _ (fun e => hk (by simp [Value.ownBlock, e]))⟩, .inl rfl⟩
      · simp only [List.size_toArray, List.length_append, List.length_take, List.length_drop, Array.length_toList]
        omega
      · rw [htake, ← hlen]
        exact List.take_left
    · have holds : ∀ j u, xs[j]? = some u → w.cell? ((⟨g, 0, none⟩ : Addr).add j) = some u := hown.cells (g := g) rfl
      have hr := run_append_grow (P := P) w t ty e i z ht hi hz ⟨g, 0, none⟩ n cap xs hown.1 holds a m c news hl hnews (by omega) (by omega) (growslice_fits (by omega) hbytes)
      have hgr := grown cap (by omega) (Value.ownBlock (.slice (some ⟨g, 0, none⟩) n cap))
      exact ⟨_, _, hr, hgr.1, grownBy.fr hgr.2, .inr rfl⟩
end
end Go.Proofs.YthckfbfenfkdiaaDoor
