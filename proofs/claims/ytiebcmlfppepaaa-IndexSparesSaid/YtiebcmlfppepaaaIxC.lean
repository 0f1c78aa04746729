/- The index layer in memory: slots, the head; mix.Hash, made. No condition. -/
import Derived.Test.YtiebcmlfppepaaaMore
import Derived.Test.YtiebcmlfppepaaaIxB
import Derived.Test.YtiebcmlfppepaaaProg
import Derived.Laws.Bits64b
import Derived.Laws.ShiftsVarLaws
import Derived.Laws.MakeOwn
import Derived.StillTailTactics
namespace Go.Proofs.Ytiebcmlfppepaaa.Ix
open Go.RowKit
def cells3 (x : Sl) : List Value := [.int .u8 (x.1 : Int), .int .u32 (x.2.1 : Int), .int .i64 x.2.2]
def flat3 (S : List Sl) : List Value := S.flatMap cells3
theorem flat3_cons (x : Sl) (S : List Sl) : flat3 (x :: S) = cells3 x ++ flat3 S := by simp [flat3]
theorem flat3_append (A B : List Sl) : flat3 (A ++ B) = flat3 A ++ flat3 B := by simp [flat3]
theorem flat3_length (S : List Sl) : (flat3 S).length = S.length * 3 := by
  induction S with
  | nil => rfl
  | cons x S ih => rw [flat3_cons, List.length_append, ih, List.length_cons]; show 3 + _ = _; omega
theorem flat3_get : ∀ (S : List Sl) (p : Nat), p < S.length → (flat3 S)[p * 3]? = some (.int .u8 ((slAt S p).1 : Int)) ∧ (flat3 S)[p * 3 + 1]? = some (.int .u32 ((slAt S p).2.1 : Int)) ∧ (flat3 S)[p * 3 + 2]? = some (.int .i64 (slAt S p).2.2)
  | [], p, h => absurd h (Nat.not_lt_zero _)
  | x :: S, 0, _ => ⟨rfl, rfl, rfl⟩
  | x :: S, p + 1, h => by
    have := flat3_get S p (by simpa using h)
    have e : ∀ k, (flat3 (x :: S))[(p + 1) * 3 + k]? = (flat3 S)[p * 3 + k]? := by
      intro k
      rw [flat3_cons, List.getElem?_append_right (by show 3 ≤ _; omega)]
      congr 1
      show (p + 1) * 3 + k - 3 = _
      omega
    have e0 := e 0
    simp only [Nat.add_zero] at e0
    rw [e0, e 1, e 2]
    exact this
theorem flat3_set {S : List Sl} {p : Nat} (hp : p < S.length) (x : Sl) : flat3 (S.set p x) = (((flat3 S).set (p * 3) (.int .u8 (x.1 : Int))).set (p * 3 + 1) (.int .u32 (x.2.1 : Int))).set (p * 3 + 2) (.int .i64 x.2.2) := by
  rw [set_split hp]
  conv => rhs; rw [self_split hp]
  rw [flat3_append, flat3_append, flat3_cons, flat3_cons]
  have hl : (flat3 (S.take p)).length = p * 3 := by rw [flat3_length, List.length_take, Nat.min_eq_left (Nat.le_of_lt hp)]
  rw [List.set_append_right _ _ (by omega), List.set_append_right _ _ (by omega), List.set_append_right _ _ (by omega), hl]
  congr 1
  have e0 : p * 3 - p * 3 = 0 := by omega
  have e1 : p * 3 + 1 - p * 3 = 1 := by omega
  have e2 : p * 3 + 2 - p * 3 = 2 := by omega
  rw [e0, e1, e2]
  rfl
/-- The slots lie in block g. -/
def SlotsAt (w : World) (g : Nat) (S : List Sl) : Prop := w.heap[g]? = some (.cells (flat3 S).toArray 86 (0, 0))
/-- The index's own block. -/
def HeadAt (w : World) (bh g N most len gr st : Nat) : Prop := w.heap[bh]? = some (.cells #[.slice (some ⟨g, 0, none⟩) N N, .int .i64 most, .int .i64 len, .int .i64 gr, .int .i64 st] 107 (0, 0))
theorem SlotsAt.cells {w : World} {g : Nat} {S : List Sl} (h : SlotsAt w g S) {p : Nat} (hp : p < S.length) : w.cell? ⟨g, p * 3, none⟩ = some (.int .u8 ((slAt S p).1 : Int)) ∧ w.cell? ⟨g, p * 3 + 1, none⟩ = some (.int .u32 ((slAt S p).2.1 : Int)) ∧ w.cell? ⟨g, p * 3 + 2, none⟩ = some (.int .i64 (slAt S p).2.2) := by
  have := flat3_get S p hp
  rw [cell_of h, cell_of h, cell_of h]
  simpa using this
theorem SlotsAt.free {w : World} {g : Nat} {S : List Sl} (h : SlotsAt w g S) (k : Nat) : w.frozen? ⟨g, k, none⟩ = false := free_of h k
theorem SlotsAt.fr {w w' : World} {g : Nat} {S : List Sl} (h : SlotsAt w g S) {F : Nat → Prop} (f : Fr F w w') (hn : ¬ F g) : SlotsAt w' g S := f.get h hn
theorem SlotsAt.lt {w : World} {g : Nat} {S : List Sl} (h : SlotsAt w g S) : g < w.heap.size := lt_of_block h
theorem SlotsAt.set {w : World} {g : Nat} {S : List Sl} (h : SlotsAt w g S) {p : Nat} (hp : p < S.length) (x : Sl) :
    SlotsAt (((w.setCell ⟨g, p * 3, none⟩ (.int .u8 (x.1 : Int))).setCell ⟨g, p * 3 + 1, none⟩ (.int .u32 (x.2.1 : Int))).setCell ⟨g, p * 3 + 2, none⟩ (.int .i64 x.2.2)) g (S.set p x) := by
  unfold SlotsAt
  rw [flat3_set hp]
  have h1 := setCell_blk (o := p * 3) h (.int .u8 (x.1 : Int))
  have h2 := setCell_blk (o := p * 3 + 1) h1 (.int .u32 (x.2.1 : Int))
  have h3 := setCell_blk (o := p * 3 + 2) h2 (.int .i64 x.2.2)
  rw [h3]; simp
theorem SlotsAt.setv {w : World} {g : Nat} {S : List Sl} (h : SlotsAt w g S) {p : Nat} (hp : p < S.length) (v : Int) : SlotsAt (w.setCell ⟨g, p * 3 + 2, none⟩ (.int .i64 v)) g (S.set p ((slAt S p).1, (slAt S p).2.1, v)) := by
  unfold SlotsAt
  rw [flat3_set hp, setCell_blk (o := p * 3 + 2) h (.int .i64 v)]
  obtain ⟨g0, g1, -⟩ := flat3_get S p hp
  have e0 : (flat3 S).set (p * 3) (.int .u8 ((slAt S p).1 : Int)) = flat3 S := by
    obtain ⟨hl, e⟩ := List.getElem?_eq_some_iff.1 g0
    rw [← e, List.set_getElem_self]
  have e1 : (flat3 S).set (p * 3 + 1) (.int .u32 ((slAt S p).2.1 : Int)) = flat3 S := by
    obtain ⟨hl, e⟩ := List.getElem?_eq_some_iff.1 g1
    rw [← e, List.set_getElem_self]
  simp only at *
  rw [e0, e1]; simp
theorem HeadAt.cells {w : World} {bh g N most len gr st : Nat} (h : HeadAt w bh g N most len gr st) : w.cell? ⟨bh, 0, none⟩ = some (.slice (some ⟨g, 0, none⟩) N N) ∧ w.cell? ⟨bh, 1, none⟩ = some (.int .i64 most) ∧ w.cell? ⟨bh, 2, none⟩ = some (.int .i64 len) ∧ w.cell? ⟨bh, 3, none⟩ = some (.int .i64 gr) ∧ w.cell? ⟨bh, 4, none⟩ = some (.int .i64 st) := by
  rw [cell_of h, cell_of h, cell_of h, cell_of h, cell_of h]; exact ⟨rfl, rfl, rfl, rfl, rfl⟩
theorem HeadAt.free {w : World} {bh g N most len gr st : Nat} (h : HeadAt w bh g N most len gr st) (k : Nat) : w.frozen? ⟨bh, k, none⟩ = false := free_of h k
theorem HeadAt.fr {w w' : World} {bh g N most len gr st : Nat} (h : HeadAt w bh g N most len gr st) {F : Nat → Prop} (f : Fr F w w') (hn : ¬ F bh) : HeadAt w' bh g N most len gr st := f.get h hn
theorem HeadAt.lt {w : World} {bh g N most len gr st : Nat} (h : HeadAt w bh g N most len gr st) : bh < w.heap.size := lt_of_block h
theorem HeadAt.len {w : World} {bh g N most len gr st : Nat} (h : HeadAt w bh g N most len gr st) (x : Nat) : HeadAt (w.setCell ⟨bh, 2, none⟩ (.int .i64 x)) bh g N most x gr st := by
  unfold HeadAt; rw [setCell_blk (o := 2) h]; rfl
theorem HeadAt.graves {w : World} {bh g N most len gr st : Nat} (h : HeadAt w bh g N most len gr st) (x : Nat) : HeadAt (w.setCell ⟨bh, 3, none⟩ (.int .i64 x)) bh g N most len x st := by
  unfold HeadAt; rw [setCell_blk (o := 3) h]; rfl
theorem HeadAt.steps {w : World} {bh g N most len gr st : Nat} (h : HeadAt w bh g N most len gr st) (x : Nat) : HeadAt (w.setCell ⟨bh, 4, none⟩ (.int .i64 x)) bh g N most len gr x := by
  unfold HeadAt; rw [setCell_blk (o := 4) h]; rfl
/-- An index that isn't there. -/
def NoIdx (w : World) (p : Option Addr) : Prop := p = none ∨ ∃ b v1 v2 v3 v4, p = some ⟨b, 0, none⟩ ∧ w.heap[b]? = some (.cells #[.slice none 0 0, v1, v2, v3, v4] 107 (0, 0))
theorem run_neq_slice_nil {P : Program} (w : World) (t e : TypeId) (a : Option Addr) (n c n' c' : Nat) (h : P.underlying t = some (.slice e)) :
    (binOp .neq t (.slice a n c) (.slice none n' c')).run P w = .ok (.bool (!a.isNone)) w := by
  simp only [binOp]
  simp [Op.equal, Op.maxDepth, Lib.run_equalIn_slice_nil w 9999 t e a n c n' c' h]
set_option maxRecDepth 100000 in
theorem made_ok {w : World} {bh g N most len gr st : Nat} (h : HeadAt w bh g N most len gr st) : Calls Try.prog 31 #[.pointer (some ⟨bh, 0, none⟩)] w fun e w' => e = .returned (.bool true) ∧ w = w' := by
  have c0 := h.cells.1
  have q := fun w a n c => run_neq_slice_nil (P := Try.prog) w _ _ a n c 0 0 Try.underlying81
  clear h
  go_enter Try.func31, Try.ntmps31
  go_wp2_with fail
  go_ret
  exact ⟨rfl, rfl⟩
set_option maxRecDepth 100000 in
theorem made_no {w : World} {p : Option Addr} (h : NoIdx w p) : Calls Try.prog 31 #[.pointer p] w fun e w' => e = .returned (.bool false) ∧ w = w' := by
  have q := fun w a n c => run_neq_slice_nil (P := Try.prog) w _ _ a n c 0 0 Try.underlying81
  rcases h with rfl | ⟨b, v1, v2, v3, v4, rfl, h⟩
  · go_enter Try.func31, Try.ntmps31
    go_wp2_with fail
    go_ret
    exact ⟨rfl, rfl⟩
  · have c0 := (cell_of h 0).trans (show _ = some (Value.slice none 0 0) from rfl)
    clear h
    go_enter Try.func31, Try.ntmps31
    go_wp2_with fail
    go_ret
    exact ⟨rfl, rfl⟩
def mixA (x : Int) : Int := IntKind.u64.wrap (bits .xor .u64 x (x / 1073741824) * 13787848793156543929)
def mixB (x : Int) : Int := IntKind.u64.wrap (bits .xor .u64 x (x / 134217728) * 10723151780598845931)
def mixC (x : Int) : Int := bits .xor .u64 x (x / 2147483648)
/-- What mix.Hash gives. -/
def hash (x : Nat) : Nat := (mixC (mixB (mixA x))).toNat
theorem mixC_range (x : Int) : 0 ≤ mixC x ∧ mixC x < 18446744073709551616 := by
  have h : ∃ y, mixC x = IntKind.u64.wrap y := ⟨_, rfl⟩
  obtain ⟨y, e⟩ := h
  rw [e, IntKind.wrap_u64]; omega
theorem hash_lt (x : Nat) : hash x < 18446744073709551616 := by
  have := mixC_range (mixB (mixA x)); unfold hash; omega
set_option maxRecDepth 100000 in
theorem hash_ok (w : World) {x : Nat} (hx : x < 18446744073709551616) : Calls Try.prog 88 #[.int .u64 (x : Int)] w fun e w' => e = .returned (.int .u64 (hash x : Int)) ∧ w = w' := by
  go_enter Try.func88, Try.ntmps88
  go_wp2_with fail
  go_ret
  refine ⟨?_, rfl⟩
  have e : (hash x : Int) = mixC (mixB (mixA x)) := by
    have := mixC_range (mixB (mixA x)); unfold hash; omega
  rw [e]
  rfl
/-- An id's home among N slots. -/
def home (N id : Nat) : Nat := hash id % N
attribute [irreducible] hash
end Go.Proofs.Ytiebcmlfppepaaa.Ix
