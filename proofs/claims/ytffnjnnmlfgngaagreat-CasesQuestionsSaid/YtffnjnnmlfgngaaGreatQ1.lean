/- What PCQuests needs besides. No condition. -/
import Derived.RangeFuncLeaves
import Derived.RangeFuncRecord
import Derived.RangeFuncNested
import Derived.Lib.SmallJoins
import Derived.Test.YtffnjnnmlfgngaaGreatM1
import Derived.Test.YtffnjnnmlfgngaaGreatM2
import Derived.Test.YtffnjnnmlfgngaaGreatM3
import Derived.Test.YtffnjnnmlfgngaaGreatM4
import Derived.Test.YtffnjnnmlfgngaaGreatM5
namespace Go.Proofs.YtffnjnnmlfgngaaGreat
open Go.RowKit
def mark (D : Nat) : Deferred := { target := .collected D, args := #[] }
/-- A statement that leaves the temporaries as they are, and may leave marks. -/
theorem wp_cutD {P : Program} {s : Code} {K : Act → World → Prop} {Q' : Exit → Act → World → Prop} {tmps : Array Value} {ds : List Deferred} {w : World} (R : List Deferred → World → Prop)
    (rest : ∀ ds' w', R ds' w' → K ⟨tmps, ds'⟩ w') (first : ∀ K' : Act → World → Prop, (∀ ds' w', R ds' w' → K' ⟨tmps, ds'⟩ w') → s.wp P (Exit.then K' Q') ⟨tmps, ds⟩ w) : s.wp P (Exit.then K Q') ⟨tmps, ds⟩ w := by
  have h := first (fun a' w' => ∃ ds', a' = ⟨tmps, ds'⟩ ∧ R ds' w') (fun ds' w' h => ⟨ds', rfl, h⟩)
  refine wp_mono h ?_
  intro e a' w' hq
  cases e with
  | normal => obtain ⟨ds', rfl, hR⟩ := hq; exact rest _ _ hR
  | exit id => exact hq
  | goto l => exact hq
  | ret => exact hq
  | panic ch => exact hq
  | outgrown => exact hq
end Go.Proofs.YtffnjnnmlfgngaaGreat
namespace Go.Proofs.YtffnjnnmlfgngaaGreat
open Go.RowKit Go.Shelf
section
variable {α : Type} {F : Fence} {n : Nat} {P : Program} {g : Operand} {ps : Array Tmp} {assign body : Code} {Q : Exit → Act → World → Prop} {a : Act} {w : World}
variable {gf : Nat} {lb : Array Value} {encs : α → Array Value} {p : Nat → Prop} {S Sp : List α → Prop} {N : Nat} {w0 : World}
theorem no_cells {A B : World} {row : Option Nat} (hr : ∀ r, row = some r → ∃ o : Obj, A.heap[r]? = some o ∧ o.isCells = false) (hg : A.grownBy B row) {b : Nat} {c : Array Value} {t : TypeId} {z : Nat × Nat} (h : A.heap[b]? = some (.cells c t z)) : B.heap[b]? = some (.cells c t z) := by
  refine (grownBy.fr hg).get h fun e => ?_
  obtain ⟨o, h1, h2⟩ := hr b e
  rw [h] at h1; cases h1; simp [Obj.isCells] at h2
theorem range_boxed (hro : F.round = none) (h1 : 1 ≤ n) (hg : a.eval g = .func (.func gf) #[] lb) (hFg : F.fn gf) (eg : ∀ args w, (callFunc gf args).run P w = .ok (.enter gf args) w)
    (hseq : SeqStopsK F (n - 1) P gf lb encs (KeepsB p) S Sp N w0) (hp : ∀ b, p b → b < w.heap.size) (hb0 : Below w0.heap.size w0 w) (hps : ∀ x, (encs x).size = ps.size)
    (I : List α → World → Prop) (Ix : Code → List α → World → Prop) (hI : OwnFrom w.heap.size I) (hIx : ∀ c, OwnFrom w.heap.size (Ix c)) (h0 : I [] w) (hsz : ∀ pre W, I pre W → w.heap.size ≤ W.heap.size)
    (cl : α → Array Value) (bt : TypeId) (a1 : α → Nat → Act)
    (hassign : ∀ (l : Nat) (x : α) (W : World) (K : Act → World → Prop), (∀ b, b = W.heap.size → K (a1 x b) (W.alloc (.cells (cl x) bt))) → assign.wpIn (F.inRound l) (n - 1 - 1) P (Exit.then K (fun _ _ _ => False)) { tmps := (ps.zip (encs x)).foldl (fun t (p, v) => t.setIfInBounds p v) a.tmps, defers := [] } W)
    (hbody : ∀ (l : Nat) (pre : List α) (x : α) (b : Nat) (W : World), w.heap.size ≤ b → W.heap[b]? = some (.cells (cl x) bt (0, 0)) → I pre W → pre.length < N → body.wpIn (F.inRound l) (n - 1 - 1) P (ownPostG w.heap.size (KeepsB p) I Ix (pre ++ [x]) W) (a1 x b) W)
    (hdone : ∀ (D : Nat) (xs : List α) (W : World), w.heap.size ≤ D → S xs → I xs W → W.heap[D]? = some (.deferred (some [])) → Q .normal { a with defers := { target := .collected D, args := #[] } :: a.defers } W)
    (hstop : ∀ (D : Nat) (c : Code) (pre : List α) (W : World), w.heap.size ≤ D → Sp pre → Ix c pre W → W.heap[D]? = some (.deferred (some [])) → c.wpIn F n P Q { a with defers := { target := .collected D, args := #[] } :: a.defers } W) :
    (Code.rangeFunc g ps assign body).wpIn F n P Q a w :=
  wpIn_rangeFunc_ownH hro h1 hg hFg eg hseq KeepsB.trans (keepsB_b hp) hb0 hps I Ix hI hIx h0 (fun x a' W => ∃ b, a' = a1 x b ∧ w.heap.size ≤ b ∧ W.heap[b]? = some (.cells (cl x) bt (0, 0)))
    (by
      rintro x a' _ A B row ⟨b, e, hb, hc⟩ hgr hr
      exact ⟨b, e, hb, no_cells (fun r e => (hr r e).2) hgr hc⟩)
    (fun l pre x W K hi hK => hassign l x W K (fun b hb => hK _ _ (KeepsFrom.of_grownBy (row := none) (World.grownBy_alloc _ _ none) (fun j e => by cases e)) (KeepsB.alloc (KeepsB.refl _ _) _)
      (hI _ _ _ none hi (World.grownBy_alloc _ _ none) (fun r e => by cases e)) ⟨b, rfl, by rw [hb]; exact hsz _ _ hi, by rw [hb]; exact heap_alloc_at _ _⟩))
    (fun l pre x a' W hl hr hi => by
      rintro ⟨b, rfl, hb, hc⟩
      exact hbody l pre x b W hb hc hi) hdone hstop
end
end Go.Proofs.YtffnjnnmlfgngaaGreat
namespace Go.Proofs.YtffnjnnmlfgngaaGreat.Bk
open Go.RowKit Go.Shelf
attribute [local go_sem] Oper.semAt_some
theorem take_snocA {S : List Bo} {k : Nat} (h : k < S.length) : S.attach.take k ++ [⟨S[k], List.getElem_mem h⟩] = S.attach.take (k + 1) := by
  rw [List.take_add_one, List.getElem?_eq_getElem (by rw [List.length_attach]; exact h)]; simp
set_option maxRecDepth 100000 in
set_option maxHeartbeats 2000000 in
theorem vals_in (F : Fence) (n : Nat) (hF : F.fn 95) (hro : F.round = none) (hn : 1 ≤ n) {w : World} {cb : Nat} {sv : Value} {S : List Bo} (hs : VSeq w cb sv S) (p : Nat → Prop) (hp : ∀ b, seqP cb sv b → p b) :
    SeqStopsK F n Tryz.prog 95 #[.pointer (some ⟨cb, 0, none⟩)] (fun x : { x : Bo // x ∈ S } => #[boV x.1]) (KeepsB p) (fun ys => ys = S.attach) (fun pre => pre <+: S.attach) S.length w := fun l J Jx W hW hJ _ hY h0 => by
  have hs := hs.below hW
  have c0 := hs.c0
  obtain ⟨m, hm⟩ : ∃ m, m = S.length := ⟨_, rfl⟩
  rcases id hs.row.2 with ⟨e0, e1⟩ | ⟨b, cap, cur, e0, -, hb, -⟩
  · obtain rfl : S = [] := List.eq_nil_of_length_eq_zero e1
    subst e0
    clear hs hW hm
    refine callsIn_of_wp Tryz.func95 rfl hF ?_ hro
    simp only [Tryz.ntmps95, List.size_toArray, List.length_cons, List.length_nil, Nat.reduceAdd, Nat.reduceSub, Array.replicate_succ, Array.replicate_zero, List.push_toArray, List.append_toArray, List.nil_append, List.cons_append]
    gi_wp2
    gi_loopw [7] (fun i wr => i = .int .i64 0 ∧ J [] wr) (fun _ _ => 0)
    case atStart => exact ⟨rfl, h0⟩
    case round =>
      obtain ⟨rfl, hJs⟩ := hrel
      gi_wp2
      go_end0
      exact ⟨⟨_, rfl⟩, .inl ⟨_, rfl, hJs⟩⟩
  · subst e0
    have HB := Lib.hid hs.row; have Hm := Lib.hid hm; have Hp := Lib.hid (hp b (.inr rfl)); have H8 := Lib.hid hs.few; have HlW := Lib.hid (lt_of_block hb)
    rw [← hm] at c0
    clear hs hW hm hb
    refine callsIn_of_wp Tryz.func95 rfl hF ?_ hro
    simp only [Tryz.ntmps95, List.size_toArray, List.length_cons, List.length_nil, Nat.reduceAdd, Nat.reduceSub, Array.replicate_succ, Array.replicate_zero, List.push_toArray, List.append_toArray, List.nil_append, List.cons_append]
    gi_wp2
    gi_loopw [7] (fun i wr => ∃ k : Nat, k ≤ m ∧ i = .int .i64 k ∧ J (S.attach.take k) wr ∧ KeepsB p W wr)
      (fun i _ => m - (intOf i).toNat)
    case atStart => exact ⟨0, Nat.zero_le _, rfl, h0, KeepsB.refl _ _⟩
    case round =>
      obtain ⟨k, hk, rfl, hJs, hnx⟩ := hrel
      have Hnx := Lib.hid hnx
      clear hnx
      by_cases hlt : k < m
      · have hlt' : (k : Int) < (m : Int) := by omega
        have k0 : (0 : Int) ≤ (k : Int) := by omega
        have hkL : k < S.length := by rw [← Hm.out]; exact hlt
        have hbr : Bos wr (.slice (some ⟨b, 0, none⟩) S.length cap) S := by
          obtain ⟨h1, h2 | ⟨g, cap', cur', e, h3, h4, h5⟩⟩ := HB.out
          · exact ⟨h1, .inl h2⟩
          · refine ⟨h1, .inr ⟨g, cap', cur', e, h3, ?_, h5⟩⟩
            simp only [Value.slice.injEq, Option.some.injEq, Addr.mk.injEq] at e
            obtain ⟨⟨rfl, -⟩, -⟩ := e
            exact (Hnx.out.blk _ Hp.out HlW.out).trans h4
        obtain ⟨g, cap', e, d0, d1, d2⟩ := hbr.cells hkL
        simp only [Value.slice.injEq, Option.some.injEq, Addr.mk.injEq] at e
        obtain ⟨⟨rfl, -⟩, -, -⟩ := e
        obtain ⟨x, hx⟩ : ∃ x : Bo, x = S[k] := ⟨_, rfl⟩
        rw [← hx] at d0 d1 d2
        have hxm : x ∈ S := by rw [hx]; exact List.getElem_mem hkL
        have hJ1 : J (S.attach.take k) (wr.alloc (.cells #[.int .u32 (x.1 : Int), .int .i64 x.2.1, .int .i64 x.2.2] 68)) := hJ _ _ _ none hJs (World.grownBy_alloc _ _ none) (fun r e => by cases e)
        obtain ⟨fn, tmps, assign, body, hy, hR⟩ := hY _ (⟨x, hxm⟩ : { x : Bo // x ∈ S }) _ hJ1 (by rw [List.length_take, List.length_attach]; omega)
        obtain ⟨k1, hk1⟩ : ∃ k1, k1 = k + 1 := ⟨_, rfl⟩
        have e1 : (k : Int) + 1 = (k1 : Int) := by omega
        have e2 : wrap64 (k1 : Int) = (k1 : Int) := by unfold wrap64; have := H8.out; omega
        have e3 : IntKind.i64.wrap (k1 : Int) = (k1 : Int) := by rw [IntKind.wrap_i64]; have := H8.out; omega
        have HK1 := Lib.hid hk1; have HX := Lib.hid (show (⟨x, hxm⟩ : { x : Bo // x ∈ S }) = ⟨S[k], List.getElem_mem hkL⟩ from Subtype.ext hx); have Hlt := Lib.hid hlt; have HkL := Lib.hid hkL
        clear hk1 hx hlt hk hbr
        gi_wp2
        refine hR.mono ?_
        rintro e W3 (⟨rfl, hJ3, hk3⟩ | ⟨rfl, hJx3⟩)
        · gi_wp2
          go_roundw
          case rel => exact ⟨k1, by have := HK1.out; have := Hlt.out; omega, rfl, by rw [HK1.out, ← take_snocA HkL.out, ← HX.out]; exact hJ3, (Hnx.out.alloc _).trans hk3⟩
          case measure => have := HK1.out; have := Hlt.out; simp [intOf]; omega
        · gi_wp2
          refine bodyPost_ret (results_none rfl _ _ _) rfl ?_
          exact ⟨⟨_, rfl⟩, .inr ⟨_, by rw [HX.out, take_snocA HkL.out]; exact List.take_prefix _ _, hJx3⟩⟩
      · obtain rfl : k = m := by omega
        clear hlt hk
        gi_wp2
        go_end0
        exact ⟨⟨_, rfl⟩, .inl ⟨_, rfl, by rw [Hm.out, List.take_of_length_le (by rw [List.length_attach]; exact Nat.le_refl _)] at hJs; exact hJs⟩⟩
end Go.Proofs.YtffnjnnmlfgngaaGreat.Bk
namespace Go.Proofs.YtffnjnnmlfgngaaGreat.Bk
/-! ### How many seats are taken -/
def seatsN (L : List Bo) : Nat → Nat
  | 0 => 0
  | k + 1 => seatsN L k + if (bSeat L (k : Int)).isSome then 1 else 0
theorem seatsN_cons {L : List Bo} {x : Bo} (hx : ∀ y ∈ L, y.2.1 ≠ x.2.1) (h0 : 0 ≤ x.2.1) : ∀ k, seatsN (x :: L) k = seatsN L k + if x.2.1 < (k : Int) then 1 else 0 := by
  have hf : ∀ {j : Int}, (bSeat (x :: L) j).isSome = if x.2.1 = j then true else (bSeat L j).isSome := by
    intro j
    unfold bSeat
    rw [List.find?_cons]
    by_cases e : x.2.1 = j
    · rw [if_pos e]; simp [e]
    · rw [if_neg e, show (x.2.1 == j) = false by simpa using e]
  intro k
  induction k with
  | zero => rw [if_neg (by omega)]; rfl
  | succ k ih =>
    unfold seatsN
    rw [ih, hf]
    by_cases e : x.2.1 = (k : Int)
    · rw [if_pos e]
      have hn : (bSeat L (k : Int)).isSome = false := by
        cases h : bSeat L (k : Int) with
        | none => rfl
        | some y => exact absurd ((bSeat_id h).1.trans e.symm) (hx y (bSeat_id h).2)
      rw [hn]
      rw [if_neg (show ¬ x.2.1 < (k : Int) by omega), if_pos (show x.2.1 < ((k + 1 : Nat) : Int) by omega)]; simp
    · rw [if_neg e]
      by_cases c : x.2.1 < (k : Int)
      · rw [if_pos c, if_pos (show x.2.1 < ((k + 1 : Nat) : Int) by omega)]; omega
      · rw [if_neg c, if_neg (show ¬ x.2.1 < ((k + 1 : Nat) : Int) by omega)]; omega
theorem seatsN_all {n : Nat} : ∀ {L : List Bo}, L.Pairwise (fun x y => x.2.1 ≠ y.2.1) → (∀ x ∈ L, 0 ≤ x.2.1 ∧ x.2.1 < (n : Int)) → seatsN L n = L.length := by
  intro L
  induction L with
  | nil =>
    intro _ _
    have : ∀ k, seatsN [] k = 0 := by intro k; induction k with | zero => rfl | succ k ih => unfold seatsN; rw [ih]; simp [bSeat]
    exact this n
  | cons x L ih =>
    intro hp ha
    have h1 := List.pairwise_cons.1 hp
    have hx := ha x (by simp)
    rw [seatsN_cons (fun y hy => (h1.1 y hy).symm) hx.1, ih h1.2 (fun y hy => ha y (by simp [hy])), if_pos hx.2, List.length_cons]
/-! ### The clock -/
end Go.Proofs.YtffnjnnmlfgngaaGreat.Bk
namespace Go.Proofs.YtffnjnnmlfgngaaGreat.Bk
open Go.Shelf Go.RowKit
attribute [local go_sem] Oper.semAt_some
theorem putObj_fr (W : World) (D : Nat) (o : Obj) : Fr (fun b => b = D) W (W.putObj D o) := (grownBy.fr (grownBy_putObj' W D o)).mono (fun b _ e => by cases e; rfl)
end Go.Proofs.YtffnjnnmlfgngaaGreat.Bk
namespace Go.Proofs.YtffnjnnmlfgngaaGreat.Bk
open Go.RowKit Go.Shelf
theorem Keep.app {L M : List (Nat × Obj)} {V : World} (h : Keep L V) (k : Keep M V) : Keep (L ++ M) V := fun x hx => by
  rcases List.mem_append.1 hx with hx | hx
  · exact h x hx
  · exact k x hx
section
variable {W V V' : World} {n : Nat} {B : Nat → Nat} {M : Nat → Bk} {L : List (Nat × Obj)}
theorem St.keeps (h : St W V n B M L) : Keep L V := by obtain ⟨Z, P, _, h2, _⟩ := h; exact h2
end
end Go.Proofs.YtffnjnnmlfgngaaGreat.Bk
namespace Go.Proofs.YtffnjnnmlfgngaaGreat.Bk
open Go.RowKit Go.Shelf
def foundN (L : List Bo) : Nat → Nat
  | 0 => 0
  | k + 1 => foundN L k + if (bFind L k).isSome then 1 else 0
theorem foundN_cons (L : List Bo) (x : Bo) : ∀ k, foundN (x :: L) k ≤ foundN L k + if x.1 < k then 1 else 0 := by
  intro k
  induction k with
  | zero => exact Nat.zero_le _
  | succ k ih =>
    have h : (if (bFind (x :: L) k).isSome then 1 else 0) ≤ (if (bFind L k).isSome then 1 else 0) + if x.1 = k then 1 else 0 := by
      by_cases e : x.1 = k
      · rw [if_pos e]; split <;> omega
      · have : bFind (x :: L) k = bFind L k := by
          have e9 : (x.1 == k) = false := beq_eq_false_iff_ne.2 e
          unfold bFind; rw [List.find?_cons, e9]
        rw [this]; omega
    show foundN (x :: L) k + _ ≤ foundN L k + _ + _
    by_cases e : x.1 = k
    · rw [if_pos e] at h
      rw [if_pos (show x.1 < k + 1 by omega)]
      rw [if_neg (show ¬ x.1 < k by omega)] at ih
      omega
    · rw [if_neg e] at h
      by_cases e2 : x.1 < k
      · rw [if_pos e2] at ih
        rw [if_pos (show x.1 < k + 1 by omega)]
        omega
      · rw [if_neg e2] at ih
        rw [if_neg (show ¬ x.1 < k + 1 by omega)]
        omega
theorem foundN_le (L : List Bo) (k : Nat) : foundN L k ≤ L.length := by
  induction L with
  | nil =>
    have : ∀ k, foundN [] k = 0 := by
      intro k
      induction k with
      | zero => rfl
      | succ k ih => show foundN [] k + _ = 0; rw [ih]; rfl
    rw [this]; exact Nat.zero_le _
  | cons x L ih =>
    have := foundN_cons L x k
    rw [List.length_cons]
    have : (if x.1 < k then 1 else 0) ≤ 1 := by split <;> omega
    omega
theorem foundN_max (L : List Bo) (k : Nat) : foundN L k ≤ k := by
  induction k with
  | zero => exact Nat.le_refl _
  | succ k ih =>
    show foundN L k + _ ≤ _
    have : (if (bFind L k).isSome then 1 else 0) ≤ 1 := by split <;> omega
    omega
theorem seatsN_max (L : List Bo) (k : Nat) : seatsN L k ≤ k := by
  induction k with
  | zero => exact Nat.le_refl _
  | succ k ih =>
    show seatsN L k + _ ≤ _
    have : (if (bSeat L (k : Int)).isSome then 1 else 0) ≤ 1 := by split <;> omega
    omega
/-- A way on that ends as it should, or not at all. -/
def CalmQ (Q : Exit → Act → World → Prop) : Exit → Act → World → Prop
  | .normal, a, w => Q .normal a w
  | _, _, _ => False
theorem CalmQ.out {Q : Exit → Act → World → Prop} : ∀ {e : Exit} {a : Act} {w : World}, CalmQ Q e a w → Q e a w
  | .normal, _, _, h => h
theorem CalmQ.intro {Q : Exit → Act → World → Prop} {a : Act} {w : World} (h : Q .normal a w) : CalmQ Q .normal a w := h
def QuZ (pb kb cb : Nat) (sv : Value) (y : Nat) : Prop := y = pb ∨ y = kb ∨ seqP cb sv y
end Go.Proofs.YtffnjnnmlfgngaaGreat.Bk
namespace Go.Proofs.YtffnjnnmlfgngaaGreat.Cs
open Go.RowKit Go.Shelf Go.Proofs.YtffnjnnmlfgngaaGreat.Bk
/-- What stands while the range goes on: the book, whose blocks lie below B, and the range's own cells. -/
structure QuI (w1 : World) (bb pb kb cb : Nat) (sv : Value) (b : Bk) (B : Nat) (W : World) : Prop where
  bk : ∃ p, BkP p bb b.next b b.L b.L W ∧ ∀ y, p.own bb y → w1.heap.size ≤ y ∧ y < B ∧ ¬ QuZ pb kb cb sv y
  hp : W.heap[pb]? = some (.cells #[.pointer (some ⟨bb, 0, none⟩)] 31 (0, 0))
  seq : VSeq W cb sv b.L
  fr : Fr (fun _ => False) w1 W
  sz : B ≤ W.heap.size
/-- The places, once and for all. -/
structure QuP (w1 : World) (pb kb cb B : Nat) (sv : Value) : Prop where
  p : pb < B ∧ pb ≠ kb
  k : w1.heap.size ≤ kb ∧ kb < B
  s : ∀ y, seqP cb sv y → y < B ∧ y ≠ kb
  b : w1.heap.size ≤ B
section
variable {w1 W W2 : World} {bb pb kb cb B : Nat} {sv : Value} {b : Bk}
theorem QuI.keep (h : QuI w1 bb pb kb cb sv b B W) (hp : QuP w1 pb kb cb B sv) {F : Nat → Prop} (f : Fr F W W2) (hF : ∀ y, F y → y = kb ∨ B ≤ y) : QuI w1 bb pb kb cb sv b B W2 := by
  obtain ⟨p, h1, h2⟩ := h.bk
  have no : ∀ y, y < B → y ≠ kb → ¬ F y := fun y a c e => by rcases hF y e with d | d; exact c d; omega
  refine ⟨⟨p, h1.fr f (fun y hy => no y (h2 y hy).2.1 (fun e => (h2 y hy).2.2 (.inr (.inl e)))), h2⟩, f.get h.hp (no _ hp.p.1 hp.p.2), h.seq.fr f (fun y hy => no y (hp.s y hy).1 (hp.s y hy).2), ?_, Nat.le_trans h.sz f.size⟩
  refine Fr.toNew ((h.fr.mono (G := fun y => w1.heap.size ≤ y) (fun _ _ h => h.elim)).trans f (fun y _ e => ?_))
  rcases hF y e with c | c
  · rw [c]; exact hp.k.1
  · have := hp.b; omega
theorem QuI.quiet (h : QuI w1 bb pb kb cb sv b B W) (hp : QuP w1 pb kb cb B sv) (f : Fr (fun _ => False) W W2) : QuI w1 bb pb kb cb sv b B W2 := h.keep hp f (fun _ h => h.elim)
/-- The book is asked: what it is then, and what is not touched. -/
theorem QuI.ask (h : QuI w1 bb pb kb cb sv b B W) : ∃ p, BkP p bb b.next b b.L b.L W ∧ ∀ W2, AftN p bb b W W2 → QuI w1 bb pb kb cb sv b B W2 ∧ Fr (fun y => w1.heap.size ≤ y ∧ y < B ∧ ¬ QuZ pb kb cb sv y) W W2 := by
  obtain ⟨p, h1, ho⟩ := h.bk
  refine ⟨p, h1, fun W2 ha => ?_⟩
  obtain ⟨p', h2, f, h3⟩ := ha
  refine ⟨⟨⟨p', h2, fun y hy => ho y (h3 y hy)⟩, f.get h.hp (fun e => (ho _ e).2.2 (.inl rfl)), h.seq.fr f (fun y hy e => (ho _ e).2.2 (.inr (.inr hy))), ?_, Nat.le_trans h.sz f.size⟩, f.mono (fun y _ hy => ho y hy)⟩
  exact Fr.toNew ((h.fr.mono (G := fun y => w1.heap.size ≤ y) (fun _ _ h => h.elim)).trans f (fun y _ e => (ho y e).1))
theorem QuI.c (h : QuI w1 bb pb kb cb sv b B W) : W.cell? ⟨pb, 0, none⟩ = some (.pointer (some ⟨bb, 0, none⟩)) := (cell_of h.hp 0).trans rfl
end
theorem qu5_ok (tag id : Nat) : rqOk ⟨5, tag, id, 0, 0⟩ = true := by unfold rqOk hasId hasSeat hasTtl; simp
theorem qu6_ok (tag : Nat) {s : Int} (h : 0 ≤ s ∧ s ≤ 65535) : rqOk ⟨6, tag, 0, s, 0⟩ = true := by unfold rqOk hasId hasSeat hasTtl; simp [h.1, h.2]
theorem qu10_ok (tag : Nat) : rqOk ⟨10, tag, 0, 0, 0⟩ = true := by unfold rqOk hasId hasSeat hasTtl; simp
theorem ans5_y (b : Bk) (tag : Nat) {id : Nat} {x : Bo} (h : bFind b.L id = some x) : ansD b ⟨5, tag, id, 0, 0⟩ = ⟨⟨tag, 5, 0, 0, x.2.1, x.2.2, 0⟩, 0⟩ := by
  unfold ansD; rw [if_neg (by rw [qu5_ok]; decide), if_pos rfl, h]
theorem ans5_n (b : Bk) (tag : Nat) {id : Nat} (h : bFind b.L id = none) : ansD b ⟨5, tag, id, 0, 0⟩ = ⟨⟨tag, 5, 171, 0, 0, 0, 0⟩, 0⟩ := by
  unfold ansD; rw [if_neg (by rw [qu5_ok]; decide), if_pos rfl, h]
theorem ans6_s (b : Bk) (tag : Nat) {s : Int} (h0 : 0 ≤ s ∧ s ≤ 65535) (hs : (b.seats : Int) ≤ s) : ansD b ⟨6, tag, 0, s, 0⟩ = ⟨⟨tag, 6, 140, 0, 0, 0, 0⟩, 0⟩ := by
  unfold ansD; rw [if_neg (by rw [qu6_ok tag h0]; decide), if_neg (show ¬ (6 : Int) = 5 by decide), if_pos rfl, if_pos hs]
theorem ans6_y (b : Bk) (tag : Nat) {s : Int} (h0 : 0 ≤ s ∧ s ≤ 65535) (hs : ¬ (b.seats : Int) ≤ s) {x : Bo} (h : bSeat b.L s = some x) : ansD b ⟨6, tag, 0, s, 0⟩ = ⟨⟨tag, 6, 0, x.1, 0, x.2.2, 0⟩, 0⟩ := by
  unfold ansD; rw [if_neg (by rw [qu6_ok tag h0]; decide), if_neg (show ¬ (6 : Int) = 5 by decide), if_pos rfl, if_neg hs, h]
theorem ans6_n (b : Bk) (tag : Nat) {s : Int} (h0 : 0 ≤ s ∧ s ≤ 65535) (hs : ¬ (b.seats : Int) ≤ s) (h : bSeat b.L s = none) : ansD b ⟨6, tag, 0, s, 0⟩ = ⟨⟨tag, 6, 171, 0, 0, 0, 0⟩, 0⟩ := by
  unfold ansD; rw [if_neg (by rw [qu6_ok tag h0]; decide), if_neg (show ¬ (6 : Int) = 5 by decide), if_pos rfl, if_neg hs, h]
theorem ans10_y (b : Bk) (tag : Nat) : ansD b ⟨10, tag, 0, 0, 0⟩ = ⟨⟨tag, 10, 0, 0, 0, 0, (b.L.length : Int)⟩, 0⟩ := by
  unfold ansD; rw [if_neg (by rw [qu10_ok]; decide), if_neg (show ¬ (10 : Int) = 5 by decide), if_neg (show ¬ (10 : Int) = 6 by decide), if_pos rfl]
theorem seat_no {b : Bk} (hr : Raw b) {s : Int} (h : (b.seats : Int) ≤ s) : bSeat b.L s = none := by
  cases e : bSeat b.L s with
  | none => rfl
  | some x => have h1 := bSeat_id e; have := (hr.at_ x h1.2).2; omega
end Go.Proofs.YtffnjnnmlfgngaaGreat.Cs
namespace Go.Proofs.YtffnjnnmlfgngaaGreat.Cs
open Go.RowKit Go.Shelf Go.Proofs.YtffnjnnmlfgngaaGreat.Bk
attribute [local go_sem] Oper.semAt_some
set_option maxRecDepth 100000 in
set_option maxHeartbeats 8000000 in
theorem quests_walk {w : World} {sh : Int} (hsh : I64 sh) {v : Value} {K : Nat → Nat → Int} {n : Nat} (hK : KindsAt w v 4 kI K n) (nx : Nat) (hnx : nx < 4294967296) (cl : Int) (tag : Nat) :
    Calls Tryz.prog 4 #[flV sh v nx cl, .int .u32 (tag : Int)] w fun e w' => e = .returned (.bool true) ∧ Fr (fun _ => False) w w' := by
  have hro : Fence.wide.round = none := rfl
  have h13 : 1 ≤ 3 := by omega
  obtain ⟨la, lc, rfl, hlc, -⟩ := id hK
  obtain ⟨W1, hW1⟩ : ∃ W, W = w.alloc (.cells #[.int .i64 sh, .slice la n lc, .int .u32 (nx : Int), .int .i64 cl] 61) := ⟨_, rfl⟩
  obtain ⟨W2, hW2⟩ : ∃ W, W = W1.alloc (.cells #[.int .u32 (tag : Int)] 24) := ⟨_, rfl⟩
  obtain ⟨W, hW⟩ : ∃ W, W = W2.alloc (.cells #[.bool false] 4) := ⟨_, rfl⟩
  obtain ⟨z, hz⟩ : ∃ z, z = w.heap.size := ⟨_, rfl⟩
  have s1 : W1.heap.size = z + 1 := by rw [hW1, hz]; simp
  have s2 : W2.heap.size = z + 2 := by rw [hW2]; simp [s1]
  have s3 : W.heap.size = z + 3 := by rw [hW]; simp [s2]
  have a1 : Fr (fun _ => False) w W1 := by rw [hW1]; exact Fr.alloc (Fr.refl _ _) _
  have a2 : Fr (fun _ => False) W1 W2 := by rw [hW2]; exact Fr.alloc (Fr.refl _ _) _
  have a3 : Fr (fun _ => False) W2 W := by rw [hW]; exact Fr.alloc (Fr.refl _ _) _
  have f0 : Fr (fun _ => False) w W := (a1.trans a2 (fun _ _ h => h)).trans a3 (fun _ _ h => h)
  have hg : W.heap[z]? = some (.cells #[.int .i64 sh, .slice la n lc, .int .u32 (nx : Int), .int .i64 cl] 61 (0, 0)) := a3.get (a2.get (show W1.heap[z]? = _ by rw [hW1, hz]; exact heap_alloc_at _ _) (fun h => h)) (fun h => h)
  have hg1 : W.heap[z + 1]? = some (.cells #[.int .u32 (tag : Int)] 24 (0, 0)) := a3.get (show W2.heap[z + 1]? = _ by rw [hW2, ← s1]; exact heap_alloc_at _ _) (fun h => h)
  have hg2 : W.heap[z + 2]? = some (.cells #[.bool false] 4 (0, 0)) := show W.heap[z + 2]? = _ by rw [hW, ← s2]; exact heap_alloc_at _ _
  have HBooks := Lib.hid (books_ok (w := W) hsh (hK.fr f0 (fun _ _ h => h) (by omega)) nx hnx cl)
  have d0 := (cell_of hg 0).trans (show _ = some (Value.int .i64 sh) from rfl)
  have d1 := (cell_of hg 1).trans (show _ = some (Value.slice la n lc) from rfl)
  have d2 := (cell_of hg 2).trans (show _ = some (Value.int .u32 (nx : Int)) from rfl)
  have d3 := (cell_of hg 3).trans (show _ = some (Value.int .i64 cl) from rfl)
  have HGt := Lib.hid hg1; have HGr := Lib.hid hg2; have F0 := Lib.hid f0; have HW1 := Lib.hid hW1; have HW2 := Lib.hid hW2; have HW := Lib.hid hW; have Hz := Lib.hid hz; have Hs := Lib.hid (And.intro s1 (And.intro s2 s3))
  clear hsh hK hnx f0 hg hg1 hg2 a1 a2 a3 s1 s2 s3 hW1 hW2 hW hz hlc
  refine (callsIn_wide (n := 3)).1 (callsIn_of_wp_marks Tryz.func4 rfl trivial ?_ hro)
  refine wpIn_wide.2 ?_
  simp only [Tryz.ntmps4, List.size_toArray, List.length_cons, List.length_nil, Nat.reduceAdd, Nat.reduceSub, Array.replicate_succ, Array.replicate_zero, List.push_toArray, List.append_toArray, List.nil_append, List.cons_append]
  go_upto_region 1 with fail
  rw [← HW1.out, ← HW2.out, ← HW.out, ← Hz.out]
  try rw [Hs.out.1]
  try rw [show z + 1 + 1 = z + 2 by omega]
  go_wp2_with fail
  refine HBooks.out.mono ?_
  rintro e x1 ⟨p, bb, wb, vr, b, rfl, hok, hgr, hB, hR, hn, hwb, hvb, f1, hs12⟩
  have HOk := Lib.hid hok; have HS12 := Lib.hid hs12; have F1 := Lib.hid f1; have HB := Lib.hid hB; have HBn := Lib.hid (fun y hy => (hn y hy).1 : ∀ y, p.own bb y → W.heap.size ≤ y)
  clear hok hgr hB hR hn hwb hvb f1 hs12 d0 d1 d2 d3
  go_upto_region 4 with fail
  obtain ⟨V3, hV3⟩ : ∃ V, V = x1.alloc (.cells #[.pointer (some ⟨bb, 0, none⟩)] 31) := ⟨_, rfl⟩
  obtain ⟨pb, hpb⟩ : ∃ c, c = x1.heap.size := ⟨_, rfl⟩
  obtain ⟨V4, hV4⟩ : ∃ V, V = V3.alloc (.cells #[.int .i64 0] 3) := ⟨_, rfl⟩
  obtain ⟨kb, hkb⟩ : ∃ c, c = pb + 1 := ⟨_, rfl⟩
  have sV : V3.heap.size = kb := by rw [hV3, hkb, hpb]; simp
  have sV4 : V4.heap.size = kb + 1 := by rw [hV4]; simp [sV]
  have b3 : Fr (fun _ => False) x1 V3 := by rw [hV3]; exact Fr.alloc (Fr.refl _ _) _
  have b4 : Fr (fun _ => False) V3 V4 := by rw [hV4]; exact Fr.alloc (Fr.refl _ _) _
  have hgp : V4.heap[pb]? = some (.cells #[.pointer (some ⟨bb, 0, none⟩)] 31 (0, 0)) := b4.get (show V3.heap[pb]? = _ by rw [hV3, hpb]; exact heap_alloc_at _ _) (fun h => h)
  have hgk : V4.heap[kb]? = some (.cells #[.int .i64 0] 3 (0, 0)) := by rw [hV4, ← sV]; exact heap_alloc_at _ _
  have F4 := Lib.hid (F1.out.trans (b3.trans b4 (fun _ _ h => h)) (fun _ _ h => h)); have HB4 := Lib.hid ((HB.out.keep b3).keep b4); have HGp := Lib.hid hgp; have HGk := Lib.hid hgk
  have HSz := Lib.hid (show x1.heap.size = pb ∧ kb = pb + 1 ∧ V4.heap.size = kb + 1 from ⟨hpb.symm, hkb, sV4⟩)
  have HV3 := Lib.hid hV3; have HV4 := Lib.hid hV4; have HsV := Lib.hid sV
  rw [← HV3.out, ← hpb]
  clear hV3 hpb hV4 hkb sV sV4 b3 b4 hgk
  go_upto_region 5 with fail
  rw [← HV4.out, HsV.out]
  have cp := (cell_of hgp 0).trans (show _ = some (Value.pointer (some ⟨bb, 0, none⟩)) from rfl)
  clear hgp
  go_wp2_with fail
  refine (all_ok HB4.out).mono ?_
  rintro e V5 ⟨cb, sv, rfl, hs, hnew, f5⟩
  obtain ⟨B, hBB⟩ : ∃ B, B = V5.heap.size := ⟨_, rfl⟩
  have z5 := f5.size; have z1 := F1.out.size
  have hQP : QuP W pb kb cb B sv := by
    have := HSz.out
    refine ⟨by omega, by omega, fun y hy => ⟨?_, ?_⟩, by omega⟩
    · have := hs.lt y hy; omega
    · have := hnew y hy; omega
  have hQI : QuI W bb pb kb cb sv b B V5 := by
    refine ⟨⟨p, HB4.out.keep f5, fun y hy => ⟨HBn.out y hy, ?_, ?_⟩⟩, f5.get HGp.out (fun h => h), hs, F4.out.trans f5 (fun _ _ h => h), Nat.le_of_eq hBB⟩
    · have := HB.out.lt hy; have := HSz.out; omega
    · have h0 := HB.out.lt hy
      have := HSz.out
      rintro (e | e | e)
      · omega
      · omega
      · have := hnew y e; omega
  have HQP := Lib.hid hQP; have HQI := Lib.hid hQI; have HBB := Lib.hid hBB; have HK5 := Lib.hid (f5.get HGk.out (fun h => h))
  clear hs hnew f5 hQP hQI hBB cp z5 z1
  go_upto_block 0 with fail
  refine wp_cutD (fun ds' W' => ∃ D, ds' = [mark D] ∧ B ≤ D ∧ W'.heap[D]? = some (.deferred (some [])) ∧ QuI W bb pb kb cb sv b B W' ∧ W'.heap[kb]? = some (.cells #[.int .i64 (b.L.length : Int)] 3 (0, 0))) ?rest ?first
  case first =>
    intro K' hK'
    go_wp2_with fail
    refine (wpIn_wide (n := 3)).1 ?_
    refine range_boxed hro h13 (gf := 95) (lb := #[.pointer (some ⟨cb, 0, none⟩)]) rfl trivial (enters_of Tryz.func95 (by kernel_rfl) rfl)
      (vals_in Fence.wide (3 - 1) trivial hro (by omega) HQI.out.seq (seqP cb sv) (fun _ h => h)) (fun y hy => by have := (HQP.out.s y hy).1; have := HBB.out; omega) (Below.refl _ _) (fun _ => rfl)
      (fun pre V => QuI W bb pb kb cb sv b B V ∧ V.heap[kb]? = some (.cells #[.int .i64 (pre.length : Int)] 3 (0, 0)))
      (fun _ _ _ => False)
      ?own ?ownx ⟨HQI.out, HK5.out⟩ (fun _ V h => by rw [← HBB.out]; exact h.1.sz) (fun x => #[.int .u32 (x.1.1 : Int), .int .i64 x.1.2.1, .int .i64 x.1.2.2]) 68 ?a1 ?assign ?body ?done ?stop
    case own =>
      rintro s A B' row ⟨hG, hk⟩ hg hr
      have f := grownBy.fr hg
      exact ⟨hG.keep HQP.out f (fun y e => by have := (hr y e).1; have := HBB.out; right; omega), f.get hk (fun e => by have := (hr _ e).1; have := HBB.out; have := HQP.out.k.2; omega)⟩
    case ownx => rintro c s A B' row hf; exact hf.elim
    case assign =>
      intro l x W' K hK
      obtain ⟨b, hb⟩ : ∃ b, b = W'.heap.size := ⟨_, rfl⟩
      gi_wp2
      rw [← hb]
      exact hK b hb
    case body =>
      rintro l pre ⟨x, hxm⟩ bx X hbw hbx ⟨hG, hk⟩ hlt
      obtain ⟨q, hq⟩ : ∃ q, q = pre.length := ⟨_, rfl⟩
      rw [← hq] at hk hlt
      have hl8 : b.L.length ≤ 4096 := by have := HOk.out.few; have := HOk.out.c1; omega
      obtain ⟨q1, hq1⟩ : ∃ q1, q1 = q + 1 := ⟨_, rfl⟩
      have e1 : (q : Int) + 1 = (q1 : Int) := by rw [hq1]; push_cast; rfl
      have hq19 : q1 ≤ 5000 := by omega
      have e2 : wrap64 (q1 : Int) = (q1 : Int) := by clear e1; unfold wrap64; omega
      have e3 : IntKind.i64.wrap (q1 : Int) = (q1 : Int) := by clear e1 e2; rw [IntKind.wrap_i64]; omega
      have Hpl := Lib.hid (show (pre ++ [(⟨x, hxm⟩ : { x : Bo // x ∈ b.L })]).length = q1 by rw [List.length_append, List.length_singleton, ← hq, hq1])
      have hxid := (HOk.out.ids x hxm).2
      have hxat := HOk.out.at_ x hxm
      have hn1 := HOk.out.n1
      have h12 := HS12.out
      have HA5 := Lib.hid (ans5_y b tag ((bFind_some HOk.out.up).2 hxm))
      have HA6 := Lib.hid (ans6_y b tag (s := x.2.1) (by omega) (by omega) ((bSeat_some HOk.out.lone).2 hxm))
      obtain ⟨p1, hp1, hN1⟩ := hG.ask
      have HC1 := Lib.hid (show Calls Tryz.prog 25 #[.pointer (some ⟨bb, 0, none⟩), .agg #[.int .i64 5, .int .u32 (tag : Int), .int .u32 (x.1 : Int), .int .i64 0, .int .i64 0]] X fun e w' => e = .returned (.tuple #[.agg #[.int .u32 (tag : Int), .int .i64 5, .int .i64 0, .int .u32 0, .int .i64 x.2.1, .int .i64 x.2.2, .int .i64 0], .int .i64 0]) ∧ AftN p1 bb b X w' by have := answer_n hp1 ⟨5, tag, x.1, 0, 0⟩ (by show x.1 < _; omega); rw [HA5.out] at this; exact this)
      have ct := (cell_of (hG.fr.get HGt.out (fun h => h)) 0).trans (show _ = some (Value.int .u32 (tag : Int)) from rfl)
      have cp := hG.c
      obtain ⟨x0, x1', x2⟩ := box_bo hbx
      have HN1 := Lib.hid hN1; have HK := Lib.hid hk; have HBx := Lib.hid hbx; have HGx := Lib.hid hG
      have HKx := Lib.hid (show kb ≠ bx ∧ B ≤ bx from by have := HBB.out; have := HQP.out.k.2; omega)
      have Hxn := Lib.hid (show (0 ≤ x.2.1 ∧ x.2.1 ≤ 65535) from by omega)
      clear hG hk hlt hbx hbw hq hl8 hq1 hxid hxat hn1 h12 hp1 hN1 hq19
      gi_upto_region 8 with (refine ⟨trivial, ?_⟩; gi_at_call 25; refine (callsIn_wide.2 HC1.out).mono ?_; rintro e w5 ⟨rfl, ha⟩)
      obtain ⟨hG5, f5⟩ := HN1.out w5 ha
      obtain ⟨V6, hV6⟩ : ∃ V, V = w5.alloc (.cells #[.int .u32 (tag : Int), .int .i64 5, .int .i64 0, .int .u32 0, .int .i64 x.2.1, .int .i64 x.2.2, .int .i64 0] 71) := ⟨_, rfl⟩
      obtain ⟨y6, hy6⟩ : ∃ c, c = w5.heap.size := ⟨_, rfl⟩
      rw [← hV6, ← hy6]
      have g6 : Fr (fun _ => False) w5 V6 := by rw [hV6]; exact Fr.alloc (Fr.refl _ _) _
      have hg6 : V6.heap[y6]? = some (.cells #[.int .u32 (tag : Int), .int .i64 5, .int .i64 0, .int .u32 0, .int .i64 x.2.1, .int .i64 x.2.2, .int .i64 0] 71 (0, 0)) := by rw [hV6, hy6]; exact heap_alloc_at _ _
      have hG6 := hG5.quiet HQP.out g6
      have f6 := f5.trans g6 (fun _ _ h => h.elim)
      have hbx6 := f6.get HBx.out (fun e => by have := HKx.out; omega)
      have hk6 := f6.get HK.out (fun e => e.2.2 (.inr (.inl rfl)))
      obtain ⟨p2, hp2, hN2⟩ := hG6.ask
      have HC2 := Lib.hid (show Calls Tryz.prog 25 #[.pointer (some ⟨bb, 0, none⟩), .agg #[.int .i64 6, .int .u32 (tag : Int), .int .u32 0, .int .i64 x.2.1, .int .i64 0]] V6 fun e w' => e = .returned (.tuple #[.agg #[.int .u32 (tag : Int), .int .i64 6, .int .i64 0, .int .u32 (x.1 : Int), .int .i64 0, .int .i64 x.2.2, .int .i64 0], .int .i64 0]) ∧ AftN p2 bb b V6 w' by have := answer_n hp2 ⟨6, tag, 0, x.2.1, 0⟩ (by show (0 : Nat) < _; omega); rw [HA6.out] at this; exact this)
      have HY6 := Lib.hid (show B ≤ y6 from by rw [hy6]; exact hG5.sz)
      have ct := (cell_of (hG6.fr.get HGt.out (fun h => h)) 0).trans (show _ = some (Value.int .u32 (tag : Int)) from rfl)
      have cp := hG6.c
      have HN2 := Lib.hid hN2; have HF6 := Lib.hid f6; have HK6 := Lib.hid hk6; have HBx6 := Lib.hid hbx6; have HG6 := Lib.hid hg6
      obtain ⟨x0, x1', x2⟩ := box_bo hbx6
      clear ha hG5 f5 hV6 hy6 g6 hg6 hG6 f6 hbx6 hk6 hp2 hN2 HC1 HN1
      gi_upto_region 9 with (refine ⟨trivial, ?_⟩; gi_at_call 25; refine (callsIn_wide.2 HC2.out).mono ?_; rintro e w7 ⟨rfl, ha⟩)
      obtain ⟨hG7, f7⟩ := HN2.out w7 ha
      obtain ⟨V8, hV8⟩ : ∃ V, V = w7.alloc (.cells #[.int .u32 (tag : Int), .int .i64 6, .int .i64 0, .int .u32 (x.1 : Int), .int .i64 0, .int .i64 x.2.2, .int .i64 0] 71) := ⟨_, rfl⟩
      obtain ⟨y8, hy8⟩ : ∃ c, c = w7.heap.size := ⟨_, rfl⟩
      rw [← hV8, ← hy8]
      have g8 : Fr (fun _ => False) w7 V8 := by rw [hV8]; exact Fr.alloc (Fr.refl _ _) _
      have hg8 : V8.heap[y8]? = some (.cells #[.int .u32 (tag : Int), .int .i64 6, .int .i64 0, .int .u32 (x.1 : Int), .int .i64 0, .int .i64 x.2.2, .int .i64 0] 71 (0, 0)) := by rw [hV8, hy8]; exact heap_alloc_at _ _
      have hG8 := hG7.quiet HQP.out g8
      have f8 := f7.trans g8 (fun _ _ h => h.elim)
      have hbx8 := f8.get HBx6.out (fun e => by have := HKx.out; omega)
      have hk8 := f8.get HK6.out (fun e => e.2.2 (.inr (.inl rfl)))
      have hgm := f8.get HG6.out (fun e => by have := HY6.out; omega)
      have ct := (cell_of (hG8.fr.get HGt.out (fun h => h)) 0).trans (show _ = some (Value.int .u32 (tag : Int)) from rfl)
      obtain ⟨x0, x1', x2⟩ := box_bo hbx8
      have m0 := (cell_of hgm 0).trans (show _ = some (Value.int .u32 (tag : Int)) from rfl)
      have m1 := (cell_of hgm 1).trans (show _ = some (Value.int .i64 5) from rfl)
      have m2 := (cell_of hgm 2).trans (show _ = some (Value.int .i64 0) from rfl)
      have m3 := (cell_of hgm 3).trans (show _ = some (Value.int .u32 0) from rfl)
      have m4 := (cell_of hgm 4).trans (show _ = some (Value.int .i64 x.2.1) from rfl)
      have m5 := (cell_of hgm 5).trans (show _ = some (Value.int .i64 x.2.2) from rfl)
      have m6 := (cell_of hgm 6).trans (show _ = some (Value.int .i64 0) from rfl)
      have o0 := (cell_of hg8 0).trans (show _ = some (Value.int .u32 (tag : Int)) from rfl)
      have o1 := (cell_of hg8 1).trans (show _ = some (Value.int .i64 6) from rfl)
      have o2 := (cell_of hg8 2).trans (show _ = some (Value.int .i64 0) from rfl)
      have o3 := (cell_of hg8 3).trans (show _ = some (Value.int .u32 (x.1 : Int)) from rfl)
      have o4 := (cell_of hg8 4).trans (show _ = some (Value.int .i64 0) from rfl)
      have o5 := (cell_of hg8 5).trans (show _ = some (Value.int .i64 x.2.2) from rfl)
      have o6 := (cell_of hg8 6).trans (show _ = some (Value.int .i64 0) from rfl)
      have ck := (cell_of hk8 0).trans (show _ = some (Value.int .i64 (q : Int)) from rfl)
      have zk := free_of hk8 0
      have E1 : ∀ V : World, (binOp .neq 71 (.agg #[.int .u32 (tag : Int), .int .i64 5, .int .i64 0, .int .u32 0, .int .i64 x.2.1, .int .i64 x.2.2, .int .i64 0]) (.agg #[.int .u32 (tag : Int), .int .i64 5, .int .i64 0, .int .u32 0, .int .i64 x.2.1, .int .i64 x.2.2, .int .i64 0])).run Tryz.prog V = .ok (.bool false) V := fun V => neqRp V ⟨tag, 5, 0, 0, x.2.1, x.2.2, 0⟩
      have E2 : ∀ V : World, (binOp .neq 71 (.agg #[.int .u32 (tag : Int), .int .i64 6, .int .i64 0, .int .u32 (x.1 : Int), .int .i64 0, .int .i64 x.2.2, .int .i64 0]) (.agg #[.int .u32 (tag : Int), .int .i64 6, .int .i64 0, .int .u32 (x.1 : Int), .int .i64 0, .int .i64 x.2.2, .int .i64 0])).run Tryz.prog V = .ok (.bool false) V := fun V => neqRp V ⟨tag, 6, 0, x.1, 0, x.2.2, 0⟩
      have hfin : QuI W bb pb kb cb sv b B (V8.setCell ⟨kb, 0, none⟩ (.int .i64 (q1 : Int))) ∧ (V8.setCell ⟨kb, 0, none⟩ (.int .i64 (q1 : Int))).heap[kb]? = some (.cells #[.int .i64 (q1 : Int)] 3 (0, 0)) ∧ Fr (fun y => y = kb ∨ (W.heap.size ≤ y ∧ y < B ∧ ¬ QuZ pb kb cb sv y)) X (V8.setCell ⟨kb, 0, none⟩ (.int .i64 (q1 : Int))) :=
        ⟨hG8.keep HQP.out (Fr.setCell (F := fun y => y = kb) (p := ⟨kb, 0, none⟩) (Fr.refl _ _) (fun _ => rfl) _) (fun y e => .inl e), setCell_blk (o := 0) hk8 _,
          ((HF6.out.trans f8 (fun _ _ h => h)).mono (fun _ _ h => .inr h)).trans (Fr.setCell (F := fun y => y = kb) (p := ⟨kb, 0, none⟩) (Fr.refl _ _) (fun _ => rfl) _) (fun _ _ e => .inl e)⟩
      have HFin := Lib.hid hfin
      clear ha hG7 f7 hV8 hy8 g8 hg8 hG8 f8 hbx8 hk8 hgm hfin cp
      gi_wp2_with fail
      obtain ⟨hGe, hke, fe⟩ := HFin.out
      exact ⟨⟨fe.size, fun k o hk ho _ => fe.get ho (fun e => by have := HBB.out; have := HQP.out.k.2; rcases e with e | e <;> omega)⟩, KeepsB.of_fr fe (fun y hy e => by
        rcases e with e | e
        · exact (HQP.out.s y hy).2 e
        · exact e.2.2 (.inr (.inr hy))), hGe, by rw [Hpl.out]; exact hke⟩
    case done =>
      rintro D ys W' hD rfl ⟨hG, hk⟩ hK
      rw [List.length_attach] at hk
      exact hK' _ _ ⟨D, rfl, by rw [HBB.out]; exact hD, hK, hG, hk⟩
    case stop => rintro D c pre W' hD hpre hf; exact hf.elim
  case rest =>
  rintro ds' W8 ⟨D, rfl, hD, hDk, hG, hk⟩
  have HD := Lib.hid hD
  obtain ⟨N, hN⟩ : ∃ N, N = b.L.length := ⟨_, rfl⟩
  rw [← hN] at hk
  have HN := Lib.hid hN
  have HNk := Lib.hid (show N ≤ 4096 by have := HOk.out.few; have := HOk.out.c1; omega)
  have HW8 := Lib.hid (And.intro hG (And.intro hk hDk))
  clear hD hDk hG hk hN HQI HK5
  go_upto_block 2 with fail
  go_wp2_with fail
  go_loopw [14, 15, 16] (fun s14 s15 s16 wr => ∃ k : Nat, s14 = .int .i64 (foundN b.L k : Int) ∧ s15 = .int .i64 (seatsN b.L k : Int) ∧ s16 = .int .i64 (k : Int) ∧ k ≤ 40 ∧ QuI W bb pb kb cb sv b B wr ∧ wr.heap[kb]? = some (.cells #[.int .i64 (N : Int)] 3 (0, 0)) ∧ wr.heap[D]? = some (.deferred (some []))) (fun _ _ s16 _ => 40 - (intOf s16).toNat)
  case atStart => exact ⟨0, rfl, rfl, rfl, Nat.zero_le _, HW8.out.1, HW8.out.2.1, HW8.out.2.2⟩
  case round =>
    obtain ⟨k, rfl, rfl, rfl, hk40, hG, hk, hd⟩ := hrel
    clear HW8
    by_cases hlt : k < 40
    · have hlt' : (k : Int) < 40 := by omega
      obtain ⟨k1, hk1⟩ : ∃ k1, k1 = k + 1 := ⟨_, rfl⟩
      have e1 : (k : Int) + 1 = (k1 : Int) := by rw [hk1]; push_cast; rfl
      have e2 : wrap64 (k1 : Int) = (k1 : Int) := by clear e1; unfold wrap64; omega
      have e3 : IntKind.i64.wrap (k1 : Int) = (k1 : Int) := by clear e1 e2; rw [IntKind.wrap_i64]; omega
      have e4 : IntKind.u32.wrap (k : Int) = (k : Int) := by clear e1 e2 e3; rw [IntKind.wrap_u32]; omega
      obtain ⟨fo, hfo⟩ : ∃ x, x = foundN b.L k := ⟨_, rfl⟩
      obtain ⟨se, hse⟩ : ∃ x, x = seatsN b.L k := ⟨_, rfl⟩
      have hfo4 : fo ≤ 40 := by rw [hfo]; have := foundN_max b.L k; omega
      have hse4 : se ≤ 40 := by rw [hse]; have := seatsN_max b.L k; omega
      have HFo := Lib.hid (show foundN b.L k1 = fo + if (bFind b.L k).isSome then 1 else 0 by rw [hk1, hfo]; rfl)
      have HSe := Lib.hid (show seatsN b.L k1 = se + if (bSeat b.L (k : Int)).isSome then 1 else 0 by rw [hk1, hse]; rfl)
      rw [← hfo, ← hse]
      obtain ⟨fo1, hfo1⟩ : ∃ x, x = fo + 1 := ⟨_, rfl⟩
      obtain ⟨se1, hse1⟩ : ∃ x, x = se + 1 := ⟨_, rfl⟩
      have u1 : (fo : Int) + 1 = (fo1 : Int) := by rw [hfo1]; push_cast; rfl
      have u2 : wrap64 (fo1 : Int) = (fo1 : Int) := by clear u1; unfold wrap64; omega
      have u3 : (se : Int) + 1 = (se1 : Int) := by rw [hse1]; push_cast; rfl
      have u4 : wrap64 (se1 : Int) = (se1 : Int) := by clear u1 u2 u3; unfold wrap64; omega
      have HF1 := Lib.hid hfo1; have HS1 := Lib.hid hse1; have HK1 := Lib.hid (And.intro hk1 hlt)
      obtain ⟨X5, hX5⟩ : ∃ X, ansD b ⟨5, tag, k, 0, 0⟩ = ⟨X, 0⟩ ∧ (((bFind b.L k).isSome = true ∧ X.err = 0) ∨ ((bFind b.L k).isSome = false ∧ X = ⟨tag, 5, 171, 0, 0, 0, 0⟩)) := by
        cases e : bFind b.L k with
        | none => exact ⟨_, ans5_n b tag e, .inr ⟨rfl, rfl⟩⟩
        | some x => exact ⟨_, ans5_y b tag e, .inl ⟨rfl, rfl⟩⟩
      obtain ⟨X6, hX6⟩ : ∃ X, ansD b ⟨6, tag, 0, (k : Int), 0⟩ = ⟨X, 0⟩ ∧ (((bSeat b.L (k : Int)).isSome = true ∧ X.err = 0) ∨ ((bSeat b.L (k : Int)).isSome = false ∧ X = ⟨tag, 6, 140, 0, 0, 0, 0⟩ ∧ (b.seats : Int) ≤ (k : Int)) ∨ ((bSeat b.L (k : Int)).isSome = false ∧ X = ⟨tag, 6, 171, 0, 0, 0, 0⟩ ∧ ¬ (b.seats : Int) ≤ (k : Int))) := by
        have h0 : 0 ≤ (k : Int) ∧ (k : Int) ≤ 65535 := by omega
        by_cases hs : (b.seats : Int) ≤ (k : Int)
        · exact ⟨_, ans6_s b tag h0 hs, .inr (.inl ⟨by rw [seat_no HOk.out.toRaw hs]; rfl, rfl, hs⟩)⟩
        · cases e : bSeat b.L (k : Int) with
          | none => exact ⟨_, ans6_n b tag h0 hs e, .inr (.inr ⟨rfl, rfl, hs⟩)⟩
          | some x => exact ⟨_, ans6_y b tag h0 hs e, .inl ⟨rfl, rfl⟩⟩
      have HX5 := Lib.hid hX5.2; have HX6 := Lib.hid hX6.2
      obtain ⟨p1, hp1, hN1⟩ := hG.ask
      have HC1 := Lib.hid (show Calls Tryz.prog 25 #[.pointer (some ⟨bb, 0, none⟩), .agg #[.int .i64 5, .int .u32 (tag : Int), .int .u32 (k : Int), .int .i64 0, .int .i64 0]] wr fun e w' => e = .returned (.tuple #[.agg #[.int .u32 (X5.tag : Int), .int .i64 X5.kind, .int .i64 X5.err, .int .u32 (X5.id : Int), .int .i64 X5.seat, .int .i64 X5.till, .int .i64 X5.count], .int .i64 0]) ∧ AftN p1 bb b wr w' by have := answer_n hp1 ⟨5, tag, k, 0, 0⟩ (by show k < _; omega); rw [hX5.1] at this; exact this)
      have HA6 := Lib.hid hX6.1
      have ct := (cell_of (hG.fr.get HGt.out (fun h => h)) 0).trans (show _ = some (Value.int .u32 (tag : Int)) from rfl)
      have cp := hG.c
      have HN1 := Lib.hid hN1; have HK := Lib.hid hk; have HDk := Lib.hid hd
      clear hG hk hd hlt hk40 hk1 hfo hse hfo4 hse4 hfo1 hse1 hX5 hX6 hp1 hN1
      go_wp2_with fail
      refine HC1.out.mono ?_
      rintro e w5 ⟨rfl, ha⟩
      obtain ⟨hG5, f5⟩ := HN1.out w5 ha
      obtain ⟨V6, hV6⟩ : ∃ V, V = w5.alloc (.cells #[.int .u32 (X5.tag : Int), .int .i64 X5.kind, .int .i64 X5.err, .int .u32 (X5.id : Int), .int .i64 X5.seat, .int .i64 X5.till, .int .i64 X5.count] 71) := ⟨_, rfl⟩
      obtain ⟨y6, hy6⟩ : ∃ c, c = w5.heap.size := ⟨_, rfl⟩
      have g6 : Fr (fun _ => False) w5 V6 := by rw [hV6]; exact Fr.alloc (Fr.refl _ _) _
      have hg6 : V6.heap[y6]? = some (.cells #[.int .u32 (X5.tag : Int), .int .i64 X5.kind, .int .i64 X5.err, .int .u32 (X5.id : Int), .int .i64 X5.seat, .int .i64 X5.till, .int .i64 X5.count] 71 (0, 0)) := by rw [hV6, hy6]; exact heap_alloc_at _ _
      have hG6 := hG5.quiet HQP.out g6
      have f6 := f5.trans g6 (fun _ _ h => h.elim)
      have hk6 := f6.get HK.out (fun e => e.2.2 (.inr (.inl rfl)))
      have hd6 := f6.get HDk.out (fun e => by have := HD.out; omega)
      obtain ⟨p2, hp2, hN2⟩ := hG6.ask
      have HC2 := Lib.hid (show Calls Tryz.prog 25 #[.pointer (some ⟨bb, 0, none⟩), .agg #[.int .i64 6, .int .u32 (tag : Int), .int .u32 0, .int .i64 (k : Int), .int .i64 0]] V6 fun e w' => e = .returned (.tuple #[.agg #[.int .u32 (X6.tag : Int), .int .i64 X6.kind, .int .i64 X6.err, .int .u32 (X6.id : Int), .int .i64 X6.seat, .int .i64 X6.till, .int .i64 X6.count], .int .i64 0]) ∧ AftN p2 bb b V6 w' by have := answer_n hp2 ⟨6, tag, 0, (k : Int), 0⟩ (by show (0 : Nat) < _; omega); rw [HA6.out] at this; exact this)
      have HV6 := Lib.hid hV6; have HY6 := Lib.hid hy6; have HYb := Lib.hid (show B ≤ y6 by rw [hy6]; exact hG5.sz); have HG6 := Lib.hid hG6; have HD6 := Lib.hid hd6; have HGm := Lib.hid hg6; have HK6 := Lib.hid hk6; have HN2 := Lib.hid hN2
      clear ha hG5 f5 hV6 hy6 g6 hg6 hG6 f6 hk6 hd6 hp2 hN2 ct cp
      go_upto_region 17 with fail
      rw [← HV6.out, ← HY6.out]
      have ct := (cell_of (HG6.out.fr.get HGt.out (fun h => h)) 0).trans (show _ = some (Value.int .u32 (tag : Int)) from rfl)
      have cp := HG6.out.c
      go_wp2_with fail
      refine HC2.out.mono ?_
      rintro e w7 ⟨rfl, ha⟩
      obtain ⟨hG7, f7⟩ := HN2.out w7 ha
      obtain ⟨V8, hV8⟩ : ∃ V, V = w7.alloc (.cells #[.int .u32 (X6.tag : Int), .int .i64 X6.kind, .int .i64 X6.err, .int .u32 (X6.id : Int), .int .i64 X6.seat, .int .i64 X6.till, .int .i64 X6.count] 71) := ⟨_, rfl⟩
      obtain ⟨y8, hy8⟩ : ∃ c, c = w7.heap.size := ⟨_, rfl⟩
      have g8 : Fr (fun _ => False) w7 V8 := by rw [hV8]; exact Fr.alloc (Fr.refl _ _) _
      have hg8 : V8.heap[y8]? = some (.cells #[.int .u32 (X6.tag : Int), .int .i64 X6.kind, .int .i64 X6.err, .int .u32 (X6.id : Int), .int .i64 X6.seat, .int .i64 X6.till, .int .i64 X6.count] 71 (0, 0)) := by rw [hV8, hy8]; exact heap_alloc_at _ _
      have hG8 := hG7.quiet HQP.out g8
      have f8 := f7.trans g8 (fun _ _ h => h.elim)
      have hk8 := f8.get HK6.out (fun e => e.2.2 (.inr (.inl rfl)))
      have hd8 := f8.get HD6.out (fun e => by have := HD.out; omega)
      have hgm := f8.get HGm.out (fun e => by have := HYb.out; omega)
      have HV8 := Lib.hid hV8; have HY8 := Lib.hid hy8; have HG8 := Lib.hid hG8; have HK8 := Lib.hid hk8; have HD8 := Lib.hid hd8; have HGm8 := Lib.hid hgm; have HGo8 := Lib.hid hg8
      clear ha hG7 f7 hV8 hy8 g8 hg8 hG8 f8 hk8 hd8 hgm ct cp
      go_upto_region 18 with fail
      rw [← HV8.out, ← HY8.out]
      have ct := (cell_of (HG8.out.fr.get HGt.out (fun h => h)) 0).trans (show _ = some (Value.int .u32 (tag : Int)) from rfl)
      have m0 := (cell_of HGm8.out 0).trans (show _ = some (Value.int .u32 (X5.tag : Int)) from rfl)
      have m1 := (cell_of HGm8.out 1).trans (show _ = some (Value.int .i64 X5.kind) from rfl)
      have m2 := (cell_of HGm8.out 2).trans (show _ = some (Value.int .i64 X5.err) from rfl)
      have m3 := (cell_of HGm8.out 3).trans (show _ = some (Value.int .u32 (X5.id : Int)) from rfl)
      have m4 := (cell_of HGm8.out 4).trans (show _ = some (Value.int .i64 X5.seat) from rfl)
      have m5 := (cell_of HGm8.out 5).trans (show _ = some (Value.int .i64 X5.till) from rfl)
      have m6 := (cell_of HGm8.out 6).trans (show _ = some (Value.int .i64 X5.count) from rfl)
      go_upto_if 103 with (fail)
      go_cut [14] from 104 to 109 (fun s wx => s = .int .i64 (foundN b.L k1 : Int) ∧ V8 = wx)
      case first =>
        rcases HX5.out with ⟨g1, g2⟩ | ⟨g1, g2⟩
        · have b1 : (X5.err == 0) = true := by rw [g2]; rfl
          have E9 := Lib.hid (show foundN b.L k1 = fo1 by rw [HFo.out, g1, HF1.out]; rfl)
          clear g1 g2
          go_wp2_with fail
          go_meet
          exact ⟨by rw [E9.out]; simp only [u2], rfl⟩
        · subst g2
          have E9 := Lib.hid (show foundN b.L k1 = fo by rw [HFo.out, g1]; rfl)
          have E1 : ∀ V : World, (binOp .neq 71 (.agg #[.int .u32 (tag : Int), .int .i64 5, .int .i64 171, .int .u32 0, .int .i64 0, .int .i64 0, .int .i64 0]) (.agg #[.int .u32 (tag : Int), .int .i64 5, .int .i64 171, .int .u32 0, .int .i64 0, .int .i64 0, .int .i64 0])).run Tryz.prog V = .ok (.bool false) V := fun V => neqRp V ⟨tag, 5, 171, 0, 0, 0, 0⟩
          clear g1
          go_wp2_with fail
          go_meet
          exact ⟨by rw [E9.out], rfl⟩
      case rest =>
      obtain ⟨rfl, rfl⟩ := hcut
      clear m0 m1 m2 m3 m4 m5 m6 ct u1 u2
      rcases HX6.out with ⟨g1, g2⟩ | ⟨g1, g2, g3⟩ | ⟨g1, g2, g3⟩
      · have b1 : (X6.err == 0) = true := by rw [g2]; rfl
        have E9 := Lib.hid (show seatsN b.L k1 = se1 by rw [HSe.out, g1, HS1.out]; rfl)
        clear g1 g2
        have o0 := (cell_of HGo8.out 0).trans (show _ = some (Value.int .u32 (X6.tag : Int)) from rfl)
        have o1 := (cell_of HGo8.out 1).trans (show _ = some (Value.int .i64 X6.kind) from rfl)
        have o2 := (cell_of HGo8.out 2).trans (show _ = some (Value.int .i64 X6.err) from rfl)
        have o3 := (cell_of HGo8.out 3).trans (show _ = some (Value.int .u32 (X6.id : Int)) from rfl)
        have o4 := (cell_of HGo8.out 4).trans (show _ = some (Value.int .i64 X6.seat) from rfl)
        have o5 := (cell_of HGo8.out 5).trans (show _ = some (Value.int .i64 X6.till) from rfl)
        have o6 := (cell_of HGo8.out 6).trans (show _ = some (Value.int .i64 X6.count) from rfl)
        go_wp2_with fail
        go_roundw
        case rel => exact ⟨k1, rfl, by rw [E9.out]; simp only [u4], rfl, by have := HK1.out; omega, HG8.out, HK8.out, HD8.out⟩
        case measure => have := HK1.out; simp [intOf]; omega
      · subst g2
        have E9 := Lib.hid (show seatsN b.L k1 = se by rw [HSe.out, g1]; rfl)
        have b3 : decide ((b.seats : Int) ≤ (k : Int)) = true := decide_eq_true (by omega)
        have b3' : decide (b.seats ≤ k) = true := decide_eq_true (by omega)
        clear g1 g3
        have o0 := (cell_of HGo8.out 0).trans (show _ = some (Value.int .u32 (tag : Int)) from rfl)
        have o1 := (cell_of HGo8.out 1).trans (show _ = some (Value.int .i64 6) from rfl)
        have o2 := (cell_of HGo8.out 2).trans (show _ = some (Value.int .i64 140) from rfl)
        have o3 := (cell_of HGo8.out 3).trans (show _ = some (Value.int .u32 0) from rfl)
        have o4 := (cell_of HGo8.out 4).trans (show _ = some (Value.int .i64 0) from rfl)
        have o5 := (cell_of HGo8.out 5).trans (show _ = some (Value.int .i64 0) from rfl)
        have o6 := (cell_of HGo8.out 6).trans (show _ = some (Value.int .i64 0) from rfl)
        have HSS := Lib.hid (fun (V : World) (f : Fr (fun _ => False) V8 V) => (⟨f, (cell_of (f.get HG8.out.hp (fun h => h)) 0).trans rfl, (cell_of (f.get HGo8.out (fun h => h)) 2).trans rfl, (cell_of (f.get HGo8.out (fun h => h)) 3).trans rfl, (cell_of (f.get HGo8.out (fun h => h)) 5).trans rfl⟩ : Fr (fun _ => False) V8 V ∧ V.cell? ⟨pb, 0, none⟩ = some (.pointer (some ⟨bb, 0, none⟩)) ∧ V.cell? ⟨y8, 2, none⟩ = some (.int .i64 140) ∧ V.cell? ⟨y8, 3, none⟩ = some (.int .u32 0) ∧ V.cell? ⟨y8, 5, none⟩ = some (.int .i64 0)))
        have HSh := Lib.hid (fun (V : World) (f : Fr (fun _ => False) V8 V) => show Calls Tryz.prog 26 #[.pointer (some ⟨bb, 0, none⟩)] V fun e w' => e = .returned (shV b.seats b.codes b.group) ∧ Fr (fun _ => False) V w' by obtain ⟨p3, hp3, -⟩ := (HG8.out.quiet HQP.out f).ask; exact shape_ok hp3)
        have hfs : ∀ w : World, (Instr.field 23 (shV b.seats b.codes b.group) 0).run Tryz.prog w = .ok (.int .i64 b.seats) w := fun _ => by kernel_rfl
        go_upto_region 24 with fail
        clear o0 o1 o2 o3 o4 o5 o6
        refine wp_mono (Q := CalmQ _) ?_ (fun _ _ _ h => CalmQ.out h)
        refine wp_region_held_drew (S := fun w' => Fr (fun _ => False) V8 w' ∧ w'.cell? ⟨pb, 0, none⟩ = some (.pointer (some ⟨bb, 0, none⟩)) ∧ w'.cell? ⟨y8, 2, none⟩ = some (.int .i64 140) ∧ w'.cell? ⟨y8, 3, none⟩ = some (.int .u32 0) ∧ w'.cell? ⟨y8, 5, none⟩ = some (.int .i64 0)) (by kernel_rfl) (by exact HSS.out _ (Fr.drew (Fr.refl _ _))) (fun hHeld => ?_)
        refine wpAnyH_take (i := 0) (v := ?_) rfl (by kernel_rfl) (by kernel_rfl) (by kernel_rfl) (fun _ _ _ h => h) (Or.inl ⟨by rfl, ?_⟩) (by assumption) ?_
        rotate_left
        · intro w' hSw; (try dsimp only at hSw); go_simp; try with_reducible rfl
        try simp only [Act.put, List.getElem_toArray, List.getElem_cons_zero, List.setIfInBounds_toArray, List.set_cons_zero, List.set_cons_succ]
        refine wpAnyH_take (i := 1) (v := ?_) rfl (by kernel_rfl) (by kernel_rfl) (by kernel_rfl) (fun _ _ _ h => h) (Or.inl ⟨by rfl, ?_⟩) (by assumption) ?_
        rotate_left
        · intro w' hSw; (try dsimp only at hSw); go_simp; try with_reducible rfl
        try simp only [Act.put, sL]
        refine wpAnyH_take (i := 2) (v := ?_) rfl (by kernel_rfl) (by kernel_rfl) (by kernel_rfl) (fun _ _ _ h => h) (Or.inl ⟨by rfl, ?_⟩) (by assumption) ?_
        rotate_left
        · intro w' hSw; (try dsimp only at hSw); go_simp; try with_reducible rfl
        try simp only [Act.put, sL]
        refine wpAnyH_take (i := 3) (v := ?_) rfl (by kernel_rfl) (by kernel_rfl) (by kernel_rfl) (fun _ _ _ h => h) (Or.inl ⟨by rfl, ?_⟩) (by assumption) ?_
        rotate_left
        · intro w' hSw; (try dsimp only at hSw); go_simp; try with_reducible rfl
        try simp only [Act.put, sL]
        refine wpAnyH_take (i := 4) (v := ?_) rfl (by kernel_rfl) (by kernel_rfl) (by kernel_rfl) (fun _ _ _ h => h) (Or.inl ⟨by rfl, ?_⟩) (by assumption) ?_
        rotate_left
        · intro w' hSw; (try dsimp only at hSw); go_simp; try with_reducible rfl
        try simp only [Act.put, sL]
        refine wpAnyH_ready (rs := [5]) (by kernel_rfl) (by simp) ?_
        refine AllReadyH.cons rfl (fun K hK => ?_) AllReadyH.nil
        go_simp
        refine (HSh.out _ hHeld.1).mono ?_
        rintro e w4x ⟨rfl, f4x⟩
        try go_simp
        refine hK.out _ _ ?_ (fun hHeld => ?_)
        · (try dsimp only); exact HSS.out _ (hHeld.1.trans f4x (fun _ _ h => h))
        clear hK K
        have F4x := Lib.hid hHeld.1
        clear f4x
        try simp only [Act.put, sL]
        refine wpAnyH_take (i := 6) (v := ?_) rfl (by kernel_rfl) (by kernel_rfl) (by kernel_rfl) (fun _ _ _ h => h) (Or.inl ⟨by rfl, ?_⟩) (by assumption) ?_
        rotate_left
        · intro w' hSw; (try dsimp only at hSw); go_simp; try with_reducible rfl
        try simp only [Act.put, sL]
        refine wpAnyH_take (i := 7) (v := ?_) rfl (by kernel_rfl) (by kernel_rfl) (by kernel_rfl) (fun _ _ _ h => h) (Or.inl ⟨by rfl, ?_⟩) (by assumption) ?_
        rotate_left
        · intro w' hSw; (try dsimp only at hSw); go_simp; try with_reducible rfl
        try simp only [Act.put, sL]
        refine wpAnyH_take (i := 8) (v := ?_) rfl (by kernel_rfl) (by kernel_rfl) (by kernel_rfl) (fun _ _ _ h => h) (Or.inl ⟨by rfl, ?_⟩) (by assumption) ?_
        rotate_left
        · intro w' hSw; (try dsimp only at hSw); go_simp; try with_reducible rfl
        try simp only [Act.put, sL]
        refine wpAnyH_take (i := 9) (v := ?_) rfl (by kernel_rfl) (by kernel_rfl) (by kernel_rfl) (fun _ _ _ h => h) (Or.inl ⟨by rfl, ?_⟩) (by assumption) ?_
        rotate_left
        · intro w' hSw; (try dsimp only at hSw); go_simp; try with_reducible rfl
        try simp only [Act.put, sL]
        refine wpAnyH_take (i := 10) (v := ?_) rfl (by kernel_rfl) (by kernel_rfl) (by kernel_rfl) (fun _ _ _ h => h) (Or.inl ⟨by rfl, ?_⟩) (by assumption) ?_
        rotate_left
        · intro w' hSw; (try dsimp only at hSw); go_simp; try with_reducible rfl
        try simp only [Act.put, sL]
        refine wpAnyH_take (i := 11) (v := ?_) rfl (by kernel_rfl) (by kernel_rfl) (by kernel_rfl) (fun _ _ _ h => h) (Or.inl ⟨by rfl, ?_⟩) (by assumption) ?_
        rotate_left
        · intro w' hSw; (try dsimp only at hSw); go_simp; try with_reducible rfl
        try simp only [Act.put, sL]
        refine wpAnyH_take (i := 12) (v := ?_) rfl (by kernel_rfl) (by kernel_rfl) (by kernel_rfl) (fun _ _ _ h => h) (Or.inl ⟨by rfl, ?_⟩) (by assumption) ?_
        rotate_left
        · intro w' hSw; (try dsimp only at hSw); go_simp; try with_reducible rfl
        try simp only [Act.put, sL]
        refine wpAnyH_take (i := 13) (v := ?_) rfl (by kernel_rfl) (by kernel_rfl) (by kernel_rfl) (fun _ _ _ h => h) (Or.inl ⟨by rfl, ?_⟩) (by assumption) ?_
        rotate_left
        · intro w' hSw; (try dsimp only at hSw); go_simp; try with_reducible rfl
        try simp only [Act.put, sL]
        refine wpAnyH_take (i := 14) (v := undef) rfl (by kernel_rfl) (by kernel_rfl) (by kernel_rfl) (fun _ _ _ h => h) (Or.inr ⟨rfl, rfl⟩) (by assumption) ?_
        try simp only [Act.put, sL]
        refine wpAnyH_take (i := 15) (v := undef) rfl (by kernel_rfl) (by kernel_rfl) (by kernel_rfl) (fun _ _ _ h => h) (Or.inr ⟨rfl, rfl⟩) (by assumption) ?_
        try simp only [Act.put, sL]
        refine wpAnyH_take (i := 16) (v := undef) rfl (by kernel_rfl) (by kernel_rfl) (by kernel_rfl) (fun _ _ _ h => h) (Or.inr ⟨rfl, rfl⟩) (by assumption) ?_
        try simp only [Act.put, sL]
        refine wpAnyH_take (i := 17) (v := ?_) rfl (by kernel_rfl) (by kernel_rfl) (by kernel_rfl) (fun _ _ _ h => h) (Or.inl ⟨by rfl, ?_⟩) (by assumption) ?_
        rotate_left
        · intro w' hSw; (try dsimp only at hSw); go_simp; try with_reducible rfl
        try simp only [Act.put, sL]
        refine wpAnyH_take (i := 18) (v := ?_) rfl (by kernel_rfl) (by kernel_rfl) (by kernel_rfl) (fun _ _ _ h => h) (Or.inl ⟨by rfl, ?_⟩) (by assumption) ?_
        rotate_left
        · intro w' hSw; (try dsimp only at hSw); go_simp; try with_reducible rfl
        try simp only [Act.put, sL]
        refine wpAnyH_take (i := 19) (v := ?_) rfl (by kernel_rfl) (by kernel_rfl) (by kernel_rfl) (fun _ _ _ h => h) (Or.inl ⟨by rfl, ?_⟩) (by assumption) ?_
        rotate_left
        · intro w' hSw; (try dsimp only at hSw); go_simp; try with_reducible rfl
        try simp only [Act.put, sL]
        refine wpAnyH_take (i := 20) (v := ?_) rfl (by kernel_rfl) (by kernel_rfl) (by kernel_rfl) (fun _ _ _ h => h) (Or.inl ⟨by rfl, ?_⟩) (by assumption) ?_
        rotate_left
        · intro w' hSw; (try dsimp only at hSw); go_simp; try with_reducible rfl
        try simp only [Act.put, sL]
        refine wpAnyH_take (i := 21) (v := ?_) rfl (by kernel_rfl) (by kernel_rfl) (by kernel_rfl) (fun _ _ _ h => h) (Or.inl ⟨by rfl, ?_⟩) (by assumption) ?_
        rotate_left
        · intro w' hSw; (try dsimp only at hSw); go_simp; try with_reducible rfl
        try simp only [Act.put, sL]
        refine wpAnyH_take (i := 22) (v := ?_) rfl (by kernel_rfl) (by kernel_rfl) (by kernel_rfl) (fun _ _ _ h => h) (Or.inl ⟨by rfl, ?_⟩) (by assumption) ?_
        rotate_left
        · intro w' hSw; (try dsimp only at hSw); go_simp; try with_reducible rfl
        try simp only [Act.put, sL]
        refine wpAnyH_take (i := 23) (v := ?_) rfl (by kernel_rfl) (by kernel_rfl) (by kernel_rfl) (fun _ _ _ h => h) (Or.inl ⟨by rfl, ?_⟩) (by assumption) ?_
        rotate_left
        · intro w' hSw; (try dsimp only at hSw); go_simp; try with_reducible rfl
        try simp only [Act.put, sL]
        refine wpAnyH_take (i := 24) (v := ?_) rfl (by kernel_rfl) (by kernel_rfl) (by kernel_rfl) (fun _ _ _ h => h) (Or.inl ⟨by rfl, ?_⟩) (by assumption) ?_
        rotate_left
        · intro w' hSw; (try dsimp only at hSw); go_simp; try with_reducible rfl
        try simp only [Act.put, sL]
        refine wpAnyH_take (i := 25) (v := ?_) rfl (by kernel_rfl) (by kernel_rfl) (by kernel_rfl) (fun _ _ _ h => h) (Or.inl ⟨by rfl, ?_⟩) (by assumption) ?_
        rotate_left
        · intro w' hSw; (try dsimp only at hSw); go_simp; try with_reducible rfl
        try simp only [Act.put, sL]
        refine wpAnyH_take (i := 26) (v := ?_) rfl (by kernel_rfl) (by kernel_rfl) (by kernel_rfl) (fun _ _ _ h => h) (Or.inl ⟨by rfl, ?_⟩) (by assumption) ?_
        rotate_left
        · intro w' hSw; (try dsimp only at hSw); go_simp; try with_reducible rfl
        try simp only [Act.put, sL]
        refine wpAnyH_take (i := 27) (v := ?_) rfl (by kernel_rfl) (by kernel_rfl) (by kernel_rfl) (fun _ _ _ h => h) (Or.inl ⟨by rfl, ?_⟩) (by assumption) ?_
        rotate_left
        · intro w' hSw; (try dsimp only at hSw); go_simp; try with_reducible rfl
        try simp only [Act.put, sL]
        refine wpAnyH_take (i := 28) (v := ?_) rfl (by kernel_rfl) (by kernel_rfl) (by kernel_rfl) (fun _ _ _ h => h) (Or.inl ⟨by rfl, ?_⟩) (by assumption) ?_
        rotate_left
        · intro w' hSw; (try dsimp only at hSw); go_simp; try with_reducible rfl
        try simp only [Act.put, sL]
        refine wpAnyH_done (by kernel_rfl) ?_ _
        refine CalmQ.intro ?_
        have FE := Lib.hid (F4x.out)
        go_wp2_with fail
        go_roundw
        case rel => exact ⟨k1, rfl, by rw [E9.out], rfl, by have := HK1.out; omega, HG8.out.quiet HQP.out FE.out, FE.out.get HK8.out (fun h => h), FE.out.get HD8.out (fun h => h)⟩
        case measure => have := HK1.out; simp [intOf]; omega
      · subst g2
        have E9 := Lib.hid (show seatsN b.L k1 = se by rw [HSe.out, g1]; rfl)
        have b3 : decide ((b.seats : Int) ≤ (k : Int)) = false := decide_eq_false (by omega)
        have b3' : decide (b.seats ≤ k) = false := decide_eq_false (by omega)
        clear g1 g3
        have o0 := (cell_of HGo8.out 0).trans (show _ = some (Value.int .u32 (tag : Int)) from rfl)
        have o1 := (cell_of HGo8.out 1).trans (show _ = some (Value.int .i64 6) from rfl)
        have o2 := (cell_of HGo8.out 2).trans (show _ = some (Value.int .i64 171) from rfl)
        have o3 := (cell_of HGo8.out 3).trans (show _ = some (Value.int .u32 0) from rfl)
        have o4 := (cell_of HGo8.out 4).trans (show _ = some (Value.int .i64 0) from rfl)
        have o5 := (cell_of HGo8.out 5).trans (show _ = some (Value.int .i64 0) from rfl)
        have o6 := (cell_of HGo8.out 6).trans (show _ = some (Value.int .i64 0) from rfl)
        have HSS := Lib.hid (fun (V : World) (f : Fr (fun _ => False) V8 V) => (⟨f, (cell_of (f.get HG8.out.hp (fun h => h)) 0).trans rfl, (cell_of (f.get HGo8.out (fun h => h)) 2).trans rfl, (cell_of (f.get HGo8.out (fun h => h)) 3).trans rfl, (cell_of (f.get HGo8.out (fun h => h)) 5).trans rfl⟩ : Fr (fun _ => False) V8 V ∧ V.cell? ⟨pb, 0, none⟩ = some (.pointer (some ⟨bb, 0, none⟩)) ∧ V.cell? ⟨y8, 2, none⟩ = some (.int .i64 171) ∧ V.cell? ⟨y8, 3, none⟩ = some (.int .u32 0) ∧ V.cell? ⟨y8, 5, none⟩ = some (.int .i64 0)))
        have HSh := Lib.hid (fun (V : World) (f : Fr (fun _ => False) V8 V) => show Calls Tryz.prog 26 #[.pointer (some ⟨bb, 0, none⟩)] V fun e w' => e = .returned (shV b.seats b.codes b.group) ∧ Fr (fun _ => False) V w' by obtain ⟨p3, hp3, -⟩ := (HG8.out.quiet HQP.out f).ask; exact shape_ok hp3)
        have hfs : ∀ w : World, (Instr.field 23 (shV b.seats b.codes b.group) 0).run Tryz.prog w = .ok (.int .i64 b.seats) w := fun _ => by kernel_rfl
        go_upto_region 24 with fail
        clear o0 o1 o2 o3 o4 o5 o6
        refine wp_mono (Q := CalmQ _) ?_ (fun _ _ _ h => CalmQ.out h)
        refine wp_region_held_drew (S := fun w' => Fr (fun _ => False) V8 w' ∧ w'.cell? ⟨pb, 0, none⟩ = some (.pointer (some ⟨bb, 0, none⟩)) ∧ w'.cell? ⟨y8, 2, none⟩ = some (.int .i64 171) ∧ w'.cell? ⟨y8, 3, none⟩ = some (.int .u32 0) ∧ w'.cell? ⟨y8, 5, none⟩ = some (.int .i64 0)) (by kernel_rfl) (by exact HSS.out _ (Fr.drew (Fr.refl _ _))) (fun hHeld => ?_)
        refine wpAnyH_take (i := 0) (v := ?_) rfl (by kernel_rfl) (by kernel_rfl) (by kernel_rfl) (fun _ _ _ h => h) (Or.inl ⟨by rfl, ?_⟩) (by assumption) ?_
        rotate_left
        · intro w' hSw; (try dsimp only at hSw); go_simp; try with_reducible rfl
        try simp only [Act.put, List.getElem_toArray, List.getElem_cons_zero, List.setIfInBounds_toArray, List.set_cons_zero, List.set_cons_succ]
        refine wpAnyH_take (i := 1) (v := ?_) rfl (by kernel_rfl) (by kernel_rfl) (by kernel_rfl) (fun _ _ _ h => h) (Or.inl ⟨by rfl, ?_⟩) (by assumption) ?_
        rotate_left
        · intro w' hSw; (try dsimp only at hSw); go_simp; try with_reducible rfl
        try simp only [Act.put, sL]
        refine wpAnyH_take (i := 2) (v := ?_) rfl (by kernel_rfl) (by kernel_rfl) (by kernel_rfl) (fun _ _ _ h => h) (Or.inl ⟨by rfl, ?_⟩) (by assumption) ?_
        rotate_left
        · intro w' hSw; (try dsimp only at hSw); go_simp; try with_reducible rfl
        try simp only [Act.put, sL]
        refine wpAnyH_take (i := 3) (v := ?_) rfl (by kernel_rfl) (by kernel_rfl) (by kernel_rfl) (fun _ _ _ h => h) (Or.inl ⟨by rfl, ?_⟩) (by assumption) ?_
        rotate_left
        · intro w' hSw; (try dsimp only at hSw); go_simp; try with_reducible rfl
        try simp only [Act.put, sL]
        refine wpAnyH_take (i := 4) (v := ?_) rfl (by kernel_rfl) (by kernel_rfl) (by kernel_rfl) (fun _ _ _ h => h) (Or.inl ⟨by rfl, ?_⟩) (by assumption) ?_
        rotate_left
        · intro w' hSw; (try dsimp only at hSw); go_simp; try with_reducible rfl
        try simp only [Act.put, sL]
        refine wpAnyH_ready (rs := [5]) (by kernel_rfl) (by simp) ?_
        refine AllReadyH.cons rfl (fun K hK => ?_) AllReadyH.nil
        go_simp
        refine (HSh.out _ hHeld.1).mono ?_
        rintro e w4x ⟨rfl, f4x⟩
        try go_simp
        refine hK.out _ _ ?_ (fun hHeld => ?_)
        · (try dsimp only); exact HSS.out _ (hHeld.1.trans f4x (fun _ _ h => h))
        clear hK K
        have F4x := Lib.hid hHeld.1
        clear f4x
        try simp only [Act.put, sL]
        refine wpAnyH_take (i := 6) (v := ?_) rfl (by kernel_rfl) (by kernel_rfl) (by kernel_rfl) (fun _ _ _ h => h) (Or.inl ⟨by rfl, ?_⟩) (by assumption) ?_
        rotate_left
        · intro w' hSw; (try dsimp only at hSw); go_simp; try with_reducible rfl
        try simp only [Act.put, sL]
        refine wpAnyH_take (i := 7) (v := ?_) rfl (by kernel_rfl) (by kernel_rfl) (by kernel_rfl) (fun _ _ _ h => h) (Or.inl ⟨by rfl, ?_⟩) (by assumption) ?_
        rotate_left
        · intro w' hSw; (try dsimp only at hSw); go_simp; try with_reducible rfl
        try simp only [Act.put, sL]
        refine wpAnyH_take (i := 8) (v := ?_) rfl (by kernel_rfl) (by kernel_rfl) (by kernel_rfl) (fun _ _ _ h => h) (Or.inl ⟨by rfl, ?_⟩) (by assumption) ?_
        rotate_left
        · intro w' hSw; (try dsimp only at hSw); go_simp; try with_reducible rfl
        try simp only [Act.put, sL]
        refine wpAnyH_take (i := 9) (v := ?_) rfl (by kernel_rfl) (by kernel_rfl) (by kernel_rfl) (fun _ _ _ h => h) (Or.inl ⟨by rfl, ?_⟩) (by assumption) ?_
        rotate_left
        · intro w' hSw; (try dsimp only at hSw); go_simp; try with_reducible rfl
        try simp only [Act.put, sL]
        refine wpAnyH_take (i := 10) (v := ?_) rfl (by kernel_rfl) (by kernel_rfl) (by kernel_rfl) (fun _ _ _ h => h) (Or.inl ⟨by rfl, ?_⟩) (by assumption) ?_
        rotate_left
        · intro w' hSw; (try dsimp only at hSw); go_simp; try with_reducible rfl
        try simp only [Act.put, sL]
        refine wpAnyH_take (i := 11) (v := ?_) rfl (by kernel_rfl) (by kernel_rfl) (by kernel_rfl) (fun _ _ _ h => h) (Or.inl ⟨by rfl, ?_⟩) (by assumption) ?_
        rotate_left
        · intro w' hSw; (try dsimp only at hSw); go_simp; try with_reducible rfl
        try simp only [Act.put, sL]
        refine wpAnyH_take (i := 12) (v := ?_) rfl (by kernel_rfl) (by kernel_rfl) (by kernel_rfl) (fun _ _ _ h => h) (Or.inl ⟨by rfl, ?_⟩) (by assumption) ?_
        rotate_left
        · intro w' hSw; (try dsimp only at hSw); go_simp; try with_reducible rfl
        try simp only [Act.put, sL]
        refine wpAnyH_take (i := 13) (v := ?_) rfl (by kernel_rfl) (by kernel_rfl) (by kernel_rfl) (fun _ _ _ h => h) (Or.inl ⟨by rfl, ?_⟩) (by assumption) ?_
        rotate_left
        · intro w' hSw; (try dsimp only at hSw); go_simp; try with_reducible rfl
        try simp only [Act.put, sL]
        refine wpAnyH_take (i := 14) (v := ?_) rfl (by kernel_rfl) (by kernel_rfl) (by kernel_rfl) (fun _ _ _ h => h) (Or.inl ⟨by rfl, ?_⟩) (by assumption) ?_
        rotate_left
        · intro w' hSw; (try dsimp only at hSw); go_simp; try with_reducible rfl
        try simp only [Act.put, sL]
        refine wpAnyH_take (i := 15) (v := ?_) rfl (by kernel_rfl) (by kernel_rfl) (by kernel_rfl) (fun _ _ _ h => h) (Or.inl ⟨by rfl, ?_⟩) (by assumption) ?_
        rotate_left
        · intro w' hSw; (try dsimp only at hSw); go_simp; try with_reducible rfl
        try simp only [Act.put, sL]
        refine wpAnyH_take (i := 16) (v := ?_) rfl (by kernel_rfl) (by kernel_rfl) (by kernel_rfl) (fun _ _ _ h => h) (Or.inl ⟨by rfl, ?_⟩) (by assumption) ?_
        rotate_left
        · intro w' hSw; (try dsimp only at hSw); go_simp; try with_reducible rfl
        try simp only [Act.put, sL]
        refine wpAnyH_take (i := 17) (v := ?_) rfl (by kernel_rfl) (by kernel_rfl) (by kernel_rfl) (fun _ _ _ h => h) (Or.inl ⟨by rfl, ?_⟩) (by assumption) ?_
        rotate_left
        · intro w' hSw; (try dsimp only at hSw); go_simp; try with_reducible rfl
        try simp only [Act.put, sL]
        refine wpAnyH_take (i := 18) (v := ?_) rfl (by kernel_rfl) (by kernel_rfl) (by kernel_rfl) (fun _ _ _ h => h) (Or.inl ⟨by rfl, ?_⟩) (by assumption) ?_
        rotate_left
        · intro w' hSw; (try dsimp only at hSw); go_simp; try with_reducible rfl
        try simp only [Act.put, sL]
        refine wpAnyH_take (i := 19) (v := ?_) rfl (by kernel_rfl) (by kernel_rfl) (by kernel_rfl) (fun _ _ _ h => h) (Or.inl ⟨by rfl, ?_⟩) (by assumption) ?_
        rotate_left
        · intro w' hSw; (try dsimp only at hSw); go_simp; try with_reducible rfl
        try simp only [Act.put, sL]
        refine wpAnyH_take (i := 20) (v := ?_) rfl (by kernel_rfl) (by kernel_rfl) (by kernel_rfl) (fun _ _ _ h => h) (Or.inl ⟨by rfl, ?_⟩) (by assumption) ?_
        rotate_left
        · intro w' hSw; (try dsimp only at hSw); go_simp; try with_reducible rfl
        try simp only [Act.put, sL]
        refine wpAnyH_take (i := 21) (v := ?_) rfl (by kernel_rfl) (by kernel_rfl) (by kernel_rfl) (fun _ _ _ h => h) (Or.inl ⟨by rfl, ?_⟩) (by assumption) ?_
        rotate_left
        · intro w' hSw; (try dsimp only at hSw); go_simp; try with_reducible rfl
        try simp only [Act.put, sL]
        refine wpAnyH_take (i := 22) (v := ?_) rfl (by kernel_rfl) (by kernel_rfl) (by kernel_rfl) (fun _ _ _ h => h) (Or.inl ⟨by rfl, ?_⟩) (by assumption) ?_
        rotate_left
        · intro w' hSw; (try dsimp only at hSw); go_simp; try with_reducible rfl
        try simp only [Act.put, sL]
        refine wpAnyH_take (i := 23) (v := ?_) rfl (by kernel_rfl) (by kernel_rfl) (by kernel_rfl) (fun _ _ _ h => h) (Or.inl ⟨by rfl, ?_⟩) (by assumption) ?_
        rotate_left
        · intro w' hSw; (try dsimp only at hSw); go_simp; try with_reducible rfl
        try simp only [Act.put, sL]
        refine wpAnyH_take (i := 24) (v := ?_) rfl (by kernel_rfl) (by kernel_rfl) (by kernel_rfl) (fun _ _ _ h => h) (Or.inl ⟨by rfl, ?_⟩) (by assumption) ?_
        rotate_left
        · intro w' hSw; (try dsimp only at hSw); go_simp; try with_reducible rfl
        try simp only [Act.put, sL]
        refine wpAnyH_take (i := 25) (v := ?_) rfl (by kernel_rfl) (by kernel_rfl) (by kernel_rfl) (fun _ _ _ h => h) (Or.inl ⟨by rfl, ?_⟩) (by assumption) ?_
        rotate_left
        · intro w' hSw; (try dsimp only at hSw); go_simp; try with_reducible rfl
        try simp only [Act.put, sL]
        refine wpAnyH_take (i := 26) (v := ?_) rfl (by kernel_rfl) (by kernel_rfl) (by kernel_rfl) (fun _ _ _ h => h) (Or.inl ⟨by rfl, ?_⟩) (by assumption) ?_
        rotate_left
        · intro w' hSw; (try dsimp only at hSw); go_simp; try with_reducible rfl
        try simp only [Act.put, sL]
        refine wpAnyH_take (i := 27) (v := ?_) rfl (by kernel_rfl) (by kernel_rfl) (by kernel_rfl) (fun _ _ _ h => h) (Or.inl ⟨by rfl, ?_⟩) (by assumption) ?_
        rotate_left
        · intro w' hSw; (try dsimp only at hSw); go_simp; try with_reducible rfl
        try simp only [Act.put, sL]
        refine wpAnyH_take (i := 28) (v := ?_) rfl (by kernel_rfl) (by kernel_rfl) (by kernel_rfl) (fun _ _ _ h => h) (Or.inl ⟨by rfl, ?_⟩) (by assumption) ?_
        rotate_left
        · intro w' hSw; (try dsimp only at hSw); go_simp; try with_reducible rfl
        try simp only [Act.put, sL]
        refine wpAnyH_done (by kernel_rfl) ?_ _
        refine CalmQ.intro ?_
        have FE := Lib.hid (F4x.out)
        go_wp2_with fail
        go_roundw
        case rel => exact ⟨k1, rfl, by rw [E9.out], rfl, by have := HK1.out; omega, HG8.out.quiet HQP.out FE.out, FE.out.get HK8.out (fun h => h), FE.out.get HD8.out (fun h => h)⟩
        case measure => have := HK1.out; simp [intOf]; omega
    · have hk4 : k = 40 := by omega
      have hlt' : ¬ (k : Int) < 40 := by omega
      obtain ⟨fo, hfo⟩ : ∃ x, x = foundN b.L k := ⟨_, rfl⟩
      obtain ⟨se, hse⟩ : ∃ x, x = seatsN b.L k := ⟨_, rfl⟩
      have hfo2 : fo ≤ N := by rw [hfo, HN.out]; exact foundN_le _ _
      have hse2 : se = N := by rw [hse, HN.out, hk4]; exact seatsN_all HOk.out.lone (fun x hx => by have := HOk.out.at_ x hx; have := HS12.out; omega)
      rw [← hfo, ← hse, hse2]
      have b1 : decide ((fo : Int) ≤ (N : Int)) = true := decide_eq_true (by omega)
      have b1' : decide (fo ≤ N) = true := decide_eq_true hfo2
      have b2 : ((N : Int) == (N : Int)) = true := by simp
      have HA10 := Lib.hid (ans10_y b tag)
      obtain ⟨p1, hp1, hN1⟩ := hG.ask
      have HC1 := Lib.hid (show Calls Tryz.prog 25 #[.pointer (some ⟨bb, 0, none⟩), .agg #[.int .i64 10, .int .u32 (tag : Int), .int .u32 0, .int .i64 0, .int .i64 0]] wr fun e w' => e = .returned (.tuple #[.agg #[.int .u32 (tag : Int), .int .i64 10, .int .i64 0, .int .u32 0, .int .i64 0, .int .i64 0, .int .i64 (N : Int)], .int .i64 0]) ∧ AftN p1 bb b wr w' by have := answer_n hp1 ⟨10, tag, 0, 0, 0⟩ (by show (0 : Nat) < _; omega); rw [HA10.out, ← HN.out] at this; exact this)
      have ct := (cell_of (hG.fr.get HGt.out (fun h => h)) 0).trans (show _ = some (Value.int .u32 (tag : Int)) from rfl)
      have cp := hG.c
      have HN1 := Lib.hid hN1; have HK := Lib.hid hk; have HDk := Lib.hid hd
      clear hG hk hd hlt hk4 hk40 hfo hse hfo2 hse2 hp1 hN1
      go_wp2_with fail
      refine HC1.out.mono ?_
      rintro e w5 ⟨rfl, ha⟩
      obtain ⟨hG5, f5⟩ := HN1.out w5 ha
      obtain ⟨V6, hV6⟩ : ∃ V, V = w5.alloc (.cells #[.int .u32 (tag : Int), .int .i64 10, .int .i64 0, .int .u32 0, .int .i64 0, .int .i64 0, .int .i64 (N : Int)] 71) := ⟨_, rfl⟩
      obtain ⟨y6, hy6⟩ : ∃ c, c = w5.heap.size := ⟨_, rfl⟩
      have g6 : Fr (fun _ => False) w5 V6 := by rw [hV6]; exact Fr.alloc (Fr.refl _ _) _
      have hg6 : V6.heap[y6]? = some (.cells #[.int .u32 (tag : Int), .int .i64 10, .int .i64 0, .int .u32 0, .int .i64 0, .int .i64 0, .int .i64 (N : Int)] 71 (0, 0)) := by rw [hV6, hy6]; exact heap_alloc_at _ _
      have hG6 := hG5.quiet HQP.out g6
      have f6 := f5.trans g6 (fun _ _ h => h.elim)
      have hk6 := f6.get HK.out (fun e => e.2.2 (.inr (.inl rfl)))
      have hd6 := f6.get HDk.out (fun e => by have := HD.out; omega)
      have HV6 := Lib.hid hV6; have HY6 := Lib.hid hy6; have HG6 := Lib.hid hG6; have HD6 := Lib.hid hd6; have HGm := Lib.hid hg6; have HK6 := Lib.hid hk6
      clear ha hG5 f5 hV6 hy6 g6 hg6 hG6 f6 hk6 hd6 ct cp
      go_upto_region 27 with fail
      rw [← HV6.out, ← HY6.out]
      have ct := (cell_of (HG6.out.fr.get HGt.out (fun h => h)) 0).trans (show _ = some (Value.int .u32 (tag : Int)) from rfl)
      have ck := (cell_of HK6.out 0).trans (show _ = some (Value.int .i64 (N : Int)) from rfl)
      have m0 := (cell_of HGm.out 0).trans (show _ = some (Value.int .u32 (tag : Int)) from rfl)
      have m1 := (cell_of HGm.out 1).trans (show _ = some (Value.int .i64 10) from rfl)
      have m2 := (cell_of HGm.out 2).trans (show _ = some (Value.int .i64 0) from rfl)
      have m3 := (cell_of HGm.out 3).trans (show _ = some (Value.int .u32 0) from rfl)
      have m4 := (cell_of HGm.out 4).trans (show _ = some (Value.int .i64 0) from rfl)
      have m5 := (cell_of HGm.out 5).trans (show _ = some (Value.int .i64 0) from rfl)
      have m6 := (cell_of HGm.out 6).trans (show _ = some (Value.int .i64 (N : Int)) from rfl)
      have E1 : ∀ V : World, (binOp .eql 71 (.agg #[.int .u32 (tag : Int), .int .i64 10, .int .i64 0, .int .u32 0, .int .i64 0, .int .i64 0, .int .i64 (N : Int)]) (.agg #[.int .u32 (tag : Int), .int .i64 10, .int .i64 0, .int .u32 0, .int .i64 0, .int .i64 0, .int .i64 (N : Int)])).run Tryz.prog V = .ok (.bool true) V := fun V => eqlRp V ⟨tag, 10, 0, 0, 0, 0, (N : Int)⟩
      go_wp2_with fail
      refine (awake_ok _).mono ?_
      rintro e w9 ⟨rfl, f9⟩
      have hr9 := f9.get (HG6.out.fr.get HGr.out (fun h => h)) (fun h => h)
      have hd9 := f9.get HD6.out (fun h => h)
      have HR9 := Lib.hid hr9; have HD9 := Lib.hid hd9; have F9 := Lib.hid f9
      have yr := free_of hr9 0
      have cr := (cell_of hr9 0).trans (show _ = some (Value.bool false) from rfl)
      clear f9 hr9 hd9 ct ck E1 m0 m1 m2 m3 m4 m5 m6
      go_wp2_with fail
      have hdS : (w9.setCell ⟨z + 2, 0, none⟩ (.bool true)).heap[D]? = some (.deferred (some [])) := (Fr.setCell (F := fun y => y = z + 2) (p := ⟨z + 2, 0, none⟩) (Fr.refl _ _) (fun _ => rfl) _).get HD9.out (by have := HD.out; have := HQP.out.b; have := Hs.out; omega)
      refine ⟨by simp, .inl ⟨_, _, rfl, run_takeDeferred hdS, ?_⟩⟩
      have fD := putObj_fr (w9.setCell ⟨z + 2, 0, none⟩ (.bool true)) D (.deferred none)
      have hrE := fD.get (setCell_blk (o := 0) HR9.out (.bool true)) (by have := HD.out; have := HQP.out.b; have := Hs.out; omega)
      have hcE := (cell_of hrE 0).trans (show _ = some (Value.bool true) from rfl)
      refine ⟨.bool true, ?_, rfl, ?_⟩
      · simp [results, Tryz.f4, go_sem, hcE]
      · have fS : Fr (fun y => y = z + 2) w9 (w9.setCell ⟨z + 2, 0, none⟩ (.bool true)) := Fr.setCell (F := fun y => y = z + 2) (p := ⟨z + 2, 0, none⟩) (Fr.refl _ _) (fun _ => rfl) _
        exact ((F0.out.trans (HG6.out.fr.trans F9.out (fun _ _ h => h)) (fun _ _ h => h)).trans fS (fun y hy e => by have := Hz.out; omega)).trans fD (fun y hy e => by have := HD.out; have := HQP.out.b; have := Hs.out; have := Hz.out; omega)
end Go.Proofs.YtffnjnnmlfgngaaGreat.Cs
namespace Go.Proofs.YtffnjnnmlfgngaaGreat
open Go.ChangeShapes Go.WideShapes Go.ChangeAt Go.RowKit Go.Deep
section
variable {H : Type} {enc : TypeId × Value → H} {P : Program} {w : World} {base : Nat} {spare : Nat → Bool} {held : Bool}
/-- The kind of a type's j-th cell, when it is a number. -/
def kindAt (P : Program) : Nat → TypeId → Nat → Option IntKind
  | 0, _, _ => none
  | n + 1, t, j => match P.underlying t with
    | some (.int k) => if j = 0 then some k else none
    | some (.struct fs) => fs.toList.findSome? fun f => if f.offset ≤ j ∧ j < f.offset + P.cellsOf f.type then kindAt P n f.type (j - f.offset) else none
    | _ => none
theorem trod_kindAt : ∀ (n : Nat) {t : TypeId} {j : Nat} {k : IntKind} {fuel : Nat} {cs : List Value} {x : DataW H × List MemPlace}, kindAt P n t j = some k → DataW.trod enc P w base spare held fuel t cs = some x → ∃ v, cs[j]? = some (.int k v) ∧ (Lit.int k v).wf = true := by
  intro n
  induction n with
  | zero => intro t j k fuel cs x h; simp [kindAt] at h
  | succ n ih =>
    intro t j k fuel cs x h hf
    unfold kindAt at h
    split at h
    · rename_i k' hu
      split at h
      · rename_i hj
        subst hj
        obtain ⟨v, rfl, _, h3⟩ := DataW.trod_int hu hf
        obtain rfl : k' = k := Option.some.inj h
        exact ⟨v, rfl, h3⟩
      · cases h
    · rename_i fs hu
      obtain ⟨ys, n', _, _, hlen, hyl, hff⟩ := DataW.trod_struct hu hf
      obtain ⟨f, hfm, hfk⟩ := List.exists_of_findSome?_eq_some h
      split at hfk
      · rename_i hc
        obtain ⟨i, hi, rfl⟩ := List.getElem_of_mem hfm
        have hi' : i < fs.size := by simpa using hi
        have h1 := hff i _ (Array.getElem?_eq_getElem hi')
        have hys : ys[i]? = some (ys[i]'(by omega)) := List.getElem?_eq_getElem (by omega)
        obtain ⟨v, hv, hw⟩ := ih (by simpa using hfk) (h1.trans hys)
        refine ⟨v, ?_, hw⟩
        rw [List.getElem?_take, if_pos (by simp at hc; omega), List.getElem?_drop] at hv
        rw [← hv]
        simp at hc
        congr 1
        omega
      · cases hfk
    · cases h
theorem kindsAt_flat {m : Nat} {kd : Nat → IntKind} {t e : TypeId} {a0 : Option Addr} {len0 cap0 : Nat} {d : DataW H} {p : List MemPlace} (n : Nat) (ht : P.underlying t = some (.slice e))
    (hone : (List.range m).all (fun j => kindAt P n e j == some (kd j)) = true) (hC : P.cellsOf e = m) (h0 : 0 < m) (h : DataW.Trod enc P w base spare held t (.slice a0 len0 cap0) d p) :
    ∃ K, KindsAt w (.slice a0 len0 cap0) m kd K len0 := by
  obtain ⟨fuel, hf⟩ := h
  rcases open_slice ht hf with ⟨hcs, _⟩ | ⟨a, len, cap, q, n1, D, Pl, hcs, hb, hl, hm, hmm, hx, hi⟩
  · simp [Value.cells] at hcs
    obtain ⟨rfl, rfl, rfl⟩ := hcs
    exact ⟨fun _ _ => 0, none, 0, rfl, Nat.le_refl _, Nat.zero_le _, .inl rfl⟩
  · simp [Value.cells] at hcs
    obtain ⟨rfl, rfl, rfl⟩ := hcs
    have hlm : len0 ≤ q := by rw [hmm]; split <;> omega
    have cell : ∀ i j, i < len0 → j < m → ∃ x, w.cell? (a.add (i * m + j)) = some (.int (kd j) x) ∧ (Lit.int (kd j) x).wf = true := by
      intro i j hil hjl
      obtain ⟨cs', hc, ht'⟩ := hi i (by omega)
      rw [hC] at hc
      obtain ⟨_, hcl, hat⟩ := World.cells?_some hc
      have hk : kindAt P n e j = some (kd j) := by
        have := List.all_eq_true.1 hone j (List.mem_range.2 hjl)
        exact eq_of_beq this
      obtain ⟨x, hx1, hx3⟩ := trod_kindAt n hk ht'
      refine ⟨x, ?_, hx3⟩
      rw [← Go.Deep.add_add, hat j hjl, hx1]
    by_cases hz : len0 = 0
    · subst hz; exact ⟨fun _ _ => 0, some a, cap0, rfl, hl, hm, .inl rfl⟩
    · obtain ⟨b, o, sp⟩ := a
      have hsp : sp = none := by
        obtain ⟨x, hx1, _⟩ := cell 0 0 (by omega) h0
        simpa [Addr.add] using World.cell?_spot hx1
      subst hsp
      have cell' : ∀ i j, i < len0 → j < m → ∃ x, w.cell? ⟨b, o + i * m + j, none⟩ = some (.int (kd j) x) ∧ (Lit.int (kd j) x).wf = true := by
        intro i j hil hjl
        have e : (⟨b, o, none⟩ : Addr).add (i * m + j) = ⟨b, o + i * m + j, none⟩ := by
          unfold Addr.add
          split
          · first | (simp; done) | (simp; omega)
          · simp [Nat.add_assoc]
        rw [← e]
        exact cell i j hil hjl
      refine ⟨fun i j => if h : i < len0 ∧ j < m then (cell' i j h.1 h.2).choose else 0, some ⟨b, o, none⟩, cap0, rfl, hl, hm, .inr ⟨b, o, rfl, ?_⟩⟩
      intro i j hil hjl
      have hsp := (cell' i j hil hjl).choose_spec
      dsimp only
      rw [dif_pos ⟨hil, hjl⟩]
      exact hsp
end
end Go.Proofs.YtffnjnnmlfgngaaGreat
namespace Go.Proofs.YtffnjnnmlfgngaaGreat
open Go.Joins Go.ChangeShapes Go.WideShapes Go.ChangeAt Go.RowKit Go.Deep
section
variable {H : Type} {enc : TypeId × Value → H} {P : Program} {w : World} {base : Nat} {spare : Nat → Bool} {held : Bool}
theorem open_nsnn {r : Reach} {b0 : Nat} {t e : TypeId} {f0 f1 f2 f3 : Field} {v : Value} {d : DataW H} {p : List MemPlace} {m : Nat} {kd : Nat → IntKind} {ka kb kc : IntKind} (n : Nat) (hs : P.underlying t = some (.struct #[f0, f1, f2, f3])) (hone : oneCellFields P #[f0, f1, f2, f3] = true) (hC : P.cellsOf t = 4)
    (h0 : kindAt P n f0.type 0 = some ka) (h1 : P.underlying f1.type = some (.slice e)) (h1a : (List.range m).all (fun j => kindAt P n e j == some (kd j)) = true) (h1c : P.cellsOf e = m) (hm : 0 < m) (h2 : kindAt P n f2.type 0 = some kb) (h3 : kindAt P n f3.type 0 = some kc)
    (hv : Value.okWide P w r b0 t v) (h : DataW.Trod enc P w base spare held t v d p) :
    ∃ (x0 : Int) (vv : Value) (x2 x3 : Int) (K : Nat → Nat → Int) (l : Nat), v = .agg #[.int ka x0, vv, .int kb x2, .int kc x3] ∧ (Lit.int ka x0).wf = true ∧ KindsAt w vv m kd K l ∧ (Lit.int kb x2).wf = true ∧ (Lit.int kc x3).wf = true := by
  obtain ⟨v0, v1, v2, v3, y0, y1, y2, y3, fu, rfl, -, -, t0, t1, t2, t3⟩ := open_agg4 hs hone hC hv h
  obtain ⟨x0, e0, w0⟩ := trod_kindAt n h0 t0
  obtain ⟨x2, e2, w2⟩ := trod_kindAt n h2 t2
  obtain ⟨x3, e3, w3⟩ := trod_kindAt n h3 t3
  have q0 : v0 = .int ka x0 := by simpa using e0
  have q2 : v2 = .int kb x2 := by simpa using e2
  have q3 : v3 = .int kc x3 := by simpa using e3
  subst q0; subst q2; subst q3
  have key : ∃ a l c, v1 = .slice a l c := by
    rcases open_slice h1 t1 with ⟨hcs, _⟩ | ⟨a, len, cap, q, n1, D, Pl, hcs, _⟩
    · exact ⟨none, 0, 0, by simpa using hcs⟩
    · exact ⟨some a, len, cap, by simpa using hcs⟩
  obtain ⟨a, l, c, rfl⟩ := key
  obtain ⟨K, hK⟩ := kindsAt_flat (kd := kd) (m := m) n h1 h1a h1c hm (⟨fu, t1⟩ : DataW.Trod enc P w base spare held f1.type (.slice a l c) y1.1 y1.2)
  exact ⟨x0, _, x2, x3, K, l, rfl, w0, hK, w2, w3⟩
end
end Go.Proofs.YtffnjnnmlfgngaaGreat
namespace Go.Proofs.YtffnjnnmlfgngaaGreat.Cs
open Go.RowKit Go.Shelf Go.Proofs.YtffnjnnmlfgngaaGreat.Bk
theorem quests_law (w : World) (sh : Int) (hsh : (Lit.int .i64 sh).wf = true) (v : Value) (K : Nat → Nat → Int) (n : Nat) (hK : KindsAt w v 4 kI K n) (nx : Int) (hnx : (Lit.int .u32 nx).wf = true) (cl : Int) (tag : Int) (htag : (Lit.int .u32 tag).wf = true) :
    Calls Tryz.prog 4 #[.agg #[.int .i64 sh, v, .int .u32 nx, .int .i64 cl], .int .u32 tag] w fun e w' => e = .returned (.bool true) ∧ Fr (fun _ => False) w w' := by
  have h2 := wf_u32 hnx; have h3 := wf_u32 htag
  have := quests_walk (w := w) (wf_i64 hsh) hK nx.toNat (by omega) cl tag.toNat
  change Calls _ _ #[.agg #[.int .i64 sh, v, .int .u32 (nx.toNat : Int), .int .i64 cl], .int .u32 (tag.toNat : Int)] w _ at this
  rw [Int.toNat_of_nonneg h2.1, Int.toNat_of_nonneg h3.1] at this
  exact this
end Go.Proofs.YtffnjnnmlfgngaaGreat.Cs
