/- Slices of waiting parties; slices.Values; a list under way in a cell. No condition. -/
import Derived.Test.YtjfnaflbhmeokaaWtQ
import Derived.Test.YtjfnaflbhmeokaaWtAll
import Derived.Test.YtjfnaflbhmeokaaBoxR
import Derived.Test.YtjfnaflbhmeokaaEls
namespace Go.Proofs.Ytjfnaflbhmeokaa.Wt
open Go.RowKit Go.Shelf
attribute [local go_sem] Oper.semAt_some
noncomputable def encW (x : Int) : List Value := [.int .u32 (wW x), .int .i64 (wS x), .int .i64 (wT x), .int .i64 (wC x)]
theorem encW_len (x : Int) : (encW x).length = 4 := rfl
theorem encW_one (x : Int) : ∀ v ∈ encW x, v.oneCell' = true := by
  intro v hv; simp [encW] at hv; rcases hv with rfl | rfl | rfl | rfl <;> rfl
/-- The slice sv has the parties S. -/
abbrev Wts (w : World) (sv : Value) (S : List Int) : Prop := Els w 32 4 encW sv S
theorem Wts.cells {w : World} {sv : Value} {S : List Int} (h : Wts w sv S) {k : Nat} (hk : k < S.length) :
    ∃ g cap, sv = .slice (some ⟨g, 0, none⟩) S.length cap ∧ w.cell? ⟨g, k * 4, none⟩ = some (.int .u32 (wW (S.getD k 0))) ∧ w.cell? ⟨g, k * 4 + 1, none⟩ = some (.int .i64 (wS (S.getD k 0))) ∧ w.cell? ⟨g, k * 4 + 2, none⟩ = some (.int .i64 (wT (S.getD k 0))) ∧ w.cell? ⟨g, k * 4 + 3, none⟩ = some (.int .i64 (wC (S.getD k 0))) := by
  obtain ⟨g, cap, e, hc⟩ := Els.cells encW_len h hk
  have e2 : S.getD k 0 = S[k] := by simp [hk]
  rw [e2]
  exact ⟨g, cap, e, hc 0 (by omega), hc 1 (by omega), hc 2 (by omega), hc 3 (by omega)⟩
/-- What slices.Values has captured. -/
structure VSeq (w : World) (cb : Nat) (sv : Value) (S : List Int) : Prop where
  box : w.heap[cb]? = some (.cells #[sv] 26 (0, 0))
  row : Wts w sv S
  few : S.length ≤ 70000
section seq
variable {w w' : World} {cb : Nat} {sv : Value} {S : List Int}
theorem VSeq.same (h : VSeq w cb sv S) (k : ∀ b, seqP cb sv b → b < w.heap.size → w'.heap[b]? = w.heap[b]?) : VSeq w' cb sv S := by
  refine ⟨by rw [k cb (.inl rfl) (lt_of_block h.box)]; exact h.box, ?_, h.few⟩
  rcases h.row with ⟨h1, h2 | ⟨g, cap, cur, rfl, h3, h4, h5⟩⟩
  · exact ⟨h1, .inl h2⟩
  · exact ⟨h1, .inr ⟨g, cap, cur, rfl, h3, by rw [k g (.inr rfl) (lt_of_block h4)]; exact h4, h5⟩⟩
theorem VSeq.keep (h : VSeq w cb sv S) (k : KeepsB (seqP cb sv) w w') : VSeq w' cb sv S := h.same k.blk
theorem VSeq.below (h : VSeq w cb sv S) (k : Below w.heap.size w w') : VSeq w' cb sv S := h.same (fun b _ hl => k.block b hl)
theorem VSeq.fr (h : VSeq w cb sv S) {F : Nat → Prop} (f : Fr F w w') (hn : ∀ b, seqP cb sv b → ¬ F b) : VSeq w' cb sv S := h.same (fun b hb hl => f.blk b hl (hn b hb))
theorem VSeq.c0 (h : VSeq w cb sv S) : w.cell? ⟨cb, 0, none⟩ = some sv := (cell_of h.box 0).trans rfl
theorem VSeq.lt (h : VSeq w cb sv S) : ∀ b, seqP cb sv b → b < w.heap.size := by
  rintro b (rfl | hb)
  · exact lt_of_block h.box
  · exact Row.lt h.row hb
end seq
theorem take_snocS {S : List Int} {k : Nat} (h : k < S.length) : S.take k ++ [S.getD k 0] = S.take (k + 1) := by
  rw [List.take_add_one, List.getElem?_eq_getElem h]; simp [h]
set_option maxRecDepth 100000 in
set_option maxHeartbeats 2000000 in
theorem vals_stops (F : Fence) (n : Nat) (hF : F.fn 129) (hro : F.round = none) (hn : 1 ≤ n) {w : World} {cb : Nat} {sv : Value} {S : List Int} (hs : VSeq w cb sv S) (p : Nat → Prop) (hp : ∀ b, seqP cb sv b → p b) :
    SeqStopsK F n Try.prog 129 #[.pointer (some ⟨cb, 0, none⟩)] (fun x : Int => #[wtV x]) (KeepsB p) (fun ys => ys = S) (fun pre => pre <+: S) S.length w := fun l J Jx W hW hJ _ hY h0 => by
  have hs := hs.below hW
  have c0 := hs.c0
  obtain ⟨m, hm⟩ : ∃ m, m = S.length := ⟨_, rfl⟩
  rcases id hs.row.2 with ⟨e0, e1⟩ | ⟨b, cap, cur, e0, -, hb, -⟩
  · obtain rfl : S = [] := List.eq_nil_of_length_eq_zero e1
    subst e0
    clear hs hW hm
    refine callsIn_of_wp Try.func129 rfl hF ?_ hro
    simp only [Try.ntmps129, List.size_toArray, List.length_cons, List.length_nil, Nat.reduceAdd, Nat.reduceSub, Array.replicate_succ, Array.replicate_zero, List.push_toArray, List.append_toArray, List.nil_append, List.cons_append]
    gi_wp2
    gi_loopw [7] (fun i wr => i = .int .i64 0 ∧ J [] wr) (fun _ _ => 0)
    case atStart => exact ⟨rfl, h0⟩
    case round =>
      obtain ⟨rfl, hJs⟩ := hrel
      gi_wp2
      go_end0
      exact ⟨⟨_, rfl⟩, .inl ⟨_, rfl, hJs⟩⟩
  · subst e0
    have HB := Lib.hid hs.row; have Hm := Lib.hid hm; have Hp := Lib.hid (hp b (.inr rfl)); have H8 := Lib.hid hs.few; have HlW := Lib.hid (lt_of_block hb)
    rw [← hm] at c0
    clear hs hW hm hb
    refine callsIn_of_wp Try.func129 rfl hF ?_ hro
    simp only [Try.ntmps129, List.size_toArray, List.length_cons, List.length_nil, Nat.reduceAdd, Nat.reduceSub, Array.replicate_succ, Array.replicate_zero, List.push_toArray, List.append_toArray, List.nil_append, List.cons_append]
    gi_wp2
    gi_loopw [7] (fun i wr => ∃ k : Nat, k ≤ m ∧ i = .int .i64 k ∧ J (S.take k) wr ∧ KeepsB p W wr)
      (fun i _ => m - (intOf i).toNat)
    case atStart => exact ⟨0, Nat.zero_le _, rfl, h0, KeepsB.refl _ _⟩
    case round =>
      obtain ⟨k, hk, rfl, hJs, hnx⟩ := hrel
      have Hnx := Lib.hid hnx
      clear hnx
      by_cases hlt : k < m
      · have hlt' : (k : Int) < (m : Int) := by omega
        have k0 : (0 : Int) ≤ (k : Int) := by omega
        have hkL : k < S.length := by rw [← Hm.out]; exact hlt
        have hbr : Wts wr (.slice (some ⟨b, 0, none⟩) S.length cap) S := by
          obtain ⟨h1, h2 | ⟨g, cap', cur', e, h3, h4, h5⟩⟩ := HB.out
          · exact ⟨h1, .inl h2⟩
          · refine ⟨h1, .inr ⟨g, cap', cur', e, h3, ?_, h5⟩⟩
            simp only [Value.slice.injEq, Option.some.injEq, Addr.mk.injEq] at e
            obtain ⟨⟨rfl, -⟩, -⟩ := e
            exact (Hnx.out.blk _ Hp.out HlW.out).trans h4
        obtain ⟨g, cap', e, d0, d1, d2, d3⟩ := hbr.cells hkL
        simp only [Value.slice.injEq, Option.some.injEq, Addr.mk.injEq] at e
        obtain ⟨⟨rfl, -⟩, -, -⟩ := e
        obtain ⟨x, hx⟩ : ∃ x, x = S.getD k 0 := ⟨_, rfl⟩
        rw [← hx] at d0 d1 d2 d3
        have hJ1 : J (S.take k) (wr.alloc (.cells #[.int .u32 (wW x), .int .i64 (wS x), .int .i64 (wT x), .int .i64 (wC x)] 32)) := hJ _ _ _ none hJs (World.grownBy_alloc _ _ none) (fun r e => by cases e)
        obtain ⟨fn, tmps, assign, body, hy, hR⟩ := hY _ x _ hJ1 (by rw [List.length_take]; omega)
        obtain ⟨k1, hk1⟩ : ∃ k1, k1 = k + 1 := ⟨_, rfl⟩
        have e1 : (k : Int) + 1 = (k1 : Int) := by omega
        have e2 : wrap64 (k1 : Int) = (k1 : Int) := by unfold wrap64; have := H8.out; omega
        have e3 : IntKind.i64.wrap (k1 : Int) = (k1 : Int) := by rw [IntKind.wrap_i64]; have := H8.out; omega
        have HK1 := Lib.hid hk1; have HX := Lib.hid hx; have Hlt := Lib.hid hlt; have HkL := Lib.hid hkL
        clear hk1 hx hlt hkL hk hbr
        gi_wp2
        refine hR.mono ?_
        rintro e W3 (⟨rfl, hJ3, hk3⟩ | ⟨rfl, hJx3⟩)
        · gi_wp2
          go_roundw
          case rel => exact ⟨k1, by have := HK1.out; have := Hlt.out; omega, rfl, by rw [HK1.out, ← take_snocS HkL.out, ← HX.out]; exact hJ3, (Hnx.out.alloc _).trans hk3⟩
          case measure => have := HK1.out; have := Hlt.out; simp [intOf]; omega
        · gi_wp2
          refine bodyPost_ret (results_none rfl _ _ _) rfl ?_
          exact ⟨⟨_, rfl⟩, .inr ⟨_, by rw [HX.out, take_snocS HkL.out]; exact List.take_prefix _ _, hJx3⟩⟩
      · obtain rfl : k = m := by omega
        clear hlt hk
        gi_wp2
        go_end0
        exact ⟨⟨_, rfl⟩, .inl ⟨_, rfl, by rw [Hm.out, List.take_length] at hJs; exact hJs⟩⟩
abbrev valsV (cb : Nat) : Value := .func (.func 129) #[] #[.pointer (some ⟨cb, 0, none⟩)]
set_option maxRecDepth 100000 in
theorem values_ok {w : World} {sv : Value} {S : List Int} (h : Wts w sv S) (hf : S.length ≤ 70000) : Calls Try.prog 115 #[sv] w fun e w' => ∃ cb, e = .returned (valsV cb) ∧ VSeq w' cb sv S ∧ cb = w.heap.size ∧ Fr (fun _ => False) w w' := by
  have f0 : Fr (fun _ => False) w (w.alloc (.cells #[sv] 26)) := Fr.alloc (Fr.refl _ _) _
  have hs : VSeq (w.alloc (.cells #[sv] 26)) w.heap.size sv S := ⟨heap_alloc_at _ _, Row.fr h f0 (fun _ _ h => h), hf⟩
  obtain ⟨a, c, e⟩ : ∃ a c, sv = .slice a S.length c := by
    rcases h.2 with ⟨rfl, h0⟩ | ⟨g, cap, cur, rfl, _⟩
    · exact ⟨none, 0, by rw [h0]⟩
    · exact ⟨_, _, rfl⟩
  subst e
  have F0 := Lib.hid f0; have HS := Lib.hid hs
  clear h hf f0 hs
  go_enter Try.func115, Try.ntmps115
  go_wp2_with fail
  go_ret
  exact ⟨_, rfl, HS.out, rfl, F0.out⟩
theorem Try.infoWait : (Try.prog.info? 32).map (fun i => (i.zero, i.size, i.bytes)) = some (some (.agg #[.int .u32 0, .int .i64 0, .int .i64 0, .int .i64 0]), 4, 32) := by kernel_rfl
/-- One party more, behind append. -/
theorem Wts.app {w : World} {sv : Value} {S : List Int} (h : Wts w sv S) (hn : S.length ≤ 1000000) (x : Int) :
    ∃ a c w2, (Builtin.append_ #[26, 26] 26 #[sv, .slice (some ⟨w.heap.size, 0, none⟩) 1 1]).run Try.prog (w.alloc (.cells #[.int .u32 (wW x), .int .i64 (wS x), .int .i64 (wT x), .int .i64 (wC x)] 32)) = .ok (.slice a (S.length + 1) c) w2 ∧
      Wts w2 (.slice a (S.length + 1) c) (S ++ [x]) ∧ Fr (fun b => sv.ownBlock = some b) w w2 ∧ (∀ b, (Value.slice a (S.length + 1) c).ownBlock = some b → sv.ownBlock = some b ∨ w.heap.size ≤ b) :=
  Els.app encW_len h Try.underlying26 Try.infoWait rfl (by decide) encW_one x hn (by decide) (arr := #[.int .u32 (wW x), .int .i64 (wS x), .int .i64 (wT x), .int .i64 (wC x)]) rfl
/-- A list under way, in a cell of its own. -/
structure Told (n0 tb : Nat) (S : List Int) (W : World) (v : Value) : Prop where
  box : W.heap[tb]? = some (.cells #[v] 26 (0, 0))
  row : Wts W v S
  own : ∀ b, v.ownBlock = some b → n0 ≤ b ∧ b ≠ tb
section told
variable {n0 tb : Nat} {S : List Int} {w w' : World} {v : Value}
theorem Told.fr (h : Told n0 tb S w v) {F : Nat → Prop} (f : Fr F w w') (h1 : ¬ F tb) (h3 : ∀ b, n0 ≤ b → b < w.heap.size → ¬ F b) : Told n0 tb S w' v :=
  ⟨f.get h.box h1, Row.fr h.row f (fun b hb => h3 b (h.own b hb).1 (Row.lt h.row hb)), h.own⟩
theorem row_obj {e : TypeId} {size n : Nat} {xs : List Value} (h : Row w e size v n xs) {b : Nat} (hb : v.ownBlock = some b) : ∃ c t z, w.heap[b]? = some (.cells c t z) := by
  rcases h.2 with ⟨rfl, _⟩ | ⟨g, cap, cur, rfl, _, k1, _⟩
  · simp [Value.ownBlock] at hb
  · simp [Value.ownBlock] at hb; subst hb; exact ⟨_, _, _, k1⟩
theorem Told.grown {B : World} {row : Option Nat} (h : Told n0 tb S w v) (hg : w.grownBy B row) (hr : ∀ r, row = some r → ∃ o : Obj, w.heap[r]? = some o ∧ o.isCells = false) : Told n0 tb S B v := by
  have f := grownBy.fr hg
  have no : ∀ {c : Array Value} {t : TypeId} {z : Nat × Nat} {b : Nat}, w.heap[b]? = some (.cells c t z) → ¬ row = some b := by
    intro c t z b hb e
    obtain ⟨o, h1, h2⟩ := hr b e
    rw [hb] at h1; cases h1; simp [Obj.isCells] at h2
  exact ⟨f.get h.box (no h.box), Row.fr h.row f (fun b hb e => by obtain ⟨c, t, z, h3⟩ := row_obj h.row hb; exact no h3 e), h.own⟩
/-- One more. -/
theorem Told.app (h : Told n0 tb S w v) (hn : n0 ≤ w.heap.size) (hS : S.length ≤ 100000) (x : Int) :
    ∃ a c W2, (Builtin.append_ #[26, 26] 26 #[v, .slice (some ⟨w.heap.size, 0, none⟩) 1 1]).run Try.prog (w.alloc (.cells #[.int .u32 (wW x), .int .i64 (wS x), .int .i64 (wT x), .int .i64 (wC x)] 32)) = .ok (.slice a (S.length + 1) c) W2 ∧
      W2.heap[tb]? = some (.cells #[v] 26 (0, 0)) ∧ Told n0 tb (S ++ [x]) (W2.setCell ⟨tb, 0, none⟩ (.slice a (S.length + 1) c)) (.slice a (S.length + 1) c) ∧ Fr (fun b => b = tb ∨ n0 ≤ b) w (W2.setCell ⟨tb, 0, none⟩ (.slice a (S.length + 1) c)) ∧ KeepsOthers w (W2.setCell ⟨tb, 0, none⟩ (.slice a (S.length + 1) c)) := by
  obtain ⟨a, c, W2, hrun, r, f, o⟩ := h.row.app (by omega) x
  have hbx := f.get h.box (fun e => (h.own tb e).2 rfl)
  have fs : Fr (fun b => b = tb) W2 (W2.setCell ⟨tb, 0, none⟩ (.slice a (S.length + 1) c)) := Fr.setCell (F := fun b => b = tb) (p := ⟨tb, 0, none⟩) (Fr.refl _ _) (fun _ => rfl) _
  have htl := lt_of_block h.box
  have ho : ∀ b, (Value.slice a (S.length + 1) c).ownBlock = some b → n0 ≤ b ∧ b ≠ tb := by
    intro b hb
    rcases o b hb with e | e
    · exact h.own b e
    · exact ⟨by omega, by omega⟩
  refine ⟨a, c, W2, hrun, hbx, ⟨setCell_blk (o := 0) hbx _, Row.fr r fs (fun b hb e => (ho b hb).2 e), ho⟩, (f.mono (fun b _ e => .inr (h.own b e).1)).trans fs (fun b _ e => .inl e), ?_⟩
  exact KeepsOthers.trans ⟨f.size, fun k o hk ho => f.get hk (fun e => by obtain ⟨c, t, z, h3⟩ := row_obj h.row e; rw [h3] at hk; cases hk; simp [Obj.isCells] at ho)⟩ (KeepsOthers.setCell W2 ⟨tb, 0, none⟩ _)
end told
end Go.Proofs.Ytjfnaflbhmeokaa.Wt
