/- Texts put together: A book: its list; a list of bookings under way, A book: At, A range over a function whose element is boxed anew in each round, Slices of bookings: slices.Values; a book's All, A shape's check, A new book, A book: may, Books of bookings that are given: which may be, The plain answers of layer 22: which requests may be, what a change comes to, what a question is answered, Books: SameBookings, slices.Equal at bookings, Books: what the laws say of the plain book, The book layer: told, Arguments that are slices of numbers, or of structs of numbers, Arguments that are slices of numbers of any kinds,. No condition. -/
import Derived.RangeFuncFrom
import Derived.RangeFuncWrites
import Derived.Sort.CutIn
import Derived.RangeFuncNested
import Derived.ProofKit
import Derived.OpenShut
import Derived.Deep.Slices
import Derived.Deep.Fields
import Derived.Test.YtebdcahjlcgonaaGreatM1
import Derived.Test.YtebdcahjlcgonaaGreatM2
import Derived.Test.YtebdcahjlcgonaaGreatM3
namespace Go.Proofs.YtebdcahjlcgonaaGreat.Bk
open Go.RowKit Go.Shelf
attribute [local go_sem] Oper.semAt_some
theorem ite_take {c : Prop} [Decidable c] {a b : Prop} (h : c) (ha : a) : if c then a else b := by rw [if_pos h]; exact ha
/-- A builtin append whose run is known, as one operation. -/
theorem wp_append_run {P : Program} {Q : Exit → Act → World → Prop} {K : Act → World → Prop} {o : Oper} {a : Act} {w : World} {s x : Operand} {t : TypeId}
    (ho : o.op = .call { callee := .builtin .append, args := #[s, x], argTypes := #[t, t] }) {v u r : Value} {w' : World} (hs : a.eval s = v) (hx : a.eval x = u)
    (hrun : (Builtin.append_ #[t, t] o.type #[v, u]).run P w = .ok r w') (h : K (a.put o.dst r) w') : o.wp P a w K Q := by
  unfold Oper.wp execOp
  simp only [ho, resolve, invoke, builtin, Sem.run_bind, Sem.run_pure, Result.andThen_ok, List.map_toArray, List.map_cons, List.map_nil, hs, hx, hrun]
  exact h
theorem Tryz.infoBo : (Tryz.prog.info? 77).map (fun i => (i.zero, i.size, i.bytes)) = some (some (.agg #[.int .u32 0, .int .i64 0, .int .i64 0]), 3, 24) := by kernel_rfl
/-- One booking more, behind append. -/
theorem Bos.app {w : World} {sv : Value} {L : List Bo} (h : Bos w sv L) (hn : L.length ≤ 1000000) (x : Bo) :
    ∃ a c w2, (Builtin.append_ #[25, 25] 25 #[sv, .slice (some ⟨w.heap.size, 0, none⟩) 1 1]).run Tryz.prog (w.alloc (.cells #[.int .u32 (x.1 : Int), .int .i64 x.2.1, .int .i64 x.2.2] 77)) = .ok (.slice a (L.length + 1) c) w2 ∧
      Bos w2 (.slice a (L.length + 1) c) (L ++ [x]) ∧ Fr (fun b => sv.ownBlock = some b) w w2 ∧ (∀ b, (Value.slice a (L.length + 1) c).ownBlock = some b → sv.ownBlock = some b ∨ w.heap.size ≤ b) :=
  Els.app encB_len h Tryz.underlying25 Tryz.infoBo rfl (by decide) encB_one x hn (by decide) (arr := #[.int .u32 (x.1 : Int), .int .i64 x.2.1, .int .i64 x.2.2]) rfl
/-- A list under way, in a cell of its own. -/
structure ToB (n0 tb : Nat) (S : List Bo) (W : World) (v : Value) : Prop where
  box : W.heap[tb]? = some (.cells #[v] 25 (0, 0))
  row : Bos W v S
  own : ∀ b, v.ownBlock = some b → n0 ≤ b ∧ b ≠ tb
section told
variable {n0 tb : Nat} {S : List Bo} {w w' : World} {v : Value}
theorem ToB.fr (h : ToB n0 tb S w v) {F : Nat → Prop} (f : Fr F w w') (h1 : ¬ F tb) (h3 : ∀ b, n0 ≤ b → b < w.heap.size → ¬ F b) : ToB n0 tb S w' v :=
  ⟨f.get h.box h1, Row.fr h.row f (fun b hb => h3 b (h.own b hb).1 (Row.lt h.row hb)), h.own⟩
theorem ToB.grown {B : World} {row : Option Nat} (h : ToB n0 tb S w v) (hg : w.grownBy B row) (hr : ∀ r, row = some r → ∃ o : Obj, w.heap[r]? = some o ∧ o.isCells = false) : ToB n0 tb S B v := by
  have f := grownBy.fr hg
  have no : ∀ {c : Array Value} {t : TypeId} {z : Nat × Nat} {b : Nat}, w.heap[b]? = some (.cells c t z) → ¬ row = some b := by
    intro c t z b hb e
    obtain ⟨o, h1, h2⟩ := hr b e
    rw [hb] at h1; cases h1; simp [Obj.isCells] at h2
  exact ⟨f.get h.box (no h.box), Row.fr h.row f (fun b hb e => by obtain ⟨c, t, z, h3⟩ := Ix.row_obj h.row hb; exact no h3 e), h.own⟩
/-- One more. -/
theorem ToB.app (h : ToB n0 tb S w v) (hn : n0 ≤ w.heap.size) (hS : S.length ≤ 100000) (x : Bo) :
    ∃ a c W2, (Builtin.append_ #[25, 25] 25 #[v, .slice (some ⟨w.heap.size, 0, none⟩) 1 1]).run Tryz.prog (w.alloc (.cells #[.int .u32 (x.1 : Int), .int .i64 x.2.1, .int .i64 x.2.2] 77)) = .ok (.slice a (S.length + 1) c) W2 ∧
      W2.heap[tb]? = some (.cells #[v] 25 (0, 0)) ∧ ToB n0 tb (S ++ [x]) (W2.setCell ⟨tb, 0, none⟩ (.slice a (S.length + 1) c)) (.slice a (S.length + 1) c) ∧ Fr (fun b => b = tb ∨ n0 ≤ b) w (W2.setCell ⟨tb, 0, none⟩ (.slice a (S.length + 1) c)) ∧ KeepsOthers w (W2.setCell ⟨tb, 0, none⟩ (.slice a (S.length + 1) c)) ∧ Fr (fun b => n0 ≤ b) w W2 := by
  obtain ⟨a, c, W2, hrun, r, f, o⟩ := h.row.app (by omega) x
  have hbx := f.get h.box (fun e => (h.own tb e).2 rfl)
  have fs : Fr (fun b => b = tb) W2 (W2.setCell ⟨tb, 0, none⟩ (.slice a (S.length + 1) c)) := Fr.setCell (F := fun b => b = tb) (p := ⟨tb, 0, none⟩) (Fr.refl _ _) (fun _ => rfl) _
  have htl := lt_of_block h.box
  have ho : ∀ b, (Value.slice a (S.length + 1) c).ownBlock = some b → n0 ≤ b ∧ b ≠ tb := by
    intro b hb
    rcases o b hb with e | e
    · exact h.own b e
    · exact ⟨by omega, by omega⟩
  refine ⟨a, c, W2, hrun, hbx, ⟨setCell_blk (o := 0) hbx _, Row.fr r fs (fun b hb e => (ho b hb).2 e), ho⟩, (f.mono (fun b _ e => .inr (h.own b e).1)).trans fs (fun b _ e => .inl e), ?_, f.mono (fun b _ e => (h.own b e).1)⟩
  exact KeepsOthers.trans ⟨f.size, fun k o hk ho => f.get hk (fun e => by obtain ⟨c, t, z, h3⟩ := Ix.row_obj h.row e; rw [h3] at hk; cases hk; simp [Obj.isCells] at ho)⟩ (KeepsOthers.setCell W2 ⟨tb, 0, none⟩ _)
end told
/-- The booking of the k-th id. -/
def nth (b : Bk) (k : Nat) : Bo := (bSeat b.L (Ix.liAt (idsOf b.L) k).2).getD (0, 0, 0)
theorem liAt_seat {b : Bk} (h : Raw b) (k : Nat) : 0 ≤ (Ix.liAt (idsOf b.L) k).2 ∧ (Ix.liAt (idsOf b.L) k).2 < (b.seats : Int) := by
  unfold Ix.liAt
  rw [List.getD_eq_getElem?_getD]
  cases e : (idsOf b.L)[k]? with
  | none => have := h.s0; simp; omega
  | some x =>
    have hx := List.mem_of_getElem? e
    unfold idsOf at hx
    obtain ⟨y, hy, rfl⟩ := List.mem_map.1 hx
    exact h.at_ y hy
theorem nth_range {b : Bk} (h : Raw b) : (List.range (idsOf b.L).length).map (nth b) = b.L := by
  have hl : (idsOf b.L).length = b.L.length := by simp [idsOf]
  apply List.ext_getElem?
  intro k
  rw [List.getElem?_map, hl]
  by_cases hk : k < b.L.length
  · rw [List.getElem?_range hk, List.getElem?_eq_getElem hk]
    simp only [Option.map_some]
    have hm : b.L[k] ∈ b.L := List.getElem_mem hk
    have e : Ix.liAt (idsOf b.L) k = (b.L[k].1, b.L[k].2.1) := by
      unfold Ix.liAt idsOf
      rw [List.getD_eq_getElem?_getD, List.getElem?_map, List.getElem?_eq_getElem hk]; rfl
    unfold nth
    rw [e, (bSeat_some h.lone).2 hm]; rfl
  · rw [List.getElem?_eq_none (by simp; omega), List.getElem?_eq_none (by omega)]; rfl
set_option maxRecDepth 100000 in
set_option maxHeartbeats 4000000 in
theorem list_ok {p : Pt} {bb nx : Nat} {b : Bk} {LD : List Bo} {w : World} (h : BkP p bb nx b b.L LD w) :
    Calls Tryz.prog 58 #[.pointer (some ⟨bb, 0, none⟩)] w fun e w' => ∃ v, e = .returned v ∧ Bos w' v b.L ∧ (∀ x, v.ownBlock = some x → w.heap.size ≤ x) ∧ Fr (fun _ => False) w w' := by
  have hro : Fence.wide.round = none := rfl
  have h13 : 1 ≤ 3 := by omega
  obtain ⟨W0, hW0⟩ : ∃ W0, W0 = (w.alloc (.cells #[.pointer (some ⟨bb, 0, none⟩)] 31)).alloc (.cells #[.slice none 0 0] 25) := ⟨_, rfl⟩
  obtain ⟨pb, hpb⟩ : ∃ pb, pb = w.heap.size := ⟨_, rfl⟩
  obtain ⟨tb, htb⟩ : ∃ tb, tb = w.heap.size + 1 := ⟨_, rfl⟩
  have htb2 : tb = w.heap.size + 1 := htb
  have f0 : Fr (fun _ => False) w W0 := by rw [hW0]; exact Fr.alloc (Fr.alloc (Fr.refl _ _) _) _
  have hsz : W0.heap.size = w.heap.size + 2 := by rw [hW0]; simp
  have hgp : W0.heap[pb]? = some (.cells #[.pointer (some ⟨bb, 0, none⟩)] 31 (0, 0)) := by rw [hW0, hpb, heap_alloc_get, heap_alloc_get]; simp
  have ht0 : ToB w.heap.size tb [] W0 (.slice none 0 0) := ⟨by rw [hW0, htb, heap_alloc_get]; simp, World.ownsRow_nil _ _ _ _, by simp [Value.ownBlock]⟩
  have p0 := (cell_of hgp 0).trans (show _ = some (Value.pointer (some ⟨bb, 0, none⟩)) from rfl)
  have hB := h.keep f0
  have c7 := hB.c.2.2.2.2.2.2.2.1
  have HTh := Lib.hid (there_ok hB); have HA := Lib.hid (Ix.all_ok hB.idx)
  have HB := Lib.hid hB; have F0 := Lib.hid f0; have HT0 := Lib.hid ht0; have Hsz := Lib.hid hsz; have H := Lib.hid h; have Hgp := Lib.hid hgp
  have Hpb := Lib.hid hpb; have Htb2 := Lib.hid htb2
  have hll := hB.raw.few; have hcm := hB.raw.c1
  have Hll := Lib.hid (show b.L.length ≤ 4096 by omega)
  clear h hB f0 ht0 hsz hgp htb2 hll hcm
  refine (callsIn_wide (n := 3)).1 (callsIn_of_wp_marks Tryz.func58 rfl trivial ?_ hro)
  refine wpIn_wide.2 ?_
  simp only [Tryz.ntmps58, List.size_toArray, List.length_cons, List.length_nil, Nat.reduceAdd, Nat.reduceSub, Array.replicate_succ, Array.replicate_zero, List.push_toArray, List.append_toArray, List.nil_append, List.cons_append]
  go_upto_region 2 with fail
  rw [← hW0, ← htb, ← hpb]
  clear hW0 hpb htb
  go_wp2_with fail
  refine HTh.out.mono ?_
  rintro e w1 ⟨rfl, rfl⟩
  go_wp2_with fail
  refine HA.out.mono ?_
  rintro e W1 ⟨cb, sv, rfl, hs, hnew, hf1⟩
  obtain ⟨n1, hn1⟩ : ∃ n1, n1 = W1.heap.size := ⟨_, rfl⟩
  have ht1 := HT0.out.fr hf1 (fun h => h) (fun _ _ _ h => h)
  have ht1 : ToB n1 tb [] W1 (.slice none 0 0) := ⟨ht1.box, ht1.row, by simp [Value.ownBlock]⟩
  have hB1 := HB.out.keep hf1
  have hgp1 := hf1.get Hgp.out (fun h => h)
  obtain ⟨m, hm⟩ : ∃ m, m = (idsOf b.L).length := ⟨_, rfl⟩
  have HS := Lib.hid hs; have HT1 := Lib.hid ht1; have Hn1 := Lib.hid hn1; have HB1 := Lib.hid hB1; have Hgp1 := Lib.hid hgp1
  have Hq := Lib.hid (show ∀ b, Ix.seqP cb sv b → w.heap.size + 2 ≤ b ∧ b < n1 from fun b hb => ⟨by have := hnew b hb; have := Hsz.out; omega, by rw [hn1]; exact hs.lt b hb⟩)
  have F1 := Lib.hid (F0.out.trans hf1 (fun _ _ h => h))
  have Hsz1 := Lib.hid (show w.heap.size + 2 ≤ n1 by have := hf1.size; have := Hsz.out; omega)
  clear hs hnew hf1 ht1 hn1 p0 c7 hB1 hgp1
  go_wp2_with fail
  refine (wpIn_wide (n := 3)).1 ?_
  refine wpIn_rangeFunc_ownG hro h13 (gf := 126) (lb := #[.pointer (some ⟨cb, 0, none⟩)]) rfl trivial (enters_of Tryz.func126 (by kernel_rfl) rfl)
    (Ix.all_stopsK Fence.wide (3 - 1) trivial hro (by omega) HS.out (Ix.seqP cb sv) (fun _ h => h)) KeepsB.trans (keepsB_b (fun b hb => by have := Hq.out b hb; have := Hn1.out; omega)) (Below.refl _ _) (fun _ => rfl)
    (fun pre W => (∃ v, ToB n1 tb (pre.map (nth b)) W v) ∧ Fr (fun b => b = tb ∨ n1 ≤ b) W1 W)
    (fun _ _ _ => False)
    ?own ?ownx ⟨⟨_, HT1.out⟩, Fr.refl _ _⟩ ?a1 ?assign ?body ?done ?stop
  case own =>
    rintro s A B' row ⟨⟨v, hs⟩, hf⟩ hg hr
    have f := grownBy.fr hg
    refine ⟨⟨v, hs.grown hg (fun r e => (hr r e).2)⟩, hf.trans f ?_⟩
    intro i hi e; have := (hr _ e).1; have := Hsz1.out; have := Hn1.out; omega
  case ownx =>
    intro c s A B' row hs _ _
    exact hs
  case assign =>
    intro l x W' K hK
    gi_wp2
    exact hK
  case body =>
    rintro l pre k W' ⟨⟨v, ht⟩, hfr⟩ hlt
    have hnW : n1 ≤ W'.heap.size := by have := hfr.size; have := Hn1.out; omega
    have hB2 := HB1.out.fr hfr (fun x hx e => by have := H.out.lt hx; have := Htb2.out; have := Hsz1.out; omega)
    have hgp2 := hfr.get Hgp1.out (fun e => by have := Hpb.out; have := Htb2.out; have := Hsz1.out; omega)
    have p0 := (cell_of hgp2 0).trans (show _ = some (Value.pointer (some ⟨bb, 0, none⟩)) from rfl)
    have c8 := hB2.c.2.2.2.2.2.2.2.2.1
    obtain ⟨s0, s1⟩ := liAt_seat hB2.raw k
    obtain ⟨j, hj⟩ : ∃ j : Nat, (Ix.liAt (idsOf b.L) k).2 = (j : Int) := ⟨(Ix.liAt (idsOf b.L) k).2.toNat, by omega⟩
    have hjs : j < b.seats := by omega
    obtain ⟨g, cap, ev, d0, d1, d2⟩ := Bos.cells hB2.row (k := j) (by rw [seatsOf_length]; exact hjs)
    rw [seatsOf_length] at ev
    have hget : (seatsOf b.seats b.L)[j]'(by rw [seatsOf_length]; exact hjs) = nth b k := by
      rw [seatsOf_get]; unfold nth; rw [hj]
    rw [hget] at d0 d1 d2
    rw [ev] at c8
    obtain ⟨x, hx⟩ : ∃ x, x = nth b k := ⟨_, rfl⟩
    rw [← hx] at d0 d1 d2
    rw [hj]
    have c3 := (cell_of ht.box 0).trans (show _ = some v from rfl)
    have hjs' : (j : Int) < (b.seats : Int) := by omega
    have hsm : (b.seats : Int) ≤ 1024 := by have := hB2.raw.s1; omega
    have ht2 : ToB n1 tb (pre.map (nth b)) W'.drew v := ht.fr (Fr.drew (Fr.refl (fun _ => False) _)) (fun h => h) (fun _ _ _ h => h)
    obtain ⟨a, c, W2, hrun, g1, g2, g3, g4, g5⟩ := ht2.app hnW (by rw [List.length_map]; have := Hll.out; simp [idsOf] at hlt; omega) x
    simp only [List.length_map] at hrun g2 g3 g4
    have HSall := Lib.hid (show ∀ W2 : World, Fr (fun b => b = tb ∨ n1 ≤ b) W' W2 → W2.cell? ⟨pb, 0, none⟩ = some (.pointer (some ⟨bb, 0, none⟩)) ∧ W2.cell? ⟨bb, 8, none⟩ = some (.slice (some ⟨g, 0, none⟩) b.seats cap) ∧ W2.cell? ⟨g, j * 3, none⟩ = some (.int .u32 (x.1 : Int)) ∧ W2.cell? ⟨g, j * 3 + 1, none⟩ = some (.int .i64 x.2.1) ∧ W2.cell? ⟨g, j * 3 + 2, none⟩ = some (.int .i64 x.2.2) from fun W2 f => by
      have hsz := Hsz1.out; have htb := Htb2.out; have hpb := Hpb.out
      have lp := lt_of_block hgp2; have lb := lt_of_block hB2.head
      have lg := World.block_lt_of_cell? _ _ d0
      have ob : bb < w.heap.size := lt_of_block H.out.head
      have og : g < w.heap.size := H.out.lt (Pt.ownS (by rw [ev]; rfl))
      have ng : ¬ (g = tb ∨ n1 ≤ g) := by omega
      have lg : g < W'.heap.size := lg
      exact ⟨(f.cell lp (fun e => by rcases e with e | e <;> omega)).trans p0, (f.cell lb (fun e => by rcases e with e | e <;> omega)).trans c8, (f.cell lg ng).trans d0, (f.cell lg ng).trans d1, (f.cell lg ng).trans d2⟩)
    have hkb : KeepsB (Ix.seqP cb sv) W' (W2.setCell ⟨tb, 0, none⟩ (.slice a (pre.length + 1) c)) := KeepsB.of_fr (Fr.undrew g3) (fun b hb => by have := Hq.out b hb; have := Htb2.out; omega)
    have hfw := hfr.trans (Fr.undrew g3) (fun b _ h => h)
    have hmap : pre.map (nth b) ++ [x] = (pre ++ [k]).map (nth b) := by rw [hx]; simp
    rw [hmap] at g2
    have hko : KeepsOthers W' (W2.setCell ⟨tb, 0, none⟩ (.slice a (pre.length + 1) c)) := ⟨g4.size, g4.same⟩
    have Hrun := Lib.hid hrun; have K2 := Lib.hid g2; have Hko := Lib.hid hko; have Hkb := Lib.hid hkb; have Hfw := Lib.hid hfw
    have G3 := Lib.hid (Fr.undrew g3); have G5 := Lib.hid (show Fr (fun b => b = tb ∨ n1 ≤ b) W' W2 from (Fr.undrew g5).mono (fun b _ e => .inr e))
    have y4 := free_of g1 0
    have c4 := (cell_of g1 0).trans (show _ = some v from rfl)
    have c3b : (W'.alloc (.cells #[.int .u32 (x.1 : Int), .int .i64 x.2.1, .int .i64 x.2.2] 77)).cell? ⟨tb, 0, none⟩ = some v := ((Fr.alloc (Fr.refl (fun _ => False) _) _).cell (World.block_lt_of_cell? _ _ c3) (fun h => h)).trans c3
    have c3 : W'.drew.cell? ⟨tb, 0, none⟩ = some v := c3
    clear hrun g1 g2 g3 g4 g5 ht ht2 hfr hkb hfw hmap hko hlt hnW hB2 hgp2 hx hget hj s0 s1 hjs ev p0 c8 d0 d1 d2
    gi_upto_region 5 with fail
    refine region_round_held (S := fun w' => w'.cell? ⟨pb, 0, none⟩ = some (.pointer (some ⟨bb, 0, none⟩)) ∧ w'.cell? ⟨bb, 8, none⟩ = some (.slice (some ⟨g, 0, none⟩) b.seats cap) ∧ w'.cell? ⟨g, j * 3, none⟩ = some (.int .u32 (x.1 : Int)) ∧ w'.cell? ⟨g, j * 3 + 1, none⟩ = some (.int .i64 x.2.1) ∧ w'.cell? ⟨g, j * 3 + 2, none⟩ = some (.int .i64 x.2.2)) (by kernel_rfl) (by kernel_rfl) ?lo (HSall.out _ (Fr.drew (Fr.refl _ _))) (fun hHeld => ?_)
    case lo => rintro ⟨_, _, h⟩; exact h
    refine wpAnyH_take (i := 1) (v := ?_) rfl (by kernel_rfl) (by kernel_rfl) (by kernel_rfl) (fun _ _ _ h => h) (Or.inl ⟨by rfl, ?_⟩) (by assumption) ?_
    rotate_left
    · intro w' hSw; (try dsimp only at hSw); go_simp; try with_reducible rfl
    try simp only [Act.put, List.getElem_toArray, List.getElem_cons_zero, List.getElem_cons_succ, List.setIfInBounds_toArray, List.set_cons_zero, List.set_cons_succ]
    refine wpAnyH_take (i := 2) (v := ?_) rfl (by kernel_rfl) (by kernel_rfl) (by kernel_rfl) (fun _ _ _ h => h) (Or.inl ⟨by rfl, ?_⟩) (by assumption) ?_
    rotate_left
    · intro w' hSw; (try dsimp only at hSw); go_simp; try with_reducible rfl
    try simp only [Act.put, List.getElem_toArray, List.getElem_cons_zero, List.getElem_cons_succ, List.setIfInBounds_toArray, List.set_cons_zero, List.set_cons_succ]
    refine wpAnyH_take (i := 3) (v := ?_) rfl (by kernel_rfl) (by kernel_rfl) (by kernel_rfl) (fun _ _ _ h => h) (Or.inl ⟨by rfl, ?_⟩) (by assumption) ?_
    rotate_left
    · intro w' hSw; (try dsimp only at hSw); go_simp; try with_reducible rfl
    try simp only [Act.put, List.getElem_toArray, List.getElem_cons_zero, List.getElem_cons_succ, List.setIfInBounds_toArray, List.set_cons_zero, List.set_cons_succ]
    refine wpAnyH_take (i := 4) (v := ?_) rfl (by kernel_rfl) (by kernel_rfl) (by kernel_rfl) (fun _ _ _ h => h) (Or.inl ⟨by rfl, ?_⟩) (by assumption) ?_
    rotate_left
    · intro w' hSw; (try dsimp only at hSw); go_simp; try with_reducible rfl
    try simp only [Act.put, List.getElem_toArray, List.getElem_cons_zero, List.getElem_cons_succ, List.setIfInBounds_toArray, List.set_cons_zero, List.set_cons_succ]
    refine wpAnyH_take (i := 5) (v := ?_) rfl (by kernel_rfl) (by kernel_rfl) (by kernel_rfl) (fun _ _ _ h => h) (Or.inl ⟨by rfl, ?_⟩) (by assumption) ?_
    rotate_left
    · intro w' hSw; (try dsimp only at hSw); go_simp; try with_reducible rfl
    try simp only [Act.put, List.getElem_toArray, List.getElem_cons_zero, List.getElem_cons_succ, List.setIfInBounds_toArray, List.set_cons_zero, List.set_cons_succ]
    refine wpAnyH_take (i := 6) (v := ?_) rfl (by kernel_rfl) (by kernel_rfl) (by kernel_rfl) (fun _ _ _ h => h) (Or.inl ⟨by rfl, ?_⟩) (by assumption) ?_
    rotate_left
    · intro w' hSw; (try dsimp only at hSw); go_simp; try with_reducible rfl
    try simp only [Act.put, List.getElem_toArray, List.getElem_cons_zero, List.getElem_cons_succ, List.setIfInBounds_toArray, List.set_cons_zero, List.set_cons_succ]
    refine wpAnyH_take (i := 7) (v := ?_) rfl (by kernel_rfl) (by kernel_rfl) (by kernel_rfl) (fun _ _ _ h => h) (Or.inl ⟨by rfl, ?_⟩) (by assumption) ?_
    rotate_left
    · intro w' hSw; (try dsimp only at hSw); go_simp; try with_reducible rfl
    try simp only [Act.put, List.getElem_toArray, List.getElem_cons_zero, List.getElem_cons_succ, List.setIfInBounds_toArray, List.set_cons_zero, List.set_cons_succ]
    refine wpAnyH_ready (rs := [0, 8]) (by kernel_rfl) (by simp) ?_
    refine AllReadyH.cons rfl (fun K hK => ?_) (AllReadyH.cons rfl (fun K hK => ?_) AllReadyH.nil)
    · go_simp
      skip
      try go_simp
      refine hK.out _ _ ?_ (fun hHeld => ?_)
      · (try dsimp only); exact hHeld
      clear hK K
      try simp only [Act.put, List.getElem_toArray, List.getElem_cons_zero, List.getElem_cons_succ, List.setIfInBounds_toArray, List.set_cons_zero, List.set_cons_succ]
      refine wpAnyH_ready (rs := [8]) (by kernel_rfl) (by simp) ?_
      refine AllReadyH.cons rfl (fun K hK => ?_) AllReadyH.nil
      go_simp
      skip
      try go_simp
      refine hK.out _ _ ?_ (fun hHeld => ?_)
      · (try dsimp only); exact HSall.out _ (Fr.alloc (Fr.drew (Fr.refl _ _)) _)
      clear hK K
      try simp only [Act.put, List.getElem_toArray, List.getElem_cons_zero, List.getElem_cons_succ, List.setIfInBounds_toArray, List.set_cons_zero, List.set_cons_succ]
      refine wpAnyH_ready (rs := [9]) (by kernel_rfl) (by simp) ?_
      refine AllReadyH.cons rfl (fun K hK => ?_) AllReadyH.nil
      refine ite_take (by kernel_rfl) ?_
      refine wp_append_run rfl rfl rfl Hrun.out ?_
      refine hK.out _ _ ?_ (fun hHeld => ?_)
      · (try dsimp only); exact HSall.out _ G5.out
      clear hK K
      try simp only [Act.put, List.getElem_toArray, List.getElem_cons_zero, List.getElem_cons_succ, List.setIfInBounds_toArray, List.set_cons_zero, List.set_cons_succ]
      refine wpAnyH_ready (rs := [10]) (by kernel_rfl) (by simp) ?_
      refine AllReadyH.cons rfl (fun K hK => ?_) AllReadyH.nil
      go_simp
      skip
      try go_simp
      refine hK.out _ _ ?_ (fun hHeld => ?_)
      · (try dsimp only); exact HSall.out _ G3.out
      clear hK K
      try simp only [Act.put, List.getElem_toArray, List.getElem_cons_zero, List.getElem_cons_succ, List.setIfInBounds_toArray, List.set_cons_zero, List.set_cons_succ]
      refine wpAnyH_done (by kernel_rfl) ?_ _
      exact ⟨Hko.out.from _, Hkb.out, ⟨_, K2.out⟩, Hfw.out⟩
    · go_simp
      skip
      try go_simp
      refine hK.out _ _ ?_ (fun hHeld => ?_)
      · (try dsimp only); exact HSall.out _ (Fr.alloc (Fr.drew (Fr.refl _ _)) _)
      clear hK K
      try simp only [Act.put, List.getElem_toArray, List.getElem_cons_zero, List.getElem_cons_succ, List.setIfInBounds_toArray, List.set_cons_zero, List.set_cons_succ]
      refine wpAnyH_ready (rs := [0]) (by kernel_rfl) (by simp) ?_
      refine AllReadyH.cons rfl (fun K hK => ?_) AllReadyH.nil
      go_simp
      skip
      try go_simp
      refine hK.out _ _ ?_ (fun hHeld => ?_)
      · (try dsimp only); exact hHeld
      clear hK K
      try simp only [Act.put, List.getElem_toArray, List.getElem_cons_zero, List.getElem_cons_succ, List.setIfInBounds_toArray, List.set_cons_zero, List.set_cons_succ]
      refine wpAnyH_ready (rs := [9]) (by kernel_rfl) (by simp) ?_
      refine AllReadyH.cons rfl (fun K hK => ?_) AllReadyH.nil
      refine ite_take (by kernel_rfl) ?_
      refine wp_append_run rfl rfl rfl Hrun.out ?_
      refine hK.out _ _ ?_ (fun hHeld => ?_)
      · (try dsimp only); exact HSall.out _ G5.out
      clear hK K
      try simp only [Act.put, List.getElem_toArray, List.getElem_cons_zero, List.getElem_cons_succ, List.setIfInBounds_toArray, List.set_cons_zero, List.set_cons_succ]
      refine wpAnyH_ready (rs := [10]) (by kernel_rfl) (by simp) ?_
      refine AllReadyH.cons rfl (fun K hK => ?_) AllReadyH.nil
      go_simp
      skip
      try go_simp
      refine hK.out _ _ ?_ (fun hHeld => ?_)
      · (try dsimp only); exact HSall.out _ G3.out
      clear hK K
      try simp only [Act.put, List.getElem_toArray, List.getElem_cons_zero, List.getElem_cons_succ, List.setIfInBounds_toArray, List.set_cons_zero, List.set_cons_succ]
      refine wpAnyH_done (by kernel_rfl) ?_ _
      exact ⟨Hko.out.from _, Hkb.out, ⟨_, K2.out⟩, Hfw.out⟩
  case done =>
    rintro D ys W' hD rfl ⟨⟨v, ht⟩, hfr⟩ hK
    have hD1 : w.heap.size ≤ D := by have := Hsz1.out; have := Hn1.out; omega
    have c3 := (cell_of ht.box 0).trans (show _ = some v from rfl)
    have hvD : v.ownBlock ≠ some D := by
      intro e
      obtain ⟨c, t, z, h3⟩ := Ix.row_obj ht.row e
      rw [hK] at h3; cases h3
    rw [nth_range H.out.raw] at ht
    have HT := Lib.hid ht; have Hfr := Lib.hid hfr; have HK := Lib.hid hK; have HD1 := Lib.hid hD1; have HvD := Lib.hid hvD
    clear ht hfr hK hD hD1 hvD
    go_wp2_with fail
    refine ⟨by simp, .inl ⟨_, _, rfl, run_takeDeferred HK.out, ?_⟩⟩
    have fD : Fr (fun b => b = D) W' (W'.putObj D (.deferred none)) := (grownBy.fr (grownBy_putObj' W' D (.deferred none))).mono (fun b _ e => by cases e; rfl)
    refine ⟨v, ?_, v, rfl, Row.fr HT.out.row fD (fun b hb e => HvD.out (e ▸ hb)), ?_, ?_⟩
    · simp [results, Tryz.f58, go_sem]
    · intro b hb; have := (HT.out.own b hb).1; have := Hsz1.out; omega
    · exact Fr.toNew (((F1.out.mono (fun _ _ h => h.elim)).trans Hfr.out (fun b _ h => by show w.heap.size ≤ b; have := Hsz1.out; have := Htb2.out; rcases h with h | h <;> omega)).trans fD (fun b _ e => by subst e; exact HD1.out))
  case stop =>
    rintro D c pre W' hD hpre h hK
    exact h.elim
set_option maxRecDepth 100000 in
theorem list_no {w : World} {q : Option Addr} (h : NoBook w q) : Calls Tryz.prog 58 #[.pointer q] w fun e w' => e = .returned (.slice none 0 0) ∧ Fr (fun _ => False) w w' := by
  obtain ⟨W, hW⟩ : ∃ W, W = (w.alloc (.cells #[.pointer q] 31)).alloc (.cells #[.slice none 0 0] 25) := ⟨_, rfl⟩
  have f0 : Fr (fun _ => False) w W := by rw [hW]; exact Fr.alloc (Fr.alloc (Fr.refl _ _) _) _
  have hb : W.heap[w.heap.size + 1]? = some (.cells #[.slice none 0 0] 25 (0, 0)) := by rw [hW, heap_alloc_get]; simp
  have hp : W.heap[w.heap.size]? = some (.cells #[.pointer q] 31 (0, 0)) := by rw [hW, heap_alloc_get, heap_alloc_get]; simp
  have p0 := (cell_of hp 0).trans (show _ = some (Value.pointer q) from rfl)
  have c0 := (cell_of hb 0).trans (show _ = some (Value.slice none 0 0) from rfl)
  have HT := Lib.hid (there_no (h.fr f0)); have F0 := Lib.hid f0
  clear h f0 hb hp
  go_enter Tryz.func58, Tryz.ntmps58
  go_upto_region 2 with fail
  rw [← hW]
  clear hW
  go_wp2_with fail
  refine HT.out.mono ?_
  rintro e w1 ⟨rfl, rfl⟩
  go_wp2_with fail
  go_ret
  exact ⟨rfl, F0.out⟩
end Go.Proofs.YtebdcahjlcgonaaGreat.Bk
namespace Go.Proofs.YtebdcahjlcgonaaGreat.Bk
open Go.RowKit
def atE (b : Bk) (k : Int) : Ending := if k < 0 ∨ (b.seats : Int) ≤ k then .returned (.tuple #[boV (0, 0, 0), .int .i64 140]) else match bSeat b.L k with
  | some x => .returned (.tuple #[boV x, .int .i64 0])
  | none => .returned (.tuple #[boV (0, 0, 0), .int .i64 171])
set_option maxRecDepth 100000 in
set_option maxHeartbeats 1000000 in
theorem at_ok {p : Pt} {bb nx : Nat} {b : Bk} {LD : List Bo} {w : World} (h : BkP p bb nx b b.L LD w) (k : Int) : Calls Tryz.prog 39 #[.pointer (some ⟨bb, 0, none⟩), .int .i64 k] w fun e w' => e = atE b k ∧ Fr (fun _ => False) w w' := by
  obtain ⟨W, hW⟩ : ∃ W, W = w.alloc (.cells #[.int .u32 0, .int .i64 0, .int .i64 0] 77) := ⟨_, rfl⟩
  obtain ⟨z, hz⟩ : ∃ z, z = w.heap.size := ⟨_, rfl⟩
  have f0 : Fr (fun _ => False) w W := by rw [hW]; exact Fr.alloc (Fr.refl _ _) _
  have hg : W.heap[z]? = some (.cells #[.int .u32 0, .int .i64 0, .int .i64 0] 77 (0, 0)) := by rw [hW, hz]; exact heap_alloc_at _ _
  have h1 := h.keep f0
  obtain ⟨c0, c1, _, _, c4, c5, c6, c7, c8, _⟩ := h1.c
  have HT := Lib.hid (there_ok h1)
  have d0 := (cell_of hg 0).trans (show _ = some (Value.int .u32 0) from rfl)
  have d1 := (cell_of hg 1).trans (show _ = some (Value.int .i64 0) from rfl)
  have d2 := (cell_of hg 2).trans (show _ = some (Value.int .i64 0) from rfl)
  have y0 := free_of hg 0; have y1 := free_of hg 1; have y2 := free_of hg 2
  have hsm : (b.seats : Int) ≤ 1024 := by have := h.raw.s1; omega
  have key : ∀ x : Bo, ∃ W', W' = ((W.setCell ⟨z, 0, none⟩ (.int .u32 (x.1 : Int))).setCell ⟨z, 1, none⟩ (.int .i64 x.2.1)).setCell ⟨z, 2, none⟩ (.int .i64 x.2.2) ∧ W'.cell? ⟨z, 0, none⟩ = some (.int .u32 (x.1 : Int)) ∧ W'.cell? ⟨z, 1, none⟩ = some (.int .i64 x.2.1) ∧ W'.cell? ⟨z, 2, none⟩ = some (.int .i64 x.2.2) ∧ Fr (fun _ => False) w W' := by
    intro x
    have hfin := setCell_blk (o := 2) (setCell_blk (o := 1) (setCell_blk (o := 0) hg (.int .u32 (x.1 : Int))) (.int .i64 x.2.1)) (.int .i64 x.2.2)
    have fz : Fr (fun y => y = z) W (((W.setCell ⟨z, 0, none⟩ (.int .u32 (x.1 : Int))).setCell ⟨z, 1, none⟩ (.int .i64 x.2.1)).setCell ⟨z, 2, none⟩ (.int .i64 x.2.2)) :=
      (((Fr.refl (fun y => y = z) _).setCell (p := ⟨z, 0, none⟩) (fun _ => rfl) _).setCell (p := ⟨z, 1, none⟩) (fun _ => rfl) _).setCell (p := ⟨z, 2, none⟩) (fun _ => rfl) _
    exact ⟨_, rfl, (cell_of hfin 0).trans rfl, (cell_of hfin 1).trans rfl, (cell_of hfin 2).trans rfl, f0.trans fz (fun y hy e => by omega)⟩
  have key0 : ∃ W', W' = ((W.setCell ⟨z, 0, none⟩ (.int .u32 0)).setCell ⟨z, 1, none⟩ (.int .i64 0)).setCell ⟨z, 2, none⟩ (.int .i64 0) ∧ W'.cell? ⟨z, 0, none⟩ = some (.int .u32 0) ∧ W'.cell? ⟨z, 1, none⟩ = some (.int .i64 0) ∧ W'.cell? ⟨z, 2, none⟩ = some (.int .i64 0) ∧ Fr (fun _ => False) w W' := key (0, 0, 0)
  by_cases e1 : k < 0
  · have he : atE b k = .returned (.tuple #[boV (0, 0, 0), .int .i64 140]) := if_pos (.inl e1)
    obtain ⟨W', e', k0, k1, k2, k4⟩ := key0
    have K4 := Lib.hid k4
    rw [e'] at k0 k1 k2 K4
    have b1 : decide (k < 0) = true := by simpa using e1
    clear key e' k4 h h1 f0 hg
    go_enter Tryz.func39, Tryz.ntmps39
    go_upto_block 0 with fail
    rw [← hW, ← hz]
    clear hW hz
    go_wp2_with fail
    refine HT.out.mono ?_
    rintro e w1 ⟨rfl, rfl⟩
    go_wp2_with fail
    refine bodyPost_ret (v := .tuple #[boV (0, 0, 0), .int .i64 140]) ?_ rfl ⟨he.symm, K4.out⟩
    try simp at k0 k1 k2
    simp [results, Tryz.f39, go_sem, k0, k1, k2]
  · have b1 : decide (k < 0) = false := by simpa using e1
    by_cases e2 : (b.seats : Int) ≤ k
    · have he : atE b k = .returned (.tuple #[boV (0, 0, 0), .int .i64 140]) := if_pos (.inr e2)
      obtain ⟨W', e', k0, k1, k2, k4⟩ := key0
      have K4 := Lib.hid k4
      rw [e'] at k0 k1 k2 K4
      have b2 : decide ((b.seats : Int) ≤ k) = true := by simpa using e2
      clear key e' k4 h h1 f0 hg
      go_enter Tryz.func39, Tryz.ntmps39
      go_upto_block 0 with fail
      rw [← hW, ← hz]
      clear hW hz
      go_wp2_with fail
      refine HT.out.mono ?_
      rintro e w1 ⟨rfl, rfl⟩
      go_wp2_with fail
      refine bodyPost_ret (v := .tuple #[boV (0, 0, 0), .int .i64 140]) ?_ rfl ⟨he.symm, K4.out⟩
      try simp at k0 k1 k2
      simp [results, Tryz.f39, go_sem, k0, k1, k2]
    · have b2 : decide ((b.seats : Int) ≤ k) = false := by simpa using e2
      have HH0 := has_seat h1 (k := k) (by omega) (by omega)
      cases hf : bSeat b.L k with
      | none =>
        have he : atE b k = .returned (.tuple #[boV (0, 0, 0), .int .i64 171]) := by unfold atE; rw [if_neg (by omega), hf]
        rw [hf] at HH0
        have HH := Lib.hid HH0
        obtain ⟨W', e', k0, k1, k2, k4⟩ := key0
        have K4 := Lib.hid k4
        rw [e'] at k0 k1 k2 K4
        clear key e' k4 h h1 f0 hg HH0 hf
        go_enter Tryz.func39, Tryz.ntmps39
        go_upto_block 0 with fail
        rw [← hW, ← hz]
        clear hW hz
        go_wp2_with fail
        refine HT.out.mono ?_
        rintro e w1 ⟨rfl, rfl⟩
        go_wp2_with fail
        refine HH.out.mono ?_
        rintro e w1 ⟨rfl, rfl⟩
        simp only [Option.isSome_none]
        go_wp2_with fail
        refine bodyPost_ret (v := .tuple #[boV (0, 0, 0), .int .i64 171]) ?_ rfl ⟨he.symm, K4.out⟩
        try simp at k0 k1 k2
        simp [results, Tryz.f39, go_sem, k0, k1, k2]
      | some x =>
        have he : atE b k = .returned (.tuple #[boV x, .int .i64 0]) := by unfold atE; rw [if_neg (by omega), hf]
        have hb := hf
        rw [hf] at HH0
        have HH := Lib.hid HH0
        obtain ⟨W', e', k0, k1, k2, k4⟩ := key x
        have K4 := Lib.hid k4
        rw [e'] at k0 k1 k2 K4
        obtain ⟨j, hk⟩ : ∃ j : Nat, k = (j : Int) := ⟨k.toNat, by omega⟩
        obtain ⟨g, cap, ev, _, _, hc⟩ := h1.seats
        have hkn : j < b.seats := by omega
        obtain ⟨s0, s1, s2⟩ := hc j hkn
        rw [← hk, hb] at s0 s1 s2
        simp only [Option.getD_some] at s0 s1 s2
        rw [ev] at c8
        have hkn' : (j : Int) < (b.seats : Int) := by omega
        subst hk
        clear key e' k4 h h1 f0 hg HH0 hf hb hc ev hkn
        go_enter Tryz.func39, Tryz.ntmps39
        go_upto_block 0 with fail
        rw [← hW, ← hz]
        clear hW hz
        go_wp2_with fail
        refine HT.out.mono ?_
        rintro e w1 ⟨rfl, rfl⟩
        go_wp2_with fail
        refine HH.out.mono ?_
        rintro e w1 ⟨rfl, rfl⟩
        simp only [Option.isSome_some]
        go_wp2_with fail
        refine bodyPost_ret (v := .tuple #[boV x, .int .i64 0]) ?_ rfl ⟨he.symm, K4.out⟩
        try simp at k0 k1 k2
        simp [results, Tryz.f39, go_sem, k0, k1, k2]
set_option maxRecDepth 100000 in
theorem at_no {w : World} {q : Option Addr} (h : NoBook w q) (k : Int) : Calls Tryz.prog 39 #[.pointer q, .int .i64 k] w fun e w' => e = .returned (.tuple #[boV (0, 0, 0), .int .i64 1]) ∧ Fr (fun _ => False) w w' := by
  obtain ⟨W, hW⟩ : ∃ W, W = w.alloc (.cells #[.int .u32 0, .int .i64 0, .int .i64 0] 77) := ⟨_, rfl⟩
  obtain ⟨z, hz⟩ : ∃ z, z = w.heap.size := ⟨_, rfl⟩
  have f0 : Fr (fun _ => False) w W := by rw [hW]; exact Fr.alloc (Fr.refl _ _) _
  have hg : W.heap[z]? = some (.cells #[.int .u32 0, .int .i64 0, .int .i64 0] 77 (0, 0)) := by rw [hW, hz]; exact heap_alloc_at _ _
  have HT := Lib.hid (there_no (h.fr f0))
  have y0 := free_of hg 0; have y1 := free_of hg 1; have y2 := free_of hg 2
  have d0 := (cell_of hg 0).trans (show _ = some (Value.int .u32 0) from rfl)
  have d1 := (cell_of hg 1).trans (show _ = some (Value.int .i64 0) from rfl)
  have d2 := (cell_of hg 2).trans (show _ = some (Value.int .i64 0) from rfl)
  have hfin := setCell_blk (o := 2) (setCell_blk (o := 1) (setCell_blk (o := 0) hg (.int .u32 0)) (.int .i64 0)) (.int .i64 0)
  have fz : Fr (fun y => y = z) W (((W.setCell ⟨z, 0, none⟩ (.int .u32 0)).setCell ⟨z, 1, none⟩ (.int .i64 0)).setCell ⟨z, 2, none⟩ (.int .i64 0)) :=
      (((Fr.refl (fun y => y = z) _).setCell (p := ⟨z, 0, none⟩) (fun _ => rfl) _).setCell (p := ⟨z, 1, none⟩) (fun _ => rfl) _).setCell (p := ⟨z, 2, none⟩) (fun _ => rfl) _
  have k0 := (cell_of hfin 0).trans (show _ = some (Value.int .u32 0) from rfl)
  have k1 := (cell_of hfin 1).trans (show _ = some (Value.int .i64 0) from rfl)
  have k2 := (cell_of hfin 2).trans (show _ = some (Value.int .i64 0) from rfl)
  have K4 := Lib.hid (f0.trans fz (fun y hy e => by omega) : Fr (fun _ => False) w _)
  clear h f0 hg hfin fz
  go_enter Tryz.func39, Tryz.ntmps39
  go_upto_block 0 with fail
  rw [← hW, ← hz]
  clear hW hz
  go_wp2_with fail
  refine HT.out.mono ?_
  rintro e w1 ⟨rfl, rfl⟩
  go_wp2_with fail
  refine bodyPost_ret (v := .tuple #[boV (0, 0, 0), .int .i64 1]) ?_ rfl ⟨rfl, K4.out⟩
  try simp at k0 k1 k2
  simp [results, Tryz.f39, go_sem, k0, k1, k2]
end Go.Proofs.YtebdcahjlcgonaaGreat.Bk
namespace Go.Proofs.YtebdcahjlcgonaaGreat
open Go.RowKit Go.Shelf
section
variable {α : Type} {F : Fence} {n : Nat} {P : Program} {g : Operand} {ps : Array Tmp} {assign body : Code} {Q : Exit → Act → World → Prop} {a : Act} {w : World}
variable {gf : Nat} {lb : Array Value} {encs : α → Array Value} {p : Nat → Prop} {S Sp : List α → Prop} {N : Nat} {w0 : World}
theorem no_cells {A B : World} {row : Option Nat} (hr : ∀ r, row = some r → ∃ o : Obj, A.heap[r]? = some o ∧ o.isCells = false) (hg : A.grownBy B row) {b : Nat} {c : Array Value} {t : TypeId} {z : Nat × Nat} (h : A.heap[b]? = some (.cells c t z)) : B.heap[b]? = some (.cells c t z) := by
  refine (grownBy.fr hg).get h fun e => ?_
  obtain ⟨o, h1, h2⟩ := hr b e
  rw [h] at h1; cases h1; simp [Obj.isCells] at h2
theorem range_boxed (hro : F.round = none) (h1 : 1 ≤ n) (hg : a.eval g = .func (.func gf) #[] lb) (hFg : F.fn gf) (eg : ∀ args w, (callFunc gf args).run P w = .ok (.enter gf args) w)
    (hseq : SeqStopsK F (n - 1) P gf lb encs (KeepsB p) S Sp N w0) (hp : ∀ b, p b → b < w.heap.size) (hb0 : Below w0.heap.size w0 w) (hps : ∀ x, (encs x).size = ps.size)
    (I : List α → World → Prop) (Ix : Code → List α → World → Prop) (hI : OwnFrom w.heap.size I) (hIx : ∀ c, OwnFrom w.heap.size (Ix c)) (h0 : I [] w) (hsz : ∀ pre W, I pre W → w.heap.size ≤ W.heap.size)
    (cl : α → Array Value) (bt : TypeId) (a1 : α → Nat → Act)
    (hassign : ∀ (l : Nat) (x : α) (W : World) (K : Act → World → Prop), (∀ b, b = W.heap.size → K (a1 x b) (W.alloc (.cells (cl x) bt))) → assign.wpIn (F.inRound l) (n - 1 - 1) P (Exit.then K (fun _ _ _ => False)) { tmps := (ps.zip (encs x)).foldl (fun t (p, v) => t.setIfInBounds p v) a.tmps, defers := [] } W)
    (hbody : ∀ (l : Nat) (pre : List α) (x : α) (b : Nat) (W : World), w.heap.size ≤ b → W.heap[b]? = some (.cells (cl x) bt (0, 0)) → I pre W → pre.length < N → body.wpIn (F.inRound l) (n - 1 - 1) P (ownPostG w.heap.size (KeepsB p) I Ix (pre ++ [x]) W) (a1 x b) W)
    (hdone : ∀ (D : Nat) (xs : List α) (W : World), w.heap.size ≤ D → S xs → I xs W → W.heap[D]? = some (.deferred (some [])) → Q .normal { a with defers := { target := .collected D, args := #[] } :: a.defers } W)
    (hstop : ∀ (D : Nat) (c : Code) (pre : List α) (W : World), w.heap.size ≤ D → Sp pre → Ix c pre W → W.heap[D]? = some (.deferred (some [])) → c.wpIn F n P Q { a with defers := { target := .collected D, args := #[] } :: a.defers } W) :
    (Code.rangeFunc g ps assign body).wpIn F n P Q a w :=
  wpIn_rangeFunc_ownH hro h1 hg hFg eg hseq KeepsB.trans (keepsB_b hp) hb0 hps I Ix hI hIx h0 (fun x a' W => ∃ b, a' = a1 x b ∧ w.heap.size ≤ b ∧ W.heap[b]? = some (.cells (cl x) bt (0, 0)))
    (by
      rintro x a' _ A B row ⟨b, e, hb, hc⟩ hgr hr
      exact ⟨b, e, hb, no_cells (fun r e => (hr r e).2) hgr hc⟩)
    (fun l pre x W K hi hK => hassign l x W K (fun b hb => hK _ _ (KeepsFrom.of_grownBy (row := none) (World.grownBy_alloc _ _ none) (fun j e => by cases e)) (KeepsB.alloc (KeepsB.refl _ _) _)
      (hI _ _ _ none hi (World.grownBy_alloc _ _ none) (fun r e => by cases e)) ⟨b, rfl, by rw [hb]; exact hsz _ _ hi, by rw [hb]; exact heap_alloc_at _ _⟩))
    (fun l pre x a' W hl hr hi => by
      rintro ⟨b, rfl, hb, hc⟩
      exact hbody l pre x b W hb hc hi) hdone hstop
end
end Go.Proofs.YtebdcahjlcgonaaGreat
namespace Go.Proofs.YtebdcahjlcgonaaGreat.Bk
open Go.RowKit Go.Shelf
attribute [local go_sem] Oper.semAt_some
def seqP (cb : Nat) (sv : Value) (b : Nat) : Prop := b = cb ∨ sv.ownBlock = some b
/-- What slices.Values has captured. -/
structure VSeq (w : World) (cb : Nat) (sv : Value) (S : List Bo) : Prop where
  box : w.heap[cb]? = some (.cells #[sv] 25 (0, 0))
  row : Bos w sv S
  few : S.length ≤ 70000
section seq
variable {w w' : World} {cb : Nat} {sv : Value} {S : List Bo}
theorem VSeq.same (h : VSeq w cb sv S) (k : ∀ b, seqP cb sv b → b < w.heap.size → w'.heap[b]? = w.heap[b]?) : VSeq w' cb sv S := by
  refine ⟨by rw [k cb (.inl rfl) (lt_of_block h.box)]; exact h.box, ?_, h.few⟩
  rcases h.row with ⟨h1, h2 | ⟨g, cap, cur, rfl, h3, h4, h5⟩⟩
  · exact ⟨h1, .inl h2⟩
  · exact ⟨h1, .inr ⟨g, cap, cur, rfl, h3, by rw [k g (.inr rfl) (lt_of_block h4)]; exact h4, h5⟩⟩
theorem VSeq.keep (h : VSeq w cb sv S) (k : KeepsB (seqP cb sv) w w') : VSeq w' cb sv S := h.same k.blk
theorem VSeq.below (h : VSeq w cb sv S) (k : Below w.heap.size w w') : VSeq w' cb sv S := h.same (fun b _ hl => k.block b hl)
theorem VSeq.fr (h : VSeq w cb sv S) {F : Nat → Prop} (f : Fr F w w') (hn : ∀ b, seqP cb sv b → ¬ F b) : VSeq w' cb sv S := h.same (fun b hb hl => f.blk b hl (hn b hb))
theorem VSeq.c0 (h : VSeq w cb sv S) : w.cell? ⟨cb, 0, none⟩ = some sv := (cell_of h.box 0).trans rfl
theorem VSeq.lt (h : VSeq w cb sv S) : ∀ b, seqP cb sv b → b < w.heap.size := by
  rintro b (rfl | hb)
  · exact lt_of_block h.box
  · exact Row.lt h.row hb
end seq
theorem take_snocS {S : List Bo} {k : Nat} (h : k < S.length) : S.take k ++ [S.getD k (0, 0, 0)] = S.take (k + 1) := by
  rw [List.take_add_one, List.getElem?_eq_getElem h]; simp [h]
set_option maxRecDepth 100000 in
set_option maxHeartbeats 2000000 in
theorem vals_stops (F : Fence) (n : Nat) (hF : F.fn 111) (hro : F.round = none) (hn : 1 ≤ n) {w : World} {cb : Nat} {sv : Value} {S : List Bo} (hs : VSeq w cb sv S) (p : Nat → Prop) (hp : ∀ b, seqP cb sv b → p b) :
    SeqStopsK F n Tryz.prog 111 #[.pointer (some ⟨cb, 0, none⟩)] (fun x : Bo => #[boV x]) (KeepsB p) (fun ys => ys = S) (fun pre => pre <+: S) S.length w := fun l J Jx W hW hJ _ hY h0 => by
  have hs := hs.below hW
  have c0 := hs.c0
  obtain ⟨m, hm⟩ : ∃ m, m = S.length := ⟨_, rfl⟩
  rcases id hs.row.2 with ⟨e0, e1⟩ | ⟨b, cap, cur, e0, -, hb, -⟩
  · obtain rfl : S = [] := List.eq_nil_of_length_eq_zero e1
    subst e0
    clear hs hW hm
    refine callsIn_of_wp Tryz.func111 rfl hF ?_ hro
    simp only [Tryz.ntmps111, List.size_toArray, List.length_cons, List.length_nil, Nat.reduceAdd, Nat.reduceSub, Array.replicate_succ, Array.replicate_zero, List.push_toArray, List.append_toArray, List.nil_append, List.cons_append]
    gi_wp2
    gi_loopw [7] (fun i wr => i = .int .i64 0 ∧ J [] wr) (fun _ _ => 0)
    case atStart => exact ⟨rfl, h0⟩
    case round =>
      obtain ⟨rfl, hJs⟩ := hrel
      gi_wp2
      go_end0
      exact ⟨⟨_, rfl⟩, .inl ⟨_, rfl, hJs⟩⟩
  · subst e0
    have HB := Lib.hid hs.row; have Hm := Lib.hid hm; have Hp := Lib.hid (hp b (.inr rfl)); have H8 := Lib.hid hs.few; have HlW := Lib.hid (lt_of_block hb)
    rw [← hm] at c0
    clear hs hW hm hb
    refine callsIn_of_wp Tryz.func111 rfl hF ?_ hro
    simp only [Tryz.ntmps111, List.size_toArray, List.length_cons, List.length_nil, Nat.reduceAdd, Nat.reduceSub, Array.replicate_succ, Array.replicate_zero, List.push_toArray, List.append_toArray, List.nil_append, List.cons_append]
    gi_wp2
    gi_loopw [7] (fun i wr => ∃ k : Nat, k ≤ m ∧ i = .int .i64 k ∧ J (S.take k) wr ∧ KeepsB p W wr)
      (fun i _ => m - (intOf i).toNat)
    case atStart => exact ⟨0, Nat.zero_le _, rfl, h0, KeepsB.refl _ _⟩
    case round =>
      obtain ⟨k, hk, rfl, hJs, hnx⟩ := hrel
      have Hnx := Lib.hid hnx
      clear hnx
      by_cases hlt : k < m
      · have hlt' : (k : Int) < (m : Int) := by omega
        have k0 : (0 : Int) ≤ (k : Int) := by omega
        have hkL : k < S.length := by rw [← Hm.out]; exact hlt
        have hbr : Bos wr (.slice (some ⟨b, 0, none⟩) S.length cap) S := by
          obtain ⟨h1, h2 | ⟨g, cap', cur', e, h3, h4, h5⟩⟩ := HB.out
          · exact ⟨h1, .inl h2⟩
          · refine ⟨h1, .inr ⟨g, cap', cur', e, h3, ?_, h5⟩⟩
            simp only [Value.slice.injEq, Option.some.injEq, Addr.mk.injEq] at e
            obtain ⟨⟨rfl, -⟩, -⟩ := e
            exact (Hnx.out.blk _ Hp.out HlW.out).trans h4
        obtain ⟨g, cap', e, d0, d1, d2⟩ := hbr.cells hkL
        simp only [Value.slice.injEq, Option.some.injEq, Addr.mk.injEq] at e
        obtain ⟨⟨rfl, -⟩, -, -⟩ := e
        have hgd : S.getD k (0, 0, 0) = S[k] := by simp [hkL]
        obtain ⟨x, hx⟩ : ∃ x, x = S.getD k (0, 0, 0) := ⟨_, rfl⟩
        rw [← hgd, ← hx] at d0 d1 d2
        have hJ1 : J (S.take k) (wr.alloc (.cells #[.int .u32 (x.1 : Int), .int .i64 x.2.1, .int .i64 x.2.2] 77)) := hJ _ _ _ none hJs (World.grownBy_alloc _ _ none) (fun r e => by cases e)
        obtain ⟨fn, tmps, assign, body, hy, hR⟩ := hY _ x _ hJ1 (by rw [List.length_take]; omega)
        obtain ⟨k1, hk1⟩ : ∃ k1, k1 = k + 1 := ⟨_, rfl⟩
        have e1 : (k : Int) + 1 = (k1 : Int) := by omega
        have e2 : wrap64 (k1 : Int) = (k1 : Int) := by unfold wrap64; have := H8.out; omega
        have e3 : IntKind.i64.wrap (k1 : Int) = (k1 : Int) := by rw [IntKind.wrap_i64]; have := H8.out; omega
        have HK1 := Lib.hid hk1; have HX := Lib.hid hx; have Hlt := Lib.hid hlt; have HkL := Lib.hid hkL
        clear hgd hk1 hx hlt hkL hk hbr
        gi_wp2
        refine hR.mono ?_
        rintro e W3 (⟨rfl, hJ3, hk3⟩ | ⟨rfl, hJx3⟩)
        · gi_wp2
          go_roundw
          case rel => exact ⟨k1, by have := HK1.out; have := Hlt.out; omega, rfl, by rw [HK1.out, ← take_snocS HkL.out, ← HX.out]; exact hJ3, (Hnx.out.alloc _).trans hk3⟩
          case measure => have := HK1.out; have := Hlt.out; simp [intOf]; omega
        · gi_wp2
          refine bodyPost_ret (results_none rfl _ _ _) rfl ?_
          exact ⟨⟨_, rfl⟩, .inr ⟨_, by rw [HX.out, take_snocS HkL.out]; exact List.take_prefix _ _, hJx3⟩⟩
      · obtain rfl : k = m := by omega
        clear hlt hk
        gi_wp2
        go_end0
        exact ⟨⟨_, rfl⟩, .inl ⟨_, rfl, by rw [Hm.out, List.take_length] at hJs; exact hJs⟩⟩
abbrev valsV (cb : Nat) : Value := .func (.func 111) #[] #[.pointer (some ⟨cb, 0, none⟩)]
set_option maxRecDepth 100000 in
theorem values_ok {w : World} {sv : Value} {S : List Bo} (h : Bos w sv S) (hf : S.length ≤ 70000) : Calls Tryz.prog 70 #[sv] w fun e w' => ∃ cb, e = .returned (valsV cb) ∧ VSeq w' cb sv S ∧ cb = w.heap.size ∧ Fr (fun _ => False) w w' := by
  have f0 : Fr (fun _ => False) w (w.alloc (.cells #[sv] 25)) := Fr.alloc (Fr.refl _ _) _
  have hs : VSeq (w.alloc (.cells #[sv] 25)) w.heap.size sv S := ⟨heap_alloc_at _ _, Row.fr h f0 (fun _ _ h => h), hf⟩
  obtain ⟨a, c, e⟩ : ∃ a c, sv = .slice a S.length c := by
    rcases h.2 with ⟨rfl, h0⟩ | ⟨g, cap, cur, rfl, _⟩
    · exact ⟨none, 0, by rw [h0]⟩
    · exact ⟨_, _, rfl⟩
  subst e
  have F0 := Lib.hid f0; have HS := Lib.hid hs
  clear h hf f0 hs
  go_enter Tryz.func70, Tryz.ntmps70
  go_wp2_with fail
  go_ret
  exact ⟨_, rfl, HS.out, rfl, F0.out⟩
/-- What a book's All hands back. -/
def AllOf (w : World) (L : List Bo) (e : Ending) (w' : World) : Prop := ∃ cb sv, e = .returned (valsV cb) ∧ VSeq w' cb sv L ∧ (∀ b, seqP cb sv b → w.heap.size ≤ b) ∧ Fr (fun _ => False) w w'
set_option maxRecDepth 100000 in
theorem all_ok {p : Pt} {bb nx : Nat} {b : Bk} {LD : List Bo} {w : World} (h : BkP p bb nx b b.L LD w) : Calls Tryz.prog 34 #[.pointer (some ⟨bb, 0, none⟩)] w (AllOf w b.L) := by
  have hl := h.raw.few; have hc := h.raw.c1
  have Hl := Lib.hid (show b.L.length ≤ 70000 by omega)
  have HL := Lib.hid (list_ok h)
  clear h hl hc
  go_enter Tryz.func34, Tryz.ntmps34
  go_wp2_with fail
  refine HL.out.mono ?_
  rintro e w1 ⟨v, rfl, hv, hn, f1⟩
  have HV := Lib.hid (values_ok hv Hl.out); have Hn := Lib.hid hn; have F1 := Lib.hid f1
  clear hv hn f1
  go_wp2_with fail
  refine HV.out.mono ?_
  rintro e w2 ⟨cb, rfl, hs, hcb, f2⟩
  have HE := Lib.hid (show AllOf w b.L (.returned (valsV cb)) w2 from ⟨cb, v, rfl, hs, fun y hy => by
    rcases hy with rfl | hy
    · have := F1.out.size; omega
    · exact Hn.out y hy, F1.out.trans f2 (fun _ _ h => h)⟩)
  clear hs hcb f2
  go_wp2_with fail
  go_ret
  exact HE.out
set_option maxRecDepth 100000 in
theorem all_no {w : World} {q : Option Addr} (h : NoBook w q) : Calls Tryz.prog 34 #[.pointer q] w (AllOf w []) := by
  have HL := Lib.hid (list_no h)
  clear h
  go_enter Tryz.func34, Tryz.ntmps34
  go_wp2_with fail
  refine HL.out.mono ?_
  rintro e w1 ⟨rfl, f1⟩
  have hv : Bos w1 (.slice none 0 0) [] := World.ownsRow_nil _ _ _ _
  have HV := Lib.hid (values_ok hv (by simp)); have F1 := Lib.hid f1
  clear hv f1
  go_wp2_with fail
  refine HV.out.mono ?_
  rintro e w2 ⟨cb, rfl, hs, hcb, f2⟩
  have HE := Lib.hid (show AllOf w [] (.returned (valsV cb)) w2 from ⟨cb, .slice none 0 0, rfl, hs, fun y hy => by
    rcases hy with rfl | hy
    · have := F1.out.size; omega
    · simp [Value.ownBlock] at hy, F1.out.trans f2 (fun _ _ h => h)⟩)
  clear hs hcb f2
  go_wp2_with fail
  go_ret
  exact HE.out
end Go.Proofs.YtebdcahjlcgonaaGreat.Bk
namespace Go.Proofs.YtebdcahjlcgonaaGreat.Bk
open Go.RowKit Go.Shelf
attribute [local go_sem] Oper.semAt_some
/-- May a flight have this shape? -/
def shOk (a b c : Int) : Bool := decide (1 ≤ a ∧ a ≤ 1024) && decide (1 ≤ b ∧ b ≤ 4096) && decide (1 ≤ c ∧ c ≤ 64)
set_option maxRecDepth 100000 in
theorem within_ok (x y : Int) (w : World) : Calls Tryz.prog 91 #[.int .i64 x, .int .i64 y] w fun e w' => e = .returned (.bool (decide (1 ≤ x ∧ x ≤ y))) ∧ w = w' := by
  by_cases h1 : 1 ≤ x
  · have b1 : decide (1 ≤ x) = true := by simpa using h1
    have he : decide (1 ≤ x ∧ x ≤ y) = decide (x ≤ y) := decide_eq_decide.2 (by omega)
    rw [he]
    clear he h1
    go_enter Tryz.func91, Tryz.ntmps91
    go_wp2_with fail
    go_ret
    exact ⟨rfl, rfl⟩
  · have b1 : decide (1 ≤ x) = false := by simpa using h1
    have he : decide (1 ≤ x ∧ x ≤ y) = false := decide_eq_false (by omega)
    rw [he]
    clear he h1
    go_enter Tryz.func91, Tryz.ntmps91
    go_wp2_with fail
    go_ret
    exact ⟨rfl, rfl⟩
theorem equalSh (w : World) (a b c a' b' c' : Int) : (Op.equalIn 10000 23 (.agg #[.int .i64 a, .int .i64 b, .int .i64 c]) (.agg #[.int .i64 a', .int .i64 b', .int .i64 c'])).run Tryz.prog w = .ok (a == a' && (b == b' && c == c')) w := by
  rw [run_equalIn_agg (P := Tryz.prog) w 9999 23 _ _ (by kernel_rfl) Tryz.stoodInHeld23]
  have hf : (Tryz.prog.fieldsOf 23).toList.map (fun f => (decide (f.name = "_"), f.type, f.offset)) = [(false, 3, 0), (false, 3, 1), (false, 3, 2)] := by kernel_rfl
  revert hf
  generalize (Tryz.prog.fieldsOf 23).toList = fs
  intro hf
  rcases fs with _ | ⟨f1, _ | ⟨f2, _ | ⟨f3, _ | ⟨f4, fs⟩⟩⟩⟩
  · simp at hf
  · simp at hf
  · simp at hf
  · simp only [List.map_cons, List.map_nil, List.cons.injEq, Prod.mk.injEq, and_true] at hf
    obtain ⟨⟨a1, a2, a3⟩, ⟨b1, b2, b3⟩, c1, c2, c3⟩ := hf
    cases h1 : (a == a') <;> cases h2 : (b == b') <;> cases h3 : (c == c') <;>
      simp [Op.eqFields, of_decide_eq_false a1, of_decide_eq_false b1, of_decide_eq_false c1, a2, a3, b2, b3, c2, c3, go_sem, h1, h2, h3]
  · simp at hf
theorem equalBo (w : World) (a b c a' b' c' : Int) : (Op.equalIn 10000 77 (.agg #[.int .u32 a, .int .i64 b, .int .i64 c]) (.agg #[.int .u32 a', .int .i64 b', .int .i64 c'])).run Tryz.prog w = .ok (a == a' && (b == b' && c == c')) w := by
  rw [run_equalIn_agg (P := Tryz.prog) w 9999 77 _ _ (by kernel_rfl) Tryz.stoodInHeld77]
  have hf : (Tryz.prog.fieldsOf 77).toList.map (fun f => (decide (f.name = "_"), f.type, f.offset)) = [(false, 24, 0), (false, 3, 1), (false, 2, 2)] := by kernel_rfl
  revert hf
  generalize (Tryz.prog.fieldsOf 77).toList = fs
  intro hf
  rcases fs with _ | ⟨f1, _ | ⟨f2, _ | ⟨f3, _ | ⟨f4, fs⟩⟩⟩⟩
  · simp at hf
  · simp at hf
  · simp at hf
  · simp only [List.map_cons, List.map_nil, List.cons.injEq, Prod.mk.injEq, and_true] at hf
    obtain ⟨⟨a1, a2, a3⟩, ⟨b1, b2, b3⟩, c1, c2, c3⟩ := hf
    cases h1 : (a == a') <;> cases h2 : (b == b') <;> cases h3 : (c == c') <;>
      simp [Op.eqFields, of_decide_eq_false a1, of_decide_eq_false b1, of_decide_eq_false c1, a2, a3, b2, b3, c2, c3, go_sem, h1, h2, h3]
  · simp at hf
theorem shEq (w : World) (a b c : Int) : (binOp .eql 23 (shV a b c) (shV 0 0 0)).run Tryz.prog w = .ok (.bool (decide (a = 0 ∧ b = 0 ∧ c = 0))) w := by
  rw [run_eql_struct, equalSh]
  have : (a == 0 && (b == 0 && c == 0)) = decide (a = 0 ∧ b = 0 ∧ c = 0) := by
    by_cases h1 : a = 0 <;> by_cases h2 : b = 0 <;> by_cases h3 : c = 0 <;> simp [h1, h2, h3]
  rw [this]; rfl
theorem boEq_iff (x y : Bo) : ((x.1 : Int) == (y.1 : Int) && (x.2.1 == y.2.1 && x.2.2 == y.2.2)) = decide (x = y) := by
  obtain ⟨a, b, c⟩ := x
  obtain ⟨a', b', c'⟩ := y
  by_cases h1 : a = a' <;> by_cases h2 : b = b' <;> by_cases h3 : c = c' <;> (simp [h1, h2, h3]; try omega)
theorem neqBo (w : World) (x y : Bo) : (binOp .neq 77 (boV x) (boV y)).run Tryz.prog w = .ok (.bool (!decide (x = y))) w := by
  rw [run_neq_struct, equalBo, boEq_iff]; rfl
theorem eqlBo (w : World) (x y : Bo) : (binOp .eql 77 (boV x) (boV y)).run Tryz.prog w = .ok (.bool (decide (x = y))) w := by
  rw [run_eql_struct, equalBo, boEq_iff]; rfl
set_option maxRecDepth 100000 in
set_option maxHeartbeats 1000000 in
theorem shape_check (a b c : Int) (w : World) : Calls Tryz.prog 46 #[shV a b c] w fun e w' => e = .returned (.int .i64 (if shOk a b c = true then 0 else 90)) ∧ Fr (fun _ => False) w w' := by
  obtain ⟨W, hW⟩ : ∃ W, W = w.alloc (.cells #[.int .i64 a, .int .i64 b, .int .i64 c] 23) := ⟨_, rfl⟩
  obtain ⟨z, hz⟩ : ∃ z, z = w.heap.size := ⟨_, rfl⟩
  have f0 : Fr (fun _ => False) w W := by rw [hW]; exact Fr.alloc (Fr.refl _ _) _
  have hg : W.heap[z]? = some (.cells #[.int .i64 a, .int .i64 b, .int .i64 c] 23 (0, 0)) := by rw [hW, hz]; exact heap_alloc_at _ _
  have z0 := (cell_of hg 0).trans (show _ = some (Value.int .i64 a) from rfl)
  have z1 := (cell_of hg 1).trans (show _ = some (Value.int .i64 b) from rfl)
  have z2 := (cell_of hg 2).trans (show _ = some (Value.int .i64 c) from rfl)
  have F0 := Lib.hid f0
  have hq := fun w => shEq w a b c
  have w1 := within_ok a 1024; have w2 := within_ok b 4096; have w3 := within_ok c 64
  obtain ⟨q1, e1⟩ : ∃ q, q = decide (1 ≤ a ∧ a ≤ 1024) := ⟨_, rfl⟩
  obtain ⟨q2, e2⟩ : ∃ q, q = decide (1 ≤ b ∧ b ≤ 4096) := ⟨_, rfl⟩
  obtain ⟨q3, e3⟩ : ∃ q, q = decide (1 ≤ c ∧ c ≤ 64) := ⟨_, rfl⟩
  have hs : shOk a b c = (q1 && q2 && q3) := by unfold shOk; rw [e1, e2, e3]
  rw [← e1] at w1; rw [← e2] at w2; rw [← e3] at w3
  have W1 := Lib.hid w1; have W2 := Lib.hid w2; have W3 := Lib.hid w3
  obtain ⟨q0, e0⟩ : ∃ q, q = decide (a = 0 ∧ b = 0 ∧ c = 0) := ⟨_, rfl⟩
  rw [← e0] at hq
  have h0 : q0 = true → q1 = false := by
    rw [e0, e1]; intro h; have := of_decide_eq_true h; exact decide_eq_false (by omega)
  rw [hs]
  clear hs w1 w2 w3 e0 e1 e2 e3 hg f0
  cases q0 with
  | true =>
    rw [h0 rfl]
    clear h0
    go_enter Tryz.func46, Tryz.ntmps46
    go_upto_region 1 with fail
    rw [← hW, ← hz]
    clear hW hz
    go_wp2_with fail
    go_ret
    exact ⟨rfl, F0.out⟩
  | false =>
    clear h0
    cases q1 with
    | false =>
      go_enter Tryz.func46, Tryz.ntmps46
      go_upto_region 1 with fail
      rw [← hW, ← hz]
      clear hW hz
      go_wp2_with fail
      refine (W1.out _).mono ?_
      rintro e v1 ⟨rfl, rfl⟩
      go_wp2_with fail
      go_ret
      exact ⟨rfl, F0.out⟩
    | true =>
      cases q2 with
      | false =>
        go_enter Tryz.func46, Tryz.ntmps46
        go_upto_region 1 with fail
        rw [← hW, ← hz]
        clear hW hz
        go_wp2_with fail
        refine (W1.out _).mono ?_
        rintro e v1 ⟨rfl, rfl⟩
        go_wp2_with fail
        refine (W2.out _).mono ?_
        rintro e v1 ⟨rfl, rfl⟩
        go_wp2_with fail
        go_ret
        exact ⟨rfl, F0.out⟩
      | true =>
        cases q3 with
        | false =>
          go_enter Tryz.func46, Tryz.ntmps46
          go_upto_region 1 with fail
          rw [← hW, ← hz]
          clear hW hz
          go_wp2_with fail
          refine (W1.out _).mono ?_
          rintro e v1 ⟨rfl, rfl⟩
          go_wp2_with fail
          refine (W2.out _).mono ?_
          rintro e v1 ⟨rfl, rfl⟩
          go_wp2_with fail
          refine (W3.out _).mono ?_
          rintro e v1 ⟨rfl, rfl⟩
          go_wp2_with fail
          go_ret
          exact ⟨rfl, F0.out⟩
        | true =>
          go_enter Tryz.func46, Tryz.ntmps46
          go_upto_region 1 with fail
          rw [← hW, ← hz]
          clear hW hz
          go_wp2_with fail
          refine (W1.out _).mono ?_
          rintro e v1 ⟨rfl, rfl⟩
          go_wp2_with fail
          refine (W2.out _).mono ?_
          rintro e v1 ⟨rfl, rfl⟩
          go_wp2_with fail
          refine (W3.out _).mono ?_
          rintro e v1 ⟨rfl, rfl⟩
          go_wp2_with fail
          go_ret
          exact ⟨rfl, F0.out⟩
end Go.Proofs.YtebdcahjlcgonaaGreat.Bk
namespace Go.Proofs.YtebdcahjlcgonaaGreat.Bk
open Go.RowKit Go.Shelf
theorem zerosB (n : Nat) : (madeCells (Value.cells (.agg #[.int .u32 0, .int .i64 0, .int .i64 0])) (n * 3)).toList = (List.replicate n ((0, 0, 0) : Bo)).flatMap encB := by
  apply List.ext_getElem?
  intro k
  by_cases hk : k < n * 3
  · obtain ⟨i, hi, hki⟩ : ∃ i, i < 3 ∧ k = k / 3 * 3 + i := ⟨k % 3, Nat.mod_lt _ (by decide), by omega⟩
    have hm : k % 3 = i := by omega
    have hq := flatK_get encB_len (List.replicate n ((0, 0, 0) : Bo)) (k / 3) (by rw [List.length_replicate]; omega) i hi
    rw [← hki] at hq
    rw [hq, Array.getElem?_toList]
    simp only [madeCells, Value.cells]
    rw [Array.getElem?_map, Array.getElem?_range, if_pos hk]
    show some ((#[Value.int .u32 0, Value.int .i64 0, Value.int .i64 0] : Array Value)[k % 3]!) = _
    rw [hm, List.getElem_replicate]
    rcases (by omega : i = 0 ∨ i = 1 ∨ i = 2) with rfl | rfl | rfl <;> rfl
  · rw [List.getElem?_eq_none (by simp [size_madeCells]; omega), List.getElem?_eq_none (by rw [flatK_length encB_len, List.length_replicate]; omega)]
theorem seats_none (n : Nat) : seatsOf n [] = List.replicate n ((0, 0, 0) : Bo) := by
  apply List.ext_getElem
  · simp [seatsOf_length]
  · intro k h1 h2
    rw [seatsOf_get, List.getElem_replicate]; rfl
theorem taken_none (n : Nat) : takenOf n [] = List.replicate n false := by
  apply List.ext_getElem
  · simp [takenOf_length]
  · intro k h1 h2
    simp [takenOf, bSeat]
abbrev hd0 (n m q : Nat) (sb mb : Nat) (t i h : Value) : Obj := .cells #[.int .i64 (n : Int), .int .i64 (m : Int), .int .i64 (q : Int), .bool true, .int .i64 0, .int .u32 1, t, i, .slice (some ⟨sb, 0, none⟩) n n, h, .map (some mb)] 73 (0, 0)
/-- The book's head, its seats and its map, made. -/
structure NewB (W : World) (n m q : Nat) (s : Value) (sb mb bb : Nat) (wx : World) : Prop where
  ptr : s = .pointer (some ⟨bb, 0, none⟩)
  head : wx.heap[bb]? = some (hd0 n m q sb mb (.pointer none) (.pointer none) (.pointer none))
  row : Bos wx (.slice (some ⟨sb, 0, none⟩) n n) (List.replicate n (0, 0, 0))
  map : UMap wx mb (fun _ => none)
  new : W.heap.size ≤ sb ∧ W.heap.size ≤ mb ∧ W.heap.size ≤ bb ∧ sb ≠ mb ∧ sb ≠ bb ∧ mb ≠ bb
  fr : Fr (fun _ => False) W wx
abbrev boCells (n : Nat) : Obj := .cells (madeCells (Value.cells (.agg #[.int .u32 0, .int .i64 0, .int .i64 0])) (n * 3)) 77 (0, 0)
theorem bos_new {w : World} {sb n : Nat} (h : w.heap[sb]? = some (boCells n)) (hn : n ≤ 1024) (h1 : 1 ≤ n) : Bos w (.slice (some ⟨sb, 0, none⟩) n n) (List.replicate n (0, 0, 0)) := by
  refine ⟨by rw [flatK_length encB_len], .inr ⟨sb, n, _, by simp, Nat.zero_le _, h, by simp, by unfold maxLen; omega, by simp [size_madeCells], ?_⟩⟩
  rw [zerosB, List.length_replicate, List.take_of_length_le (by rw [flatK_length encB_len, List.length_replicate]; omega)]
theorem umap_new {w : World} {mb : Nat} (h : w.heap[mb]? = some (.map #[] 0)) : UMap w mb (fun _ => none) := ⟨[], 0, h, by simp, fun _ => rfl⟩
theorem NewB.of1 {W : World} {n m q : Nat} (hn : n ≤ 1024) (h1 : 1 ≤ n) : NewB W n m q (.pointer (some ⟨W.heap.size + 1 + 1, 0, none⟩)) W.heap.size (W.heap.size + 1) (W.heap.size + 1 + 1) (((W.alloc (boCells n)).alloc (.map #[] 0)).alloc (hd0 n m q W.heap.size (W.heap.size + 1) (.pointer none) (.pointer none) (.pointer none))) := by
  refine ⟨rfl, by rw [heap_alloc_get]; simp, bos_new (by rw [heap_alloc_get, heap_alloc_get, heap_alloc_get]; simp; try omega) hn h1, umap_new (by rw [heap_alloc_get, heap_alloc_get]; simp; try omega), by omega, Fr.alloc (Fr.alloc (Fr.alloc (Fr.refl _ _) _) _) _⟩
theorem NewB.of2 {W : World} {n m q : Nat} (hn : n ≤ 1024) (h1 : 1 ≤ n) : NewB W n m q (.pointer (some ⟨W.heap.size + 1 + 1, 0, none⟩)) (W.heap.size + 1) W.heap.size (W.heap.size + 1 + 1) (((W.alloc (.map #[] 0)).alloc (boCells n)).alloc (hd0 n m q (W.heap.size + 1) W.heap.size (.pointer none) (.pointer none) (.pointer none))) := by
  refine ⟨rfl, by rw [heap_alloc_get]; simp, bos_new (by rw [heap_alloc_get, heap_alloc_get]; simp; try omega) hn h1, umap_new (by rw [heap_alloc_get, heap_alloc_get, heap_alloc_get]; simp; try omega), by omega, Fr.alloc (Fr.alloc (Fr.alloc (Fr.refl _ _) _) _) _⟩
theorem NewB.drew {W wx : World} {n m q : Nat} {s : Value} {sb mb bb : Nat} (h : NewB W n m q s sb mb bb wx) : NewB W n m q s sb mb bb wx.drew :=
  ⟨h.ptr, h.head, Row.fr h.row (Fr.drew (Fr.refl (fun _ => False) _)) (fun _ _ h => h), h.map.fr (Fr.drew (Fr.refl (fun _ => False) _)) (fun h => h), h.new, Fr.drew h.fr⟩
set_option maxRecDepth 100000 in
theorem new_err (w : World) {a b c : Int} (h : shOk a b c = false) : Calls Tryz.prog 13 #[shV a b c] w fun e w' => e = .returned (.tuple #[.pointer none, .int .i64 90]) ∧ Fr (fun _ => False) w w' := by
  obtain ⟨W, hW⟩ : ∃ W, W = w.alloc (.cells #[.int .i64 a, .int .i64 b, .int .i64 c] 23) := ⟨_, rfl⟩
  obtain ⟨z, hz⟩ : ∃ z, z = w.heap.size := ⟨_, rfl⟩
  have f0 : Fr (fun _ => False) w W := by rw [hW]; exact Fr.alloc (Fr.refl _ _) _
  have hg : W.heap[z]? = some (.cells #[.int .i64 a, .int .i64 b, .int .i64 c] 23 (0, 0)) := by rw [hW, hz]; exact heap_alloc_at _ _
  have z0 := (cell_of hg 0).trans (show _ = some (Value.int .i64 a) from rfl)
  have z1 := (cell_of hg 1).trans (show _ = some (Value.int .i64 b) from rfl)
  have z2 := (cell_of hg 2).trans (show _ = some (Value.int .i64 c) from rfl)
  have hc := shape_check a b c W
  rw [h] at hc
  simp only [Bool.false_eq_true, if_false] at hc
  have HC := Lib.hid hc; have F0 := Lib.hid f0
  clear hc hg f0 h
  go_enter Tryz.func13, Tryz.ntmps13
  go_upto_region 1 with fail
  rw [← hW, ← hz]
  clear hW hz
  go_wp2_with fail
  refine HC.out.mono ?_
  rintro e w1 ⟨rfl, f1⟩
  have F1 := Lib.hid (F0.out.trans f1 (fun _ _ h => h))
  clear f1 z0 z1 z2
  go_wp2_with fail
  refine bodyPost_ret (v := .tuple #[.pointer none, .int .i64 90]) ?_ rfl ⟨rfl, F1.out⟩
  simp [results, Tryz.f13, go_sem]
def bk0 (n m q : Nat) : Bk := { seats := n, codes := m, group := q, next := 1, clock := 0, L := [] }
set_option maxRecDepth 100000 in
set_option maxHeartbeats 2000000 in
theorem new_ok (w : World) {n m q : Nat} (h1 : 1 ≤ n ∧ n ≤ 1024) (h2 : 1 ≤ m ∧ m ≤ 4096) (h3 : 1 ≤ q ∧ q ≤ 64) : Calls Tryz.prog 13 #[shV n m q] w fun e w' => ∃ p bb, e = .returned (.tuple #[.pointer (some ⟨bb, 0, none⟩), .int .i64 0]) ∧ BkP p bb 1 (bk0 n m q) [] [] w' ∧ (∀ x, p.own bb x → w.heap.size ≤ x) ∧ Fr (fun _ => False) w w' := by
  obtain ⟨W0, hW⟩ : ∃ W, W = w.alloc (.cells #[.int .i64 (n : Int), .int .i64 (m : Int), .int .i64 (q : Int)] 23) := ⟨_, rfl⟩
  obtain ⟨z, hz⟩ : ∃ z, z = w.heap.size := ⟨_, rfl⟩
  have f0 : Fr (fun _ => False) w W0 := by rw [hW]; exact Fr.alloc (Fr.refl _ _) _
  have hg : W0.heap[z]? = some (.cells #[.int .i64 (n : Int), .int .i64 (m : Int), .int .i64 (q : Int)] 23 (0, 0)) := by rw [hW, hz]; exact heap_alloc_at _ _
  have z0 := (cell_of hg 0).trans (show _ = some (Value.int .i64 (n : Int)) from rfl)
  have z1 := (cell_of hg 1).trans (show _ = some (Value.int .i64 (m : Int)) from rfl)
  have z2 := (cell_of hg 2).trans (show _ = some (Value.int .i64 (q : Int)) from rfl)
  have hc := shape_check n m q W0
  rw [show shOk n m q = true by unfold shOk; simp; omega] at hc
  simp only [if_true] at hc
  have HC := Lib.hid hc; have F0 := Lib.hid f0; have Hg := Lib.hid hg
  have H1 := Lib.hid h1; have H2 := Lib.hid h2; have H3 := Lib.hid h3
  have Hzw := Lib.hid (show z < W0.heap.size from lt_of_block hg)
  clear hc hg f0 h1 h2 h3
  go_enter Tryz.func13, Tryz.ntmps13
  go_upto_region 1 with fail
  rw [← hW, ← hz]
  clear hW hz
  go_wp2_with fail
  refine HC.out.mono ?_
  rintro e W ⟨rfl, f1⟩
  have HG1 := Lib.hid (f1.get Hg.out (fun h => h))
  have F1 := Lib.hid (F0.out.trans f1 (fun _ _ h => h))
  clear f1 z0 z1 z2
  have z0 := (cell_of HG1.out 0).trans (show _ = some (Value.int .i64 (n : Int)) from rfl)
  have z1 := (cell_of HG1.out 1).trans (show _ = some (Value.int .i64 (m : Int)) from rfl)
  have z2 := (cell_of HG1.out 2).trans (show _ = some (Value.int .i64 (q : Int)) from rfl)
  obtain ⟨i0, hi, y0, y1, y2⟩ := Bt.info_parts Tryz.infoBo
  have hmk := fun (w0 : World) => run_make (P := Tryz.prog) w0 25 77 i0 _ Tryz.underlying25 hi y0 .i64 .i64 (n : Int) (n : Int) (by omega) (Int.le_refl _) (by rw [y2]; have := H1.out; omega) (by have := H1.out; omega)
  rw [y1] at hmk
  simp only [Int.toNat_natCast] at hmk
  have hmm := @run_makeMap Tryz.prog
  clear hi y0 y1 y2
  have HSall := Lib.hid (show ∀ W2 : World, Fr (fun _ => False) W W2 → W2.cell? ⟨z, 0, none⟩ = some (.int .i64 (n : Int)) ∧ W2.cell? ⟨z, 1, none⟩ = some (.int .i64 (m : Int)) ∧ W2.cell? ⟨z, 2, none⟩ = some (.int .i64 (q : Int)) from fun W2 f => by
    have lz := lt_of_block HG1.out
    exact ⟨(f.cell lz (fun h => h)).trans z0, (f.cell lz (fun h => h)).trans z1, (f.cell lz (fun h => h)).trans z2⟩)
  go_upto_region 4 with fail
  go_cut [5] (fun s wx => ∃ sb mb bb, NewB W n m q s sb mb bb wx)
  case first =>
    refine wp_region_held_drew (S := fun w' => w'.cell? ⟨z, 0, none⟩ = some (.int .i64 (n : Int)) ∧ w'.cell? ⟨z, 1, none⟩ = some (.int .i64 (m : Int)) ∧ w'.cell? ⟨z, 2, none⟩ = some (.int .i64 (q : Int))) (by kernel_rfl) (by exact ⟨z0, z1, z2⟩) (fun hHeld => ?_)
    refine wpAnyH_take (i := 0) (v := ?_) rfl (by kernel_rfl) (by kernel_rfl) (by kernel_rfl) (fun _ _ _ h => h) (Or.inl ⟨by rfl, ?_⟩) (by assumption) ?_
    rotate_left
    · intro w' hSw; (try dsimp only at hSw); go_simp; try with_reducible rfl
    try simp only [Act.put, List.getElem_toArray, List.getElem_cons_zero, List.setIfInBounds_toArray, List.set_cons_zero, List.set_cons_succ]
    refine wpAnyH_take (i := 1) (v := ?_) rfl (by kernel_rfl) (by kernel_rfl) (by kernel_rfl) (fun _ _ _ h => h) (Or.inl ⟨by rfl, ?_⟩) (by assumption) ?_
    rotate_left
    · intro w' hSw; (try dsimp only at hSw); go_simp; try with_reducible rfl
    try simp only [Act.put, List.getElem_toArray, List.getElem_cons_zero, List.getElem_cons_succ, List.setIfInBounds_toArray, List.set_cons_zero, List.set_cons_succ]
    refine wpAnyH_take (i := 2) (v := ?_) rfl (by kernel_rfl) (by kernel_rfl) (by kernel_rfl) (fun _ _ _ h => h) (Or.inl ⟨by rfl, ?_⟩) (by assumption) ?_
    rotate_left
    · intro w' hSw; (try dsimp only at hSw); go_simp; try with_reducible rfl
    try simp only [Act.put, List.getElem_toArray, List.getElem_cons_zero, List.getElem_cons_succ, List.setIfInBounds_toArray, List.set_cons_zero, List.set_cons_succ]
    refine wpAnyH_take (i := 3) (v := ?_) rfl (by kernel_rfl) (by kernel_rfl) (by kernel_rfl) (fun _ _ _ h => h) (Or.inl ⟨by rfl, ?_⟩) (by assumption) ?_
    rotate_left
    · intro w' hSw; (try dsimp only at hSw); go_simp; try with_reducible rfl
    try simp only [Act.put, List.getElem_toArray, List.getElem_cons_zero, List.getElem_cons_succ, List.setIfInBounds_toArray, List.set_cons_zero, List.set_cons_succ]
    refine wpAnyH_ready (rs := [4, 5]) (by kernel_rfl) (by simp) ?_
    refine AllReadyH.cons rfl (fun K hK => ?_) (AllReadyH.cons rfl (fun K hK => ?_) AllReadyH.nil)
    · go_simp
      skip
      try go_simp
      refine hK.out _ _ ?_ (fun hHeld => ?_)
      · (try dsimp only); exact HSall.out _ (by repeat (first | exact Fr.refl _ _ | apply Fr.alloc | apply Fr.drew))
      clear hK K
      try simp only [Act.put, List.getElem_toArray, List.getElem_cons_zero, List.getElem_cons_succ, List.setIfInBounds_toArray, List.set_cons_zero, List.set_cons_succ]
      refine wpAnyH_ready (rs := [5]) (by kernel_rfl) (by simp) ?_
      refine AllReadyH.cons rfl (fun K hK => ?_) AllReadyH.nil
      go_simp
      skip
      try go_simp
      refine hK.out _ _ ?_ (fun hHeld => ?_)
      · (try dsimp only); exact HSall.out _ (by repeat (first | exact Fr.refl _ _ | apply Fr.alloc | apply Fr.drew))
      clear hK K
      try simp only [Act.put, List.getElem_toArray, List.getElem_cons_zero, List.getElem_cons_succ, List.setIfInBounds_toArray, List.set_cons_zero, List.set_cons_succ]
      refine wpAnyH_take (i := 6) (v := ?_) rfl (by kernel_rfl) (by kernel_rfl) (by kernel_rfl) (fun _ _ _ h => h) (Or.inl ⟨by rfl, ?_⟩) (by assumption) ?_
      rotate_left
      · intro w' hSw; (try dsimp only at hSw); go_simp; try with_reducible rfl
      try simp only [Act.put, List.getElem_toArray, List.getElem_cons_zero, List.getElem_cons_succ, List.setIfInBounds_toArray, List.set_cons_zero, List.set_cons_succ]
      refine wpAnyH_ready (rs := [7]) (by kernel_rfl) (by simp) ?_
      refine AllReadyH.cons rfl (fun K hK => ?_) AllReadyH.nil
      go_simp
      skip
      try go_simp
      refine hK.out _ _ ?_ (fun hHeld => ?_)
      · (try dsimp only); exact HSall.out _ (by repeat (first | exact Fr.refl _ _ | apply Fr.alloc | apply Fr.drew))
      clear hK K
      try simp only [Act.put, List.getElem_toArray, List.getElem_cons_zero, List.getElem_cons_succ, List.setIfInBounds_toArray, List.set_cons_zero, List.set_cons_succ]
      refine wpAnyH_take (i := 8) (v := ?_) rfl (by kernel_rfl) (by kernel_rfl) (by kernel_rfl) (fun _ _ _ h => h) (Or.inl ⟨by rfl, ?_⟩) (by assumption) ?_
      rotate_left
      · intro w' hSw; (try dsimp only at hSw); go_simp; try with_reducible rfl
      try simp only [Act.put, List.getElem_toArray, List.getElem_cons_zero, List.getElem_cons_succ, List.setIfInBounds_toArray, List.set_cons_zero, List.set_cons_succ]
      refine wpAnyH_done (by kernel_rfl) ?_ _
      go_wp2_with fail
      go_meet
      exact ⟨_, _, _, (NewB.of1 H1.out.2 H1.out.1).drew⟩
    · go_simp
      skip
      try go_simp
      refine hK.out _ _ ?_ (fun hHeld => ?_)
      · (try dsimp only); exact HSall.out _ (by repeat (first | exact Fr.refl _ _ | apply Fr.alloc | apply Fr.drew))
      clear hK K
      try simp only [Act.put, List.getElem_toArray, List.getElem_cons_zero, List.getElem_cons_succ, List.setIfInBounds_toArray, List.set_cons_zero, List.set_cons_succ]
      refine wpAnyH_ready (rs := [4]) (by kernel_rfl) (by simp) ?_
      refine AllReadyH.cons rfl (fun K hK => ?_) AllReadyH.nil
      go_simp
      skip
      try go_simp
      refine hK.out _ _ ?_ (fun hHeld => ?_)
      · (try dsimp only); exact HSall.out _ (by repeat (first | exact Fr.refl _ _ | apply Fr.alloc | apply Fr.drew))
      clear hK K
      try simp only [Act.put, List.getElem_toArray, List.getElem_cons_zero, List.getElem_cons_succ, List.setIfInBounds_toArray, List.set_cons_zero, List.set_cons_succ]
      refine wpAnyH_take (i := 6) (v := ?_) rfl (by kernel_rfl) (by kernel_rfl) (by kernel_rfl) (fun _ _ _ h => h) (Or.inl ⟨by rfl, ?_⟩) (by assumption) ?_
      rotate_left
      · intro w' hSw; (try dsimp only at hSw); go_simp; try with_reducible rfl
      try simp only [Act.put, List.getElem_toArray, List.getElem_cons_zero, List.getElem_cons_succ, List.setIfInBounds_toArray, List.set_cons_zero, List.set_cons_succ]
      refine wpAnyH_ready (rs := [7]) (by kernel_rfl) (by simp) ?_
      refine AllReadyH.cons rfl (fun K hK => ?_) AllReadyH.nil
      go_simp
      skip
      try go_simp
      refine hK.out _ _ ?_ (fun hHeld => ?_)
      · (try dsimp only); exact HSall.out _ (by repeat (first | exact Fr.refl _ _ | apply Fr.alloc | apply Fr.drew))
      clear hK K
      try simp only [Act.put, List.getElem_toArray, List.getElem_cons_zero, List.getElem_cons_succ, List.setIfInBounds_toArray, List.set_cons_zero, List.set_cons_succ]
      refine wpAnyH_take (i := 8) (v := ?_) rfl (by kernel_rfl) (by kernel_rfl) (by kernel_rfl) (fun _ _ _ h => h) (Or.inl ⟨by rfl, ?_⟩) (by assumption) ?_
      rotate_left
      · intro w' hSw; (try dsimp only at hSw); go_simp; try with_reducible rfl
      try simp only [Act.put, List.getElem_toArray, List.getElem_cons_zero, List.getElem_cons_succ, List.setIfInBounds_toArray, List.set_cons_zero, List.set_cons_succ]
      refine wpAnyH_done (by kernel_rfl) ?_ _
      go_wp2_with fail
      go_meet
      exact ⟨_, _, _, (NewB.of2 H1.out.2 H1.out.1).drew⟩
  case rest =>
    obtain ⟨sb, mb, bb, hN⟩ := hcut
    obtain ⟨s, hs⟩ : ∃ s : Value, s = .pointer (some ⟨bb, 0, none⟩) := ⟨_, rfl⟩
    have e5 := hN.ptr
    subst e5
    have g3 := hN.fr.get HG1.out (fun h => h)
    have z0 := (cell_of g3 0).trans (show _ = some (Value.int .i64 (n : Int)) from rfl)
    have HN := Lib.hid hN; have G3 := Lib.hid g3
    clear hN g3 hmk hmm hs HSall
    go_wp2_with fail
    refine (Bt.new_ok wc (n := (n : Int)) (by omega) (by have := H1.out; omega)).mono ?_
    rintro e w2 ⟨tp, tv, rfl, hset, htp, htv, f2⟩
    have hd2 := f2.get HN.out.head (fun h => h)
    have d6 := (cell_of hd2 6).trans (show _ = some (Value.pointer none) from rfl)
    have y6 := free_of hd2 6
    obtain ⟨w3, hw3⟩ : ∃ w3, w3 = w2.setCell ⟨bb, 6, none⟩ (.pointer (some ⟨tp, 0, none⟩)) := ⟨_, rfl⟩
    have fs3 : Fr (fun y => y = bb) w2 w3 := by rw [hw3]; exact Fr.setCell (F := fun y => y = bb) (p := ⟨bb, 6, none⟩) (Fr.refl _ _) (fun _ => rfl) _
    have hbl : bb < wc.heap.size := lt_of_block HN.out.head
    have hd3 : w3.heap[bb]? = some (hd0 n m q sb mb (.pointer (some ⟨tp, 0, none⟩)) (.pointer none) (.pointer none)) := by rw [hw3]; exact setCell_blk (o := 6) hd2 _
    have f3 : Fr (fun y => y = bb) wc w3 := (f2.mono (fun _ _ h => h.elim) : Fr (fun y => y = bb) wc w2).trans fs3 (fun _ _ h => h)
    have hset3 := hset.fr fs3 (fun e => by omega) (fun x hx e => by have := (htv x hx).1; omega)
    have F3 := Lib.hid f3; have HS3 := Lib.hid hset3; have HD3 := Lib.hid hd3; have Htp := Lib.hid htp; have Htv := Lib.hid htv; have Hbl := Lib.hid hbl
    have g3 := f2.get G3.out (fun h => h)
    have nzb : z ≠ bb := fun e => by have := HN.out.new; have := lt_of_block HG1.out; omega
    have Nzb := Lib.hid nzb
    have g3b := fs3.get g3 (fun e => nzb e)
    have G3b := Lib.hid g3b
    have z1 := (cell_of g3b 1).trans (show _ = some (Value.int .i64 (m : Int)) from rfl)
    clear hset htp htv f2 hd2 fs3 hbl hd3 f3 hset3 g3 g3b z0 nzb
    go_upto_region 6 with fail
    rw [← hw3]
    clear hw3 d6 y6
    go_wp2_with fail
    refine (Ix.new_ok w3 H2.out.1 H2.out.2).mono ?_
    rintro e w4 ⟨ip, ig, N, rfl, _, hix, hip, hig, f4⟩
    have hd4 := f4.get HD3.out (fun h => h)
    have d7 := (cell_of hd4 7).trans (show _ = some (Value.pointer none) from rfl)
    have y7 := free_of hd4 7
    obtain ⟨w5, hw5⟩ : ∃ w5, w5 = w4.setCell ⟨bb, 7, none⟩ (.pointer (some ⟨ip, 0, none⟩)) := ⟨_, rfl⟩
    have fs5 : Fr (fun y => y = bb) w4 w5 := by rw [hw5]; exact Fr.setCell (F := fun y => y = bb) (p := ⟨bb, 7, none⟩) (Fr.refl _ _) (fun _ => rfl) _
    have hd5 : w5.heap[bb]? = some (hd0 n m q sb mb (.pointer (some ⟨tp, 0, none⟩)) (.pointer (some ⟨ip, 0, none⟩)) (.pointer none)) := by rw [hw5]; exact setCell_blk (o := 7) hd4 _
    have f5 : Fr (fun y => y = bb) w3 w5 := (f4.mono (fun _ _ h => h.elim) : Fr (fun y => y = bb) w3 w4).trans fs5 (fun _ _ h => h)
    have hb3 : bb < w3.heap.size := Nat.lt_of_lt_of_le Hbl.out F3.out.size
    have hix5 := hix.fr fs5 (fun e => by omega) (fun e => by omega)
    have F5 := Lib.hid f5; have HI5 := Lib.hid hix5; have HD5 := Lib.hid hd5; have Hip := Lib.hid hip; have Hig := Lib.hid hig; have Hb3 := Lib.hid hb3
    clear hix hip hig f4 hd4 fs5 hb3 hd5 f5 hix5 z1 z2
    go_upto_region 7 with fail
    rw [← hw5]
    clear hw5 d7 y7
    go_wp2_with fail
    refine (Du.new_ok less_ok (w := w5) trivial).mono ?_
    rintro e w6 ⟨hp, rfl, hhp, f6, GH, hh, hgh⟩
    have hd6 := f6.get HD5.out (fun h => h)
    have d9 := (cell_of hd6 9).trans (show _ = some (Value.pointer none) from rfl)
    have y9 := free_of hd6 9
    obtain ⟨w7, hw7⟩ : ∃ w7, w7 = w6.setCell ⟨bb, 9, none⟩ (.pointer (some ⟨hp, 0, none⟩)) := ⟨_, rfl⟩
    have fs7 : Fr (fun y => y = bb) w6 w7 := by rw [hw7]; exact Fr.setCell (F := fun y => y = bb) (p := ⟨bb, 9, none⟩) (Fr.refl _ _) (fun _ => rfl) _
    have hd7 : w7.heap[bb]? = some (hd0 n m q sb mb (.pointer (some ⟨tp, 0, none⟩)) (.pointer (some ⟨ip, 0, none⟩)) (.pointer (some ⟨hp, 0, none⟩))) := by rw [hw7]; exact setCell_blk (o := 9) hd6 _
    have f7 : Fr (fun y => y = bb) w5 w7 := (f6.mono (fun _ _ h => h.elim) : Fr (fun y => y = bb) w5 w6).trans fs7 (fun _ _ h => h)
    have hb5 : bb < w5.heap.size := Nat.lt_of_lt_of_le Hb3.out F5.out.size
    have hh7 := HpD.fr hh fs7 (fun x hx e => by have := hgh x hx; omega)
    obtain ⟨n1, n2, n3, n4, n5, n6⟩ := HN.out.new
    have hW := F1.out.size; have hWc := HN.out.fr.size; have s3 := F3.out.size; have s5 := F5.out.size
    have Htp' := Htp.out; have Hip' := Hip.out; have Hig' := Hig.out; have Hbl' := Hbl.out
    have lts := HS3.out.lt
    have hsl : sb < wc.heap.size := Row.lt HN.out.row rfl
    have hml : mb < wc.heap.size := HN.out.map.lt
    have hil := HI5.out.lt
    have hE := Lib.hid (show ∃ p bb', Ending.returned (.tuple #[.pointer (some ⟨bb, 0, none⟩), .int .i64 0]) = .returned (.tuple #[.pointer (some ⟨bb', 0, none⟩), .int .i64 0]) ∧ BkP p bb' 1 (bk0 n m q) [] [] w7 ∧ (∀ x, p.own bb' x → w.heap.size ≤ x) ∧ Fr (fun _ => False) w w7 from by
      refine ⟨⟨tp, tv, ip, ig, N, 0, .slice (some ⟨sb, 0, none⟩) n n, hp, GH, mb, [], 0, fun _ => none⟩, bb, rfl, ⟨hd7, ?_, ?_, ?_, hh7, ?_, ⟨by simp [dueOf], by simp, fun _ _ => rfl, by intro i h1 h2; simp at h2⟩, by simp [bk0], ⟨H1.out.1, H1.out.2, H2.out.1, H2.out.2, by simp [bk0], by simp [bk0], by simp [bk0], by simp [bk0], by simp [bk0], by simp [bk0], by simp [bk0], by simp [bk0], by simp [bk0], by simp [bk0]⟩, ?_⟩, ?_, ?_⟩
      · have := (HS3.out.fr F5.out (fun e => by omega) (fun x hx e => by have := (Htv.out x hx).1; omega)).fr f7 (fun e => by omega) (fun x hx e => by have := (Htv.out x hx).1; omega)
        show Bt.SetAt w7 tp tv (takenOf n [])
        rw [taken_none]
        simpa using this
      · exact HI5.out.fr f7 (fun e => by omega) (fun e => by omega)
      · show Bos w7 _ (seatsOf n [])
        rw [seats_none]
        exact Row.fr (Row.fr (Row.fr HN.out.row F3.out (fun x hx e => by simp [Value.ownBlock] at hx; omega)) F5.out (fun x hx e => by simp [Value.ownBlock] at hx; omega)) f7 (fun x hx e => by simp [Value.ownBlock] at hx; omega)
      · exact ((HN.out.map.fr F3.out (fun e => n6 e)).fr F5.out (fun e => n6 e)).fr f7 (fun e => n6 e)
      · have lb : ∀ x, wc.heap.size ≤ x → x ≠ bb ∧ x ≠ sb ∧ x ≠ mb := fun x hx => ⟨by omega, by omega, by omega⟩
        have l1 : ∀ x, wc.heap.size ≤ x → x < w3.heap.size → (if x = bb then 0 else if x = sb then 3 else if x = mb then 5 else if x < w3.heap.size then 1 else if x < w5.heap.size then 2 else 4 : Nat) = 1 := fun x h1 h2 => by
          obtain ⟨a1, a2, a3⟩ := lb x h1
          rw [if_neg a1, if_neg a2, if_neg a3, if_pos h2]
        have l2 : ∀ x, w3.heap.size ≤ x → x < w5.heap.size → (if x = bb then 0 else if x = sb then 3 else if x = mb then 5 else if x < w3.heap.size then 1 else if x < w5.heap.size then 2 else 4 : Nat) = 2 := fun x h1 h2 => by
          obtain ⟨a1, a2, a3⟩ := lb x (by omega)
          rw [if_neg a1, if_neg a2, if_neg a3, if_neg (by omega), if_pos h2]
        have l4 : ∀ x, w5.heap.size ≤ x → (if x = bb then 0 else if x = sb then 3 else if x = mb then 5 else if x < w3.heap.size then 1 else if x < w5.heap.size then 2 else 4 : Nat) = 4 := fun x h1 => by
          obtain ⟨a1, a2, a3⟩ := lb x (by omega)
          rw [if_neg a1, if_neg a2, if_neg a3, if_neg (by omega), if_neg (by omega)]
        exact ⟨fun x => if x = bb then 0 else if x = sb then 3 else if x = mb then 5 else if x < w3.heap.size then 1 else if x < w5.heap.size then 2 else 4,
          ⟨if_pos rfl, l1 tp Htp' lts, fun x hx => ⟨l1 x (Htv.out x hx).1 (Row.lt HS3.out.row hx), (Htv.out x hx).2⟩, l2 ip Hip' hil.1, l2 ig Hig' hil.2, fun x hx => by
            simp [Value.ownBlock] at hx; subst hx; rw [if_neg n5, if_pos rfl], fun x hx => l4 x (hgh x hx), by rw [if_neg n6, if_neg (fun e => n4 e.symm), if_pos rfl]⟩⟩
      · intro x hx
        rcases hx with hx | hx | hx | hx | hx | hx | hx | hx
        · omega
        · have e : x = tp := hx; omega
        · have := (Htv.out x hx).1; omega
        · have e : x = ip := hx; omega
        · have e : x = ig := hx; omega
        · simp [Value.ownBlock] at hx; omega
        · have := hgh x hx; omega
        · have e : x = mb := hx; omega
      · have f := ((F1.out.trans HN.out.fr (fun _ _ h => h) |>.mono (fun _ _ h => h.elim) : Fr (fun y => y = bb) w wc).trans F3.out (fun _ _ h => h)).trans F5.out (fun _ _ h => h) |>.trans f7 (fun _ _ h => h)
        exact f.mono (fun y hy e => by omega))
    clear hhp f6 hh hgh hd6 fs7 hd7 f7 hb5 hh7 n1 n2 n3 n4 n5 n6 hW hWc s3 s5 Htp' Hip' Hig' Hbl' lts hsl hml hil
    go_upto_region 8 with fail
    rw [← hw7]
    clear hw7 d9 y9
    go_wp2_with fail
    refine bodyPost_ret (v := .tuple #[.pointer (some ⟨bb, 0, none⟩), .int .i64 0]) ?_ rfl hE.out
    simp [results, Tryz.f13, go_sem]
end Go.Proofs.YtebdcahjlcgonaaGreat.Bk
namespace Go.Proofs.YtebdcahjlcgonaaGreat.Bk
open Go.RowKit
/-- May this booking be put behind the id last? -/
def mayB (b : Bk) (nx : Nat) (x : Bo) (last : Nat) : Bool :=
  if x.1 ≤ last ∨ nx ≤ x.1 ∨ x.2.1 < 0 ∨ (b.seats : Int) ≤ x.2.1 ∨ (bSeat b.L x.2.1).isSome = true then false else decide (x.2.2 = 0) || (decide (b.clock < x.2.2) && decide (x.2.2 ≤ 1099511627776))
set_option maxRecDepth 100000 in
set_option maxHeartbeats 2000000 in
theorem may_ok {p : Pt} {bb nx : Nat} {b : Bk} {LS LD : List Bo} {w : World} (h : BkP p bb nx b LS LD w) (x : Bo) (last : Nat) : Calls Tryz.prog 44 #[.pointer (some ⟨bb, 0, none⟩), boV x, .int .u32 (last : Int)] w fun e w' => e = .returned (.bool (mayB b nx x last)) ∧ Fr (fun _ => False) w w' := by
  obtain ⟨xi, xk, xt⟩ := x
  obtain ⟨W, hW⟩ : ∃ W, W = w.alloc (.cells #[.int .u32 (xi : Int), .int .i64 xk, .int .i64 xt] 77) := ⟨_, rfl⟩
  obtain ⟨z, hz⟩ : ∃ z, z = w.heap.size := ⟨_, rfl⟩
  have f0 : Fr (fun _ => False) w W := by rw [hW]; exact Fr.alloc (Fr.refl _ _) _
  have hg : W.heap[z]? = some (.cells #[.int .u32 (xi : Int), .int .i64 xk, .int .i64 xt] 77 (0, 0)) := by rw [hW, hz]; exact heap_alloc_at _ _
  have hB := h.keep f0
  have z0 := (cell_of hg 0).trans (show _ = some (Value.int .u32 (xi : Int)) from rfl)
  have z1 := (cell_of hg 1).trans (show _ = some (Value.int .i64 xk) from rfl)
  have z2 := (cell_of hg 2).trans (show _ = some (Value.int .i64 xt) from rfl)
  obtain ⟨c0, c1, c2, _, c4, c5, c6, _⟩ := hB.c
  have F0 := Lib.hid f0; have HB := Lib.hid hB; have HG := Lib.hid hg
  have hsm : (b.seats : Int) ≤ 1024 := by have := h.raw.s1; omega
  have Hhas := Lib.hid (fun (w' : World) (f : Fr (fun _ => False) W w') (k0 : 0 ≤ xk) (k1 : xk < (b.seats : Int)) => has_seat (hB.keep f) k0 k1)
  clear h f0 hg hB
  by_cases e1 : xi ≤ last
  · have b1 : decide ((xi : Int) ≤ (last : Int)) = true := by simp; omega
    have b1' : decide (xi ≤ last) = true := by simpa using e1
    have he := Lib.hid (show mayB b nx (xi, xk, xt) last = false from if_pos (.inl e1))
    go_enter Tryz.func44, Tryz.ntmps44
    go_upto_region 1 with fail
    rw [← hW, ← hz]
    clear hW hz
    go_cut [7] (fun s wx => s = .bool true ∧ Fr (fun _ => False) W wx)
    case first =>
      go_big_quiet (fail)
      go_wp2_with fail
      go_meet
      exact ⟨rfl, ⟨rfl, rfl, rfl, Nat.le_refl _, fun _ _ _ => rfl⟩⟩
    case rest =>
    obtain ⟨rfl, f1⟩ := hcut
    have F1 := Lib.hid f1
    clear f1
    go_wp2_with fail
    go_ret
    exact ⟨by rw [he.out]; rfl, F0.out.trans F1.out (fun _ _ h => h)⟩
  · have b1 : decide ((xi : Int) ≤ (last : Int)) = false := by simp; omega
    have b1' : decide (xi ≤ last) = false := by simpa using e1
    by_cases e2 : nx ≤ xi
    · have b2 : decide ((nx : Int) ≤ (xi : Int)) = true := by simp; omega
      have b2' : decide (nx ≤ xi) = true := by simpa using e2
      have he := Lib.hid (show mayB b nx (xi, xk, xt) last = false from if_pos (.inr (.inl e2)))
      go_enter Tryz.func44, Tryz.ntmps44
      go_upto_region 1 with fail
      rw [← hW, ← hz]
      clear hW hz
      go_cut [7] (fun s wx => s = .bool true ∧ Fr (fun _ => False) W wx)
      case first =>
        go_big_quiet (fail)
        go_wp2_with fail
        go_meet
        exact ⟨rfl, ⟨rfl, rfl, rfl, Nat.le_refl _, fun _ _ _ => rfl⟩⟩
      case rest =>
      obtain ⟨rfl, f1⟩ := hcut
      have F1 := Lib.hid f1
      clear f1
      go_wp2_with fail
      go_ret
      exact ⟨by rw [he.out]; rfl, F0.out.trans F1.out (fun _ _ h => h)⟩
    · have b2 : decide ((nx : Int) ≤ (xi : Int)) = false := by simp; omega
      have b2' : decide (nx ≤ xi) = false := by simpa using e2
      by_cases e3 : xk < 0
      · have b3 : decide (xk < 0) = true := by simpa using e3
        have he := Lib.hid (show mayB b nx (xi, xk, xt) last = false from if_pos (.inr (.inr (.inl e3))))
        go_enter Tryz.func44, Tryz.ntmps44
        go_upto_region 1 with fail
        rw [← hW, ← hz]
        clear hW hz
        go_cut [7] (fun s wx => s = .bool true ∧ Fr (fun _ => False) W wx)
        case first =>
          go_big_quiet (fail)
          go_wp2_with fail
          go_meet
          exact ⟨rfl, ⟨rfl, rfl, rfl, Nat.le_refl _, fun _ _ _ => rfl⟩⟩
        case rest =>
        obtain ⟨rfl, f1⟩ := hcut
        have F1 := Lib.hid f1
        clear f1
        go_wp2_with fail
        go_ret
        exact ⟨by rw [he.out]; rfl, F0.out.trans F1.out (fun _ _ h => h)⟩
      · have b3 : decide (xk < 0) = false := by simpa using e3
        by_cases e4 : (b.seats : Int) ≤ xk
        · have b4 : decide ((b.seats : Int) ≤ xk) = true := by simpa using e4
          have he := Lib.hid (show mayB b nx (xi, xk, xt) last = false from if_pos (.inr (.inr (.inr (.inl e4)))))
          go_enter Tryz.func44, Tryz.ntmps44
          go_upto_region 1 with fail
          rw [← hW, ← hz]
          clear hW hz
          go_cut [7] (fun s wx => s = .bool true ∧ Fr (fun _ => False) W wx)
          case first =>
            go_big_quiet (fail)
            go_wp2_with fail
            go_meet
            exact ⟨rfl, ⟨rfl, rfl, rfl, Nat.le_refl _, fun _ _ _ => rfl⟩⟩
          case rest =>
          obtain ⟨rfl, f1⟩ := hcut
          have F1 := Lib.hid f1
          clear f1
          go_wp2_with fail
          go_ret
          exact ⟨by rw [he.out]; rfl, F0.out.trans F1.out (fun _ _ h => h)⟩
        · have b4 : decide ((b.seats : Int) ≤ xk) = false := by simpa using e4
          have HH0 := fun (w' : World) (f : Fr (fun _ => False) W w') => Hhas.out w' f (by omega) (by omega)
          obtain ⟨tk, htk⟩ : ∃ tk, tk = (bSeat b.L xk).isSome := ⟨_, rfl⟩
          rw [← htk] at HH0
          have HH := Lib.hid (fun n => HH0 (W.drewN n) (by exact ⟨rfl, rfl, rfl, Nat.le_refl _, fun _ _ _ => rfl⟩))
          clear HH0 Hhas
          cases tk with
          | true =>
            have he := Lib.hid (show mayB b nx (xi, xk, xt) last = false from if_pos (.inr (.inr (.inr (.inr htk.symm)))))
            clear htk
            go_enter Tryz.func44, Tryz.ntmps44
            go_upto_region 1 with fail
            rw [← hW, ← hz]
            clear hW hz
            go_cut [7] (fun s wx => s = .bool true ∧ Fr (fun _ => False) W wx)
            case first =>
              go_big_quiet ((go_at_call 85; exact Calls.quiet_of_same ((HH.out _).mono fun _ _ h => ⟨h.1, h.2.symm⟩)))
              go_wp2_with fail
              go_meet
              exact ⟨rfl, ⟨rfl, rfl, rfl, Nat.le_refl _, fun _ _ _ => rfl⟩⟩
            case rest =>
            obtain ⟨rfl, f1⟩ := hcut
            have F1 := Lib.hid f1
            clear f1
            go_wp2_with fail
            go_ret
            exact ⟨by rw [he.out]; rfl, F0.out.trans F1.out (fun _ _ h => h)⟩
          | false =>
            have HM := Lib.hid (show mayB b nx (xi, xk, xt) last = (decide (xt = 0) || (decide (b.clock < xt) && decide (xt ≤ 1099511627776))) from if_neg (by simp only [← htk]; simp; omega))
            by_cases t0 : xt = 0
            · have E3 := Lib.hid (decide_eq_true t0 : decide (xt = 0) = true)
              have q0 : (xt == 0) = true := by simpa using t0
              clear htk t0
              have he := Lib.hid (show mayB b nx (xi, xk, xt) last = true from by rw [HM.out, E3.out]; rfl)
              go_enter Tryz.func44, Tryz.ntmps44
              go_upto_region 1 with fail
              rw [← hW, ← hz]
              clear hW hz
              go_cut [7] (fun s wx => s = .bool false ∧ Fr (fun _ => False) W wx)
              case first =>
                go_big_quiet ((go_at_call 85; exact Calls.quiet_of_same ((HH.out _).mono fun _ _ h => ⟨h.1, h.2.symm⟩)))
                go_wp2_with fail
                go_meet
                exact ⟨rfl, ⟨rfl, rfl, rfl, Nat.le_refl _, fun _ _ _ => rfl⟩⟩
              case rest =>
              obtain ⟨rfl, f1⟩ := hcut
              have HGW := Lib.hid (f1.get HG.out (fun h => h)); have HBW := Lib.hid (HB.out.keep f1); have F1 := Lib.hid f1
              clear f1 z0 z1 z2 c2 c4 c5 c6
              have z2 := (cell_of HGW.out 2).trans (show _ = some (Value.int .i64 xt) from rfl)
              obtain ⟨_, _, _, _, c4, _⟩ := HBW.out.c
              go_wp2_with fail
              go_ret
              exact ⟨by rw [he.out]; rfl, F0.out.trans F1.out (fun _ _ h => h)⟩
            · have q0 : (xt == 0) = false := by simpa using t0
              by_cases t1 : b.clock < xt
              · have q1 : decide (b.clock < xt) = true := by simpa using t1
                by_cases t2 : xt ≤ 1099511627776
                · have q2 : decide (xt ≤ 1099511627776) = true := by simpa using t2
                  have why := Lib.hid (show (decide (xt = 0) || (decide (b.clock < xt) && decide (xt ≤ 1099511627776))) = true by simp [t0, t1, t2])
                  clear htk t0 t1 t2
                  have he := Lib.hid (show mayB b nx (xi, xk, xt) last = true from by rw [HM.out]; exact why.out)
                  go_enter Tryz.func44, Tryz.ntmps44
                  go_upto_region 1 with fail
                  rw [← hW, ← hz]
                  clear hW hz
                  go_cut [7] (fun s wx => s = .bool false ∧ Fr (fun _ => False) W wx)
                  case first =>
                    go_big_quiet ((go_at_call 85; exact Calls.quiet_of_same ((HH.out _).mono fun _ _ h => ⟨h.1, h.2.symm⟩)))
                    go_wp2_with fail
                    go_meet
                    exact ⟨rfl, ⟨rfl, rfl, rfl, Nat.le_refl _, fun _ _ _ => rfl⟩⟩
                  case rest =>
                  obtain ⟨rfl, f1⟩ := hcut
                  have HGW := Lib.hid (f1.get HG.out (fun h => h)); have HBW := Lib.hid (HB.out.keep f1); have F1 := Lib.hid f1
                  clear f1 z0 z1 z2 c2 c4 c5 c6
                  have z2 := (cell_of HGW.out 2).trans (show _ = some (Value.int .i64 xt) from rfl)
                  obtain ⟨_, _, _, _, c4, _⟩ := HBW.out.c
                  go_upto_region 5 with fail
                  go_cut [6] (fun s wx => s = .bool true ∧ Fr (fun _ => False) W wx)
                  case first =>
                    go_big_quiet (fail)
                    go_wp2_with fail
                    go_meet
                    exact ⟨rfl, F1.out.trans (G := fun _ => False) (by exact ⟨rfl, rfl, rfl, Nat.le_refl _, fun _ _ _ => rfl⟩) (fun _ _ h => h)⟩
                  case rest =>
                  obtain ⟨rfl, f2⟩ := hcut
                  have F2 := Lib.hid f2
                  clear f2
                  go_wp2_with fail
                  go_ret
                  exact ⟨by rw [he.out]; rfl, F0.out.trans F2.out (fun _ _ h => h)⟩
                · have q2 : decide (xt ≤ 1099511627776) = false := by simpa using t2
                  have why := Lib.hid (show (decide (xt = 0) || (decide (b.clock < xt) && decide (xt ≤ 1099511627776))) = false by simp [t0, t1]; omega)
                  clear htk t0 t1 t2
                  have he := Lib.hid (show mayB b nx (xi, xk, xt) last = false from by rw [HM.out]; exact why.out)
                  go_enter Tryz.func44, Tryz.ntmps44
                  go_upto_region 1 with fail
                  rw [← hW, ← hz]
                  clear hW hz
                  go_cut [7] (fun s wx => s = .bool false ∧ Fr (fun _ => False) W wx)
                  case first =>
                    go_big_quiet ((go_at_call 85; exact Calls.quiet_of_same ((HH.out _).mono fun _ _ h => ⟨h.1, h.2.symm⟩)))
                    go_wp2_with fail
                    go_meet
                    exact ⟨rfl, ⟨rfl, rfl, rfl, Nat.le_refl _, fun _ _ _ => rfl⟩⟩
                  case rest =>
                  obtain ⟨rfl, f1⟩ := hcut
                  have HGW := Lib.hid (f1.get HG.out (fun h => h)); have HBW := Lib.hid (HB.out.keep f1); have F1 := Lib.hid f1
                  clear f1 z0 z1 z2 c2 c4 c5 c6
                  have z2 := (cell_of HGW.out 2).trans (show _ = some (Value.int .i64 xt) from rfl)
                  obtain ⟨_, _, _, _, c4, _⟩ := HBW.out.c
                  go_upto_region 5 with fail
                  go_cut [6] (fun s wx => s = .bool false ∧ Fr (fun _ => False) W wx)
                  case first =>
                    go_big_quiet (fail)
                    go_wp2_with fail
                    go_meet
                    exact ⟨rfl, F1.out.trans (G := fun _ => False) (by exact ⟨rfl, rfl, rfl, Nat.le_refl _, fun _ _ _ => rfl⟩) (fun _ _ h => h)⟩
                  case rest =>
                  obtain ⟨rfl, f2⟩ := hcut
                  have F2 := Lib.hid f2
                  clear f2
                  go_wp2_with fail
                  go_ret
                  exact ⟨by rw [he.out]; rfl, F0.out.trans F2.out (fun _ _ h => h)⟩
              · have q1 : decide (b.clock < xt) = false := by simpa using t1
                have why := Lib.hid (show (decide (xt = 0) || (decide (b.clock < xt) && decide (xt ≤ 1099511627776))) = false by simp [t0, t1])
                clear htk t0 t1
                have he := Lib.hid (show mayB b nx (xi, xk, xt) last = false from by rw [HM.out]; exact why.out)
                go_enter Tryz.func44, Tryz.ntmps44
                go_upto_region 1 with fail
                rw [← hW, ← hz]
                clear hW hz
                go_cut [7] (fun s wx => s = .bool false ∧ Fr (fun _ => False) W wx)
                case first =>
                  go_big_quiet ((go_at_call 85; exact Calls.quiet_of_same ((HH.out _).mono fun _ _ h => ⟨h.1, h.2.symm⟩)))
                  go_wp2_with fail
                  go_meet
                  exact ⟨rfl, ⟨rfl, rfl, rfl, Nat.le_refl _, fun _ _ _ => rfl⟩⟩
                case rest =>
                obtain ⟨rfl, f1⟩ := hcut
                have HGW := Lib.hid (f1.get HG.out (fun h => h)); have HBW := Lib.hid (HB.out.keep f1); have F1 := Lib.hid f1
                clear f1 z0 z1 z2 c2 c4 c5 c6
                have z2 := (cell_of HGW.out 2).trans (show _ = some (Value.int .i64 xt) from rfl)
                obtain ⟨_, _, _, _, c4, _⟩ := HBW.out.c
                go_upto_region 5 with fail
                go_cut [6] (fun s wx => s = .bool false ∧ Fr (fun _ => False) W wx)
                case first =>
                  go_big_quiet (fail)
                  go_wp2_with fail
                  go_meet
                  exact ⟨rfl, F1.out.trans (G := fun _ => False) (by exact ⟨rfl, rfl, rfl, Nat.le_refl _, fun _ _ _ => rfl⟩) (fun _ _ h => h)⟩
                case rest =>
                obtain ⟨rfl, f2⟩ := hcut
                have F2 := Lib.hid f2
                clear f2
                go_wp2_with fail
                go_ret
                exact ⟨by rw [he.out]; rfl, F0.out.trans F2.out (fun _ _ h => h)⟩
end Go.Proofs.YtebdcahjlcgonaaGreat.Bk
namespace Go.Proofs.YtebdcahjlcgonaaGreat.Bk
open Go.RowKit
theorem mayB_true {b : Bk} {nx last : Nat} {x : Bo} (h : mayB b nx x last = true) : last < x.1 ∧ x.1 < nx ∧ 0 ≤ x.2.1 ∧ x.2.1 < (b.seats : Int) ∧ (∀ y ∈ b.L, y.2.1 ≠ x.2.1) ∧ (x.2.2 = 0 ∨ (b.clock < x.2.2 ∧ x.2.2 ≤ 1099511627776)) := by
  unfold mayB at h
  split at h
  · cases h
  · rename_i hn
    simp only [not_or, Bool.or_eq_true, Bool.and_eq_true, decide_eq_true_eq] at hn h
    exact ⟨by omega, by omega, by omega, by omega, bSeat_free (by simpa using hn.2.2.2.2), h⟩
theorem mayB_of {b : Bk} {nx last : Nat} {x : Bo} (h1 : last < x.1) (h2 : x.1 < nx) (h3 : 0 ≤ x.2.1 ∧ x.2.1 < (b.seats : Int)) (h4 : ∀ y ∈ b.L, y.2.1 ≠ x.2.1) (h5 : x.2.2 = 0 ∨ (b.clock < x.2.2 ∧ x.2.2 ≤ 1099511627776)) : mayB b nx x last = true := by
  have hs : (bSeat b.L x.2.1).isSome = false := by
    cases e : bSeat b.L x.2.1 with
    | none => rfl
    | some y => exact absurd (bSeat_id e).1 (h4 y (bSeat_id e).2)
  unfold mayB
  rw [if_neg (by rw [hs]; simp; omega)]
  simpa using h5
/-- May these bookings be put, one behind the other, into this book? -/
def ofGo : Bk → Nat → List Bo → Bool
  | _, _, [] => true
  | b, last, x :: l => mayB b b.next x last && ofGo { b with L := b.L ++ [x] } x.1 l
theorem raw_len0 {n : Nat} : ∀ (L : List Bo) (lo : Nat), lo ≤ n → L.Pairwise (fun x y => x.1 < y.1) → (∀ x ∈ L, lo ≤ x.1 ∧ x.1 < n) → L.length + lo ≤ n := by
  intro L
  induction L with
  | nil => intro lo h _ _; simpa using h
  | cons x L ih =>
    intro lo h hp ha
    have h1 := List.pairwise_cons.1 hp
    have hx := ha x (by simp)
    have := ih (x.1 + 1) (by omega) h1.2 (fun y hy => ⟨h1.1 y hy, (ha y (by simp [hy])).2⟩)
    simp only [List.length_cons]; omega
theorem raw_len {b : Bk} (h : Raw b) : b.L.length + 1 ≤ b.next := raw_len0 b.L 1 h.n0 h.up h.ids
theorem of_step {b : Bk} (h : Raw b) {x : Bo} {last : Nat} (hm : mayB b b.next x last = true) (hl : ∀ y ∈ b.L, y.1 ≤ last) (hc : b.L.length < b.codes) :
    Raw { b with L := b.L ++ [x], next := b.next } ∧ (∀ y ∈ b.L, y.1 < x.1) ∧ (∀ y ∈ b.L, y.2.1 ≠ x.2.1) ∧ (∀ y ∈ b.L ++ [x], y.1 ≤ x.1) := by
  have q := mayB_true hm
  have h1 : ∀ y ∈ b.L, y.1 < x.1 := fun y hy => Nat.lt_of_le_of_lt (hl y hy) q.1
  refine ⟨h.put (Nat.le_refl _) h.n1 ⟨by omega, q.2.1⟩ h1 ⟨q.2.2.1, q.2.2.2.1⟩ q.2.2.2.2.1 ?_ hc, h1, q.2.2.2.2.1, ?_⟩
  · have := h.t0
    rcases q.2.2.2.2.2 with e | e <;> omega
  · intro y hy
    rcases (by simpa using hy : y ∈ b.L ∨ y = x) with hy | rfl
    · exact Nat.le_of_lt (h1 y hy)
    · exact Nat.le_refl _
theorem of_all {b : Bk} (h : Ok b) : ∀ (l P : List Bo) (last : Nat), b.L = P ++ l → (∀ y ∈ l, last < y.1) → ofGo { b with L := P } last l = true := by
  intro l
  induction l with
  | nil => intros; rfl
  | cons x l ih =>
    intro P last e hl
    have hx : x ∈ b.L := by rw [e]; simp
    have hup := h.up; rw [e] at hup
    have hlo := h.lone; rw [e] at hlo
    have u2 := List.pairwise_cons.1 (List.pairwise_append.1 hup).2.1
    unfold ofGo
    rw [mayB_of (b := { b with L := P }) (nx := b.next) (hl x (by simp)) (h.ids x hx).2 (h.at_ x hx) (fun y hy => (List.pairwise_append.1 hlo).2.2 y hy x (by simp)) ?_]
    · exact ih (P ++ [x]) x.1 (by rw [e]; simp) (fun y hy => u2.1 y hy)
    · rcases h.held x hx with e0 | e0
      · exact .inl e0
      · exact .inr ⟨e0, (h.till x hx).2⟩
theorem of_own {b : Bk} (h : Ok b) : ofGo { b with L := [] } 0 b.L = true := of_all h b.L [] 0 (by simp) (fun y hy => (h.ids y hy).1)
/-- What may be put, makes a book that may be. -/
theorem of_ok0 : ∀ (l : List Bo) (b : Bk) (last : Nat), Ok b → ofGo b last l = true → (∀ y ∈ b.L, y.1 ≤ last) → b.L.length + l.length ≤ b.codes → Ok { b with L := b.L ++ l } := by
  intro l
  induction l with
  | nil => intro b last h _ _ _; simpa using h
  | cons x l ih =>
    intro b last h hg hl hc
    unfold ofGo at hg
    have hg := Bool.and_eq_true_iff.1 hg
    simp only [List.length_cons] at hc
    have hs := of_step h.toRaw hg.1 hl (by omega)
    have := ih { b with L := b.L ++ [x] } x.1 ⟨hs.1, ?_⟩ hg.2 hs.2.2.2 (by simp; omega)
    · simpa using this
    · intro y hy
      rcases (by simpa using hy : y ∈ b.L ∨ y = x) with hy | rfl
      · exact h.held y hy
      · rcases (mayB_true hg.1).2.2.2.2.2 with e | e
        · exact .inl e
        · exact .inr e.1
end Go.Proofs.YtebdcahjlcgonaaGreat.Bk
namespace Go.Proofs.YtebdcahjlcgonaaGreat.Cs
open Go.RowKit Go.Proofs.YtebdcahjlcgonaaGreat.Bk
structure Rq where
  kind : Int
  tag : Nat
  id : Nat
  seat : Int
  ttl : Int
structure Rp where
  tag : Nat
  kind : Int
  err : Int
  id : Nat
  seat : Int
  till : Int
  count : Int
abbrev rqV (q : Rq) : Value := .agg #[.int .i64 q.kind, .int .u32 (q.tag : Int), .int .u32 (q.id : Int), .int .i64 q.seat, .int .i64 q.ttl]
abbrev rqO (q : Rq) : Obj := .cells #[.int .i64 q.kind, .int .u32 (q.tag : Int), .int .u32 (q.id : Int), .int .i64 q.seat, .int .i64 q.ttl] 61 (0, 0)
abbrev rqC (q : Rq) : Obj := .cells #[.int .i64 q.kind, .int .u32 (q.tag : Int), .int .u32 (q.id : Int), .int .i64 q.seat, .int .i64 q.ttl] 61
abbrev rpV (x : Rp) : Value := .agg #[.int .u32 (x.tag : Int), .int .i64 x.kind, .int .i64 x.err, .int .u32 (x.id : Int), .int .i64 x.seat, .int .i64 x.till, .int .i64 x.count]
def rc0 : Rc := ⟨0, 0, 0, 0, 0⟩
def rp0 : Rp := ⟨0, 0, 0, 0, 0, 0, 0⟩
def hasId (k : Int) : Bool := decide (k = 2 ∨ k = 3 ∨ k = 4 ∨ k = 5)
def hasSeat (k : Int) : Bool := decide (k = 1 ∨ k = 4 ∨ k = 6)
def hasTtl (k : Int) : Bool := decide (k = 1 ∨ k = 7)
/-- May a request be? -/
def rqOk (q : Rq) : Bool := (decide (1 ≤ q.kind ∧ q.kind ≤ 10) && (decide (0 ≤ q.seat) && (decide (q.seat ≤ 65535) && decide (0 ≤ q.ttl)))) && ((hasId q.kind || decide (q.id = 0)) && ((hasSeat q.kind || decide (q.seat = 0)) && (hasTtl q.kind || decide (q.ttl = 0))))
def isCh (k : Int) : Bool := decide (k = 1 ∨ k = 2 ∨ k = 3 ∨ k = 4 ∨ k = 7)
def eSeat (b : Bk) (q : Rq) : Nat := if (b.seats : Int) ≤ q.seat then 140 else 0
def eTtl (q : Rq) : Nat := if q.ttl < 1 ∨ 1073741824 < q.ttl then 2 else 0
def eClock (b : Bk) (q : Rq) : Nat := if 1099511627776 < wrap64 (b.clock + q.ttl) then 172 else 0
def eTaken (b : Bk) (q : Rq) : Nat := match bSeat b.L q.seat with
  | none => 0
  | some x => if x.1 = q.id then 0 else 170
def eFull (b : Bk) : Nat := if b.codes ≤ b.L.length ∨ b.next = 4294967295 then 6 else 0
def eKnown (b : Bk) (q : Rq) : Nat := if (bFind b.L q.id).isSome then 0 else 171
/-- How many bytes a record of a kind has. -/
def rSize (k : Int) : Int := if k = 1 then 15 else if k = 2 ∨ k = 3 then 5 else if k = 4 then 7 else if k = 5 then 9 else 0
def eFits (k room : Int) : Nat := if room < 22 + rSize k then 220 else 0
def firstE : List Nat → Nat
  | [] => 0
  | e :: l => if e = 0 then firstE l else e
/-- The record that a change would be. -/
def recOf (b : Bk) (q : Rq) : Rc :=
  if q.kind = 1 then ⟨1, b.next, q.seat, wrap64 (b.clock + q.ttl), 0⟩ else if q.kind = 2 then ⟨2, q.id, 0, 0, 0⟩ else if q.kind = 3 then ⟨3, q.id, 0, 0, 0⟩
  else if q.kind = 4 then ⟨4, q.id, q.seat, 0, 0⟩ else ⟨5, 0, 0, 0, wrap64 (b.clock + q.ttl)⟩
/-- Why a change is refused; 0: it isn't. -/
def refE (b : Bk) (room : Int) (q : Rq) : Nat :=
  if q.kind = 1 then firstE [eSeat b q, eTtl q, eClock b q, eTaken b q, eFull b, eFits 1 room]
  else if q.kind = 2 then firstE [eKnown b q, eFits 2 room] else if q.kind = 3 then firstE [eKnown b q, eFits 3 room]
  else if q.kind = 4 then firstE [eKnown b q, eSeat b q, eTaken b q, eFits 4 room] else firstE [eTtl q, eClock b q, eFits 5 room]
def repOf (q : Rq) (r : Rc) : Rp :=
  if q.kind = 1 then ⟨q.tag, q.kind, 0, r.id, 0, r.till, 0⟩ else if q.kind = 4 then ⟨q.tag, q.kind, 0, 0, r.seat, 0, 0⟩ else if q.kind = 7 then ⟨q.tag, q.kind, 0, 0, 0, r.clock, 0⟩ else ⟨q.tag, q.kind, 0, 0, 0, 0, 0⟩
structure Dec where
  r : Rc
  x : Rp
  yes : Bool
  e : Nat
def decD (b : Bk) (room : Int) (q : Rq) : Dec :=
  if (rqOk q && isCh q.kind) = false then ⟨rc0, rp0, false, 200⟩ else if refE b room q = 0 then ⟨recOf b q, repOf q (recOf b q), true, 0⟩ else ⟨rc0, ⟨q.tag, q.kind, (refE b room q : Nat), 0, 0, 0, 0⟩, false, 0⟩
abbrev decV (d : Dec) : Value := .tuple #[rcV d.r, rpV d.x, .bool d.yes, .int .i64 (d.e : Int)]
structure Ans where
  x : Rp
  e : Nat
/-- What a question is answered. -/
def ansD (b : Bk) (q : Rq) : Ans :=
  if rqOk q = false then ⟨rp0, 200⟩
  else if q.kind = 5 then (match bFind b.L q.id with
    | none => ⟨⟨q.tag, q.kind, 171, 0, 0, 0, 0⟩, 0⟩
    | some x => ⟨⟨q.tag, q.kind, 0, 0, x.2.1, x.2.2, 0⟩, 0⟩)
  else if q.kind = 6 then (if (b.seats : Int) ≤ q.seat then ⟨⟨q.tag, q.kind, 140, 0, 0, 0, 0⟩, 0⟩ else match bSeat b.L q.seat with
    | none => ⟨⟨q.tag, q.kind, 171, 0, 0, 0, 0⟩, 0⟩
    | some x => ⟨⟨q.tag, q.kind, 0, x.1, 0, x.2.2, 0⟩, 0⟩)
  else if q.kind = 10 then ⟨⟨q.tag, q.kind, 0, 0, 0, 0, (b.L.length : Int)⟩, 0⟩
  else ⟨rp0, 200⟩
abbrev ansV (a : Ans) : Value := .tuple #[rpV a.x, .int .i64 (a.e : Int)]
theorem rqOk_kind {q : Rq} (h : rqOk q = true) : 1 ≤ q.kind ∧ q.kind ≤ 10 := by unfold rqOk at h; simp at h; exact h.1.1
theorem rqOk_seat {q : Rq} (h : rqOk q = true) : 0 ≤ q.seat ∧ q.seat ≤ 65535 := by unfold rqOk at h; simp at h; exact ⟨h.1.2.1, h.1.2.2.1⟩
theorem rqOk_ttl {q : Rq} (h : rqOk q = true) : 0 ≤ q.ttl := by unfold rqOk at h; simp at h; exact h.1.2.2.2
theorem rqOk_id {q : Rq} (h : rqOk q = true) (k : q.kind = 1) : q.id = 0 := by unfold rqOk at h; rw [k] at h; simp [hasId] at h; exact h.2.1
end Go.Proofs.YtebdcahjlcgonaaGreat.Cs
namespace Go.Proofs.YtebdcahjlcgonaaGreat.Bk
open Go.Shelf Go.RowKit
attribute [local go_sem] Oper.semAt_some
theorem getElem_dflt (L : List Bo) (k : Nat) (h : k < L.length) : L[k] = L.getD k (0, 0, 0) := by
  rw [List.getD_eq_getElem?_getD, List.getElem?_eq_getElem h]; rfl
theorem take_next {L M : List Bo} {k : Nat} (h : L.take k = M.take k) (hl : k < L.length) (hm : k < M.length) (e : L.getD k (0, 0, 0) = M.getD k (0, 0, 0)) : L.take (k + 1) = M.take (k + 1) := by
  rw [← take_snocS hl, ← take_snocS hm, h, e]
set_option maxRecDepth 100000 in
set_option maxHeartbeats 2000000 in
theorem same_ok {w : World} {va vb : Value} {L M : List Bo} (h1 : Bos w va L) (h2 : Bos w vb M) (hn : L.length ≤ 1000000) (hm : M.length ≤ 1000000) : Calls Tryz.prog 62 #[va, vb] w fun e w' => e = .returned (.bool (decide (L = M))) ∧ Fr (fun _ => False) w w' := by
  obtain ⟨a1, c1, e1⟩ : ∃ a c, va = .slice a L.length c := by
    rcases h1.2 with ⟨rfl, h0⟩ | ⟨g, cap, cur, rfl, _⟩
    · exact ⟨none, 0, by rw [h0]⟩
    · exact ⟨_, _, rfl⟩
  obtain ⟨a2, c2, e2⟩ : ∃ a c, vb = .slice a M.length c := by
    rcases h2.2 with ⟨rfl, h0⟩ | ⟨g, cap, cur, rfl, _⟩
    · exact ⟨none, 0, by rw [h0]⟩
    · exact ⟨_, _, rfl⟩
  subst e1; subst e2
  obtain ⟨n, hnn⟩ : ∃ n, n = L.length := ⟨_, rfl⟩
  obtain ⟨m, hmm⟩ : ∃ m, m = M.length := ⟨_, rfl⟩
  rw [← hnn] at h1 hn
  rw [← hmm] at h2 hm
  rw [← hnn, ← hmm]
  by_cases hlen : n = m
  · subst hlen
    have H1 := Lib.hid h1; have H2 := Lib.hid h2; have HN := Lib.hid hnn; have HMm := Lib.hid hmm; have Hn6 := Lib.hid hn
    have hne : ((n : Int) != (n : Int)) = false := by simp
    clear h1 h2 hnn hmm hm hn
    go_enter Tryz.func62, Tryz.ntmps62
    go_wp2_with fail
    go_loopw [5] (fun s5 wr => ∃ k : Nat, k ≤ n ∧ s5 = .int .i64 k ∧ L.take k = M.take k ∧ Fr (fun _ => False) w wr) (fun s5 _ => n - (intOf s5).toNat)
    case atStart => exact ⟨0, Nat.zero_le _, rfl, rfl, Fr.refl _ _⟩
    case round =>
      obtain ⟨k, hk, rfl, htk, hfr⟩ := hrel
      have Htk := Lib.hid htk; have Hfr := Lib.hid hfr
      clear htk hne
      by_cases hlt : k < n
      · have hlt' : (k : Int) < (n : Int) := by omega
        have k0 : (0 : Int) ≤ (k : Int) := by omega
        have hL' : Bos wr (.slice a1 n c1) L := by have := H1.out; exact Row.fr this hfr (fun _ _ h => h)
        have hM' : Bos wr (.slice a2 n c2) M := by have := H2.out; exact Row.fr this hfr (fun _ _ h => h)
        obtain ⟨g, cap, e1, d0, d1, d2⟩ := hL'.cells (k := k) (by rw [← HN.out]; exact hlt)
        obtain ⟨g', cap', e2, b0, b1, b2⟩ := hM'.cells (k := k) (by rw [← HMm.out]; exact hlt)
        rw [getElem_dflt L k (by rw [← HN.out]; exact hlt)] at d0 d1 d2
        rw [getElem_dflt M k (by rw [← HMm.out]; exact hlt)] at b0 b1 b2
        simp only [Value.slice.injEq] at e1 e2
        obtain ⟨rfl, -, rfl⟩ := e1
        obtain ⟨rfl, -, rfl⟩ := e2
        obtain ⟨x, hx⟩ : ∃ x, x = L.getD k (0, 0, 0) := ⟨_, rfl⟩
        obtain ⟨y, hy⟩ : ∃ y, y = M.getD k (0, 0, 0) := ⟨_, rfl⟩
        rw [← hx] at d0 d1 d2
        rw [← hy] at b0 b1 b2
        have hq := fun W => neqBo W x y
        obtain ⟨k1, hk1⟩ : ∃ k1, k1 = k + 1 := ⟨_, rfl⟩
        have e1 : (k : Int) + 1 = (k1 : Int) := by omega
        have e2 : wrap64 (k1 : Int) = (k1 : Int) := by unfold wrap64; have := Hn6.out; omega
        have e3 : IntKind.i64.wrap (k1 : Int) = (k1 : Int) := by rw [IntKind.wrap_i64]; have := Hn6.out; omega
        have HX := Lib.hid hx; have HY := Lib.hid hy; have HK1 := Lib.hid hk1; have Hlt := Lib.hid hlt
        clear hx hy hk1 hlt hk hL' hM' hfr
        by_cases e : x = y
        · rw [decide_eq_true e] at hq
          have He := Lib.hid e
          clear e
          go_upto_region 6 with fail
          go_still (by kernel_rfl)
          go_wp2_with fail
          go_roundw
          case rel => exact ⟨k1, by have := HK1.out; have := Hlt.out; omega, rfl, by rw [HK1.out]; exact take_next Htk.out (by rw [← HN.out]; exact Hlt.out) (by rw [← HMm.out]; exact Hlt.out) (by rw [← HX.out, ← HY.out]; exact He.out), Hfr.out.drew⟩
          case measure => have := HK1.out; have := Hlt.out; simp [intOf]; omega
        · rw [decide_eq_false e] at hq
          have He := Lib.hid e
          clear e
          go_upto_region 6 with fail
          go_still (by kernel_rfl)
          go_wp2_with fail
          go_ret
          refine ⟨?_, Hfr.out.drew⟩
          have : ¬ L = M := fun h => He.out (by rw [HX.out, HY.out, h])
          rw [decide_eq_false this]; rfl
      · obtain rfl : k = n := by omega
        clear hlt hk
        go_wp2_with fail
        go_ret
        refine ⟨?_, Hfr.out⟩
        have : L = M := by
          have := Htk.out
          rw [List.take_of_length_le (by rw [← HN.out]; exact Nat.le_refl _), List.take_of_length_le (by rw [← HMm.out]; exact Nat.le_refl _)] at this
          exact this
        rw [decide_eq_true this]; rfl
  · have hd : decide (L = M) = false := decide_eq_false (fun e => hlen (by rw [hnn, hmm, e]))
    rw [hd]
    have hne : ((n : Int) != (m : Int)) = true := by simp; omega
    clear h1 h2 hnn hmm hm hn hd hlen
    go_enter Tryz.func62, Tryz.ntmps62
    go_wp2_with fail
    go_ret
    exact ⟨rfl, Fr.refl _ _⟩
set_option maxRecDepth 100000 in
set_option maxHeartbeats 2000000 in
theorem equals_ok {w : World} {va vb : Value} {L M : List Bo} (h1 : Bos w va L) (h2 : Bos w vb M) (hn : L.length ≤ 1000000) (hm : M.length ≤ 1000000) : Calls Tryz.prog 57 #[va, vb] w fun e w' => e = .returned (.bool (decide (L = M))) ∧ Fr (fun _ => False) w w' := by
  obtain ⟨a1, c1, e1⟩ : ∃ a c, va = .slice a L.length c := by
    rcases h1.2 with ⟨rfl, h0⟩ | ⟨g, cap, cur, rfl, _⟩
    · exact ⟨none, 0, by rw [h0]⟩
    · exact ⟨_, _, rfl⟩
  obtain ⟨a2, c2, e2⟩ : ∃ a c, vb = .slice a M.length c := by
    rcases h2.2 with ⟨rfl, h0⟩ | ⟨g, cap, cur, rfl, _⟩
    · exact ⟨none, 0, by rw [h0]⟩
    · exact ⟨_, _, rfl⟩
  subst e1; subst e2
  obtain ⟨n, hnn⟩ : ∃ n, n = L.length := ⟨_, rfl⟩
  obtain ⟨m, hmm⟩ : ∃ m, m = M.length := ⟨_, rfl⟩
  rw [← hnn] at h1 hn
  rw [← hmm] at h2 hm
  rw [← hnn, ← hmm]
  by_cases hlen : n = m
  · subst hlen
    have H1 := Lib.hid h1; have H2 := Lib.hid h2; have HN := Lib.hid hnn; have HMm := Lib.hid hmm; have Hn6 := Lib.hid hn
    have hne : ((n : Int) != (n : Int)) = false := by simp
    clear h1 h2 hnn hmm hm hn
    go_enter Tryz.func57, Tryz.ntmps57
    go_wp2_with fail
    go_loopw [13] (fun s5 wr => ∃ k : Nat, k ≤ n ∧ s5 = .int .i64 k ∧ L.take k = M.take k ∧ Fr (fun _ => False) w wr) (fun s5 _ => n - (intOf s5).toNat)
    case atStart => exact ⟨0, Nat.zero_le _, rfl, rfl, Fr.refl _ _⟩
    case round =>
      obtain ⟨k, hk, rfl, htk, hfr⟩ := hrel
      have Htk := Lib.hid htk; have Hfr := Lib.hid hfr
      clear htk hne
      by_cases hlt : k < n
      · have hlt' : (k : Int) < (n : Int) := by omega
        have k0 : (0 : Int) ≤ (k : Int) := by omega
        have hL' : Bos wr (.slice a1 n c1) L := by have := H1.out; exact Row.fr this hfr (fun _ _ h => h)
        have hM' : Bos wr (.slice a2 n c2) M := by have := H2.out; exact Row.fr this hfr (fun _ _ h => h)
        obtain ⟨g, cap, e1, d0, d1, d2⟩ := hL'.cells (k := k) (by rw [← HN.out]; exact hlt)
        obtain ⟨g', cap', e2, b0, b1, b2⟩ := hM'.cells (k := k) (by rw [← HMm.out]; exact hlt)
        rw [getElem_dflt L k (by rw [← HN.out]; exact hlt)] at d0 d1 d2
        rw [getElem_dflt M k (by rw [← HMm.out]; exact hlt)] at b0 b1 b2
        simp only [Value.slice.injEq] at e1 e2
        obtain ⟨rfl, -, rfl⟩ := e1
        obtain ⟨rfl, -, rfl⟩ := e2
        obtain ⟨x, hx⟩ : ∃ x, x = L.getD k (0, 0, 0) := ⟨_, rfl⟩
        obtain ⟨y, hy⟩ : ∃ y, y = M.getD k (0, 0, 0) := ⟨_, rfl⟩
        rw [← hx] at d0 d1 d2
        rw [← hy] at b0 b1 b2
        have hq := fun W => neqBo W x y
        obtain ⟨k1, hk1⟩ : ∃ k1, k1 = k + 1 := ⟨_, rfl⟩
        have e1 : (k : Int) + 1 = (k1 : Int) := by omega
        have e2 : wrap64 (k1 : Int) = (k1 : Int) := by unfold wrap64; have := Hn6.out; omega
        have e3 : IntKind.i64.wrap (k1 : Int) = (k1 : Int) := by rw [IntKind.wrap_i64]; have := Hn6.out; omega
        have HX := Lib.hid hx; have HY := Lib.hid hy; have HK1 := Lib.hid hk1; have Hlt := Lib.hid hlt
        clear hx hy hk1 hlt hk hL' hM' hfr
        by_cases e : x = y
        · rw [decide_eq_true e] at hq
          have He := Lib.hid e
          clear e
          go_upto_region 6 with fail
          go_still (by kernel_rfl)
          go_wp2_with fail
          go_roundw
          case rel => exact ⟨k1, by have := HK1.out; have := Hlt.out; omega, rfl, by rw [HK1.out]; exact take_next Htk.out (by rw [← HN.out]; exact Hlt.out) (by rw [← HMm.out]; exact Hlt.out) (by rw [← HX.out, ← HY.out]; exact He.out), Hfr.out.drew⟩
          case measure => have := HK1.out; have := Hlt.out; simp [intOf]; omega
        · rw [decide_eq_false e] at hq
          have He := Lib.hid e
          clear e
          go_upto_region 6 with fail
          go_still (by kernel_rfl)
          go_wp2_with fail
          go_ret
          refine ⟨?_, Hfr.out.drew⟩
          have : ¬ L = M := fun h => He.out (by rw [HX.out, HY.out, h])
          rw [decide_eq_false this]; rfl
      · obtain rfl : k = n := by omega
        clear hlt hk
        go_wp2_with fail
        go_ret
        refine ⟨?_, Hfr.out⟩
        have : L = M := by
          have := Htk.out
          rw [List.take_of_length_le (by rw [← HN.out]; exact Nat.le_refl _), List.take_of_length_le (by rw [← HMm.out]; exact Nat.le_refl _)] at this
          exact this
        rw [decide_eq_true this]; rfl
  · have hd : decide (L = M) = false := decide_eq_false (fun e => hlen (by rw [hnn, hmm, e]))
    rw [hd]
    have hne : ((n : Int) != (m : Int)) = true := by simp; omega
    clear h1 h2 hnn hmm hm hn hd hlen
    go_enter Tryz.func57, Tryz.ntmps57
    go_wp2_with fail
    go_ret
    exact ⟨rfl, Fr.refl _ _⟩
end Go.Proofs.YtebdcahjlcgonaaGreat.Bk
namespace Go.Proofs.YtebdcahjlcgonaaGreat.Bk
theorem holdE_ne {b : Bk} {r : Rc} (h : holdE b r ≠ 0) : holdB b r = b := by unfold holdB; rw [if_neg h]
/-- What is refused changes nothing. -/
theorem appE_ne {b : Bk} {r : Rc} (h : appE b r ≠ 0) : appB b r = b := by
  unfold appE at h; unfold appB
  by_cases h0 : recB r = false
  · rw [if_pos h0]
  rw [if_neg h0] at h ⊢
  by_cases k1 : r.kind = 1
  · rw [if_pos k1] at h ⊢; exact holdE_ne h
  rw [if_neg k1] at h ⊢
  by_cases k5 : r.kind = 5
  · rw [if_pos k5] at h ⊢
    unfold tickE at h; unfold tickB
    by_cases hc : r.clock ≤ b.clock
    · rw [if_pos hc]
    · rw [if_neg hc] at h; exact absurd rfl h
  rw [if_neg k5] at h ⊢
  cases hf : bFind b.L r.id with
  | none => rfl
  | some x =>
    rw [hf] at h
    simp only at h ⊢
    by_cases k4 : r.kind = 4
    · rw [if_pos k4] at h
      rw [if_neg (by omega), if_neg (by omega)]
      unfold seatB; rw [if_neg h]
    · rw [if_neg k4] at h; exact absurd rfl h
theorem appB_seats (b : Bk) (r : Rc) : (appB b r).seats = b.seats ∧ (appB b r).codes = b.codes ∧ (appB b r).group = b.group := by
  unfold appB
  by_cases h0 : recB r = false
  · rw [if_pos h0]; exact ⟨rfl, rfl, rfl⟩
  rw [if_neg h0]
  by_cases k1 : r.kind = 1
  · rw [if_pos k1]; unfold holdB; split <;> exact ⟨rfl, rfl, rfl⟩
  rw [if_neg k1]
  by_cases k5 : r.kind = 5
  · rw [if_pos k5]; unfold tickB; split <;> exact ⟨rfl, rfl, rfl⟩
  rw [if_neg k5]
  cases hf : bFind b.L r.id with
  | none => exact ⟨rfl, rfl, rfl⟩
  | some x =>
    simp only
    by_cases k2 : r.kind = 2
    · rw [if_pos k2]; exact ⟨rfl, rfl, rfl⟩
    rw [if_neg k2]
    by_cases k3 : r.kind = 3
    · rw [if_pos k3]; exact ⟨rfl, rfl, rfl⟩
    rw [if_neg k3]
    unfold seatB; split <;> exact ⟨rfl, rfl, rfl⟩
/-- An id 0 of a hold stands for the next one. -/
def fixR (b : Bk) (r : Rc) : Rc := if r.kind = 1 ∧ r.id = 0 then { r with id := b.next } else r
theorem fixR_id {b : Bk} (h : Raw b) {r : Rc} (hr : r.id < 4294967296) : (fixR b r).id < 4294967296 := by
  unfold fixR; split
  · exact h.n1
  · exact hr
def madeB (b : Bk) (R : List Rc) : Bk := R.foldl (fun b r => appB b (fixR b r)) b
def goB (b : Bk) (R : List Rc) : Bk := R.foldl appB b
theorem madeB_snoc (b : Bk) (R : List Rc) (r : Rc) : madeB b (R ++ [r]) = appB (madeB b R) (fixR (madeB b R) r) := by simp [madeB, List.foldl_append]
theorem goB_snoc (b : Bk) (R : List Rc) (r : Rc) : goB b (R ++ [r]) = appB (goB b R) r := by simp [goB, List.foldl_append]
theorem madeB_ok {R : List Rc} : ∀ {b : Bk}, Ok b → Ok (madeB b R) := by
  induction R with
  | nil => intro b h; exact h
  | cons r R ih => intro b h; exact ih (app_ok h)
theorem goB_ok {R : List Rc} : ∀ {b : Bk}, Ok b → Ok (goB b R) := by
  induction R with
  | nil => intro b h; exact h
  | cons r R ih => intro b h; exact ih (app_ok h)
theorem madeB_seats {R : List Rc} : ∀ {b : Bk}, (madeB b R).seats = b.seats ∧ (madeB b R).codes = b.codes ∧ (madeB b R).group = b.group := by
  induction R with
  | nil => intro b; exact ⟨rfl, rfl, rfl⟩
  | cons r R ih =>
    intro b
    have h1 := ih (b := appB b (fixR b r))
    have h2 := appB_seats b (fixR b r)
    exact ⟨h1.1.trans h2.1, h1.2.1.trans h2.2.1, h1.2.2.trans h2.2.2⟩
theorem bk0_ok {n m q : Nat} (h1 : 1 ≤ n ∧ n ≤ 1024) (h2 : 1 ≤ m ∧ m ≤ 4096) : Ok (bk0 n m q) :=
  ⟨⟨h1.1, h1.2, h2.1, h2.2, Nat.le_refl _, by show 1 < 4294967296; omega, Int.le_refl _, by show (0 : Int) ≤ _; omega, .nil, by simp [bk0], by simp [bk0], .nil, by simp [bk0], Nat.zero_le _⟩, by simp [bk0]⟩
/-! ### How many seats are taken -/
def seatsN (L : List Bo) : Nat → Nat
  | 0 => 0
  | k + 1 => seatsN L k + if (bSeat L (k : Int)).isSome then 1 else 0
theorem seatsN_cons {L : List Bo} {x : Bo} (hx : ∀ y ∈ L, y.2.1 ≠ x.2.1) (h0 : 0 ≤ x.2.1) : ∀ k, seatsN (x :: L) k = seatsN L k + if x.2.1 < (k : Int) then 1 else 0 := by
  have hf : ∀ {j : Int}, (bSeat (x :: L) j).isSome = if x.2.1 = j then true else (bSeat L j).isSome := by
    intro j
    unfold bSeat
    rw [List.find?_cons]
    by_cases e : x.2.1 = j
    · rw [if_pos e]; simp [e]
    · rw [if_neg e, show (x.2.1 == j) = false by simpa using e]
  intro k
  induction k with
  | zero => rw [if_neg (by omega)]; rfl
  | succ k ih =>
    unfold seatsN
    rw [ih, hf]
    by_cases e : x.2.1 = (k : Int)
    · rw [if_pos e]
      have hn : (bSeat L (k : Int)).isSome = false := by
        cases h : bSeat L (k : Int) with
        | none => rfl
        | some y => exact absurd ((bSeat_id h).1.trans e.symm) (hx y (bSeat_id h).2)
      rw [hn]
      rw [if_neg (show ¬ x.2.1 < (k : Int) by omega), if_pos (show x.2.1 < ((k + 1 : Nat) : Int) by omega)]; simp
    · rw [if_neg e]
      by_cases c : x.2.1 < (k : Int)
      · rw [if_pos c, if_pos (show x.2.1 < ((k + 1 : Nat) : Int) by omega)]; omega
      · rw [if_neg c, if_neg (show ¬ x.2.1 < ((k + 1 : Nat) : Int) by omega)]; omega
theorem seatsN_all {n : Nat} : ∀ {L : List Bo}, L.Pairwise (fun x y => x.2.1 ≠ y.2.1) → (∀ x ∈ L, 0 ≤ x.2.1 ∧ x.2.1 < (n : Int)) → seatsN L n = L.length := by
  intro L
  induction L with
  | nil =>
    intro _ _
    have : ∀ k, seatsN [] k = 0 := by intro k; induction k with | zero => rfl | succ k ih => unfold seatsN; rw [ih]; simp [bSeat]
    exact this n
  | cons x L ih =>
    intro hp ha
    have h1 := List.pairwise_cons.1 hp
    have hx := ha x (by simp)
    rw [seatsN_cons (fun y hy => (h1.1 y hy).symm) hx.1, ih h1.2 (fun y hy => ha y (by simp [hy])), if_pos hx.2, List.length_cons]
/-! ### The clock -/
theorem bTick_two (L : List Bo) {a c : Int} (h : a ≤ c) : bTick (bTick L a) c = bTick L c := by
  unfold bTick
  rw [List.filter_filter]
  congr 1; funext x
  rw [Bool.eq_iff_iff]
  simp; omega
def tickR (c : Int) : Rc := ⟨5, 0, 0, 0, c⟩
theorem tickR_rec (c : Int) : recB (tickR c) = decide (1 ≤ c ∧ c ≤ 1099511627776) := by
  have h1 : recB (tickR c) = (decide (1 ≤ c ∧ c ≤ 1099511627776)) := by
    unfold recB tickR
    rw [Bool.eq_iff_iff]; simp
  exact h1
theorem tick_bad {b : Bk} {c : Int} (h : ¬ (1 ≤ c ∧ c ≤ 1099511627776)) : appE b (tickR c) = 160 ∧ appB b (tickR c) = b := by
  have h1 : recB (tickR c) = false := by rw [tickR_rec]; simpa using h
  exact ⟨by unfold appE; rw [if_pos h1], by unfold appB; rw [if_pos h1]⟩
theorem tick_past {b : Bk} {c : Int} (h : 1 ≤ c ∧ c ≤ 1099511627776) (hc : c ≤ b.clock) : appE b (tickR c) = 173 ∧ appB b (tickR c) = b := by
  have h1 : ¬ recB (tickR c) = false := by rw [tickR_rec]; simp; omega
  refine ⟨?_, ?_⟩
  · unfold appE; rw [if_neg h1, if_neg (by show ¬ ((5 : Int) = 1); omega), if_pos (show (tickR c).kind = 5 from rfl)]; unfold tickE; rw [if_pos (show (tickR c).clock ≤ b.clock from hc)]
  · unfold appB; rw [if_neg h1, if_neg (by show ¬ ((5 : Int) = 1); omega), if_pos (show (tickR c).kind = 5 from rfl)]; unfold tickB; rw [if_pos (show (tickR c).clock ≤ b.clock from hc)]
theorem tick_on {b : Bk} {c : Int} (h : 1 ≤ c ∧ c ≤ 1099511627776) (hc : b.clock < c) : appE b (tickR c) = 0 ∧ appB b (tickR c) = { b with L := bTick b.L c, clock := c } := by
  have h1 : ¬ recB (tickR c) = false := by rw [tickR_rec]; simp; omega
  refine ⟨?_, ?_⟩
  · unfold appE; rw [if_neg h1, if_neg (by show ¬ ((5 : Int) = 1); omega), if_pos (show (tickR c).kind = 5 from rfl)]; unfold tickE; rw [if_neg (by show ¬ (c ≤ b.clock); omega)]
  · unfold appB; rw [if_neg h1, if_neg (by show ¬ ((5 : Int) = 1); omega), if_pos (show (tickR c).kind = 5 from rfl)]; unfold tickB; rw [if_neg (by show ¬ (c ≤ b.clock); omega)]; rfl
/-- So in two ticks as in one. -/
theorem tick_two {b : Bk} {a c : Int} (hac : a < c) (h : 1 ≤ c ∧ c ≤ 1099511627776) (hc : b.clock < c) : appE (appB b (tickR a)) (tickR c) = 0 ∧ appB (appB b (tickR a)) (tickR c) = appB b (tickR c) := by
  by_cases ha : 1 ≤ a
  · by_cases hb : b.clock < a
    · have h1 := (tick_on ⟨ha, by omega⟩ hb).2
      rw [h1]
      have h2 := tick_on (b := { b with L := bTick b.L a, clock := a }) h hac
      refine ⟨h2.1, ?_⟩
      rw [h2.2, (tick_on h hc).2]
      show ({ b with L := bTick (bTick b.L a) c, clock := c } : Bk) = _
      rw [bTick_two _ (by omega)]
    · rw [(tick_past ⟨ha, by omega⟩ (by omega)).2]
      exact ⟨(tick_on h hc).1, rfl⟩
  · rw [(tick_bad (by omega)).2]
    exact ⟨(tick_on h hc).1, rfl⟩
theorem bTick_find {b : Bk} (h : Raw b) {c : Int} {x : Bo} (hx : x ∈ b.L) : bFind (bTick b.L c) x.1 = if x.2.2 = 0 ∨ c < x.2.2 then some x else none := by
  have hp : (bTick b.L c).Pairwise fun x y => x.1 < y.1 := pairwise_pred h.up _
  split
  · rename_i hs
    exact (bFind_some hp).2 (List.mem_filter.2 ⟨hx, by simpa using hs⟩)
  · rename_i hs
    cases e : bFind (bTick b.L c) x.1 with
    | none => rfl
    | some y =>
      have h1 := bFind_id e
      have h2 := List.mem_filter.1 h1.2
      have : y = x := uniq_id h.up h2.1 hx h1.1
      subst this
      exact absurd (by simpa using h2.2) hs
end Go.Proofs.YtebdcahjlcgonaaGreat.Bk
namespace Go.Proofs.YtebdcahjlcgonaaGreat.Bk
open Go.Shelf Go.RowKit
attribute [local go_sem] Oper.semAt_some
theorem wpListIn_append_run {F : Fence} {n : Nat} {P : Program} {ops : Array Oper} {Q : Exit → Act → World → Prop} {rest : List Oper} {o : Oper} {a : Act} {w : World} (hgd : o.guard = none) (s x : Operand) (t : TypeId)
    (ho : o.op = .call { callee := .builtin .append, args := #[s, x], argTypes := #[t, t] }) {v u v' : Value} {w' : World} (hs : a.eval s = v) (hx : a.eval x = u)
    (hrun : (Builtin.append_ #[t, t] o.type #[v, u]).run P w = .ok v' w') (h : wpListIn F n P ops Q rest (a.put o.dst v') w') : wpListIn F n P ops Q (o :: rest) a w :=
  wpListIn_plain hgd fun K hK => by
    unfold Oper.wpIn
    refine ⟨?_, ?_⟩
    · simp [Oper.about, ho, resolve, Target.leads, Sem.run_pure]
    · rw [Oper.semAt_plain F _ _ (by rw [ho]; intro c hc'; cases hc')]
      simp [execOp, ho, resolve, invoke, builtin, hs, hx, hrun, Result.andThen]
      exact hK _ _ h
theorem putObj_fr (W : World) (D : Nat) (o : Obj) : Fr (fun b => b = D) W (W.putObj D o) := (grownBy.fr (grownBy_putObj' W D o)).mono (fun b _ e => by cases e; rfl)
/-- What told hands back. -/
def ToldOf (w : World) (S : List Bo) (e : Ending) (w' : World) : Prop := ∃ v, e = .returned (.tuple #[v, .bool true]) ∧ Bos w' v S ∧ (∀ b, v.ownBlock = some b → w.heap.size ≤ b) ∧ Fr (fun _ => False) w w'
set_option maxRecDepth 100000 in
set_option maxHeartbeats 4000000 in
theorem tells_ok {w : World} {cb : Nat} {sv : Value} {S : List Bo} (hL : S.length ≤ 70000) (hs : VSeq w cb sv S) :
    Calls Tryz.prog 59 #[valsV cb] w (ToldOf w S) := by
  have hro : Fence.wide.round = none := rfl
  have h13 : 1 ≤ 3 := by omega
  obtain ⟨W0, hW0⟩ : ∃ W0, W0 = w.alloc (.cells #[.slice none 0 0] 25) := ⟨_, rfl⟩
  obtain ⟨tb, htb⟩ : ∃ tb, tb = w.heap.size := ⟨_, rfl⟩
  have f0 : Fr (fun _ => False) w W0 := by rw [hW0]; exact Fr.alloc (Fr.refl _ _) _
  have hsz : W0.heap.size = w.heap.size + 1 := by rw [hW0]; simp
  obtain ⟨n1, hn1⟩ : ∃ n1, n1 = W0.heap.size := ⟨_, rfl⟩
  have ht0 : ToB n1 tb [] W0 (.slice none 0 0) := by
    rw [hW0, htb]
    exact ⟨heap_alloc_at _ _, World.ownsRow_nil _ _ _ _, by simp [Value.ownBlock]⟩
  have Hq := Lib.hid (show ∀ b, seqP cb sv b → b < tb from fun b hb => by rw [htb]; exact hs.lt b hb)
  have HS := Lib.hid (hs.fr f0 (fun _ _ h => h))
  have q := fun w => run_eql_func_nil (P := Tryz.prog) Tryz.underlying91 w (.func 111) #[] #[.pointer (some ⟨cb, 0, none⟩)]
  have F0 := Lib.hid f0; have HT1 := Lib.hid ht0; have Hsz := Lib.hid (show n1 = tb + 1 by omega); have HL := Lib.hid hL; have Hn1 := Lib.hid hn1; have Htb := Lib.hid htb
  clear hL hs f0 hsz ht0 hn1
  refine (callsIn_wide (n := 3)).1 (callsIn_of_wp_marks Tryz.func59 rfl trivial ?_ hro)
  refine wpIn_wide.2 ?_
  simp only [Tryz.ntmps59, List.size_toArray, List.length_cons, List.length_nil, Nat.reduceAdd, Nat.reduceSub, Array.replicate_succ, Array.replicate_zero, List.push_toArray, List.append_toArray, List.nil_append, List.cons_append]
  go_upto_region 2 with fail
  rw [← hW0, ← htb]
  clear hW0 htb
  go_wp2_with fail
  refine (wpIn_wide (n := 3)).1 ?_
  refine range_boxed hro h13 (gf := 111) (lb := #[.pointer (some ⟨cb, 0, none⟩)]) rfl trivial (enters_of Tryz.func111 (by kernel_rfl) rfl)
    (vals_stops Fence.wide (3 - 1) trivial hro (by omega) HS.out (seqP cb sv) (fun _ h => h)) (fun b hb => by have := Hq.out b hb; have := Hsz.out; have := Hn1.out; omega) (Below.refl _ _) (fun _ => rfl)
    (fun pre W => (∃ v, ToB n1 tb pre W v) ∧ Fr (fun b => tb ≤ b) W0 W)
    (fun _ _ _ => False)
    ?own ?ownx ⟨⟨_, HT1.out⟩, Fr.refl _ _⟩ (fun _ _ h => h.2.size) (fun x => #[.int .u32 (x.1 : Int), .int .i64 x.2.1, .int .i64 x.2.2]) 77 ?a1 ?assign ?body ?done ?stop
  case own =>
    rintro s A B' row ⟨⟨v, hs⟩, hf⟩ hg hr
    have f := grownBy.fr hg
    refine ⟨⟨v, hs.grown hg (fun r e => (hr r e).2)⟩, hf.trans f ?_⟩
    intro i hi e; have := (hr _ e).1; have := Hsz.out; have := Hn1.out; omega
  case ownx =>
    intro c s A B' row hs _ _
    exact hs
  case assign =>
    intro l x W' K hK
    obtain ⟨b, hb⟩ : ∃ b, b = W'.heap.size := ⟨_, rfl⟩
    gi_wp2
    rw [← hb]
    exact hK b hb
  case body =>
    rintro l pre x b W' hbw hbx ⟨⟨v, ht⟩, hfr⟩ hlt
    have hnW : n1 ≤ W'.heap.size := by have := hfr.size; have := Hn1.out; omega
    obtain ⟨a, c, W2, hrun, g1, g2, g3, g4, g5⟩ := ht.app hnW (by have := HL.out; omega) x
    have c3 := (cell_of ht.box 0).trans (show _ = some v from rfl)
    have c4 := (cell_of g1 0).trans (show _ = some v from rfl)
    have y4 := free_of g1 0
    obtain ⟨x0, x1, x2⟩ := box_bo hbx
    have hkb : KeepsB (seqP cb sv) W' (W2.setCell ⟨tb, 0, none⟩ (.slice a (pre.length + 1) c)) := KeepsB.of_fr g3 (fun b hb => by have := Hq.out b hb; have := Hsz.out; omega)
    have hfw := hfr.trans g3 (fun b _ h => show tb ≤ b by have := Hsz.out; omega)
    have Hrun := Lib.hid hrun; have G2 := Lib.hid g2; have Hko := Lib.hid g4; have Hkb := Lib.hid hkb; have Hfw := Lib.hid hfw
    clear hrun g1 g2 g3 g4 g5 ht hfr hkb hfw hlt hnW hbx hbw
    gi_wp2_with (gi_at_builtin; refine wpListIn_append_run rfl _ _ 25 rfl rfl rfl Hrun.out ?_)
    exact ⟨Hko.out.from _, Hkb.out, ⟨_, G2.out⟩, Hfw.out⟩
  case done =>
    rintro D ys W' hD rfl ⟨⟨v, ht⟩, hfr⟩ hK
    have hD1 : tb ≤ D := by have := Hsz.out; have := Hn1.out; omega
    have c3 := (cell_of ht.box 0).trans (show _ = some v from rfl)
    have hvD : v.ownBlock ≠ some D := by
      intro e
      obtain ⟨c, t, z, h3⟩ := Ix.row_obj ht.row e
      rw [hK] at h3; cases h3
    have HT := Lib.hid ht; have Hfr := Lib.hid hfr; have HK := Lib.hid hK; have HD1 := Lib.hid hD1; have HvD := Lib.hid hvD
    clear ht hfr hK hD hD1 hvD
    go_wp2_with fail
    refine ⟨by simp, .inl ⟨_, _, rfl, run_takeDeferred HK.out, ?_⟩⟩
    have fD := putObj_fr W' D (.deferred none)
    refine ⟨.tuple #[v, .bool true], ?_, v, rfl, Row.fr HT.out.row fD (fun b hb e => HvD.out (e ▸ hb)), ?_, ?_⟩
    · simp [results, Tryz.f59, go_sem]
    · intro b hb; have := (HT.out.own b hb).1; have := Hsz.out; have := Htb.out; omega
    · exact Fr.toNew (((F0.out.mono (fun _ _ h => h.elim)).trans Hfr.out (fun b _ h => by rw [← Htb.out]; exact h)).trans fD (fun b _ e => by subst e; rw [← Htb.out]; exact HD1.out))
  case stop =>
    rintro D c pre W' hD hpre h hK
    exact h.elim
end Go.Proofs.YtebdcahjlcgonaaGreat.Bk
namespace Go.Proofs.YtebdcahjlcgonaaGreat
open Go.ChangeShapes Go.WideShapes Go.ChangeAt Go.RowKit Go.Deep
theorem fits_wf {x : Int} (h : (Lit.int .i64 x).wf = true) : Fits x := by
  simp [Lit.wf, IntKind.min, IntKind.max, IntKind.signed, IntKind.bits] at h
  unfold Fits
  omega
/-- The slice value v has n elements, of m numbers each: K i j is the j-th of element i. -/
def IntsAt (w : World) (v : Value) (m : Nat) (K : Nat → Nat → Int) (n : Nat) : Prop :=
  ∃ a c, v = .slice a n c ∧ n ≤ c ∧ c ≤ maxLen ∧ (n = 0 ∨ ∃ b o, a = some ⟨b, o, none⟩ ∧ ∀ i j, i < n → j < m → w.cell? ⟨b, o + i * m + j, none⟩ = some (.int .i64 (K i j)) ∧ Fits (K i j))
theorem IntsAt.fr {w w' : World} {v : Value} {m n : Nat} {K : Nat → Nat → Int} (h : IntsAt w v m K n) {F : Nat → Prop} (hf : Fr F w w') (hF : ∀ b, b < w.heap.size → ¬ F b) (hm : 0 < m) : IntsAt w' v m K n := by
  obtain ⟨a, c, rfl, h1, h2, h3⟩ := h
  refine ⟨a, c, rfl, h1, h2, ?_⟩
  rcases h3 with h3 | ⟨b, o, h3, h4⟩
  · exact .inl h3
  · by_cases h0 : n = 0
    · exact .inl h0
    · refine .inr ⟨b, o, h3, fun i j hi hj => ⟨?_, (h4 i j hi hj).2⟩⟩
      have hb : b < w.heap.size := World.block_lt_of_cell? w _ (h4 0 0 (by omega) hm).1
      rw [hf.cell hb (hF b hb)]
      exact (h4 i j hi hj).1
theorem IntsAt.take {w : World} {a : Option Addr} {c m n k : Nat} {K : Nat → Nat → Int} (h : IntsAt w (.slice a n c) m K n) (hk : k ≤ n) : IntsAt w (.slice a k c) m K k := by
  obtain ⟨a', c', e, h1, h2, h3⟩ := h
  simp only [Value.slice.injEq] at e
  obtain ⟨rfl, _, rfl⟩ := e
  refine ⟨a, c, rfl, by omega, h2, ?_⟩
  rcases h3 with h3 | ⟨b, o, h3, h4⟩
  · left; omega
  · exact .inr ⟨b, o, h3, fun i j hi hj => h4 i j (by omega) hj⟩
section
variable {H : Type} {enc : TypeId × Value → H} {P : Program} {w : World} {base : Nat} {spare : Nat → Bool} {held : Bool}
/-- All fields of a struct are ints, one cell each. -/
def allInts (P : Program) (fs : Array Field) : Bool := (List.range fs.size).all fun i => match fs[i]? with
  | some f => f.offset == i && P.cellsOf f.type == 1 && (match P.underlying f.type with | some (.int .i64) => true | _ => false)
  | none => false
theorem allInts_of {fs : Array Field} (h : allInts P fs = true) (i : Nat) (f : Field) (hi : fs[i]? = some f) : f.offset = i ∧ P.cellsOf f.type = 1 ∧ P.underlying f.type = some (.int .i64) := by
  have hlt : i < fs.size := (Array.getElem?_eq_some_iff.1 hi).1
  have := List.all_eq_true.1 h i (List.mem_range.2 hlt)
  simp only [hi, Bool.and_eq_true, beq_iff_eq] at this
  refine ⟨this.1.1, this.1.2, ?_⟩
  have h2 := this.2
  split at h2
  · assumption
  · cases h2
theorem intsAt_structs {t e : TypeId} {fs : Array Field} {a0 : Option Addr} {len0 cap0 : Nat} {d : DataW H} {p : List MemPlace} (ht : P.underlying t = some (.slice e)) (he : P.underlying e = some (.struct fs))
    (hone : allInts P fs = true) (hC : P.cellsOf e = fs.size) (h0 : 0 < fs.size) (h : DataW.Trod enc P w base spare held t (.slice a0 len0 cap0) d p) :
    ∃ K, IntsAt w (.slice a0 len0 cap0) fs.size K len0 := by
  obtain ⟨fuel, hf⟩ := h
  rcases open_slice ht hf with ⟨hcs, _⟩ | ⟨a, len, cap, m, n, D, Pl, hcs, hb, hl, hm, hmm, hx, hi⟩
  · simp [Value.cells] at hcs
    obtain ⟨rfl, rfl, rfl⟩ := hcs
    exact ⟨fun _ _ => 0, none, 0, rfl, Nat.le_refl _, Nat.zero_le _, .inl rfl⟩
  · simp [Value.cells] at hcs
    obtain ⟨rfl, rfl, rfl⟩ := hcs
    have hlm : len0 ≤ m := by rw [hmm]; split <;> omega
    have cell : ∀ i j, i < len0 → j < fs.size → ∃ x, w.cell? (a.add (i * fs.size + j)) = some (.int .i64 x) ∧ Fits x := by
      intro i j hil hjl
      obtain ⟨cs', hc, ht'⟩ := hi i (by omega)
      rw [hC] at hc
      obtain ⟨ys, n', hn', hy, hlen, hyl, hff⟩ := DataW.trod_struct he ht'
      obtain ⟨_, hcl, hat⟩ := World.cells?_some hc
      have hj := Array.getElem?_eq_getElem hjl
      obtain ⟨ho, hk, hu⟩ := allInts_of hone j _ hj
      have hcell := hat j hjl
      have hv : cs'[j]? = some (cs'[j]'(by omega)) := List.getElem?_eq_getElem (by omega)
      have h1 := hff j _ hj
      rw [ho, hk] at h1
      have hone' : (cs'.drop j).take 1 = [cs'[j]'(by omega)] := by
        rw [List.drop_eq_getElem_cons (by omega)]
        rfl
      rw [hone'] at h1
      have hys : ys[j]? = some (ys[j]'(by omega)) := List.getElem?_eq_getElem (by omega)
      obtain ⟨x, hx1, _, hx3⟩ := DataW.trod_int hu (h1.trans hys)
      refine ⟨x, ?_, fits_wf hx3⟩
      rw [← Go.Deep.add_add, hcell, hv]
      simpa using hx1
    by_cases hz : len0 = 0
    · subst hz; exact ⟨fun _ _ => 0, some a, cap0, rfl, hl, hm, .inl rfl⟩
    · obtain ⟨b, o, sp⟩ := a
      have hsp : sp = none := by
        obtain ⟨x, hx1, _⟩ := cell 0 0 (by omega) h0
        simpa [Addr.add] using World.cell?_spot hx1
      subst hsp
      have cell' : ∀ i j, i < len0 → j < fs.size → ∃ x, w.cell? ⟨b, o + i * fs.size + j, none⟩ = some (.int .i64 x) ∧ Fits x := by
        intro i j hil hjl
        have e : (⟨b, o, none⟩ : Addr).add (i * fs.size + j) = ⟨b, o + i * fs.size + j, none⟩ := by
          unfold Addr.add
          split
          · first | (simp; done) | (simp; omega)
          · simp [Nat.add_assoc]
        rw [← e]
        exact cell i j hil hjl
      refine ⟨fun i j => if h : i < len0 ∧ j < fs.size then (cell' i j h.1 h.2).choose else 0, some ⟨b, o, none⟩, cap0, rfl, hl, hm, .inr ⟨b, o, rfl, ?_⟩⟩
      intro i j hil hjl
      have hsp := (cell' i j hil hjl).choose_spec
      dsimp only
      rw [dif_pos ⟨hil, hjl⟩]
      exact hsp
end
end Go.Proofs.YtebdcahjlcgonaaGreat
namespace Go.Proofs.YtebdcahjlcgonaaGreat
open Go.ChangeShapes Go.WideShapes Go.ChangeAt Go.RowKit Go.Deep
/-- The slice value v has n elements, of m numbers each: K i j is the j-th of element i. -/
def KindsAt (w : World) (v : Value) (m : Nat) (kd : Nat → IntKind) (K : Nat → Nat → Int) (n : Nat) : Prop :=
  ∃ a c, v = .slice a n c ∧ n ≤ c ∧ c ≤ maxLen ∧ (n = 0 ∨ ∃ b o, a = some ⟨b, o, none⟩ ∧ ∀ i j, i < n → j < m → w.cell? ⟨b, o + i * m + j, none⟩ = some (.int (kd j) (K i j)) ∧ (Lit.int (kd j) (K i j)).wf = true)
theorem KindsAt.fr {w w' : World} {v : Value} {m n : Nat} {kd : Nat → IntKind} {K : Nat → Nat → Int} (h : KindsAt w v m kd K n) {F : Nat → Prop} (hf : Fr F w w') (hF : ∀ b, b < w.heap.size → ¬ F b) (hm : 0 < m) : KindsAt w' v m kd K n := by
  obtain ⟨a, c, rfl, h1, h2, h3⟩ := h
  refine ⟨a, c, rfl, h1, h2, ?_⟩
  rcases h3 with h3 | ⟨b, o, h3, h4⟩
  · exact .inl h3
  · by_cases h0 : n = 0
    · exact .inl h0
    · refine .inr ⟨b, o, h3, fun i j hi hj => ⟨?_, (h4 i j hi hj).2⟩⟩
      have hb : b < w.heap.size := World.block_lt_of_cell? w _ (h4 0 0 (by omega) hm).1
      rw [hf.cell hb (hF b hb)]
      exact (h4 i j hi hj).1
theorem KindsAt.take {w : World} {a : Option Addr} {c m n k : Nat} {kd : Nat → IntKind} {K : Nat → Nat → Int} (h : KindsAt w (.slice a n c) m kd K n) (hk : k ≤ n) : KindsAt w (.slice a k c) m kd K k := by
  obtain ⟨a', c', e, h1, h2, h3⟩ := h
  simp only [Value.slice.injEq] at e
  obtain ⟨rfl, _, rfl⟩ := e
  refine ⟨a, c, rfl, by omega, h2, ?_⟩
  rcases h3 with h3 | ⟨b, o, h3, h4⟩
  · left; omega
  · exact .inr ⟨b, o, h3, fun i j hi hj => h4 i j (by omega) hj⟩
section
variable {H : Type} {enc : TypeId × Value → H} {P : Program} {w : World} {base : Nat} {spare : Nat → Bool} {held : Bool}
/-- All fields of a struct are ints, one cell each. -/
def allKinds (P : Program) (kd : Nat → IntKind) (fs : Array Field) : Bool := (List.range fs.size).all fun i => match fs[i]? with
  | some f => f.offset == i && P.cellsOf f.type == 1 && (match P.underlying f.type with | some (.int k) => k == kd i | _ => false)
  | none => false
theorem allKinds_of {kd : Nat → IntKind} {fs : Array Field} (h : allKinds P kd fs = true) (i : Nat) (f : Field) (hi : fs[i]? = some f) : f.offset = i ∧ P.cellsOf f.type = 1 ∧ P.underlying f.type = some (.int (kd i)) := by
  have hlt : i < fs.size := (Array.getElem?_eq_some_iff.1 hi).1
  have := List.all_eq_true.1 h i (List.mem_range.2 hlt)
  simp only [hi, Bool.and_eq_true, beq_iff_eq] at this
  refine ⟨this.1.1, this.1.2, ?_⟩
  have h2 := this.2
  split at h2
  · rename_i hk; rw [hk, eq_of_beq h2]
  · cases h2
theorem kindsAt_structs {kd : Nat → IntKind} {t e : TypeId} {fs : Array Field} {a0 : Option Addr} {len0 cap0 : Nat} {d : DataW H} {p : List MemPlace} (ht : P.underlying t = some (.slice e)) (he : P.underlying e = some (.struct fs))
    (hone : allKinds P kd fs = true) (hC : P.cellsOf e = fs.size) (h0 : 0 < fs.size) (h : DataW.Trod enc P w base spare held t (.slice a0 len0 cap0) d p) :
    ∃ K, KindsAt w (.slice a0 len0 cap0) fs.size kd K len0 := by
  obtain ⟨fuel, hf⟩ := h
  rcases open_slice ht hf with ⟨hcs, _⟩ | ⟨a, len, cap, m, n, D, Pl, hcs, hb, hl, hm, hmm, hx, hi⟩
  · simp [Value.cells] at hcs
    obtain ⟨rfl, rfl, rfl⟩ := hcs
    exact ⟨fun _ _ => 0, none, 0, rfl, Nat.le_refl _, Nat.zero_le _, .inl rfl⟩
  · simp [Value.cells] at hcs
    obtain ⟨rfl, rfl, rfl⟩ := hcs
    have hlm : len0 ≤ m := by rw [hmm]; split <;> omega
    have cell : ∀ i j, i < len0 → j < fs.size → ∃ x, w.cell? (a.add (i * fs.size + j)) = some (.int (kd j) x) ∧ (Lit.int (kd j) x).wf = true := by
      intro i j hil hjl
      obtain ⟨cs', hc, ht'⟩ := hi i (by omega)
      rw [hC] at hc
      obtain ⟨ys, n', hn', hy, hlen, hyl, hff⟩ := DataW.trod_struct he ht'
      obtain ⟨_, hcl, hat⟩ := World.cells?_some hc
      have hj := Array.getElem?_eq_getElem hjl
      obtain ⟨ho, hk, hu⟩ := allKinds_of hone j _ hj
      have hcell := hat j hjl
      have hv : cs'[j]? = some (cs'[j]'(by omega)) := List.getElem?_eq_getElem (by omega)
      have h1 := hff j _ hj
      rw [ho, hk] at h1
      have hone' : (cs'.drop j).take 1 = [cs'[j]'(by omega)] := by
        rw [List.drop_eq_getElem_cons (by omega)]
        rfl
      rw [hone'] at h1
      have hys : ys[j]? = some (ys[j]'(by omega)) := List.getElem?_eq_getElem (by omega)
      obtain ⟨x, hx1, _, hx3⟩ := DataW.trod_int hu (h1.trans hys)
      refine ⟨x, ?_, hx3⟩
      rw [← Go.Deep.add_add, hcell, hv]
      simpa using hx1
    by_cases hz : len0 = 0
    · subst hz; exact ⟨fun _ _ => 0, some a, cap0, rfl, hl, hm, .inl rfl⟩
    · obtain ⟨b, o, sp⟩ := a
      have hsp : sp = none := by
        obtain ⟨x, hx1, _⟩ := cell 0 0 (by omega) h0
        simpa [Addr.add] using World.cell?_spot hx1
      subst hsp
      have cell' : ∀ i j, i < len0 → j < fs.size → ∃ x, w.cell? ⟨b, o + i * fs.size + j, none⟩ = some (.int (kd j) x) ∧ (Lit.int (kd j) x).wf = true := by
        intro i j hil hjl
        have e : (⟨b, o, none⟩ : Addr).add (i * fs.size + j) = ⟨b, o + i * fs.size + j, none⟩ := by
          unfold Addr.add
          split
          · first | (simp; done) | (simp; omega)
          · simp [Nat.add_assoc]
        rw [← e]
        exact cell i j hil hjl
      refine ⟨fun i j => if h : i < len0 ∧ j < fs.size then (cell' i j h.1 h.2).choose else 0, some ⟨b, o, none⟩, cap0, rfl, hl, hm, .inr ⟨b, o, rfl, ?_⟩⟩
      intro i j hil hjl
      have hsp := (cell' i j hil hjl).choose_spec
      dsimp only
      rw [dif_pos ⟨hil, hjl⟩]
      exact hsp
theorem kindsAt_ints {k : IntKind} {t e : TypeId} {a0 : Option Addr} {len0 cap0 : Nat} {d : DataW H} {p : List MemPlace} (ht : P.underlying t = some (.slice e)) (he : P.underlying e = some (.int k))
    (hC : P.cellsOf e = 1) (h : DataW.Trod enc P w base spare held t (.slice a0 len0 cap0) d p) :
    ∃ K, KindsAt w (.slice a0 len0 cap0) 1 (fun _ => k) K len0 := by
  obtain ⟨fuel, hf⟩ := h
  rcases open_slice ht hf with ⟨hcs, _⟩ | ⟨a, len, cap, m, n, D, Pl, hcs, hb, hl, hm, hmm, hx, hi⟩
  · simp [Value.cells] at hcs
    obtain ⟨rfl, rfl, rfl⟩ := hcs
    exact ⟨fun _ _ => 0, none, 0, rfl, Nat.le_refl _, Nat.zero_le _, .inl rfl⟩
  · simp [Value.cells] at hcs
    obtain ⟨rfl, rfl, rfl⟩ := hcs
    have hlm : len0 ≤ m := by rw [hmm]; split <;> omega
    have cell : ∀ i, i < len0 → ∃ x, w.cell? (a.add i) = some (.int k x) ∧ (Lit.int k x).wf = true := by
      intro i hil
      obtain ⟨cs', hc, ht'⟩ := hi i (by omega)
      rw [hC] at hc
      obtain ⟨x, hx1, _, hx3⟩ := DataW.trod_int he ht'
      obtain ⟨_, hcl, hat⟩ := World.cells?_some hc
      have h1 := hat 0 (by omega)
      rw [hx1] at h1
      refine ⟨x, ?_, hx3⟩
      have e1 : (a.add (i * 1)).add 0 = a.add i := by rw [Go.Deep.add_add]; simp
      rw [e1] at h1
      simpa using h1
    by_cases hz : len0 = 0
    · subst hz; exact ⟨fun _ _ => 0, some a, cap0, rfl, hl, hm, .inl rfl⟩
    · obtain ⟨b, o, sp⟩ := a
      have hsp : sp = none := by
        obtain ⟨x, hx1, _⟩ := cell 0 (by omega)
        simpa [Addr.add] using World.cell?_spot hx1
      subst hsp
      have cell' : ∀ i, i < len0 → ∃ x, w.cell? ⟨b, o + i, none⟩ = some (.int k x) ∧ (Lit.int k x).wf = true := by
        intro i hil
        have e : (⟨b, o, none⟩ : Addr).add i = ⟨b, o + i, none⟩ := by
          unfold Addr.add
          split
          · first | (simp; done) | (simp; omega)
          · simp
        rw [← e]
        exact cell i hil
      refine ⟨fun i _ => if h : i < len0 then (cell' i h).choose else 0, some ⟨b, o, none⟩, cap0, rfl, hl, hm, .inr ⟨b, o, rfl, ?_⟩⟩
      intro i j hil hjl
      obtain rfl : j = 0 := by omega
      have hsp := (cell' i hil).choose_spec
      dsimp only
      rw [dif_pos hil, Nat.mul_one, Nat.add_zero]
      exact hsp
end
end Go.Proofs.YtebdcahjlcgonaaGreat
namespace Go.Proofs.YtebdcahjlcgonaaGreat.Bk
open Go.RowKit Go.Shelf
attribute [local go_sem] Oper.semAt_some
/-- A book of one's own. -/
def NewBk (w w' : World) (bb : Nat) (b : Bk) : Prop := ∃ p, BkP p bb b.next b b.L b.L w' ∧ (∀ x, p.own bb x → w.heap.size ≤ x) ∧ Fr (fun _ => False) w w'
theorem NewBk.keep {w w1 w2 : World} {bb : Nat} {b : Bk} (h : NewBk w w1 bb b) (f : Fr (fun _ => False) w1 w2) : NewBk w w2 bb b := by
  obtain ⟨p, h1, h2, h3⟩ := h
  exact ⟨p, h1.keep f, h2, h3.trans f (fun _ _ h => h)⟩
theorem NewBk.fr {w w1 : World} {bb : Nat} {b : Bk} (h : NewBk w w1 bb b) : Fr (fun _ => False) w w1 := by
  obtain ⟨p, h1, h2, h3⟩ := h
  exact h3
theorem NewBk.raw {w w1 : World} {bb : Nat} {b : Bk} (h : NewBk w w1 bb b) : Raw b := by
  obtain ⟨p, h1, h2, h3⟩ := h
  exact h1.raw
/-- A call that changes the book. -/
theorem NewBk.aft {w w1 w2 : World} {p : Pt} {bb : Nat} {b' : Bk} (hn : ∀ x, p.own bb x → w.heap.size ≤ x) (hf : Fr (fun _ => False) w w1) (h : Aft p bb b' w1 w2) : NewBk w w2 bb b' := by
  obtain ⟨p', h1, h2, h3⟩ := h
  refine ⟨p', h1, fun x hx => ?_, Fr.toNew ((hf.mono (G := fun b => w.heap.size ≤ b) (fun _ _ h => h.elim)).trans h2 (fun b _ hb => hn b hb))⟩
  rcases h3 x hx with e | e
  · exact hn x e
  · have := hf.size; omega
def kRc (j : Nat) : IntKind := if j = 1 then .u32 else .i64
def rcAt (K : Nat → Nat → Int) (i : Nat) : Rc := ⟨K i 0, (K i 1).toNat, K i 2, K i 3, K i 4⟩
def rcsOf (K : Nat → Nat → Int) (n : Nat) : List Rc := (List.range n).map (rcAt K)
theorem rcsOf_succ (K : Nat → Nat → Int) (n : Nat) : rcsOf K (n + 1) = rcsOf K n ++ [rcAt K n] := by unfold rcsOf; rw [List.range_succ, List.map_append]; rfl
theorem wf_u32 {x : Int} (h : (Lit.int .u32 x).wf = true) : 0 ≤ x ∧ x < 4294967296 := by
  simp [Lit.wf, IntKind.min, IntKind.max, IntKind.signed, IntKind.bits] at h
  omega
/-- The record at a place of a slice. -/
theorem rc_cells {w : World} {v : Value} {K : Nat → Nat → Int} {n i : Nat} (h : KindsAt w v 5 kRc K n) (hi : i < n) : ∃ g o c, v = .slice (some ⟨g, o, none⟩) n c ∧ w.cell? ⟨g, o + i * 5, none⟩ = some (.int .i64 (rcAt K i).kind) ∧ w.cell? ⟨g, o + i * 5 + 1, none⟩ = some (.int .u32 ((rcAt K i).id : Int)) ∧ w.cell? ⟨g, o + i * 5 + 2, none⟩ = some (.int .i64 (rcAt K i).seat) ∧ w.cell? ⟨g, o + i * 5 + 3, none⟩ = some (.int .i64 (rcAt K i).till) ∧ w.cell? ⟨g, o + i * 5 + 4, none⟩ = some (.int .i64 (rcAt K i).clock) ∧ (rcAt K i).id < 4294967296 := by
  obtain ⟨a, c, rfl, _, _, hor⟩ := h
  obtain ⟨g, o, rfl, hc⟩ := hor.resolve_left (by omega)
  have hu := wf_u32 (hc i 1 hi (by omega)).2
  refine ⟨g, o, c, rfl, (hc i 0 hi (by omega)).1, ?_, (hc i 2 hi (by omega)).1, (hc i 3 hi (by omega)).1, (hc i 4 hi (by omega)).1, by show (K i 1).toNat < _; omega⟩
  rw [(hc i 1 hi (by omega)).1]
  show some (Value.int .u32 (K i 1)) = some (Value.int .u32 ((K i 1).toNat : Int))
  rw [Int.toNat_of_nonneg hu.1]
def bA1 : Bk := { seats := 3, codes := 2, group := 1, next := 2, clock := 0, L := [(1, 0, 10)] }
def bA2 : Bk := { seats := 3, codes := 2, group := 1, next := 2, clock := 10, L := [] }
theorem bA1_eq : appE (bk0 3 2 1) ⟨1, 1, 0, 10, 0⟩ = 0 ∧ appB (bk0 3 2 1) ⟨1, 1, 0, 10, 0⟩ = bA1 := ⟨rfl, rfl⟩
theorem bA1_no : appE bA1 ⟨1, 2, 0, 10, 0⟩ = 170 ∧ appB bA1 ⟨1, 2, 0, 10, 0⟩ = bA1 := ⟨rfl, rfl⟩
theorem bA1_at : atE bA1 0 = .returned (.tuple #[boV (1, 0, 10), .int .i64 0]) := rfl
theorem bA2_eq : appE bA1 ⟨5, 0, 0, 0, 10⟩ = 0 ∧ appB bA1 ⟨5, 0, 0, 0, 10⟩ = bA2 := ⟨rfl, rfl⟩
set_option maxRecDepth 100000 in
set_option maxHeartbeats 2000000 in
theorem awake_ok (w : World) : Calls Tryz.prog 10 #[] w fun e w' => e = .returned (.bool true) ∧ Fr (fun _ => False) w w' := by
  have HN := Lib.hid (show Calls Tryz.prog 13 #[.agg #[.int .i64 3, .int .i64 2, .int .i64 1]] w _ from new_ok w (n := 3) (m := 2) (q := 1) (by omega) (by omega) (by omega))
  go_enter Tryz.func10, Tryz.ntmps10
  go_wp2_with fail
  refine HN.out.mono ?_
  rintro e w1 ⟨p, bb, rfl, hB, hn, f1⟩
  have HB := Lib.hid (show BkP p bb (bk0 3 2 1).next (bk0 3 2 1) (bk0 3 2 1).L (bk0 3 2 1).L w1 from hB)
  have Hn := Lib.hid hn; have F1 := Lib.hid f1
  clear hB hn f1
  go_wp2_with fail
  have HA := Lib.hid (show Calls Tryz.prog 38 #[.pointer (some ⟨bb, 0, none⟩), .agg #[.int .i64 1, .int .u32 1, .int .i64 0, .int .i64 10, .int .i64 0]] w1 _ from apply_ok HB.out (r := ⟨1, 1, 0, 10, 0⟩) (by decide))
  refine HA.out.mono ?_
  rintro e w2 ⟨rfl, ha⟩
  rw [bA1_eq.2] at ha
  rw [bA1_eq.1]
  have hN2 := NewBk.aft Hn.out F1.out ha
  obtain ⟨p2, hB2, hn2, f2⟩ := hN2
  have HB2 := Lib.hid hB2; have Hn2 := Lib.hid hn2; have F2 := Lib.hid f2
  clear ha hB2 hn2 f2
  go_wp2_with fail
  have HA2 := Lib.hid (show Calls Tryz.prog 38 #[.pointer (some ⟨bb, 0, none⟩), .agg #[.int .i64 1, .int .u32 2, .int .i64 0, .int .i64 10, .int .i64 0]] w2 _ from apply_ok HB2.out (r := ⟨1, 2, 0, 10, 0⟩) (by decide))
  refine HA2.out.mono ?_
  rintro e w3 ⟨rfl, ha⟩
  rw [bA1_no.2] at ha
  rw [bA1_no.1]
  obtain ⟨p3, hB3, hn3, f3⟩ := NewBk.aft Hn2.out F2.out ha
  have HB3 := Lib.hid hB3; have Hn3 := Lib.hid hn3; have F3 := Lib.hid f3
  clear ha hB3 hn3 f3
  go_wp2_with fail
  refine (at_ok HB3.out 0).mono ?_
  rintro e w4 ⟨rfl, f4⟩
  rw [bA1_at]
  have HB4 := Lib.hid (HB3.out.keep f4); have F4 := Lib.hid (F3.out.trans f4 (fun _ _ h => h))
  clear f4
  go_upto_region 7 with fail
  obtain ⟨W5, hW5⟩ : ∃ W5, W5 = w4.alloc (.cells #[.int .u32 1, .int .i64 0, .int .i64 10] 77) := ⟨_, rfl⟩
  obtain ⟨xb, hxb⟩ : ∃ xb, xb = w4.heap.size := ⟨_, rfl⟩
  rw [← hW5, ← hxb]
  have f5 : Fr (fun _ => False) w4 W5 := by rw [hW5]; exact Fr.alloc (Fr.refl _ _) _
  have hg : W5.heap[xb]? = some (.cells #[.int .u32 1, .int .i64 0, .int .i64 10] 77 (0, 0)) := by rw [hW5, hxb]; exact heap_alloc_at _ _
  have hB5 := HB4.out.keep f5
  have hlt : ¬ p3.own bb xb := fun h => by have := HB4.out.lt h; omega
  have hA3 : Calls Tryz.prog 38 #[.pointer (some ⟨bb, 0, none⟩), .agg #[.int .i64 5, .int .u32 0, .int .i64 0, .int .i64 0, .int .i64 10]] W5 _ := apply_ok hB5 (r := ⟨5, 0, 0, 0, 10⟩) (by decide)
  have HA3 := Lib.hid hA3; have Hg := Lib.hid hg; have Hlt := Lib.hid hlt; have F5 := Lib.hid (F4.out.trans f5 (fun _ _ h => h))
  clear hA3 hg hlt f5 hW5 hxb hB5
  go_wp2_with fail
  refine HA3.out.mono ?_
  rintro e w6 ⟨rfl, ha⟩
  rw [bA2_eq.2] at ha
  rw [bA2_eq.1]
  have hg6 := (show Aft p3 bb bA2 W5 w6 from ha)
  obtain ⟨pp, _, ff, _⟩ := id hg6
  have hg7 := ff.get Hg.out Hlt.out
  obtain ⟨p6, hB6, hn6, f6⟩ := NewBk.aft Hn3.out F5.out ha
  have x0 := (cell_of hg7 0).trans (show _ = some (Value.int .u32 1) from rfl)
  have x1 := (cell_of hg7 1).trans (show _ = some (Value.int .i64 0) from rfl)
  have x2 := (cell_of hg7 2).trans (show _ = some (Value.int .i64 10) from rfl)
  have hq : ∀ W : World, (binOp .eql 77 (.agg #[.int .u32 1, .int .i64 0, .int .i64 10]) (.agg #[.int .u32 1, .int .i64 0, .int .i64 10])).run Tryz.prog W = .ok (.bool true) W := fun W => eqlBo W (1, 0, 10) (1, 0, 10)
  have HL := Lib.hid (len_ok hB6); have HX := Lib.hid (next_ok hB6); have HC := Lib.hid (clock_ok hB6); have F6 := Lib.hid f6
  clear hg6 ff hg7 hB6 hn6 f6 ha
  go_wp2_with fail
  refine HL.out.mono ?_
  rintro e w7 ⟨rfl, rfl⟩
  go_wp2_with fail
  refine HX.out.mono ?_
  rintro e w8 ⟨rfl, rfl⟩
  go_wp2_with fail
  refine HC.out.mono ?_
  rintro e w9 ⟨rfl, rfl⟩
  go_wp2_with fail
  go_ret
  exact ⟨rfl, F6.out⟩
end Go.Proofs.YtebdcahjlcgonaaGreat.Bk
namespace Go.Proofs.YtebdcahjlcgonaaGreat.Bk
open Go.RowKit Go.Shelf
attribute [local go_sem] Oper.semAt_some
abbrev bkL (n m q nx : Nat) (c : Int) (l : List Bo) : Bk := { seats := n, codes := m, group := q, next := nx, clock := c, L := l }
theorem BkP.next {p : Pt} {bb nx n : Nat} {b : Bk} {LS LD : List Bo} {w : World} (h : BkP p bb nx b LS LD w) (hr : Raw { b with next := n }) (hn : b.next ≤ n) : BkP p bb nx { b with next := n } LS LD w :=
  ⟨h.head, h.set, h.idx, h.row, h.heap, h.map, h.due, by have := h.nh; show p.nh ≤ (n : Int); omega, hr, h.lab⟩
theorem of_err (w : World) {a b c : Int} (h : shOk a b c = false) (nx : Nat) (cl : Int) (v : Value) : Calls Tryz.prog 12 #[shV a b c, .int .u32 (nx : Int), .int .i64 cl, v] w fun e w' => e = .returned (.tuple #[.pointer none, .int .i64 90]) ∧ Fr (fun _ => False) w w' := by
  obtain ⟨W, hW⟩ : ∃ W, W = w.alloc (.cells #[.int .i64 a, .int .i64 b, .int .i64 c] 23) := ⟨_, rfl⟩
  obtain ⟨z, hz⟩ : ∃ z, z = w.heap.size := ⟨_, rfl⟩
  have f0 : Fr (fun _ => False) w W := by rw [hW]; exact Fr.alloc (Fr.refl _ _) _
  have hg : W.heap[z]? = some (.cells #[.int .i64 a, .int .i64 b, .int .i64 c] 23 (0, 0)) := by rw [hW, hz]; exact heap_alloc_at _ _
  have z0 := (cell_of hg 0).trans (show _ = some (Value.int .i64 a) from rfl)
  have z1 := (cell_of hg 1).trans (show _ = some (Value.int .i64 b) from rfl)
  have z2 := (cell_of hg 2).trans (show _ = some (Value.int .i64 c) from rfl)
  have HN := Lib.hid (new_err W h); have F0 := Lib.hid f0
  clear hg f0 h
  go_enter Tryz.func12, Tryz.ntmps12
  go_upto_region 1 with fail
  rw [← hW, ← hz]
  clear hW hz
  go_wp2_with fail
  refine HN.out.mono ?_
  rintro e w1 ⟨rfl, f1⟩
  have F1 := Lib.hid (F0.out.trans f1 (fun _ _ h => h))
  clear f1 z0 z1 z2
  go_wp2_with fail
  refine bodyPost_ret (v := .tuple #[.pointer none, .int .i64 90]) ?_ rfl ⟨rfl, F1.out⟩
  simp [results, Tryz.f12, go_sem]
theorem bos_slice {w : World} {v : Value} {L : List Bo} (h : Bos w v L) : ∃ a c, v = .slice a L.length c := by
  rcases h.2 with ⟨rfl, h0⟩ | ⟨g, cap, cur, rfl, _⟩
  · exact ⟨none, 0, by rw [h0]⟩
  · exact ⟨_, _, rfl⟩
set_option maxRecDepth 100000 in
set_option maxHeartbeats 2000000 in
theorem of_bad (w : World) {n m q : Nat} (h1 : 1 ≤ n ∧ n ≤ 1024) (h2 : 1 ≤ m ∧ m ≤ 4096) (h3 : 1 ≤ q ∧ q ≤ 64) {nx : Nat} {cl : Int} {a : Option Addr} {k c : Nat} (hb : nx < 1 ∨ cl < 0 ∨ 1099511627776 < cl ∨ m < k) (_hk : k ≤ 1000000000) : Calls Tryz.prog 12 #[shV n m q, .int .u32 (nx : Int), .int .i64 cl, .slice a k c] w fun e w' => e = .returned (.tuple #[.pointer none, .int .i64 180]) ∧ Fr (fun _ => False) w w' := by
  obtain ⟨W, hW⟩ : ∃ W, W = w.alloc (.cells #[.int .i64 (n : Int), .int .i64 (m : Int), .int .i64 (q : Int)] 23) := ⟨_, rfl⟩
  obtain ⟨z, hz⟩ : ∃ z, z = w.heap.size := ⟨_, rfl⟩
  have f0 : Fr (fun _ => False) w W := by rw [hW]; exact Fr.alloc (Fr.refl _ _) _
  have hg : W.heap[z]? = some (.cells #[.int .i64 (n : Int), .int .i64 (m : Int), .int .i64 (q : Int)] 23 (0, 0)) := by rw [hW, hz]; exact heap_alloc_at _ _
  have z0 := (cell_of hg 0).trans (show _ = some (Value.int .i64 (n : Int)) from rfl)
  have z1 := (cell_of hg 1).trans (show _ = some (Value.int .i64 (m : Int)) from rfl)
  have z2 := (cell_of hg 2).trans (show _ = some (Value.int .i64 (q : Int)) from rfl)
  have HN := Lib.hid (new_ok W h1 h2 h3); have F0 := Lib.hid f0; have Hg := Lib.hid hg
  clear hg f0 h1 h2 h3
  go_enter Tryz.func12, Tryz.ntmps12
  go_upto_region 1 with fail
  rw [← hW, ← hz]
  clear hW hz
  go_wp2_with fail
  refine HN.out.mono ?_
  rintro e w1 ⟨p, bb, rfl, hB, hnew, f1⟩
  have hg1 := f1.get Hg.out (fun h => h)
  clear z0 z1 z2
  have z1 := (cell_of hg1 1).trans (show _ = some (Value.int .i64 (m : Int)) from rfl)
  have F1 := Lib.hid (F0.out.trans f1 (fun _ _ h => h))
  clear f1 hB hnew hg1
  go_upto_region 4 with fail
  go_cut [39] (fun s wx => s = .bool true ∧ Fr (fun _ => False) w wx)
  case first =>
    by_cases e1 : nx < 1
    · have b1 : decide ((nx : Int) < 1) = true := by simp; omega
      have b1' : decide (nx < 1) = true := by simp; omega
      clear hb
      go_wp2_with fail
      go_meet
      exact ⟨rfl, F1.out⟩
    · have b1 : decide ((nx : Int) < 1) = false := by simp; omega
      have b1' : decide (nx < 1) = false := by simp; omega
      have b1'' : decide (nx = 0) = false := by simp; omega
      by_cases e2 : cl < 0
      · have b2 : decide (cl < 0) = true := by simpa using e2
        clear hb
        go_wp2_with fail
        go_meet
        exact ⟨rfl, F1.out⟩
      · have b2 : decide (cl < 0) = false := by simpa using e2
        by_cases e3 : 1099511627776 < cl
        · have b3 : decide (1099511627776 < cl) = true := by simpa using e3
          clear hb
          go_wp2_with fail
          go_meet
          exact ⟨rfl, F1.out⟩
        · have b3 : decide (1099511627776 < cl) = false := by simpa using e3
          have b4 : decide ((m : Int) < (k : Int)) = true := by simp; omega
          have b4' : decide (m < k) = true := by simp; omega
          clear hb
          go_wp2_with fail
          go_meet
          exact ⟨rfl, F1.out⟩
  case rest =>
  obtain ⟨rfl, f2⟩ := hcut
  have F2 := Lib.hid f2
  clear f2 z1
  go_wp2_with fail
  refine bodyPost_ret (v := .tuple #[.pointer none, .int .i64 180]) ?_ rfl ⟨rfl, F2.out⟩
  simp [results, Tryz.f12, go_sem]
/-- What Of hands back. -/
def OfE (w : World) (n m q nx : Nat) (c : Int) (l : List Bo) (e : Ending) (w' : World) : Prop :=
  Fr (fun _ => False) w w' ∧ if ofGo (bkL n m q nx c []) 0 l = true then ∃ p bb, e = .returned (.tuple #[.pointer (some ⟨bb, 0, none⟩), .int .i64 0]) ∧ BkP p bb nx (bkL n m q nx c l) l l w' ∧ (∀ x, p.own bb x → w.heap.size ≤ x) else e = .returned (.tuple #[.pointer none, .int .i64 180])
theorem bkL_raw {n m q nx : Nat} {c : Int} (h1 : 1 ≤ n ∧ n ≤ 1024) (h2 : 1 ≤ m ∧ m ≤ 4096) (hn : 1 ≤ nx ∧ nx < 4294967296) (hc : 0 ≤ c ∧ c ≤ 1099511627776) : Raw (bkL n m q nx c []) :=
  ⟨h1.1, h1.2, h2.1, h2.2, hn.1, hn.2, hc.1, hc.2, .nil, by simp, by simp, .nil, by simp, Nat.zero_le _⟩
set_option maxRecDepth 100000 in
set_option maxHeartbeats 4000000 in
theorem of_ok {w : World} {n m q : Nat} (h1 : 1 ≤ n ∧ n ≤ 1024) (h2 : 1 ≤ m ∧ m ≤ 4096) (h3 : 1 ≤ q ∧ q ≤ 64) {nx : Nat} (hn : 1 ≤ nx ∧ nx < 4294967296) {c : Int} (hc : 0 ≤ c ∧ c ≤ 1099511627776) {v : Value} {l : List Bo} (hv : Bos w v l) (hl : l.length ≤ m) :
    Calls Tryz.prog 12 #[shV n m q, .int .u32 (nx : Int), .int .i64 c, v] w (OfE w n m q nx c l) := by
  obtain ⟨W, hW⟩ : ∃ W, W = w.alloc (.cells #[.int .i64 (n : Int), .int .i64 (m : Int), .int .i64 (q : Int)] 23) := ⟨_, rfl⟩
  obtain ⟨z, hz⟩ : ∃ z, z = w.heap.size := ⟨_, rfl⟩
  have f0 : Fr (fun _ => False) w W := by rw [hW]; exact Fr.alloc (Fr.refl _ _) _
  have hg : W.heap[z]? = some (.cells #[.int .i64 (n : Int), .int .i64 (m : Int), .int .i64 (q : Int)] 23 (0, 0)) := by rw [hW, hz]; exact heap_alloc_at _ _
  have z0 := (cell_of hg 0).trans (show _ = some (Value.int .i64 (n : Int)) from rfl)
  have z1 := (cell_of hg 1).trans (show _ = some (Value.int .i64 (m : Int)) from rfl)
  have z2 := (cell_of hg 2).trans (show _ = some (Value.int .i64 (q : Int)) from rfl)
  obtain ⟨sa, sc, rfl⟩ := bos_slice hv
  obtain ⟨k, hk⟩ : ∃ k, k = l.length := ⟨_, rfl⟩
  rw [← hk] at hv hl
  rw [← hk]
  have HN := Lib.hid (new_ok W h1 h2 h3); have F0 := Lib.hid f0; have Hg := Lib.hid hg
  have HV := Lib.hid hv; have Hk := Lib.hid hk
  have HR0 := Lib.hid (bkL_raw (n := n) (m := m) (q := q) h1 h2 hn hc)
  have b1 : decide ((nx : Int) < 1) = false := by simp; omega
  have b1' : decide (nx < 1) = false := by simp; omega
  have b1'' : decide (nx = 0) = false := by simp; omega
  have b2 : decide (c < 0) = false := by simp; omega
  have b3 : decide (1099511627776 < c) = false := by simp; omega
  have b4 : decide ((m : Int) < (k : Int)) = false := by simp; omega
  have b4' : decide (m < k) = false := by simp; omega
  have Hlm := Lib.hid hl; have Hm := Lib.hid h2; have Hn := Lib.hid hn; have Hc := Lib.hid hc
  clear hg f0 h1 h2 h3 hv hk hn hc hl
  go_enter Tryz.func12, Tryz.ntmps12
  go_upto_region 1 with fail
  rw [← hW, ← hz]
  clear hW hz
  go_wp2_with fail
  refine HN.out.mono ?_
  rintro e w1 ⟨p, bb, rfl, hB, hnew, f1⟩
  have hg1 := f1.get Hg.out (fun h => h)
  clear z0 z1 z2
  have z1 := (cell_of hg1 1).trans (show _ = some (Value.int .i64 (m : Int)) from rfl)
  have F1 := Lib.hid (F0.out.trans f1 (fun _ _ h => h))
  have HB := Lib.hid hB; have Hnew := Lib.hid (show ∀ x, p.own bb x → w.heap.size ≤ x from fun x hx => Nat.le_trans F0.out.size (hnew x hx))
  clear f1 hB hnew hg1
  go_upto_region 4 with fail
  go_cut [39] (fun s wx => s = .bool false ∧ Fr (fun _ => False) w1 wx)
  case first =>
    go_wp2_with fail
    go_meet
    exact ⟨rfl, Fr.refl _ _⟩
  case rest =>
  obtain ⟨rfl, f2⟩ := hcut
  have hB := HB.out.keep f2
  have F2 := Lib.hid (F1.out.trans f2 (fun _ _ h => h))
  have y4 := hB.z 4; have y5 := hB.z 5
  obtain ⟨_, _, _, _, c4, c5, _⟩ := hB.c
  have HB2 := Lib.hid hB
  clear f2 z1 hB b1 b1' b1'' b2 b3 b4 b4'
  go_upto_region 7 with fail
  have hs := ((HB2.out.setNext nx).setClock Hc.out.1 Hc.out.2).next (n := nx) HR0.out Hn.out.1
  have f3 : Fr (fun x => x = bb) wc ((wc.setCell ⟨bb, 5, none⟩ (.int .u32 (nx : Int))).setCell ⟨bb, 4, none⟩ (.int .i64 c)) := Fr.setCell (F := fun x => x = bb) (p := ⟨bb, 4, none⟩) (Fr.setCell (F := fun x => x = bb) (p := ⟨bb, 5, none⟩) (Fr.refl _ _) (fun _ => rfl) _) (fun _ => rfl) _
  obtain ⟨W0, hW0⟩ : ∃ W0, W0 = (wc.setCell ⟨bb, 5, none⟩ (.int .u32 (nx : Int))).setCell ⟨bb, 4, none⟩ (.int .i64 c) := ⟨_, rfl⟩
  rw [← hW0] at hs f3 ⊢
  have Hs := Lib.hid (show BkP p bb nx (bkL n m q nx c []) [] [] W0 from hs)
  have F3 := Lib.hid (show Fr (fun _ => False) w W0 from Fr.toNew ((F2.out.mono (G := fun b => w.heap.size ≤ b) (fun _ _ h => h.elim)).trans f3 (fun b _ e => by rw [e]; exact Hnew.out _ (.inl rfl))))
  clear hs f3 hW0 y4 y5 c4 c5
  go_wp2_with fail
  go_loopw [12, 50] (fun s12 s50 wr => ∃ (p' : Pt) (i last : Nat), s12 = .int .u32 (last : Int) ∧ s50 = .int .i64 (i : Int) ∧ i ≤ k ∧ BkP p' bb nx (bkL n m q nx c (l.take i)) (l.take i) (l.take i) wr ∧ ofGo (bkL n m q nx c (l.take i)) last (l.drop i) = ofGo (bkL n m q nx c []) 0 l ∧ (∀ y ∈ l.take i, y.1 ≤ last) ∧ p'.nh ≤ (i : Int) + 1 ∧ (∀ x, p'.own bb x → w.heap.size ≤ x) ∧ Fr (fun _ => False) w wr) (fun _ s50 _ => k - (intOf s50).toNat)
  case atStart => exact ⟨p, 0, 0, rfl, rfl, Nat.zero_le _, by simpa using Hs.out, by simp, by simp, by have := HB.out.nh; simpa [bk0] using this, Hnew.out, F3.out⟩
  case round =>
    obtain ⟨p', i, last, rfl, rfl, hi, hB, hof, hlast, hnh, hnew, hfr⟩ := hrel
    clear Hs HB HB2 Hnew
    by_cases hlt : i < k
    · have hlt' : (i : Int) < (k : Int) := by omega
      have i0 : (0 : Int) ≤ (i : Int) := by omega
      have hv := Row.fr HV.out hfr (fun _ _ h => h)
      obtain ⟨g, cap, e1, d0, d1, d2⟩ := Bos.cells hv (k := i) (by rw [← Hk.out]; exact hlt)
      obtain ⟨x, hx⟩ : ∃ x, x = l[i]'(by rw [← Hk.out]; exact hlt) := ⟨_, rfl⟩
      rw [← hx] at d0 d1 d2
      simp only [Value.slice.injEq] at e1
      obtain ⟨rfl, -, rfl⟩ := e1
      have HBk := Lib.hid hB; have Hof := Lib.hid hof; have Hla := Lib.hid hlast; have Hnh := Lib.hid hnh; have Hnw := Lib.hid hnew; have Hfr := Lib.hid hfr; have Hd := Lib.hid (show l.drop i = x :: l.drop (i + 1) by rw [hx]; exact List.drop_eq_getElem_cons _)
      have Ht := Lib.hid (show l.take (i + 1) = l.take i ++ [x] by rw [hx]; exact (List.take_append_getElem (by rw [← Hk.out]; exact hlt)).symm)
      have Hlt := Lib.hid hlt
      clear hx
      clear hB hof hlast hnh hnew hfr hlt hv hi
      go_upto_region 11 with fail
      obtain ⟨W1, hW1⟩ : ∃ W1, W1 = wr.alloc (.cells #[.int .u32 (x.1 : Int), .int .i64 x.2.1, .int .i64 x.2.2] 77) := ⟨_, rfl⟩
      obtain ⟨xb, hxb⟩ : ∃ xb, xb = wr.heap.size := ⟨_, rfl⟩
      rw [← hW1, ← hxb]
      have fa : Fr (fun _ => False) wr W1 := by rw [hW1]; exact Fr.alloc (Fr.refl _ _) _
      have hg : W1.heap[xb]? = some (.cells #[.int .u32 (x.1 : Int), .int .i64 x.2.1, .int .i64 x.2.2] 77 (0, 0)) := by rw [hW1, hxb]; exact heap_alloc_at _ _
      obtain ⟨x0, x1, x2⟩ := box_bo hg
      have hm := may_ok (HBk.out.keep fa) x last
      obtain ⟨tb, htb⟩ : ∃ tb, tb = mayB (bkL n m q nx c (l.take i)) nx x last := ⟨_, rfl⟩
      rw [← htb] at hm
      have HM := Lib.hid hm; have Fa := Lib.hid fa; have Hg := Lib.hid hg; have Htb := Lib.hid htb
      have Hxb := Lib.hid hxb
      clear hW1 hxb fa hg hm htb d0 d1 d2
      go_wp2_with fail
      refine HM.out.mono ?_
      rintro e w2 ⟨rfl, f2⟩
      have hg2 := f2.get Hg.out (fun h => h)
      have F2' := Lib.hid (Fa.out.trans f2 (fun _ _ h => h))
      have Hg2 := Lib.hid hg2
      clear x0 x1 x2 f2 hg2
      obtain ⟨x0, x1, x2⟩ := box_bo Hg2.out
      cases tb with
      | false =>
        have HO := Lib.hid (show ofGo (bkL n m q nx c []) 0 l = false by
          rw [← Hof.out, Hd.out]
          show (mayB (bkL n m q nx c (l.take i)) nx x last && _) = false
          rw [← Htb.out]; rfl)
        go_wp2_with fail
        refine bodyPost_ret (v := .tuple #[.pointer none, .int .i64 180]) ?_ rfl ?_
        · simp [results, Tryz.f12, go_sem]
        · exact ⟨Hfr.out.trans F2'.out (fun _ _ h => h), by rw [HO.out]; rfl⟩
      | true =>
        obtain ⟨xi, xk, xt⟩ := x
        have hq := mayB_true Htb.out.symm
        obtain ⟨j, rfl⟩ : ∃ j : Nat, xk = (j : Int) := ⟨xk.toNat, by have := hq.2.2.1; simp only at this; omega⟩
        have hlen : (l.take i).length = i := List.length_take_of_le (by have := Hlt.out; have := Hk.out; omega)
        have hst := of_step HBk.out.raw Htb.out.symm Hla.out (by show (l.take i).length < m; have := Hlt.out; have := Hlm.out; omega)
        have hrl := raw_len hst.1
        have hp := put_ok (HBk.out.keep F2'.out) (n := nx) hst.1 hst.2.1 hst.2.2.1 (by
          have := Hnh.out
          have h2 : (l.take i ++ [((xi, (j : Int), xt) : Bo)]).length + 1 ≤ nx := hrl
          rw [List.length_append, hlen] at h2
          simp only [List.length_cons, List.length_nil] at h2
          omega)
        have Hp := Lib.hid hp
        have Hst := Lib.hid hst.2.2.2
        have HO := Lib.hid (show ofGo (bkL n m q nx c (l.take (i + 1))) xi (l.drop (i + 1)) = ofGo (bkL n m q nx c []) 0 l by
          rw [← Hof.out, Hd.out, Ht.out]
          show _ = (mayB (bkL n m q nx c (l.take i)) nx (xi, (j : Int), xt) last && _)
          rw [← Htb.out]; rfl)
        clear hq hlen hst hrl hp
        go_wp2_with fail
        refine Hp.out.mono ?_
        rintro e w3 ⟨rfl, p3, h3, f3, o3, n3⟩
        have hne : ¬ p'.own bb xb := fun h => by have := HBk.out.lt h; have := Hxb.out; omega
        have hg3 := f3.get Hg2.out hne
        have F3' := Lib.hid (show Fr (fun _ => False) w w3 from Fr.toNew (((Hfr.out.trans F2'.out (fun _ _ h => h)).mono (G := fun b => w.heap.size ≤ b) (fun _ _ h => h.elim)).trans f3 (fun b _ hb => Hnw.out b hb)))
        have H3 := Lib.hid (show BkP p3 bb nx (bkL n m q nx c (l.take (i + 1))) (l.take (i + 1)) (l.take (i + 1)) w3 by rw [Ht.out]; exact h3)
        have Hn3 := Lib.hid (show p3.nh ≤ ((i + 1 : Nat) : Int) + 1 by have := Hnh.out; push_cast; omega)
        have Ho3 := Lib.hid (show ∀ y, p3.own bb y → w.heap.size ≤ y from fun y hy => by
          rcases o3 y hy with e | e
          · exact Hnw.out y e
          · have := Hfr.out.size; have := F2'.out.size; omega)
        clear x0 x1 x2 h3 f3 o3 n3 hne
        obtain ⟨x0, x1, x2⟩ := box_bo (x := (xi, (j : Int), xt)) hg3
        clear hg3
        obtain ⟨k1, hk1⟩ : ∃ k1, k1 = i + 1 := ⟨_, rfl⟩
        have hk5 : k1 ≤ 4096 := by have := Hlt.out; have := Hlm.out; have := Hm.out; omega
        have e1 : (i : Int) + 1 = (k1 : Int) := by omega
        have e2 : wrap64 (k1 : Int) = (k1 : Int) := by unfold wrap64; omega
        have e3 : IntKind.i64.wrap (k1 : Int) = (k1 : Int) := by rw [IntKind.wrap_i64]; omega
        have HK1 := Lib.hid hk1
        rw [← hk1] at H3 HO Hn3 Ht
        clear hk1 hk5
        go_wp2_with fail
        go_roundw
        case rel => exact ⟨p3, k1, xi, rfl, rfl, by have := Hlt.out; have := HK1.out; omega, H3.out, HO.out, by rw [Ht.out]; exact Hst.out, Hn3.out, Ho3.out, F3'.out⟩
        case measure => have := Hlt.out; have := HK1.out; simp [intOf]; omega
    · have hlt' : ¬ (i : Int) < (k : Int) := by omega
      obtain rfl : i = k := by omega
      have et : l.take i = l := List.take_of_length_le (by have := Hk.out; omega)
      have ed : l.drop i = [] := List.drop_eq_nil_of_le (by have := Hk.out; omega)
      rw [et] at hB hof
      rw [ed] at hof
      have HBk := Lib.hid hB; have HO := Lib.hid (show ofGo (bkL n m q nx c []) 0 l = true from hof.symm); have Hnw := Lib.hid hnew; have Hfr := Lib.hid hfr
      clear hB hof hlast hnh hnew hfr et ed hi hlt
      go_wp2_with fail
      refine bodyPost_ret (v := .tuple #[.pointer (some ⟨bb, 0, none⟩), .int .i64 0]) ?_ rfl ?_
      · simp [results, Tryz.f12, go_sem]
      · exact ⟨Hfr.out, by rw [if_pos HO.out]; exact ⟨p', bb, rfl, HBk.out, Hnw.out⟩⟩
end Go.Proofs.YtebdcahjlcgonaaGreat.Bk
namespace Go.Proofs.YtebdcahjlcgonaaGreat.Bk
open Go.RowKit Go.Shelf
attribute [local go_sem] Oper.semAt_some
/-- The head's numbers. -/
def SameC (b : Bk) (nx bb : Nat) (w : World) : Prop := w.cell? ⟨bb, 0, none⟩ = some (.int .i64 (b.seats : Int)) ∧ w.cell? ⟨bb, 1, none⟩ = some (.int .i64 (b.codes : Int)) ∧ w.cell? ⟨bb, 4, none⟩ = some (.int .i64 b.clock) ∧ w.cell? ⟨bb, 5, none⟩ = some (.int .u32 (nx : Int))
theorem BkP.sameC {p : Pt} {bb nx : Nat} {b : Bk} {LS LD : List Bo} {w : World} (h : BkP p bb nx b LS LD w) : SameC b nx bb w := by
  obtain ⟨c0, c1, _, _, c4, c5, _⟩ := h.c
  exact ⟨c0, c1, c4, c5⟩
def sameK (A : Bk) (nx : Nat) (C : Bk) (ny : Nat) : Bool := decide (A.seats = C.seats) && (decide (A.codes = C.codes) && (decide (A.clock = C.clock) && (decide (nx = ny) && decide (A.L = C.L))))
set_option maxRecDepth 100000 in
set_option maxHeartbeats 4000000 in
theorem bsame_no1 {w : World} {q r : Option Addr} (h : NoBook w q) : Calls Tryz.prog 21 #[.pointer q, .pointer r] w fun e w' => e = .returned (.bool false) ∧ Fr (fun _ => False) w w' := by
  have HTa := Lib.hid (fun (w' : World) (f : Fr (fun _ => False) w w') => there_no (h.fr f))
  clear h
  go_enter Tryz.func21, Tryz.ntmps21
  go_upto_region 1 with fail
  simp only [List.append_eq, List.cons_append, List.nil_append]
  go_cut [4] (fun s wx => s = .bool false ∧ Fr (fun _ => False) w wx)
  case first =>
    go_big_quiet ((go_at_call 56; with_reducible exact Calls.quiet_of_same ((HTa.out _ (by first | exact Fr.refl _ _ | exact (Fr.refl _ _).drewN _)).mono fun _ _ h => ⟨h.1, h.2.symm⟩)))
    go_wp2_with fail
    go_meet
    exact ⟨rfl, by first | exact Fr.refl _ _ | exact (Fr.refl _ _).drewN _⟩
  case rest =>
    obtain ⟨rfl, f1⟩ := hcut
    have F1 := Lib.hid f1
    clear f1
    go_wp2_with fail
    go_ret
    exact ⟨rfl, F1.out⟩
set_option maxRecDepth 100000 in
set_option maxHeartbeats 4000000 in
theorem bsame_no2 {p : Pt} {bb nx : Nat} {A : Bk} {LS LD : List Bo} {w : World} {r : Option Addr} (h1 : BkP p bb nx A LS LD w) (h : NoBook w r) : Calls Tryz.prog 21 #[.pointer (some ⟨bb, 0, none⟩), .pointer r] w fun e w' => e = .returned (.bool false) ∧ Fr (fun _ => False) w w' := by
  have HTa := Lib.hid (fun (w' : World) (f : Fr (fun _ => False) w w') => there_ok (h1.keep f))
  have HTb := Lib.hid (fun (w' : World) (f : Fr (fun _ => False) w w') => there_no (h.fr f))
  clear h h1
  go_enter Tryz.func21, Tryz.ntmps21
  go_upto_region 1 with fail
  simp only [List.append_eq, List.cons_append, List.nil_append]
  go_cut [4] (fun s wx => s = .bool false ∧ Fr (fun _ => False) w wx)
  case first =>
    go_big_quiet ((first | (go_at_call 56; with_reducible exact Calls.quiet_of_same ((HTa.out _ (by first | exact Fr.refl _ _ | exact (Fr.refl _ _).drewN _)).mono fun _ _ h => ⟨h.1, h.2.symm⟩)) | (go_at_call 56; with_reducible exact Calls.quiet_of_same ((HTb.out _ (by first | exact Fr.refl _ _ | exact (Fr.refl _ _).drewN _)).mono fun _ _ h => ⟨h.1, h.2.symm⟩))))
    go_wp2_with fail
    go_meet
    exact ⟨rfl, by first | exact Fr.refl _ _ | exact (Fr.refl _ _).drewN _⟩
  case rest =>
    obtain ⟨rfl, f1⟩ := hcut
    have F1 := Lib.hid f1
    clear f1
    go_wp2_with fail
    go_ret
    exact ⟨rfl, F1.out⟩
end Go.Proofs.YtebdcahjlcgonaaGreat.Bk
namespace Go.Proofs.YtebdcahjlcgonaaGreat.Bk
open Go.RowKit Go.Shelf
attribute [local go_sem] Oper.semAt_some
set_option maxRecDepth 100000 in
set_option maxHeartbeats 4000000 in
theorem bsame_all {p q : Pt} {bb cc nx ny : Nat} {A C : Bk} {LD LE : List Bo} {w : World} (h1 : BkP p bb nx A A.L LD w) (h2 : BkP q cc ny C C.L LE w) (e0 : A.seats = C.seats) (e1 : A.codes = C.codes) (e2 : A.clock = C.clock) (e3 : nx = ny) : Calls Tryz.prog 21 #[.pointer (some ⟨bb, 0, none⟩), .pointer (some ⟨cc, 0, none⟩)] w fun e w' => e = .returned (.bool (decide (A.L = C.L))) ∧ Fr (fun _ => False) w w' := by
  have b0 : ((A.seats : Int) == (C.seats : Int)) = true := by rw [beq_iff_eq]; omega
  have b1 : ((A.codes : Int) == (C.codes : Int)) = true := by rw [beq_iff_eq]; omega
  have b2 : (A.clock == C.clock) = true := by rw [beq_iff_eq]; omega
  have b3 : ((nx : Int) == (ny : Int)) = true := by rw [beq_iff_eq]; omega
  clear e0 e1 e2 e3
  have HTa := Lib.hid (fun (w' : World) (f : Fr (fun _ => False) w w') => there_ok (h1.keep f))
  have HTb := Lib.hid (fun (w' : World) (f : Fr (fun _ => False) w w') => there_ok (h2.keep f))
  have HLa := Lib.hid (fun (w' : World) (f : Fr (fun _ => False) w w') => list_ok (h1.keep f))
  have HLb := Lib.hid (fun (w' : World) (f : Fr (fun _ => False) w w') => list_ok (h2.keep f))
  have HSall := Lib.hid (fun (w' : World) (f : Fr (fun _ => False) w w') => And.intro (h1.keep f).sameC (h2.keep f).sameC)
  have HlA := Lib.hid (show A.L.length ≤ 4096 by have := h1.raw.few; have := h1.raw.c1; omega)
  have HlB := Lib.hid (show C.L.length ≤ 4096 by have := h2.raw.few; have := h2.raw.c1; omega)
  obtain ⟨c0, c1, c4, c5⟩ := h1.sameC
  obtain ⟨d0, d1, d4, d5⟩ := h2.sameC
  clear h1 h2
  go_enter Tryz.func21, Tryz.ntmps21
  go_upto_region 1 with fail
  simp only [List.append_eq, List.cons_append, List.nil_append]
  go_cut [4] (fun s wx => s = .bool (decide (A.L = C.L)) ∧ Fr (fun _ => False) w wx)
  case first =>
    refine wp_region_held_drew (S := fun w' => (w'.cell? ⟨bb, 0, none⟩ = some (.int .i64 (A.seats : Int)) ∧ w'.cell? ⟨bb, 1, none⟩ = some (.int .i64 (A.codes : Int)) ∧ w'.cell? ⟨bb, 4, none⟩ = some (.int .i64 A.clock) ∧ w'.cell? ⟨bb, 5, none⟩ = some (.int .u32 (nx : Int))) ∧ (w'.cell? ⟨cc, 0, none⟩ = some (.int .i64 (C.seats : Int)) ∧ w'.cell? ⟨cc, 1, none⟩ = some (.int .i64 (C.codes : Int)) ∧ w'.cell? ⟨cc, 4, none⟩ = some (.int .i64 C.clock) ∧ w'.cell? ⟨cc, 5, none⟩ = some (.int .u32 (ny : Int)))) (by kernel_rfl) (by exact HSall.out _ (Fr.drew (Fr.refl _ _))) (fun hHeld => ?_)
    refine wpAnyH_take (i := 0) (v := ?_) rfl (by kernel_rfl) (by kernel_rfl) (by kernel_rfl) (fun _ _ _ h => h) (Or.inl ⟨by rfl, ?_⟩) (by assumption) ?_
    rotate_left
    · intro w' hSw; (try dsimp only at hSw); go_simp; try with_reducible rfl
    try simp only [Act.put, List.getElem_toArray, List.getElem_cons_zero, List.setIfInBounds_toArray, List.set_cons_zero, List.set_cons_succ]
    refine wpAnyH_ready (rs := [1]) (by kernel_rfl) (by simp) ?_
    refine AllReadyH.cons rfl (fun K hK => ?_) AllReadyH.nil
    go_simp
    refine (HTa.out _ (Fr.drew (Fr.refl _ _))).mono ?_
    rintro e w1 ⟨rfl, rfl⟩
    try go_simp
    refine hK.out _ _ ?_ (fun hHeld => ?_)
    · (try dsimp only); exact HSall.out _ (Fr.drew (Fr.refl _ _))
    clear hK K
    try simp only [Act.put, List.getElem_toArray, List.getElem_cons_zero, List.getElem_cons_succ, List.setIfInBounds_toArray, List.set_cons_zero, List.set_cons_succ]
    refine wpAnyH_take (i := 2) (v := ?_) rfl (by kernel_rfl) (by kernel_rfl) (by kernel_rfl) (fun _ _ _ h => h) (Or.inl ⟨by rfl, ?_⟩) (by assumption) ?_
    rotate_left
    · intro w' hSw; (try dsimp only at hSw); go_simp; try with_reducible rfl
    try simp only [Act.put, List.getElem_toArray, List.getElem_cons_zero, List.getElem_cons_succ, List.setIfInBounds_toArray, List.set_cons_zero, List.set_cons_succ]
    refine wpAnyH_take (i := 3) (v := ?_) rfl (by kernel_rfl) (by kernel_rfl) (by kernel_rfl) (fun _ _ _ h => h) (Or.inl ⟨by rfl, ?_⟩) (by assumption) ?_
    rotate_left
    · intro w' hSw; (try dsimp only at hSw); go_simp; try with_reducible rfl
    try simp only [Act.put, List.getElem_toArray, List.getElem_cons_zero, List.getElem_cons_succ, List.setIfInBounds_toArray, List.set_cons_zero, List.set_cons_succ]
    refine wpAnyH_ready (rs := [4]) (by kernel_rfl) (by simp) ?_
    refine AllReadyH.cons rfl (fun K hK => ?_) AllReadyH.nil
    go_simp
    refine (HTb.out _ (Fr.drew (Fr.refl _ _))).mono ?_
    rintro e w4 ⟨rfl, rfl⟩
    try go_simp
    refine hK.out _ _ ?_ (fun hHeld => ?_)
    · (try dsimp only); exact HSall.out _ (Fr.drew (Fr.refl _ _))
    clear hK K
    try simp only [Act.put, List.getElem_toArray, List.getElem_cons_zero, List.getElem_cons_succ, List.setIfInBounds_toArray, List.set_cons_zero, List.set_cons_succ]
    refine wpAnyH_take (i := 5) (v := ?_) rfl (by kernel_rfl) (by kernel_rfl) (by kernel_rfl) (fun _ _ _ h => h) (Or.inl ⟨by rfl, ?_⟩) (by assumption) ?_
    rotate_left
    · intro w' hSw; (try dsimp only at hSw); go_simp; try with_reducible rfl
    try simp only [Act.put, List.getElem_toArray, List.getElem_cons_zero, List.getElem_cons_succ, List.setIfInBounds_toArray, List.set_cons_zero, List.set_cons_succ]
    refine wpAnyH_take (i := 6) (v := ?_) rfl (by kernel_rfl) (by kernel_rfl) (by kernel_rfl) (fun _ _ _ h => h) (Or.inl ⟨by rfl, ?_⟩) (by assumption) ?_
    rotate_left
    · intro w' hSw; (try dsimp only at hSw); go_simp; try with_reducible rfl
    try simp only [Act.put, List.getElem_toArray, List.getElem_cons_zero, List.getElem_cons_succ, List.setIfInBounds_toArray, List.set_cons_zero, List.set_cons_succ]
    refine wpAnyH_take (i := 7) (v := ?_) rfl (by kernel_rfl) (by kernel_rfl) (by kernel_rfl) (fun _ _ _ h => h) (Or.inl ⟨by rfl, ?_⟩) (by assumption) ?_
    rotate_left
    · intro w' hSw; (try dsimp only at hSw); go_simp; try with_reducible rfl
    try simp only [Act.put, List.getElem_toArray, List.getElem_cons_zero, List.getElem_cons_succ, List.setIfInBounds_toArray, List.set_cons_zero, List.set_cons_succ]
    refine wpAnyH_take (i := 8) (v := ?_) rfl (by kernel_rfl) (by kernel_rfl) (by kernel_rfl) (fun _ _ _ h => h) (Or.inl ⟨by rfl, ?_⟩) (by assumption) ?_
    rotate_left
    · intro w' hSw; (try dsimp only at hSw); go_simp; try with_reducible rfl
    try simp only [Act.put, List.getElem_toArray, List.getElem_cons_zero, List.getElem_cons_succ, List.setIfInBounds_toArray, List.set_cons_zero, List.set_cons_succ]
    refine wpAnyH_take (i := 9) (v := ?_) rfl (by kernel_rfl) (by kernel_rfl) (by kernel_rfl) (fun _ _ _ h => h) (Or.inl ⟨by rfl, ?_⟩) (by assumption) ?_
    rotate_left
    · intro w' hSw; (try dsimp only at hSw); go_simp; try with_reducible rfl
    try simp only [Act.put, List.getElem_toArray, List.getElem_cons_zero, List.getElem_cons_succ, List.setIfInBounds_toArray, List.set_cons_zero, List.set_cons_succ]
    refine wpAnyH_take (i := 10) (v := ?_) rfl (by kernel_rfl) (by kernel_rfl) (by kernel_rfl) (fun _ _ _ h => h) (Or.inl ⟨by rfl, ?_⟩) (by assumption) ?_
    rotate_left
    · intro w' hSw; (try dsimp only at hSw); go_simp; try with_reducible rfl
    try simp only [Act.put, List.getElem_toArray, List.getElem_cons_zero, List.getElem_cons_succ, List.setIfInBounds_toArray, List.set_cons_zero, List.set_cons_succ]
    refine wpAnyH_take (i := 11) (v := ?_) rfl (by kernel_rfl) (by kernel_rfl) (by kernel_rfl) (fun _ _ _ h => h) (Or.inl ⟨by rfl, ?_⟩) (by assumption) ?_
    rotate_left
    · intro w' hSw; (try dsimp only at hSw); go_simp; try with_reducible rfl
    try simp only [Act.put, List.getElem_toArray, List.getElem_cons_zero, List.getElem_cons_succ, List.setIfInBounds_toArray, List.set_cons_zero, List.set_cons_succ]
    refine wpAnyH_take (i := 12) (v := ?_) rfl (by kernel_rfl) (by kernel_rfl) (by kernel_rfl) (fun _ _ _ h => h) (Or.inl ⟨by rfl, ?_⟩) (by assumption) ?_
    rotate_left
    · intro w' hSw; (try dsimp only at hSw); go_simp; try with_reducible rfl
    try simp only [Act.put, List.getElem_toArray, List.getElem_cons_zero, List.getElem_cons_succ, List.setIfInBounds_toArray, List.set_cons_zero, List.set_cons_succ]
    refine wpAnyH_take (i := 13) (v := ?_) rfl (by kernel_rfl) (by kernel_rfl) (by kernel_rfl) (fun _ _ _ h => h) (Or.inl ⟨by rfl, ?_⟩) (by assumption) ?_
    rotate_left
    · intro w' hSw; (try dsimp only at hSw); go_simp; try with_reducible rfl
    try simp only [Act.put, List.getElem_toArray, List.getElem_cons_zero, List.getElem_cons_succ, List.setIfInBounds_toArray, List.set_cons_zero, List.set_cons_succ]
    refine wpAnyH_take (i := 14) (v := ?_) rfl (by kernel_rfl) (by kernel_rfl) (by kernel_rfl) (fun _ _ _ h => h) (Or.inl ⟨by rfl, ?_⟩) (by assumption) ?_
    rotate_left
    · intro w' hSw; (try dsimp only at hSw); go_simp; try with_reducible rfl
    try simp only [Act.put, List.getElem_toArray, List.getElem_cons_zero, List.getElem_cons_succ, List.setIfInBounds_toArray, List.set_cons_zero, List.set_cons_succ]
    refine wpAnyH_take (i := 15) (v := ?_) rfl (by kernel_rfl) (by kernel_rfl) (by kernel_rfl) (fun _ _ _ h => h) (Or.inl ⟨by rfl, ?_⟩) (by assumption) ?_
    rotate_left
    · intro w' hSw; (try dsimp only at hSw); go_simp; try with_reducible rfl
    try simp only [Act.put, List.getElem_toArray, List.getElem_cons_zero, List.getElem_cons_succ, List.setIfInBounds_toArray, List.set_cons_zero, List.set_cons_succ]
    refine wpAnyH_take (i := 16) (v := ?_) rfl (by kernel_rfl) (by kernel_rfl) (by kernel_rfl) (fun _ _ _ h => h) (Or.inl ⟨by rfl, ?_⟩) (by assumption) ?_
    rotate_left
    · intro w' hSw; (try dsimp only at hSw); go_simp; try with_reducible rfl
    try simp only [Act.put, List.getElem_toArray, List.getElem_cons_zero, List.getElem_cons_succ, List.setIfInBounds_toArray, List.set_cons_zero, List.set_cons_succ]
    refine wpAnyH_take (i := 17) (v := ?_) rfl (by kernel_rfl) (by kernel_rfl) (by kernel_rfl) (fun _ _ _ h => h) (Or.inl ⟨by rfl, ?_⟩) (by assumption) ?_
    rotate_left
    · intro w' hSw; (try dsimp only at hSw); go_simp; try with_reducible rfl
    try simp only [Act.put, List.getElem_toArray, List.getElem_cons_zero, List.getElem_cons_succ, List.setIfInBounds_toArray, List.set_cons_zero, List.set_cons_succ]
    refine wpAnyH_take (i := 18) (v := ?_) rfl (by kernel_rfl) (by kernel_rfl) (by kernel_rfl) (fun _ _ _ h => h) (Or.inl ⟨by rfl, ?_⟩) (by assumption) ?_
    rotate_left
    · intro w' hSw; (try dsimp only at hSw); go_simp; try with_reducible rfl
    try simp only [Act.put, List.getElem_toArray, List.getElem_cons_zero, List.getElem_cons_succ, List.setIfInBounds_toArray, List.set_cons_zero, List.set_cons_succ]
    refine wpAnyH_take (i := 19) (v := ?_) rfl (by kernel_rfl) (by kernel_rfl) (by kernel_rfl) (fun _ _ _ h => h) (Or.inl ⟨by rfl, ?_⟩) (by assumption) ?_
    rotate_left
    · intro w' hSw; (try dsimp only at hSw); go_simp; try with_reducible rfl
    try simp only [Act.put, List.getElem_toArray, List.getElem_cons_zero, List.getElem_cons_succ, List.setIfInBounds_toArray, List.set_cons_zero, List.set_cons_succ]
    refine wpAnyH_take (i := 20) (v := ?_) rfl (by kernel_rfl) (by kernel_rfl) (by kernel_rfl) (fun _ _ _ h => h) (Or.inl ⟨by rfl, ?_⟩) (by assumption) ?_
    rotate_left
    · intro w' hSw; (try dsimp only at hSw); go_simp; try with_reducible rfl
    try simp only [Act.put, List.getElem_toArray, List.getElem_cons_zero, List.getElem_cons_succ, List.setIfInBounds_toArray, List.set_cons_zero, List.set_cons_succ]
    refine wpAnyH_take (i := 21) (v := ?_) rfl (by kernel_rfl) (by kernel_rfl) (by kernel_rfl) (fun _ _ _ h => h) (Or.inl ⟨by rfl, ?_⟩) (by assumption) ?_
    rotate_left
    · intro w' hSw; (try dsimp only at hSw); go_simp; try with_reducible rfl
    try simp only [Act.put, List.getElem_toArray, List.getElem_cons_zero, List.getElem_cons_succ, List.setIfInBounds_toArray, List.set_cons_zero, List.set_cons_succ]
    refine wpAnyH_take (i := 22) (v := ?_) rfl (by kernel_rfl) (by kernel_rfl) (by kernel_rfl) (fun _ _ _ h => h) (Or.inl ⟨by rfl, ?_⟩) (by assumption) ?_
    rotate_left
    · intro w' hSw; (try dsimp only at hSw); go_simp; try with_reducible rfl
    try simp only [Act.put, List.getElem_toArray, List.getElem_cons_zero, List.getElem_cons_succ, List.setIfInBounds_toArray, List.set_cons_zero, List.set_cons_succ]
    refine wpAnyH_take (i := 23) (v := ?_) rfl (by kernel_rfl) (by kernel_rfl) (by kernel_rfl) (fun _ _ _ h => h) (Or.inl ⟨by rfl, ?_⟩) (by assumption) ?_
    rotate_left
    · intro w' hSw; (try dsimp only at hSw); go_simp; try with_reducible rfl
    try simp only [Act.put, List.getElem_toArray, List.getElem_cons_zero, List.getElem_cons_succ, List.setIfInBounds_toArray, List.set_cons_zero, List.set_cons_succ]
    refine wpAnyH_take (i := 24) (v := ?_) rfl (by kernel_rfl) (by kernel_rfl) (by kernel_rfl) (fun _ _ _ h => h) (Or.inl ⟨by rfl, ?_⟩) (by assumption) ?_
    rotate_left
    · intro w' hSw; (try dsimp only at hSw); go_simp; try with_reducible rfl
    try simp only [Act.put, List.getElem_toArray, List.getElem_cons_zero, List.getElem_cons_succ, List.setIfInBounds_toArray, List.set_cons_zero, List.set_cons_succ]
    refine wpAnyH_take (i := 25) (v := ?_) rfl (by kernel_rfl) (by kernel_rfl) (by kernel_rfl) (fun _ _ _ h => h) (Or.inl ⟨by rfl, ?_⟩) (by assumption) ?_
    rotate_left
    · intro w' hSw; (try dsimp only at hSw); go_simp; try with_reducible rfl
    try simp only [Act.put, List.getElem_toArray, List.getElem_cons_zero, List.getElem_cons_succ, List.setIfInBounds_toArray, List.set_cons_zero, List.set_cons_succ]
    refine wpAnyH_take (i := 26) (v := ?_) rfl (by kernel_rfl) (by kernel_rfl) (by kernel_rfl) (fun _ _ _ h => h) (Or.inl ⟨by rfl, ?_⟩) (by assumption) ?_
    rotate_left
    · intro w' hSw; (try dsimp only at hSw); go_simp; try with_reducible rfl
    try simp only [Act.put, List.getElem_toArray, List.getElem_cons_zero, List.getElem_cons_succ, List.setIfInBounds_toArray, List.set_cons_zero, List.set_cons_succ]
    refine wpAnyH_take (i := 27) (v := ?_) rfl (by kernel_rfl) (by kernel_rfl) (by kernel_rfl) (fun _ _ _ h => h) (Or.inl ⟨by rfl, ?_⟩) (by assumption) ?_
    rotate_left
    · intro w' hSw; (try dsimp only at hSw); go_simp; try with_reducible rfl
    try simp only [Act.put, List.getElem_toArray, List.getElem_cons_zero, List.getElem_cons_succ, List.setIfInBounds_toArray, List.set_cons_zero, List.set_cons_succ]
    refine wpAnyH_take (i := 28) (v := ?_) rfl (by kernel_rfl) (by kernel_rfl) (by kernel_rfl) (fun _ _ _ h => h) (Or.inl ⟨by rfl, ?_⟩) (by assumption) ?_
    rotate_left
    · intro w' hSw; (try dsimp only at hSw); go_simp; try with_reducible rfl
    try simp only [Act.put, List.getElem_toArray, List.getElem_cons_zero, List.getElem_cons_succ, List.setIfInBounds_toArray, List.set_cons_zero, List.set_cons_succ]
    refine wpAnyH_take (i := 29) (v := ?_) rfl (by kernel_rfl) (by kernel_rfl) (by kernel_rfl) (fun _ _ _ h => h) (Or.inl ⟨by rfl, ?_⟩) (by assumption) ?_
    rotate_left
    · intro w' hSw; (try dsimp only at hSw); go_simp; try with_reducible rfl
    try simp only [Act.put, List.getElem_toArray, List.getElem_cons_zero, List.getElem_cons_succ, List.setIfInBounds_toArray, List.set_cons_zero, List.set_cons_succ]
    refine wpAnyH_take (i := 30) (v := ?_) rfl (by kernel_rfl) (by kernel_rfl) (by kernel_rfl) (fun _ _ _ h => h) (Or.inl ⟨by rfl, ?_⟩) (by assumption) ?_
    rotate_left
    · intro w' hSw; (try dsimp only at hSw); go_simp; try with_reducible rfl
    try simp only [Act.put, List.getElem_toArray, List.getElem_cons_zero, List.getElem_cons_succ, List.setIfInBounds_toArray, List.set_cons_zero, List.set_cons_succ]
    refine wpAnyH_take (i := 31) (v := ?_) rfl (by kernel_rfl) (by kernel_rfl) (by kernel_rfl) (fun _ _ _ h => h) (Or.inl ⟨by rfl, ?_⟩) (by assumption) ?_
    rotate_left
    · intro w' hSw; (try dsimp only at hSw); go_simp; try with_reducible rfl
    try simp only [Act.put, List.getElem_toArray, List.getElem_cons_zero, List.getElem_cons_succ, List.setIfInBounds_toArray, List.set_cons_zero, List.set_cons_succ]
    refine wpAnyH_take (i := 32) (v := ?_) rfl (by kernel_rfl) (by kernel_rfl) (by kernel_rfl) (fun _ _ _ h => h) (Or.inl ⟨by rfl, ?_⟩) (by assumption) ?_
    rotate_left
    · intro w' hSw; (try dsimp only at hSw); go_simp; try with_reducible rfl
    try simp only [Act.put, List.getElem_toArray, List.getElem_cons_zero, List.getElem_cons_succ, List.setIfInBounds_toArray, List.set_cons_zero, List.set_cons_succ]
    refine wpAnyH_take (i := 33) (v := ?_) rfl (by kernel_rfl) (by kernel_rfl) (by kernel_rfl) (fun _ _ _ h => h) (Or.inl ⟨by rfl, ?_⟩) (by assumption) ?_
    rotate_left
    · intro w' hSw; (try dsimp only at hSw); go_simp; try with_reducible rfl
    try simp only [Act.put, List.getElem_toArray, List.getElem_cons_zero, List.getElem_cons_succ, List.setIfInBounds_toArray, List.set_cons_zero, List.set_cons_succ]
    refine wpAnyH_take (i := 34) (v := ?_) rfl (by kernel_rfl) (by kernel_rfl) (by kernel_rfl) (fun _ _ _ h => h) (Or.inl ⟨by rfl, ?_⟩) (by assumption) ?_
    rotate_left
    · intro w' hSw; (try dsimp only at hSw); go_simp; try with_reducible rfl
    try simp only [Act.put, List.getElem_toArray, List.getElem_cons_zero, List.getElem_cons_succ, List.setIfInBounds_toArray, List.set_cons_zero, List.set_cons_succ]
    refine wpAnyH_take (i := 35) (v := ?_) rfl (by kernel_rfl) (by kernel_rfl) (by kernel_rfl) (fun _ _ _ h => h) (Or.inl ⟨by rfl, ?_⟩) (by assumption) ?_
    rotate_left
    · intro w' hSw; (try dsimp only at hSw); go_simp; try with_reducible rfl
    try simp only [Act.put, List.getElem_toArray, List.getElem_cons_zero, List.getElem_cons_succ, List.setIfInBounds_toArray, List.set_cons_zero, List.set_cons_succ]
    refine wpAnyH_take (i := 36) (v := ?_) rfl (by kernel_rfl) (by kernel_rfl) (by kernel_rfl) (fun _ _ _ h => h) (Or.inl ⟨by rfl, ?_⟩) (by assumption) ?_
    rotate_left
    · intro w' hSw; (try dsimp only at hSw); go_simp; try with_reducible rfl
    try simp only [Act.put, List.getElem_toArray, List.getElem_cons_zero, List.getElem_cons_succ, List.setIfInBounds_toArray, List.set_cons_zero, List.set_cons_succ]
    refine wpAnyH_take (i := 37) (v := ?_) rfl (by kernel_rfl) (by kernel_rfl) (by kernel_rfl) (fun _ _ _ h => h) (Or.inl ⟨by rfl, ?_⟩) (by assumption) ?_
    rotate_left
    · intro w' hSw; (try dsimp only at hSw); go_simp; try with_reducible rfl
    try simp only [Act.put, List.getElem_toArray, List.getElem_cons_zero, List.getElem_cons_succ, List.setIfInBounds_toArray, List.set_cons_zero, List.set_cons_succ]
    refine wpAnyH_take (i := 38) (v := ?_) rfl (by kernel_rfl) (by kernel_rfl) (by kernel_rfl) (fun _ _ _ h => h) (Or.inl ⟨by rfl, ?_⟩) (by assumption) ?_
    rotate_left
    · intro w' hSw; (try dsimp only at hSw); go_simp; try with_reducible rfl
    try simp only [Act.put, List.getElem_toArray, List.getElem_cons_zero, List.getElem_cons_succ, List.setIfInBounds_toArray, List.set_cons_zero, List.set_cons_succ]
    refine wpAnyH_take (i := 39) (v := ?_) rfl (by kernel_rfl) (by kernel_rfl) (by kernel_rfl) (fun _ _ _ h => h) (Or.inl ⟨by rfl, ?_⟩) (by assumption) ?_
    rotate_left
    · intro w' hSw; (try dsimp only at hSw); go_simp; try with_reducible rfl
    try simp only [Act.put, List.getElem_toArray, List.getElem_cons_zero, List.getElem_cons_succ, List.setIfInBounds_toArray, List.set_cons_zero, List.set_cons_succ]
    refine wpAnyH_take (i := 40) (v := ?_) rfl (by kernel_rfl) (by kernel_rfl) (by kernel_rfl) (fun _ _ _ h => h) (Or.inl ⟨by rfl, ?_⟩) (by assumption) ?_
    rotate_left
    · intro w' hSw; (try dsimp only at hSw); go_simp; try with_reducible rfl
    try simp only [Act.put, List.getElem_toArray, List.getElem_cons_zero, List.getElem_cons_succ, List.setIfInBounds_toArray, List.set_cons_zero, List.set_cons_succ]
    refine wpAnyH_take (i := 41) (v := ?_) rfl (by kernel_rfl) (by kernel_rfl) (by kernel_rfl) (fun _ _ _ h => h) (Or.inl ⟨by rfl, ?_⟩) (by assumption) ?_
    rotate_left
    · intro w' hSw; (try dsimp only at hSw); go_simp; try with_reducible rfl
    try simp only [Act.put, List.getElem_toArray, List.getElem_cons_zero, List.getElem_cons_succ, List.setIfInBounds_toArray, List.set_cons_zero, List.set_cons_succ]
    refine wpAnyH_take (i := 42) (v := ?_) rfl (by kernel_rfl) (by kernel_rfl) (by kernel_rfl) (fun _ _ _ h => h) (Or.inl ⟨by rfl, ?_⟩) (by assumption) ?_
    rotate_left
    · intro w' hSw; (try dsimp only at hSw); go_simp; try with_reducible rfl
    try simp only [Act.put, List.getElem_toArray, List.getElem_cons_zero, List.getElem_cons_succ, List.setIfInBounds_toArray, List.set_cons_zero, List.set_cons_succ]
    refine wpAnyH_take (i := 43) (v := ?_) rfl (by kernel_rfl) (by kernel_rfl) (by kernel_rfl) (fun _ _ _ h => h) (Or.inl ⟨by rfl, ?_⟩) (by assumption) ?_
    rotate_left
    · intro w' hSw; (try dsimp only at hSw); go_simp; try with_reducible rfl
    try simp only [Act.put, List.getElem_toArray, List.getElem_cons_zero, List.getElem_cons_succ, List.setIfInBounds_toArray, List.set_cons_zero, List.set_cons_succ]
    refine wpAnyH_take (i := 44) (v := ?_) rfl (by kernel_rfl) (by kernel_rfl) (by kernel_rfl) (fun _ _ _ h => h) (Or.inl ⟨by rfl, ?_⟩) (by assumption) ?_
    rotate_left
    · intro w' hSw; (try dsimp only at hSw); go_simp; try with_reducible rfl
    try simp only [Act.put, List.getElem_toArray, List.getElem_cons_zero, List.getElem_cons_succ, List.setIfInBounds_toArray, List.set_cons_zero, List.set_cons_succ]
    refine wpAnyH_take (i := 45) (v := ?_) rfl (by kernel_rfl) (by kernel_rfl) (by kernel_rfl) (fun _ _ _ h => h) (Or.inl ⟨by rfl, ?_⟩) (by assumption) ?_
    rotate_left
    · intro w' hSw; (try dsimp only at hSw); go_simp; try with_reducible rfl
    try simp only [Act.put, List.getElem_toArray, List.getElem_cons_zero, List.getElem_cons_succ, List.setIfInBounds_toArray, List.set_cons_zero, List.set_cons_succ]
    refine wpAnyH_take (i := 46) (v := ?_) rfl (by kernel_rfl) (by kernel_rfl) (by kernel_rfl) (fun _ _ _ h => h) (Or.inl ⟨by rfl, ?_⟩) (by assumption) ?_
    rotate_left
    · intro w' hSw; (try dsimp only at hSw); go_simp; try with_reducible rfl
    try simp only [Act.put, List.getElem_toArray, List.getElem_cons_zero, List.getElem_cons_succ, List.setIfInBounds_toArray, List.set_cons_zero, List.set_cons_succ]
    refine wpAnyH_take (i := 47) (v := ?_) rfl (by kernel_rfl) (by kernel_rfl) (by kernel_rfl) (fun _ _ _ h => h) (Or.inl ⟨by rfl, ?_⟩) (by assumption) ?_
    rotate_left
    · intro w' hSw; (try dsimp only at hSw); go_simp; try with_reducible rfl
    try simp only [Act.put, List.getElem_toArray, List.getElem_cons_zero, List.getElem_cons_succ, List.setIfInBounds_toArray, List.set_cons_zero, List.set_cons_succ]
    refine wpAnyH_take (i := 48) (v := ?_) rfl (by kernel_rfl) (by kernel_rfl) (by kernel_rfl) (fun _ _ _ h => h) (Or.inl ⟨by rfl, ?_⟩) (by assumption) ?_
    rotate_left
    · intro w' hSw; (try dsimp only at hSw); go_simp; try with_reducible rfl
    try simp only [Act.put, List.getElem_toArray, List.getElem_cons_zero, List.getElem_cons_succ, List.setIfInBounds_toArray, List.set_cons_zero, List.set_cons_succ]
    refine wpAnyH_take (i := 49) (v := ?_) rfl (by kernel_rfl) (by kernel_rfl) (by kernel_rfl) (fun _ _ _ h => h) (Or.inl ⟨by rfl, ?_⟩) (by assumption) ?_
    rotate_left
    · intro w' hSw; (try dsimp only at hSw); go_simp; try with_reducible rfl
    try simp only [Act.put, List.getElem_toArray, List.getElem_cons_zero, List.getElem_cons_succ, List.setIfInBounds_toArray, List.set_cons_zero, List.set_cons_succ]
    refine wpAnyH_take (i := 50) (v := ?_) rfl (by kernel_rfl) (by kernel_rfl) (by kernel_rfl) (fun _ _ _ h => h) (Or.inl ⟨by rfl, ?_⟩) (by assumption) ?_
    rotate_left
    · intro w' hSw; (try dsimp only at hSw); go_simp; try with_reducible rfl
    try simp only [Act.put, List.getElem_toArray, List.getElem_cons_zero, List.getElem_cons_succ, List.setIfInBounds_toArray, List.set_cons_zero, List.set_cons_succ]
    refine wpAnyH_take (i := 51) (v := ?_) rfl (by kernel_rfl) (by kernel_rfl) (by kernel_rfl) (fun _ _ _ h => h) (Or.inl ⟨by rfl, ?_⟩) (by assumption) ?_
    rotate_left
    · intro w' hSw; (try dsimp only at hSw); go_simp; try with_reducible rfl
    try simp only [Act.put, List.getElem_toArray, List.getElem_cons_zero, List.getElem_cons_succ, List.setIfInBounds_toArray, List.set_cons_zero, List.set_cons_succ]
    refine wpAnyH_take (i := 52) (v := ?_) rfl (by kernel_rfl) (by kernel_rfl) (by kernel_rfl) (fun _ _ _ h => h) (Or.inl ⟨by rfl, ?_⟩) (by assumption) ?_
    rotate_left
    · intro w' hSw; (try dsimp only at hSw); go_simp; try with_reducible rfl
    try simp only [Act.put, List.getElem_toArray, List.getElem_cons_zero, List.getElem_cons_succ, List.setIfInBounds_toArray, List.set_cons_zero, List.set_cons_succ]
    refine wpAnyH_take (i := 53) (v := ?_) rfl (by kernel_rfl) (by kernel_rfl) (by kernel_rfl) (fun _ _ _ h => h) (Or.inl ⟨by rfl, ?_⟩) (by assumption) ?_
    rotate_left
    · intro w' hSw; (try dsimp only at hSw); go_simp; try with_reducible rfl
    try simp only [Act.put, List.getElem_toArray, List.getElem_cons_zero, List.getElem_cons_succ, List.setIfInBounds_toArray, List.set_cons_zero, List.set_cons_succ]
    refine wpAnyH_take (i := 54) (v := ?_) rfl (by kernel_rfl) (by kernel_rfl) (by kernel_rfl) (fun _ _ _ h => h) (Or.inl ⟨by rfl, ?_⟩) (by assumption) ?_
    rotate_left
    · intro w' hSw; (try dsimp only at hSw); go_simp; try with_reducible rfl
    try simp only [Act.put, List.getElem_toArray, List.getElem_cons_zero, List.getElem_cons_succ, List.setIfInBounds_toArray, List.set_cons_zero, List.set_cons_succ]
    refine wpAnyH_take (i := 55) (v := ?_) rfl (by kernel_rfl) (by kernel_rfl) (by kernel_rfl) (fun _ _ _ h => h) (Or.inl ⟨by rfl, ?_⟩) (by assumption) ?_
    rotate_left
    · intro w' hSw; (try dsimp only at hSw); go_simp; try with_reducible rfl
    try simp only [Act.put, List.getElem_toArray, List.getElem_cons_zero, List.getElem_cons_succ, List.setIfInBounds_toArray, List.set_cons_zero, List.set_cons_succ]
    refine wpAnyH_take (i := 56) (v := ?_) rfl (by kernel_rfl) (by kernel_rfl) (by kernel_rfl) (fun _ _ _ h => h) (Or.inl ⟨by rfl, ?_⟩) (by assumption) ?_
    rotate_left
    · intro w' hSw; (try dsimp only at hSw); go_simp; try with_reducible rfl
    try simp only [Act.put, List.getElem_toArray, List.getElem_cons_zero, List.getElem_cons_succ, List.setIfInBounds_toArray, List.set_cons_zero, List.set_cons_succ]
    refine wpAnyH_take (i := 57) (v := ?_) rfl (by kernel_rfl) (by kernel_rfl) (by kernel_rfl) (fun _ _ _ h => h) (Or.inl ⟨by rfl, ?_⟩) (by assumption) ?_
    rotate_left
    · intro w' hSw; (try dsimp only at hSw); go_simp; try with_reducible rfl
    try simp only [Act.put, List.getElem_toArray, List.getElem_cons_zero, List.getElem_cons_succ, List.setIfInBounds_toArray, List.set_cons_zero, List.set_cons_succ]
    refine wpAnyH_take (i := 58) (v := ?_) rfl (by kernel_rfl) (by kernel_rfl) (by kernel_rfl) (fun _ _ _ h => h) (Or.inl ⟨by rfl, ?_⟩) (by assumption) ?_
    rotate_left
    · intro w' hSw; (try dsimp only at hSw); go_simp; try with_reducible rfl
    try simp only [Act.put, List.getElem_toArray, List.getElem_cons_zero, List.getElem_cons_succ, List.setIfInBounds_toArray, List.set_cons_zero, List.set_cons_succ]
    refine wpAnyH_take (i := 59) (v := ?_) rfl (by kernel_rfl) (by kernel_rfl) (by kernel_rfl) (fun _ _ _ h => h) (Or.inl ⟨by rfl, ?_⟩) (by assumption) ?_
    rotate_left
    · intro w' hSw; (try dsimp only at hSw); go_simp; try with_reducible rfl
    try simp only [Act.put, List.getElem_toArray, List.getElem_cons_zero, List.getElem_cons_succ, List.setIfInBounds_toArray, List.set_cons_zero, List.set_cons_succ]
    refine wpAnyH_take (i := 61) (v := ?_) rfl (by kernel_rfl) (by kernel_rfl) (by kernel_rfl) (fun _ _ _ h => h) (Or.inl ⟨by rfl, ?_⟩) (by assumption) ?_
    rotate_left
    · intro w' hSw; (try dsimp only at hSw); go_simp; try with_reducible rfl
    try simp only [Act.put, List.getElem_toArray, List.getElem_cons_zero, List.getElem_cons_succ, List.setIfInBounds_toArray, List.set_cons_zero, List.set_cons_succ]
    refine wpAnyH_ready (rs := [60]) (by kernel_rfl) (by simp) ?_
    refine AllReadyH.cons rfl (fun K hK => ?_) AllReadyH.nil
    go_simp
    refine (HLa.out _ (Fr.drew (Fr.refl _ _))).mono ?_
    rintro e w60 ⟨v60, rfl, hv60, -, f60⟩
    have HV60 := Lib.hid hv60
    have F60 := Lib.hid ((Fr.drew (Fr.refl _ _)).trans f60 (fun _ _ h => h))
    have G60 := Lib.hid f60
    clear hv60 f60
    try go_simp
    refine hK.out _ _ ?_ (fun hHeld => ?_)
    · (try dsimp only); exact HSall.out _ F60.out
    clear hK K
    try simp only [Act.put, List.getElem_toArray, List.getElem_cons_zero, List.getElem_cons_succ, List.setIfInBounds_toArray, List.set_cons_zero, List.set_cons_succ]
    refine wpAnyH_ready (rs := [62]) (by kernel_rfl) (by simp) ?_
    refine AllReadyH.cons rfl (fun K hK => ?_) AllReadyH.nil
    go_simp
    refine (HLb.out _ F60.out).mono ?_
    rintro e w62 ⟨v62, rfl, hv62, -, f62⟩
    have HV62 := Lib.hid hv62
    have F62 := Lib.hid (F60.out.trans f62 (fun _ _ h => h))
    have G62 := Lib.hid f62
    clear hv62 f62
    try go_simp
    refine hK.out _ _ ?_ (fun hHeld => ?_)
    · (try dsimp only); exact HSall.out _ F62.out
    clear hK K
    try simp only [Act.put, List.getElem_toArray, List.getElem_cons_zero, List.getElem_cons_succ, List.setIfInBounds_toArray, List.set_cons_zero, List.set_cons_succ]
    refine wpAnyH_ready (rs := [63]) (by kernel_rfl) (by simp) ?_
    refine AllReadyH.cons rfl (fun K hK => ?_) AllReadyH.nil
    go_simp
    refine (equals_ok (Row.fr HV60.out G62.out (fun _ _ h => h)) HV62.out (by have := HlA.out; omega) (by have := HlB.out; omega)).mono ?_
    rintro e w63 ⟨rfl, f63⟩
    have F63 := Lib.hid (F62.out.trans f63 (fun _ _ h => h))
    clear f63
    try go_simp
    refine hK.out _ _ ?_ (fun hHeld => ?_)
    · (try dsimp only); exact HSall.out _ F63.out
    clear hK K
    try simp only [Act.put, List.getElem_toArray, List.getElem_cons_zero, List.getElem_cons_succ, List.setIfInBounds_toArray, List.set_cons_zero, List.set_cons_succ]
    refine wpAnyH_take (i := 64) (v := ?_) rfl (by kernel_rfl) (by kernel_rfl) (by kernel_rfl) (fun _ _ _ h => h) (Or.inl ⟨by rfl, ?_⟩) (by assumption) ?_
    rotate_left
    · intro w' hSw; (try dsimp only at hSw); go_simp; try with_reducible rfl
    try simp only [Act.put, List.getElem_toArray, List.getElem_cons_zero, List.getElem_cons_succ, List.setIfInBounds_toArray, List.set_cons_zero, List.set_cons_succ]
    refine wpAnyH_take (i := 65) (v := ?_) rfl (by kernel_rfl) (by kernel_rfl) (by kernel_rfl) (fun _ _ _ h => h) (Or.inl ⟨by rfl, ?_⟩) (by assumption) ?_
    rotate_left
    · intro w' hSw; (try dsimp only at hSw); go_simp; try with_reducible rfl
    try simp only [Act.put, List.getElem_toArray, List.getElem_cons_zero, List.getElem_cons_succ, List.setIfInBounds_toArray, List.set_cons_zero, List.set_cons_succ]
    refine wpAnyH_done (by kernel_rfl) ?_ _
    go_wp2_with fail
    go_meet
    exact ⟨rfl, F63.out⟩
  case rest =>
    obtain ⟨rfl, f1⟩ := hcut
    have F1 := Lib.hid f1
    clear f1
    go_wp2_with fail
    go_ret
    exact ⟨rfl, F1.out⟩
end Go.Proofs.YtebdcahjlcgonaaGreat.Bk
namespace Go.Proofs.YtebdcahjlcgonaaGreat.Bk
open Go.RowKit Go.Shelf
attribute [local go_sem] Oper.semAt_some
set_option maxRecDepth 100000 in
set_option maxHeartbeats 4000000 in
theorem bsame_0 {p q : Pt} {bb cc nx ny : Nat} {A C : Bk} {LD LE : List Bo} {w : World} (h1 : BkP p bb nx A A.L LD w) (h2 : BkP q cc ny C C.L LE w)  (e0 : ¬ A.seats = C.seats) : Calls Tryz.prog 21 #[.pointer (some ⟨bb, 0, none⟩), .pointer (some ⟨cc, 0, none⟩)] w fun e w' => e = .returned (.bool false) ∧ Fr (fun _ => False) w w' := by
  have b0 : ((A.seats : Int) == (C.seats : Int)) = false := by rw [beq_eq_false_iff_ne]; omega
  clear e0
  have HTa := Lib.hid (fun (w' : World) (f : Fr (fun _ => False) w w') => there_ok (h1.keep f))
  have HTb := Lib.hid (fun (w' : World) (f : Fr (fun _ => False) w w') => there_ok (h2.keep f))
  have HLa := Lib.hid (fun (w' : World) (f : Fr (fun _ => False) w w') => list_ok (h1.keep f))
  have HLb := Lib.hid (fun (w' : World) (f : Fr (fun _ => False) w w') => list_ok (h2.keep f))
  have HSall := Lib.hid (fun (w' : World) (f : Fr (fun _ => False) w w') => And.intro (h1.keep f).sameC (h2.keep f).sameC)
  have HlA := Lib.hid (show A.L.length ≤ 4096 by have := h1.raw.few; have := h1.raw.c1; omega)
  have HlB := Lib.hid (show C.L.length ≤ 4096 by have := h2.raw.few; have := h2.raw.c1; omega)
  obtain ⟨c0, c1, c4, c5⟩ := h1.sameC
  obtain ⟨d0, d1, d4, d5⟩ := h2.sameC
  clear h1 h2
  go_enter Tryz.func21, Tryz.ntmps21
  go_upto_region 1 with fail
  simp only [List.append_eq, List.cons_append, List.nil_append]
  go_cut [4] (fun s wx => s = .bool false ∧ Fr (fun _ => False) w wx)
  case first =>
    go_big_quiet ((first | (go_at_call 56; with_reducible exact Calls.quiet_of_same ((HTa.out _ (by first | exact Fr.refl _ _ | exact (Fr.refl _ _).drewN _)).mono fun _ _ h => ⟨h.1, h.2.symm⟩)) | (go_at_call 56; with_reducible exact Calls.quiet_of_same ((HTb.out _ (by first | exact Fr.refl _ _ | exact (Fr.refl _ _).drewN _)).mono fun _ _ h => ⟨h.1, h.2.symm⟩))))
    go_wp2_with fail
    go_meet
    exact ⟨rfl, by first | exact Fr.refl _ _ | exact (Fr.refl _ _).drewN _⟩
  case rest =>
    obtain ⟨rfl, f1⟩ := hcut
    have F1 := Lib.hid f1
    clear f1
    go_wp2_with fail
    go_ret
    exact ⟨rfl, F1.out⟩
set_option maxRecDepth 100000 in
set_option maxHeartbeats 4000000 in
theorem bsame_1 {p q : Pt} {bb cc nx ny : Nat} {A C : Bk} {LD LE : List Bo} {w : World} (h1 : BkP p bb nx A A.L LD w) (h2 : BkP q cc ny C C.L LE w) (e0 : A.seats = C.seats) (e1 : ¬ A.codes = C.codes) : Calls Tryz.prog 21 #[.pointer (some ⟨bb, 0, none⟩), .pointer (some ⟨cc, 0, none⟩)] w fun e w' => e = .returned (.bool false) ∧ Fr (fun _ => False) w w' := by
  have b0 : ((A.seats : Int) == (C.seats : Int)) = true := by rw [beq_iff_eq]; omega
  have b1 : ((A.codes : Int) == (C.codes : Int)) = false := by rw [beq_eq_false_iff_ne]; omega
  clear e0 e1
  have HTa := Lib.hid (fun (w' : World) (f : Fr (fun _ => False) w w') => there_ok (h1.keep f))
  have HTb := Lib.hid (fun (w' : World) (f : Fr (fun _ => False) w w') => there_ok (h2.keep f))
  have HLa := Lib.hid (fun (w' : World) (f : Fr (fun _ => False) w w') => list_ok (h1.keep f))
  have HLb := Lib.hid (fun (w' : World) (f : Fr (fun _ => False) w w') => list_ok (h2.keep f))
  have HSall := Lib.hid (fun (w' : World) (f : Fr (fun _ => False) w w') => And.intro (h1.keep f).sameC (h2.keep f).sameC)
  have HlA := Lib.hid (show A.L.length ≤ 4096 by have := h1.raw.few; have := h1.raw.c1; omega)
  have HlB := Lib.hid (show C.L.length ≤ 4096 by have := h2.raw.few; have := h2.raw.c1; omega)
  obtain ⟨c0, c1, c4, c5⟩ := h1.sameC
  obtain ⟨d0, d1, d4, d5⟩ := h2.sameC
  clear h1 h2
  go_enter Tryz.func21, Tryz.ntmps21
  go_upto_region 1 with fail
  simp only [List.append_eq, List.cons_append, List.nil_append]
  go_cut [4] (fun s wx => s = .bool false ∧ Fr (fun _ => False) w wx)
  case first =>
    go_big_quiet ((first | (go_at_call 56; with_reducible exact Calls.quiet_of_same ((HTa.out _ (by first | exact Fr.refl _ _ | exact (Fr.refl _ _).drewN _)).mono fun _ _ h => ⟨h.1, h.2.symm⟩)) | (go_at_call 56; with_reducible exact Calls.quiet_of_same ((HTb.out _ (by first | exact Fr.refl _ _ | exact (Fr.refl _ _).drewN _)).mono fun _ _ h => ⟨h.1, h.2.symm⟩))))
    go_wp2_with fail
    go_meet
    exact ⟨rfl, by first | exact Fr.refl _ _ | exact (Fr.refl _ _).drewN _⟩
  case rest =>
    obtain ⟨rfl, f1⟩ := hcut
    have F1 := Lib.hid f1
    clear f1
    go_wp2_with fail
    go_ret
    exact ⟨rfl, F1.out⟩
end Go.Proofs.YtebdcahjlcgonaaGreat.Bk
namespace Go.Proofs.YtebdcahjlcgonaaGreat.Bk
open Go.RowKit Go.Shelf
attribute [local go_sem] Oper.semAt_some
set_option maxRecDepth 100000 in
set_option maxHeartbeats 4000000 in
theorem bsame_2 {p q : Pt} {bb cc nx ny : Nat} {A C : Bk} {LD LE : List Bo} {w : World} (h1 : BkP p bb nx A A.L LD w) (h2 : BkP q cc ny C C.L LE w) (e0 : A.seats = C.seats) (e1 : A.codes = C.codes) (e2 : ¬ A.clock = C.clock) : Calls Tryz.prog 21 #[.pointer (some ⟨bb, 0, none⟩), .pointer (some ⟨cc, 0, none⟩)] w fun e w' => e = .returned (.bool false) ∧ Fr (fun _ => False) w w' := by
  have b0 : ((A.seats : Int) == (C.seats : Int)) = true := by rw [beq_iff_eq]; omega
  have b1 : ((A.codes : Int) == (C.codes : Int)) = true := by rw [beq_iff_eq]; omega
  have b2 : (A.clock == C.clock) = false := by rw [beq_eq_false_iff_ne]; omega
  clear e0 e1 e2
  have HTa := Lib.hid (fun (w' : World) (f : Fr (fun _ => False) w w') => there_ok (h1.keep f))
  have HTb := Lib.hid (fun (w' : World) (f : Fr (fun _ => False) w w') => there_ok (h2.keep f))
  have HLa := Lib.hid (fun (w' : World) (f : Fr (fun _ => False) w w') => list_ok (h1.keep f))
  have HLb := Lib.hid (fun (w' : World) (f : Fr (fun _ => False) w w') => list_ok (h2.keep f))
  have HSall := Lib.hid (fun (w' : World) (f : Fr (fun _ => False) w w') => And.intro (h1.keep f).sameC (h2.keep f).sameC)
  have HlA := Lib.hid (show A.L.length ≤ 4096 by have := h1.raw.few; have := h1.raw.c1; omega)
  have HlB := Lib.hid (show C.L.length ≤ 4096 by have := h2.raw.few; have := h2.raw.c1; omega)
  obtain ⟨c0, c1, c4, c5⟩ := h1.sameC
  obtain ⟨d0, d1, d4, d5⟩ := h2.sameC
  clear h1 h2
  go_enter Tryz.func21, Tryz.ntmps21
  go_upto_region 1 with fail
  simp only [List.append_eq, List.cons_append, List.nil_append]
  go_cut [4] (fun s wx => s = .bool false ∧ Fr (fun _ => False) w wx)
  case first =>
    go_big_quiet ((first | (go_at_call 56; with_reducible exact Calls.quiet_of_same ((HTa.out _ (by first | exact Fr.refl _ _ | exact (Fr.refl _ _).drewN _)).mono fun _ _ h => ⟨h.1, h.2.symm⟩)) | (go_at_call 56; with_reducible exact Calls.quiet_of_same ((HTb.out _ (by first | exact Fr.refl _ _ | exact (Fr.refl _ _).drewN _)).mono fun _ _ h => ⟨h.1, h.2.symm⟩))))
    go_wp2_with fail
    go_meet
    exact ⟨rfl, by first | exact Fr.refl _ _ | exact (Fr.refl _ _).drewN _⟩
  case rest =>
    obtain ⟨rfl, f1⟩ := hcut
    have F1 := Lib.hid f1
    clear f1
    go_wp2_with fail
    go_ret
    exact ⟨rfl, F1.out⟩
set_option maxRecDepth 100000 in
set_option maxHeartbeats 4000000 in
theorem bsame_3 {p q : Pt} {bb cc nx ny : Nat} {A C : Bk} {LD LE : List Bo} {w : World} (h1 : BkP p bb nx A A.L LD w) (h2 : BkP q cc ny C C.L LE w) (e0 : A.seats = C.seats) (e1 : A.codes = C.codes) (e2 : A.clock = C.clock) (e3 : ¬ nx = ny) : Calls Tryz.prog 21 #[.pointer (some ⟨bb, 0, none⟩), .pointer (some ⟨cc, 0, none⟩)] w fun e w' => e = .returned (.bool false) ∧ Fr (fun _ => False) w w' := by
  have b0 : ((A.seats : Int) == (C.seats : Int)) = true := by rw [beq_iff_eq]; omega
  have b1 : ((A.codes : Int) == (C.codes : Int)) = true := by rw [beq_iff_eq]; omega
  have b2 : (A.clock == C.clock) = true := by rw [beq_iff_eq]; omega
  have b3 : ((nx : Int) == (ny : Int)) = false := by rw [beq_eq_false_iff_ne]; omega
  clear e0 e1 e2 e3
  have HTa := Lib.hid (fun (w' : World) (f : Fr (fun _ => False) w w') => there_ok (h1.keep f))
  have HTb := Lib.hid (fun (w' : World) (f : Fr (fun _ => False) w w') => there_ok (h2.keep f))
  have HLa := Lib.hid (fun (w' : World) (f : Fr (fun _ => False) w w') => list_ok (h1.keep f))
  have HLb := Lib.hid (fun (w' : World) (f : Fr (fun _ => False) w w') => list_ok (h2.keep f))
  have HSall := Lib.hid (fun (w' : World) (f : Fr (fun _ => False) w w') => And.intro (h1.keep f).sameC (h2.keep f).sameC)
  have HlA := Lib.hid (show A.L.length ≤ 4096 by have := h1.raw.few; have := h1.raw.c1; omega)
  have HlB := Lib.hid (show C.L.length ≤ 4096 by have := h2.raw.few; have := h2.raw.c1; omega)
  obtain ⟨c0, c1, c4, c5⟩ := h1.sameC
  obtain ⟨d0, d1, d4, d5⟩ := h2.sameC
  clear h1 h2
  go_enter Tryz.func21, Tryz.ntmps21
  go_upto_region 1 with fail
  simp only [List.append_eq, List.cons_append, List.nil_append]
  go_cut [4] (fun s wx => s = .bool false ∧ Fr (fun _ => False) w wx)
  case first =>
    go_big_quiet ((first | (go_at_call 56; with_reducible exact Calls.quiet_of_same ((HTa.out _ (by first | exact Fr.refl _ _ | exact (Fr.refl _ _).drewN _)).mono fun _ _ h => ⟨h.1, h.2.symm⟩)) | (go_at_call 56; with_reducible exact Calls.quiet_of_same ((HTb.out _ (by first | exact Fr.refl _ _ | exact (Fr.refl _ _).drewN _)).mono fun _ _ h => ⟨h.1, h.2.symm⟩))))
    go_wp2_with fail
    go_meet
    exact ⟨rfl, by first | exact Fr.refl _ _ | exact (Fr.refl _ _).drewN _⟩
  case rest =>
    obtain ⟨rfl, f1⟩ := hcut
    have F1 := Lib.hid f1
    clear f1
    go_wp2_with fail
    go_ret
    exact ⟨rfl, F1.out⟩
end Go.Proofs.YtebdcahjlcgonaaGreat.Bk
namespace Go.Proofs.YtebdcahjlcgonaaGreat.Bk
open Go.RowKit Go.Shelf
attribute [local go_sem] Oper.semAt_some
theorem bsame_ok {p q : Pt} {bb cc nx ny : Nat} {A C : Bk} {LD LE : List Bo} {w : World} (h1 : BkP p bb nx A A.L LD w) (h2 : BkP q cc ny C C.L LE w) : Calls Tryz.prog 21 #[.pointer (some ⟨bb, 0, none⟩), .pointer (some ⟨cc, 0, none⟩)] w fun e w' => e = .returned (.bool (sameK A nx C ny)) ∧ Fr (fun _ => False) w w' := by
  by_cases e0 : A.seats = C.seats
  · by_cases e1 : A.codes = C.codes
    · by_cases e2 : A.clock = C.clock
      · by_cases e3 : nx = ny
        · rw [show sameK A nx C ny = decide (A.L = C.L) by unfold sameK; rw [decide_eq_true e0, decide_eq_true e1, decide_eq_true e2, decide_eq_true e3]; simp]
          exact bsame_all h1 h2 e0 e1 e2 e3
        · rw [show sameK A nx C ny = false by unfold sameK; rw [decide_eq_false e3]; simp]
          exact bsame_3 h1 h2 e0 e1 e2 e3
      · rw [show sameK A nx C ny = false by unfold sameK; rw [decide_eq_false e2]; simp]
        exact bsame_2 h1 h2 e0 e1 e2
    · rw [show sameK A nx C ny = false by unfold sameK; rw [decide_eq_false e1]; simp]
      exact bsame_1 h1 h2 e0 e1
  · rw [show sameK A nx C ny = false by unfold sameK; rw [decide_eq_false e0]; simp]
    exact bsame_0 h1 h2 e0
set_option maxRecDepth 100000 in
set_option maxHeartbeats 4000000 in
theorem copy_ok {p : Pt} {bb : Nat} {b : Bk} {w : World} (h : BkP p bb b.next b b.L b.L w) (hok : Ok b) (hq : 1 ≤ b.group ∧ b.group ≤ 64) : Calls Tryz.prog 23 #[.pointer (some ⟨bb, 0, none⟩)] w fun e w' => ∃ p' bb', e = .returned (.pointer (some ⟨bb', 0, none⟩)) ∧ BkP p' bb' b.next b b.L b.L w' ∧ (∀ x, p'.own bb' x → w.heap.size ≤ x) ∧ Fr (fun _ => False) w w' := by
  have HT := Lib.hid (there_ok h)
  have HL := Lib.hid (fun (w' : World) (f : Fr (fun _ => False) w w') => list_ok (h.keep f))
  have HSall := Lib.hid (fun (w' : World) (f : Fr (fun _ => False) w w') => show w'.cell? ⟨bb, 0, none⟩ = some (.int .i64 (b.seats : Int)) ∧ w'.cell? ⟨bb, 1, none⟩ = some (.int .i64 (b.codes : Int)) ∧ w'.cell? ⟨bb, 2, none⟩ = some (.int .i64 (b.group : Int)) ∧ w'.cell? ⟨bb, 4, none⟩ = some (.int .i64 b.clock) ∧ w'.cell? ⟨bb, 5, none⟩ = some (.int .u32 (b.next : Int)) from by
    obtain ⟨c0, c1, c2, _, c4, c5, _⟩ := (h.keep f).c
    exact ⟨c0, c1, c2, c4, c5⟩)
  have H1 := Lib.hid (And.intro hok.s0 hok.s1); have H2 := Lib.hid (And.intro hok.c0 hok.c1); have H3 := Lib.hid hq
  have H4 := Lib.hid (And.intro hok.n0 hok.n1); have H5 := Lib.hid (And.intro hok.t0 hok.t1); have H6 := Lib.hid hok.few
  have HO := Lib.hid (show ofGo (bkL b.seats b.codes b.group b.next b.clock []) 0 b.L = true from of_own hok)
  clear h hok hq
  go_enter Tryz.func23, Tryz.ntmps23
  go_wp2_with fail
  refine HT.out.mono ?_
  rintro e w1 ⟨rfl, rfl⟩
  go_upto_region 3 with fail
  refine wp_region_held_drew (S := fun w' => w'.cell? ⟨bb, 0, none⟩ = some (.int .i64 (b.seats : Int)) ∧ w'.cell? ⟨bb, 1, none⟩ = some (.int .i64 (b.codes : Int)) ∧ w'.cell? ⟨bb, 2, none⟩ = some (.int .i64 (b.group : Int)) ∧ w'.cell? ⟨bb, 4, none⟩ = some (.int .i64 b.clock) ∧ w'.cell? ⟨bb, 5, none⟩ = some (.int .u32 (b.next : Int))) (by kernel_rfl) (by exact HSall.out _ (Fr.drew (Fr.refl _ _))) (fun hHeld => ?_)
  refine wpAnyH_take (i := 0) (v := ?_) rfl (by kernel_rfl) (by kernel_rfl) (by kernel_rfl) (fun _ _ _ h => h) (Or.inl ⟨by rfl, ?_⟩) (by assumption) ?_
  rotate_left
  · intro w' hSw; (try dsimp only at hSw); go_simp; try with_reducible rfl
  try simp only [Act.put, List.getElem_toArray, List.getElem_cons_zero, List.setIfInBounds_toArray, List.set_cons_zero, List.set_cons_succ]
  refine wpAnyH_take (i := 1) (v := ?_) rfl (by kernel_rfl) (by kernel_rfl) (by kernel_rfl) (fun _ _ _ h => h) (Or.inl ⟨by rfl, ?_⟩) (by assumption) ?_
  rotate_left
  · intro w' hSw; (try dsimp only at hSw); go_simp; try with_reducible rfl
  try simp only [Act.put, List.getElem_toArray, List.getElem_cons_zero, List.getElem_cons_succ, List.setIfInBounds_toArray, List.set_cons_zero, List.set_cons_succ]
  refine wpAnyH_take (i := 2) (v := ?_) rfl (by kernel_rfl) (by kernel_rfl) (by kernel_rfl) (fun _ _ _ h => h) (Or.inl ⟨by rfl, ?_⟩) (by assumption) ?_
  rotate_left
  · intro w' hSw; (try dsimp only at hSw); go_simp; try with_reducible rfl
  try simp only [Act.put, List.getElem_toArray, List.getElem_cons_zero, List.getElem_cons_succ, List.setIfInBounds_toArray, List.set_cons_zero, List.set_cons_succ]
  refine wpAnyH_take (i := 3) (v := ?_) rfl (by kernel_rfl) (by kernel_rfl) (by kernel_rfl) (fun _ _ _ h => h) (Or.inl ⟨by rfl, ?_⟩) (by assumption) ?_
  rotate_left
  · intro w' hSw; (try dsimp only at hSw); go_simp; try with_reducible rfl
  try simp only [Act.put, List.getElem_toArray, List.getElem_cons_zero, List.getElem_cons_succ, List.setIfInBounds_toArray, List.set_cons_zero, List.set_cons_succ]
  refine wpAnyH_take (i := 4) (v := ?_) rfl (by kernel_rfl) (by kernel_rfl) (by kernel_rfl) (fun _ _ _ h => h) (Or.inl ⟨by rfl, ?_⟩) (by assumption) ?_
  rotate_left
  · intro w' hSw; (try dsimp only at hSw); go_simp; try with_reducible rfl
  try simp only [Act.put, List.getElem_toArray, List.getElem_cons_zero, List.getElem_cons_succ, List.setIfInBounds_toArray, List.set_cons_zero, List.set_cons_succ]
  refine wpAnyH_take (i := 5) (v := ?_) rfl (by kernel_rfl) (by kernel_rfl) (by kernel_rfl) (fun _ _ _ h => h) (Or.inl ⟨by rfl, ?_⟩) (by assumption) ?_
  rotate_left
  · intro w' hSw; (try dsimp only at hSw); go_simp; try with_reducible rfl
  try simp only [Act.put, List.getElem_toArray, List.getElem_cons_zero, List.getElem_cons_succ, List.setIfInBounds_toArray, List.set_cons_zero, List.set_cons_succ]
  refine wpAnyH_take (i := 6) (v := ?_) rfl (by kernel_rfl) (by kernel_rfl) (by kernel_rfl) (fun _ _ _ h => h) (Or.inl ⟨by rfl, ?_⟩) (by assumption) ?_
  rotate_left
  · intro w' hSw; (try dsimp only at hSw); go_simp; try with_reducible rfl
  try simp only [Act.put, List.getElem_toArray, List.getElem_cons_zero, List.getElem_cons_succ, List.setIfInBounds_toArray, List.set_cons_zero, List.set_cons_succ]
  refine wpAnyH_take (i := 7) (v := ?_) rfl (by kernel_rfl) (by kernel_rfl) (by kernel_rfl) (fun _ _ _ h => h) (Or.inl ⟨by rfl, ?_⟩) (by assumption) ?_
  rotate_left
  · intro w' hSw; (try dsimp only at hSw); go_simp; try with_reducible rfl
  try simp only [Act.put, List.getElem_toArray, List.getElem_cons_zero, List.getElem_cons_succ, List.setIfInBounds_toArray, List.set_cons_zero, List.set_cons_succ]
  refine wpAnyH_take (i := 8) (v := ?_) rfl (by kernel_rfl) (by kernel_rfl) (by kernel_rfl) (fun _ _ _ h => h) (Or.inl ⟨by rfl, ?_⟩) (by assumption) ?_
  rotate_left
  · intro w' hSw; (try dsimp only at hSw); go_simp; try with_reducible rfl
  try simp only [Act.put, List.getElem_toArray, List.getElem_cons_zero, List.getElem_cons_succ, List.setIfInBounds_toArray, List.set_cons_zero, List.set_cons_succ]
  refine wpAnyH_take (i := 9) (v := ?_) rfl (by kernel_rfl) (by kernel_rfl) (by kernel_rfl) (fun _ _ _ h => h) (Or.inl ⟨by rfl, ?_⟩) (by assumption) ?_
  rotate_left
  · intro w' hSw; (try dsimp only at hSw); go_simp; try with_reducible rfl
  try simp only [Act.put, List.getElem_toArray, List.getElem_cons_zero, List.getElem_cons_succ, List.setIfInBounds_toArray, List.set_cons_zero, List.set_cons_succ]
  refine wpAnyH_take (i := 10) (v := ?_) rfl (by kernel_rfl) (by kernel_rfl) (by kernel_rfl) (fun _ _ _ h => h) (Or.inl ⟨by rfl, ?_⟩) (by assumption) ?_
  rotate_left
  · intro w' hSw; (try dsimp only at hSw); go_simp; try with_reducible rfl
  try simp only [Act.put, List.getElem_toArray, List.getElem_cons_zero, List.getElem_cons_succ, List.setIfInBounds_toArray, List.set_cons_zero, List.set_cons_succ]
  refine wpAnyH_take (i := 11) (v := ?_) rfl (by kernel_rfl) (by kernel_rfl) (by kernel_rfl) (fun _ _ _ h => h) (Or.inl ⟨by rfl, ?_⟩) (by assumption) ?_
  rotate_left
  · intro w' hSw; (try dsimp only at hSw); go_simp; try with_reducible rfl
  try simp only [Act.put, List.getElem_toArray, List.getElem_cons_zero, List.getElem_cons_succ, List.setIfInBounds_toArray, List.set_cons_zero, List.set_cons_succ]
  refine wpAnyH_take (i := 12) (v := ?_) rfl (by kernel_rfl) (by kernel_rfl) (by kernel_rfl) (fun _ _ _ h => h) (Or.inl ⟨by rfl, ?_⟩) (by assumption) ?_
  rotate_left
  · intro w' hSw; (try dsimp only at hSw); go_simp; try with_reducible rfl
  try simp only [Act.put, List.getElem_toArray, List.getElem_cons_zero, List.getElem_cons_succ, List.setIfInBounds_toArray, List.set_cons_zero, List.set_cons_succ]
  refine wpAnyH_take (i := 13) (v := ?_) rfl (by kernel_rfl) (by kernel_rfl) (by kernel_rfl) (fun _ _ _ h => h) (Or.inl ⟨by rfl, ?_⟩) (by assumption) ?_
  rotate_left
  · intro w' hSw; (try dsimp only at hSw); go_simp; try with_reducible rfl
  try simp only [Act.put, List.getElem_toArray, List.getElem_cons_zero, List.getElem_cons_succ, List.setIfInBounds_toArray, List.set_cons_zero, List.set_cons_succ]
  refine wpAnyH_ready (rs := [14]) (by kernel_rfl) (by simp) ?_
  refine AllReadyH.cons rfl (fun K hK => ?_) AllReadyH.nil
  go_simp
  refine (HL.out _ (Fr.drew (Fr.refl _ _))).mono ?_
  rintro e w14 ⟨v14, rfl, hv14, -, f14⟩
  have HV := Lib.hid hv14
  have F14 := Lib.hid ((Fr.drew (Fr.refl _ _)).trans f14 (fun _ _ h => h))
  clear hv14 f14
  try go_simp
  refine hK.out _ _ ?_ (fun hHeld => ?_)
  · (try dsimp only); exact HSall.out _ F14.out
  clear hK K
  try simp only [Act.put, List.getElem_toArray, List.getElem_cons_zero, List.getElem_cons_succ, List.setIfInBounds_toArray, List.set_cons_zero, List.set_cons_succ]
  refine wpAnyH_ready (rs := [15]) (by kernel_rfl) (by simp) ?_
  refine AllReadyH.cons rfl (fun K hK => ?_) AllReadyH.nil
  go_simp
  refine (of_ok H1.out H2.out H3.out H4.out H5.out HV.out H6.out).mono ?_
  rintro e w15 ⟨f15, h15⟩
  rw [if_pos HO.out] at h15
  obtain ⟨p', bb', rfl, hB', hn'⟩ := h15
  have HB' := Lib.hid hB'; have Hn' := Lib.hid (show ∀ x, p'.own bb' x → w.heap.size ≤ x from fun x hx => Nat.le_trans F14.out.size (hn' x hx))
  have F15 := Lib.hid (F14.out.trans f15 (fun _ _ h => h))
  clear hB' hn' f15
  try go_simp
  refine hK.out _ _ ?_ (fun hHeld => ?_)
  · (try dsimp only); exact HSall.out _ F15.out
  clear hK K
  try simp only [Act.put, List.getElem_toArray, List.getElem_cons_zero, List.getElem_cons_succ, List.setIfInBounds_toArray, List.set_cons_zero, List.set_cons_succ]
  refine wpAnyH_take (i := 16) (v := ?_) rfl (by kernel_rfl) (by kernel_rfl) (by kernel_rfl) (fun _ _ _ h => h) (Or.inl ⟨by rfl, ?_⟩) (by assumption) ?_
  rotate_left
  · intro w' hSw; (try dsimp only at hSw); go_simp; try with_reducible rfl
  try simp only [Act.put, List.getElem_toArray, List.getElem_cons_zero, List.getElem_cons_succ, List.setIfInBounds_toArray, List.set_cons_zero, List.set_cons_succ]
  refine wpAnyH_take (i := 17) (v := ?_) rfl (by kernel_rfl) (by kernel_rfl) (by kernel_rfl) (fun _ _ _ h => h) (Or.inl ⟨by rfl, ?_⟩) (by assumption) ?_
  rotate_left
  · intro w' hSw; (try dsimp only at hSw); go_simp; try with_reducible rfl
  try simp only [Act.put, List.getElem_toArray, List.getElem_cons_zero, List.getElem_cons_succ, List.setIfInBounds_toArray, List.set_cons_zero, List.set_cons_succ]
  refine wpAnyH_take (i := 18) (v := ?_) rfl (by kernel_rfl) (by kernel_rfl) (by kernel_rfl) (fun _ _ _ h => h) (Or.inl ⟨by rfl, ?_⟩) (by assumption) ?_
  rotate_left
  · intro w' hSw; (try dsimp only at hSw); go_simp; try with_reducible rfl
  try simp only [Act.put, List.getElem_toArray, List.getElem_cons_zero, List.getElem_cons_succ, List.setIfInBounds_toArray, List.set_cons_zero, List.set_cons_succ]
  refine wpAnyH_take (i := 19) (v := ?_) rfl (by kernel_rfl) (by kernel_rfl) (by kernel_rfl) (fun _ _ _ h => h) (Or.inl ⟨by rfl, ?_⟩) (by assumption) ?_
  rotate_left
  · intro w' hSw; (try dsimp only at hSw); go_simp; try with_reducible rfl
  try simp only [Act.put, List.getElem_toArray, List.getElem_cons_zero, List.getElem_cons_succ, List.setIfInBounds_toArray, List.set_cons_zero, List.set_cons_succ]
  refine wpAnyH_take (i := 20) (v := ?_) rfl (by kernel_rfl) (by kernel_rfl) (by kernel_rfl) (fun _ _ _ h => h) (Or.inl ⟨by rfl, ?_⟩) (by assumption) ?_
  rotate_left
  · intro w' hSw; (try dsimp only at hSw); go_simp; try with_reducible rfl
  try simp only [Act.put, List.getElem_toArray, List.getElem_cons_zero, List.getElem_cons_succ, List.setIfInBounds_toArray, List.set_cons_zero, List.set_cons_succ]
  refine wpAnyH_done (by kernel_rfl) ?_ _
  go_wp2_with fail
  go_ret
  exact ⟨_, _, rfl, HB'.out, Hn'.out, F15.out⟩
theorem copy_no {w : World} {q : Option Addr} (h : NoBook w q) : Calls Tryz.prog 23 #[.pointer q] w fun e w' => e = .returned (.pointer none) ∧ w = w' := by
  have HT := Lib.hid (there_no h)
  clear h
  go_enter Tryz.func23, Tryz.ntmps23
  go_wp2_with fail
  refine HT.out.mono ?_
  rintro e w1 ⟨rfl, rfl⟩
  go_wp2_with fail
  go_ret
  exact ⟨rfl, rfl⟩
end Go.Proofs.YtebdcahjlcgonaaGreat.Bk
