/- Texts put together: Arguments that are slices of numbers of any kinds, or of structs of such, The book layer: awake, made, A book of bookings that are given, Books: Same, Copy, Books: Same of two that are there, as far as their lists, Books: Same of two that are there, Books: Same of two that are there, further, Books: Same, Copy, The contract of Pick. Conditions: x fits an int, n is from 1 to 2^40, Books that aren't there: Get; the document's book that isn't. No condition. -/
import Derived.ProofKit
import Derived.OpenShut
import Derived.Deep.Slices
import Derived.Deep.Fields
import Derived.Test.YtmmjlnicfndmcaaGreatProg
import Derived.Test.YtmmjlnicfndmcaaGreatM1
import Derived.Test.YtmmjlnicfndmcaaGreatM4
import Derived.Test.YtmmjlnicfndmcaaGreatM5
import Derived.Test.YtmmjlnicfndmcaaGreatM6
namespace Go.Proofs.YtmmjlnicfndmcaaGreat
open Go.ChangeShapes Go.WideShapes Go.ChangeAt Go.RowKit Go.Deep
/-- The slice value v has n elements, of m numbers each: K i j is the j-th of element i. -/
def KindsAt (w : World) (v : Value) (m : Nat) (kd : Nat → IntKind) (K : Nat → Nat → Int) (n : Nat) : Prop :=
  ∃ a c, v = .slice a n c ∧ n ≤ c ∧ c ≤ maxLen ∧ (n = 0 ∨ ∃ b o, a = some ⟨b, o, none⟩ ∧ ∀ i j, i < n → j < m → w.cell? ⟨b, o + i * m + j, none⟩ = some (.int (kd j) (K i j)) ∧ (Lit.int (kd j) (K i j)).wf = true)
theorem KindsAt.fr {w w' : World} {v : Value} {m n : Nat} {kd : Nat → IntKind} {K : Nat → Nat → Int} (h : KindsAt w v m kd K n) {F : Nat → Prop} (hf : Fr F w w') (hF : ∀ b, b < w.heap.size → ¬ F b) (hm : 0 < m) : KindsAt w' v m kd K n := by
  obtain ⟨a, c, rfl, h1, h2, h3⟩ := h
  refine ⟨a, c, rfl, h1, h2, ?_⟩
  rcases h3 with h3 | ⟨b, o, h3, h4⟩
  · exact .inl h3
  · by_cases h0 : n = 0
    · exact .inl h0
    · refine .inr ⟨b, o, h3, fun i j hi hj => ⟨?_, (h4 i j hi hj).2⟩⟩
      have hb : b < w.heap.size := World.block_lt_of_cell? w _ (h4 0 0 (by omega) hm).1
      rw [hf.cell hb (hF b hb)]
      exact (h4 i j hi hj).1
theorem KindsAt.take {w : World} {a : Option Addr} {c m n k : Nat} {kd : Nat → IntKind} {K : Nat → Nat → Int} (h : KindsAt w (.slice a n c) m kd K n) (hk : k ≤ n) : KindsAt w (.slice a k c) m kd K k := by
  obtain ⟨a', c', e, h1, h2, h3⟩ := h
  simp only [Value.slice.injEq] at e
  obtain ⟨rfl, _, rfl⟩ := e
  refine ⟨a, c, rfl, by omega, h2, ?_⟩
  rcases h3 with h3 | ⟨b, o, h3, h4⟩
  · left; omega
  · exact .inr ⟨b, o, h3, fun i j hi hj => h4 i j (by omega) hj⟩
section
variable {H : Type} {enc : TypeId × Value → H} {P : Program} {w : World} {base : Nat} {spare : Nat → Bool} {held : Bool}
/-- All fields of a struct are ints, one cell each. -/
def allKinds (P : Program) (kd : Nat → IntKind) (fs : Array Field) : Bool := (List.range fs.size).all fun i => match fs[i]? with
  | some f => f.offset == i && P.cellsOf f.type == 1 && (match P.underlying f.type with | some (.int k) => k == kd i | _ => false)
  | none => false
theorem allKinds_of {kd : Nat → IntKind} {fs : Array Field} (h : allKinds P kd fs = true) (i : Nat) (f : Field) (hi : fs[i]? = some f) : f.offset = i ∧ P.cellsOf f.type = 1 ∧ P.underlying f.type = some (.int (kd i)) := by
  have hlt : i < fs.size := (Array.getElem?_eq_some_iff.1 hi).1
  have := List.all_eq_true.1 h i (List.mem_range.2 hlt)
  simp only [hi, Bool.and_eq_true, beq_iff_eq] at this
  refine ⟨this.1.1, this.1.2, ?_⟩
  have h2 := this.2
  split at h2
  · rename_i hk; rw [hk, eq_of_beq h2]
  · cases h2
theorem kindsAt_structs {kd : Nat → IntKind} {t e : TypeId} {fs : Array Field} {a0 : Option Addr} {len0 cap0 : Nat} {d : DataW H} {p : List MemPlace} (ht : P.underlying t = some (.slice e)) (he : P.underlying e = some (.struct fs))
    (hone : allKinds P kd fs = true) (hC : P.cellsOf e = fs.size) (h0 : 0 < fs.size) (h : DataW.Trod enc P w base spare held t (.slice a0 len0 cap0) d p) :
    ∃ K, KindsAt w (.slice a0 len0 cap0) fs.size kd K len0 := by
  obtain ⟨fuel, hf⟩ := h
  rcases open_slice ht hf with ⟨hcs, _⟩ | ⟨a, len, cap, m, n, D, Pl, hcs, hb, hl, hm, hmm, hx, hi⟩
  · simp [Value.cells] at hcs
    obtain ⟨rfl, rfl, rfl⟩ := hcs
    exact ⟨fun _ _ => 0, none, 0, rfl, Nat.le_refl _, Nat.zero_le _, .inl rfl⟩
  · simp [Value.cells] at hcs
    obtain ⟨rfl, rfl, rfl⟩ := hcs
    have hlm : len0 ≤ m := by rw [hmm]; split <;> omega
    have cell : ∀ i j, i < len0 → j < fs.size → ∃ x, w.cell? (a.add (i * fs.size + j)) = some (.int (kd j) x) ∧ (Lit.int (kd j) x).wf = true := by
      intro i j hil hjl
      obtain ⟨cs', hc, ht'⟩ := hi i (by omega)
      rw [hC] at hc
      obtain ⟨ys, n', hn', hy, hlen, hyl, hff⟩ := DataW.trod_struct he ht'
      obtain ⟨_, hcl, hat⟩ := World.cells?_some hc
      have hj := Array.getElem?_eq_getElem hjl
      obtain ⟨ho, hk, hu⟩ := allKinds_of hone j _ hj
      have hcell := hat j hjl
      have hv : cs'[j]? = some (cs'[j]'(by omega)) := List.getElem?_eq_getElem (by omega)
      have h1 := hff j _ hj
      rw [ho, hk] at h1
      have hone' : (cs'.drop j).take 1 = [cs'[j]'(by omega)] := by
        rw [List.drop_eq_getElem_cons (by omega)]
        rfl
      rw [hone'] at h1
      have hys : ys[j]? = some (ys[j]'(by omega)) := List.getElem?_eq_getElem (by omega)
      obtain ⟨x, hx1, _, hx3⟩ := DataW.trod_int hu (h1.trans hys)
      refine ⟨x, ?_, hx3⟩
      rw [← Go.Deep.add_add, hcell, hv]
      simpa using hx1
    by_cases hz : len0 = 0
    · subst hz; exact ⟨fun _ _ => 0, some a, cap0, rfl, hl, hm, .inl rfl⟩
    · obtain ⟨b, o, sp⟩ := a
      have hsp : sp = none := by
        obtain ⟨x, hx1, _⟩ := cell 0 0 (by omega) h0
        simpa [Addr.add] using World.cell?_spot hx1
      subst hsp
      have cell' : ∀ i j, i < len0 → j < fs.size → ∃ x, w.cell? ⟨b, o + i * fs.size + j, none⟩ = some (.int (kd j) x) ∧ (Lit.int (kd j) x).wf = true := by
        intro i j hil hjl
        have e : (⟨b, o, none⟩ : Addr).add (i * fs.size + j) = ⟨b, o + i * fs.size + j, none⟩ := by
          unfold Addr.add
          split
          · first | (simp; done) | (simp; omega)
          · simp [Nat.add_assoc]
        rw [← e]
        exact cell i j hil hjl
      refine ⟨fun i j => if h : i < len0 ∧ j < fs.size then (cell' i j h.1 h.2).choose else 0, some ⟨b, o, none⟩, cap0, rfl, hl, hm, .inr ⟨b, o, rfl, ?_⟩⟩
      intro i j hil hjl
      have hsp := (cell' i j hil hjl).choose_spec
      dsimp only
      rw [dif_pos ⟨hil, hjl⟩]
      exact hsp
theorem kindsAt_ints {k : IntKind} {t e : TypeId} {a0 : Option Addr} {len0 cap0 : Nat} {d : DataW H} {p : List MemPlace} (ht : P.underlying t = some (.slice e)) (he : P.underlying e = some (.int k))
    (hC : P.cellsOf e = 1) (h : DataW.Trod enc P w base spare held t (.slice a0 len0 cap0) d p) :
    ∃ K, KindsAt w (.slice a0 len0 cap0) 1 (fun _ => k) K len0 := by
  obtain ⟨fuel, hf⟩ := h
  rcases open_slice ht hf with ⟨hcs, _⟩ | ⟨a, len, cap, m, n, D, Pl, hcs, hb, hl, hm, hmm, hx, hi⟩
  · simp [Value.cells] at hcs
    obtain ⟨rfl, rfl, rfl⟩ := hcs
    exact ⟨fun _ _ => 0, none, 0, rfl, Nat.le_refl _, Nat.zero_le _, .inl rfl⟩
  · simp [Value.cells] at hcs
    obtain ⟨rfl, rfl, rfl⟩ := hcs
    have hlm : len0 ≤ m := by rw [hmm]; split <;> omega
    have cell : ∀ i, i < len0 → ∃ x, w.cell? (a.add i) = some (.int k x) ∧ (Lit.int k x).wf = true := by
      intro i hil
      obtain ⟨cs', hc, ht'⟩ := hi i (by omega)
      rw [hC] at hc
      obtain ⟨x, hx1, _, hx3⟩ := DataW.trod_int he ht'
      obtain ⟨_, hcl, hat⟩ := World.cells?_some hc
      have h1 := hat 0 (by omega)
      rw [hx1] at h1
      refine ⟨x, ?_, hx3⟩
      have e1 : (a.add (i * 1)).add 0 = a.add i := by rw [Go.Deep.add_add]; simp
      rw [e1] at h1
      simpa using h1
    by_cases hz : len0 = 0
    · subst hz; exact ⟨fun _ _ => 0, some a, cap0, rfl, hl, hm, .inl rfl⟩
    · obtain ⟨b, o, sp⟩ := a
      have hsp : sp = none := by
        obtain ⟨x, hx1, _⟩ := cell 0 (by omega)
        simpa [Addr.add] using World.cell?_spot hx1
      subst hsp
      have cell' : ∀ i, i < len0 → ∃ x, w.cell? ⟨b, o + i, none⟩ = some (.int k x) ∧ (Lit.int k x).wf = true := by
        intro i hil
        have e : (⟨b, o, none⟩ : Addr).add i = ⟨b, o + i, none⟩ := by
          unfold Addr.add
          split
          · first | (simp; done) | (simp; omega)
          · simp
        rw [← e]
        exact cell i hil
      refine ⟨fun i _ => if h : i < len0 then (cell' i h).choose else 0, some ⟨b, o, none⟩, cap0, rfl, hl, hm, .inr ⟨b, o, rfl, ?_⟩⟩
      intro i j hil hjl
      obtain rfl : j = 0 := by omega
      have hsp := (cell' i hil).choose_spec
      dsimp only
      rw [dif_pos hil, Nat.mul_one, Nat.add_zero]
      exact hsp
end
end Go.Proofs.YtmmjlnicfndmcaaGreat
namespace Go.Proofs.YtmmjlnicfndmcaaGreat.Bk
open Go.RowKit Go.Shelf
attribute [local go_sem] Oper.semAt_some
/-- A book of one's own. -/
def NewBk (w w' : World) (bb : Nat) (b : Bk) : Prop := ∃ p, BkP p bb b.next b b.L b.L w' ∧ (∀ x, p.own bb x → w.heap.size ≤ x) ∧ Fr (fun _ => False) w w'
theorem NewBk.keep {w w1 w2 : World} {bb : Nat} {b : Bk} (h : NewBk w w1 bb b) (f : Fr (fun _ => False) w1 w2) : NewBk w w2 bb b := by
  obtain ⟨p, h1, h2, h3⟩ := h
  exact ⟨p, h1.keep f, h2, h3.trans f (fun _ _ h => h)⟩
theorem NewBk.fr {w w1 : World} {bb : Nat} {b : Bk} (h : NewBk w w1 bb b) : Fr (fun _ => False) w w1 := by
  obtain ⟨p, h1, h2, h3⟩ := h
  exact h3
theorem NewBk.raw {w w1 : World} {bb : Nat} {b : Bk} (h : NewBk w w1 bb b) : Raw b := by
  obtain ⟨p, h1, h2, h3⟩ := h
  exact h1.raw
/-- A call that changes the book. -/
theorem NewBk.aft {w w1 w2 : World} {p : Pt} {bb : Nat} {b' : Bk} (hn : ∀ x, p.own bb x → w.heap.size ≤ x) (hf : Fr (fun _ => False) w w1) (h : Aft p bb b' w1 w2) : NewBk w w2 bb b' := by
  obtain ⟨p', h1, h2, h3⟩ := h
  refine ⟨p', h1, fun x hx => ?_, Fr.toNew ((hf.mono (G := fun b => w.heap.size ≤ b) (fun _ _ h => h.elim)).trans h2 (fun b _ hb => hn b hb))⟩
  rcases h3 x hx with e | e
  · exact hn x e
  · have := hf.size; omega
def kRc (j : Nat) : IntKind := if j = 1 then .u32 else .i64
def rcAt (K : Nat → Nat → Int) (i : Nat) : Rc := ⟨K i 0, (K i 1).toNat, K i 2, K i 3, K i 4⟩
def rcsOf (K : Nat → Nat → Int) (n : Nat) : List Rc := (List.range n).map (rcAt K)
theorem rcsOf_succ (K : Nat → Nat → Int) (n : Nat) : rcsOf K (n + 1) = rcsOf K n ++ [rcAt K n] := by unfold rcsOf; rw [List.range_succ, List.map_append]; rfl
theorem wf_u32 {x : Int} (h : (Lit.int .u32 x).wf = true) : 0 ≤ x ∧ x < 4294967296 := by
  simp [Lit.wf, IntKind.min, IntKind.max, IntKind.signed, IntKind.bits] at h
  omega
/-- The record at a place of a slice. -/
theorem rc_cells {w : World} {v : Value} {K : Nat → Nat → Int} {n i : Nat} (h : KindsAt w v 5 kRc K n) (hi : i < n) : ∃ g o c, v = .slice (some ⟨g, o, none⟩) n c ∧ w.cell? ⟨g, o + i * 5, none⟩ = some (.int .i64 (rcAt K i).kind) ∧ w.cell? ⟨g, o + i * 5 + 1, none⟩ = some (.int .u32 ((rcAt K i).id : Int)) ∧ w.cell? ⟨g, o + i * 5 + 2, none⟩ = some (.int .i64 (rcAt K i).seat) ∧ w.cell? ⟨g, o + i * 5 + 3, none⟩ = some (.int .i64 (rcAt K i).till) ∧ w.cell? ⟨g, o + i * 5 + 4, none⟩ = some (.int .i64 (rcAt K i).clock) ∧ (rcAt K i).id < 4294967296 := by
  obtain ⟨a, c, rfl, _, _, hor⟩ := h
  obtain ⟨g, o, rfl, hc⟩ := hor.resolve_left (by omega)
  have hu := wf_u32 (hc i 1 hi (by omega)).2
  refine ⟨g, o, c, rfl, (hc i 0 hi (by omega)).1, ?_, (hc i 2 hi (by omega)).1, (hc i 3 hi (by omega)).1, (hc i 4 hi (by omega)).1, by show (K i 1).toNat < _; omega⟩
  rw [(hc i 1 hi (by omega)).1]
  show some (Value.int .u32 (K i 1)) = some (Value.int .u32 ((K i 1).toNat : Int))
  rw [Int.toNat_of_nonneg hu.1]
def bA1 : Bk := { seats := 3, codes := 2, group := 1, next := 2, clock := 0, L := [(1, 0, 10)] }
def bA2 : Bk := { seats := 3, codes := 2, group := 1, next := 2, clock := 10, L := [] }
theorem bA1_eq : appE (bk0 3 2 1) ⟨1, 1, 0, 10, 0⟩ = 0 ∧ appB (bk0 3 2 1) ⟨1, 1, 0, 10, 0⟩ = bA1 := ⟨rfl, rfl⟩
theorem bA1_no : appE bA1 ⟨1, 2, 0, 10, 0⟩ = 170 ∧ appB bA1 ⟨1, 2, 0, 10, 0⟩ = bA1 := ⟨rfl, rfl⟩
theorem bA1_at : atE bA1 0 = .returned (.tuple #[boV (1, 0, 10), .int .i64 0]) := rfl
theorem bA2_eq : appE bA1 ⟨5, 0, 0, 0, 10⟩ = 0 ∧ appB bA1 ⟨5, 0, 0, 0, 10⟩ = bA2 := ⟨rfl, rfl⟩
set_option maxRecDepth 100000 in
set_option maxHeartbeats 2000000 in
theorem awake_ok (w : World) : Calls Tryz.prog 5 #[] w fun e w' => e = .returned (.bool true) ∧ Fr (fun _ => False) w w' := by
  have HN := Lib.hid (show Calls Tryz.prog 8 #[.agg #[.int .i64 3, .int .i64 2, .int .i64 1]] w _ from new_ok w (n := 3) (m := 2) (q := 1) (by omega) (by omega) (by omega))
  go_enter Tryz.func5, Tryz.ntmps5
  go_wp2_with fail
  refine HN.out.mono ?_
  rintro e w1 ⟨p, bb, rfl, hB, hn, f1⟩
  have HB := Lib.hid (show BkP p bb (bk0 3 2 1).next (bk0 3 2 1) (bk0 3 2 1).L (bk0 3 2 1).L w1 from hB)
  have Hn := Lib.hid hn; have F1 := Lib.hid f1
  clear hB hn f1
  go_wp2_with fail
  have HA := Lib.hid (show Calls Tryz.prog 21 #[.pointer (some ⟨bb, 0, none⟩), .agg #[.int .i64 1, .int .u32 1, .int .i64 0, .int .i64 10, .int .i64 0]] w1 _ from apply_ok HB.out (r := ⟨1, 1, 0, 10, 0⟩) (by decide))
  refine HA.out.mono ?_
  rintro e w2 ⟨rfl, ha⟩
  rw [bA1_eq.2] at ha
  rw [bA1_eq.1]
  have hN2 := NewBk.aft Hn.out F1.out ha
  obtain ⟨p2, hB2, hn2, f2⟩ := hN2
  have HB2 := Lib.hid hB2; have Hn2 := Lib.hid hn2; have F2 := Lib.hid f2
  clear ha hB2 hn2 f2
  go_wp2_with fail
  have HA2 := Lib.hid (show Calls Tryz.prog 21 #[.pointer (some ⟨bb, 0, none⟩), .agg #[.int .i64 1, .int .u32 2, .int .i64 0, .int .i64 10, .int .i64 0]] w2 _ from apply_ok HB2.out (r := ⟨1, 2, 0, 10, 0⟩) (by decide))
  refine HA2.out.mono ?_
  rintro e w3 ⟨rfl, ha⟩
  rw [bA1_no.2] at ha
  rw [bA1_no.1]
  obtain ⟨p3, hB3, hn3, f3⟩ := NewBk.aft Hn2.out F2.out ha
  have HB3 := Lib.hid hB3; have Hn3 := Lib.hid hn3; have F3 := Lib.hid f3
  clear ha hB3 hn3 f3
  go_wp2_with fail
  refine (at_ok HB3.out 0).mono ?_
  rintro e w4 ⟨rfl, f4⟩
  rw [bA1_at]
  have HB4 := Lib.hid (HB3.out.keep f4); have F4 := Lib.hid (F3.out.trans f4 (fun _ _ h => h))
  clear f4
  go_upto_region 7 with fail
  obtain ⟨W5, hW5⟩ : ∃ W5, W5 = w4.alloc (.cells #[.int .u32 1, .int .i64 0, .int .i64 10] 70) := ⟨_, rfl⟩
  obtain ⟨xb, hxb⟩ : ∃ xb, xb = w4.heap.size := ⟨_, rfl⟩
  rw [← hW5, ← hxb]
  have f5 : Fr (fun _ => False) w4 W5 := by rw [hW5]; exact Fr.alloc (Fr.refl _ _) _
  have hg : W5.heap[xb]? = some (.cells #[.int .u32 1, .int .i64 0, .int .i64 10] 70 (0, 0)) := by rw [hW5, hxb]; exact heap_alloc_at _ _
  have hB5 := HB4.out.keep f5
  have hlt : ¬ p3.own bb xb := fun h => by have := HB4.out.lt h; omega
  have hA3 : Calls Tryz.prog 21 #[.pointer (some ⟨bb, 0, none⟩), .agg #[.int .i64 5, .int .u32 0, .int .i64 0, .int .i64 0, .int .i64 10]] W5 _ := apply_ok hB5 (r := ⟨5, 0, 0, 0, 10⟩) (by decide)
  have HA3 := Lib.hid hA3; have Hg := Lib.hid hg; have Hlt := Lib.hid hlt; have F5 := Lib.hid (F4.out.trans f5 (fun _ _ h => h))
  clear hA3 hg hlt f5 hW5 hxb hB5
  go_wp2_with fail
  refine HA3.out.mono ?_
  rintro e w6 ⟨rfl, ha⟩
  rw [bA2_eq.2] at ha
  rw [bA2_eq.1]
  have hg6 := (show Aft p3 bb bA2 W5 w6 from ha)
  obtain ⟨pp, _, ff, _⟩ := id hg6
  have hg7 := ff.get Hg.out Hlt.out
  obtain ⟨p6, hB6, hn6, f6⟩ := NewBk.aft Hn3.out F5.out ha
  have x0 := (cell_of hg7 0).trans (show _ = some (Value.int .u32 1) from rfl)
  have x1 := (cell_of hg7 1).trans (show _ = some (Value.int .i64 0) from rfl)
  have x2 := (cell_of hg7 2).trans (show _ = some (Value.int .i64 10) from rfl)
  have hq : ∀ W : World, (binOp .eql 70 (.agg #[.int .u32 1, .int .i64 0, .int .i64 10]) (.agg #[.int .u32 1, .int .i64 0, .int .i64 10])).run Tryz.prog W = .ok (.bool true) W := fun W => eqlBo W (1, 0, 10) (1, 0, 10)
  have HL := Lib.hid (len_ok hB6); have HX := Lib.hid (next_ok hB6); have HC := Lib.hid (clock_ok hB6); have F6 := Lib.hid f6
  clear hg6 ff hg7 hB6 hn6 f6 ha
  go_wp2_with fail
  refine HL.out.mono ?_
  rintro e w7 ⟨rfl, rfl⟩
  go_wp2_with fail
  refine HX.out.mono ?_
  rintro e w8 ⟨rfl, rfl⟩
  go_wp2_with fail
  refine HC.out.mono ?_
  rintro e w9 ⟨rfl, rfl⟩
  go_wp2_with fail
  go_ret
  exact ⟨rfl, F6.out⟩
end Go.Proofs.YtmmjlnicfndmcaaGreat.Bk
namespace Go.Proofs.YtmmjlnicfndmcaaGreat.Bk
open Go.RowKit Go.Shelf
attribute [local go_sem] Oper.semAt_some
abbrev bkL (n m q nx : Nat) (c : Int) (l : List Bo) : Bk := { seats := n, codes := m, group := q, next := nx, clock := c, L := l }
theorem BkP.next {p : Pt} {bb nx n : Nat} {b : Bk} {LS LD : List Bo} {w : World} (h : BkP p bb nx b LS LD w) (hr : Raw { b with next := n }) (hn : b.next ≤ n) : BkP p bb nx { b with next := n } LS LD w :=
  ⟨h.head, h.set, h.idx, h.row, h.heap, h.map, h.due, by have := h.nh; show p.nh ≤ (n : Int); omega, hr, h.lab⟩
theorem of_err (w : World) {a b c : Int} (h : shOk a b c = false) (nx : Nat) (cl : Int) (v : Value) : Calls Tryz.prog 7 #[shV a b c, .int .u32 (nx : Int), .int .i64 cl, v] w fun e w' => e = .returned (.tuple #[.pointer none, .int .i64 90]) ∧ Fr (fun _ => False) w w' := by
  obtain ⟨W, hW⟩ : ∃ W, W = w.alloc (.cells #[.int .i64 a, .int .i64 b, .int .i64 c] 23) := ⟨_, rfl⟩
  obtain ⟨z, hz⟩ : ∃ z, z = w.heap.size := ⟨_, rfl⟩
  have f0 : Fr (fun _ => False) w W := by rw [hW]; exact Fr.alloc (Fr.refl _ _) _
  have hg : W.heap[z]? = some (.cells #[.int .i64 a, .int .i64 b, .int .i64 c] 23 (0, 0)) := by rw [hW, hz]; exact heap_alloc_at _ _
  have z0 := (cell_of hg 0).trans (show _ = some (Value.int .i64 a) from rfl)
  have z1 := (cell_of hg 1).trans (show _ = some (Value.int .i64 b) from rfl)
  have z2 := (cell_of hg 2).trans (show _ = some (Value.int .i64 c) from rfl)
  have HN := Lib.hid (new_err W h); have F0 := Lib.hid f0
  clear hg f0 h
  go_enter Tryz.func7, Tryz.ntmps7
  go_upto_region 1 with fail
  rw [← hW, ← hz]
  clear hW hz
  go_wp2_with fail
  refine HN.out.mono ?_
  rintro e w1 ⟨rfl, f1⟩
  have F1 := Lib.hid (F0.out.trans f1 (fun _ _ h => h))
  clear f1 z0 z1 z2
  go_wp2_with fail
  refine bodyPost_ret (v := .tuple #[.pointer none, .int .i64 90]) ?_ rfl ⟨rfl, F1.out⟩
  simp [results, Tryz.f7, go_sem]
theorem bos_slice {w : World} {v : Value} {L : List Bo} (h : Bos w v L) : ∃ a c, v = .slice a L.length c := by
  rcases h.2 with ⟨rfl, h0⟩ | ⟨g, cap, cur, rfl, _⟩
  · exact ⟨none, 0, by rw [h0]⟩
  · exact ⟨_, _, rfl⟩
set_option maxRecDepth 100000 in
set_option maxHeartbeats 2000000 in
theorem of_bad (w : World) {n m q : Nat} (h1 : 1 ≤ n ∧ n ≤ 1024) (h2 : 1 ≤ m ∧ m ≤ 4096) (h3 : 1 ≤ q ∧ q ≤ 64) {nx : Nat} {cl : Int} {a : Option Addr} {k c : Nat} (hb : nx < 1 ∨ cl < 0 ∨ 1099511627776 < cl ∨ m < k) (_hk : k ≤ 1000000000) : Calls Tryz.prog 7 #[shV n m q, .int .u32 (nx : Int), .int .i64 cl, .slice a k c] w fun e w' => e = .returned (.tuple #[.pointer none, .int .i64 180]) ∧ Fr (fun _ => False) w w' := by
  obtain ⟨W, hW⟩ : ∃ W, W = w.alloc (.cells #[.int .i64 (n : Int), .int .i64 (m : Int), .int .i64 (q : Int)] 23) := ⟨_, rfl⟩
  obtain ⟨z, hz⟩ : ∃ z, z = w.heap.size := ⟨_, rfl⟩
  have f0 : Fr (fun _ => False) w W := by rw [hW]; exact Fr.alloc (Fr.refl _ _) _
  have hg : W.heap[z]? = some (.cells #[.int .i64 (n : Int), .int .i64 (m : Int), .int .i64 (q : Int)] 23 (0, 0)) := by rw [hW, hz]; exact heap_alloc_at _ _
  have z0 := (cell_of hg 0).trans (show _ = some (Value.int .i64 (n : Int)) from rfl)
  have z1 := (cell_of hg 1).trans (show _ = some (Value.int .i64 (m : Int)) from rfl)
  have z2 := (cell_of hg 2).trans (show _ = some (Value.int .i64 (q : Int)) from rfl)
  have HN := Lib.hid (new_ok W h1 h2 h3); have F0 := Lib.hid f0; have Hg := Lib.hid hg
  clear hg f0 h1 h2 h3
  go_enter Tryz.func7, Tryz.ntmps7
  go_upto_region 1 with fail
  rw [← hW, ← hz]
  clear hW hz
  go_wp2_with fail
  refine HN.out.mono ?_
  rintro e w1 ⟨p, bb, rfl, hB, hnew, f1⟩
  have hg1 := f1.get Hg.out (fun h => h)
  clear z0 z1 z2
  have z1 := (cell_of hg1 1).trans (show _ = some (Value.int .i64 (m : Int)) from rfl)
  have F1 := Lib.hid (F0.out.trans f1 (fun _ _ h => h))
  clear f1 hB hnew hg1
  go_upto_region 4 with fail
  go_cut [39] (fun s wx => s = .bool true ∧ Fr (fun _ => False) w wx)
  case first =>
    by_cases e1 : nx < 1
    · have b1 : decide ((nx : Int) < 1) = true := by simp; omega
      have b1' : decide (nx < 1) = true := by simp; omega
      clear hb
      go_wp2_with fail
      go_meet
      exact ⟨rfl, F1.out⟩
    · have b1 : decide ((nx : Int) < 1) = false := by simp; omega
      have b1' : decide (nx < 1) = false := by simp; omega
      have b1'' : decide (nx = 0) = false := by simp; omega
      by_cases e2 : cl < 0
      · have b2 : decide (cl < 0) = true := by simpa using e2
        clear hb
        go_wp2_with fail
        go_meet
        exact ⟨rfl, F1.out⟩
      · have b2 : decide (cl < 0) = false := by simpa using e2
        by_cases e3 : 1099511627776 < cl
        · have b3 : decide (1099511627776 < cl) = true := by simpa using e3
          clear hb
          go_wp2_with fail
          go_meet
          exact ⟨rfl, F1.out⟩
        · have b3 : decide (1099511627776 < cl) = false := by simpa using e3
          have b4 : decide ((m : Int) < (k : Int)) = true := by simp; omega
          have b4' : decide (m < k) = true := by simp; omega
          clear hb
          go_wp2_with fail
          go_meet
          exact ⟨rfl, F1.out⟩
  case rest =>
  obtain ⟨rfl, f2⟩ := hcut
  have F2 := Lib.hid f2
  clear f2 z1
  go_wp2_with fail
  refine bodyPost_ret (v := .tuple #[.pointer none, .int .i64 180]) ?_ rfl ⟨rfl, F2.out⟩
  simp [results, Tryz.f7, go_sem]
/-- What Of hands back. -/
def OfE (w : World) (n m q nx : Nat) (c : Int) (l : List Bo) (e : Ending) (w' : World) : Prop :=
  Fr (fun _ => False) w w' ∧ if ofGo (bkL n m q nx c []) 0 l = true then ∃ p bb, e = .returned (.tuple #[.pointer (some ⟨bb, 0, none⟩), .int .i64 0]) ∧ BkP p bb nx (bkL n m q nx c l) l l w' ∧ (∀ x, p.own bb x → w.heap.size ≤ x) else e = .returned (.tuple #[.pointer none, .int .i64 180])
theorem bkL_raw {n m q nx : Nat} {c : Int} (h1 : 1 ≤ n ∧ n ≤ 1024) (h2 : 1 ≤ m ∧ m ≤ 4096) (hn : 1 ≤ nx ∧ nx < 4294967296) (hc : 0 ≤ c ∧ c ≤ 1099511627776) : Raw (bkL n m q nx c []) :=
  ⟨h1.1, h1.2, h2.1, h2.2, hn.1, hn.2, hc.1, hc.2, .nil, by simp, by simp, .nil, by simp, Nat.zero_le _⟩
set_option maxRecDepth 100000 in
set_option maxHeartbeats 4000000 in
theorem of_ok {w : World} {n m q : Nat} (h1 : 1 ≤ n ∧ n ≤ 1024) (h2 : 1 ≤ m ∧ m ≤ 4096) (h3 : 1 ≤ q ∧ q ≤ 64) {nx : Nat} (hn : 1 ≤ nx ∧ nx < 4294967296) {c : Int} (hc : 0 ≤ c ∧ c ≤ 1099511627776) {v : Value} {l : List Bo} (hv : Bos w v l) (hl : l.length ≤ m) :
    Calls Tryz.prog 7 #[shV n m q, .int .u32 (nx : Int), .int .i64 c, v] w (OfE w n m q nx c l) := by
  obtain ⟨W, hW⟩ : ∃ W, W = w.alloc (.cells #[.int .i64 (n : Int), .int .i64 (m : Int), .int .i64 (q : Int)] 23) := ⟨_, rfl⟩
  obtain ⟨z, hz⟩ : ∃ z, z = w.heap.size := ⟨_, rfl⟩
  have f0 : Fr (fun _ => False) w W := by rw [hW]; exact Fr.alloc (Fr.refl _ _) _
  have hg : W.heap[z]? = some (.cells #[.int .i64 (n : Int), .int .i64 (m : Int), .int .i64 (q : Int)] 23 (0, 0)) := by rw [hW, hz]; exact heap_alloc_at _ _
  have z0 := (cell_of hg 0).trans (show _ = some (Value.int .i64 (n : Int)) from rfl)
  have z1 := (cell_of hg 1).trans (show _ = some (Value.int .i64 (m : Int)) from rfl)
  have z2 := (cell_of hg 2).trans (show _ = some (Value.int .i64 (q : Int)) from rfl)
  obtain ⟨sa, sc, rfl⟩ := bos_slice hv
  obtain ⟨k, hk⟩ : ∃ k, k = l.length := ⟨_, rfl⟩
  rw [← hk] at hv hl
  rw [← hk]
  have HN := Lib.hid (new_ok W h1 h2 h3); have F0 := Lib.hid f0; have Hg := Lib.hid hg
  have HV := Lib.hid hv; have Hk := Lib.hid hk
  have HR0 := Lib.hid (bkL_raw (n := n) (m := m) (q := q) h1 h2 hn hc)
  have b1 : decide ((nx : Int) < 1) = false := by simp; omega
  have b1' : decide (nx < 1) = false := by simp; omega
  have b1'' : decide (nx = 0) = false := by simp; omega
  have b2 : decide (c < 0) = false := by simp; omega
  have b3 : decide (1099511627776 < c) = false := by simp; omega
  have b4 : decide ((m : Int) < (k : Int)) = false := by simp; omega
  have b4' : decide (m < k) = false := by simp; omega
  have Hlm := Lib.hid hl; have Hm := Lib.hid h2; have Hn := Lib.hid hn; have Hc := Lib.hid hc
  clear hg f0 h1 h2 h3 hv hk hn hc hl
  go_enter Tryz.func7, Tryz.ntmps7
  go_upto_region 1 with fail
  rw [← hW, ← hz]
  clear hW hz
  go_wp2_with fail
  refine HN.out.mono ?_
  rintro e w1 ⟨p, bb, rfl, hB, hnew, f1⟩
  have hg1 := f1.get Hg.out (fun h => h)
  clear z0 z1 z2
  have z1 := (cell_of hg1 1).trans (show _ = some (Value.int .i64 (m : Int)) from rfl)
  have F1 := Lib.hid (F0.out.trans f1 (fun _ _ h => h))
  have HB := Lib.hid hB; have Hnew := Lib.hid (show ∀ x, p.own bb x → w.heap.size ≤ x from fun x hx => Nat.le_trans F0.out.size (hnew x hx))
  clear f1 hB hnew hg1
  go_upto_region 4 with fail
  go_cut [39] (fun s wx => s = .bool false ∧ Fr (fun _ => False) w1 wx)
  case first =>
    go_wp2_with fail
    go_meet
    exact ⟨rfl, Fr.refl _ _⟩
  case rest =>
  obtain ⟨rfl, f2⟩ := hcut
  have hB := HB.out.keep f2
  have F2 := Lib.hid (F1.out.trans f2 (fun _ _ h => h))
  have y4 := hB.z 4; have y5 := hB.z 5
  obtain ⟨_, _, _, _, c4, c5, _⟩ := hB.c
  have HB2 := Lib.hid hB
  clear f2 z1 hB b1 b1' b1'' b2 b3 b4 b4'
  go_upto_region 7 with fail
  have hs := ((HB2.out.setNext nx).setClock Hc.out.1 Hc.out.2).next (n := nx) HR0.out Hn.out.1
  have f3 : Fr (fun x => x = bb) wc ((wc.setCell ⟨bb, 5, none⟩ (.int .u32 (nx : Int))).setCell ⟨bb, 4, none⟩ (.int .i64 c)) := Fr.setCell (F := fun x => x = bb) (p := ⟨bb, 4, none⟩) (Fr.setCell (F := fun x => x = bb) (p := ⟨bb, 5, none⟩) (Fr.refl _ _) (fun _ => rfl) _) (fun _ => rfl) _
  obtain ⟨W0, hW0⟩ : ∃ W0, W0 = (wc.setCell ⟨bb, 5, none⟩ (.int .u32 (nx : Int))).setCell ⟨bb, 4, none⟩ (.int .i64 c) := ⟨_, rfl⟩
  rw [← hW0] at hs f3 ⊢
  have Hs := Lib.hid (show BkP p bb nx (bkL n m q nx c []) [] [] W0 from hs)
  have F3 := Lib.hid (show Fr (fun _ => False) w W0 from Fr.toNew ((F2.out.mono (G := fun b => w.heap.size ≤ b) (fun _ _ h => h.elim)).trans f3 (fun b _ e => by rw [e]; exact Hnew.out _ (.inl rfl))))
  clear hs f3 hW0 y4 y5 c4 c5
  go_wp2_with fail
  go_loopw [12, 50] (fun s12 s50 wr => ∃ (p' : Pt) (i last : Nat), s12 = .int .u32 (last : Int) ∧ s50 = .int .i64 (i : Int) ∧ i ≤ k ∧ BkP p' bb nx (bkL n m q nx c (l.take i)) (l.take i) (l.take i) wr ∧ ofGo (bkL n m q nx c (l.take i)) last (l.drop i) = ofGo (bkL n m q nx c []) 0 l ∧ (∀ y ∈ l.take i, y.1 ≤ last) ∧ p'.nh ≤ (i : Int) + 1 ∧ (∀ x, p'.own bb x → w.heap.size ≤ x) ∧ Fr (fun _ => False) w wr) (fun _ s50 _ => k - (intOf s50).toNat)
  case atStart => exact ⟨p, 0, 0, rfl, rfl, Nat.zero_le _, by simpa using Hs.out, by simp, by simp, by have := HB.out.nh; simpa [bk0] using this, Hnew.out, F3.out⟩
  case round =>
    obtain ⟨p', i, last, rfl, rfl, hi, hB, hof, hlast, hnh, hnew, hfr⟩ := hrel
    clear Hs HB HB2 Hnew
    by_cases hlt : i < k
    · have hlt' : (i : Int) < (k : Int) := by omega
      have i0 : (0 : Int) ≤ (i : Int) := by omega
      have hv := Row.fr HV.out hfr (fun _ _ h => h)
      obtain ⟨g, cap, e1, d0, d1, d2⟩ := Bos.cells hv (k := i) (by rw [← Hk.out]; exact hlt)
      obtain ⟨x, hx⟩ : ∃ x, x = l[i]'(by rw [← Hk.out]; exact hlt) := ⟨_, rfl⟩
      rw [← hx] at d0 d1 d2
      simp only [Value.slice.injEq] at e1
      obtain ⟨rfl, -, rfl⟩ := e1
      have HBk := Lib.hid hB; have Hof := Lib.hid hof; have Hla := Lib.hid hlast; have Hnh := Lib.hid hnh; have Hnw := Lib.hid hnew; have Hfr := Lib.hid hfr; have Hd := Lib.hid (show l.drop i = x :: l.drop (i + 1) by rw [hx]; exact List.drop_eq_getElem_cons _)
      have Ht := Lib.hid (show l.take (i + 1) = l.take i ++ [x] by rw [hx]; exact (List.take_append_getElem (by rw [← Hk.out]; exact hlt)).symm)
      have Hlt := Lib.hid hlt
      clear hx
      clear hB hof hlast hnh hnew hfr hlt hv hi
      go_upto_region 11 with fail
      obtain ⟨W1, hW1⟩ : ∃ W1, W1 = wr.alloc (.cells #[.int .u32 (x.1 : Int), .int .i64 x.2.1, .int .i64 x.2.2] 70) := ⟨_, rfl⟩
      obtain ⟨xb, hxb⟩ : ∃ xb, xb = wr.heap.size := ⟨_, rfl⟩
      rw [← hW1, ← hxb]
      have fa : Fr (fun _ => False) wr W1 := by rw [hW1]; exact Fr.alloc (Fr.refl _ _) _
      have hg : W1.heap[xb]? = some (.cells #[.int .u32 (x.1 : Int), .int .i64 x.2.1, .int .i64 x.2.2] 70 (0, 0)) := by rw [hW1, hxb]; exact heap_alloc_at _ _
      obtain ⟨x0, x1, x2⟩ := box_bo hg
      have hm := may_ok (HBk.out.keep fa) x last
      obtain ⟨tb, htb⟩ : ∃ tb, tb = mayB (bkL n m q nx c (l.take i)) nx x last := ⟨_, rfl⟩
      rw [← htb] at hm
      have HM := Lib.hid hm; have Fa := Lib.hid fa; have Hg := Lib.hid hg; have Htb := Lib.hid htb
      have Hxb := Lib.hid hxb
      clear hW1 hxb fa hg hm htb d0 d1 d2
      go_wp2_with fail
      refine HM.out.mono ?_
      rintro e w2 ⟨rfl, f2⟩
      have hg2 := f2.get Hg.out (fun h => h)
      have F2' := Lib.hid (Fa.out.trans f2 (fun _ _ h => h))
      have Hg2 := Lib.hid hg2
      clear x0 x1 x2 f2 hg2
      obtain ⟨x0, x1, x2⟩ := box_bo Hg2.out
      cases tb with
      | false =>
        have HO := Lib.hid (show ofGo (bkL n m q nx c []) 0 l = false by
          rw [← Hof.out, Hd.out]
          show (mayB (bkL n m q nx c (l.take i)) nx x last && _) = false
          rw [← Htb.out]; rfl)
        go_wp2_with fail
        refine bodyPost_ret (v := .tuple #[.pointer none, .int .i64 180]) ?_ rfl ?_
        · simp [results, Tryz.f7, go_sem]
        · exact ⟨Hfr.out.trans F2'.out (fun _ _ h => h), by rw [HO.out]; rfl⟩
      | true =>
        obtain ⟨xi, xk, xt⟩ := x
        have hq := mayB_true Htb.out.symm
        obtain ⟨j, rfl⟩ : ∃ j : Nat, xk = (j : Int) := ⟨xk.toNat, by have := hq.2.2.1; simp only at this; omega⟩
        have hlen : (l.take i).length = i := List.length_take_of_le (by have := Hlt.out; have := Hk.out; omega)
        have hst := of_step HBk.out.raw Htb.out.symm Hla.out (by show (l.take i).length < m; have := Hlt.out; have := Hlm.out; omega)
        have hrl := raw_len hst.1
        have hp := put_ok (HBk.out.keep F2'.out) (n := nx) hst.1 hst.2.1 hst.2.2.1 (by
          have := Hnh.out
          have h2 : (l.take i ++ [((xi, (j : Int), xt) : Bo)]).length + 1 ≤ nx := hrl
          rw [List.length_append, hlen] at h2
          simp only [List.length_cons, List.length_nil] at h2
          omega)
        have Hp := Lib.hid hp
        have Hst := Lib.hid hst.2.2.2
        have HO := Lib.hid (show ofGo (bkL n m q nx c (l.take (i + 1))) xi (l.drop (i + 1)) = ofGo (bkL n m q nx c []) 0 l by
          rw [← Hof.out, Hd.out, Ht.out]
          show _ = (mayB (bkL n m q nx c (l.take i)) nx (xi, (j : Int), xt) last && _)
          rw [← Htb.out]; rfl)
        clear hq hlen hst hrl hp
        go_wp2_with fail
        refine Hp.out.mono ?_
        rintro e w3 ⟨rfl, p3, h3, f3, o3, n3⟩
        have hne : ¬ p'.own bb xb := fun h => by have := HBk.out.lt h; have := Hxb.out; omega
        have hg3 := f3.get Hg2.out hne
        have F3' := Lib.hid (show Fr (fun _ => False) w w3 from Fr.toNew (((Hfr.out.trans F2'.out (fun _ _ h => h)).mono (G := fun b => w.heap.size ≤ b) (fun _ _ h => h.elim)).trans f3 (fun b _ hb => Hnw.out b hb)))
        have H3 := Lib.hid (show BkP p3 bb nx (bkL n m q nx c (l.take (i + 1))) (l.take (i + 1)) (l.take (i + 1)) w3 by rw [Ht.out]; exact h3)
        have Hn3 := Lib.hid (show p3.nh ≤ ((i + 1 : Nat) : Int) + 1 by have := Hnh.out; push_cast; omega)
        have Ho3 := Lib.hid (show ∀ y, p3.own bb y → w.heap.size ≤ y from fun y hy => by
          rcases o3 y hy with e | e
          · exact Hnw.out y e
          · have := Hfr.out.size; have := F2'.out.size; omega)
        clear x0 x1 x2 h3 f3 o3 n3 hne
        obtain ⟨x0, x1, x2⟩ := box_bo (x := (xi, (j : Int), xt)) hg3
        clear hg3
        obtain ⟨k1, hk1⟩ : ∃ k1, k1 = i + 1 := ⟨_, rfl⟩
        have hk5 : k1 ≤ 4096 := by have := Hlt.out; have := Hlm.out; have := Hm.out; omega
        have e1 : (i : Int) + 1 = (k1 : Int) := by omega
        have e2 : wrap64 (k1 : Int) = (k1 : Int) := by unfold wrap64; omega
        have e3 : IntKind.i64.wrap (k1 : Int) = (k1 : Int) := by rw [IntKind.wrap_i64]; omega
        have HK1 := Lib.hid hk1
        rw [← hk1] at H3 HO Hn3 Ht
        clear hk1 hk5
        go_wp2_with fail
        go_roundw
        case rel => exact ⟨p3, k1, xi, rfl, rfl, by have := Hlt.out; have := HK1.out; omega, H3.out, HO.out, by rw [Ht.out]; exact Hst.out, Hn3.out, Ho3.out, F3'.out⟩
        case measure => have := Hlt.out; have := HK1.out; simp [intOf]; omega
    · have hlt' : ¬ (i : Int) < (k : Int) := by omega
      obtain rfl : i = k := by omega
      have et : l.take i = l := List.take_of_length_le (by have := Hk.out; omega)
      have ed : l.drop i = [] := List.drop_eq_nil_of_le (by have := Hk.out; omega)
      rw [et] at hB hof
      rw [ed] at hof
      have HBk := Lib.hid hB; have HO := Lib.hid (show ofGo (bkL n m q nx c []) 0 l = true from hof.symm); have Hnw := Lib.hid hnew; have Hfr := Lib.hid hfr
      clear hB hof hlast hnh hnew hfr et ed hi hlt
      go_wp2_with fail
      refine bodyPost_ret (v := .tuple #[.pointer (some ⟨bb, 0, none⟩), .int .i64 0]) ?_ rfl ?_
      · simp [results, Tryz.f7, go_sem]
      · exact ⟨Hfr.out, by rw [if_pos HO.out]; exact ⟨p', bb, rfl, HBk.out, Hnw.out⟩⟩
end Go.Proofs.YtmmjlnicfndmcaaGreat.Bk
namespace Go.Proofs.YtmmjlnicfndmcaaGreat.Bk
open Go.RowKit Go.Shelf
attribute [local go_sem] Oper.semAt_some
/-- The head's numbers. -/
def SameC (b : Bk) (nx bb : Nat) (w : World) : Prop := w.cell? ⟨bb, 0, none⟩ = some (.int .i64 (b.seats : Int)) ∧ w.cell? ⟨bb, 1, none⟩ = some (.int .i64 (b.codes : Int)) ∧ w.cell? ⟨bb, 4, none⟩ = some (.int .i64 b.clock) ∧ w.cell? ⟨bb, 5, none⟩ = some (.int .u32 (nx : Int))
theorem BkP.sameC {p : Pt} {bb nx : Nat} {b : Bk} {LS LD : List Bo} {w : World} (h : BkP p bb nx b LS LD w) : SameC b nx bb w := by
  obtain ⟨c0, c1, _, _, c4, c5, _⟩ := h.c
  exact ⟨c0, c1, c4, c5⟩
def sameK (A : Bk) (nx : Nat) (C : Bk) (ny : Nat) : Bool := decide (A.seats = C.seats) && (decide (A.codes = C.codes) && (decide (A.clock = C.clock) && (decide (nx = ny) && decide (A.L = C.L))))
set_option maxRecDepth 100000 in
set_option maxHeartbeats 4000000 in
theorem bsame_no1 {w : World} {q r : Option Addr} (h : NoBook w q) : Calls Tryz.prog 16 #[.pointer q, .pointer r] w fun e w' => e = .returned (.bool false) ∧ Fr (fun _ => False) w w' := by
  have HTa := Lib.hid (fun (w' : World) (f : Fr (fun _ => False) w w') => there_no (h.fr f))
  clear h
  go_enter Tryz.func16, Tryz.ntmps16
  go_upto_region 1 with fail
  simp only [List.append_eq, List.cons_append, List.nil_append]
  go_cut [4] (fun s wx => s = .bool false ∧ Fr (fun _ => False) w wx)
  case first =>
    go_big_quiet ((go_at_call 39; with_reducible exact Calls.quiet_of_same ((HTa.out _ (by first | exact Fr.refl _ _ | exact (Fr.refl _ _).drewN _)).mono fun _ _ h => ⟨h.1, h.2.symm⟩)))
    go_wp2_with fail
    go_meet
    exact ⟨rfl, by first | exact Fr.refl _ _ | exact (Fr.refl _ _).drewN _⟩
  case rest =>
    obtain ⟨rfl, f1⟩ := hcut
    have F1 := Lib.hid f1
    clear f1
    go_wp2_with fail
    go_ret
    exact ⟨rfl, F1.out⟩
set_option maxRecDepth 100000 in
set_option maxHeartbeats 4000000 in
theorem bsame_no2 {p : Pt} {bb nx : Nat} {A : Bk} {LS LD : List Bo} {w : World} {r : Option Addr} (h1 : BkP p bb nx A LS LD w) (h : NoBook w r) : Calls Tryz.prog 16 #[.pointer (some ⟨bb, 0, none⟩), .pointer r] w fun e w' => e = .returned (.bool false) ∧ Fr (fun _ => False) w w' := by
  have HTa := Lib.hid (fun (w' : World) (f : Fr (fun _ => False) w w') => there_ok (h1.keep f))
  have HTb := Lib.hid (fun (w' : World) (f : Fr (fun _ => False) w w') => there_no (h.fr f))
  clear h h1
  go_enter Tryz.func16, Tryz.ntmps16
  go_upto_region 1 with fail
  simp only [List.append_eq, List.cons_append, List.nil_append]
  go_cut [4] (fun s wx => s = .bool false ∧ Fr (fun _ => False) w wx)
  case first =>
    go_big_quiet ((first | (go_at_call 39; with_reducible exact Calls.quiet_of_same ((HTa.out _ (by first | exact Fr.refl _ _ | exact (Fr.refl _ _).drewN _)).mono fun _ _ h => ⟨h.1, h.2.symm⟩)) | (go_at_call 39; with_reducible exact Calls.quiet_of_same ((HTb.out _ (by first | exact Fr.refl _ _ | exact (Fr.refl _ _).drewN _)).mono fun _ _ h => ⟨h.1, h.2.symm⟩))))
    go_wp2_with fail
    go_meet
    exact ⟨rfl, by first | exact Fr.refl _ _ | exact (Fr.refl _ _).drewN _⟩
  case rest =>
    obtain ⟨rfl, f1⟩ := hcut
    have F1 := Lib.hid f1
    clear f1
    go_wp2_with fail
    go_ret
    exact ⟨rfl, F1.out⟩
end Go.Proofs.YtmmjlnicfndmcaaGreat.Bk
namespace Go.Proofs.YtmmjlnicfndmcaaGreat.Bk
open Go.RowKit Go.Shelf
attribute [local go_sem] Oper.semAt_some
set_option maxRecDepth 100000 in
set_option maxHeartbeats 4000000 in
theorem bsame_all {p q : Pt} {bb cc nx ny : Nat} {A C : Bk} {LD LE : List Bo} {w : World} (h1 : BkP p bb nx A A.L LD w) (h2 : BkP q cc ny C C.L LE w) (e0 : A.seats = C.seats) (e1 : A.codes = C.codes) (e2 : A.clock = C.clock) (e3 : nx = ny) : Calls Tryz.prog 16 #[.pointer (some ⟨bb, 0, none⟩), .pointer (some ⟨cc, 0, none⟩)] w fun e w' => e = .returned (.bool (decide (A.L = C.L))) ∧ Fr (fun _ => False) w w' := by
  have b0 : ((A.seats : Int) == (C.seats : Int)) = true := by rw [beq_iff_eq]; omega
  have b1 : ((A.codes : Int) == (C.codes : Int)) = true := by rw [beq_iff_eq]; omega
  have b2 : (A.clock == C.clock) = true := by rw [beq_iff_eq]; omega
  have b3 : ((nx : Int) == (ny : Int)) = true := by rw [beq_iff_eq]; omega
  clear e0 e1 e2 e3
  have HTa := Lib.hid (fun (w' : World) (f : Fr (fun _ => False) w w') => there_ok (h1.keep f))
  have HTb := Lib.hid (fun (w' : World) (f : Fr (fun _ => False) w w') => there_ok (h2.keep f))
  have HLa := Lib.hid (fun (w' : World) (f : Fr (fun _ => False) w w') => list_ok (h1.keep f))
  have HLb := Lib.hid (fun (w' : World) (f : Fr (fun _ => False) w w') => list_ok (h2.keep f))
  have HSall := Lib.hid (fun (w' : World) (f : Fr (fun _ => False) w w') => And.intro (h1.keep f).sameC (h2.keep f).sameC)
  have HlA := Lib.hid (show A.L.length ≤ 4096 by have := h1.raw.few; have := h1.raw.c1; omega)
  have HlB := Lib.hid (show C.L.length ≤ 4096 by have := h2.raw.few; have := h2.raw.c1; omega)
  obtain ⟨c0, c1, c4, c5⟩ := h1.sameC
  obtain ⟨d0, d1, d4, d5⟩ := h2.sameC
  clear h1 h2
  go_enter Tryz.func16, Tryz.ntmps16
  go_upto_region 1 with fail
  simp only [List.append_eq, List.cons_append, List.nil_append]
  go_cut [4] (fun s wx => s = .bool (decide (A.L = C.L)) ∧ Fr (fun _ => False) w wx)
  case first =>
    refine wp_region_held_drew (S := fun w' => (w'.cell? ⟨bb, 0, none⟩ = some (.int .i64 (A.seats : Int)) ∧ w'.cell? ⟨bb, 1, none⟩ = some (.int .i64 (A.codes : Int)) ∧ w'.cell? ⟨bb, 4, none⟩ = some (.int .i64 A.clock) ∧ w'.cell? ⟨bb, 5, none⟩ = some (.int .u32 (nx : Int))) ∧ (w'.cell? ⟨cc, 0, none⟩ = some (.int .i64 (C.seats : Int)) ∧ w'.cell? ⟨cc, 1, none⟩ = some (.int .i64 (C.codes : Int)) ∧ w'.cell? ⟨cc, 4, none⟩ = some (.int .i64 C.clock) ∧ w'.cell? ⟨cc, 5, none⟩ = some (.int .u32 (ny : Int)))) (by kernel_rfl) (by exact HSall.out _ (Fr.drew (Fr.refl _ _))) (fun hHeld => ?_)
    refine wpAnyH_take (i := 0) (v := ?_) rfl (by kernel_rfl) (by kernel_rfl) (by kernel_rfl) (fun _ _ _ h => h) (Or.inl ⟨by rfl, ?_⟩) (by assumption) ?_
    rotate_left
    · intro w' hSw; (try dsimp only at hSw); go_simp; try with_reducible rfl
    try simp only [Act.put, List.getElem_toArray, List.getElem_cons_zero, List.setIfInBounds_toArray, List.set_cons_zero, List.set_cons_succ]
    refine wpAnyH_ready (rs := [1]) (by kernel_rfl) (by simp) ?_
    refine AllReadyH.cons rfl (fun K hK => ?_) AllReadyH.nil
    go_simp
    refine (HTa.out _ (Fr.drew (Fr.refl _ _))).mono ?_
    rintro e w1 ⟨rfl, rfl⟩
    try go_simp
    refine hK.out _ _ ?_ (fun hHeld => ?_)
    · (try dsimp only); exact HSall.out _ (Fr.drew (Fr.refl _ _))
    clear hK K
    try simp only [Act.put, List.getElem_toArray, List.getElem_cons_zero, List.getElem_cons_succ, List.setIfInBounds_toArray, List.set_cons_zero, List.set_cons_succ]
    refine wpAnyH_take (i := 2) (v := ?_) rfl (by kernel_rfl) (by kernel_rfl) (by kernel_rfl) (fun _ _ _ h => h) (Or.inl ⟨by rfl, ?_⟩) (by assumption) ?_
    rotate_left
    · intro w' hSw; (try dsimp only at hSw); go_simp; try with_reducible rfl
    try simp only [Act.put, List.getElem_toArray, List.getElem_cons_zero, List.getElem_cons_succ, List.setIfInBounds_toArray, List.set_cons_zero, List.set_cons_succ]
    refine wpAnyH_take (i := 3) (v := ?_) rfl (by kernel_rfl) (by kernel_rfl) (by kernel_rfl) (fun _ _ _ h => h) (Or.inl ⟨by rfl, ?_⟩) (by assumption) ?_
    rotate_left
    · intro w' hSw; (try dsimp only at hSw); go_simp; try with_reducible rfl
    try simp only [Act.put, List.getElem_toArray, List.getElem_cons_zero, List.getElem_cons_succ, List.setIfInBounds_toArray, List.set_cons_zero, List.set_cons_succ]
    refine wpAnyH_ready (rs := [4]) (by kernel_rfl) (by simp) ?_
    refine AllReadyH.cons rfl (fun K hK => ?_) AllReadyH.nil
    go_simp
    refine (HTb.out _ (Fr.drew (Fr.refl _ _))).mono ?_
    rintro e w4 ⟨rfl, rfl⟩
    try go_simp
    refine hK.out _ _ ?_ (fun hHeld => ?_)
    · (try dsimp only); exact HSall.out _ (Fr.drew (Fr.refl _ _))
    clear hK K
    try simp only [Act.put, List.getElem_toArray, List.getElem_cons_zero, List.getElem_cons_succ, List.setIfInBounds_toArray, List.set_cons_zero, List.set_cons_succ]
    refine wpAnyH_take (i := 5) (v := ?_) rfl (by kernel_rfl) (by kernel_rfl) (by kernel_rfl) (fun _ _ _ h => h) (Or.inl ⟨by rfl, ?_⟩) (by assumption) ?_
    rotate_left
    · intro w' hSw; (try dsimp only at hSw); go_simp; try with_reducible rfl
    try simp only [Act.put, List.getElem_toArray, List.getElem_cons_zero, List.getElem_cons_succ, List.setIfInBounds_toArray, List.set_cons_zero, List.set_cons_succ]
    refine wpAnyH_take (i := 6) (v := ?_) rfl (by kernel_rfl) (by kernel_rfl) (by kernel_rfl) (fun _ _ _ h => h) (Or.inl ⟨by rfl, ?_⟩) (by assumption) ?_
    rotate_left
    · intro w' hSw; (try dsimp only at hSw); go_simp; try with_reducible rfl
    try simp only [Act.put, List.getElem_toArray, List.getElem_cons_zero, List.getElem_cons_succ, List.setIfInBounds_toArray, List.set_cons_zero, List.set_cons_succ]
    refine wpAnyH_take (i := 7) (v := ?_) rfl (by kernel_rfl) (by kernel_rfl) (by kernel_rfl) (fun _ _ _ h => h) (Or.inl ⟨by rfl, ?_⟩) (by assumption) ?_
    rotate_left
    · intro w' hSw; (try dsimp only at hSw); go_simp; try with_reducible rfl
    try simp only [Act.put, List.getElem_toArray, List.getElem_cons_zero, List.getElem_cons_succ, List.setIfInBounds_toArray, List.set_cons_zero, List.set_cons_succ]
    refine wpAnyH_take (i := 8) (v := ?_) rfl (by kernel_rfl) (by kernel_rfl) (by kernel_rfl) (fun _ _ _ h => h) (Or.inl ⟨by rfl, ?_⟩) (by assumption) ?_
    rotate_left
    · intro w' hSw; (try dsimp only at hSw); go_simp; try with_reducible rfl
    try simp only [Act.put, List.getElem_toArray, List.getElem_cons_zero, List.getElem_cons_succ, List.setIfInBounds_toArray, List.set_cons_zero, List.set_cons_succ]
    refine wpAnyH_take (i := 9) (v := ?_) rfl (by kernel_rfl) (by kernel_rfl) (by kernel_rfl) (fun _ _ _ h => h) (Or.inl ⟨by rfl, ?_⟩) (by assumption) ?_
    rotate_left
    · intro w' hSw; (try dsimp only at hSw); go_simp; try with_reducible rfl
    try simp only [Act.put, List.getElem_toArray, List.getElem_cons_zero, List.getElem_cons_succ, List.setIfInBounds_toArray, List.set_cons_zero, List.set_cons_succ]
    refine wpAnyH_take (i := 10) (v := ?_) rfl (by kernel_rfl) (by kernel_rfl) (by kernel_rfl) (fun _ _ _ h => h) (Or.inl ⟨by rfl, ?_⟩) (by assumption) ?_
    rotate_left
    · intro w' hSw; (try dsimp only at hSw); go_simp; try with_reducible rfl
    try simp only [Act.put, List.getElem_toArray, List.getElem_cons_zero, List.getElem_cons_succ, List.setIfInBounds_toArray, List.set_cons_zero, List.set_cons_succ]
    refine wpAnyH_take (i := 11) (v := ?_) rfl (by kernel_rfl) (by kernel_rfl) (by kernel_rfl) (fun _ _ _ h => h) (Or.inl ⟨by rfl, ?_⟩) (by assumption) ?_
    rotate_left
    · intro w' hSw; (try dsimp only at hSw); go_simp; try with_reducible rfl
    try simp only [Act.put, List.getElem_toArray, List.getElem_cons_zero, List.getElem_cons_succ, List.setIfInBounds_toArray, List.set_cons_zero, List.set_cons_succ]
    refine wpAnyH_take (i := 12) (v := ?_) rfl (by kernel_rfl) (by kernel_rfl) (by kernel_rfl) (fun _ _ _ h => h) (Or.inl ⟨by rfl, ?_⟩) (by assumption) ?_
    rotate_left
    · intro w' hSw; (try dsimp only at hSw); go_simp; try with_reducible rfl
    try simp only [Act.put, List.getElem_toArray, List.getElem_cons_zero, List.getElem_cons_succ, List.setIfInBounds_toArray, List.set_cons_zero, List.set_cons_succ]
    refine wpAnyH_take (i := 13) (v := ?_) rfl (by kernel_rfl) (by kernel_rfl) (by kernel_rfl) (fun _ _ _ h => h) (Or.inl ⟨by rfl, ?_⟩) (by assumption) ?_
    rotate_left
    · intro w' hSw; (try dsimp only at hSw); go_simp; try with_reducible rfl
    try simp only [Act.put, List.getElem_toArray, List.getElem_cons_zero, List.getElem_cons_succ, List.setIfInBounds_toArray, List.set_cons_zero, List.set_cons_succ]
    refine wpAnyH_take (i := 14) (v := ?_) rfl (by kernel_rfl) (by kernel_rfl) (by kernel_rfl) (fun _ _ _ h => h) (Or.inl ⟨by rfl, ?_⟩) (by assumption) ?_
    rotate_left
    · intro w' hSw; (try dsimp only at hSw); go_simp; try with_reducible rfl
    try simp only [Act.put, List.getElem_toArray, List.getElem_cons_zero, List.getElem_cons_succ, List.setIfInBounds_toArray, List.set_cons_zero, List.set_cons_succ]
    refine wpAnyH_take (i := 15) (v := ?_) rfl (by kernel_rfl) (by kernel_rfl) (by kernel_rfl) (fun _ _ _ h => h) (Or.inl ⟨by rfl, ?_⟩) (by assumption) ?_
    rotate_left
    · intro w' hSw; (try dsimp only at hSw); go_simp; try with_reducible rfl
    try simp only [Act.put, List.getElem_toArray, List.getElem_cons_zero, List.getElem_cons_succ, List.setIfInBounds_toArray, List.set_cons_zero, List.set_cons_succ]
    refine wpAnyH_take (i := 16) (v := ?_) rfl (by kernel_rfl) (by kernel_rfl) (by kernel_rfl) (fun _ _ _ h => h) (Or.inl ⟨by rfl, ?_⟩) (by assumption) ?_
    rotate_left
    · intro w' hSw; (try dsimp only at hSw); go_simp; try with_reducible rfl
    try simp only [Act.put, List.getElem_toArray, List.getElem_cons_zero, List.getElem_cons_succ, List.setIfInBounds_toArray, List.set_cons_zero, List.set_cons_succ]
    refine wpAnyH_take (i := 17) (v := ?_) rfl (by kernel_rfl) (by kernel_rfl) (by kernel_rfl) (fun _ _ _ h => h) (Or.inl ⟨by rfl, ?_⟩) (by assumption) ?_
    rotate_left
    · intro w' hSw; (try dsimp only at hSw); go_simp; try with_reducible rfl
    try simp only [Act.put, List.getElem_toArray, List.getElem_cons_zero, List.getElem_cons_succ, List.setIfInBounds_toArray, List.set_cons_zero, List.set_cons_succ]
    refine wpAnyH_take (i := 18) (v := ?_) rfl (by kernel_rfl) (by kernel_rfl) (by kernel_rfl) (fun _ _ _ h => h) (Or.inl ⟨by rfl, ?_⟩) (by assumption) ?_
    rotate_left
    · intro w' hSw; (try dsimp only at hSw); go_simp; try with_reducible rfl
    try simp only [Act.put, List.getElem_toArray, List.getElem_cons_zero, List.getElem_cons_succ, List.setIfInBounds_toArray, List.set_cons_zero, List.set_cons_succ]
    refine wpAnyH_take (i := 19) (v := ?_) rfl (by kernel_rfl) (by kernel_rfl) (by kernel_rfl) (fun _ _ _ h => h) (Or.inl ⟨by rfl, ?_⟩) (by assumption) ?_
    rotate_left
    · intro w' hSw; (try dsimp only at hSw); go_simp; try with_reducible rfl
    try simp only [Act.put, List.getElem_toArray, List.getElem_cons_zero, List.getElem_cons_succ, List.setIfInBounds_toArray, List.set_cons_zero, List.set_cons_succ]
    refine wpAnyH_take (i := 20) (v := ?_) rfl (by kernel_rfl) (by kernel_rfl) (by kernel_rfl) (fun _ _ _ h => h) (Or.inl ⟨by rfl, ?_⟩) (by assumption) ?_
    rotate_left
    · intro w' hSw; (try dsimp only at hSw); go_simp; try with_reducible rfl
    try simp only [Act.put, List.getElem_toArray, List.getElem_cons_zero, List.getElem_cons_succ, List.setIfInBounds_toArray, List.set_cons_zero, List.set_cons_succ]
    refine wpAnyH_take (i := 21) (v := ?_) rfl (by kernel_rfl) (by kernel_rfl) (by kernel_rfl) (fun _ _ _ h => h) (Or.inl ⟨by rfl, ?_⟩) (by assumption) ?_
    rotate_left
    · intro w' hSw; (try dsimp only at hSw); go_simp; try with_reducible rfl
    try simp only [Act.put, List.getElem_toArray, List.getElem_cons_zero, List.getElem_cons_succ, List.setIfInBounds_toArray, List.set_cons_zero, List.set_cons_succ]
    refine wpAnyH_take (i := 22) (v := ?_) rfl (by kernel_rfl) (by kernel_rfl) (by kernel_rfl) (fun _ _ _ h => h) (Or.inl ⟨by rfl, ?_⟩) (by assumption) ?_
    rotate_left
    · intro w' hSw; (try dsimp only at hSw); go_simp; try with_reducible rfl
    try simp only [Act.put, List.getElem_toArray, List.getElem_cons_zero, List.getElem_cons_succ, List.setIfInBounds_toArray, List.set_cons_zero, List.set_cons_succ]
    refine wpAnyH_take (i := 23) (v := ?_) rfl (by kernel_rfl) (by kernel_rfl) (by kernel_rfl) (fun _ _ _ h => h) (Or.inl ⟨by rfl, ?_⟩) (by assumption) ?_
    rotate_left
    · intro w' hSw; (try dsimp only at hSw); go_simp; try with_reducible rfl
    try simp only [Act.put, List.getElem_toArray, List.getElem_cons_zero, List.getElem_cons_succ, List.setIfInBounds_toArray, List.set_cons_zero, List.set_cons_succ]
    refine wpAnyH_take (i := 24) (v := ?_) rfl (by kernel_rfl) (by kernel_rfl) (by kernel_rfl) (fun _ _ _ h => h) (Or.inl ⟨by rfl, ?_⟩) (by assumption) ?_
    rotate_left
    · intro w' hSw; (try dsimp only at hSw); go_simp; try with_reducible rfl
    try simp only [Act.put, List.getElem_toArray, List.getElem_cons_zero, List.getElem_cons_succ, List.setIfInBounds_toArray, List.set_cons_zero, List.set_cons_succ]
    refine wpAnyH_take (i := 25) (v := ?_) rfl (by kernel_rfl) (by kernel_rfl) (by kernel_rfl) (fun _ _ _ h => h) (Or.inl ⟨by rfl, ?_⟩) (by assumption) ?_
    rotate_left
    · intro w' hSw; (try dsimp only at hSw); go_simp; try with_reducible rfl
    try simp only [Act.put, List.getElem_toArray, List.getElem_cons_zero, List.getElem_cons_succ, List.setIfInBounds_toArray, List.set_cons_zero, List.set_cons_succ]
    refine wpAnyH_take (i := 26) (v := ?_) rfl (by kernel_rfl) (by kernel_rfl) (by kernel_rfl) (fun _ _ _ h => h) (Or.inl ⟨by rfl, ?_⟩) (by assumption) ?_
    rotate_left
    · intro w' hSw; (try dsimp only at hSw); go_simp; try with_reducible rfl
    try simp only [Act.put, List.getElem_toArray, List.getElem_cons_zero, List.getElem_cons_succ, List.setIfInBounds_toArray, List.set_cons_zero, List.set_cons_succ]
    refine wpAnyH_take (i := 27) (v := ?_) rfl (by kernel_rfl) (by kernel_rfl) (by kernel_rfl) (fun _ _ _ h => h) (Or.inl ⟨by rfl, ?_⟩) (by assumption) ?_
    rotate_left
    · intro w' hSw; (try dsimp only at hSw); go_simp; try with_reducible rfl
    try simp only [Act.put, List.getElem_toArray, List.getElem_cons_zero, List.getElem_cons_succ, List.setIfInBounds_toArray, List.set_cons_zero, List.set_cons_succ]
    refine wpAnyH_take (i := 28) (v := ?_) rfl (by kernel_rfl) (by kernel_rfl) (by kernel_rfl) (fun _ _ _ h => h) (Or.inl ⟨by rfl, ?_⟩) (by assumption) ?_
    rotate_left
    · intro w' hSw; (try dsimp only at hSw); go_simp; try with_reducible rfl
    try simp only [Act.put, List.getElem_toArray, List.getElem_cons_zero, List.getElem_cons_succ, List.setIfInBounds_toArray, List.set_cons_zero, List.set_cons_succ]
    refine wpAnyH_take (i := 29) (v := ?_) rfl (by kernel_rfl) (by kernel_rfl) (by kernel_rfl) (fun _ _ _ h => h) (Or.inl ⟨by rfl, ?_⟩) (by assumption) ?_
    rotate_left
    · intro w' hSw; (try dsimp only at hSw); go_simp; try with_reducible rfl
    try simp only [Act.put, List.getElem_toArray, List.getElem_cons_zero, List.getElem_cons_succ, List.setIfInBounds_toArray, List.set_cons_zero, List.set_cons_succ]
    refine wpAnyH_take (i := 30) (v := ?_) rfl (by kernel_rfl) (by kernel_rfl) (by kernel_rfl) (fun _ _ _ h => h) (Or.inl ⟨by rfl, ?_⟩) (by assumption) ?_
    rotate_left
    · intro w' hSw; (try dsimp only at hSw); go_simp; try with_reducible rfl
    try simp only [Act.put, List.getElem_toArray, List.getElem_cons_zero, List.getElem_cons_succ, List.setIfInBounds_toArray, List.set_cons_zero, List.set_cons_succ]
    refine wpAnyH_take (i := 31) (v := ?_) rfl (by kernel_rfl) (by kernel_rfl) (by kernel_rfl) (fun _ _ _ h => h) (Or.inl ⟨by rfl, ?_⟩) (by assumption) ?_
    rotate_left
    · intro w' hSw; (try dsimp only at hSw); go_simp; try with_reducible rfl
    try simp only [Act.put, List.getElem_toArray, List.getElem_cons_zero, List.getElem_cons_succ, List.setIfInBounds_toArray, List.set_cons_zero, List.set_cons_succ]
    refine wpAnyH_take (i := 32) (v := ?_) rfl (by kernel_rfl) (by kernel_rfl) (by kernel_rfl) (fun _ _ _ h => h) (Or.inl ⟨by rfl, ?_⟩) (by assumption) ?_
    rotate_left
    · intro w' hSw; (try dsimp only at hSw); go_simp; try with_reducible rfl
    try simp only [Act.put, List.getElem_toArray, List.getElem_cons_zero, List.getElem_cons_succ, List.setIfInBounds_toArray, List.set_cons_zero, List.set_cons_succ]
    refine wpAnyH_take (i := 33) (v := ?_) rfl (by kernel_rfl) (by kernel_rfl) (by kernel_rfl) (fun _ _ _ h => h) (Or.inl ⟨by rfl, ?_⟩) (by assumption) ?_
    rotate_left
    · intro w' hSw; (try dsimp only at hSw); go_simp; try with_reducible rfl
    try simp only [Act.put, List.getElem_toArray, List.getElem_cons_zero, List.getElem_cons_succ, List.setIfInBounds_toArray, List.set_cons_zero, List.set_cons_succ]
    refine wpAnyH_take (i := 34) (v := ?_) rfl (by kernel_rfl) (by kernel_rfl) (by kernel_rfl) (fun _ _ _ h => h) (Or.inl ⟨by rfl, ?_⟩) (by assumption) ?_
    rotate_left
    · intro w' hSw; (try dsimp only at hSw); go_simp; try with_reducible rfl
    try simp only [Act.put, List.getElem_toArray, List.getElem_cons_zero, List.getElem_cons_succ, List.setIfInBounds_toArray, List.set_cons_zero, List.set_cons_succ]
    refine wpAnyH_take (i := 35) (v := ?_) rfl (by kernel_rfl) (by kernel_rfl) (by kernel_rfl) (fun _ _ _ h => h) (Or.inl ⟨by rfl, ?_⟩) (by assumption) ?_
    rotate_left
    · intro w' hSw; (try dsimp only at hSw); go_simp; try with_reducible rfl
    try simp only [Act.put, List.getElem_toArray, List.getElem_cons_zero, List.getElem_cons_succ, List.setIfInBounds_toArray, List.set_cons_zero, List.set_cons_succ]
    refine wpAnyH_take (i := 36) (v := ?_) rfl (by kernel_rfl) (by kernel_rfl) (by kernel_rfl) (fun _ _ _ h => h) (Or.inl ⟨by rfl, ?_⟩) (by assumption) ?_
    rotate_left
    · intro w' hSw; (try dsimp only at hSw); go_simp; try with_reducible rfl
    try simp only [Act.put, List.getElem_toArray, List.getElem_cons_zero, List.getElem_cons_succ, List.setIfInBounds_toArray, List.set_cons_zero, List.set_cons_succ]
    refine wpAnyH_take (i := 37) (v := ?_) rfl (by kernel_rfl) (by kernel_rfl) (by kernel_rfl) (fun _ _ _ h => h) (Or.inl ⟨by rfl, ?_⟩) (by assumption) ?_
    rotate_left
    · intro w' hSw; (try dsimp only at hSw); go_simp; try with_reducible rfl
    try simp only [Act.put, List.getElem_toArray, List.getElem_cons_zero, List.getElem_cons_succ, List.setIfInBounds_toArray, List.set_cons_zero, List.set_cons_succ]
    refine wpAnyH_take (i := 38) (v := ?_) rfl (by kernel_rfl) (by kernel_rfl) (by kernel_rfl) (fun _ _ _ h => h) (Or.inl ⟨by rfl, ?_⟩) (by assumption) ?_
    rotate_left
    · intro w' hSw; (try dsimp only at hSw); go_simp; try with_reducible rfl
    try simp only [Act.put, List.getElem_toArray, List.getElem_cons_zero, List.getElem_cons_succ, List.setIfInBounds_toArray, List.set_cons_zero, List.set_cons_succ]
    refine wpAnyH_take (i := 39) (v := ?_) rfl (by kernel_rfl) (by kernel_rfl) (by kernel_rfl) (fun _ _ _ h => h) (Or.inl ⟨by rfl, ?_⟩) (by assumption) ?_
    rotate_left
    · intro w' hSw; (try dsimp only at hSw); go_simp; try with_reducible rfl
    try simp only [Act.put, List.getElem_toArray, List.getElem_cons_zero, List.getElem_cons_succ, List.setIfInBounds_toArray, List.set_cons_zero, List.set_cons_succ]
    refine wpAnyH_take (i := 40) (v := ?_) rfl (by kernel_rfl) (by kernel_rfl) (by kernel_rfl) (fun _ _ _ h => h) (Or.inl ⟨by rfl, ?_⟩) (by assumption) ?_
    rotate_left
    · intro w' hSw; (try dsimp only at hSw); go_simp; try with_reducible rfl
    try simp only [Act.put, List.getElem_toArray, List.getElem_cons_zero, List.getElem_cons_succ, List.setIfInBounds_toArray, List.set_cons_zero, List.set_cons_succ]
    refine wpAnyH_take (i := 41) (v := ?_) rfl (by kernel_rfl) (by kernel_rfl) (by kernel_rfl) (fun _ _ _ h => h) (Or.inl ⟨by rfl, ?_⟩) (by assumption) ?_
    rotate_left
    · intro w' hSw; (try dsimp only at hSw); go_simp; try with_reducible rfl
    try simp only [Act.put, List.getElem_toArray, List.getElem_cons_zero, List.getElem_cons_succ, List.setIfInBounds_toArray, List.set_cons_zero, List.set_cons_succ]
    refine wpAnyH_take (i := 42) (v := ?_) rfl (by kernel_rfl) (by kernel_rfl) (by kernel_rfl) (fun _ _ _ h => h) (Or.inl ⟨by rfl, ?_⟩) (by assumption) ?_
    rotate_left
    · intro w' hSw; (try dsimp only at hSw); go_simp; try with_reducible rfl
    try simp only [Act.put, List.getElem_toArray, List.getElem_cons_zero, List.getElem_cons_succ, List.setIfInBounds_toArray, List.set_cons_zero, List.set_cons_succ]
    refine wpAnyH_take (i := 43) (v := ?_) rfl (by kernel_rfl) (by kernel_rfl) (by kernel_rfl) (fun _ _ _ h => h) (Or.inl ⟨by rfl, ?_⟩) (by assumption) ?_
    rotate_left
    · intro w' hSw; (try dsimp only at hSw); go_simp; try with_reducible rfl
    try simp only [Act.put, List.getElem_toArray, List.getElem_cons_zero, List.getElem_cons_succ, List.setIfInBounds_toArray, List.set_cons_zero, List.set_cons_succ]
    refine wpAnyH_take (i := 44) (v := ?_) rfl (by kernel_rfl) (by kernel_rfl) (by kernel_rfl) (fun _ _ _ h => h) (Or.inl ⟨by rfl, ?_⟩) (by assumption) ?_
    rotate_left
    · intro w' hSw; (try dsimp only at hSw); go_simp; try with_reducible rfl
    try simp only [Act.put, List.getElem_toArray, List.getElem_cons_zero, List.getElem_cons_succ, List.setIfInBounds_toArray, List.set_cons_zero, List.set_cons_succ]
    refine wpAnyH_take (i := 45) (v := ?_) rfl (by kernel_rfl) (by kernel_rfl) (by kernel_rfl) (fun _ _ _ h => h) (Or.inl ⟨by rfl, ?_⟩) (by assumption) ?_
    rotate_left
    · intro w' hSw; (try dsimp only at hSw); go_simp; try with_reducible rfl
    try simp only [Act.put, List.getElem_toArray, List.getElem_cons_zero, List.getElem_cons_succ, List.setIfInBounds_toArray, List.set_cons_zero, List.set_cons_succ]
    refine wpAnyH_take (i := 46) (v := ?_) rfl (by kernel_rfl) (by kernel_rfl) (by kernel_rfl) (fun _ _ _ h => h) (Or.inl ⟨by rfl, ?_⟩) (by assumption) ?_
    rotate_left
    · intro w' hSw; (try dsimp only at hSw); go_simp; try with_reducible rfl
    try simp only [Act.put, List.getElem_toArray, List.getElem_cons_zero, List.getElem_cons_succ, List.setIfInBounds_toArray, List.set_cons_zero, List.set_cons_succ]
    refine wpAnyH_take (i := 47) (v := ?_) rfl (by kernel_rfl) (by kernel_rfl) (by kernel_rfl) (fun _ _ _ h => h) (Or.inl ⟨by rfl, ?_⟩) (by assumption) ?_
    rotate_left
    · intro w' hSw; (try dsimp only at hSw); go_simp; try with_reducible rfl
    try simp only [Act.put, List.getElem_toArray, List.getElem_cons_zero, List.getElem_cons_succ, List.setIfInBounds_toArray, List.set_cons_zero, List.set_cons_succ]
    refine wpAnyH_take (i := 48) (v := ?_) rfl (by kernel_rfl) (by kernel_rfl) (by kernel_rfl) (fun _ _ _ h => h) (Or.inl ⟨by rfl, ?_⟩) (by assumption) ?_
    rotate_left
    · intro w' hSw; (try dsimp only at hSw); go_simp; try with_reducible rfl
    try simp only [Act.put, List.getElem_toArray, List.getElem_cons_zero, List.getElem_cons_succ, List.setIfInBounds_toArray, List.set_cons_zero, List.set_cons_succ]
    refine wpAnyH_take (i := 49) (v := ?_) rfl (by kernel_rfl) (by kernel_rfl) (by kernel_rfl) (fun _ _ _ h => h) (Or.inl ⟨by rfl, ?_⟩) (by assumption) ?_
    rotate_left
    · intro w' hSw; (try dsimp only at hSw); go_simp; try with_reducible rfl
    try simp only [Act.put, List.getElem_toArray, List.getElem_cons_zero, List.getElem_cons_succ, List.setIfInBounds_toArray, List.set_cons_zero, List.set_cons_succ]
    refine wpAnyH_take (i := 50) (v := ?_) rfl (by kernel_rfl) (by kernel_rfl) (by kernel_rfl) (fun _ _ _ h => h) (Or.inl ⟨by rfl, ?_⟩) (by assumption) ?_
    rotate_left
    · intro w' hSw; (try dsimp only at hSw); go_simp; try with_reducible rfl
    try simp only [Act.put, List.getElem_toArray, List.getElem_cons_zero, List.getElem_cons_succ, List.setIfInBounds_toArray, List.set_cons_zero, List.set_cons_succ]
    refine wpAnyH_take (i := 51) (v := ?_) rfl (by kernel_rfl) (by kernel_rfl) (by kernel_rfl) (fun _ _ _ h => h) (Or.inl ⟨by rfl, ?_⟩) (by assumption) ?_
    rotate_left
    · intro w' hSw; (try dsimp only at hSw); go_simp; try with_reducible rfl
    try simp only [Act.put, List.getElem_toArray, List.getElem_cons_zero, List.getElem_cons_succ, List.setIfInBounds_toArray, List.set_cons_zero, List.set_cons_succ]
    refine wpAnyH_take (i := 52) (v := ?_) rfl (by kernel_rfl) (by kernel_rfl) (by kernel_rfl) (fun _ _ _ h => h) (Or.inl ⟨by rfl, ?_⟩) (by assumption) ?_
    rotate_left
    · intro w' hSw; (try dsimp only at hSw); go_simp; try with_reducible rfl
    try simp only [Act.put, List.getElem_toArray, List.getElem_cons_zero, List.getElem_cons_succ, List.setIfInBounds_toArray, List.set_cons_zero, List.set_cons_succ]
    refine wpAnyH_take (i := 53) (v := ?_) rfl (by kernel_rfl) (by kernel_rfl) (by kernel_rfl) (fun _ _ _ h => h) (Or.inl ⟨by rfl, ?_⟩) (by assumption) ?_
    rotate_left
    · intro w' hSw; (try dsimp only at hSw); go_simp; try with_reducible rfl
    try simp only [Act.put, List.getElem_toArray, List.getElem_cons_zero, List.getElem_cons_succ, List.setIfInBounds_toArray, List.set_cons_zero, List.set_cons_succ]
    refine wpAnyH_take (i := 54) (v := ?_) rfl (by kernel_rfl) (by kernel_rfl) (by kernel_rfl) (fun _ _ _ h => h) (Or.inl ⟨by rfl, ?_⟩) (by assumption) ?_
    rotate_left
    · intro w' hSw; (try dsimp only at hSw); go_simp; try with_reducible rfl
    try simp only [Act.put, List.getElem_toArray, List.getElem_cons_zero, List.getElem_cons_succ, List.setIfInBounds_toArray, List.set_cons_zero, List.set_cons_succ]
    refine wpAnyH_take (i := 55) (v := ?_) rfl (by kernel_rfl) (by kernel_rfl) (by kernel_rfl) (fun _ _ _ h => h) (Or.inl ⟨by rfl, ?_⟩) (by assumption) ?_
    rotate_left
    · intro w' hSw; (try dsimp only at hSw); go_simp; try with_reducible rfl
    try simp only [Act.put, List.getElem_toArray, List.getElem_cons_zero, List.getElem_cons_succ, List.setIfInBounds_toArray, List.set_cons_zero, List.set_cons_succ]
    refine wpAnyH_take (i := 56) (v := ?_) rfl (by kernel_rfl) (by kernel_rfl) (by kernel_rfl) (fun _ _ _ h => h) (Or.inl ⟨by rfl, ?_⟩) (by assumption) ?_
    rotate_left
    · intro w' hSw; (try dsimp only at hSw); go_simp; try with_reducible rfl
    try simp only [Act.put, List.getElem_toArray, List.getElem_cons_zero, List.getElem_cons_succ, List.setIfInBounds_toArray, List.set_cons_zero, List.set_cons_succ]
    refine wpAnyH_take (i := 57) (v := ?_) rfl (by kernel_rfl) (by kernel_rfl) (by kernel_rfl) (fun _ _ _ h => h) (Or.inl ⟨by rfl, ?_⟩) (by assumption) ?_
    rotate_left
    · intro w' hSw; (try dsimp only at hSw); go_simp; try with_reducible rfl
    try simp only [Act.put, List.getElem_toArray, List.getElem_cons_zero, List.getElem_cons_succ, List.setIfInBounds_toArray, List.set_cons_zero, List.set_cons_succ]
    refine wpAnyH_take (i := 58) (v := ?_) rfl (by kernel_rfl) (by kernel_rfl) (by kernel_rfl) (fun _ _ _ h => h) (Or.inl ⟨by rfl, ?_⟩) (by assumption) ?_
    rotate_left
    · intro w' hSw; (try dsimp only at hSw); go_simp; try with_reducible rfl
    try simp only [Act.put, List.getElem_toArray, List.getElem_cons_zero, List.getElem_cons_succ, List.setIfInBounds_toArray, List.set_cons_zero, List.set_cons_succ]
    refine wpAnyH_take (i := 59) (v := ?_) rfl (by kernel_rfl) (by kernel_rfl) (by kernel_rfl) (fun _ _ _ h => h) (Or.inl ⟨by rfl, ?_⟩) (by assumption) ?_
    rotate_left
    · intro w' hSw; (try dsimp only at hSw); go_simp; try with_reducible rfl
    try simp only [Act.put, List.getElem_toArray, List.getElem_cons_zero, List.getElem_cons_succ, List.setIfInBounds_toArray, List.set_cons_zero, List.set_cons_succ]
    refine wpAnyH_take (i := 61) (v := ?_) rfl (by kernel_rfl) (by kernel_rfl) (by kernel_rfl) (fun _ _ _ h => h) (Or.inl ⟨by rfl, ?_⟩) (by assumption) ?_
    rotate_left
    · intro w' hSw; (try dsimp only at hSw); go_simp; try with_reducible rfl
    try simp only [Act.put, List.getElem_toArray, List.getElem_cons_zero, List.getElem_cons_succ, List.setIfInBounds_toArray, List.set_cons_zero, List.set_cons_succ]
    refine wpAnyH_ready (rs := [60]) (by kernel_rfl) (by simp) ?_
    refine AllReadyH.cons rfl (fun K hK => ?_) AllReadyH.nil
    go_simp
    refine (HLa.out _ (Fr.drew (Fr.refl _ _))).mono ?_
    rintro e w60 ⟨v60, rfl, hv60, -, f60⟩
    have HV60 := Lib.hid hv60
    have F60 := Lib.hid ((Fr.drew (Fr.refl _ _)).trans f60 (fun _ _ h => h))
    have G60 := Lib.hid f60
    clear hv60 f60
    try go_simp
    refine hK.out _ _ ?_ (fun hHeld => ?_)
    · (try dsimp only); exact HSall.out _ F60.out
    clear hK K
    try simp only [Act.put, List.getElem_toArray, List.getElem_cons_zero, List.getElem_cons_succ, List.setIfInBounds_toArray, List.set_cons_zero, List.set_cons_succ]
    refine wpAnyH_ready (rs := [62]) (by kernel_rfl) (by simp) ?_
    refine AllReadyH.cons rfl (fun K hK => ?_) AllReadyH.nil
    go_simp
    refine (HLb.out _ F60.out).mono ?_
    rintro e w62 ⟨v62, rfl, hv62, -, f62⟩
    have HV62 := Lib.hid hv62
    have F62 := Lib.hid (F60.out.trans f62 (fun _ _ h => h))
    have G62 := Lib.hid f62
    clear hv62 f62
    try go_simp
    refine hK.out _ _ ?_ (fun hHeld => ?_)
    · (try dsimp only); exact HSall.out _ F62.out
    clear hK K
    try simp only [Act.put, List.getElem_toArray, List.getElem_cons_zero, List.getElem_cons_succ, List.setIfInBounds_toArray, List.set_cons_zero, List.set_cons_succ]
    refine wpAnyH_ready (rs := [63]) (by kernel_rfl) (by simp) ?_
    refine AllReadyH.cons rfl (fun K hK => ?_) AllReadyH.nil
    go_simp
    refine (equals_ok (Row.fr HV60.out G62.out (fun _ _ h => h)) HV62.out (by have := HlA.out; omega) (by have := HlB.out; omega)).mono ?_
    rintro e w63 ⟨rfl, f63⟩
    have F63 := Lib.hid (F62.out.trans f63 (fun _ _ h => h))
    clear f63
    try go_simp
    refine hK.out _ _ ?_ (fun hHeld => ?_)
    · (try dsimp only); exact HSall.out _ F63.out
    clear hK K
    try simp only [Act.put, List.getElem_toArray, List.getElem_cons_zero, List.getElem_cons_succ, List.setIfInBounds_toArray, List.set_cons_zero, List.set_cons_succ]
    refine wpAnyH_take (i := 64) (v := ?_) rfl (by kernel_rfl) (by kernel_rfl) (by kernel_rfl) (fun _ _ _ h => h) (Or.inl ⟨by rfl, ?_⟩) (by assumption) ?_
    rotate_left
    · intro w' hSw; (try dsimp only at hSw); go_simp; try with_reducible rfl
    try simp only [Act.put, List.getElem_toArray, List.getElem_cons_zero, List.getElem_cons_succ, List.setIfInBounds_toArray, List.set_cons_zero, List.set_cons_succ]
    refine wpAnyH_take (i := 65) (v := ?_) rfl (by kernel_rfl) (by kernel_rfl) (by kernel_rfl) (fun _ _ _ h => h) (Or.inl ⟨by rfl, ?_⟩) (by assumption) ?_
    rotate_left
    · intro w' hSw; (try dsimp only at hSw); go_simp; try with_reducible rfl
    try simp only [Act.put, List.getElem_toArray, List.getElem_cons_zero, List.getElem_cons_succ, List.setIfInBounds_toArray, List.set_cons_zero, List.set_cons_succ]
    refine wpAnyH_done (by kernel_rfl) ?_ _
    go_wp2_with fail
    go_meet
    exact ⟨rfl, F63.out⟩
  case rest =>
    obtain ⟨rfl, f1⟩ := hcut
    have F1 := Lib.hid f1
    clear f1
    go_wp2_with fail
    go_ret
    exact ⟨rfl, F1.out⟩
end Go.Proofs.YtmmjlnicfndmcaaGreat.Bk
namespace Go.Proofs.YtmmjlnicfndmcaaGreat.Bk
open Go.RowKit Go.Shelf
attribute [local go_sem] Oper.semAt_some
set_option maxRecDepth 100000 in
set_option maxHeartbeats 4000000 in
theorem bsame_0 {p q : Pt} {bb cc nx ny : Nat} {A C : Bk} {LD LE : List Bo} {w : World} (h1 : BkP p bb nx A A.L LD w) (h2 : BkP q cc ny C C.L LE w)  (e0 : ¬ A.seats = C.seats) : Calls Tryz.prog 16 #[.pointer (some ⟨bb, 0, none⟩), .pointer (some ⟨cc, 0, none⟩)] w fun e w' => e = .returned (.bool false) ∧ Fr (fun _ => False) w w' := by
  have b0 : ((A.seats : Int) == (C.seats : Int)) = false := by rw [beq_eq_false_iff_ne]; omega
  clear e0
  have HTa := Lib.hid (fun (w' : World) (f : Fr (fun _ => False) w w') => there_ok (h1.keep f))
  have HTb := Lib.hid (fun (w' : World) (f : Fr (fun _ => False) w w') => there_ok (h2.keep f))
  have HLa := Lib.hid (fun (w' : World) (f : Fr (fun _ => False) w w') => list_ok (h1.keep f))
  have HLb := Lib.hid (fun (w' : World) (f : Fr (fun _ => False) w w') => list_ok (h2.keep f))
  have HSall := Lib.hid (fun (w' : World) (f : Fr (fun _ => False) w w') => And.intro (h1.keep f).sameC (h2.keep f).sameC)
  have HlA := Lib.hid (show A.L.length ≤ 4096 by have := h1.raw.few; have := h1.raw.c1; omega)
  have HlB := Lib.hid (show C.L.length ≤ 4096 by have := h2.raw.few; have := h2.raw.c1; omega)
  obtain ⟨c0, c1, c4, c5⟩ := h1.sameC
  obtain ⟨d0, d1, d4, d5⟩ := h2.sameC
  clear h1 h2
  go_enter Tryz.func16, Tryz.ntmps16
  go_upto_region 1 with fail
  simp only [List.append_eq, List.cons_append, List.nil_append]
  go_cut [4] (fun s wx => s = .bool false ∧ Fr (fun _ => False) w wx)
  case first =>
    go_big_quiet ((first | (go_at_call 39; with_reducible exact Calls.quiet_of_same ((HTa.out _ (by first | exact Fr.refl _ _ | exact (Fr.refl _ _).drewN _)).mono fun _ _ h => ⟨h.1, h.2.symm⟩)) | (go_at_call 39; with_reducible exact Calls.quiet_of_same ((HTb.out _ (by first | exact Fr.refl _ _ | exact (Fr.refl _ _).drewN _)).mono fun _ _ h => ⟨h.1, h.2.symm⟩))))
    go_wp2_with fail
    go_meet
    exact ⟨rfl, by first | exact Fr.refl _ _ | exact (Fr.refl _ _).drewN _⟩
  case rest =>
    obtain ⟨rfl, f1⟩ := hcut
    have F1 := Lib.hid f1
    clear f1
    go_wp2_with fail
    go_ret
    exact ⟨rfl, F1.out⟩
set_option maxRecDepth 100000 in
set_option maxHeartbeats 4000000 in
theorem bsame_1 {p q : Pt} {bb cc nx ny : Nat} {A C : Bk} {LD LE : List Bo} {w : World} (h1 : BkP p bb nx A A.L LD w) (h2 : BkP q cc ny C C.L LE w) (e0 : A.seats = C.seats) (e1 : ¬ A.codes = C.codes) : Calls Tryz.prog 16 #[.pointer (some ⟨bb, 0, none⟩), .pointer (some ⟨cc, 0, none⟩)] w fun e w' => e = .returned (.bool false) ∧ Fr (fun _ => False) w w' := by
  have b0 : ((A.seats : Int) == (C.seats : Int)) = true := by rw [beq_iff_eq]; omega
  have b1 : ((A.codes : Int) == (C.codes : Int)) = false := by rw [beq_eq_false_iff_ne]; omega
  clear e0 e1
  have HTa := Lib.hid (fun (w' : World) (f : Fr (fun _ => False) w w') => there_ok (h1.keep f))
  have HTb := Lib.hid (fun (w' : World) (f : Fr (fun _ => False) w w') => there_ok (h2.keep f))
  have HLa := Lib.hid (fun (w' : World) (f : Fr (fun _ => False) w w') => list_ok (h1.keep f))
  have HLb := Lib.hid (fun (w' : World) (f : Fr (fun _ => False) w w') => list_ok (h2.keep f))
  have HSall := Lib.hid (fun (w' : World) (f : Fr (fun _ => False) w w') => And.intro (h1.keep f).sameC (h2.keep f).sameC)
  have HlA := Lib.hid (show A.L.length ≤ 4096 by have := h1.raw.few; have := h1.raw.c1; omega)
  have HlB := Lib.hid (show C.L.length ≤ 4096 by have := h2.raw.few; have := h2.raw.c1; omega)
  obtain ⟨c0, c1, c4, c5⟩ := h1.sameC
  obtain ⟨d0, d1, d4, d5⟩ := h2.sameC
  clear h1 h2
  go_enter Tryz.func16, Tryz.ntmps16
  go_upto_region 1 with fail
  simp only [List.append_eq, List.cons_append, List.nil_append]
  go_cut [4] (fun s wx => s = .bool false ∧ Fr (fun _ => False) w wx)
  case first =>
    go_big_quiet ((first | (go_at_call 39; with_reducible exact Calls.quiet_of_same ((HTa.out _ (by first | exact Fr.refl _ _ | exact (Fr.refl _ _).drewN _)).mono fun _ _ h => ⟨h.1, h.2.symm⟩)) | (go_at_call 39; with_reducible exact Calls.quiet_of_same ((HTb.out _ (by first | exact Fr.refl _ _ | exact (Fr.refl _ _).drewN _)).mono fun _ _ h => ⟨h.1, h.2.symm⟩))))
    go_wp2_with fail
    go_meet
    exact ⟨rfl, by first | exact Fr.refl _ _ | exact (Fr.refl _ _).drewN _⟩
  case rest =>
    obtain ⟨rfl, f1⟩ := hcut
    have F1 := Lib.hid f1
    clear f1
    go_wp2_with fail
    go_ret
    exact ⟨rfl, F1.out⟩
end Go.Proofs.YtmmjlnicfndmcaaGreat.Bk
namespace Go.Proofs.YtmmjlnicfndmcaaGreat.Bk
open Go.RowKit Go.Shelf
attribute [local go_sem] Oper.semAt_some
set_option maxRecDepth 100000 in
set_option maxHeartbeats 4000000 in
theorem bsame_2 {p q : Pt} {bb cc nx ny : Nat} {A C : Bk} {LD LE : List Bo} {w : World} (h1 : BkP p bb nx A A.L LD w) (h2 : BkP q cc ny C C.L LE w) (e0 : A.seats = C.seats) (e1 : A.codes = C.codes) (e2 : ¬ A.clock = C.clock) : Calls Tryz.prog 16 #[.pointer (some ⟨bb, 0, none⟩), .pointer (some ⟨cc, 0, none⟩)] w fun e w' => e = .returned (.bool false) ∧ Fr (fun _ => False) w w' := by
  have b0 : ((A.seats : Int) == (C.seats : Int)) = true := by rw [beq_iff_eq]; omega
  have b1 : ((A.codes : Int) == (C.codes : Int)) = true := by rw [beq_iff_eq]; omega
  have b2 : (A.clock == C.clock) = false := by rw [beq_eq_false_iff_ne]; omega
  clear e0 e1 e2
  have HTa := Lib.hid (fun (w' : World) (f : Fr (fun _ => False) w w') => there_ok (h1.keep f))
  have HTb := Lib.hid (fun (w' : World) (f : Fr (fun _ => False) w w') => there_ok (h2.keep f))
  have HLa := Lib.hid (fun (w' : World) (f : Fr (fun _ => False) w w') => list_ok (h1.keep f))
  have HLb := Lib.hid (fun (w' : World) (f : Fr (fun _ => False) w w') => list_ok (h2.keep f))
  have HSall := Lib.hid (fun (w' : World) (f : Fr (fun _ => False) w w') => And.intro (h1.keep f).sameC (h2.keep f).sameC)
  have HlA := Lib.hid (show A.L.length ≤ 4096 by have := h1.raw.few; have := h1.raw.c1; omega)
  have HlB := Lib.hid (show C.L.length ≤ 4096 by have := h2.raw.few; have := h2.raw.c1; omega)
  obtain ⟨c0, c1, c4, c5⟩ := h1.sameC
  obtain ⟨d0, d1, d4, d5⟩ := h2.sameC
  clear h1 h2
  go_enter Tryz.func16, Tryz.ntmps16
  go_upto_region 1 with fail
  simp only [List.append_eq, List.cons_append, List.nil_append]
  go_cut [4] (fun s wx => s = .bool false ∧ Fr (fun _ => False) w wx)
  case first =>
    go_big_quiet ((first | (go_at_call 39; with_reducible exact Calls.quiet_of_same ((HTa.out _ (by first | exact Fr.refl _ _ | exact (Fr.refl _ _).drewN _)).mono fun _ _ h => ⟨h.1, h.2.symm⟩)) | (go_at_call 39; with_reducible exact Calls.quiet_of_same ((HTb.out _ (by first | exact Fr.refl _ _ | exact (Fr.refl _ _).drewN _)).mono fun _ _ h => ⟨h.1, h.2.symm⟩))))
    go_wp2_with fail
    go_meet
    exact ⟨rfl, by first | exact Fr.refl _ _ | exact (Fr.refl _ _).drewN _⟩
  case rest =>
    obtain ⟨rfl, f1⟩ := hcut
    have F1 := Lib.hid f1
    clear f1
    go_wp2_with fail
    go_ret
    exact ⟨rfl, F1.out⟩
set_option maxRecDepth 100000 in
set_option maxHeartbeats 4000000 in
theorem bsame_3 {p q : Pt} {bb cc nx ny : Nat} {A C : Bk} {LD LE : List Bo} {w : World} (h1 : BkP p bb nx A A.L LD w) (h2 : BkP q cc ny C C.L LE w) (e0 : A.seats = C.seats) (e1 : A.codes = C.codes) (e2 : A.clock = C.clock) (e3 : ¬ nx = ny) : Calls Tryz.prog 16 #[.pointer (some ⟨bb, 0, none⟩), .pointer (some ⟨cc, 0, none⟩)] w fun e w' => e = .returned (.bool false) ∧ Fr (fun _ => False) w w' := by
  have b0 : ((A.seats : Int) == (C.seats : Int)) = true := by rw [beq_iff_eq]; omega
  have b1 : ((A.codes : Int) == (C.codes : Int)) = true := by rw [beq_iff_eq]; omega
  have b2 : (A.clock == C.clock) = true := by rw [beq_iff_eq]; omega
  have b3 : ((nx : Int) == (ny : Int)) = false := by rw [beq_eq_false_iff_ne]; omega
  clear e0 e1 e2 e3
  have HTa := Lib.hid (fun (w' : World) (f : Fr (fun _ => False) w w') => there_ok (h1.keep f))
  have HTb := Lib.hid (fun (w' : World) (f : Fr (fun _ => False) w w') => there_ok (h2.keep f))
  have HLa := Lib.hid (fun (w' : World) (f : Fr (fun _ => False) w w') => list_ok (h1.keep f))
  have HLb := Lib.hid (fun (w' : World) (f : Fr (fun _ => False) w w') => list_ok (h2.keep f))
  have HSall := Lib.hid (fun (w' : World) (f : Fr (fun _ => False) w w') => And.intro (h1.keep f).sameC (h2.keep f).sameC)
  have HlA := Lib.hid (show A.L.length ≤ 4096 by have := h1.raw.few; have := h1.raw.c1; omega)
  have HlB := Lib.hid (show C.L.length ≤ 4096 by have := h2.raw.few; have := h2.raw.c1; omega)
  obtain ⟨c0, c1, c4, c5⟩ := h1.sameC
  obtain ⟨d0, d1, d4, d5⟩ := h2.sameC
  clear h1 h2
  go_enter Tryz.func16, Tryz.ntmps16
  go_upto_region 1 with fail
  simp only [List.append_eq, List.cons_append, List.nil_append]
  go_cut [4] (fun s wx => s = .bool false ∧ Fr (fun _ => False) w wx)
  case first =>
    go_big_quiet ((first | (go_at_call 39; with_reducible exact Calls.quiet_of_same ((HTa.out _ (by first | exact Fr.refl _ _ | exact (Fr.refl _ _).drewN _)).mono fun _ _ h => ⟨h.1, h.2.symm⟩)) | (go_at_call 39; with_reducible exact Calls.quiet_of_same ((HTb.out _ (by first | exact Fr.refl _ _ | exact (Fr.refl _ _).drewN _)).mono fun _ _ h => ⟨h.1, h.2.symm⟩))))
    go_wp2_with fail
    go_meet
    exact ⟨rfl, by first | exact Fr.refl _ _ | exact (Fr.refl _ _).drewN _⟩
  case rest =>
    obtain ⟨rfl, f1⟩ := hcut
    have F1 := Lib.hid f1
    clear f1
    go_wp2_with fail
    go_ret
    exact ⟨rfl, F1.out⟩
end Go.Proofs.YtmmjlnicfndmcaaGreat.Bk
namespace Go.Proofs.YtmmjlnicfndmcaaGreat.Bk
open Go.RowKit Go.Shelf
attribute [local go_sem] Oper.semAt_some
theorem bsame_ok {p q : Pt} {bb cc nx ny : Nat} {A C : Bk} {LD LE : List Bo} {w : World} (h1 : BkP p bb nx A A.L LD w) (h2 : BkP q cc ny C C.L LE w) : Calls Tryz.prog 16 #[.pointer (some ⟨bb, 0, none⟩), .pointer (some ⟨cc, 0, none⟩)] w fun e w' => e = .returned (.bool (sameK A nx C ny)) ∧ Fr (fun _ => False) w w' := by
  by_cases e0 : A.seats = C.seats
  · by_cases e1 : A.codes = C.codes
    · by_cases e2 : A.clock = C.clock
      · by_cases e3 : nx = ny
        · rw [show sameK A nx C ny = decide (A.L = C.L) by unfold sameK; rw [decide_eq_true e0, decide_eq_true e1, decide_eq_true e2, decide_eq_true e3]; simp]
          exact bsame_all h1 h2 e0 e1 e2 e3
        · rw [show sameK A nx C ny = false by unfold sameK; rw [decide_eq_false e3]; simp]
          exact bsame_3 h1 h2 e0 e1 e2 e3
      · rw [show sameK A nx C ny = false by unfold sameK; rw [decide_eq_false e2]; simp]
        exact bsame_2 h1 h2 e0 e1 e2
    · rw [show sameK A nx C ny = false by unfold sameK; rw [decide_eq_false e1]; simp]
      exact bsame_1 h1 h2 e0 e1
  · rw [show sameK A nx C ny = false by unfold sameK; rw [decide_eq_false e0]; simp]
    exact bsame_0 h1 h2 e0
set_option maxRecDepth 100000 in
set_option maxHeartbeats 4000000 in
theorem copy_ok {p : Pt} {bb : Nat} {b : Bk} {w : World} (h : BkP p bb b.next b b.L b.L w) (hok : Ok b) (hq : 1 ≤ b.group ∧ b.group ≤ 64) : Calls Tryz.prog 18 #[.pointer (some ⟨bb, 0, none⟩)] w fun e w' => ∃ p' bb', e = .returned (.pointer (some ⟨bb', 0, none⟩)) ∧ BkP p' bb' b.next b b.L b.L w' ∧ (∀ x, p'.own bb' x → w.heap.size ≤ x) ∧ Fr (fun _ => False) w w' := by
  have HT := Lib.hid (there_ok h)
  have HL := Lib.hid (fun (w' : World) (f : Fr (fun _ => False) w w') => list_ok (h.keep f))
  have HSall := Lib.hid (fun (w' : World) (f : Fr (fun _ => False) w w') => show w'.cell? ⟨bb, 0, none⟩ = some (.int .i64 (b.seats : Int)) ∧ w'.cell? ⟨bb, 1, none⟩ = some (.int .i64 (b.codes : Int)) ∧ w'.cell? ⟨bb, 2, none⟩ = some (.int .i64 (b.group : Int)) ∧ w'.cell? ⟨bb, 4, none⟩ = some (.int .i64 b.clock) ∧ w'.cell? ⟨bb, 5, none⟩ = some (.int .u32 (b.next : Int)) from by
    obtain ⟨c0, c1, c2, _, c4, c5, _⟩ := (h.keep f).c
    exact ⟨c0, c1, c2, c4, c5⟩)
  have H1 := Lib.hid (And.intro hok.s0 hok.s1); have H2 := Lib.hid (And.intro hok.c0 hok.c1); have H3 := Lib.hid hq
  have H4 := Lib.hid (And.intro hok.n0 hok.n1); have H5 := Lib.hid (And.intro hok.t0 hok.t1); have H6 := Lib.hid hok.few
  have HO := Lib.hid (show ofGo (bkL b.seats b.codes b.group b.next b.clock []) 0 b.L = true from of_own hok)
  clear h hok hq
  go_enter Tryz.func18, Tryz.ntmps18
  go_wp2_with fail
  refine HT.out.mono ?_
  rintro e w1 ⟨rfl, rfl⟩
  go_upto_region 3 with fail
  refine wp_region_held_drew (S := fun w' => w'.cell? ⟨bb, 0, none⟩ = some (.int .i64 (b.seats : Int)) ∧ w'.cell? ⟨bb, 1, none⟩ = some (.int .i64 (b.codes : Int)) ∧ w'.cell? ⟨bb, 2, none⟩ = some (.int .i64 (b.group : Int)) ∧ w'.cell? ⟨bb, 4, none⟩ = some (.int .i64 b.clock) ∧ w'.cell? ⟨bb, 5, none⟩ = some (.int .u32 (b.next : Int))) (by kernel_rfl) (by exact HSall.out _ (Fr.drew (Fr.refl _ _))) (fun hHeld => ?_)
  refine wpAnyH_take (i := 0) (v := ?_) rfl (by kernel_rfl) (by kernel_rfl) (by kernel_rfl) (fun _ _ _ h => h) (Or.inl ⟨by rfl, ?_⟩) (by assumption) ?_
  rotate_left
  · intro w' hSw; (try dsimp only at hSw); go_simp; try with_reducible rfl
  try simp only [Act.put, List.getElem_toArray, List.getElem_cons_zero, List.setIfInBounds_toArray, List.set_cons_zero, List.set_cons_succ]
  refine wpAnyH_take (i := 1) (v := ?_) rfl (by kernel_rfl) (by kernel_rfl) (by kernel_rfl) (fun _ _ _ h => h) (Or.inl ⟨by rfl, ?_⟩) (by assumption) ?_
  rotate_left
  · intro w' hSw; (try dsimp only at hSw); go_simp; try with_reducible rfl
  try simp only [Act.put, List.getElem_toArray, List.getElem_cons_zero, List.getElem_cons_succ, List.setIfInBounds_toArray, List.set_cons_zero, List.set_cons_succ]
  refine wpAnyH_take (i := 2) (v := ?_) rfl (by kernel_rfl) (by kernel_rfl) (by kernel_rfl) (fun _ _ _ h => h) (Or.inl ⟨by rfl, ?_⟩) (by assumption) ?_
  rotate_left
  · intro w' hSw; (try dsimp only at hSw); go_simp; try with_reducible rfl
  try simp only [Act.put, List.getElem_toArray, List.getElem_cons_zero, List.getElem_cons_succ, List.setIfInBounds_toArray, List.set_cons_zero, List.set_cons_succ]
  refine wpAnyH_take (i := 3) (v := ?_) rfl (by kernel_rfl) (by kernel_rfl) (by kernel_rfl) (fun _ _ _ h => h) (Or.inl ⟨by rfl, ?_⟩) (by assumption) ?_
  rotate_left
  · intro w' hSw; (try dsimp only at hSw); go_simp; try with_reducible rfl
  try simp only [Act.put, List.getElem_toArray, List.getElem_cons_zero, List.getElem_cons_succ, List.setIfInBounds_toArray, List.set_cons_zero, List.set_cons_succ]
  refine wpAnyH_take (i := 4) (v := ?_) rfl (by kernel_rfl) (by kernel_rfl) (by kernel_rfl) (fun _ _ _ h => h) (Or.inl ⟨by rfl, ?_⟩) (by assumption) ?_
  rotate_left
  · intro w' hSw; (try dsimp only at hSw); go_simp; try with_reducible rfl
  try simp only [Act.put, List.getElem_toArray, List.getElem_cons_zero, List.getElem_cons_succ, List.setIfInBounds_toArray, List.set_cons_zero, List.set_cons_succ]
  refine wpAnyH_take (i := 5) (v := ?_) rfl (by kernel_rfl) (by kernel_rfl) (by kernel_rfl) (fun _ _ _ h => h) (Or.inl ⟨by rfl, ?_⟩) (by assumption) ?_
  rotate_left
  · intro w' hSw; (try dsimp only at hSw); go_simp; try with_reducible rfl
  try simp only [Act.put, List.getElem_toArray, List.getElem_cons_zero, List.getElem_cons_succ, List.setIfInBounds_toArray, List.set_cons_zero, List.set_cons_succ]
  refine wpAnyH_take (i := 6) (v := ?_) rfl (by kernel_rfl) (by kernel_rfl) (by kernel_rfl) (fun _ _ _ h => h) (Or.inl ⟨by rfl, ?_⟩) (by assumption) ?_
  rotate_left
  · intro w' hSw; (try dsimp only at hSw); go_simp; try with_reducible rfl
  try simp only [Act.put, List.getElem_toArray, List.getElem_cons_zero, List.getElem_cons_succ, List.setIfInBounds_toArray, List.set_cons_zero, List.set_cons_succ]
  refine wpAnyH_take (i := 7) (v := ?_) rfl (by kernel_rfl) (by kernel_rfl) (by kernel_rfl) (fun _ _ _ h => h) (Or.inl ⟨by rfl, ?_⟩) (by assumption) ?_
  rotate_left
  · intro w' hSw; (try dsimp only at hSw); go_simp; try with_reducible rfl
  try simp only [Act.put, List.getElem_toArray, List.getElem_cons_zero, List.getElem_cons_succ, List.setIfInBounds_toArray, List.set_cons_zero, List.set_cons_succ]
  refine wpAnyH_take (i := 8) (v := ?_) rfl (by kernel_rfl) (by kernel_rfl) (by kernel_rfl) (fun _ _ _ h => h) (Or.inl ⟨by rfl, ?_⟩) (by assumption) ?_
  rotate_left
  · intro w' hSw; (try dsimp only at hSw); go_simp; try with_reducible rfl
  try simp only [Act.put, List.getElem_toArray, List.getElem_cons_zero, List.getElem_cons_succ, List.setIfInBounds_toArray, List.set_cons_zero, List.set_cons_succ]
  refine wpAnyH_take (i := 9) (v := ?_) rfl (by kernel_rfl) (by kernel_rfl) (by kernel_rfl) (fun _ _ _ h => h) (Or.inl ⟨by rfl, ?_⟩) (by assumption) ?_
  rotate_left
  · intro w' hSw; (try dsimp only at hSw); go_simp; try with_reducible rfl
  try simp only [Act.put, List.getElem_toArray, List.getElem_cons_zero, List.getElem_cons_succ, List.setIfInBounds_toArray, List.set_cons_zero, List.set_cons_succ]
  refine wpAnyH_take (i := 10) (v := ?_) rfl (by kernel_rfl) (by kernel_rfl) (by kernel_rfl) (fun _ _ _ h => h) (Or.inl ⟨by rfl, ?_⟩) (by assumption) ?_
  rotate_left
  · intro w' hSw; (try dsimp only at hSw); go_simp; try with_reducible rfl
  try simp only [Act.put, List.getElem_toArray, List.getElem_cons_zero, List.getElem_cons_succ, List.setIfInBounds_toArray, List.set_cons_zero, List.set_cons_succ]
  refine wpAnyH_take (i := 11) (v := ?_) rfl (by kernel_rfl) (by kernel_rfl) (by kernel_rfl) (fun _ _ _ h => h) (Or.inl ⟨by rfl, ?_⟩) (by assumption) ?_
  rotate_left
  · intro w' hSw; (try dsimp only at hSw); go_simp; try with_reducible rfl
  try simp only [Act.put, List.getElem_toArray, List.getElem_cons_zero, List.getElem_cons_succ, List.setIfInBounds_toArray, List.set_cons_zero, List.set_cons_succ]
  refine wpAnyH_take (i := 12) (v := ?_) rfl (by kernel_rfl) (by kernel_rfl) (by kernel_rfl) (fun _ _ _ h => h) (Or.inl ⟨by rfl, ?_⟩) (by assumption) ?_
  rotate_left
  · intro w' hSw; (try dsimp only at hSw); go_simp; try with_reducible rfl
  try simp only [Act.put, List.getElem_toArray, List.getElem_cons_zero, List.getElem_cons_succ, List.setIfInBounds_toArray, List.set_cons_zero, List.set_cons_succ]
  refine wpAnyH_take (i := 13) (v := ?_) rfl (by kernel_rfl) (by kernel_rfl) (by kernel_rfl) (fun _ _ _ h => h) (Or.inl ⟨by rfl, ?_⟩) (by assumption) ?_
  rotate_left
  · intro w' hSw; (try dsimp only at hSw); go_simp; try with_reducible rfl
  try simp only [Act.put, List.getElem_toArray, List.getElem_cons_zero, List.getElem_cons_succ, List.setIfInBounds_toArray, List.set_cons_zero, List.set_cons_succ]
  refine wpAnyH_ready (rs := [14]) (by kernel_rfl) (by simp) ?_
  refine AllReadyH.cons rfl (fun K hK => ?_) AllReadyH.nil
  go_simp
  refine (HL.out _ (Fr.drew (Fr.refl _ _))).mono ?_
  rintro e w14 ⟨v14, rfl, hv14, -, f14⟩
  have HV := Lib.hid hv14
  have F14 := Lib.hid ((Fr.drew (Fr.refl _ _)).trans f14 (fun _ _ h => h))
  clear hv14 f14
  try go_simp
  refine hK.out _ _ ?_ (fun hHeld => ?_)
  · (try dsimp only); exact HSall.out _ F14.out
  clear hK K
  try simp only [Act.put, List.getElem_toArray, List.getElem_cons_zero, List.getElem_cons_succ, List.setIfInBounds_toArray, List.set_cons_zero, List.set_cons_succ]
  refine wpAnyH_ready (rs := [15]) (by kernel_rfl) (by simp) ?_
  refine AllReadyH.cons rfl (fun K hK => ?_) AllReadyH.nil
  go_simp
  refine (of_ok H1.out H2.out H3.out H4.out H5.out HV.out H6.out).mono ?_
  rintro e w15 ⟨f15, h15⟩
  rw [if_pos HO.out] at h15
  obtain ⟨p', bb', rfl, hB', hn'⟩ := h15
  have HB' := Lib.hid hB'; have Hn' := Lib.hid (show ∀ x, p'.own bb' x → w.heap.size ≤ x from fun x hx => Nat.le_trans F14.out.size (hn' x hx))
  have F15 := Lib.hid (F14.out.trans f15 (fun _ _ h => h))
  clear hB' hn' f15
  try go_simp
  refine hK.out _ _ ?_ (fun hHeld => ?_)
  · (try dsimp only); exact HSall.out _ F15.out
  clear hK K
  try simp only [Act.put, List.getElem_toArray, List.getElem_cons_zero, List.getElem_cons_succ, List.setIfInBounds_toArray, List.set_cons_zero, List.set_cons_succ]
  refine wpAnyH_take (i := 16) (v := ?_) rfl (by kernel_rfl) (by kernel_rfl) (by kernel_rfl) (fun _ _ _ h => h) (Or.inl ⟨by rfl, ?_⟩) (by assumption) ?_
  rotate_left
  · intro w' hSw; (try dsimp only at hSw); go_simp; try with_reducible rfl
  try simp only [Act.put, List.getElem_toArray, List.getElem_cons_zero, List.getElem_cons_succ, List.setIfInBounds_toArray, List.set_cons_zero, List.set_cons_succ]
  refine wpAnyH_take (i := 17) (v := ?_) rfl (by kernel_rfl) (by kernel_rfl) (by kernel_rfl) (fun _ _ _ h => h) (Or.inl ⟨by rfl, ?_⟩) (by assumption) ?_
  rotate_left
  · intro w' hSw; (try dsimp only at hSw); go_simp; try with_reducible rfl
  try simp only [Act.put, List.getElem_toArray, List.getElem_cons_zero, List.getElem_cons_succ, List.setIfInBounds_toArray, List.set_cons_zero, List.set_cons_succ]
  refine wpAnyH_take (i := 18) (v := ?_) rfl (by kernel_rfl) (by kernel_rfl) (by kernel_rfl) (fun _ _ _ h => h) (Or.inl ⟨by rfl, ?_⟩) (by assumption) ?_
  rotate_left
  · intro w' hSw; (try dsimp only at hSw); go_simp; try with_reducible rfl
  try simp only [Act.put, List.getElem_toArray, List.getElem_cons_zero, List.getElem_cons_succ, List.setIfInBounds_toArray, List.set_cons_zero, List.set_cons_succ]
  refine wpAnyH_take (i := 19) (v := ?_) rfl (by kernel_rfl) (by kernel_rfl) (by kernel_rfl) (fun _ _ _ h => h) (Or.inl ⟨by rfl, ?_⟩) (by assumption) ?_
  rotate_left
  · intro w' hSw; (try dsimp only at hSw); go_simp; try with_reducible rfl
  try simp only [Act.put, List.getElem_toArray, List.getElem_cons_zero, List.getElem_cons_succ, List.setIfInBounds_toArray, List.set_cons_zero, List.set_cons_succ]
  refine wpAnyH_take (i := 20) (v := ?_) rfl (by kernel_rfl) (by kernel_rfl) (by kernel_rfl) (fun _ _ _ h => h) (Or.inl ⟨by rfl, ?_⟩) (by assumption) ?_
  rotate_left
  · intro w' hSw; (try dsimp only at hSw); go_simp; try with_reducible rfl
  try simp only [Act.put, List.getElem_toArray, List.getElem_cons_zero, List.getElem_cons_succ, List.setIfInBounds_toArray, List.set_cons_zero, List.set_cons_succ]
  refine wpAnyH_done (by kernel_rfl) ?_ _
  go_wp2_with fail
  go_ret
  exact ⟨_, _, rfl, HB'.out, Hn'.out, F15.out⟩
theorem copy_no {w : World} {q : Option Addr} (h : NoBook w q) : Calls Tryz.prog 18 #[.pointer q] w fun e w' => e = .returned (.pointer none) ∧ w = w' := by
  have HT := Lib.hid (there_no h)
  clear h
  go_enter Tryz.func18, Tryz.ntmps18
  go_wp2_with fail
  refine HT.out.mono ?_
  rintro e w1 ⟨rfl, rfl⟩
  go_wp2_with fail
  go_ret
  exact ⟨rfl, rfl⟩
end Go.Proofs.YtmmjlnicfndmcaaGreat.Bk
namespace Go.Proofs.YtmmjlnicfndmcaaGreat
open Go.RowKit
theorem pick_ok (x n : Int) (w : World) (_hx : -9223372036854775808 ≤ x) (_hx2 : x ≤ 9223372036854775807) (hn : 1 ≤ n) (hn2 : n ≤ 1099511627776) :
    Calls Tryz.prog 13 #[.int .i64 x, .int .i64 n] w fun e w' => e = .returned (.int .i64 (x % n)) ∧ w = w' := by
  have e1 : ((n : Int) < 1) = False := by simp; omega
  by_cases h : 0 ≤ x
  · have ht : x.tmod n = x % n := Int.tmod_eq_emod_of_nonneg h
    have h0 := Int.emod_nonneg x (by omega : n ≠ 0)
    have h1 := Int.emod_lt_of_pos x (by omega : 0 < n)
    obtain ⟨y, hy⟩ : ∃ y, y = x % n := ⟨_, rfl⟩
    rw [← hy] at ht h0 h1 ⊢
    have hne : (n == 0) = false := by simp; omega
    clear hy
    go_enter Tryz.func13, Tryz.ntmps13
    go_wp2
    go_ret
    exact ⟨rfl, rfl⟩
  · have hb := Int.tmod_eq_emod (a := x) (b := n)
    have h0 := Int.emod_nonneg x (by omega : n ≠ 0)
    have h1 := Int.emod_lt_of_pos x (by omega : 0 < n)
    have hne : (n == 0) = false := by simp; omega
    by_cases hd : n ∣ x
    · have e2 : x % n = 0 := Int.emod_eq_zero_of_dvd hd
      have e3 : x.tmod n = 0 := by rw [hb, if_pos (.inr hd), e2]; rfl
      rw [e2]
      clear h0 h1 e2 hb h
      go_enter Tryz.func13, Tryz.ntmps13
      go_wp2
      go_ret
      exact ⟨rfl, rfl⟩
    · obtain ⟨y, hy⟩ : ∃ y, y = x % n := ⟨_, rfl⟩
      have e3 : x.tmod n = y - n := by rw [hb, if_neg (by rintro (h' | h') <;> contradiction), hy]; omega
      rw [← hy] at h0 h1 ⊢
      clear hy hb h hd
      go_enter Tryz.func13, Tryz.ntmps13
      go_wp2
      go_ret
      exact ⟨by go_num, rfl⟩
end Go.Proofs.YtmmjlnicfndmcaaGreat
namespace Go.Proofs.YtmmjlnicfndmcaaGreat.Bk
open Go.RowKit Go.Shelf
attribute [local go_sem] Oper.semAt_some
set_option maxRecDepth 100000 in
theorem get_no {w : World} {q : Option Addr} (h : NoBook w q) (id : Nat) : Calls Tryz.prog 36 #[.pointer q, .int .u32 (id : Int)] w fun e w' => e = .returned (.tuple #[boV (0, 0, 0), .int .i64 1]) ∧ Fr (fun _ => False) w w' := by
  obtain ⟨W, hW⟩ : ∃ W, W = w.alloc (.cells #[.int .u32 0, .int .i64 0, .int .i64 0] 70) := ⟨_, rfl⟩
  obtain ⟨z, hz⟩ : ∃ z, z = w.heap.size := ⟨_, rfl⟩
  have f0 : Fr (fun _ => False) w W := by rw [hW]; exact Fr.alloc (Fr.refl _ _) _
  have hg : W.heap[z]? = some (.cells #[.int .u32 0, .int .i64 0, .int .i64 0] 70 (0, 0)) := by rw [hW, hz]; exact heap_alloc_at _ _
  have HT := Lib.hid (there_no (h.fr f0))
  have y0 := free_of hg 0; have y1 := free_of hg 1; have y2 := free_of hg 2
  have d0 := (cell_of hg 0).trans (show _ = some (Value.int .u32 0) from rfl)
  have d1 := (cell_of hg 1).trans (show _ = some (Value.int .i64 0) from rfl)
  have d2 := (cell_of hg 2).trans (show _ = some (Value.int .i64 0) from rfl)
  have hfin := setCell_blk (o := 2) (setCell_blk (o := 1) (setCell_blk (o := 0) hg (.int .u32 0)) (.int .i64 0)) (.int .i64 0)
  have fz : Fr (fun y => y = z) W (((W.setCell ⟨z, 0, none⟩ (.int .u32 0)).setCell ⟨z, 1, none⟩ (.int .i64 0)).setCell ⟨z, 2, none⟩ (.int .i64 0)) :=
      (((Fr.refl (fun y => y = z) _).setCell (p := ⟨z, 0, none⟩) (fun _ => rfl) _).setCell (p := ⟨z, 1, none⟩) (fun _ => rfl) _).setCell (p := ⟨z, 2, none⟩) (fun _ => rfl) _
  have k0 := (cell_of hfin 0).trans (show _ = some (Value.int .u32 0) from rfl)
  have k1 := (cell_of hfin 1).trans (show _ = some (Value.int .i64 0) from rfl)
  have k2 := (cell_of hfin 2).trans (show _ = some (Value.int .i64 0) from rfl)
  have K4 := Lib.hid (f0.trans fz (fun y hy e => by omega) : Fr (fun _ => False) w _)
  clear h f0 hg hfin fz
  go_enter Tryz.func36, Tryz.ntmps36
  go_upto_region 1 with fail
  rw [← hW, ← hz]
  clear hW hz
  go_wp2_with fail
  refine HT.out.mono ?_
  rintro e w1 ⟨rfl, rfl⟩
  go_wp2_with fail
  refine bodyPost_ret (v := .tuple #[boV (0, 0, 0), .int .i64 1]) ?_ rfl ⟨rfl, K4.out⟩
  try simp at k0 k1 k2
  simp [results, Tryz.results36, Tryz.f36, go_sem, k0, k1, k2]
/-- The document's book that isn't there. -/
def RefNo (W : World) (wb : Nat) : Prop := W.heap[wb]? = some (.cells #[.bool false, .int .i64 0, .int .i64 0, .int .i64 0, .slice none 0 0, .int .u32 0, .int .i64 0] 52 (0, 0))
theorem RefNo.fr {w w' : World} {wb : Nat} (h : RefNo w wb) (f : Fr (fun _ => False) w w') : RefNo w' wb := f.get h (fun h => h)
theorem RefNo.c {w : World} {wb : Nat} (h : RefNo w wb) : w.cell? ⟨wb, 0, none⟩ = some (.bool false) ∧ w.cell? ⟨wb, 1, none⟩ = some (.int .i64 0) ∧ w.cell? ⟨wb, 2, none⟩ = some (.int .i64 0) ∧ w.cell? ⟨wb, 3, none⟩ = some (.int .i64 0) ∧ w.cell? ⟨wb, 4, none⟩ = some (.slice none 0 0) ∧ w.cell? ⟨wb, 5, none⟩ = some (.int .u32 0) ∧ w.cell? ⟨wb, 6, none⟩ = some (.int .i64 0) :=
  ⟨(cell_of h 0).trans rfl, (cell_of h 1).trans rfl, (cell_of h 2).trans rfl, (cell_of h 3).trans rfl, (cell_of h 4).trans rfl, (cell_of h 5).trans rfl, (cell_of h 6).trans rfl⟩
set_option maxRecDepth 100000 in
theorem rget_no {w : World} {wb : Nat} (h : RefNo w wb) (id : Nat) : Calls Tryz.prog 37 #[.pointer (some ⟨wb, 0, none⟩), .int .u32 (id : Int)] w fun e w' => e = .returned (.tuple #[boV (0, 0, 0), .int .i64 1]) ∧ Fr (fun _ => False) w w' := by
  obtain ⟨W, hW⟩ : ∃ W, W = w.alloc (.cells #[.int .u32 0, .int .i64 0, .int .i64 0] 70) := ⟨_, rfl⟩
  obtain ⟨z, hz⟩ : ∃ z, z = w.heap.size := ⟨_, rfl⟩
  have f0 : Fr (fun _ => False) w W := by rw [hW]; exact Fr.alloc (Fr.refl _ _) _
  have hg : W.heap[z]? = some (.cells #[.int .u32 0, .int .i64 0, .int .i64 0] 70 (0, 0)) := by rw [hW, hz]; exact heap_alloc_at _ _
  have c0 := (h.fr f0).c.1
  have y0 := free_of hg 0; have y1 := free_of hg 1; have y2 := free_of hg 2
  have d0 := (cell_of hg 0).trans (show _ = some (Value.int .u32 0) from rfl)
  have d1 := (cell_of hg 1).trans (show _ = some (Value.int .i64 0) from rfl)
  have d2 := (cell_of hg 2).trans (show _ = some (Value.int .i64 0) from rfl)
  have hfin := setCell_blk (o := 2) (setCell_blk (o := 1) (setCell_blk (o := 0) hg (.int .u32 0)) (.int .i64 0)) (.int .i64 0)
  have fz : Fr (fun y => y = z) W (((W.setCell ⟨z, 0, none⟩ (.int .u32 0)).setCell ⟨z, 1, none⟩ (.int .i64 0)).setCell ⟨z, 2, none⟩ (.int .i64 0)) :=
      (((Fr.refl (fun y => y = z) _).setCell (p := ⟨z, 0, none⟩) (fun _ => rfl) _).setCell (p := ⟨z, 1, none⟩) (fun _ => rfl) _).setCell (p := ⟨z, 2, none⟩) (fun _ => rfl) _
  have k0 := (cell_of hfin 0).trans (show _ = some (Value.int .u32 0) from rfl)
  have k1 := (cell_of hfin 1).trans (show _ = some (Value.int .i64 0) from rfl)
  have k2 := (cell_of hfin 2).trans (show _ = some (Value.int .i64 0) from rfl)
  have K4 := Lib.hid (f0.trans fz (fun y hy e => by omega) : Fr (fun _ => False) w _)
  clear h f0 hg hfin fz
  go_enter Tryz.func37, Tryz.ntmps37
  go_upto_region 1 with fail
  rw [← hW, ← hz]
  clear hW hz
  go_wp2_with fail
  refine bodyPost_ret (v := .tuple #[boV (0, 0, 0), .int .i64 1]) ?_ rfl ⟨rfl, K4.out⟩
  try simp at k0 k1 k2
  simp [results, Tryz.results37, Tryz.f37, go_sem, k0, k1, k2]
set_option maxRecDepth 100000 in
theorem rat_no {w : World} {wb : Nat} (h : RefNo w wb) (k : Int) : Calls Tryz.prog 38 #[.pointer (some ⟨wb, 0, none⟩), .int .i64 k] w fun e w' => e = .returned (.tuple #[boV (0, 0, 0), .int .i64 1]) ∧ Fr (fun _ => False) w w' := by
  obtain ⟨W, hW⟩ : ∃ W, W = w.alloc (.cells #[.int .u32 0, .int .i64 0, .int .i64 0] 70) := ⟨_, rfl⟩
  obtain ⟨z, hz⟩ : ∃ z, z = w.heap.size := ⟨_, rfl⟩
  have f0 : Fr (fun _ => False) w W := by rw [hW]; exact Fr.alloc (Fr.refl _ _) _
  have hg : W.heap[z]? = some (.cells #[.int .u32 0, .int .i64 0, .int .i64 0] 70 (0, 0)) := by rw [hW, hz]; exact heap_alloc_at _ _
  have c0 := (h.fr f0).c.1
  have y0 := free_of hg 0; have y1 := free_of hg 1; have y2 := free_of hg 2
  have d0 := (cell_of hg 0).trans (show _ = some (Value.int .u32 0) from rfl)
  have d1 := (cell_of hg 1).trans (show _ = some (Value.int .i64 0) from rfl)
  have d2 := (cell_of hg 2).trans (show _ = some (Value.int .i64 0) from rfl)
  have hfin := setCell_blk (o := 2) (setCell_blk (o := 1) (setCell_blk (o := 0) hg (.int .u32 0)) (.int .i64 0)) (.int .i64 0)
  have fz : Fr (fun y => y = z) W (((W.setCell ⟨z, 0, none⟩ (.int .u32 0)).setCell ⟨z, 1, none⟩ (.int .i64 0)).setCell ⟨z, 2, none⟩ (.int .i64 0)) :=
      (((Fr.refl (fun y => y = z) _).setCell (p := ⟨z, 0, none⟩) (fun _ => rfl) _).setCell (p := ⟨z, 1, none⟩) (fun _ => rfl) _).setCell (p := ⟨z, 2, none⟩) (fun _ => rfl) _
  have k0 := (cell_of hfin 0).trans (show _ = some (Value.int .u32 0) from rfl)
  have k1 := (cell_of hfin 1).trans (show _ = some (Value.int .i64 0) from rfl)
  have k2 := (cell_of hfin 2).trans (show _ = some (Value.int .i64 0) from rfl)
  have K4 := Lib.hid (f0.trans fz (fun y hy e => by omega) : Fr (fun _ => False) w _)
  clear h f0 hg hfin fz
  go_enter Tryz.func38, Tryz.ntmps38
  go_upto_region 1 with fail
  rw [← hW, ← hz]
  clear hW hz
  go_wp2_with fail
  refine bodyPost_ret (v := .tuple #[boV (0, 0, 0), .int .i64 1]) ?_ rfl ⟨rfl, K4.out⟩
  try simp at k0 k1 k2
  simp [results, Tryz.results38, Tryz.f38, go_sem, k0, k1, k2]
set_option maxRecDepth 100000 in
theorem rapply_no {w : World} {wb : Nat} (h : RefNo w wb) (r : Rc) : Calls Tryz.prog 35 #[.pointer (some ⟨wb, 0, none⟩), rcV r] w fun e w' => e = .returned (.int .i64 1) ∧ Fr (fun _ => False) w w' := by
  obtain ⟨W, hW⟩ : ∃ W, W = w.alloc (rcC r) := ⟨_, rfl⟩
  have f0 : Fr (fun _ => False) w W := by rw [hW]; exact Fr.alloc (Fr.refl _ _) _
  have c0 := (h.fr f0).c.1
  have F0 := Lib.hid f0
  clear h f0
  go_enter Tryz.func35, Tryz.ntmps35
  go_upto_region 1 with fail
  rw [← hW]
  clear hW
  go_wp2_with fail
  go_ret
  exact ⟨rfl, F0.out⟩
set_option maxRecDepth 100000 in
theorem rdue_no {w : World} {wb : Nat} (h : RefNo w wb) : Calls Tryz.prog 45 #[.pointer (some ⟨wb, 0, none⟩)] w fun e w' => e = .returned (.tuple #[.int .i64 0, .bool false]) ∧ w = w' := by
  have c4 := h.c.2.2.2.2.1
  clear h
  go_enter Tryz.func45, Tryz.ntmps45
  go_wp2_with fail
  go_loopw [4, 5] (fun s4 s5 wr => s4 = .int .i64 0 ∧ s5 = .int .i64 0 ∧ w = wr) (fun _ _ _ => 0)
  case atStart => exact ⟨rfl, rfl, rfl⟩
  case round =>
    obtain ⟨rfl, rfl, rfl⟩ := hrel
    go_wp2_with fail
    refine bodyPost_ret (v := .tuple #[.int .i64 0, .bool false]) ?_ rfl ⟨rfl, rfl⟩
    simp [results, Tryz.results45, Tryz.f45, go_sem]
end Go.Proofs.YtmmjlnicfndmcaaGreat.Bk
