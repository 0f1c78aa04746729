/- Arguments that are slices of numbers, or of structs of numbers. No condition. -/
import Derived.Test.YthckfbfenfkdiaaDoorMore
import Derived.ProofKit
import Derived.OpenShut
import Derived.Deep.Slices
import Derived.Deep.Fields
namespace Go.Proofs.YthckfbfenfkdiaaDoor
open Go.ChangeShapes Go.WideShapes Go.ChangeAt Go.RowKit Go.Deep
theorem fits_wf {x : Int} (h : (Lit.int .i64 x).wf = true) : Fits x := by
  simp [Lit.wf, IntKind.min, IntKind.max, IntKind.signed, IntKind.bits] at h
  unfold Fits
  omega
/-- The slice value v has n elements, of m numbers each: K i j is the j-th of element i. -/
def IntsAt (w : World) (v : Value) (m : Nat) (K : Nat → Nat → Int) (n : Nat) : Prop :=
  ∃ a c, v = .slice a n c ∧ n ≤ c ∧ c ≤ maxLen ∧ (n = 0 ∨ ∃ b o, a = some ⟨b, o, none⟩ ∧ ∀ i j, i < n → j < m → w.cell? ⟨b, o + i * m + j, none⟩ = some (.int .i64 (K i j)) ∧ Fits (K i j))
theorem IntsAt.fr {w w' : World} {v : Value} {m n : Nat} {K : Nat → Nat → Int} (h : IntsAt w v m K n) {F : Nat → Prop} (hf : Fr F w w') (hF : ∀ b, b < w.heap.size → ¬ F b) (hm : 0 < m) : IntsAt w' v m K n := by
  obtain ⟨a, c, rfl, h1, h2, h3⟩ := h
  refine ⟨a, c, rfl, h1, h2, ?_⟩
  rcases h3 with h3 | ⟨b, o, h3, h4⟩
  · exact .inl h3
  · by_cases h0 : n = 0
    · exact .inl h0
    · refine .inr ⟨b, o, h3, fun i j hi hj => ⟨?_, (h4 i j hi hj).2⟩⟩
      have hb : b < w.heap.size := World.block_lt_of_cell? w _ (h4 0 0 (by omega) hm).1
      rw [hf.cell hb (hF b hb)]
      exact (h4 i j hi hj).1
theorem IntsAt.take {w : World} {a : Option Addr} {c m n k : Nat} {K : Nat → Nat → Int} (h : IntsAt w (.slice a n c) m K n) (hk : k ≤ n) : IntsAt w (.slice a k c) m K k := by
  obtain ⟨a', c', e, h1, h2, h3⟩ := h
  simp only [Value.slice.injEq] at e
  obtain ⟨rfl, _, rfl⟩ := e
  refine ⟨a, c, rfl, by omega, h2, ?_⟩
  rcases h3 with h3 | ⟨b, o, h3, h4⟩
  · left; omega
  · exact .inr ⟨b, o, h3, fun i j hi hj => h4 i j (by omega) hj⟩
section
variable {H : Type} {enc : TypeId × Value → H} {P : Program} {w : World} {base : Nat} {spare : Nat → Bool} {held : Bool}
/-- All fields of a struct are ints, one cell each. -/
def allInts (P : Program) (fs : Array Field) : Bool := (List.range fs.size).all fun i => match fs[i]? with
  | some f => f.offset == i && P.cellsOf f.type == 1 && (match P.underlying f.type with | some (.int .i64) => true | _ => false)
  | none => false
theorem allInts_of {fs : Array Field} (h : allInts P fs = true) (i : Nat) (f : Field) (hi : fs[i]? = some f) : f.offset = i ∧ P.cellsOf f.type = 1 ∧ P.underlying f.type = some (.int .i64) := by
  have hlt : i < fs.size := (Array.getElem?_eq_some_iff.1 hi).1
  have := List.all_eq_true.1 h i (List.mem_range.2 hlt)
  simp only [hi, Bool.and_eq_true, beq_iff_eq] at this
  refine ⟨this.1.1, this.1.2, ?_⟩
  have h2 := this.2
  split at h2
  · assumption
  · cases h2
theorem intsAt_structs {t e : TypeId} {fs : Array Field} {a0 : Option Addr} {len0 cap0 : Nat} {d : DataW H} {p : List MemPlace} (ht : P.underlying t = some (.slice e)) (he : P.underlying e = some (.struct fs))
    (hone : allInts P fs = true) (hC : P.cellsOf e = fs.size) (h0 : 0 < fs.size) (h : DataW.Trod enc P w base spare held t (.slice a0 len0 cap0) d p) :
    ∃ K, IntsAt w (.slice a0 len0 cap0) fs.size K len0 := by
  obtain ⟨fuel, hf⟩ := h
  rcases open_slice ht hf with ⟨hcs, _⟩ | ⟨a, len, cap, m, n, D, Pl, hcs, hb, hl, hm, hmm, hx, hi⟩
  · simp [Value.cells] at hcs
    obtain ⟨rfl, rfl, rfl⟩ := hcs
    exact ⟨fun _ _ => 0, none, 0, rfl, Nat.le_refl _, Nat.zero_le _, .inl rfl⟩
  · simp [Value.cells] at hcs
    obtain ⟨rfl, rfl, rfl⟩ := hcs
    have hlm : len0 ≤ m := by rw [hmm]; split <;> omega
    have cell : ∀ i j, i < len0 → j < fs.size → ∃ x, w.cell? (a.add (i * fs.size + j)) = some (.int .i64 x) ∧ Fits x := by
      intro i j hil hjl
      obtain ⟨cs', hc, ht'⟩ := hi i (by omega)
      rw [hC] at hc
      obtain ⟨ys, n', hn', hy, hlen, hyl, hff⟩ := DataW.trod_struct he ht'
      obtain ⟨_, hcl, hat⟩ := World.cells?_some hc
      have hj := Array.getElem?_eq_getElem hjl
      obtain ⟨ho, hk, hu⟩ := allInts_of hone j _ hj
      have hcell := hat j hjl
      have hv : cs'[j]? = some (cs'[j]'(by omega)) := List.getElem?_eq_getElem (by omega)
      have h1 := hff j _ hj
      rw [ho, hk] at h1
      have hone' : (cs'.drop j).take 1 = [cs'[j]'(by omega)] := by
        rw [List.drop_eq_getElem_cons (by omega)]
        rfl
      rw [hone'] at h1
      have hys : ys[j]? = some (ys[j]'(by omega)) := List.getElem?_eq_getElem (by omega)
      obtain ⟨x, hx1, _, hx3⟩ := DataW.trod_int hu (h1.trans hys)
      refine ⟨x, ?_, fits_wf hx3⟩
      rw [← Go.Deep.add_add, hcell, hv]
      simpa using hx1
    by_cases hz : len0 = 0
    · subst hz; exact ⟨fun _ _ => 0, some a, cap0, rfl, hl, hm, .inl rfl⟩
    · obtain ⟨b, o, sp⟩ := a
      have hsp : sp = none := by
        obtain ⟨x, hx1, _⟩ := cell 0 0 (by omega) h0
        simpa [Addr.add] using World.cell?_spot hx1
      subst hsp
      have cell' : ∀ i j, i < len0 → j < fs.size → ∃ x, w.cell? ⟨b, o + i * fs.size + j, none⟩ = some (.int .i64 x) ∧ Fits x := by
        intro i j hil hjl
        have e : (⟨b, o, none⟩ : Addr).add (i * fs.size + j) = ⟨b, o + i * fs.size + j, none⟩ := by
          unfold Addr.add
          split
          · first | (simp; done) | (simp; omega)
          · simp [Nat.add_assoc]
        rw [← e]
        exact cell i j hil hjl
      refine ⟨fun i j => if h : i < len0 ∧ j < fs.size then (cell' i j h.1 h.2).choose else 0, some ⟨b, o, none⟩, cap0, rfl, hl, hm, .inr ⟨b, o, rfl, ?_⟩⟩
      intro i j hil hjl
      have hsp := (cell' i j hil hjl).choose_spec
      dsimp only
      rw [dif_pos ⟨hil, hjl⟩]
      exact hsp
end
end Go.Proofs.YthckfbfenfkdiaaDoor
