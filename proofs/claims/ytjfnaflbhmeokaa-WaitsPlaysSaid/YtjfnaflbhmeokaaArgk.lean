/- Arguments that are slices of numbers of any kinds, or of structs of such. No condition. -/
import Derived.Test.YtjfnaflbhmeokaaArgs
import Derived.ProofKit
import Derived.OpenShut
import Derived.Deep.Slices
import Derived.Deep.Fields
namespace Go.Proofs.Ytjfnaflbhmeokaa
open Go.ChangeShapes Go.WideShapes Go.ChangeAt Go.RowKit Go.Deep
/-- The slice value v has n elements, of m numbers each: K i j is the j-th of element i. -/
def KindsAt (w : World) (v : Value) (m : Nat) (kd : Nat → IntKind) (K : Nat → Nat → Int) (n : Nat) : Prop :=
  ∃ a c, v = .slice a n c ∧ n ≤ c ∧ c ≤ maxLen ∧ (n = 0 ∨ ∃ b o, a = some ⟨b, o, none⟩ ∧ ∀ i j, i < n → j < m → w.cell? ⟨b, o + i * m + j, none⟩ = some (.int (kd j) (K i j)) ∧ (Lit.int (kd j) (K i j)).wf = true)
theorem KindsAt.fr {w w' : World} {v : Value} {m n : Nat} {kd : Nat → IntKind} {K : Nat → Nat → Int} (h : KindsAt w v m kd K n) {F : Nat → Prop} (hf : Fr F w w') (hF : ∀ b, b < w.heap.size → ¬ F b) (hm : 0 < m) : KindsAt w' v m kd K n := by
  obtain ⟨a, c, rfl, h1, h2, h3⟩ := h
  refine ⟨a, c, rfl, h1, h2, ?_⟩
  rcases h3 with h3 | ⟨b, o, h3, h4⟩
  · exact .inl h3
  · by_cases h0 : n = 0
    · exact .inl h0
    · refine .inr ⟨b, o, h3, fun i j hi hj => ⟨?_, (h4 i j hi hj).2⟩⟩
      have hb : b < w.heap.size := World.block_lt_of_cell? w _ (h4 0 0 (by omega) hm).1
      rw [hf.cell hb (hF b hb)]
      exact (h4 i j hi hj).1
theorem KindsAt.take {w : World} {a : Option Addr} {c m n k : Nat} {kd : Nat → IntKind} {K : Nat → Nat → Int} (h : KindsAt w (.slice a n c) m kd K n) (hk : k ≤ n) : KindsAt w (.slice a k c) m kd K k := by
  obtain ⟨a', c', e, h1, h2, h3⟩ := h
  simp only [Value.slice.injEq] at e
  obtain ⟨rfl, _, rfl⟩ := e
  refine ⟨a, c, rfl, by omega, h2, ?_⟩
  rcases h3 with h3 | ⟨b, o, h3, h4⟩
  · left; omega
  · exact .inr ⟨b, o, h3, fun i j hi hj => h4 i j (by omega) hj⟩
section
variable {H : Type} {enc : TypeId × Value → H} {P : Program} {w : World} {base : Nat} {spare : Nat → Bool} {held : Bool}
/-- All fields of a struct are ints, one cell each. -/
def allKinds (P : Program) (kd : Nat → IntKind) (fs : Array Field) : Bool := (List.range fs.size).all fun i => match fs[i]? with
  | some f => f.offset == i && P.cellsOf f.type == 1 && (match P.underlying f.type with | some (.int k) => k == kd i | _ => false)
  | none => false
theorem allKinds_of {kd : Nat → IntKind} {fs : Array Field} (h : allKinds P kd fs = true) (i : Nat) (f : Field) (hi : fs[i]? = some f) : f.offset = i ∧ P.cellsOf f.type = 1 ∧ P.underlying f.type = some (.int (kd i)) := by
  have hlt : i < fs.size := (Array.getElem?_eq_some_iff.1 hi).1
  have := List.all_eq_true.1 h i (List.mem_range.2 hlt)
  simp only [hi, Bool.and_eq_true, beq_iff_eq] at this
  refine ⟨this.1.1, this.1.2, ?_⟩
  have h2 := this.2
  split at h2
  · rename_i hk; rw [hk, eq_of_beq h2]
  · cases h2
theorem kindsAt_structs {kd : Nat → IntKind} {t e : TypeId} {fs : Array Field} {a0 : Option Addr} {len0 cap0 : Nat} {d : DataW H} {p : List MemPlace} (ht : P.underlying t = some (.slice e)) (he : P.underlying e = some (.struct fs))
    (hone : allKinds P kd fs = true) (hC : P.cellsOf e = fs.size) (h0 : 0 < fs.size) (h : DataW.Trod enc P w base spare held t (.slice a0 len0 cap0) d p) :
    ∃ K, KindsAt w (.slice a0 len0 cap0) fs.size kd K len0 := by
  obtain ⟨fuel, hf⟩ := h
  rcases open_slice ht hf with ⟨hcs, _⟩ | ⟨a, len, cap, m, n, D, Pl, hcs, hb, hl, hm, hmm, hx, hi⟩
  · simp [Value.cells] at hcs
    obtain ⟨rfl, rfl, rfl⟩ := hcs
    exact ⟨fun _ _ => 0, none, 0, rfl, Nat.le_refl _, Nat.zero_le _, .inl rfl⟩
  · simp [Value.cells] at hcs
    obtain ⟨rfl, rfl, rfl⟩ := hcs
    have hlm : len0 ≤ m := by rw [hmm]; split <;> omega
    have cell : ∀ i j, i < len0 → j < fs.size → ∃ x, w.cell? (a.add (i * fs.size + j)) = some (.int (kd j) x) ∧ (Lit.int (kd j) x).wf = true := by
      intro i j hil hjl
      obtain ⟨cs', hc, ht'⟩ := hi i (by omega)
      rw [hC] at hc
      obtain ⟨ys, n', hn', hy, hlen, hyl, hff⟩ := DataW.trod_struct he ht'
      obtain ⟨_, hcl, hat⟩ := World.cells?_some hc
      have hj := Array.getElem?_eq_getElem hjl
      obtain ⟨ho, hk, hu⟩ := allKinds_of hone j _ hj
      have hcell := hat j hjl
      have hv : cs'[j]? = some (cs'[j]'(by omega)) := List.getElem?_eq_getElem (by omega)
      have h1 := hff j _ hj
      rw [ho, hk] at h1
      have hone' : (cs'.drop j).take 1 = [cs'[j]'(by omega)] := by
        rw [List.drop_eq_getElem_cons (by omega)]
        rfl
      rw [hone'] at h1
      have hys : ys[j]? = some (ys[j]'(by omega)) := List.getElem?_eq_getElem (by omega)
      obtain ⟨x, hx1, _, hx3⟩ := DataW.trod_int hu (h1.trans hys)
      refine ⟨x, ?_, hx3⟩
      rw [← Go.Deep.add_add, hcell, hv]
      simpa using hx1
    by_cases hz : len0 = 0
    · subst hz; exact ⟨fun _ _ => 0, some a, cap0, rfl, hl, hm, .inl rfl⟩
    · obtain ⟨b, o, sp⟩ := a
      have hsp : sp = none := by
        obtain ⟨x, hx1, _⟩ := cell 0 0 (by omega) h0
        simpa [Addr.add] using World.cell?_spot hx1
      subst hsp
      have cell' : ∀ i j, i < len0 → j < fs.size → ∃ x, w.cell? ⟨b, o + i * fs.size + j, none⟩ = some (.int (kd j) x) ∧ (Lit.int (kd j) x).wf = true := by
        intro i j hil hjl
        have e : (⟨b, o, none⟩ : Addr).add (i * fs.size + j) = ⟨b, o + i * fs.size + j, none⟩ := by
          unfold Addr.add
          split
          · first | (simp; done) | (simp; omega)
          · simp [Nat.add_assoc]
        rw [← e]
        exact cell i j hil hjl
      refine ⟨fun i j => if h : i < len0 ∧ j < fs.size then (cell' i j h.1 h.2).choose else 0, some ⟨b, o, none⟩, cap0, rfl, hl, hm, .inr ⟨b, o, rfl, ?_⟩⟩
      intro i j hil hjl
      have hsp := (cell' i j hil hjl).choose_spec
      dsimp only
      rw [dif_pos ⟨hil, hjl⟩]
      exact hsp
theorem kindsAt_ints {k : IntKind} {t e : TypeId} {a0 : Option Addr} {len0 cap0 : Nat} {d : DataW H} {p : List MemPlace} (ht : P.underlying t = some (.slice e)) (he : P.underlying e = some (.int k))
    (hC : P.cellsOf e = 1) (h : DataW.Trod enc P w base spare held t (.slice a0 len0 cap0) d p) :
    ∃ K, KindsAt w (.slice a0 len0 cap0) 1 (fun _ => k) K len0 := by
  obtain ⟨fuel, hf⟩ := h
  rcases open_slice ht hf with ⟨hcs, _⟩ | ⟨a, len, cap, m, n, D, Pl, hcs, hb, hl, hm, hmm, hx, hi⟩
  · simp [Value.cells] at hcs
    obtain ⟨rfl, rfl, rfl⟩ := hcs
    exact ⟨fun _ _ => 0, none, 0, rfl, Nat.le_refl _, Nat.zero_le _, .inl rfl⟩
  · simp [Value.cells] at hcs
    obtain ⟨rfl, rfl, rfl⟩ := hcs
    have hlm : len0 ≤ m := by rw [hmm]; split <;> omega
    have cell : ∀ i, i < len0 → ∃ x, w.cell? (a.add i) = some (.int k x) ∧ (Lit.int k x).wf = true := by
      intro i hil
      obtain ⟨cs', hc, ht'⟩ := hi i (by omega)
      rw [hC] at hc
      obtain ⟨x, hx1, _, hx3⟩ := DataW.trod_int he ht'
      obtain ⟨_, hcl, hat⟩ := World.cells?_some hc
      have h1 := hat 0 (by omega)
      rw [hx1] at h1
      refine ⟨x, ?_, hx3⟩
      have e1 : (a.add (i * 1)).add 0 = a.add i := by rw [Go.Deep.add_add]; simp
      rw [e1] at h1
      simpa using h1
    by_cases hz : len0 = 0
    · subst hz; exact ⟨fun _ _ => 0, some a, cap0, rfl, hl, hm, .inl rfl⟩
    · obtain ⟨b, o, sp⟩ := a
      have hsp : sp = none := by
        obtain ⟨x, hx1, _⟩ := cell 0 (by omega)
        simpa [Addr.add] using World.cell?_spot hx1
      subst hsp
      have cell' : ∀ i, i < len0 → ∃ x, w.cell? ⟨b, o + i, none⟩ = some (.int k x) ∧ (Lit.int k x).wf = true := by
        intro i hil
        have e : (⟨b, o, none⟩ : Addr).add i = ⟨b, o + i, none⟩ := by
          unfold Addr.add
          split
          · first | (simp; done) | (simp; omega)
          · simp
        rw [← e]
        exact cell i hil
      refine ⟨fun i _ => if h : i < len0 then (cell' i h).choose else 0, some ⟨b, o, none⟩, cap0, rfl, hl, hm, .inr ⟨b, o, rfl, ?_⟩⟩
      intro i j hil hjl
      obtain rfl : j = 0 := by omega
      have hsp := (cell' i hil).choose_spec
      dsimp only
      rw [dif_pos hil, Nat.mul_one, Nat.add_zero]
      exact hsp
end
end Go.Proofs.Ytjfnaflbhmeokaa
