/- Arguments that are slices of numbers. No condition. -/
import Derived.Test.YthckfbfenfkdiaaDoorArgs
namespace Go.Proofs.YthckfbfenfkdiaaDoor
open Go.ChangeShapes Go.WideShapes Go.ChangeAt Go.RowKit Go.Deep
section
variable {H : Type} {enc : TypeId × Value → H} {P : Program} {w : World} {base : Nat} {spare : Nat → Bool} {held : Bool}
theorem intsAt_ints {t e : TypeId} {a0 : Option Addr} {len0 cap0 : Nat} {d : DataW H} {p : List MemPlace} (ht : P.underlying t = some (.slice e)) (he : P.underlying e = some (.int .i64))
    (hC : P.cellsOf e = 1) (h : DataW.Trod enc P w base spare held t (.slice a0 len0 cap0) d p) :
    ∃ K, IntsAt w (.slice a0 len0 cap0) 1 K len0 := by
  obtain ⟨fuel, hf⟩ := h
  rcases open_slice ht hf with ⟨hcs, _⟩ | ⟨a, len, cap, m, n, D, Pl, hcs, hb, hl, hm, hmm, hx, hi⟩
  · simp [Value.cells] at hcs
    obtain ⟨rfl, rfl, rfl⟩ := hcs
    exact ⟨fun _ _ => 0, none, 0, rfl, Nat.le_refl _, Nat.zero_le _, .inl rfl⟩
  · simp [Value.cells] at hcs
    obtain ⟨rfl, rfl, rfl⟩ := hcs
    have hlm : len0 ≤ m := by rw [hmm]; split <;> omega
    have cell : ∀ i, i < len0 → ∃ x, w.cell? (a.add i) = some (.int .i64 x) ∧ Fits x := by
      intro i hil
      obtain ⟨cs', hc, ht'⟩ := hi i (by omega)
      rw [hC] at hc
      obtain ⟨x, hx1, _, hx3⟩ := DataW.trod_int he ht'
      obtain ⟨_, hcl, hat⟩ := World.cells?_some hc
      have h1 := hat 0 (by omega)
      rw [hx1] at h1
      refine ⟨x, ?_, fits_wf hx3⟩
      have e1 : (a.add (i * 1)).add 0 = a.add i := by rw [Go.Deep.add_add]; simp
      rw [e1] at h1
      simpa using h1
    by_cases hz : len0 = 0
    · subst hz; exact ⟨fun _ _ => 0, some a, cap0, rfl, hl, hm, .inl rfl⟩
    · obtain ⟨b, o, sp⟩ := a
      have hsp : sp = none := by
        obtain ⟨x, hx1, _⟩ := cell 0 (by omega)
        simpa [Addr.add] using World.cell?_spot hx1
      subst hsp
      have cell' : ∀ i, i < len0 → ∃ x, w.cell? ⟨b, o + i, none⟩ = some (.int .i64 x) ∧ Fits x := by
        intro i hil
        have e : (⟨b, o, none⟩ : Addr).add i = ⟨b, o + i, none⟩ := by
          unfold Addr.add
          split
          · first | (simp; done) | (simp; omega)
          · simp
        rw [← e]
        exact cell i hil
      refine ⟨fun i _ => if h : i < len0 then (cell' i h).choose else 0, some ⟨b, o, none⟩, cap0, rfl, hl, hm, .inr ⟨b, o, rfl, ?_⟩⟩
      intro i j hil hjl
      obtain rfl : j = 0 := by omega
      have hsp := (cell' i hil).choose_spec
      dsimp only
      rw [dif_pos hil, Nat.mul_one, Nat.add_zero]
      exact hsp
end
end Go.Proofs.YthckfbfenfkdiaaDoor
