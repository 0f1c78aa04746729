/- Arguments that are slices of bytes. No condition. -/
import Derived.Test.YtbfkmogibgchmaaDoorArgs
import Derived.Test.YtbfkmogibgchmaaDoorBofC
import Derived.SizedLaws
namespace Go.Proofs.YtbfkmogibgchmaaDoor.Bt
open Go.ChangeShapes Go.WideShapes Go.ChangeAt Go.RowKit Go.Deep
theorem byte_wf {x : Int} (h : (Lit.int .u8 x).wf = true) : 0 ≤ x ∧ x < 256 := by
  simp [Lit.wf, IntKind.min, IntKind.max, IntKind.signed, IntKind.bits] at h
  omega
section
variable {H : Type} {enc : TypeId × Value → H} {P : Program} {w : World} {base : Nat} {spare : Nat → Bool} {held : Bool}
theorem bytesAt {t e : TypeId} {a0 : Option Addr} {len0 cap0 : Nat} {d : DataW H} {p : List MemPlace} (ht : P.underlying t = some (.slice e)) (he : P.underlying e = some (.int .u8))
    (hC : P.cellsOf e = 1) (h : DataW.Trod enc P w base spare held t (.slice a0 len0 cap0) d p) :
    ∃ L, BytesAt w (.slice a0 len0 cap0) L len0 ∧ (∀ b ∈ L, b < 256) ∧ (len0 = 0 ∨ ∃ es sp : List (DataW H), d = .slice es sp ∧ es.length = len0) := by
  obtain ⟨fuel, hf⟩ := h
  rcases open_slice ht hf with ⟨hcs, _⟩ | ⟨a, len, cap, m, n, D, Pl, hcs, hb, hl, hm, hmm, hx, hi⟩
  · simp [Value.cells] at hcs
    obtain ⟨rfl, rfl, rfl⟩ := hcs
    exact ⟨[], ⟨none, 0, rfl, rfl, fun i h => by omega⟩, by simp, .inl rfl⟩
  · simp [Value.cells] at hcs
    obtain ⟨rfl, rfl, rfl⟩ := hcs
    have hlm : len0 ≤ m := by rw [hmm]; split <;> omega
    have hd : ∃ es sp : List (DataW H), d = .slice es sp ∧ es.length = len0 := ⟨_, _, (Prod.mk.inj hx).1, by simp⟩
    have cell : ∀ i, i < len0 → ∃ x, w.cell? (a.add i) = some (.int .u8 x) ∧ 0 ≤ x ∧ x < 256 := by
      intro i hil
      obtain ⟨cs', hc, ht'⟩ := hi i (by omega)
      rw [hC] at hc
      obtain ⟨x, hx1, _, hx3⟩ := DataW.trod_int he ht'
      obtain ⟨_, hcl, hat⟩ := World.cells?_some hc
      have h1 := hat 0 (by omega)
      rw [hx1] at h1
      refine ⟨x, ?_, byte_wf hx3⟩
      have e1 : (a.add (i * 1)).add 0 = a.add i := by rw [Go.Deep.add_add]; simp
      rw [e1] at h1
      simpa using h1
    by_cases hz : len0 = 0
    · subst hz; exact ⟨[], ⟨some a, cap0, rfl, rfl, fun i h => by omega⟩, by simp, .inl rfl⟩
    · obtain ⟨b, o, sp⟩ := a
      have hsp : sp = none := by
        obtain ⟨x, hx1, _⟩ := cell 0 (by omega)
        simpa [Addr.add] using World.cell?_spot hx1
      subst hsp
      have cell' : ∀ i, i < len0 → ∃ x : Nat, w.cell? ⟨b, o + i, none⟩ = some (.int .u8 (x : Int)) ∧ x < 256 := by
        intro i hil
        have e : (⟨b, o, none⟩ : Addr).add i = ⟨b, o + i, none⟩ := by
          unfold Addr.add
          split
          · first | (simp; done) | (simp; omega)
          · simp
        rw [← e]
        obtain ⟨x, h1, h2, h3⟩ := cell i hil
        obtain ⟨y, rfl⟩ : ∃ y : Nat, x = (y : Int) := ⟨x.toNat, by omega⟩
        exact ⟨y, h1, by omega⟩
      refine ⟨(List.range len0).map (fun i => if h : i < len0 then (cell' i h).choose else 0), ⟨some ⟨b, o, none⟩, cap0, rfl, by simp, fun i hi => ⟨b, o, rfl, ?_⟩⟩, ?_, .inr hd⟩
      · rw [List.getD_eq_getElem?_getD]
        simp only [List.getElem?_map, List.getElem?_range hi, Option.map_some, Option.getD_some, dif_pos hi]
        exact (cell' i hi).choose_spec.1
      · intro x hx
        obtain ⟨i, hi, rfl⟩ := List.mem_map.1 hx
        have hi := List.mem_range.1 hi
        rw [dif_pos hi]
        exact (cell' i hi).choose_spec.2
end
end Go.Proofs.YtbfkmogibgchmaaDoor.Bt
