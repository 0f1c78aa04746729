/- HeapSorts' pops: in order, each once. No condition. -/
import Derived.Test.YtfgpmbahekcoeaaThgN
namespace Go.Proofs.Ytfgpmbahekcoeaa.Th
open Go.RowKit
structure HqL (bh : Nat) (V : List Int) (T : List Bool) (G : Nat → Prop) (L : List It) (wr : World) : Prop where
  hp : HpS G bh L (V.length : Int) wr
  len : L.length ≤ V.length
  it : Items V T L
  heaped : Heaped ltT L
theorem Hq.toL {bh : Nat} {V : List Int} {T : List Bool} {G : Nat → Prop} {wr : World} (h : Hq bh V T G wr) : ∃ L, HqL bh V T G L wr := by
  obtain ⟨L, h1, h2, h3, h4⟩ := h.ex
  exact ⟨L, h1, h2, h3, h4⟩
theorem HqL.toHq {bh : Nat} {V : List Int} {T : List Bool} {G : Nat → Prop} {L : List It} {wr : World} (h : HqL bh V T G L wr) : Hq bh V T G wr := ⟨L, h.hp, h.len, h.it, h.heaped⟩
theorem HqL.fr {bh : Nat} {V : List Int} {T : List Bool} {G F : Nat → Prop} {L : List It} {w w' : World} (h : HqL bh V T G L w) (f : Fr F w w') (hn : ∀ b, G b → ¬ F b) : HqL bh V T G L w' := ⟨HpS.fr h.hp f hn, h.len, h.it, h.heaped⟩
/-- No item lies ahead of one of worth f under the handle at. -/
def Good (f : Nat) (at_ : Int) (L : List It) : Prop := ∀ i, i < L.length → (FloatKind.f64.format.order (tW (itAt L i).1) f == some .lt) = false ∧ ((FloatKind.f64.format.order (tW (itAt L i).1) f == some .eq) = true → at_ ≤ (itAt L i).2)
theorem good_start (L : List It) : Good 13830554455654793216 (-1) L := by
  intro i hi
  have h : FloatKind.f64.format.order (tW (itAt L i).1) 13830554455654793216 = some .gt := by
    rw [tW_eq]
    have h1 := Int.emod_nonneg (itAt L i).1 (by omega : (20 : Int) ≠ 0)
    have h2 := Int.emod_lt_of_pos (itAt L i).1 (by omega : (0 : Int) < 20)
    exact minus1 ⟨((itAt L i).1 % 20).toNat, by omega⟩
  rw [h]
  exact ⟨rfl, fun e => absurd e (by decide)⟩
theorem good_le {x y : It} (h : leI ltT x y) : (FloatKind.f64.format.order (tW y.1) (tW x.1) == some .lt) = false ∧ ((FloatKind.f64.format.order (tW y.1) (tW x.1) == some .eq) = true → x.2 ≤ y.2) := by
  obtain ⟨h1, h2⟩ := leI_iff.1 h
  refine ⟨by rw [lssT]; exact h1, ?_⟩
  intro e
  rw [eqlT] at e
  have e' : y.1 % 20 = x.1 % 20 := of_decide_eq_true e
  rcases h2 with h2 | h2
  · unfold ltT at h2
    have := of_decide_eq_true h2
    omega
  · exact h2
theorem HqL.len_ok {bh : Nat} {V : List Int} {T : List Bool} {G : Nat → Prop} {L : List It} {wr : World} (h : HqL bh V T G L wr) :
    Calls Try.prog 20 #[.pointer (some ⟨bh, 0, none⟩)] wr fun e w' => e = .returned (.int .i64 L.length) ∧ wr = w' := Th.len_ok sorts_less h.hp
theorem HqL.popNone {bh : Nat} {V : List Int} {T : List Bool} {G : Nat → Prop} {wr : World} (h : HqL bh V T G [] wr) :
    Calls Try.prog 21 #[.pointer (some ⟨bh, 0, none⟩)] wr fun e w' => e = .returned (.tuple #[zeroT, .int .i64 0, .bool false]) ∧ Fr (fun _ => False) wr w' := pop_none sorts_less h.hp
theorem HqL.pop {bh : Nat} {V : List Int} {T : List Bool} {G : Nat → Prop} {L : List It} {wr : World} (h : HqL bh V T G L wr) (h0 : 0 < L.length) {f : Nat} {at_ : Int} (hg : Good f at_ L) :
    ∃ j : Nat, j < V.length ∧ T.getD j false = true ∧ (FloatKind.f64.format.order (tW (V.getD j 0)) f == some .lt) = false ∧ ((FloatKind.f64.format.order (tW (V.getD j 0)) f == some .eq) = true → at_ ≤ (j : Int)) ∧
      Calls Try.prog 21 #[.pointer (some ⟨bh, 0, none⟩)] wr fun e w' => e = .returned (.tuple #[thgT (V.getD j 0), .int .i64 j, .bool true]) ∧ Fr G wr w' ∧ ∃ L', HqL bh V (T.set j false) G L' w' ∧ L'.length + 1 = L.length ∧ Good (tW (V.getD j 0)) j L' := by
  obtain ⟨j, hj, ht, e⟩ := h.it.at_ h0
  obtain ⟨g1, g2⟩ := hg 0 h0
  rw [e] at g1 g2
  refine ⟨j, hj, ht, g1, g2, ?_⟩
  have hp := pop_some sorts_less h.hp h0
  rw [e] at hp
  refine hp.mono ?_
  rintro e2 w' ⟨rfl, a1, a2⟩
  have htl := takeF_length ltT h0
  refine ⟨rfl, a2.mono (fun b _ h => h.elim (fun h => h.elim) id), takeF ltT L 0, ⟨a1, by have := h.len; omega, h.it.take h0 e, take_heaped ltT_swo h.heaped h0⟩, by omega, ?_⟩
  intro i hi
  have hm : itAt (takeF ltT L 0) i ∈ L := by
    have := (perm_take ltT h0).mem_iff (a := itAt (takeF ltT L 0) i)
    exact this.1 (List.mem_cons_of_mem _ (itAt_mem hi))
  obtain ⟨k, hk, ek⟩ := List.getElem_of_mem hm
  have hle := heaped_least ltT_swo h.heaped k hk
  rw [itAt_get hk, ek, e] at hle
  exact good_le hle
theorem HqL.empty {bh : Nat} {V : List Int} {T : List Bool} {G : Nat → Prop} {L : List It} {wr : World} (h : HqL bh V T G L wr) (h0 : L.length = 0) : ∀ j, j < V.length → T.getD j false = false := by
  have e : L = [] := List.length_eq_zero_iff.1 h0
  have := h.it
  rw [e] at this
  exact this.empty
end Go.Proofs.Ytfgpmbahekcoeaa.Th
