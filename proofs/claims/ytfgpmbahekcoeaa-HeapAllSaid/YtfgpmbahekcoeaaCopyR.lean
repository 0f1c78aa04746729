/- append([]Item{}, l...): a copy of the document's items. No condition. -/
import Derived.Test.YtfgpmbahekcoeaaRefD
namespace Go.Proofs.Ytfgpmbahekcoeaa
open Go.RowKit
theorem run_append_nothing (w : World) (b : Nat) :
    (Builtin.append_ #[54, 54] 54 #[.slice (some ⟨b, 0, none⟩) 0 0, .slice none 0 0]).run Try.prog w = .ok (.slice (some ⟨b, 0, none⟩) 0 0) w := by
  simp [Builtin.append_, go_sem]
theorem copy_items {w w2 : World} {R : List It} {ra : Option Addr} {rc b : Nat} (hw : w2 = w.alloc (.cells #[] 65)) (hb : b = w.heap.size) (hR : Row w 65 2 (.slice ra R.length rc) R.length (flat R)) (hlen : R.length ≤ 65536) :
    ∃ v' w', (Builtin.append_ #[54, 54] 54 #[.slice (some ⟨b, 0, none⟩) 0 0, .slice ra R.length rc]).run Try.prog w2 = .ok v' w' ∧ Row w' 65 2 v' R.length (flat R) ∧ Fr (fun x => x = b) w2 w' ∧ (∀ x, v'.ownBlock = some x → w.heap.size ≤ x) := by
  have f0 : Fr (fun _ => False) w w2 := by rw [hw]; exact Fr.alloc (Fr.refl _ _) _
  have hrow : Row w2 65 2 (.slice (some ⟨b, 0, none⟩) 0 0) 0 [] := by
    refine ⟨rfl, .inr ⟨b, 0, #[], rfl, Nat.zero_le _, ?_, by omega, by unfold maxLen; omega, rfl, rfl⟩⟩
    rw [hw, hb]; exact heap_alloc_at _ _
  rcases hR.2 with ⟨e, h0⟩ | ⟨g, cap, cur, e, _, k1, k2, k3, k4, k5⟩
  · simp only [Value.slice.injEq] at e
    obtain ⟨rfl, _, rfl⟩ := e
    obtain rfl : R = [] := List.length_eq_zero_iff.1 h0
    refine ⟨_, w2, run_append_nothing w2 b, hrow, Fr.refl _ _, ?_⟩
    intro x hx
    simp [Value.ownBlock] at hx; omega
  · simp only [Value.slice.injEq] at e
    obtain ⟨rfl, _, rfl⟩ := e
    obtain ⟨i0, hi, hz0, hz1, hz2⟩ := info_parts Try.infoRef
    have k1' := f0.get k1 (fun h => h)
    obtain ⟨v1, w1, hrun1, hR1, hf1, ho1⟩ := run_append_fr (P := Try.prog) w2 54 54 65 i0 _ 2 16 Try.underlying54 hi hz0 hz1 hz2 rfl (by decide) _ 0 [] hrow ⟨g, 0, none⟩ R.length rc (flat R) (flat_length R)
      (by
        intro j u hu
        have hj : j < (flat R).length := (List.getElem?_eq_some_iff.1 hu).1
        rw [flat_length] at hj
        rw [addr_add, Nat.zero_add, cell_of k1' j]
        rw [← k5, List.getElem?_take, if_pos hj] at hu
        simpa using hu)
      (by
        intro u hu
        simp only [flat, List.mem_flatMap] at hu
        obtain ⟨x, _, hx⟩ := hu
        simp at hx; rcases hx with rfl | rfl <;> rfl)
      (by unfold maxLen; omega) (by omega)
    refine ⟨v1, w1, hrun1, by simpa using hR1, hf1.mono (fun x _ e => by simp [Value.ownBlock] at e; omega), ?_⟩
    intro x hx
    rcases ho1 with h | h
    · rw [h] at hx; simp [Value.ownBlock] at hx; omega
    · rw [h] at hx; simp at hx; have := f0.size; omega
end Go.Proofs.Ytfgpmbahekcoeaa
