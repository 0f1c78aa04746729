/- slices.Clone of a slice of items. No condition. -/
import Derived.Test.YtjfnaflbhmeokaaWtE
namespace Go.Proofs.Ytjfnaflbhmeokaa.Wt
open Go.RowKit
set_option maxRecDepth 100000 in
theorem clone_ok {w : World} {sv : Value} {L : List It} (hR : Row w 179 5 sv L.length (flat L)) (hn : L.length ≤ 70000) :
    Calls Try.prog 109 #[sv] w fun e w' => ∃ sv', e = .returned sv' ∧ Row w' 179 5 sv' L.length (flat L) ∧ Fr (fun _ => False) w w' ∧ (∀ b, sv'.ownBlock = some b → w.heap.size ≤ b) := by
  have q := fun w a n c => Lib.run_eql_slice_nil (P := Try.prog) w _ _ a n c 0 0 Try.underlying116
  rcases hR.2 with ⟨rfl, h0⟩ | ⟨g, cap, cur, rfl, hg, h1, h2, h3, h4, h5⟩
  · have HR := Lib.hid hR; clear hR
    go_enter Try.func109, Try.ntmps109
    go_wp2_with fail
    go_ret
    exact ⟨_, rfl, HR.out, Fr.refl _ _, by intro b hb; simp [Value.ownBlock] at hb⟩
  · obtain ⟨i0, hi, hz0, hz1, hz2⟩ := info_parts Try.infoItemW
    have hlg := lt_of_block h1
    have hfr : Fr (fun _ => False) w (w.alloc (.cells #[] 179)) := Fr.alloc (Fr.refl _ _) _
    have hR1 : Row (w.alloc (.cells #[] 179)) 179 5 (.slice (some ⟨w.heap.size, 0, none⟩) 0 0) 0 [] :=
      ⟨rfl, .inr ⟨w.heap.size, 0, #[], rfl, Nat.zero_le _, (by simp only [heap_alloc_get]; simp), Nat.le_refl _, Nat.zero_le _, rfl, rfl⟩⟩
    obtain ⟨v', w3, hrun, hR3, hf3, ho3⟩ := run_append_fr (P := Try.prog) _ 116 116 179 i0 _ 5 40 Try.underlying116 hi hz0 hz1 hz2 rfl (by decide) _ _ _ hR1 ⟨g, 0, none⟩ L.length cap (flat L) (flat_length L)
      (by
        intro j u hu
        have hj : j < (flat L).length := (List.getElem?_eq_some_iff.1 hu).1
        rw [flat_length] at hj
        have hb := hfr.get h1 (fun h => h)
        rw [← h5, List.getElem?_take, if_pos hj] at hu
        have := cell_of hb j
        have e : (⟨g, 0, none⟩ : Addr).add j = ⟨g, j, none⟩ := by
          by_cases h0 : j = 0
          · subst h0; simp [Addr.add]
          · simp [Addr.add, h0]
        rw [e, this]; simpa using hu)
      (by
        intro u hu
        simp only [flat, List.mem_flatMap] at hu
        obtain ⟨x, _, hx⟩ := hu
        simp at hx; rcases hx with rfl | rfl | rfl | rfl | rfl <;> rfl) (by unfold maxLen; omega) (by omega)
    simp only [Nat.zero_add, List.nil_append] at hR3
    have HR3 := Lib.hid hR3; have Hf3 := Lib.hid hf3; have Ho3 := Lib.hid ho3; have Hfr := Lib.hid hfr
    have Hrun := Lib.hid hrun
    clear hR h1 h2 h3 h4 h5 hR3 hf3 ho3 hfr hR1 hi hz0 hz1 hz2 hrun
    go_enter Try.func109, Try.ntmps109
    go_wp2_with (at_builtin; refine wpList_append_run rfl _ _ _ rfl rfl rfl Hrun.out ?_)
    go_ret
    refine ⟨v', rfl, HR3.out, ?_, ?_⟩
    · refine Fr.trans Hfr.out Hf3.out ?_
      intro b hb e
      simp [Value.ownBlock] at e; omega
    · intro b hb
      rcases Ho3.out with h | h
      · rw [h] at hb; simp [Value.ownBlock] at hb; omega
      · rw [h] at hb; simp at hb; omega
end Go.Proofs.Ytjfnaflbhmeokaa.Wt
