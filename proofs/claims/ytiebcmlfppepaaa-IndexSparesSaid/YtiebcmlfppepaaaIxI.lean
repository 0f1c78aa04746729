/- The index layer: slices.Clone of slots. No condition. -/
import Derived.Test.YtiebcmlfppepaaaIxH
namespace Go.Proofs.Ytiebcmlfppepaaa.Ix
open Go.RowKit
theorem info_parts {i : Option TypeInfo} {z : Option Value} {s b : Nat} (h : i.map (fun i => (i.zero, i.size, i.bytes)) = some (z, s, b)) : ∃ i0, i = some i0 ∧ i0.zero = z ∧ i0.size = s ∧ i0.bytes = b := by
  cases i with
  | none => simp at h
  | some i0 => simp at h; exact ⟨i0, rfl, h⟩
theorem cells3_one {S : List Sl} {u : Value} (h : u ∈ flat3 S) : u.oneCell' = true := by
  obtain ⟨x, _, hx⟩ := List.mem_flatMap.1 h
  simp only [cells3, List.mem_cons, List.not_mem_nil, or_false] at hx
  rcases hx with rfl | rfl | rfl <;> rfl
set_option maxRecDepth 100000 in
theorem clone_ok {w : World} {g N : Nat} {S : List Sl} (h1 : SlotsAt w g S) (hN : S.length = N) (h8 : N ≤ 8192) (h0 : 0 < N) :
    Calls Try.prog 59 #[.slice (some ⟨g, 0, none⟩) N N] w fun e w' => ∃ b cap, e = .returned (.slice (some ⟨b, 0, none⟩) N cap) ∧ N ≤ cap ∧ cap ≤ 9223372036854775807 ∧ BufAt w' b S ∧ Fr (fun _ => False) w w' ∧ w.heap.size ≤ b := by
  have q := fun w a n c => Lib.run_eql_slice_nil (P := Try.prog) w _ _ a n c 0 0 Try.underlying81
  obtain ⟨i0, hi, hz0, hz1, hz2⟩ := info_parts Try.infoSlot
  have hfr : Fr (fun _ => False) w (w.alloc (.cells #[] 86)) := Fr.alloc (Fr.refl _ _) _
  have hR1 : Row (w.alloc (.cells #[] 86)) 86 3 (.slice (some ⟨w.heap.size, 0, none⟩) 0 0) 0 [] :=
    ⟨rfl, .inr ⟨w.heap.size, 0, #[], rfl, Nat.zero_le _, (by simp only [heap_alloc_get]; simp), Nat.le_refl _, Nat.zero_le _, rfl, rfl⟩⟩
  have hl3 : (flat3 S).length = N * 3 := by rw [flat3_length, hN]
  obtain ⟨v', w3, hrun, hR3, hf3, ho3⟩ := run_append_fr (P := Try.prog) _ 81 81 86 i0 _ 3 16 Try.underlying81 hi hz0 hz1 hz2 rfl (by decide) _ _ _ hR1 ⟨g, 0, none⟩ N N (flat3 S) hl3
    (by
      intro j u hu
      have hb := hfr.get h1 (fun h => h)
      have := cell_of hb j
      have e : (⟨g, 0, none⟩ : Addr).add j = ⟨g, j, none⟩ := by
        by_cases h0 : j = 0
        · subst h0; simp [Addr.add]
        · simp [Addr.add, h0]
      rw [e, this]; simpa using hu)
    (fun u hu => cells3_one hu) (by unfold maxLen; omega) (by omega)
  simp only [Nat.zero_add, List.nil_append] at hR3
  have HR3 := Lib.hid hR3; have Hf3 := Lib.hid hf3; have Ho3 := Lib.hid ho3; have Hfr := Lib.hid hfr
  have Hrun := Lib.hid hrun; have HN := Lib.hid h0
  clear h1 hR3 hf3 ho3 hfr hR1 hi hz0 hz1 hz2 hrun hl3 hN h8 h0
  go_enter Try.func59, Try.ntmps59
  go_wp2_with (at_builtin; refine wpList_append_run rfl _ _ _ rfl rfl rfl Hrun.out ?_)
  go_ret
  have hN := HN.out
  rcases HR3.out.2 with ⟨-, e0⟩ | ⟨g', cap, cur, rfl, -, k1, k2, k3, k4, k5⟩
  · omega
  refine ⟨g', cap, rfl, k2, by simp only [maxLen] at k3; omega, ⟨cur.toList.drop (N * 3), by rw [k1, ← k5, List.take_append_drop]⟩, ?_, ?_⟩
  · refine Fr.trans Hfr.out Hf3.out ?_
    intro b hb e
    simp [Value.ownBlock] at e; omega
  · rcases Ho3.out with h | h
    · simp [Value.ownBlock] at h; omega
    · simp [Value.ownBlock] at h; omega
end Go.Proofs.Ytiebcmlfppepaaa.Ix
