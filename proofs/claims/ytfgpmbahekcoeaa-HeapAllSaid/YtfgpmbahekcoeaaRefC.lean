/- The document's heap: Push. No condition. -/
import Derived.Test.YtfgpmbahekcoeaaRefB
import Derived.Test.YtfgpmbahekcoeaaHeapP
namespace Go.Proofs
theorem Try.infoRef : (Try.prog.info? 65).map (fun i => (i.zero, i.size, i.bytes)) = some (some (.agg #[.int .i64 0, .int .i64 0]), 2, 16) := by kernel_rfl
end Go.Proofs
namespace Go.Proofs.Ytfgpmbahekcoeaa
open Go.RowKit
section
variable {G : Nat → Prop} {rh : Nat} {kind next : Int} {R : List It} {w : World}
theorem ref_len (h : RefIs G rh kind R next w) : ∃ a c, w.cell? ⟨rh, 1, none⟩ = some (.slice a R.length c) := by
  obtain ⟨sv, h1, h2, h3⟩ := h.ex
  obtain ⟨a, c, rfl, hc⟩ := row_cells h2
  exact ⟨a, c, by simpa using cell_of h1 1⟩
set_option maxRecDepth 100000 in
theorem rpush_full (h : RefIs G rh kind R next w) (hn : R.length = 65536) (v : Int) : Calls Try.prog 59 #[.pointer (some ⟨rh, 0, none⟩), .int .i64 v] w fun e w' => e = .returned (.tuple #[.int .i64 0, .int .i64 6]) ∧ w = w' := by
  obtain ⟨a, c, c1⟩ := ref_len h
  have q1 : decide (65536 ≤ R.length) = true := by simp; omega
  have q2 : decide ((65536 : Int) ≤ (R.length : Int)) = true := by simp; omega
  have H := Lib.hid h; have Hn := Lib.hid hn
  clear h hn
  go_enter Try.func59, Try.ntmps59
  go_wp2_with fail
  go_ret2
  exact ⟨rfl, rfl⟩
set_option maxRecDepth 100000 in
theorem rpush_room (h : RefIs G rh kind R next w) (hn : R.length < 65536) (hx0 : 0 ≤ next) (hx : next ≤ 1000000000) (v : Int) :
    Calls Try.prog 59 #[.pointer (some ⟨rh, 0, none⟩), .int .i64 v] w fun e w' => e = .returned (.tuple #[.int .i64 next, .int .i64 0]) ∧
      ∃ G', RefIs G' rh kind (R ++ [(next, v)]) (next + 1) w' ∧ Fr G w w' ∧ Grew w G G' := by
  obtain ⟨sv, h1, h2, h3⟩ := h.ex
  obtain ⟨sa, sc, rfl, _⟩ := row_cells h2
  obtain ⟨i0, hi, hz0, hz1, hz2⟩ := info_parts Try.infoRef
  have c1 := cell_of h1 1
  have c2 := cell_of h1 2
  simp at c1 c2
  have q1 : decide (65536 ≤ R.length) = false := by simp; omega
  have q2 : decide ((65536 : Int) ≤ (R.length : Int)) = false := by simp; omega
  have hf1 : Fr (fun _ => False) w (w.alloc (.cells #[.int .i64 next, .int .i64 v] 65)) := Fr.alloc (Fr.refl _ _) _
  have hR1 := Row.fr h2 hf1 (fun _ _ h => h)
  obtain ⟨v', w3, hrun, hR3, hf3, ho3⟩ := run_append_fr (P := Try.prog) _ 54 54 65 i0 _ 2 16 Try.underlying54 hi hz0 hz1 hz2 rfl (by decide) _ _ _ hR1 ⟨w.heap.size, 0, none⟩ 1 1 [.int .i64 next, .int .i64 v] rfl
    (by intro j u hu; match j, hu with
        | 0, hu => simp at hu; subst hu; simp [Addr.add, World.cell?_alloc_at]
        | 1, hu => simp at hu; subst hu; simp [Addr.add, World.cell?_alloc_at])
    (by intro u hu; simp at hu; rcases hu with rfl | rfl <;> rfl) (by unfold maxLen; omega) (by omega)
  obtain ⟨a', c', hv'⟩ : ∃ a' c', v' = .slice a' (R.length + 1) c' := by
    rcases hR3.2 with ⟨rfl, h0⟩ | ⟨g, cap, cur, rfl, _⟩
    · exact ⟨none, 0, by rw [h0]⟩
    · exact ⟨_, _, rfl⟩
  subst hv'
  have hrl := lt_of_block h1
  have hsb : ∀ b, (Value.slice sa R.length sc).ownBlock = some b → G b ∧ b ≠ rh := h3
  have hw3 := hf3.get (hf1.get h1 (fun h => h)) (fun e => (hsb rh e).2 rfl)
  have x1 := cell_of hw3 1
  have y1 := free_of hw3 1
  have x2 := cell_of hw3 2
  have y2 := free_of hw3 2
  simp at x1 x2
  have H := Lib.hid h; have H1 := Lib.hid h1; have Hf1 := Lib.hid hf1; have Hf3 := Lib.hid hf3; have HR3 := Lib.hid hR3; have Ho3 := Lib.hid ho3; have Hrun := Lib.hid hrun
  have Hrl := Lib.hid hrl; have Hsb := Lib.hid hsb; have Hw3 := Lib.hid hw3; have Hn := Lib.hid hn
  clear h h1 h2 h3 hi hz0 hz1 hz2 hf1 hR1 hrun hR3 hf3 ho3 hrl hsb hw3 hn
  go_enter Try.func59, Try.ntmps59
  go_wp2_with (at_builtin; refine wpList_append_run rfl _ _ _ rfl rfl rfl Hrun.out ?_)
  go_ret2
  have hob : ∀ b, (Value.slice a' (R.length + 1) c').ownBlock = some b → (G b ∨ w.heap.size ≤ b) ∧ b ≠ rh ∧ b < w3.heap.size := by
    intro b hb
    have hlt : b < w3.heap.size := Row.lt HR3.out hb
    rcases Ho3.out with h | h
    · rw [h] at hb; exact ⟨.inl (Hsb.out b hb).1, (Hsb.out b hb).2, hlt⟩
    · rw [h] at hb; simp at hb; have := Hrl.out; exact ⟨.inr (by omega), by omega, hlt⟩
  have hfin := setCell_blk (o := 2) (setCell_blk (o := 1) Hw3.out (.slice a' (R.length + 1) c')) (.int .i64 (next + 1))
  refine ⟨rfl, fun b => G b ∨ ((Value.slice a' (R.length + 1) c').ownBlock = some b), ⟨⟨.slice a' (R.length + 1) c', ?_, ?_, ?_⟩, .inl H.out.gh, ?_, ?_⟩, ?_, ?_⟩
  · exact hfin
  · rw [flat_append, List.length_append]
    exact Row.fr (F := fun b => b = rh) HR3.out (Fr.setCell (F := fun b => b = rh) (p := ⟨rh, 2, none⟩) (Fr.setCell (F := fun b => b = rh) (p := ⟨rh, 1, none⟩) (Fr.refl _ _) (fun _ => rfl) _) (fun _ => rfl) _) (fun b hb => (hob b hb).2.1)
  · intro b hb
    exact ⟨.inr hb, (hob b hb).2.1⟩
  · intro b hb
    rcases hb with hb | hb
    · have := H.out.bd b hb
      have := Hf1.out.size
      have := Hf3.out.size
      simp at *; omega
    · simpa using (hob b hb).2.2
  · rw [List.length_append]; have := Hn.out; simp; omega
  · refine Fr.setCell (p := ⟨rh, 2, none⟩) (Fr.setCell (p := ⟨rh, 1, none⟩) ((Hf1.out.mono (fun _ _ h => h.elim)).trans Hf3.out ?_) ?_ _) ?_ _
    · intro b _ hb; exact (Hsb.out b hb).1
    · intro _; exact H.out.gh
    · intro _; exact H.out.gh
  · intro b hb
    rcases hb with hb | hb
    · exact .inl hb
    · exact (hob b hb).1
end
end Go.Proofs.Ytfgpmbahekcoeaa
