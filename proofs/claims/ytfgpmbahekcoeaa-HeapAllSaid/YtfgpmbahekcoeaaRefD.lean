/- The document's heap: Drop. No condition. -/
import Derived.Test.YtfgpmbahekcoeaaRefC
namespace Go.Proofs.Ytfgpmbahekcoeaa
open Go.RowKit
theorem addr_add (g o j : Nat) : (⟨g, o, none⟩ : Addr).add j = ⟨g, o + j, none⟩ := by
  by_cases h0 : j = 0
  · subst h0; simp [Addr.add]
  · simp [Addr.add, h0]
theorem flat_take (R : List It) (k : Nat) : flat (R.take k) = (flat R).take (k * 2) := by
  induction R generalizing k with
  | nil => simp [flat]
  | cons x R ih =>
    cases k with
    | zero => rfl
    | succ k =>
      have e1 : (k + 1) * 2 = k * 2 + 1 + 1 := by omega
      rw [e1, List.take_succ_cons]
      show .int .i64 x.1 :: .int .i64 x.2 :: flat (R.take k) = _
      rw [ih k]; rfl
theorem flat_drop (R : List It) (k : Nat) : flat (R.drop k) = (flat R).drop (k * 2) := by
  induction R generalizing k with
  | nil => simp [flat]
  | cons x R ih =>
    cases k with
    | zero => rfl
    | succ k =>
      have e1 : (k + 1) * 2 = k * 2 + 1 + 1 := by omega
      rw [e1, List.drop_succ_cons]
      show flat (R.drop k) = _
      rw [ih k]; rfl
section
variable {G : Nat → Prop} {rh : Nat} {kind next : Int} {R : List It} {w : World}
set_option maxRecDepth 100000 in
theorem rdrop_gone (h : RefIs G rh kind R next w) {hd : Int} (hg : ∀ i, i < R.length → (itAt R i).1 ≠ hd) : Calls Try.prog 62 #[.pointer (some ⟨rh, 0, none⟩), .int .i64 hd] w fun e w' => e = .returned (.bool false) ∧ w = w' := by
  have H := Lib.hid h; have Hg := Lib.hid hg
  clear h hg
  go_enter Try.func62, Try.ntmps62
  go_wp2_with fail
  refine (place_ok H.out _).mono ?_
  rintro e w' ⟨a, rfl, ha, rfl⟩
  obtain rfl := ha.gone Hg.out
  clear ha
  go_wp2_with fail
  go_ret
  exact ⟨rfl, rfl⟩
set_option maxRecDepth 100000 in
set_option maxHeartbeats 1000000 in
theorem rdrop_there (h : RefIs G rh kind R next w) (hl : Lone R) {k : Nat} (hk : k < R.length) : Calls Try.prog 62 #[.pointer (some ⟨rh, 0, none⟩), .int .i64 (itAt R k).1] w fun e w' => e = .returned (.bool true) ∧
      ∃ G', RefIs G' rh kind (R.take k ++ R.drop (k + 1)) next w' ∧ Fr (fun b => b = rh) w w' ∧ Grew w G G' := by
  obtain ⟨sv, h1, h2, h3⟩ := h.ex
  rcases h2.2 with ⟨rfl, h0⟩ | ⟨g, cap, cur, rfl, _, k1, k2, k3, k4, k5⟩
  · omega
  obtain ⟨i0, hi, hz0, hz1, hz2⟩ := info_parts Try.infoRef
  have hlen := h.len
  have c1 := cell_of h1 1
  simp at c1
  have hcell : ∀ j u, (flat R)[j]? = some u → w.cell? ⟨g, j, none⟩ = some u := by
    intro j u hu
    have hj : j < (flat R).length := (List.getElem?_eq_some_iff.1 hu).1
    rw [flat_length] at hj
    rw [← k5, List.getElem?_take, if_pos hj] at hu
    rw [cell_of k1 j]; simpa using hu
  have hone : ∀ S : List It, ∀ u ∈ flat S, u.oneCell' = true := by
    intro S u hu
    simp only [flat, List.mem_flatMap] at hu
    obtain ⟨x, _, hx⟩ := hu
    simp at hx; rcases hx with rfl | rfl <;> rfl
  obtain ⟨v1, w1, hrun1, hR1, hf1, ho1⟩ := run_append_fr (P := Try.prog) w 54 54 65 i0 _ 2 16 Try.underlying54 hi hz0 hz1 hz2 rfl (by decide) (.slice none 0 0) 0 [] (World.ownsRow_nil _ _ _ _) ⟨g, 0, none⟩ k cap (flat (R.take k)) (by rw [flat_length, List.length_take]; congr 1; omega)
    (by
      intro j u hu
      rw [addr_add, Nat.zero_add]
      have hj : j < (flat (R.take k)).length := (List.getElem?_eq_some_iff.1 hu).1
      rw [flat_length, List.length_take] at hj
      rw [flat_take, List.getElem?_take, if_pos (by omega)] at hu
      exact hcell j u hu)
    (hone _) (by unfold maxLen; omega) (by omega)
  simp only [Nat.zero_add, List.nil_append] at hR1 
  have hf1' : Fr (fun _ => False) w w1 := hf1.mono (fun b _ e => by simp [Value.ownBlock] at e)
  have hn1 : ∀ b, v1.ownBlock = some b → w.heap.size = b := by
    intro b hb
    rcases ho1 with h | h
    · rw [h] at hb; simp [Value.ownBlock] at hb
    · rw [h] at hb; simpa using hb
  obtain ⟨off, hif, hoff⟩ : ∃ off, (if cap = k + 1 then (some ⟨g, 0, none⟩ : Option Addr) else some ⟨g, (k + 1) * 2, none⟩) = some ⟨g, off, none⟩ ∧ (off = (k + 1) * 2 ∨ R.length ≤ k + 1) := by
    by_cases hc : cap = k + 1
    · exact ⟨0, by rw [if_pos hc], .inr (by omega)⟩
    · exact ⟨_, by rw [if_neg hc], .inl rfl⟩
  obtain ⟨v2, w2, hrun2, hR2, hf2, ho2⟩ := run_append_fr (P := Try.prog) w1 54 54 65 i0 _ 2 16 Try.underlying54 hi hz0 hz1 hz2 rfl (by decide) _ _ _ hR1 ⟨g, off, none⟩ (R.length - (k + 1)) (cap - (k + 1)) (flat (R.drop (k + 1))) (by rw [flat_length, List.length_drop])
    (by
      intro j u hu
      rw [addr_add]
      rw [flat_drop, List.getElem?_drop] at hu
      have hj : (k + 1) * 2 + j < (flat R).length := (List.getElem?_eq_some_iff.1 hu).1
      rw [flat_length] at hj
      rw [hoff.resolve_right (by omega)]
      rw [hf1'.cell (lt_of_block k1) (fun h => h)]
      exact hcell _ u hu)
    (hone _) (by unfold maxLen; omega) (by omega)
  obtain ⟨a1, c1', hv1⟩ : ∃ a' c', v1 = .slice a' k c' := by
    rcases hR1.2 with ⟨rfl, h0⟩ | ⟨g, cap, cur, rfl, _⟩
    · exact ⟨none, 0, by rw [h0]⟩
    · exact ⟨_, _, rfl⟩
  subst hv1
  obtain ⟨a2, c2', hv2⟩ : ∃ a' c', v2 = .slice a' (k + (R.length - (k + 1))) c' := by
    rcases hR2.2 with ⟨rfl, h0⟩ | ⟨g, cap, cur, rfl, _⟩
    · exact ⟨none, 0, by rw [h0]⟩
    · exact ⟨_, _, rfl⟩
  subst hv2
  have hw1 := hf1'.get h1 (fun h => h)
  have hrl := lt_of_block h1
  have hw2 := hf2.get hw1 (fun e => by have := hn1 _ e; omega)
  have x0 := cell_of hw1 1
  have x1 := cell_of hw2 1
  have y1 := free_of hw2 1
  simp at x0 x1
  have hk1 : (k : Int) < (R.length : Int) := by omega
  have hk0 : ((k : Int) < 0) = False := by simp
  have hk2 : (k : Int) ≤ 70000 := by omega
  have hkk : k ≤ R.length := by omega
  have hk3 : k + 1 ≤ R.length := by omega
  have hk4 : k ≤ cap := by omega
  have hk5 : R.length ≤ cap := by omega
  have H := Lib.hid h; have Hl := Lib.hid hl; have Hk := Lib.hid hk; have Hlen := Lib.hid hlen
  have Hrun1 := Lib.hid hrun1; have Hrun2 := Lib.hid hrun2; have HR2 := Lib.hid hR2; have Hf1 := Lib.hid hf1'; have Hf2 := Lib.hid hf2; have Ho2 := Lib.hid ho2; have Hn1 := Lib.hid hn1; have Hw2 := Lib.hid hw2; have Hrl := Lib.hid hrl
  clear h hl hk hlen hrun1 hrun2 hR2 hf1' hf2 ho2 hn1 hw2 hrl hi hz0 hz1 hz2 h1 h2 h3 k1 k2 k3 k4 k5 hcell hone hR1 ho1 hf1 hw1 hoff
  go_enter Try.func62, Try.ntmps62
  go_wp2_with fail
  refine (place_ok H.out _).mono ?_
  rintro e w' ⟨a, rfl, ha, rfl⟩
  obtain rfl := ha.there Hl.out Hk.out rfl
  clear ha
  go_upto_region 5 with fail
  go_cut [6] (fun s6 wx => s6 = .slice a1 k c1' ∧ wx = w1)
  case first =>
    go_wp2_with (at_builtin; refine wpList_append_run rfl _ _ _ rfl rfl rfl Hrun1.out ?_)
    go_meet
    exact ⟨rfl, rfl⟩
  case rest =>
    obtain ⟨rfl, rfl⟩ := hcut
    go_upto_region 6 with fail
    go_wp2_with (at_builtin; refine wpList_append_run rfl _ _ _ rfl rfl rfl Hrun2.out ?_)
    go_ret
    have hw2 := Hw2.out
    have hfin := setCell_blk (o := 1) Hw2.out (.slice a2 (k + (R.length - (k + 1))) c2')
    have hob : ∀ b, (Value.slice a2 (k + (R.length - (k + 1))) c2').ownBlock = some b → w.heap.size ≤ b ∧ b < w2.heap.size := by
      intro b hb
      have hlt : b < w2.heap.size := Row.lt HR2.out hb
      rcases Ho2.out with h | h
      · rw [h] at hb; have := Hn1.out b hb; exact ⟨by omega, hlt⟩
      · rw [h] at hb; simp at hb; have := Hf1.out.size; exact ⟨by omega, hlt⟩
    have hk := Hk.out
    have hrl := Hrl.out
    refine ⟨rfl, fun b => b = rh ∨ (Value.slice a2 (k + (R.length - (k + 1))) c2').ownBlock = some b, ⟨⟨_, hfin, ?_, ?_⟩, .inl rfl, ?_, ?_⟩, ?_, ?_⟩
    · rw [flat_append, List.length_append, List.length_take, List.length_drop, Nat.min_eq_left (by omega)]
      exact Row.fr (F := fun b => b = rh) HR2.out (Fr.setCell (F := fun b => b = rh) (p := ⟨rh, 1, none⟩) (Fr.refl _ _) (fun _ => rfl) _) (fun b hb => by have := (hob b hb).1; omega)
    · intro b hb
      exact ⟨.inr hb, by have := (hob b hb).1; omega⟩
    · intro b hb
      have s1 := Hf1.out.size
      have s2 := Hf2.out.size
      rcases hb with rfl | hb
      · simp; omega
      · simpa using (hob b hb).2
    · rw [List.length_append, List.length_take, List.length_drop]; have := Hlen.out; omega
    · refine Fr.setCell (F := fun b => b = rh) (p := ⟨rh, 1, none⟩) (Fr.trans (Hf1.out.mono (fun _ _ h => h.elim)) Hf2.out ?_) (fun _ => rfl) _
      intro b hb e
      have := Hn1.out b e; omega
    · intro b hb
      rcases hb with rfl | hb
      · exact .inl H.out.gh
      · exact .inr (hob b hb).1
end
end Go.Proofs.Ytfgpmbahekcoeaa
