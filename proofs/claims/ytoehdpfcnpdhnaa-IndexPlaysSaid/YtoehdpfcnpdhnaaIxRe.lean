/- The document's index: Drop. No condition. -/
import Derived.Test.YtoehdpfcnpdhnaaIxRd
namespace Go.Proofs.Ytoehdpfcnpdhnaa.Ix
open Go.RowKit
section
variable {w : World} {rh : Nat} {sv : Value} {L : List (Nat × Int)} {most : Nat}
set_option maxRecDepth 100000 in
set_option maxHeartbeats 2000000 in
theorem rdrop_ok (h : RefAt w rh sv L most) (hu : L.Pairwise fun a b => a.1 < b.1) (id : Nat) :
    Calls Try.prog 55 #[.pointer (some ⟨rh, 0, none⟩), .int .u32 (id : Int)] w fun e w' => e = .returned (.bool (look L id).isSome) ∧ ∃ sv', RefAt w' rh sv' (del L id) most ∧ (∀ b, sv'.ownBlock = some b → sv.ownBlock = some b ∨ w.heap.size ≤ b) ∧ Fr (fun b => refP rh sv b) w w' := by
  have HA := Lib.hid (at_ok h hu id)
  have H := Lib.hid h; have HU := Lib.hid hu
  clear h hu
  go_enter Try.func55, Try.ntmps55
  go_wp2_with fail
  refine HA.out.mono ?_
  rintro e w1 ⟨k, rfl, hC, f1⟩
  have h1 := H.out.fr f1 (fun _ _ h => h)
  have ht := hC.there HU.out
  obtain ⟨bq, hbq⟩ : ∃ bq, bq = (look L id).isSome := ⟨_, rfl⟩
  rw [← hbq] at ht ⊢
  have HBq := Lib.hid hbq
  cases bq with
  | false =>
    have e : del L id = L := del_none (by cases hl : look L id with
      | none => rfl
      | some x => rw [hl] at hbq; simp at hbq)
    have HR := Lib.hid h1; have HF := Lib.hid f1; have HE := Lib.hid e
    clear h1 hC ht hbq e f1 H HA
    go_wp2_with fail
    go_ret
    exact ⟨by rw [← HBq.out]; rfl, sv, by rw [HE.out]; exact HR.out, fun b hb => .inl hb, HF.out.mono (fun _ _ h => h.elim)⟩
  | true =>
    have ht2 : k < L.length ∧ (liAt L k).1 = id := by
      have := ht.symm
      rw [Bool.and_eq_true, decide_eq_true_eq, beq_iff_eq] at this; exact this
    obtain ⟨hk, he⟩ := ht2
    have hdel := CutK.del HU.out hk he
    rcases h1.row.2 with ⟨-, h0⟩ | ⟨g, cap, cur, rfl, _, k1, k2, k3, k4, k5⟩
    · omega
    obtain ⟨i0, hi, hz0, hz1, hz2⟩ := info_parts Try.infoItem13
    have hlen := h1.few
    have c1 := h1.c1
    have hcell : ∀ j u, (flat2 L)[j]? = some u → w1.cell? ⟨g, j, none⟩ = some u := by
      intro j u hu
      have hj : j < (flat2 L).length := (List.getElem?_eq_some_iff.1 hu).1
      rw [flat2_length] at hj
      rw [← k5, List.getElem?_take, if_pos hj] at hu
      rw [cell_of k1 j]; simpa using hu
    obtain ⟨v2, w2, hrun2, hR2, hf2, ho2⟩ := run_append_fr (P := Try.prog) w1 63 63 106 i0 _ 2 16 Try.underlying63 hi hz0 hz1 hz2 rfl (by decide) (.slice none 0 0) 0 [] (World.ownsRow_nil _ _ _ _) ⟨g, 0, none⟩ k cap (flat2 (L.take k)) (by rw [flat2_length, List.length_take, Nat.min_eq_left (by omega)])
      (by
        intro j u hu
        rw [addr_add, Nat.zero_add]
        have hj : j < (flat2 (L.take k)).length := (List.getElem?_eq_some_iff.1 hu).1
        rw [flat2_length, List.length_take] at hj
        rw [flat2_take, List.getElem?_take, if_pos (by omega)] at hu
        exact hcell j u hu)
      flat2_one (by unfold maxLen; omega) (by omega)
    simp only [Nat.zero_add, List.nil_append] at hR2
    have hf2' : Fr (fun _ => False) w1 w2 := hf2.mono (fun b _ e => by simp [Value.ownBlock] at e)
    have hn2 : ∀ b, v2.ownBlock = some b → w1.heap.size = b := by
      intro b hb
      rcases ho2 with h | h
      · rw [h] at hb; simp [Value.ownBlock] at hb
      · rw [h] at hb; simpa using hb
    obtain ⟨off, hif, hoff⟩ : ∃ off, (if cap = k + 1 then (some ⟨g, 0, none⟩ : Option Addr) else some ⟨g, (k + 1) * 2, none⟩) = some ⟨g, off, none⟩ ∧ (off = (k + 1) * 2 ∨ L.length ≤ k + 1) := by
      by_cases hc : cap = k + 1
      · exact ⟨0, by rw [if_pos hc], .inr (by omega)⟩
      · exact ⟨_, by rw [if_neg hc], .inl rfl⟩
    obtain ⟨v3, w3, hrun3, hR3, hf3, ho3⟩ := run_append_fr (P := Try.prog) w2 63 63 106 i0 _ 2 16 Try.underlying63 hi hz0 hz1 hz2 rfl (by decide) _ _ _ hR2 ⟨g, off, none⟩ (L.length - (k + 1)) (cap - (k + 1)) (flat2 (L.drop (k + 1))) (by rw [flat2_length, List.length_drop])
      (by
        intro j u hu
        rw [addr_add]
        rw [flat2_drop, List.getElem?_drop] at hu
        have hj : (k + 1) * 2 + j < (flat2 L).length := (List.getElem?_eq_some_iff.1 hu).1
        rw [flat2_length] at hj
        rw [hoff.resolve_right (by omega)]
        rw [hf2'.cell (lt_of_block k1) (fun h => h)]
        exact hcell _ u hu)
      flat2_one (by unfold maxLen; omega) (by omega)
    obtain ⟨a2, c2', hv2⟩ : ∃ a' c', v2 = .slice a' k c' := by
      rcases hR2.2 with ⟨rfl, h0⟩ | ⟨g, cap, cur, rfl, _⟩
      · exact ⟨none, 0, by rw [h0]⟩
      · exact ⟨_, _, rfl⟩
    subst hv2
    obtain ⟨a3, c3', hv3⟩ : ∃ a' c', v3 = .slice a' (k + (L.length - (k + 1))) c' := by
      rcases hR3.2 with ⟨rfl, h0⟩ | ⟨g, cap, cur, rfl, _⟩
      · exact ⟨none, 0, by rw [h0]⟩
      · exact ⟨_, _, rfl⟩
    subst hv3
    have hw2 := hf2'.get h1.head (fun h => h)
    have hrl := lt_of_block h1.head
    have hw3 := hf3.get hw2 (fun e => by have := hn2 _ e; omega)
    have x0 := (cell_of hw2 1).trans (show _ = some (Value.slice (some ⟨g, 0, none⟩) L.length cap) from rfl)
    have x1 := (cell_of hw3 1).trans (show _ = some (Value.slice (some ⟨g, 0, none⟩) L.length cap) from rfl)
    have y1 := free_of hw3 1
    have hk1 : (k : Int) < (L.length : Int) := by omega
    have hk0 : ((k : Int) < 0) = False := by simp
    have hk2 : (k : Int) ≤ 70000 := by omega
    have hkk : k ≤ L.length := by omega
    have hk3 : k + 1 ≤ L.length := by omega
    have hk4 : k ≤ cap := by omega
    have hk5 : L.length ≤ cap := by omega
    have hob : ∀ b, (Value.slice a3 (k + (L.length - (k + 1))) c3').ownBlock = some b → w1.heap.size ≤ b := by
      intro b hb
      rcases ho3 with h | h
      · rw [h] at hb; have := hn2 b hb; omega
      · rw [h] at hb; simp at hb; have := hf2'.size; omega
    have fs : Fr (fun b => b = rh) w3 (w3.setCell ⟨rh, 1, none⟩ (.slice a3 (k + (L.length - (k + 1))) c3')) := Fr.setCell (F := fun b => b = rh) (p := ⟨rh, 1, none⟩) (Fr.refl _ _) (fun _ => rfl) _
    have hdl : (del L id).length = k + (L.length - (k + 1)) := by rw [hdel, List.length_append, List.length_take, List.length_drop, Nat.min_eq_left hkk]
    have HNw := Lib.hid (show RefAt (w3.setCell ⟨rh, 1, none⟩ (.slice a3 (k + (L.length - (k + 1))) c3')) rh (.slice a3 (k + (L.length - (k + 1))) c3') (del L id) most from ⟨setCell_blk (o := 1) hw3 _, by
      have : Row w3 106 2 (.slice a3 (k + (L.length - (k + 1))) c3') (del L id).length (flat2 (del L id)) := by rw [hdl, hdel, flat2_append]; exact hR3
      exact Row.fr this fs (fun b hb e => by have := hob b hb; omega), fun b hb => by have := hob b hb; omega, by rw [hdl]; omega⟩)
    have HFW := Lib.hid (show Fr (fun b => refP rh (.slice (some ⟨g, 0, none⟩) L.length cap) b) w (w3.setCell ⟨rh, 1, none⟩ (.slice a3 (k + (L.length - (k + 1))) c3')) from by
      refine (((f1.trans hf2' (fun _ _ h => h)).mono (fun _ _ h => h.elim)).trans hf3 ?_).trans fs (fun b _ e => .inl e)
      intro b hb e
      have := hn2 b e; have := f1.size; omega)
    have Hob := Lib.hid (show ∀ b, (Value.slice a3 (k + (L.length - (k + 1))) c3').ownBlock = some b → w.heap.size ≤ b from fun b hb => by have := hob b hb; have := f1.size; omega)
    have Hrun2 := Lib.hid hrun2; have Hrun3 := Lib.hid hrun3
    clear h1 hC ht hbq hdel he hk hlen hrun2 hrun3 hR2 hf2 hf2' ho2 hn2 hR3 hf3 ho3 hw2 hrl hw3 hob fs hdl hi hz0 hz1 hz2 k1 k2 k3 k4 k5 hcell hoff H f1 HA
    go_upto_region 4 with fail
    go_cut [7] (fun s7 wx => s7 = .slice a2 k c2' ∧ wx = w2)
    case first =>
      go_wp2_with (at_builtin; refine wpList_append_run rfl _ _ _ rfl rfl rfl Hrun2.out ?_)
      go_meet
      exact ⟨rfl, rfl⟩
    case rest =>
    obtain ⟨rfl, rfl⟩ := hcut
    go_upto_region 5 with fail
    go_wp2_with (at_builtin; refine wpList_append_run rfl _ _ _ rfl rfl rfl Hrun3.out ?_)
    go_ret
    exact ⟨by rw [← HBq.out]; rfl, _, HNw.out, fun b hb => .inr (Hob.out b hb), HFW.out⟩
end
end Go.Proofs.Ytoehdpfcnpdhnaa.Ix
