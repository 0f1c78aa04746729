/- The document's heap: Get, Set, Push. No condition. -/
import Derived.Test.YtfgpmbahekcoeaaRefA
namespace Go.Proofs.Ytfgpmbahekcoeaa
open Go.RowKit
/-- No two items bear one handle. -/
def Lone (R : List It) : Prop := ∀ i j, i < R.length → j < R.length → (itAt R i).1 = (itAt R j).1 → i = j
theorem RefAt.there {R : List It} {hd a : Int} (h : RefAt R hd a) (hl : Lone R) {k : Nat} (hk : k < R.length) (e : (itAt R k).1 = hd) : a = k := by
  rcases h with ⟨_, h⟩ | ⟨j, rfl, hj, e2, _⟩
  · exact absurd e (h k hk)
  · rw [hl j k hj hk (by rw [e2, e])]
theorem RefAt.gone {R : List It} {hd a : Int} (h : RefAt R hd a) (e : ∀ i, i < R.length → (itAt R i).1 ≠ hd) : a = -1 := by
  rcases h with ⟨rfl, _⟩ | ⟨j, _, hj, e2, _⟩
  · rfl
  · exact absurd e2 (e j hj)
section
variable {G : Nat → Prop} {rh : Nat} {kind next : Int} {R : List It} {w : World}
set_option maxRecDepth 100000 in
theorem rget_there (h : RefIs G rh kind R next w) (hl : Lone R) {k : Nat} (hk : k < R.length) : Calls Try.prog 71 #[.pointer (some ⟨rh, 0, none⟩), .int .i64 (itAt R k).1] w fun e w' => e = .returned (.tuple #[.int .i64 (itAt R k).2, .bool true]) ∧ w = w' := by
  obtain ⟨sv, h1, h2, h3⟩ := h.ex
  obtain ⟨a, c, rfl, hc⟩ := row_cells h2
  obtain ⟨g, rfl, d0, d1⟩ := hc k hk
  have c1 := cell_of h1 1
  simp at c1
  have hlen := h.len
  have hk1 : (k : Int) < (R.length : Int) := by omega
  have hk0 : ((k : Int) < 0) = False := by simp
  have H := Lib.hid h; have Hl := Lib.hid hl; have Hk := Lib.hid hk; have Hlen := Lib.hid hlen
  clear h h1 h2 h3 hc hlen hl hk d0
  go_enter Try.func71, Try.ntmps71
  go_wp2_with fail
  refine (place_ok H.out _).mono ?_
  rintro e w' ⟨a, rfl, ha, rfl⟩
  obtain rfl := ha.there Hl.out Hk.out rfl
  clear ha
  go_wp2_with fail
  go_ret2
  exact ⟨rfl, rfl⟩
set_option maxRecDepth 100000 in
theorem rget_gone (h : RefIs G rh kind R next w) {hd : Int} (hg : ∀ i, i < R.length → (itAt R i).1 ≠ hd) : Calls Try.prog 71 #[.pointer (some ⟨rh, 0, none⟩), .int .i64 hd] w fun e w' => e = .returned (.tuple #[.int .i64 0, .bool false]) ∧ w = w' := by
  have H := Lib.hid h; have Hg := Lib.hid hg
  clear h hg
  go_enter Try.func71, Try.ntmps71
  go_wp2_with fail
  refine (place_ok H.out _).mono ?_
  rintro e w' ⟨a, rfl, ha, rfl⟩
  obtain rfl := ha.gone Hg.out
  clear ha
  go_wp2_with fail
  go_ret2
  exact ⟨rfl, rfl⟩
set_option maxRecDepth 100000 in
theorem rset_gone (h : RefIs G rh kind R next w) {hd v : Int} (hg : ∀ i, i < R.length → (itAt R i).1 ≠ hd) : Calls Try.prog 61 #[.pointer (some ⟨rh, 0, none⟩), .int .i64 hd, .int .i64 v] w fun e w' => e = .returned (.bool false) ∧ w = w' := by
  have H := Lib.hid h; have Hg := Lib.hid hg
  clear h hg
  go_enter Try.func61, Try.ntmps61
  go_wp2_with fail
  refine (place_ok H.out _).mono ?_
  rintro e w' ⟨a, rfl, ha, rfl⟩
  obtain rfl := ha.gone Hg.out
  clear ha
  go_wp2_with fail
  go_ret
  exact ⟨rfl, rfl⟩
set_option maxRecDepth 100000 in
theorem rset_there (h : RefIs G rh kind R next w) (hl : Lone R) {k : Nat} (hk : k < R.length) (v : Int) : Calls Try.prog 61 #[.pointer (some ⟨rh, 0, none⟩), .int .i64 (itAt R k).1, .int .i64 v] w fun e w' => e = .returned (.bool true) ∧ RefIs G rh kind (R.set k ((itAt R k).1, v)) next w' ∧ Fr G w w' := by
  obtain ⟨sv, h1, h2, h3⟩ := h.ex
  rcases h2.2 with ⟨rfl, h0⟩ | ⟨g, cap, cur, rfl, _, k1, k2, k3, k4, k5⟩
  · omega
  have hc2 := cells2_of_take k5
  have d1 := (cell_of k1 (k * 2 + 1)).trans (hc2 k hk).2
  have y1 := free_of k1 (k * 2 + 1)
  have c1 := cell_of h1 1
  simp at c1
  have hlen := h.len
  have hk1 : (k : Int) < (R.length : Int) := by omega
  have hk0 : ((k : Int) < 0) = False := by simp
  have hgr := (h3 g rfl).2
  have hgG := (h3 g rfl).1
  have H := Lib.hid h; have Hl := Lib.hid hl; have Hk := Lib.hid hk; have Hlen := Lib.hid hlen
  have K1 := Lib.hid k1; have K2 := Lib.hid k2; have K3 := Lib.hid k3; have K4 := Lib.hid k4; have HC2 := Lib.hid hc2; have H1 := Lib.hid h1; have H3 := Lib.hid h3; have Hgr := Lib.hid hgr; have HgG := Lib.hid hgG
  clear h h1 h2 h3 hlen hl hk k1 k2 k3 k4 k5 hc2 hgr hgG
  go_enter Try.func61, Try.ntmps61
  go_wp2_with fail
  refine (place_ok H.out _).mono ?_
  rintro e w' ⟨a, rfl, ha, rfl⟩
  obtain rfl := ha.there Hl.out Hk.out rfl
  clear ha
  go_wp2_with fail
  go_ret
  have hf : Fr G w (w.setCell ⟨g, k * 2 + 1, none⟩ (.int .i64 v)) := Fr.setCell (p := ⟨g, k * 2 + 1, none⟩) (Fr.refl _ _) (fun _ => HgG.out) _
  have hk := Hk.out
  refine ⟨rfl, ⟨⟨_, ?_, ⟨by rw [flat_length], .inr ⟨g, cap, cur.setIfInBounds (k * 2 + 1) (.int .i64 v), by rw [List.length_set], Nat.zero_le _, setCell_blk K1.out _, by rw [List.length_set]; exact K2.out, K3.out, by simpa using K4.out, ?_⟩⟩, fun b hb => H3.out b hb⟩, H.out.gh, fun b hb => by have := H.out.bd b hb; simpa using this, by rw [List.length_set]; exact Hlen.out⟩, hf⟩
  · have hff : Fr (fun b => b = g) w (w.setCell ⟨g, k * 2 + 1, none⟩ (.int .i64 v)) := Fr.setCell (F := fun b => b = g) (p := ⟨g, k * 2 + 1, none⟩) (Fr.refl _ _) (fun _ => rfl) _
    exact hff.get H1.out (fun e => Hgr.out e.symm)
  · have hsz := K4.out
    have hcl := K2.out
    refine take_of_cells2 ?_ (by rw [List.length_set]; simp; omega)
    intro i hi
    rw [List.length_set] at hi
    rw [itAt_set _ _ _ _ hk]
    have := HC2.out i hi
    simp only [Array.getElem?_setIfInBounds]
    by_cases hik : i = k
    · subst hik
      simp only [if_true]
      refine ⟨?_, ?_⟩
      · rw [if_neg (by omega)]; exact this.1
      · rw [if_pos (by omega)]
    · rw [if_neg hik, if_neg (by omega), if_neg (by omega)]
      exact this
end
end Go.Proofs.Ytfgpmbahekcoeaa
