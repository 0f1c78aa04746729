/- A heap's All: the items by their handles, as they were. No condition. -/
import Derived.Test.YtjfnaflbhmeokaaWtIter
namespace Go.Proofs.Ytjfnaflbhmeokaa.Wt
open Go.RowKit Go.Shelf
theorem ByHandle.nil {S : List It} (h : ByHandle [] S) : S = [] := List.perm_nil.1 h.1
abbrev allV (cb : Nat) : Value := .func (.func 112) #[] #[.pointer (some ⟨cb, 0, none⟩)]
/-- What All hands back. -/
def AllOf (w : World) (L : List It) (e : Ending) (w' : World) : Prop := ∃ cb sv S, e = .returned (allV cb) ∧ ByHandle L S ∧ Seq w' cb sv S ∧ (∀ b, seqP cb sv b → w.heap.size ≤ b) ∧ Fr (fun _ => False) w w'
section
variable {J : World → Prop} {FJ : Nat → Prop} {A : Int → Prop} {fv : Value} {G : Nat → Prop} {bh : Nat} {L : List It} {next : Int} {w : World}
variable {lt : Int → Int → Bool} {fl : Nat} {caps : Array Value} (hL : LessOk Try.prog fv lt J FJ A fl caps)
include hL
set_option maxRecDepth 100000 in
theorem all_ok (h : HeapIs J FJ A fv G bh L next w) (hx : next ≤ 1000000000) : Calls Try.prog 78 #[.pointer (some ⟨bh, 0, none⟩)] w (AllOf w L) := by
  have f1 : Fr (fun _ => False) w (w.alloc (.cells #[.slice none 0 0] 116)) := Fr.alloc (Fr.refl _ _) _
  have h1 := h.keepFr hL f1
  obtain ⟨sv, bm, hH, hR, _⟩ := h1.ex
  have c1 := cell_of hH 1
  simp at c1
  have hlen := h.len
  have hhs := h.hs
  have bx : (w.alloc (.cells #[.slice none 0 0] 116)).heap[w.heap.size]? = some (.cells #[.slice none 0 0] 116 (0, 0)) := heap_alloc_at _ _
  have HL := Lib.hid hL; have H1 := Lib.hid h1; have HR := Lib.hid hR; have Hlen := Lib.hid hlen; have Hhs := Lib.hid hhs; have Bx := Lib.hid bx; have Hx := Lib.hid hx
  clear hL h h1 hR hlen hhs bx hH f1 hx
  go_enter Try.func78, Try.ntmps78
  go_wp2_with fail
  refine (none_ok HL.out H1.out).mono ?_
  rintro e w1 ⟨rfl, rfl⟩
  go_wp2_with fail
  refine (clone_ok HR.out (by have := Hlen.out; omega)).mono ?_
  rintro e w2 ⟨sv2, rfl, hR2, f2, hn2⟩
  have d0 := (f2.get Bx.out (fun h => h))
  have hB2 : (w2.setCell ⟨w.heap.size, 0, none⟩ sv2).heap[w.heap.size]? = some (.cells #[sv2] 116 (0, 0)) := setCell_blk d0 _
  have e0 := cell_of d0 0
  have e1 := free_of d0 0
  simp at e0
  have hf2 : Fr (fun _ => False) w (w2.setCell ⟨w.heap.size, 0, none⟩ sv2) := by
    refine Fr.toNew (Fr.setCell (p := ⟨w.heap.size, 0, none⟩) ((Fr.alloc (Fr.refl _ _) _).trans f2 (fun _ _ h => h.elim)) ?_ _)
    intro _; exact Nat.le_refl _
  have hR2' : Row (w2.setCell ⟨w.heap.size, 0, none⟩ sv2) 179 5 sv2 L.length (flat L) := by
    refine Row.fr (F := fun b => b = w.heap.size) hR2 (Fr.setCell (F := fun b => b = w.heap.size) (p := ⟨w.heap.size, 0, none⟩) (Fr.refl _ _) (fun _ => rfl) _) ?_
    intro b hb e
    have := hn2 b hb
    simp at this; omega
  have HB2 := Lib.hid hB2; have HF2 := Lib.hid hf2; have HR2 := Lib.hid hR2'; have HN2 := Lib.hid hn2
  have hcc : (w2.setCell ⟨w.heap.size, 0, none⟩ sv2).cell? ⟨w.heap.size, 0, none⟩ = some sv2 := (cell_of hB2 0).trans rfl
  clear hB2 hf2 hR2' hn2 hR2 f2 d0
  rcases HR2.out.2 with ⟨rfl, h0⟩ | ⟨g, cap, cur, rfl, _, k1, k2, k3, k4, k5⟩
  · have hL0 : L = [] := List.eq_nil_of_length_eq_zero h0
    subst hL0
    have hs := fun W => AnyF.slices_SortFunc_none Try.sortItem none 0 (.func (.func 111) #[] #[]) W
    change ∀ W, Calls Try.prog 110 _ W _ at hs
    go_wp2_with fail
    refine (hs _).mono ?_
    rintro e w3 ⟨rfl, rfl⟩
    clear hs
    go_wp2_with fail
    go_ret
    exact ⟨_, _, [], rfl, ⟨List.Perm.refl _, List.Pairwise.nil⟩, ⟨HB2.out, World.ownsRow_nil _ _ _ _, Nat.zero_le _⟩, by
      rintro b (rfl | hb)
      · exact Nat.le_refl _
      · simp [Value.ownBlock] at hb, HF2.out⟩
  · have K1 := Lib.hid k1
    clear k1 k2 k3 k4 k5
    have hg : w.heap.size < g := by have := HN2.out g rfl; simp at this; omega
    have Hg := Lib.hid hg; clear hg
    go_wp2_with fail
    refine (sort_ok rfl HR2.out ?_ (by have := Hlen.out; omega)).mono ?_
    · intro x hx
      obtain ⟨i, hi, rfl⟩ := List.getElem_of_mem hx
      have := Hhs.out i hi
      have hxx := Hx.out
      simp only [itAt, List.getD_eq_getElem?_getD, List.getElem?_eq_getElem hi, Option.getD_some] at this
      unfold okH; omega
    rintro e w3 ⟨rfl, S, hS, f3, hc⟩
    have hg := Hg.out
    have hB3 := f3.get HB2.out (by omega)
    have hSl : S.length = L.length := hS.1.length_eq
    have hgl := lt_of_block K1.out
    have HS := Lib.hid hS; have F3 := Lib.hid f3; have HC := Lib.hid hc; have HB3 := Lib.hid hB3; have HSl := Lib.hid hSl; have Hgl := Lib.hid hgl
    clear hS f3 hc hB3 hSl hg hgl
    go_wp2_with fail
    go_ret
    refine ⟨_, _, S, rfl, HS.out, ⟨HB3.out, HC.out, by have := HSl.out; have := Hlen.out; omega⟩, ?_, ?_⟩
    · rintro b (rfl | hb)
      · exact Nat.le_refl _
      · simp only [Value.ownBlock, Option.some.injEq] at hb
        subst hb
        exact Nat.le_of_lt Hg.out
    · refine Fr.toNew ((HF2.out.mono (fun _ _ h => h.elim)).trans F3.out ?_)
      intro i hi e
      have := Hg.out; omega
end
end Go.Proofs.Ytjfnaflbhmeokaa.Wt
