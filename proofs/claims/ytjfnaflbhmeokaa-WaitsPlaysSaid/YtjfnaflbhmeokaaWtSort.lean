/- slices.SortFunc of a slice of items by their handles. No condition. -/
import Derived.Test.YtjfnaflbhmeokaaWtClone
import Derived.Test.YtjfnaflbhmeokaaElsS
import Derived.Test.YtjfnaflbhmeokaaWtLay
namespace Go.Proofs.Ytjfnaflbhmeokaa.Wt
open Go.Shelf Go.RowKit Go.Lib Go.Sort
noncomputable def encIt (x : It) : List Value := [.int .u32 (wW x.1), .int .i64 (wS x.1), .int .i64 (wT x.1), .int .i64 (wC x.1), .int .i64 x.2]
theorem encIt_len (x : It) : (encIt x).length = 5 := rfl
theorem encIt_one (x : It) : ∀ v ∈ encIt x, v.oneCell' = true := by
  intro v hv; simp [encIt] at hv; rcases hv with rfl | rfl | rfl | rfl | rfl <;> rfl
theorem flat_eq (L : List It) : flat L = L.flatMap encIt := rfl
def okH (x : It) : Prop := 0 ≤ x.2 ∧ x.2 < 4611686018427387904
def cmpH (x y : It) : Int := x.2 - y.2
theorem cmpH_swo : SWO (ltOf fun x y : { x : It // okH x } => cmpH x.1 y.1) where
  irrefl x := by simp [ltOf, cmpH]
  trans x y z h1 h2 := decide_eq_true (by have a1 := of_decide_eq_true h1; have a2 := of_decide_eq_true h2; simp only [cmpH] at a1 a2 ⊢; omega)
  ntrans x y z h1 h2 := decide_eq_false (by have a1 := of_decide_eq_false h1; have a2 := of_decide_eq_false h2; simp only [cmpH] at a1 a2 ⊢; omega)
set_option maxRecDepth 100000 in
theorem cmpH_ok (x y : It) (hx : okH x) (hy : okH y) (W : World) : Calls Try.prog 111 #[.agg (encIt x).toArray, .agg (encIt y).toArray] W fun e w' => e = .returned (.int .i64 (cmpH x y)) ∧ ∃ q os', w' = grow (W.drewN q) os' := by
  obtain ⟨xv, xh⟩ := x
  obtain ⟨yv, yh⟩ := y
  obtain ⟨hx0, hx1⟩ := hx
  obtain ⟨hy0, hy1⟩ := hy
  simp only [cmpH, encIt] at *
  have hw : wrap64 (xh - yh) = xh - yh := by unfold wrap64; omega
  have hw2 : IntKind.i64.wrap (xh - yh) = xh - yh := by rw [IntKind.wrap_i64]; omega
  clear hx0 hx1 hy0 hy1
  go_enter Try.func111, Try.ntmps111
  go_wp2_with fail
  go_ret
  exact ⟨rfl, 0, _, by rw [alloc_eq_grow, alloc_eq_grow, grow_grow]; rfl⟩
theorem enters_cmpH : ∀ args w, (callFunc 111 args).run Try.prog w = .ok (.enter 111 args) w := enters_of Try.func111 (by kernel_rfl) rfl
/-- The items in the order of their handles, and how they lie behind the sort. -/
def ByHandle (L S : List It) : Prop := S.Perm L ∧ S.Pairwise fun x y => x.2 ≤ y.2
theorem sort_ok {w : World} {b cap n : Nat} {L : List It} (hn : L.length = n) (h : Row w 179 5 (.slice (some ⟨b, 0, none⟩) n cap) L.length (flat L)) (hs : ∀ x ∈ L, okH x) (hl : n ≤ 70000) :
    Calls Try.prog 110 #[.slice (some ⟨b, 0, none⟩) n cap, .func (.func 111) #[] #[]] w fun e w' => e = .returned (.tuple #[]) ∧
      ∃ S, ByHandle L S ∧ Fr (fun k => k = b) w w' ∧ Row w' 179 5 (.slice (some ⟨b, 0, none⟩) n cap) S.length (flat S) := by
  have hq := els_sort encIt_len Try.sortItem Try.isAgg179 Try.sizeOf179 encIt_one (by decide) okH (0, 0) (by unfold okH; decide) cmpH cmpH_swo 111 #[] hn enters_cmpH (fun x y hx hy W _ => cmpH_ok x y hx hy W) h hs (by omega)
  refine Calls.mono hq ?_
  rintro e w' ⟨rfl, S, hp, hs, hf, hr⟩
  refine ⟨rfl, S, ⟨hp, hs.imp ?_⟩, hf, hr⟩
  intro x y h
  simp only [cmpH] at h
  omega
end Go.Proofs.Ytjfnaflbhmeokaa.Wt
