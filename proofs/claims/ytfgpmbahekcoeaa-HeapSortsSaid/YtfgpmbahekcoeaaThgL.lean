/- What things are worth, and the less of HeapSorts. No condition. -/
import Derived.Laws.Cover2
import Derived.Test.YtfgpmbahekcoeaaThgE
import Derived.Test.YtfgpmbahekcoeaaHeapO
namespace Go.Proofs.Ytfgpmbahekcoeaa.Th
open Go.RowKit
attribute [local go_sem] run_store_float
theorem tW_eq (x : Int) : tW x = f64s.getD (x % 20).toNat 0 := by unfold tW; rw [encT_eq]
theorem tS_eq (x : Int) : tS x = ⟨#[UInt8.ofNat (x / 20).toNat, UInt8.ofNat ((x / 20).toNat / 256)]⟩ := by unfold tS; rw [encT_eq]
theorem ord20 : ∀ i j : Fin 20, FloatKind.f64.format.order (f64s.getD i.1 0) (f64s.getD j.1 0) = some (compare i.1 j.1) := by decide +kernel
theorem near20 : ∀ i : Fin 20, FloatKind.f64.nearest (i.1 : Int) = f64s.getD i.1 0 := by decide +kernel
theorem minus1 : ∀ i : Fin 20, FloatKind.f64.format.order (f64s.getD i.1 0) 13830554455654793216 = some .gt := by decide +kernel
def ltT (x y : Int) : Bool := decide (x % 20 < y % 20)
theorem ordT (x y : Int) : FloatKind.f64.format.order (tW x) (tW y) = some (compare (x % 20).toNat (y % 20).toNat) := by
  have h1 := Int.emod_nonneg x (by omega : (20 : Int) ≠ 0)
  have h2 := Int.emod_lt_of_pos x (by omega : (0 : Int) < 20)
  have h3 := Int.emod_nonneg y (by omega : (20 : Int) ≠ 0)
  have h4 := Int.emod_lt_of_pos y (by omega : (0 : Int) < 20)
  rw [tW_eq, tW_eq]
  exact ord20 ⟨(x % 20).toNat, by omega⟩ ⟨(y % 20).toNat, by omega⟩
theorem lssT (x y : Int) : (FloatKind.f64.format.order (tW x) (tW y) == some .lt) = ltT x y := by
  have h1 := Int.emod_nonneg x (by omega : (20 : Int) ≠ 0)
  have h3 := Int.emod_nonneg y (by omega : (20 : Int) ≠ 0)
  rw [ordT]
  unfold ltT
  by_cases h : x % 20 < y % 20
  · rw [decide_eq_true h, Nat.compare_eq_lt.2 (by omega)]; rfl
  · rw [decide_eq_false h]
    rcases Nat.lt_or_ge (y % 20).toNat (x % 20).toNat with h5 | h5
    · rw [Nat.compare_eq_gt.2 h5]; rfl
    · rw [Nat.compare_eq_eq.2 (by omega)]; rfl
theorem eqlT (x y : Int) : (FloatKind.f64.format.order (tW x) (tW y) == some .eq) = decide (x % 20 = y % 20) := by
  have h1 := Int.emod_nonneg x (by omega : (20 : Int) ≠ 0)
  have h3 := Int.emod_nonneg y (by omega : (20 : Int) ≠ 0)
  rw [ordT]
  by_cases h : x % 20 = y % 20
  · rw [decide_eq_true h, Nat.compare_eq_eq.2 (by omega)]; rfl
  · rw [decide_eq_false h]
    rcases Nat.lt_or_ge (y % 20).toNat (x % 20).toNat with h5 | h5
    · rw [Nat.compare_eq_gt.2 h5]; rfl
    · rw [Nat.compare_eq_lt.2 (by omega)]; rfl
theorem nearT (x : Int) (h0 : 0 ≤ x) (h1 : x < 20) (y : Int) (hy : y % 20 = x) : FloatKind.f64.nearest x = tW y := by
  rw [tW_eq, hy]
  have := near20 ⟨x.toNat, by omega⟩
  rw [← this]
  congr 1
  show x = ((x.toNat : Nat) : Int)
  omega
theorem ltT_swo : Swo ltT := by
  refine ⟨?_, ?_⟩
  · intro x y hx
    simp [ltT] at hx ⊢
    omega
  · intro x y z hx
    simp [ltT] at hx ⊢
    omega
/-- The less of HeapSorts. -/
theorem sorts_less : LessOk Try.prog (.func (.func 14) #[] #[]) ltT (fun _ => True) (fun _ => False) (fun _ => True) 14 #[] where
  eq := rfl
  enter := fun args w => Try.call14 args w
  call := fun w x y _ _ _ => by
    have hl := lssT x y
    show Calls Try.prog 14 #[.agg #[.string (tS x), .float .f64 (tW x)], .agg #[.string (tS y), .float .f64 (tW y)]] w _
    go_enter Try.func14, Try.ntmps14
    go_wp2_with fail
    go_ret
    exact ⟨rfl, trivial, Fr.alloc (Fr.alloc (Fr.refl _ _) _) _⟩
  keep := fun _ _ _ _ => trivial
  bound := fun _ _ _ h => h.elim
end Go.Proofs.Ytfgpmbahekcoeaa.Th
