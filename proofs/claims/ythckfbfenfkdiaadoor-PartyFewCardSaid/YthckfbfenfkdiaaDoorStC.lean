/- The stable sort of slices of runs: a row of runs in memory; the contract of swapRange. No condition. -/
import Derived.Test.YthckfbfenfkdiaaDoorStB
import Derived.Test.YthckfbfenfkdiaaDoorEls
import Derived.Test.YthckfbfenfkdiaaDoorProg
import Derived.Shelf.SlSortCmp.KitK
import Derived.Deep.LoopGhost
import Derived.Deep.CutBlock
import Derived.Deep.QuietTactic
import Derived.Deep.RegionHeld3
import Derived.BigQuiet
import Derived.BigRegion
import Derived.Deep.DeepCutAuto
import Derived.Lib.Hide
namespace Go.Proofs.YthckfbfenfkdiaaDoor.St
open Go.RowKit Go.Sort
/-- A run as cells. -/
def enc (x : Sp) : List Value := [.int .i64 x.1, .int .i64 x.2]
/-- The row at block b holds the runs d. -/
structure RA (w : World) (b cap : Nat) (d : Array Sp) : Prop where
  le : d.size ≤ cap
  mx : cap ≤ maxLen
  blk : ∃ cur : Array Value, w.heap[b]? = some (.cells cur 45 (0, 0)) ∧ cur.size = cap * 2 ∧ ∀ i, i < d.size → cur[i * 2]? = some (.int .i64 d[i]!.1) ∧ cur[i * 2 + 1]? = some (.int .i64 d[i]!.2)
section
variable {w w' : World} {b cap : Nat} {d : Array Sp}
theorem RA.lt (h : RA w b cap d) : b < w.heap.size := by
  obtain ⟨cur, h1, _⟩ := h.blk
  exact lt_of_block h1
theorem RA.c0 (h : RA w b cap d) {i : Nat} (hi : i < d.size) : w.cell? ⟨b, i * 2, none⟩ = some (.int .i64 d[i]!.1) := by
  obtain ⟨cur, h1, _, h3⟩ := h.blk
  rw [cell_of h1]; exact (h3 i hi).1
theorem RA.c1 (h : RA w b cap d) {i : Nat} (hi : i < d.size) : w.cell? ⟨b, i * 2 + 1, none⟩ = some (.int .i64 d[i]!.2) := by
  obtain ⟨cur, h1, _, h3⟩ := h.blk
  rw [cell_of h1]; exact (h3 i hi).2
theorem RA.fz (h : RA w b cap d) (o : Nat) : w.frozen? ⟨b, o, none⟩ = false := by
  obtain ⟨cur, h1, _⟩ := h.blk
  exact free_of h1 o
theorem RA.fr (h : RA w b cap d) {F : Nat → Prop} (f : Fr F w w') (hb : ¬ F b) : RA w' b cap d := by
  obtain ⟨h1, h2, cur, h3, h4⟩ := h
  exact ⟨h1, h2, cur, f.get h3 hb, h4⟩
/-- Two runs have changed places. -/
theorem RA.swp (h : RA w b cap d) {i j : Nat} (hi : i < d.size) (hj : j < d.size) (hij : i ≠ j) :
    RA ((((w.setCell ⟨b, i * 2, none⟩ (.int .i64 d[j]!.1)).setCell ⟨b, i * 2 + 1, none⟩ (.int .i64 d[j]!.2)).setCell ⟨b, j * 2, none⟩ (.int .i64 d[i]!.1)).setCell ⟨b, j * 2 + 1, none⟩ (.int .i64 d[i]!.2)) b cap (swp d i j) := by
  obtain ⟨h1, h2, cur, h3, h4, h5⟩ := h
  refine ⟨by rw [size_swp]; exact h1, h2, _, setCell_blk (o := j * 2 + 1) (setCell_blk (o := j * 2) (setCell_blk (o := i * 2 + 1) (setCell_blk (o := i * 2) h3 _) _) _) _, by simpa using h4, fun k hk => ?_⟩
  rw [size_swp] at hk
  rw [swp_get d hi hj]
  obtain ⟨k1, k2⟩ := h5 k hk
  simp only [Array.getElem?_setIfInBounds, Array.size_setIfInBounds]
  have hb : ∀ x, x < d.size → x * 2 + 1 < cur.size := fun x hx => by omega
  by_cases e1 : k = j
  · subst e1
    have := hb k hk
    simp [show k * 2 < cur.size by omega, this]
  · by_cases e2 : k = i
    · subst e2
      have := hb k hk
      simp [show k ≠ j from e1, show j * 2 + 1 ≠ k * 2 by omega, show j * 2 ≠ k * 2 by omega, show j * 2 ≠ k * 2 + 1 by omega, show k * 2 < cur.size by omega, this]
    · simp [e1, e2, show j * 2 + 1 ≠ k * 2 by omega, show j * 2 ≠ k * 2 by omega, show i * 2 + 1 ≠ k * 2 by omega, show i * 2 ≠ k * 2 by omega, show j * 2 ≠ k * 2 + 1 by omega, show i * 2 ≠ k * 2 + 1 by omega, k1, k2]
/-- Four stores into the row. -/
theorem fr_four {F : Nat → Prop} (hF : F b) (o1 o2 o3 o4 : Nat) (v1 v2 v3 v4 : Value) : Fr F w ((((w.setCell ⟨b, o1, none⟩ v1).setCell ⟨b, o2, none⟩ v2).setCell ⟨b, o3, none⟩ v3).setCell ⟨b, o4, none⟩ v4) :=
  Fr.setCell (Fr.setCell (Fr.setCell (Fr.setCell (Fr.refl _ _) (fun _ => hF) _) (fun _ => hF) _) (fun _ => hF) _) (fun _ => hF) _
end
set_option maxRecDepth 100000 in
set_option maxHeartbeats 1000000 in
theorem swapRange_ok (g : Nat) (cb : Array Value) {w : World} {b cap n : Nat} {d : Array Sp} (h : RA w b cap d) (hn : d.size = n) (a a' m : Nat) (h1 : a + m ≤ n) (h2 : a' + m ≤ n) (h3 : a + m ≤ a' ∨ a' + m ≤ a) :
    Calls Tryd.prog 69 #[.slice (some ⟨b, 0, none⟩) n cap, .int .i64 a, .int .i64 a', .int .i64 m, .func (.func g) #[] cb] w fun e w' => e = .returned (.tuple #[]) ∧ ∃ d', SwR a a' m d d' ∧ RA w' b cap d' ∧ Fr (fun k => k = b) w w' := by
  subst hn
  have hmx := h.mx
  have hle := h.le
  unfold maxLen at hmx
  have H := Lib.hid h
  clear h
  go_enter Tryd.func69, Tryd.ntmps69
  go_wp2_with fail
  go_loopw [10] (fun s10 wr => ∃ (k : Nat) (dk : Array Sp), s10 = .int .i64 k ∧ k ≤ m ∧ Hid (SwR a a' k d dk) ∧ Hid (RA wr b cap dk) ∧ Hid (Fr (fun k => k = b) w wr)) (fun s10 _ => m - (intOf s10).toNat)
  case atStart => exact ⟨0, d, rfl, Nat.zero_le _, Lib.hid (SwR.zero _ _ _), H, Lib.hid (Fr.refl _ _)⟩
  case round =>
    obtain ⟨k, dk, rfl, hk, HS, HR, HF⟩ := hrel
    by_cases hlt : k < m
    · have hlt' : (k : Int) < (m : Int) := by omega
      obtain ⟨x, hx⟩ : ∃ x : Nat, a + k = x := ⟨_, rfl⟩
      obtain ⟨y, hy⟩ : ∃ y : Nat, a' + k = y := ⟨_, rfl⟩
      have hx' : (a : Int) + (k : Int) = (x : Int) := by omega
      have hy' : (a' : Int) + (k : Int) = (y : Int) := by omega
      have hz : dk.size = d.size := HS.out.size
      have hxn : x < d.size := by omega
      have hyn : y < d.size := by omega
      have hxn' : (x : Int) < (d.size : Int) := by omega
      have hyn' : (y : Int) < (d.size : Int) := by omega
      have hxy : x ≠ y := by omega
      have f1 := HR.out.c0 (i := x) (by omega)
      have f2 := HR.out.c1 (i := x) (by omega)
      have f3 := HR.out.c0 (i := y) (by omega)
      have f4 := HR.out.c1 (i := y) (by omega)
      have z1 := HR.out.fz (x * 2)
      have z2 := HR.out.fz (x * 2 + 1)
      have z3 := HR.out.fz (y * 2)
      have z4 := HR.out.fz (y * 2 + 1)
      have HN : Hid (SwR a a' (k + 1) d (swp dk x y) ∧ RA ((((wr.setCell ⟨b, x * 2, none⟩ (.int .i64 dk[y]!.1)).setCell ⟨b, x * 2 + 1, none⟩ (.int .i64 dk[y]!.2)).setCell ⟨b, y * 2, none⟩ (.int .i64 dk[x]!.1)).setCell ⟨b, y * 2 + 1, none⟩ (.int .i64 dk[x]!.2)) b cap (swp dk x y)) := by
        refine Lib.hid ⟨?_, HR.out.swp (by omega) (by omega) hxy⟩
        rw [← hx, ← hy]
        exact HS.out.succ (by omega) (by omega) (by omega)
      obtain ⟨X0, hX0⟩ : ∃ v, v = dk[x]!.1 := ⟨_, rfl⟩
      obtain ⟨X1, hX1⟩ : ∃ v, v = dk[x]!.2 := ⟨_, rfl⟩
      obtain ⟨Y0, hY0⟩ : ∃ v, v = dk[y]!.1 := ⟨_, rfl⟩
      obtain ⟨Y1, hY1⟩ : ∃ v, v = dk[y]!.2 := ⟨_, rfl⟩
      rw [← hX0] at f1 HN; rw [← hX1] at f2 HN; rw [← hY0] at f3 HN; rw [← hY1] at f4 HN
      have HX := Lib.hid hx; have HY := Lib.hid hy; have HZ := Lib.hid hz
      clear hX0 hX1 hY0 hY1 hx hy hz
      go_upto_block 1 with fail
      go_cut [] (fun wx => ∃ d2, Hid (SwR a a' (k + 1) d d2) ∧ Hid (RA wx b cap d2) ∧ Hid (Fr (fun k => k = b) wr wx))
      case first =>
        go_upto_region 3 with fail
        go_region
        go_wp2_with fail
        go_meet
        refine ⟨_, Lib.hid HN.out.1, Lib.hid ?_, Lib.hid ?_⟩
        · exact HN.out.2.fr (Fr.drew (Fr.refl (fun _ => False) _)) (fun h => h)
        · exact Fr.drew (fr_four (F := fun k => k = b) rfl _ _ _ _ _ _ _ _)
      case rest =>
      obtain ⟨d2, HS2, HR2, HF2⟩ := hcut
      clear f1 f2 f3 f4 z1 z2 z3 z4
      go_wp2_with fail
      go_roundw
      case rel => exact ⟨k + 1, d2, by go_num, by omega, HS2, HR2, Lib.hid (HF.out.trans HF2.out (fun _ _ h => h))⟩
      case measure => simp [intOf]; omega
    · have hlt' : ¬ (k : Int) < (m : Int) := by omega
      obtain rfl : k = m := by omega
      go_wp2_with fail
      go_end0
      exact ⟨rfl, dk, HS.out, HR.out, HF.out⟩
end Go.Proofs.YthckfbfenfkdiaaDoor.St
