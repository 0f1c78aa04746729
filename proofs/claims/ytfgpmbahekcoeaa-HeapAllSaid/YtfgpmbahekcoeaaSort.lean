/- slices.SortFunc of a slice of items by their handles. No condition. -/
import Derived.Test.YtfgpmbahekcoeaaHeapE
import Derived.Shelf.SlSortCmp.NoneTotal
import Derived.Test.YtfgpmbahekcoeaaLay
namespace Go.Proofs.Ytfgpmbahekcoeaa
open Go.Shelf Go.RowKit Go.Lib Go.Sort
/-- An item with a handle within reach. -/
abbrev Itm := { x : It // 0 ≤ x.2 ∧ x.2 < 4611686018427387904 }
instance : Inhabited Itm := ⟨⟨(0, 0), by decide⟩⟩
def encItm (x : Itm) : List Value := [.int .i64 x.1.1, .int .i64 x.1.2]
def cmpItm (x y : Itm) : Int := x.1.2 - y.1.2
theorem cmpItm_swo : SWO (ltOf cmpItm) where
  irrefl x := by simp [ltOf, cmpItm]
  trans x y z h1 h2 := decide_eq_true (by have a1 := of_decide_eq_true h1; have a2 := of_decide_eq_true h2; simp only [cmpItm] at a1 a2 ⊢; omega)
  ntrans x y z h1 h2 := decide_eq_false (by have a1 := of_decide_eq_false h1; have a2 := of_decide_eq_false h2; simp only [cmpItm] at a1 a2 ⊢; omega)
set_option maxRecDepth 100000 in
theorem cmp_ok (x y : Itm) (W : World) : Calls Try.prog 66 #[.agg #[.int .i64 x.1.1, .int .i64 x.1.2], .agg #[.int .i64 y.1.1, .int .i64 y.1.2]] W fun e w' => e = .returned (.int .i64 (cmpItm x y)) ∧ ∃ q os', w' = grow (W.drewN q) os' := by
  obtain ⟨⟨xv, xh⟩, hx0, hx1⟩ := x
  obtain ⟨⟨yv, yh⟩, hy0, hy1⟩ := y
  simp only [cmpItm] at *
  have hw : wrap64 (xh - yh) = xh - yh := by unfold wrap64; omega
  have HX0 := Lib.hid hx0; have HX1 := Lib.hid hx1; have HY0 := Lib.hid hy0; have HY1 := Lib.hid hy1
  clear hx0 hx1 hy0 hy1
  go_enter Try.func66, Try.ntmps66
  go_wp2_with fail
  go_ret
  exact ⟨rfl, 0, _, by rw [alloc_eq_grow, alloc_eq_grow, grow_grow]; rfl⟩
theorem enters_cmp : ∀ args w, (callFunc 66 args).run Try.prog w = .ok (.enter 66 args) w := enters_of Try.func66 (by kernel_rfl) rfl
theorem get_flatItm (d : Array Itm) (j : Nat) (hj : j < d.size) : (flatK encItm 2 d)[j * 2]! = .int .i64 d[j]!.1.1 ∧ (flatK encItm 2 d)[j * 2 + 1]! = .int .i64 d[j]!.1.2 := by
  rw [get_flatK _ _ _ _ (by omega), get_flatK _ _ _ _ (by omega)]
  have e1 : j * 2 / 2 = j := by omega
  have e2 : j * 2 % 2 = 0 := by omega
  have e3 : (j * 2 + 1) / 2 = j := by omega
  have e4 : (j * 2 + 1) % 2 = 1 := by omega
  rw [e1, e2, e3, e4]
  exact ⟨rfl, rfl⟩
/-- The items in the order of their handles, and how they lie behind the sort. -/
def ByHandle (L S : List It) : Prop := S.Perm L ∧ S.Pairwise fun x y => x.2 ≤ y.2
set_option maxHeartbeats 1000000 in
theorem sort_ok {w : World} {b cap : Nat} {L : List It} {arr : Array Value} (hB : w.heap[b]? = some (.cells arr 127 (0, 0))) (hc : Cells2 arr L) (hs : ∀ x ∈ L, 0 ≤ x.2 ∧ x.2 < 4611686018427387904) (hn : L.length ≤ 70000) :
    Calls Try.prog 65 #[.slice (some ⟨b, 0, none⟩) L.length cap, .func (.func 66) #[] #[]] w fun e w' => e = .returned (.tuple #[]) ∧
      ∃ S, ByHandle L S ∧ Fr (fun k => k = b) w w' ∧ ∀ j, j < S.length → w'.cell? ⟨b, j * 2, none⟩ = some (.int .i64 (itAt S j).1) ∧ w'.cell? ⟨b, j * 2 + 1, none⟩ = some (.int .i64 (itAt S j).2) := by
  obtain ⟨d, hd⟩ : ∃ d : Array Itm, d.toList.map (·.1) = L := ⟨(L.pmap (fun x h => ⟨x, h⟩) hs).toArray, by simp [List.map_pmap]⟩
  have hsz : d.size = L.length := by rw [← hd]; simp
  have hget : ∀ (e : Array Itm) j, j < e.size → itAt (e.toList.map (·.1)) j = e[j]!.1 := by
    intro e j hj
    simp [itAt, hj]
  have hH : HoldsK encItm 2 w b 0 d := by
    intro j hj
    rw [size_flatK] at hj
    have hlt : ∀ k, w.frozen? ⟨b, k, none⟩ = false := fun k => by simp [World.frozen?, hB]
    refine ⟨?_, hlt _⟩
    obtain ⟨i, hi | hi⟩ : ∃ i, j = i * 2 ∨ j = i * 2 + 1 := ⟨j / 2, by omega⟩
    · subst hi
      rw [(get_flatItm d i (by omega)).1, Nat.zero_add, cell_of hB, (hc i (by omega)).1, ← hd, hget d i (by omega)]; rfl
    · subst hi
      rw [(get_flatItm d i (by omega)).2, Nat.zero_add, cell_of hB, (hc i (by omega)).2, ← hd, hget d i (by omega)]; rfl
  have hb : b < w.heap.size := lt_of_block hB
  have h := AnyQ.slices_SortFunc Try.sortItem 2 Try.isAgg127 Try.sizeOf127 encItm (fun _ => rfl) (fun x v hv => by simp [encItm] at hv; rcases hv with rfl | rfl <;> rfl) cmpItm cmpItm_swo 66 #[] b 0 cap d w enters_cmp (fun _ _ _ _ x y => cmp_ok x y _) hH hb (by omega)
  rw [hsz] at h
  refine Calls.mono h ?_
  rintro e w' ⟨rfl, d', n, os, hp, hso, rfl⟩
  obtain ⟨hps, -, hpp⟩ := hp
  have hsz' : d'.size = L.length := hps.trans hsz
  refine ⟨rfl, d'.toList.map (·.1), ⟨?_, ?_⟩, ?_, ?_⟩
  · have : d'.toList.Perm d.toList := by
      have e1 : d'.extract 0 L.length = d' := by rw [← hsz']; simp
      have e2 : d.extract 0 L.length = d := by rw [← hsz]; simp
      rwa [e1, e2] at hpp
    rw [← hd]; exact this.map _
  · rw [List.pairwise_iff_getElem]
    intro i j hi hj hij
    have := hso i j (Nat.zero_le _) hij (by simpa [hsz'] using hj)
    simp at hi hj
    simp [ltOf, cmpItm, hi, hj] at this
    simp; omega
  · refine ⟨rfl, rfl, rfl, by simp [sortWorldK, putRowK], ?_⟩
    intro k hk hne
    simp only [sortWorldK]
    rw [heap_grow_old _ _ (by simp [putRowK]; exact hk)]
    have hne' : b ≠ k := fun e => hne e.symm
    simp [putRowK, putRow, mapBlock, Array.getElem?_modify, hne']
  · intro j hj
    have hj' : j < d'.size := by simpa using hj
    have hg := get_flatItm d' j hj'
    have hH' := holds_putRow id (Sort.ahead w n) b 0 (flatK encItm 2 d) (flatK encItm 2 d') (fun j hj => hH j hj) (by simp [hps])
    have h0 := (hH' (j * 2) (by simp; omega)).1
    have h1 := (hH' (j * 2 + 1) (by simp; omega)).1
    rw [hg.1, Nat.zero_add] at h0
    rw [hg.2, Nat.zero_add] at h1
    rw [hget d' j hj']
    simp only [sortWorldK]
    rw [cell?_grow _ _ _ (by simp [putRowK]; exact hb), cell?_grow _ _ _ (by simp [putRowK]; exact hb)]
    exact ⟨h0, h1⟩
end Go.Proofs.Ytfgpmbahekcoeaa
