/- The index layer: slices.SortFunc of slots by their ids. No condition. -/
import Derived.Test.YtiebcmlfppepaaaIxI
import Derived.Shelf.SlSortCmp.NoneTotal
import Derived.Test.YtiebcmlfppepaaaIxLay
namespace Go.Proofs.Ytiebcmlfppepaaa.Ix
open Go.Shelf Go.RowKit Go.Lib Go.Sort
def cmpSl (x y : Sl) : Int := if x.2.1 < y.2.1 then -1 else if y.2.1 < x.2.1 then 1 else 0
theorem ltOf_cmp (x y : Sl) : ltOf cmpSl x y = decide (x.2.1 < y.2.1) := by
  have h : cmpSl x y < 0 ↔ x.2.1 < y.2.1 := by
    unfold cmpSl
    split
    · omega
    · split <;> omega
  show decide (cmpSl x y < 0) = _
  exact decide_eq_decide.2 h
theorem cmpSl_swo : SWO (ltOf cmpSl) where
  irrefl x := by rw [ltOf_cmp]; simp
  trans x y z h1 h2 := by rw [ltOf_cmp] at *; have a1 := of_decide_eq_true h1; have a2 := of_decide_eq_true h2; exact decide_eq_true (by omega)
  ntrans x y z h1 h2 := by rw [ltOf_cmp] at *; have a1 := of_decide_eq_false h1; have a2 := of_decide_eq_false h2; exact decide_eq_false (by omega)
set_option maxRecDepth 100000 in
theorem isNaN_ok (x : Nat) (w : World) : Calls Try.prog 87 #[.int .u32 (x : Int)] w fun e w' => e = .returned (.bool false) ∧ w = w' := by
  have hb : ((x : Int) != (x : Int)) = false := by simp
  go_enter Try.func87, Try.ntmps87
  go_wp2_with fail
  go_ret
  exact ⟨rfl, rfl⟩
def cmpN (x y : Nat) : Int := if x < y then -1 else if y < x then 1 else 0
set_option maxRecDepth 100000 in
theorem compare_ok (x y : Nat) (w : World) : Calls Try.prog 63 #[.int .u32 (x : Int), .int .u32 (y : Int)] w fun e w' => e = .returned (.int .i64 (cmpN x y)) ∧ w = w' := by
  have hx := isNaN_ok x w
  have hy := isNaN_ok y w
  rcases Nat.lt_trichotomy x y with h | h | h
  · have e : cmpN x y = -1 := by unfold cmpN; rw [if_pos h]
    rw [e]
    have h1 : (x : Int) < (y : Int) := by omega
    clear e h
    go_enter Try.func63, Try.ntmps63
    go_wp2_with fail
    refine hx.mono ?_
    rintro e w1 ⟨rfl, rfl⟩
    go_wp2_with fail
    refine hy.mono ?_
    rintro e w1 ⟨rfl, rfl⟩
    go_wp2_with fail
    go_ret
    exact ⟨rfl, rfl⟩
  · subst h
    have e : cmpN x x = 0 := by unfold cmpN; rw [if_neg (by omega), if_neg (by omega)]
    rw [e]
    clear e
    have h1 : ¬ (x : Int) < (x : Int) := by omega
    have h2 : decide ((x : Int) < (x : Int)) = false := by simp
    go_enter Try.func63, Try.ntmps63
    go_wp2_with fail
    refine hx.mono ?_
    rintro e w1 ⟨rfl, rfl⟩
    go_wp2_with fail
    refine hy.mono ?_
    rintro e w1 ⟨rfl, rfl⟩
    go_wp2_with fail
    go_ret
    exact ⟨rfl, rfl⟩
  · have e : cmpN x y = 1 := by unfold cmpN; rw [if_neg (by omega), if_pos h]
    rw [e]
    have h1 : ¬ (x : Int) < (y : Int) := by omega
    have h2 : (y : Int) < (x : Int) := by omega
    clear e h
    go_enter Try.func63, Try.ntmps63
    go_wp2_with fail
    refine hx.mono ?_
    rintro e w1 ⟨rfl, rfl⟩
    go_wp2_with fail
    refine hy.mono ?_
    rintro e w1 ⟨rfl, rfl⟩
    go_wp2_with fail
    go_ret
    exact ⟨rfl, rfl⟩
set_option maxRecDepth 100000 in
theorem cmp_ok (x y : Sl) (W : World) : Calls Try.prog 62 #[aggOf x, aggOf y] W fun e w' => e = .returned (.int .i64 (cmpSl x y)) ∧ ∃ q os', w' = grow (W.drewN q) os' := by
  obtain ⟨a, i, v⟩ := x
  obtain ⟨a2, i2, v2⟩ := y
  show Calls Try.prog 62 _ W fun e w' => e = .returned (.int .i64 (cmpN i i2)) ∧ _
  have hc := compare_ok i i2
  go_enter Try.func62, Try.ntmps62
  go_wp2_with fail
  refine (hc _).mono ?_
  rintro e w1 ⟨rfl, rfl⟩
  go_wp2_with fail
  go_ret
  exact ⟨rfl, 0, _, by rw [alloc_eq_grow, alloc_eq_grow, grow_grow]; rfl⟩
theorem enters_cmp : ∀ args w, (callFunc 62 args).run Try.prog w = .ok (.enter 62 args) w := enters_of Try.func62 (by kernel_rfl) rfl
theorem get_flat3 (d : Array Sl) (j : Nat) (hj : j < d.size) : (flatK cells3 3 d)[j * 3]! = .int .u8 (d[j]!.1 : Int) ∧ (flatK cells3 3 d)[j * 3 + 1]! = .int .u32 (d[j]!.2.1 : Int) ∧ (flatK cells3 3 d)[j * 3 + 2]! = .int .i64 d[j]!.2.2 := by
  rw [get_flatK _ _ _ _ (by omega), get_flatK _ _ _ _ (by omega), get_flatK _ _ _ _ (by omega)]
  have e1 : j * 3 / 3 = j := by omega
  have e2 : j * 3 % 3 = 0 := by omega
  have e3 : (j * 3 + 1) / 3 = j := by omega
  have e4 : (j * 3 + 1) % 3 = 1 := by omega
  have e5 : (j * 3 + 2) / 3 = j := by omega
  have e6 : (j * 3 + 2) % 3 = 2 := by omega
  rw [e1, e2, e3, e4, e5, e6]
  exact ⟨rfl, rfl, rfl⟩
/-- A block whose cells are known, slot by slot. -/
theorem bufAt_of {w : World} {b : Nat} {arr : Array Value} {S : List Sl} (hb : w.heap[b]? = some (.cells arr 86 (0, 0))) (hs : S.length * 3 ≤ arr.size)
    (h : ∀ p, p < S.length → w.cell? ⟨b, p * 3, none⟩ = some (.int .u8 ((slAt S p).1 : Int)) ∧ w.cell? ⟨b, p * 3 + 1, none⟩ = some (.int .u32 ((slAt S p).2.1 : Int)) ∧ w.cell? ⟨b, p * 3 + 2, none⟩ = some (.int .i64 (slAt S p).2.2)) : BufAt w b S := by
  refine ⟨arr.toList.drop (S.length * 3), ?_⟩
  have e : arr.toList.take (S.length * 3) = flat3 S := by
    apply List.ext_getElem?
    intro k
    by_cases hk : k < S.length * 3
    · rw [List.getElem?_take, if_pos hk]
      obtain ⟨g0, g1, g2⟩ := flat3_get S (k / 3) (by omega)
      obtain ⟨h0, h1, h2⟩ := h (k / 3) (by omega)
      rw [cell_of hb] at h0 h1 h2
      obtain ⟨i, hi, hki⟩ : ∃ i, i < 3 ∧ k = k / 3 * 3 + i := ⟨k % 3, Nat.mod_lt _ (by decide), by omega⟩
      rw [hki, Array.getElem?_toList]
      rcases (by omega : i = 0 ∨ i = 1 ∨ i = 2) with rfl | rfl | rfl
      · rw [Nat.add_zero, g0, h0]
      · rw [g1, h1]
      · rw [g2, h2]
    · rw [List.getElem?_eq_none (by rw [List.length_take]; omega), List.getElem?_eq_none (by rw [flat3_length]; omega)]
  rw [← e, List.take_append_drop]
  exact hb
set_option maxHeartbeats 1000000 in
theorem sort_ok {w : World} {b cap m : Nat} {L : List Sl} (hB : BufAt w b L) (hm : L.length = m) (hn : m ≤ 8192) :
    Calls Try.prog 61 #[.slice (some ⟨b, 0, none⟩) m cap, .func (.func 62) #[] #[]] w fun e w' => e = .returned (.tuple #[]) ∧
      ∃ S : List Sl, S.Perm L ∧ (S.Pairwise fun x y => x.2.1 ≤ y.2.1) ∧ Fr (fun k => k = b) w w' ∧ BufAt w' b S := by
  subst hm
  obtain ⟨rest, hblk⟩ := hB
  obtain ⟨d, hd⟩ : ∃ d : Array Sl, d.toList = L := ⟨L.toArray, by simp⟩
  have hsz : d.size = L.length := by rw [← hd]; simp
  have hget : ∀ (e : Array Sl) j, j < e.size → slAt e.toList j = e[j]! := by
    intro e j hj
    simp [slAt, hj]
  have hcl : ∀ j, j < L.length → w.cell? ⟨b, j * 3, none⟩ = some (.int .u8 ((slAt L j).1 : Int)) ∧ w.cell? ⟨b, j * 3 + 1, none⟩ = some (.int .u32 ((slAt L j).2.1 : Int)) ∧ w.cell? ⟨b, j * 3 + 2, none⟩ = some (.int .i64 (slAt L j).2.2) := fun j hj => BufAt.cells ⟨rest, hblk⟩ hj
  have hH : HoldsK cells3 3 w b 0 d := by
    intro j hj
    rw [size_flatK] at hj
    have hlt : ∀ k, w.frozen? ⟨b, k, none⟩ = false := fun k => by simp [World.frozen?, hblk]
    refine ⟨?_, hlt _⟩
    have hj3 : j / 3 < d.size := by omega
    obtain ⟨c0, c1, c2⟩ := hcl (j / 3) (by omega)
    obtain ⟨f0, f1, f2⟩ := get_flat3 d (j / 3) hj3
    rw [← hd, hget d (j / 3) hj3] at c0 c1 c2
    obtain ⟨i, hi, hji⟩ : ∃ i, i < 3 ∧ j = j / 3 * 3 + i := ⟨j % 3, Nat.mod_lt _ (by decide), by omega⟩
    rw [Nat.zero_add, hji]
    rcases (by omega : i = 0 ∨ i = 1 ∨ i = 2) with rfl | rfl | rfl
    · rw [Nat.add_zero, f0, c0]; rfl
    · rw [f1, c1]; rfl
    · rw [f2, c2]; rfl
  have hb : b < w.heap.size := lt_of_block hblk
  have h := AnyQ.slices_SortFunc Try.sortSlot 3 Try.isAgg86 Try.sizeOf86 cells3 (fun _ => rfl) (fun x v hv => by simp [cells3] at hv; rcases hv with rfl | rfl | rfl <;> rfl) cmpSl cmpSl_swo 62 #[] b 0 cap d w enters_cmp (fun _ _ _ _ x y => cmp_ok x y _) hH hb (by omega)
  rw [hsz] at h
  refine Calls.mono h ?_
  rintro e w' ⟨rfl, d', n, os, hp, hso, rfl⟩
  obtain ⟨hps, -, hpp⟩ := hp
  have hsz' : d'.size = L.length := hps.trans hsz
  have hwb : ∃ arr : Array Value, (sortWorldK cells3 3 w b 0 n d' os).heap[b]? = some (Obj.cells arr 86 (0, 0)) ∧ d'.toList.length * 3 ≤ arr.size := by
    simp only [sortWorldK]
    rw [heap_grow_old _ _ (by simp [putRowK]; exact hb)]
    simp only [putRowK, putRow, mapBlock]
    simp [Array.getElem?_modify, hblk]
    refine ⟨_, rfl, ?_⟩
    simp only [putCells, Array.size_mapIdx, List.size_toArray, List.length_append]
    rw [flat3_length]; omega
  refine ⟨rfl, d'.toList, ?_, ?_, ?_, ?_⟩
  · have : d'.toList.Perm d.toList := by
      have e1 : d'.extract 0 L.length = d' := by rw [← hsz']; simp
      have e2 : d.extract 0 L.length = d := by rw [← hsz]; simp
      rwa [e1, e2] at hpp
    rw [← hd]; exact this
  · rw [List.pairwise_iff_getElem]
    intro i j hi hj hij
    have := hso i j (Nat.zero_le _) hij (by simpa [hsz'] using hj)
    simp at hi hj
    rw [ltOf_cmp] at this
    simp [hi, hj] at this
    simp; omega
  · refine ⟨rfl, rfl, rfl, by simp [sortWorldK, putRowK], ?_⟩
    intro k hk hne
    simp only [sortWorldK]
    rw [heap_grow_old _ _ (by simp [putRowK]; exact hk)]
    have hne' : b ≠ k := fun e => hne e.symm
    simp [putRowK, putRow, mapBlock, Array.getElem?_modify, hne']
  · obtain ⟨arr, hw, hl⟩ := hwb
    refine bufAt_of hw hl fun j hj => ?_
    have hj' : j < d'.size := by simpa using hj
    have hg := get_flat3 d' j hj'
    have hH' := holds_putRow id (Sort.ahead w n) b 0 (flatK cells3 3 d) (flatK cells3 3 d') (fun j hj => hH j hj) (by simp [hps])
    have h0 := (hH' (j * 3) (by simp; omega)).1
    have h1 := (hH' (j * 3 + 1) (by simp; omega)).1
    have h2 := (hH' (j * 3 + 2) (by simp; omega)).1
    rw [hg.1, Nat.zero_add] at h0
    rw [hg.2.1, Nat.zero_add] at h1
    rw [hg.2.2, Nat.zero_add] at h2
    rw [hget d' j hj']
    simp only [sortWorldK]
    rw [cell?_grow _ _ _ (by simp [putRowK]; exact hb), cell?_grow _ _ _ (by simp [putRowK]; exact hb), cell?_grow _ _ _ (by simp [putRowK]; exact hb)]
    exact ⟨h0, h1, h2⟩
end Go.Proofs.Ytiebcmlfppepaaa.Ix
