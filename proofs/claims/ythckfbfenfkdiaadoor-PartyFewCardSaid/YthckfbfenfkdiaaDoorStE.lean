/- The stable sort of slices of runs: the insertion sort, by the kit's contract. No condition. -/
import Derived.Test.YthckfbfenfkdiaaDoorStD
namespace Go.Proofs.YthckfbfenfkdiaaDoor.St
open Go.RowKit Go.Sort Go.Shelf Go.Lib
def Tryd.insSpan_ren : Go.Shelf.Ren := ⟨fun | 20 => 49 | n => n, fun | 22 => 32 | 24 => 45 | 25 => 61 | 3 => 3 | 0 => 0 | 4 => 4 | n => n, fun | n => n⟩
theorem Tryd.insSpan : SlLaysF0.n20 Tryd.prog Tryd.insSpan_ren := {
  mixed := by kernel_rfl
  f20 := ⟨Tryd.f49.name, by decide, Tryd.func49.trans (congrArg some (by kernel_rfl))⟩
  t0 := Tryd.underlying0
  a0 := Tryd.isAgg0
  z0 := Tryd.sizeOf0
  v0 := Tryd.zeroValue0
  t3 := Tryd.underlying3
  a3 := Tryd.isAgg3
  z3 := Tryd.sizeOf3
  v3 := Tryd.zeroValue3
  t4 := Tryd.underlying4
  a4 := Tryd.isAgg4
  z4 := Tryd.sizeOf4
  v4 := Tryd.zeroValue4
  t22 := Tryd.underlying32
  a22 := Tryd.isAgg32
  z22 := Tryd.sizeOf32
  v22 := Tryd.zeroValue32
  t25 := Tryd.underlying61
  a25 := Tryd.isAgg61
  z25 := Tryd.sizeOf61
  v25 := Tryd.zeroValue61 }
theorem enc_len (x : Sp) : (enc x).length = 2 := rfl
theorem flat_get (d : Array Sp) {i : Nat} (hi : i < d.size) : (flatK enc 2 d)[i * 2]! = .int .i64 d[i]!.1 ∧ (flatK enc 2 d)[i * 2 + 1]! = .int .i64 d[i]!.2 := by
  have e1 : i * 2 / 2 = i := by omega
  have e2 : i * 2 % 2 = 0 := by omega
  have e3 : (i * 2 + 1) / 2 = i := by omega
  have e4 : (i * 2 + 1) % 2 = 1 := by omega
  constructor
  · rw [get_flatK _ _ _ _ (by omega), e1, e2]; rfl
  · rw [get_flatK _ _ _ _ (by omega), e3, e4]; rfl
theorem RA.holds {w : World} {b cap : Nat} {d : Array Sp} (h : RA w b cap d) : HoldsK enc 2 w b 0 d := by
  intro j hj
  rw [size_flatK] at hj
  refine ⟨?_, h.fz _⟩
  have hi : j / 2 < d.size := by omega
  obtain ⟨g1, g2⟩ := flat_get d hi
  rw [Nat.zero_add]
  by_cases e : j % 2 = 0
  · have : j = j / 2 * 2 := by omega
    conv => lhs; rw [this]
    conv => rhs; rw [this]
    rw [g1]; exact h.c0 hi
  · have : j = j / 2 * 2 + 1 := by omega
    conv => lhs; rw [this]
    conv => rhs; rw [this]
    rw [g2]; exact h.c1 hi
theorem RA.of_holds {w : World} {b cap : Nat} {d : Array Sp} (h1 : d.size ≤ cap) (h2 : cap ≤ maxLen) {arr : Array Value} (hw : w.heap[b]? = some (.cells arr 45 (0, 0))) (hs : arr.size = cap * 2) (h : HoldsK enc 2 w b 0 d) : RA w b cap d := by
  refine ⟨h1, h2, arr, hw, hs, fun i hi => ?_⟩
  obtain ⟨g1, g2⟩ := flat_get d hi
  have k1 := (h (i * 2) (by rw [size_flatK]; omega)).1
  have k2 := (h (i * 2 + 1) (by rw [size_flatK]; omega)).1
  rw [Nat.zero_add, cell_of hw, g1] at k1
  rw [Nat.zero_add, cell_of hw, g2] at k2
  exact ⟨k1, k2⟩
theorem ins_walk {w : World} {b cap n : Nat} {d : Array Sp} (h : RA w b cap d) (hn : d.size = n) (hn1 : n ≤ 1000000) (a e : Nat) (h1 : a ≤ e) (h2 : e ≤ n) (hA : AllOk d) (hu : Up a e d) :
    Calls Tryd.prog 49 #[.slice (some ⟨b, 0, none⟩) n cap, .int .i64 a, .int .i64 e, .func (.func 26) #[] #[]] w fun r w' => r = .returned (.tuple #[]) ∧ ∃ d', Done a e d d' ∧ RA w' b cap d' ∧ Fr (fun k => k = b) w w' := by
  subst hn
  have hmx := h.mx
  have hle := h.le
  have hbl := h.lt
  have hH := h.holds
  obtain ⟨cur, hb, hcs, _⟩ := h.blk
  unfold maxLen at hmx
  have hD := ins_ok like_cmp hA h1 h2 hu
  have hsz : d.size < 4611686018427387904 := by omega
  have hq := AnyQ.insertionSortCmpFunc Tryd.insSpan 2 (fun w => Tryd.isAgg45 w) (fun w => Tryd.sizeOf45 w) enc enc_len (fun x v hv => by
    simp only [enc, List.mem_cons, List.mem_nil_iff, or_false] at hv
    rcases hv with rfl | rfl <;> rfl) cmpV 26 #[] b 0 cap a e d w (fun args w => rfl) (fun m os dk hdk x y => cmp_ok _ x y) hH hbl h1 h2 hsz
  refine Calls.mono hq ?_
  rintro r w' ⟨rfl, m, os, rfl⟩
  have hE : insertionSort (ltOf cmpV) d a e = insertionSort cmpB d a e := rfl
  rw [hE]
  obtain ⟨d', hd'⟩ : ∃ d', d' = insertionSort cmpB d a e := ⟨_, rfl⟩
  rw [← hd'] at hD ⊢
  have hz : d'.size = d.size := hD.1.1
  have hwb : ∃ arr : Array Value, (sortWorldK enc 2 w b 0 m d' os).heap[b]? = some (Obj.cells arr 45 (0, 0)) ∧ arr.size = cur.size := by
    simp only [sortWorldK]
    rw [heap_grow_old _ _ (by simp [putRowK]; exact hbl)]
    simp only [putRowK, putRow, mapBlock]
    simp [Array.getElem?_modify, hb]
    exact ⟨_, rfl, by simp [putCells]⟩
  obtain ⟨arr, hw, hl⟩ := hwb
  refine ⟨rfl, d', ⟨hD.1, hD.2⟩, RA.of_holds (by omega) (by unfold maxLen; omega) hw (by omega) (holdsK_sortWorldK_c enc 2 w b 0 d d' m os hH hbl hz), ?_⟩
  refine ⟨rfl, rfl, rfl, by simp [sortWorldK, putRowK], ?_⟩
  intro k hkk hne
  simp only [sortWorldK]
  rw [heap_grow_old _ _ (by simp [putRowK]; exact hkk)]
  have hne' : b ≠ k := fun e => hne e.symm
  simp [putRowK, putRow, mapBlock, Array.getElem?_modify, hne']
end Go.Proofs.YthckfbfenfkdiaaDoor.St
