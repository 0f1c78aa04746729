/- slices.SortFunc of elements of K cells. No condition. -/
import Derived.Test.YtjfnaflbhmeokaaEls
import Derived.Shelf.SlSortCmp.WholeK
import Derived.Shelf.SlSortCmp.NoneTotal
namespace Go.Proofs.Ytjfnaflbhmeokaa
open Go.Shelf Go.RowKit Go.Lib Go.Sort
section
variable {α : Type} {enc : α → List Value} {K : Nat} (hk : ∀ x, (enc x).length = K)
include hk
/-- slices.SortFunc of elements that all have A. -/
theorem els_sort {P : Program} {ρ : Ren} (Y : SlLaysF0.n6 P ρ) (aE : ∀ w, (isAgg (ρ.t 24)).run P w = .ok true w) (zE : ∀ w, (Go.sizeOf (ρ.t 24)).run P w = .ok K w) (h1 : ∀ x, ∀ v ∈ enc x, v.oneCell' = true) (hK : 0 < K)
    (A : α → Prop) (x0 : α) (hx0 : A x0) (cf : α → α → Int) (hO : SWO (ltOf fun x y : { x : α // A x } => cf x.1 y.1)) (g : Nat) (cb : Array Value) {w : World} {e : TypeId} {b cap n : Nat} {L : List α} (hL : L.length = n)
    (eg : ∀ args w, (callFunc g args).run P w = .ok (.enter g args) w)
    (hcmp : ∀ x y, A x → A y → ∀ W, Fr (fun k => k = b) w W → Calls P g (#[.agg (enc x).toArray, .agg (enc y).toArray] ++ cb) W fun e W' => e = .returned (.int .i64 (cf x y)) ∧ ∃ q os', W' = grow (W.drewN q) os')
    (h : Els w e K enc (.slice (some ⟨b, 0, none⟩) n cap) L) (hA : ∀ x ∈ L, A x) (hsz : n < 4611686018427387904) :
    Calls P (ρ.f 6) #[.slice (some ⟨b, 0, none⟩) n cap, .func (.func g) #[] cb] w fun e' w' => e' = .returned (.tuple #[]) ∧
      ∃ S, S.Perm L ∧ (S.Pairwise fun x y => ¬ cf y x < 0) ∧ Fr (fun k => k = b) w w' ∧ Els w' e K enc (.slice (some ⟨b, 0, none⟩) n cap) S := by
  subst hL
  rcases h.2 with ⟨e0, h0⟩ | ⟨g1, cap1, cur, e0, _, hb, hc1, hc2, hcs, htk⟩
  · simp at e0
  simp only [Value.slice.injEq, Option.some.injEq, Addr.mk.injEq, and_true, true_and] at e0
  obtain ⟨rfl, rfl⟩ := e0
  haveI : Inhabited { x : α // A x } := ⟨⟨x0, hx0⟩⟩
  obtain ⟨d, hd⟩ : ∃ d : Array { x : α // A x }, d.toList.map (·.1) = L := ⟨(L.pmap (fun x h => ⟨x, h⟩) hA).toArray, by simp [List.map_pmap]⟩
  have hsd : d.size = L.length := by rw [← hd]; simp
  obtain ⟨en, hen⟩ : ∃ en : { x : α // A x } → List Value, en = fun x => enc x.1 := ⟨_, rfl⟩
  have henk : ∀ x, (en x).length = K := fun x => by rw [hen]; exact hk _
  have hgetc : ∀ (d : Array { x : α // A x }) j, j < d.size * K → (flatK en K d)[j]! = ((d.toList.map (·.1)).flatMap enc)[j]?.getD default := by
    intro d j hj
    have hj1 : j / K < d.size := by rw [Nat.div_lt_iff_lt_mul hK]; exact hj
    have hj2 : j % K < K := Nat.mod_lt _ hK
    rw [get_flatK _ _ _ _ hj]
    have := flatK_get hk (d.toList.map (·.1)) (j / K) (by simpa using hj1) (j % K) hj2
    rw [Nat.mul_comm, Nat.div_add_mod] at this
    rw [this]
    simp only [List.getElem_map, Array.getElem_toList, hen]
    rw [getElem!_pos d (j / K) hj1]
    rw [List.getElem!_eq_getElem?_getD]
  have hgets : ∀ (d : Array { x : α // A x }) j, j < d.size * K → ((d.toList.map (·.1)).flatMap enc)[j]? = some ((flatK en K d)[j]!) := by
    intro d j hj
    rw [hgetc d j hj, List.getElem?_eq_getElem (by rw [flatK_length hk]; simpa using hj)]
    rfl
  have hH : HoldsK en K w b 0 d := by
    intro j hj
    rw [size_flatK] at hj
    refine ⟨?_, by simp [World.frozen?, hb]⟩
    rw [Nat.zero_add, cell_of hb]
    have hg := hgets d j hj
    rw [hd, ← htk, List.getElem?_take, if_pos (by rw [← hsd]; exact hj), Array.getElem?_toList] at hg
    exact hg
  have hbl : b < w.heap.size := lt_of_block hb
  have hq := AnyQ.slices_SortFunc Y K aE zE en henk (fun x => by rw [hen]; exact h1 _) (fun x y => cf x.1 y.1) hO g cb b 0 cap d w eg (fun m os dk hdk x y => by
    rw [hen]
    refine hcmp x.1 y.1 x.2 y.2 _ ?_
    refine ⟨rfl, rfl, rfl, by simp [sortWorldK, putRowK], ?_⟩
    intro k hkk hne
    simp only [sortWorldK]
    rw [heap_grow_old _ _ (by simp [putRowK]; exact hkk)]
    have hne' : b ≠ k := fun e => hne e.symm
    simp [putRowK, putRow, mapBlock, Array.getElem?_modify, hne']) hH hbl (by omega)
  rw [hsd] at hq
  refine Calls.mono hq ?_
  rintro e' w' ⟨rfl, d', n, os, hp, hso, rfl⟩
  obtain ⟨hps, -, hpp⟩ := hp
  have hsz' : d'.size = L.length := hps.trans hsd
  have hperm : (d'.toList.map (·.1)).Perm L := by
    have : d'.toList.Perm d.toList := by
      have e1 : d'.extract 0 L.length = d' := by rw [← hsz']; simp
      have e2 : d.extract 0 L.length = d := by rw [← hsd]; simp
      rwa [e1, e2] at hpp
    rw [← hd]; exact this.map _
  have hwb : ∃ arr : Array Value, (sortWorldK en K w b 0 n d' os).heap[b]? = some (Obj.cells arr e (0, 0)) ∧ arr.size = cur.size := by
    simp only [sortWorldK]
    rw [heap_grow_old _ _ (by simp [putRowK]; exact hbl)]
    simp only [putRowK, putRow, mapBlock]
    simp [Array.getElem?_modify, hb]
    exact ⟨_, rfl, by simp [putCells]⟩
  obtain ⟨arr, hw, hl⟩ := hwb
  refine ⟨rfl, d'.toList.map (·.1), hperm, ?_, ?_, ?_⟩
  · rw [List.pairwise_iff_getElem]
    intro i j hi hj hij
    have := hso i j (Nat.zero_le _) hij (by simpa [hsz'] using hj)
    simp at hi hj
    simp [ltOf, hi, hj] at this
    simp; omega
  · refine ⟨rfl, rfl, rfl, by simp [sortWorldK, putRowK], ?_⟩
    intro k hkk hne
    simp only [sortWorldK]
    rw [heap_grow_old _ _ (by simp [putRowK]; exact hkk)]
    have hne' : b ≠ k := fun e => hne e.symm
    simp [putRowK, putRow, mapBlock, Array.getElem?_modify, hne']
  · have hln : (d'.toList.map (·.1)).length = L.length := by simp [hsz']
    show Row _ _ _ _ _ _
    rw [hln]
    refine ⟨by rw [flatK_length hk, hln], .inr ⟨b, cap, arr, rfl, Nat.zero_le _, hw, hc1, hc2, by rw [hl]; exact hcs, ?_⟩⟩
    have hle : L.length * K ≤ arr.size := by rw [hl, hcs]; exact Nat.mul_le_mul_right K hc1
    apply List.ext_getElem?
    intro j
    rw [List.getElem?_take]
    split
    · rename_i hj
      have hj' : j < d'.size * K := by rw [hsz']; exact hj
      rw [hgets d' j hj', Array.getElem?_toList, ← cell_of hw]
      have hH' := holds_putRow id (Sort.ahead w n) b 0 (flatK en K d) (flatK en K d') (fun j hj => hH j hj) (by simp [hps])
      have h0 := (hH' j (by simpa using hj')).1
      rw [Nat.zero_add] at h0
      simp only [sortWorldK]
      rw [cell?_grow _ _ _ (by simp [putRowK]; exact hbl)]
      exact h0
    · rename_i hj
      rw [List.getElem?_eq_none (by rw [flatK_length hk, hln]; omega)]
end
end Go.Proofs.Ytjfnaflbhmeokaa
