/- The closure of HeapAsks, and what pops and sets leave. No condition. -/
import Derived.Test.YtbfkmogibgchmaaFull
import Derived.Test.YtbfkmogibgchmaaArgs
namespace Go.Proofs.Ytbfkmogibgchmaa
open Go.RowKit
/-- The first steps of a script. -/
theorem few_ok {v : Value} {K : Nat → Nat → Int} {n : Nat} (w w0 : World) (h : IntsAt w0 v 4 K n) :
    Calls Try.prog 11 #[v] w fun e w' => ∃ v', e = .returned v' ∧ IntsAt w0 v' 4 K (min n 300) ∧ w = w' := by
  obtain ⟨a, c, rfl, h1, h2, h3⟩ := id h
  have Hh := Lib.hid h
  have hc : n ≤ 9223372036854775807 := by unfold maxLen at h2; omega
  have hcc : (300 : Int) < (n : Int) → (300 : Int) ≤ (c : Int) := by omega
  clear h h3 h2
  by_cases hn : 300 < n
  · have hn' : (300 : Int) < (n : Int) := by omega
    have hc' : (300 : Int) ≤ (c : Int) := by omega
    clear hcc
    go_enter Try.func11, Try.ntmps11
    go_wp2
    go_ret
    exact ⟨_, rfl, by rw [Nat.min_eq_right (by omega)]; exact Hh.out.take (by omega), rfl⟩
  · have hn' : ¬ (300 : Int) < (n : Int) := by omega
    have Hn := Lib.hid hn
    clear hn
    go_enter Try.func11, Try.ntmps11
    go_wp2
    go_ret
    exact ⟨_, rfl, by rw [Nat.min_eq_left (by have := Hn.out; omega)]; exact Hh.out, rfl⟩
/-- odd is false, and may has f. -/
structure AskJ (bo bp bq : Nat) (f : Int → Option Int) (w : World) : Prop where
  odd : w.heap[bo]? = some (.cells #[.bool false] 4 (0, 0))
  may : w.heap[bp]? = some (.cells #[.map (some bq)] 49 (0, 0))
  map : IMap w bq f
abbrev askFn (bo bp : Nat) : Value := .func (.func 18) #[] #[.pointer (some ⟨bo, 0, none⟩), .pointer (some ⟨bp, 0, none⟩)]
abbrev AskB (bo bp bq : Nat) : Nat → Prop := fun b => b = bo ∨ b = bp ∨ b = bq
theorem AskJ.ne {bo bp bq : Nat} {f : Int → Option Int} {w : World} (h : AskJ bo bp bq f w) : bo ≠ bp ∧ bo ≠ bq ∧ bp ≠ bq := by
  obtain ⟨l, c, hb, _⟩ := h.map
  have h1 := h.odd; have h2 := h.may
  refine ⟨?_, ?_, ?_⟩
  · intro e; rw [e, h2] at h1; simp at h1
  · intro e; rw [e, hb] at h1; simp at h1
  · intro e; rw [e, hb] at h2; simp at h2
def ltI (x y : Int) : Bool := decide (x < y)
theorem ask_less (bo bp bq : Nat) (f : Int → Option Int) : LessOk Try.prog (askFn bo bp) ltI (AskJ bo bp bq f) (AskB bo bp bq) (fun x => f x = some 1) 18 #[.pointer (some ⟨bo, 0, none⟩), .pointer (some ⟨bp, 0, none⟩)] where
  eq := rfl
  enter := fun args w => Try.call18 args w
  call := by
    intro w x y hj hx hy
    have c0 := cell_of hj.odd 0
    have z0 := free_of hj.odd 0
    have c1 := cell_of hj.may 0
    simp at c0 c1
    have l1 := run_lookup1 (P := Try.prog) Try.underlying49 Try.underlying3 hj.map (Try.zeroValue3 w) x
    have l2 := run_lookup1 (P := Try.prog) Try.underlying49 Try.underlying3 hj.map (Try.zeroValue3 w) y
    rw [hx] at l1; rw [hy] at l2
    simp only [Option.getD_some] at l1 l2
    have Hj := Lib.hid hj
    clear hj hx hy
    show Calls Try.prog 18 #[.int .i64 x, .int .i64 y, .pointer (some ⟨bo, 0, none⟩), .pointer (some ⟨bp, 0, none⟩)] w _
    go_enter Try.func18, Try.ntmps18
    go_wp2_with fail
    go_ret
    obtain ⟨n1, n2, n3⟩ := Hj.out.ne
    have hf : Fr (fun b => b = bo) w (w.setCell ⟨bo, 0, none⟩ (.bool false)) := Fr.setCell (Fr.refl _ _) (by intro _; rfl) _
    refine ⟨rfl, ⟨?_, hf.get Hj.out.may n1.symm, Hj.out.map.fr hf n2.symm⟩, hf.mono (fun b _ h => .inl h)⟩
    exact setCell_blk Hj.out.odd _
  keep := fun w w' hj hf => ⟨hf.get hj.odd (by simp [AskB]), hf.get hj.may (by simp [AskB]), hj.map.fr hf (by simp [AskB])⟩
  bound := fun w b hj hb => by
    rcases hb with rfl | rfl | rfl
    · exact lt_of_block hj.odd
    · exact lt_of_block hj.may
    · exact hj.map.lt
/-- Another J and another A over the same heap. -/
theorem HeapIs.turn {J J' : World → Prop} {FJ : Nat → Prop} {A A' : Int → Prop} {fv : Value} {G : Nat → Prop} {bh : Nat} {L : List It} {next : Int} {w : World}
    (h : HeapIs J FJ A fv G bh L next w) (hj : J' w) (ha : ∀ i, i < L.length → A' (itAt L i).1) : HeapIs J' FJ A' fv G bh L next w :=
  ⟨h.ex, h.gh, h.bd, h.nj, hj, ha, h.hs, h.len, h.nx⟩
theorem perm_cons_take {L : List It} {x m : Nat} (hx : x < L.length) (hm : L.length = m + 1) : (itAt L x :: (if x = m then L else swapL L x m).take m).Perm L := by
  have key : ∀ M : List It, M.length = m + 1 → (itAt M m :: M.take m).Perm M := by
    intro M hM
    have e : M = M.take m ++ [itAt M m] := by
      rw [itAt_get (by omega)]
      simp [hM]
      rw [List.take_of_length_le (by omega)]
    conv => rhs; rw [e]
    exact (List.perm_append_singleton _ _).symm
  split
  · rename_i h; subst h; exact key L hm
  · rename_i h
    have h1 := key (swapL L x m) (by rw [swapL_length]; exact hm)
    rw [itAt_swap hx (by omega), if_pos rfl] at h1
    exact h1.trans (swapL_perm hx (by omega))
theorem takeF_perm (lt : Int → Int → Bool) {L : List It} {x : Nat} (hx : x < L.length) : (itAt L x :: takeF lt L x).Perm L := by
  obtain ⟨m, hm⟩ : ∃ m, L.length = m + 1 := ⟨L.length - 1, by omega⟩
  have h1 := perm_cons_take hx hm
  unfold takeF
  dsimp only
  rw [hm, Nat.add_sub_cancel]
  split
  · rename_i h
    have hl : ((if x = m then L else swapL L x m).take m).length = m := by split <;> simp [swapL_length, hm]
    exact ((settleF_perm lt (by rw [hl]; exact h)).cons _).trans h1
  · exact h1
theorem HeapIs.move {J J' : World → Prop} {FJ : Nat → Prop} {A A' : Int → Prop} {fv : Value} {G : Nat → Prop} {bh : Nat} {L : List It} {next : Int} {w w' : World}
    (h : HeapIs J FJ A fv G bh L next w) {F : Nat → Prop} (hf : Fr F w w') (hn : ∀ b, G b → ¬ F b) (hj : J' w') (ha : ∀ i, i < L.length → A' (itAt L i).1) : HeapIs J' FJ A' fv G bh L next w' := by
  obtain ⟨sv, bm, h1, h2, ⟨f, h3, h4⟩, h5, h6⟩ := h.ex
  exact ⟨⟨sv, bm, hf.get h1 (hn _ h.gh), Row.fr h2 hf (fun b hb => hn b (h6 b hb)), ⟨f, h3.fr hf (hn _ h5), h4⟩, h5, h6⟩, h.gh, fun b hb => Nat.lt_of_lt_of_le (h.bd b hb) hf.size, h.nj, hj, ha, h.hs, h.len, h.nx⟩
def updI (f : Int → Option Int) (k x : Int) : Int → Option Int := fun j => if j = k then some x else f j
theorem ask_upd {bo bp bq : Nat} {f : Int → Option Int} {w : World} (h : AskJ bo bp bq f w) (k x : Int) :
    ∃ es c, (Instr.mapUpdate 49 (.map (some bq)) (.int .i64 k) (.int .i64 x)).run Try.prog w = .ok () (setMap w bq es c) ∧ AskJ bo bp bq (updI f k x) (setMap w bq es c) ∧ Fr (AskB bo bp bq) w (setMap w bq es c) := by
  obtain ⟨es, c, hrun, hm⟩ := run_update (P := Try.prog) Try.underlying49 Try.underlying3 h.map k x
  obtain ⟨n1, n2, n3⟩ := h.ne
  refine ⟨es, c, hrun, ⟨?_, ?_, hm⟩, Fr.setMap (Fr.refl _ _) (fun _ => .inr (.inr rfl)) _ _⟩
  · rw [setMap_ne n2]; exact h.odd
  · rw [setMap_ne n3]; exact h.may
/-- What holds at the head of each round of HeapAsks. -/
def AskI (w0 : World) (bo bp bq bh : Nat) (i : Nat) (next : Int) (w : World) : Prop :=
  ∃ (G : Nat → Prop) (L : List It) (f : Int → Option Int), HeapIs (AskJ bo bp bq f) (AskB bo bp bq) (fun x => f x = some 1) (askFn bo bp) G bh L next w ∧ (L.map (·.1)).Nodup ∧ (∀ j, j < L.length → (itAt L j).1 ≤ i) ∧
    L.length ≤ i ∧ next ≤ i ∧ Fr (fun b => w0.heap.size ≤ b) w0 w ∧ (∀ b, G b → w0.heap.size ≤ b)
theorem fst_ne {L : List It} (h : (L.map (·.1)).Nodup) {i j : Nat} (hi : i < L.length) (hj : j < L.length) (hij : i ≠ j) : (itAt L i).1 ≠ (itAt L j).1 := by
  have hp := List.pairwise_iff_getElem.1 h
  rw [itAt_get hi, itAt_get hj]
  rcases Nat.lt_or_gt_of_ne hij with h1 | h1
  · have h2 := hp i j (by simpa using hi) (by simpa using hj) h1
    rw [List.getElem_map, List.getElem_map] at h2
    exact h2
  · have h2 := hp j i (by simpa using hj) (by simpa using hi) h1
    rw [List.getElem_map, List.getElem_map] at h2
    exact fun e => h2 e.symm
theorem nodup_perm {L M : List It} (h : L.Perm M) (hn : (M.map (·.1)).Nodup) : (L.map (·.1)).Nodup := (h.map (·.1)).nodup_iff.2 hn
theorem nodup_take (lt : Int → Int → Bool) {L : List It} {x : Nat} (hx : x < L.length) (hn : (L.map (·.1)).Nodup) : ((takeF lt L x).map (·.1)).Nodup ∧ ∀ i, i < (takeF lt L x).length → (itAt (takeF lt L x) i).1 ≠ (itAt L x).1 := by
  have h := nodup_perm (takeF_perm lt hx) hn
  rw [List.map_cons, List.nodup_cons] at h
  refine ⟨h.2, fun i hi e => h.1 ?_⟩
  rw [← e]
  exact List.mem_map.2 ⟨_, itAt_mem hi, rfl⟩
end Go.Proofs.Ytbfkmogibgchmaa
