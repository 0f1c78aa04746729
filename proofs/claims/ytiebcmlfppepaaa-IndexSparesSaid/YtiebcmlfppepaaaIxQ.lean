/- The index layer: All; a list under way in a cell. No condition. -/
import Derived.Test.YtiebcmlfppepaaaIxP
namespace Go.Proofs.Ytiebcmlfppepaaa.Ix
open Go.RowKit Go.Shelf
attribute [local go_sem] Oper.semAt_some
abbrev allV (cb : Nat) : Value := .func (.func 33) #[] #[.pointer (some ⟨cb, 0, none⟩)]
/-- What All hands back. -/
def AllOf (w : World) (L : List (Nat × Int)) (e : Ending) (w' : World) : Prop := ∃ cb sv, e = .returned (allV cb) ∧ Seq w' cb sv L ∧ (∀ b, seqP cb sv b → w.heap.size ≤ b) ∧ Fr (fun _ => False) w w'
theorem Fr.toNew {G : Nat → Prop} {w w' : World} (h : Fr (fun b => w.heap.size ≤ b) w w') : Fr G w w' := h.mono (fun i hi e => by omega)
set_option maxRecDepth 100000 in
theorem all_ok {w : World} {bh g N most : Nat} {L : List (Nat × Int)} {st : Nat} (h : IxAt w bh g N most L st) : Calls Try.prog 10 #[.pointer (some ⟨bh, 0, none⟩)] w (AllOf w L) := by
  obtain ⟨S, hr, hl1, hl2, hl3⟩ := h
  have fa : Fr (fun _ => False) w (w.alloc (.cells #[.slice none 0 0] 81)) := Fr.alloc (Fr.refl _ _) _
  have hb0 : (w.alloc (.cells #[.slice none 0 0] 81)).heap[w.heap.size]? = some (.cells #[.slice none 0 0] 81 (0, 0)) := by rw [heap_alloc_get]; simp
  have hr1 := hr.fr fa (fun h => h) (fun h => h)
  have HM := Lib.hid (made_ok hr1.head)
  have HI := Lib.hid (items_ok hr1.head hr1.slots hr1.len hr1.maps (by have := hr.lo; have := hr.one; omega) hr.hi)
  have HL8 := Lib.hid (show L.length ≤ 8192 by have := hr.hi; have := hr.lo; omega)
  have HB0 := Lib.hid hb0; have FA := Lib.hid fa
  clear hr hl1 hl2 hl3 fa hb0 hr1
  go_enter Try.func10, Try.ntmps10
  go_wp2_with fail
  refine HM.out.mono ?_
  rintro e w1 ⟨rfl, rfl⟩
  go_wp2_with fail
  refine HI.out.mono ?_
  rintro e w2 ⟨b, cap, rfl, hb, hf, hn⟩
  have hb2 := hf.get HB0.out (fun h => h)
  have c0 := (cell_of hb2 0).trans (show _ = some (Value.slice none 0 0) from rfl)
  have z0 := free_of hb2 0
  have hsz : w.heap.size < b := by have : (w.alloc (.cells #[.slice none 0 0] 81)).heap.size = w.heap.size + 1 := by simp
                                   omega
  have fs : Fr (fun i => i = w.heap.size) w2 (w2.setCell ⟨w.heap.size, 0, none⟩ (.slice (some ⟨b, 0, none⟩) L.length cap)) := Fr.setCell (F := fun i => i = w.heap.size) (p := ⟨w.heap.size, 0, none⟩) (Fr.refl _ _) (fun _ => rfl) _
  have hs : Seq (w2.setCell ⟨w.heap.size, 0, none⟩ (.slice (some ⟨b, 0, none⟩) L.length cap)) w.heap.size (.slice (some ⟨b, 0, none⟩) L.length cap) L := ⟨setCell_blk (o := 0) hb2 _, .inr ⟨b, cap, rfl, hb.fr fs (by omega)⟩, HL8.out⟩
  have hfw : Fr (fun _ => False) w (w2.setCell ⟨w.heap.size, 0, none⟩ (.slice (some ⟨b, 0, none⟩) L.length cap)) := Fr.toNew (((FA.out.trans hf (fun _ _ h => h)).mono (G := fun b => w.heap.size ≤ b) (fun _ _ h => h.elim)).trans fs (fun i _ e => by omega))
  have HS := Lib.hid hs; have HF := Lib.hid hfw; have Hsz := Lib.hid hsz
  clear hb hf hn hb2 hsz fs hs hfw
  go_wp2_with fail
  go_ret
  refine ⟨w.heap.size, _, rfl, HS.out, ?_, HF.out⟩
  rintro i (rfl | hi)
  · exact Nat.le_refl _
  · simp [Value.ownBlock] at hi; have := Hsz.out; omega
set_option maxRecDepth 100000 in
theorem all_none {w : World} {p : Option Addr} (h : NoIdx w p) : Calls Try.prog 10 #[.pointer p] w (AllOf w []) := by
  have fa : Fr (fun _ => False) w (w.alloc (.cells #[.slice none 0 0] 81)) := Fr.alloc (Fr.refl _ _) _
  have hb0 : (w.alloc (.cells #[.slice none 0 0] 81)).heap[w.heap.size]? = some (.cells #[.slice none 0 0] 81 (0, 0)) := by rw [heap_alloc_get]; simp
  have h1 : NoIdx (w.alloc (.cells #[.slice none 0 0] 81)) p := by
    rcases h with rfl | ⟨b, v1, v2, v3, v4, rfl, h⟩
    · exact .inl rfl
    · exact .inr ⟨b, v1, v2, v3, v4, rfl, fa.get h (fun h => h)⟩
  have HM := Lib.hid (made_no h1)
  have HB0 := Lib.hid hb0; have FA := Lib.hid fa
  clear h h1 hb0 fa
  go_enter Try.func10, Try.ntmps10
  go_wp2_with fail
  refine HM.out.mono ?_
  rintro e w1 ⟨rfl, rfl⟩
  go_wp2_with fail
  go_ret
  refine ⟨w.heap.size, _, rfl, ⟨HB0.out, .inl ⟨rfl, rfl⟩, Nat.zero_le _⟩, ?_, FA.out⟩
  rintro i (rfl | hi)
  · exact Nat.le_refl _
  · simp [Value.ownBlock] at hi
theorem addr_add (g o k : Nat) : (⟨g, o, none⟩ : Addr).add k = ⟨g, o + k, none⟩ := by
  by_cases h0 : k = 0
  · subst h0; simp [Addr.add]
  · simp [Addr.add, h0]
/-- append of values of one cell that lie in a new block. -/
theorem app_row {e t : TypeId} {z : Value} (ht : Try.prog.underlying t = some (.slice e)) (hi : (Try.prog.info? e).map (fun i => (i.zero, i.size, i.bytes)) = some (some z, 1, 8)) (hz : z.cells.size = 1) (ty : TypeId) {W : World} {v : Value} {xs ys : List Value} (h : Row W e 1 v xs.length xs) (hb : xs.length + ys.length ≤ 1000000) (hy : ∀ u ∈ ys, u.oneCell' = true) {n : Nat} (hn : n = ys.length) :
    ∃ a c W2, (Builtin.append_ #[t, t] ty #[v, .slice (some ⟨W.heap.size, 0, none⟩) n n]).run Try.prog (W.alloc (.cells ys.toArray e)) = .ok (.slice a (xs.length + n) c) W2 ∧
      Row W2 e 1 (.slice a (xs.length + n) c) (xs ++ ys).length (xs ++ ys) ∧ Fr (fun b => v.ownBlock = some b) W W2 ∧ (∀ b, (Value.slice a (xs.length + n) c).ownBlock = some b → v.ownBlock = some b ∨ W.heap.size ≤ b) := by
  subst hn
  obtain ⟨i0, hi, hz0, hz1, hz2⟩ := info_parts hi
  have f0 : Fr (fun _ => False) W (W.alloc (.cells ys.toArray e)) := Fr.alloc (Fr.refl _ _) _
  have hg : (W.alloc (.cells ys.toArray e)).heap[W.heap.size]? = some (.cells ys.toArray e (0, 0)) := by rw [heap_alloc_get]; simp
  obtain ⟨v', w3, hrun, hR3, hf3, ho3⟩ := run_append_fr (P := Try.prog) _ t ty e i0 _ 1 8 ht hi hz0 hz1 hz2 hz (by decide) _ _ _ (Row.fr h f0 (fun _ _ h => h)) ⟨W.heap.size, 0, none⟩ ys.length ys.length ys (by simp)
    (by intro j u hu
        rw [addr_add, Nat.zero_add, cell_of hg j]
        simpa using hu)
    hy (by unfold maxLen; omega) (by omega)
  obtain ⟨a', c', rfl⟩ : ∃ a' c', v' = .slice a' (xs.length + ys.length) c' := by
    rcases hR3.2 with ⟨rfl, h0⟩ | ⟨g, cap, cur, rfl, _⟩
    · exact ⟨none, 0, by rw [h0]⟩
    · exact ⟨_, _, rfl⟩
  refine ⟨a', c', w3, hrun, by rw [List.length_append]; exact hR3, (f0.mono (fun _ _ h => h.elim)).trans hf3 (fun _ _ h => h), ?_⟩
  intro b hb
  rcases ho3 with h | h
  · rw [h] at hb; exact .inl hb
  · rw [h] at hb; simp at hb; right; omega
theorem Try.infoInt : (Try.prog.info? 3).map (fun i => (i.zero, i.size, i.bytes)) = some (some (.int .i64 0), 1, 8) := by kernel_rfl
theorem Try.infoU64 : (Try.prog.info? 38).map (fun i => (i.zero, i.size, i.bytes)) = some (some (.int .u64 0), 1, 8) := by kernel_rfl
def u64v (x : Nat) : Value := .int .u64 (x : Int)
def i64v (x : Int) : Value := .int .i64 x
/-- Two lists under way, each in a cell of its own. -/
structure Told (n0 ta tb : Nat) (A : List Nat) (B : List Int) (W : World) (va vb : Value) : Prop where
  boxa : W.heap[ta]? = some (.cells #[va] 26 (0, 0))
  boxb : W.heap[tb]? = some (.cells #[vb] 27 (0, 0))
  rowa : Row W 38 1 va A.length (A.map u64v)
  rowb : Row W 3 1 vb B.length (B.map i64v)
  ne : ta ≠ tb
  owna : ∀ b, va.ownBlock = some b → n0 ≤ b ∧ b ≠ ta ∧ b ≠ tb
  ownb : ∀ b, vb.ownBlock = some b → n0 ≤ b ∧ b ≠ ta ∧ b ≠ tb
  apart : ∀ b, va.ownBlock = some b → vb.ownBlock ≠ some b
section told
variable {n0 ta tb : Nat} {A : List Nat} {B : List Int} {w w' : World} {va vb : Value}
theorem Told.fr (h : Told n0 ta tb A B w va vb) {F : Nat → Prop} (f : Fr F w w') (h1 : ¬ F ta) (h2 : ¬ F tb) (h3 : ∀ b, n0 ≤ b → b < w.heap.size → ¬ F b) : Told n0 ta tb A B w' va vb :=
  ⟨f.get h.boxa h1, f.get h.boxb h2, Row.fr h.rowa f (fun b hb => h3 b (h.owna b hb).1 (Row.lt h.rowa hb)), Row.fr h.rowb f (fun b hb => h3 b (h.ownb b hb).1 (Row.lt h.rowb hb)), h.ne, h.owna, h.ownb, h.apart⟩
theorem Told.lta (h : Told n0 ta tb A B w va vb) : ta < w.heap.size := lt_of_block h.boxa
theorem Told.ltb (h : Told n0 ta tb A B w va vb) : tb < w.heap.size := lt_of_block h.boxb
theorem u64_one {L : List Nat} : ∀ u ∈ L.map u64v, u.oneCell' = true := by
  intro u hu
  obtain ⟨x, _, rfl⟩ := List.mem_map.1 hu
  rfl
theorem i64_one {L : List Int} : ∀ u ∈ L.map i64v, u.oneCell' = true := by
  intro u hu
  obtain ⟨x, _, rfl⟩ := List.mem_map.1 hu
  rfl
theorem row_obj {w : World} {e : TypeId} {size n : Nat} {v : Value} {xs : List Value} (h : Row w e size v n xs) {b : Nat} (hb : v.ownBlock = some b) : ∃ c t z, w.heap[b]? = some (.cells c t z) := by
  rcases h.2 with ⟨rfl, _⟩ | ⟨g, cap, cur, rfl, _, k1, _⟩
  · simp [Value.ownBlock] at hb
  · simp [Value.ownBlock] at hb; subst hb; exact ⟨_, _, _, k1⟩
theorem keepsOthers_cells {W W2 : World} {F : Nat → Prop} (f : Fr F W W2) (hF : ∀ b, F b → b < W.heap.size → ∃ c t z, W.heap[b]? = some (.cells c t z)) : KeepsOthers W W2 :=
  ⟨f.size, fun k o hk ho => f.get hk (fun e => by obtain ⟨c, t, z, h3⟩ := hF k e (lt_of_block hk); rw [h3] at hk; cases hk; simp [Obj.isCells] at ho)⟩
/-- One more in the first list. -/
theorem Told.appa (h : Told n0 ta tb A B w va vb) (hn : n0 ≤ w.heap.size) (hA : A.length ≤ 100000) (x : Nat) :
    ∃ a c W2, (Builtin.append_ #[26, 26] 26 #[va, .slice (some ⟨w.heap.size, 0, none⟩) 1 1]).run Try.prog (w.alloc (.cells #[.int .u64 (x : Int)] 38)) = .ok (.slice a (A.length + 1) c) W2 ∧
      W2.heap[ta]? = some (.cells #[va] 26 (0, 0)) ∧ Told n0 ta tb (A ++ [x]) B (W2.setCell ⟨ta, 0, none⟩ (.slice a (A.length + 1) c)) (.slice a (A.length + 1) c) vb ∧ Fr (fun b => b = ta ∨ n0 ≤ b) w (W2.setCell ⟨ta, 0, none⟩ (.slice a (A.length + 1) c)) ∧ KeepsOthers w (W2.setCell ⟨ta, 0, none⟩ (.slice a (A.length + 1) c)) := by
  have hr : Row w 38 1 va (A.map u64v).length (A.map u64v) := by rw [List.length_map]; exact h.rowa
  obtain ⟨a, c, W2, hrun, r, f, o⟩ := app_row Try.underlying26 Try.infoU64 rfl 26 hr (ys := [u64v x]) (by simp; omega) (by intro u hu; simp at hu; subst hu; rfl) (n := 1) rfl
  rw [List.length_map] at hrun r o
  have hbx := f.get h.boxa (fun e => (h.owna ta e).2.1 rfl)
  have hby := f.get h.boxb (fun e => (h.owna tb e).2.2 rfl)
  have fs : Fr (fun b => b = ta) W2 (W2.setCell ⟨ta, 0, none⟩ (.slice a (A.length + 1) c)) := Fr.setCell (F := fun b => b = ta) (p := ⟨ta, 0, none⟩) (Fr.refl _ _) (fun _ => rfl) _
  have hta := h.lta
  have htb := h.ltb
  have ho : ∀ b, (Value.slice a (A.length + 1) c).ownBlock = some b → n0 ≤ b ∧ b ≠ ta ∧ b ≠ tb := by
    intro b hb
    rcases o b hb with e | e
    · exact h.owna b e
    · exact ⟨by omega, by omega, by omega⟩
  have hap : ∀ b, (Value.slice a (A.length + 1) c).ownBlock = some b → vb.ownBlock ≠ some b := by
    intro b hb e2
    rcases o b hb with e | e
    · exact h.apart b e e2
    · have := Row.lt h.rowb e2; omega
  refine ⟨a, c, W2, hrun, hbx, ⟨setCell_blk (o := 0) hbx _, fs.get hby (fun e => h.ne e.symm), ?_, ?_, h.ne, ho, h.ownb, hap⟩, ?_, (keepsOthers_cells f (fun b hb _ => row_obj h.rowa hb)).trans (KeepsOthers.setCell W2 ⟨ta, 0, none⟩ _)⟩
  · have : Row W2 38 1 (.slice a (A.length + 1) c) (A ++ [x]).length ((A ++ [x]).map u64v) := by
      have r' := r
      rw [List.map_append]; simpa using r'
    exact Row.fr this fs (fun b hb => (ho b hb).2.1)
  · exact Row.fr (Row.fr h.rowb f (fun b hb e => h.apart b e hb)) fs (fun b hb => (h.ownb b hb).2.1)
  · exact (f.mono (fun b _ e => .inr (h.owna b e).1)).trans fs (fun b _ e => .inl e)
/-- One more in the second list. -/
theorem Told.appb (h : Told n0 ta tb A B w va vb) (hn : n0 ≤ w.heap.size) (hB : B.length ≤ 100000) (x : Int) :
    ∃ a c W2, (Builtin.append_ #[27, 27] 27 #[vb, .slice (some ⟨w.heap.size, 0, none⟩) 1 1]).run Try.prog (w.alloc (.cells #[.int .i64 x] 3)) = .ok (.slice a (B.length + 1) c) W2 ∧
      W2.heap[tb]? = some (.cells #[vb] 27 (0, 0)) ∧ Told n0 ta tb A (B ++ [x]) (W2.setCell ⟨tb, 0, none⟩ (.slice a (B.length + 1) c)) va (.slice a (B.length + 1) c) ∧ Fr (fun b => b = tb ∨ n0 ≤ b) w (W2.setCell ⟨tb, 0, none⟩ (.slice a (B.length + 1) c)) ∧ KeepsOthers w (W2.setCell ⟨tb, 0, none⟩ (.slice a (B.length + 1) c)) := by
  have hr : Row w 3 1 vb (B.map i64v).length (B.map i64v) := by rw [List.length_map]; exact h.rowb
  obtain ⟨a, c, W2, hrun, r, f, o⟩ := app_row Try.underlying27 Try.infoInt rfl 27 hr (ys := [i64v x]) (by simp; omega) (by intro u hu; simp at hu; subst hu; rfl) (n := 1) rfl
  rw [List.length_map] at hrun r o
  have hbx := f.get h.boxa (fun e => (h.ownb ta e).2.1 rfl)
  have hby := f.get h.boxb (fun e => (h.ownb tb e).2.2 rfl)
  have fs : Fr (fun b => b = tb) W2 (W2.setCell ⟨tb, 0, none⟩ (.slice a (B.length + 1) c)) := Fr.setCell (F := fun b => b = tb) (p := ⟨tb, 0, none⟩) (Fr.refl _ _) (fun _ => rfl) _
  have hta := h.lta
  have htb := h.ltb
  have ho : ∀ b, (Value.slice a (B.length + 1) c).ownBlock = some b → n0 ≤ b ∧ b ≠ ta ∧ b ≠ tb := by
    intro b hb
    rcases o b hb with e | e
    · exact h.ownb b e
    · exact ⟨by omega, by omega, by omega⟩
  have hap : ∀ b, va.ownBlock = some b → (Value.slice a (B.length + 1) c).ownBlock ≠ some b := by
    intro b e2 hb
    rcases o b hb with e | e
    · exact h.apart b e2 e
    · have := Row.lt h.rowa e2; omega
  refine ⟨a, c, W2, hrun, hby, ⟨fs.get hbx h.ne, setCell_blk (o := 0) hby _, ?_, ?_, h.ne, h.owna, ho, hap⟩, ?_, (keepsOthers_cells f (fun b hb _ => row_obj h.rowb hb)).trans (KeepsOthers.setCell W2 ⟨tb, 0, none⟩ _)⟩
  · exact Row.fr (Row.fr h.rowa f (fun b hb e => h.apart b hb e)) fs (fun b hb => (h.owna b hb).2.2)
  · have : Row W2 3 1 (.slice a (B.length + 1) c) (B ++ [x]).length ((B ++ [x]).map i64v) := by
      have r' := r
      rw [List.map_append]; simpa using r'
    exact Row.fr this fs (fun b hb => (ho b hb).2.2)
  · exact (f.mono (fun b _ e => .inr (h.ownb b e).1)).trans fs (fun b _ e => .inl e)
theorem Told.grown {A' B' : World} {row : Option Nat} (h : Told n0 ta tb A B A' va vb) (hg : A'.grownBy B' row) (hr : ∀ r, row = some r → ∃ o : Obj, A'.heap[r]? = some o ∧ o.isCells = false) : Told n0 ta tb A B B' va vb := by
  have f := grownBy.fr hg
  have no : ∀ {c : Array Value} {t : TypeId} {z : Nat × Nat} {b : Nat}, A'.heap[b]? = some (.cells c t z) → ¬ row = some b := by
    intro c t z b hb e
    obtain ⟨o, h1, h2⟩ := hr b e
    rw [hb] at h1; cases h1; simp [Obj.isCells] at h2
  refine ⟨f.get h.boxa (no h.boxa), f.get h.boxb (no h.boxb), Row.fr h.rowa f ?_, Row.fr h.rowb f ?_, h.ne, h.owna, h.ownb, h.apart⟩
  · intro b hb e
    obtain ⟨c, t, z, h3⟩ := row_obj h.rowa hb
    exact no h3 e
  · intro b hb e
    obtain ⟨c, t, z, h3⟩ := row_obj h.rowb hb
    exact no h3 e
end told
end Go.Proofs.Ytiebcmlfppepaaa.Ix
