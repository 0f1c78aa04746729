/- Cabins in memory: which may be. No condition. -/
import Derived.Test.YthckfbfenfkdiaaDoorPyA
import Derived.Test.YthckfbfenfkdiaaDoorStI
namespace Go.Proofs.YthckfbfenfkdiaaDoor.Py
open Go.RowKit St
/-- The slice sv reads as the numbers L. -/
def RI (w : World) (sv : Value) (L : List Int) : Prop := ∃ a c, sv = .slice a L.length c ∧ L.length ≤ 140737488355328 ∧ (L = [] ∨ ∃ b o, a = some ⟨b, o, none⟩ ∧ ∀ i (h : i < L.length), w.cell? ⟨b, o + i, none⟩ = some (.int .i64 L[i]))
theorem RI.fr {w w' : World} {sv : Value} {L : List Int} (h : RI w sv L) {F : Nat → Prop} (f : Fr F w w') (hn : ∀ b, b < w.heap.size → sv.ownBlock = some b → ¬ F b) (hn2 : ∀ b o n c, sv = .slice (some ⟨b, o, none⟩) n c → ¬ F b) : RI w' sv L := by
  have _ := hn
  obtain ⟨a, c, e, h1, h2⟩ := h
  refine ⟨a, c, e, h1, ?_⟩
  rcases h2 with h2 | ⟨b, o, e2, h3⟩
  · exact .inl h2
  · refine .inr ⟨b, o, e2, fun i hi => ?_⟩
    have := h3 i hi
    rw [f.cell (World.block_lt_of_cell? _ _ this) (hn2 b o _ _ (by rw [e, e2]))]
    exact this
/-- Nothing that was has been written. -/
theorem RI.keep {w w' : World} {sv : Value} {L : List Int} (h : RI w sv L) (f : Fr (fun _ => False) w w') : RI w' sv L := h.fr f (fun _ _ _ h => h) (fun _ _ _ _ _ h => h)
/-- The seventeen marks. -/
def lieArr (L : List Int) : Array Value := ((List.range 17).map fun j : Nat => Value.bool (decide ((j : Int) ∈ L))).toArray
theorem lie_size (L : List Int) : (lieArr L).size = 17 := by simp [lieArr]
theorem lie_get (L : List Int) {j : Nat} (h : j < 17) : (lieArr L)[j]? = some (.bool (decide ((j : Int) ∈ L))) := by
  simp [lieArr, h]
theorem lie_one (L : List Int) : (lieArr L).all (·.oneCell') = true := by
  rw [Array.all_eq_true_iff_forall_mem]
  intro v hv
  simp [lieArr] at hv
  obtain ⟨j, _, rfl⟩ := hv
  rfl
theorem lie_set (L : List Int) (a : Int) (h0 : 0 ≤ a) (_h : a < 17) : (lieArr L).setIfInBounds a.toNat (.bool true) = lieArr (L ++ [a]) := by
  apply Array.ext_getElem?
  intro j
  by_cases hj : j < 17
  · rw [lie_get _ hj, Array.getElem?_setIfInBounds]
    by_cases e : a.toNat = j
    · rw [if_pos e, if_pos (by rw [lie_size]; omega)]
      have : (j : Int) = a := by omega
      simp [this]
    · rw [if_neg e, lie_get _ hj]
      have : (j : Int) ≠ a := by omega
      simp [this]
  · rw [Array.getElem?_eq_none (by rw [Array.size_setIfInBounds, lie_size]; omega), Array.getElem?_eq_none (by rw [lie_size]; omega)]
theorem lie_nil : lieArr [] = #[.bool false, .bool false, .bool false, .bool false, .bool false, .bool false, .bool false, .bool false, .bool false, .bool false, .bool false, .bool false, .bool false, .bool false, .bool false, .bool false, .bool false] := by rfl
theorem res_aisles {w : World} {tmps : Array Value} {b2 : Nat} {arr : Array Value} {q : Bool} (h2 : tmps.getD 2 undef = .pointer (some ⟨b2, 0, none⟩)) (h3 : tmps.getD 3 undef = .bool q) (hb : w.heap[b2]? = some (.cells arr 75 (0, 0))) (hs : arr.size = 17) :
    (results Tryd.f39 tmps).run Tryd.prog w = .ok (.tuple #[.agg arr, .bool q]) w := by
  have h2' : tmps[2]?.getD undef = .pointer (some ⟨b2, 0, none⟩) := by simpa using h2
  have h3' : tmps[3]?.getD undef = .bool q := by simpa using h3
  have hl := run_loadVar_row (P := Tryd.prog) w b2 75 75 arr (0, 0) _ hb Tryd.underlying75 rfl (by rw [hs]; kernel_rfl)
  simp [results, Tryd.f39, h2', h3', asAddr, hl]
set_option maxRecDepth 100000 in
set_option maxHeartbeats 1000000 in
theorem aisles_any {w : World} {sv : Value} {L : List Int} (h : RI w sv L) (r v : Int) : Calls Tryd.prog 39 #[.agg #[.int .i64 r, .int .i64 v, sv]] w fun e w' => (∃ P, e = .returned (.tuple #[.agg (lieArr P), .bool (rightB r v L)]) ∧ (rightB r v L = true → P = L)) ∧ Fr (fun _ => False) w w' := by
  have H := Lib.hid h
  obtain ⟨a0, c0, rfl, hlen, hcs⟩ := h
  have HCS := Lib.hid hcs
  clear hcs
  go_enter Tryd.func39, Tryd.ntmps39
  go_upto_region 1 with fail
  go_cut [1, 2, 4] (fun s1 s2 s4 wx => ∃ b1 b2 b4, s1 = .pointer (some ⟨b1, 0, none⟩) ∧ s2 = .pointer (some ⟨b2, 0, none⟩) ∧ s4 = .pointer (some ⟨b4, 0, none⟩) ∧ Hid (w.heap.size ≤ b1 ∧ w.heap.size ≤ b2 ∧ w.heap.size ≤ b4 ∧ b1 ≠ b4 ∧ b2 ≠ b4 ∧ b1 ≠ b2 ∧ wx.heap[b1]? = some (.cells #[.int .i64 r, .int .i64 v, .slice a0 L.length c0] 24 (0, 0)) ∧ wx.heap[b2]? = some (.cells (lieArr []) 75 (0, 0)) ∧ wx.heap[b4]? = some (.cells (lieArr []) 75 (0, 0)) ∧ Fr (fun _ => False) w wx))
  case first =>
   as_aux_lemma =>
    go_wp2_with fail
    go_meet
    refine ⟨_, _, _, rfl, rfl, rfl, Lib.hid ⟨Nat.le_refl _, by omega, by omega, by omega, by omega, by omega, ?_, ?_, ?_, Fr.alloc (Fr.alloc (Fr.alloc (Fr.refl _ _) _) _) _⟩⟩
    · simp only [heap_alloc_get]; simp; omega
    · simp only [heap_alloc_get]; simp [lie_nil]
    · simp only [heap_alloc_get]; simp [lie_nil]
  case rest =>
  obtain ⟨b1, b2, b4, rfl, rfl, rfl, HB⟩ := hcut
  have c10 := (cell_of HB.out.2.2.2.2.2.2.1 0).trans (show _ = some (Value.int .i64 r) from rfl)
  have c11 := (cell_of HB.out.2.2.2.2.2.2.1 1).trans (show _ = some (Value.int .i64 v) from rfl)
  have c12 := (cell_of HB.out.2.2.2.2.2.2.1 2).trans (show _ = some (Value.slice a0 L.length c0) from rfl)
  obtain ⟨q, hq⟩ : ∃ q, sizeOk r v = q := ⟨_, rfl⟩
  have HQ := Lib.hid hq
  clear hq
  go_upto_region 2 with fail
  go_cut [25] (fun s25 wx => s25 = .bool (!q) ∧ wc = wx)
  case first =>
   as_aux_lemma =>
    by_cases t1 : r < 1
    · have d1 : decide (r < 1) = true := by simpa using t1
      obtain rfl : q = false := by rw [← HQ.out]; simp [sizeOk]; omega
      clear t1
      go_wp2_with fail
      go_meet
      exact ⟨rfl, rfl⟩
    · have d1 : decide (r < 1) = false := by simpa using t1
      by_cases t2 : 64 < r
      · have d2 : decide (64 < r) = true := by simpa using t2
        obtain rfl : q = false := by rw [← HQ.out]; simp [sizeOk]; omega
        clear t1 t2
        go_wp2_with fail
        go_meet
        exact ⟨rfl, rfl⟩
      · have d2 : decide (64 < r) = false := by simpa using t2
        by_cases t3 : v < 1
        · have d3 : decide (v < 1) = true := by simpa using t3
          obtain rfl : q = false := by rw [← HQ.out]; simp [sizeOk]; omega
          clear t1 t2 t3
          go_wp2_with fail
          go_meet
          exact ⟨rfl, rfl⟩
        · have d3 : decide (v < 1) = false := by simpa using t3
          by_cases t4 : 16 < v
          · have d4 : decide (16 < v) = true := by simpa using t4
            obtain rfl : q = false := by rw [← HQ.out]; simp [sizeOk]; omega
            clear t1 t2 t3 t4
            go_wp2_with fail
            go_meet
            exact ⟨rfl, rfl⟩
          · have d4 : decide (16 < v) = false := by simpa using t4
            obtain rfl : q = true := by rw [← HQ.out]; simp [sizeOk]; omega
            clear t1 t2 t3 t4
            go_wp2_with fail
            go_meet
            exact ⟨rfl, rfl⟩
  case rest =>
  obtain ⟨rfl, rfl⟩ := hcut
  have hs4 : (P : Array Value) → P.size = 17 → (Tryd.prog.info? 75).map (·.size) = some P.size := fun P hP => by rw [hP]; kernel_rfl
  cases q with
  | false =>
    have hr : rightB r v L = false := by unfold rightB; rw [HQ.out]; rfl
    have HR := Lib.hid hr
    have HG2 := Lib.hid HB.out.2.2.2.2.2.2.2.1
    have HG4 := Lib.hid HB.out.2.2.2.2.2.2.2.2.1
    clear hr
    go_wp2_with (first | (refine wpList_load_row rfl 75 (.tmp 4) rfl b4 rfl 75 (lieArr []) (0, 0) _ HG4.out Tryd.underlying75 rfl (hs4 _ (lie_size _)) ?_) | (refine wpList_store_row rfl 75 (.tmp 2) (.tmp 26) rfl b2 (lieArr []) rfl rfl 75 (lieArr []) HG2.out (hs4 _ (lie_size _)) rfl (lie_one _) ?_))
    refine bodyPost_ret (v := .tuple #[.agg (lieArr []), .bool false]) (res_aisles (b2 := b2) rfl rfl (setRow_heap _ _ _ _ _ _ HG2.out) (lie_size _)) rfl ⟨⟨_, by rw [HR.out], fun e => by rw [HR.out] at e; cases e⟩, ?_⟩
    refine ⟨HB.out.2.2.2.2.2.2.2.2.2.os, HB.out.2.2.2.2.2.2.2.2.2.tape, HB.out.2.2.2.2.2.2.2.2.2.output, ?_, fun k hk hn => ?_⟩
    · simp; exact HB.out.2.2.2.2.2.2.2.2.2.size
    · rw [setRow_other _ _ _ _ (by have := HB.out.2.1; omega)]; exact HB.out.2.2.2.2.2.2.2.2.2.blk k hk hn
  | true =>
    have hqv : 1 ≤ v ∧ v ≤ 16 := by have := HQ.out; simp [sizeOk] at this; omega
    have HV := Lib.hid hqv
    clear hqv
    go_wp2_with fail
    go_loopw [5, 30] (fun s5 s30 wr => ∃ k : Nat, s5 = .int .i64 (lastOf 0 (L.take k)) ∧ s30 = .int .i64 k ∧ k ≤ L.length ∧ Hid (aisOk v 0 (L.take k) = true) ∧ Hid (wr.heap[b1]? = some (.cells #[.int .i64 r, .int .i64 v, .slice a0 L.length c0] 24 (0, 0)) ∧ wr.heap[b2]? = some (.cells (lieArr []) 75 (0, 0)) ∧ wr.heap[b4]? = some (.cells (lieArr (L.take k)) 75 (0, 0)) ∧ Fr (fun _ => False) w wr)) (fun _ s30 _ => L.length - (intOf s30).toNat)
    case atStart => exact ⟨0, rfl, rfl, Nat.zero_le _, Lib.hid rfl, Lib.hid ⟨HB.out.2.2.2.2.2.2.1, HB.out.2.2.2.2.2.2.2.1, HB.out.2.2.2.2.2.2.2.2.1, HB.out.2.2.2.2.2.2.2.2.2⟩⟩
    case round =>
      clear c10 c11 c12
      obtain ⟨k, rfl, rfl, hk, HO, HW⟩ := hrel
      by_cases hlt : k < L.length
      · have hlt' : (k : Int) < (L.length : Int) := by omega
        obtain ⟨b, o, rfl, hcc⟩ := HCS.out.resolve_left (by intro e; subst e; simp at hlt)
        have hck := hcc k hlt
        have hcw : wr.cell? ⟨b, o + k, none⟩ = some (.int .i64 L[k]) := by
          rw [HW.out.2.2.2.cell (World.block_lt_of_cell? _ _ hck) id]; exact hck
        have HTK : Hid (L.take (k + 1) = L.take k ++ [L[k]]) := Lib.hid (by rw [List.take_succ_eq_append_getElem hlt])
        have c11 := (cell_of HW.out.1 1).trans (show _ = some (Value.int .i64 v) from rfl)
        obtain ⟨x, hx⟩ : ∃ x, x = L[k] := ⟨_, rfl⟩
        rw [← hx] at hcw HTK
        obtain ⟨l, hl⟩ : ∃ l, l = lastOf 0 (L.take k) := ⟨_, rfl⟩
        rw [← hl]
        have HX := Lib.hid hx
        have HL := Lib.hid hl
        have hl0 : 0 ≤ l := by rw [hl]; exact lastOf_pos HO.out
        clear hck hcc hx
        by_cases t1 : x ≤ l
        · have d1 : decide (x ≤ l) = true := by simpa using t1
          have hbad : ¬ (lastOf 0 (L.take k) < x ∧ x < v) := by rw [← hl]; omega
          clear hl t1
          have hr : rightB r v L = false := by
            unfold rightB
            have e := aisOk_take v 0 (L.take (k + 1)) (L.drop (k + 1)) (by rw [HTK.out, aisOk_snoc]; simp; omega)
            rw [List.take_append_drop] at e
            rw [e, Bool.and_false]
          have HR := Lib.hid hr
          have HG2 := Lib.hid HW.out.2.1
          have HG4 := Lib.hid HW.out.2.2.1
          clear hr hbad
          go_wp2_with (first | (refine wpList_load_row rfl 75 (.tmp 4) rfl b4 rfl 75 (lieArr (L.take k)) (0, 0) _ HG4.out Tryd.underlying75 rfl (hs4 _ (lie_size _)) ?_) | (refine wpList_store_row rfl 75 (.tmp 2) (.tmp 43) rfl b2 (lieArr (L.take k)) rfl rfl 75 (lieArr []) HG2.out (hs4 _ (lie_size _)) rfl (lie_one _) ?_))
          refine bodyPost_ret (v := .tuple #[.agg (lieArr (L.take k)), .bool false]) (res_aisles (b2 := b2) rfl rfl (setRow_heap _ _ _ _ _ _ HG2.out) (lie_size _)) rfl ⟨⟨_, by rw [HR.out], fun e => by rw [HR.out] at e; cases e⟩, ?_⟩
          refine ⟨HW.out.2.2.2.os, HW.out.2.2.2.tape, HW.out.2.2.2.output, ?_, fun k hk hn => ?_⟩
          · simp; exact HW.out.2.2.2.size
          · rw [setRow_other _ _ _ _ (by have := HB.out.2.1; omega)]; exact HW.out.2.2.2.blk k hk hn
        · have d1 : decide (x ≤ l) = false := by simpa using t1
          by_cases t2 : v ≤ x
          · have d2 : decide (v ≤ x) = true := by simpa using t2
            have hbad : ¬ (lastOf 0 (L.take k) < x ∧ x < v) := by omega
            clear hl t1 t2
            have hr : rightB r v L = false := by
              unfold rightB
              have e := aisOk_take v 0 (L.take (k + 1)) (L.drop (k + 1)) (by rw [HTK.out, aisOk_snoc]; simp; omega)
              rw [List.take_append_drop] at e
              rw [e, Bool.and_false]
            have HR := Lib.hid hr
            have HG2 := Lib.hid HW.out.2.1
            have HG4 := Lib.hid HW.out.2.2.1
            clear hr hbad
            go_wp2_with (first | (refine wpList_load_row rfl 75 (.tmp 4) rfl b4 rfl 75 (lieArr (L.take k)) (0, 0) _ HG4.out Tryd.underlying75 rfl (hs4 _ (lie_size _)) ?_) | (refine wpList_store_row rfl 75 (.tmp 2) (.tmp 43) rfl b2 (lieArr (L.take k)) rfl rfl 75 (lieArr []) HG2.out (hs4 _ (lie_size _)) rfl (lie_one _) ?_))
            refine bodyPost_ret (v := .tuple #[.agg (lieArr (L.take k)), .bool false]) (res_aisles (b2 := b2) rfl rfl (setRow_heap _ _ _ _ _ _ HG2.out) (lie_size _)) rfl ⟨⟨_, by rw [HR.out], fun e => by rw [HR.out] at e; cases e⟩, ?_⟩
            refine ⟨HW.out.2.2.2.os, HW.out.2.2.2.tape, HW.out.2.2.2.output, ?_, fun k hk hn => ?_⟩
            · simp; exact HW.out.2.2.2.size
            · rw [setRow_other _ _ _ _ (by have := HB.out.2.1; omega)]; exact HW.out.2.2.2.blk k hk hn
          · have d2 : decide (v ≤ x) = false := by simpa using t2
            have HO2 : Hid (aisOk v 0 (L.take (k + 1)) = true) := Lib.hid (by rw [HTK.out, aisOk_snoc, HO.out, ← hl]; simp; omega)
            have hv16 := HV.out.2
            obtain ⟨j, rfl⟩ : ∃ j : Nat, x = (j : Int) := ⟨x.toNat, by omega⟩
            have hj17 : (j : Int) < 17 := by omega
            have hz4 := frozen_of_row wr b4 j _ _ HW.out.2.2.1
            have hc4 : wr.cell? ⟨b4, j, none⟩ = some (.bool (decide ((j : Int) ∈ L.take k))) := by rw [cell_of HW.out.2.2.1, lie_get _ (by omega)]
            obtain ⟨bv, hbv⟩ : ∃ bv, decide ((j : Int) ∈ L.take k) = bv := ⟨_, rfl⟩
            rw [hbv] at hc4
            clear hl t1 t2 hv16 hbv
            go_wp2_with fail
            go_roundw
            case rel =>
              refine ⟨k + 1, ?_, by go_num, by omega, HO2, Lib.hid ⟨?_, ?_, ?_, ?_⟩⟩
              · rw [HTK.out, lastOf_snoc]
              · rw [setCell_blk_ne (by have := HB.out.2.2.2.1; exact this)]; exact HW.out.1
              · rw [setCell_blk_ne (by have := HB.out.2.2.2.2.1; exact this)]; exact HW.out.2.1
              · rw [setCell_blk (o := j) HW.out.2.2.1, HTK.out, ← lie_set _ _ (by omega) hj17]; simp
              · exact HW.out.2.2.2.setCell (p := ⟨b4, j, none⟩) (fun hlt => absurd hlt (by have := HB.out.2.2.1; simp; omega)) _
            case measure => simp [intOf]; omega
      · have hlt' : ¬ (k : Int) < (L.length : Int) := by omega
        obtain rfl : k = L.length := by omega
        have hr : rightB r v L = true := by
          have := HO.out
          rw [List.take_length] at this
          unfold rightB; rw [HQ.out, this]; rfl
        rw [List.take_length] at HW
        have HR := Lib.hid hr
        have HG2 := Lib.hid HW.out.2.1
        have HG4 := Lib.hid HW.out.2.2.1
        clear hr
        go_wp2_with (first | (refine wpList_load_row rfl 75 (.tmp 4) rfl b4 rfl 75 (lieArr L) (0, 0) _ HG4.out Tryd.underlying75 rfl (hs4 _ (lie_size _)) ?_) | (refine wpList_store_row rfl 75 (.tmp 2) (.tmp 48) rfl b2 (lieArr L) rfl rfl 75 (lieArr []) HG2.out (hs4 _ (lie_size _)) rfl (lie_one _) ?_))
        refine bodyPost_ret (v := .tuple #[.agg (lieArr L), .bool true]) (res_aisles (b2 := b2) rfl rfl (setRow_heap _ _ _ _ _ _ HG2.out) (lie_size _)) rfl ⟨⟨_, by rw [HR.out], fun _ => rfl⟩, ?_⟩
        refine ⟨HW.out.2.2.2.os, HW.out.2.2.2.tape, HW.out.2.2.2.output, ?_, fun k hk hn => ?_⟩
        · simp; exact HW.out.2.2.2.size
        · rw [setRow_other _ _ _ _ (by have := HB.out.2.1; omega)]; exact HW.out.2.2.2.blk k hk hn
end Go.Proofs.YthckfbfenfkdiaaDoor.Py
