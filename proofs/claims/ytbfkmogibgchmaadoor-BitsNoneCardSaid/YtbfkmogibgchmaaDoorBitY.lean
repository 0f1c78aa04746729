/- BitsNone's walk. Condition: the table of math/bits. -/
import Derived.Test.YtbfkmogibgchmaaDoorBitX
import Derived.Test.YtbfkmogibgchmaaDoorArgi
namespace Go.Proofs.YtbfkmogibgchmaaDoor.Bt
open Go.ChangeShapes Go.WideShapes Go.ChangeAt Go.RowKit Go.Deep
section
variable {H : Type} {enc : TypeId × Value → H} {P : Program} {w : World} {base : Nat} {spare : Nat → Bool} {held : Bool}
/-- A struct of three ints, by value. -/
theorem struct3 {t : TypeId} {fs : Array Field} {v : Value} {d : DataW H} {p : List MemPlace} (ht : P.underlying t = some (.struct fs)) (hone : allInts P fs = true) (hC : P.cellsOf t = 3) (h3 : fs.size = 3)
    {Q : Prop} (_ : Q) (h : DataW.Trod enc P w base spare held t v d p) : ∃ x y z, v = .agg #[.int .i64 x, .int .i64 y, .int .i64 z] ∧ Fits x ∧ Fits y ∧ Fits z := by
  obtain ⟨fuel, hf⟩ := h
  obtain ⟨ys, n', _, _, hlen, hyl, hff⟩ := DataW.trod_struct ht hf
  rw [hC] at hlen
  have key : ∀ j, (hj : j < 3) → ∃ x, v.cells.toList[j]? = some (.int .i64 x) ∧ Fits x := by
    intro j hj
    have hjs : j < fs.size := by omega
    have hj' := Array.getElem?_eq_getElem hjs
    obtain ⟨ho, hk, hu⟩ := allInts_of hone j _ hj'
    have h1 := hff j _ hj'
    rw [ho, hk] at h1
    have hone' : (v.cells.toList.drop j).take 1 = [v.cells.toList[j]'(by omega)] := by
      rw [List.drop_eq_getElem_cons (by omega)]
      rfl
    rw [hone'] at h1
    have hys : ys[j]? = some (ys[j]'(by omega)) := List.getElem?_eq_getElem (by omega)
    obtain ⟨x, hx1, _, hx3⟩ := DataW.trod_int hu (h1.trans hys)
    refine ⟨x, ?_, fits_wf hx3⟩
    rw [List.getElem?_eq_getElem (by omega)]
    simpa using hx1
  obtain ⟨x, hx, fx⟩ := key 0 (by omega)
  obtain ⟨y, hy, fy⟩ := key 1 (by omega)
  obtain ⟨z, hz, fz⟩ := key 2 (by omega)
  refine ⟨x, y, z, ?_, fx, fy, fz⟩
  have hcs : v.cells = #[.int .i64 x, .int .i64 y, .int .i64 z] := by
    apply Array.ext'
    apply List.ext_getElem?
    intro i
    match i with
    | 0 => rw [hx]; rfl
    | 1 => rw [hy]; rfl
    | 2 => rw [hz]; rfl
    | i + 3 => rw [List.getElem?_eq_none (by omega), List.getElem?_eq_none (by simp)]
  cases v with
  | agg cs => simp [Value.cells] at hcs; rw [hcs]
  | _ => simp [Value.cells] at hcs
end
set_option maxRecDepth 100000 in
set_option maxHeartbeats 4000000 in
theorem nones_walk (w : World) (hT : TabOk w) {x y z : Int} (fx : Fits x) (_fy : Fits y) (_fz : Fits z) :
    Calls Tryd.prog 8 #[.agg #[.int .i64 x, .int .i64 y, .int .i64 z]] w fun e w' => e = .returned (.bool true) ∧ Fr (fun _ => False) w w' := by
  have fa : Fr (fun _ => False) w (w.alloc (.cells #[.int .i64 x, .int .i64 y, .int .i64 z] 67)) := Fr.alloc (Fr.refl _ _) _
  have hob : (w.alloc (.cells #[.int .i64 x, .int .i64 y, .int .i64 z] 67)).heap[w.heap.size]? = some (.cells #[.int .i64 x, .int .i64 y, .int .i64 z] 67 (0, 0)) := by rw [heap_alloc_get]; simp
  have HT := Lib.hid (hT.fr fa (fun h => h)); have Fa := Lib.hid fa; have Hob := Lib.hid hob; have Fx := Lib.hid fx
  clear hT fa hob fx
  go_enter Tryd.func8, Tryd.ntmps8
  go_wp2_with fail
  refine (awake_ok HT.out).mono ?_
  rintro e w1 ⟨rfl, f1⟩
  have F1 := Lib.hid (Fa.out.trans f1 (fun _ _ h => h)); have Hob1 := Lib.hid (f1.get Hob.out (fun h => h))
  have NR := Lib.hid (ref_none w1)
  clear f1
  go_wp2_with fail
  refine (new_ok _ (n := 3) (by omega) (by omega)).mono ?_
  rintro e w2 ⟨bh, v, rfl, s1, s2, s3, s4⟩
  have NS := Lib.hid (NewSet.mk (w := w1.alloc (.cells #[.bool false, .slice none 0 0] 59)) s1 s2 s3 s4)
  clear s1 s2 s3 s4
  have NR2 := Lib.hid (NR.out.keep NS.out.fr)
  have Hob2 := Lib.hid (NR2.out.fr.get Hob1.out (fun h => h))
  have d0 := (cell_of Hob2.out 0).trans (show _ = some (Value.int .i64 x) from rfl)
  have d1 := (cell_of Hob2.out 1).trans (show _ = some (Value.int .i64 y) from rfl)
  have d2 := (cell_of Hob2.out 2).trans (show _ = some (Value.int .i64 z) from rfl)
  go_wp2_with fail
  refine (one_no (p := none) (.inl rfl) NR2.out.at_ x y z Fx.out).mono ?_
  rintro e w3 ⟨rfl, f3⟩
  have F3 := Lib.hid f3
  clear f3
  have fb : Fr (fun _ => False) w3 (w3.alloc (.cells #[.bool false, .int .i64 0, .slice none 0 0] 75)) := Fr.alloc (Fr.refl _ _) _
  have hns : NoSet (w3.alloc (.cells #[.bool false, .int .i64 0, .slice none 0 0] 75)) (some ⟨w3.heap.size, 0, none⟩) := .inr ⟨w3.heap.size, .int .i64 0, .slice none 0 0, rfl, by rw [heap_alloc_get]; simp⟩
  have hob3 := (F3.out.trans fb (fun _ _ h => h)).get Hob2.out (fun h => h)
  have d0 := (cell_of hob3 0).trans (show _ = some (Value.int .i64 x) from rfl)
  have d1 := (cell_of hob3 1).trans (show _ = some (Value.int .i64 y) from rfl)
  have d2 := (cell_of hob3 2).trans (show _ = some (Value.int .i64 z) from rfl)
  have Hns := Lib.hid hns; have Fb := Lib.hid fb
  clear hns fb hob3
  go_wp2_with fail
  refine (one_no Hns.out (NR2.out.keep (F3.out.trans Fb.out (fun _ _ h => h))).at_ x y z Fx.out).mono ?_
  rintro e w4 ⟨rfl, f4⟩
  have F4 := Lib.hid ((F3.out.trans Fb.out (fun _ _ h => h)).trans f4 (fun _ _ h => h))
  clear f4
  go_wp2_with fail
  refine (same_no1 (p := none) (.inl rfl)).mono ?_
  rintro e w5 ⟨rfl, f5⟩
  have F5 := Lib.hid (F4.out.trans f5 (fun _ _ h => h))
  clear f5
  have fc : Fr (fun _ => False) w5 (w5.alloc (.cells #[.bool false, .int .i64 0, .slice none 0 0] 75)) := Fr.alloc (Fr.refl _ _) _
  have hnt : NoSet (w5.alloc (.cells #[.bool false, .int .i64 0, .slice none 0 0] 75)) (some ⟨w5.heap.size, 0, none⟩) := .inr ⟨w5.heap.size, .int .i64 0, .slice none 0 0, rfl, by rw [heap_alloc_get]; simp⟩
  have Hnt := Lib.hid hnt; have Fc := Lib.hid fc
  clear hnt fc
  go_wp2_with fail
  refine (same_no2 (NS.out.keep (F5.out.trans Fc.out (fun _ _ h => h))).at_ Hnt.out).mono ?_
  rintro e w6 ⟨rfl, f6⟩
  have F6 := Lib.hid ((F5.out.trans Fc.out (fun _ _ h => h)).trans f6 (fun _ _ h => h))
  clear f6
  go_wp2_with fail
  refine (same_no1 (p := none) (.inl rfl)).mono ?_
  rintro e w7 ⟨rfl, f7⟩
  have F7 := Lib.hid (F6.out.trans f7 (fun _ _ h => h))
  clear f7
  go_wp2_with fail
  refine (same_ok (NS.out.keep F7.out).at_ (NS.out.keep F7.out).at_).mono ?_
  rintro e w8 ⟨rfl, f8⟩
  have F8 := Lib.hid (F7.out.trans f8 (fun _ _ h => h))
  clear f8
  simp only [decide_true]
  go_wp2_with fail
  go_ret
  exact ⟨rfl, (F1.out.trans NR2.out.fr (fun _ _ h => h)).trans F8.out (fun _ _ h => h)⟩
end Go.Proofs.YtbfkmogibgchmaaDoor.Bt
