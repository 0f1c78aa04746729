/- Arguments that are cabins, or what is asked of a cabin, by value. No condition. -/
import Derived.Test.YthckfbfenfkdiaaDoorPyB
import Derived.Test.YthckfbfenfkdiaaDoorArgi
import Derived.Lib.SmallJoins
import Derived.SizedLaws
namespace Go.Proofs.YthckfbfenfkdiaaDoor.Py
open Go.Joins Go.ChangeShapes Go.WideShapes Go.ChangeAt Go.RowKit Go.Deep
section
variable {H : Type} {enc : TypeId × Value → H} {w : World} {base : Nat} {spare : Nat → Bool} {held : Bool}
/-- What a slice of ints weighs. -/
def LenIn (L : List Int) (xs : List Nat) : Prop := L = [] ∨ ∃ n, L.length ≤ n ∧ n * 8 ∈ xs
theorem bytesInt : Tryd.prog.bytesOf 3 = 8 := by kernel_rfl
/-- A slice of ints, as it reads. -/
theorem open_ints1 {fuel : Nat} {v : Value} {x : DataW H × List MemPlace} (hf : DataW.trod enc Tryd.prog w base spare held fuel 22 [v] = some x) :
    ∃ L : List Int, (L.length ≤ 140737488355328 → RI w v L) ∧ (∀ y ∈ L, -9223372036854775808 ≤ y ∧ y ≤ 9223372036854775807) ∧ LenIn L (DataW.weights Tryd.prog 22 x.1) := by
  rcases open_slice Tryd.underlying22 hf with ⟨hcs, _⟩ | ⟨a, len, cap, m, n, D, Pl, hcs, hb, hl, hm, hmm, hx, hi⟩
  · simp at hcs
    subst hcs
    exact ⟨[], fun _ => ⟨none, 0, rfl, Nat.zero_le _, .inl rfl⟩, by simp, .inl rfl⟩
  · simp at hcs
    subst hcs
    have hlm : len ≤ m := by rw [hmm]; split <;> omega
    have hd : ∃ es sp : List (DataW H), x.1 = .slice es sp ∧ es.length = len := ⟨_, _, congrArg Prod.fst hx, by simp⟩
    have hw : len * 8 ∈ DataW.weights Tryd.prog 22 x.1 ∨ ∃ n, len ≤ n ∧ n * 8 ∈ DataW.weights Tryd.prog 22 x.1 := by
      obtain ⟨es, sp, e, hl⟩ := hd
      right
      refine ⟨es.length + sp.length, by omega, ?_⟩
      rw [e]
      simp [DataW.weights, Tryd.underlying22, bytesInt]
    have cell : ∀ i, i < len → ∃ x, w.cell? (a.add i) = some (.int .i64 x) ∧ -9223372036854775808 ≤ x ∧ x ≤ 9223372036854775807 := by
      intro i hil
      obtain ⟨cs', hc, ht'⟩ := hi i (by omega)
      have hC : Tryd.prog.cellsOf 3 = 1 := by kernel_rfl
      rw [hC] at hc
      obtain ⟨x, hx1, _, hx3⟩ := DataW.trod_int Tryd.underlying3 ht'
      obtain ⟨_, hcl, hat⟩ := World.cells?_some hc
      have h1 := hat 0 (by omega)
      rw [hx1] at h1
      refine ⟨x, ?_, fits_wf hx3⟩
      have e1 : (a.add (i * 1)).add 0 = a.add i := by rw [Go.Deep.add_add]; simp
      rw [e1] at h1
      simpa using h1
    by_cases hz : len = 0
    · subst hz
      exact ⟨[], fun _ => ⟨some a, cap, rfl, Nat.zero_le _, .inl rfl⟩, by simp, .inl rfl⟩
    · obtain ⟨b, o, sp⟩ := a
      have hsp : sp = none := by
        obtain ⟨x, hx1, _⟩ := cell 0 (by omega)
        simpa [Addr.add] using World.cell?_spot hx1
      subst hsp
      have cell' : ∀ i, i < len → ∃ x : Int, w.cell? ⟨b, o + i, none⟩ = some (.int .i64 x) ∧ -9223372036854775808 ≤ x ∧ x ≤ 9223372036854775807 := by
        intro i hil
        have e : (⟨b, o, none⟩ : Addr).add i = ⟨b, o + i, none⟩ := by
          unfold Addr.add
          split
          · first | (simp; done) | (simp; omega)
          · simp
        rw [← e]
        exact cell i hil
      refine ⟨(List.range len).map (fun i => if h : i < len then (cell' i h).choose else 0), fun hlen => ⟨some ⟨b, o, none⟩, cap, by simp, hlen, .inr ⟨b, o, rfl, fun i hi => ?_⟩⟩, ?_, .inr ?_⟩
      · have hi' : i < len := by simpa using hi
        simp only [List.getElem_map, List.getElem_range, dif_pos hi']
        exact (cell' i hi').choose_spec.1
      · intro y hy
        obtain ⟨i, hi, rfl⟩ := List.mem_map.1 hy
        have hi' : i < len := by simpa using hi
        rw [dif_pos hi']
        exact (cell' i hi').choose_spec.2
      · rcases hw with h | ⟨n, h1, h2⟩
        · exact ⟨len, by simp, h⟩
        · exact ⟨n, by simpa using h1, h2⟩
theorem LenIn.each {L : List Int} {t : TypeId} {d : DataW H} {ts : List TypeId} {ds : List (DataW H)} (h : LenIn L (DataW.weights Tryd.prog t d)) {j : Nat} (ht : ts[j]? = some t) (hd : ds[j]? = some d) : LenIn L (DataW.weightsEach Tryd.prog ts ds) := by
  rcases h with h | ⟨n, h1, h2⟩
  · exact .inl h
  · exact .inr ⟨n, h1, DataW.weights_mem_each ht hd _ h2⟩
theorem LenIn.small {L : List Int} {xs : List Nat} (h : LenIn L xs) (hx : xs.all (· ≤ reachBytes) = true) : L.length * 8 ≤ 140737488351232 := by
  rcases h with rfl | ⟨n, h1, h2⟩
  · simp
  · have h3 : n * 8 ≤ reachBytes := by simpa using List.all_eq_true.1 hx _ h2
    have e : reachBytes = 140737488351232 := rfl
    omega
theorem open_int1 {fuel : Nat} {v : Value} {x : DataW H × List MemPlace} (hf : DataW.trod enc Tryd.prog w base spare held fuel 3 [v] = some x) : ∃ n : Int, v = .int .i64 n ∧ -9223372036854775808 ≤ n ∧ n ≤ 9223372036854775807 := by
  obtain ⟨n, h1, _, h3⟩ := DataW.trod_int Tryd.underlying3 hf
  simp at h1
  exact ⟨n, h1, fits_wf h3⟩
set_option maxRecDepth 100000 in
/-- A cabin's three cells. -/
theorem open_cab3 {fuel : Nat} {cs : List Value} {x : DataW H × List MemPlace} (hf : DataW.trod enc Tryd.prog w base spare held fuel 24 cs = some x) :
    ∃ (r v : Int) (sv : Value) (L : List Int), cs = [.int .i64 r, .int .i64 v, sv] ∧ (L.length ≤ 140737488355328 → RI w sv L) ∧ LenIn L (DataW.weights Tryd.prog 24 x.1) := by
  have k1 : Tryd.prog.cellsOf 3 = 1 := by kernel_rfl
  have k2 : Tryd.prog.cellsOf 22 = 1 := by kernel_rfl
  have k3 : Tryd.prog.cellsOf 24 = 3 := by kernel_rfl
  obtain ⟨y0, y1, y2, n, rfl, hl, h0, h1, h2⟩ := trod_struct3 Tryd.underlying24 hf
  rw [k3] at hl
  obtain ⟨a, b, c, rfl⟩ : ∃ a b c, cs = [a, b, c] := by
    match cs, hl with
    | [a, b, c], _ => exact ⟨a, b, c, rfl⟩
  simp only [k1, k2, List.drop_zero, List.drop_succ_cons, List.take_succ_cons, List.take_zero] at h0 h1 h2
  obtain ⟨r, rfl, _⟩ := open_int1 h0
  obtain ⟨v, rfl, _⟩ := open_int1 h1
  obtain ⟨L, hL, _, hw⟩ := open_ints1 h2
  refine ⟨r, v, c, L, rfl, hL, ?_⟩
  simp only [DataW.weights, Tryd.underlying24]
  exact hw.each (j := 2) rfl rfl
set_option maxRecDepth 100000 in
/-- A cabin by value. -/
theorem open_cabin {r0 : Reach} {b0 : Nat} {v : Value} {d : DataW H} {p : List MemPlace} (hv : Value.okWide Tryd.prog w r0 b0 24 v) (h : DataW.Trod enc Tryd.prog w base spare held 24 v d p)
    {ts : List TypeId} {ds : List (DataW H)} (hsz : (DataW.weightsEach Tryd.prog ts ds).all (· ≤ reachBytes) = true) {j : Nat} (ht : ts[j]? = some 24) (hd : ds[j]? = some d) :
    ∃ (r v' : Int) (sv : Value) (L : List Int), v = .agg #[.int .i64 r, .int .i64 v', sv] ∧ RI w sv L ∧ L.length * 8 ≤ 140737488351232 := by
  obtain ⟨cs, rfl, hc⟩ := okWide_struct Tryd.underlying24 hv
  obtain ⟨fuel, hf⟩ := h
  obtain ⟨r, v', sv, L, e, hL, hw⟩ := open_cab3 hf
  have hb := (hw.each ht hd).small hsz
  refine ⟨r, v', sv, L, ?_, hL (by omega), hb⟩
  congr 1
  apply Array.ext'
  simpa [Value.cells] using e
set_option maxRecDepth 100000 in
/-- What is asked, by value. -/
theorem open_asked {r0 : Reach} {b0 : Nat} {v : Value} {d : DataW H} {p : List MemPlace} (hv : Value.okWide Tryd.prog w r0 b0 41 v) (h : DataW.Trod enc Tryd.prog w base spare held 41 v d p)
    {ts : List TypeId} {ds : List (DataW H)} (hsz : (DataW.weightsEach Tryd.prog ts ds).all (· ≤ reachBytes) = true) {j : Nat} (ht : ts[j]? = some 41) (hd : ds[j]? = some d) :
    ∃ (r v' : Int) (sv : Value) (L : List Int) (tv : Value) (T : List Int) (off : Int), v = .agg #[.int .i64 r, .int .i64 v', sv, tv, .int .i64 off] ∧ RI w sv L ∧ L.length * 8 ≤ 140737488351232 ∧ RI w tv T ∧ T.length * 8 ≤ 140737488351232 ∧ -9223372036854775808 ≤ off ∧ off ≤ 9223372036854775807 := by
  obtain ⟨cs, rfl, hc⟩ := okWide_struct Tryd.underlying41 hv
  obtain ⟨fuel, hf⟩ := h
  have k1 : Tryd.prog.cellsOf 3 = 1 := by kernel_rfl
  have k2 : Tryd.prog.cellsOf 22 = 1 := by kernel_rfl
  have k3 : Tryd.prog.cellsOf 24 = 3 := by kernel_rfl
  have k5 : Tryd.prog.cellsOf 41 = 5 := by kernel_rfl
  obtain ⟨y0, y1, y2, n, hx, hl, h0, h1, h2⟩ := trod_struct3 Tryd.underlying41 hf
  rw [k5] at hc
  obtain ⟨a, b, c, e, f, rfl⟩ : ∃ a b c e f, cs = #[a, b, c, e, f] := by
    obtain ⟨l⟩ := cs
    match l, hc with
    | [a, b, c, e, f], _ => exact ⟨a, b, c, e, f, rfl⟩
  have hcl : (Value.agg #[a, b, c, e, f]).cells.toList = [a, b, c, e, f] := by simp [Value.cells]
  rw [hcl] at h0 h1 h2
  simp only [k1, k2, k3, List.drop_zero, List.drop_succ_cons, List.take_succ_cons, List.take_zero] at h0 h1 h2
  obtain ⟨r, v', sv, L, e1, hL, hw⟩ := open_cab3 h0
  obtain ⟨T, hT, _, hw1⟩ := open_ints1 h1
  obtain ⟨off, rfl, ho⟩ := open_int1 h2
  simp only [List.cons.injEq, and_true] at e1
  obtain ⟨rfl, rfl, rfl⟩ := e1
  have hd1 : d = .agg [y0.1, y1.1, y2.1] := congrArg Prod.fst hx
  subst hd1
  have q1 : LenIn L (DataW.weights Tryd.prog 41 (.agg [y0.1, y1.1, y2.1])) := by
    simp only [DataW.weights, Tryd.underlying41]
    exact hw.each (j := 0) rfl rfl
  have q2 : LenIn T (DataW.weights Tryd.prog 41 (.agg [y0.1, y1.1, y2.1])) := by
    simp only [DataW.weights, Tryd.underlying41]
    exact hw1.each (j := 1) rfl rfl
  have b1 := (q1.each ht hd).small hsz
  have b2 := (q2.each ht hd).small hsz
  exact ⟨r, v', c, L, e, T, off, rfl, hL (by omega), b1, hT (by omega), b2, ho.1, ho.2⟩
set_option maxRecDepth 100000 in
/-- A slice of ints. -/
theorem open_ri {a : Option Addr} {len cap : Nat} {d : DataW H} {p : List MemPlace} (h : DataW.Trod enc Tryd.prog w base spare held 22 (.slice a len cap) d p)
    {ts : List TypeId} {ds : List (DataW H)} (hsz : (DataW.weightsEach Tryd.prog ts ds).all (· ≤ reachBytes) = true) {j : Nat} (ht : ts[j]? = some 22) (hd : ds[j]? = some d) :
    ∃ L : List Int, RI w (.slice a len cap) L ∧ ∀ y ∈ L, -9223372036854775808 ≤ y ∧ y ≤ 9223372036854775807 := by
  obtain ⟨fuel, hf⟩ := h
  obtain ⟨L, hL, hF, hw⟩ := open_ints1 (v := .slice a len cap) (by simpa [Value.cells] using hf)
  have hb := (hw.each ht hd).small hsz
  exact ⟨L, hL (by omega), hF⟩
end
end Go.Proofs.YthckfbfenfkdiaaDoor.Py
