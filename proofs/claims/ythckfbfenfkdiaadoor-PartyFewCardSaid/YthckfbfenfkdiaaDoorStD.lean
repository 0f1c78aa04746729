/- The stable sort of slices of runs: rotate; what is compared. No condition. -/
import Derived.Test.YthckfbfenfkdiaaDoorStC
namespace Go.Proofs.YthckfbfenfkdiaaDoor.St
open Go.RowKit Go.Sort
/-- How far the exchange of two parts has come. -/
structure Rt (a m b i j : Nat) (d dk : Array Sp) : Prop where
  i1 : 1 ≤ i
  j1 : 1 ≤ j
  im : a + i ≤ m
  jb : m + j ≤ b
  size : dk.size = d.size
  get : ∀ x, roF (fun x => dk[x]!) m i j x = roF (fun x => d[x]!) m (m - a) (b - m) x
theorem Rt.start {a m b : Nat} (d : Array Sp) (h1 : a < m) (h2 : m < b) : Rt a m b (m - a) (b - m) d d := ⟨by omega, by omega, by omega, by omega, rfl, fun _ => rfl⟩
theorem Rt.big {a m b i j : Nat} {d dk d' : Array Sp} (h : Rt a m b i j d dk) (hij : j < i) (s : SwR (m - i) m j dk d') : Rt a m b (i - j) j d d' := by
  obtain ⟨h1, h2, h3, h4, h5, h6⟩ := h
  exact ⟨by omega, h2, by omega, h4, s.size.trans h5, fun x => (roF_big s (by omega) hij x).trans (h6 x)⟩
theorem Rt.small {a m b i j : Nat} {d dk d' : Array Sp} (h : Rt a m b i j d dk) (hij : i < j) (s : SwR (m - i) (m + j - i) i dk d') : Rt a m b i (j - i) d d' := by
  obtain ⟨h1, h2, h3, h4, h5, h6⟩ := h
  exact ⟨h1, by omega, h3, by omega, s.size.trans h5, fun x => (roF_small s (by omega) hij x).trans (h6 x)⟩
theorem Rt.done {a m b i : Nat} {d dk d' : Array Sp} (h : Rt a m b i i d dk) (ham : a ≤ m) (hmb : m ≤ b) (s : SwR (m - i) m i dk d') : Ro a m b d d' := by
  obtain ⟨h1, h2, h3, h4, h5, h6⟩ := h
  exact Ro.of ham hmb (s.size.trans h5) (fun x => (roF_same s (by omega) x).trans (h6 x))
set_option maxRecDepth 100000 in
set_option maxHeartbeats 1000000 in
theorem rotate_ok (g : Nat) (cb : Array Value) {w : World} {b cap n : Nat} {d : Array Sp} (h : RA w b cap d) (hn : d.size = n) (a m e : Nat) (h1 : a < m) (h2 : m < e) (h3 : e ≤ n) :
    Calls Tryd.prog 62 #[.slice (some ⟨b, 0, none⟩) n cap, .int .i64 a, .int .i64 m, .int .i64 e, .func (.func g) #[] cb] w fun r w' => r = .returned (.tuple #[]) ∧ ∃ d', Ro a m e d d' ∧ RA w' b cap d' ∧ Fr (fun k => k = b) w w' := by
  subst hn
  have hmx := h.mx
  have hle := h.le
  unfold maxLen at hmx
  have H := Lib.hid h
  clear h
  have q1 : (m : Int) - (a : Int) = ((m - a : Nat) : Int) := by omega
  have q2 : (e : Int) - (m : Int) = ((e - m : Nat) : Int) := by omega
  have HS := Lib.hid (Rt.start d h1 h2)
  have hb1 : m - a ≤ d.size := by omega
  have hb2 : e - m ≤ d.size := by omega
  obtain ⟨i0, hi0⟩ : ∃ i0, m - a = i0 := ⟨_, rfl⟩
  obtain ⟨j0, hj0⟩ : ∃ j0, e - m = j0 := ⟨_, rfl⟩
  rw [hi0] at q1 hb1 HS; rw [hj0] at q2 hb2 HS
  clear hi0 hj0
  go_enter Tryd.func62, Tryd.ntmps62
  go_wp2_with fail
  go_loopw [10, 11] (fun s10 s11 wr => ∃ (i j : Nat) (dk : Array Sp), s10 = .int .i64 i ∧ s11 = .int .i64 j ∧ Hid (Rt a m e i j d dk) ∧ Hid (RA wr b cap dk) ∧ Hid (Fr (fun k => k = b) w wr)) (fun s10 s11 _ => (intOf s10).toNat + (intOf s11).toNat)
  case atStart => exact ⟨i0, j0, d, rfl, rfl, HS, H, Lib.hid (Fr.refl _ _)⟩
  case round =>
    clear q1 q2
    obtain ⟨i, j, dk, rfl, rfl, HT, HR, HF⟩ := hrel
    have g1 := HT.out.i1; have g2 := HT.out.j1; have g3 := HT.out.im; have g4 := HT.out.jb
    have hz := Lib.hid HT.out.size
    by_cases hne : i = j
    · subst hne
      have b1 : ((i : Int) != (i : Int)) = false := by simp
      obtain ⟨x, hx⟩ : ∃ x : Nat, m - i = x := ⟨_, rfl⟩
      have hx' : (m : Int) - (i : Int) = (x : Int) := by omega
      have HX := Lib.hid hx
      clear hx
      go_wp2_with fail
      refine (swapRange_ok g cb (n := d.size) HR.out hz.out x m i (by have := HX.out; omega) (by omega) (by have := HX.out; omega)).mono ?_
      rintro r w1 ⟨rfl, d1, hs, hr, hf⟩
      have HS1 := Lib.hid hs; have HR1 := Lib.hid hr; have HF1 := Lib.hid hf
      clear hs hr hf
      go_wp2_with fail
      go_end0
      refine ⟨rfl, d1, HT.out.done (by omega) (by omega) ?_, HR1.out, HF.out.trans HF1.out (fun _ _ h => h)⟩
      rw [HX.out]; exact HS1.out
    · have b1 : ((i : Int) != (j : Int)) = true := by simp; omega
      by_cases hlt : j < i
      · have b2 : decide ((i : Int) > (j : Int)) = true := by simp; omega
        have b2' : decide (j < i) = true := by simpa using hlt
        obtain ⟨x, hx⟩ : ∃ x : Nat, m - i = x := ⟨_, rfl⟩
        have hx' : (m : Int) - (i : Int) = (x : Int) := by omega
        obtain ⟨y, hy⟩ : ∃ y : Nat, i - j = y := ⟨_, rfl⟩
        have hy' : (i : Int) - (j : Int) = (y : Int) := by omega
        have HX := Lib.hid hx; have HY := Lib.hid hy
        clear hx hy
        go_wp2_with fail
        refine (swapRange_ok g cb (n := d.size) HR.out hz.out x m j (by have := HX.out; omega) (by omega) (by have := HX.out; omega)).mono ?_
        rintro r w1 ⟨rfl, d1, hs, hr, hf⟩
        have HS1 := Lib.hid hs; have HR1 := Lib.hid hr; have HF1 := Lib.hid hf
        clear hs hr hf
        go_wp2_with fail
        go_roundw
        case rel =>
          refine ⟨y, j, d1, rfl, rfl, ?_, HR1, Lib.hid (HF.out.trans HF1.out (fun _ _ h => h))⟩
          rw [← HY.out]
          exact Lib.hid (HT.out.big hlt (by rw [HX.out]; exact HS1.out))
        case measure => have := HY.out; simp [intOf]; omega
      · have b2 : decide ((i : Int) > (j : Int)) = false := by simp; omega
        have b2' : decide (j < i) = false := by simpa using hlt
        obtain ⟨x, hx⟩ : ∃ x : Nat, m - i = x := ⟨_, rfl⟩
        have hx' : (m : Int) - (i : Int) = (x : Int) := by omega
        obtain ⟨y, hy⟩ : ∃ y : Nat, j - i = y := ⟨_, rfl⟩
        have hy' : (j : Int) - (i : Int) = (y : Int) := by omega
        obtain ⟨z, hz0⟩ : ∃ z : Nat, m + j - i = z := ⟨_, rfl⟩
        have hz1 : (m : Int) + (j : Int) - (i : Int) = (z : Int) := by omega
        have HX := Lib.hid hx; have HY := Lib.hid hy; have HZ := Lib.hid hz0
        clear hx hy hz0
        go_wp2_with fail
        refine (swapRange_ok g cb (n := d.size) HR.out hz.out x z i (by have := HX.out; omega) (by have := HZ.out; omega) (by have := HX.out; have := HZ.out; omega)).mono ?_
        rintro r w1 ⟨rfl, d1, hs, hr, hf⟩
        have HS1 := Lib.hid hs; have HR1 := Lib.hid hr; have HF1 := Lib.hid hf
        clear hs hr hf
        go_wp2_with fail
        go_roundw
        case rel =>
          refine ⟨i, y, d1, rfl, rfl, ?_, HR1, Lib.hid (HF.out.trans HF1.out (fun _ _ h => h))⟩
          rw [← HY.out]
          exact Lib.hid (HT.out.small (by omega) (by rw [HX.out, HZ.out]; exact HS1.out))
        case measure => have := HY.out; simp [intOf]; omega
/-- What the closure tells of two runs. -/
def cmpI (x y : Sp) : Int := (x.2 : Int) - (y.2 : Int)
def cmpV (x y : Sp) : Int := IntKind.i64.wrap (cmpI x y)
def cmpB (x y : Sp) : Bool := decide (cmpV x y < 0)
theorem cmpV_eq {x y : Sp} (hx : Ok x) (hy : Ok y) : cmpV x y = (x.2 : Int) - (y.2 : Int) := by
  unfold Ok at hx hy; unfold cmpV cmpI; rw [IntKind.wrap_i64]; omega
theorem like_cmp : Like cmpB := by
  intro x y hx hy h
  unfold cmpB
  rw [cmpV_eq hy hx, Bool.eq_iff_iff, lex_iff]
  simp; omega
set_option maxRecDepth 100000 in
theorem cmp_ok (W : World) (x y : Sp) : Calls Tryd.prog 26 #[.agg (enc x).toArray, .agg (enc y).toArray] W fun e W' => e = .returned (.int .i64 (cmpV x y)) ∧ ∃ q os', W' = grow (W.drewN q) os' := by
  obtain ⟨x0, x1⟩ := x
  obtain ⟨y0, y1⟩ := y
  obtain ⟨v, hv⟩ : ∃ v, v = cmpV (x0, x1) (y0, y1) := ⟨_, rfl⟩
  rw [← hv]
  have hv' : IntKind.i64.wrap ((x1 : Int) - (y1 : Int)) = v := by rw [hv]; rfl
  clear hv
  show Calls _ _ #[.agg #[.int .i64 x0, .int .i64 x1], .agg #[.int .i64 y0, .int .i64 y1]] _ _
  go_enter Tryd.func26, Tryd.ntmps26
  go_wp2_with fail
  go_ret
  refine ⟨rfl, 0, #[.cells #[.int .i64 x0, .int .i64 x1] 45] ++ #[.cells #[.int .i64 y0, .int .i64 y1] 45], ?_⟩
  show _ = grow W _
  rw [alloc_eq_grow, alloc_eq_grow, grow_grow]
theorem grow_fr (W : World) (q : Nat) (os : Array Obj) : Fr (fun _ => False) W (grow (W.drewN q) os) :=
  ⟨rfl, rfl, rfl, by rw [size_grow]; exact Nat.le_add_right _ _, fun k hk _ => heap_grow_old (W.drewN q) os hk⟩
end Go.Proofs.YthckfbfenfkdiaaDoor.St
