/- The index layer: does, made, awake. No condition. -/
import Derived.Test.YtiebcmlfppepaaaIxR
import Derived.Test.YtiebcmlfppepaaaPick
import Derived.Test.YtiebcmlfppepaaaArgk
namespace Go.Proofs.Ytiebcmlfppepaaa.Ix
open Go.RowKit
/-- A step: kind, id, number. -/
abbrev Op := Int × Nat × Int
def doL (most : Nat) (L : List (Nat × Int)) (o : Op) : List (Nat × Int) :=
  if o.1 = 1 then putL L most o.2.1 o.2.2 else if o.1 = 2 then upd L o.2.1 o.2.2 else if o.1 = 3 then L else if o.1 = 4 then del L o.2.1 else L
def kOp (j : Nat) : IntKind := if j = 1 then .u32 else .i64
def opAt (K : Nat → Nat → Int) (i : Nat) : Op := (K i 0, (K i 1).toNat, K i 2)
def opsOf (K : Nat → Nat → Int) (n : Nat) : List Op := (List.range n).map (opAt K)
def runL (most : Nat) (K : Nat → Nat → Int) (n : Nat) : List (Nat × Int) := (opsOf K n).foldl (doL most) []
theorem runL_zero (most : Nat) (K : Nat → Nat → Int) : runL most K 0 = [] := rfl
theorem runL_succ (most : Nat) (K : Nat → Nat → Int) (i : Nat) : runL most K (i + 1) = doL most (runL most K i) (opAt K i) := by
  unfold runL opsOf
  rw [List.range_succ, List.map_append, List.foldl_append]; rfl
set_option maxRecDepth 100000 in
set_option maxHeartbeats 1000000 in
theorem does_ok {w : World} {bh g N most st : Nat} {L : List (Nat × Int)} (h : IxAt w bh g N most L st) (o : Op) (hid : o.2.1 < 4294967296) :
    Calls Try.prog 11 #[.pointer (some ⟨bh, 0, none⟩), .agg #[.int .i64 o.1, .int .u32 (o.2.1 : Int), .int .i64 o.2.2]] w fun e w' => e = .returned (.tuple #[]) ∧ ∃ st', IxAt w' bh g N most (doL most L o) st' ∧ Fr (fun b => b = bh ∨ b = g) w w' := by
  obtain ⟨k, id, v⟩ := o
  simp only at hid
  have fa : Fr (fun _ => False) w (w.alloc (.cells #[.int .i64 k, .int .u32 (id : Int), .int .i64 v] 36)) := Fr.alloc (Fr.refl _ _) _
  have h1 := h.fr fa (fun h => h) (fun h => h)
  have fb := fa.mono (G := fun b => b = bh ∨ b = g) (fun _ _ h => h.elim)
  have HP := Lib.hid (put_ok h1 hid v); have HS := Lib.hid (set_ok h1 hid v); have HG := Lib.hid (get_ok h1 hid); have HD := Lib.hid (drop_ok h1 hid)
  have FB := Lib.hid fb; have H1 := Lib.hid h1
  clear h h1 fa fb hid
  go_enter Try.func11, Try.ntmps11
  by_cases k1 : k = 1
  · subst k1
    go_wp2_with fail
    refine HP.out.mono ?_
    rintro e w2 ⟨st', -, rfl, h2, f2⟩
    have H2 := Lib.hid h2; have F2 := Lib.hid f2
    clear h2 f2
    go_wp2_with fail
    go_end0
    exact ⟨rfl, st', by unfold doL; rw [if_pos rfl]; exact H2.out, FB.out.trans F2.out (fun _ _ h => h)⟩
  by_cases k2 : k = 2
  · subst k2
    go_wp2_with fail
    refine HS.out.mono ?_
    rintro e w2 ⟨st', -, rfl, h2, f2⟩
    have H2 := Lib.hid h2; have F2 := Lib.hid f2
    clear h2 f2
    go_wp2_with fail
    go_end0
    exact ⟨rfl, st', by unfold doL; rw [if_neg (by simp), if_pos rfl]; exact H2.out, FB.out.trans F2.out (fun _ _ h => h)⟩
  by_cases k3 : k = 3
  · subst k3
    go_wp2_with fail
    refine HG.out.mono ?_
    rintro e w2 ⟨st', -, rfl, h2, f2⟩
    have H2 := Lib.hid h2; have F2 := Lib.hid (f2.mono (G := fun b => b = bh ∨ b = g) (fun _ _ h => .inl h))
    clear h2 f2
    go_wp2_with fail
    go_end0
    exact ⟨rfl, st', by unfold doL; rw [if_neg (by simp), if_neg (by simp), if_pos rfl]; exact H2.out, FB.out.trans F2.out (fun _ _ h => h)⟩
  by_cases k4 : k = 4
  · subst k4
    go_wp2_with fail
    refine HD.out.mono ?_
    rintro e w2 ⟨st', -, rfl, h2, f2⟩
    have H2 := Lib.hid h2; have F2 := Lib.hid f2
    clear h2 f2
    go_wp2_with fail
    go_end0
    exact ⟨rfl, st', by unfold doL; rw [if_neg (by simp), if_neg (by simp), if_neg (by simp), if_pos rfl]; exact H2.out, FB.out.trans F2.out (fun _ _ h => h)⟩
  · have b1 : (k == 1) = false := by simpa using k1
    have b2 : (k == 2) = false := by simpa using k2
    have b3 : (k == 3) = false := by simpa using k3
    have b4 : (k == 4) = false := by simpa using k4
    have e : doL most L (k, id, v) = L := by unfold doL; rw [if_neg k1, if_neg k2, if_neg k3, if_neg k4]
    have HE := Lib.hid e
    clear e k1 k2 k3 k4
    go_wp2_with fail
    go_end0
    exact ⟨rfl, st, by rw [HE.out]; exact H1.out, FB.out⟩
/-- An index of one's own. -/
structure NewIx (w w' : World) (bh g N most : Nat) (L : List (Nat × Int)) (st : Nat) : Prop where
  at_ : IxAt w' bh g N most L st
  newh : w.heap.size ≤ bh
  newg : w.heap.size ≤ g
  up : IsUp N (2 * most)
  fr : Fr (fun _ => False) w w'
theorem NewIx.then {w w1 w2 : World} {bh g N most st st' : Nat} {L L' : List (Nat × Int)} (h : NewIx w w1 bh g N most L st) (k : IxAt w2 bh g N most L' st') {F : Nat → Prop} (f : Fr F w1 w2) (hF : ∀ b, F b → b = bh ∨ b = g ∨ w.heap.size ≤ b) : NewIx w w2 bh g N most L' st' :=
  ⟨k, h.newh, h.newg, h.up, Fr.toNew ((h.fr.mono (G := fun b => w.heap.size ≤ b) (fun _ _ h => h.elim)).trans f (fun b _ hb => by have := h.newh; have := h.newg; rcases hF b hb with e | e | e <;> omega))⟩
theorem wf_u32 {x : Int} (h : (Lit.int .u32 x).wf = true) : 0 ≤ x ∧ x < 4294967296 := by
  simp [Lit.wf, IntKind.min, IntKind.max, IntKind.signed, IntKind.bits] at h
  omega
set_option maxRecDepth 100000 in
set_option maxHeartbeats 2000000 in
theorem mades_ok {w : World} {n : Int} (hn : Fits n) {v : Value} {K : Nat → Nat → Int} {n1 : Nat} (h1 : KindsAt w v 3 kOp K n1) :
    Calls Try.prog 8 #[.int .i64 n, v] w fun e w' => ∃ bh g N st, e = .returned (.tuple #[.pointer (some ⟨bh, 0, none⟩), .bool true]) ∧ NewIx w w' bh g N (n % 4096 + 1).toNat (runL (n % 4096 + 1).toNat K (min n1 3000)) st := by
  obtain ⟨m, hm, hm1, hm2⟩ : ∃ m : Nat, n % 4096 + 1 = (m : Int) ∧ 1 ≤ m ∧ m ≤ 4096 := ⟨(n % 4096 + 1).toNat, by omega, by omega, by omega⟩
  rw [hm, Int.toNat_natCast]
  have hm0 : 1 + n % 4096 = (m : Int) := by omega
  obtain ⟨e2, e3, -⟩ := wrap_small (x := m) (by omega)
  obtain ⟨a1, c1, rfl, hnc, hcm, hor⟩ := id h1
  have hn1 : (n1 : Int) ≤ 9223372036854775807 := by unfold maxLen at hcm; omega
  have H1 := Lib.hid h1
  have HPk := Lib.hid (pick_ok n 4096 w hn.1 hn.2 (by omega) (by omega))
  have HNw := Lib.hid (new_ok w hm1 hm2)
  clear h1 hor hcm hnc hm1 hm2 hn
  go_enter Try.func8, Try.ntmps8
  go_wp2_with fail
  refine HPk.out.mono ?_
  rintro e w1 ⟨rfl, rfl⟩
  go_wp2_with fail
  refine HNw.out.mono ?_
  rintro e w1 ⟨bh, g, N, rfl, hu, hi, hb, hg, hf⟩
  have HN := Lib.hid (show NewIx w w1 bh g N m [] 0 from ⟨hi, hb, hg, hu, hf⟩)
  clear hu hi hb hg hf
  go_upto_block 0 with fail
  go_cut [8] (fun _ wx => ∃ st, NewIx w wx bh g N m (runL m K (min n1 3000)) st)
  case first =>
    go_wp2_with fail
    go_loopw [8] (fun s8 wr => ∃ (i st : Nat), s8 = .int .i64 (i : Int) ∧ i ≤ min n1 3000 ∧ NewIx w wr bh g N m (runL m K i) st) (fun s8 _ => n1 - (intOf s8).toNat)
    case atStart => exact ⟨0, 0, rfl, Nat.zero_le _, HN.out⟩
    case round =>
      obtain ⟨i, st, rfl, hi, hP⟩ := hrel
      have HP := Lib.hid hP
      have hIv := H1.out.fr hP.fr (fun b hb h => h) (by omega)
      clear hP
      by_cases hlt : i < n1
      · have hlt' : (i : Int) < (n1 : Int) := by omega
        by_cases hc : i < 3000
        · have hc' : (i : Int) < 3000 := by omega
          have i0 : (0 : Int) ≤ (i : Int) := by omega
          obtain ⟨a', c', e1, _, _, hor⟩ := hIv
          simp only [Value.slice.injEq] at e1
          obtain ⟨rfl, _, rfl⟩ := e1
          obtain ⟨lb, lo, rfl, hcell⟩ := hor.resolve_left (by omega)
          have kd := (hcell i 0 hlt (by omega)).1
          have ko := (hcell i 1 hlt (by omega)).1
          have ki := (hcell i 2 hlt (by omega)).1
          have hu := wf_u32 (hcell i 1 hlt (by omega)).2
          simp only [Nat.add_zero] at kd
          obtain ⟨o, ho⟩ : ∃ o, o = opAt K i := ⟨_, rfl⟩
          have o1 : K i 0 = o.1 := by rw [ho]; rfl
          have o2 : K i 1 = (o.2.1 : Int) := by rw [ho]; show K i 1 = ((K i 1).toNat : Int); omega
          have o3 : K i 2 = o.2.2 := by rw [ho]; rfl
          rw [o1] at kd; rw [o2] at ko hu; rw [o3] at ki
          change wr.cell? _ = some (.int .i64 o.1) at kd
          change wr.cell? _ = some (.int .u32 (o.2.1 : Int)) at ko
          change wr.cell? _ = some (.int .i64 o.2.2) at ki
          have HD := Lib.hid (does_ok HP.out.at_ o (by omega))
          have Hlt := Lib.hid hlt; have Hc := Lib.hid hc; have Ho := Lib.hid ho
          clear hcell hor hlt hc hi hu ho o1 o2 o3
          obtain ⟨k, id, v⟩ := o
          simp only at kd ko ki
          go_wp2_with fail
          refine HD.out.mono ?_
          rintro e w2 ⟨rfl, st', h2, f2⟩
          have hN := HP.out.then h2 f2 (fun b hb => by rcases hb with h | h <;> simp [h])
          rw [Ho.out, ← runL_succ] at hN
          have HN2 := Lib.hid hN
          clear h2 f2 hN kd ko ki
          go_wp2_with fail
          go_roundw
          case rel => exact ⟨i + 1, st', by first | (simp; done) | go_num, by have := Hlt.out; have := Hc.out; omega, HN2.out⟩
          case measure => have := Hlt.out; simp [intOf]; omega
        · have hc' : ¬ (i : Int) < 3000 := by omega
          have e : min n1 3000 = i := by omega
          have HE := Lib.hid e
          clear e hc hlt hi hIv
          go_wp2_with fail
          go_meet
          exact ⟨st, by rw [HE.out]; exact HP.out⟩
      · have hlt' : ¬ (i : Int) < (n1 : Int) := by omega
        have e : min n1 3000 = i := by omega
        have HE := Lib.hid e
        clear e hlt hi hIv
        go_wp2_with fail
        go_meet
        exact ⟨st, by rw [HE.out]; exact HP.out⟩
  case rest =>
  obtain ⟨st, hN⟩ := hcut
  have HN2 := Lib.hid hN
  clear hN
  go_wp2_with fail
  refine bodyPost_ret (v := .tuple #[.pointer (some ⟨bh, 0, none⟩), .bool true]) ?_ rfl ?_
  · simp [results, Try.results8, Try.f8, go_sem]
  · exact ⟨bh, g, N, st, rfl, HN2.out⟩
end Go.Proofs.Ytiebcmlfppepaaa.Ix
