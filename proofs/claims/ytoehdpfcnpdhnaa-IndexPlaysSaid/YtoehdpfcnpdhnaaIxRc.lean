/- The document's index: Set, Get, New, Slots. No condition. -/
import Derived.Test.YtoehdpfcnpdhnaaIxRb
namespace Go.Proofs.Ytoehdpfcnpdhnaa.Ix
open Go.RowKit
theorem flat2_set {L : List (Nat × Int)} {k : Nat} (hk : k < L.length) (x : Nat × Int) : flat2 (L.set k x) = ((flat2 L).set (k * 2) (.int .u32 (x.1 : Int))).set (k * 2 + 1) (.int .i64 x.2) := by
  have hs : L.set k x = L.take k ++ x :: L.drop (k + 1) := List.set_eq_take_append_cons_drop.trans (by rw [if_pos hk])
  have hl : L = L.take k ++ L[k] :: L.drop (k + 1) := by rw [← List.drop_eq_getElem_cons hk, List.take_append_drop]
  rw [hs]
  conv => rhs; rw [hl]
  rw [flat2_append, flat2_append, flat2_cons, flat2_cons]
  have h2 : (flat2 (L.take k)).length = k * 2 := by rw [flat2_length, List.length_take, Nat.min_eq_left (Nat.le_of_lt hk)]
  rw [List.set_append_right _ _ (by omega), List.set_append_right _ _ (by omega), h2]
  congr 1
  have e0 : k * 2 - k * 2 = 0 := by omega
  have e1 : k * 2 + 1 - k * 2 = 1 := by omega
  rw [e0, e1]
  rfl
theorem row2_set {w : World} {e : TypeId} {g n c k : Nat} {L : List (Nat × Int)} (h : Row w e 2 (.slice (some ⟨g, 0, none⟩) n c) L.length (flat2 L)) (hk : k < L.length) (x : Nat × Int) :
    Row ((w.setCell ⟨g, k * 2, none⟩ (.int .u32 (x.1 : Int))).setCell ⟨g, k * 2 + 1, none⟩ (.int .i64 x.2)) e 2 (.slice (some ⟨g, 0, none⟩) n c) (L.set k x).length (flat2 (L.set k x)) := by
  refine ⟨by rw [flat2_length], ?_⟩
  rcases h.2 with ⟨e0, h0⟩ | ⟨g', cap, cur, e0, _, k1, k2, k3, k4, k5⟩
  · omega
  · obtain ⟨ea, en, rfl⟩ := Value.slice.inj e0
    obtain rfl : g' = g := by simpa using ea.symm
    refine .inr ⟨g', c, _, by rw [List.length_set, en], Nat.zero_le _, setCell_blk (o := k * 2 + 1) (setCell_blk (o := k * 2) k1 _) _, by rw [List.length_set]; exact k2, k3, by simpa using k4, ?_⟩
    rw [flat2_set hk, List.length_set, ← k5, Array.toList_setIfInBounds, Array.toList_setIfInBounds, List.take_set, List.take_set]
theorem row2_setv {w : World} {e : TypeId} {g n c k : Nat} {L : List (Nat × Int)} (h : Row w e 2 (.slice (some ⟨g, 0, none⟩) n c) L.length (flat2 L)) (hk : k < L.length) (v : Int) :
    Row (w.setCell ⟨g, k * 2 + 1, none⟩ (.int .i64 v)) e 2 (.slice (some ⟨g, 0, none⟩) n c) (L.set k ((liAt L k).1, v)).length (flat2 (L.set k ((liAt L k).1, v))) := by
  refine ⟨by rw [flat2_length], ?_⟩
  rcases h.2 with ⟨e0, h0⟩ | ⟨g', cap, cur, e0, _, k1, k2, k3, k4, k5⟩
  · omega
  · obtain ⟨ea, en, rfl⟩ := Value.slice.inj e0
    obtain rfl : g' = g := by simpa using ea.symm
    refine .inr ⟨g', c, _, by rw [List.length_set, en], Nat.zero_le _, setCell_blk (o := k * 2 + 1) k1 _, by rw [List.length_set]; exact k2, k3, by simpa using k4, ?_⟩
    have e1 : (flat2 L).set (k * 2) (.int .u32 ((liAt L k).1 : Int)) = flat2 L := by
      obtain ⟨hl, e⟩ := List.getElem?_eq_some_iff.1 (flat2_get L k hk).1
      rw [← e, List.set_getElem_self]
    rw [flat2_set hk, List.length_set]
    simp only
    rw [e1, ← k5, Array.toList_setIfInBounds, List.take_set]
section
variable {w : World} {rh : Nat} {sv : Value} {L : List (Nat × Int)} {most : Nat}
set_option maxRecDepth 100000 in
theorem rset_ok (h : RefAt w rh sv L most) (hu : L.Pairwise fun a b => a.1 < b.1) (id : Nat) (v : Int) :
    Calls Try.prog 53 #[.pointer (some ⟨rh, 0, none⟩), .int .u32 (id : Int), .int .i64 v] w fun e w' => e = .returned (.bool (look L id).isSome) ∧ RefAt w' rh sv (upd L id v) most ∧ Fr (fun b => refP rh sv b) w w' := by
  have HA := Lib.hid (at_ok h hu id)
  have H := Lib.hid h; have HU := Lib.hid hu
  clear h hu
  go_enter Try.func53, Try.ntmps53
  go_wp2_with fail
  refine HA.out.mono ?_
  rintro e w1 ⟨k, rfl, hC, f1⟩
  have h1 := H.out.fr f1 (fun _ _ h => h)
  have ht := hC.there HU.out
  obtain ⟨bq, hbq⟩ : ∃ bq, bq = (look L id).isSome := ⟨_, rfl⟩
  rw [← hbq] at ht ⊢
  have HBq := Lib.hid hbq
  cases bq with
  | true =>
    have ht2 : k < L.length ∧ (liAt L k).1 = id := by
      have := ht.symm
      rw [Bool.and_eq_true, decide_eq_true_eq, beq_iff_eq] at this; exact this
    obtain ⟨hk, e⟩ := ht2
    obtain ⟨a, c, rfl, hc1, hc2⟩ := h1.shape
    obtain ⟨g, rfl, k0, k1, z⟩ := row2_cells h1.row hk
    have z1 := z (k * 2 + 1)
    have c1 := h1.c1
    have hkn : (k : Int) < (L.length : Int) := by omega
    have hk0 : (0 : Int) ≤ (k : Int) := by omega
    have hr := row2_setv h1.row hk v
    rw [e, ← CutK.upd HU.out hk e v] at hr
    have fs : Fr (fun b => b = g) w1 (w1.setCell ⟨g, k * 2 + 1, none⟩ (.int .i64 v)) := Fr.setCell (F := fun b => b = g) (p := ⟨g, k * 2 + 1, none⟩) (Fr.refl _ _) (fun _ => rfl) _
    have hng := h1.ne g rfl
    have HR := Lib.hid (show RefAt (w1.setCell ⟨g, k * 2 + 1, none⟩ (.int .i64 v)) rh (.slice (some ⟨g, 0, none⟩) L.length c) (upd L id v) most from ⟨fs.get h1.head (fun e => hng e.symm), hr, h1.ne, by rw [upd_length]; exact h1.few⟩)
    have HF := Lib.hid ((f1.mono (G := fun b => refP rh (.slice (some ⟨g, 0, none⟩) L.length c) b) (fun _ _ h => h.elim)).trans fs (fun b _ h => show refP rh _ b by subst h; exact .inr rfl))
    clear hr fs h1 hC ht hbq hk e z hc1 hc2 f1 H
    go_wp2_with fail
    go_ret
    exact ⟨by rw [← HBq.out]; rfl, HR.out, HF.out⟩
  | false =>
    have e : upd L id v = L := upd_none v (by cases hl : look L id with
      | none => rfl
      | some x => rw [hl] at hbq; simp at hbq)
    have HR := Lib.hid h1; have HF := Lib.hid f1; have HE := Lib.hid e
    clear h1 hC ht hbq e f1 H
    go_wp2_with fail
    go_ret
    exact ⟨by rw [← HBq.out]; rfl, by rw [HE.out]; exact HR.out, HF.out.mono (fun _ _ h => h.elim)⟩
set_option maxRecDepth 100000 in
theorem rget_ok (h : RefAt w rh sv L most) (hu : L.Pairwise fun a b => a.1 < b.1) (id : Nat) :
    Calls Try.prog 54 #[.pointer (some ⟨rh, 0, none⟩), .int .u32 (id : Int)] w fun e w' => e = .returned (.tuple #[.int .i64 ((look L id).getD 0), .bool (look L id).isSome]) ∧ Fr (fun _ => False) w w' := by
  have HA := Lib.hid (at_ok h hu id)
  have H := Lib.hid h; have HU := Lib.hid hu
  clear h hu
  go_enter Try.func54, Try.ntmps54
  go_wp2_with fail
  refine HA.out.mono ?_
  rintro e w1 ⟨k, rfl, hC, f1⟩
  have h1 := H.out.fr f1 (fun _ _ h => h)
  have ht := hC.there HU.out
  cases hlk : look L id with
  | some x =>
    have HK := Lib.hid hlk
    rw [hlk] at ht
    have ht2 : k < L.length ∧ (liAt L k).1 = id := by
      have := ht.symm
      simp only [Option.isSome_some] at this
      rw [Bool.and_eq_true, decide_eq_true_eq, beq_iff_eq] at this; exact this
    obtain ⟨hk, e⟩ := ht2
    obtain ⟨a, c, rfl, hc1, hc2⟩ := h1.shape
    obtain ⟨g, rfl, k0, k1, z⟩ := row2_cells h1.row hk
    have hx : (liAt L k).2 = x := by
      have := look_at HU.out hk
      rw [e, hlk] at this; exact (Option.some.inj this).symm
    rw [hx] at k1
    have c1 := h1.c1
    have hkn : (k : Int) < (L.length : Int) := by omega
    have hk0 : (0 : Int) ≤ (k : Int) := by omega
    have HF := Lib.hid f1
    clear h1 hC ht hlk hk e z hc1 hc2 f1 H hx HA
    simp only [Option.isSome_some, Option.getD_some]
    go_wp2_with fail
    refine bodyPost_ret (v := .tuple #[.int .i64 x, .bool true]) ?_ rfl ⟨by rw [HK.out]; rfl, HF.out⟩
    simp [results, Try.results54, Try.f54, go_sem]
  | none =>
    have HK := Lib.hid hlk
    have HF := Lib.hid f1
    clear h1 hC ht hlk f1 H HA
    simp only [Option.isSome_none, Option.getD_none]
    go_wp2_with fail
    refine bodyPost_ret (v := .tuple #[.int .i64 0, .bool false]) ?_ rfl ⟨by rw [HK.out]; rfl, HF.out⟩
    simp [results, Try.results54, Try.f54, go_sem]
end
set_option maxRecDepth 100000 in
theorem rnew_ok (w : World) {m : Nat} (h1 : 1 ≤ m) (h2 : m ≤ 4096) : Calls Try.prog 29 #[.int .i64 (m : Int)] w fun e w' => ∃ rh, e = .returned (.tuple #[.pointer (some ⟨rh, 0, none⟩), .int .i64 0]) ∧ RefAt w' rh (.slice none 0 0) [] m ∧ w.heap.size ≤ rh ∧ Fr (fun _ => False) w w' := by
  have b1 : decide ((m : Int) < 1) = false := by simp; omega
  have b2 : decide ((4096 : Int) < (m : Int)) = false := by simp; omega
  clear h1 h2
  go_enter Try.func29, Try.ntmps29
  go_wp2_with fail
  refine bodyPost_ret (v := .tuple #[.pointer (some ⟨w.heap.size, 0, none⟩), .int .i64 0]) ?_ rfl ?_
  · simp [results, Try.results29, Try.f29, go_sem]
  · exact ⟨w.heap.size, rfl, ⟨by rw [heap_alloc_get]; simp, World.ownsRow_nil _ _ _ _, by simp [Value.ownBlock], Nat.zero_le _⟩, Nat.le_refl _, Fr.alloc (Fr.refl _ _) _⟩
set_option maxRecDepth 100000 in
theorem rnew_err (w : World) {n : Int} (h : n < 1 ∨ 4096 < n) : Calls Try.prog 29 #[.int .i64 n] w fun e w' => e = .returned (.tuple #[.pointer none, .int .i64 2]) ∧ w = w' := by
  by_cases h0 : n < 1
  · have b1 : decide (n < 1) = true := by simpa using h0
    clear h
    go_enter Try.func29, Try.ntmps29
    go_wp2_with fail
    refine bodyPost_ret (v := .tuple #[.pointer none, .int .i64 2]) ?_ rfl ⟨rfl, rfl⟩
    simp [results, Try.results29, Try.f29, go_sem]
  · have b1 : decide (n < 1) = false := by simpa using h0
    have h1 : 4096 < n := by omega
    have b2 : decide (4096 < n) = true := by simpa using h1
    clear h h0 h1
    go_enter Try.func29, Try.ntmps29
    go_wp2_with fail
    refine bodyPost_ret (v := .tuple #[.pointer none, .int .i64 2]) ?_ rfl ⟨rfl, rfl⟩
    simp [results, Try.results29, Try.f29, go_sem]
set_option maxRecDepth 100000 in
theorem rslots_ok {w : World} {rh : Nat} {sv : Value} {L : List (Nat × Int)} {m : Nat} (h : RefAt w rh sv L m) (h1 : 1 ≤ m) (h2 : m ≤ 4096) {N : Nat} (hN : IsUp N (2 * m)) : Calls Try.prog 31 #[.pointer (some ⟨rh, 0, none⟩)] w fun e w' => e = .returned (.int .i64 (N : Int)) ∧ w = w' := by
  have c0 := h.c0
  obtain ⟨t, ht⟩ : ∃ t, t = 2 * m := ⟨_, rfl⟩
  have e1 : 2 * (m : Int) = (t : Int) := by omega
  obtain ⟨e2, e3, -⟩ := wrap_small (x := t) (by omega)
  rw [← ht] at hN
  have H2 := Lib.hid h2; have Ht := Lib.hid ht; have HN := Lib.hid hN
  clear h h1 h2 ht hN
  go_enter Try.func31, Try.ntmps31
  go_upto_block 0 with fail
  go_cut [3] (fun s3 wx => s3 = .int .i64 (N : Int) ∧ wx = w)
  case first =>
    go_wp2_with fail
    go_loopw [3] (fun s3 wr => ∃ n : Nat, s3 = .int .i64 (n : Int) ∧ Way n t ∧ wr = w) (fun s3 _ => t - (intOf s3).toNat)
    case atStart => exact ⟨1, rfl, Way.one _, rfl⟩
    case round =>
      obtain ⟨n, rfl, hw, rfl⟩ := hrel
      have HW := Lib.hid hw
      clear hw
      by_cases hlt : n < t
      · have hlt' : (n : Int) < (t : Int) := by omega
        obtain ⟨n2, hn2⟩ : ∃ n2, n2 = 2 * n := ⟨_, rfl⟩
        have f1 : 2 * (n : Int) = (n2 : Int) := by omega
        obtain ⟨f2, f3, -⟩ := wrap_small (x := n2) (by have := H2.out; have := Ht.out; omega)
        have Hn2 := Lib.hid hn2; have Hlt := Lib.hid hlt
        clear hn2 hlt
        go_wp2_with fail
        go_roundw
        case rel => exact ⟨n2, rfl, by rw [Hn2.out]; exact HW.out.next Hlt.out, by first | rfl | trivial⟩
        case measure => have := Hn2.out; have := Hlt.out; have := HW.out.pos; simp [intOf]; omega
      · have hlt' : ¬ (n : Int) < (t : Int) := by omega
        have Hlt := Lib.hid hlt
        clear hlt
        go_wp2_with fail
        go_meet
        have := (HW.out.up Hlt.out).same HN.out
        exact ⟨by rw [this], rfl⟩
  case rest =>
  obtain ⟨rfl, rfl⟩ := hcut
  go_wp2_with fail
  go_ret
  exact ⟨rfl, rfl⟩
end Go.Proofs.Ytoehdpfcnpdhnaa.Ix
