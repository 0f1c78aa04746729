/- The document's index: Put. Condition: room for at most 4096 items. -/
import Derived.Test.YtoehdpfcnpdhnaaIxRc
namespace Go.Proofs.Ytoehdpfcnpdhnaa.Ix
open Go.RowKit
theorem Try.infoItem13 : (Try.prog.info? 106).map (fun i => (i.zero, i.size, i.bytes)) = some (some (.agg #[.int .u32 0, .int .i64 0]), 2, 16) := by kernel_rfl
/-- append of one item that lies in a new block. -/
theorem app_item {W : World} {sv : Value} {L : List (Nat × Int)} (h : Row W 106 2 sv L.length (flat2 L)) (hb : L.length ≤ 100000) :
    ∃ a c W2, (Builtin.append_ #[63, 63] 63 #[sv, .slice (some ⟨W.heap.size, 0, none⟩) 1 1]).run Try.prog (W.alloc (.cells #[.int .u32 0, .int .i64 0] 106)) = .ok (.slice a (L.length + 1) c) W2 ∧
      Row W2 106 2 (.slice a (L.length + 1) c) (L ++ [(0, 0)]).length (flat2 (L ++ [(0, 0)])) ∧ Fr (fun b => sv.ownBlock = some b) W W2 ∧ (∀ b, (Value.slice a (L.length + 1) c).ownBlock = some b → sv.ownBlock = some b ∨ W.heap.size ≤ b) := by
  obtain ⟨i0, hi, hz0, hz1, hz2⟩ := info_parts Try.infoItem13
  have f0 : Fr (fun _ => False) W (W.alloc (.cells #[.int .u32 0, .int .i64 0] 106)) := Fr.alloc (Fr.refl _ _) _
  have hg : (W.alloc (.cells #[.int .u32 0, .int .i64 0] 106)).heap[W.heap.size]? = some (.cells #[.int .u32 0, .int .i64 0] 106 (0, 0)) := by rw [heap_alloc_get]; simp
  obtain ⟨v', w3, hrun, hR3, hf3, ho3⟩ := run_append_fr (P := Try.prog) _ 63 63 106 i0 _ 2 16 Try.underlying63 hi hz0 hz1 hz2 rfl (by decide) _ _ _ (Row.fr h f0 (fun _ _ h => h)) ⟨W.heap.size, 0, none⟩ 1 1 (flat2 [(0, 0)]) rfl
    (by intro j u hu
        rw [addr_add, Nat.zero_add, cell_of hg j]
        simpa [flat2, cells2] using hu)
    flat2_one (by unfold maxLen; omega) (by omega)
  obtain ⟨a', c', rfl⟩ : ∃ a' c', v' = .slice a' (L.length + 1) c' := by
    rcases hR3.2 with ⟨rfl, h0⟩ | ⟨g, cap, cur, rfl, _⟩
    · exact ⟨none, 0, by rw [h0]⟩
    · exact ⟨_, _, rfl⟩
  refine ⟨a', c', w3, hrun, by rw [flat2_append, List.length_append]; exact hR3, (f0.mono (fun _ _ h => h.elim)).trans hf3 (fun _ _ h => h), ?_⟩
  intro b hb
  rcases ho3 with h | h
  · rw [h] at hb; exact .inl hb
  · rw [h] at hb; simp at hb; right; omega
/-- On the way down: one place is free. -/
def holeAt (L : List (Nat × Int)) (y : Nat × Int) (i : Nat) : List (Nat × Int) := L.take i ++ y :: L.drop i
theorem hole_len {L : List (Nat × Int)} (y : Nat × Int) {i : Nat} (h : i ≤ L.length) : (holeAt L y i).length = L.length + 1 := by
  unfold holeAt; rw [List.length_append, List.length_cons, List.length_take, List.length_drop]; omega
theorem hole_at {L : List (Nat × Int)} (y : Nat × Int) {i0 : Nat} (h : i0 < L.length) : liAt (holeAt L y (i0 + 1)) i0 = liAt L i0 := by
  unfold liAt holeAt
  rw [List.getD_eq_getElem?_getD, List.getElem?_append_left (by rw [List.length_take]; omega), List.getElem?_take, if_pos (by omega), List.getD_eq_getElem?_getD]
theorem hole_set {L : List (Nat × Int)} (y x : Nat × Int) {i : Nat} (h : i ≤ L.length) : (holeAt L y i).set i x = holeAt L x i := by
  unfold holeAt
  have hl : (L.take i).length = i := by rw [List.length_take]; omega
  rw [List.set_append_right _ _ (by omega), hl, Nat.sub_self]; rfl
theorem hole_down {L : List (Nat × Int)} {i0 : Nat} (h : i0 < L.length) : holeAt L (liAt L i0) (i0 + 1) = holeAt L (liAt L i0) i0 := by
  unfold holeAt
  have e : L.drop i0 = liAt L i0 :: L.drop (i0 + 1) := by
    have : liAt L i0 = L[i0] := by simp [liAt, h]
    rw [this]; exact List.drop_eq_getElem_cons h
  rw [e, ← take_snocL h, List.append_assoc]; rfl
theorem hole_last (L : List (Nat × Int)) (y : Nat × Int) : holeAt L y L.length = L ++ [y] := by unfold holeAt; rw [List.take_length, List.drop_length]
/-- What is held, one place free, in memory. -/
structure HoleAt (w0 : World) (rh : Nat) (sv : Value) (L : List (Nat × Int)) (most i : Nat) (w : World) : Prop where
  ex : ∃ y, RefAt w rh sv (holeAt L y i) most
  fr : Fr (fun b => refP rh sv b) w0 w
section
variable {w : World} {rh : Nat} {sv : Value} {L : List (Nat × Int)} {most : Nat}
set_option maxRecDepth 100000 in
set_option maxHeartbeats 2000000 in
theorem rput_ok (h : RefAt w rh sv L most) (hu : L.Pairwise fun a b => a.1 < b.1) (hm : most ≤ 4096) (hl : L.length ≤ most) (id : Nat) (v : Int) :
    Calls Try.prog 52 #[.pointer (some ⟨rh, 0, none⟩), .int .u32 (id : Int), .int .i64 v] w fun e w' => e = .returned (.int .i64 (putE L most id : Int)) ∧ ∃ sv', RefAt w' rh sv' (putL L most id v) most ∧ (∀ b, sv'.ownBlock = some b → sv.ownBlock = some b ∨ w.heap.size ≤ b) ∧ Fr (fun b => refP rh sv b) w w' := by
  obtain ⟨n, hn⟩ : ∃ n, n = L.length := ⟨_, rfl⟩
  have HA := Lib.hid (at_ok h hu id)
  have H := Lib.hid h; have HU := Lib.hid hu; have Hn := Lib.hid hn; have Hm := Lib.hid hm; have Hl := Lib.hid hl
  clear h hu hn hm hl
  go_enter Try.func52, Try.ntmps52
  go_wp2_with fail
  refine HA.out.mono ?_
  rintro e w1 ⟨k, rfl, hC, f1⟩
  have h1 := H.out.fr f1 (fun _ _ h => h)
  obtain ⟨a, c, rfl, -, -⟩ := h1.shape
  cases hlk : look L id with
  | some x =>
    have e7 : putE L most id = 7 := by unfold putE; rw [hlk]; rfl
    have eL : putL L most id v = L := by unfold putL; rw [e7]; rfl
    have HR := Lib.hid h1; have HF := Lib.hid f1; have HE := Lib.hid e7; have HL := Lib.hid eL
    clear h1 f1 e7 eL hlk hC HA H
    simp only [Option.isSome_some]
    go_wp2_with fail
    go_ret
    exact ⟨by rw [HE.out]; rfl, _, by rw [HL.out]; exact HR.out, fun b hb => .inl hb, HF.out.mono (fun _ _ h => h.elim)⟩
  | none =>
    have HK := Lib.hid hlk
    have c0 := h1.c0
    have c1 := h1.c1
    rw [← Hn.out] at c1
    have HR := Lib.hid h1; have HF := Lib.hid f1; have HC := Lib.hid hC
    clear h1 f1 hlk hC HA
    simp only [Option.isSome_none]
    by_cases hqm : n = most
    · have hb : ((n : Int) == (most : Int)) = true := by rw [hqm]; simp
      have Hqm := Lib.hid hqm
      clear hqm H
      go_upto_region 4 with fail
      go_still (by kernel_rfl)
      go_wp2_with fail
      go_ret
      have e6 : putE L most id = 6 := by unfold putE; rw [HK.out, ← Hn.out, Hqm.out, if_neg (by simp), if_pos rfl]
      have eL : putL L most id v = L := by unfold putL; rw [e6]; rfl
      exact ⟨by rw [e6]; rfl, _, by rw [eL]; exact HR.out.fr (Fr.drew (Fr.refl (fun _ => False) _)) (fun _ _ h => h), fun b hb => .inl hb, (HF.out.mono (G := fun b => refP rh (.slice a L.length c) b) (fun _ _ h => h.elim)).drew⟩
    · have hb : ((n : Int) == (most : Int)) = false := by simp; omega
      have hnm : n < most := by have := Hl.out; have := Hn.out; omega
      have Hnm := Lib.hid hnm
      clear hqm hnm H
      go_upto_region 4 with fail
      go_still (by kernel_rfl)
      go_upto_region 6 with fail
      have hR2 : RefAt w1.drew rh (.slice a L.length c) L most := HR.out.fr (Fr.drew (Fr.refl (fun _ => False) _)) (fun _ _ h => h)
      have hF2 : Fr (fun _ => False) w w1.drew := HF.out.drew
      clear c0 c1 hb
      change Code.wp _ _ _ _ w1.drew
      generalize w1.drew = w2 at hR2 hF2 ⊢
      have c1 := hR2.c1
      have z1 := free_of hR2.head 1
      obtain ⟨a3, c3, W3, hrun, hr3, hf3, ho3⟩ := app_item hR2.row (by have := hR2.few; omega)
      have hne3 : ∀ b, (Value.slice a3 (L.length + 1) c3).ownBlock = some b → b ≠ rh := by
        intro b hb e
        rcases ho3 b hb with h | h
        · exact hR2.ne b h e
        · have := lt_of_block hR2.head; omega
      have hd3 := hf3.get hR2.head (fun e => hR2.ne rh e rfl)
      have c13 := (cell_of hd3 1).trans (show _ = some (Value.slice a L.length c) from rfl)
      have z13 := free_of hd3 1
      have fs : Fr (fun b => b = rh) W3 (W3.setCell ⟨rh, 1, none⟩ (.slice a3 (L.length + 1) c3)) := Fr.setCell (F := fun b => b = rh) (p := ⟨rh, 1, none⟩) (Fr.refl _ _) (fun _ => rfl) _
      have hR4 : RefAt (W3.setCell ⟨rh, 1, none⟩ (.slice a3 (L.length + 1) c3)) rh (.slice a3 (L.length + 1) c3) (holeAt L (0, 0) L.length) most := by
        rw [hole_last]
        exact ⟨setCell_blk (o := 1) hd3 _, Row.fr hr3 fs (fun b hb e => hne3 b hb e), hne3, by rw [List.length_append]; have := Hnm.out; have := Hm.out; have := Hn.out; simp; omega⟩
      have hF4 : Fr (fun b => refP rh (.slice a L.length c) b) w (W3.setCell ⟨rh, 1, none⟩ (.slice a3 (L.length + 1) c3)) := ((hF2.mono (fun _ _ h => h.elim)).trans hf3 (fun b _ h => .inr h)).trans fs (fun b _ h => .inl h)
      have ho4 : ∀ b, (Value.slice a3 (L.length + 1) c3).ownBlock = some b → (Value.slice a L.length c).ownBlock = some b ∨ w.heap.size ≤ b := fun b hb => (ho3 b hb).imp (fun h => h) (fun h => by have := hF2.size; omega)
      have Hrun := Lib.hid hrun; have HR4 := Lib.hid hR4; have HF4 := Lib.hid hF4; have Ho4 := Lib.hid ho4
      rw [← Hn.out] at c1 c13 Hrun
      clear hR2 hF2 hrun hr3 hf3 ho3 hne3 hd3 fs hR4 hF4 ho4 HR HF
      have hn1 := Hn.out
      generalize hq1 : n + 1 = q1 at Hrun
      rw [← hn1, hq1] at HR4 HF4 Ho4
      clear hn1
      go_upto_region 7 with (at_builtin; refine wpList_append_run rfl _ _ _ rfl rfl rfl Hrun.out ?_)
      clear c1 c13 z1 z13 Hrun
      generalize W3.setCell ⟨rh, 1, none⟩ (.slice a3 q1 c3) = w4 at HR4 HF4 ⊢
      have c1 := HR4.out.c1
      have hkn : k ≤ n := by rw [Hn.out]; exact HC.out.le
      have e1 : (q1 : Int) - 1 = (n : Int) := by omega
      have hn8 : n ≤ 8192 := by have := Hnm.out; have := Hm.out; omega
      obtain ⟨e2, e3, -⟩ := wrap_small (x := n) (by omega)
      have Hkn := Lib.hid hkn; have Hn8 := Lib.hid hn8; have Hq1 := Lib.hid hq1
      clear hkn hn8 hq1
      go_upto_block 0 with fail
      clear c1 e1 e2 e3
      go_cut [9] (fun _ wx => HoleAt w4 rh (.slice a3 q1 c3) L most k wx)
      case first =>
        go_wp2_with fail
        go_loopw [9] (fun s9 wr => ∃ i : Nat, s9 = .int .i64 (i : Int) ∧ k ≤ i ∧ i ≤ n ∧ HoleAt w4 rh (.slice a3 q1 c3) L most i wr) (fun s9 _ => (intOf s9).toNat)
        case atStart => exact ⟨n, rfl, Hkn.out, Nat.le_refl _, ⟨_, HR4.out⟩, Fr.refl _ _⟩
        case round =>
          obtain ⟨i, rfl, hki, hin, ⟨y, hy⟩, hfr⟩ := hrel
          by_cases hlt : k < i
          · have hlt' : (k : Int) < (i : Int) := by omega
            obtain ⟨i0, hi0⟩ : ∃ i0, i = i0 + 1 := ⟨i - 1, by omega⟩
            have p1 : (i : Int) - 1 = (i0 : Int) := by omega
            obtain ⟨p2, p3, -⟩ := wrap_small (x := i0) (by have := Hn8.out; omega)
            have hi0n : i0 < L.length := by rw [← Hn.out]; omega
            have hin' : i ≤ L.length := by rw [← Hn.out]; exact hin
            have hlen := hole_len y hin'
            have hyl : (i : Int) < (q1 : Int) := by have := Hq1.out; omega
            have hyl0 : (i0 : Int) < (q1 : Int) := by omega
            have z0 : (0 : Int) ≤ (i : Int) := by omega
            have z00 : (0 : Int) ≤ (i0 : Int) := by omega
            have c1 := hy.c1
            obtain ⟨g, rfl, k0, k1, kz⟩ := row2_cells hy.row (k := i0) (by rw [hlen]; omega)
            have hat : liAt (holeAt L y i) i0 = liAt L i0 := by rw [hi0]; exact hole_at y hi0n
            rw [hat] at k0 k1
            obtain ⟨x, hx⟩ : ∃ x, x = liAt L i0 := ⟨_, rfl⟩
            rw [← hx] at k0 k1
            obtain ⟨_, ge, m0, m1, -⟩ := row2_cells hy.row (k := i) (by rw [hlen]; omega)
            obtain rfl : g = _ := by simpa using ge
            have f0 := kz (i * 2); have f1 := kz (i * 2 + 1)
            have hset := row2_set hy.row (k := i) (by rw [hlen]; omega) x
            rw [hole_set y x hin'] at hset
            have hdn : holeAt L x i = holeAt L x i0 := by rw [hx, hi0]; exact hole_down hi0n
            rw [hdn] at hset
            have hng := hy.ne g rfl
            have fs : Fr (fun b => b = g) wr ((wr.setCell ⟨g, i * 2, none⟩ (.int .u32 (x.1 : Int))).setCell ⟨g, i * 2 + 1, none⟩ (.int .i64 x.2)) := Fr.setCell (F := fun b => b = g) (p := ⟨g, i * 2 + 1, none⟩) (Fr.setCell (F := fun b => b = g) (p := ⟨g, i * 2, none⟩) (Fr.refl _ _) (fun _ => rfl) _) (fun _ => rfl) _
            have hnew : RefAt ((wr.setCell ⟨g, i * 2, none⟩ (.int .u32 (x.1 : Int))).setCell ⟨g, i * 2 + 1, none⟩ (.int .i64 x.2)) rh (.slice (some ⟨g, 0, none⟩) q1 c3) (holeAt L x i0) most := ⟨fs.get hy.head (fun e => hng e.symm), hset, hy.ne, by rw [hole_len x (Nat.le_of_lt hi0n)]; have := Hn8.out; have := Hn.out; have := Hnm.out; have := Hm.out; omega⟩
            have hfn := hfr.trans fs (fun b _ e => show refP rh (.slice (some ⟨g, 0, none⟩) q1 c3) b by subst e; exact .inr rfl)
            have HNw := Lib.hid hnew; have HFn := Lib.hid hfn; have Hi0 := Lib.hid hi0; have Hlt := Lib.hid hlt; have Hin := Lib.hid hin
            obtain ⟨xi, xv⟩ := x
            simp only at k0 k1 HNw HFn
            clear hy hfr hat hset hdn fs hnew hfn hi0n hin' hlen hx kz ge hng hi0 hlt hin hki
            go_upto_region 10 with fail
            go_still_tail 14, (by kernel_rfl)
            go_wp2_with fail
            go_roundw
            case rel => exact ⟨i0, rfl, by have := Hi0.out; have := Hlt.out; omega, by have := Hi0.out; have := Hin.out; omega, ⟨_, HNw.out.fr (Fr.drew (Fr.refl (fun _ => False) _)) (fun _ _ h => h)⟩, HFn.out.drew⟩
            case measure => have := Hi0.out; simp [intOf]; omega
          · have hlt' : ¬ (k : Int) < (i : Int) := by omega
            obtain rfl : i = k := by omega
            have HH := Lib.hid (show HoleAt w4 rh (.slice a3 q1 c3) L most i wr from ⟨⟨y, hy⟩, hfr⟩)
            clear hy hfr hlt hin hki
            go_wp2_with fail
            go_meet
            exact HH.out
      case rest =>
      obtain ⟨⟨y, hy⟩, hfr⟩ := hcut
      have hkn : k ≤ L.length := HC.out.le
      have hlen := hole_len y hkn
      have hkq : (k : Int) < (q1 : Int) := by have := Hq1.out; have := Hkn.out; omega
      have z0 : (0 : Int) ≤ (k : Int) := by omega
      have c1 := hy.c1
      obtain ⟨g, rfl, k0, k1, kz⟩ := row2_cells hy.row (k := k) (by rw [hlen]; omega)
      have f0 := kz (k * 2); have f1 := kz (k * 2 + 1)
      have hset := row2_set hy.row (k := k) (by rw [hlen]; omega) (id, v)
      rw [hole_set y (id, v) hkn] at hset
      have hng := hy.ne g rfl
      have fs : Fr (fun b => b = g) wc ((wc.setCell ⟨g, k * 2, none⟩ (.int .u32 (id : Int))).setCell ⟨g, k * 2 + 1, none⟩ (.int .i64 v)) := Fr.setCell (F := fun b => b = g) (p := ⟨g, k * 2 + 1, none⟩) (Fr.setCell (F := fun b => b = g) (p := ⟨g, k * 2, none⟩) (Fr.refl _ _) (fun _ => rfl) _) (fun _ => rfl) _
      have e0 : putE L most id = 0 := by unfold putE; rw [HK.out, if_neg (by simp), ← Hn.out, if_neg (by have := Hnm.out; omega)]
      have eL : putL L most id v = holeAt L (id, v) k := by unfold putL; rw [if_pos e0, HC.out.ins HK.out]; rfl
      have HNw := Lib.hid (show RefAt ((wc.setCell ⟨g, k * 2, none⟩ (.int .u32 (id : Int))).setCell ⟨g, k * 2 + 1, none⟩ (.int .i64 v)) rh (.slice (some ⟨g, 0, none⟩) q1 c3) (putL L most id v) most from ⟨fs.get hy.head (fun e => hng e.symm), by rw [eL]; exact hset, hy.ne, by rw [eL, hole_len _ hkn]; have := Hn8.out; have := Hn.out; have := Hnm.out; have := Hm.out; omega⟩)
      have hfw : Fr (fun b => refP rh (.slice a n c) b) w ((wc.setCell ⟨g, k * 2, none⟩ (.int .u32 (id : Int))).setCell ⟨g, k * 2 + 1, none⟩ (.int .i64 v)) := by
        refine (HF4.out.trans hfr ?_).trans fs ?_
        · rintro b hb (rfl | h)
          · exact .inl rfl
          · rcases Ho4.out b h with h | h
            · exact .inr h
            · omega
        · rintro b hb rfl
          rcases Ho4.out b rfl with h | h
          · exact .inr h
          · omega
      have HFW := Lib.hid hfw; have E0 := Lib.hid e0
      clear hy hfr hset fs e0 eL hfw hkn hlen kz hng HC
      go_wp2_with fail
      go_ret
      refine ⟨by rw [E0.out]; rfl, _, HNw.out, ?_, ?_⟩
      · rw [← Hn.out]; exact Ho4.out
      · rw [← Hn.out]; exact HFW.out
end
end Go.Proofs.Ytoehdpfcnpdhnaa.Ix
