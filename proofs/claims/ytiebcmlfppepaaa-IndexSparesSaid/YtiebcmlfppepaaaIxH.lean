/- The index layer: DeleteFunc's walk. No condition. -/
import Derived.Test.YtiebcmlfppepaaaIxG
namespace Go.Proofs.Ytiebcmlfppepaaa.Ix
open Go.RowKit
theorem BufAt.some {w : World} {b : Nat} {S : List Sl} (h : BufAt w b S) {k : Nat} (hk : k < S.length * 3) : (w.cell? ⟨b, k, none⟩).isSome = true := by
  obtain ⟨r, h⟩ := h
  rw [cell_of h]
  simp only [List.getElem?_toArray]
  rw [List.getElem?_append_left (by rw [flat3_length]; exact hk), List.getElem?_eq_getElem (by rw [flat3_length]; exact hk)]
  rfl
theorem BufAt.clear {w : World} {b : Nat} {A M : List Sl} (h : BufAt w b (A ++ M)) : BufAt (w.setCells b (A.length * 3) (flat3 (List.replicate M.length (0, 0, 0)))) b A := by
  obtain ⟨r, h⟩ := h
  rw [flat3_append] at h
  have := setCells_blk (flat3 (List.replicate M.length (0, 0, 0))) (flat3 A) (flat3 M) r (A.length * 3) w b _ h (flat3_length A) (by rw [flat3_length, flat3_length, List.length_replicate])
  exact ⟨flat3 (List.replicate M.length (0, 0, 0)) ++ r, by rw [this, List.append_assoc]⟩
theorem agg_eq (x : Sl) : (.agg #[.int .u8 (x.1 : Int), .int .u32 (x.2.1 : Int), .int .i64 x.2.2] : Value) = aggOf x := rfl
set_option maxRecDepth 100000 in
set_option maxHeartbeats 2000000 in
theorem deleteFunc_ok {w : World} {b n cap : Nat} {S : List Sl} (H : BufAt w b S) (hn : S.length = n) (h8 : n ≤ 8192) (hcap : n ≤ cap) (hc6 : cap ≤ 9223372036854775807) :
    Calls Try.prog 58 #[.slice (some ⟨b, 0, none⟩) n cap, delV] w fun e w' => ∃ m, e = .returned (.slice (some ⟨b, 0, none⟩) m cap) ∧ m = (S.filter live).length ∧ BufAt w' b (S.filter live) ∧ Fr (fun k => k = b) w w' := by
  have HB := Lib.hid H; have HN := Lib.hid hn; have H8 := Lib.hid h8; have HC := Lib.hid hcap; have HC6 := Lib.hid hc6
  clear H hn h8 hcap hc6
  go_enter Try.func58, Try.ntmps58
  go_wp2_with fail
  refine (indexFunc_ok HB.out HN.out H8.out).mono ?_
  rintro e w1 ⟨f1, hfirst⟩
  have F1 := Lib.hid f1
  clear f1
  rcases hfirst with ⟨k, rfl, hk, hg, hj⟩ | ⟨rfl, hj⟩
  · have HS := Lib.hid (Shape.first hk hg hj)
    have HK := Lib.hid hk
    have hkm : ((k : Int) == -1) = false := by simp
    have hkm2 : ((k : Int) == (-1 : Int)) = false := hkm
    obtain ⟨j0, hj0⟩ : ∃ j0, j0 = k + 1 := ⟨_, rfl⟩
    have e1 : (k : Int) + 1 = (j0 : Int) := by omega
    obtain ⟨e2, e3, -⟩ := wrap_small (x := j0) (by have := H8.out; have := HN.out; omega)
    have HJ0 := Lib.hid hj0
    clear hk hg hj hj0
    go_upto_block 0 with fail
    clear hkm hkm2 e1 e2 e3
    go_cut [5, 6] (fun s5 s6 wx => ∃ (i : Nat) (T : List Sl), s5 = .int .i64 (i : Int) ∧ Shape S T i S.length ∧ BufAt wx b T ∧ Fr (fun k => k = b) w wx)
    case first =>
      go_wp2_with fail
      go_loopw [5, 6] (fun s5 s6 wr => ∃ (i j : Nat) (T : List Sl), s5 = .int .i64 (i : Int) ∧ s6 = .int .i64 (j : Int) ∧ j ≤ n ∧ Shape S T i j ∧ BufAt wr b T ∧ Fr (fun k => k = b) w wr) (fun _ s6 _ => n - (intOf s6).toNat)
      case atStart => exact ⟨k, j0, S, rfl, rfl, by have := HJ0.out; have := HK.out; have := HN.out; omega, by rw [HJ0.out]; exact HS.out, HB.out.fr F1.out (fun h => h), F1.out.mono (fun _ _ h => h.elim)⟩
      case round =>
        obtain ⟨i, j, T, rfl, rfl, hjn, hs, hb, hf⟩ := hrel
        have HSh := Lib.hid hs; have HBf := Lib.hid hb; have HF := Lib.hid hf
        clear hs hb hf
        by_cases hlt : j < n
        · have hlt' : (j : Int) < (n : Int) := by omega
          have hi1 := HSh.out.len1
          have hTl : T.length = n := by obtain ⟨_, _, _, _, _, h⟩ := HSh.out; rw [h, HN.out]
          have hil : (i : Int) < (n : Int) := by omega
          obtain ⟨c0, c1, c2⟩ := HBf.out.cells (p := j) (by omega)
          rw [HSh.out.at_ (by rw [HN.out]; exact hlt)] at c0 c1 c2
          obtain ⟨x, hx⟩ : ∃ x, x = slAt S j := ⟨_, rfl⟩
          rw [← hx] at c0 c1 c2
          obtain ⟨xa, xi, xv⟩ := x
          simp only at c0 c1 c2
          obtain ⟨j1, hj1⟩ : ∃ j1, j1 = j + 1 := ⟨_, rfl⟩
          have e1 : (j : Int) + 1 = (j1 : Int) := by omega
          obtain ⟨e2, e3, -⟩ := wrap_small (x := j1) (by have := H8.out; omega)
          obtain ⟨i1, hi1'⟩ : ∃ i1, i1 = i + 1 := ⟨_, rfl⟩
          have e4 : (i : Int) + 1 = (i1 : Int) := by omega
          obtain ⟨e5, e6, -⟩ := wrap_small (x := i1) (by have := H8.out; omega)
          have HX := Lib.hid hx; have HL := Lib.hid hlt; have HJ1 := Lib.hid hj1; have HI1 := Lib.hid hi1'; have HTl := Lib.hid hTl; have HI := Lib.hid (show i < T.length from hi1.2)
          clear hx hlt hjn hj1 hi1' hTl hi1
          go_upto_region 8 with fail
          clear c0 c1 c2
          have hw4 : (wr.alloc (.cells #[.int .u8 (xa : Int), .int .u32 (xi : Int), .int .i64 xv] 86)).heap[wr.heap.size]? = some (.cells #[.int .u8 (xa : Int), .int .u32 (xi : Int), .int .i64 xv] 86 (0, 0)) := by rw [heap_alloc_get]; simp
          have hf4 : Fr (fun _ => False) wr (wr.alloc (.cells #[.int .u8 (xa : Int), .int .u32 (xi : Int), .int .i64 xv] 86)) := Fr.alloc (Fr.refl _ _) _
          generalize wr.alloc (.cells #[.int .u8 (xa : Int), .int .u32 (xi : Int), .int .i64 xv] 86) = w4 at hw4 hf4 ⊢
          generalize wr.heap.size = lb at hw4 ⊢
          have l0 := (cell_of hw4 0).trans (show _ = some (Value.int .u8 (xa : Int)) from rfl)
          have l1 := (cell_of hw4 1).trans (show _ = some (Value.int .u32 (xi : Int)) from rfl)
          have l2 := (cell_of hw4 2).trans (show _ = some (Value.int .i64 xv) from rfl)
          have HW4 := Lib.hid hw4; have HF4 := Lib.hid hf4
          clear hw4 hf4
          go_wp2_with fail
          refine (del_fn (xa, xi, xv) w4).mono ?_
          rintro e w5 ⟨rfl, f5⟩
          have hw5 := f5.get HW4.out (fun h => h)
          have hb5 := (HBf.out.fr HF4.out (fun h => h)).fr f5 (fun h => h)
          have hf5 := (HF.out.trans (HF4.out.mono (G := fun k => k = b) (fun _ _ h => h.elim)) (fun _ _ h => h)).trans (f5.mono (G := fun k => k = b) (fun _ _ h => h.elim)) (fun _ _ h => h)
          have HB5 := Lib.hid hb5; have HF5 := Lib.hid hf5
          clear f5 l0 l1 l2 hb5 hf5
          cases hg : gone (xa, xi, xv) with
          | true =>
            have HSk := Lib.hid (HSh.out.skip (by rw [HN.out]; exact HL.out) (by rw [← HX.out]; rw [gone_live] at hg; simpa using hg))
            clear hg hw5
            go_wp2_with fail
            go_roundw
            case rel => exact ⟨i, j1, T, rfl, rfl, by have := HJ1.out; have := HL.out; omega, by rw [HJ1.out]; exact HSk.out, HB5.out, HF5.out⟩
            case measure => have := HJ1.out; have := HL.out; simp [intOf]; omega
          | false =>
            have HSk := Lib.hid (HSh.out.keep (by rw [HN.out]; exact HL.out) (by rw [← HX.out]; rw [gone_live] at hg; simpa using hg))
            have l0 := (cell_of hw5 0).trans (show _ = some (Value.int .u8 (xa : Int)) from rfl)
            have l1 := (cell_of hw5 1).trans (show _ = some (Value.int .u32 (xi : Int)) from rfl)
            have l2 := (cell_of hw5 2).trans (show _ = some (Value.int .i64 xv) from rfl)
            obtain ⟨k0, k1, k2⟩ := HB5.out.cells HI.out
            have z0 := HB5.out.free (i * 3); have z1 := HB5.out.free (i * 3 + 1); have z2 := HB5.out.free (i * 3 + 2)
            have hb6 := HB5.out.set HI.out (xa, xi, xv)
            have hf6 := HF5.out.trans (set3_fr w5 b i (.int .u8 (xa : Int)) (.int .u32 (xi : Int)) (.int .i64 xv)) (fun _ _ h => h)
            rw [HX.out] at hb6
            simp only [← HX.out] at hb6
            have HB6 := Lib.hid hb6; have HF6 := Lib.hid hf6
            clear hg hw5 hb6 hf6
            go_wp2_with fail
            go_roundw
            case rel => exact ⟨i1, j1, _, rfl, rfl, by have := HJ1.out; have := HL.out; omega, by rw [HJ1.out, HI1.out]; exact HSk.out, by rw [← HX.out]; exact HB6.out, HF6.out⟩
            case measure => have := HJ1.out; have := HL.out; simp [intOf]; omega
        · obtain rfl : j = n := by omega
          clear hlt hjn
          go_wp2_with fail
          go_meet
          exact ⟨i, T, rfl, by rw [HN.out]; exact HSh.out, HBf.out, HF.out⟩
    case rest =>
    obtain ⟨i, T, rfl, hs, hb, hf⟩ := hcut
    obtain ⟨mid, hT, hi, hml, hil⟩ := hs.done
    have hin : i < n := by rw [← HN.out]; exact hil
    have hin' : (i : Int) < (n : Int) := by omega
    have hin2 : i ≤ n := by omega
    have hic : i ≤ cap := by have := HC.out; omega
    have hne : ¬ cap = i := by have := HC.out; omega
    have hne2 : ¬ (cap : Int) = (i : Int) := by omega
    have hnc := HC.out
    have HT := Lib.hid hT; have Hi := Lib.hid hi; have Hml := Lib.hid hml; have HBf := Lib.hid hb; have HF := Lib.hid hf; have Hin := Lib.hid hin
    have hcl := fun ty => run_clear3 wc ty b (i * 3) (n - i) (cap - i) (by omega) (fun j hj => hb.some (by rw [hT, List.length_append, hml, ← hi, HN.out]; omega)) (fun j _ => hb.free _)
    have hcb : BufAt (wc.setCells b (i * 3) (flat3 (List.replicate (n - i) (0, 0, 0)))) b (S.filter live) := by
      have := hb
      rw [hT] at this
      have := this.clear
      rwa [hml, ← hi, HN.out] at this
    have hcf : Fr (fun k => k = b) w (wc.setCells b (i * 3) (flat3 (List.replicate (n - i) (0, 0, 0)))) := hf.trans (setCells_fr _ _ _ _) (fun _ _ h => h)
    have HCB := Lib.hid hcb; have HCF := Lib.hid hcf
    clear hs hb hf hT hi hml hil hin hcb hcf
    go_wp2_with fail
    go_ret
    exact ⟨i, rfl, Hi.out, HCB.out, HCF.out⟩
  · have HA := Lib.hid (all_live hj)
    clear hj
    go_wp2_with fail
    go_ret
    exact ⟨n, rfl, by rw [HA.out, HN.out], by rw [HA.out]; exact HB.out.fr F1.out (fun h => h), F1.out.mono (fun _ _ h => h.elim)⟩
end Go.Proofs.Ytiebcmlfppepaaa.Ix
