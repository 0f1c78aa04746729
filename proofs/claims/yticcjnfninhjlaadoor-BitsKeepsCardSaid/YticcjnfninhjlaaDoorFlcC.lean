/- flatBytes' walk. No condition. -/
import Derived.Test.YticcjnfninhjlaaDoorFlcB
import Derived.StillTailTactics
import Derived.Deep.CutBlock
import Derived.Deep.LoopGhost
import Derived.Deep.RegionHeld3
import Derived.Deep.QuietTactic
import Derived.BigQuiet
import Derived.Deep.DeepCutAuto
import Derived.BigRegion
namespace Go.Proofs.YticcjnfninhjlaaDoor
open Go.RowKit
/-- An element of a row that begins with marks. -/
theorem fl_cell2 {w : World} {e : TypeId} {a : Option Addr} {m c k i q : Nat} {ys : List Value} (h : Row w e 1 (.slice a m c) m (mkL k q ++ ys)) (hi : i < q) : ∃ b, a = some ⟨b, 0, none⟩ ∧ w.cell? ⟨b, i, none⟩ = some (.int .u8 (mkB k i)) := by
  have hm : q ≤ m := by have := h.1; simp [mkL_length] at this; omega
  rcases h.2 with ⟨e1, e2⟩ | ⟨g, cap, cur, e1, _, k1, k2, k3, k4, k5⟩
  · omega
  · obtain ⟨rfl, -, rfl⟩ := Value.slice.inj e1
    refine ⟨g, rfl, ?_⟩
    have h1 : (cur.toList.take (m * 1))[i]? = some (mkv k i) := by rw [k5, List.getElem?_append_left (by rw [mkL_length]; exact hi)]; exact mkL_get hi
    rw [List.getElem?_take, if_pos (by omega), Array.getElem?_toList] at h1
    rw [cell_of k1 i]; exact h1
set_option maxRecDepth 100000 in
set_option maxHeartbeats 4000000 in
theorem flatBytes_ok {w : World} {K lb c : Nat} {lv : Nat → Value} {n : Nat → Nat} {f : Nat → List Value} (hK : K ≤ 500) (hn : ∀ k, k < K → n k ≤ 100000)
    (h : Fl2 w 5 1 K lb lb lv (fun _ => .slice none 0 0) n (fun _ => 0) f (fun _ => [])) :
    Calls Tryd.prog 57 #[.slice (some ⟨lb, 0, none⟩) K c] w fun e w' => e = .returned (.bool true) ∧ Fr (fun b => flP K lv (fun _ => .slice none 0 0) b) w w' := by
  have H := Lib.hid h; have HN := Lib.hid hn
  have hK' : (K : Int) ≤ 500 := by omega
  clear h hn
  go_enter Tryd.func57, Tryd.ntmps57
  go_upto_block 0 with fail
  go_cut [3, 4] (fun _ _ wx => Fl2 wx 5 1 K lb lb lv (fun _ => .slice none 0 0) n (fun _ => 0) (fun k => mkL k (n k)) (fun _ => []) ∧ Fr (fun b => flP K lv (fun _ => .slice none 0 0) b) w wx)
  case first =>
    go_wp2_with fail
    go_loopw [3, 4] (fun s3 _ wr => ∃ (k : Nat) (f : Nat → List Value), s3 = .int .i64 k ∧ k ≤ K ∧ Fl2 wr 5 1 K lb lb lv (fun _ => .slice none 0 0) n (fun _ => 0) f (fun _ => []) ∧ (∀ j, j < k → f j = mkL j (n j)) ∧ Fr (fun b => flP K lv (fun _ => .slice none 0 0) b) w wr) (fun s3 _ _ => K - (intOf s3).toNat)
    case atStart => exact ⟨0, f, rfl, Nat.zero_le _, H.out, fun j hj => by omega, Fr.refl _ _⟩
    case round =>
      obtain ⟨k, f1, rfl, hk, hF, hM, hfr⟩ := hrel
      have HF := Lib.hid hF; have HM := Lib.hid hM; have Hfr := Lib.hid hfr
      clear hF hM hfr
      by_cases hlt : k < K
      · have hlt' : (k : Int) < (K : Int) := by omega
        have k0 : (0 : Int) ≤ (k : Int) := by omega
        have Hlt := Lib.hid hlt
        clear hlt hk
        go_wp2_with fail
        go_loopw [4] (fun s4 wr => ∃ (i : Nat) (f : Nat → List Value), s4 = .int .i64 i ∧ i ≤ n k ∧ Fl2 wr 5 1 K lb lb lv (fun _ => .slice none 0 0) n (fun _ => 0) f (fun _ => []) ∧ (∀ j, j < k → f j = mkL j (n j)) ∧ (∀ p, p < i → (f k)[p]? = some (mkv k p)) ∧ Fr (fun b => flP K lv (fun _ => .slice none 0 0) b) w wr) (fun s4 _ => n k - (intOf s4).toNat)
        case atStart => exact ⟨0, f1, rfl, Nat.zero_le _, HF.out, HM.out, fun p hp => by omega, Hfr.out⟩
        case round =>
          obtain ⟨i, f2, rfl, hi, hF2, hM2, hP2, hfr2⟩ := hrel
          have hn := HN.out k Hlt.out
          obtain ⟨ak, ck, ek⟩ : ∃ a c, lv k = .slice a (n k) c := by
            rcases (hF2.lr k Hlt.out).2 with ⟨e1, e2⟩ | ⟨g, cap, cur, e1, _⟩
            · exact ⟨none, 0, by rw [e1, e2]⟩
            · exact ⟨_, _, e1⟩
          obtain ⟨nk, hnk⟩ : ∃ nk, nk = n k := ⟨_, rfl⟩
          by_cases hlt2 : i < n k
          · obtain ⟨b, c2, e2, ⟨x0, hx0⟩, hz, hb1, _, hbo, hset⟩ := hF2.setl (fun _ _ => rfl) Hlt.out hlt2
            have hl := hF2.lh k Hlt.out
            rw [e2, ← hnk] at hl
            have hi' : (i : Int) < (nk : Int) := by omega
            have i0 : (0 : Int) ≤ (i : Int) := by omega
            have hnk2 : (nk : Int) ≤ 100000 := by omega
            have HMk := Lib.hid (fun w0 => markByte_ok (k := k) (i := i) (by have := Hlt.out; omega) (by omega) w0)
            have hnew : Fl2 (wr.setCell ⟨b, i, none⟩ (mkv k i)) 5 1 K lb lb lv (fun _ => .slice none 0 0) n (fun _ => 0) (fun j => if j = k then (f2 k).set i (mkv k i) else f2 j) (fun _ => []) := hset _
            have fs : Fr (fun y => y = b) wr (wr.setCell ⟨b, i, none⟩ (mkv k i)) := Fr.setCell (F := fun y => y = b) (p := ⟨b, i, none⟩) (Fr.refl _ _) (fun _ => rfl) _
            have Hnew := Lib.hid hnew; have Hi := Lib.hid hlt2; have Hnk := Lib.hid hnk
            have HM2 := Lib.hid (show ∀ j, j < k → (if j = k then (f2 k).set i (mkv k i) else f2 j) = mkL j (n j) from fun j hj => by rw [if_neg (by omega)]; exact hM2 j hj)
            have HP2 := Lib.hid (show ∀ p, p < i + 1 → (if k = k then (f2 k).set i (mkv k i) else f2 k)[p]? = some (mkv k p) from fun p hp => by
              rw [if_pos rfl, List.getElem?_set]
              by_cases ep : i = p
              · subst ep; rw [if_pos rfl, if_pos (by have := (hF2.lr k Hlt.out).1; omega)]
              · rw [if_neg ep]; exact hP2 p (by omega))
            have Hfr2 := Lib.hid (hfr2.trans fs (fun y _ e => by rw [e]; exact ⟨k, Hlt.out, .inl hbo⟩))
            have lbl : lb < wr.heap.size := hF2.lt.1
            have hb1' : ¬ lb = b := fun e => hb1 e.symm
            clear hnew hset hi hlt2 hnk hM2 hP2 hfr2 hF2 hbo ek hn e2 hb1
            go_upto_region 7 with fail
            go_region_held3 (fun w' => w'.cell? ⟨lb, k, none⟩ = some (.slice (some ⟨b, 0, none⟩) nk c2))
              (first | (go_keep; done) | exact hl | exact ((Fr.drew fs).cell lbl hb1').trans hl)
              (first | (go_at_call 80; refine (HMk.out _).mono ?_; rintro e w4 ⟨rfl, rfl⟩))
            clear hl hx0 hz fs
            go_wp2_with fail
            go_roundw
            case rel => exact ⟨i + 1, _, by first | (simp; done) | go_num, Hi.out, Hnew.out.keep (Fr.drew (Fr.refl _ _)), HM2.out, fun p hp => by simpa using HP2.out p hp, Fr.drew Hfr2.out⟩
            case measure => have := Hi.out; simp [intOf]; omega
          · obtain rfl : i = n k := by omega
            have hl := hF2.lh k Hlt.out
            rw [ek, ← hnk] at hl
            rw [← hnk]
            have nk0 : (nk : Int) ≤ 100000 := by omega
            have HF3 := Lib.hid hF2; have Hfr3 := Lib.hid hfr2
            have HM3 := Lib.hid (show ∀ j, j < k + 1 → f2 j = mkL j (n j) from fun j hj => by
              by_cases ej : j = k
              · subst ej; exact mkL_ext (by have := (hF2.lr j Hlt.out).1; omega) hP2
              · exact hM2 j (by omega))
            clear hF2 hM2 hP2 hfr2 hlt2 hi hn ek hnk
            go_wp2_with fail
            go_roundw
            case rel => exact ⟨k + 1, f2, by first | (simp; done) | go_num, Hlt.out, HF3.out, HM3.out, Hfr3.out⟩
            case measure => have := Hlt.out; simp [intOf]; omega
      · obtain rfl : k = K := by omega
        clear hlt hk
        go_wp2_with fail
        go_meet
        exact ⟨HF.out.congr HM.out (fun _ _ => rfl) (fun _ _ => rfl) (fun _ _ => rfl), Hfr.out⟩
  case rest =>
    obtain ⟨hF, hfr⟩ := hcut
    have HF := Lib.hid hF; have Hfr := Lib.hid hfr
    clear hF hfr H
    obtain ⟨i0, hi, hz0, hz1, hz2⟩ := info_three Tryd.infoFB
    have hmk := run_make (P := Tryd.prog) wc 35 30 i0 (.slice none 0 0) Tryd.underlying35 hi hz0 .i64 .i64 (K : Int) (K : Int) (by omega) (Int.le_refl _) (by rw [hz2]; omega) (by omega)
    rw [Int.toNat_natCast, hz1, Nat.mul_one, show (Value.slice none 0 0).cells = #[.slice none 0 0] from rfl] at hmk
    obtain ⟨W2, hW2⟩ : ∃ W2, W2 = wc.alloc (.cells (madeCells #[.slice none 0 0] K) 30) := ⟨_, rfl⟩
    obtain ⟨gb, hgb⟩ : ∃ gb, gb = wc.heap.size := ⟨_, rfl⟩
    have f2 : Fr (fun _ => False) wc W2 := by rw [hW2]; exact Fr.alloc (Fr.refl _ _) _
    have hd2 : Hd W2 30 gb K (fun _ => .slice none 0 0) := by rw [hW2, hgb]; exact Hd.made _ _ _ _
    have hF2 := HF.out.row f2 (by rw [hW2]; simp)
    rw [← hgb] at hF2
    have HF2 := Lib.hid hF2; have Hd2 := Lib.hid hd2; have Hfr2 := Lib.hid (Hfr.out.trans f2 (fun _ _ h => h.elim))
    have Hgb := Lib.hid (show w.heap.size ≤ gb by rw [hgb]; exact Hfr.out.size)
    have lne := Lib.hid (show ¬ lb = gb from fun e => by have := HF.out.lt.1; omega)
    clear hi hz0 hz1 hz2 f2 hd2 hF2 HF Hfr
    go_upto_block 4 with fail
    rw [← hW2, ← hgb]
    clear hmk hW2 hgb
    go_cut [6, 7, 8] (fun _ _ _ wx => ∃ gv : Nat → Value, Fl2 wx 5 1 K lb gb lv gv n (fun k => n k + 64) (fun k => mkL k (n k)) (fun k => mkL k (n k + 64)) ∧ Hd wx 30 gb K gv ∧ (∀ j b, j < K → (gv j).ownBlock = some b → (lv j).ownBlock = some b ∨ w.heap.size ≤ b) ∧ Fr (fun b => flP K lv (fun _ => .slice none 0 0) b) w wx)
    case first =>
      go_wp2_with fail
      go_loopw [6, 7, 8] (fun s6 _ _ wr => ∃ (k : Nat) (gv : Nat → Value) (m : Nat → Nat) (g : Nat → List Value), s6 = .int .i64 k ∧ k ≤ K ∧ Fl2 wr 5 1 K lb gb lv gv n m (fun k => mkL k (n k)) g ∧ Hd wr 30 gb K gv ∧ (∀ j, j < k → m j = n j + 64 ∧ g j = mkL j (n j + 64)) ∧ (∀ j b, j < K → (gv j).ownBlock = some b → (lv j).ownBlock = some b ∨ w.heap.size ≤ b) ∧ Fr (fun b => flP K lv (fun _ => .slice none 0 0) b) w wr) (fun s6 _ _ _ => K - (intOf s6).toNat)
      case atStart => exact ⟨0, _, _, _, rfl, Nat.zero_le _, HF2.out, Hd2.out, fun j hj => by omega, fun j b _ hb => by simp [Value.ownBlock] at hb, Hfr2.out⟩
      case round =>
        obtain ⟨k, gv, m, g, rfl, hk, hF, hd, hm, hnw, hfr⟩ := hrel
        by_cases hlt : k < K
        · have hlt' : (k : Int) < (K : Int) := by omega
          have k0 : (0 : Int) ≤ (k : Int) := by omega
          obtain ⟨ak, ck, ek⟩ : ∃ a c, lv k = .slice a (n k) c := by
            rcases (hF.lr k hlt).2 with ⟨e1, e2⟩ | ⟨g, cap, cur, e1, _⟩
            · exact ⟨none, 0, by rw [e1, e2]⟩
            · exact ⟨_, _, e1⟩
          have hl := hF.lh k hlt
          have hn := HN.out k hlt
          have HF := Lib.hid (hF.same hlt); have Hd0 := Lib.hid hd; have Hm := Lib.hid hm; have Hfr := Lib.hid hfr; have Hlt := Lib.hid hlt; have Hek := Lib.hid ek; have Hn := Lib.hid hn
          have Hnw := Lib.hid (show ∀ j b, j < K → (if j = k then lv k else gv j).ownBlock = some b → (lv j).ownBlock = some b ∨ w.heap.size ≤ b from fun j b hj hb => by
            by_cases ej : j = k
            · subst ej; rw [if_pos rfl] at hb; exact .inl hb
            · rw [if_neg ej] at hb; exact hnw j b hj hb)
          clear hF hd hm hnw hfr hlt hk ek hn HF2 Hd2 Hfr2
          go_upto_block 6 with fail
          go_cut [7, 8] (fun s7 _ wx => ∃ (gv1 : Nat → Value) (m1 : Nat → Nat) (g1 : Nat → List Value), s7 = gv1 k ∧ Fl2 wx 5 1 K lb gb lv gv1 n m1 (fun k => mkL k (n k)) g1 ∧ Hd wx 30 gb K gv ∧ (∀ j, j ≠ k → gv1 j = gv j) ∧ (∀ j, j < k + 1 → m1 j = n j + 64 ∧ g1 j = mkL j (n j + 64)) ∧ (∀ j b, j < K → (gv1 j).ownBlock = some b → (lv j).ownBlock = some b ∨ w.heap.size ≤ b) ∧ Fr (fun b => flP K lv (fun _ => .slice none 0 0) b) w wx)
          case first =>
            go_wp2_with fail
            clear hl
            go_loopw [7, 8] (fun s7 s8 wr => ∃ (i : Nat) (gv1 : Nat → Value) (m1 : Nat → Nat) (g1 : Nat → List Value), s8 = .int .i64 i ∧ s7 = gv1 k ∧ i ≤ 64 ∧ Fl2 wr 5 1 K lb gb lv gv1 n m1 (fun k => mkL k (n k)) g1 ∧ Hd wr 30 gb K gv ∧ (∀ j, j ≠ k → gv1 j = gv j) ∧ (∀ j, j < k → m1 j = n j + 64 ∧ g1 j = mkL j (n j + 64)) ∧ m1 k = n k + i ∧ g1 k = mkL k (n k + i) ∧ (∀ j b, j < K → (gv1 j).ownBlock = some b → (lv j).ownBlock = some b ∨ w.heap.size ≤ b) ∧ Fr (fun b => flP K lv (fun _ => .slice none 0 0) b) w wr) (fun _ s8 _ => 64 - (intOf s8).toNat)
            case atStart => exact ⟨0, _, _, _, rfl, by simp, by omega, HF.out, Hd0.out, fun j hj => by simp [hj], fun j hj => by
              have h1 := Hm.out j hj
              have e : ¬ j = k := by omega
              simp only [if_neg e]; exact h1, by simp, by simp, Hnw.out, Hfr.out⟩
            case round =>
              obtain ⟨i, gv1, m1, g1, rfl, rfl, hi, hF1, hd1, ho1, hm1, hmk, hgk, hnw1, hfr1⟩ := hrel
              by_cases h64 : i < 64
              · have h64' : (i : Int) < 64 := by omega
                obtain ⟨nk, hnk⟩ : ∃ nk, nk = n k := ⟨_, rfl⟩
                obtain ⟨q, hq⟩ : ∃ q, q = n k + i := ⟨_, rfl⟩
                have hl := hF1.lh k Hlt.out
                rw [Hek.out, ← hnk] at hl
                have hn6 := Hn.out
                have e1 : (nk : Int) + (i : Int) = (q : Int) := by omega
                have e2 : wrap64 (q : Int) = (q : Int) := by unfold wrap64; omega
                have e3 : IntKind.i64.wrap (q : Int) = (q : Int) := by rw [IntKind.wrap_i64]; omega
                have HMk := Lib.hid (fun w0 => markByte_ok (k := k) (i := q) (by have := Hlt.out; omega) (by omega) w0)
                have fa : Fr (fun _ => False) wr (wr.alloc (.cells #[.int .u8 (mkB k q)] 5)) := Fr.alloc (Fr.refl _ _) _
                have hc : (wr.alloc (.cells #[.int .u8 (mkB k q)] 5)).heap[wr.heap.size]? = some (.cells #[.int .u8 (mkB k q)] 5 (0, 0)) := by rw [heap_alloc_get]; simp
                obtain ⟨i1, hi1, y0, y1, y2⟩ := info_three Tryd.infoFb
                obtain ⟨v', w', hrun, hF3, hfr3, hown, a', c', hv'⟩ := (hF1.keep fa).app (P := Tryd.prog) 30 i1 (.int .u8 0) 1 Tryd.underlying30 hi1 y0 y1 y2 rfl (by decide) Hlt.out (by rw [hgk]; exact mkL_add _ _ _) (by omega) ⟨wr.heap.size, 0, none⟩ 1 1 (by decide) [mkv k q] rfl
                  (by intro j u hu
                      rw [show (⟨wr.heap.size, 0, none⟩ : Addr).add j = ⟨wr.heap.size, j, none⟩ from by simp [Addr.add]; intro h; exact h.symm, cell_of hc j]
                      simpa [mkv] using hu)
                  (by intro u hu; simp at hu; subst hu; rfl) (by unfold maxLen; omega) (by omega)
                subst hv'
                have hrun : (Builtin.append_ #[30, 30] 30 #[gv1 k, .slice (some ⟨wr.heap.size, 0, none⟩) 1 1]).run Tryd.prog (wr.alloc (.cells #[.int .u8 (mkB k q)] 5)) = .ok (.slice a' (m1 k + 1) c') w' := hrun
                have hsz : w.heap.size ≤ wr.heap.size := hfr1.size
                have Hd1 := Lib.hid ((hd1.fr fa (fun h => h)).fr hfr3 (fun e => (hF1.hb k gb Hlt.out (.inr e)).2 rfl))
                have HNw := Lib.hid (show ∀ j b, j < K → (if j = k then Value.slice a' (m1 k + 1) c' else gv1 j).ownBlock = some b → (lv j).ownBlock = some b ∨ w.heap.size ≤ b from fun j b hj hb => by
                  by_cases ej : j = k
                  · subst ej
                    rw [if_pos rfl] at hb
                    rcases hown with h | h
                    · rw [h] at hb; exact hnw1 j b hj hb
                    · rw [h] at hb; simp at hb; right; omega
                  · rw [if_neg ej] at hb; exact hnw1 j b hj hb)
                have HFr := Lib.hid ((hfr1.trans fa (fun _ _ h => h.elim)).trans hfr3 (fun b hb e => by
                  rcases hnw1 k b Hlt.out e with h | h
                  · exact ⟨k, Hlt.out, .inl h⟩
                  · omega))
                have HF3 := Lib.hid hF3
                have HO := Lib.hid (show ∀ j, j ≠ k → (if j = k then Value.slice a' (m1 k + 1) c' else gv1 j) = gv j from fun j hj => by rw [if_neg hj]; exact ho1 j hj)
                have HMM := Lib.hid (show ∀ j, j < k → (if j = k then m1 k + 1 else m1 j) = n j + 64 ∧ (if j = k then g1 k ++ [mkv k q] else g1 j) = mkL j (n j + 64) from fun j hj => by
                  have e : ¬ j = k := by omega
                  rw [if_neg e, if_neg e]; exact hm1 j hj)
                have HK1 := Lib.hid (show m1 k + 1 = n k + (i + 1) by omega)
                have HK2 := Lib.hid (show g1 k ++ [mkv k q] = mkL k (n k + (i + 1)) by rw [hgk, hq, ← Nat.add_assoc, mkL_succ])
                have H64 := Lib.hid h64
                obtain ⟨a1, c1, ev⟩ : ∃ a c, gv1 k = .slice a (m1 k) c := by
                  rcases (hF1.gr k Hlt.out).2 with ⟨e1, e2⟩ | ⟨g, cap, cur, e1, _⟩
                  · exact ⟨none, 0, by rw [e1, e2]⟩
                  · exact ⟨_, _, e1⟩
                obtain ⟨mm, hmm⟩ : ∃ mm, mm = m1 k := ⟨_, rfl⟩
                rw [ev, ← hmm] at hrun
                rw [ev, ← hmm]
                have Hmm := Lib.hid hmm; have Hrun := Lib.hid hrun
                clear hrun hi hF1 hd1 ho1 hm1 hmk hgk hnw1 hfr1 h64 hnk hq hn6 fa hc hi1 y0 y1 y2 hF3 hfr3 hown hsz ev hmm
                go_wp2_with fail
                refine (HMk.out _).mono ?_
                rintro e w4 ⟨rfl, rfl⟩
                go_wp2_with (at_builtin; refine wpList_append_run rfl _ _ _ rfl rfl rfl Hrun.out ?_)
                go_roundw
                case rel => exact ⟨i + 1, _, _, _, by first | (simp; done) | go_num, by simp [Hmm.out], H64.out, HF3.out, Hd1.out, HO.out, HMM.out, by simpa using HK1.out, by simpa using HK2.out, HNw.out, HFr.out⟩
                case measure => have := H64.out; simp [intOf]; omega
              · obtain rfl : i = 64 := by omega
                have HF1 := Lib.hid hF1; have Hd1 := Lib.hid hd1; have HO := Lib.hid ho1; have HNw := Lib.hid hnw1; have HFr := Lib.hid hfr1
                have HMM := Lib.hid (show ∀ j, j < k + 1 → m1 j = n j + 64 ∧ g1 j = mkL j (n j + 64) from fun j hj => by
                  by_cases ej : j = k
                  · subst ej; exact ⟨hmk, hgk⟩
                  · exact hm1 j (by omega))
                clear hi hF1 hd1 ho1 hm1 hmk hgk hnw1 hfr1 h64
                go_wp2_with fail
                go_meet
                exact ⟨gv1, m1, g1, rfl, HF1.out, Hd1.out, HO.out, HMM.out, HNw.out, HFr.out⟩
          case rest =>
            obtain ⟨gv1, m1, g1, rfl, hF1, hd1, ho1, hm1, hnw1, hfr1⟩ := hcut
            have d1 := hd1.cell Hlt.out
            have z1 := hd1.free k
            have fs : Fr (fun b => b = gb) wc (wc.setCell ⟨gb, k, none⟩ (gv1 k)) := Fr.setCell (F := fun b => b = gb) (p := ⟨gb, k, none⟩) (Fr.refl _ _) (fun _ => rfl) _
            have hd2 : Hd (wc.setCell ⟨gb, k, none⟩ (gv1 k)) 30 gb K gv1 := (hd1.set Hlt.out (gv1 k)).congr (fun j hj => by
              by_cases ej : j = k
              · subst ej; rw [if_pos rfl]
              · rw [if_neg ej]; exact (ho1 j ej).symm)
            have HF1 := Lib.hid (hF1.fr fs (fun e => lne.out e) (fun b hb e => by obtain ⟨j, hj, hb⟩ := hb; exact (hF1.hb j b hj hb).2 e))
            have Hd1 := Lib.hid hd2; have HMM := Lib.hid hm1; have HNw := Lib.hid hnw1
            have HFr := Lib.hid (hfr1.trans fs (fun b hb e => by have := Hgb.out; omega))
            obtain ⟨ag, cg, eg⟩ : ∃ a c, gv1 k = .slice a (m1 k) c := by
              rcases (hF1.gr k Hlt.out).2 with ⟨e1, e2⟩ | ⟨g, cap, cur, e1, _⟩
              · exact ⟨none, 0, by rw [e1, e2]⟩
              · exact ⟨_, _, e1⟩
            rw [eg] at HF1 Hd1 HFr ⊢
            clear hF1 hd1 ho1 hm1 hnw1 hfr1 fs hd2 hl eg
            go_wp2_with fail
            go_roundw
            case rel => exact ⟨k + 1, gv1, m1, g1, by first | (simp; done) | go_num, Hlt.out, HF1.out, Hd1.out, HMM.out, HNw.out, HFr.out⟩
            case measure => have := Hlt.out; simp [intOf]; omega
        · obtain rfl : k = K := by omega
          have HF1 := Lib.hid (hF.congr (fun _ _ => rfl) (fun j hj => (hm j hj).2) (fun _ _ => rfl) (fun j hj => (hm j hj).1))
          have Hd1 := Lib.hid hd; have HNw := Lib.hid hnw; have HFr := Lib.hid hfr
          clear hF hd hm hnw hfr hlt hk
          go_wp2_with fail
          go_meet
          exact ⟨gv, HF1.out, Hd1.out, HNw.out, HFr.out⟩
    case rest =>
      obtain ⟨gv, hF, hd, hnw, hfr⟩ := hcut
      have HF := Lib.hid hF; have Hd := Lib.hid hd; have HNw := Lib.hid hnw; have Hfr := Lib.hid hfr
      clear hF hd hnw hfr HF2 Hd2 Hfr2
      obtain ⟨w3, rfl⟩ : ∃ w3 : World, w3 = wc := ⟨_, rfl⟩
      go_upto_block 8 with fail
      go_cut [9, 10] (fun _ _ wx => Fr (fun _ => False) w3 wx)
      case first =>
        go_wp2_with fail
        go_loopw [9, 10] (fun s9 _ wr => ∃ k : Nat, s9 = .int .i64 k ∧ k ≤ K ∧ Fr (fun _ => False) w3 wr) (fun s9 _ _ => K - (intOf s9).toNat)
        case atStart => exact ⟨0, rfl, Nat.zero_le _, Fr.refl _ _⟩
        case round =>
          obtain ⟨k, rfl, hk, fr0⟩ := hrel
          by_cases hlt : k < K
          · have hlt' : (k : Int) < (K : Int) := by omega
            have k0 : (0 : Int) ≤ (k : Int) := by omega
            obtain ⟨ak, ck, ek⟩ : ∃ a c, lv k = .slice a (n k) c := by
              rcases (HF.out.lr k hlt).2 with ⟨e1, e2⟩ | ⟨g, cap, cur, e1, _⟩
              · exact ⟨none, 0, by rw [e1, e2]⟩
              · exact ⟨_, _, e1⟩
            obtain ⟨ag, cg, eg⟩ : ∃ a c, gv k = .slice a (n k + 64) c := by
              rcases (HF.out.gr k hlt).2 with ⟨e1, e2⟩ | ⟨g, cap, cur, e1, _⟩
              · exact ⟨none, 0, by rw [e1, e2]⟩
              · exact ⟨_, _, e1⟩
            obtain ⟨nk, hnk⟩ : ∃ nk, nk = n k := ⟨_, rfl⟩
            obtain ⟨mk, hmk⟩ : ∃ mk, mk = n k + 64 := ⟨_, rfl⟩
            have hn := HN.out k hlt
            rw [← hnk] at ek
            rw [← hmk] at eg
            have mk6 : (mk : Int) ≤ 200000 := by omega
            have Hlt := Lib.hid hlt; have Hek := Lib.hid ek; have Heg := Lib.hid eg; have Hnk := Lib.hid hnk; have Hmk := Lib.hid hmk; have Fr0 := Lib.hid fr0
            clear ek eg hnk hmk hlt hk hn fr0
            go_wp2_with fail
            go_loopw [10] (fun s10 wr => ∃ i : Nat, s10 = .int .i64 i ∧ i ≤ mk ∧ Fr (fun _ => False) w3 wr) (fun s10 _ => mk - (intOf s10).toNat)
            case atStart => exact ⟨0, rfl, Nat.zero_le _, Fr0.out⟩
            case round =>
              obtain ⟨i, rfl, hi, fr1⟩ := hrel
              have hF := HF.out.keep fr1
              have hdr := Hd.out.fr fr1 (fun h => h)
              have hl := hF.lh k Hlt.out
              have hgl := hdr.cell Hlt.out
              rw [Hek.out] at hl
              rw [Heg.out] at hgl
              by_cases him : i < mk
              · have him' : (i : Int) < (mk : Int) := by omega
                have i0 : (0 : Int) ≤ (i : Int) := by omega
                have i2 : (i : Int) ≤ 200000 := by omega
                have rg := hF.gr k Hlt.out
                rw [Heg.out, ← Hmk.out] at rg
                obtain ⟨g, rfl, hgc⟩ := fl_cell rg him
                have HMk := Lib.hid (fun w0 => markByte_ok (k := k) (i := i) (by have := Hlt.out; omega) (by omega) w0)
                have Him := Lib.hid him; have Fr1 := Lib.hid fr1
                have ebb : ((mkB k i) == (mkB k i)) = true := by simp
                clear hdr rg him hi fr1
                go_upto_region 24 with fail
                go_cut [122] (fun s wx => s = .bool false ∧ Fr (fun _ => False) wr wx)
                case first =>
                  by_cases hin : i < nk
                  · have hin' : (i : Int) < (nk : Int) := by omega
                    have hib : decide ((i : Int) < (nk : Int)) = true := by simp; omega
                    have hib2 : decide (i < nk) = true := by simp; omega
                    have rl := hF.lr k Hlt.out
                    rw [Hek.out, ← Hnk.out] at rl
                    obtain ⟨b, rfl, hlc⟩ := fl_cell rl hin
                    clear hF rl hin
                    go_big_quiet ((go_at_call 80; exact Calls.quiet_of_same ((HMk.out _).mono fun _ _ h => ⟨h.1, h.2.symm⟩)))
                    go_wp2_with fail
                    go_meet
                    exact ⟨rfl, ⟨rfl, rfl, rfl, Nat.le_refl _, fun _ _ _ => rfl⟩⟩
                  · have hin' : ¬ (i : Int) < (nk : Int) := by omega
                    have hib : decide ((i : Int) < (nk : Int)) = false := by simp; omega
                    have hib2 : decide (i < nk) = false := by simp; omega
                    clear hF hin
                    go_big_quiet ((go_at_call 80; exact Calls.quiet_of_same ((HMk.out _).mono fun _ _ h => ⟨h.1, h.2.symm⟩)))
                    go_wp2_with fail
                    go_meet
                    exact ⟨rfl, ⟨rfl, rfl, rfl, Nat.le_refl _, fun _ _ _ => rfl⟩⟩
                case rest =>
                  obtain ⟨rfl, fr2⟩ := hcut
                  have Fr2 := Lib.hid (Fr1.out.trans fr2 (fun _ _ h => h))
                  clear fr2 hl hgl hgc hF
                  go_wp2_with fail
                  go_roundw
                  case rel => exact ⟨i + 1, by first | (simp; done) | go_num, Him.out, Fr2.out⟩
                  case measure => have := Him.out; simp [intOf]; omega
              · obtain rfl : i = mk := by omega
                have Fr1 := Lib.hid fr1
                clear hF hdr hi fr1 him hl
                go_wp2_with fail
                go_roundw
                case rel => exact ⟨k + 1, by first | (simp; done) | go_num, Hlt.out, Fr1.out⟩
                case measure => have := Hlt.out; simp [intOf]; omega
          · obtain rfl : k = K := by omega
            have Fr0 := Lib.hid fr0
            clear hlt hk fr0
            go_wp2_with fail
            go_meet
            exact Fr0.out
      case rest =>
        have HF4 := Lib.hid (HF.out.keep hcut)
        have Hd4 := Lib.hid (Hd.out.fr hcut (fun h => h))
        have Hfr4 := Lib.hid (Hfr.out.trans hcut (fun _ _ h => h.elim))
        clear hcut HF Hd Hfr
        obtain ⟨w4, rfl⟩ : ∃ w4 : World, w4 = wc := ⟨_, rfl⟩
        go_upto_block 12 with fail
        go_cut [11, 12, 13] (fun _ _ _ wx => ∃ (gv : Nat → Value) (m : Nat → Nat) (g : Nat → List Value), Fl2 wx 5 1 K lb gb lv gv n m (fun k => mkL k (n k)) g ∧ Hd wx 30 gb K gv ∧ (∀ j, j < K → m j = n j + 64 ∧ ∃ ys, g j = mkL j (n j) ++ ys) ∧ Fr (fun b => flP K lv (fun _ => .slice none 0 0) b) w wx)
        case first =>
          go_wp2_with fail
          go_loopw [11, 12, 13] (fun s11 _ _ wr => ∃ (k : Nat) (gv : Nat → Value) (m : Nat → Nat) (g : Nat → List Value), s11 = .int .i64 k ∧ k ≤ K ∧ Fl2 wr 5 1 K lb gb lv gv n m (fun k => mkL k (n k)) g ∧ Hd wr 30 gb K gv ∧ (∀ j, j < K → m j = n j + 64 ∧ ∃ ys, g j = mkL j (n j) ++ ys) ∧ Fr (fun b => flP K lv (fun _ => .slice none 0 0) b) w wr) (fun s11 _ _ _ => K - (intOf s11).toNat)
          case atStart => exact ⟨0, _, _, _, rfl, Nat.zero_le _, HF4.out, Hd4.out, fun j hj => ⟨rfl, mkL_add _ _ _⟩, Hfr4.out⟩
          case round =>
            obtain ⟨k, gv1, m1, g1, rfl, hk, hF, hd, hm, hfr⟩ := hrel
            by_cases hlt : k < K
            · have hlt' : (k : Int) < (K : Int) := by omega
              have k0 : (0 : Int) ≤ (k : Int) := by omega
              obtain ⟨wk, rfl⟩ : ∃ wk : World, wk = wr := ⟨_, rfl⟩
              have hn := HN.out k hlt
              obtain ⟨i1, hi1, y0, y1, y2⟩ := info_three Tryd.infoFb
              have hmk := run_make (P := Tryd.prog) wk 30 5 i1 (.int .u8 0) Tryd.underlying30 hi1 y0 .i64 .i64 64 64 (by omega) (Int.le_refl _) (by rw [y2]; omega) (by omega)
              rw [show (64 : Int).toNat = 64 from rfl, y1, Nat.mul_one, show (Value.int .u8 0).cells = #[.int .u8 0] from rfl] at hmk
              obtain ⟨W4, hW4⟩ : ∃ W4, W4 = wk.alloc (.cells (madeCells #[.int .u8 0] 64) 5) := ⟨_, rfl⟩
              obtain ⟨mb, hmb⟩ : ∃ mb, mb = wk.heap.size := ⟨_, rfl⟩
              have fm : Fr (fun _ => False) wk W4 := by rw [hW4]; exact Fr.alloc (Fr.refl _ _) _
              have hM : W4.heap[mb]? = some (.cells (madeCells #[.int .u8 0] 64) 5 (0, 0)) := by rw [hW4, hmb, heap_alloc_get]; simp
              have HM0 := Lib.hid hM; have Fm := Lib.hid fm; have Hmb := Lib.hid hmb
              have HF := Lib.hid hF; have Hd := Lib.hid hd; have Hm := Lib.hid hm; have Hfr := Lib.hid hfr; have Hlt := Lib.hid hlt; have Hn := Lib.hid hn
              have Hi1 := Lib.hid hi1; have Y0 := Lib.hid y0; have Y1 := Lib.hid y1; have Y2 := Lib.hid y2
              clear hM fm hF hd hm hfr hlt hk hn hi1 y0 y1 y2 HF4 Hd4 Hfr4
              go_upto_block 14 with fail
              rw [← hW4, ← hmb]
              clear hmk hW4 hmb
              go_cut [13] (fun _ wx => ∃ cs : Array Value, wx.heap[mb]? = some (.cells cs 5 (0, 0)) ∧ (∀ p, p < 64 → cs[p]? = some (mkv (k + K) p)) ∧ Fr (fun _ => False) wk wx)
              case first =>
                go_wp2_with fail
                go_loopw [13] (fun s13 wr => ∃ (i : Nat) (cs : Array Value), s13 = .int .i64 i ∧ i ≤ 64 ∧ wr.heap[mb]? = some (.cells cs 5 (0, 0)) ∧ cs.size = 64 ∧ (∀ p, p < i → cs[p]? = some (mkv (k + K) p)) ∧ Fr (fun _ => False) wk wr) (fun s13 _ => 64 - (intOf s13).toNat)
                case atStart => exact ⟨0, _, rfl, by omega, HM0.out, by simp [size_madeCells], fun p hp => by omega, Fm.out⟩
                case round =>
                  obtain ⟨i, cs, rfl, hi, hcs, hcz, hcm, fr1⟩ := hrel
                  by_cases h64 : i < 64
                  · have h64' : (i : Int) < 64 := by omega
                    have i0 : (0 : Int) ≤ (i : Int) := by omega
                    obtain ⟨q, hq⟩ : ∃ q, q = k + K := ⟨_, rfl⟩
                    have e1 : (k : Int) + (K : Int) = (q : Int) := by omega
                    have e2 : wrap64 (q : Int) = (q : Int) := by unfold wrap64; omega
                    have e3 : IntKind.i64.wrap (q : Int) = (q : Int) := by rw [IntKind.wrap_i64]; omega
                    have HMk := Lib.hid (fun w0 => markByte_ok (k := q) (i := i) (by have := Hlt.out; omega) (by omega) w0)
                    obtain ⟨x0, hx0⟩ : ∃ x0, wr.cell? ⟨mb, i, none⟩ = some x0 := ⟨_, (cell_of hcs i).trans (Array.getElem?_eq_getElem (by omega))⟩
                    have z0 : wr.frozen? ⟨mb, i, none⟩ = false := free_of hcs i
                    have Hnx := Lib.hid (setCell_blk (o := i) hcs (mkv q i))
                    have Hcm := Lib.hid (show ∀ p, p < i + 1 → (cs.setIfInBounds i (mkv q i))[p]? = some (mkv (k + K) p) from fun p hp => by
                      rw [← hq, Array.getElem?_setIfInBounds]
                      by_cases ep : i = p
                      · subst ep; rw [if_pos rfl, if_pos (by omega)]
                      · rw [if_neg ep, hq]; exact hcm p (by omega))
                    have Hcz := Lib.hid (show (cs.setIfInBounds i (mkv q i)).size = 64 by simpa using hcz)
                    have Fr1 := Lib.hid (show Fr (fun _ => False) wk (wr.setCell ⟨mb, i, none⟩ (mkv q i)) from fr1.setCell (p := ⟨mb, i, none⟩) (fun h => by have := Hmb.out; simp at h; omega) _)
                    have H64 := Lib.hid h64
                    clear hcs hcz hcm fr1 hi h64 hq
                    go_wp2_with fail
                    refine (HMk.out _).mono ?_
                    rintro e w5 ⟨rfl, rfl⟩
                    go_wp2_with fail
                    go_roundw
                    case rel => exact ⟨i + 1, _, by first | (simp; done) | go_num, H64.out, Hnx.out, Hcz.out, Hcm.out, Fr1.out⟩
                    case measure => have := H64.out; simp [intOf]; omega
                  · obtain rfl : i = 64 := by omega
                    have Hcs := Lib.hid hcs; have Hcm := Lib.hid hcm; have Fr1 := Lib.hid fr1
                    clear hcs hcz hcm fr1 hi h64
                    go_wp2_with fail
                    go_meet
                    exact ⟨cs, Hcs.out, Hcm.out, Fr1.out⟩
              case rest =>
                obtain ⟨cs, hcs, hcm, fr1⟩ := hcut
                have hFx := HF.out.keep fr1
                have hdx := Hd.out.fr fr1 (fun h => h)
                obtain ⟨v', w', hrun, hF6, fr6, hown, a', c', hv'⟩ := hFx.anew (P := Tryd.prog) 30 i1 (.int .u8 0) 1 Tryd.underlying30 Hi1.out Y0.out Y1.out Y2.out rfl (by decide) Hlt.out ⟨mb, 0, none⟩ 64 64 (by decide) (mkL (k + K) 64) (by rw [mkL_length])
                  (by intro j u hu
                      have hj : j < 64 := by
                        have := List.getElem?_eq_some_iff.1 hu
                        obtain ⟨h1, _⟩ := this
                        rw [mkL_length] at h1; exact h1
                      rw [show (⟨mb, 0, none⟩ : Addr).add j = ⟨mb, j, none⟩ from by simp [Addr.add]; intro h; exact h.symm, cell_of hcs j, hcm j hj]
                      rw [mkL_get hj] at hu; exact hu)
                  (by intro u hu; obtain ⟨p, _, rfl⟩ := List.mem_map.1 hu; rfl) (by unfold maxLen; have := Hn.out; omega) (by have := Hn.out; omega)
                subst hv'
                have hl := hFx.lh k Hlt.out
                obtain ⟨ak, ck, ek⟩ : ∃ a c, lv k = .slice a (n k) c := by
                  rcases (hFx.lr k Hlt.out).2 with ⟨e1, e2⟩ | ⟨g, cap, cur, e1, _⟩
                  · exact ⟨none, 0, by rw [e1, e2]⟩
                  · exact ⟨_, _, e1⟩
                obtain ⟨nk, hnk⟩ : ∃ nk, nk = n k := ⟨_, rfl⟩
                obtain ⟨q, hq⟩ : ∃ q, q = n k + 64 := ⟨_, rfl⟩
                have hn6 := Hn.out
                rw [← hq] at hrun hF6 hown
                have hd6 : Go.Proofs.YticcjnfninhjlaaDoor.Hd w' 30 gb K gv1 := hdx.fr fr6 (fun e => (hFx.hb k gb Hlt.out (.inl e)).2 rfl)
                have d1 := hd6.cell Hlt.out
                have z1 := hd6.free k
                have fs : Fr (fun b => b = gb) w' (w'.setCell ⟨gb, k, none⟩ (.slice a' q c')) := Fr.setCell (F := fun b => b = gb) (p := ⟨gb, k, none⟩) (Fr.refl _ _) (fun _ => rfl) _
                have HF7 := Lib.hid (hF6.fr fs (fun e => lne.out e) (fun b hb e => by obtain ⟨j, hj, hb⟩ := hb; exact (hF6.hb j b hj hb).2 e))
                have Hd7 := Lib.hid (hd6.set Hlt.out (.slice a' q c'))
                have HM7 := Lib.hid (show ∀ j, j < K → (if j = k then q else m1 j) = n j + 64 ∧ ∃ ys, (if j = k then mkL k (n k) ++ mkL (k + K) 64 else g1 j) = mkL j (n j) ++ ys from fun j hj => by
                  by_cases ej : j = k
                  · subst ej; rw [if_pos rfl, if_pos rfl]; exact ⟨hq, _, rfl⟩
                  · rw [if_neg ej, if_neg ej]; exact Hm.out j hj)
                have HFr7 := Lib.hid (((Hfr.out.trans fr1 (fun _ _ h => h.elim)).trans fr6 (fun b hb e => ⟨k, Hlt.out, .inl e⟩)).trans fs (fun b hb e => by have := Hgb.out; omega))
                rw [ek, ← hnk] at hrun hl
                have Hrun := Lib.hid hrun
                have hnk2 : (nk : Int) ≤ 100000 := by omega
                clear hrun hcs hcm fr1 hFx hdx hF6 fr6 hown hd6 fs hnk hq hn6 ek
                go_wp2_with (at_builtin; refine wpList_append_run rfl _ _ _ rfl rfl rfl Hrun.out ?_)
                go_roundw
                case rel => exact ⟨k + 1, _, _, _, by first | (simp; done) | go_num, Hlt.out, HF7.out, Hd7.out, HM7.out, HFr7.out⟩
                case measure => have := Hlt.out; simp [intOf]; omega
            · obtain rfl : k = K := by omega
              have HF := Lib.hid hF; have Hd := Lib.hid hd; have Hm := Lib.hid hm; have Hfr := Lib.hid hfr
              clear hF hd hm hfr hlt hk HF4 Hd4 Hfr4
              go_wp2_with fail
              go_meet
              exact ⟨gv1, m1, g1, HF.out, Hd.out, Hm.out, Hfr.out⟩
        case rest =>
          obtain ⟨gv1, m1, g1, hF, hd, hm, hfr⟩ := hcut
          have HF := Lib.hid hF; have Hd := Lib.hid hd; have Hm := Lib.hid hm; have Hfr := Lib.hid hfr
          clear hF hd hm hfr HF4 Hd4 Hfr4
          obtain ⟨w5, rfl⟩ : ∃ w5 : World, w5 = wc := ⟨_, rfl⟩
          go_upto_block 16 with fail
          go_cut [14, 15] (fun _ _ wx => Fr (fun _ => False) w5 wx)
          case first =>
            go_wp2_with fail
            go_loopw [14, 15] (fun s14 _ wr => ∃ k : Nat, s14 = .int .i64 k ∧ k ≤ K ∧ Fr (fun _ => False) w5 wr) (fun s14 _ _ => K - (intOf s14).toNat)
            case atStart => exact ⟨0, rfl, Nat.zero_le _, Fr.refl _ _⟩
            case round =>
              obtain ⟨k, rfl, hk, fr0⟩ := hrel
              by_cases hlt : k < K
              · have hlt' : (k : Int) < (K : Int) := by omega
                have k0 : (0 : Int) ≤ (k : Int) := by omega
                obtain ⟨ak, ck, ek⟩ : ∃ a c, lv k = .slice a (n k) c := by
                  rcases (HF.out.lr k hlt).2 with ⟨e1, e2⟩ | ⟨g, cap, cur, e1, _⟩
                  · exact ⟨none, 0, by rw [e1, e2]⟩
                  · exact ⟨_, _, e1⟩
                obtain ⟨ag, cg, eg⟩ : ∃ a c, gv1 k = .slice a (m1 k) c := by
                  rcases (HF.out.gr k hlt).2 with ⟨e1, e2⟩ | ⟨g, cap, cur, e1, _⟩
                  · exact ⟨none, 0, by rw [e1, e2]⟩
                  · exact ⟨_, _, e1⟩
                obtain ⟨nk, hnk⟩ : ∃ nk, nk = n k := ⟨_, rfl⟩
                obtain ⟨mk, hmk⟩ : ∃ mk, mk = m1 k := ⟨_, rfl⟩
                have hn := HN.out k hlt
                have hmk2 := (Hm.out k hlt).1
                rw [← hnk] at ek
                rw [← hmk] at eg
                have mk6 : (mk : Int) ≤ 200000 := by omega
                have nm6 : (nk : Int) ≤ (mk : Int) := by omega
                have Hlt := Lib.hid hlt; have Hek := Lib.hid ek; have Heg := Lib.hid eg; have Hnk := Lib.hid hnk; have Hmk := Lib.hid hmk; have Fr0 := Lib.hid fr0
                clear ek eg hnk hmk hlt hk hn fr0 hmk2
                go_wp2_with fail
                go_loopw [15] (fun s15 wr => ∃ i : Nat, s15 = .int .i64 i ∧ i ≤ nk ∧ Fr (fun _ => False) w5 wr) (fun s15 _ => nk - (intOf s15).toNat)
                case atStart => exact ⟨0, rfl, Nat.zero_le _, Fr0.out⟩
                case round =>
                  obtain ⟨i, rfl, hi, fr1⟩ := hrel
                  have hF := HF.out.keep fr1
                  have hdr := Hd.out.fr fr1 (fun h => h)
                  have hl := hF.lh k Hlt.out
                  have hgl := hdr.cell Hlt.out
                  rw [Hek.out] at hl
                  rw [Heg.out] at hgl
                  by_cases hin : i < nk
                  · have hin' : (i : Int) < (nk : Int) := by omega
                    have him' : (i : Int) < (mk : Int) := by omega
                    have i0 : (0 : Int) ≤ (i : Int) := by omega
                    have rl := hF.lr k Hlt.out
                    rw [Hek.out, ← Hnk.out] at rl
                    obtain ⟨b, rfl, hlc⟩ := fl_cell rl hin
                    have rg := hF.gr k Hlt.out
                    obtain ⟨ys, ey⟩ := (Hm.out k Hlt.out).2
                    rw [Heg.out, ← Hmk.out, ey, ← Hnk.out] at rg
                    obtain ⟨g, rfl, hgc⟩ := fl_cell2 rg hin
                    have HMk := Lib.hid (fun w0 => markByte_ok (k := k) (i := i) (by have := Hlt.out; omega) (by omega) w0)
                    have Hin := Lib.hid hin; have Fr1 := Lib.hid fr1
                    have ebb : ((mkB k i) == (mkB k i)) = true := by simp
                    clear hdr rg rl ey hin hi fr1 hF
                    go_upto_region 41 with fail
                    go_cut [192] (fun s wx => s = .bool false ∧ Fr (fun _ => False) wr wx)
                    case first =>
                      go_big_quiet ((go_at_call 80; exact Calls.quiet_of_same ((HMk.out _).mono fun _ _ h => ⟨h.1, h.2.symm⟩)))
                      go_wp2_with fail
                      go_meet
                      exact ⟨rfl, ⟨rfl, rfl, rfl, Nat.le_refl _, fun _ _ _ => rfl⟩⟩
                    case rest =>
                      obtain ⟨rfl, fr2⟩ := hcut
                      have Fr2 := Lib.hid (Fr1.out.trans fr2 (fun _ _ h => h))
                      clear fr2 hl hgl hgc hlc
                      go_wp2_with fail
                      go_roundw
                      case rel => exact ⟨i + 1, by first | (simp; done) | go_num, Hin.out, Fr2.out⟩
                      case measure => have := Hin.out; simp [intOf]; omega
                  · obtain rfl : i = nk := by omega
                    have Fr1 := Lib.hid fr1
                    clear hF hdr hi fr1 hin hgl
                    go_wp2_with fail
                    go_roundw
                    case rel => exact ⟨k + 1, by first | (simp; done) | go_num, Hlt.out, Fr1.out⟩
                    case measure => have := Hlt.out; simp [intOf]; omega
              · obtain rfl : k = K := by omega
                have Fr0 := Lib.hid fr0
                clear hlt hk fr0
                go_wp2_with fail
                go_meet
                exact Fr0.out
          case rest =>
            have Hfr8 := Lib.hid (Hfr.out.trans hcut (fun _ _ h => h.elim))
            clear hcut
            go_wp2_with fail
            go_ret
            exact ⟨rfl, Hfr8.out⟩
end Go.Proofs.YticcjnfninhjlaaDoor
