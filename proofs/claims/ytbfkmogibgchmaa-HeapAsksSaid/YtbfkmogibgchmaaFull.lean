/- The contract of full: a heap that is filled. Conditions: a kind from 0 to 6, a small n. -/
import Derived.Test.YtbfkmogibgchmaaAwk
import Derived.Deep.CutBlock
import Derived.Deep.LoopGhost
namespace Go.Proofs.Ytbfkmogibgchmaa
open Go.RowKit
/-- Every handle below i is there. -/
def HasAll (L : List It) (i : Int) : Prop := ∀ h : Int, 0 ≤ h → h < i → ∃ j, j < L.length ∧ (itAt L j).2 = h
theorem perm_idx {L M : List It} (h : L.Perm M) {j : Nat} (hj : j < M.length) : ∃ i, i < L.length ∧ itAt L i = itAt M j := by
  have hm := h.mem_iff.2 (itAt_mem hj)
  obtain ⟨i, hi, e⟩ := List.getElem_of_mem hm
  exact ⟨i, hi, by rw [itAt_get hi, e]⟩
theorem HasAll.push {lt : Int → Int → Bool} {L : List It} {i : Int} (h : HasAll L i) (v : Int) : HasAll (pushF lt L v i) (i + 1) := by
  have hp : (pushF lt L v i).Perm (L ++ [(v, i)]) := settleF_perm lt (by simp)
  intro x h0 h1
  by_cases e : x = i
  · obtain ⟨j, hj, ej⟩ := perm_idx hp (j := L.length) (by simp)
    exact ⟨j, hj, by rw [ej, itAt_append_eq]; exact e.symm⟩
  · obtain ⟨j, hj, ej⟩ := h x h0 (by omega)
    obtain ⟨k, hk, ek⟩ := perm_idx hp (j := j) (by simp; omega)
    exact ⟨k, hk, by rw [ek, itAt_append_lt hj]; exact ej⟩
theorem pushF_length (lt : Int → Int → Bool) (L : List It) (v x : Int) : (pushF lt L v x).length = L.length + 1 := by
  unfold pushF; rw [settleF_length lt (by simp)]; simp
theorem setF_idx (lt : Int → Int → Bool) {L : List It} {i : Nat} (hi : i < L.length) (v : Int) : ∃ j, j < (setF lt L i v).length ∧ (itAt (setF lt L i v) j).2 = (itAt L i).2 := by
  have hp : (setF lt L i v).Perm (L.set i (v, (itAt L i).2)) := settleF_perm lt (by simpa using hi)
  obtain ⟨j, hj, ej⟩ := perm_idx hp (j := i) (by simpa using hi)
  exact ⟨j, hj, by rw [ej, itAt_set _ _ _ _ hi, if_pos rfl]⟩
theorem setF_length (lt : Int → Int → Bool) {L : List It} {i : Nat} (hi : i < L.length) (v : Int) : (setF lt L i v).length = L.length := by
  unfold setF; rw [settleF_length lt (by simpa using hi)]; simp
theorem pushF_new (lt : Int → Int → Bool) (L : List It) (v x : Int) : ∃ j, j < (pushF lt L v x).length ∧ itAt (pushF lt L v x) j = (v, x) := by
  have hp : (pushF lt L v x).Perm (L ++ [(v, x)]) := settleF_perm lt (by simp)
  obtain ⟨j, hj, ej⟩ := perm_idx hp (j := L.length) (by simp)
  exact ⟨j, hj, by rw [ej, itAt_append_eq]⟩
set_option maxRecDepth 100000 in
set_option maxHeartbeats 1000000 in
theorem full_ok (kind n : Int) (hk : 0 ≤ kind) (hk2 : kind < 7) (hn : 0 ≤ n) (hn2 : n < 1000000) (w : World) :
    Calls Try.prog 16 #[.int .i64 kind, .int .i64 n] w fun e w' => e = .returned (.bool true) ∧ Fr (fun _ => False) w w' := by
  have ek : kind % 7 = kind := Int.emod_eq_of_lt hk hk2
  go_enter Try.func16, Try.ntmps16
  go_wp2_with fail
  refine (orders_ok kind (fits_small (by omega) (by omega)) _).mono ?_
  rintro e w1 ⟨bk, rfl, hbk, hK, f1⟩
  rw [ek] at hK
  have hL := ord_less bk kind hk hk2
  have HL := Lib.hid hL; have HK := Lib.hid hK; have F1 := Lib.hid f1
  clear hL hK f1
  go_wp2_with fail
  refine (new_ok HL.out HK.out).mono ?_
  rintro e w2 ⟨bh, rfl, hbh, f2, G, h2, hG⟩
  have H2 := Lib.hid h2; have F2 := Lib.hid f2; have HG := Lib.hid hG
  clear h2 f2 hG ek
  go_upto_block 0 with fail
  go_cut [8] (fun _ wx => ∃ (G' : Nat → Prop) (L : List It), HeapIs (KindAt bk kind) (fun b => b = bk) Fits (ordFn bk) G' bh L 65536 wx ∧ L.length = 65536 ∧ HasAll L 65536 ∧ Fr (fun b => w.heap.size ≤ b) w wx ∧ (∀ b, G' b → w.heap.size ≤ b))
  case first =>
    go_wp2_with fail
    go_loopw [8] (fun s8 wr => ∃ (i : Nat) (G' : Nat → Prop) (L : List It), s8 = .int .i64 i ∧ i ≤ 65536 ∧ HeapIs (KindAt bk kind) (fun b => b = bk) Fits (ordFn bk) G' bh L i wr ∧ L.length = i ∧ HasAll L i ∧ Fr (fun b => w.heap.size ≤ b) w wr ∧ (∀ b, G' b → w.heap.size ≤ b)) (fun s8 _ => 65536 - (intOf s8).toNat)
    case atStart =>
      refine ⟨0, G, [], rfl, by omega, H2.out, rfl, ?_, ?_, ?_⟩
      · intro h h0 h1; simp at h1; omega
      · exact (F1.out.mono (G := fun b => w.heap.size ≤ b) (fun _ _ h => h.elim)).trans F2.out (fun _ _ h => h.elim)
      · intro b hb; have := HG.out b hb; have := F1.out.size; omega
    case round =>
      obtain ⟨i, G', L, rfl, hi, hh, hl, ha, hf, hg⟩ := hrel
      have Hh := Lib.hid hh; have Hl := Lib.hid hl; have Ha := Lib.hid ha; have Hf := Lib.hid hf; have Hg := Lib.hid hg; have Hi := Lib.hid hi
      clear hh hl ha hf hg hi
      by_cases hlt : i < 65536
      · have q1 : decide (i < 65536) = true := by simpa using hlt
        have q2 : decide ((i : Int) < 65536) = true := by simp; omega
        have i0 : (0 : Int) ≤ (i : Int) := by omega
        have i1 : (i : Int) ≤ 70000 := by omega
        have Hlt := Lib.hid hlt
        clear hlt
        go_wp2_with fail
        refine (pick_ok _ 9000 _ (by omega) (by omega) (by omega) (by omega)).mono ?_
        rintro e w3 ⟨rfl, rfl⟩
        obtain ⟨v, hv⟩ : ∃ v, v = ((i : Int) * 7919 + n) % 9000 := ⟨_, rfl⟩
        have v0 : 0 ≤ v := by omega
        have v1 : v < 9000 := by omega
        rw [← hv]
        clear hv
        go_wp2_with fail
        refine (push_room HL.out Hh.out (by have := Hl.out; have := Hlt.out; omega) (by omega) (v := v) (fits_small (by omega) (by omega))).mono ?_
        rintro e w3 ⟨rfl, G3, h3, f3, g3⟩
        have H3 := Lib.hid h3; have F3 := Lib.hid f3; have HG3 := Lib.hid g3
        clear h3 f3 g3
        go_wp2_with fail
        go_roundw
        case rel =>
          refine ⟨i + 1, G3, _, by go_num, by have := Hlt.out; omega, H3.out, by rw [pushF_length, Hl.out], Ha.out.push v, Hf.out.trans F3.out ?_, ?_⟩
          · rintro b _ (rfl | h)
            · omega
            · exact Hg.out b h
          · intro b hb
            rcases HG3.out b hb with h | h
            · exact Hg.out b h
            · have := Hf.out.size; omega
        case measure => have := Hlt.out; simp [intOf]; omega
      · obtain rfl : i = 65536 := by have := Hi.out; omega
        clear hlt
        go_wp2_with fail
        go_meet
        exact ⟨G', L, Hh.out, Hl.out, Ha.out, Hf.out, Hg.out⟩
  case rest =>
    obtain ⟨G', L, hh, hl, ha, hf, hg⟩ := hcut
    have Hh := Lib.hid hh; have Hl := Lib.hid hl; have Ha := Lib.hid ha; have Hf := Lib.hid hf; have Hg := Lib.hid hg
    clear hh hl ha hf hg
    go_wp2_with fail
    refine (push_full HL.out Hh.out Hl.out (-1)).mono ?_
    rintro e w3 ⟨rfl, rfl⟩
    go_wp2_with fail
    refine (len_ok HL.out Hh.out).mono ?_
    rintro e w3 ⟨rfl, rfl⟩
    have hlz : ((L.length : Nat) : Int) = 65536 := by rw [Hl.out]; rfl
    rw [hlz]
    clear hlz
    go_wp2_with fail
    refine (pick_ok n 65536 _ (by omega) (by omega) (by omega) (by omega)).mono ?_
    rintro e w3 ⟨rfl, rfl⟩
    obtain ⟨x, hx⟩ : ∃ x, x = n % 65536 := ⟨_, rfl⟩
    have x0 : 0 ≤ x := by omega
    have x1 : x < 65536 := by omega
    rw [← hx]
    clear hx
    obtain ⟨j, hj, ej⟩ := Ha.out x x0 x1
    have x0' := Lib.hid x0; have x1' := Lib.hid x1
    clear x0 x1
    go_wp2_with fail
    have c1 := set_there HL.out Hh.out hj (v := -2) (fits_small (by omega) (by omega))
    rw [ej] at c1
    refine c1.mono ?_
    rintro e w3 ⟨rfl, h3, f3⟩
    have H3 := Lib.hid h3; have F3 := Lib.hid f3
    have Hj := Lib.hid hj; have Ej := Lib.hid ej
    clear h3 f3 c1 hj ej
    go_wp2_with fail
    obtain ⟨j2, hj2, ej2⟩ := setF_idx (lessK kind) Hj.out (-2)
    rw [Ej.out] at ej2
    have c2 := drop_there HL.out H3.out hj2
    rw [ej2] at c2
    refine c2.mono ?_
    rintro e w4 ⟨rfl, h4, f4⟩
    have H4 := Lib.hid h4; have F4 := Lib.hid f4
    have Hl4 := Lib.hid (takeF_length (lessK kind) hj2)
    clear h4 f4 c2 hj2 ej2
    go_wp2_with fail
    have hl4 : (takeF (lessK kind) (setF (lessK kind) L j (-2)) j2).length = 65535 := by
      rw [Hl4.out, setF_length _ Hj.out, Hl.out]
    have c3 := push_room HL.out H4.out (by rw [hl4]; omega) (by omega) (v := -1) (fits_small (by omega) (by omega))
    have Hl5 := Lib.hid hl4
    clear hl4
    refine c3.mono ?_
    rintro e w5 ⟨rfl, G5, h5, f5, g5⟩
    have H5 := Lib.hid h5; have F5 := Lib.hid f5; have HG5 := Lib.hid g5
    clear h5 f5 g5 c3
    go_wp2_with fail
    obtain ⟨j5, hj5, ej5⟩ := pushF_new (lessK kind) (takeF (lessK kind) (setF (lessK kind) L j (-2)) j2) (-1) 65536
    have c5 := get_there HL.out H5.out hj5
    rw [ej5] at c5
    have Hlp := Lib.hid (pushF_length (lessK kind) (takeF (lessK kind) (setF (lessK kind) L j (-2)) j2) (-1) 65536)
    clear hj5 ej5
    refine c5.mono ?_
    rintro e w6 ⟨rfl, rfl⟩
    clear c5
    go_wp2_with fail
    refine (len_ok HL.out H5.out).mono ?_
    rintro e w6 ⟨rfl, rfl⟩
    have hlz : (((pushF (lessK kind) (takeF (lessK kind) (setF (lessK kind) L j (-2)) j2) (-1) 65536).length : Nat) : Int) = 65536 := by rw [Hlp.out, Hl5.out]; rfl
    rw [hlz]
    clear hlz
    go_wp2_with fail
    go_ret
    refine ⟨rfl, Fr.toNew (((Hf.out.trans F3.out ?_).trans F4.out ?_).trans F5.out ?_)⟩
    all_goals
      rintro b _ (h | h)
      · omega
      · exact Hg.out b h
end Go.Proofs.Ytbfkmogibgchmaa
