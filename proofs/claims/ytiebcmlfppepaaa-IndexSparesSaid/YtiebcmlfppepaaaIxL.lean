/- The index layer: items. No condition. -/
import Derived.Test.YtiebcmlfppepaaaIxJ
import Derived.Test.YtiebcmlfppepaaaIxK
namespace Go.Proofs.Ytiebcmlfppepaaa.Ix
open Go.RowKit
set_option maxRecDepth 100000 in
theorem items_ok {w : World} {bh g N most len gr st : Nat} {S : List Sl} {L : List (Nat × Int)} (H : HeadAt w bh g N most len gr st) (HS : SlotsAt w g S) (hN : S.length = N) (M : Maps S L) (h0 : 0 < N) (h8 : N ≤ 8192) :
    Calls Try.prog 32 #[.pointer (some ⟨bh, 0, none⟩)] w fun e w' => ∃ b cap, e = .returned (.slice (some ⟨b, 0, none⟩) L.length cap) ∧ BufAt w' b (L.map fun x => (1, x)) ∧ Fr (fun _ => False) w w' ∧ w.heap.size ≤ b := by
  have c0 := H.cells.1
  have HK := Lib.hid (clone_ok HS hN h8 h0); have HN := Lib.hid hN; have HM := Lib.hid M; have H8 := Lib.hid h8
  clear H HS hN M h0 h8
  go_enter Try.func32, Try.ntmps32
  go_wp2_with fail
  refine HK.out.mono ?_
  rintro e w1 ⟨b, cap, rfl, hc1, hc2, hb, hf, hnew⟩
  have HD := Lib.hid (deleteFunc_ok hb HN.out H8.out hc1 hc2)
  have HF := Lib.hid hf; have HW := Lib.hid hnew
  clear hc1 hc2 hb hf hnew c0
  go_wp2_with fail
  refine HD.out.mono ?_
  rintro e w2 ⟨m, rfl, hm, hb2, hf2⟩
  have hm8 : m ≤ 8192 := by
    have := List.length_filter_le live S
    have := HN.out; have := H8.out; omega
  have HS := Lib.hid (sort_ok (cap := cap) hb2 hm.symm hm8)
  have HF2 := Lib.hid hf2; have Hm := Lib.hid hm
  clear hm hb2 hf2 hm8
  go_wp2_with fail
  refine HS.out.mono ?_
  rintro e w3 ⟨rfl, T, hp, hs, hf3, hb3⟩
  have hT := sorted_eq HM.out hp hs
  have HB3 := Lib.hid hb3; have HF3 := Lib.hid hf3; have HT := Lib.hid hT; have HP := Lib.hid hp
  clear hp hs hf3 hb3 hT
  go_wp2_with fail
  go_ret
  have e : m = L.length := by
    have h1 := HP.out.length_eq
    rw [HT.out, List.length_map] at h1
    rw [Hm.out]; exact h1.symm
  have hw := HW.out
  exact ⟨b, cap, by rw [e]; rfl, by rw [← HT.out]; exact HB3.out, (HF.out.trans HF2.out (fun i hi h => by omega)).trans HF3.out (fun i hi h => by omega), hw⟩
end Go.Proofs.Ytiebcmlfppepaaa.Ix
