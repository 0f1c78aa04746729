/- The chapter's examples of layer 12, and the law HeapFull. No condition. -/
import Derived.Test.YtfgpmbahekcoeaaOrd
namespace Go.Proofs.Ytfgpmbahekcoeaa
open Go.RowKit
theorem ew1 : pushF (lessK 0) [] 5 0 = [(5, 0)] := by decide
theorem ew2 : pushF (lessK 0) [(5, 0)] 3 1 = [(3, 1), (5, 0)] := by decide
theorem ew3 : takeF (lessK 0) [(3, 1), (5, 0)] 0 = [(5, 0)] := by decide
theorem ew4 : takeF (lessK 0) [(5, 0)] 0 = [] := by decide
set_option maxRecDepth 100000 in
set_option maxHeartbeats 1000000 in
theorem awake_ok (w : World) : Calls Try.prog 12 #[] w fun e w' => e = .returned (.bool true) ∧ Fr (fun _ => False) w w' := by
  go_enter Try.func12, Try.ntmps12
  go_wp2_with fail
  refine (orders_ok 0 (fits_small (by omega) (by omega)) _).mono ?_
  rintro e w1 ⟨bk, rfl, hbk, hK, f1⟩
  have hL := ord_less bk 0 (by omega) (by omega)
  have HL := Lib.hid hL; have HK := Lib.hid hK; have F1 := Lib.hid f1
  clear hL hK f1
  go_wp2_with fail
  refine (new_ok HL.out HK.out).mono ?_
  rintro e w2 ⟨bh, rfl, hbh, f2, G, h2, hG⟩
  have H2 := Lib.hid h2; have F2 := Lib.hid f2; have HG := Lib.hid hG
  clear h2 f2 hG
  go_wp2_with fail
  refine (push_room HL.out H2.out (by simp) (by omega) (v := 5) (fits_small (by omega) (by omega))).mono ?_
  rintro e w3 ⟨rfl, G3, h3, f3, g3⟩
  rw [ew1] at h3
  have H3 := Lib.hid h3; have F3 := Lib.hid f3; have HG3 := Lib.hid g3
  clear h3 f3 g3
  go_wp2_with fail
  refine (push_room HL.out H3.out (by simp) (by omega) (v := 3) (fits_small (by omega) (by omega))).mono ?_
  rintro e w4 ⟨rfl, G4, h4, f4, g4⟩
  simp only [Int.zero_add, ew2] at h4
  have H4 := Lib.hid h4; have F4 := Lib.hid f4; have HG4 := Lib.hid g4
  clear h4 f4 g4
  go_wp2_with fail
  refine (least_some HL.out H4.out (by simp)).mono ?_
  rintro e w5 ⟨rfl, f5⟩
  have H5 := Lib.hid (H4.out.keepFr HL.out f5); have F5 := Lib.hid f5
  clear f5
  simp only [itAt, List.getD_cons_zero]
  go_wp2_with fail
  refine (pop_some HL.out H5.out (by simp)).mono ?_
  rintro e w6 ⟨rfl, h6, f6⟩
  rw [ew3] at h6
  have H6 := Lib.hid h6; have F6 := Lib.hid f6
  clear h6 f6
  simp only [itAt, List.getD_cons_zero]
  go_wp2_with fail
  refine (len_ok HL.out H6.out).mono ?_
  rintro e w7 ⟨rfl, rfl⟩
  go_wp2_with fail
  refine (drop_there HL.out H6.out (i := 0) (by simp)).mono ?_
  rintro e w7 ⟨rfl, h7, f7⟩
  rw [ew4] at h7
  have H7 := Lib.hid h7; have F7 := Lib.hid f7
  clear h7 f7
  go_wp2_with fail
  refine (len_ok HL.out H7.out).mono ?_
  rintro e w8 ⟨rfl, rfl⟩
  go_wp2_with fail
  go_ret
  refine ⟨rfl, ?_⟩
  have s1 := F1.out.size; have s2 := F2.out.size; have s3 := F3.out.size; have s4 := F4.out.size; have s5 := F5.out.size
  have q : ∀ b, G b → w.heap.size ≤ b := fun b h => by have := HG.out b h; omega
  have q3 : ∀ b, G3 b → w.heap.size ≤ b := fun b h => by rcases HG3.out b h with h | h; · exact q b h
                                                         · omega
  have q4 : ∀ b, G4 b → w.heap.size ≤ b := fun b h => by rcases HG4.out b h with h | h; · exact q3 b h
                                                         · omega
  refine Fr.toNew (Fr.trans (Fr.trans (Fr.trans (Fr.trans (Fr.trans (Fr.trans (F1.out.mono (G := fun b => w.heap.size ≤ b) (fun _ _ h => h.elim)) F2.out ?_) F3.out ?_) F4.out ?_) F5.out ?_) F6.out ?_) F7.out ?_)
  all_goals (intro b _ h)
  · exact h.elim
  · rcases h with h | h
    · omega
    · exact q b h
  · rcases h with h | h
    · omega
    · exact q3 b h
  · exact h.elim
  · rcases h with h | h
    · omega
    · exact q4 b h
  · rcases h with h | h
    · omega
    · exact q4 b h
end Go.Proofs.Ytfgpmbahekcoeaa
