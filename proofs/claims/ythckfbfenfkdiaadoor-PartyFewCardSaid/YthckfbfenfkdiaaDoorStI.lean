/- The stable sort of slices of runs: the sort as a whole. No condition. -/
import Derived.Test.YthckfbfenfkdiaaDoorStH
namespace Go.Proofs.YthckfbfenfkdiaaDoor.St
open Go.RowKit Go.Sort
/-- As far as the first blocks have been sorted. -/
structure Pre (n k : Nat) (dk : Array Sp) : Prop where
  up : Upto n 20 k dk
  rise : Up (k * 20) n dk
  cut : ∀ c, k * 20 ≤ c → CutAt n c dk
theorem Pre.start {n : Nat} {d : Array Sp} (h : Up 0 n d) : Pre n 0 d :=
  ⟨Upto.zero _ _ _, by simpa using h, fun c _ p q h1 h2 h3 h4 => h p q h1 (by omega) h4⟩
theorem Pre.step {n k b : Nat} {d d' : Array Sp} (h : Pre n k d) (hn : d.size = n) (hb : b = min n (k * 20 + 20)) (hp : Done (k * 20) b d d') : Pre n (k + 1) d' := by
  have e : (k + 1) * 20 = k * 20 + 20 := by omega
  refine ⟨h.up.ins hn hb hp (h.cut _ (by omega)), ?_, fun c hc => (h.cut c (by omega)).perm hn (by omega) hp.perm (by omega)⟩
  intro p q h1 h2 h3
  rw [hp.perm.2.1 p (by omega), hp.perm.2.1 q (by omega)]
  exact h.rise p q (by omega) h2 h3
theorem perm_all {n a b : Nat} {d d1 d2 : Array Sp} (h : PermIn 0 n d d1) (hn : d.size = n) (k : PermIn a b d1 d2) (hb : b ≤ n) : PermIn 0 n d d2 :=
  permIn_trans _ _ _ _ _ h (permIn_mono d1 d2 a b 0 n (Nat.zero_le _) hb (by rw [h.1]; omega) k)
set_option maxRecDepth 100000 in
set_option maxHeartbeats 2000000 in
theorem stable_ok {n cap b : Nat} (hn1 : n ≤ 1000000) {w : World} {d : Array Sp} (h : RA w b cap d) (hn : d.size = n) (hA : AllOk d) (hU : Up 0 n d) :
    Calls Tryd.prog 43 #[.slice (some ⟨b, 0, none⟩) n cap, .int .i64 n, .func (.func 26) #[] #[]] w fun r w' => r = .returned (.tuple #[]) ∧ ∃ d', Done 0 n d d' ∧ RA w' b cap d' ∧ Fr (fun k => k = b) w w' := by
  have HU := Lib.hid (Pre.start hU)
  have HA := Lib.hid hA
  have H := Lib.hid h
  have HZ := Lib.hid hn
  have HP0 : Hid (PermIn 0 n d d) := Lib.hid (permIn_refl _ _ _)
  clear h hn hA hU
  go_enter Tryd.func43, Tryd.ntmps43
  go_upto_block 0 with fail
  go_cut [7, 8] (fun s7 s8 wx => ∃ (k A : Nat) (dk : Array Sp), s7 = .int .i64 A ∧ A ≤ n ∧ Hid (A = k * 20 ∧ n < A + 20) ∧ Hid (Pre n k dk) ∧ Hid (PermIn 0 n d dk) ∧ Hid (RA wx b cap dk) ∧ Hid (Fr (fun k => k = b) w wx))
  case first =>
   as_aux_lemma =>
    go_wp2_with fail
    go_loopw [7, 8] (fun s7 s8 wr => ∃ (k A : Nat) (dk : Array Sp), s7 = .int .i64 A ∧ s8 = .int .i64 (A + 20 : Nat) ∧ A ≤ n ∧ Hid (A = k * 20) ∧ Hid (Pre n k dk) ∧ Hid (PermIn 0 n d dk) ∧ Hid (RA wr b cap dk) ∧ Hid (Fr (fun k => k = b) w wr)) (fun s7 _ _ => n - (intOf s7).toNat)
    case atStart => exact ⟨0, 0, d, rfl, rfl, Nat.zero_le _, Lib.hid rfl, HU, HP0, H, Lib.hid (Fr.refl _ _)⟩
    case round =>
      obtain ⟨k, A, dk, rfl, rfl, hAn, HK, HPr, HP, HR, HF⟩ := hrel
      obtain ⟨B, hB⟩ : ∃ B, A + 20 = B := ⟨_, rfl⟩
      rw [hB]
      by_cases hlt : B ≤ n
      · have b1 : decide ((B : Int) ≤ (n : Int)) = true := by simpa using hlt
        have b1' : decide (B ≤ n) = true := by simpa using hlt
        have hz : dk.size = n := HP.out.1.trans HZ.out
        obtain ⟨C, hCC⟩ : ∃ C, B + 20 = C := ⟨_, rfl⟩
        have hB' : (B : Int) + 20 = (C : Int) := by omega
        have HCC := Lib.hid hCC
        clear hCC
        have hC := Lib.hid (ins_walk HR.out hz hn1 A B (by omega) hlt (HA.out.perm HP.out (by rw [HZ.out]; exact Nat.le_refl _)) (fun p q h1 h2 h3 => HPr.out.rise p q (by rw [← HK.out]; exact h1) h2 (by omega)))
        have HB := Lib.hid hB; have HZ2 := Lib.hid hz
        clear hB hz
        go_wp2_with fail
        refine hC.out.mono ?_
        rintro r w1 ⟨rfl, d1, hs, hr, hf⟩
        have HS1 := Lib.hid hs; have HR1 := Lib.hid hr; have HF1 := Lib.hid hf
        clear hs hr hf
        go_wp2_with fail
        go_roundw
        case rel =>
          have e1 := HB.out; have e2 := HK.out
          have hBn : B ≤ n := hlt
          refine ⟨k + 1, B, d1, rfl, by rw [HCC.out], hBn, Lib.hid (by omega), Lib.hid (HPr.out.step (b := B) HZ2.out (by omega) (by rw [← e2]; exact HS1.out)), Lib.hid (perm_all HP.out HZ.out HS1.out.perm hBn), HR1, Lib.hid (HF.out.trans HF1.out (fun _ _ h => h))⟩
        case measure => have e1 := HB.out
                        simp [intOf]; omega
      · have b1 : decide ((B : Int) ≤ (n : Int)) = false := by simpa using hlt
        have b1' : decide (B ≤ n) = false := by simpa using hlt
        have HKB := Lib.hid (show A = k * 20 ∧ n < A + 20 from ⟨HK.out, by omega⟩)
        clear hB hlt
        go_wp2_with fail
        go_meet
        exact ⟨k, A, dk, rfl, hAn, HKB, HPr, HP, HR, HF⟩
  case rest =>
  obtain ⟨k, A, dk, rfl, hAn, HK, HPr, HP, HR, HF⟩ := hcut
  have HPn : Hid (PermIn 0 n d dk ∧ dk.size = n) := Lib.hid ⟨HP.out, HP.out.1.trans HZ.out⟩
  have hC := Lib.hid (ins_walk HR.out HPn.out.2 hn1 A n hAn (Nat.le_refl _) (HA.out.perm HP.out (by rw [HZ.out]; exact Nat.le_refl _)) (fun p q h1 h2 h3 => HPr.out.rise p q (by rw [← HK.out.1]; exact h1) h2 h3))
  go_wp2_with fail
  refine hC.out.mono ?_
  rintro r w1 ⟨rfl, d1, hs, hr, hf⟩
  have e2 := HK.out.1
  have hFr1 : From n 20 0 d1 := (HPr.out.step (b := n) HPn.out.2 (by have := HK.out.2; omega) (by rw [← e2]; exact hs)).up.all (by have := HK.out.2; omega) (hs.perm.1.trans HPn.out.2)
  have HFr := Lib.hid hFr1; have HP1 := Lib.hid (perm_all HP.out HZ.out hs.perm (Nat.le_refl _)); have HR1 := Lib.hid hr; have HF1 := Lib.hid (HF.out.trans hf (fun _ _ h => h))
  clear hs hr hf e2 hFr1 HP HR HF HPr HPn hC HK
  go_wp2_with fail
  go_loopw [6, 7, 8, 9] (fun s6 s7 s8 s9 wr => ∃ (bs : Nat) (dk : Array Sp), s6 = .int .i64 bs ∧ 20 ≤ bs ∧ bs ≤ 2 * n + 40 ∧ Hid (From n bs 0 dk) ∧ Hid (PermIn 0 n d dk) ∧ Hid (RA wr b cap dk) ∧ Hid (Fr (fun k => k = b) w wr)) (fun s6 _ _ _ _ => n - (intOf s6).toNat)
  case atStart => exact ⟨20, d1, rfl, Nat.le_refl _, by omega, HFr, HP1, HR1, HF1⟩
  case round =>
   clear HFr HP1 HR1 HF1
   obtain ⟨bs, dk, rfl, hb20, hbn, HFr, HP, HR, HF⟩ := hrel
   by_cases hlt : bs < n
   · have b1 : decide ((bs : Int) < (n : Int)) = true := by simpa using hlt
     have b1' : decide (bs < n) = true := by simpa using hlt
     have e2 : 2 * (bs : Int) = ((2 * bs : Nat) : Int) := by omega
     have e3 : (bs : Int) * 2 = ((2 * bs : Nat) : Int) := by omega
     obtain ⟨db, hdb⟩ : ∃ db, 2 * bs = db := ⟨_, rfl⟩
     rw [hdb] at e2 e3
     have HDB := Lib.hid hdb
     have hdbn : db ≤ 2 * n := by omega
     have hdb2 : bs + 20 ≤ db := by omega
     clear hdb hbn
     go_upto_block 4 with fail
     go_cut [7, 8] (fun s7 s8 wx => ∃ (k A : Nat) (d1 : Array Sp), s7 = .int .i64 A ∧ A ≤ n ∧ Hid (A = k * (2 * bs) ∧ n < A + 2 * bs) ∧ Hid (Half n bs k d1) ∧ Hid (PermIn 0 n d d1) ∧ Hid (RA wx b cap d1) ∧ Hid (Fr (fun k => k = b) w wx))
     case first =>
      as_aux_lemma =>
       go_wp2_with fail
       go_loopw [7, 8] (fun s7 s8 wr => ∃ (k A B : Nat) (d1 : Array Sp), s7 = .int .i64 A ∧ s8 = .int .i64 B ∧ A ≤ n ∧ Hid (A = k * (2 * bs)) ∧ Hid (A + db = B) ∧ Hid (Half n bs k d1) ∧ Hid (PermIn 0 n d d1) ∧ Hid (RA wr b cap d1) ∧ Hid (Fr (fun k => k = b) w wr)) (fun s7 _ _ => n - (intOf s7).toNat)
       case atStart => exact ⟨0, 0, db, dk, rfl, rfl, Nat.zero_le _, Lib.hid (by simp), Lib.hid (by simp), Lib.hid (Half.start HFr.out), HP, HR, HF⟩
       case round =>
         clear HFr HP HR HF
         obtain ⟨k, A, B, d1, rfl, rfl, hAn, HK, HB, HH, HP, HR, HF⟩ := hrel
         have hB := HB.out
         by_cases hlt2 : B ≤ n
         · have b2 : decide ((B : Int) ≤ (n : Int)) = true := by simpa using hlt2
           have b2' : decide (B ≤ n) = true := by simpa using hlt2
           have hz : d1.size = n := HP.out.1.trans HZ.out
           have hm : (A : Int) + (bs : Int) = ((A + bs : Nat) : Int) := by omega
           obtain ⟨m, hmm⟩ : ∃ m, A + bs = m := ⟨_, rfl⟩
           rw [hmm] at hm
           have hT : Two A m B d1 := by
             have e1 := HK.out; have e2 := HDB.out
             have := HH.out.two (b := B) hz (by omega) (by omega)
             rw [← HK.out, hmm] at this; exact this
           have hC := Lib.hid (sym_ok hn1 B HR.out hz (HA.out.perm HP.out (by rw [HZ.out]; exact Nat.le_refl _)) A m B (by omega) (by omega) (by have := HDB.out; omega) hlt2 hT)
           obtain ⟨C, hCC⟩ : ∃ C, B + db = C := ⟨_, rfl⟩
           have hB3 : (B : Int) + (db : Int) = (C : Int) := by omega
           have HZ2 := Lib.hid hz
           have HCC := Lib.hid hCC
           have hBA : A < B := by omega
           clear hz hmm hT hB hCC
           go_wp2_with fail
           refine hC.out.mono ?_
           rintro r w1 ⟨rfl, d2, hs, hr, hf⟩
           have HS1 := Lib.hid hs; have HR1 := Lib.hid hr; have HF1 := Lib.hid hf
           clear hs hr hf
           go_wp2_with fail
           go_roundw
           case rel =>
             have q1 := HK.out; have q2 := HDB.out; have q3 := HB.out
             refine ⟨k + 1, B, C, d2, rfl, rfl, hlt2, Lib.hid ?_, HCC, Lib.hid (HH.out.step (b := B) HZ2.out (by omega) (by rw [← q1]; exact HS1.out)), Lib.hid (perm_all HP.out HZ.out HS1.out.perm hlt2), HR1, Lib.hid (HF.out.trans HF1.out (fun _ _ h => h))⟩
             rw [Nat.add_mul, ← q1, Nat.one_mul, q2]; omega
           case measure => simp [intOf]; omega
         · have b2 : decide ((B : Int) ≤ (n : Int)) = false := by simpa using hlt2
           have b2' : decide (B ≤ n) = false := by simpa using hlt2
           have HKB := Lib.hid (show A = k * (2 * bs) ∧ n < A + 2 * bs from ⟨HK.out, by have := HDB.out; omega⟩)
           clear hB hlt2
           go_wp2_with fail
           go_meet
           exact ⟨k, A, d1, rfl, hAn, HKB, HH, HP, HR, HF⟩
     case rest =>
     clear HFr HP HR HF
     obtain ⟨k, A, d1, rfl, hAn, HK, HH, HP, HR, HF⟩ := hcut
     obtain ⟨m, hmm⟩ : ∃ m, A + bs = m := ⟨_, rfl⟩
     have hm : (A : Int) + (bs : Int) = (m : Int) := by omega
     by_cases hlt2 : m < n
     · have b2 : decide ((m : Int) < (n : Int)) = true := by simpa using hlt2
       have b2' : decide (m < n) = true := by simpa using hlt2
       have hz : d1.size = n := HP.out.1.trans HZ.out
       have hT : Two A m n d1 := by
         have e1 := HK.out.1; have e2 := HDB.out; have e3 := HK.out.2
         have := HH.out.two (b := n) hz (by omega) (by omega)
         rw [← HK.out.1, hmm] at this; exact this
       have hC := Lib.hid (sym_ok hn1 n HR.out hz (HA.out.perm HP.out (by rw [HZ.out]; exact Nat.le_refl _)) A m n (by omega) (by omega) hlt2 (Nat.le_refl _) hT)
       have HZ2 := Lib.hid hz
       clear hz hmm hT hlt2
       go_wp2_with fail
       refine hC.out.mono ?_
       rintro r w1 ⟨rfl, d2, hs, hr, hf⟩
       have q1 := HK.out.1; have q2 := HK.out.2
       have hHn := (HH.out.step (b := n) HZ2.out (by omega) (by rw [← q1]; exact hs)).up.all (by rw [Nat.add_mul, ← q1]; omega) (hs.perm.1.trans HZ2.out)
       rw [HDB.out] at hHn
       have HS1 := Lib.hid hHn; have HR1 := Lib.hid hr; have HF1 := Lib.hid (HF.out.trans hf (fun _ _ h => h)); have HP1 := Lib.hid (perm_all HP.out HZ.out hs.perm (Nat.le_refl _))
       clear hs hr hf q1 q2 hHn
       go_wp2_with fail
       go_roundw
       case rel => exact ⟨db, d2, rfl, by omega, by omega, HS1, HP1, HR1, HF1⟩
       case measure => simp [intOf]; omega
     · have b2 : decide ((m : Int) < (n : Int)) = false := by simpa using hlt2
       have b2' : decide (m < n) = false := by simpa using hlt2
       have hHn : From n db 0 d1 := by
         have := HH.out.last (HP.out.1.trans HZ.out) (by rw [← HK.out.1]; omega)
         rw [HDB.out] at this; exact this
       have HS1 := Lib.hid hHn
       clear hmm hlt2 hHn
       go_wp2_with fail
       go_roundw
       case rel => exact ⟨db, d1, rfl, by omega, by omega, HS1, HP, HR, HF⟩
       case measure => simp [intOf]; omega
   · have b1 : decide ((bs : Int) < (n : Int)) = false := by simpa using hlt
     have b1' : decide (bs < n) = false := by simpa using hlt
     have HS := Lib.hid (HFr.out.done (by omega))
     clear hlt hbn
     go_wp2_with fail
     go_end0
     exact ⟨rfl, dk, ⟨HP.out, HS.out⟩, HR.out, HF.out⟩
theorem sortStable_ok {n cap b : Nat} (hn1 : n ≤ 1000000) {w : World} {d : Array Sp} (h : RA w b cap d) (hn : d.size = n) (hA : AllOk d) (hU : Up 0 n d) :
    Calls Tryd.prog 25 #[.slice (some ⟨b, 0, none⟩) n cap, .func (.func 26) #[] #[]] w fun r w' => r = .returned (.tuple #[]) ∧ ∃ d', Done 0 n d d' ∧ RA w' b cap d' ∧ Fr (fun k => k = b) w w' := by
  have hC := Lib.hid (stable_ok hn1 h hn hA hU)
  clear h hn hA hU
  go_enter Tryd.func25, Tryd.ntmps25
  go_wp2_with fail
  refine hC.out.mono ?_
  rintro r w1 ⟨rfl, h1⟩
  have H1 := Lib.hid h1
  clear h1
  go_wp2_with fail
  go_end0
  exact ⟨rfl, H1.out⟩
end Go.Proofs.YthckfbfenfkdiaaDoor.St
