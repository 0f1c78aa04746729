/- putBytes, the bag's apart where it holds Bytes alone, ApartBytes. No condition. -/
import Derived.Test.YticcjnfninhjlaaDoorFlcC
import Derived.Test.YticcjnfninhjlaaDoorBflat
namespace Go.Proofs.YticcjnfninhjlaaDoor
open Go.RowKit Go.Proofs.YticcjnfninhjlaaDoor.Bt
abbrev bagBytes (v : Value) : Obj := .cells #[.slice none 0 0, .slice none 0 0, .slice none 0 0, .slice none 0 0, v, .slice none 0 0, .slice none 0 0, .slice none 0 0, .slice none 0 0, .slice none 0 0, .slice none 0 0, .slice none 0 0, .slice none 0 0, .slice none 0 0, .slice none 0 0, .slice none 0 0, .slice none 0 0, .slice none 0 0, .slice none 0 0] 94 (0, 0)
theorem Tryd.infoBagBytes : (Tryd.prog.info? 30).map (fun i => (i.zero, i.size, i.bytes)) = some (some (.slice none 0 0), 1, 24) := by kernel_rfl
set_option maxRecDepth 100000 in
theorem putBytes_ok {w : World} {bb k : Nat} {v : Value} {xs : List Value} {a : Option Addr} {n c : Nat} (hb : w.heap[bb]? = some (bagBytes v)) (hr : Row w 30 1 v k xs) (hne : v.ownBlock ≠ some bb) (hk : k ≤ 1000) :
    Calls Tryd.prog 33 #[.pointer (some ⟨bb, 0, none⟩), .slice a n c] w fun e w' => e = .returned (.tuple #[]) ∧ ∃ v', w'.heap[bb]? = some (bagBytes v') ∧ Row w' 30 1 v' (k + 1) (xs ++ [.slice a n c]) ∧ (v'.ownBlock = v.ownBlock ∨ ∃ b, v'.ownBlock = some b ∧ w.heap.size ≤ b) ∧ Fr (fun b => b = bb ∨ v.ownBlock = some b) w w' := by
  obtain ⟨i0, hi, y0, y1, y2⟩ := info_three Tryd.infoBagBytes
  have c4 := (cell_of hb 4).trans (show _ = some v from rfl)
  have fa : Fr (fun _ => False) w (w.alloc (.cells #[.slice a n c] 30)) := Fr.alloc (Fr.refl _ _) _
  have hc : (w.alloc (.cells #[.slice a n c] 30)).heap[w.heap.size]? = some (.cells #[.slice a n c] 30 (0, 0)) := by rw [heap_alloc_get]; simp
  obtain ⟨v', w', hrun, hR, hfr, hown⟩ := run_append_fr (P := Tryd.prog) _ 35 35 30 i0 (.slice none 0 0) 1 24 Tryd.underlying35 hi y0 y1 y2 rfl (by decide) v k xs (hr.fr fa (fun _ _ h => h)) ⟨w.heap.size, 0, none⟩ 1 1 [.slice a n c] rfl
    (by intro j u hu
        rw [show (⟨w.heap.size, 0, none⟩ : Addr).add j = ⟨w.heap.size, j, none⟩ from by simp [Addr.add]; intro h; exact h.symm, cell_of hc j]
        simpa using hu)
    (by intro u hu; simp at hu; subst hu; rfl) (by unfold maxLen; omega) (by omega)
  obtain ⟨a', n', c', ev⟩ : ∃ a n c, v = .slice a n c := by
    rcases hr.2 with ⟨e1, e2⟩ | ⟨g, cap, cur, e1, _⟩
    · exact ⟨_, _, _, e1⟩
    · exact ⟨_, _, _, e1⟩
  obtain ⟨a2, n2, c2, ev2⟩ : ∃ a n c, v' = .slice a n c := by
    rcases hR.2 with ⟨e1, e2⟩ | ⟨g, cap, cur, e1, _⟩
    · exact ⟨_, _, _, e1⟩
    · exact ⟨_, _, _, e1⟩
  have hb2 : w'.heap[bb]? = some (bagBytes v) := hfr.get (fa.get hb (fun h => h)) hne
  have d4 := (cell_of hb2 4).trans (show _ = some v from rfl)
  have z4 := free_of hb2 4
  have hne2 : v'.ownBlock ≠ some bb := by
    rcases hown with h | h
    · rw [h]; exact hne
    · rw [h]; intro e; have := Option.some.inj e; have := lt_of_block hb; simp at *; omega
  have fs : Fr (fun b => b = bb) w' (w'.setCell ⟨bb, 4, none⟩ v') := Fr.setCell (F := fun b => b = bb) (p := ⟨bb, 4, none⟩) (Fr.refl _ _) (fun _ => rfl) _
  have hB := setCell_blk (o := 4) hb2 v'
  have Hend := Lib.hid (show (w'.setCell ⟨bb, 4, none⟩ v').heap[bb]? = some (bagBytes v') ∧ Row (w'.setCell ⟨bb, 4, none⟩ v') 30 1 v' (k + 1) (xs ++ [.slice a n c]) ∧ (v'.ownBlock = v.ownBlock ∨ ∃ b, v'.ownBlock = some b ∧ w.heap.size ≤ b) ∧ Fr (fun b => b = bb ∨ v.ownBlock = some b) w (w'.setCell ⟨bb, 4, none⟩ v') from
    ⟨by simpa using hB, hR.fr fs (fun b hb e => hne2 (by rw [hb, e])), hown.elim .inl (fun h => .inr ⟨_, h, by simp⟩), (((fa.mono (fun _ _ h => h.elim) : Fr (fun b => b = bb ∨ v.ownBlock = some b) _ _).trans hfr (fun b hb e => .inr e)).trans fs (fun b hb e => .inl e))⟩)
  subst ev; subst ev2
  have Hrun := Lib.hid hrun
  clear hb hr hne hi y0 y1 y2 fa hc hrun hR hfr hown hb2 hne2 fs hB
  go_enter Tryd.func33, Tryd.ntmps33
  go_wp2_with (at_builtin; refine wpList_append_run rfl _ _ _ rfl rfl rfl Hrun.out ?_)
  go_end0
  exact ⟨rfl, _, Hend.out⟩
set_option maxRecDepth 100000 in
set_option maxHeartbeats 2000000 in
theorem bagApartBytes_ok {w : World} {bb K lb c : Nat} {lv : Nat → Value} {n : Nat → Nat} {f : Nat → List Value} (hb : w.heap[bb]? = some (bagBytes (.slice (some ⟨lb, 0, none⟩) K c))) (hK : K ≤ 500) (hn : ∀ k, k < K → n k ≤ 100000)
    (h : Fl2 w 5 1 K lb lb lv (fun _ => .slice none 0 0) n (fun _ => 0) f (fun _ => [])) (hnb : ¬ flP K lv (fun _ => .slice none 0 0) bb) :
    Calls Tryd.prog 34 #[.pointer (some ⟨bb, 0, none⟩)] w fun e w' => e = .returned (.bool true) ∧ Fr (fun b => flP K lv (fun _ => .slice none 0 0) b) w w' := by
  have H := Lib.hid h; have HN := Lib.hid hn; have HB := Lib.hid hb; have Hnb := Lib.hid hnb
  have c0 := (cell_of hb 0).trans (show _ = some (.slice none 0 0 : Value) from rfl)
  clear h hn hb hnb
  go_enter Tryd.func34, Tryd.ntmps34
  go_wp2_with fail
  refine (flatLimbs_nil _).mono ?_
  rintro e w1 ⟨rfl, f0⟩
  have FR0 := Lib.hid f0
  clear f0 c0
  have c1 := (cell_of (FR0.out.get HB.out (fun h => h)) 1).trans (show _ = some (.slice none 0 0 : Value) from rfl)
  go_wp2_with fail
  refine (flatInts_nil _).mono ?_
  rintro e w2 ⟨rfl, f1⟩
  have FR1 := Lib.hid (FR0.out.trans f1 (fun _ _ h => h)); clear FR0
  clear f1 c1
  have c2 := (cell_of (FR1.out.get HB.out (fun h => h)) 2).trans (show _ = some (.slice none 0 0 : Value) from rfl)
  go_wp2_with fail
  refine (flatLongs_nil _).mono ?_
  rintro e w3 ⟨rfl, f2⟩
  have FR2 := Lib.hid (FR1.out.trans f2 (fun _ _ h => h)); clear FR1
  clear f2 c2
  have c3 := (cell_of (FR2.out.get HB.out (fun h => h)) 3).trans (show _ = some (.slice none 0 0 : Value) from rfl)
  go_wp2_with fail
  refine (flatTexts_nil _).mono ?_
  rintro e w4 ⟨rfl, f3⟩
  have FR3 := Lib.hid (FR2.out.trans f3 (fun _ _ h => h)); clear FR2
  clear f3 c3
  have c4 := (cell_of (FR3.out.get HB.out (fun h => h)) 4).trans (show _ = some (Value.slice (some ⟨lb, 0, none⟩) K c : Value) from rfl)
  go_wp2_with fail
  refine (flatBytes_ok hK HN.out (H.out.keep FR3.out)).mono ?_
  rintro e w5 ⟨rfl, f4⟩
  have FQ4 := Lib.hid ((FR3.out.mono (fun _ _ h => h.elim) : Fr (fun b => flP K lv (fun _ => .slice none 0 0) b) w w4).trans f4 (fun _ _ h => h))
  clear f4 c4
  have c5 := (cell_of (FQ4.out.get HB.out Hnb.out) 5).trans (show _ = some (.slice none 0 0 : Value) from rfl)
  go_wp2_with fail
  refine (flatReals_nil _).mono ?_
  rintro e w6 ⟨rfl, f5⟩
  have FQ5 := Lib.hid (FQ4.out.trans f5 (fun _ _ h => h.elim)); clear FQ4
  clear f5 c5
  have c6 := (cell_of (FQ5.out.get HB.out Hnb.out) 6).trans (show _ = some (.slice none 0 0 : Value) from rfl)
  go_wp2_with fail
  refine (flatFates_nil _).mono ?_
  rintro e w7 ⟨rfl, f6⟩
  have FQ6 := Lib.hid (FQ5.out.trans f6 (fun _ _ h => h.elim)); clear FQ5
  clear f6 c6
  have c7 := (cell_of (FQ6.out.get HB.out Hnb.out) 7).trans (show _ = some (.slice none 0 0 : Value) from rfl)
  go_wp2_with fail
  refine (flatSpans_nil _).mono ?_
  rintro e w8 ⟨rfl, f7⟩
  have FQ7 := Lib.hid (FQ6.out.trans f7 (fun _ _ h => h.elim)); clear FQ6
  clear f7 c7
  have c8 := (cell_of (FQ7.out.get HB.out Hnb.out) 8).trans (show _ = some (.slice none 0 0 : Value) from rfl)
  go_wp2_with fail
  refine (flatFrames_nil _).mono ?_
  rintro e w9 ⟨rfl, f8⟩
  have FQ8 := Lib.hid (FQ7.out.trans f8 (fun _ _ h => h.elim)); clear FQ7
  clear f8 c8
  have c9 := (cell_of (FQ8.out.get HB.out Hnb.out) 9).trans (show _ = some (.slice none 0 0 : Value) from rfl)
  go_wp2_with fail
  refine (flatCabins_nil _).mono ?_
  rintro e w10 ⟨rfl, f9⟩
  have FQ9 := Lib.hid (FQ8.out.trans f9 (fun _ _ h => h.elim)); clear FQ8
  clear f9 c9
  have c10 := (cell_of (FQ9.out.get HB.out Hnb.out) 10).trans (show _ = some (.slice none 0 0 : Value) from rfl)
  go_wp2_with fail
  refine (flatRecords_nil _).mono ?_
  rintro e w11 ⟨rfl, f10⟩
  have FQ10 := Lib.hid (FQ9.out.trans f10 (fun _ _ h => h.elim)); clear FQ9
  clear f10 c10
  have c11 := (cell_of (FQ10.out.get HB.out Hnb.out) 11).trans (show _ = some (.slice none 0 0 : Value) from rfl)
  go_wp2_with fail
  refine (flatBookings_nil _).mono ?_
  rintro e w12 ⟨rfl, f11⟩
  have FQ11 := Lib.hid (FQ10.out.trans f11 (fun _ _ h => h.elim)); clear FQ10
  clear f11 c11
  have c12 := (cell_of (FQ11.out.get HB.out Hnb.out) 12).trans (show _ = some (.slice none 0 0 : Value) from rfl)
  go_wp2_with fail
  refine (flatRequests_nil _).mono ?_
  rintro e w13 ⟨rfl, f12⟩
  have FQ12 := Lib.hid (FQ11.out.trans f12 (fun _ _ h => h.elim)); clear FQ11
  clear f12 c12
  have c13 := (cell_of (FQ12.out.get HB.out Hnb.out) 13).trans (show _ = some (.slice none 0 0 : Value) from rfl)
  go_wp2_with fail
  refine (flatReplies_nil _).mono ?_
  rintro e w14 ⟨rfl, f13⟩
  have FQ13 := Lib.hid (FQ12.out.trans f13 (fun _ _ h => h.elim)); clear FQ12
  clear f13 c13
  have c14 := (cell_of (FQ13.out.get HB.out Hnb.out) 14).trans (show _ = some (.slice none 0 0 : Value) from rfl)
  go_wp2_with fail
  refine (flatFares_nil _).mono ?_
  rintro e w15 ⟨rfl, f14⟩
  have FQ14 := Lib.hid (FQ13.out.trans f14 (fun _ _ h => h.elim)); clear FQ13
  clear f14 c14
  have c15 := (cell_of (FQ14.out.get HB.out Hnb.out) 15).trans (show _ = some (.slice none 0 0 : Value) from rfl)
  go_wp2_with fail
  refine (flatWaits_nil _).mono ?_
  rintro e w16 ⟨rfl, f15⟩
  have FQ15 := Lib.hid (FQ14.out.trans f15 (fun _ _ h => h.elim)); clear FQ14
  clear f15 c15
  have c16 := (cell_of (FQ15.out.get HB.out Hnb.out) 16).trans (show _ = some (.slice none 0 0 : Value) from rfl)
  go_wp2_with fail
  refine (flatLines_nil _).mono ?_
  rintro e w17 ⟨rfl, f16⟩
  have FQ16 := Lib.hid (FQ15.out.trans f16 (fun _ _ h => h.elim)); clear FQ15
  clear f16 c16
  have c17 := (cell_of (FQ16.out.get HB.out Hnb.out) 17).trans (show _ = some (.slice none 0 0 : Value) from rfl)
  go_wp2_with fail
  refine (flatTurns_nil _).mono ?_
  rintro e w18 ⟨rfl, f17⟩
  have FQ17 := Lib.hid (FQ16.out.trans f17 (fun _ _ h => h.elim)); clear FQ16
  clear f17 c17
  have c18 := (cell_of (FQ17.out.get HB.out Hnb.out) 18).trans (show _ = some (.slice none 0 0 : Value) from rfl)
  go_wp2_with fail
  refine (flatCommands_nil _).mono ?_
  rintro e w19 ⟨rfl, f18⟩
  have FQ18 := Lib.hid (FQ17.out.trans f18 (fun _ _ h => h.elim)); clear FQ17
  clear f18 c18
  go_wp2_with fail
  go_ret
  exact ⟨rfl, FQ18.out⟩
theorem row_values {w : World} {t : TypeId} {v : Value} {K : Nat} {lv : Nat → Value} (h : Row w t 1 v K ((List.range K).map lv)) (h0 : 0 < K) : ∃ g c, v = .slice (some ⟨g, 0, none⟩) K c ∧ g < w.heap.size ∧ ∀ k, k < K → w.cell? ⟨g, k, none⟩ = some (lv k) := by
  rcases h.2 with ⟨e1, e2⟩ | ⟨g, cap, cur, e1, _, k1, k2, k3, k4, k5⟩
  · omega
  · refine ⟨g, cap, e1, lt_of_block k1, fun k hk => ?_⟩
    have h1 : (cur.toList.take (K * 1))[k]? = some (lv k) := by rw [k5]; simp [hk]
    rw [List.getElem?_take, if_pos (by omega), Array.getElem?_toList] at h1
    rw [cell_of k1 k]; exact h1
set_option maxRecDepth 100000 in
set_option maxHeartbeats 1000000 in
/-- Lists that lie apart are found to do so; what they hold is written over. -/
theorem apartBytes_ok {w : World} {lsb lo K c : Nat} {lv : Nat → Value} {n : Nat → Nat} {f : Nat → List Value} (h0 : 0 < K) (hK : K ≤ 500) (hn : ∀ k, k < K → n k ≤ 100000) (hl : ∀ k, k < K → w.cell? ⟨lsb, lo + k, none⟩ = some (lv k))
    (hr : ∀ k, k < K → Row w 5 1 (lv k) (n k) (f k)) (ap : ∀ j k b, j < K → k < K → j ≠ k → (lv j).ownBlock = some b → ¬ (lv k).ownBlock = some b) :
    Calls Tryd.prog 15 #[.slice (some ⟨lsb, lo, none⟩) K c] w fun e w' => e = .returned (.bool true) ∧ Fr (fun b => flP K lv (fun _ => .slice none 0 0) b) w w' := by
  have HN := Lib.hid hn; have HL := Lib.hid hl; have HR := Lib.hid hr; have HA := Lib.hid ap
  have hK' : (K : Int) ≤ 500 := by omega
  have hsls : lsb < w.heap.size := World.block_lt_of_cell? _ _ (hl 0 h0)
  have Hls := Lib.hid hsls; have H0 := Lib.hid h0
  obtain ⟨W, hW⟩ : ∃ W, W = w.alloc (bagBytes (.slice none 0 0)) := ⟨_, rfl⟩
  obtain ⟨bb, hbb⟩ : ∃ b, b = w.heap.size := ⟨_, rfl⟩
  have HF := Lib.hid (show Fr (fun _ => False) w W by rw [hW]; exact Fr.alloc (Fr.refl _ _) _)
  have HB := Lib.hid (show W.heap[bb]? = some (bagBytes (.slice none 0 0)) by rw [hW, hbb, heap_alloc_get]; simp)
  have Hbb := Lib.hid hbb
  clear hn hl hr ap hsls h0
  go_enter Tryd.func15, Tryd.ntmps15
  go_upto_block 0 with fail
  rw [← hW, ← hbb]
  clear hW hbb
  go_cut [4] (fun _ wx => ∃ v, wx.heap[bb]? = some (bagBytes v) ∧ Row wx 30 1 v K ((List.range K).map lv) ∧ (∀ b, v.ownBlock = some b → w.heap.size ≤ b ∧ b ≠ bb) ∧ Fr (fun _ => False) w wx)
  case first =>
    go_wp2_with fail
    go_loopw [4] (fun s4 wr => ∃ (k : Nat) (v : Value), s4 = .int .i64 k ∧ k ≤ K ∧ wr.heap[bb]? = some (bagBytes v) ∧ Row wr 30 1 v k ((List.range k).map lv) ∧ (∀ b, v.ownBlock = some b → w.heap.size ≤ b ∧ b ≠ bb) ∧ Fr (fun _ => False) w wr) (fun s4 _ => K - (intOf s4).toNat)
    case atStart => exact ⟨0, _, rfl, Nat.zero_le _, HB.out, by simpa using World.ownsRow_nil _ _ _ _, fun b hb => by simp [Value.ownBlock] at hb, HF.out⟩
    case round =>
      obtain ⟨k, v, rfl, hk, hb, hr, hv, hf⟩ := hrel
      have hbd : bb = w.heap.size := Hbb.out
      by_cases hlt : k < K
      · have hlt' : (k : Int) < (K : Int) := by omega
        have k0 : (0 : Int) ≤ (k : Int) := by omega
        have cl := (hf.cell (o := lo + k) (s := none) Hls.out (fun h => h)).trans (HL.out k hlt)
        obtain ⟨a, n', c', el⟩ : ∃ a n c, lv k = .slice a n c := by
          rcases (HR.out k hlt).2 with ⟨e1, e2⟩ | ⟨g, cap, cur, e1, _⟩
          · exact ⟨_, _, _, e1⟩
          · exact ⟨_, _, _, e1⟩
        have Hel := Lib.hid el
        rw [el] at cl
        have HP := Lib.hid (putBytes_ok (a := a) (n := n') (c := c') hb hr (fun e => (hv _ e).2 rfl) (by omega))
        have Hlt := Lib.hid hlt; have Hv := Lib.hid hv; have Hf := Lib.hid hf; have Hbk := Lib.hid (lt_of_block hb)
        clear hlt hk hb hr hv hf hbd el
        go_wp2_with fail
        refine HP.out.mono ?_
        rintro e w2 ⟨rfl, v', b1, b2, b3, b4⟩
        have B1 := Lib.hid b1
        have B2 := Lib.hid (show Row w2 30 1 v' (k + 1) ((List.range (k + 1)).map lv) by rw [List.range_succ, List.map_append, List.map_cons, List.map_nil, Hel.out]; exact b2)
        have B3 := Lib.hid (show ∀ b, v'.ownBlock = some b → w.heap.size ≤ b ∧ b ≠ bb from fun b hb => by
          rcases b3 with e | ⟨b', e, h⟩
          · rw [e] at hb; exact Hv.out b hb
          · rw [e] at hb; cases hb; have := Hf.out.size; have := Hbk.out; omega)
        have B4 := Lib.hid (Hf.out.trans b4 (fun b hb e => by
          rcases e with e | e
          · have := Hbb.out; omega
          · have := Hv.out b e; omega))
        clear b1 b2 b3 b4 cl
        go_wp2_with fail
        go_roundw
        case rel => exact ⟨k + 1, v', by first | (simp; done) | go_num, Hlt.out, B1.out, B2.out, B3.out, B4.out⟩
        case measure => have := Hlt.out; simp [intOf]; omega
      · obtain rfl : k = K := by omega
        have Hb := Lib.hid hb; have Hr := Lib.hid hr; have Hv := Lib.hid hv; have Hf := Lib.hid hf
        clear hb hr hv hf hlt hk hbd
        go_wp2_with fail
        go_meet
        exact ⟨v, Hb.out, Hr.out, Hv.out, Hf.out⟩
  case rest =>
  obtain ⟨v, hb, hr, hv, hf⟩ := hcut
  obtain ⟨g, c', rfl, hg, hc⟩ := row_values hr H0.out
  have hgw := hv g rfl
  have hF : Fl2 wc 5 1 K g g lv (fun _ => .slice none 0 0) n (fun _ => 0) f (fun _ => []) := by
    refine ⟨hc, fun k hk => (HR.out k hk).fr hf (fun _ _ h => h), fun k hk => World.ownsRow_nil _ _ _ _, ?_, ?_, ?_, ⟨hg, hg⟩⟩
    · intro j k b hj hk hne h1 h2
      rcases h1 with h1 | h1
      · rcases h2 with h2 | h2
        · exact HA.out j k b hj hk hne h1 h2
        · simp [Value.ownBlock] at h2
      · simp [Value.ownBlock] at h1
    · intro k b hk h1
      rcases h1 with h1 | h1
      · have := Row.lt (HR.out k hk) h1
        exact ⟨by omega, by omega⟩
      · simp [Value.ownBlock] at h1
    · intro k b hk h1 h2; simp [Value.ownBlock] at h2
  have hnb : ¬ flP K lv (fun _ => .slice none 0 0) bb := by
    rintro ⟨k, hk, h1 | h1⟩
    · have := Row.lt (HR.out k hk) h1
      have := Hbb.out; omega
    · simp [Value.ownBlock] at h1
  have HQ := Lib.hid (bagApartBytes_ok hb hK HN.out hF hnb)
  have Hf := Lib.hid hf
  clear hb hr hv hf hg hc hgw hF hnb
  go_wp2_with fail
  refine HQ.out.mono ?_
  rintro e w3 ⟨rfl, f3⟩
  have F3 := Lib.hid ((Hf.out.mono (fun _ _ h => h.elim) : Fr (fun b => flP K lv (fun _ => .slice none 0 0) b) w wc).trans f3 (fun b hb h => h))
  clear f3
  go_wp2_with fail
  go_ret
  exact ⟨rfl, F3.out⟩
end Go.Proofs.YticcjnfninhjlaaDoor
