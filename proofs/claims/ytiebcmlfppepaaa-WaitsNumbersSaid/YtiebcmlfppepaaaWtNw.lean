/- WaitsNumbers: the walk. No condition. -/
import Derived.Test.YtiebcmlfppepaaaWtNo
namespace Go.Proofs.Ytiebcmlfppepaaa.Wt
open Go.Shelf Go.RowKit
theorem remF {i i1 : Nat} (h : i < 1024) (h1 : i1 = i + 1) : (i : Int) + 1 = (i1 : Int) ∧ wrap64 (i1 : Int) = (i1 : Int) ∧ IntKind.i64.wrap (i1 : Int) = (i1 : Int) ∧ IntKind.u32.wrap (i1 : Int) = (i1 : Int) ∧ (i : Int).tmod 10 = ((i % 10 : Nat) : Int) ∧ (i : Int) % 10 = ((i % 10 : Nat) : Int) ∧ (i : Int) < 1024 ∧ (0 : Int) ≤ (i : Int) := by
  subst h1
  refine ⟨by omega, by unfold wrap64; omega, by rw [IntKind.wrap_i64]; omega, by rw [IntKind.wrap_u32]; omega, ?_, by omega, by omega, by omega⟩
  rw [Int.tmod_eq_emod_of_nonneg (by omega)]; omega
/-- The state behind the filling. -/
structure Fl (w : World) (G : Nat → Prop) (bl : Nat) (S : List Int) (n' N : Int) (wr : World) : Prop where
  st : StAt G bl S n' wr
  new : ∀ b, G b → w.heap.size ≤ b
  nx : n' ≤ N
  fr : Fr (fun _ => False) w wr
theorem Fl.keep {w : World} {G : Nat → Prop} {bl : Nat} {S : List Int} {n' N : Int} {wr w' : World} (h : Fl w G bl S n' N wr) (hf : Fr (fun _ => False) wr w') : Fl w G bl S n' N w' := ⟨h.st.keep hf, h.new, h.nx, h.fr.trans hf (fun _ _ h => h)⟩
theorem Fl.step {w : World} {G G' : Nat → Prop} {bl : Nat} {S S' : List Int} {n' n2 N : Int} {wr w' : World} (h : Fl w G bl S n' N wr) (h2 : StAt G' bl S' n2 w') (hn : n2 ≤ n' + 1) (f : Fr G wr w') (g : Grew wr G G') : Fl w G' bl S' n2 (N + 1) w' :=
  ⟨h2, fun b hb => by
    rcases g b hb with e | e
    · exact h.new b e
    · have := h.fr.size; omega, by have := h.nx; omega, h.fr.trans f (fun b hb e => by have := h.new b e; omega)⟩
set_option maxRecDepth 100000 in
set_option maxHeartbeats 8000000 in
theorem numbers_walk (w : World) : Calls Try.prog 5 #[] w fun e w' => e = .returned (.bool true) ∧ Fr (fun _ => False) w w' := by
  obtain ⟨W1, hW1⟩ : ∃ W1, W1 = (w.alloc (.cells #[.pointer none, .map none] 64)).alloc (.cells #[.pointer none, .pointer (some ⟨w.heap.size, 0, none⟩)] 44) := ⟨_, rfl⟩
  have f1 : Fr (fun _ => False) w W1 := by rw [hW1]; exact Fr.alloc (Fr.alloc (Fr.refl _ _) _) _
  have gl : W1.heap[w.heap.size]? = some (.cells #[.pointer none, .map none] 64 (0, 0)) := by rw [hW1]; simp only [heap_alloc_get, World.size_alloc]; simp
  have gs : W1.heap[w.heap.size + 1]? = some (.cells #[.pointer none, .pointer (some ⟨w.heap.size, 0, none⟩)] 44 (0, 0)) := by rw [hW1]; simp only [heap_alloc_get, World.size_alloc]; simp
  have HW1 := Lib.hid hW1; have F1 := Lib.hid f1; have Gl := Lib.hid gl; have Gs := Lib.hid gs
  clear f1 gl gs
  go_enter Try.func5, Try.ntmps5
  go_upto_block 0 with fail
  rw [← hW1]
  clear hW1
  go_cut [25] (fun _ wx => Fr (fun _ => False) w wx)
  case first => as_aux_lemma =>
    go_wp2_with fail
    go_loopw [25] (fun s25 wr => ∃ i : Nat, i ≤ 2 ∧ s25 = .int .i64 i ∧ Fr (fun _ => False) W1 wr) (fun s25 _ => 2 - (intOf s25).toNat)
    case atStart => exact ⟨0, by omega, rfl, Fr.refl _ _⟩
    case round =>
      obtain ⟨i, hi, rfl, hf⟩ := hrel
      by_cases hlt : i < 2
      · obtain ⟨p, hp, hno⟩ : ∃ p, wr.cell? ⟨w.heap.size + 1, i, none⟩ = some (.pointer p) ∧ NoList wr p := by
          have gs' := hf.get Gs.out (fun h => h)
          have gl' := hf.get Gl.out (fun h => h)
          rcases (by omega : i = 0 ∨ i = 1) with rfl | rfl
          · exact ⟨none, (cell_of gs' 0).trans rfl, .inl rfl⟩
          · exact ⟨some ⟨w.heap.size, 0, none⟩, (cell_of gs' 1).trans rfl, .inr ⟨_, _, rfl, gl'⟩⟩
        have hlt' : (i : Int) < 2 := by omega
        have i0 : (0 : Int) ≤ (i : Int) := by omega
        have Hno := Lib.hid hno; have Hf := Lib.hid hf; have Hlt := Lib.hid hlt
        clear hno hf hlt hi
        go_wp2_with fail
        refine (get_no Hno.out 1).mono ?_
        rintro e w2 ⟨rfl, f2⟩
        have fB : Fr (fun _ => False) w2 (w2.alloc (.cells #[.int .u32 0, .int .i64 0, .int .i64 0, .int .i64 0] 51)) := Fr.alloc (Fr.refl _ _) _
        have gB : (w2.alloc (.cells #[.int .u32 0, .int .i64 0, .int .i64 0, .int .i64 0] 51)).heap[w2.heap.size]? = some (.cells #[.int .u32 0, .int .i64 0, .int .i64 0, .int .i64 0] 51 (0, 0)) := heap_alloc_at _ _
        have N2 := Lib.hid (Hno.out.fr (f2.trans fB (fun _ _ h => h))); have F2 := Lib.hid (Hf.out.trans (f2.trans fB (fun _ _ h => h)) (fun _ _ h => h)); have GB := Lib.hid gB
        clear f2 fB gB hp
        go_upto_region 6 with fail
        generalize (w2.alloc (.cells #[.int .u32 0, .int .i64 0, .int .i64 0, .int .i64 0] 51)) = W2 at *
        generalize w2.heap.size = bx at *
        go_wp2_with fail
        refine (serve_no N2.out (-1)).mono ?_
        rintro e w3 ⟨rfl, rfl⟩
        go_wp2_with fail
        refine (told_ok (S := []) (by simp) (fun w1 hw => wall_no (N2.out.fr hw))).mono ?_
        rintro e w4 ⟨v, rfl, r4, o4, f4⟩
        obtain ⟨a4, c4, e4⟩ := wts_slice r4
        subst e4
        have N4 := Lib.hid (N2.out.fr f4); have F4 := Lib.hid (F2.out.trans f4 (fun _ _ h => h)); have GB4 := Lib.hid (f4.get GB.out (fun h => h))
        clear r4 o4 f4
        simp only [List.length_nil]
        go_wp2_with fail
        refine (join_no N4.out 0 0 0 0).mono ?_
        rintro e w5 ⟨rfl, f5⟩
        have N5 := Lib.hid (N4.out.fr f5); have F5 := Lib.hid (F4.out.trans f5 (fun _ _ h => h)); have GB5 := Lib.hid (f5.get GB4.out (fun h => h))
        clear f5
        go_wp2_with fail
        refine (leave_no N5.out 1).mono ?_
        rintro e w6 ⟨rfl, rfl⟩
        go_wp2_with fail
        refine (raise_no N5.out 1 (-1)).mono ?_
        rintro e w7 ⟨rfl, rfl⟩
        have gb := GB5.out
        have b0 := (cell_of gb 0).trans (show _ = some (Value.int .u32 0) from rfl)
        have b1 := (cell_of gb 1).trans (show _ = some (Value.int .i64 0) from rfl)
        have b2 := (cell_of gb 2).trans (show _ = some (Value.int .i64 0) from rfl)
        have b3 := (cell_of gb 3).trans (show _ = some (Value.int .i64 0) from rfl)
        have hz := zz_ne
        clear gb
        go_wp2_with fail
        refine (length_no N5.out).mono ?_
        rintro e w8 ⟨rfl, rfl⟩
        clear b0 b1 b2 b3 hz
        go_wp2_with fail
        go_roundw
        case rel => exact ⟨i + 1, by have := Hlt.out; omega, by first | (simp; done) | go_num, F5.out⟩
        case measure => have := Hlt.out; simp [intOf]; omega
      · obtain rfl : i = 2 := by omega
        have Hf := Lib.hid hf
        clear hlt hi hf
        go_wp2_with fail
        go_meet
        exact F1.out.trans Hf.out (fun _ _ h => h)
  case rest =>
    have F2 := Lib.hid hcut
    clear hcut F1 Gl Gs HW1
    go_wp2_with fail
    refine (newL_ok _).mono ?_
    rintro e w3 ⟨bl, G, rfl, hS, hG, hf⟩
    have HF := Lib.hid (show Fl w G bl [] 0 0 w3 from ⟨hS, fun b hb => by have := hG b hb; have := F2.out.size; omega, by omega, F2.out.trans hf (fun _ _ h => h)⟩)
    clear hS hG hf
    go_upto_block 2 with fail
    go_cut [12] (fun _ wx => ∃ G n', Fl w G bl (NF 1024) n' 1024 wx)
    case first => as_aux_lemma =>
      go_wp2_with fail
      go_loopw [12] (fun s12 wr => ∃ (i : Nat) (G : Nat → Prop) (n' : Int), s12 = .int .i64 i ∧ i ≤ 1024 ∧ Fl w G bl (NF i) n' i wr) (fun s12 _ => 1024 - (intOf s12).toNat)
      case atStart => exact ⟨0, G, 0, rfl, by omega, HF.out⟩
      case round =>
        obtain ⟨i, G, n', rfl, hi, hP⟩ := hrel
        by_cases hlt : i < 1024
        · obtain ⟨i1, hi1⟩ : ∃ i1, i1 = i + 1 := ⟨_, rfl⟩
          obtain ⟨e1, e2, e3, e4, e5, e6, e7, e8⟩ := remF hlt hi1
          have HJ := join_ok hP.st (a := (i : Int) + 1) (b := 16) (c := ((i % 10 : Nat) : Int)) (d := 1099511627776) (by omega) (by omega) (by have := hP.nx; omega)
          rw [NF_join hlt, NF_joinS hlt, e1, ← hi1] at HJ
          obtain ⟨q, hq⟩ : ∃ q, q = i % 10 := ⟨_, rfl⟩
          rw [← hq] at HJ e5 e6
          have HJ := Lib.hid HJ; have HP := Lib.hid hP; have Hi1 := Lib.hid hi1; have Hlt := Lib.hid hlt
          clear hP hi1 hlt hi hq
          go_wp2_with fail
          refine HJ.out.mono ?_
          rintro e w5 ⟨rfl, G2, n2, h2, hn2, f2, g2⟩
          have HP2 := Lib.hid (HP.out.step h2 hn2 f2 g2)
          clear h2 hn2 f2 g2
          go_wp2_with fail
          go_roundw
          case rel =>
            have h := HP2.out
            have e : (i : Int) + 1 = (i1 : Int) := by have := Hi1.out; omega
            rw [e] at h
            exact ⟨i1, G2, n2, rfl, by have := Hi1.out; have := Hlt.out; omega, h⟩
          case measure => have := Hi1.out; have := Hlt.out; simp [intOf]; omega
        · obtain rfl : i = 1024 := by omega
          have HP := Lib.hid hP
          clear hlt hi hP
          go_wp2_with fail
          go_meet
          exact ⟨G, n', HP.out⟩
    case rest =>
      clear HF
      obtain ⟨G1, n1, hP⟩ := hcut
      have HP := Lib.hid hP
      have HJ1 := join_ok hP.st (a := 1025) (b := 1) (c := 0) (d := 0) (by decide) (by decide) (by have := hP.nx; omega)
      rw [NF_full, joinS_no (by rw [NF_full]; decide)] at HJ1
      have J1 := Lib.hid HJ1
      clear hP HJ1
      go_wp2_with fail
      refine J1.out.mono ?_
      rintro e w5 ⟨rfl, G2, n2, h2, hn2, f2, g2⟩
      have hP2 := HP.out.step h2 hn2 f2 g2
      have HJ2 := join_ok hP2.st (a := 7) (b := 1) (c := 0) (d := 0) (by decide) (by decide) (by have := hP2.nx; omega)
      rw [NF_there, joinS_no (by rw [NF_there]; decide)] at HJ2
      have J2 := Lib.hid HJ2; have HP2 := Lib.hid hP2
      clear h2 hn2 f2 g2 hP2 HJ2
      go_wp2_with fail
      refine J2.out.mono ?_
      rintro e w6 ⟨rfl, G3, n3, h3, hn3, f3, g3⟩
      have HP3 := Lib.hid (HP2.out.step h3 hn3 f3 g3)
      clear h3 hn3 f3 g3
      go_upto_block 4 with fail
      have gO : ((w6.alloc (.cells #[.int .u32 1, .int .i64 1, .int .i64 0, .int .i64 0] 51)).alloc (.cells #[.int .u32 0, .int .i64 1, .int .i64 0, .int .i64 0, .int .u32 1, .int .i64 0, .int .i64 0, .int .i64 0, .int .u32 1, .int .i64 17, .int .i64 0, .int .i64 0, .int .u32 1, .int .i64 1, .int .i64 (-1), .int .i64 0, .int .u32 1, .int .i64 1, .int .i64 10, .int .i64 0, .int .u32 1, .int .i64 1, .int .i64 0, .int .i64 (-1), .int .u32 1, .int .i64 1, .int .i64 0, .int .i64 1099511627777] 51)).heap[w6.heap.size + 1]? = some (.cells oddArr 51 (0, 0)) := by simp only [heap_alloc_get, World.size_alloc]; simp [oddArr]
      have fO : Fr (fun _ => False) w6 ((w6.alloc (.cells #[.int .u32 1, .int .i64 1, .int .i64 0, .int .i64 0] 51)).alloc (.cells #[.int .u32 0, .int .i64 1, .int .i64 0, .int .i64 0, .int .u32 1, .int .i64 0, .int .i64 0, .int .i64 0, .int .u32 1, .int .i64 17, .int .i64 0, .int .i64 0, .int .u32 1, .int .i64 1, .int .i64 (-1), .int .i64 0, .int .u32 1, .int .i64 1, .int .i64 10, .int .i64 0, .int .u32 1, .int .i64 1, .int .i64 0, .int .i64 (-1), .int .u32 1, .int .i64 1, .int .i64 0, .int .i64 1099511627777] 51)) := Fr.alloc (Fr.alloc (Fr.refl _ _) _) _
      have HP4 := Lib.hid (HP3.out.keep fO); have GO := Lib.hid gO
      have NO := Lib.hid (show ¬ G3 (w6.heap.size + 1) from fun h => by have := HP3.out.st.bd _ h; omega)
      clear gO fO
      generalize ((w6.alloc (.cells #[.int .u32 1, .int .i64 1, .int .i64 0, .int .i64 0] 51)).alloc (.cells #[.int .u32 0, .int .i64 1, .int .i64 0, .int .i64 0, .int .u32 1, .int .i64 0, .int .i64 0, .int .i64 0, .int .u32 1, .int .i64 17, .int .i64 0, .int .i64 0, .int .u32 1, .int .i64 1, .int .i64 (-1), .int .i64 0, .int .u32 1, .int .i64 1, .int .i64 10, .int .i64 0, .int .u32 1, .int .i64 1, .int .i64 0, .int .i64 (-1), .int .u32 1, .int .i64 1, .int .i64 0, .int .i64 1099511627777] 51)) = W7 at *
      generalize w6.heap.size + 1 = qb at *
      go_cut [17] (fun _ wx => ∃ G n', Fl w G bl (NF 1024) n' 1033 wx)
      case first => as_aux_lemma =>
        go_wp2_with fail
        go_loopw [17] (fun s17 wr => ∃ (i : Nat) (G : Nat → Prop) (n' : Int), s17 = .int .i64 i ∧ i ≤ 7 ∧ Fl w G bl (NF 1024) n' (1026 + i) wr ∧ wr.heap[qb]? = some (.cells oddArr 51 (0, 0)) ∧ ¬ G qb) (fun s17 _ => 7 - (intOf s17).toNat)
        case atStart => exact ⟨0, G3, n3, rfl, by omega, by simpa using HP4.out, GO.out, NO.out⟩
        case round =>
          obtain ⟨i, G, n', rfl, hi, hP, hO, hnG⟩ := hrel
          clear HP4 GO NO
          by_cases hlt : i < 7
          · have hlt' : (i : Int) < 7 := by omega
            have i0 : (0 : Int) ≤ (i : Int) := by omega
            obtain ⟨d0, d1, d2, d3⟩ := odd_cells hO hlt
            obtain ⟨hj1, ha0, ha1⟩ := odd_join hlt (NF 1024)
            obtain ⟨hj2, -, -⟩ := odd_join hlt []
            obtain ⟨q, hq⟩ : ∃ q, q = oddQ i := ⟨_, rfl⟩
            rw [← hq] at d0 d1 d2 d3 hj1 hj2 ha0 ha1
            obtain ⟨a, b, c, d⟩ := q
            simp only at d0 d1 d2 d3 hj1 hj2 ha0 ha1
            have HJ1 := join_ok (w := wr.drew) (hP.st.keep (Fr.drew (Fr.refl _ _))) (a := a) (b := b) (c := c) (d := d) ha0 ha1 (by have := hP.nx; omega)
            rw [hj1, joinS_no (by rw [hj1]; decide)] at HJ1
            have J1 := Lib.hid HJ1
            have hJ2 : ∀ (w : World) (bl2 : Nat) (GB : Nat → Prop), StAt GB bl2 [] 0 w → Calls Try.prog 25 #[.pointer (some ⟨bl2, 0, none⟩), rawW a b c d] w fun e w' => e = .returned (.int .i64 2) ∧ Fr GB w w' := by
              intro w bl2 GB h
              refine (join_ok h (a := a) (b := b) (c := c) (d := d) ha0 ha1 (by decide)).mono ?_
              rintro e w' ⟨rfl, _, _, _, _, f, _⟩
              exact ⟨by rw [hj2], f⟩
            have J2 := Lib.hid hJ2; have HP := Lib.hid hP; have HO := Lib.hid hO; have Hlt := Lib.hid hlt
            have lq := lt_of_block hO
            clear HJ1 hJ2 hP hO hj1 hj2 ha0 ha1 hq hlt hi
            go_upto_region 30 with fail
            go_region_held3 (fun w' => w'.cell? ⟨qb, i * 4, none⟩ = some (.int .u32 a) ∧ w'.cell? ⟨qb, i * 4 + 1, none⟩ = some (.int .i64 b) ∧ w'.cell? ⟨qb, i * 4 + 2, none⟩ = some (.int .i64 c) ∧ w'.cell? ⟨qb, i * 4 + 3, none⟩ = some (.int .i64 d))
              (first | (go_keep; done) | (refine ⟨?_, ?_, ?_, ?_⟩ <;> (first | exact (fC.cell (Nat.lt_of_lt_of_le (Nat.lt_of_lt_of_le lq fA.size) fB.size) (fun h => absurd (hGB _ h) (Nat.not_le.2 (Nat.lt_of_lt_of_le lq fA.size)))).trans ((fB.cell (Nat.lt_of_lt_of_le lq fA.size) (fun h => h)).trans ((fA.cell lq hnG).trans d0)) | exact (fC.cell (Nat.lt_of_lt_of_le (Nat.lt_of_lt_of_le lq fA.size) fB.size) (fun h => absurd (hGB _ h) (Nat.not_le.2 (Nat.lt_of_lt_of_le lq fA.size)))).trans ((fB.cell (Nat.lt_of_lt_of_le lq fA.size) (fun h => h)).trans ((fA.cell lq hnG).trans d1)) | exact (fC.cell (Nat.lt_of_lt_of_le (Nat.lt_of_lt_of_le lq fA.size) fB.size) (fun h => absurd (hGB _ h) (Nat.not_le.2 (Nat.lt_of_lt_of_le lq fA.size)))).trans ((fB.cell (Nat.lt_of_lt_of_le lq fA.size) (fun h => h)).trans ((fA.cell lq hnG).trans d2)) | exact (fC.cell (Nat.lt_of_lt_of_le (Nat.lt_of_lt_of_le lq fA.size) fB.size) (fun h => absurd (hGB _ h) (Nat.not_le.2 (Nat.lt_of_lt_of_le lq fA.size)))).trans ((fB.cell (Nat.lt_of_lt_of_le lq fA.size) (fun h => h)).trans ((fA.cell lq hnG).trans d3)))) | (refine ⟨?_, ?_, ?_, ?_⟩ <;> (first | exact (fB.cell (Nat.lt_of_lt_of_le lq fA.size) (fun h => h)).trans ((fA.cell lq hnG).trans d0) | exact (fB.cell (Nat.lt_of_lt_of_le lq fA.size) (fun h => h)).trans ((fA.cell lq hnG).trans d1) | exact (fB.cell (Nat.lt_of_lt_of_le lq fA.size) (fun h => h)).trans ((fA.cell lq hnG).trans d2) | exact (fB.cell (Nat.lt_of_lt_of_le lq fA.size) (fun h => h)).trans ((fA.cell lq hnG).trans d3))) | (refine ⟨?_, ?_, ?_, ?_⟩ <;> (first | exact (fA.cell lq hnG).trans d0 | exact (fA.cell lq hnG).trans d1 | exact (fA.cell lq hnG).trans d2 | exact (fA.cell lq hnG).trans d3)))
              (first
                | (go_at_call 28; refine (newL_ok _).mono ?_; rintro e wB ⟨bl2, GB, rfl, hB, hGB, fB⟩)
                | (go_at_call 25; refine (J2.out _ _ _ hB).mono ?_; rintro e wC ⟨rfl, fC⟩)
                | (go_at_call 25; refine J1.out.mono ?_; rintro e wA ⟨rfl, GA, nA, hA, hnA, fA, gA⟩))
            replace fA := Fr.undrew fA
            have hPA := HP.out.step hA hnA fA gA
            have hOA := fA.get HO.out hnG
            have fBC : Fr (fun _ => False) wA wC := fB.trans fC (fun b hb h => by have := hGB b h; omega)
            have HPC := Lib.hid (hPA.keep fBC); have HOC := Lib.hid (fBC.get hOA (fun h => h))
            have HnA := Lib.hid (show ¬ GA qb from fun h => by
              rcases gA qb h with e | e
              · exact hnG e
              · have e2 : wr.drew.heap.size = wr.heap.size := rfl
                omega)
            clear hA hnA fA gA hB hGB fB fC hPA hOA fBC d0 d1 d2 d3
            go_wp2_with fail
            go_roundw
            case rel =>
              have h := HPC.out
              have e : (1026 : Int) + i + 1 = 1026 + ((i + 1 : Nat) : Int) := by push_cast; omega
              rw [e] at h
              exact ⟨i + 1, GA, nA, by first | (simp; done) | go_num, by have := Hlt.out; omega, h, HOC.out, HnA.out⟩
            case measure => have := Hlt.out; simp [intOf]; omega
          · obtain rfl : i = 7 := by omega
            have HP := Lib.hid hP
            clear hlt hi hP hO hnG
            go_wp2_with fail
            go_meet
            exact ⟨G, n', by simpa using HP.out⟩
      case rest =>
        clear HP4 GO NO HP3
        obtain ⟨G4, n4, hP⟩ := hcut
        have HSv := serve_ok hP.st (n := 16384) (by decide) (by decide) (by have := hP.nx; omega)
        rw [NF_serve] at HSv
        have hhd := NF_head hP.st.ord
        have Hhd := Lib.hid hhd
        have HSv := Lib.hid HSv; have HP := Lib.hid hP
        clear hP hhd
        go_wp2_with fail
        refine HSv.out.mono ?_
        rintro e w8 ⟨v, rfl, rv, ov, G5, n5, h5, hn5, f5, g5, hvg⟩
        obtain ⟨g, cap, ev, d0, d1, d2, d3⟩ := Wts.cells rv (k := 0) (by rw [NF_len]; omega)
        subst ev
        rw [Hhd.out] at d0 d2
        simp only [Nat.zero_mul, Nat.zero_add, (nfx_f (show 9 < 1024 by omega)).2.1, (nfx_f (show 9 < 1024 by omega)).2.2.2.1] at d0 d2
        have hL := Lib.hid (length_ok h5)
        have F8 := Lib.hid (HP.out.fr.trans f5 (fun b hb e => by have := HP.out.new b e; omega))
        rw [NF_len]
        clear rv ov h5 hn5 f5 g5 hvg d1 d3
        go_wp2_with fail
        refine hL.out.mono ?_
        rintro e w9 ⟨rfl, rfl⟩
        go_wp2_with fail
        refine (awake_ok _).mono ?_
        rintro e wz ⟨rfl, fz⟩
        have FZ := Lib.hid (F8.out.trans fz (fun _ _ h => h))
        clear fz
        go_wp2_with fail
        go_ret
        exact ⟨rfl, FZ.out⟩
end Go.Proofs.Ytiebcmlfppepaaa.Wt
