/- A list of waiting parties: Raise. No condition. -/
import Derived.Test.YtjfnaflbhmeokaaWtN
import Derived.Test.YtjfnaflbhmeokaaWtGet
namespace Go.Proofs.Ytjfnaflbhmeokaa.Wt
open Go.RowKit
noncomputable def raiseE (S : List Int) (who t : Int) : Int := if t < 0 ∨ 9 < t then 2 else leaveE S who
/-- A party in another tier, in its place. -/
noncomputable def raiseS (S : List Int) (who t : Int) : List Int := if t < 0 ∨ 9 < t then S else match S.find? (fun x => decide (wW x = who)) with
  | none => S
  | some x => insW (tierW x t) (outW who S)
theorem raiseS_there {S : List Int} (hl : Lone S) {x t : Int} (hx : x ∈ S) (ht : ¬ (t < 0 ∨ 9 < t)) : raiseS S (wW x) t = insW (tierW x t) (outW (wW x) S) := by
  unfold raiseS
  rw [if_neg ht]
  have : S.find? (fun y => decide (wW y = wW x)) = some x := by
    cases h : S.find? (fun y => decide (wW y = wW x)) with
    | none => have := List.find?_eq_none.1 h x hx; simp at this
    | some y =>
      have h1 := List.find?_some h
      have h2 := List.mem_of_find?_eq_some h
      rw [lone_mem hl h2 hx (by simpa using h1)]
  rw [this]
theorem raiseS_none {S : List Int} {who t : Int} (hn : ¬ ∃ x ∈ S, wW x = who) : raiseS S who t = S := by
  unfold raiseS
  split
  · rfl
  · have : S.find? (fun y => decide (wW y = who)) = none := List.find?_eq_none.2 fun y hy => by simpa using fun e => hn ⟨y, hy, e⟩
    rw [this]
section
variable {G : Nat → Prop} {bl : Nat} {L : List It} {S : List Int} {next : Int} {f : Int → Option Int} {w : World}
theorem setF_perm {i : Nat} (hi : i < L.length) (v : Int) : (setF ltW L i v).Perm ((v, (itAt L i).2) :: without L i) := by
  unfold setF
  exact (settleF_perm ltW (by simpa using hi)).trans (perm_set hi _).symm
set_option maxRecDepth 100000 in
set_option maxHeartbeats 2000000 in
theorem raise_there (h : StAt G bl S next w) {x t : Int} (hxS : x ∈ S) (ht0 : 0 ≤ t) (ht9 : t ≤ 9) :
    Calls Try.prog 37 #[.pointer (some ⟨bl, 0, none⟩), .int .u32 (wW x), .int .i64 t] w fun e w' => e = .returned (.int .i64 0) ∧ StAt G bl (insW (tierW x t) (outW (wW x) S)) next w' ∧ Fr G w w' := by
  obtain ⟨L, f, h1, h2, h3, h4⟩ := id h
  obtain ⟨bh, bm, GH, g1, g2, g3, g4, g5⟩ := id h1.ex
  have c0 := (cell_of g1 0).trans (show _ = some (Value.pointer (some ⟨bh, 0, none⟩)) from rfl)
  have c1 := (cell_of g1 1).trans (show _ = some (Value.map (some bm)) from rfl)
  have HM := Lib.hid (made_ok g1)
  have hlk := run_lookup2U (P := Try.prog) Try.underlying80 Try.underlying30 g3 (Try.zeroValue3 _) (wW x)
  obtain ⟨i, hi, e1, e2⟩ := h2.some h3 hxS
  rw [e2] at hlk
  simp only [Option.getD_some, Option.isSome_some] at hlk
  obtain ⟨hh, hhh⟩ : ∃ hh, hh = (itAt L i).2 := ⟨_, rfl⟩
  have HG := Lib.hid (get_there less_ok g2 hi)
  rw [← hhh] at hlk
  rw [← hhh, e1] at HG
  have okx := h.ok x hxS
  obtain ⟨ok', t1, t2, t3, t4⟩ := tierW_ok okx ht0 ht9
  have hq0 : decide (t < 0) = false := by simp; omega
  have hq9 : decide (9 < t) = false := by simp; omega
  have lbl := lt_of_block g1
  have nbl : ¬ (False ∨ GH bl) := by rintro (h | h); exact h; exact (g5 _ h).2.1 rfl
  have nbm : ¬ (False ∨ GH bm) := by rintro (h | h); exact h; exact (g5 _ h).2.2 rfl
  have HS0 := Lib.hid h
  have H1 := Lib.hid h1; have H2 := Lib.hid h2; have H3 := Lib.hid h3; have H4 := Lib.hid h4; have G1 := Lib.hid g1; have G2 := Lib.hid g2; have G3 := Lib.hid g3; have G4 := Lib.hid g4; have G5 := Lib.hid g5
  have Hi := Lib.hid hi; have He1 := Lib.hid e1; have Hhh := Lib.hid hhh; have HxS := Lib.hid hxS; have Ok := Lib.hid ok'; have T1 := Lib.hid t1; have T2 := Lib.hid t2; have T3 := Lib.hid t3; have T4 := Lib.hid t4
  clear h h1 h2 h3 h4 g1 g2 g3 g4 g5 hxS hi e1 e2 hhh okx ok' t1 t2 t3 t4 ht0 ht9
  go_enter Try.func37, Try.ntmps37
  go_wp2_with fail
  refine HM.out.mono ?_
  rintro e w1 ⟨rfl, rfl⟩
  go_wp2_with fail
  refine HG.out.mono ?_
  rintro e w1 ⟨rfl, fg⟩
  replace c0 := (fg.cell lbl (fun h => h)).trans c0
  have g1' := fg.get G1.out (fun h => h)
  have hb9 : w.heap.size ≤ w1.heap.size := fg.size
  have Fg := Lib.hid fg; have Hb9 := Lib.hid hb9; have G1' := Lib.hid g1'
  clear fg hb9 g1' hlk
  go_upto_region 10 with fail
  have hfin : (w1.alloc (.cells #[.int .u32 (wW x), .int .i64 (wS x), .int .i64 t, .int .i64 (wC x)] 32)).heap[w1.heap.size]? = some (.cells #[.int .u32 (wW x), .int .i64 (wS x), .int .i64 t, .int .i64 (wC x)] 32 (0, 0)) := heap_alloc_at _ _
  have hb9 := Hb9.out
  have hfw : Fr (fun _ => False) w (w1.alloc (.cells #[.int .u32 (wW x), .int .i64 (wS x), .int .i64 t, .int .i64 (wC x)] 32)) := Fr.alloc Fg.out _
  have hbl : (w1.alloc (.cells #[.int .u32 (wW x), .int .i64 (wS x), .int .i64 t, .int .i64 (wC x)] 32)).heap[bl]? = some (.cells #[.pointer (some ⟨bh, 0, none⟩), .map (some bm)] 82 (0, 0)) := hfw.get G1.out (fun h => h)
  clear c0 c1
  generalize (w1.alloc (.cells #[.int .u32 (wW x), .int .i64 (wS x), .int .i64 t, .int .i64 (wC x)] 32)) = W at *
  generalize hw9 : w1.heap.size = b9 at *
  have c0 := (cell_of hbl 0).trans (show _ = some (Value.pointer (some ⟨bh, 0, none⟩)) from rfl)
  have x0 := (cell_of hfin 0).trans (show _ = some (Value.int .u32 (wW x)) from rfl)
  have x1 := (cell_of hfin 1).trans (show _ = some (Value.int .i64 (wS x)) from rfl)
  have x2 := (cell_of hfin 2).trans (show _ = some (Value.int .i64 t) from rfl)
  have x3 := (cell_of hfin 3).trans (show _ = some (Value.int .i64 (wC x)) from rfl)
  have lb9 := lt_of_block hfin
  have lbl' := lt_of_block hbl
  have nb9 : ¬ (False ∨ GH b9) := by
    rintro (h | h)
    · exact h
    · have := G2.out.bd _ h; omega
  have HP := Lib.hid (set_there (w := W.drew) less_ok (HpW.fr (HpW.fr G2.out hfw (fun _ _ h => h)) (Fr.drew (Fr.refl (fun _ => False) _)) (fun _ _ h => h)) Hi.out (v := tierW x t) trivial)
  have hv : wtT (tierW x t) = .agg #[.int .u32 (wW x), .int .i64 (wS x), .int .i64 t, .int .i64 (wC x)] := by unfold wtT; rw [T1.out, T2.out, T3.out, T4.out]
  rw [hv, ← Hhh.out] at HP
  have Hfw := Lib.hid hfw
  clear hv hfin hbl hfw
  go_region_held3 (fun w' => w'.cell? ⟨bl, 0, none⟩ = some (.pointer (some ⟨bh, 0, none⟩)) ∧ w'.cell? ⟨b9, 0, none⟩ = some (.int .u32 (wW x)) ∧ w'.cell? ⟨b9, 1, none⟩ = some (.int .i64 (wS x)) ∧ w'.cell? ⟨b9, 2, none⟩ = some (.int .i64 t) ∧ w'.cell? ⟨b9, 3, none⟩ = some (.int .i64 (wC x)))
    (first | (go_keep; done) | (refine ⟨?_, ?_, ?_, ?_, ?_⟩ <;> (first | exact (hf1.cell lbl' nbl).trans c0 | exact (hf1.cell lb9 nb9).trans x0 | exact (hf1.cell lb9 nb9).trans x1 | exact (hf1.cell lb9 nb9).trans x2 | exact (hf1.cell lb9 nb9).trans x3)))
    (first | (go_at_call 77; refine HP.out.mono ?_; rintro e w1 ⟨rfl, hH1, hf1⟩))
  replace hf1 := Fr.undrew hf1
  have HH1 := Lib.hid hH1; have Hf1 := Lib.hid hf1
  clear hH1 hf1
  go_wp2_with fail
  go_ret
  have fT : Fr (fun b => False ∨ GH b) w _ := (Hfw.out.mono (fun _ _ h => h.elim)).trans Hf1.out (fun _ _ h => h)
  have hpm := setF_perm Hi.out (tierW x t)
  have hp1 := perm_without Hi.out
  have hne : ∀ y ∈ without L i, wW y.1 ≠ wW x := by
    intro y hy e
    have := lone_perm (hp1.symm.map Prod.fst) H1.out.lone
    rw [List.map_cons] at this
    exact (List.pairwise_cons.1 this).1 y.1 (List.mem_map.2 ⟨y, hy, rfl⟩) (by rw [He1.out]; exact e.symm)
  refine ⟨rfl, ⟨setF ltW L i (tierW x t), f, ⟨⟨bh, bm, GH, fT.get G1.out nbl, HH1.out, G3.out.fr fT nbm, G4.out, G5.out⟩, H1.out.gl, fun b hb => Nat.lt_of_lt_of_le (H1.out.bd b hb) fT.size, set_heaped ltW_swo H1.out.he Hi.out _, ?_, ?_, ?_⟩, ⟨?_, ?_⟩, ?_, insW_ord (outW_ord H4.out) ?_⟩, fT.mono (fun b _ h => Or.elim h False.elim (fun h => (G5.out b h).1))⟩
  · intro y hy
    rcases List.mem_cons.1 (hpm.mem_iff.1 hy) with rfl | hy
    · exact Ok.out
    · exact H1.out.ok y (hp1.mem_iff.1 (by simp [hy]))
  · rw [hpm.length_eq]; have := hp1.length_eq; have h2 := H1.out.few; simp at this ⊢; omega
  · refine lone_perm (hpm.symm.map Prod.fst) ?_
    have := lone_perm (hp1.symm.map Prod.fst) H1.out.lone
    rw [List.map_cons] at this ⊢
    refine List.pairwise_cons.2 ⟨?_, (List.pairwise_cons.1 this).2⟩
    intro y hy
    obtain ⟨z, hz, rfl⟩ := List.mem_map.1 hy
    show wW (tierW x t) ≠ wW z.1
    rw [T1.out]; exact fun e => hne z hz e.symm
  · intro y hy
    rcases List.mem_cons.1 (hpm.mem_iff.1 hy) with rfl | hy
    · show f (wW (tierW x t)) = some (itAt L i).2
      rw [T1.out, ← He1.out]; exact H2.out.here _ (itAt_mem Hi.out)
    · exact H2.out.here y (hp1.mem_iff.1 (by simp [hy]))
  · intro who hw
    refine H2.out.gone who fun y hy => ?_
    rcases List.mem_cons.1 (hp1.mem_iff.2 hy) with rfl | hy
    · have := hw _ (hpm.mem_iff.2 (List.mem_cons_self ..))
      rw [He1.out, ← T1.out]; exact this
    · exact hw y (hpm.mem_iff.2 (by simp [hy]))
  · have hlS := HS0.out.lone
    have e3 : ((itAt L i).1 :: (without L i).map Prod.fst).Perm S := by
      have := (hp1.map Prod.fst).trans H3.out
      rwa [List.map_cons] at this
    rw [He1.out] at e3
    have e4 : ((without L i).map Prod.fst).Perm (outW (wW x) S) := (List.perm_cons _).1 (e3.trans (outW_perm hlS HxS.out).symm)
    have e5 := hpm.map Prod.fst
    rw [List.map_cons] at e5
    exact (e5.trans (e4.cons _)).trans (insW_perm _ _).symm
  · intro y hy; rw [T1.out]; exact outW_ne y hy
set_option maxRecDepth 100000 in
theorem raise_not (h : StAt G bl S next w) {who t : Int} (hn : t < 0 ∨ 9 < t ∨ ¬ ∃ x ∈ S, wW x = who) :
    Calls Try.prog 37 #[.pointer (some ⟨bl, 0, none⟩), .int .u32 who, .int .i64 t] w fun e w' => e = .returned (.int .i64 (raiseE S who t)) ∧ w = w' := by
  obtain ⟨L, f, h1, h2, h3, h4⟩ := id h
  obtain ⟨bh, bm, GH, g1, g2, g3, g4, g5⟩ := id h1.ex
  have c1 := (cell_of g1 1).trans (show _ = some (Value.map (some bm)) from rfl)
  have HM := Lib.hid (made_ok g1)
  have hlk := run_lookup2U (P := Try.prog) Try.underlying80 Try.underlying30 g3 (Try.zeroValue3 _) who
  by_cases h0 : t < 0
  · have hE : raiseE S who t = 2 := by unfold raiseE; rw [if_pos (.inl h0)]
    rw [hE]
    clear hE hn h h1 h2 h3 h4 g1 g2 g3 g4 g5 hlk
    go_enter Try.func37, Try.ntmps37
    go_wp2_with fail
    refine HM.out.mono ?_
    rintro e w1 ⟨rfl, rfl⟩
    go_wp2_with fail
    go_ret
    exact ⟨rfl, rfl⟩
  · by_cases h9 : 9 < t
    · have hE : raiseE S who t = 2 := by unfold raiseE; rw [if_pos (.inr h9)]
      rw [hE]
      have hq0 : decide (t < 0) = false := by simp; omega
      clear hE hn h h1 h2 h3 h4 g1 g2 g3 g4 g5 hlk h0
      go_enter Try.func37, Try.ntmps37
      go_wp2_with fail
      refine HM.out.mono ?_
      rintro e w1 ⟨rfl, rfl⟩
      go_wp2_with fail
      go_ret
      exact ⟨rfl, rfl⟩
    · have hth : ¬ ∃ x ∈ S, wW x = who := (hn.resolve_left h0).resolve_left h9
      have hE : raiseE S who t = 171 := by unfold raiseE leaveE; rw [if_neg (by omega), if_neg hth]
      rw [hE]
      have e2 := h2.none h3 hth
      rw [e2] at hlk
      simp only [Option.getD_none, Option.isSome_none] at hlk
      have hq0 : decide (t < 0) = false := by simp; omega
      have hq9 : decide (9 < t) = false := by simp; omega
      clear hE hn h h1 h2 h3 h4 g1 g2 g3 g4 g5 h0 h9 hth e2
      go_enter Try.func37, Try.ntmps37
      go_wp2_with fail
      refine HM.out.mono ?_
      rintro e w1 ⟨rfl, rfl⟩
      go_wp2_with fail
      go_ret
      exact ⟨rfl, rfl⟩
theorem raise_ok (h : StAt G bl S next w) (who t : Int) :
    Calls Try.prog 37 #[.pointer (some ⟨bl, 0, none⟩), .int .u32 who, .int .i64 t] w fun e w' => e = .returned (.int .i64 (raiseE S who t)) ∧ StAt G bl (raiseS S who t) next w' ∧ Fr G w w' := by
  by_cases hn : t < 0 ∨ 9 < t ∨ ¬ ∃ x ∈ S, wW x = who
  · refine (raise_not h hn).mono ?_
    rintro e w' ⟨rfl, rfl⟩
    refine ⟨rfl, ?_, Fr.refl _ _⟩
    have : raiseS S who t = S := by
      by_cases ht : t < 0 ∨ 9 < t
      · unfold raiseS; rw [if_pos ht]
      · exact raiseS_none (by rcases hn with hn | hn | hn; exact absurd (.inl hn) ht; exact absurd (.inr hn) ht; exact hn)
    rw [this]; exact h
  · have ht0 : ¬ t < 0 := fun e => hn (.inl e)
    have ht9 : ¬ 9 < t := fun e => hn (.inr (.inl e))
    have hth : ∃ x ∈ S, wW x = who := Classical.byContradiction fun e => hn (.inr (.inr e))
    have hE : raiseE S who t = 0 := by unfold raiseE leaveE; rw [if_neg (by omega), if_pos hth]
    obtain ⟨x, hx, rfl⟩ := hth
    rw [hE, raiseS_there h.lone hx (by omega)]
    exact raise_there h hx (by omega) (by omega)
end
end Go.Proofs.Ytjfnaflbhmeokaa.Wt
