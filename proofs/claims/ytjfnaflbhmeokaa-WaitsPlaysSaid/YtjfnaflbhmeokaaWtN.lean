/- A list of waiting parties: Leave, Raise. No condition. -/
import Derived.Test.YtjfnaflbhmeokaaWtJ
import Derived.Test.YtjfnaflbhmeokaaRel
namespace Go.Proofs.Ytjfnaflbhmeokaa.Wt
open Go.RowKit
noncomputable def leaveE (S : List Int) (who : Int) : Int := if ∃ x ∈ S, wW x = who then 0 else 171
section
variable {G : Nat → Prop} {bl : Nat} {L : List It} {S : List Int} {next : Int} {f : Int → Option Int} {w : World}
theorem okW_take (h : LstF G bl L next f w) {i : Nat} (hi : i < L.length) : (∀ x ∈ takeF ltW L i, okW x.1) ∧ (takeF ltW L i).length ≤ 1024 ∧ Lone ((takeF ltW L i).map Prod.fst) := by
  have hp := perm_take ltW hi
  refine ⟨fun x hx => h.ok x (hp.mem_iff.1 (by simp [hx])), ?_, ?_⟩
  · have := hp.length_eq; have h2 := h.few; simp at this; omega
  · have := lone_perm (hp.symm.map Prod.fst) h.lone
    rw [List.map_cons] at this
    exact (List.pairwise_cons.1 this).2
/-- One less, behind Drop and delete. -/
theorem StAt.dropped (h : AtOf f L) (hp : (L.map Prod.fst).Perm S) (ho : Ord S) (hl : Lone (L.map Prod.fst)) {i : Nat} (hi : i < L.length) {who : Int} (e : wW (itAt L i).1 = who) {G' : Nat → Prop} {n' : Int} {w' : World}
    (h1 : LstF G' bl (takeF ltW L i) n' (fun j => if j = who then none else f j) w') : StAt G' bl (outW who S) n' w' := by
  subst e
  have hq := perm_take ltW hi
  have hl2 := lone_perm (hq.symm.map Prod.fst) hl
  rw [List.map_cons] at hl2
  have hl3 := (List.pairwise_cons.1 hl2).1
  have hne : ∀ y ∈ takeF ltW L i, wW y.1 ≠ wW (itAt L i).1 := fun y hy e => hl3 y.1 (List.mem_map.2 ⟨y, hy, rfl⟩) e.symm
  refine ⟨_, _, h1, ⟨?_, ?_⟩, ?_, outW_ord ho⟩
  · intro y hy
    rw [if_neg (hne y hy)]
    exact h.here y (hq.mem_iff.1 (by simp [hy]))
  · intro who hw
    by_cases e : who = wW (itAt L i).1
    · rw [if_pos e]
    · rw [if_neg e]
      refine h.gone who fun y hy => ?_
      rcases List.mem_cons.1 (hq.mem_iff.2 hy) with rfl | hy
      · exact fun e2 => e e2.symm
      · exact hw y hy
  · have hx : (itAt L i).1 ∈ S := hp.mem_iff.1 (List.mem_map.2 ⟨_, itAt_mem hi, rfl⟩)
    have h2 := (outW_perm (lone_perm hp hl) hx)
    have h3 : ((itAt L i).1 :: (takeF ltW L i).map Prod.fst).Perm S := by
      have := (hq.map Prod.fst).trans hp
      rwa [List.map_cons] at this
    exact (List.perm_cons _).1 (h3.trans h2.symm)
theorem outW_none {who : Int} (hn : ¬ ∃ x ∈ S, wW x = who) : outW who S = S := List.filter_eq_self.2 fun x hx => by simpa using fun e => hn ⟨x, hx, e⟩
set_option maxRecDepth 100000 in
set_option maxHeartbeats 2000000 in
theorem leave_ok (h : StAt G bl S next w) (who : Int) :
    Calls Try.prog 35 #[.pointer (some ⟨bl, 0, none⟩), .int .u32 who] w fun e w' => e = .returned (.int .i64 (leaveE S who)) ∧ StAt G bl (outW who S) next w' ∧ Fr G w w' := by
  obtain ⟨L, f, h1, h2, h3, h4⟩ := id h
  obtain ⟨bh, bm, GH, g1, g2, g3, g4, g5⟩ := id h1.ex
  have c0 := (cell_of g1 0).trans (show _ = some (Value.pointer (some ⟨bh, 0, none⟩)) from rfl)
  have c1 := (cell_of g1 1).trans (show _ = some (Value.map (some bm)) from rfl)
  have HM := Lib.hid (made_ok g1)
  have hlk := run_lookup2U (P := Try.prog) Try.underlying80 Try.underlying30 g3 (Try.zeroValue3 _) who
  have Hh := Lib.hid h
  by_cases hth : ∃ x ∈ S, wW x = who
  · have hE : leaveE S who = 0 := by unfold leaveE; rw [if_pos hth]
    obtain ⟨x, hxS, hxw⟩ := hth
    obtain ⟨i, hi, e1, e2⟩ := h2.some h3 hxS
    rw [hxw] at e2
    rw [e2] at hlk
    simp only [Option.getD_some, Option.isSome_some] at hlk
    obtain ⟨hh, hhh⟩ : ∃ hh, hh = (itAt L i).2 := ⟨_, rfl⟩
    have HD := Lib.hid (drop_there less_ok g2 hi)
    rw [← hhh] at hlk HD
    have lbl := lt_of_block g1
    have nbl : ¬ (False ∨ GH bl) := by rintro (h | h); exact h; exact (g5 _ h).2.1 rfl
    have nbm : ¬ (False ∨ GH bm) := by rintro (h | h); exact h; exact (g5 _ h).2.2 rfl
    have HE := Lib.hid hE; have H1 := Lib.hid h1; have H2 := Lib.hid h2; have H3 := Lib.hid h3; have H4 := Lib.hid h4; have G1 := Lib.hid g1; have G3 := Lib.hid g3; have G4 := Lib.hid g4; have G5 := Lib.hid g5
    have Hi := Lib.hid hi; have Hxw := Lib.hid (show wW (itAt L i).1 = who by rw [e1]; exact hxw)
    clear h h1 h2 h3 h4 g1 g2 g3 g4 g5 hE hxS hxw hi e1 e2 hhh
    go_enter Try.func35, Try.ntmps35
    go_wp2_with fail
    refine HM.out.mono ?_
    rintro e w1 ⟨rfl, rfl⟩
    go_wp2_with fail
    refine HD.out.mono ?_
    rintro e w1 ⟨rfl, hH1, hf1⟩
    have k1 := (hf1.cell (o := 1) (s := none) lbl nbl).trans c1
    obtain ⟨es, c, hrun, hM1⟩ := run_deleteU (P := Try.prog) Try.underlying80 Try.underlying30 (UMap.fr (F := fun b => False ∨ GH b) G3.out hf1 nbm) who #[80, 30] rfl 0
    have HH1 := Lib.hid hH1; have HF1 := Lib.hid hf1; have HM1 := Lib.hid hM1
    clear c0 c1 hlk hH1 hf1 hM1
    go_wp2_with fail
    go_ret
    have hbd := HH1.out.bd
    have fm : Fr (fun b => b = bm) w1 (setMap w1 bm es c) := Fr.setMap (F := fun b => b = bm) (b := bm) (Fr.refl _ _) (fun _ => rfl) _ _
    have nm : bl ≠ bm := by
      intro e
      obtain ⟨l, c, hb, _⟩ := G3.out
      have := G1.out
      rw [e, hb] at this; cases this
    have n2 : ∀ b, GH b → b ≠ bm := fun b hb => (G5.out b hb).2.2
    obtain ⟨o1, o2, o3⟩ := okW_take H1.out Hi.out
    have hfin : LstF G bl (takeF ltW L i) next (fun j => if j = who then none else f j) (setMap w1 bm es c) := by
      refine ⟨⟨bh, bm, GH, fm.get (HF1.out.get G1.out nbl) nm, HpW.fr HH1.out fm n2, HM1.out, G4.out, G5.out⟩, H1.out.gl, ?_, take_heaped ltW_swo H1.out.he Hi.out, o1, o2, o3⟩
      intro b hb
      have := H1.out.bd b hb; have h2 := HF1.out.size
      rw [setMap_size]; omega
    exact ⟨by rw [HE.out]; rfl, StAt.dropped H2.out H3.out H4.out H1.out.lone Hi.out Hxw.out hfin, (HF1.out.mono (G := G) (fun b _ h => Or.elim h False.elim (fun h => (G5.out b h).1))).trans fm (fun b _ e => e ▸ G4.out)⟩
  · have e2 := h2.none h3 hth
    rw [e2] at hlk
    simp only [Option.getD_none, Option.isSome_none] at hlk
    have hE : leaveE S who = 171 := by unfold leaveE; rw [if_neg hth]
    have hS : StAt G bl (outW who S) next w := by rw [outW_none hth]; exact h
    have HE := Lib.hid hE; have HS := Lib.hid hS
    clear h h1 h2 h3 h4 g1 g2 g3 g4 g5 hE hth e2 hS
    go_enter Try.func35, Try.ntmps35
    go_wp2_with fail
    refine HM.out.mono ?_
    rintro e w1 ⟨rfl, rfl⟩
    go_wp2_with fail
    go_ret
    exact ⟨by rw [HE.out]; rfl, HS.out, Fr.refl _ _⟩
end
end Go.Proofs.Ytjfnaflbhmeokaa.Wt
