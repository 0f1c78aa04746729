/- The document's list of waiting parties: Join, Leave, Raise, Get. No condition. -/
import Derived.Test.YtjfnaflbhmeokaaWtRi
import Derived.Test.YtjfnaflbhmeokaaWtZ
namespace Go.Proofs.Ytjfnaflbhmeokaa.Wt
open Go.Shelf Go.RowKit
section
variable {G : Nat → Prop} {rb : Nat} {S : List Int} {w : World}
theorem RfAt.same (h : RfAt G rb S w) {w' : World} (f : Fr (fun _ => False) w w') : ∃ G', RfAt G' rb S w' ∧ Fr G w w' ∧ Grew w G G' := ⟨G, h.fr f (fun _ _ h => h), f.mono (fun _ _ h => h.elim), fun _ h => .inl h⟩
theorem RfAt.chain {a b c : World} {S T U : List Int} {G1 : Nat → Prop} (f0 : Fr (fun _ => False) a b) (hg : ∀ x, G x → x < a.heap.size) (f1 : Fr G b c) (k : Grew b G G1) {d : World} (h2 : ∃ G2, RfAt G2 rb U d ∧ Fr G1 c d ∧ Grew c G1 G2) : ∃ G2, RfAt G2 rb U d ∧ Fr G a d ∧ Grew a G G2 := by
  obtain ⟨G2, r, f2, k2⟩ := h2
  refine ⟨G2, r, ((f0.mono (fun _ _ h => h.elim) : Fr G a b).trans f1 (fun _ _ h => h)).trans f2 (fun x hx e => ?_), ?_⟩
  · rcases k x e with h | h
    · exact h
    · have := f0.size; omega
  · intro x hx
    rcases k2 x hx with h | h
    · rcases k x h with h | h
      · exact .inl h
      · exact .inr (Nat.le_trans f0.size h)
    · exact .inr (Nat.le_trans f0.size (Nat.le_trans f1.size h))
theorem wt_raw {a b c d : Int} (h : 1 ≤ a ∧ 1 ≤ b ∧ b ≤ 16 ∧ 0 ≤ c ∧ c ≤ 9 ∧ 0 ≤ d ∧ d ≤ 1099511627776) (ha2 : a < 4294967296) : wtV (wtN a b c d) = rawW a b c d ∧ wW (wtN a b c d) = a := by
  obtain ⟨h1, h2, h3, h4, h5, h6, h7⟩ := h
  obtain ⟨_, e1, e2, e3, e4⟩ := okW_n h1 ha2 h2 h3 h4 h5 h6 h7
  exact ⟨by unfold wtV rawW; rw [e1, e2, e3, e4], e1⟩
set_option maxRecDepth 100000 in
set_option maxHeartbeats 2000000 in
theorem rjoin_ok (h : RfAt G rb S w) (ho : Ord S) {a b c d : Int} (ha : 0 ≤ a) (ha2 : a < 4294967296) :
    Calls Try.prog 34 #[.pointer (some ⟨rb, 0, none⟩), rawW a b c d] w fun e w' => e = .returned (.int .i64 (joinE S a b c d)) ∧ ∃ G', RfAt G' rb (joinS S a b c d) w' ∧ Fr G w w' ∧ Grew w G G' := by
  obtain ⟨W, hW⟩ : ∃ W, W = w.alloc (.cells #[.int .u32 a, .int .i64 b, .int .i64 c, .int .i64 d] 32) := ⟨_, rfl⟩
  obtain ⟨z, hz⟩ : ∃ z, z = w.heap.size := ⟨_, rfl⟩
  have f0 : Fr (fun _ => False) w W := by rw [hW]; exact Fr.alloc (Fr.refl _ _) _
  have hg : W.heap[z]? = some (.cells #[.int .u32 a, .int .i64 b, .int .i64 c, .int .i64 d] 32 (0, 0)) := by rw [hW, hz]; exact heap_alloc_at _ _
  have x0 := (cell_of hg 0).trans (show _ = some (Value.int .u32 a) from rfl)
  have x1 := (cell_of hg 1).trans (show _ = some (Value.int .i64 b) from rfl)
  have x2 := (cell_of hg 2).trans (show _ = some (Value.int .i64 c) from rfl)
  have x3 := (cell_of hg 3).trans (show _ = some (Value.int .i64 d) from rfl)
  have hfew := h.few
  have H := Lib.hid h; have F0 := Lib.hid f0; have Hg := Lib.hid hg; have H0 := Lib.hid (h.fr f0 (fun _ _ h => h)); have Ho := Lib.hid ho
  have HM := Lib.hid (fun w0 => rmay_ok a b c d w0)
  have Ha := Lib.hid ha; have Ha2 := Lib.hid ha2
  cases hm : mayB a b c d with
  | false =>
    have hE : joinE S a b c d = 2 := by unfold joinE; rw [if_pos hm]
    have hS : joinS S a b c d = S := by unfold joinS; rw [if_neg (by rw [hE]; decide)]
    rw [hE, hS]
    rw [hm] at HM
    clear h f0 hg ho ha ha2 hm hE hS hfew
    go_enter Try.func34, Try.ntmps34
    go_upto_block 0 with fail
    rw [← hW, ← hz]
    clear hW hz
    go_wp2_with fail
    refine (HM.out _).mono ?_
    rintro e w1 ⟨rfl, f1⟩
    have F1 := Lib.hid f1
    have Hg1 := Lib.hid (f1.get Hg.out (fun h => h))
    clear f1 x0 x1 x2 x3
    have x0 := (cell_of Hg1.out 0).trans (show _ = some (Value.int .u32 a) from rfl)
    have x1 := (cell_of Hg1.out 1).trans (show _ = some (Value.int .i64 b) from rfl)
    have x2 := (cell_of Hg1.out 2).trans (show _ = some (Value.int .i64 c) from rfl)
    have x3 := (cell_of Hg1.out 3).trans (show _ = some (Value.int .i64 d) from rfl)
    have Hr1 := Lib.hid (H0.out.fr F1.out (fun _ _ h => h))
    go_wp2_with fail
    go_ret
    exact ⟨rfl, H.out.same (F0.out.trans F1.out (fun _ _ h => h))⟩
  | true =>
    rw [hm] at HM
    have hmm := (mayB_true ha).1 hm
    have hwt := wt_raw hmm ha2
    have HWt := Lib.hid hwt; have Hm := Lib.hid hm
    clear h f0 hg ho ha ha2 hm hwt hmm
    go_enter Try.func34, Try.ntmps34
    go_upto_block 0 with fail
    rw [← hW, ← hz]
    clear hW hz
    go_wp2_with fail
    refine (HM.out _).mono ?_
    rintro e w1 ⟨rfl, f1⟩
    have F1 := Lib.hid f1
    have Hg1 := Lib.hid (f1.get Hg.out (fun h => h))
    clear f1 x0 x1 x2 x3
    have x0 := (cell_of Hg1.out 0).trans (show _ = some (Value.int .u32 a) from rfl)
    have x1 := (cell_of Hg1.out 1).trans (show _ = some (Value.int .i64 b) from rfl)
    have x2 := (cell_of Hg1.out 2).trans (show _ = some (Value.int .i64 c) from rfl)
    have x3 := (cell_of Hg1.out 3).trans (show _ = some (Value.int .i64 d) from rfl)
    have Hr1 := Lib.hid (H0.out.fr F1.out (fun _ _ h => h))
    go_wp2_with fail
    refine (rplace_ok Hr1.out a).mono ?_
    rintro e w2 ⟨hp, rfl⟩
    rcases hp with ⟨i, hi, hwi, rfl⟩ | ⟨hno, rfl⟩
    · have hE : joinE S a b c d = 7 := by unfold joinE; rw [if_neg (by rw [Hm.out]; simp), if_pos ⟨_, getD_mem hi, hwi⟩]
      have hS : joinS S a b c d = S := by unfold joinS; rw [if_neg (by rw [hE]; decide)]
      have HE := Lib.hid hE; have HS := Lib.hid hS
      have b1 : decide ((0 : Int) ≤ (i : Int)) = true := by simp
      clear hi hwi hE hS hfew
      go_wp2_with fail
      go_ret
      exact ⟨by rw [HE.out]; rfl, by rw [HS.out]; exact H.out.same (F0.out.trans F1.out (fun _ _ h => h))⟩
    · obtain ⟨sv, h1, h2, h3⟩ := Hr1.out.ex
      obtain ⟨sa, sc, ev⟩ := wts_slice h2
      have c0 := (cell_of h1 0).trans (show _ = some sv from rfl)
      rw [ev] at c0
      obtain ⟨n, hn⟩ : ∃ n, n = S.length := ⟨_, rfl⟩
      rw [← hn] at c0 hfew
      have Hn := Lib.hid hn; have Hno := Lib.hid hno
      clear h1 h2 h3 ev hn hno
      by_cases hfl : 1024 ≤ n
      · have hE : joinE S a b c d = 6 := by unfold joinE; rw [if_neg (by rw [Hm.out]; simp), if_neg (by rintro ⟨x, hx, e⟩; exact Hno.out x hx e), if_pos (by have := Hn.out; omega)]
        have hS : joinS S a b c d = S := by unfold joinS; rw [if_neg (by rw [hE]; decide)]
        have HE := Lib.hid hE; have HS := Lib.hid hS
        have b2 : decide ((1024 : Int) ≤ (n : Int)) = true := by simp; omega
        have b3 : decide (1024 ≤ n) = true := by simpa using hfl
        clear hE hS hfew hfl
        go_wp2_with fail
        go_ret
        exact ⟨by rw [HE.out]; rfl, by rw [HS.out]; exact H.out.same (F0.out.trans F1.out (fun _ _ h => h))⟩
      · have hE : joinE S a b c d = 0 := by unfold joinE; rw [if_neg (by rw [Hm.out]; simp), if_neg (by rintro ⟨x, hx, e⟩; exact Hno.out x hx e), if_neg (by have := Hn.out; omega)]
        have hS : joinS S a b c d = insW (wtN a b c d) S := by unfold joinS; rw [if_pos hE]
        have HE := Lib.hid hE; have HS := Lib.hid hS
        have b2 : decide ((1024 : Int) ≤ (n : Int)) = false := by simp; omega
        have b3 : decide (1024 ≤ n) = false := by simpa using hfl
        have hp := rput_ok Hr1.out (x := wtN a b c d) Ho.out (fun y hy => by rw [HWt.out.2]; exact Hno.out y hy) (by have := Hn.out; omega)
        rw [HWt.out.1] at hp
        have HP := Lib.hid hp
        clear hE hS hfew hfl hp
        go_wp2_with fail
        refine HP.out.mono ?_
        rintro e w3 ⟨rfl, G1, g1, g2, g3⟩
        have HQ := Lib.hid (show ∃ G', RfAt G' rb (insW (wtN a b c d) S) w3 ∧ Fr G w w3 ∧ Grew w G G' from
          ⟨G1, g1, ((F0.out.trans F1.out (fun _ _ h => h)).mono (fun _ _ h => h.elim) : Fr G w _).trans g2 (fun _ _ h => h), fun x hx => (g3 x hx).imp (fun h => h) (fun h => Nat.le_trans (F0.out.trans F1.out (fun _ _ h => h)).size h)⟩)
        clear g1 g2 g3 c0 x0 x1 x2 x3
        go_wp2_with fail
        go_ret
        exact ⟨by rw [HE.out]; rfl, by rw [HS.out]; exact HQ.out⟩
set_option maxRecDepth 100000 in
set_option maxHeartbeats 1000000 in
theorem rleave_ok (h : RfAt G rb S w) (ho : Ord S) (hl : Lone S) (who : Int) :
    Calls Try.prog 36 #[.pointer (some ⟨rb, 0, none⟩), .int .u32 who] w fun e w' => e = .returned (.int .i64 (leaveE S who)) ∧ ∃ G', RfAt G' rb (outW who S) w' ∧ Fr G w w' ∧ Grew w G G' := by
  have H := Lib.hid h; have Ho := Lib.hid ho; have Hl := Lib.hid hl
  clear h ho hl
  go_enter Try.func36, Try.ntmps36
  go_wp2_with fail
  refine (rplace_ok H.out who).mono ?_
  rintro e w2 ⟨hp, rfl⟩
  rcases hp with ⟨i, hi, hwi, rfl⟩ | ⟨hno, rfl⟩
  · have hE : leaveE S who = 0 := if_pos ⟨_, getD_mem hi, hwi⟩
    have HE := Lib.hid hE
    have HO := Lib.hid (rout_ok H.out Ho.out Hl.out hi)
    rw [hwi] at HO
    have b1 : decide ((i : Int) < 0) = false := by simp
    clear hi hwi hE
    go_wp2_with fail
    refine HO.out.mono ?_
    rintro e w3 ⟨rfl, hq⟩
    have HQ := Lib.hid hq
    clear hq
    go_wp2_with fail
    go_ret
    exact ⟨by rw [HE.out]; rfl, HQ.out⟩
  · have hE : leaveE S who = 171 := if_neg (by rintro ⟨x, hx, e⟩; exact hno x hx e)
    have hS : outW who S = S := outW_none (by rintro ⟨x, hx, e⟩; exact hno x hx e)
    have HE := Lib.hid hE; have HS := Lib.hid hS
    clear hno hE hS
    go_wp2_with fail
    go_ret
    exact ⟨by rw [HE.out]; rfl, by rw [HS.out]; exact H.out.same (Fr.refl _ _)⟩
set_option maxRecDepth 100000 in
set_option maxHeartbeats 2000000 in
theorem rraise_ok (h : RfAt G rb S w) (ho : Ord S) (hl : Lone S) (hok : ∀ x ∈ S, okW x) (who t : Int) :
    Calls Try.prog 38 #[.pointer (some ⟨rb, 0, none⟩), .int .u32 who, .int .i64 t] w fun e w' => e = .returned (.int .i64 (raiseE S who t)) ∧ ∃ G', RfAt G' rb (raiseS S who t) w' ∧ Fr G w w' ∧ Grew w G G' := by
  have H := Lib.hid h; have Ho := Lib.hid ho; have Hl := Lib.hid hl; have Hok := Lib.hid hok
  clear h ho hl hok
  by_cases hbad : t < 0 ∨ 9 < t
  · have hE : raiseE S who t = 2 := if_pos hbad
    have hS : raiseS S who t = S := if_pos hbad
    rw [hE, hS]
    clear hE hS
    by_cases h0 : t < 0
    · have b1 : decide (t < 0) = true := by simpa using h0
      clear hbad h0
      go_enter Try.func38, Try.ntmps38
      go_wp2_with fail
      go_ret
      exact ⟨rfl, H.out.same (Fr.refl _ _)⟩
    · have b1 : decide (t < 0) = false := by simpa using h0
      have b2 : decide (9 < t) = true := by simp; omega
      clear hbad h0
      go_enter Try.func38, Try.ntmps38
      go_wp2_with fail
      go_ret
      exact ⟨rfl, H.out.same (Fr.refl _ _)⟩
  · have b1 : decide (t < 0) = false := by simp; omega
    have b2 : decide (9 < t) = false := by simp; omega
    have Hbad := Lib.hid hbad
    clear hbad
    go_enter Try.func38, Try.ntmps38
    go_wp2_with fail
    refine (rplace_ok H.out who).mono ?_
    rintro e w2 ⟨hp, rfl⟩
    rcases hp with ⟨i, hi, hwi, rfl⟩ | ⟨hno, rfl⟩
    · obtain ⟨x, hx⟩ : ∃ x, x = S.getD i 0 := ⟨_, rfl⟩
      have hxm : x ∈ S := by rw [hx]; exact getD_mem hi
      rw [← hx] at hwi
      have hE : raiseE S who t = 0 := by unfold raiseE; rw [if_neg Hbad.out]; exact if_pos ⟨x, hxm, hwi⟩
      have hS : raiseS S who t = insW (tierW x t) (outW who S) := by rw [← hwi]; exact raiseS_there Hl.out hxm Hbad.out
      have HE := Lib.hid hE; have HS := Lib.hid hS
      have ht := tierW_ok (Hok.out x hxm) (t := t) (by have := Hbad.out; omega) (by have := Hbad.out; omega)
      have HO := Lib.hid (rout_ok H.out Ho.out Hl.out hi)
      rw [← hx, hwi] at HO
      have b3 : decide ((i : Int) < 0) = false := by simp
      have hlt : (outW who S).length < 1024 := by
        have h1 := (outW_perm Hl.out hxm).length_eq
        rw [hwi] at h1; simp at h1
        have := H.out.few; omega
      have Ht := Lib.hid ht; have Hwi := Lib.hid hwi; have Hlt := Lib.hid hlt
      clear hi hx hxm hwi hE hS ht hlt
      go_wp2_with fail
      refine HO.out.mono ?_
      rintro e w3 ⟨rfl, G1, g1, g2, g3⟩
      obtain ⟨W4, hW4⟩ : ∃ W, W = w3.alloc (.cells #[.int .u32 (wW x), .int .i64 (wS x), .int .i64 (wT x), .int .i64 (wC x)] 32) := ⟨_, rfl⟩
      obtain ⟨z, hz⟩ : ∃ z, z = w3.heap.size := ⟨_, rfl⟩
      have f4 : Fr (fun _ => False) w3 W4 := by rw [hW4]; exact Fr.alloc (Fr.refl _ _) _
      have hg : W4.heap[z]? = some (.cells #[.int .u32 (wW x), .int .i64 (wS x), .int .i64 (wT x), .int .i64 (wC x)] 32 (0, 0)) := by rw [hW4, hz]; exact heap_alloc_at _ _
      have hg5 := setCell_blk (o := 2) hg (.int .i64 t)
      have x2 := (cell_of hg 2).trans (show _ = some (Value.int .i64 (wT x)) from rfl)
      have y2 := free_of hg 2
      obtain ⟨W5, hW5⟩ : ∃ W, W = W4.setCell ⟨z, 2, none⟩ (.int .i64 t) := ⟨_, rfl⟩
      rw [← hW5] at hg5
      have f5 : Fr (fun _ => False) w3 W5 := by rw [hW5]; exact f4.setCell (p := ⟨z, 2, none⟩) (fun e => by simp at e; omega) _
      have hp := rput_ok (g1.fr f5 (fun _ _ h => h)) (x := tierW x t) (outW_ord Ho.out) (fun y hy => by rw [Ht.out.2.1, Hwi.out]; exact outW_ne y hy) Hlt.out
      have hv : wtV (tierW x t) = .agg #[.int .u32 (wW x), .int .i64 (wS x), .int .i64 t, .int .i64 (wC x)] := by unfold wtV; rw [Ht.out.2.1, Ht.out.2.2.1, Ht.out.2.2.2.1, Ht.out.2.2.2.2]
      rw [hv] at hp
      have HP := Lib.hid hp; have G1 := Lib.hid g1; have G2 := Lib.hid g2; have G3 := Lib.hid g3; have F5 := Lib.hid f5
      have v0 := (cell_of hg5 0).trans (show _ = some (Value.int .u32 (wW x)) from rfl)
      have v1 := (cell_of hg5 1).trans (show _ = some (Value.int .i64 (wS x)) from rfl)
      have v2 := (cell_of hg5 2).trans (show _ = some (Value.int .i64 t) from rfl)
      have v3 := (cell_of hg5 3).trans (show _ = some (Value.int .i64 (wC x)) from rfl)
      clear g1 g2 g3 f4 hg hg5 f5 hp hv
      go_upto_region 7 with fail
      rw [← hW4, ← hz]
      clear hW4 hz
      go_upto_region 8 with fail
      rw [← hW5]
      clear hW5 x2 y2
      go_wp2_with fail
      refine HP.out.mono ?_
      rintro e w6 ⟨rfl, hq⟩
      have HQ := Lib.hid (show ∃ G', RfAt G' rb (insW (tierW x t) (outW who S)) w6 ∧ Fr G w w6 ∧ Grew w G G' from by
        obtain ⟨G6, r6, f6, k6⟩ := hq
        refine ⟨G6, r6, (G2.out.trans F5.out (fun _ _ h => h.elim)).trans f6 (fun y hy e => ?_), ?_⟩
        · rcases G3.out y e with h | h
          · exact h
          · omega
        · intro y hy
          rcases k6 y hy with h | h
          · exact G3.out y h
          · have := G2.out.size; have := F5.out.size; right; omega)
      clear hq v0 v1 v2 v3
      go_wp2_with fail
      go_ret
      exact ⟨by rw [HE.out]; rfl, by rw [HS.out]; exact HQ.out⟩
    · have hn : ¬ ∃ x ∈ S, wW x = who := by rintro ⟨x, hx, e⟩; exact hno x hx e
      have hE : raiseE S who t = 171 := by unfold raiseE; rw [if_neg Hbad.out]; exact if_neg hn
      have hS : raiseS S who t = S := raiseS_none hn
      have HE := Lib.hid hE; have HS := Lib.hid hS
      clear hno hE hS hn
      go_wp2_with fail
      go_ret
      exact ⟨by rw [HE.out]; rfl, by rw [HS.out]; exact H.out.same (Fr.refl _ _)⟩
end
end Go.Proofs.Ytjfnaflbhmeokaa.Wt
namespace Go.Proofs.Ytjfnaflbhmeokaa.Wt
open Go.Shelf Go.RowKit
section
variable {G : Nat → Prop} {rb : Nat} {S : List Int} {w : World}
set_option maxRecDepth 100000 in
set_option maxHeartbeats 1000000 in
theorem rget_ok (h : RfAt G rb S w) (ho : Ord S) (who : Int) :
    Calls Try.prog 40 #[.pointer (some ⟨rb, 0, none⟩), .int .u32 who] w fun e w' => ((∃ x ∈ S, wW x = who ∧ e = .returned (.tuple #[wtV x, .int .i64 (placeW S x : Nat), .int .i64 0])) ∨ ((¬ ∃ x ∈ S, wW x = who) ∧ e = .returned (.tuple #[zeroW, .int .i64 0, .int .i64 171]))) ∧ Fr (fun _ => False) w w' := by
  obtain ⟨W, hW⟩ : ∃ W, W = w.alloc (.cells #[.int .u32 0, .int .i64 0, .int .i64 0, .int .i64 0] 32) := ⟨_, rfl⟩
  obtain ⟨z, hz⟩ : ∃ z, z = w.heap.size := ⟨_, rfl⟩
  have f0 : Fr (fun _ => False) w W := by rw [hW]; exact Fr.alloc (Fr.refl _ _) _
  have hg : W.heap[z]? = some (.cells #[.int .u32 0, .int .i64 0, .int .i64 0, .int .i64 0] 32 (0, 0)) := by rw [hW, hz]; exact heap_alloc_at _ _
  have h0 := h.fr f0 (fun _ _ h => h)
  have t0 := (cell_of hg 0).trans (show _ = some (Value.int .u32 0) from rfl)
  have t1 := (cell_of hg 1).trans (show _ = some (Value.int .i64 0) from rfl)
  have t2 := (cell_of hg 2).trans (show _ = some (Value.int .i64 0) from rfl)
  have t3 := (cell_of hg 3).trans (show _ = some (Value.int .i64 0) from rfl)
  have u0 := free_of hg 0; have u1 := free_of hg 1; have u2 := free_of hg 2; have u3 := free_of hg 3
  have key : ∀ x : Int, ∃ W', W' = (((W.setCell ⟨z, 0, none⟩ (.int .u32 (wW x))).setCell ⟨z, 1, none⟩ (.int .i64 (wS x))).setCell ⟨z, 2, none⟩ (.int .i64 (wT x))).setCell ⟨z, 3, none⟩ (.int .i64 (wC x)) ∧ W'.cell? ⟨z, 0, none⟩ = some (.int .u32 (wW x)) ∧ W'.cell? ⟨z, 1, none⟩ = some (.int .i64 (wS x)) ∧ W'.cell? ⟨z, 2, none⟩ = some (.int .i64 (wT x)) ∧ W'.cell? ⟨z, 3, none⟩ = some (.int .i64 (wC x)) ∧ Fr (fun _ => False) w W' := by
    intro x
    have hfin := setCell_blk (o := 3) (setCell_blk (o := 2) (setCell_blk (o := 1) (setCell_blk (o := 0) hg (.int .u32 (wW x))) (.int .i64 (wS x))) (.int .i64 (wT x))) (.int .i64 (wC x))
    have hz' : ∀ k, (⟨z, k, none⟩ : Addr).block < w.heap.size → False := fun k e => by simp at e; omega
    exact ⟨_, rfl, (cell_of hfin 0).trans rfl, (cell_of hfin 1).trans rfl, (cell_of hfin 2).trans rfl, (cell_of hfin 3).trans rfl,
      (((f0.setCell (p := ⟨z, 0, none⟩) (fun e => hz' _ e) _).setCell (p := ⟨z, 1, none⟩) (fun e => hz' _ e) _).setCell (p := ⟨z, 2, none⟩) (fun e => hz' _ e) _).setCell (p := ⟨z, 3, none⟩) (fun e => hz' _ e) _⟩
  have H0 := Lib.hid h0; have F0 := Lib.hid f0; have Ho := Lib.hid ho; have Key := Lib.hid key
  have hfew := h.few
  clear h f0 hg h0 ho key
  go_enter Try.func40, Try.ntmps40
  go_upto_region 1 with fail
  rw [← hW, ← hz]
  clear hW hz
  go_wp2_with fail
  refine (rplace_ok H0.out who).mono ?_
  rintro e w2 ⟨hp, rfl⟩
  rcases hp with ⟨i, hi, hwi, rfl⟩ | ⟨hno, rfl⟩
  · obtain ⟨x, hx⟩ : ∃ x, x = S.getD i 0 := ⟨_, rfl⟩
    have hxm : x ∈ S := by rw [hx]; exact getD_mem hi
    have hpl : placeW S x = i := by rw [hx, getD_get hi]; exact placeW_at Ho.out hi
    obtain ⟨sv, h1, h2, h3⟩ := H0.out.ex
    obtain ⟨g, c, ev, d0, d1, d2, d3⟩ := Wts.cells h2 hi
    have c0 := (cell_of h1 0).trans (show _ = some sv from rfl)
    obtain ⟨n, hn⟩ : ∃ n, n = S.length := ⟨_, rfl⟩
    rw [ev, ← hn] at c0
    rw [← hx] at d0 d1 d2 d3 hwi
    rw [← hn] at hi hfew
    obtain ⟨W', e', k0, k1, k2, k3, k4⟩ := Key.out x
    have K4 := Lib.hid k4
    rw [e'] at k0 k1 k2 k3 K4
    have hi' : (i : Int) < (n : Int) := by omega
    have b1 : decide ((i : Int) < 0) = false := by simp
    have HX := Lib.hid (show ∃ x ∈ S, wW x = who ∧ Ending.returned (.tuple #[wtV x, .int .i64 (i : Int), .int .i64 0]) = .returned (.tuple #[wtV x, .int .i64 (placeW S x : Nat), .int .i64 0]) from ⟨x, hxm, hwi, by rw [hpl]⟩)
    have HY := Lib.hid (show (∃ y ∈ S, wW y = who ∧ Ending.returned (.tuple #[wtV x, .int .i64 (i : Int), .int .i64 0]) = .returned (.tuple #[wtV y, .int .i64 (placeW S y : Nat), .int .i64 0])) from ⟨x, hxm, hwi, by rw [hpl]⟩)
    clear hi hwi hx hxm hpl h1 h2 h3 ev hn e' k4 HX
    go_wp2_with fail
    refine bodyPost_ret (v := .tuple #[wtV x, .int .i64 (i : Int), .int .i64 0]) ?_ rfl ⟨.inl HY.out, K4.out⟩
    simp [results, Try.results40, Try.f40, go_sem, k0, k1, k2, k3]
  · obtain ⟨W', e', k0, k1, k2, k3, k4⟩ := Key.out 0
    have K4 := Lib.hid k4
    rw [e'] at k0 k1 k2 k3 K4
    rw [wW_0, wS_0, wT_0, wC_0] at k0 k1 k2 k3 K4
    have HN := Lib.hid (show ¬ ∃ x ∈ S, wW x = who by rintro ⟨x, hx, e⟩; exact hno x hx e)
    clear hno e' k4
    go_wp2_with fail
    refine bodyPost_ret (v := .tuple #[zeroW, .int .i64 0, .int .i64 171]) ?_ rfl ⟨.inr ⟨HN.out, rfl⟩, K4.out⟩
    simp [results, Try.results40, Try.f40, go_sem, k0, k1, k2, k3]
theorem RfAt.laid2 (h : RfAt G rb S w) {w3 : World} (f : Fr (fun _ => False) w w3) {a : Option Addr} {n c : Nat} {T : List Int} (hT : Wts w3 (.slice a n c) T) (hf : T.length ≤ 1024) (hn : ∀ b, (Value.slice a n c).ownBlock = some b → w.heap.size ≤ b) :
    RfAt (fun b => b = rb ∨ (Value.slice a n c).ownBlock = some b) rb T (w3.setCell ⟨rb, 0, none⟩ (.slice a n c)) ∧ Fr G w (w3.setCell ⟨rb, 0, none⟩ (.slice a n c)) := by
  obtain ⟨sv, h1, h2, h3⟩ := h.ex
  have hrb := lt_of_block h1
  have fs : Fr (fun b => b = rb) w3 (w3.setCell ⟨rb, 0, none⟩ (.slice a n c)) := Fr.setCell (F := fun b => b = rb) (p := ⟨rb, 0, none⟩) (Fr.refl _ _) (fun _ => rfl) _
  refine ⟨⟨⟨_, setCell_blk (o := 0) (f.get h1 (fun h => h)) _, Row.fr hT fs (fun b hb e => by have := hn b hb; omega), fun b hb => ⟨.inr hb, fun e => by have := hn b hb; omega⟩⟩, .inl rfl, ?_, hf⟩, ?_⟩
  · rintro b (rfl | hb)
    · have := f.size; have := fs.size; omega
    · have := Row.lt hT hb; have := fs.size; omega
  · exact (f.mono (fun _ _ h => h.elim) : Fr G w w3).trans fs (fun b _ e => by rw [e]; exact h.gr)
/-- Where the document's Serve stands. -/
structure Srf (w : World) (S : List Int) (n : Int) (i : Nat) (s : Int) (vo vs : Value) (o y : List Int) (wr : World) : Prop where
  ro : Wts wr vo o
  ry : Wts wr vs y
  no : ∀ b, vo.ownBlock = some b → w.heap.size ≤ b
  ny : ∀ b, vs.ownBlock = some b → w.heap.size ≤ b
  ap : ∀ b, vo.ownBlock = some b → ¬ vs.ownBlock = some b
  e1 : o ++ (serveF s (S.drop i)).1 = (serveF n S).1
  e2 : y ++ (serveF s (S.drop i)).2 = (serveF n S).2
  ln : o.length + y.length = i
  fr : Fr (fun _ => False) w wr
theorem Srf.got {n : Int} {i : Nat} {s : Int} {vo vs : Value} {o y : List Int} {wr w2 : World} (h : Srf w S n i s vo vs o y wr) {x : Int} {r : List Int} (hx : S.drop i = x :: r) (hr : S.drop (i + 1) = r) (hs : wS x ≤ s) {v : Value}
    (h1 : Wts w2 v (o ++ [x])) (f : Fr (fun b => vo.ownBlock = some b) wr w2) (hv : ∀ b, v.ownBlock = some b → vo.ownBlock = some b ∨ wr.heap.size ≤ b) : Srf w S n (i + 1) (s - wS x) v vs (o ++ [x]) y w2 := by
  have e : serveF s (x :: r) = (x :: (serveF (s - wS x) r).1, (serveF (s - wS x) r).2) := by rw [serveF, if_pos hs]
  refine ⟨h1, Row.fr h.ry f (fun b hb e => h.ap b e hb), fun b hb => (hv b hb).elim (h.no b) (fun h' => Nat.le_trans h.fr.size h'), h.ny, fun b hb hb2 => ?_, ?_, ?_, by have := h.ln; simp; omega, h.fr.trans f (fun b hb e => by have := h.no b e; omega)⟩
  · rcases hv b hb with h' | h'
    · exact h.ap b h' hb2
    · have := Row.lt h.ry hb2; omega
  · have := h.e1; rw [hx, e] at this; rw [hr, ← this]; simp
  · have := h.e2; rw [hx, e] at this; rw [hr, ← this]
theorem Srf.stay {n : Int} {i : Nat} {s : Int} {vo vs : Value} {o y : List Int} {wr w2 : World} (h : Srf w S n i s vo vs o y wr) {x : Int} {r : List Int} (hx : S.drop i = x :: r) (hr : S.drop (i + 1) = r) (hs : ¬ wS x ≤ s) {v : Value}
    (h1 : Wts w2 v (y ++ [x])) (f : Fr (fun b => vs.ownBlock = some b) wr w2) (hv : ∀ b, v.ownBlock = some b → vs.ownBlock = some b ∨ wr.heap.size ≤ b) : Srf w S n (i + 1) s vo v o (y ++ [x]) w2 := by
  have e : serveF s (x :: r) = ((serveF s r).1, x :: (serveF s r).2) := by rw [serveF, if_neg hs]
  refine ⟨Row.fr h.ro f (fun b hb e => h.ap b hb e), h1, h.no, fun b hb => (hv b hb).elim (h.ny b) (fun h' => Nat.le_trans h.fr.size h'), fun b hb hb2 => ?_, ?_, ?_, by have := h.ln; simp; omega, h.fr.trans f (fun b hb e => by have := h.ny b e; omega)⟩
  · rcases hv b hb2 with h' | h'
    · exact h.ap b hb h'
    · have := Row.lt h.ro hb; omega
  · have := h.e1; rw [hx, e] at this; rw [hr, ← this]
  · have := h.e2; rw [hx, e] at this; rw [hr, ← this]; simp
set_option maxRecDepth 100000 in
theorem rserve_neg (h : RfAt G rb S w) {n : Int} (hn : n < 0) : Calls Try.prog 42 #[.pointer (some ⟨rb, 0, none⟩), .int .i64 n] w fun e w' => e = .returned (.tuple #[.slice none 0 0, .int .i64 2]) ∧ w = w' := by
  have b1 : decide (n < 0) = true := by simpa using hn
  clear hn h
  go_enter Try.func42, Try.ntmps42
  go_wp2_with fail
  go_ret2
  exact ⟨rfl, rfl⟩
set_option maxRecDepth 100000 in
set_option maxHeartbeats 4000000 in
theorem rserve_ok (h : RfAt G rb S w) (hok : ∀ x ∈ S, okW x) {n : Int} (hn : 0 ≤ n) (hn2 : n ≤ 9223372036854775807) :
    Calls Try.prog 42 #[.pointer (some ⟨rb, 0, none⟩), .int .i64 n] w fun e w' => ∃ v, e = .returned (.tuple #[v, .int .i64 0]) ∧ Wts w' v (serveF n S).1 ∧ (∀ b, v.ownBlock = some b → w.heap.size ≤ b) ∧ ∃ G', RfAt G' rb (serveF n S).2 w' ∧ Fr G w w' ∧ Grew w G G' ∧ ∀ b, v.ownBlock = some b → ¬ G' b := by
  have b1 : decide (n < 0) = false := by simpa using hn
  have hfew := h.few
  obtain ⟨m, hm⟩ : ∃ m, m = S.length := ⟨_, rfl⟩
  have hm6 : (m : Int) ≤ 1024 := by omega
  have H := Lib.hid h; have Hok := Lib.hid hok; have Hm := Lib.hid hm
  clear h hok hfew hm
  go_enter Try.func42, Try.ntmps42
  go_upto_block 0 with fail
  go_cut [1, 6, 7, 8] (fun _ s6 s7 _ wx => ∃ s o y, Srf w S n m s s6 s7 o y wx)
  case first =>
    go_wp2_with fail
    go_loopw [1, 6, 7, 8] (fun s1 s6 s7 s8 wr => ∃ (i : Nat) (s : Int) (o y : List Int), s8 = .int .i64 i ∧ i ≤ m ∧ s1 = .int .i64 s ∧ s ≤ 9223372036854775807 ∧ Srf w S n i s s6 s7 o y wr) (fun _ _ _ s8 _ => m - (intOf s8).toNat)
    case atStart => exact ⟨0, n, [], [], rfl, Nat.zero_le _, rfl, hn2, ⟨World.ownsRow_nil _ _ _ _, World.ownsRow_nil _ _ _ _, by simp [Value.ownBlock], by simp [Value.ownBlock], by simp [Value.ownBlock], by simp, by simp, rfl, Fr.refl _ _⟩⟩
    case round =>
      obtain ⟨i, s, o, y, rfl, hi, rfl, hs2, hS⟩ := hrel
      obtain ⟨sv, h1, h2, h3⟩ := (H.out.fr hS.fr (fun _ _ h => h)).ex
      obtain ⟨sa, sc, ev⟩ := wts_slice h2
      have c0 := (cell_of h1 0).trans (show _ = some sv from rfl)
      rw [ev, ← Hm.out] at c0
      have HS := Lib.hid hS
      by_cases hlt : i < m
      · have hlt' : (i : Int) < (m : Int) := by omega
        have i0 : (0 : Int) ≤ (i : Int) := by omega
        have hil : i < S.length := by have := Hm.out; omega
        obtain ⟨g, cap, e, d0, d1, d2, d3⟩ := Wts.cells h2 hil
        rw [ev] at e
        obtain ⟨rfl, e9, rfl⟩ := Value.slice.inj e
        clear e9 e
        obtain ⟨x, hx⟩ : ∃ x, x = S.getD i 0 := ⟨_, rfl⟩
        rw [← hx] at d0 d1 d2 d3
        have hdr : S.drop i = x :: S.drop (i + 1) := by rw [List.drop_eq_getElem_cons hil, hx, getD_get hil]
        have hx16 := Hok.out x (by rw [hx]; exact getD_mem hil)
        have hS16 : 1 ≤ wS x ∧ wS x ≤ 16 := ⟨hx16.2.2.1, hx16.2.2.2.1⟩
        obtain ⟨t, ht⟩ : ∃ t, t = wS x := ⟨_, rfl⟩
        have hln : o.length ≤ 1000 + 24 ∧ y.length ≤ 1024 := by have := hS.ln; omega
        have Hlt := Lib.hid hlt; have Hdr := Lib.hid hdr; have Ht := Lib.hid ht; have Hln := Lib.hid hln; have H2 := Lib.hid hs2
        rw [← ht] at d1 hS16
        clear hlt hil h1 h2 h3 ev hx hdr hx16 ht hln hi hS
        by_cases hst : t ≤ s
        · have b2 : decide (t ≤ s) = true := by simpa using hst
          obtain ⟨sm, hsm⟩ : ∃ sm, sm = s - t := ⟨_, rfl⟩
          have e1 : IntKind.i64.wrap (s - t) = sm := by rw [IntKind.wrap_i64, hsm]; omega
          have e2 : wrap64 (s - t) = sm := by rw [hsm]; unfold wrap64; omega
          obtain ⟨oa, on, oc, eo⟩ : ∃ a n c, u6 = .slice a n c := by
            obtain ⟨a, c, e⟩ := wts_slice HS.out.ro; exact ⟨a, _, c, e⟩
          obtain ⟨va, vc, w2, hrun, r1, r2, r3⟩ := Wts.app HS.out.ro (by have := Hln.out; omega) x
          have HN := Lib.hid (HS.out.got Hdr.out rfl (by rw [← Ht.out]; exact hst) r1 r2 r3)
          rw [← Ht.out, ← hsm] at HN
          subst eo
          rw [← Ht.out] at hrun
          have Hrun := Lib.hid hrun
          have hsm2 : sm ≤ 9223372036854775807 := by omega
          have Hsm2 := Lib.hid hsm2
          clear hrun r1 r2 r3 hst hs2 hsm hsm2
          go_wp2_with (at_builtin; refine wpList_append_run rfl _ _ _ rfl rfl rfl Hrun.out ?_)
          go_roundw
          case rel => exact ⟨i + 1, sm, _, _, by first | (simp; done) | go_num, Hlt.out, rfl, Hsm2.out, HN.out⟩
          case measure => have := Hlt.out; simp [intOf]; omega
        · have b2 : decide (t ≤ s) = false := by simpa using hst
          obtain ⟨oa, on, oc, eo⟩ : ∃ a n c, u7 = .slice a n c := by
            obtain ⟨a, c, e⟩ := wts_slice HS.out.ry; exact ⟨a, _, c, e⟩
          obtain ⟨va, vc, w2, hrun, r1, r2, r3⟩ := Wts.app HS.out.ry (by have := Hln.out; omega) x
          have HN := Lib.hid (HS.out.stay Hdr.out rfl (by rw [← Ht.out]; exact hst) r1 r2 r3)
          subst eo
          rw [← Ht.out] at hrun
          have Hrun := Lib.hid hrun
          clear hrun r1 r2 r3 hst hs2
          go_wp2_with (at_builtin; refine wpList_append_run rfl _ _ _ rfl rfl rfl Hrun.out ?_)
          go_roundw
          case rel => exact ⟨i + 1, s, _, _, by first | (simp; done) | go_num, Hlt.out, rfl, H2.out, HN.out⟩
          case measure => have := Hlt.out; simp [intOf]; omega
      · obtain rfl : i = m := by omega
        clear hlt h1 h2 h3 ev hi hS
        go_wp2_with fail
        go_meet
        exact ⟨s, o, y, HS.out⟩
  case rest =>
  obtain ⟨s, o, y, hS⟩ := hcut
  have hd : S.drop m = [] := by rw [Hm.out]; exact List.drop_length
  have q1 := hS.e1; have q2 := hS.e2
  rw [hd] at q1 q2
  simp only [serveF, List.append_nil] at q1 q2
  subst q2
  obtain ⟨a, c, ev⟩ := wts_slice hS.ry
  have hy := hS.ry
  have hny := hS.ny
  rw [ev] at hy hny
  obtain ⟨g1, g2⟩ := H.out.laid2 hS.fr hy (by have := hS.ln; have := H.out.few; have := Hm.out; omega) hny
  have hrb := H.out.ex
  obtain ⟨sv, h1, h2, h3⟩ := hrb
  have hrw := lt_of_block h1
  have c0 := (cell_of (hS.fr.get h1 (fun h => h)) 0).trans (show _ = some sv from rfl)
  have y0 := free_of (hS.fr.get h1 (fun h => h)) 0
  have fs : Fr (fun b => b = rb) wc (wc.setCell ⟨rb, 0, none⟩ (.slice a (serveF n S).2.length c)) := Fr.setCell (F := fun b => b = rb) (p := ⟨rb, 0, none⟩) (Fr.refl _ _) (fun _ => rfl) _
  have hap := hS.ap
  rw [ev] at hap
  have HE := Lib.hid (show Wts (wc.setCell ⟨rb, 0, none⟩ (.slice a (serveF n S).2.length c)) u6 (serveF n S).1 ∧ (∀ b, u6.ownBlock = some b → w.heap.size ≤ b) ∧ ∃ G', RfAt G' rb (serveF n S).2 (wc.setCell ⟨rb, 0, none⟩ (.slice a (serveF n S).2.length c)) ∧ Fr G w (wc.setCell ⟨rb, 0, none⟩ (.slice a (serveF n S).2.length c)) ∧ Grew w G G' ∧ ∀ b, u6.ownBlock = some b → ¬ G' b from by
    refine ⟨?_, hS.no, _, g1, g2, ?_, ?_⟩
    · rw [← q1]; exact Row.fr hS.ro fs (fun b hb e => by have := hS.no b hb; omega)
    · rintro b (rfl | hb)
      · exact .inl H.out.gr
      · exact .inr (hny b hb)
    · rintro b hb (rfl | hb2)
      · have := hS.no _ hb; omega
      · exact hap b hb hb2)
  subst ev
  obtain ⟨oa, on, oc, eo⟩ : ∃ a n c, u6 = .slice a n c := by
    obtain ⟨a, c, e⟩ := wts_slice hS.ro; exact ⟨a, _, c, e⟩
  subst eo
  clear hS hd q1 hy hny g1 g2 h1 h2 h3 hrw fs hap
  go_wp2_with fail
  go_ret2
  exact ⟨_, rfl, HE.out⟩
end
end Go.Proofs.Ytjfnaflbhmeokaa.Wt
