/- A list of waiting parties: may, Join, Leave, Raise. No condition. -/
import Derived.Test.YtjfnaflbhmeokaaWtM
import Derived.StillTailTactics
namespace Go.Proofs.Ytjfnaflbhmeokaa.Wt
open Go.RowKit
/-- May these four numbers be a party? -/
def mayB (a b c d : Int) : Bool := (a != 0) && (decide (1 ≤ b) && (decide (b ≤ 16) && (decide (0 ≤ c) && (decide (c ≤ 9) && (decide (0 ≤ d) && decide (d ≤ 1099511627776))))))
theorem mayB_true {a b c d : Int} (h0 : 0 ≤ a) : mayB a b c d = true ↔ 1 ≤ a ∧ 1 ≤ b ∧ b ≤ 16 ∧ 0 ≤ c ∧ c ≤ 9 ∧ 0 ≤ d ∧ d ≤ 1099511627776 := by
  unfold mayB
  simp only [Bool.and_eq_true, bne_iff_ne, decide_eq_true_eq]
  omega
abbrev rawW (a b c d : Int) : Value := .agg #[.int .u32 a, .int .i64 b, .int .i64 c, .int .i64 d]
set_option maxRecDepth 100000 in
theorem may_ok (a b c d : Int) (w : World) : Calls Try.prog 69 #[rawW a b c d] w fun e w' => e = .returned (.bool (mayB a b c d)) ∧ Fr (fun _ => False) w w' := by
  have f0 : Fr (fun _ => False) w (w.alloc (.cells #[.int .u32 a, .int .i64 b, .int .i64 c, .int .i64 d] 32)) := Fr.alloc (Fr.refl _ _) _
  have gz : (w.alloc (.cells #[.int .u32 a, .int .i64 b, .int .i64 c, .int .i64 d] 32)).heap[w.heap.size]? = some (.cells #[.int .u32 a, .int .i64 b, .int .i64 c, .int .i64 d] 32 (0, 0)) := heap_alloc_at _ _
  have x0 := (cell_of gz 0).trans (show _ = some (Value.int .u32 a) from rfl)
  have x1 := (cell_of gz 1).trans (show _ = some (Value.int .i64 b) from rfl)
  have x2 := (cell_of gz 2).trans (show _ = some (Value.int .i64 c) from rfl)
  have x3 := (cell_of gz 3).trans (show _ = some (Value.int .i64 d) from rfl)
  have F0 := Lib.hid f0
  clear gz f0
  obtain ⟨q0, h0⟩ : ∃ q, (a != 0) = q := ⟨_, rfl⟩
  obtain ⟨q1, h1⟩ : ∃ q, decide (1 ≤ b) = q := ⟨_, rfl⟩
  obtain ⟨q2, h2⟩ : ∃ q, decide (b ≤ 16) = q := ⟨_, rfl⟩
  obtain ⟨q3, h3⟩ : ∃ q, decide (0 ≤ c) = q := ⟨_, rfl⟩
  obtain ⟨q4, h4⟩ : ∃ q, decide (c ≤ 9) = q := ⟨_, rfl⟩
  obtain ⟨q5, h5⟩ : ∃ q, decide (0 ≤ d) = q := ⟨_, rfl⟩
  obtain ⟨q6, h6⟩ : ∃ q, decide (d ≤ 1099511627776) = q := ⟨_, rfl⟩
  have hm : mayB a b c d = (q0 && (q1 && (q2 && (q3 && (q4 && (q5 && q6)))))) := by unfold mayB; rw [h0, h1, h2, h3, h4, h5, h6]
  rw [hm]
  clear hm
  cases q0 with
  | false =>
    clear h1
    clear h2
    clear h3
    clear h4
    clear h5
    clear h6
    go_enter Try.func69, Try.ntmps69
    go_upto_region 1 with fail
    generalize (w.alloc (.cells #[.int .u32 a, .int .i64 b, .int .i64 c, .int .i64 d] 32)) = W at *
    go_wp2_with fail
    go_ret
    exact ⟨rfl, F0.out⟩
  | true =>
    cases q1 with
    | false =>
      clear h2
      clear h3
      clear h4
      clear h5
      clear h6
      go_enter Try.func69, Try.ntmps69
      go_upto_region 1 with fail
      generalize (w.alloc (.cells #[.int .u32 a, .int .i64 b, .int .i64 c, .int .i64 d] 32)) = W at *
      go_wp2_with fail
      go_ret
      exact ⟨rfl, F0.out⟩
    | true =>
      cases q2 with
      | false =>
        clear h3
        clear h4
        clear h5
        clear h6
        go_enter Try.func69, Try.ntmps69
        go_upto_region 1 with fail
        generalize (w.alloc (.cells #[.int .u32 a, .int .i64 b, .int .i64 c, .int .i64 d] 32)) = W at *
        go_wp2_with fail
        go_ret
        exact ⟨rfl, F0.out⟩
      | true =>
        cases q3 with
        | false =>
          clear h4
          clear h5
          clear h6
          go_enter Try.func69, Try.ntmps69
          go_upto_region 1 with fail
          generalize (w.alloc (.cells #[.int .u32 a, .int .i64 b, .int .i64 c, .int .i64 d] 32)) = W at *
          go_wp2_with fail
          go_ret
          exact ⟨rfl, F0.out⟩
        | true =>
          cases q4 with
          | false =>
            clear h5
            clear h6
            go_enter Try.func69, Try.ntmps69
            go_upto_region 1 with fail
            generalize (w.alloc (.cells #[.int .u32 a, .int .i64 b, .int .i64 c, .int .i64 d] 32)) = W at *
            go_wp2_with fail
            go_ret
            exact ⟨rfl, F0.out⟩
          | true =>
            cases q5 with
            | false =>
              clear h6
              go_enter Try.func69, Try.ntmps69
              go_upto_region 1 with fail
              generalize (w.alloc (.cells #[.int .u32 a, .int .i64 b, .int .i64 c, .int .i64 d] 32)) = W at *
              go_wp2_with fail
              go_ret
              exact ⟨rfl, F0.out⟩
            | true =>
              cases q6 with
              | false =>
                go_enter Try.func69, Try.ntmps69
                go_upto_region 1 with fail
                generalize (w.alloc (.cells #[.int .u32 a, .int .i64 b, .int .i64 c, .int .i64 d] 32)) = W at *
                go_wp2_with fail
                go_ret
                exact ⟨rfl, F0.out⟩
              | true =>
                go_enter Try.func69, Try.ntmps69
                go_upto_region 1 with fail
                generalize (w.alloc (.cells #[.int .u32 a, .int .i64 b, .int .i64 c, .int .i64 d] 32)) = W at *
                go_wp2_with fail
                go_ret
                exact ⟨rfl, F0.out⟩
/-- What Join answers. -/
noncomputable def joinE (S : List Int) (a b c d : Int) : Int := if mayB a b c d = false then 2 else if ∃ x ∈ S, wW x = a then 7 else if S.length = 1024 then 6 else 0
noncomputable def joinS (S : List Int) (a b c d : Int) : List Int := if joinE S a b c d = 0 then insW (wtN a b c d) S else S
section
variable {G : Nat → Prop} {bl : Nat} {L : List It} {S : List Int} {next : Int} {f : Int → Option Int} {w : World}
theorem AtOf.some {f : Int → Option Int} {L : List It} {S : List Int} (h : AtOf f L) (hp : (L.map Prod.fst).Perm S) {x : Int} (hx : x ∈ S) : ∃ i, i < L.length ∧ (itAt L i).1 = x ∧ f (wW x) = some (itAt L i).2 := by
  obtain ⟨y, hy, rfl⟩ := List.mem_map.1 (hp.mem_iff.2 hx)
  obtain ⟨i, hi, rfl⟩ := List.getElem_of_mem hy
  exact ⟨i, hi, by rw [itAt_get hi], by rw [itAt_get hi]; exact h.here _ (List.getElem_mem hi)⟩
theorem AtOf.none {f : Int → Option Int} {L : List It} {S : List Int} (h : AtOf f L) (hp : (L.map Prod.fst).Perm S) {who : Int} (hx : ¬ ∃ x ∈ S, wW x = who) : f who = none :=
  h.gone who fun y hy e => hx ⟨y.1, hp.mem_iff.1 (List.mem_map.2 ⟨y, hy, rfl⟩), e⟩
/-- One more, behind push. -/
theorem StAt.pushed (h : AtOf f L) (hp : (L.map Prod.fst).Perm S) (ho : Ord S) {x : Int} (hn : ¬ ∃ y ∈ S, wW y = wW x) {G' : Nat → Prop} {L' : List It} {n' : Int} {w' : World}
    (h1 : LstF G' bl L' n' (fun j => if j = wW x then some next else f j) w') (h2 : L'.Perm ((x, next) :: L)) : StAt G' bl (insW x S) n' w' := by
  have hne : ∀ y ∈ L, wW y.1 ≠ wW x := fun y hy e => hn ⟨y.1, hp.mem_iff.1 (List.mem_map.2 ⟨y, hy, rfl⟩), e⟩
  refine ⟨L', _, h1, ⟨?_, ?_⟩, ?_, insW_ord ho (fun y hy e => hn ⟨y, hy, e⟩)⟩
  · intro y hy
    rcases List.mem_cons.1 (h2.mem_iff.1 hy) with rfl | hy
    · simp
    · rw [if_neg (hne y hy)]; exact h.here y hy
  · intro who hw
    have e1 : who ≠ wW x := fun e => hw (x, next) (h2.mem_iff.2 (by simp)) e.symm
    rw [if_neg e1]
    exact h.gone who fun y hy => hw y (h2.mem_iff.2 (by simp [hy]))
  · exact ((h2.map Prod.fst).trans (hp.cons x)).trans (insW_perm x S).symm
set_option maxRecDepth 100000 in
set_option maxHeartbeats 2000000 in
theorem join_ok (h : StAt G bl S next w) {a b c d : Int} (ha : 0 ≤ a) (ha2 : a < 4294967296) (hx : next < 1000000000) :
    Calls Try.prog 33 #[.pointer (some ⟨bl, 0, none⟩), rawW a b c d] w fun e w' => e = .returned (.int .i64 (joinE S a b c d)) ∧
      ∃ G' n', StAt G' bl (joinS S a b c d) n' w' ∧ n' ≤ next + 1 ∧ Fr G w w' ∧ Grew w G G' := by
  have f0 : Fr (fun _ => False) w (w.alloc (.cells #[.int .u32 a, .int .i64 b, .int .i64 c, .int .i64 d] 32)) := Fr.alloc (Fr.refl _ _) _
  have gz : (w.alloc (.cells #[.int .u32 a, .int .i64 b, .int .i64 c, .int .i64 d] 32)).heap[w.heap.size]? = some (.cells #[.int .u32 a, .int .i64 b, .int .i64 c, .int .i64 d] 32 (0, 0)) := heap_alloc_at _ _
  obtain ⟨bx, hbx⟩ : ∃ b, b = w.heap.size := ⟨_, rfl⟩
  have h0 := h.keep f0
  have hbG : ¬ G bx := fun hg => by have := h.bd _ hg; omega
  have F0 := Lib.hid f0; have HW := Lib.hid hbx; have Hx := Lib.hid hx; have Ha := Lib.hid ha; have Ha2 := Lib.hid ha2; have HbG := Lib.hid hbG
  rw [← hbx] at gz
  clear h f0 hx ha ha2 hbG
  go_enter Try.func33, Try.ntmps33
  go_upto_block 0 with fail
  rw [← hbx]
  generalize (w.alloc (.cells #[.int .u32 a, .int .i64 b, .int .i64 c, .int .i64 d] 32)) = W at *
  clear hbx
  obtain ⟨L, f, h1, h2, h3, h4⟩ := h0
  obtain ⟨bh, bm, GH, g1, g2, g3, g4, g5⟩ := id h1.ex
  have c0 := (cell_of g1 0).trans (show _ = some (Value.pointer (some ⟨bh, 0, none⟩)) from rfl)
  have c1 := (cell_of g1 1).trans (show _ = some (Value.map (some bm)) from rfl)
  have x0 := (cell_of gz 0).trans (show _ = some (Value.int .u32 a) from rfl)
  have x1 := (cell_of gz 1).trans (show _ = some (Value.int .i64 b) from rfl)
  have x2 := (cell_of gz 2).trans (show _ = some (Value.int .i64 c) from rfl)
  have x3 := (cell_of gz 3).trans (show _ = some (Value.int .i64 d) from rfl)
  have HM := Lib.hid (made_ok g1)
  have H1 := Lib.hid h1; have H2 := Lib.hid h2; have H3 := Lib.hid h3; have H4 := Lib.hid h4; have G1 := Lib.hid g1; have G2 := Lib.hid g2; have G3 := Lib.hid g3; have Gz := Lib.hid gz
  clear h1 h2 h3 h4 g1 g2 g3 g4 g5 gz
  go_wp2_with fail
  refine HM.out.mono ?_
  rintro e w1 ⟨rfl, rfl⟩
  go_wp2_with fail
  refine (may_ok a b c d _).mono ?_
  rintro e w1 ⟨rfl, f1⟩
  have F1 := Lib.hid f1
  have lbx := lt_of_block Gz.out; have lbl := lt_of_block G1.out
  replace c0 := (f1.cell lbl (fun h => h)).trans c0
  replace c1 := (f1.cell lbl (fun h => h)).trans c1
  replace x0 := (f1.cell lbx (fun h => h)).trans x0
  replace x1 := (f1.cell lbx (fun h => h)).trans x1
  replace x2 := (f1.cell lbx (fun h => h)).trans x2
  replace x3 := (f1.cell lbx (fun h => h)).trans x3
  have hm := UMap.fr G3.out f1 (fun h => h)
  have H1' := Lib.hid (H1.out.fr f1 (fun _ _ h => h))
  have hlk := run_lookup2U (P := Try.prog) Try.underlying80 Try.underlying30 (w := w1.drew) (UMap.fr hm (Fr.drew (Fr.refl (fun _ => False) _)) (fun h => h)) (Try.zeroValue3 _) a
  have HFF : Fr (fun _ => False) w w1 := F0.out.trans f1 (fun _ _ h => h)
  have Hff := Lib.hid HFF
  have stay : joinE S a b c d ≠ 0 → StAt G bl (joinS S a b c d) next w1 := fun hj => ⟨L, f, H1'.out, H2.out, by unfold joinS; rw [if_neg hj]; exact H3.out, by unfold joinS; rw [if_neg hj]; exact H4.out⟩
  have Stay := Lib.hid stay
  clear f1 hm HFF stay lbx lbl
  cases hmay : mayB a b c d with
  | false =>
    have hj : joinE S a b c d = 2 := by unfold joinE; rw [if_pos hmay]
    have Hj := Lib.hid hj
    clear hlk hj hmay
    go_wp2_with fail
    go_ret
    exact ⟨by rw [Hj.out]; rfl, G, next, Stay.out (by rw [Hj.out]; decide), by omega, Hff.out.mono (fun _ _ h => h.elim), Grew.refl _ _⟩
  | true =>
    have Hmay := Lib.hid hmay
    clear hmay
    go_upto_region 5 with fail
    by_cases hth : ∃ x ∈ S, wW x = a
    · have hj : joinE S a b c d = 7 := by unfold joinE; rw [if_neg (by rw [Hmay.out]; decide), if_pos hth]
      have Hj := Lib.hid hj
      obtain ⟨x, hxS, rfl⟩ := hth
      obtain ⟨i, hi, e1, e2⟩ := H2.out.some H3.out hxS
      rw [e2] at hlk
      simp only [Option.getD_some, Option.isSome_some] at hlk
      obtain ⟨hh, hhh⟩ : ∃ hh, hh = (itAt L i).2 := ⟨_, rfl⟩
      rw [← hhh] at hlk
      clear hj e1 e2 hhh hi hxS
      go_still (by kernel_rfl)
      go_wp2_with fail
      go_ret
      exact ⟨by rw [Hj.out]; rfl, G, next, (Stay.out (by rw [Hj.out]; decide)).fr (Fr.drew (Fr.refl (fun _ => False) _)) (fun _ _ h => h), by omega, (Hff.out.mono (fun _ _ h => h.elim)).drew, Grew.refl _ _⟩
    · have e2 := H2.out.none H3.out hth
      rw [e2] at hlk
      simp only [Option.getD_none, Option.isSome_none] at hlk
      have Hth := Lib.hid hth
      clear hth e2
      go_still (by kernel_rfl)
      change Exit.then _ _ Exit.normal _ w1.drew
      have hLS : L.length = S.length := by have := H3.out.length_eq; simpa using this
      have HLS := Lib.hid hLS
      have c0' : w1.drew.cell? ⟨bl, 0, none⟩ = _ := c0
      have x0' : w1.drew.cell? ⟨bx, 0, none⟩ = _ := x0
      have x1' : w1.drew.cell? ⟨bx, 1, none⟩ = _ := x1
      have x2' : w1.drew.cell? ⟨bx, 2, none⟩ = _ := x2
      have x3' : w1.drew.cell? ⟨bx, 3, none⟩ = _ := x3
      have h2' : LstF G bl L next f w1.drew := H1'.out.fr (Fr.drew (Fr.refl (fun _ => False) _)) (fun _ _ h => h)
      have f2' : Fr (fun _ => False) w w1.drew := Hff.out.drew
      have p2' : HpW GH bh L next w1.drew := HpW.fr (HpW.fr G2.out F1.out (fun _ _ h => h)) (Fr.drew (Fr.refl (fun _ => False) _)) (fun _ _ h => h)
      have s2' : joinE S a b c d ≠ 0 → StAt G bl (joinS S a b c d) next w1.drew := fun h => (Stay.out h).fr (Fr.drew (Fr.refl (fun _ => False) _)) (fun _ _ h => h)
      have Hff2 := Lib.hid f2'; have HL2 := Lib.hid h2'; have Stay2 := Lib.hid s2'; have HP2 := Lib.hid p2'
      clear p2' F1 c0 c1 x0 x1 x2 x3 hlk h2' f2' s2' H1' Hff Stay
      generalize w1.drew = w2 at *
      have Hlen := Lib.hid (len_ok less_ok HP2.out)
      by_cases hfull : L.length = 1024
      · have hj : joinE S a b c d = 6 := by unfold joinE; rw [if_neg (by rw [Hmay.out]; decide), if_neg Hth.out, if_pos (by omega)]
        have Hj := Lib.hid hj
        have hq : ((L.length : Int) == 1024) = true := by simp; omega
        clear hj hfull hLS
        go_wp2_with fail
        refine Hlen.out.mono ?_
        rintro e w3 ⟨rfl, rfl⟩
        go_wp2_with fail
        go_ret
        exact ⟨by rw [Hj.out]; rfl, G, next, Stay2.out (by rw [Hj.out]; decide), by omega, Hff2.out.mono (fun _ _ h => h.elim), Grew.refl _ _⟩
      · have hj : joinE S a b c d = 0 := by unfold joinE; rw [if_neg (by rw [Hmay.out]; decide), if_neg Hth.out, if_neg (by omega)]
        have Hj := Lib.hid hj
        have hq : ((L.length : Int) == 1024) = false := by simp; omega
        obtain ⟨m1, m2, m3, m4, m5, m6, m7⟩ := (mayB_true Ha.out).1 Hmay.out
        obtain ⟨ok, e1, e2, e3, e4⟩ := okW_n m1 Ha2.out m2 m3 m4 m5 m6 m7
        have HP := Lib.hid (push_ok HL2.out (x := wtN a b c d) ok (by have := HL2.out.few; omega) (by
          intro y hy e
          rw [e1] at e
          exact Hth.out ⟨y.1, H3.out.mem_iff.1 (List.mem_map.2 ⟨y, hy, rfl⟩), e⟩) Hx.out)
        have hv : wtV (wtN a b c d) = rawW a b c d := by unfold wtV rawW; rw [e1, e2, e3, e4]
        rw [hv] at HP
        have E1 := Lib.hid e1
        clear hj hfull hLS m1 m2 m3 m4 m5 m6 m7 ok e1 e2 e3 e4 hv
        go_wp2_with fail
        refine Hlen.out.mono ?_
        rintro e w3 ⟨rfl, rfl⟩
        go_wp2_with fail
        refine HP.out.mono ?_
        rintro e w4 ⟨rfl, G', L', k1, k2, k3, k4⟩
        have hS : StAt G' bl (joinS S a b c d) (next + 1) w4 := by
          unfold joinS; rw [if_pos Hj.out]
          exact StAt.pushed H2.out H3.out H4.out (by rw [E1.out]; exact Hth.out) k1 k2
        have HS := Lib.hid hS; have K3 := Lib.hid k3; have K4 := Lib.hid k4
        clear k1 k2 k3 k4 hS
        go_wp2_with fail
        go_ret
        exact ⟨by rw [Hj.out]; rfl, G', next + 1, HS.out, by omega, (Hff2.out.mono (fun _ _ h => h.elim)).trans K3.out (fun _ _ h => h), fun b hb => (K4.out b hb).imp id (fun h => Nat.le_trans Hff2.out.size h)⟩
end
end Go.Proofs.Ytjfnaflbhmeokaa.Wt
