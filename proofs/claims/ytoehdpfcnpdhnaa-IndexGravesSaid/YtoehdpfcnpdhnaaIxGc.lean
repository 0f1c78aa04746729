/- IndexGraves: the walk. No condition. -/
import Derived.Test.YtoehdpfcnpdhnaaIxGb
import Derived.Deep.Draws
namespace Go.Proofs.Ytoehdpfcnpdhnaa.Ix
open Go.RowKit
/-- An index of one's own, and the ids that are held beside it. -/
structure GrAt (w : World) (bh g N m : Nat) (v : Value) (H : List Nat) (L : List (Nat × Int)) (st : Nat) (w' : World) : Prop where
  ix : NewIx w w' bh g N m L st
  que : QueAt w' v H
  hold : Hold L H
  own : ∀ b, v.ownBlock = some b → w.heap.size ≤ b ∧ b ≠ bh ∧ b ≠ g
section gr
variable {w w1 w2 : World} {bh g N m st st' : Nat} {L L' : List (Nat × Int)} {v : Value} {H : List Nat}
theorem GrAt.fr (h : GrAt w bh g N m v H L st w1) (f : Fr (fun _ => False) w1 w2) : GrAt w bh g N m v H L st w2 :=
  ⟨h.ix.then (h.ix.at_.fr f (fun h => h) (fun h => h)) f (fun _ h => h.elim), h.que.fr f (fun _ _ h => h), h.hold, h.own⟩
theorem GrAt.step {H' : List Nat} (h : GrAt w bh g N m v H L st w1) (k : IxAt w2 bh g N m L' st') (f : Fr (fun b => b = bh ∨ b = g) w1 w2) (hh : Hold L' H') (hq : QueAt w1 v H → QueAt w1 v H') : GrAt w bh g N m v H' L' st' w2 :=
  ⟨h.ix.then k f (fun b hb => by rcases hb with e | e <;> simp [e]), (hq h.que).fr f (fun b hb e => by have := (h.own b hb).2; rcases e with e | e <;> simp [e] at this), hh, h.own⟩
theorem GrAt.few (h : GrAt w bh g N m v H L st w1) : H.length ≤ m ∧ H.length ≤ 4096 := by
  have := h.ix.at_.load; have := h.ix.at_.few; have := h.hold.len; omega
end gr
theorem GrAt.fr2 {w : World} {bh g N m : Nat} {v : Value} {H : List Nat} {L : List (Nat × Int)} {st : Nat} {w1 w2 : World} (h : GrAt w bh g N m v H L st w1) {F : Nat → Prop} (f : Fr F w1 w2) (h1 : ¬ F bh) (h2 : ¬ F g) (h3 : ∀ b, v.ownBlock = some b → ¬ F b) (h4 : ∀ b, F b → w.heap.size ≤ b) : GrAt w bh g N m v H L st w2 :=
  ⟨h.ix.then (h.ix.at_.fr f h1 h2) f (fun b hb => .inr (.inr (h4 b hb))), h.que.fr f h3, h.hold, h.own⟩
theorem told_at {w : World} {bh g N m st : Nat} {L : List (Nat × Int)} (h : IxAt w bh g N m L st) : Calls Try.prog 13 #[.pointer (some ⟨bh, 0, none⟩)] w (ToldOf w L) :=
  told_ok (by have := h.few; omega) h.ids (fun w2 f => all_ok (h.fr f (fun h => h) (fun h => h)))
theorem n_neg : ¬ (0 : Int) ≤ -1 ∧ decide ((0 : Int) ≤ -1) = false := ⟨by decide, by decide⟩
theorem same_limbs {w : World} {va vb : Value} {n : Nat} {A : List Nat} (ha : Row w 38 1 va n (A.map u64v)) (hb : Row w 38 1 vb n (A.map u64v)) (hn : n ≤ 8192) : Calls Try.prog 17 #[va, vb] w fun e w' => e = .returned (.bool true) ∧ Fr (fun _ => False) w w' := by
  refine (sameLimbs_ok ha hb (by omega) (by omega)).mono ?_
  rintro e w' ⟨rfl, f⟩
  exact ⟨by rw [decide_eq_true rfl], f⟩
theorem same_ints {w : World} {va vb : Value} {n : Nat} {A : List Int} (ha : Row w 3 1 va n (A.map i64v)) (hb : Row w 3 1 vb n (A.map i64v)) (hn : n ≤ 8192) : Calls Try.prog 18 #[va, vb] w fun e w' => e = .returned (.bool true) ∧ Fr (fun _ => False) w w' := by
  refine (sameInts_ok ha hb (by omega) (by omega)).mono ?_
  rintro e w' ⟨rfl, f⟩
  exact ⟨by rw [decide_eq_true rfl], f⟩
theorem mod3 (x : Nat) : (x : Int).tmod 3 = ((x % 3 : Nat) : Int) ∧ (x : Int) % 3 = ((x % 3 : Nat) : Int) := ⟨by rw [Int.tmod_eq_emod_of_nonneg (by omega)]; omega, by omega⟩
theorem fits12 (n : Int) : Fits (n.tmod 12) := by
  unfold Fits
  rw [Int.tmod_eq_emod]
  split <;> omega
theorem wrap_fits {x : Int} (h : Fits x) : wrap64 x = x ∧ IntKind.i64.wrap x = x := by
  obtain ⟨h1, h2⟩ := h
  exact ⟨by unfold wrap64; omega, by rw [IntKind.wrap_i64]; omega⟩
/-- Is an id among the first j? -/
def amongH (H : List Nat) (id j : Nat) : Bool := (H.take j).any fun x => x == id
theorem amongH_zero (H : List Nat) (id : Nat) : amongH H id 0 = false := by simp [amongH]
theorem amongH_succ {H : List Nat} {id j : Nat} (h : j < H.length) : amongH H id (j + 1) = (amongH H id j || (H.getD j 0 == id)) := by
  unfold amongH
  rw [List.take_add_one, List.any_append, List.getElem?_eq_getElem h]; simp [h]
theorem amongH_all {L : List (Nat × Int)} {H : List Nat} (h : Hold L H) (id : Nat) : amongH H id H.length = (look L id).isSome := by
  unfold amongH
  rw [List.take_length, Bool.eq_iff_iff, List.any_eq_true, ← h.mem]
  constructor
  · rintro ⟨x, hx, e⟩
    have : x = id := by simpa using e
    exact this ▸ hx
  · exact fun hx => ⟨id, hx, by simp⟩
set_option maxRecDepth 100000 in
set_option maxHeartbeats 16000000 in
theorem graves_walk (w : World) (n : Int) (_ : Fits n) {v1 : Value} {K1 : Nat → Nat → Int} {n1 : Nat} (h1 : KindsAt w v1 1 (fun _ => .u32) K1 n1) (tn : Int) (htn : Fits tn) :
    Calls Try.prog 5 #[.int .i64 n, v1, .int .i64 tn] w fun e w' => e = .returned (.bool true) ∧ Fr (fun _ => False) w w' := by
  obtain ⟨n', hn'⟩ : ∃ n', n.tmod 12 = n' := ⟨_, rfl⟩
  have hfn : Fits n' := hn' ▸ fits12 n
  obtain ⟨q1, q2⟩ := wrap_fits hfn
  obtain ⟨a1, c1', rfl, hnc, hcm, hor⟩ := id h1
  have hn1 : (n1 : Int) ≤ 9223372036854775807 := by unfold maxLen at hcm; omega
  have H1 := Lib.hid h1
  have HMd := Lib.hid (fun w0 => mades_ok (w := w0) hfn (v := .slice none 0 0) (K := fun _ _ => 0) (n1 := 0) ⟨none, 0, rfl, Nat.le_refl _, Nat.zero_le _, .inl rfl⟩)
  have em : ∀ m, runL m (fun _ _ => 0) (min 0 3000) = [] := fun _ => rfl
  simp only [em] at HMd
  generalize (n' % 4096 + 1).toNat = m at HMd
  obtain ⟨p, hp, hp20⟩ : ∃ p : Nat, tn % 20 = (p : Int) ∧ p < 20 := ⟨(tn % 20).toNat, by omega, by omega⟩
  have HPk := Lib.hid (fun w0 => pick_ok tn 20 w0 htn.1 htn.2 (by omega) (by omega))
  rw [hp] at HPk
  have Hp20 := Lib.hid hp20
  clear h1 hor hcm hnc hp hp20 hfn em htn
  go_enter Try.func5, Try.ntmps5
  go_wp2_with fail
  refine (HMd.out _).mono ?_
  rintro e w1 ⟨bh, g, N, st, rfl, hN⟩
  have HG := Lib.hid (show GrAt w bh g N m (.slice none 0 0) [] [] st w1 from ⟨hN, QueAt.nil _, Hold.nil, fun b hb => by simp [Value.ownBlock] at hb⟩)
  clear hN q1 q2
  go_upto_block 0 with fail
  go_cut [9] (fun s9 wx => ∃ H L st, GrAt w bh g N m s9 H L st wx)
  case first =>
    go_wp2_with fail
    go_loopw [9, 10] (fun s9 s10 wr => ∃ (t st : Nat) (H : List Nat) (L : List (Nat × Int)), s10 = .int .i64 (t : Int) ∧ t ≤ 20 ∧ GrAt w bh g N m s9 H L st wr) (fun _ s10 _ => 20 - (intOf s10).toNat)
    case atStart => exact ⟨0, st, [], [], rfl, by omega, HG.out⟩
    case round =>
      obtain ⟨t, st, H, L, rfl, ht, hg⟩ := hrel
      have HG := Lib.hid hg
      obtain ⟨aq, cq, rfl, -, -⟩ := hg.que.shape
      clear hg
      by_cases htp : t < p ∧ 0 < n1
      · obtain ⟨t1, t2⟩ := htp
        have t1' : (t : Int) < (p : Int) := by omega
        have t2' : (0 : Int) < (n1 : Int) := by omega
        have HT1 := Lib.hid t1
        clear t1 ht
        go_wp2_with fail
        refine (HPk.out _).mono ?_
        rintro e w2 ⟨rfl, rfl⟩
        go_upto_block 1 with fail
        clear t1' t2 t2'
        go_cut [9] (fun s9 wx => ∃ H L st, GrAt w bh g N m s9 H L st wx)
        case first =>
          go_wp2_with fail
          go_loopw [9, 11] (fun s9 s11 wr => ∃ (i st : Nat) (H : List Nat) (L : List (Nat × Int)), s11 = .int .i64 (i : Int) ∧ i ≤ n1 ∧ GrAt w bh g N m s9 H L st wr) (fun _ s11 _ => n1 - (intOf s11).toNat)
          case atStart => exact ⟨0, st, H, L, rfl, by omega, HG.out⟩
          case round =>
            clear HG
            obtain ⟨i, st, H, L, rfl, hi, hg⟩ := hrel
            have HG := Lib.hid hg
            have hIv := H1.out.fr hg.ix.fr (fun b hb h => h) (by omega)
            obtain ⟨aq, cq, rfl, -, -⟩ := hg.que.shape
            clear hg
            by_cases hlt : i < n1
            · have hlt' : (i : Int) < (n1 : Int) := by omega
              by_cases hc : i < 300
              · have hc' : (i : Int) < 300 := by omega
                have i0 : (0 : Int) ≤ (i : Int) := by omega
                obtain ⟨a', c', e1, _, _, hor⟩ := hIv
                simp only [Value.slice.injEq] at e1
                obtain ⟨rfl, _, rfl⟩ := e1
                obtain ⟨lb, lo, rfl, hcell⟩ := hor.resolve_left (by omega)
                have ki := (hcell i 0 hlt (by omega)).1
                have hu := wf_u32 (hcell i 0 hlt (by omega)).2
                simp only [Nat.add_zero, Nat.mul_one] at ki
                obtain ⟨id, hid⟩ : ∃ id : Nat, K1 i 0 = (id : Int) := ⟨(K1 i 0).toNat, by omega⟩
                rw [hid] at ki hu
                have HId := Lib.hid (show id < 4294967296 by omega)
                have HPut := Lib.hid (put_ok HG.out.ix.at_ HId.out (t : Int))
                have Hlt := Lib.hid hlt; have Hc := Lib.hid hc
                have HKi := Lib.hid (show w.cell? ⟨lb, lo + i, none⟩ = some (.int .u32 (id : Int)) by
                  rcases H1.out with ⟨a', c', e', _, _, h3⟩
                  simp only [Value.slice.injEq] at e'
                  obtain ⟨e1, _, _⟩ := e'
                  obtain ⟨b', o', e2, h4⟩ := h3.resolve_left (by omega)
                  rw [e2] at e1
                  simp at e1
                  obtain ⟨rfl, rfl⟩ := e1
                  have := (h4 i 0 hlt (by omega)).1
                  rw [hid] at this
                  simpa using this)
                have Hlb := Lib.hid (show lb < w.heap.size by
                  rcases H1.out with ⟨a', c', e', _, _, h3⟩
                  simp only [Value.slice.injEq] at e'
                  obtain ⟨e1, _, _⟩ := e'
                  obtain ⟨b', o', e2, h4⟩ := h3.resolve_left (by omega)
                  rw [e2] at e1
                  simp at e1
                  have := World.block_lt_of_cell? w _ (h4 i 0 hlt (by omega)).1
                  simp at this; omega)
                clear hcell hor hlt hc hi hu hid hlt'
                go_wp2_with fail
                refine HPut.out.mono ?_
                rintro e w3 ⟨st3, -, rfl, h3, f3⟩
                have ki3 := (f3.cell (o := lo + i) (s := none) (by have := Hlb.out; have := HG.out.ix.fr.size; omega) (fun e => by have := Hlb.out; have := HG.out.ix.newh; have := HG.out.ix.newg; omega)).trans ki
                have Hki3 := Lib.hid ki3
                have H3 := Lib.hid h3; have F3 := Lib.hid f3
                obtain ⟨ec, hec⟩ : ∃ ec, ec = putE L m id := ⟨_, rfl⟩
                rw [← hec]
                obtain ⟨b0, hb0⟩ : ∃ b0, ((ec : Int) == 0) = b0 := ⟨_, rfl⟩
                have hb1 : (ec == 0) = b0 := by rw [← hb0, Bool.eq_iff_iff]; simp
                have hb2 : decide (ec = 0) = b0 := by rw [← hb1]; rfl
                have Hec := Lib.hid hec; have Hb1 := Lib.hid hb1
                clear h3 f3 ki HPut ki3 hec
                go_upto_if 62 with fail
                clear hb0 hb1 hb2
                go_cut [9] (fun s9 wx => ∃ H4 L4 st4, GrAt w bh g N m s9 H4 L4 st4 wx)
                case first =>
                  cases b0 with
                  | true =>
                    have h0 : putE L m id = 0 := by rw [← Hec.out]; simpa using Hb1.out
                    have hlk : look L id = none := by
                      cases hl : look L id with
                      | none => rfl
                      | some x => unfold putE at h0; rw [hl] at h0; simp at h0
                    have hpl : putL L m id (t : Int) = ins L id t := by unfold putL; rw [if_pos h0]
                    have hg := HG.out.step (H' := H) H3.out F3.out
                    have hq3 := HG.out.que.fr F3.out (fun b hb e => by have := (HG.out.own b hb).2; rcases e with e | e <;> simp [e] at this)
                    obtain ⟨a4, c4, w4, hrun, hq4, f4, o4⟩ := hq3.app (by have := HG.out.few; omega) id
                    have h3 := H3.out
                    rw [hpl] at h3
                    have hx4 := h3.fr f4 (fun e => ((HG.out.own _ e).2.1 rfl)) (fun e => ((HG.out.own _ e).2.2 rfl))
                    have hix : NewIx w w4 bh g N m (ins L id t) st3 := (HG.out.ix.then h3 F3.out (fun b hb => by rcases hb with e | e <;> simp [e])).then hx4 f4 (fun b hb => .inr (.inr (HG.out.own b hb).1))
                    have hg4 : GrAt w bh g N m (.slice a4 (H.length + 1) c4) (H ++ [id]) (ins L id t) st3 w4 := ⟨hix, hq4, HG.out.hold.put hlk t, fun b hb => by
                      rcases o4 b hb with e | e
                      · exact HG.out.own b e
                      · have := h3.lt; have := HG.out.ix.fr.size; have := F3.out.size; omega⟩
                    have HG4 := Lib.hid hg4; have Hrun := Lib.hid hrun
                    have ki := Hki3.out
                    clear h0 hlk hpl hg hq3 hrun hq4 f4 o4 h3 hx4 hix hg4
                    go_wp2_with (at_builtin; refine wpList_append_run rfl _ _ _ rfl rfl rfl Hrun.out ?_)
                    go_meet
                    exact ⟨_, _, _, HG4.out⟩
                  | false =>
                    have h0 : ¬ putE L m id = 0 := by rw [← Hec.out]; simpa using Hb1.out
                    have hpl : putL L m id (t : Int) = L := by unfold putL; rw [if_neg h0]
                    have h3 := H3.out
                    rw [hpl] at h3
                    have HG4 := Lib.hid (HG.out.step h3 F3.out HG.out.hold (fun h => h))
                    clear h0 hpl h3
                    go_wp2_with fail
                    go_meet
                    exact ⟨_, _, _, HG4.out⟩
                case rest =>
                clear HG H3 F3 Hki3 Hec Hb1
                obtain ⟨H4, L4, st4, hg⟩ := hcut
                have HG4 := Lib.hid hg
                obtain ⟨a4, c4, rfl, -, -⟩ := hg.que.shape
                have HMo := Lib.hid (most_ok hg.ix.at_)
                obtain ⟨q4, hq4⟩ : ∃ q4, q4 = H4.length := ⟨_, rfl⟩
                rw [← hq4]
                have Hq4 := Lib.hid hq4
                have Hqm := Lib.hid (show q4 ≤ m by rw [hq4]; exact hg.few.1)
                have hm1 : 1 ≤ m := by obtain ⟨_, hr, _⟩ := hg.ix.at_; exact hr.one
                have Hm1 := Lib.hid hm1
                clear hg hq4 hm1
                go_upto_region 13 with fail
                go_cut [86] (fun s86 wx => ∃ bq, s86 = .bool bq ∧ (bq = true → 0 < q4) ∧ wc = wx)
                case first =>
                  by_cases hq : q4 = m
                  · have b1 : ((q4 : Int) == (m : Int)) = true := by rw [hq]; simp
                    have hq0 : 0 < q4 := by have := Hm1.out; omega
                    have HQ0 := Lib.hid hq0
                    clear hq hq0
                    go_wp2_with fail
                    refine HMo.out.mono ?_
                    rintro e w5 ⟨rfl, rfl⟩
                    go_wp2_with fail
                    go_meet
                    exact ⟨true, rfl, fun _ => HQ0.out, rfl⟩
                  · have b1 : ((q4 : Int) == (m : Int)) = false := by simp; omega
                    by_cases hq0 : 0 < q4
                    · have b2 : (0 : Int) < (q4 : Int) := by omega
                      obtain ⟨s, hs⟩ : ∃ s, s = i + t := ⟨_, rfl⟩
                      have e1 : (i : Int) + (t : Int) = (s : Int) := by omega
                      obtain ⟨e2, e3, -⟩ := wrap_small (x := s) (by have := Hc.out; have := HT1.out; have := Hp20.out; omega)
                      obtain ⟨r1, r2⟩ := mod3 s
                      obtain ⟨r, hr⟩ : ∃ r, r = s % 3 := ⟨_, rfl⟩
                      rw [← hr] at r1 r2
                      have hr3 : r < 3 := by omega
                      have HQ0 := Lib.hid hq0
                      clear hs hr hq
                      by_cases hrz : r = 0
                      · have b3 : ((r : Int) == 0) = true := by rw [hrz]; rfl
                        have b4 : (r == 0) = true := by rw [hrz]; rfl
                        clear hrz hr3 hq0
                        go_wp2_with fail
                        refine HMo.out.mono ?_
                        rintro e w5 ⟨rfl, rfl⟩
                        go_wp2_with fail
                        go_meet
                        exact ⟨true, rfl, fun _ => HQ0.out, rfl⟩
                      · have b3 : ((r : Int) == 0) = false := by simp; omega
                        have b4 : (r == 0) = false := by simp; omega
                        clear hrz hr3 hq0
                        go_wp2_with fail
                        refine HMo.out.mono ?_
                        rintro e w5 ⟨rfl, rfl⟩
                        go_wp2_with fail
                        go_meet
                        exact ⟨false, rfl, (fun h => by cases h), rfl⟩
                    · have b2 : ¬ (0 : Int) < (q4 : Int) := by omega
                      clear hq hq0
                      go_wp2_with fail
                      refine HMo.out.mono ?_
                      rintro e w5 ⟨rfl, rfl⟩
                      go_wp2_with fail
                      go_meet
                      exact ⟨false, rfl, (fun h => by cases h), rfl⟩
                case rest =>
                obtain ⟨bq, rfl, hbq, hwx⟩ := hcut
                rw [← hwx]
                clear hwx
                have Hbq := Lib.hid hbq
                clear hbq HMo
                go_upto_if 86 with fail
                go_cut [9] (fun s9 wx => ∃ H5 L5 st5, GrAt w bh g N m s9 H5 L5 st5 wx)
                case first =>
                  cases bq with
                  | false =>
                    rw [Hq4.out]
                    go_wp2_with fail
                    go_meet
                    exact ⟨_, _, _, HG4.out⟩
                  | true =>
                    have hg := HG4.out
                    have h0 := Hbq.out rfl
                    rw [Hq4.out] at h0
                    cases H4 with
                    | nil => simp at h0
                    | cons x T =>
                      obtain ⟨b5, o5, a5, rfl, en, hnc, cx, haddr, hqs, hown⟩ := hg.que.slide
                      have hxm := hg.hold.there
                      have hx32 : x < 4294967296 := by
                        obtain ⟨y, hy, rfl⟩ := isSome_iff.1 hxm
                        exact hg.ix.at_.ids y hy
                      have HD := Lib.hid (drop_ok hg.ix.at_ hx32)
                      rw [hxm] at HD
                      have hq1 : q4 = T.length + 1 := by rw [Hq4.out]; rfl
                      have hq0 : (0 : Int) < (q4 : Int) := by omega
                      have hq2 : 1 ≤ q4 := by omega
                      have hq3 : q4 ≤ c4 := by rw [hq1]; simpa using hnc
                      have hq5 : q4 - 1 = T.length := by omega
                      replace cx := cx.trans (show some (u32v x) = some (Value.int .u32 (x : Int)) from rfl)
                      have Hqs := Lib.hid hqs; have Hown := Lib.hid hown; have Hx := Lib.hid hxm
                      clear hg h0 hxm hx32 hq1 hqs hown en hnc
                      go_wp2_with fail
                      refine HD.out.mono ?_
                      rintro e w6 ⟨st6, -, rfl, h6, f6⟩
                      have hg6 : GrAt w bh g N m (.slice a5 T.length (c4 - 1)) T (del L4 x) st6 w6 := ⟨HG4.out.ix.then h6 f6 (fun b hb => by rcases hb with e | e <;> simp [e]), Hqs.out.fr f6 (fun b hb e => by
                        have e1 := Hown.out b hb
                        have := (HG4.out.own b (by rw [e1]; rfl)).2
                        rcases e with e | e <;> simp [e] at this), HG4.out.hold.drop HG4.out.ix.at_.up, fun b hb => by
                        have e1 := Hown.out b hb
                        exact HG4.out.own b (by rw [e1]; rfl)⟩
                      have HG6 := Lib.hid hg6
                      clear h6 f6 hg6 cx HD
                      go_wp2_with fail
                      go_meet
                      exact ⟨_, _, _, HG6.out⟩
                case rest =>
                clear HG4 Hq4 Hqm Hm1 Hbq
                obtain ⟨H5, L5, st5, hg⟩ := hcut
                obtain ⟨a5, c5, rfl, -, -⟩ := hg.que.shape
                have ki : wc.cell? ⟨lb, lo + i, none⟩ = some (.int .u32 (id : Int)) := (hg.ix.fr.cell (o := lo + i) (s := none) Hlb.out (fun h => h)).trans HKi.out
                have HGt := Lib.hid (get_ok hg.ix.at_ HId.out)
                have HG5 := Lib.hid hg
                clear hg
                go_wp2_with fail
                refine HGt.out.mono ?_
                rintro e w6 ⟨st6, -, rfl, h6, f6⟩
                have hg6 := HG5.out.step (H' := H5) h6 (f6.mono (G := fun b => b = bh ∨ b = g) (fun _ _ h => .inl h)) HG5.out.hold (fun h => h)
                have ki6 : w6.cell? ⟨lb, lo + i, none⟩ = some (.int .u32 (id : Int)) := (hg6.ix.fr.cell (o := lo + i) (s := none) Hlb.out (fun h => h)).trans HKi.out
                obtain ⟨q5, hq5⟩ : ∃ q5, q5 = H5.length := ⟨_, rfl⟩
                have hq5m : q5 ≤ 4096 := by rw [hq5]; exact hg6.few.2
                have Hq5 := Lib.hid hq5; have Hq5m := Lib.hid hq5m
                have hall := amongH_all hg6.hold id
                rw [← hq5] at hall
                have Hall := Lib.hid hall
                have HLn := Lib.hid (len_ok hg6.ix.at_)
                rw [← hg6.hold.len, ← hq5] at HLn
                have HG6 := Lib.hid hg6
                clear h6 f6 hg6 ki HG5 HGt hq5m hall
                rw [← hq5]
                clear hq5
                generalize (look L5 id).getD 0 = gv
                generalize (look L5 id).isSome = gb at Hall ⊢
                have hlt' : (i : Int) < (n1 : Int) := by have := Hlt.out; omega
                go_upto_block 4 with fail
                go_cut [14] (fun s14 wx => ∃ wz, s14 = .bool (amongH H5 id q5) ∧ wx = wz ∧ Fr (fun _ => False) w6 wz)
                case first =>
                  go_wp2_with fail
                  go_loopw [14, 15] (fun s14 s15 wr => ∃ j : Nat, s15 = .int .i64 (j : Int) ∧ s14 = .bool (amongH H5 id j) ∧ j ≤ q5 ∧ Fr (fun _ => False) w6 wr) (fun _ s15 _ => q5 - (intOf s15).toNat)
                  case atStart => exact ⟨0, rfl, by rw [amongH_zero], Nat.zero_le _, Fr.refl _ _⟩
                  case round =>
                    obtain ⟨j, rfl, rfl, hj, hf⟩ := hrel
                    by_cases hjq : j < q5
                    · have hjq' : (j : Int) < (q5 : Int) := by omega
                      have hj0 : (0 : Int) ≤ (j : Int) := by omega
                      have hjL : j < H5.length := by rw [← Hq5.out]; exact hjq
                      obtain ⟨b7, o7, rfl, cj⟩ := (HG6.out.que.fr hf (fun _ _ h => h)).at_ hjL
                      obtain ⟨y, hy⟩ : ∃ y, y = H5.getD j 0 := ⟨_, rfl⟩
                      rw [← hy] at cj
                      replace cj := cj.trans (show some (u32v y) = some (Value.int .u32 (y : Int)) from rfl)
                      have ki7 := (hf.cell (o := lo + i) (s := none) (World.block_lt_of_cell? _ _ ki6) (fun h => h)).trans ki6
                      obtain ⟨by_, hby⟩ : ∃ by_, ((y : Int) == (id : Int)) = by_ := ⟨_, rfl⟩
                      have hsu := amongH_succ (id := id) hjL
                      rw [← hy, show (y == id) = by_ from by rw [← hby, Bool.eq_iff_iff]; simp; omega] at hsu
                      obtain ⟨j1, hj1⟩ : ∃ j1, j1 = j + 1 := ⟨_, rfl⟩
                      have e1 : (j : Int) + 1 = (j1 : Int) := by omega
                      obtain ⟨e2, e3, -⟩ := wrap_small (x := j1) (by have := Hq5m.out; omega)
                      have Hsu := Lib.hid hsu; have Hj1 := Lib.hid hj1; have Hjq := Lib.hid hjq; have HF := Lib.hid hf
                      obtain ⟨ba, hba⟩ : ∃ ba, ba = amongH H5 id j := ⟨_, rfl⟩
                      rw [← hba] at Hsu ⊢
                      clear hsu hj1 hjq hf hy hj hjL hba
                      cases ba with
                      | true =>
                        go_upto_region 22 with fail
                        refine wp_region_held_drew (S := fun _ => True) (by kernel_rfl) (by trivial) (fun hHeld => ?_)
                        refine wpAnyH_take (i := 0) (v := ?_) rfl (by kernel_rfl) (by kernel_rfl) (by kernel_rfl) (fun _ _ _ h => h) (Or.inl ⟨by rfl, ?_⟩) (by assumption) ?_
                        rotate_left
                        · intro w' hSw; (try dsimp only at hSw); go_simp; try with_reducible rfl
                        try simp only [Act.put, List.getElem_toArray, List.getElem_cons_zero, List.getElem_cons_succ, List.setIfInBounds_toArray, List.set_cons_zero, List.set_cons_succ]
                        refine wpAnyH_take (i := 1) (v := ?_) rfl (by kernel_rfl) (by kernel_rfl) (by kernel_rfl) (fun _ _ _ h => h) (Or.inl ⟨by rfl, ?_⟩) (by assumption) ?_
                        rotate_left
                        · intro w' hSw; (try dsimp only at hSw); go_simp; try with_reducible rfl
                        try simp only [Act.put, List.getElem_toArray, List.getElem_cons_zero, List.getElem_cons_succ, List.setIfInBounds_toArray, List.set_cons_zero, List.set_cons_succ]
                        refine wpAnyH_take (i := 2) (v := undef) rfl (by kernel_rfl) (by kernel_rfl) (by kernel_rfl) (fun _ _ _ h => h) (Or.inr ⟨rfl, rfl⟩) (by assumption) ?_
                        try simp only [Act.put, List.getElem_toArray, List.getElem_cons_zero, List.getElem_cons_succ, List.setIfInBounds_toArray, List.set_cons_zero, List.set_cons_succ]
                        refine wpAnyH_take (i := 3) (v := undef) rfl (by kernel_rfl) (by kernel_rfl) (by kernel_rfl) (fun _ _ _ h => h) (Or.inr ⟨rfl, rfl⟩) (by assumption) ?_
                        try simp only [Act.put, List.getElem_toArray, List.getElem_cons_zero, List.getElem_cons_succ, List.setIfInBounds_toArray, List.set_cons_zero, List.set_cons_succ]
                        refine wpAnyH_take (i := 4) (v := undef) rfl (by kernel_rfl) (by kernel_rfl) (by kernel_rfl) (fun _ _ _ h => h) (Or.inr ⟨rfl, rfl⟩) (by assumption) ?_
                        try simp only [Act.put, List.getElem_toArray, List.getElem_cons_zero, List.getElem_cons_succ, List.setIfInBounds_toArray, List.set_cons_zero, List.set_cons_succ]
                        refine wpAnyH_take (i := 5) (v := undef) rfl (by kernel_rfl) (by kernel_rfl) (by kernel_rfl) (fun _ _ _ h => h) (Or.inr ⟨rfl, rfl⟩) (by assumption) ?_
                        try simp only [Act.put, List.getElem_toArray, List.getElem_cons_zero, List.getElem_cons_succ, List.setIfInBounds_toArray, List.set_cons_zero, List.set_cons_succ]
                        refine wpAnyH_take (i := 6) (v := undef) rfl (by kernel_rfl) (by kernel_rfl) (by kernel_rfl) (fun _ _ _ h => h) (Or.inr ⟨rfl, rfl⟩) (by assumption) ?_
                        try simp only [Act.put, List.getElem_toArray, List.getElem_cons_zero, List.getElem_cons_succ, List.setIfInBounds_toArray, List.set_cons_zero, List.set_cons_succ]
                        refine wpAnyH_take (i := 7) (v := undef) rfl (by kernel_rfl) (by kernel_rfl) (by kernel_rfl) (fun _ _ _ h => h) (Or.inr ⟨rfl, rfl⟩) (by assumption) ?_
                        try simp only [Act.put, List.getElem_toArray, List.getElem_cons_zero, List.getElem_cons_succ, List.setIfInBounds_toArray, List.set_cons_zero, List.set_cons_succ]
                        refine wpAnyH_take (i := 8) (v := undef) rfl (by kernel_rfl) (by kernel_rfl) (by kernel_rfl) (fun _ _ _ h => h) (Or.inr ⟨rfl, rfl⟩) (by assumption) ?_
                        try simp only [Act.put, List.getElem_toArray, List.getElem_cons_zero, List.getElem_cons_succ, List.setIfInBounds_toArray, List.set_cons_zero, List.set_cons_succ]
                        refine wpAnyH_take (i := 9) (v := undef) rfl (by kernel_rfl) (by kernel_rfl) (by kernel_rfl) (fun _ _ _ h => h) (Or.inr ⟨rfl, rfl⟩) (by assumption) ?_
                        try simp only [Act.put, List.getElem_toArray, List.getElem_cons_zero, List.getElem_cons_succ, List.setIfInBounds_toArray, List.set_cons_zero, List.set_cons_succ]
                        refine wpAnyH_take (i := 10) (v := undef) rfl (by kernel_rfl) (by kernel_rfl) (by kernel_rfl) (fun _ _ _ h => h) (Or.inr ⟨rfl, rfl⟩) (by assumption) ?_
                        try simp only [Act.put, List.getElem_toArray, List.getElem_cons_zero, List.getElem_cons_succ, List.setIfInBounds_toArray, List.set_cons_zero, List.set_cons_succ]
                        refine wpAnyH_take (i := 11) (v := ?_) rfl (by kernel_rfl) (by kernel_rfl) (by kernel_rfl) (fun _ _ _ h => h) (Or.inl ⟨by rfl, ?_⟩) (by assumption) ?_
                        rotate_left
                        · intro w' hSw; (try dsimp only at hSw); go_simp; try with_reducible rfl
                        try simp only [Act.put, List.getElem_toArray, List.getElem_cons_zero, List.getElem_cons_succ, List.setIfInBounds_toArray, List.set_cons_zero, List.set_cons_succ]
                        refine wpAnyH_take (i := 12) (v := ?_) rfl (by kernel_rfl) (by kernel_rfl) (by kernel_rfl) (fun _ _ _ h => h) (Or.inl ⟨by rfl, ?_⟩) (by assumption) ?_
                        rotate_left
                        · intro w' hSw; (try dsimp only at hSw); go_simp; try with_reducible rfl
                        try simp only [Act.put, List.getElem_toArray, List.getElem_cons_zero, List.getElem_cons_succ, List.setIfInBounds_toArray, List.set_cons_zero, List.set_cons_succ]
                        refine wpAnyH_done (by kernel_rfl) ?_ _
                        go_wp2_with fail
                        go_roundw
                        case rel => exact ⟨j1, rfl, by rw [Hj1.out, Hsu.out]; rfl, by have := Hj1.out; have := Hjq.out; omega, HF.out.drew⟩
                        case measure => have := Hj1.out; have := Hjq.out; simp [intOf]; omega
                      | false =>
                        go_upto_region 22 with fail
                        go_still (by kernel_rfl)
                        go_wp2_with fail
                        go_roundw
                        case rel => exact ⟨j1, rfl, by rw [Hj1.out, Hsu.out]; rfl, by have := Hj1.out; have := Hjq.out; omega, HF.out.drew⟩
                        case measure => have := Hj1.out; have := Hjq.out; simp [intOf]; omega
                    · have hjq' : ¬ (j : Int) < (q5 : Int) := by omega
                      obtain rfl : j = q5 := by omega
                      have HF := Lib.hid hf
                      clear hjq hj hf
                      go_wp2_with fail
                      go_meet
                      exact ⟨_, rfl, rfl, HF.out⟩
                case rest =>
                obtain ⟨wz, rfl, rfl, hf⟩ := hcut
                rw [Hall.out]
                have HG7 := Lib.hid (HG6.out.fr hf)
                have HLn := Lib.hid (len_ok (HG6.out.fr hf).ix.at_)
                rw [← (HG6.out.fr hf).hold.len, ← Hq5.out] at HLn
                have bgg : (gb != gb) = false := by cases gb <;> rfl
                obtain ⟨i1, hi1⟩ : ∃ i1, i1 = i + 1 := ⟨_, rfl⟩
                have e1 : (i : Int) + 1 = (i1 : Int) := by omega
                obtain ⟨e2, e3, -⟩ := wrap_small (x := i1) (by have := Hc.out; omega)
                have Hi1 := Lib.hid hi1
                clear hf hi1 ki6 HG6
                go_wp2_with fail
                refine HLn.out.mono ?_
                rintro e w8 ⟨rfl, rfl⟩
                go_wp2_with fail
                go_roundw
                case rel => exact ⟨i1, _, _, _, rfl, by have := Hi1.out; have := Hlt.out; omega, by rw [Hq5.out]; exact HG7.out⟩
                case measure => have := Hi1.out; have := Hlt.out; simp [intOf]; omega
              · have hc' : ¬ (i : Int) < 300 := by omega
                clear hc hlt hi hIv
                go_wp2_with fail
                go_meet
                exact ⟨H, L, st, HG.out⟩
            · have hlt' : ¬ (i : Int) < (n1 : Int) := by omega
              clear hlt hi hIv
              go_wp2_with fail
              go_meet
              exact ⟨H, L, st, HG.out⟩
        case rest =>
        obtain ⟨H2, L2, st2, hg⟩ := hcut
        have HG2 := Lib.hid hg
        obtain ⟨t3, ht3⟩ : ∃ t3, t3 = t + 1 := ⟨_, rfl⟩
        have e1 : (t : Int) + 1 = (t3 : Int) := by omega
        obtain ⟨e2, e3, -⟩ := wrap_small (x := t3) (by have := HT1.out; have := Hp20.out; omega)
        have Ht3 := Lib.hid ht3
        clear hg ht3
        go_wp2_with fail
        go_roundw
        case rel => exact ⟨t3, st2, H2, L2, rfl, by have := Ht3.out; have := HT1.out; have := Hp20.out; omega, HG2.out⟩
        case measure => have := Ht3.out; have := HT1.out; have := Hp20.out; simp [intOf]; omega
      · by_cases htp2 : t < p
        · have t1' : (t : Int) < (p : Int) := by omega
          have t2' : ¬ (0 : Int) < (n1 : Int) := by omega
          have t2 : ¬ 0 < n1 := by omega
          clear htp htp2 ht
          go_wp2_with fail
          refine (HPk.out _).mono ?_
          rintro e w2 ⟨rfl, rfl⟩
          go_wp2_with fail
          go_meet
          exact ⟨H, L, st, HG.out⟩
        · have t1' : ¬ (t : Int) < (p : Int) := by omega
          clear htp htp2 ht
          go_wp2_with fail
          refine (HPk.out _).mono ?_
          rintro e w2 ⟨rfl, rfl⟩
          go_wp2_with fail
          go_meet
          exact ⟨H, L, st, HG.out⟩
  case rest =>
  clear HG
  obtain ⟨H, L, st, hg⟩ := hcut
  obtain ⟨av, cv, rfl, -, -⟩ := hg.que.shape
  obtain ⟨q1, q2⟩ := wrap_fits (show Fits n' from hn' ▸ fits12 n)
  obtain ⟨q, hq⟩ : ∃ q, q = H.length := ⟨_, rfl⟩
  have Hq := Lib.hid hq
  have Hqm := Lib.hid (show q ≤ m ∧ q ≤ 4096 by rw [hq]; exact hg.few)
  have HOwn := Lib.hid (show ∀ b, (Value.slice av H.length cv).ownBlock = some b → H ≠ [] → b < wc.heap.size from fun b hb hne => hg.que.lt hne hb)
  have HU := Lib.hid hg.ix.at_.up
  have Hlt0 := Lib.hid hg.ix.at_.lt
  have HG := Lib.hid hg
  rw [← hq]
  rw [← hq] at HOwn HG
  clear hg hq
  go_wp2_with fail
  refine (HMd.out _).mono ?_
  rintro e w2 ⟨bh2, g2, N2, st2, rfl, hN2⟩
  have HG2 := Lib.hid (HG.out.fr hN2.fr)
  have HN2 := Lib.hid hN2.at_; have HB2 := Lib.hid (And.intro hN2.newh hN2.newg)
  have Hws := Lib.hid (show w.heap.size ≤ wc.heap.size from HG.out.ix.fr.size)
  clear hN2 q1 q2
  generalize wc = w0 at *
  obtain ⟨z0, hz0⟩ : ∃ z0, (q : Int) - 1 = z0 := ⟨_, rfl⟩
  obtain ⟨z1, z2⟩ := wrap_fits (x := z0) (by have := Hqm.out; unfold Fits; omega)
  have Hz0 := Lib.hid hz0
  go_upto_block 6 with fail
  clear hz0 z1 z2
  go_cut [17] (fun _ wx => ∃ M st st2, GrAt w bh g N m (.slice av q cv) H L st wx ∧ IxAt wx bh2 g2 N2 m M st2 ∧ Again L M H 0)
  case first =>
    go_wp2_with fail
    go_loopw [17] (fun s17 wr => ∃ (k st st2 : Nat) (M : List (Nat × Int)) (z : Int), s17 = .int .i64 z ∧ z = (k : Int) - 1 ∧ k ≤ q ∧ GrAt w bh g N m (.slice av q cv) H L st wr ∧ IxAt wr bh2 g2 N2 m M st2 ∧ Again L M H k) (fun s17 _ => (intOf s17 + 1).toNat)
    case atStart => exact ⟨q, st, st2, [], z0, rfl, Hz0.out.symm, Nat.le_refl _, HG2.out, HN2.out, by rw [Hq.out]; exact Again.start L H⟩
    case round =>
      clear HG2 HN2
      obtain ⟨k, st, st2, M, z, rfl, hz, hk, hg, hn2, ha⟩ := hrel
      cases k with
      | zero =>
        obtain rfl : z = -1 := by rw [hz]; rfl
        obtain ⟨b1, b2⟩ := n_neg
        have HA := Lib.hid (And.intro hg (And.intro hn2 ha))
        clear hg hn2 ha hz
        go_wp2_with fail
        go_meet
        exact ⟨M, st, st2, HA.out⟩
      | succ j =>
        obtain rfl : z = (j : Int) := by rw [hz]; omega
        have hj0 : (0 : Int) ≤ (j : Int) := by omega
        have hjq : j < q := by omega
        have hjq' : (j : Int) < (q : Int) := by omega
        have hjL : j < H.length := by rw [← Hq.out]; exact hjq
        have hne : H ≠ [] := by rintro rfl; simp at hjL
        obtain ⟨b7, o7, rfl, cj⟩ := hg.que.at_ hjL
        obtain ⟨y, hy⟩ : ∃ y, y = H.getD j 0 := ⟨_, rfl⟩
        have hym : y ∈ H := by rw [hy]; simp [hjL]
        have hys := (hg.hold.mem y).1 hym
        obtain ⟨vv, hvv⟩ := Option.isSome_iff_exists.1 hys
        have hy32 : y < 4294967296 := by
          obtain ⟨x, hx, rfl⟩ := isSome_iff.1 hys
          exact hg.ix.at_.ids x hx
        rw [← hy] at cj
        replace cj := cj.trans (show some (u32v y) = some (Value.int .u32 (y : Int)) from rfl)
        have hmn := ha.look_none hg.hold.once hjL
        have hmore := ha.more hg.hold.once hjL HU.out (v := vv) (by rw [← hy]; exact hvv)
        rw [← hy] at hmn hmore
        have hE : putE M m y = 0 := by unfold putE; rw [hmn, if_neg (by simp), if_neg (by have := ha.len; have := Hqm.out; have := Hq.out; omega)]
        have hLp : putL M m y vv = ins M y vv := by unfold putL; rw [if_pos hE]
        have HGt := Lib.hid (get_ok hg.ix.at_ hy32)
        rw [hvv] at HGt
        simp only [Option.getD_some, Option.isSome_some] at HGt
        have HG7 := Lib.hid hg; have HN7 := Lib.hid hn2; have HMore := Lib.hid hmore; have HE := Lib.hid hE; have HLp := Lib.hid hLp; have Hy := Lib.hid hy32; have HjL := Lib.hid hjL; have Hne := Lib.hid hne; have Hjq := Lib.hid hjq
        obtain ⟨z3, hz3⟩ : ∃ z3, (j : Int) - 1 = z3 := ⟨_, rfl⟩
        obtain ⟨z4, z5⟩ := wrap_fits (x := z3) (by have := Hqm.out; unfold Fits; omega)
        have Hz3 := Lib.hid hz3
        have Hyd := Lib.hid hy
        clear hg hn2 ha hz hk hjq hjL hne hy hym hys hvv hy32 hmn hmore hE hLp
        go_wp2_with fail
        refine HGt.out.mono ?_
        rintro e w5 ⟨st5, -, rfl, h5, f5⟩
        have hg5 := HG7.out.step (H' := H) h5 (f5.mono (G := fun b => b = bh ∨ b = g) (fun _ _ h => .inl h)) HG7.out.hold (fun h => h)
        have hn5 : IxAt w5 bh2 g2 N2 m M st2 := HN7.out.fr f5 (fun e => by have := HB2.out; have := Hlt0.out; omega) (fun e => by have := HB2.out; have := Hlt0.out; omega)
        obtain ⟨b8, o8, e8, cj5⟩ := hg5.que.at_ HjL.out
        simp only [Option.some.injEq, Addr.mk.injEq] at e8
        obtain ⟨rfl, rfl, -⟩ := e8
        rw [← Hyd.out] at cj5
        replace cj5 := cj5.trans (show some (u32v y) = some (Value.int .u32 (y : Int)) from rfl)
        have HPt := Lib.hid (put_ok hn5 Hy.out vv)
        rw [HE.out, HLp.out] at HPt
        have HG5 := Lib.hid hg5; have HN5 := Lib.hid hn5
        clear h5 f5 hg5 hn5 cj HGt
        have c0 : ((0 : Nat) : Int) = 0 := rfl
        rw [c0] at HPt
        go_wp2_with fail
        refine HPt.out.mono ?_
        rintro e w6 ⟨st6, -, rfl, h6, f6⟩
        have hF : ∀ b, (b = bh2 ∨ b = g2) → w0.heap.size ≤ b := fun b e => by have := HB2.out; rcases e with rfl | rfl <;> omega
        have hg6 := HG5.out.fr2 f6 (fun e => by have := hF _ e; have := Hlt0.out; omega) (fun e => by have := hF _ e; have := Hlt0.out; omega) (fun b hb e => by have := hF b e; have := HOwn.out b hb Hne.out; omega) (fun b e => by have := hF b e; have := Hws.out; omega)
        have hn6 := h6
        have HG6 := Lib.hid hg6; have HN6 := Lib.hid hn6
        clear h6 f6 hF hg6 hn6 HPt cj5
        go_wp2_with fail
        go_roundw
        case rel => exact ⟨j, _, _, _, z3, rfl, Hz3.out.symm, by have := Hjq.out; omega, HG6.out, HN6.out, HMore.out⟩
        case measure => have := Hz3.out; simp [intOf]; omega
  case rest =>
  obtain ⟨M, st, st2, hg, hn2, ha⟩ := hcut
  obtain rfl := ha.whole hg.hold HU.out hn2.up
  have HT1 := Lib.hid (told_ix hg.ix)
  have HL8 := Lib.hid (show M.length ≤ 8192 by have := hn2.few; omega)
  have HGf := Lib.hid hg.ix.fr
  have HN2' := Lib.hid hn2
  clear hg hn2 ha
  go_wp2_with fail
  refine HT1.out.mono ?_
  rintro e w3 ⟨va, vb, rfl, ra, rb, -, -, -, f3⟩
  have HT2 := Lib.hid (told_at (HN2'.out.fr f3 (fun h => h) (fun h => h)))
  have HRA := Lib.hid ra; have HRB := Lib.hid rb; have F3 := Lib.hid f3
  clear ra rb f3
  go_wp2_with fail
  refine HT2.out.mono ?_
  rintro e w4 ⟨vc, vd, rfl, rc, rd, -, -, -, f4⟩
  have HS1 := Lib.hid (fun w' (f : Fr (fun _ => False) w4 w') => same_limbs (Row.fr (Row.fr HRA.out f4 (fun _ _ h => h)) f (fun _ _ h => h)) (Row.fr rc f (fun _ _ h => h)) HL8.out)
  have HS2 := Lib.hid (fun w' (f : Fr (fun _ => False) w4 w') => same_ints (Row.fr (Row.fr HRB.out f4 (fun _ _ h => h)) f (fun _ _ h => h)) (Row.fr rd f (fun _ _ h => h)) HL8.out)
  have F4 := Lib.hid f4
  clear rc rd f4
  go_wp2_with fail
  refine (HS1.out _ (Fr.refl _ _)).mono ?_
  rintro e w5 ⟨rfl, f5⟩
  have F5 := Lib.hid f5
  clear f5
  go_wp2_with fail
  refine (HS2.out _ F5.out).mono ?_
  rintro e w6 ⟨rfl, f6⟩
  have F6 := Lib.hid f6
  clear f6
  go_wp2_with fail
  refine (awake_ok _).mono ?_
  rintro e w7 ⟨rfl, f7⟩
  have F7 := Lib.hid f7
  clear f7
  go_wp2_with fail
  go_ret
  exact ⟨rfl, ((((HGf.out.trans F3.out (fun _ _ h => h)).trans F4.out (fun _ _ h => h)).trans F5.out (fun _ _ h => h)).trans F6.out (fun _ _ h => h)).trans F7.out (fun _ _ h => h)⟩
end Go.Proofs.Ytoehdpfcnpdhnaa.Ix
