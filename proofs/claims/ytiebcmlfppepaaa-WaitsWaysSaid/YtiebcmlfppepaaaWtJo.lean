/- Laws of waiting parties: joined, has. No condition. -/
import Derived.Test.YtiebcmlfppepaaaWtAw
import Derived.Test.YtiebcmlfppepaaaArgk
namespace Go.Proofs.Ytiebcmlfppepaaa.Wt
open Go.Shelf Go.RowKit
def kW : Nat → IntKind := fun j => if j = 0 then .u32 else .i64
/-- Who joined of the first k, as they came, and in their order. -/
noncomputable def JF (K : Nat → Nat → Int) : Nat → List Int × List Int
  | 0 => ([], [])
  | k + 1 => if joinE (JF K k).2 (K k 0) (K k 1) (K k 2) (K k 3) = 0 then ((JF K k).1 ++ [wtN (K k 0) (K k 1) (K k 2) (K k 3)], insW (wtN (K k 0) (K k 1) (K k 2) (K k 3)) (JF K k).2) else JF K k
theorem JF_perm (K : Nat → Nat → Int) : ∀ k, (JF K k).1.Perm (JF K k).2
  | 0 => List.Perm.refl _
  | k + 1 => by
    unfold JF
    split
    · exact ((List.perm_append_comm (l₂ := [_])).trans ((JF_perm K k).cons _)).trans (insW_perm _ _).symm
    · exact JF_perm K k
theorem JF_no {K : Nat → Nat → Int} {k : Nat} (h : joinE (JF K k).2 (K k 0) (K k 1) (K k 2) (K k 3) ≠ 0) : JF K (k + 1) = JF K k := by
  conv => lhs; unfold JF
  rw [if_neg h]
theorem JF_yes {K : Nat → Nat → Int} {k : Nat} (h : joinE (JF K k).2 (K k 0) (K k 1) (K k 2) (K k 3) = 0) : JF K (k + 1) = ((JF K k).1 ++ [wtN (K k 0) (K k 1) (K k 2) (K k 3)], insW (wtN (K k 0) (K k 1) (K k 2) (K k 3)) (JF K k).2) := by
  conv => lhs; unfold JF
  rw [if_pos h]
theorem joinE_may {S : List Int} {a b c d : Int} (h0 : 0 ≤ a) (h : joinE S a b c d = 0) : 1 ≤ a ∧ 1 ≤ b ∧ b ≤ 16 ∧ 0 ≤ c ∧ c ≤ 9 ∧ 0 ≤ d ∧ d ≤ 1099511627776 := by
  unfold joinE at h
  by_cases hm : mayB a b c d = false
  · rw [if_pos hm] at h; exact absurd h (by decide)
  · exact (mayB_true h0).1 (by simpa using hm)
theorem Wts.appRaw {w : World} {sv : Value} {S : List Int} (h : Wts w sv S) (hn : S.length ≤ 1000000) {T : List Int} {a b c d : Int} (h0 : 0 ≤ a) (h1 : a < 4294967296) (hj : joinE T a b c d = 0) :
    ∃ a' c' w2, (Builtin.append_ #[43, 43] 43 #[sv, .slice (some ⟨w.heap.size, 0, none⟩) 1 1]).run Try.prog (w.alloc (.cells #[.int .u32 a, .int .i64 b, .int .i64 c, .int .i64 d] 51)) = .ok (.slice a' (S.length + 1) c') w2 ∧
      Wts w2 (.slice a' (S.length + 1) c') (S ++ [wtN a b c d]) ∧ Fr (fun b => sv.ownBlock = some b) w w2 ∧ (∀ b, (Value.slice a' (S.length + 1) c').ownBlock = some b → sv.ownBlock = some b ∨ w.heap.size ≤ b) := by
  obtain ⟨m1, m2, m3, m4, m5, m6, m7⟩ := joinE_may h0 hj
  obtain ⟨ok, e1, e2, e3, e4⟩ := okW_n m1 h1 m2 m3 m4 m5 m6 m7
  have := h.app hn (wtN a b c d)
  rw [e1, e2, e3, e4] at this
  exact this
theorem wf_u32 {x : Int} (h : (Lit.int .u32 x).wf = true) : 0 ≤ x ∧ x < 4294967296 := by
  simp [Lit.wf, IntKind.min, IntKind.max, IntKind.signed, IntKind.bits] at h
  omega
/-- The state of joined. -/
structure Jnd (w : World) (G : Nat → Prop) (bl : Nat) (K : Nat → Nat → Int) (k : Nat) (v : Value) (n' : Int) (wr : World) : Prop where
  st : StAt G bl (JF K k).2 n' wr
  row : Wts wr v (JF K k).1
  own : ∀ b, v.ownBlock = some b → w.heap.size ≤ b ∧ ¬ G b
  new : ∀ b, G b → w.heap.size ≤ b
  nx : n' ≤ k
  fr : Fr (fun _ => False) w wr
theorem Jnd.keep {w : World} {G : Nat → Prop} {bl : Nat} {K : Nat → Nat → Int} {k : Nat} {v : Value} {n' : Int} {wr w' : World} (h : Jnd w G bl K k v n' wr) (hf : Fr (fun _ => False) wr w') : Jnd w G bl K k v n' w' :=
  ⟨h.st.keep hf, Row.fr h.row hf (fun _ _ h => h), h.own, h.new, h.nx, h.fr.trans hf (fun _ _ h => h)⟩
theorem Jnd.joined {w : World} {G : Nat → Prop} {bl : Nat} {K : Nat → Nat → Int} {k : Nat} {v : Value} {n' : Int} {wr w' : World} (h : Jnd w G bl K k v n' wr) {G' : Nat → Prop} {n2 : Int} (h2 : StAt G' bl (joinS (JF K k).2 (K k 0) (K k 1) (K k 2) (K k 3)) n2 w') (hn : n2 ≤ n' + 1) (f : Fr G wr w') (g : Grew wr G G') :
    (joinE (JF K k).2 (K k 0) (K k 1) (K k 2) (K k 3) ≠ 0 → Jnd w G' bl K (k + 1) v n2 w') ∧ Wts w' v (JF K k).1 ∧ (∀ b, v.ownBlock = some b → w.heap.size ≤ b ∧ ¬ G' b) ∧ (∀ b, G' b → w.heap.size ≤ b) ∧ n2 ≤ k + 1 ∧ Fr (fun _ => False) w w' := by
  have z := h.fr.size
  have hr : Wts w' v (JF K k).1 := Row.fr h.row f (fun b hb => (h.own b hb).2)
  have ho : ∀ b, v.ownBlock = some b → w.heap.size ≤ b ∧ ¬ G' b := fun b hb => ⟨(h.own b hb).1, fun e => by
    rcases g b e with e | e
    · exact (h.own b hb).2 e
    · have := Row.lt h.row hb; omega⟩
  have hG : ∀ b, G' b → w.heap.size ≤ b := fun b hb => by
    rcases g b hb with e | e
    · exact h.new b e
    · omega
  have hx : n2 ≤ k + 1 := by have := h.nx; omega
  have hf : Fr (fun _ => False) w w' := h.fr.trans f (fun b hb e => by have := h.new b e; omega)
  refine ⟨fun hj => ⟨?_, ?_, ho, hG, by push_cast; exact hx, hf⟩, hr, ho, hG, hx, hf⟩
  · rw [JF_no hj]
    unfold joinS at h2
    rw [if_neg hj] at h2
    exact h2
  · rw [JF_no hj]; exact hr
theorem JF_len (K : Nat → Nat → Int) : ∀ k, (JF K k).1.length ≤ k
  | 0 => by simp [JF]
  | k + 1 => by
    unfold JF
    split
    · have := JF_len K k; simp; omega
    · have := JF_len K k; omega
set_option maxRecDepth 100000 in
set_option maxHeartbeats 4000000 in
theorem joined_ok {w : World} {v : Value} {K : Nat → Nat → Int} {n1 : Nat} (h1 : KindsAt w v 4 kW K n1) :
    Calls Try.prog 16 #[v] w fun e w' => ∃ bl G u n', e = .returned (.tuple #[.pointer (some ⟨bl, 0, none⟩), u, .bool true]) ∧ Jnd w G bl K (min n1 600) u n' w' := by
  obtain ⟨a1, c1, rfl, hnc, hcm, hor⟩ := id h1
  have hn1 : (n1 : Int) ≤ 9223372036854775807 := by unfold maxLen at hcm; omega
  have H1 := Lib.hid h1
  clear h1 hor hcm hnc
  go_enter Try.func16, Try.ntmps16
  go_wp2_with fail
  refine (newL_ok w).mono ?_
  rintro e w1 ⟨bl, G, rfl, hS, hG, hf⟩
  have HJ := Lib.hid (show Jnd w G bl K 0 (.slice none 0 0) 0 w1 from ⟨hS, World.ownsRow_nil _ _ _ _, by simp [Value.ownBlock], hG, by simp, hf⟩)
  clear hS hG hf
  go_upto_block 0 with fail
  go_cut [6, 7] (fun s6 _ wx => ∃ G n', Jnd w G bl K (min n1 600) s6 n' wx)
  case first =>
    go_wp2_with fail
    go_loopw [6, 7] (fun s6 s7 wr => ∃ (i : Nat) (G : Nat → Prop) (n' : Int), s7 = .int .i64 (i : Int) ∧ i ≤ min n1 600 ∧ Jnd w G bl K i s6 n' wr) (fun _ s7 _ => n1 - (intOf s7).toNat)
    case atStart => exact ⟨0, G, 0, rfl, Nat.zero_le _, HJ.out⟩
    case round =>
      obtain ⟨i, G, n', rfl, hi, hP⟩ := hrel
      have HP := Lib.hid hP
      have hIv := H1.out.fr hP.fr (fun b hb h => h) (by omega)
      clear hP HJ
      by_cases hlt : i < n1
      · have hlt' : (i : Int) < (n1 : Int) := by omega
        by_cases hc : i < 600
        · have hc' : (i : Int) < 600 := by omega
          have i0 : (0 : Int) ≤ (i : Int) := by omega
          obtain ⟨a', c', e1, _, _, hor⟩ := id hIv
          simp only [Value.slice.injEq] at e1
          obtain ⟨rfl, _, rfl⟩ := e1
          obtain ⟨lb, lo, rfl, hcell⟩ := hor.resolve_left (by omega)
          have k0 := (hcell i 0 hlt (by omega)).1
          have k1 := (hcell i 1 hlt (by omega)).1
          have k2 := (hcell i 2 hlt (by omega)).1
          have k3 := (hcell i 3 hlt (by omega)).1
          have hu := wf_u32 (hcell i 0 hlt (by omega)).2
          simp only [Nat.add_zero] at k0
          change wr.cell? _ = some (.int .u32 (K i 0)) at k0
          change wr.cell? _ = some (.int .i64 (K i 1)) at k1
          change wr.cell? _ = some (.int .i64 (K i 2)) at k2
          change wr.cell? _ = some (.int .i64 (K i 3)) at k3
          have HD := Lib.hid (join_ok HP.out.st (a := K i 0) (b := K i 1) (c := K i 2) (d := K i 3) hu.1 hu.2 (by have := HP.out.nx; omega))
          have Hlt := Lib.hid hlt; have Hc := Lib.hid hc; have Hu := Lib.hid hu; have HIv := Lib.hid hIv
          have Hlb := Lib.hid (show ¬ G lb from fun h => by
            have h2 := HP.out.new lb h
            obtain ⟨a', c', e1, _, _, hor⟩ := H1.out
            simp only [Value.slice.injEq] at e1
            obtain ⟨e1, _, _⟩ := e1
            obtain ⟨lb', lo', e2, hcell'⟩ := hor.resolve_left (by omega)
            rw [← e1] at e2
            simp only [Option.some.injEq, Addr.mk.injEq] at e2
            have h3 : lb' < w.heap.size := World.block_lt_of_cell? _ _ (hcell' i 0 hlt (by omega)).1
            have h4 := e2.1
            omega)
          have Lk := Lib.hid (World.block_lt_of_cell? _ _ k0)
          clear hcell hor hlt hc hi hu hIv
          go_wp2_with fail
          refine HD.out.mono ?_
          rintro e w2 ⟨rfl, G', n2, h2, hn, f, g⟩
          obtain ⟨q1, q2, q3, q4, q5, q6⟩ := HP.out.joined h2 hn f g
          replace k0 := (f.cell Lk.out Hlb.out).trans k0
          replace k1 := (f.cell Lk.out Hlb.out).trans k1
          replace k2 := (f.cell Lk.out Hlb.out).trans k2
          replace k3 := (f.cell Lk.out Hlb.out).trans k3
          have H2 := Lib.hid h2
          clear h2 hn f g
          by_cases hj : joinE (JF K i).2 (K i 0) (K i 1) (K i 2) (K i 3) = 0
          · obtain ⟨a6, c6, e6⟩ := wts_slice q2
            subst e6
            obtain ⟨a8, c8, W2, hrun, r2, f2, o2⟩ := Wts.appRaw q2 (by have := JF_len K i; omega) Hu.out.1 Hu.out.2 hj
            have hP2 : Jnd w G' bl K (i + 1) (.slice a8 ((JF K i).1.length + 1) c8) n2 W2 := by
              have hlv := fun b hb => Row.lt q2 (b := b) hb
              have z6 := q6.size
              refine ⟨?_, ?_, ?_, q4, by push_cast; exact q5, q6.trans f2 (fun b hb e => by have := (q3 b e).1; omega)⟩
              · rw [JF_yes hj]
                have := H2.out
                unfold joinS at this
                rw [if_pos hj] at this
                exact this.fr f2 (fun b hb e => (q3 b e).2 hb)
              · rw [JF_yes hj]; exact r2
              · intro b hb
                rcases o2 b hb with e | e
                · exact q3 b e
                · have := H2.out.bd b
                  exact ⟨by omega, fun h => by have := this h; omega⟩
            have Hrun := Lib.hid hrun; have HP2 := Lib.hid hP2
            rw [hj]
            clear hrun r2 f2 o2 q1 q2 q3 q4 q5 q6 hP2
            go_wp2_with (at_builtin; refine wpList_append_run rfl _ _ 43 rfl rfl rfl Hrun.out ?_)
            go_roundw
            case rel => exact ⟨i + 1, G', n2, by first | (simp; done) | go_num, by have := Hlt.out; have := Hc.out; omega, HP2.out⟩
            case measure => have := Hlt.out; simp [intOf]; omega
          · have HP2 := Lib.hid (q1 hj)
            have hb : (joinE (JF K i).2 (K i 0) (K i 1) (K i 2) (K i 3) == 0) = false := by simpa using hj
            clear q1 q2 q3 q4 q5 q6 hj
            go_wp2_with fail
            go_roundw
            case rel => exact ⟨i + 1, G', n2, by first | (simp; done) | go_num, by have := Hlt.out; have := Hc.out; omega, HP2.out⟩
            case measure => have := Hlt.out; simp [intOf]; omega
        · have hc' : ¬ (i : Int) < 600 := by omega
          have e : min n1 600 = i := by omega
          have HE := Lib.hid e
          clear e hc hlt hi hIv
          go_wp2_with fail
          go_meet
          exact ⟨G, n', by rw [HE.out]; exact HP.out⟩
      · have hlt' : ¬ (i : Int) < (n1 : Int) := by omega
        have e : min n1 600 = i := by omega
        have HE := Lib.hid e
        clear e hlt hi hIv
        go_wp2_with fail
        go_meet
        exact ⟨G, n', by rw [HE.out]; exact HP.out⟩
  case rest =>
  obtain ⟨G', n', hN⟩ := hcut
  have HN2 := Lib.hid hN
  clear hN
  go_wp2_with fail
  refine bodyPost_ret (v := .tuple #[.pointer (some ⟨bl, 0, none⟩), u6, .bool true]) ?_ rfl ?_
  · simp [results, Try.results16, Try.f16, go_sem]
  · exact ⟨bl, G', u6, n', rfl, HN2.out⟩
end Go.Proofs.Ytiebcmlfppepaaa.Wt
