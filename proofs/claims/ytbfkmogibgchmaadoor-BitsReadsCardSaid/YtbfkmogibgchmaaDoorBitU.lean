/- The document's set: Gaps, Bytes. No condition. -/
import Derived.Test.YtbfkmogibgchmaaDoorBitT
import Derived.Laws.BitsLemmas
namespace Go.Proofs.YtbfkmogibgchmaaDoor.Bt
open Go.RowKit
theorem Own1.last {n0 : Nat} {W : World} {a : Option Addr} {n c : Nat} {P : List Int} {x : Int} (h : Own1 n0 W (.slice a n c) (P ++ [x])) : ∃ g, a = some ⟨g, 0, none⟩ ∧ n = P.length + 1 ∧ n0 ≤ g ∧ W.cell? ⟨g, P.length, none⟩ = some (.int .i64 x) ∧ W.frozen? ⟨g, P.length, none⟩ = false ∧
    ∀ y, Own1 n0 (W.setCell ⟨g, P.length, none⟩ (.int .i64 y)) (.slice a n c) (P ++ [y]) := by
  obtain ⟨a', c', e, _⟩ := row_cell h.row
  obtain ⟨-, e2, -⟩ := Value.slice.inj e
  have hr := h.row
  have hn : n = P.length + 1 := by rw [e2]; simp
  rw [← e2] at hr
  obtain ⟨g, e3, k1, k2, k3⟩ := row_set hr (i := P.length) (by omega)
  refine ⟨g, e3, hn, h.own g (by rw [e3]; rfl), ?_, k2, fun y => ⟨?_, h.own⟩⟩
  · rw [k1]; simp [i64v]
  · have := k3 (.int .i64 y)
    have e4 : (P ++ [y]).length = n := by simp [hn]
    have e5 : ((P ++ [x]).map i64v).set P.length (.int .i64 y) = (P ++ [y]).map i64v := by
      simp [List.set_append, i64v]
    rw [e4, ← e5]; exact this
theorem flatG_snoc (X : List (Nat × Nat)) (a n : Nat) : flatG (X ++ [(a, n)]) = (flatG X ++ [(a : Int)]) ++ [(n : Int)] := by simp [flatG]
theorem gaps_ne {B : List Bool} : ∀ i, 0 < i → B.getD (i - 1) false = false → ∃ X a n, gapsTo B i = X ++ [(a, n)] ∧ n ≤ i
  | 0, h, _ => by omega
  | i + 1, _, hb => by
    have hb' : B.getD i false = false := hb
    by_cases h0 : i = 0 ∨ B.getD (i - 1) false = true
    · refine ⟨gapsTo B i, i, 1, ?_, by omega⟩
      show (if B.getD i false = true then _ else if i = 0 ∨ B.getD (i - 1) false = true then gapsTo B i ++ [(i, 1)] else _) = _
      rw [if_neg (by rw [hb']; decide), if_pos h0]
    · have h1 : ¬ i = 0 := fun h => h0 (.inl h)
      have h2 : B.getD (i - 1) false = false := by cases h : B.getD (i - 1) false with
        | true => exact absurd (.inr h) h0
        | false => rfl
      obtain ⟨X, a, n, e, hn⟩ := gaps_ne i (by omega) h2
      refine ⟨X, a, n + 1, ?_, by omega⟩
      show (if B.getD i false = true then _ else if i = 0 ∨ B.getD (i - 1) false = true then _ else bump (gapsTo B i)) = _
      rw [if_neg (by rw [hb']; decide), if_neg h0, e, bump_append]
theorem gapsTo_on {B : List Bool} {i : Nat} (h : B.getD i false = true) : gapsTo B (i + 1) = gapsTo B i := by
  show (if B.getD i false = true then gapsTo B i else _) = _
  rw [if_pos h]
theorem gapsTo_new {B : List Bool} {i : Nat} (h : B.getD i false = false) (h0 : i = 0 ∨ B.getD (i - 1) false = true) : gapsTo B (i + 1) = gapsTo B i ++ [(i, 1)] := by
  show (if B.getD i false = true then _ else if i = 0 ∨ B.getD (i - 1) false = true then gapsTo B i ++ [(i, 1)] else _) = _
  rw [if_neg (by rw [h]; decide), if_pos h0]
theorem gapsTo_more {B : List Bool} {i : Nat} (h : B.getD i false = false) (h0 : ¬ (i = 0 ∨ B.getD (i - 1) false = true)) : gapsTo B (i + 1) = bump (gapsTo B i) := by
  show (if B.getD i false = true then _ else if i = 0 ∨ B.getD (i - 1) false = true then _ else bump (gapsTo B i)) = _
  rw [if_neg (by rw [h]; decide), if_neg h0]
section
variable {w : World} {rh : Nat} {v : Value} {th : Bool} {B : List Bool}
set_option maxRecDepth 100000 in
set_option maxHeartbeats 2000000 in
theorem rgaps_ok (h : RefAt w rh v th B) : Calls Tryd.prog 52 #[.pointer (some ⟨rh, 0, none⟩)] w fun e w' => ∃ sv, e = .returned sv ∧ Own1 w.heap.size w' sv (flatG (gapsL B)) ∧ Fr (fun _ => False) w w' := by
  have c1 := h.c1
  obtain ⟨a, c, rfl⟩ := h.shape
  have hsm : (B.length : Int) ≤ 65536 := by have := h.small; omega
  have H := Lib.hid h
  clear h
  go_enter Tryd.func52, Tryd.ntmps52
  go_upto_block 0 with fail
  go_cut [3, 4] (fun s3 _ wx => Own1 w.heap.size wx s3 (flatG (gapsL B)) ∧ Fr (fun _ => False) w wx)
  case first =>
    go_wp2_with fail
    go_loopw [3, 4] (fun s3 s4 wr => ∃ i : Nat, i ≤ B.length ∧ s4 = .int .i64 i ∧ Own1 w.heap.size wr s3 (flatG (gapsTo B i)) ∧ Fr (fun _ => False) w wr) (fun _ s4 _ => B.length - (intOf s4).toNat)
    case atStart => exact ⟨0, Nat.zero_le _, rfl, ⟨World.ownsRow_nil _ _ _ _, by simp [Value.ownBlock]⟩, Fr.refl _ _⟩
    case round =>
      obtain ⟨i, hi, rfl, ho, hf⟩ := hrel
      have HR := Lib.hid (H.out.fr hf (fun h => h) (fun _ _ h => h))
      have c1 := HR.out.c1
      have Ho := Lib.hid ho; have Hf := Lib.hid hf
      clear ho hf
      by_cases hlt : i < B.length
      · have hlt' : (i : Int) < (B.length : Int) := by omega
        obtain ⟨g, rfl, kb⟩ := HR.out.bit hlt
        have Hlt := Lib.hid hlt
        cases hb : B.getD i false with
        | true =>
          rw [hb] at kb
          have Ht := Lib.hid (gapsTo_on hb)
          clear hb hlt
          go_wp2_with fail
          go_roundw
          case rel => exact ⟨i + 1, Hlt.out, by first | (simp; done) | go_num, by rw [Ht.out]; exact Ho.out, Hf.out⟩
          case measure => have := Hlt.out; simp [intOf]; omega
        | false =>
          rw [hb] at kb
          by_cases h0 : i = 0 ∨ B.getD (i - 1) false = true
          · have ht := gapsTo_new hb h0
            have hgl := gapsTo_len B i
            obtain ⟨a2, cc2, W2, hrun, r2, f2, o2⟩ := app_ints (M := [(i : Int), 0]) Ho.out.row (by rw [flatG_length]; simp; omega) (n := 2) rfl
            have hrun : (Builtin.append_ #[22, 22] 22 #[u3, .slice (some ⟨wr.heap.size, 0, none⟩) 2 2]).run Tryd.prog (wr.alloc (.cells #[.int .i64 i, .int .i64 0] 3)) = .ok (.slice a2 ((flatG (gapsTo B i)).length + 2) cc2) W2 := hrun
            have e1 : flatG (gapsTo B i) ++ [(i : Int), 0] = (flatG (gapsTo B i) ++ [(i : Int)]) ++ [(0 : Int)] := by simp
            rw [e1] at r2
            have hn2 : Own1 w.heap.size W2 (.slice a2 ((flatG (gapsTo B i)).length + 2) cc2) ((flatG (gapsTo B i) ++ [(i : Int)]) ++ [(0 : Int)]) := ⟨r2, fun b hb => by
              rcases o2 b hb with h | h
              · exact Ho.out.own b h
              · have := Hf.out.size; omega⟩
            have hf2 : Fr (fun _ => False) w W2 := ((Hf.out.mono (G := fun b => w.heap.size ≤ b) (fun _ _ h => h.elim)).trans f2 (fun b _ e => Ho.out.own b e)).toNew
            obtain ⟨g2, rfl, e3, hg2, k1, k2, k3⟩ := hn2.last
            have hnx := k3 1
            have e4 : (flatG (gapsTo B i) ++ [(i : Int)]) ++ [(1 : Int)] = flatG (gapsTo B (i + 1)) := by rw [ht, flatG_snoc]; rfl
            rw [e4] at hnx
            obtain ⟨ln, hln⟩ : ∃ ln, ln = (flatG (gapsTo B i) ++ [(i : Int)]).length := ⟨_, rfl⟩
            have hl2 : (flatG (gapsTo B i)).length + 2 = ln + 1 := by rw [hln]; simp
            have hl5 : ln ≤ 200000 := by rw [hln, List.length_append, flatG_length]; simp; omega
            rw [← hln] at k1 k2 hnx
            rw [hl2] at hrun hnx
            have hf3 := hf2.setCell (p := ⟨g2, ln, none⟩) (fun h => by have : g2 < w.heap.size := h; omega) (.int .i64 1)
            have hln0 : (0 : Int) ≤ (ln : Int) := by omega
            have hln5 : (ln : Int) ≤ 200000 := by omega
            have q1 : (ln : Int) + 1 - 1 = (ln : Int) := by omega
            have Hrun := Lib.hid hrun; have Hnx := Lib.hid hnx; have Hf3 := Lib.hid hf3
            have hbi : i = 0 ∨ (0 < i ∧ ∃ gq, g = gq ∧ wr.cell? ⟨gq, i - 1, none⟩ = some (.bool true)) := by
              by_cases hz : i = 0
              · exact .inl hz
              · right
                have hp : B.getD (i - 1) false = true := h0.resolve_left hz
                obtain ⟨g3, e5, kb3⟩ := HR.out.bit (i := i - 1) (by omega)
                obtain rfl : g = g3 := by simpa using e5
                rw [hp] at kb3
                exact ⟨by omega, g, rfl, kb3⟩
            clear hrun r2 f2 o2 e1 hn2 hf2 ht hb hlt hnx hf3 k3 e3 e4 hln hl2 hl5 h0 hgl
            rcases hbi with rfl | ⟨hi0, gq, rfl, kb3⟩
            · go_wp2_with (at_builtin; refine wpList_append_run rfl _ _ _ rfl rfl rfl Hrun.out ?_)
              go_roundw
              case rel => exact ⟨0 + 1, Hlt.out, by first | (simp; done) | go_num, Hnx.out, Hf3.out⟩
              case measure => have := Hlt.out; simp [intOf]; omega
            · obtain ⟨p, hp⟩ : ∃ p : Nat, (i : Int) - 1 = (p : Int) := ⟨i - 1, by omega⟩
              have hpi : i - 1 = p := by omega
              rw [hpi] at kb3
              have hpl : (p : Int) < (B.length : Int) := by omega
              have hz : ((i : Int) == 0) = false := by simp; omega
              have hz' : decide (i = 0) = false := by simp; omega
              clear hpi hi0
              go_wp2_with (at_builtin; refine wpList_append_run rfl _ _ _ rfl rfl rfl Hrun.out ?_)
              go_roundw
              case rel => exact ⟨i + 1, Hlt.out, by first | (simp; done) | go_num, Hnx.out, Hf3.out⟩
              case measure => have := Hlt.out; simp [intOf]; omega
          · have hz0 : ¬ i = 0 := fun h => h0 (.inl h)
            have hpf : B.getD (i - 1) false = false := by
              cases h : B.getD (i - 1) false with
              | true => exact absurd (.inr h) h0
              | false => rfl
            obtain ⟨X, ga, gn, hX, hgn⟩ := gaps_ne i (by omega) hpf
            have ht := gapsTo_more hb h0
            rw [hX, bump_append] at ht
            have ho := Ho.out
            rw [hX, flatG_snoc] at ho
            have hgl := gapsTo_len B i
            rw [hX] at hgl
            obtain ⟨a3, c3, hsl⟩ : ∃ a3 c3, u3 = .slice a3 ((flatG X ++ [(ga : Int)]) ++ [(gn : Int)]).length c3 := by
              obtain ⟨a', c', e, _⟩ := row_cell ho.row
              exact ⟨a', c', e⟩
            subst hsl
            obtain ⟨g2, rfl, e3, hg2, k1, k2, k3⟩ := ho.last
            have hnx := k3 ((gn : Int) + 1)
            have e4 : (flatG X ++ [(ga : Int)]) ++ [(gn : Int) + 1] = flatG (gapsTo B (i + 1)) := by rw [ht, flatG_snoc]; simp
            rw [e4] at hnx
            obtain ⟨ln, hln⟩ : ∃ ln, ln = (flatG X ++ [(ga : Int)]).length := ⟨_, rfl⟩
            have hl5 : ln ≤ 200000 := by
              rw [hln, List.length_append, flatG_length]
              simp at hgl ⊢; omega
            rw [← hln] at k1 k2 hnx e3
            rw [e3] at hnx ⊢
            have hf3 := Hf.out.setCell (p := ⟨g2, ln, none⟩) (fun h => by have : g2 < w.heap.size := h; omega) (.int .i64 ((gn : Int) + 1))
            have hln0 : (0 : Int) ≤ (ln : Int) := by omega
            have hln5 : (ln : Int) ≤ 200000 := by omega
            have q1 : (ln : Int) + 1 - 1 = (ln : Int) := by omega
            have hgn5 : (gn : Int) ≤ 65536 := by omega
            have Hnx := Lib.hid hnx; have Hf3 := Lib.hid hf3
            obtain ⟨g3, e5, kb3⟩ := HR.out.bit (i := i - 1) (by omega)
            obtain rfl : g = g3 := by simpa using e5
            rw [hpf] at kb3
            obtain ⟨p, hp⟩ : ∃ p : Nat, (i : Int) - 1 = (p : Int) := ⟨i - 1, by omega⟩
            have hpi : i - 1 = p := by omega
            rw [hpi] at kb3
            have hpl : (p : Int) < (B.length : Int) := by omega
            have hz : ((i : Int) == 0) = false := by simp; omega
            have hz' : decide (i = 0) = false := by simp; omega
            clear hpi hb hlt h0 hz0 hpf hX hgn ht ho hgl k3 hnx e4 hln hl5 hf3 e5
            go_wp2_with fail
            go_roundw
            case rel => exact ⟨i + 1, Hlt.out, by first | (simp; done) | go_num, Hnx.out, Hf3.out⟩
            case measure => have := Hlt.out; simp [intOf]; omega
      · obtain rfl : i = B.length := by omega
        clear hlt
        go_wp2_with fail
        go_meet
        exact ⟨Ho.out, Hf.out⟩
  case rest =>
  obtain ⟨ho, hf⟩ := hcut
  go_wp2_with fail
  go_ret
  exact ⟨_, rfl, ho, hf⟩
end
end Go.Proofs.YtbfkmogibgchmaaDoor.Bt
