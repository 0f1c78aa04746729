/- The document's set: All, Gaps, Bytes. No condition. -/
import Derived.Test.YtbfkmogibgchmaaDoorBitR
namespace Go.Proofs.YtbfkmogibgchmaaDoor.Bt
open Go.RowKit
theorem bit_out {B : List Bool} {i : Nat} (h : ¬ i < B.length) : B.getD i false = false := by rw [List.getD_eq_getElem?_getD, List.getElem?_eq_none (by omega)]; rfl
/-- A list of ints in a block of its own. -/
structure Own1 (n0 : Nat) (W : World) (v : Value) (L : List Int) : Prop where
  row : Row W 3 1 v L.length (L.map i64v)
  own : ∀ b, v.ownBlock = some b → n0 ≤ b
theorem Own1.fr {n0 : Nat} {w w' : World} {v : Value} {L : List Int} (h : Own1 n0 w v L) {F : Nat → Prop} (f : Fr F w w') (hn : ∀ b, n0 ≤ b → b < w.heap.size → ¬ F b) : Own1 n0 w' v L :=
  ⟨Row.fr h.row f (fun b hb => hn b (h.own b hb) (Row.lt h.row hb)), h.own⟩
theorem allTo_len (B : List Bool) (i : Nat) : (allTo B i).length ≤ i := by
  unfold allTo
  have := List.length_filter_le (fun j => B.getD j false) (List.range i)
  simpa using this
section
variable {w : World} {rh : Nat} {v : Value} {th : Bool} {B : List Bool}
set_option maxRecDepth 100000 in
set_option maxHeartbeats 1000000 in
theorem rall_ok (h : RefAt w rh v th B) : Calls Tryd.prog 51 #[.pointer (some ⟨rh, 0, none⟩)] w fun e w' => ∃ sv, e = .returned sv ∧ Own1 w.heap.size w' sv (asInts (allL B)) ∧ Fr (fun _ => False) w w' := by
  have c1 := h.c1
  obtain ⟨a, c, rfl⟩ := h.shape
  have hsm : (B.length : Int) ≤ 65536 := by have := h.small; omega
  have H := Lib.hid h
  clear h
  go_enter Tryd.func51, Tryd.ntmps51
  go_upto_block 0 with fail
  go_cut [3, 4] (fun s3 _ wx => Own1 w.heap.size wx s3 (asInts (allL B)) ∧ Fr (fun _ => False) w wx)
  case first =>
    go_wp2_with fail
    go_loopw [3, 4] (fun s3 s4 wr => ∃ i : Nat, i ≤ B.length ∧ s4 = .int .i64 i ∧ Own1 w.heap.size wr s3 (asInts (allTo B i)) ∧ Fr (fun _ => False) w wr) (fun _ s4 _ => B.length - (intOf s4).toNat)
    case atStart => exact ⟨0, Nat.zero_le _, rfl, ⟨World.ownsRow_nil _ _ _ _, by simp [Value.ownBlock]⟩, Fr.refl _ _⟩
    case round =>
      obtain ⟨i, hi, rfl, ho, hf⟩ := hrel
      have HR := Lib.hid (H.out.fr hf (fun h => h) (fun _ _ h => h))
      have c1 := HR.out.c1
      have Ho := Lib.hid ho; have Hf := Lib.hid hf
      clear ho hf
      by_cases hlt : i < B.length
      · have hlt' : (i : Int) < (B.length : Int) := by omega
        obtain ⟨g, rfl, kb⟩ := HR.out.bit hlt
        have ht := allTo_succ B i
        have hl := allTo_len B i
        have Hlt := Lib.hid hlt
        cases hb : B.getD i false with
        | true =>
          rw [hb] at kb
          rw [if_pos hb] at ht
          obtain ⟨a2, cc2, W2, hrun, r2, f2, o2⟩ := app_ints (M := [(i : Int)]) Ho.out.row (by simp [asInts]; omega) (n := 1) rfl
          have hrun : (Builtin.append_ #[22, 22] 22 #[u3, .slice (some ⟨wr.heap.size, 0, none⟩) 1 1]).run Tryd.prog (wr.alloc (.cells #[.int .i64 i] 3)) = .ok (.slice a2 ((asInts (allTo B i)).length + 1) cc2) W2 := hrun
          have e1 : asInts (allTo B i) ++ [(i : Int)] = asInts (allTo B (i + 1)) := by rw [ht]; simp [asInts]
          rw [e1] at r2
          have hn2 : Own1 w.heap.size W2 (.slice a2 ((asInts (allTo B i)).length + 1) cc2) (asInts (allTo B (i + 1))) := ⟨r2, fun b hb => by
            rcases o2 b hb with h | h
            · exact Ho.out.own b h
            · have := Hf.out.size; omega⟩
          have hf2 : Fr (fun _ => False) w W2 := ((Hf.out.mono (G := fun b => w.heap.size ≤ b) (fun _ _ h => h.elim)).trans f2 (fun b _ e => Ho.out.own b e)).toNew
          have Hrun := Lib.hid hrun; have Hn2 := Lib.hid hn2; have Hf2 := Lib.hid hf2
          clear hrun r2 f2 o2 e1 hn2 hf2 ht hl hb hlt
          go_wp2_with (at_builtin; refine wpList_append_run rfl _ _ _ rfl rfl rfl Hrun.out ?_)
          go_roundw
          case rel => exact ⟨i + 1, Hlt.out, by first | (simp; done) | go_num, Hn2.out, Hf2.out⟩
          case measure => have := Hlt.out; simp [intOf]; omega
        | false =>
          rw [hb] at kb
          rw [if_neg (by rw [hb]; decide)] at ht
          have Ht := Lib.hid ht
          clear ht hl hb hlt
          go_wp2_with fail
          go_roundw
          case rel => exact ⟨i + 1, Hlt.out, by first | (simp; done) | go_num, by rw [Ht.out]; exact Ho.out, Hf.out⟩
          case measure => have := Hlt.out; simp [intOf]; omega
      · obtain rfl : i = B.length := by omega
        clear hlt
        go_wp2_with fail
        go_meet
        exact ⟨Ho.out, Hf.out⟩
  case rest =>
  obtain ⟨ho, hf⟩ := hcut
  go_wp2_with fail
  go_ret
  exact ⟨_, rfl, ho, hf⟩
end
end Go.Proofs.YtbfkmogibgchmaaDoor.Bt
