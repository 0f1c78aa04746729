/- LentBytes. Condition: sizes within the reach. -/
import Derived.Test.YtbfkmogibgchmaaDoorBlentA
import Derived.Deep.Upon
namespace Go.Proofs.YtbfkmogibgchmaaDoor.Bt
open Go.RowKit Go.Deep
def mksB (mk : Nat → Nat) (n : Nat) : List Nat := (List.range n).map mk
theorem mksB_succ (mk : Nat → Nat) (i : Nat) : mksB mk (i + 1) = mksB mk i ++ [mk i] := by simp [mksB, List.range_succ]
theorem mksB_len (mk : Nat → Nat) (i : Nat) : (mksB mk i).length = i := by simp [mksB]
theorem mksB_get {mk : Nat → Nat} {n i : Nat} (h : i < n) : (mksB mk n).getD i 0 = mk i := by simp [mksB, List.getD_eq_getElem?_getD, h]
theorem app_byte {W : World} {v : Value} {L : List Nat} (x : Nat) (h : Row W 5 1 v L.length (L.map u8v)) (hb : L.length + 1 ≤ 140737488355328) :
    ∃ a c W2, (Builtin.append_ #[30, 30] 30 #[v, .slice (some ⟨W.heap.size, 0, none⟩) 1 1]).run Tryd.prog (W.alloc (.cells #[.int .u8 x] 5)) = .ok (.slice a (L.length + 1) c) W2 ∧
      Row W2 5 1 (.slice a (L.length + 1) c) (L ++ [x]).length ((L ++ [x]).map u8v) ∧ Fr (fun b => v.ownBlock = some b) W W2 ∧ (∀ b, (Value.slice a (L.length + 1) c).ownBlock = some b → v.ownBlock = some b ∨ W.heap.size ≤ b) := by
  obtain ⟨i0, hi, hz0, hz1, hz2⟩ := info_parts Tryd.infoU8
  have f0 : Fr (fun _ => False) W (W.alloc (.cells #[.int .u8 x] 5)) := Fr.alloc (Fr.refl _ _) _
  have hg : (W.alloc (.cells #[.int .u8 x] 5)).heap[W.heap.size]? = some (.cells #[.int .u8 x] 5 (0, 0)) := by rw [heap_alloc_get]; simp
  obtain ⟨v', w3, hrun, hR3, hf3, ho3⟩ := run_append_fr (P := Tryd.prog) _ 30 30 5 i0 _ 1 1 Tryd.underlying30 hi hz0 hz1 hz2 rfl (by decide) _ _ _ (Row.fr h f0 (fun _ _ h => h)) ⟨W.heap.size, 0, none⟩ 1 1 [.int .u8 x] (by simp)
    (by intro j u hu
        rw [addr_add, Nat.zero_add, cell_of hg j]
        simpa using hu)
    (by intro u hu; simp at hu; subst hu; rfl) (by unfold maxLen; omega) (by omega)
  obtain ⟨a', c', rfl⟩ : ∃ a' c', v' = .slice a' (L.length + 1) c' := by
    rcases hR3.2 with ⟨rfl, h0⟩ | ⟨g, cap, cur, rfl, _⟩
    · exact ⟨none, 0, by rw [h0]⟩
    · exact ⟨_, _, rfl⟩
  refine ⟨a', c', w3, hrun, by rw [List.map_append, List.length_append]; exact hR3, (f0.mono (fun _ _ h => h.elim)).trans hf3 (fun _ _ h => h), ?_⟩
  intro b hb
  rcases ho3 with h | h
  · rw [h] at hb; exact .inl hb
  · rw [h] at hb; simp at hb; right; omega
theorem lent_run {W : World} {n : Nat} {lv : Value} {L : List Nat} (hl : BytesAt W lv L n) {g cap : Nat} (hr : Row W 5 1 (.slice (some ⟨g, 0, none⟩) 0 cap) 0 []) (hn : n ≤ 140737488351232) :
    ∃ a c W2, (Builtin.append_ #[30, 30] 30 #[.slice (some ⟨g, 0, none⟩) 0 cap, lv]).run Tryd.prog W = .ok (.slice a n c) W2 ∧
      Row W2 5 1 (.slice a n c) L.length (L.map u8v) ∧ Fr (fun b => b = g) W W2 ∧ (∀ b, (Value.slice a n c).ownBlock = some b → b = g ∨ W.heap.size ≤ b) := by
  obtain ⟨i0, hi, hz0, hz1, hz2⟩ := info_parts Tryd.infoU8
  obtain ⟨a, c, rfl, hll, hc⟩ := hl
  cases a with
  | none =>
    have h0 : n = 0 := by
      apply Nat.eq_zero_of_not_pos
      intro h
      obtain ⟨g', o, e, _⟩ := hc 0 h
      cases e
    subst h0
    have hL : L = [] := List.eq_nil_of_length_eq_zero hll
    subst hL
    refine ⟨_, _, _, run_append_nothing W 30 30 30 5 i0 Tryd.underlying30 hi _ 0 cap (Nat.zero_le _) _ (Src.ofNil W Tryd.underlying30 c), hr, Fr.refl _ _, ?_⟩
    intro b hb; simp [Value.ownBlock] at hb; exact .inl hb.symm
  | some p =>
    obtain ⟨v', w3, hrun, hR3, hf3, ho3⟩ := run_append_fr (P := Tryd.prog) W 30 30 5 i0 _ 1 1 Tryd.underlying30 hi hz0 hz1 hz2 rfl (by decide) _ _ _ hr p n c (L.map u8v) (by simp [hll])
      (by intro j u hu
          have hj : j < L.length := by have := (List.getElem?_eq_some_iff.1 hu).1; simpa using this
          obtain ⟨g', o, e, k⟩ := hc j (by omega)
          cases e
          rw [addr_add, k, ← hu]
          exact (sameBytes_ok_get hj).symm)
      u8_one (by unfold maxLen; omega) (by omega)
    rw [Nat.zero_add, List.nil_append] at hR3
    obtain ⟨a', c', rfl⟩ : ∃ a' c', v' = .slice a' n c' := by
      rcases hR3.2 with ⟨rfl, h0⟩ | ⟨g, cap, cur, rfl, _⟩
      · exact ⟨none, 0, by rw [h0]⟩
      · exact ⟨_, _, rfl⟩
    refine ⟨a', c', w3, hrun, by rw [hll]; exact hR3, hf3.mono (fun b _ e => by simp [Value.ownBlock] at e; exact e.symm), ?_⟩
    intro b hb
    rcases ho3 with h | h
    · rw [h] at hb; simp [Value.ownBlock] at hb; exact .inl hb.symm
    · rw [h] at hb; simp at hb; right; omega
/-- What is lent: a new row, the marks behind its end. -/
structure LentAt (w w' : World) (g c n : Nat) (L : List Nat) (mk : Nat → Nat) : Prop where
  row : Row w' 5 1 (.slice (some ⟨g, 0, none⟩) (n + 12) c) (n + 12) ((L ++ mksB mk 12).map u8v)
  len : L.length = n
  new : w.heap.size ≤ g
  fr : Fr (fun _ => False) w w'
set_option maxRecDepth 100000 in
set_option maxHeartbeats 4000000 in
theorem lent_ok {mk : Nat → Nat → Nat} (hM : MarksB mk) {w : World} {n : Nat} {lv : Value} {L : List Nat} (hl : BytesAt w lv L n) (hn : n ≤ 140737488351232) :
    Calls Tryd.prog 28 #[lv] w fun e w' => ∃ g c, e = .returned (.slice (some ⟨g, 0, none⟩) n c) ∧ n + 12 ≤ c ∧ LentAt w w' g c n L (mk 1) := by
  obtain ⟨i0, hi, hz0, hz1, hz2⟩ := info_parts Tryd.infoU8
  obtain ⟨p, hp⟩ : ∃ p, p = n + 12 := ⟨_, rfl⟩
  have hmk := run_make (P := Tryd.prog) w 30 5 i0 (.int .u8 0) Tryd.underlying30 hi hz0 .i64 .i64 0 (p : Int) (by omega) (by omega) (by rw [hz2]; omega) (by omega)
  have f0 : Fr (fun _ => False) w (w.alloc (.cells (madeCells #[.int .u8 0] p) 5)) := Fr.alloc (Fr.refl _ _) _
  have hr0 : Row (w.alloc (.cells (madeCells #[.int .u8 0] p) 5)) 5 1 (.slice (some ⟨w.heap.size, 0, none⟩) 0 p) 0 [] :=
    ⟨rfl, .inr ⟨w.heap.size, p, madeCells #[.int .u8 0] p, rfl, Nat.zero_le _, (by rw [heap_alloc_get]; simp), Nat.zero_le _, (by unfold maxLen; omega), (by simp [size_madeCells]), rfl⟩⟩
  obtain ⟨a1, c1, W2, hrun, r2, f2, o2⟩ := lent_run (hl.fr f0 (fun _ _ h => h)) hr0 hn
  have hf2 : Fr (fun _ => False) w W2 := ((f0.mono (G := fun b => w.heap.size ≤ b) (fun _ _ h => h.elim)).trans f2 (fun b _ e => by subst e; exact Nat.le_refl _)).toNew
  have ho2 : ∀ b, (Value.slice a1 n c1).ownBlock = some b → w.heap.size ≤ b := by
    intro b hb
    rcases o2 b hb with h | h
    · omega
    · have := f0.size; omega
  obtain ⟨al, cl, rfl, hll, _⟩ := hl
  have hw1 : IntKind.i64.wrap ((n : Int) + 12) = (p : Int) := by rw [IntKind.wrap_i64]; omega
  have hw2 : (n : Int) + 12 = (p : Int) := by omega
  have hw3 : wrap64 ((n : Int) + 12) = (p : Int) := by unfold wrap64; omega
  have hpi : (p : Int) ≤ 140737488351244 := by omega
  have HM := Lib.hid hM
  have Hrun := Lib.hid hrun; have R2 := Lib.hid r2; have HF2 := Lib.hid hf2; have HO2 := Lib.hid ho2; have Hll := Lib.hid hll; have Hp := Lib.hid hp; have Hn := Lib.hid hn
  clear hM hrun r2 hf2 ho2 hll f0 hr0 f2 o2 hp
  go_enter Tryd.func28, Tryd.ntmps28
  go_upto_block 0 with (at_builtin; refine wpList_append_run rfl _ _ _ rfl rfl rfl Hrun.out ?_)
  clear Hrun hi hz0 hz1 hz2 hw1 hw2 hw3 hmk
  go_cut [3, 4] (fun s3 _ wx => ∃ g c, s3 = .slice (some ⟨g, 0, none⟩) (n + 12) c ∧ n + 12 ≤ c ∧ LentAt w wx g c n L (mk 1))
  case first =>
    go_wp2_with fail
    go_loopw [3, 4] (fun s3 s4 wr => ∃ i : Nat, s4 = .int .i64 i ∧ i ≤ 12 ∧ Row wr 5 1 s3 (L ++ mksB (mk 1) i).length ((L ++ mksB (mk 1) i).map u8v) ∧ (∀ b, s3.ownBlock = some b → w.heap.size ≤ b) ∧ Fr (fun _ => False) w wr) (fun _ s4 _ => 12 - (intOf s4).toNat)
    case atStart =>
      refine ⟨0, rfl, Nat.zero_le _, ?_, HO2.out, HF2.out⟩
      have : L ++ mksB (mk 1) 0 = L := by simp [mksB]
      rw [this]; exact R2.out
    case round =>
      obtain ⟨i, rfl, hi, hr, ho, hf⟩ := hrel
      rename_i s3 _
      by_cases hlt : i < 12
      · have hlt' : (i : Int) < 12 := by omega
        obtain ⟨a, c, W3, hrun, r3, f3, o3⟩ := app_byte (mk 1 i) hr (by rw [List.length_append, mksB_len, Hll.out]; have := Hn.out; omega)
        rw [List.append_assoc, ← mksB_succ] at r3
        have hf3 : Fr (fun _ => False) w W3 := ((hf.mono (G := fun b => w.heap.size ≤ b) (fun _ _ h => h.elim)).trans f3 (fun b _ e => ho b e)).toNew
        have ho3 : ∀ b, (Value.slice a ((L ++ mksB (mk 1) i).length + 1) c).ownBlock = some b → w.heap.size ≤ b := by
          intro b hb
          rcases o3 b hb with h | h
          · exact ho b h
          · have := hf.size; omega
        have Hrun := Lib.hid hrun; have R3 := Lib.hid r3; have HF3 := Lib.hid hf3; have HO3 := Lib.hid ho3; have Hlt := Lib.hid hlt
        have Hmk := Lib.hid (HM.out.ok wr 1 i (by omega) (by omega))
        clear hrun r3 hf3 ho3 f3 o3 hr ho hf hlt hi
        go_wp2_with fail
        refine Hmk.out.mono ?_
        rintro e w' ⟨rfl, rfl⟩
        go_wp2_with (at_builtin; refine wpList_append_run rfl _ _ _ rfl rfl rfl Hrun.out ?_)
        go_roundw
        case rel => exact ⟨i + 1, by first | (simp; done) | go_num, Hlt.out, by have := R3.out; rwa [List.length_append] at this, by have := HO3.out; rwa [List.length_append] at this, HF3.out⟩
        case measure => have := Hlt.out; simp [intOf]; omega
      · obtain rfl : i = 12 := by omega
        have Hr := Lib.hid hr; have Ho := Lib.hid ho; have Hf := Lib.hid hf
        clear hlt hr ho hf
        go_wp2_with fail
        go_meet
        have hr := Hr.out
        rw [List.length_append, mksB_len, Hll.out] at hr
        rcases hr.2 with ⟨_, h0⟩ | ⟨g, cap, cur, e, k0, k1, k2, k3⟩
        · omega
        · subst e
          exact ⟨g, cap, rfl, k2, hr, Hll.out, Ho.out g rfl, Hf.out⟩
  case rest =>
  obtain ⟨g, c, rfl, hgc, hle⟩ := hcut
  have HL := Lib.hid hle
  have hc1 : (n : Int) ≤ (c : Int) := by omega
  have hc2 : n ≤ c := by omega
  clear hle
  go_wp2_with fail
  go_ret
  exact ⟨g, c, rfl, hgc, HL.out⟩
end Go.Proofs.YtbfkmogibgchmaaDoor.Bt
