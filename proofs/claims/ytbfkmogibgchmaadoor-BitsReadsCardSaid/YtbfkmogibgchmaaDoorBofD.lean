/- BitsReads' walk. Conditions: the table of math/bits; the argument's length within the reach. -/
import Derived.Test.YtbfkmogibgchmaaDoorBofB
import Derived.Test.YtbfkmogibgchmaaDoorBlentC
import Derived.Test.YtbfkmogibgchmaaDoorBitZa
namespace Go.Proofs.YtbfkmogibgchmaaDoor.Bt
open Go.RowKit
theorem LentAt.lend {w w' : World} {g c n : Nat} {L : List Nat} {mk : Nat → Nat} (h : LentAt w w' g c n L mk) : Row w' 5 1 (.slice (some ⟨g, 0, none⟩) n c) n (L.map u8v) ∧ c ≤ 9223372036854775807 := by
  have hl := h.len
  rcases h.row with ⟨h1, h2 | ⟨g', cap, cur, e, h3, h4, h5, h6, h7, h8⟩⟩
  · obtain ⟨h2, _⟩ := h2; cases h2
  · simp only [Value.slice.injEq, Option.some.injEq, Addr.mk.injEq, and_true, true_and] at e
    obtain ⟨rfl, rfl⟩ := e
    refine ⟨⟨by simp [hl], .inr ⟨g, c, cur, rfl, h3, h4, by omega, h6, h7, ?_⟩⟩, by unfold maxLen at h6; omega⟩
    have := congrArg (List.take n) h8
    rw [List.take_take, List.map_append, List.take_left' (by simp [hl])] at this
    rw [Nat.mul_one] at this ⊢
    rw [← this, Nat.min_eq_left (by omega)]
theorem LentAt.keep {w w' w2 : World} {g c n : Nat} {L : List Nat} {mk : Nat → Nat} (h : LentAt w w' g c n L mk) (f : Fr (fun _ => False) w' w2) : LentAt w w2 g c n L mk :=
  ⟨Row.fr h.row f (fun _ _ h => h), h.len, h.new, h.fr.trans f (fun _ _ h => h)⟩
theorem LentAt.lt {w w' : World} {g c n : Nat} {L : List Nat} {mk : Nat → Nat} (h : LentAt w w' g c n L mk) : g < w'.heap.size := Row.lt h.row rfl
section
variable {w : World} {n : Int} {bv : Value} {L : List Nat} {m : Nat}
set_option maxRecDepth 100000 in
set_option maxHeartbeats 4000000 in
theorem reads_no (hT : TabOk w) (hb : BytesAt w bv L m) (hm : m ≤ 140737488351232) (f : Int) (hf1 : -1000 ≤ f) (hf2 : f ≤ 1000)
    (C1 : ∀ w v, Row w 5 1 v m (L.map u8v) → Calls Tryd.prog 29 #[.int .i64 n, v] w fun e w' => e = .returned (.tuple #[.pointer none, .int .i64 f]) ∧ Fr (fun _ => False) w w')
    (C2 : ∀ w, BytesAt w bv L m → Calls Tryd.prog 30 #[.int .i64 n, bv] w fun e w' => ∃ rh v, e = .returned (.tuple #[.pointer (some ⟨rh, 0, none⟩), .int .i64 f]) ∧ NewRef w w' rh v false []) :
    Calls Tryd.prog 6 #[.int .i64 n, bv] w fun e w' => e = .returned (.bool true) ∧ Fr (fun _ => False) w w' := by
  obtain ⟨mk, hM⟩ := marksB
  have HM := Lib.hid hM; have HT := Lib.hid hT; have HB := Lib.hid hb; have Hm := Lib.hid hm; have HC1 := Lib.hid C1; have HC2 := Lib.hid C2
  have hff : (f == f) = true := by simp
  have hff2 : (f != f) = false := by simp
  clear hM hT hb hm C1 C2
  go_enter Tryd.func6, Tryd.ntmps6
  go_wp2_with fail
  refine (awake_ok HT.out).mono ?_
  rintro e w1 ⟨rfl, f1⟩
  have F1 := Lib.hid f1; clear f1
  go_wp2_with fail
  refine (lent_ok HM.out (HB.out.fr F1.out (fun _ _ h => h)) Hm.out).mono ?_
  rintro e w2 ⟨g, c, rfl, hc, l2⟩
  have L2 := Lib.hid l2; have Hc := Lib.hid hc
  clear l2 hc
  go_wp2_with fail
  refine (HC1.out _ _ L2.out.lend.1).mono ?_
  rintro e w3 ⟨rfl, f3⟩
  have L3 := Lib.hid (L2.out.keep f3)
  clear f3
  go_wp2_with fail
  refine (HC2.out _ (HB.out.fr (F1.out.trans L3.out.fr (fun _ _ h => h)) (fun _ _ h => h))).mono ?_
  rintro e w4 ⟨rh, v, rfl, r4⟩
  have L4 := Lib.hid (L3.out.keep r4.fr); have R4 := Lib.hid r4; have G4 := Lib.hid L3.out.lt
  clear r4
  go_wp2_with fail
  refine (kept_ok HM.out L4.out.row (HB.out.fr (F1.out.trans L4.out.fr (fun _ _ h => h)) (fun _ _ h => h)) Hm.out Hc.out L4.out.lend.2).mono ?_
  rintro e w5 ⟨rfl, f5⟩
  have L5 := Lib.hid (L4.out.keep f5); have R5 := Lib.hid (R4.out.keep f5)
  clear f5
  go_wp2_with fail
  refine (over_ok HM.out L5.out.row Hm.out Hc.out).mono ?_
  rintro e w6 ⟨⟨v6, rfl⟩, f6⟩
  have R6 := Lib.hid (R5.out.at_.fr f6 (fun e => by have h1 := R5.out.new; have h2 := G4.out; omega) (fun b hb e => by have h1 := (R5.out.newv b hb).1; have h2 := G4.out; omega))
  have F6 := Lib.hid (F1.out.trans ((L5.out.fr.mono (G := fun b => w1.heap.size ≤ b) (fun _ _ h => h.elim)).trans f6 (fun b _ e => by subst e; exact L5.out.new)).toNew (fun _ _ h => h))
  have r0 := R6.out.c0
  clear f6
  go_wp2_with fail
  go_ret
  exact ⟨rfl, F6.out⟩
set_option maxRecDepth 100000 in
set_option maxHeartbeats 4000000 in
theorem reads_yes {q : Nat} (hn : n = (q : Int)) (hT : TabOk w) (hb : BytesAt w bv L m) (hm : m ≤ 140737488351232)
    (C1 : ∀ w v, Row w 5 1 v m (L.map u8v) → Calls Tryd.prog 29 #[.int .i64 n, v] w fun e w' => ∃ bh v, e = .returned (.tuple #[.pointer (some ⟨bh, 0, none⟩), .int .i64 0]) ∧ NewSet w w' bh v (setOf q L))
    (C2 : ∀ w, BytesAt w bv L m → Calls Tryd.prog 30 #[.int .i64 n, bv] w fun e w' => ∃ rh v, e = .returned (.tuple #[.pointer (some ⟨rh, 0, none⟩), .int .i64 0]) ∧ NewRef w w' rh v true (setOf q L)) :
    Calls Tryd.prog 6 #[.int .i64 n, bv] w fun e w' => e = .returned (.bool true) ∧ Fr (fun _ => False) w w' := by
  obtain ⟨mk, hM⟩ := marksB
  have HM := Lib.hid hM; have HT := Lib.hid hT; have HB := Lib.hid hb; have Hm := Lib.hid hm; have HC1 := Lib.hid C1; have HC2 := Lib.hid C2
  clear hM hT hb hm C1 C2 hn
  go_enter Tryd.func6, Tryd.ntmps6
  go_wp2_with fail
  refine (awake_ok HT.out).mono ?_
  rintro e w1 ⟨rfl, f1⟩
  have F1 := Lib.hid f1; clear f1
  go_wp2_with fail
  refine (lent_ok HM.out (HB.out.fr F1.out (fun _ _ h => h)) Hm.out).mono ?_
  rintro e w2 ⟨g, c, rfl, hc, l2⟩
  have L2 := Lib.hid l2; have Hc := Lib.hid hc; have G2 := Lib.hid l2.lt
  clear l2 hc
  go_wp2_with fail
  refine (HC1.out _ _ L2.out.lend.1).mono ?_
  rintro e w3 ⟨bh, bw, rfl, s3⟩
  have L3 := Lib.hid (L2.out.keep s3.fr); have S3 := Lib.hid s3
  clear s3
  go_wp2_with fail
  refine (HC2.out _ (HB.out.fr (F1.out.trans L3.out.fr (fun _ _ h => h)) (fun _ _ h => h))).mono ?_
  rintro e w4 ⟨rh, v, rfl, r4⟩
  have L4 := Lib.hid (L3.out.keep r4.fr); have R4 := Lib.hid r4; have G4 := Lib.hid L3.out.lt; have S4 := Lib.hid (S3.out.keep r4.fr)
  clear r4
  go_wp2_with fail
  refine (kept_ok HM.out L4.out.row (HB.out.fr (F1.out.trans L4.out.fr (fun _ _ h => h)) (fun _ _ h => h)) Hm.out Hc.out L4.out.lend.2).mono ?_
  rintro e w5 ⟨rfl, f5⟩
  have L5 := Lib.hid (L4.out.keep f5); have R5 := Lib.hid (R4.out.keep f5); have S5 := Lib.hid (S4.out.keep f5)
  clear f5
  go_wp2_with fail
  refine (over_ok HM.out L5.out.row Hm.out Hc.out).mono ?_
  rintro e w6 ⟨⟨v6, rfl⟩, f6⟩
  have R6 := Lib.hid (R5.out.at_.fr f6 (fun e => by have h1 := R5.out.new; have h2 := G4.out; omega) (fun b hb e => by have h1 := (R5.out.newv b hb).1; have h2 := G4.out; omega))
  have S6 := Lib.hid (S5.out.at_.fr f6 (fun e => by have h1 := S5.out.new; have h2 := G2.out; omega) (fun b hb e => by have h1 := (S5.out.newv b hb).1; have h2 := G2.out; omega))
  have F6 := Lib.hid (F1.out.trans ((L5.out.fr.mono (G := fun b => w1.heap.size ≤ b) (fun _ _ h => h.elim)).trans f6 (fun b _ e => by subst e; exact L5.out.new)).toNew (fun _ _ h => h))
  have r0 := R6.out.c0
  clear f6
  go_wp2_with fail
  refine (is_ok (HT.out.fr F6.out (fun h => h)) S6.out R6.out).mono ?_
  rintro e w7 ⟨rfl, f7⟩
  have F7 := Lib.hid (F6.out.trans f7 (fun _ _ h => h))
  clear f7
  go_wp2_with fail
  go_ret
  exact ⟨rfl, F7.out⟩
end
theorem reads_walk (w : World) (hT : TabOk w) (n : Int) (_hn : Fits n) {bv : Value} {L : List Nat} {m : Nat} (hb : BytesAt w bv L m) (hby : ∀ b ∈ L, b < 256) (hm : m ≤ 140737488351232) :
    Calls Tryd.prog 6 #[.int .i64 n, bv] w fun e w' => e = .returned (.bool true) ∧ Fr (fun _ => False) w w' := by
  by_cases h : n < 0 ∨ 65536 < n
  · exact reads_no hT hb hm 2 (by decide) (by decide) (fun w v hr => of_err hr h) (fun w h' => rof_err h)
  · obtain ⟨q, rfl⟩ : ∃ q : Nat, n = (q : Int) := ⟨n.toNat, by omega⟩
    have h6 : q ≤ 65536 := by omega
    have hL : L.length = m := by obtain ⟨_, _, _, e, _⟩ := hb; exact e
    by_cases hl : m = nb q
    · have hmi := more_iff (bs := L) (n := q) (by rw [hL]; exact hl) hby
      by_cases hF : highF q L
      · exact reads_yes rfl hT hb hm (fun w v hr => of_ok hr hby h6 hl (by have := hmi.1 hF; rw [hL] at this; exact this))
          (fun w h' => (rof_run h' hby h6 hl).mono (fun e w' h2 => by
            rcases h2 with ⟨_, rh, g, c, rfl, hr⟩ | ⟨h3, _⟩
            · exact ⟨rh, _, rfl, hr⟩
            · exact absurd hF h3))
      · have hne : ¬ (q % 8 = 0 ∨ L.getD (m - 1) 0 / 2 ^ (q % 8) = 0) := fun h2 => hF (hmi.2 (by rw [hL]; exact h2))
        exact reads_no hT hb hm 5 (by decide) (by decide) (fun w v hr => of_more hr h6 hl (by omega) (fun h2 => hne (.inr h2)))
          (fun w h' => (rof_run h' hby h6 hl).mono (fun e w' h2 => by
            rcases h2 with ⟨h3, _⟩ | ⟨_, rh, v, rfl, hr⟩
            · exact absurd h3 hF
            · exact ⟨rh, v, rfl, hr⟩))
    · exact reads_no hT hb hm 3 (by decide) (by decide) (fun w v hr => of_long hr h6 hl) (fun w h' => rof_long h' h6 hl)
end Go.Proofs.YtbfkmogibgchmaaDoor.Bt
