/- Waiting parties: equal structs, SameWaits, told, is. No condition. -/
import Derived.Test.YtjfnaflbhmeokaaWtX
namespace Go.Proofs.Ytjfnaflbhmeokaa.Wt
open Go.Shelf Go.RowKit
attribute [local go_sem] Oper.semAt_some
theorem equalW (w : World) (a b c d a' b' c' d' : Int) : (Op.equalIn 10000 32 (rawW a b c d) (rawW a' b' c' d')).run Try.prog w = .ok (a == a' && (b == b' && (c == c' && d == d'))) w := by
  rw [run_equalIn_agg (P := Try.prog) w 9999 32 _ _ (by kernel_rfl) Try.stoodInHeld32]
  have hf : (Try.prog.fieldsOf 32).toList.map (fun f => (decide (f.name = "_"), f.type, f.offset)) = [(false, 30, 0), (false, 3, 1), (false, 3, 2), (false, 2, 3)] := by kernel_rfl
  revert hf
  generalize (Try.prog.fieldsOf 32).toList = fs
  intro hf
  rcases fs with _ | ⟨f1, _ | ⟨f2, _ | ⟨f3, _ | ⟨f4, _ | ⟨f5, fs⟩⟩⟩⟩⟩
  · simp at hf
  · simp at hf
  · simp at hf
  · simp at hf
  · simp only [List.map_cons, List.map_nil, List.cons.injEq, Prod.mk.injEq, and_true] at hf
    obtain ⟨⟨a1, a2, a3⟩, ⟨b1, b2, b3⟩, ⟨c1, c2, c3⟩, d1, d2, d3⟩ := hf
    cases h1 : (a == a') <;> cases h2 : (b == b') <;> cases h3 : (c == c') <;> cases h4 : (d == d') <;>
      simp [Op.eqFields, of_decide_eq_false a1, of_decide_eq_false b1, of_decide_eq_false c1, of_decide_eq_false d1, a2, a3, b2, b3, c2, c3, d2, d3, go_sem, h1, h2, h3, h4]
  · simp at hf
theorem eqW_iff (x y : Int) : (wW x == wW y && (wS x == wS y && (wT x == wT y && wC x == wC y))) = decide (x = y) := by
  by_cases e : x = y
  · subst e; simp
  · rw [decide_eq_false e]
    cases h : (wW x == wW y && (wS x == wS y && (wT x == wT y && wC x == wC y))) with
    | false => rfl
    | true =>
      simp only [Bool.and_eq_true, beq_iff_eq] at h
      exact absurd (wt_inj h.1 h.2.1 h.2.2.1 h.2.2.2) e
theorem neqW (w : World) (x y : Int) : (binOp .neq 32 (wtV x) (wtV y)).run Try.prog w = .ok (.bool (!decide (x = y))) w := by
  rw [run_neq_struct, equalW, eqW_iff]; rfl
theorem eqlW (w : World) (x y : Int) : (binOp .eql 32 (wtV x) (wtV y)).run Try.prog w = .ok (.bool (decide (x = y))) w := by
  rw [run_eql_struct, equalW, eqW_iff]; rfl
theorem take_next {L M : List Int} {k : Nat} (h : L.take k = M.take k) (hl : k < L.length) (hm : k < M.length) (e : L.getD k 0 = M.getD k 0) : L.take (k + 1) = M.take (k + 1) := by
  rw [← take_snocS hl, ← take_snocS hm, h, e]
set_option maxRecDepth 100000 in
set_option maxHeartbeats 2000000 in
theorem same_ok {w : World} {va vb : Value} {L M : List Int} (h1 : Wts w va L) (h2 : Wts w vb M) (hn : L.length ≤ 1000000) (hm : M.length ≤ 1000000) : Calls Try.prog 43 #[va, vb] w fun e w' => e = .returned (.bool (decide (L = M))) ∧ Fr (fun _ => False) w w' := by
  obtain ⟨a1, c1, e1⟩ : ∃ a c, va = .slice a L.length c := by
    rcases h1.2 with ⟨rfl, h0⟩ | ⟨g, cap, cur, rfl, _⟩
    · exact ⟨none, 0, by rw [h0]⟩
    · exact ⟨_, _, rfl⟩
  obtain ⟨a2, c2, e2⟩ : ∃ a c, vb = .slice a M.length c := by
    rcases h2.2 with ⟨rfl, h0⟩ | ⟨g, cap, cur, rfl, _⟩
    · exact ⟨none, 0, by rw [h0]⟩
    · exact ⟨_, _, rfl⟩
  subst e1; subst e2
  obtain ⟨n, hnn⟩ : ∃ n, n = L.length := ⟨_, rfl⟩
  obtain ⟨m, hmm⟩ : ∃ m, m = M.length := ⟨_, rfl⟩
  rw [← hnn] at h1 hn
  rw [← hmm] at h2 hm
  rw [← hnn, ← hmm]
  by_cases hlen : n = m
  · subst hlen
    have H1 := Lib.hid h1; have H2 := Lib.hid h2; have HN := Lib.hid hnn; have HMm := Lib.hid hmm; have Hn6 := Lib.hid hn
    have hne : ((n : Int) != (n : Int)) = false := by simp
    clear h1 h2 hnn hmm hm hn
    go_enter Try.func43, Try.ntmps43
    go_wp2_with fail
    go_loopw [5] (fun s5 wr => ∃ k : Nat, k ≤ n ∧ s5 = .int .i64 k ∧ L.take k = M.take k ∧ Fr (fun _ => False) w wr) (fun s5 _ => n - (intOf s5).toNat)
    case atStart => exact ⟨0, Nat.zero_le _, rfl, rfl, Fr.refl _ _⟩
    case round =>
      obtain ⟨k, hk, rfl, htk, hfr⟩ := hrel
      have Htk := Lib.hid htk; have Hfr := Lib.hid hfr
      clear htk hne
      by_cases hlt : k < n
      · have hlt' : (k : Int) < (n : Int) := by omega
        have k0 : (0 : Int) ≤ (k : Int) := by omega
        have hL' : Wts wr (.slice a1 n c1) L := by have := H1.out; exact Row.fr this hfr (fun _ _ h => h)
        have hM' : Wts wr (.slice a2 n c2) M := by have := H2.out; exact Row.fr this hfr (fun _ _ h => h)
        obtain ⟨g, cap, e1, d0, d1, d2, d3⟩ := hL'.cells (k := k) (by rw [← HN.out]; exact hlt)
        obtain ⟨g', cap', e2, b0, b1, b2, b3⟩ := hM'.cells (k := k) (by rw [← HMm.out]; exact hlt)
        simp only [Value.slice.injEq] at e1 e2
        obtain ⟨rfl, -, rfl⟩ := e1
        obtain ⟨rfl, -, rfl⟩ := e2
        obtain ⟨x, hx⟩ : ∃ x, x = L.getD k 0 := ⟨_, rfl⟩
        obtain ⟨y, hy⟩ : ∃ y, y = M.getD k 0 := ⟨_, rfl⟩
        rw [← hx] at d0 d1 d2 d3
        rw [← hy] at b0 b1 b2 b3
        have hq := fun W => neqW W x y
        obtain ⟨k1, hk1⟩ : ∃ k1, k1 = k + 1 := ⟨_, rfl⟩
        have e1 : (k : Int) + 1 = (k1 : Int) := by omega
        have e2 : wrap64 (k1 : Int) = (k1 : Int) := by unfold wrap64; have := Hn6.out; omega
        have e3 : IntKind.i64.wrap (k1 : Int) = (k1 : Int) := by rw [IntKind.wrap_i64]; have := Hn6.out; omega
        have HX := Lib.hid hx; have HY := Lib.hid hy; have HK1 := Lib.hid hk1; have Hlt := Lib.hid hlt
        clear hx hy hk1 hlt hk hL' hM' hfr
        by_cases e : x = y
        · rw [decide_eq_true e] at hq
          have He := Lib.hid e
          clear e
          go_upto_region 6 with fail
          go_still (by kernel_rfl)
          go_wp2_with fail
          go_roundw
          case rel => exact ⟨k1, by have := HK1.out; have := Hlt.out; omega, rfl, by rw [HK1.out]; exact take_next Htk.out (by rw [← HN.out]; exact Hlt.out) (by rw [← HMm.out]; exact Hlt.out) (by rw [← HX.out, ← HY.out]; exact He.out), Hfr.out.drew⟩
          case measure => have := HK1.out; have := Hlt.out; simp [intOf]; omega
        · rw [decide_eq_false e] at hq
          have He := Lib.hid e
          clear e
          go_upto_region 6 with fail
          go_still (by kernel_rfl)
          go_wp2_with fail
          go_ret
          refine ⟨?_, Hfr.out.drew⟩
          have : ¬ L = M := fun h => He.out (by rw [HX.out, HY.out, h])
          rw [decide_eq_false this]; rfl
      · obtain rfl : k = n := by omega
        clear hlt hk
        go_wp2_with fail
        go_ret
        refine ⟨?_, Hfr.out⟩
        have : L = M := by
          have := Htk.out
          rw [List.take_of_length_le (by rw [← HN.out]; exact Nat.le_refl _), List.take_of_length_le (by rw [← HMm.out]; exact Nat.le_refl _)] at this
          exact this
        rw [decide_eq_true this]; rfl
  · have hd : decide (L = M) = false := decide_eq_false (fun e => hlen (by rw [hnn, hmm, e]))
    rw [hd]
    have hne : ((n : Int) != (m : Int)) = true := by simp; omega
    clear h1 h2 hnn hmm hm hn hd hlen
    go_enter Try.func43, Try.ntmps43
    go_wp2_with fail
    go_ret
    exact ⟨rfl, Fr.refl _ _⟩
/-- What told hands back. -/
def ToldOf (w : World) (S : List Int) (e : Ending) (w' : World) : Prop := ∃ v, e = .returned (.tuple #[v, .bool true]) ∧ Wts w' v S ∧ (∀ b, v.ownBlock = some b → w.heap.size ≤ b) ∧ Fr (fun _ => False) w w'
set_option maxRecDepth 100000 in
set_option maxHeartbeats 4000000 in
theorem told_ok {w : World} {x : Value} {S : List Int} (hL : S.length ≤ 2000) (hA : ∀ w1, Fr (fun _ => False) w w1 → Calls Try.prog 81 #[x] w1 (VAllOf w1 S)) :
    Calls Try.prog 46 #[x] w (ToldOf w S) := by
  have hro : Fence.wide.round = none := rfl
  have h13 : 1 ≤ 3 := by omega
  obtain ⟨W0, hW0⟩ : ∃ W0, W0 = w.alloc (.cells #[.slice none 0 0] 26) := ⟨_, rfl⟩
  have f0 : Fr (fun _ => False) w W0 := by rw [hW0]; exact Fr.alloc (Fr.refl _ _) _
  have hsz : W0.heap.size = w.heap.size + 1 := by rw [hW0]; simp
  have ht0 : Told w.heap.size w.heap.size [] W0 (.slice none 0 0) := by
    rw [hW0]
    exact ⟨heap_alloc_at _ _, World.ownsRow_nil _ _ _ _, by simp [Value.ownBlock]⟩
  have HA := Lib.hid (hA W0 f0)
  have F0 := Lib.hid f0; have HT0 := Lib.hid ht0; have Hsz := Lib.hid hsz; have HL := Lib.hid hL
  clear hL hA f0 hsz ht0
  refine (callsIn_wide (n := 3)).1 (callsIn_of_wp_marks Try.func46 rfl trivial ?_ hro)
  refine wpIn_wide.2 ?_
  simp only [Try.ntmps46, List.size_toArray, List.length_cons, List.length_nil, Nat.reduceAdd, Nat.reduceSub, Array.replicate_succ, Array.replicate_zero, List.push_toArray, List.append_toArray, List.nil_append, List.cons_append]
  go_wp2_with fail
  rw [← hW0]
  clear hW0
  refine HA.out.mono ?_
  rintro e W1 ⟨cb, sv, rfl, hs, hnew, hf1⟩
  have q := fun w => run_eql_func_nil (P := Try.prog) Try.underlying136 w (.func 129) #[] #[.pointer (some ⟨cb, 0, none⟩)]
  obtain ⟨n1, hn1⟩ : ∃ n1, n1 = W1.heap.size := ⟨_, rfl⟩
  have ht1 := HT0.out.fr hf1 (fun h => h) (fun _ _ _ h => h)
  have ht1 : Told n1 w.heap.size [] W1 (.slice none 0 0) := ⟨ht1.box, ht1.row, by simp [Value.ownBlock]⟩
  have HS := Lib.hid hs; have HT1 := Lib.hid ht1; have Hn1 := Lib.hid hn1
  have Hq := Lib.hid (show ∀ b, seqP cb sv b → w.heap.size + 1 ≤ b ∧ b < n1 from fun b hb => ⟨by have := hnew b hb; have := Hsz.out; omega, by rw [hn1]; exact hs.lt b hb⟩)
  have F1 := Lib.hid (F0.out.trans hf1 (fun _ _ h => h))
  have Hsz1 := Lib.hid (show w.heap.size + 1 ≤ n1 by have := hf1.size; have := Hsz.out; omega)
  clear hs hnew hf1 ht1 hn1
  go_wp2_with fail
  refine (wpIn_wide (n := 3)).1 ?_
  refine range_boxed hro h13 (gf := 129) (lb := #[.pointer (some ⟨cb, 0, none⟩)]) rfl trivial (enters_of Try.func129 (by kernel_rfl) rfl)
    (vals_stops Fence.wide (3 - 1) trivial hro (by omega) HS.out (seqP cb sv) (fun _ h => h)) (fun b hb => by have := Hq.out b hb; have := Hn1.out; omega) (Below.refl _ _) (fun _ => rfl)
    (fun pre W => (∃ v, Told n1 w.heap.size pre W v) ∧ Fr (fun b => w.heap.size ≤ b) W1 W)
    (fun _ _ _ => False)
    ?own ?ownx ⟨⟨_, HT1.out⟩, Fr.refl _ _⟩ (fun _ _ h => h.2.size) (fun x => #[.int .u32 (wW x), .int .i64 (wS x), .int .i64 (wT x), .int .i64 (wC x)]) 32 ?a1 ?assign ?body ?done ?stop
  case own =>
    rintro s A B' row ⟨⟨v, hs⟩, hf⟩ hg hr
    have f := grownBy.fr hg
    refine ⟨⟨v, hs.grown hg (fun r e => (hr r e).2)⟩, hf.trans f ?_⟩
    intro i hi e; have := (hr _ e).1; have := Hsz1.out; have := Hn1.out; omega
  case ownx =>
    intro c s A B' row hs _ _
    exact hs
  case assign =>
    intro l x W' K hK
    obtain ⟨b, hb⟩ : ∃ b, b = W'.heap.size := ⟨_, rfl⟩
    gi_wp2
    rw [← hb]
    exact hK b hb
  case body =>
    rintro l pre x b W' hbw hbx ⟨⟨v, ht⟩, hfr⟩ hlt
    have hnW : n1 ≤ W'.heap.size := by have := hfr.size; have := Hn1.out; omega
    obtain ⟨a, c, W2, hrun, g1, g2, g3, g4⟩ := ht.app hnW (by have := HL.out; omega) x
    have c3 := (cell_of ht.box 0).trans (show _ = some v from rfl)
    have c4 := (cell_of g1 0).trans (show _ = some v from rfl)
    have y4 := free_of g1 0
    obtain ⟨x0, x1, x2, x3⟩ := boxW_cells hbx
    have hkb : KeepsB (seqP cb sv) W' (W2.setCell ⟨w.heap.size, 0, none⟩ (.slice a (pre.length + 1) c)) := KeepsB.of_fr g3 (fun b hb => by have := Hq.out b hb; omega)
    have hfw := hfr.trans g3 (fun b _ h => show w.heap.size ≤ b by have := Hsz1.out; omega)
    have Hrun := Lib.hid hrun; have G2 := Lib.hid g2; have Hko := Lib.hid g4; have Hkb := Lib.hid hkb; have Hfw := Lib.hid hfw
    clear hrun g1 g2 g3 g4 ht hfr hkb hfw hlt hnW hbx hbw
    gi_wp2_with (gi_at_builtin; refine wpListIn_append_run rfl _ _ 26 rfl rfl rfl Hrun.out ?_)
    exact ⟨Hko.out.from _, Hkb.out, ⟨_, G2.out⟩, Hfw.out⟩
  case done =>
    rintro D ys W' hD rfl ⟨⟨v, ht⟩, hfr⟩ hK
    have hD1 : w.heap.size ≤ D := by have := Hsz1.out; have := Hn1.out; omega
    have c3 := (cell_of ht.box 0).trans (show _ = some v from rfl)
    have hvD : v.ownBlock ≠ some D := by
      intro e
      obtain ⟨c, t, z, h3⟩ := row_obj ht.row e
      rw [hK] at h3; cases h3
    have HT := Lib.hid ht; have Hfr := Lib.hid hfr; have HK := Lib.hid hK; have HD1 := Lib.hid hD1; have HvD := Lib.hid hvD
    clear ht hfr hK hD hD1 hvD
    go_wp2_with fail
    refine ⟨by simp, .inl ⟨_, _, rfl, run_takeDeferred HK.out, ?_⟩⟩
    have fD := putObj_fr W' D (.deferred none)
    refine ⟨.tuple #[v, .bool true], ?_, v, rfl, Row.fr HT.out.row fD (fun b hb e => HvD.out (e ▸ hb)), ?_, ?_⟩
    · simp [results, Try.results46, Try.f46, go_sem]
    · intro b hb; have := (HT.out.own b hb).1; have := Hsz1.out; omega
    · exact Fr.toNew (((F1.out.mono (fun _ _ h => h.elim)).trans Hfr.out (fun b _ h => h)).trans fD (fun b _ e => by subst e; exact HD1.out))
  case stop =>
    rintro D c pre W' hD hpre h hK
    exact h.elim
set_option maxRecDepth 100000 in
theorem is_ok {w : World} {x v : Value} {S M : List Int} (hL : S.length ≤ 2000) (hA : ∀ w1, Fr (fun _ => False) w w1 → Calls Try.prog 81 #[x] w1 (VAllOf w1 S)) (hv : Wts w v M) (hM : M.length ≤ 1000000) :
    Calls Try.prog 11 #[x, v] w fun e w' => e = .returned (.bool (decide (S = M))) ∧ Fr (fun _ => False) w w' := by
  have HT := Lib.hid (told_ok hL hA); have HV := Lib.hid hv; have HL := Lib.hid hL; have HMl := Lib.hid hM
  clear hA hv hL hM
  go_enter Try.func11, Try.ntmps11
  go_wp2_with fail
  refine HT.out.mono ?_
  rintro e w1 ⟨tv, rfl, h1, h2, h3⟩
  have HS := Lib.hid (same_ok h1 (Row.fr HV.out h3 (fun _ _ h => h)) (by have := HL.out; omega) HMl.out)
  have H3 := Lib.hid h3
  clear h1 h2 h3
  go_wp2_with fail
  refine HS.out.mono ?_
  rintro e w2 ⟨rfl, h4⟩
  have H4 := Lib.hid h4
  clear h4
  go_wp2_with fail
  go_ret
  exact ⟨rfl, H3.out.trans H4.out (fun _ _ h => h)⟩
end Go.Proofs.Ytjfnaflbhmeokaa.Wt
