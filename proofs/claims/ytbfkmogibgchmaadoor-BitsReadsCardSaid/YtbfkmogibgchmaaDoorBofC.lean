/- The document's Of. No condition. -/
import Derived.Test.YtbfkmogibgchmaaDoorBofA
import Derived.Test.YtbfkmogibgchmaaDoorBitZf
namespace Go.Proofs.YtbfkmogibgchmaaDoor.Bt
open Go.RowKit
/-- The set while the bits ahead of i are laid. -/
def setTo (m : Nat) (L : List Nat) (i : Nat) : List Bool := (List.range m).map (fun p => decide (p < i) && bitOf L p)
theorem setTo_length (m : Nat) (L : List Nat) (i : Nat) : (setTo m L i).length = m := by simp [setTo]
theorem setTo_zero (m : Nat) (L : List Nat) : setTo m L 0 = List.replicate m false := by
  apply List.ext_getElem
  · simp [setTo]
  · intro i h1 h2; simp [setTo]
theorem setTo_all {m : Nat} {L : List Nat} {i : Nat} (h : m ≤ i) : setTo m L i = setOf m L := by
  unfold setTo setOf
  apply List.map_congr_left
  intro p hp
  have : p < i := by have := List.mem_range.1 hp; omega
  simp [this]
theorem setTo_off {m : Nat} {L : List Nat} {i : Nat} (h : bitOf L i = false) : setTo m L (i + 1) = setTo m L i := by
  unfold setTo
  apply List.map_congr_left
  intro p _
  by_cases e : p = i
  · subst e; rw [h]; simp
  · have : (p < i + 1) = (p < i) := by apply propext; omega
    simp [this]
theorem setTo_on {m : Nat} {L : List Nat} {i : Nat} (h : bitOf L i = true) (hi : i < m) : setTo m L (i + 1) = (setTo m L i).set i true := by
  apply List.ext_getElem?
  intro p
  rw [List.getElem?_set]
  by_cases hp : p < m
  · by_cases e : i = p
    · subst e; simp [setTo, hi, h]
    · have : (p < i + 1) = (p < i) := by apply propext; omega
      simp [setTo, hp, e, this]
  · have : ¬ i = p := by omega
    simp [setTo, hp, this]
theorem bit8 {x r : Nat} (hx : x < 256) : bits BinOp.and IntKind.u8 ((x : Int) / 2 ^ r) 1 = if x.testBit r then 1 else 0 := by
  have h := (bits_nat .u8 8 (by decide) wraps_u8 (x / 2 ^ r) 1 (Nat.lt_of_le_of_lt (Nat.div_le_self _ _) hx) (by decide)).1
  have e : x / 2 ^ r &&& 1 = x / 2 ^ r % 2 := Nat.and_one_is_mod _
  rw [shr_nat, show (1 : Int) = ((1 : Nat) : Int) from rfl, h, e, Nat.testBit_eq_decide_div_mod_eq]
  by_cases h2 : x / 2 ^ r % 2 = 1
  · simp [h2]
  · have : x / 2 ^ r % 2 = 0 := by omega
    simp [this]
def highF (m : Nat) (L : List Nat) : Prop := ∀ p, m ≤ p → p < 8 * L.length → bitOf L p = false
/-- Some bytes, wherever they lie. -/
def BytesAt (w : World) (v : Value) (L : List Nat) (n : Nat) : Prop := ∃ a c, v = .slice a n c ∧ L.length = n ∧ ∀ i, i < n → ∃ g o, a = some ⟨g, o, none⟩ ∧ w.cell? ⟨g, o + i, none⟩ = some (.int .u8 ((L.getD i 0 : Nat) : Int))
theorem BytesAt.row {w : World} {v : Value} {L : List Nat} {n : Nat} (h : Row w 5 1 v n (L.map u8v)) : BytesAt w v L n := by
  obtain ⟨a, c, e, hl, hc⟩ := row_u8 h
  exact ⟨a, c, e, hl, fun i hi => by obtain ⟨g, e1, e2⟩ := hc i hi; exact ⟨g, 0, e1, by rw [Nat.zero_add]; exact e2⟩⟩
theorem BytesAt.fr {w w' : World} {v : Value} {L : List Nat} {n : Nat} (h : BytesAt w v L n) {F : Nat → Prop} (f : Fr F w w') (hn : ∀ b, b < w.heap.size → ¬ F b) : BytesAt w' v L n := by
  obtain ⟨a, c, e, hl, hc⟩ := h
  refine ⟨a, c, e, hl, fun i hi => ?_⟩
  obtain ⟨g, o, e1, e2⟩ := hc i hi
  have hlt := World.block_lt_of_cell? _ _ e2
  exact ⟨g, o, e1, (f.cell hlt (hn _ hlt)).trans e2⟩
section
variable {w : World} {bv : Value} {L : List Nat}
set_option maxRecDepth 100000 in
theorem rof_err {n : Int} (h : n < 0 ∨ 65536 < n) : Calls Tryd.prog 30 #[.int .i64 n, bv] w fun e w' => ∃ rh v, e = .returned (.tuple #[.pointer (some ⟨rh, 0, none⟩), .int .i64 2]) ∧ NewRef w w' rh v false [] := by
  have HC := Lib.hid (rnew_err w h)
  clear h
  go_enter Tryd.func30, Tryd.ntmps30
  go_wp2_with fail
  refine HC.out.mono ?_
  rintro e w1 ⟨rh, v, rfl, hr⟩
  have Hr := Lib.hid hr
  clear hr
  go_wp2_with fail
  refine bodyPost_ret (v := .tuple #[.pointer (some ⟨rh, 0, none⟩), .int .i64 2]) ?_ rfl ⟨rh, v, rfl, Hr.out⟩
  simp [results, Tryd.results30, Tryd.f30, go_sem]
set_option maxRecDepth 100000 in
theorem rof_long {n8 : Nat} (hb : BytesAt w bv L n8) {m : Nat} (h6 : m ≤ 65536) (hl : n8 ≠ nb m) : Calls Tryd.prog 30 #[.int .i64 m, bv] w fun e w' => ∃ rh v, e = .returned (.tuple #[.pointer (some ⟨rh, 0, none⟩), .int .i64 3]) ∧ NewRef w w' rh v false [] := by
  obtain ⟨a, c, rfl⟩ : ∃ a c, bv = .slice a n8 c := by obtain ⟨a, c, e, _⟩ := hb; exact ⟨a, c, e⟩
  have HC := Lib.hid (rnew_some w (n := (m : Int)) (by omega) (by omega))
  obtain ⟨q, hq⟩ : ∃ q, q = nb m := ⟨_, rfl⟩
  have hq1 : wrap64 (((m : Int) + 7) / 8) = (q : Int) := by rw [hq]; unfold nb wrap64; omega
  have hqt : ((m : Int) + 7).tdiv 8 = (q : Int) := by rw [Int.tdiv_eq_ediv_of_nonneg (by omega), hq]; unfold nb; omega
  have hm6 : (m : Int) ≤ 65536 := by omega
  have b1 : ((n8 : Int) == (q : Int)) = false := by simp; omega
  have b2 : ((n8 : Int) != (q : Int)) = true := by simp; omega
  have hqb : (q : Int) ≤ 10000 := by rw [hq]; unfold nb; omega
  have b3 : ¬ n8 = q := by omega
  have b4 : ¬ (n8 : Int) = (q : Int) := by omega
  clear hb hq hl
  go_enter Tryd.func30, Tryd.ntmps30
  go_wp2_with fail
  refine HC.out.mono ?_
  rintro e w1 ⟨rh, g, c', rfl, hr⟩
  have Hr := Lib.hid hr
  clear hr
  go_wp2_with fail
  have hn := ref_none w1
  have hn2 : NewRef w _ w1.heap.size (.slice none 0 0) false [] := ⟨hn.at_, Nat.le_trans Hr.out.fr.size hn.new, by simp [Value.ownBlock], Hr.out.fr.trans hn.fr (fun _ _ h => h)⟩
  refine bodyPost_ret (v := .tuple #[.pointer (some ⟨w1.heap.size, 0, none⟩), .int .i64 3]) ?_ rfl ⟨_, _, rfl, hn2⟩
  simp [results, Tryd.results30, Tryd.f30, go_sem]
set_option maxRecDepth 100000 in
set_option maxHeartbeats 4000000 in
theorem rof_run {n8 : Nat} (hb : BytesAt w bv L n8) (hby : ∀ b ∈ L, b < 256) {m : Nat} (h6 : m ≤ 65536) (hl : n8 = nb m) :
    Calls Tryd.prog 30 #[.int .i64 m, bv] w fun e w' => (highF m L ∧ ∃ rh g c, e = .returned (.tuple #[.pointer (some ⟨rh, 0, none⟩), .int .i64 0]) ∧ NewRef w w' rh (.slice (some ⟨g, 0, none⟩) m c) true (setOf m L)) ∨
      (¬ highF m L ∧ ∃ rh v, e = .returned (.tuple #[.pointer (some ⟨rh, 0, none⟩), .int .i64 5]) ∧ NewRef w w' rh v false []) := by
  have HBy := Lib.hid hby
  obtain ⟨a, c, rfl, hL, hcl⟩ := hb
  have HC := Lib.hid (rnew_some w (n := (m : Int)) (by omega) (by omega))
  have hq1 : wrap64 (((m : Int) + 7) / 8) = (n8 : Int) := by rw [hl]; unfold nb wrap64; omega
  have hqt : ((m : Int) + 7).tdiv 8 = (n8 : Int) := by rw [Int.tdiv_eq_ediv_of_nonneg (by omega), hl]; unfold nb; omega
  have hm6 : (m : Int) ≤ 65536 := by omega
  have Hn6 : (n8 : Int) ≤ 10000 := by rw [hl]; unfold nb; omega
  have HL := Lib.hid hL; have Hl := Lib.hid hl; have Hcl := Lib.hid hcl
  clear hby hL hl hcl h6
  go_enter Tryd.func30, Tryd.ntmps30
  go_wp2_with fail
  refine HC.out.mono ?_
  rintro e w1 ⟨rh, g2, c2, rfl, hr⟩
  rw [Int.toNat_natCast] at hr
  have N1 := Lib.hid hr
  clear hr
  go_upto_block 0 with fail
  go_cut [8] (fun _ wx => NewRef w wx rh (.slice (some ⟨g2, 0, none⟩) m c2) true (setOf m L) ∧ highF m L)
  case first =>
    go_wp2_with fail
    go_loopw [8] (fun s8 wr => ∃ i : Nat, s8 = .int .i64 i ∧ i ≤ 8 * n8 ∧ NewRef w wr rh (.slice (some ⟨g2, 0, none⟩) m c2) true (setTo m L i) ∧ ∀ p, m ≤ p → p < i → bitOf L p = false) (fun s8 _ => 8 * n8 - (intOf s8).toNat)
    case atStart => exact ⟨0, rfl, Nat.zero_le _, by rw [setTo_zero]; exact N1.out, fun p _ h => by omega⟩
    case round =>
      obtain ⟨i, rfl, hi, hN, hF⟩ := hrel
      have HN := Lib.hid hN; have HF := Lib.hid hF
      clear hN hF
      by_cases hlt : i < 8 * n8
      · have hlt' : (i : Int) < 8 * (n8 : Int) := by omega
        obtain ⟨q, r, s, hq8, hqw, hr8, hrt, hs8, hqq, hss, hs64⟩ := parts8 i (by omega)
        have hrr : r = i % 8 := by omega
        have hr7 : (r : Int) < 8 := by omega
        have hr0 : (0 : Int) ≤ (r : Int) := by omega
        have hqn : q < n8 := by omega
        have hqn' : (q : Int) < (n8 : Int) := by omega
        obtain ⟨g, o, rfl, kc⟩ := Hcl.out q hqn
        have kc1 := (HN.out.fr.cell (World.block_lt_of_cell? _ _ kc) (fun h => h)).trans kc
        have hx256 := getD_mem (i := q) HBy.out
        have hbt := bit8 (r := r) hx256
        have hbo : (L.getD q 0).testBit r = bitOf L i := by unfold bitOf; rw [hqq, hrr]
        rw [hbo] at hbt
        obtain ⟨x, hxe⟩ : ∃ x, x = L.getD q 0 := ⟨_, rfl⟩
        rw [← hxe] at kc1 hbt hx256
        have Hlt := Lib.hid hlt
        have hx255 : (x : Int) ≤ 255 := by omega
        have d1 := HN.out.at_.c1
        have i6 : (i : Int) ≤ 80000 := by omega
        cases hbi : bitOf L i with
        | false =>
          rw [hbi] at hbt
          simp only [Bool.false_eq_true, if_false] at hbt
          have Hbi := Lib.hid hbi
          clear kc hbo hxe hbi hlt hqq hrr hss hi
          go_wp2_with fail
          go_roundw
          case rel =>
            refine ⟨i + 1, by first | (simp; done) | go_num, Hlt.out, by rw [setTo_off Hbi.out]; exact HN.out, ?_⟩
            intro p h1 h2
            by_cases e : p = i
            · subst e; exact Hbi.out
            · exact HF.out p h1 (by omega)
          case measure => have := Hlt.out; simp [intOf]; omega
        | true =>
          rw [hbi] at hbt
          simp only [if_true] at hbt
          have Hbi := Lib.hid hbi
          by_cases him : i < m
          · have hmi : (i : Int) < (m : Int) := by omega
            have hmi' : decide ((m : Int) ≤ (i : Int)) = false := by simp; omega
            have hmi2 : decide (m ≤ i) = false := by simp; omega
            obtain ⟨kf, hst⟩ := HN.out.at_.store (fun e => HN.out.ne (by rw [e]; rfl)) (i := i) (by rw [setTo_length]; exact him) true
            obtain ⟨g3, e3, kb3⟩ := HN.out.at_.bit (i := i) (by rw [setTo_length]; exact him)
            obtain rfl : g2 = g3 := by simpa using e3
            rw [← setTo_on hbi him] at hst
            have hnx := HN.out.step hst (Fr.setCell (F := fun b => Value.ownBlock (.slice (some ⟨g2, 0, none⟩) m c2) = some b) (p := ⟨g2, i, none⟩) (Fr.refl _ _) (fun _ => rfl) _)
            have Hnx := Lib.hid hnx; have Him := Lib.hid him
            clear kc hbo hxe hbi hlt hqq hrr hss hi hst hnx him e3
            go_wp2_with fail
            go_roundw
            case rel =>
              refine ⟨i + 1, by first | (simp; done) | go_num, Hlt.out, Hnx.out, ?_⟩
              intro p h1 h2
              by_cases e : p = i
              · subst e; have := Him.out; omega
              · exact HF.out p h1 (by omega)
            case measure => have := Hlt.out; simp [intOf]; omega
          · have hmi : ¬ (i : Int) < (m : Int) := by omega
            have hmi' : decide ((m : Int) ≤ (i : Int)) = true := by simp; omega
            have hmi2 : decide (m ≤ i) = true := by simp; omega
            have hnF : ¬ highF m L := fun h => by
              have := h i (by omega) (by rw [HL.out]; exact hlt)
              rw [hbi] at this; cases this
            have HnF := Lib.hid hnF
            have hn := ref_none wr
            have hn2 : NewRef w _ wr.heap.size (.slice none 0 0) false [] := ⟨hn.at_, Nat.le_trans HN.out.fr.size hn.new, by simp [Value.ownBlock], HN.out.fr.trans hn.fr (fun _ _ h => h)⟩
            have Hn2 := Lib.hid hn2
            clear kc hbo hxe hbi hlt hqq hrr hss hi him hnF hn hn2
            go_wp2_with fail
            refine bodyPost_ret (v := .tuple #[.pointer (some ⟨wr.heap.size, 0, none⟩), .int .i64 5]) ?_ rfl (.inr ⟨HnF.out, _, rfl, _, Hn2.out⟩)
            simp [results, Tryd.results30, Tryd.f30, go_sem]
      · obtain rfl : i = 8 * n8 := by omega
        have hlt' : ¬ ((8 * n8 : Nat) : Int) < 8 * (n8 : Int) := by omega
        have Hlt := Lib.hid hlt
        clear hlt hi
        go_wp2_with fail
        go_meet
        refine ⟨?_, fun p h1 h2 => HF.out p h1 (by rw [← HL.out]; exact h2)⟩
        have := HN.out
        rw [setTo_all (by rw [Hl.out]; unfold nb; omega)] at this
        exact this
  case rest =>
  obtain ⟨hn, hf⟩ := hcut
  have Hn := Lib.hid hn; have Hf := Lib.hid hf
  clear hn hf
  go_wp2_with fail
  refine bodyPost_ret (v := .tuple #[.pointer (some ⟨rh, 0, none⟩), .int .i64 0]) ?_ rfl (.inl ⟨Hf.out, rh, g2, c2, rfl, Hn.out⟩)
  simp [results, Tryd.results30, Tryd.f30, go_sem]
end
end Go.Proofs.YtbfkmogibgchmaaDoor.Bt
