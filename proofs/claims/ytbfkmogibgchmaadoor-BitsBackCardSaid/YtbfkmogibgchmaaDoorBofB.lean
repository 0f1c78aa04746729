/- Of, where it makes a set. No condition. -/
import Derived.Test.YtbfkmogibgchmaaDoorBofA
namespace Go.Proofs.YtbfkmogibgchmaaDoor.Bt
open Go.RowKit
section
variable {w : World} {bv : Value} {L : List Nat}
set_option maxRecDepth 100000 in
set_option maxHeartbeats 4000000 in
theorem of_ok {n8 : Nat} (hb : Row w 5 1 bv n8 (L.map u8v)) (hby : ∀ b ∈ L, b < 256) {m : Nat} (h6 : m ≤ 65536) (hl : n8 = nb m) (hmore : m % 8 = 0 ∨ L.getD (n8 - 1) 0 / 2 ^ (m % 8) = 0) :
    Calls Tryd.prog 29 #[.int .i64 m, bv] w fun e w' => ∃ bh v, e = .returned (.tuple #[.pointer (some ⟨bh, 0, none⟩), .int .i64 0]) ∧ NewSet w w' bh v (setOf m L) := by
  have HB := Lib.hid hb; have HBy := Lib.hid hby
  obtain ⟨a, c, rfl, hL, hcl⟩ := row_u8 hb
  have HC := Lib.hid (new_ok w (n := (m : Int)) (by omega) (by omega))
  have hq1 : wrap64 (((m : Int) + 7) / 8) = (n8 : Int) := by rw [hl]; unfold nb wrap64; omega
  have hqt : ((m : Int) + 7).tdiv 8 = (n8 : Int) := by rw [Int.tdiv_eq_ediv_of_nonneg (by omega), hl]; unfold nb; omega
  have hm6 : (m : Int) ≤ 65536 := by omega
  have Hn6 : (n8 : Int) ≤ 10000 := by rw [hl]; unfold nb; omega
  have HL := Lib.hid hL; have Hl := Lib.hid hl; have Hm := Lib.hid hmore; have Hcl := Lib.hid hcl; have H6 := Lib.hid h6
  clear hb hby hL hl hmore hcl h6
  go_enter Tryd.func29, Tryd.ntmps29
  go_wp2_with fail
  refine HC.out.mono ?_
  rintro e w1 ⟨bh, v, rfl, s1, s2, s3, s4⟩
  have N1 := Lib.hid (NewSet.mk (w := w) s1 s2 s3 s4)
  clear s1 s2 s3 s4
  go_upto_block 0 with fail
  go_cut [26] (fun _ wx => w1 = wx)
  case first =>
    obtain ⟨r, hr⟩ : ∃ r, r = m % 8 := ⟨_, rfl⟩
    have hr2 : (m : Int).tmod 8 = (r : Int) := by rw [Int.tmod_eq_emod_of_nonneg (by omega)]; omega
    have hr1 : (m : Int) % 8 = (r : Int) := by omega
    by_cases h0 : r = 0
    · subst h0
      clear hr
      go_wp2_with fail
      go_meet
      rfl
    · have hr8 : r < 8 := by omega
      have hr0 : (0 : Int) < (r : Int) := by omega
      have hn1 : 1 ≤ n8 := by rw [Hl.out]; unfold nb; omega
      obtain ⟨p, hp⟩ : ∃ p, p = n8 - 1 := ⟨_, rfl⟩
      have hp1 : (n8 : Int) - 1 = (p : Int) := by omega
      have hpn : (p : Int) < (n8 : Int) := by omega
      have hp0 : (0 : Int) ≤ (p : Int) := by omega
      obtain ⟨g, rfl, kc⟩ := Hcl.out p (by omega)
      have hx := Hm.out.resolve_left (by omega)
      rw [← hp, ← hr] at hx
      obtain ⟨x, hxe⟩ : ∃ x, x = L.getD p 0 := ⟨_, rfl⟩
      rw [← hxe] at hx kc
      have hxs : (x : Int) / 2 ^ r = 0 := by rw [shr_nat, hx]; rfl
      have kc1 := (N1.out.fr.cell (World.block_lt_of_cell? _ _ kc) (fun h => h)).trans kc
      clear hr h0 hn1 hp hx hxe kc
      go_wp2_with fail
      go_meet
      rfl
  case rest =>
  obtain rfl := hcut
  go_upto_block 1 with fail
  go_cut [44] (fun _ wx => SetAt wx bh v (setOf m L) ∧ Fr (fun b => v.ownBlock = some b) w1 wx)
  case first =>
    go_wp2_with fail
    go_loopw [44] (fun s44 wr => ∃ i : Nat, s44 = .int .i64 i ∧ i ≤ n8 ∧ Row wr 80 1 v (nw m) ((ofL m L i).map u64v) ∧ Fr (fun b => v.ownBlock = some b) w1 wr) (fun s44 _ => n8 - (intOf s44).toNat)
    case atStart =>
      refine ⟨0, rfl, Nat.zero_le _, ?_, Fr.refl _ _⟩
      rw [ofL_zero]
      have := N1.out.at_.row
      simpa using this
    case round =>
      obtain ⟨i, rfl, hi, hr, fr⟩ := hrel
      have Hr := Lib.hid hr; have Hfr := Lib.hid fr
      clear hr fr
      by_cases hlt : i < n8
      · have hlt' : (i : Int) < (n8 : Int) := by omega
        obtain ⟨q, r, s, hq8, hqw, hr8, hrt, hs8, hqq, hss, hs64⟩ := parts8 i (by omega)
        have hsw : IntKind.i64.wrap ((r : Int) * 8) = (s : Int) := by rw [IntKind.wrap_i64]; omega
        have hsw2 : wrap64 ((r : Int) * 8) = (s : Int) := by unfold wrap64; omega
        have hs0 : (0 : Int) ≤ (s : Int) := by omega
        have hsw3 : IntKind.i64.wrap (s : Int) = (s : Int) := by rw [IntKind.wrap_i64]; omega
        have hs63 : (s : Int) ≤ 63 := by omega
        have hqn : q < nw m := by have := Hl.out; unfold nb at this; unfold nw; omega
        obtain ⟨a2, c2, rfl⟩ : ∃ a2 c2, v = .slice a2 (nw m) c2 := by obtain ⟨a', c', e, _⟩ := row_cell Hr.out; exact ⟨a', c', e⟩
        obtain ⟨g2, rfl, k1, k2, k3⟩ := row_set Hr.out hqn
        have kc2 : ((ofL m L i).map u64v)[q]? = some (.int .u64 (ofTo L i q)) := by simp [ofL, hqn, u64v]
        rw [kc2] at k1
        obtain ⟨g, rfl, kc⟩ := Hcl.out i hlt
        have hgl := World.block_lt_of_cell? _ _ kc
        have kc1 := (N1.out.fr.cell hgl (fun h => h)).trans kc
        have kc3 := (Hfr.out.cell (World.block_lt_of_cell? _ _ kc1) (fun e => by have h := (N1.out.newv _ e).1; have h2 : g < w.heap.size := hgl; exact absurd h (by first | exact Nat.not_le.2 h2 | omega))).trans kc1
        have hx := of_or (i := i) (getD_mem HBy.out)
        rw [← hqq, ← hss] at hx
        have hnx := k3 (.int .u64 (ofTo L (i + 1) q))
        rw [hqq, ← ofL_succ (by rw [← hqq]; exact hqn)] at hnx
        rw [← hqq, ← hx] at hnx
        obtain ⟨x, hxe⟩ : ∃ x, x = L.getD i 0 := ⟨_, rfl⟩
        rw [← hxe] at kc3 hnx
        have hx255 : (x : Int) ≤ 255 := by have := getD_mem (i := i) HBy.out; omega
        have hxw : IntKind.u64.wrap (x : Int) = (x : Int) := by rw [IntKind.wrap_u64]; omega
        have Hnx := Lib.hid hnx; have Hlt := Lib.hid hlt
        have hqn' : (q : Int) < (nw m : Int) := by omega
        have hd := N1.out.at_.head
        have hbhn : ¬ bh = g2 := fun e => N1.out.ne (by rw [e]; rfl)
        have c2' := (cell_of (Hfr.out.get hd (fun e => N1.out.ne e)) 2).trans (show _ = some (Value.slice (some ⟨g2, 0, none⟩) (nw m) c2) from rfl)
        clear k3 kc2 kc kc1 hx hnx hxe hqq hss hlt hgl hd
        go_wp2_with fail
        go_still_tail 16, (by kernel_rfl)
        go_wp2_with fail
        go_roundw
        case rel => exact ⟨i + 1, by first | (simp; done) | go_num, Hlt.out, Row.fr Hnx.out (Fr.drew (Fr.refl (fun _ => False) _)) (fun _ _ h => h), Fr.drew (Hfr.out.setCell (p := ⟨g2, q, none⟩) (fun _ => rfl) _)⟩
        case measure => have := Hlt.out; simp [intOf]; omega
      · obtain rfl : i = n8 := by omega
        clear hlt
        go_wp2_with fail
        go_meet
        refine ⟨⟨?_, ?_, by rw [setOf_length]; exact H6.out⟩, Hfr.out⟩
        · have := Hfr.out.get N1.out.at_.head (fun e => N1.out.ne e)
          rw [setOf_length]
          simpa using this
        · have := Hr.out
          rw [← HL.out, ofL_all (by rw [HL.out]; exact Hl.out) ((more_iff (by rw [HL.out]; exact Hl.out) HBy.out).2 (by rw [HL.out]; exact Hm.out))] at this
          rw [setOf_length]; exact this
  case rest =>
  obtain ⟨hs, hf⟩ := hcut
  have Hn := Lib.hid (N1.out.step hs hf)
  clear hs hf
  go_wp2_with fail
  refine bodyPost_ret (v := .tuple #[.pointer (some ⟨bh, 0, none⟩), .int .i64 0]) ?_ rfl ⟨bh, v, rfl, Hn.out⟩
  simp [results, Tryd.results29, Tryd.f29, go_sem]
end
end Go.Proofs.YtbfkmogibgchmaaDoor.Bt
