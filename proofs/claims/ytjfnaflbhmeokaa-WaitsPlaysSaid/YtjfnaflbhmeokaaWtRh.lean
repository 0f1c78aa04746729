/- The document's list of waiting parties: put, out. No condition. -/
import Derived.Test.YtjfnaflbhmeokaaWtRg
namespace Go.Proofs.Ytjfnaflbhmeokaa.Wt
open Go.Shelf Go.RowKit
section
variable {G : Nat → Prop} {rb : Nat} {S : List Int} {w : World}
/-- The list behind a step that lays a new row. -/
theorem RfAt.laid (h : RfAt G rb S w) {w3 : World} (f : Fr (fun _ => False) w w3) {a : Option Addr} {n c : Nat} {T : List Int} (hT : Wts w3 (.slice a n c) T) (hf : T.length ≤ 1024) (hn : ∀ b, (Value.slice a n c).ownBlock = some b → w.heap.size ≤ b) :
    ∃ G', RfAt G' rb T (w3.setCell ⟨rb, 0, none⟩ (.slice a n c)) ∧ Fr G w (w3.setCell ⟨rb, 0, none⟩ (.slice a n c)) ∧ Grew w G G' := by
  obtain ⟨sv, h1, h2, h3⟩ := h.ex
  have hrb := lt_of_block h1
  have fs : Fr (fun b => b = rb) w3 (w3.setCell ⟨rb, 0, none⟩ (.slice a n c)) := Fr.setCell (F := fun b => b = rb) (p := ⟨rb, 0, none⟩) (Fr.refl _ _) (fun _ => rfl) _
  refine ⟨fun b => b = rb ∨ (Value.slice a n c).ownBlock = some b, ⟨⟨_, setCell_blk (o := 0) (f.get h1 (fun h => h)) _, Row.fr hT fs (fun b hb e => by have := hn b hb; omega), fun b hb => ⟨.inr hb, fun e => by have := hn b hb; omega⟩⟩, .inl rfl, ?_, hf⟩, ?_, ?_⟩
  · rintro b (rfl | hb)
    · have := f.size; have := fs.size; omega
    · have := Row.lt hT hb; have := fs.size; omega
  · exact (f.mono (fun _ _ h => h.elim) : Fr G w w3).trans fs (fun b _ e => by rw [e]; exact h.gr)
  · rintro b (rfl | hb)
    · exact .inl h.gr
    · exact .inr (hn b hb)
set_option maxRecDepth 100000 in
set_option maxHeartbeats 4000000 in
theorem rput_ok (h : RfAt G rb S w) {x : Int} (ho : Ord S) (hn : ∀ y ∈ S, wW y ≠ wW x) (hlen : S.length < 1024) :
    Calls Try.prog 73 #[.pointer (some ⟨rb, 0, none⟩), wtV x] w fun e w' => e = .returned (.tuple #[]) ∧ ∃ G', RfAt G' rb (insW x S) w' ∧ Fr G w w' ∧ Grew w G G' := by
  obtain ⟨W, hW⟩ : ∃ W, W = w.alloc (.cells #[.int .u32 (wW x), .int .i64 (wS x), .int .i64 (wT x), .int .i64 (wC x)] 32) := ⟨_, rfl⟩
  obtain ⟨z, hz⟩ : ∃ z, z = w.heap.size := ⟨_, rfl⟩
  have f0 : Fr (fun _ => False) w W := by rw [hW]; exact Fr.alloc (Fr.refl _ _) _
  have hg : W.heap[z]? = some (.cells #[.int .u32 (wW x), .int .i64 (wS x), .int .i64 (wT x), .int .i64 (wC x)] 32 (0, 0)) := by rw [hW, hz]; exact heap_alloc_at _ _
  obtain ⟨sv, h1, h2, h3⟩ := h.ex
  obtain ⟨a, c, ev⟩ := wts_slice h2
  obtain ⟨n, hnn⟩ : ∃ n, n = S.length := ⟨_, rfl⟩
  rw [← hnn] at ev hlen
  have H := Lib.hid h; have F0 := Lib.hid f0; have Hg := Lib.hid hg; have H1 := Lib.hid h1; have H2 := Lib.hid h2; have Hev := Lib.hid ev; have Hnn := Lib.hid hnn; have Ho := Lib.hid ho; have Hn := Lib.hid hn
  have hn2 : (n : Int) ≤ 1024 := by omega
  have Hlen := Lib.hid hlen
  clear h f0 hg h1 h2 h3 ev hnn ho hn hlen
  go_enter Try.func73, Try.ntmps73
  go_upto_region 1 with fail
  rw [← hW, ← hz]
  clear hW hz
  go_upto_block 0 with fail
  go_cut [4] (fun s4 wx => ∃ k : Nat, s4 = .int .i64 k ∧ k ≤ n ∧ (∀ i, i < k → ltW (S.getD i 0) x = true) ∧ (k < n → ltW (S.getD k 0) x = false) ∧ Fr (fun _ => False) W wx)
  case first =>
    go_wp2_with fail
    go_loopw [4] (fun s4 wr => ∃ k : Nat, s4 = .int .i64 k ∧ k ≤ n ∧ (∀ i, i < k → ltW (S.getD i 0) x = true) ∧ Fr (fun _ => False) W wr) (fun s4 _ => n - (intOf s4).toNat)
    case atStart => exact ⟨0, rfl, Nat.zero_le _, fun i hi => by omega, Fr.refl _ _⟩
    case round =>
      obtain ⟨k, rfl, hk, hlt, fr⟩ := hrel
      have Hlt := Lib.hid hlt; have Fr1 := Lib.hid fr
      have c0 := (cell_of (fr.get (F0.out.get H1.out (fun h => h)) (fun h => h)) 0).trans (show _ = some sv from rfl)
      rw [Hev.out] at c0
      clear hlt fr
      by_cases hkn : k < n
      · have hkn' : (k : Int) < (n : Int) := by omega
        have hk0 : (0 : Int) ≤ (k : Int) := by omega
        have hwr := Row.fr (Row.fr H2.out F0.out (fun _ _ h => h)) Fr1.out (fun _ _ h => h)
        obtain ⟨g, cap, e, d0, d1, d2, d3⟩ := Wts.cells hwr (k := k) (by have := Hnn.out; omega)
        rw [Hev.out] at e
        obtain ⟨rfl, e9, rfl⟩ := Value.slice.inj e
        clear e9
        obtain ⟨y, hy⟩ : ∃ y, y = S.getD k 0 := ⟨_, rfl⟩
        rw [← hy] at d0 d1 d2 d3
        obtain ⟨x0, x1, x2, x3⟩ := boxW_cells (Fr1.out.get Hg.out (fun h => h))
        have lrb := lt_of_block (Fr1.out.get (F0.out.get H1.out (fun h => h)) (fun h => h))
        have lz := lt_of_block (Fr1.out.get Hg.out (fun h => h))
        have lg : g < wr.heap.size := Row.lt hwr (b := g) (by rw [Hev.out]; rfl)
        obtain ⟨bq, hbq⟩ : ∃ b, b = ltW y x := ⟨_, rfl⟩
        have HA := Lib.hid (fun w0 => ahead_ok y x w0)
        rw [← hbq] at HA
        have Hy := Lib.hid hy; have Hbq := Lib.hid hbq; have Hkn := Lib.hid hkn
        clear hwr e hy hbq hkn hk
        go_upto_region 2 with fail
        go_cut [23] (fun s wx => s = .bool bq ∧ Fr (fun _ => False) wr wx)
        case first =>
          go_region_held3 (fun w' => w'.cell? ⟨rb, 0, none⟩ = some (.slice (some ⟨g, 0, none⟩) n c) ∧ w'.cell? ⟨g, k * 4, none⟩ = some (.int .u32 (wW y)) ∧ w'.cell? ⟨g, k * 4 + 1, none⟩ = some (.int .i64 (wS y)) ∧ w'.cell? ⟨g, k * 4 + 2, none⟩ = some (.int .i64 (wT y)) ∧ w'.cell? ⟨g, k * 4 + 3, none⟩ = some (.int .i64 (wC y)) ∧ w'.cell? ⟨z, 0, none⟩ = some (.int .u32 (wW x)) ∧ w'.cell? ⟨z, 1, none⟩ = some (.int .i64 (wS x)) ∧ w'.cell? ⟨z, 2, none⟩ = some (.int .i64 (wT x)) ∧ w'.cell? ⟨z, 3, none⟩ = some (.int .i64 (wC x)))
            (first | (go_keep; done) | exact ⟨(fA.cell lrb (fun h => h)).trans c0, (fA.cell lg (fun h => h)).trans d0, (fA.cell lg (fun h => h)).trans d1, (fA.cell lg (fun h => h)).trans d2, (fA.cell lg (fun h => h)).trans d3, (fA.cell lz (fun h => h)).trans x0, (fA.cell lz (fun h => h)).trans x1, (fA.cell lz (fun h => h)).trans x2, (fA.cell lz (fun h => h)).trans x3⟩)
            (first | (go_at_call 106; refine (HA.out _).mono ?_; rintro e w4 ⟨rfl, fA⟩))
          go_wp2_with fail
          go_meet
          exact ⟨rfl, ⟨fA.os, fA.tape, fA.output, fA.size, fA.blk⟩⟩
        case rest =>
          obtain ⟨rfl, fx⟩ := hcut
          have Fx := Lib.hid (Fr1.out.trans fx (fun _ _ h => h))
          clear fx c0 d0 d1 d2 d3 x0 x1 x2 x3
          cases bq with
          | true =>
            go_wp2_with fail
            go_roundw
            case rel => exact ⟨k + 1, by first | (simp; done) | go_num, Hkn.out, fun i hi => by
              by_cases e : i = k
              · subst e; rw [← Hy.out]; exact Hbq.out.symm
              · exact Hlt.out i (by omega), Fx.out⟩
            case measure => have := Hkn.out; simp [intOf]; omega
          | false =>
            go_wp2_with fail
            go_meet
            exact ⟨k, rfl, Nat.le_of_lt Hkn.out, Hlt.out, fun _ => by rw [← Hy.out]; exact Hbq.out.symm, Fx.out⟩
      · obtain rfl : k = n := by omega
        have hkb : decide ((k : Int) < (k : Int)) = false := by simp
        have hkc : decide (k < k) = false := by simp
        clear hkn hk
        go_upto_region 2 with fail
        go_cut [23] (fun s wx => s = .bool false ∧ Fr (fun _ => False) wr wx)
        case first =>
          go_big_quiet (fail)
          go_wp2_with fail
          go_meet
          exact ⟨rfl, ⟨rfl, rfl, rfl, Nat.le_refl _, fun _ _ _ => rfl⟩⟩
        case rest =>
          obtain ⟨rfl, fx⟩ := hcut
          have Fx := Lib.hid (Fr1.out.trans fx (fun _ _ h => h))
          clear fx c0
          go_wp2_with fail
          go_meet
          exact ⟨k, rfl, Nat.le_refl _, Hlt.out, fun h => by omega, Fx.out⟩
  case rest =>
  obtain ⟨k, rfl, hk, hl1, hl2, fr⟩ := hcut
  obtain ⟨W1, rfl⟩ : ∃ W1 : World, W1 = wc := ⟨_, rfl⟩
  have HIns := Lib.hid (put_insW Ho.out Hn.out (k := k) (by have := Hnn.out; omega) hl1 (fun h => hl2 (by have := Hnn.out; omega)))
  have H0 := Lib.hid (F0.out.trans fr (fun _ _ h => h))
  have hwr := Row.fr H2.out H0.out (fun _ _ h => h)
  have hrb := H0.out.get H1.out (fun h => h)
  have c0 := (cell_of hrb 0).trans (show _ = some sv from rfl)
  rw [Hev.out] at c0
  have hbx := fr.get Hg.out (fun h => h)
  have hnc : n ≤ c := by
    rcases H2.out.2 with ⟨e1, e2⟩ | ⟨g, cap, cur, e1, _, _, e2, _⟩
    · have := Hnn.out; omega
    · rw [Hev.out] at e1; obtain ⟨_, _, rfl⟩ := Value.slice.inj e1; have := Hnn.out; omega
  have Hk := Lib.hid hk; have Fr1 := Lib.hid fr; have Hrb := Lib.hid hrb; have Hbx := Lib.hid hbx
  -- the address of the list's rest
  obtain ⟨a2, ha2, s2, l2⟩ : ∃ a2, (match a with | none => (none : Option Addr) | some p => if c = k then some ⟨p.block, 0, none⟩ else some ⟨p.block, k * 4, none⟩) = a2 ∧ SrcAt W1 4 encW a2 (S.drop k) ∧ ∀ g o, a2 = some ⟨g, o, none⟩ → g < W1.heap.size := by
    rw [Hev.out] at hwr
    rcases hwr.2 with ⟨e1, e2⟩ | ⟨g, cap, cur, e1, _, q1, q2, _⟩
    · obtain ⟨rfl, _, _⟩ := Value.slice.inj e1
      refine ⟨none, rfl, .inl ⟨by rw [List.drop_eq_nil_of_le (by omega)], rfl⟩, fun g o e => by cases e⟩
    · obtain ⟨rfl, _, rfl⟩ := Value.slice.inj e1
      by_cases hck : c = k
      · refine ⟨some ⟨g, 0, none⟩, by simp [hck], ?_, fun g' o e => by cases e; exact lt_of_block q1⟩
        have : S.drop k = [] := List.drop_eq_nil_of_le (by have := Hnn.out; omega)
        rw [this]; exact SrcAt.nil (.inr ⟨_, _, rfl⟩)
      · refine ⟨some ⟨g, k * 4, none⟩, by simp [hck], Els.srcDrop encW_len (show Els W1 32 4 encW (.slice (some ⟨g, 0, none⟩) n c) S from hwr) k, fun g' o e => by cases e; exact lt_of_block q1⟩
  have s1 := Els.srcTake encW_len (show Els W1 32 4 encW (.slice a n c) S by rw [← Hev.out]; exact hwr) k
  obtain ⟨b1, d1, w1, b2, d2, w2, b3, d3, w3, r1, r2, r3, f1, f2, f3, hw3, o3⟩ := put_runs (w := W1) (S := S) (by have := Hnn.out; have := Hlen.out; omega) (k := k) (by have := Hnn.out; omega) x (c1 := c) (c2 := c - k) s1 s2 l2
  rw [← Hnn.out] at r3 hw3 o3
  have R1 := Lib.hid r1; have R2 := Lib.hid r2; have R3 := Lib.hid r3; have F1 := Lib.hid f1; have F2 := Lib.hid f2; have F3 := Lib.hid f3; have Hw3 := Lib.hid hw3; have O3 := Lib.hid o3; have HA2 := Lib.hid ha2
  clear hl1 hl2 fr hwr hrb hbx hk s1 s2 l2 r1 r2 r3 f1 f2 f3 hw3 o3 ha2
  have hkn : k ≤ n := Hk.out
  have hkc : k ≤ c := Nat.le_trans hkn hnc
  have hk0 : (0 : Int) ≤ (k : Int) := by omega
  have hk5 : (k : Int) ≤ 1024 := by omega
  have hbx1 := F1.out.get Hbx.out (fun h => h)
  have hrb2 := F2.out.get Hrb.out (fun h => h)
  have hrb3 := F3.out.get Hrb.out (fun h => h)
  obtain ⟨x0, x1, x2, x3⟩ := boxW_cells hbx1
  have c2 := (cell_of hrb2 0).trans (show _ = some sv from rfl)
  rw [Hev.out] at c2
  have c3 := (cell_of hrb3 0).trans (show _ = some sv from rfl)
  have y3 := free_of hrb3 0
  obtain ⟨G', g1, g2, g3⟩ := H.out.laid (H0.out.trans F3.out (fun _ _ h => h)) Hw3.out (by have := Hnn.out; have := Hlen.out; rw [HIns.out, insW_length]; omega) (fun b hb => Nat.le_trans H0.out.size (O3.out b hb))
  rw [HIns.out] at g1
  have G1 := Lib.hid g1; have G2 := Lib.hid g2; have G3 := Lib.hid g3
  clear hbx1 hrb2 hrb3 g1 g2 g3
  have ha : a = none ∧ n = 0 ∧ c = 0 ∨ ∃ g, a = some ⟨g, 0, none⟩ := by
    have h2 := H2.out
    rw [Hev.out] at h2
    rcases h2.2 with ⟨e1, e2⟩ | ⟨g, cap, cur, e1, _⟩
    · obtain ⟨q1, q2, q3⟩ := Value.slice.inj e1; exact .inl ⟨q1, q2, q3⟩
    · obtain ⟨q1, _, _⟩ := Value.slice.inj e1; exact .inr ⟨g, q1⟩
  rcases ha with ⟨rfl, rfl, rfl⟩ | ⟨g, rfl⟩
  · obtain rfl : k = 0 := by omega
    obtain rfl : a2 = none := HA2.out.symm
    clear hkn hkc hk0 hk5 hnc
    go_upto_region 5 with fail
    go_cut [5] (fun s5 wx => s5 = .slice b1 0 d1 ∧ wx = w1)
    case first =>
      go_wp2_with (at_builtin; refine wpList_append_run rfl _ _ _ rfl rfl rfl R1.out ?_)
      go_meet
      exact ⟨rfl, rfl⟩
    case rest =>
      obtain ⟨rfl, rfl⟩ := hcut
      go_upto_region 6 with fail
      go_cut [5] (fun s5 wx => s5 = .slice b2 (0 + 1) d2 ∧ wx = w2)
      case first =>
        go_wp2_with (at_builtin; refine wpList_append_run rfl _ _ _ rfl rfl rfl R2.out ?_)
        go_meet
        exact ⟨rfl, rfl⟩
      case rest =>
        obtain ⟨rfl, rfl⟩ := hcut
        clear x0 x1 x2 x3
        go_wp2_with (at_builtin; refine wpList_append_run rfl _ _ _ rfl rfl rfl R3.out ?_)
        go_end0
        exact ⟨rfl, G', G1.out, G2.out, G3.out⟩
  · have hif : (if c = k then (some ⟨g, 0, none⟩ : Option Addr) else some ⟨g, k * 4, none⟩) = a2 := HA2.out
    go_upto_region 5 with fail
    go_cut [5] (fun s5 wx => s5 = .slice b1 k d1 ∧ wx = w1)
    case first =>
      go_wp2_with (at_builtin; refine wpList_append_run rfl _ _ _ rfl rfl rfl R1.out ?_)
      go_meet
      exact ⟨rfl, rfl⟩
    case rest =>
      obtain ⟨rfl, rfl⟩ := hcut
      go_upto_region 6 with fail
      go_cut [5] (fun s5 wx => s5 = .slice b2 (k + 1) d2 ∧ wx = w2)
      case first =>
        go_wp2_with (at_builtin; refine wpList_append_run rfl _ _ _ rfl rfl rfl R2.out ?_)
        go_meet
        exact ⟨rfl, rfl⟩
      case rest =>
        obtain ⟨rfl, rfl⟩ := hcut
        clear x0 x1 x2 x3
        go_wp2_with (at_builtin; refine wpList_append_run rfl _ _ _ rfl rfl rfl R3.out ?_)
        go_end0
        exact ⟨rfl, G', G1.out, G2.out, G3.out⟩
end
end Go.Proofs.Ytjfnaflbhmeokaa.Wt
