/- The contract of take of a heap of waiting parties. Condition: at most 65536 items. -/
import Derived.Test.YtjfnaflbhmeokaaWtH
import Derived.Test.YtjfnaflbhmeokaaHeapN
import Derived.Test.YtjfnaflbhmeokaaMore
namespace Go.Proofs.Ytjfnaflbhmeokaa.Wt
open Go.RowKit
section
variable {fv : Value} {lt : Int → Int → Bool} {J : World → Prop} {FJ : Nat → Prop} {A : Int → Prop} {fl : Nat} {caps : Array Value}
variable {nv : Value} {bh bi bm n cap : Nat} {L : List It} {w : World}
variable (hL : LessOk Try.prog fv lt J FJ A fl caps) (nh : ¬ FJ bh) (ni : ¬ FJ bi) (nm : ¬ FJ bm)
include hL nh ni nm
set_option maxRecDepth 100000 in
set_option maxHeartbeats 2000000 in
theorem Hp.take (h : Hp J A fv nv bh bi bm n cap L w) (hn : n ≤ 65536) (hcn : n ≤ cap) {at_ : Nat} (ha : at_ < n) :
    Calls Try.prog 107 #[.pointer (some ⟨bh, 0, none⟩), .int .i64 at_] w fun e w' => e = .returned (.agg #[.int .u32 (wW (itAt L at_).1), .int .i64 (wS (itAt L at_).1), .int .i64 (wT (itAt L at_).1), .int .i64 (wC (itAt L at_).1), .int .i64 (itAt L at_).2]) ∧ Hp J A fv nv bh bi bm (n - 1) cap (takeF lt L at_) w' ∧ Fr (fun b => FJ b ∨ b = bh ∨ b = bi ∨ b = bm) w w' := by
  have hlen := h.len
  obtain ⟨arr, r1, r2, r3⟩ := h.row
  have c1 := cell_of h.hH 1
  simp at c1
  have d1 := (cell_of r1 (at_ * 5)).trans (r3 at_ (by omega)).1
  have d1' := (cell_of r1 (at_ * 5 + 1)).trans (r3 at_ (by omega)).2.1
  have d1b := (cell_of r1 (at_ * 5 + 2)).trans (r3 at_ (by omega)).2.2.1
  have d1c := (cell_of r1 (at_ * 5 + 3)).trans (r3 at_ (by omega)).2.2.2.1
  have d2 := (cell_of r1 (at_ * 5 + 4)).trans (r3 at_ (by omega)).2.2.2.2
  obtain ⟨xv, hxv⟩ : ∃ x, x = (itAt L at_).1 := ⟨_, rfl⟩
  obtain ⟨xh, hxh⟩ : ∃ x, x = (itAt L at_).2 := ⟨_, rfl⟩
  rw [← hxv] at d1 d1' d1b d1c ⊢
  rw [← hxh] at d2 ⊢
  obtain ⟨m, hm⟩ : ∃ m, n = m + 1 := ⟨n - 1, by omega⟩
  subst hm
  have hai : (at_ : Int) < ((m + 1 : Nat) : Int) := by omega
  have lh := lt_of_block h.hH; have li := lt_of_block r1
  have HL := Lib.hid hL; have Hh := Lib.hid h; have Hlen := Lib.hid hlen
  have Hx := Lib.hid hxv; have Hy := Lib.hid hxh
  clear hL h hlen r1 r2 r3 hxv hxh
  go_enter Try.func107, Try.ntmps107
  go_upto_region 2 with fail
  go_cut [4, 5, 6] (fun s4 s5 s6 wx => ∃ b4 b5 : Nat, s4 = .pointer (some ⟨b4, 0, none⟩) ∧ s5 = .pointer (some ⟨b5, 0, none⟩) ∧ s6 = .int .i64 m ∧ w.heap.size ≤ b4 ∧ w.heap.size ≤ b5 ∧ b4 ≠ b5 ∧
      wx.heap[b4]? = some (.cells #[.int .u32 0, .int .i64 0, .int .i64 0, .int .i64 0, .int .i64 0] 179 (0, 0)) ∧ wx.heap[b5]? = some (.cells #[.int .u32 (wW xv), .int .i64 (wS xv), .int .i64 (wT xv), .int .i64 (wC xv), .int .i64 xh] 179 (0, 0)) ∧ Fr (fun _ => False) w wx)
  case first =>
    go_wp2_with fail
    go_meet
    refine ⟨_, _, rfl, rfl, by go_num, by simp, by simp, by omega, ?_, ?_, Fr.alloc (Fr.alloc (Fr.refl _ _) _) _⟩
    · simp only [heap_alloc_get, World.size_alloc]; simp
    · simp only [heap_alloc_get, World.size_alloc]; simp
  case rest =>
    obtain ⟨b4, b5, rfl, rfl, rfl, g4, g5, hne, hb4, hb5, hf⟩ := hcut
    have hp : Hp J A fv nv bh bi bm (m + 1) cap L wc := Hh.out.fr hf (HL.out.keep _ _ Hh.out.j (hf.mono (fun _ _ x => x.elim))) (fun x => x) (fun x => x) (fun x => x)
    have Hp0 := Lib.hid hp; have Hb4 := Lib.hid hb4; have Hb5 := Lib.hid hb5; have Hf := Lib.hid hf
    have lm := Hp0.out.map.elim (fun f x => x.1.lt)
    have lm0 := Hh.out.map.elim (fun f x => x.1.lt)
    obtain ⟨bq, hx5⟩ : ∃ b : Bool, ((at_ : Int) != (m : Int)) = b := ⟨_, rfl⟩
    have hx7 : (bq = false ∧ at_ = m) ∨ (bq = true ∧ at_ < m) := by
      by_cases e : at_ = m
      · subst e; left; simp at hx5; exact ⟨hx5, rfl⟩
      · right; have : ¬ ((at_ : Int) = (m : Int)) := by omega
        refine ⟨?_, by omega⟩; rw [← hx5]; simp [bne, this]
    have Hx7 := Lib.hid hx7; clear hx7
    clear hp hb4 hb5 hf c1 d1 d1' d1b d1c d2
    go_upto_if 23 with fail
    go_cut [27] from 24 to 27 (fun _ wx => Hp J A fv nv bh bi bm (m + 1) cap (if at_ = m then L else swapL L at_ m) wx ∧ Fr (fun b => b = bi ∨ b = bm) wc wx)
    case first =>
      clear hx5
      rcases Hx7.out with ⟨rfl, e⟩ | ⟨rfl, e⟩
      · have He := Lib.hid e; clear e
        go_wp2_with fail
        go_meet
        exact ⟨by rw [if_pos He.out]; exact Hp0.out, Fr.refl _ _⟩
      · have He := Lib.hid e; clear e
        go_wp2_with fail
        refine (Hp0.out.swap HL.out ni nm hn ha (by omega : m < m + 1) (by have := He.out; omega)).mono ?_
        rintro e1 w1 ⟨rfl, h1, f1⟩
        have H1 := Lib.hid h1; have F1 := Lib.hid f1; clear h1 f1
        go_wp2_with fail
        go_meet
        exact ⟨by rw [if_neg (by have := He.out; omega)]; exact H1.out, F1.out⟩
    case rest =>
      obtain ⟨hp, hf⟩ := hcut
      obtain ⟨L1, hL1⟩ : ∃ L1, L1 = if at_ = m then L else swapL L at_ m := ⟨_, rfl⟩
      rw [← hL1] at hp
      have hl1 : L1.length = m + 1 := hp.len
      have hx1 : itAt L1 m = itAt L at_ := by
        rw [hL1]
        split
        · rename_i e; rw [e]
        · rw [itAt_swap (by rw [Hlen.out]; omega) (by rw [Hlen.out]; omega), if_pos rfl]
      obtain ⟨arr, r1, r2, r3⟩ := hp.row
      obtain ⟨f, m1, m2⟩ := hp.map
      have lw := Hf.out.size
      have n4 : ¬ (b4 = bi ∨ b4 = bm) := by omega
      have n5 : ¬ (b5 = bi ∨ b5 = bm) := by omega
      have q4 := hf.get Hb4.out n4
      have q5 := hf.get Hb5.out n5
      have c1 := cell_of hp.hH 1
      have c2 := cell_of hp.hH 2
      simp at c1 c2
      have d1 := (cell_of r1 (m * 5)).trans (r3 m (by omega)).1
      have d1' := (cell_of r1 (m * 5 + 1)).trans (r3 m (by omega)).2.1
      have d1b := (cell_of r1 (m * 5 + 2)).trans (r3 m (by omega)).2.2.1
      have d1c := (cell_of r1 (m * 5 + 3)).trans (r3 m (by omega)).2.2.2.1
      have d2 := (cell_of r1 (m * 5 + 4)).trans (r3 m (by omega)).2.2.2.2
      have z1 := free_of r1 (m * 5)
      have z1' := free_of r1 (m * 5 + 1)
      have z1b := free_of r1 (m * 5 + 2)
      have z1c := free_of r1 (m * 5 + 3)
      have z2 := free_of r1 (m * 5 + 4)
      have zh := free_of hp.hH 1
      have a51 := cell_of q5 4
      simp at a51
      have lh2 := lt_of_block hp.hH; have li2 := lt_of_block r1; have l42 := lt_of_block q4; have l52 := lt_of_block q5
      have n1 := hp.ne1; have n2 := hp.ne2; have n3 := hp.ne3
      have Hq := Lib.hid hp; have Hf1 := Lib.hid hf; have R1 := Lib.hid r1; have R2 := Lib.hid r2; have R3 := Lib.hid r3; have M1 := Lib.hid m1; have M2 := Lib.hid m2
      have Q4 := Lib.hid q4; have Q5 := Lib.hid q5; have HL1 := Lib.hid hL1; have Hl1 := Lib.hid hl1; have Hx1 := Lib.hid hx1
      clear hp hf r1 r2 r3 m1 m2 q4 q5 hL1 hl1 hx1 hx5
      have hmc : (m : Int) < ((m + 1 : Nat) : Int) := by omega
      go_upto_region 6 with fail
      go_cut [28] (fun _ wx => wx.heap[bi]? = some (.cells (((((arr.setIfInBounds (m * 5) (.int .u32 0)).setIfInBounds (m * 5 + 1) (.int .i64 0)).setIfInBounds (m * 5 + 2) (.int .i64 0)).setIfInBounds (m * 5 + 3) (.int .i64 0)).setIfInBounds (m * 5 + 4) (.int .i64 0)) 179 (0, 0)) ∧ Fr (fun b => b = bi) wc wx)
      case first =>
        go_region
        all_goals (go_wp2_with fail; go_meet)
        refine ⟨?_, ?_⟩
        · rw [heap_drew, heap_alloc_old _ _ _ (by simpa using li2)]
          exact setCell_blk (setCell_blk (setCell_blk (setCell_blk (setCell_blk R1.out _) _) _) _) _
        · refine Fr.drew (Fr.alloc ?_ _)
          iterate 5 refine Fr.setCell ?_ (by intro _; rfl) _
          exact Fr.refl _ _
      case rest =>
        obtain ⟨hI2, hf2⟩ := hcut
        have k1 := (hf2.cell (o := 1) (s := none) lh2 n1).trans c1
        have k2 := (hf2.cell (o := 2) (s := none) lh2 n1).trans c2
        have kz := (hf2.frozen (o := 1) (s := none) lh2 n1).trans zh
        have n6 : b5 ≠ bi := by omega
        have n7 : b4 ≠ bi := by omega
        have k5 := (hf2.cell (o := 4) (s := none) l52 n6).trans a51
        have K5 := Lib.hid (hf2.get Q5.out n6)
        have K4 := Lib.hid (hf2.get Q4.out n7)
        have KH := Lib.hid (hf2.get Hq.out.hH n1)
        have KM := Lib.hid (IMap.fr M1.out hf2 n2)
        have lh3 := lt_of_block KH.out; have l53 := lt_of_block K5.out; have l43 := lt_of_block K4.out; have li3 := lt_of_block hI2
        have n8 : b5 ≠ bh := by omega
        have n9 : b4 ≠ bh := by omega
        have HI2 := Lib.hid hI2; have Hf2 := Lib.hid hf2
        have hmcap : (m : Int) ≤ (cap : Int) := by omega
        clear hI2 hf2 c1 c2 d1 d1' d1b d1c d2 z1 z1' z1b z1c z2 zh a51 lh2 li2 l42 l52 hmc
        have hM3 : IMap (wc.setCell ⟨bh, 1, none⟩ (.slice (some ⟨bi, 0, none⟩) m cap)).drew bm f := IMap.fr (F := fun b => b = bh) KM.out (Fr.drew (Fr.setCell (Fr.refl _ _) (by intro _; rfl) _)) n3
        obtain ⟨es, c, hrun, hM4⟩ := run_delete (P := Try.prog) Try.underlying115 Try.underlying3 hM3 xh #[115, 3] rfl 0
        have hc4 : ∀ a, (setMap (wc.setCell ⟨bh, 1, none⟩ (.slice (some ⟨bi, 0, none⟩) m cap)).drew bm es c).cell? a = (wc.setCell ⟨bh, 1, none⟩ (.slice (some ⟨bi, 0, none⟩) m cap)).cell? a := by
          obtain ⟨l, c0, hb, _⟩ := hM3; exact fun a => setMap_cell hb es c a
        have e2 := (World.cell?_setCell_other wc ⟨bh, 1, none⟩ ⟨bh, 2, none⟩ (.slice (some ⟨bi, 0, none⟩) m cap) (by simp)).trans k2
        have e5 := (World.cell?_setCell_other wc ⟨bh, 1, none⟩ ⟨b5, 4, none⟩ (.slice (some ⟨bi, 0, none⟩) m cap) (by simp [n8.symm])).trans k5
        have HM4 := Lib.hid hM4
        clear hM3 hM4
        go_upto_region 8 with fail
        go_region_held3 (fun w' => w'.cell? ⟨bh, 2, none⟩ = some (.map (some bm)) ∧ w'.cell? ⟨b5, 4, none⟩ = some (.int .i64 xh)) (go_keep) ((rw [if_pos rfl]; refine wp_delete_run rfl rfl rfl hrun ?_))
        obtain ⟨W, hW⟩ : ∃ W, W = setMap (wc.setCell ⟨bh, 1, none⟩ (.slice (some ⟨bi, 0, none⟩) m cap)).drew bm es c := ⟨_, rfl⟩
        have hfW : Fr (fun b => b = bh ∨ b = bm) wc W := by
          rw [hW]
          exact Fr.setMap (Fr.drew (Fr.setCell (Fr.refl _ _) (by intro _; exact Or.inl rfl) _)) (fun _ => Or.inr rfl) _ _
        have hWh : W.heap[bh]? = some (.cells #[fv, .slice (some ⟨bi, 0, none⟩) m cap, .map (some bm), nv] 118 (0, 0)) := by
          rw [hW, setMap_ne n3.symm, heap_drew]; exact setCell_blk KH.out _
        have hWi := hfW.get HI2.out (by omega)
        have hWJ : J W := HL.out.keep _ W Hq.out.j ((((Hf2.out.mono (G := fun b => ¬ FJ b) (fun b _ hb => by subst hb; exact ni)).trans hfW (fun b _ hb => by rcases hb with rfl | rfl <;> assumption))))
        have hWp : Hp J A fv nv bh bi bm m cap (L1.take m) W := by
          have hl1 := Hl1.out
          refine ⟨hWJ, hWh, ⟨_, hWi, by simp [R2.out], ?_⟩, ⟨_, by rw [hW]; exact HM4.out, ?_⟩, ?_, by simp [hl1]⟩
          · intro i hi
            have him : i < m := by simp at hi; omega
            rw [itAt_take him]
            have := R3.out i (by omega)
            simp only [Array.getElem?_setIfInBounds_ne (show m * 5 ≠ i * 5 by omega), Array.getElem?_setIfInBounds_ne (show m * 5 ≠ i * 5 + 1 by omega), Array.getElem?_setIfInBounds_ne (show m * 5 ≠ i * 5 + 2 by omega), Array.getElem?_setIfInBounds_ne (show m * 5 ≠ i * 5 + 3 by omega), Array.getElem?_setIfInBounds_ne (show m * 5 ≠ i * 5 + 4 by omega), Array.getElem?_setIfInBounds_ne (show m * 5 + 1 ≠ i * 5 by omega), Array.getElem?_setIfInBounds_ne (show m * 5 + 1 ≠ i * 5 + 1 by omega), Array.getElem?_setIfInBounds_ne (show m * 5 + 1 ≠ i * 5 + 2 by omega), Array.getElem?_setIfInBounds_ne (show m * 5 + 1 ≠ i * 5 + 3 by omega), Array.getElem?_setIfInBounds_ne (show m * 5 + 1 ≠ i * 5 + 4 by omega), Array.getElem?_setIfInBounds_ne (show m * 5 + 2 ≠ i * 5 by omega), Array.getElem?_setIfInBounds_ne (show m * 5 + 2 ≠ i * 5 + 1 by omega), Array.getElem?_setIfInBounds_ne (show m * 5 + 2 ≠ i * 5 + 2 by omega), Array.getElem?_setIfInBounds_ne (show m * 5 + 2 ≠ i * 5 + 3 by omega), Array.getElem?_setIfInBounds_ne (show m * 5 + 2 ≠ i * 5 + 4 by omega), Array.getElem?_setIfInBounds_ne (show m * 5 + 3 ≠ i * 5 by omega), Array.getElem?_setIfInBounds_ne (show m * 5 + 3 ≠ i * 5 + 1 by omega), Array.getElem?_setIfInBounds_ne (show m * 5 + 3 ≠ i * 5 + 2 by omega), Array.getElem?_setIfInBounds_ne (show m * 5 + 3 ≠ i * 5 + 3 by omega), Array.getElem?_setIfInBounds_ne (show m * 5 + 3 ≠ i * 5 + 4 by omega), Array.getElem?_setIfInBounds_ne (show m * 5 + 4 ≠ i * 5 by omega), Array.getElem?_setIfInBounds_ne (show m * 5 + 4 ≠ i * 5 + 1 by omega), Array.getElem?_setIfInBounds_ne (show m * 5 + 4 ≠ i * 5 + 2 by omega), Array.getElem?_setIfInBounds_ne (show m * 5 + 4 ≠ i * 5 + 3 by omega), Array.getElem?_setIfInBounds_ne (show m * 5 + 4 ≠ i * 5 + 4 by omega)]
            exact this
          · have := M2.out.pop hl1
            rw [Hx1.out, ← Hy.out] at this
            exact this
          · intro i hi
            rw [itAt_take hi]
            exact Hq.out.all i (by omega)
        have w5 := hfW.get K5.out (by omega)
        have w4 := hfW.get K4.out (by omega)
        rw [← hW]
        have Hwp := Lib.hid hWp; have W5 := Lib.hid w5; have W4 := Lib.hid w4; have HfW := Lib.hid hfW
        clear hfW hWh hWi hWJ hWp w5 w4 hc4 hrun HM4 e2 e5 k1 k2 kz k5
        clear hW
        obtain ⟨bq, hx5⟩ : ∃ b : Bool, decide (at_ < m) = b := ⟨_, rfl⟩
        have hx7 : (bq = false ∧ ¬ at_ < m) ∨ (bq = true ∧ at_ < m) := by
          by_cases e : at_ < m
          · right; simp [e] at hx5; exact ⟨hx5, e⟩
          · left; simp [e] at hx5; exact ⟨hx5, e⟩
        have Hx7 := Lib.hid hx7; clear hx7
        go_upto_if 52 with fail
        go_cut [55] from 53 to 55 (fun _ wx => Hp J A fv nv bh bi bm m cap (takeF lt L at_) wx ∧ Fr (fun b => FJ b ∨ b = bi ∨ b = bm) W wx)
        case first =>
          clear hx5
          have hT : takeF lt L at_ = if at_ < m then settleF lt (L1.take m) at_ else L1.take m := by
            unfold takeF
            dsimp only
            rw [Hlen.out, Nat.add_sub_cancel, ← HL1.out]
          have HT := Lib.hid hT; clear hT
          rcases Hx7.out with ⟨rfl, e⟩ | ⟨rfl, e⟩
          · have He := Lib.hid e; clear e
            go_wp2_with fail
            go_meet
            exact ⟨by rw [HT.out, if_neg He.out]; exact Hwp.out, Fr.refl _ _⟩
          · have He := Lib.hid e; clear e
            go_wp2_with fail
            refine (Hwp.out.settle HL.out nh ni nm (by omega) He.out).mono ?_
            rintro e1 w1 ⟨rfl, h1, f1⟩
            have H1 := Lib.hid h1; have F1 := Lib.hid f1; clear h1 f1
            go_wp2_with fail
            go_meet
            exact ⟨by rw [HT.out, if_pos He.out]; exact H1.out, F1.out⟩
        case rest =>
          obtain ⟨hq, hf9⟩ := hcut
          have b9 : ∀ b, w.heap.size ≤ b → ¬ (FJ b ∨ b = bi ∨ b = bm) := by
            rintro b hb (h | h | h)
            · have := HL.out.bound w b Hh.out.j h; omega
            · omega
            · omega
          have v5 := hf9.get W5.out (b9 b5 g5)
          have v4 := hf9.get W4.out (b9 b4 g4)
          have v50 := cell_of v5 0
          have v51 := cell_of v5 1
          have v52 := cell_of v5 2
          have v53 := cell_of v5 3
          have v54 := cell_of v5 4
          have v40 := cell_of v4 0
          have v41 := cell_of v4 1
          have v42 := cell_of v4 2
          have v43 := cell_of v4 3
          have v44 := cell_of v4 4
          have y40 := free_of v4 0
          have y41 := free_of v4 1
          have y42 := free_of v4 2
          have y43 := free_of v4 3
          have y44 := free_of v4 4
          simp at v50 v51 v52 v53 v54 v40 v41 v42 v43 v44
          have V4 := Lib.hid v4; have HQ := Lib.hid hq; have Hf9 := Lib.hid hf9
          clear v5 v4 hq hf9 b9
          go_wp2_with fail
          have hb4 : ∀ b, b = b4 → b < w.heap.size → False := by omega
          have hfin := (setCell_blk (o := 4) (setCell_blk (o := 3) (setCell_blk (o := 2) (setCell_blk (o := 1) (setCell_blk (o := 0) V4.out (.int .u32 (wW xv))) (.int .i64 (wS xv))) (.int .i64 (wT xv))) (.int .i64 (wC xv))) (.int .i64 xh))
          have g0 := cell_of hfin 0
          have g1 := cell_of hfin 1
          have g2 := cell_of hfin 2
          have g3 := cell_of hfin 3
          have g4 := cell_of hfin 4
          simp at g0 g1 g2 g3 g4
          refine bodyPost_ret (v := .agg #[.int .u32 (wW xv), .int .i64 (wS xv), .int .i64 (wT xv), .int .i64 (wC xv), .int .i64 xh]) (by simp [results, Try.results107, go_sem, g0, g1, g2, g3, g4]) rfl ⟨rfl, ?_, ?_⟩
          · show Hp J A fv nv bh bi bm m cap (takeF lt L at_) _
            have hfr : Fr (fun b => b = b4) _ _ := Fr.setCell (Fr.setCell (Fr.setCell (Fr.setCell (Fr.setCell (Fr.refl (fun b => b = b4) wc) (p := ⟨b4, 0, none⟩) (by intro _; rfl) (.int .u32 (wW xv))) (p := ⟨b4, 1, none⟩) (by intro _; rfl) (.int .i64 (wS xv))) (p := ⟨b4, 2, none⟩) (by intro _; rfl) (.int .i64 (wT xv))) (p := ⟨b4, 3, none⟩) (by intro _; rfl) (.int .i64 (wC xv))) (p := ⟨b4, 4, none⟩) (by intro _; rfl) (.int .i64 xh)
            exact HQ.out.fr hfr (HL.out.keep _ _ HQ.out.j (hfr.mono (fun b _ hb hF => by subst hb; have := HL.out.bound w b Hh.out.j hF; omega))) (by omega) (by omega) (by omega)
          · refine Fr.setCell (Fr.setCell (Fr.setCell (Fr.setCell (Fr.setCell (?_) (by intro h; exact (hb4 _ rfl h).elim) _) (by intro h; exact (hb4 _ rfl h).elim) _) (by intro h; exact (hb4 _ rfl h).elim) _) (by intro h; exact (hb4 _ rfl h).elim) _) (by intro h; exact (hb4 _ rfl h).elim) _
            refine ((((Hf.out.mono (G := fun b => FJ b ∨ b = bh ∨ b = bi ∨ b = bm) (fun _ _ h => h.elim)).trans Hf1.out ?_).trans Hf2.out ?_).trans HfW.out ?_).trans Hf9.out ?_
            · rintro b _ (h | h)
              · exact .inr (.inr (.inl h))
              · exact .inr (.inr (.inr h))
            · rintro b _ h; exact .inr (.inr (.inl h))
            · rintro b _ (h | h)
              · exact .inr (.inl h)
              · exact .inr (.inr (.inr h))
            · rintro b _ (h | h | h)
              · exact .inl h
              · exact .inr (.inr (.inl h))
              · exact .inr (.inr (.inr h))
end
end Go.Proofs.Ytjfnaflbhmeokaa.Wt
