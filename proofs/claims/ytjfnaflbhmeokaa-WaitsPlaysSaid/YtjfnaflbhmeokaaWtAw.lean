/- The law's awake of waiting parties. No condition. -/
import Derived.Test.YtjfnaflbhmeokaaWtU
namespace Go.Proofs.Ytjfnaflbhmeokaa.Wt
open Go.Shelf Go.RowKit
/-- A built slice of one party. -/
theorem wts_one {W : World} {b : Nat} {x : Int} (h : W.heap[b]? = some (.cells #[.int .u32 (wW x), .int .i64 (wS x), .int .i64 (wT x), .int .i64 (wC x)] 32 (0, 0))) : Wts W (.slice (some ⟨b, 0, none⟩) 1 1) [x] :=
  ⟨rfl, .inr ⟨b, 1, _, rfl, Nat.zero_le _, h, by simp, by decide, rfl, rfl⟩⟩
def aN : Int := wtN 1 2 0 5
def bN : Int := wtN 2 4 3 9
theorem aN_f : okW aN ∧ wW aN = 1 ∧ wS aN = 2 ∧ wT aN = 0 ∧ wC aN = 5 := okW_n (by decide) (by decide) (by decide) (by decide) (by decide) (by decide) (by decide) (by decide)
theorem bN_f : okW bN ∧ wW bN = 2 ∧ wS bN = 4 ∧ wT bN = 3 ∧ wC bN = 9 := okW_n (by decide) (by decide) (by decide) (by decide) (by decide) (by decide) (by decide) (by decide)
theorem aw_j1 : joinE [] 1 2 0 5 = 0 := by unfold joinE; rw [if_neg (by decide), if_neg (by simp), if_neg (by decide)]
theorem aw_s1 : joinS [] 1 2 0 5 = [aN] := by unfold joinS; rw [if_pos aw_j1]; rfl
theorem aw_j2 : joinE [aN] 2 4 3 9 = 0 := by unfold joinE; rw [if_neg (by decide), if_neg (by simp [aN_f.2.1]), if_neg (by decide)]
theorem aw_lt : ltW aN bN = false := by
  rw [ltW_false]; obtain ⟨_, a1, a2, a3, a4⟩ := aN_f; obtain ⟨_, b1, b2, b3, b4⟩ := bN_f; omega
theorem aw_s2 : joinS [aN] 2 4 3 9 = [bN, aN] := by
  unfold joinS; rw [if_pos aw_j2]
  show insW bN [aN] = _
  unfold insW; rw [aw_lt]; rfl
theorem aw_serve : serveF 3 [bN, aN] = ([aN], [bN]) := by
  obtain ⟨_, a1, a2, a3, a4⟩ := aN_f; obtain ⟨_, b1, b2, b3, b4⟩ := bN_f
  unfold serveF; rw [if_neg (by omega)]
  unfold serveF; rw [if_pos (by omega)]
  unfold serveF; rfl
theorem aw_va : wtV aN = rawW 1 2 0 5 := by obtain ⟨_, a1, a2, a3, a4⟩ := aN_f; unfold wtV rawW; rw [a1, a2, a3, a4]
theorem eqlW_refl (w : World) (x : Int) : (binOp .eql 32 (wtV x) (wtV x)).run Try.prog w = .ok (.bool true) w := by rw [eqlW]; simp
theorem wts_aN {W : World} {b : Nat} (h : W.heap[b]? = some (.cells #[.int .u32 1, .int .i64 2, .int .i64 0, .int .i64 5] 32 (0, 0))) : Wts W (.slice (some ⟨b, 0, none⟩) 1 1) [aN] := by
  obtain ⟨_, a1, a2, a3, a4⟩ := aN_f
  exact wts_one (by rw [a1, a2, a3, a4]; exact h)
theorem aw_eq (w : World) : (binOp .eql 32 (rawW 1 2 0 5) (rawW 1 2 0 5)).run Try.prog w = .ok (.bool true) w := by rw [← aw_va]; exact eqlW_refl w aN
set_option maxRecDepth 100000 in
set_option maxHeartbeats 2000000 in
theorem awake_ok (w : World) : Calls Try.prog 12 #[] w fun e w' => e = .returned (.bool true) ∧ Fr (fun _ => False) w w' := by
  go_enter Try.func12, Try.ntmps12
  go_wp2_with fail
  refine (newL_ok w).mono ?_
  rintro e w1 ⟨bl, G, rfl, hS, hG, hf⟩
  obtain ⟨W, hW⟩ : ∃ W, W = (w1.alloc (.cells #[.int .u32 1, .int .i64 2, .int .i64 0, .int .i64 5] 32)).alloc (.cells #[.int .u32 2, .int .i64 4, .int .i64 3, .int .i64 9] 32) := ⟨_, rfl⟩
  have fA : Fr (fun _ => False) w1 W := by rw [hW]; exact Fr.alloc (Fr.alloc (Fr.refl _ _) _) _
  have ga : W.heap[w1.heap.size]? = some (.cells #[.int .u32 1, .int .i64 2, .int .i64 0, .int .i64 5] 32 (0, 0)) := by rw [hW]; simp only [heap_alloc_get, World.size_alloc]; simp
  have gb : W.heap[w1.heap.size + 1]? = some (.cells #[.int .u32 2, .int .i64 4, .int .i64 3, .int .i64 9] 32 (0, 0)) := by rw [hW]; simp only [heap_alloc_get, World.size_alloc]; simp
  have nG : ∀ b, G b → b < w1.heap.size := hS.bd
  have hS1 := hS.keep fA
  obtain ⟨p, hp⟩ : ∃ p, p = w1.heap.size := ⟨_, rfl⟩
  have HJ1 := join_ok hS1 (a := 1) (b := 2) (c := 0) (d := 5) (by decide) (by decide) (by decide)
  rw [aw_j1, aw_s1] at HJ1
  rw [← hp] at ga gb nG
  have J1 := Lib.hid HJ1; have Ga := Lib.hid ga; have Gb := Lib.hid gb; have NG := Lib.hid nG; have F1 := Lib.hid (hf.trans fA (fun _ _ h => h)); have HG := Lib.hid hG; have Hw1 := Lib.hid hf.size
  have a0 := (cell_of ga 0).trans (show _ = some (Value.int .u32 1) from rfl)
  have a1 := (cell_of ga 1).trans (show _ = some (Value.int .i64 2) from rfl)
  have a2 := (cell_of ga 2).trans (show _ = some (Value.int .i64 0) from rfl)
  have a3 := (cell_of ga 3).trans (show _ = some (Value.int .i64 5) from rfl)
  clear hS hS1 hG hf fA ga gb nG HJ1
  go_upto_region 3 with fail
  rw [← hp, ← hW]
  clear hW hp
  go_wp2_with fail
  refine J1.out.mono ?_
  rintro e w2 ⟨rfl, G1, n1, h1, hn1, f1, g1⟩
  have nGp : ¬ G p := fun h => by have := NG.out p h; omega
  have nGp1 : ¬ G (p + 1) := fun h => by have := NG.out _ h; omega
  have ga2 := f1.get Ga.out nGp
  have gb2 := f1.get Gb.out nGp1
  have b0 := (cell_of gb2 0).trans (show _ = some (Value.int .u32 2) from rfl)
  have b1 := (cell_of gb2 1).trans (show _ = some (Value.int .i64 4) from rfl)
  have b2 := (cell_of gb2 2).trans (show _ = some (Value.int .i64 3) from rfl)
  have b3 := (cell_of gb2 3).trans (show _ = some (Value.int .i64 9) from rfl)
  have HJ2 := join_ok h1 (a := 2) (b := 4) (c := 3) (d := 9) (by decide) (by decide) (by omega)
  rw [aw_j2, aw_s2] at HJ2
  have J2 := Lib.hid HJ2; have Ga2 := Lib.hid ga2; have F2 := Lib.hid (F1.out.trans f1 (G := G) (F := fun _ => False) (fun b hb h => by have := HG.out b h; omega)); have Lp2 := Lib.hid (lt_of_block Ga.out)
  have NG2 := Lib.hid (show ∀ b, G1 b → G b ∨ W.heap.size ≤ b from g1)
  have Hn1 := Lib.hid hn1; have HG2 := Lib.hid (show ∀ b, G1 b → w.heap.size ≤ b from fun b hb => by rcases g1 b hb with h | h; exact HG.out b h; have := F1.out.size; omega)
  clear h1 f1 g1 HJ2 ga2 gb2 hn1 a0 a1 a2 a3 nGp nGp1
  go_wp2_with fail
  refine J2.out.mono ?_
  rintro e w3 ⟨rfl, G2, n2, h2, hn2, f2, g2⟩
  have nGp : ¬ G1 p := fun h => by
    rcases NG2.out p h with e | e
    · have := NG.out p e; omega
    · have := Lp2.out; omega
  have ga3 := f2.get Ga2.out nGp
  have HGe := get_there' h2 (x := aN) (by simp) (by have := Hn1.out; omega)
  have e1 : placeW [bN, aN] aN = 1 := placeW_at h2.ord (k := 1) (by simp)
  rw [aN_f.2.1, e1, aw_va] at HGe
  have GE := Lib.hid HGe; have Ga3 := Lib.hid ga3; have H2 := Lib.hid h2
  have F3 := Lib.hid (F2.out.trans f2 (G := G1) (F := fun _ => False) (fun b hb h => by have := HG2.out b h; omega))
  have HG3 := Lib.hid (show ∀ b, G2 b → w.heap.size ≤ b from fun b hb => by rcases g2 b hb with h | h; exact HG2.out b h; have := F2.out.size; omega)
  have NG3 := Lib.hid (show ¬ G2 p from fun h => by
    rcases g2 p h with e | e
    · exact nGp e
    · have := lt_of_block Ga2.out; omega)
  have Hn2 := Lib.hid hn2
  clear h2 hn2 f2 g2 nGp ga3 HGe e1 b0 b1 b2 b3
  go_wp2_with fail
  refine GE.out.mono ?_
  rintro e w4 ⟨rfl, f4⟩
  have fB : Fr (fun _ => False) w4 (w4.alloc (.cells #[.int .u32 1, .int .i64 2, .int .i64 0, .int .i64 5] 32)) := Fr.alloc (Fr.refl _ _) _
  have g4 : (w4.alloc (.cells #[.int .u32 1, .int .i64 2, .int .i64 0, .int .i64 5] 32)).heap[w4.heap.size]? = some (.cells #[.int .u32 1, .int .i64 2, .int .i64 0, .int .i64 5] 32 (0, 0)) := heap_alloc_at _ _
  have f34 := f4.trans fB (fun _ _ h => h)
  have h4 := H2.out.keep f34
  have ga4 := f34.get Ga3.out (fun h => h)
  have HSv := serve_ok h4 (n := 3) (by decide) (by decide) (by have := Hn1.out; have := Hn2.out; omega)
  rw [aw_serve] at HSv
  have SV := Lib.hid HSv; have Ga4 := Lib.hid ga4; have G4 := Lib.hid g4; have F4 := Lib.hid (F3.out.trans f34 (fun _ _ h => h)); have H4 := Lib.hid h4
  have Nq := Lib.hid (show ¬ G2 w4.heap.size from fun h => by have := H2.out.bd _ h; have := f4.size; omega)
  clear f4 fB g4 f34 h4 ga4 HSv
  go_upto_region 6 with fail
  generalize (w4.alloc (.cells #[.int .u32 1, .int .i64 2, .int .i64 0, .int .i64 5] 32)) = W4 at *
  generalize w4.heap.size = q at *
  go_wp2_with fail
  refine SV.out.mono ?_
  rintro e w5 ⟨v, rfl, hv, hvn, G3, n3, h5, hn3, f5, g5, hvg⟩
  have gq := f5.get G4.out Nq.out
  have gp := f5.get Ga4.out NG3.out
  have q0 := (cell_of gq 0).trans (show _ = some (Value.int .u32 1) from rfl)
  have q1 := (cell_of gq 1).trans (show _ = some (Value.int .i64 2) from rfl)
  have q2 := (cell_of gq 2).trans (show _ = some (Value.int .i64 0) from rfl)
  have q3 := (cell_of gq 3).trans (show _ = some (Value.int .i64 5) from rfl)
  have p0 := (cell_of gp 0).trans (show _ = some (Value.int .u32 1) from rfl)
  have p1 := (cell_of gp 1).trans (show _ = some (Value.int .i64 2) from rfl)
  have p2 := (cell_of gp 2).trans (show _ = some (Value.int .i64 0) from rfl)
  have p3 := (cell_of gp 3).trans (show _ = some (Value.int .i64 5) from rfl)
  have hqe := aw_eq
  have fC : Fr (fun _ => False) w5 (w5.alloc (.cells #[.int .u32 1, .int .i64 2, .int .i64 0, .int .i64 5] 32)) := Fr.alloc (Fr.refl _ _) _
  have HSW := same_ok (Row.fr hv fC (fun _ _ h => h)) (wts_aN (heap_alloc_at w5 _)) (by simp) (by simp)
  rw [decide_eq_true (rfl : [aN] = [aN])] at HSW
  have SW := Lib.hid HSW; have H5 := Lib.hid (h5.keep fC)
  have F5 := Lib.hid ((F4.out.trans f5 (G := G2) (F := fun _ => False) (fun b hb h => by have := HG3.out b h; omega)).trans fC (fun _ _ h => h))
  clear hv hvn h5 hn3 f5 g5 hvg gq gp HSW fC
  go_wp2_with fail
  refine SW.out.mono ?_
  rintro e w6 ⟨rfl, f6⟩
  have HLn := Lib.hid (length_ok (H5.out.keep f6)); have F6 := Lib.hid (F5.out.trans f6 (fun _ _ h => h))
  clear f6 p0 p1 p2 p3 q0 q1 q2 q3
  go_wp2_with fail
  refine HLn.out.mono ?_
  rintro e w7 ⟨rfl, rfl⟩
  go_wp2_with fail
  go_ret
  exact ⟨rfl, F6.out⟩
end Go.Proofs.Ytjfnaflbhmeokaa.Wt
