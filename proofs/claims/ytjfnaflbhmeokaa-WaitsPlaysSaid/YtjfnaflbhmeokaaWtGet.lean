/- A heap of waiting parties: Get of a handle that is there. No condition. -/
import Derived.Test.YtjfnaflbhmeokaaWtE
namespace Go.Proofs.Ytjfnaflbhmeokaa.Wt
open Go.RowKit
section
variable {J : World → Prop} {FJ : Nat → Prop} {A : Int → Prop} {fv : Value} {G : Nat → Prop} {bh : Nat} {L : List It} {next : Int} {w : World}
variable {lt : Int → Int → Bool} {fl : Nat} {caps : Array Value}
variable (hL : LessOk Try.prog fv lt J FJ A fl caps)
include hL
set_option maxRecDepth 100000 in
set_option maxHeartbeats 1000000 in
theorem get_there (h0 : HeapIs J FJ A fv G bh L next w) {i : Nat} (hi : i < L.length) :
    Calls Try.prog 76 #[.pointer (some ⟨bh, 0, none⟩), .int .i64 (itAt L i).2] w fun e w' => e = .returned (.tuple #[wtT (itAt L i).1, .bool true]) ∧ Fr (fun _ => False) w w' := by
  have f0 : Fr (fun _ => False) w ((w.alloc (.cells #[.int .u32 0, .int .i64 0, .int .i64 0, .int .i64 0] 32)).alloc (.cells #[.int .u32 0, .int .i64 0, .int .i64 0, .int .i64 0] 32)) := Fr.alloc (Fr.alloc (Fr.refl _ _) _) _
  have h := HeapIs.keepFr hL h0 f0
  have gz4 : ((w.alloc (.cells #[.int .u32 0, .int .i64 0, .int .i64 0, .int .i64 0] 32)).alloc (.cells #[.int .u32 0, .int .i64 0, .int .i64 0, .int .i64 0] 32)).heap[w.heap.size]? = some (.cells #[.int .u32 0, .int .i64 0, .int .i64 0, .int .i64 0] 32 (0, 0)) := by simp only [heap_alloc_get, World.size_alloc]; simp
  have gz6 : ((w.alloc (.cells #[.int .u32 0, .int .i64 0, .int .i64 0, .int .i64 0] 32)).alloc (.cells #[.int .u32 0, .int .i64 0, .int .i64 0, .int .i64 0] 32)).heap[w.heap.size + 1]? = some (.cells #[.int .u32 0, .int .i64 0, .int .i64 0, .int .i64 0] 32 (0, 0)) := by simp only [heap_alloc_get, World.size_alloc]; simp
  obtain ⟨bi, bm, cap, hp, hcl, hcm, gi, gm⟩ := h.toHp (by omega)
  obtain ⟨f, hM, hP⟩ := hp.map
  obtain ⟨arr, r1, r2, r3⟩ := hp.row
  have c1 := cell_of hp.hH 1
  have c2 := cell_of hp.hH 2
  simp at c1 c2
  have hlk := run_lookup2 (P := Try.prog) Try.underlying115 Try.underlying3 hM (Try.zeroValue3 _) (itAt L i).2
  rw [hP.here i hi] at hlk
  simp only [Option.getD_some, Option.isSome_some] at hlk
  have d0 := (cell_of r1 (i * 5)).trans (r3 i hi).1
  have d1 := (cell_of r1 (i * 5 + 1)).trans (r3 i hi).2.1
  have d2 := (cell_of r1 (i * 5 + 2)).trans (r3 i hi).2.2.1
  have d3 := (cell_of r1 (i * 5 + 3)).trans (r3 i hi).2.2.2.1
  have hi' : (i : Int) < (L.length : Int) := by omega
  have hlen := h.len
  obtain ⟨xv, hxv⟩ : ∃ x, x = (itAt L i).1 := ⟨_, rfl⟩
  obtain ⟨xh, hxh⟩ : ∃ x, x = (itAt L i).2 := ⟨_, rfl⟩
  rw [← hxh] at hlk ⊢
  rw [← hxv] at d0 d1 d2 d3 ⊢
  obtain ⟨b4, hb4⟩ : ∃ b, b = w.heap.size := ⟨_, rfl⟩
  obtain ⟨b6, hb6⟩ : ∃ b, b = b4 + 1 := ⟨_, rfl⟩
  have gG : ∀ b, G b → b < w.heap.size := h0.bd
  have n46 : ¬ b4 = b6 := by omega
  have n64 : ¬ b6 = b4 := by omega
  have n1 : ¬ bi = b4 := fun e => by have := gG _ gi; omega
  have n2 : ¬ bi = b6 := fun e => by have := gG _ gi; omega
  have n3 : ¬ bh = b4 := fun e => by have := gG _ h.gh; omega
  have n4 : ¬ bh = b6 := fun e => by have := gG _ h.gh; omega
  have n5 : ¬ b4 = bi := fun e => n1 e.symm
  have n6 : ¬ b6 = bi := fun e => n2 e.symm
  have n7 : ¬ b4 = bh := fun e => n3 e.symm
  have n8 : ¬ b6 = bh := fun e => n4 e.symm
  rw [← hb4] at gz4
  rw [← hb4, ← hb6] at gz6
  have z40 := (cell_of gz4 0).trans (show _ = some (Value.int .u32 0) from rfl)
  have y40 := free_of gz4 0
  have z41 := (cell_of gz4 1).trans (show _ = some (Value.int .i64 0) from rfl)
  have y41 := free_of gz4 1
  have z42 := (cell_of gz4 2).trans (show _ = some (Value.int .i64 0) from rfl)
  have y42 := free_of gz4 2
  have z43 := (cell_of gz4 3).trans (show _ = some (Value.int .i64 0) from rfl)
  have y43 := free_of gz4 3
  have z60 := (cell_of gz6 0).trans (show _ = some (Value.int .u32 0) from rfl)
  have y60 := free_of gz6 0
  have z61 := (cell_of gz6 1).trans (show _ = some (Value.int .i64 0) from rfl)
  have y61 := free_of gz6 1
  have z62 := (cell_of gz6 2).trans (show _ = some (Value.int .i64 0) from rfl)
  have y62 := free_of gz6 2
  have z63 := (cell_of gz6 3).trans (show _ = some (Value.int .i64 0) from rfl)
  have y63 := free_of gz6 3
  have HL := Lib.hid hL; have Hh := Lib.hid h; have F0 := Lib.hid f0; have Gz4 := Lib.hid gz4; have Gz6 := Lib.hid gz6; have Hb4 := Lib.hid hb4; have Hb6 := Lib.hid hb6
  clear hL h h0 hM hP gm gi hp r1 r2 r3 hcl hcm hxv hxh f0 gz4 gz6 gG
  go_enter Try.func76, Try.ntmps76
  go_upto_region 2 with fail
  rw [← hb4, ← hb6]
  clear hb4 hb6
  generalize ((w.alloc (.cells #[.int .u32 0, .int .i64 0, .int .i64 0, .int .i64 0] 32)).alloc (.cells #[.int .u32 0, .int .i64 0, .int .i64 0, .int .i64 0] 32)) = W at *
  go_wp2_with fail
  refine (none_ok HL.out Hh.out).mono ?_
  rintro e w' ⟨rfl, rfl⟩
  go_wp2_with fail
  have hx6 := (setCell_blk (o := 3) (setCell_blk (o := 2) (setCell_blk (o := 1) (setCell_blk (o := 0) Gz6.out (.int .u32 (wW xv))) (.int .i64 (wS xv))) (.int .i64 (wT xv))) (.int .i64 (wC xv)))
  have f6 : Fr (fun b => b = b6) W _ := Fr.setCell (F := fun b => b = b6) (p := ⟨b6, 3, none⟩) (Fr.setCell (F := fun b => b = b6) (p := ⟨b6, 2, none⟩) (Fr.setCell (F := fun b => b = b6) (p := ⟨b6, 1, none⟩) (Fr.setCell (F := fun b => b = b6) (p := ⟨b6, 0, none⟩) (Fr.refl _ _) (fun _ => rfl) (.int .u32 (wW xv))) (fun _ => rfl) (.int .i64 (wS xv))) (fun _ => rfl) (.int .i64 (wT xv))) (fun _ => rfl) (.int .i64 (wC xv))
  have hfin := (setCell_blk (o := 3) (setCell_blk (o := 2) (setCell_blk (o := 1) (setCell_blk (o := 0) (f6.get Gz4.out n46) (.int .u32 (wW xv))) (.int .i64 (wS xv))) (.int .i64 (wT xv))) (.int .i64 (wC xv)))
  have g0 := cell_of hfin 0
  have g1 := cell_of hfin 1
  have g2 := cell_of hfin 2
  have g3 := cell_of hfin 3
  simp at g0 g1 g2 g3
  refine bodyPost_ret (v := .tuple #[wtT xv, .bool true]) ?_ rfl ⟨rfl, ?_⟩
  · simp [results, Try.results76, Try.f76, go_sem, g0, g1, g2, g3]
  · refine Fr.toNew (Fr.trans (G := fun b => b = b4 ∨ b = b6) (F0.out.mono (fun _ _ h => h.elim)) (Fr.setCell (F := fun b => b = b4 ∨ b = b6) (p := ⟨b4, 3, none⟩) (Fr.setCell (F := fun b => b = b4 ∨ b = b6) (p := ⟨b4, 2, none⟩) (Fr.setCell (F := fun b => b = b4 ∨ b = b6) (p := ⟨b4, 1, none⟩) (Fr.setCell (F := fun b => b = b4 ∨ b = b6) (p := ⟨b4, 0, none⟩) (Fr.setCell (F := fun b => b = b4 ∨ b = b6) (p := ⟨b6, 3, none⟩) (Fr.setCell (F := fun b => b = b4 ∨ b = b6) (p := ⟨b6, 2, none⟩) (Fr.setCell (F := fun b => b = b4 ∨ b = b6) (p := ⟨b6, 1, none⟩) (Fr.setCell (F := fun b => b = b4 ∨ b = b6) (p := ⟨b6, 0, none⟩) (Fr.refl _ _) (fun _ => by exact .inr rfl) _) (fun _ => by exact .inr rfl) _) (fun _ => by exact .inr rfl) _) (fun _ => by exact .inr rfl) _) (fun _ => by exact .inl rfl) _) (fun _ => by exact .inl rfl) _) (fun _ => by exact .inl rfl) _) (fun _ => by exact .inl rfl) _) ?_)
    rintro b _ (rfl | rfl)
    · rw [Hb4.out]; exact Nat.le_refl _
    · rw [Hb6.out, Hb4.out]; omega
end
end Go.Proofs.Ytjfnaflbhmeokaa.Wt
