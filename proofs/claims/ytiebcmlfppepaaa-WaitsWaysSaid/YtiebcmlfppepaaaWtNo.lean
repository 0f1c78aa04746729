/- A list of waiting parties that is none: Join, Leave, Raise; a full list. No condition. -/
import Derived.Test.YtiebcmlfppepaaaWtAw
namespace Go.Proofs.Ytiebcmlfppepaaa.Wt
open Go.Shelf Go.RowKit
section
variable {w : World}
set_option maxRecDepth 100000 in
theorem join_no {p : Option Addr} (h : NoList w p) (a b c d : Int) : Calls Try.prog 25 #[.pointer p, rawW a b c d] w fun e w' => e = .returned (.int .i64 1) ∧ Fr (fun _ => False) w w' := by
  have f0 : Fr (fun _ => False) w (w.alloc (.cells #[.int .u32 a, .int .i64 b, .int .i64 c, .int .i64 d] 51)) := Fr.alloc (Fr.refl _ _) _
  have HM := Lib.hid (made_no (h.fr f0))
  have F0 := Lib.hid f0
  clear h f0
  go_enter Try.func25, Try.ntmps25
  go_wp2_with fail
  refine HM.out.mono ?_
  rintro e w1 ⟨rfl, rfl⟩
  go_wp2_with fail
  go_ret
  exact ⟨rfl, F0.out⟩
set_option maxRecDepth 100000 in
theorem leave_no {p : Option Addr} (h : NoList w p) (who : Int) : Calls Try.prog 26 #[.pointer p, .int .u32 who] w fun e w' => e = .returned (.int .i64 1) ∧ w = w' := by
  have HM := Lib.hid (made_no h)
  clear h
  go_enter Try.func26, Try.ntmps26
  go_wp2_with fail
  refine HM.out.mono ?_
  rintro e w1 ⟨rfl, rfl⟩
  go_wp2_with fail
  go_ret
  exact ⟨rfl, rfl⟩
set_option maxRecDepth 100000 in
theorem raise_no {p : Option Addr} (h : NoList w p) (who t : Int) : Calls Try.prog 27 #[.pointer p, .int .u32 who, .int .i64 t] w fun e w' => e = .returned (.int .i64 1) ∧ w = w' := by
  have HM := Lib.hid (made_no h)
  clear h
  go_enter Try.func27, Try.ntmps27
  go_wp2_with fail
  refine HM.out.mono ?_
  rintro e w1 ⟨rfl, rfl⟩
  go_wp2_with fail
  go_ret
  exact ⟨rfl, rfl⟩
end
/-- The list while the law fills it. -/
noncomputable def nfx (j : Nat) : Int := wtN (j + 1) 16 ((j % 10 : Nat) : Int) 1099511627776
noncomputable def NF : Nat → List Int
  | 0 => []
  | i + 1 => insW (nfx i) (NF i)
theorem nfx_f {j : Nat} (h : j < 1024) : okW (nfx j) ∧ wW (nfx j) = j + 1 ∧ wS (nfx j) = 16 ∧ wT (nfx j) = ((j % 10 : Nat) : Int) ∧ wC (nfx j) = 1099511627776 := okW_n (by omega) (by omega) (by decide) (by decide) (by omega) (by omega) (by decide) (by decide)
theorem NF_mem : ∀ {i : Nat} {x : Int}, x ∈ NF i ↔ ∃ j, j < i ∧ x = nfx j
  | 0, x => by simp [NF]
  | i + 1, x => by
    unfold NF
    rw [(insW_perm _ _).mem_iff, List.mem_cons, NF_mem]
    constructor
    · rintro (rfl | ⟨j, hj, rfl⟩)
      · exact ⟨i, by omega, rfl⟩
      · exact ⟨j, by omega, rfl⟩
    · rintro ⟨j, hj, rfl⟩
      by_cases e : j = i
      · subst e; exact .inl rfl
      · exact .inr ⟨j, by omega, rfl⟩
theorem NF_len : ∀ i, (NF i).length = i
  | 0 => rfl
  | i + 1 => by unfold NF; rw [insW_length, NF_len]
theorem NF_join {i : Nat} (h : i < 1024) : joinE (NF i) (i + 1) 16 ((i % 10 : Nat) : Int) 1099511627776 = 0 := by
  unfold joinE
  rw [if_neg, if_neg, if_neg]
  · rw [NF_len]; omega
  · rintro ⟨x, hx, e⟩
    obtain ⟨j, hj, rfl⟩ := NF_mem.1 hx
    rw [(nfx_f (by omega)).2.1] at e; omega
  · have : mayB (i + 1) 16 ((i % 10 : Nat) : Int) 1099511627776 = true := (mayB_true (by omega)).2 (by omega)
    rw [this]; decide
theorem NF_joinS {i : Nat} (h : i < 1024) : joinS (NF i) (i + 1) 16 ((i % 10 : Nat) : Int) 1099511627776 = NF (i + 1) := by
  unfold joinS; rw [if_pos (NF_join h)]; rfl
theorem NF_full : joinE (NF 1024) 1025 1 0 0 = 6 := by
  unfold joinE
  rw [if_neg (by decide), if_neg, if_pos (NF_len _)]
  rintro ⟨x, hx, e⟩
  obtain ⟨j, hj, rfl⟩ := NF_mem.1 hx
  rw [(nfx_f hj).2.1] at e; omega
theorem NF_there : joinE (NF 1024) 7 1 0 0 = 7 := by
  unfold joinE
  rw [if_neg (by decide), if_pos]
  exact ⟨nfx 6, NF_mem.2 ⟨6, by omega, rfl⟩, by rw [(nfx_f (by omega)).2.1]; rfl⟩
theorem joinS_no {S : List Int} {a b c d : Int} (h : joinE S a b c d ≠ 0) : joinS S a b c d = S := by unfold joinS; rw [if_neg h]
theorem serveF_all : ∀ {S : List Int} {n : Int}, (∀ x ∈ S, wS x = 16) → 16 * (S.length : Int) ≤ n → serveF n S = (S, [])
  | [], _, _, _ => rfl
  | x :: S, n, h, hn => by
    have hx := h x (by simp)
    simp only [List.length_cons] at hn
    unfold serveF
    rw [if_pos (by push_cast at hn; omega), serveF_all (fun y hy => h y (by simp [hy])) (by push_cast at hn; omega)]
theorem NF_serve : serveF 16384 (NF 1024) = (NF 1024, []) := by
  refine serveF_all ?_ (by rw [NF_len]; decide)
  intro x hx
  obtain ⟨j, hj, rfl⟩ := NF_mem.1 hx
  exact (nfx_f hj).2.2.1
theorem NF_head (h : Ord (NF 1024)) : (NF 1024).getD 0 0 = nfx 9 := by
  have hl : 0 < (NF 1024).length := by rw [NF_len]; omega
  have hx : nfx 9 ∈ NF 1024 := NF_mem.2 ⟨9, by omega, rfl⟩
  obtain ⟨i, hi, e⟩ := List.getElem_of_mem hx
  have e0 : (NF 1024).getD 0 0 = (NF 1024)[0] := by simp [hl]
  rw [e0]
  by_cases h0 : i = 0
  · subst h0; exact e
  · exfalso
    have hp := List.pairwise_iff_getElem.1 h 0 i hl hi (by omega)
    rw [e] at hp
    obtain ⟨j, hj, ej⟩ := NF_mem.1 (List.getElem_mem hl)
    rw [ej, ltW_iff, (nfx_f hj).2.1, (nfx_f hj).2.2.2.1, (nfx_f hj).2.2.2.2, (nfx_f (show 9 < 1024 by omega)).2.1, (nfx_f (show 9 < 1024 by omega)).2.2.2.1, (nfx_f (show 9 < 1024 by omega)).2.2.2.2] at hp
    omega
/-- The parties that may not be. -/
def oddQ : Nat → Int × Int × Int × Int
  | 0 => (0, 1, 0, 0)
  | 1 => (1, 0, 0, 0)
  | 2 => (1, 17, 0, 0)
  | 3 => (1, 1, -1, 0)
  | 4 => (1, 1, 10, 0)
  | 5 => (1, 1, 0, -1)
  | _ => (1, 1, 0, 1099511627777)
def oddArr : Array Value := #[.int .u32 0, .int .i64 1, .int .i64 0, .int .i64 0, .int .u32 1, .int .i64 0, .int .i64 0, .int .i64 0, .int .u32 1, .int .i64 17, .int .i64 0, .int .i64 0, .int .u32 1, .int .i64 1, .int .i64 (-1), .int .i64 0,
  .int .u32 1, .int .i64 1, .int .i64 10, .int .i64 0, .int .u32 1, .int .i64 1, .int .i64 0, .int .i64 (-1), .int .u32 1, .int .i64 1, .int .i64 0, .int .i64 1099511627777]
theorem odd_cells {w : World} {b : Nat} (h : w.heap[b]? = some (.cells oddArr 51 (0, 0))) {i : Nat} (hi : i < 7) :
    w.cell? ⟨b, i * 4, none⟩ = some (.int .u32 (oddQ i).1) ∧ w.cell? ⟨b, i * 4 + 1, none⟩ = some (.int .i64 (oddQ i).2.1) ∧ w.cell? ⟨b, i * 4 + 2, none⟩ = some (.int .i64 (oddQ i).2.2.1) ∧ w.cell? ⟨b, i * 4 + 3, none⟩ = some (.int .i64 (oddQ i).2.2.2) := by
  rw [cell_of h, cell_of h, cell_of h, cell_of h]
  match i, hi with
  | 0, _ => exact ⟨rfl, rfl, rfl, rfl⟩
  | 1, _ => exact ⟨rfl, rfl, rfl, rfl⟩
  | 2, _ => exact ⟨rfl, rfl, rfl, rfl⟩
  | 3, _ => exact ⟨rfl, rfl, rfl, rfl⟩
  | 4, _ => exact ⟨rfl, rfl, rfl, rfl⟩
  | 5, _ => exact ⟨rfl, rfl, rfl, rfl⟩
  | 6, _ => exact ⟨rfl, rfl, rfl, rfl⟩
theorem odd_join {i : Nat} (hi : i < 7) (S : List Int) : joinE S (oddQ i).1 (oddQ i).2.1 (oddQ i).2.2.1 (oddQ i).2.2.2 = 2 ∧ 0 ≤ (oddQ i).1 ∧ (oddQ i).1 < 4294967296 := by
  have hm : mayB (oddQ i).1 (oddQ i).2.1 (oddQ i).2.2.1 (oddQ i).2.2.2 = false ∧ 0 ≤ (oddQ i).1 ∧ (oddQ i).1 < 4294967296 := by
    match i, hi with
    | 0, _ => decide
    | 1, _ => decide
    | 2, _ => decide
    | 3, _ => decide
    | 4, _ => decide
    | 5, _ => decide
    | 6, _ => decide
  exact ⟨by unfold joinE; rw [if_pos hm.1], hm.2⟩
theorem zz_ne (w : World) : (binOp .neq 51 (rawW 0 0 0 0) (rawW 0 0 0 0)).run Try.prog w = .ok (.bool false) w := by rw [run_neq_struct, equalW]; rfl
end Go.Proofs.Ytiebcmlfppepaaa.Wt
