/- The index layer: slots in a buffer; IndexFunc. No condition. -/
import Derived.Test.YtiebcmlfppepaaaIxE
import Derived.Laws.IdiomCopy
namespace Go.Proofs.Ytiebcmlfppepaaa.Ix
open Go.RowKit
theorem setCells_blk : ∀ (vs A M R : List Value) (o : Nat) (w : World) (b : Nat) (t : TypeId), w.heap[b]? = some (.cells (A ++ M ++ R).toArray t (0, 0)) → A.length = o → M.length = vs.length → (w.setCells b o vs).heap[b]? = some (.cells (A ++ vs ++ R).toArray t (0, 0))
  | [], A, M, R, o, w, b, t, h, _, hM => by
    obtain rfl : M = [] := List.length_eq_zero_iff.1 hM
    exact h
  | v :: vs, A, M, R, o, w, b, t, h, hA, hM => by
    cases M with
    | nil => simp at hM
    | cons m M =>
      have h1 := setCell_blk (o := o) h v
      have e : ((A ++ m :: M ++ R).toArray.setIfInBounds o v) = (A ++ [v] ++ M ++ R).toArray := by
        subst hA
        simp
      rw [e] at h1
      have := setCells_blk vs (A ++ [v]) M R (o + 1) _ b t h1 (by simp [hA]) (by simpa using hM)
      simpa [World.setCells] using this
theorem setCells_fr : ∀ (vs : List Value) (o : Nat) (w : World) (b : Nat), Fr (fun k => k = b) w (w.setCells b o vs)
  | [], o, w, b => Fr.refl _ _
  | v :: vs, o, w, b => by
    have h1 : Fr (fun k => k = b) w (w.setCell ⟨b, o, none⟩ v) := Fr.setCell (F := fun k => k = b) (p := ⟨b, o, none⟩) (Fr.refl _ w) (fun _ => rfl) v
    have := h1.trans (setCells_fr vs (o + 1) _ b) (fun _ _ h => h)
    simpa [World.setCells] using this
/-- The slots lie at the head of block b. -/
def BufAt (w : World) (b : Nat) (S : List Sl) : Prop := ∃ rest, w.heap[b]? = some (.cells (flat3 S ++ rest).toArray 86 (0, 0))
section buf
variable {w : World} {b : Nat} {S : List Sl}
theorem BufAt.fr {w' : World} (h : BufAt w b S) {F : Nat → Prop} (f : Fr F w w') (hn : ¬ F b) : BufAt w' b S := by
  obtain ⟨r, h⟩ := h; exact ⟨r, f.get h hn⟩
theorem BufAt.lt (h : BufAt w b S) : b < w.heap.size := by
  obtain ⟨r, h⟩ := h; exact lt_of_block h
theorem BufAt.cells (h : BufAt w b S) {p : Nat} (hp : p < S.length) : w.cell? ⟨b, p * 3, none⟩ = some (.int .u8 ((slAt S p).1 : Int)) ∧ w.cell? ⟨b, p * 3 + 1, none⟩ = some (.int .u32 ((slAt S p).2.1 : Int)) ∧ w.cell? ⟨b, p * 3 + 2, none⟩ = some (.int .i64 (slAt S p).2.2) := by
  obtain ⟨r, h⟩ := h
  have := flat3_get S p hp
  have hl : p * 3 + 2 < (flat3 S).length := by rw [flat3_length]; omega
  rw [cell_of h, cell_of h, cell_of h]
  simp only [List.getElem?_toArray]
  rw [List.getElem?_append_left (by omega), List.getElem?_append_left (by omega), List.getElem?_append_left (by omega)]
  exact this
theorem BufAt.free (h : BufAt w b S) (k : Nat) : w.frozen? ⟨b, k, none⟩ = false := by
  obtain ⟨r, h⟩ := h; exact free_of h k
theorem BufAt.set (h : BufAt w b S) {p : Nat} (hp : p < S.length) (x : Sl) :
    BufAt (((w.setCell ⟨b, p * 3, none⟩ (.int .u8 (x.1 : Int))).setCell ⟨b, p * 3 + 1, none⟩ (.int .u32 (x.2.1 : Int))).setCell ⟨b, p * 3 + 2, none⟩ (.int .i64 x.2.2)) b (S.set p x) := by
  obtain ⟨r, h⟩ := h
  have hl : p * 3 + 2 < (flat3 S).length := by rw [flat3_length]; omega
  refine ⟨r, ?_⟩
  rw [flat3_set hp]
  have h1 := setCell_blk (o := p * 3) h (.int .u8 (x.1 : Int))
  have h2 := setCell_blk (o := p * 3 + 1) h1 (.int .u32 (x.2.1 : Int))
  have h3 := setCell_blk (o := p * 3 + 2) h2 (.int .i64 x.2.2)
  rw [h3]
  simp only [List.setIfInBounds_toArray]
  rw [List.set_append_left _ _ (by omega), List.set_append_left _ _ (by rw [List.length_set]; omega), List.set_append_left _ _ (by rw [List.length_set, List.length_set]; omega)]
theorem set3_fr (w : World) (b p : Nat) (u v x : Value) : Fr (fun k => k = b) w (((w.setCell ⟨b, p * 3, none⟩ u).setCell ⟨b, p * 3 + 1, none⟩ v).setCell ⟨b, p * 3 + 2, none⟩ x) :=
  Fr.setCell (F := fun k => k = b) (p := ⟨b, p * 3 + 2, none⟩) (Fr.setCell (F := fun k => k = b) (p := ⟨b, p * 3 + 1, none⟩) (Fr.setCell (F := fun k => k = b) (p := ⟨b, p * 3, none⟩) (Fr.refl _ w) (fun _ => rfl) _) (fun _ => rfl) _) (fun _ => rfl) _
end buf
abbrev aggOf (x : Sl) : Value := .agg #[.int .u8 (x.1 : Int), .int .u32 (x.2.1 : Int), .int .i64 x.2.2]
/-- Is a slot not full? -/
def gone (x : Sl) : Bool := !(x.1 == 1)
set_option maxRecDepth 100000 in
theorem del_fn (x : Sl) (w : World) : Calls Try.prog 60 #[aggOf x] w fun e w' => e = .returned (.bool (gone x)) ∧ Fr (fun _ => False) w w' := by
  obtain ⟨a, i, v⟩ := x
  obtain ⟨q, hq⟩ : ∃ q, q = gone (a, i, v) := ⟨_, rfl⟩
  have hb : ((a : Int) != 1) = q := by
    rw [hq]
    show (!((a : Int) == 1)) = !(a == 1)
    congr 1
    rw [Bool.eq_iff_iff]
    simp only [beq_iff_eq]
    omega
  rw [← hq]
  clear hq
  go_enter Try.func60, Try.ntmps60
  go_wp2_with fail
  go_ret
  exact ⟨rfl, Fr.alloc (Fr.refl _ _) _⟩
abbrev delV : Value := .func (.func 60) #[] #[]
/-- What IndexFunc tells. -/
def First (S : List Sl) (e : Ending) : Prop := (∃ k : Nat, e = .returned (.int .i64 (k : Int)) ∧ k < S.length ∧ gone (slAt S k) = true ∧ ∀ j, j < k → gone (slAt S j) = false) ∨ (e = .returned (.int .i64 (-1)) ∧ ∀ j, j < S.length → gone (slAt S j) = false)
set_option maxRecDepth 100000 in
theorem indexFunc_ok {w : World} {b n cap : Nat} {S : List Sl} (H : BufAt w b S) (hn : S.length = n) (h8 : n ≤ 8192) :
    Calls Try.prog 84 #[.slice (some ⟨b, 0, none⟩) n cap, delV] w fun e w' => Fr (fun _ => False) w w' ∧ First S e := by
  have HB := Lib.hid H; have HN := Lib.hid hn; have H8 := Lib.hid h8
  clear H hn h8
  go_enter Try.func84, Try.ntmps84
  go_upto_block 0 with fail
  go_cut [8] (fun _ wx => Fr (fun _ => False) w wx ∧ ∀ j, j < S.length → gone (slAt S j) = false)
  case first =>
    go_wp2_with fail
    go_loopw [8] (fun s8 wr => ∃ k : Nat, s8 = .int .i64 (k : Int) ∧ k ≤ n ∧ Fr (fun _ => False) w wr ∧ ∀ j, j < k → gone (slAt S j) = false) (fun s8 _ => n - (intOf s8).toNat)
    case atStart => exact ⟨0, rfl, Nat.zero_le _, Fr.refl _ _, fun j hj => absurd hj (Nat.not_lt_zero _)⟩
    case round =>
      obtain ⟨k, rfl, hk, hf, hj⟩ := hrel
      have HF := Lib.hid hf; have HJ := Lib.hid hj
      clear hf hj
      by_cases hlt : k < n
      · have hlt' : (k : Int) < (n : Int) := by omega
        have k0 : (0 : Int) ≤ (k : Int) := by omega
        obtain ⟨c0, c1, c2⟩ := (HB.out.fr HF.out (fun h => h)).cells (p := k) (by rw [HN.out]; exact hlt)
        obtain ⟨x, hx⟩ : ∃ x, x = slAt S k := ⟨_, rfl⟩
        rw [← hx] at c0 c1 c2
        obtain ⟨xa, xi, xv⟩ := x
        simp only at c0 c1 c2
        have HX := Lib.hid hx; have HL := Lib.hid hlt
        obtain ⟨k1, hk1⟩ : ∃ k1, k1 = k + 1 := ⟨_, rfl⟩
        have e1 : (k : Int) + 1 = (k1 : Int) := by omega
        obtain ⟨e2, e3, -⟩ := wrap_small (x := k1) (by have := H8.out; omega)
        have HK := Lib.hid hk1
        clear hx hlt hk hk1
        go_wp2_with fail
        refine (del_fn (xa, xi, xv) wr).mono ?_
        rintro e w1 ⟨rfl, f1⟩
        have F1 := Lib.hid f1
        clear f1
        cases hg : gone (xa, xi, xv) with
        | true =>
          have HG := Lib.hid hg
          clear hg
          go_wp2_with fail
          go_ret
          exact ⟨HF.out.trans F1.out (fun _ _ h => h), .inl ⟨k, rfl, by rw [HN.out]; exact HL.out, by rw [← HX.out]; exact HG.out, HJ.out⟩⟩
        | false =>
          have HG := Lib.hid hg
          clear hg
          go_wp2_with fail
          go_roundw
          case rel => exact ⟨k1, rfl, by have := HK.out; have := HL.out; omega, HF.out.trans F1.out (fun _ _ h => h), fun j hj => by
            have := HK.out
            rcases (by omega : j < k ∨ j = k) with h | rfl
            · exact HJ.out j h
            · rw [← HX.out]; exact HG.out⟩
          case measure => have := HK.out; have := HL.out; simp [intOf]; omega
      · obtain rfl : k = n := by omega
        clear hlt hk
        go_wp2_with fail
        go_meet
        exact ⟨HF.out, by rw [HN.out]; exact HJ.out⟩
  case rest =>
  obtain ⟨hf, hj⟩ := hcut
  have HF := Lib.hid hf; have HJ := Lib.hid hj
  clear hf hj
  go_wp2_with fail
  go_ret
  exact ⟨HF.out, .inr ⟨rfl, HJ.out⟩⟩
end Go.Proofs.Ytiebcmlfppepaaa.Ix
