/- Two heaps, the program's and the document's, side by side in memory; fresh. Condition: the kind fits an int. -/
import Derived.Test.YtfgpmbahekcoeaaRelB
import Derived.Test.YtfgpmbahekcoeaaAwk
namespace Go.Proofs.Ytfgpmbahekcoeaa
open Go.RowKit
abbrev twoV (bh rh : Nat) (k : Int) : Value := .agg #[.pointer (some ⟨bh, 0, none⟩), .pointer (some ⟨rh, 0, none⟩), .bool (decide (k < 4))]
/-- The pair: the heap with the items L, the document's with R, which are the same. -/
structure PairIs (G : Nat → Prop) (bk bh rh : Nat) (k : Int) (L R : List It) (next : Int) (w : World) : Prop where
  k0 : 0 ≤ k
  k7 : k < 7
  ex : ∃ G1 G2, HeapIs (KindAt bk k) (fun b => b = bk) Fits (ordFn bk) G1 bh L next w ∧ RefIs G2 rh k R next w ∧ (∀ b, G1 b → G b) ∧ (∀ b, G2 b → G b) ∧ (∀ b, G1 b → ¬ G2 b) ∧ ¬ G2 bk
  gk : G bk
  bd : ∀ b, G b → b < w.heap.size
  rel : Rel L R
  hp : k < 4 → Heaped (lessK k) L
theorem PairIs.fr {G F : Nat → Prop} {bk bh rh : Nat} {k next : Int} {L R : List It} {w w' : World} (h : PairIs G bk bh rh k L R next w) (hf : Fr F w w') (hn : ∀ b, G b → ¬ F b) : PairIs G bk bh rh k L R next w' := by
  obtain ⟨G1, G2, h1, h2, s1, s2, d, dk⟩ := h.ex
  exact ⟨h.k0, h.k7, ⟨G1, G2, h1.fr hf (hf.get h1.j (hn _ h.gk)) (fun b hb => hn b (s1 b hb)), h2.fr hf (fun b hb => hn b (s2 b hb)), s1, s2, d, dk⟩, h.gk, fun b hb => Nat.lt_of_lt_of_le (h.bd b hb) hf.size, h.rel, h.hp⟩
theorem PairIs.less {G : Nat → Prop} {bk bh rh : Nat} {k next : Int} {L R : List It} {w : World} (h : PairIs G bk bh rh k L R next w) : LessOk Try.prog (ordFn bk) (lessK k) (KindAt bk k) (fun b => b = bk) Fits 82 #[.pointer (some ⟨bk, 0, none⟩)] := ord_less bk k h.k0 h.k7
theorem rel_gone {L R : List It} (h : Rel L R) {n : Int} (hg : ∀ i, i < L.length → (itAt L i).2 ≠ n) : ∀ i, i < R.length → (itAt R i).1 ≠ n := by
  intro k hk e
  obtain ⟨i, hi, ei⟩ := h.back hk
  refine hg i hi ?_
  rw [ei]; exact e
theorem rel_lone {L R : List It} (h : Rel L R) : Lone R := fun _ _ hi hj e => h.lone hi hj e
theorem rel_fits {L R : List It} (h : Rel L R) (hf : ∀ i, i < L.length → Fits (itAt L i).1) : ∀ i, i < R.length → Fits (itAt R i).2 := by
  intro k hk
  obtain ⟨i, hi, ei⟩ := h.back hk
  have := hf i hi
  rw [ei] at this; exact this
/-- The document's heap alone, behind a step of the heap alone. -/
theorem PairIs.mk2 {G1 G2 : Nat → Prop} {bk bh rh : Nat} {k next : Int} {L R : List It} {w : World} (k0 : 0 ≤ k) (k7 : k < 7) (h1 : HeapIs (KindAt bk k) (fun b => b = bk) Fits (ordFn bk) G1 bh L next w) (h2 : RefIs G2 rh k R next w)
    (hd : ∀ b, G1 b → ¬ G2 b) (hk : ¬ G2 bk) (hr : Rel L R) (hh : k < 4 → Heaped (lessK k) L) : PairIs (fun b => b = bk ∨ G1 b ∨ G2 b) bk bh rh k L R next w :=
  ⟨k0, k7, ⟨G1, G2, h1, h2, fun _ h => .inr (.inl h), fun _ h => .inr (.inr h), hd, hk⟩, .inl rfl, by
    rintro b (rfl | h | h)
    · exact lt_of_block h1.j
    · exact h1.bd b h
    · exact h2.bd b h, hr, hh⟩
set_option maxRecDepth 100000 in
theorem fresh_ok (kind : Int) (hf : Fits kind) (w : World) : Calls Try.prog 22 #[.int .i64 kind] w fun e w' => ∃ G bk bh rh, e = .returned (twoV bh rh (kind % 7)) ∧ Fr (fun _ => False) w w' ∧ PairIs G bk bh rh (kind % 7) [] [] 0 w' ∧ ∀ b, G b → w.heap.size ≤ b := by
  obtain ⟨a1, a2⟩ := hf
  have k0 := Int.emod_nonneg kind (by omega : (7 : Int) ≠ 0)
  have k7 := Int.emod_lt_of_pos kind (by omega : (0 : Int) < 7)
  go_enter Try.func22, Try.ntmps22
  go_wp2_with fail
  refine (orders_ok kind ⟨a1, a2⟩ _).mono ?_
  rintro e w1 ⟨bk, rfl, hbk, hK, f1⟩
  have c0 : (w1.heap[w.heap.size]?) = _ := f1.get (heap_alloc_at w (.cells #[.pointer none, .pointer none, .bool false] 51)) (fun h => h)
  have hL := ord_less bk (kind % 7) k0 k7
  have HL := Lib.hid hL; have HK := Lib.hid hK; have F1 := Lib.hid f1; have C0 := Lib.hid c0; have K0 := Lib.hid k0; have K7 := Lib.hid k7
  clear hL hK f1 c0 k0 k7
  go_wp2_with fail
  refine (new_ok HL.out HK.out).mono ?_
  rintro e w2 ⟨bh, rfl, hbh, f2, G, h2, hG⟩
  have c1 := f2.get C0.out (fun h => h)
  have H2 := Lib.hid h2; have F2 := Lib.hid f2; have HG := Lib.hid hG; have C1 := Lib.hid c1
  clear h2 f2 hG c1
  go_wp2_with fail
  refine (pick_ok kind 7 _ a1 a2 (by omega) (by omega)).mono ?_
  rintro e w' ⟨rfl, rfl⟩
  obtain ⟨k, hk⟩ : ∃ k, k = kind % 7 := ⟨_, rfl⟩
  rw [← hk] at HL HK H2 K0 K7 ⊢
  have Hk := Lib.hid hk
  clear hk
  have c2 := (Fr.alloc (Fr.refl (fun _ => False) w2) (.cells #[.int .i64 k, .slice none 0 0, .int .i64 0] 56)).get C1.out (fun h => h)
  have d0 := cell_of c2 0
  have d1 := cell_of c2 1
  have d2 := cell_of c2 2
  have y0 := free_of c2 0
  have y1 := free_of c2 1
  have y2 := free_of c2 2
  simp at d0 d1 d2
  have HC2 := Lib.hid c2
  clear c2
  go_wp2_with fail
  have hfin := setCell_blk (o := 2) (setCell_blk (o := 1) (setCell_blk (o := 0) HC2.out (.pointer (some ⟨bh, 0, none⟩))) (.pointer (some ⟨w2.heap.size, 0, none⟩))) (.bool (decide (k < 4)))
  have z0 := cell_of hfin 0
  have z1 := cell_of hfin 1
  have z2 := cell_of hfin 2
  simp at z0 z1 z2
  refine bodyPost_ret (v := twoV bh w2.heap.size k) ?_ rfl ?_
  · simp [results, Try.results22, Try.f22, go_sem, z0, z1, z2]
  rw [← Hk.out]
  have hf3 : Fr (fun b => b = w.heap.size) w2 ((((w2.alloc (.cells #[.int .i64 k, .slice none 0 0, .int .i64 0] 56)).setCell ⟨w.heap.size, 0, none⟩ (.pointer (some ⟨bh, 0, none⟩))).setCell ⟨w.heap.size, 1, none⟩ (.pointer (some ⟨w2.heap.size, 0, none⟩))).setCell ⟨w.heap.size, 2, none⟩ (.bool (decide (k < 4)))) := by
    refine Fr.setCell (F := fun b => b = w.heap.size) (p := ⟨w.heap.size, 2, none⟩) (Fr.setCell (F := fun b => b = w.heap.size) (p := ⟨w.heap.size, 1, none⟩) (Fr.setCell (F := fun b => b = w.heap.size) (p := ⟨w.heap.size, 0, none⟩) (Fr.alloc (Fr.refl _ _) _) (fun _ => rfl) _) (fun _ => rfl) _) (fun _ => rfl) _
  have hs1 : w.heap.size < w1.heap.size := lt_of_block C0.out
  have hs2 : w.heap.size < w2.heap.size := lt_of_block C1.out
  have hh : w2.heap.size ≠ w.heap.size := by omega
  have hg : ∀ b, G b → w1.heap.size ≤ b := HG.out
  have hrt : (w2.alloc (.cells #[.int .i64 k, .slice none 0 0, .int .i64 0] 56)).heap[w2.heap.size]? = some (.cells #[.int .i64 k, .slice none 0 0, .int .i64 0] 56 (0, 0)) := heap_alloc_at _ _
  refine ⟨fun b => b = bk ∨ G b ∨ b = w2.heap.size, bk, bh, w2.heap.size, rfl, ?_, PairIs.mk2 (G1 := G) (G2 := fun b => b = w2.heap.size) K0.out K7.out ?_ ⟨⟨.slice none 0 0, ?_, World.ownsRow_nil _ _ _ _, by simp [Value.ownBlock]⟩, rfl, ?_, by simp⟩ ?_ ?_ Rel.nil (fun _ => heaped_nil _), ?_⟩
  · refine Fr.toNew (((Fr.alloc (Fr.refl (fun b => w.heap.size ≤ b) w) _).trans F1.out (fun _ _ h => h.elim)).trans F2.out (fun _ _ h => h.elim) |>.trans hf3 ?_)
    rintro i _ rfl; omega
  · refine H2.out.fr hf3 ?_ ?_
    · refine hf3.get H2.out.j ?_
      rintro rfl; have := hbk; simp at this; omega
    · intro b hb e
      have := hg b hb; omega
  · rw [setCell_blk_ne hh, setCell_blk_ne hh, setCell_blk_ne hh]; exact hrt
  · rintro b rfl; simp
  · rintro b hb rfl; have := H2.out.bd _ hb; omega
  · rintro e; have := F2.out.size; have := lt_of_block HK.out; omega
  · rintro b (rfl | h | rfl)
    · have := hbk; simp at this; omega
    · have := hg b h; omega
    · omega
end Go.Proofs.Ytfgpmbahekcoeaa
