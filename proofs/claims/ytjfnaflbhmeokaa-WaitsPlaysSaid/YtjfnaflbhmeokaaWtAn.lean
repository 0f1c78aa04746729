/- A step's answer is the document's. No condition. -/
import Derived.Test.YtjfnaflbhmeokaaWtRj
import Derived.Test.YtjfnaflbhmeokaaArgk
namespace Go.Proofs.Ytjfnaflbhmeokaa.Wt
open Go.Shelf Go.RowKit
/-- Both lists, new since w0, have the parties S. -/
def WP (w0 : World) (bl rb : Nat) (S : List Int) (nx : Int) (w : World) : Prop :=
  ∃ GL GR, StAt GL bl S nx w ∧ RfAt GR rb S w ∧ (∀ b, GL b → ¬ GR b) ∧ (∀ b, GL b → w0.heap.size ≤ b) ∧ (∀ b, GR b → w0.heap.size ≤ b) ∧ Fr (fun _ => False) w0 w
theorem WP.keep {w0 w w' : World} {bl rb : Nat} {S : List Int} {nx : Int} (h : WP w0 bl rb S nx w) (f : Fr (fun _ => False) w w') : WP w0 bl rb S nx w' := by
  obtain ⟨GL, GR, h1, h2, h3, h4, h5, h6⟩ := h
  exact ⟨GL, GR, h1.keep f, h2.fr f (fun _ _ h => h), h3, h4, h5, h6.trans f (fun _ _ h => h)⟩
theorem WP.done {w0 w W w1 w2 : World} {bl rb : Nat} {S' : List Int} {n' : Int} {GL GR GL' GR' : Nat → Prop} (h3 : ∀ b, GL b → ¬ GR b) (h4 : ∀ b, GL b → w0.heap.size ≤ b) (h5 : ∀ b, GR b → w0.heap.size ≤ b) (h6 : Fr (fun _ => False) w0 w) (hGR : ∀ b, GR b → b < w.heap.size) (f0 : Fr (fun _ => False) w W)
    (j1 : StAt GL' bl S' n' w1) (j3 : Fr GL W w1) (j4 : Grew W GL GL') (r1 : RfAt GR' rb S' w2) (r2 : Fr GR w1 w2) (r3 : Grew w1 GR GR') : WP w0 bl rb S' n' w2 := by
  have s0 := f0.size; have s1 := j3.size; have s6 := h6.size
  refine ⟨GL', GR', j1.fr r2 (fun b hb e => ?_), r1, fun b hb hb2 => ?_, fun b hb => ?_, fun b hb => ?_, ((h6.trans f0 (fun _ _ h => h)).trans j3 (fun b hb e => by have := h4 b e; omega)).trans r2 (fun b hb e => by have := h5 b e; omega)⟩
  · rcases j4 b hb with h | h
    · exact h3 b h e
    · have := hGR b e; omega
  · rcases r3 b hb2 with h | h
    · rcases j4 b hb with h' | h'
      · exact h3 b h' h
      · have := hGR b h; omega
    · have := j1.bd b hb; omega
  · rcases j4 b hb with h | h
    · exact h4 b h
    · omega
  · rcases r3 b hb with h | h
    · exact h5 b h
    · omega
abbrev opV (k a b c d n : Int) : Value := .agg #[.int .i64 k, .int .u32 a, .int .i64 b, .int .i64 c, .int .i64 d, .int .i64 n]
theorem eqlZ (w : World) : (binOp .eql 32 zeroW zeroW).run Try.prog w = .ok (.bool true) w := by
  have := eqlW_refl w 0
  have e : wtV 0 = zeroW := by unfold wtV; rw [wW_0, wS_0, wT_0, wC_0]
  rw [e] at this; exact this
section
variable {w0 w : World} {bl rb : Nat} {S : List Int} {nx : Int}
set_option maxRecDepth 100000 in
set_option maxHeartbeats 2000000 in
theorem ans1 (h : WP w0 bl rb S nx w) {a b c d n : Int} (ha : 0 ≤ a) (ha2 : a < 4294967296) (hx : nx ≤ 10000000) :
    Calls Try.prog 9 #[.pointer (some ⟨bl, 0, none⟩), .pointer (some ⟨rb, 0, none⟩), opV 1 a b c d n] w fun e w' => e = .returned (.bool true) ∧ ∃ S' n', WP w0 bl rb S' n' w' ∧ n' ≤ nx + 1024 := by
  obtain ⟨GL, GR, hl, hr, h3, h4, h5, h6⟩ := id h
  obtain ⟨W, hW⟩ : ∃ W, W = w.alloc (.cells #[.int .i64 1, .int .u32 a, .int .i64 b, .int .i64 c, .int .i64 d, .int .i64 n] 34) := ⟨_, rfl⟩
  obtain ⟨z, hz⟩ : ∃ z, z = w.heap.size := ⟨_, rfl⟩
  have f0 : Fr (fun _ => False) w W := by rw [hW]; exact Fr.alloc (Fr.refl _ _) _
  have hg : W.heap[z]? = some (.cells #[.int .i64 1, .int .u32 a, .int .i64 b, .int .i64 c, .int .i64 d, .int .i64 n] 34 (0, 0)) := by rw [hW, hz]; exact heap_alloc_at _ _
  have x0 := (cell_of hg 0).trans (show _ = some (Value.int .i64 1) from rfl)
  have x1 := (cell_of hg 1).trans (show _ = some (Value.int .u32 a) from rfl)
  have x2 := (cell_of hg 2).trans (show _ = some (Value.int .i64 b) from rfl)
  have x3 := (cell_of hg 3).trans (show _ = some (Value.int .i64 c) from rfl)
  have x4 := (cell_of hg 4).trans (show _ = some (Value.int .i64 d) from rfl)
  have x5 := (cell_of hg 5).trans (show _ = some (Value.int .i64 n) from rfl)
  have hl0 := hl.keep f0
  have hr0 := hr.fr f0 (fun _ _ h => h)
  have lz : z < W.drew.heap.size := lt_of_block hg
  have nzL : ¬ GL z := fun e => by have := hl.bd z e; omega
  have nzR : ¬ GR z := fun e => by have := hr.bd z e; omega
  have HL0 := Lib.hid hl0; have HR0 := Lib.hid hr0; have H3 := Lib.hid h3; have H4 := Lib.hid h4; have H5 := Lib.hid h5; have H6 := Lib.hid h6; have HGR := Lib.hid hr.bd; have F0 := Lib.hid f0; have H := Lib.hid h; have Hx := Lib.hid hx
  have HOrd := Lib.hid hl.ord; have HLone := Lib.hid hl.lone; have Hok := Lib.hid hl.ok; have Hlen := Lib.hid hl.len
  clear hl hr h3 h4 h5 h6 f0 hg hl0 hr0 h hx
  have HJ := Lib.hid (join_ok (HL0.out.fr (Fr.drew (Fr.refl (fun _ => False) _)) (fun _ _ h => h)) (b := b) (c := c) (d := d) ha ha2 (by have := Hx.out; omega))
  have HRJ := Lib.hid (fun (w' : World) (f : Fr GL W.drew w') => rjoin_ok ((HR0.out.fr (Fr.drew (Fr.refl (fun _ => False) _)) (fun _ _ h => h)).fr f (fun b hb e => H3.out b e hb)) HOrd.out (b := b) (c := c) (d := d) ha ha2)
  clear ha ha2
  go_enter Try.func9, Try.ntmps9
  go_upto_region 1 with fail
  rw [← hW, ← hz]
  clear hW hz
  go_upto_region 3 with fail
  go_region_held3 (fun w' => w'.cell? ⟨z, 1, none⟩ = some (.int .u32 a) ∧ w'.cell? ⟨z, 2, none⟩ = some (.int .i64 b) ∧ w'.cell? ⟨z, 3, none⟩ = some (.int .i64 c) ∧ w'.cell? ⟨z, 4, none⟩ = some (.int .i64 d))
    (first | (go_keep; done) | exact ⟨(r2.cell (Nat.lt_of_lt_of_le lz j3.size) nzR).trans ((j3.cell lz nzL).trans x1), (r2.cell (Nat.lt_of_lt_of_le lz j3.size) nzR).trans ((j3.cell lz nzL).trans x2), (r2.cell (Nat.lt_of_lt_of_le lz j3.size) nzR).trans ((j3.cell lz nzL).trans x3), (r2.cell (Nat.lt_of_lt_of_le lz j3.size) nzR).trans ((j3.cell lz nzL).trans x4)⟩ | exact ⟨(j3.cell lz nzL).trans x1, (j3.cell lz nzL).trans x2, (j3.cell lz nzL).trans x3, (j3.cell lz nzL).trans x4⟩)
    (first | (go_at_call 33; refine HJ.out.mono ?_; rintro e w1 ⟨rfl, GL', n1, j1, jn, j3, j4⟩) | (go_at_call 34; refine (HRJ.out _ j3).mono ?_; rintro e w2 ⟨rfl, GR', r1, r2, r3⟩))
  have HF := Lib.hid (WP.done (S' := joinS S a b c d) H3.out H4.out H5.out H6.out HGR.out F0.out j1 (Fr.undrew j3) (show Grew W GL GL' from j4) r1 r2 r3)
  have Hn := Lib.hid (show n1 ≤ nx + 1024 by omega)
  clear jn j4 r1 r2 r3 j1 j3 x0 x1 x2 x3 x4 x5
  go_wp2_with fail
  go_ret
  exact ⟨by simp, _, _, HF.out.keep (by exact ⟨rfl, rfl, rfl, Nat.le_refl _, fun _ _ _ => rfl⟩), Hn.out⟩
set_option maxRecDepth 100000 in
set_option maxHeartbeats 2000000 in
theorem ans2 (h : WP w0 bl rb S nx w) {a b c d n : Int} (ha : 0 ≤ a) (ha2 : a < 4294967296) (hx : nx ≤ 10000000) :
    Calls Try.prog 9 #[.pointer (some ⟨bl, 0, none⟩), .pointer (some ⟨rb, 0, none⟩), opV 2 a b c d n] w fun e w' => e = .returned (.bool true) ∧ ∃ S' n', WP w0 bl rb S' n' w' ∧ n' ≤ nx + 1024 := by
  obtain ⟨GL, GR, hl, hr, h3, h4, h5, h6⟩ := id h
  obtain ⟨W, hW⟩ : ∃ W, W = w.alloc (.cells #[.int .i64 2, .int .u32 a, .int .i64 b, .int .i64 c, .int .i64 d, .int .i64 n] 34) := ⟨_, rfl⟩
  obtain ⟨z, hz⟩ : ∃ z, z = w.heap.size := ⟨_, rfl⟩
  have f0 : Fr (fun _ => False) w W := by rw [hW]; exact Fr.alloc (Fr.refl _ _) _
  have hg : W.heap[z]? = some (.cells #[.int .i64 2, .int .u32 a, .int .i64 b, .int .i64 c, .int .i64 d, .int .i64 n] 34 (0, 0)) := by rw [hW, hz]; exact heap_alloc_at _ _
  have x0 := (cell_of hg 0).trans (show _ = some (Value.int .i64 2) from rfl)
  have x1 := (cell_of hg 1).trans (show _ = some (Value.int .u32 a) from rfl)
  have x2 := (cell_of hg 2).trans (show _ = some (Value.int .i64 b) from rfl)
  have x3 := (cell_of hg 3).trans (show _ = some (Value.int .i64 c) from rfl)
  have x4 := (cell_of hg 4).trans (show _ = some (Value.int .i64 d) from rfl)
  have x5 := (cell_of hg 5).trans (show _ = some (Value.int .i64 n) from rfl)
  have hl0 := hl.keep f0
  have hr0 := hr.fr f0 (fun _ _ h => h)
  have lz : z < W.drew.heap.size := lt_of_block hg
  have nzL : ¬ GL z := fun e => by have := hl.bd z e; omega
  have nzR : ¬ GR z := fun e => by have := hr.bd z e; omega
  have HL0 := Lib.hid hl0; have HR0 := Lib.hid hr0; have H3 := Lib.hid h3; have H4 := Lib.hid h4; have H5 := Lib.hid h5; have H6 := Lib.hid h6; have HGR := Lib.hid hr.bd; have F0 := Lib.hid f0; have H := Lib.hid h; have Hx := Lib.hid hx
  have HOrd := Lib.hid hl.ord; have HLone := Lib.hid hl.lone; have Hok := Lib.hid hl.ok; have Hlen := Lib.hid hl.len
  clear hl hr h3 h4 h5 h6 f0 hg hl0 hr0 h hx
  have HJ := Lib.hid (leave_ok (HL0.out.fr (Fr.drew (Fr.refl (fun _ => False) _)) (fun _ _ h => h)) a)
  have HRJ := Lib.hid (fun (w' : World) (f : Fr GL W.drew w') => rleave_ok ((HR0.out.fr (Fr.drew (Fr.refl (fun _ => False) _)) (fun _ _ h => h)).fr f (fun b hb e => H3.out b e hb)) HOrd.out HLone.out a)
  clear ha ha2
  go_enter Try.func9, Try.ntmps9
  go_upto_region 1 with fail
  rw [← hW, ← hz]
  clear hW hz
  go_upto_region 5 with fail
  go_region_held3 (fun w' => w'.cell? ⟨z, 1, none⟩ = some (.int .u32 a))
    (first | (go_keep; done) | exact (r2.cell (Nat.lt_of_lt_of_le lz j3.size) nzR).trans ((j3.cell lz nzL).trans x1) | exact (j3.cell lz nzL).trans x1)
    (first | (go_at_call 35; refine HJ.out.mono ?_; rintro e w1 ⟨rfl, j1, j3⟩) | (go_at_call 36; refine (HRJ.out _ j3).mono ?_; rintro e w2 ⟨rfl, GR', r1, r2, r3⟩))
  have HF := Lib.hid (WP.done (S' := outW a S) H3.out H4.out H5.out H6.out HGR.out F0.out j1 (Fr.undrew j3) (Grew.refl W GL) r1 r2 r3)
  have Hn := Lib.hid (show nx ≤ nx + 1024 by omega)
  clear r1 r2 r3 j1 j3 x0 x1 x2 x3 x4 x5
  go_wp2_with fail
  go_ret
  exact ⟨by simp, _, _, HF.out.keep (by exact ⟨rfl, rfl, rfl, Nat.le_refl _, fun _ _ _ => rfl⟩), Hn.out⟩
set_option maxRecDepth 100000 in
set_option maxHeartbeats 2000000 in
theorem ans3 (h : WP w0 bl rb S nx w) {a b c d n : Int} (ha : 0 ≤ a) (ha2 : a < 4294967296) (hx : nx ≤ 10000000) :
    Calls Try.prog 9 #[.pointer (some ⟨bl, 0, none⟩), .pointer (some ⟨rb, 0, none⟩), opV 3 a b c d n] w fun e w' => e = .returned (.bool true) ∧ ∃ S' n', WP w0 bl rb S' n' w' ∧ n' ≤ nx + 1024 := by
  obtain ⟨GL, GR, hl, hr, h3, h4, h5, h6⟩ := id h
  obtain ⟨W, hW⟩ : ∃ W, W = w.alloc (.cells #[.int .i64 3, .int .u32 a, .int .i64 b, .int .i64 c, .int .i64 d, .int .i64 n] 34) := ⟨_, rfl⟩
  obtain ⟨z, hz⟩ : ∃ z, z = w.heap.size := ⟨_, rfl⟩
  have f0 : Fr (fun _ => False) w W := by rw [hW]; exact Fr.alloc (Fr.refl _ _) _
  have hg : W.heap[z]? = some (.cells #[.int .i64 3, .int .u32 a, .int .i64 b, .int .i64 c, .int .i64 d, .int .i64 n] 34 (0, 0)) := by rw [hW, hz]; exact heap_alloc_at _ _
  have x0 := (cell_of hg 0).trans (show _ = some (Value.int .i64 3) from rfl)
  have x1 := (cell_of hg 1).trans (show _ = some (Value.int .u32 a) from rfl)
  have x2 := (cell_of hg 2).trans (show _ = some (Value.int .i64 b) from rfl)
  have x3 := (cell_of hg 3).trans (show _ = some (Value.int .i64 c) from rfl)
  have x4 := (cell_of hg 4).trans (show _ = some (Value.int .i64 d) from rfl)
  have x5 := (cell_of hg 5).trans (show _ = some (Value.int .i64 n) from rfl)
  have hl0 := hl.keep f0
  have hr0 := hr.fr f0 (fun _ _ h => h)
  have lz : z < W.drew.heap.size := lt_of_block hg
  have nzL : ¬ GL z := fun e => by have := hl.bd z e; omega
  have nzR : ¬ GR z := fun e => by have := hr.bd z e; omega
  have HL0 := Lib.hid hl0; have HR0 := Lib.hid hr0; have H3 := Lib.hid h3; have H4 := Lib.hid h4; have H5 := Lib.hid h5; have H6 := Lib.hid h6; have HGR := Lib.hid hr.bd; have F0 := Lib.hid f0; have H := Lib.hid h; have Hx := Lib.hid hx
  have HOrd := Lib.hid hl.ord; have HLone := Lib.hid hl.lone; have Hok := Lib.hid hl.ok; have Hlen := Lib.hid hl.len
  clear hl hr h3 h4 h5 h6 f0 hg hl0 hr0 h hx
  have HJ := Lib.hid (raise_ok (HL0.out.fr (Fr.drew (Fr.refl (fun _ => False) _)) (fun _ _ h => h)) a n)
  have HRJ := Lib.hid (fun (w' : World) (f : Fr GL W.drew w') => rraise_ok ((HR0.out.fr (Fr.drew (Fr.refl (fun _ => False) _)) (fun _ _ h => h)).fr f (fun b hb e => H3.out b e hb)) HOrd.out HLone.out Hok.out a n)
  clear ha ha2
  go_enter Try.func9, Try.ntmps9
  go_upto_region 1 with fail
  rw [← hW, ← hz]
  clear hW hz
  go_upto_region 7 with fail
  go_region_held3 (fun w' => w'.cell? ⟨z, 1, none⟩ = some (.int .u32 a) ∧ w'.cell? ⟨z, 5, none⟩ = some (.int .i64 n))
    (first | (go_keep; done) | exact ⟨(r2.cell (Nat.lt_of_lt_of_le lz j3.size) nzR).trans ((j3.cell lz nzL).trans x1), (r2.cell (Nat.lt_of_lt_of_le lz j3.size) nzR).trans ((j3.cell lz nzL).trans x5)⟩ | exact ⟨(j3.cell lz nzL).trans x1, (j3.cell lz nzL).trans x5⟩)
    (first | (go_at_call 37; refine HJ.out.mono ?_; rintro e w1 ⟨rfl, j1, j3⟩) | (go_at_call 38; refine (HRJ.out _ j3).mono ?_; rintro e w2 ⟨rfl, GR', r1, r2, r3⟩))
  have HF := Lib.hid (WP.done (S' := raiseS S a n) H3.out H4.out H5.out H6.out HGR.out F0.out j1 (Fr.undrew j3) (Grew.refl W GL) r1 r2 r3)
  have Hn := Lib.hid (show nx ≤ nx + 1024 by omega)
  clear r1 r2 r3 j1 j3 x0 x1 x2 x3 x4 x5
  go_wp2_with fail
  go_ret
  exact ⟨by simp, _, _, HF.out.keep (by exact ⟨rfl, rfl, rfl, Nat.le_refl _, fun _ _ _ => rfl⟩), Hn.out⟩
set_option maxRecDepth 100000 in
set_option maxHeartbeats 2000000 in
theorem ans4 (h : WP w0 bl rb S nx w) {a b c d n : Int} (hx : nx ≤ 10000000) :
    Calls Try.prog 9 #[.pointer (some ⟨bl, 0, none⟩), .pointer (some ⟨rb, 0, none⟩), opV 4 a b c d n] w fun e w' => e = .returned (.bool true) ∧ ∃ S' n', WP w0 bl rb S' n' w' ∧ n' ≤ nx + 1024 := by
  obtain ⟨GL, GR, hl, hr, h3, h4, h5, h6⟩ := id h
  obtain ⟨W, hW⟩ : ∃ W, W = w.alloc (.cells #[.int .i64 4, .int .u32 a, .int .i64 b, .int .i64 c, .int .i64 d, .int .i64 n] 34) := ⟨_, rfl⟩
  obtain ⟨z, hz⟩ : ∃ z, z = w.heap.size := ⟨_, rfl⟩
  have f0 : Fr (fun _ => False) w W := by rw [hW]; exact Fr.alloc (Fr.refl _ _) _
  have hg : W.heap[z]? = some (.cells #[.int .i64 4, .int .u32 a, .int .i64 b, .int .i64 c, .int .i64 d, .int .i64 n] 34 (0, 0)) := by rw [hW, hz]; exact heap_alloc_at _ _
  have x0 := (cell_of hg 0).trans (show _ = some (Value.int .i64 4) from rfl)
  have x1 := (cell_of hg 1).trans (show _ = some (Value.int .u32 a) from rfl)
  have x2 := (cell_of hg 2).trans (show _ = some (Value.int .i64 b) from rfl)
  have x3 := (cell_of hg 3).trans (show _ = some (Value.int .i64 c) from rfl)
  have x4 := (cell_of hg 4).trans (show _ = some (Value.int .i64 d) from rfl)
  have x5 := (cell_of hg 5).trans (show _ = some (Value.int .i64 n) from rfl)
  have hl0 := hl.keep f0
  have hr0 := hr.fr f0 (fun _ _ h => h)
  have lz : z < W.drew.heap.size := lt_of_block hg
  have nzL : ¬ GL z := fun e => by have := hl.bd z e; omega
  have nzR : ¬ GR z := fun e => by have := hr.bd z e; omega
  have HL0 := Lib.hid hl0; have HR0 := Lib.hid hr0; have H3 := Lib.hid h3; have H4 := Lib.hid h4; have H5 := Lib.hid h5; have H6 := Lib.hid h6; have HGR := Lib.hid hr.bd; have F0 := Lib.hid f0; have H := Lib.hid h; have Hx := Lib.hid hx
  have HOrd := Lib.hid hl.ord; have HLone := Lib.hid hl.lone; have Hok := Lib.hid hl.ok; have Hlen := Lib.hid hl.len
  clear hl hr h3 h4 h5 h6 f0 hg hl0 hr0 h hx
  by_cases hth : ∃ x ∈ S, wW x = a
  · obtain ⟨x, hxS, rfl⟩ := hth
    have HG := Lib.hid (get_there' HL0.out hxS (by have := Hx.out; omega))
    have he := fun w => eqlW_refl w x
    have HxS := Lib.hid hxS
    clear hxS
    go_enter Try.func9, Try.ntmps9
    go_upto_region 1 with fail
    rw [← hW, ← hz]
    clear hW hz
    go_wp2_with fail
    refine HG.out.mono ?_
    rintro e w1 ⟨rfl, f1⟩
    obtain ⟨w2, hw2⟩ : ∃ w2, w2 = w1.alloc (.cells #[.int .u32 (wW x), .int .i64 (wS x), .int .i64 (wT x), .int .i64 (wC x)] 32) := ⟨_, rfl⟩
    obtain ⟨y1, hy1⟩ : ∃ y, y = w1.heap.size := ⟨_, rfl⟩
    have f2 : Fr (fun _ => False) w1 w2 := by rw [hw2]; exact Fr.alloc (Fr.refl _ _) _
    have g2 : w2.heap[y1]? = some (.cells #[.int .u32 (wW x), .int .i64 (wS x), .int .i64 (wT x), .int .i64 (wC x)] 32 (0, 0)) := by rw [hw2, hy1]; exact heap_alloc_at _ _
    have F2 := Lib.hid (f1.trans f2 (fun _ _ h => h)); have G2 := Lib.hid g2
    have x1' := ((f1.trans f2 (fun _ _ h => h)).cell lz (fun h => h)).trans x1
    have HR := Lib.hid (rget_ok (HR0.out.fr F2.out (fun _ _ h => h)) HOrd.out (wW x))
    clear f1 f2 g2 x0 x1 x2 x3 x4 x5
    go_upto_region 10 with fail
    rw [← hw2, ← hy1]
    clear hw2 hy1
    go_wp2_with fail
    refine HR.out.mono ?_
    rintro e w3 ⟨hor, f3⟩
    obtain rfl : e = .returned (.tuple #[wtV x, .int .i64 (placeW S x : Nat), .int .i64 0]) := by
      rcases hor with ⟨y, hy, ey, rfl⟩ | ⟨hn, _⟩
      · rw [lone_mem HLone.out hy HxS.out ey]
      · exact absurd ⟨x, HxS.out, rfl⟩ hn
    obtain ⟨pl, hpl⟩ : ∃ pl : Int, pl = (placeW S x : Nat) := ⟨_, rfl⟩
    rw [← hpl]
    obtain ⟨w4, hw4⟩ : ∃ w4, w4 = w3.alloc (.cells #[.int .u32 (wW x), .int .i64 (wS x), .int .i64 (wT x), .int .i64 (wC x)] 32) := ⟨_, rfl⟩
    obtain ⟨y2, hy2⟩ : ∃ y, y = w3.heap.size := ⟨_, rfl⟩
    have f4 : Fr (fun _ => False) w3 w4 := by rw [hw4]; exact Fr.alloc (Fr.refl _ _) _
    have g4 : w4.heap[y2]? = some (.cells #[.int .u32 (wW x), .int .i64 (wS x), .int .i64 (wT x), .int .i64 (wC x)] 32 (0, 0)) := by rw [hw4, hy2]; exact heap_alloc_at _ _
    obtain ⟨q0, q1, q2, q3⟩ := boxW_cells g4
    obtain ⟨p0, p1, p2, p3⟩ := boxW_cells ((f3.trans f4 (fun _ _ h => h)).get G2.out (fun h => h))
    have HF := Lib.hid (H.out.keep (((F0.out.trans F2.out (fun _ _ h => h)).trans f3 (fun _ _ h => h)).trans f4 (fun _ _ h => h)))
    clear hor f3 f4 g4 x1' hpl
    go_upto_region 11 with fail
    rw [← hw4, ← hy2]
    clear hw4 hy2
    go_wp2_with fail
    go_ret
    exact ⟨by simp, _, _, HF.out, by omega⟩
  · have HG := Lib.hid (get_gone HL0.out hth)
    have he := fun w => eqlZ w
    have Hth := Lib.hid hth
    clear hth
    go_enter Try.func9, Try.ntmps9
    go_upto_region 1 with fail
    rw [← hW, ← hz]
    clear hW hz
    go_wp2_with fail
    refine HG.out.mono ?_
    rintro e w1 ⟨rfl, f1⟩
    obtain ⟨w2, hw2⟩ : ∃ w2, w2 = w1.alloc (.cells #[.int .u32 0, .int .i64 0, .int .i64 0, .int .i64 0] 32) := ⟨_, rfl⟩
    obtain ⟨y1, hy1⟩ : ∃ y, y = w1.heap.size := ⟨_, rfl⟩
    have f2 : Fr (fun _ => False) w1 w2 := by rw [hw2]; exact Fr.alloc (Fr.refl _ _) _
    have g2 : w2.heap[y1]? = some (.cells #[.int .u32 0, .int .i64 0, .int .i64 0, .int .i64 0] 32 (0, 0)) := by rw [hw2, hy1]; exact heap_alloc_at _ _
    have F2 := Lib.hid (f1.trans f2 (fun _ _ h => h)); have G2 := Lib.hid g2
    have x1' := ((f1.trans f2 (fun _ _ h => h)).cell lz (fun h => h)).trans x1
    have HR := Lib.hid (rget_ok (HR0.out.fr F2.out (fun _ _ h => h)) HOrd.out a)
    clear f1 f2 g2 x0 x1 x2 x3 x4 x5
    go_upto_region 10 with fail
    rw [← hw2, ← hy1]
    clear hw2 hy1
    go_wp2_with fail
    refine HR.out.mono ?_
    rintro e w3 ⟨hor, f3⟩
    obtain rfl : e = .returned (.tuple #[zeroW, .int .i64 0, .int .i64 171]) := by
      rcases hor with ⟨y, hy, ey, _⟩ | ⟨_, rfl⟩
      · exact absurd ⟨y, hy, ey⟩ Hth.out
      · rfl
    obtain ⟨w4, hw4⟩ : ∃ w4, w4 = w3.alloc (.cells #[.int .u32 0, .int .i64 0, .int .i64 0, .int .i64 0] 32) := ⟨_, rfl⟩
    obtain ⟨y2, hy2⟩ : ∃ y, y = w3.heap.size := ⟨_, rfl⟩
    have f4 : Fr (fun _ => False) w3 w4 := by rw [hw4]; exact Fr.alloc (Fr.refl _ _) _
    have g4 : w4.heap[y2]? = some (.cells #[.int .u32 0, .int .i64 0, .int .i64 0, .int .i64 0] 32 (0, 0)) := by rw [hw4, hy2]; exact heap_alloc_at _ _
    have g5 := (f3.trans f4 (fun _ _ h => h)).get G2.out (fun h => h)
    have q0 := (cell_of g4 0).trans (show _ = some (Value.int .u32 0) from rfl)
    have q1 := (cell_of g4 1).trans (show _ = some (Value.int .i64 0) from rfl)
    have q2 := (cell_of g4 2).trans (show _ = some (Value.int .i64 0) from rfl)
    have q3 := (cell_of g4 3).trans (show _ = some (Value.int .i64 0) from rfl)
    have p0 := (cell_of g5 0).trans (show _ = some (Value.int .u32 0) from rfl)
    have p1 := (cell_of g5 1).trans (show _ = some (Value.int .i64 0) from rfl)
    have p2 := (cell_of g5 2).trans (show _ = some (Value.int .i64 0) from rfl)
    have p3 := (cell_of g5 3).trans (show _ = some (Value.int .i64 0) from rfl)
    have HF := Lib.hid (H.out.keep (((F0.out.trans F2.out (fun _ _ h => h)).trans f3 (fun _ _ h => h)).trans f4 (fun _ _ h => h)))
    clear hor f3 f4 g4 g5 x1'
    go_upto_region 11 with fail
    rw [← hw4, ← hy2]
    clear hw4 hy2
    go_wp2_with fail
    go_ret
    exact ⟨by simp, _, _, HF.out, by omega⟩
set_option maxRecDepth 100000 in
set_option maxHeartbeats 2000000 in
theorem ans5 (h : WP w0 bl rb S nx w) {a b c d n : Int} (hn2 : n ≤ 9223372036854775807) (hx : nx ≤ 10000000) :
    Calls Try.prog 9 #[.pointer (some ⟨bl, 0, none⟩), .pointer (some ⟨rb, 0, none⟩), opV 5 a b c d n] w fun e w' => e = .returned (.bool true) ∧ ∃ S' n', WP w0 bl rb S' n' w' ∧ n' ≤ nx + 1024 := by
  obtain ⟨GL, GR, hl, hr, h3, h4, h5, h6⟩ := id h
  obtain ⟨W, hW⟩ : ∃ W, W = w.alloc (.cells #[.int .i64 5, .int .u32 a, .int .i64 b, .int .i64 c, .int .i64 d, .int .i64 n] 34) := ⟨_, rfl⟩
  obtain ⟨z, hz⟩ : ∃ z, z = w.heap.size := ⟨_, rfl⟩
  have f0 : Fr (fun _ => False) w W := by rw [hW]; exact Fr.alloc (Fr.refl _ _) _
  have hg : W.heap[z]? = some (.cells #[.int .i64 5, .int .u32 a, .int .i64 b, .int .i64 c, .int .i64 d, .int .i64 n] 34 (0, 0)) := by rw [hW, hz]; exact heap_alloc_at _ _
  have x0 := (cell_of hg 0).trans (show _ = some (Value.int .i64 5) from rfl)
  have x1 := (cell_of hg 1).trans (show _ = some (Value.int .u32 a) from rfl)
  have x2 := (cell_of hg 2).trans (show _ = some (Value.int .i64 b) from rfl)
  have x3 := (cell_of hg 3).trans (show _ = some (Value.int .i64 c) from rfl)
  have x4 := (cell_of hg 4).trans (show _ = some (Value.int .i64 d) from rfl)
  have x5 := (cell_of hg 5).trans (show _ = some (Value.int .i64 n) from rfl)
  have hl0 := hl.keep f0
  have hr0 := hr.fr f0 (fun _ _ h => h)
  have lz : z < W.drew.heap.size := lt_of_block hg
  have nzL : ¬ GL z := fun e => by have := hl.bd z e; omega
  have nzR : ¬ GR z := fun e => by have := hr.bd z e; omega
  have HL0 := Lib.hid hl0; have HR0 := Lib.hid hr0; have H3 := Lib.hid h3; have H4 := Lib.hid h4; have H5 := Lib.hid h5; have H6 := Lib.hid h6; have HGR := Lib.hid hr.bd; have F0 := Lib.hid f0; have H := Lib.hid h; have Hx := Lib.hid hx
  have HOrd := Lib.hid hl.ord; have HLone := Lib.hid hl.lone; have Hok := Lib.hid hl.ok; have Hlen := Lib.hid hl.len
  clear hl hr h3 h4 h5 h6 f0 hg hl0 hr0 h hx
  by_cases hn : n < 0
  · have HG := Lib.hid (serve_neg HL0.out hn)
    have HR := Lib.hid (rserve_neg HR0.out hn)
    have HS := Lib.hid (same_ok (w := W) (va := .slice none 0 0) (vb := .slice none 0 0) (L := []) (M := []) (World.ownsRow_nil _ _ _ _) (World.ownsRow_nil _ _ _ _) (by simp) (by simp))
    clear hn
    go_enter Try.func9, Try.ntmps9
    go_upto_region 1 with fail
    rw [← hW, ← hz]
    clear hW hz
    go_wp2_with fail
    refine HG.out.mono ?_
    rintro e w1 ⟨rfl, rfl⟩
    go_wp2_with fail
    refine HR.out.mono ?_
    rintro e w1 ⟨rfl, rfl⟩
    go_wp2_with fail
    refine HS.out.mono ?_
    rintro e w1 ⟨rfl, f1⟩
    have HF := Lib.hid (H.out.keep (F0.out.trans f1 (fun _ _ h => h)))
    clear f1 x0 x1 x2 x3 x4 x5
    go_wp2_with fail
    go_ret
    exact ⟨by simp, _, _, HF.out, by omega⟩
  · have HG := Lib.hid (serve_ok HL0.out (n := n) (by omega) hn2 (by have := Hx.out; omega))
    have Hn0 := Lib.hid (show 0 ≤ n by omega); have Hn2 := Lib.hid hn2
    clear hn hn2
    go_enter Try.func9, Try.ntmps9
    go_upto_region 1 with fail
    rw [← hW, ← hz]
    clear hW hz
    go_wp2_with fail
    refine HG.out.mono ?_
    rintro e w1 ⟨v1, rfl, j0, jv, GL', n1, j1, jn, j3, j4, j5⟩
    have hRat := HR0.out.fr j3 (fun b hb e => H3.out b e hb)
    have HR := Lib.hid (rserve_ok hRat Hok.out Hn0.out Hn2.out)
    have x5' := (j3.cell lz nzL).trans x5
    have J0 := Lib.hid j0; have Jv := Lib.hid jv; have J1 := Lib.hid j1; have Jn := Lib.hid jn; have J3 := Lib.hid j3; have J4 := Lib.hid j4
    clear hRat j0 jv j1 jn j3 j4 j5 x0 x1 x2 x3 x4 x5
    go_wp2_with fail
    refine HR.out.mono ?_
    rintro e w2 ⟨v2, rfl, r0, rv, GR', r1, r2, r3, r5⟩
    have j02 : Wts w2 v1 (serveF n S).1 := Row.fr J0.out r2 (fun b hb e => by have h1 := Jv.out b hb; have h2 := HGR.out b e; have := F0.out.size; omega)
    have hs := same_ok j02 r0 (by have := (serveF_sub1 n S).length_le; have := Hlen.out; omega) (by have := (serveF_sub1 n S).length_le; have := Hlen.out; omega)
    rw [show decide ((serveF n S).1 = (serveF n S).1) = true by simp] at hs
    have HS := Lib.hid hs
    clear hs
    have HF := Lib.hid (WP.done (S' := (serveF n S).2) H3.out H4.out H5.out H6.out HGR.out F0.out J1.out J3.out (show Grew W GL GL' from J4.out) r1 r2 r3)
    clear r0 rv r1 r2 r3 r5 j02 x5'
    go_wp2_with fail
    refine HS.out.mono ?_
    rintro e w3 ⟨rfl, f3⟩
    have HF3 := Lib.hid (HF.out.keep f3)
    have Hn1 := Lib.hid (show n1 ≤ nx + 1024 from Jn.out)
    clear f3
    go_wp2_with fail
    go_ret
    exact ⟨by simp, _, _, HF3.out, Hn1.out⟩
set_option maxRecDepth 100000 in
set_option maxHeartbeats 2000000 in
theorem ans6 (h : WP w0 bl rb S nx w) {a b c d n : Int} (hx : nx ≤ 10000000) :
    Calls Try.prog 9 #[.pointer (some ⟨bl, 0, none⟩), .pointer (some ⟨rb, 0, none⟩), opV 6 a b c d n] w fun e w' => e = .returned (.bool true) ∧ ∃ S' n', WP w0 bl rb S' n' w' ∧ n' ≤ nx + 1024 := by
  obtain ⟨GL, GR, hl, hr, h3, h4, h5, h6⟩ := id h
  obtain ⟨W, hW⟩ : ∃ W, W = w.alloc (.cells #[.int .i64 6, .int .u32 a, .int .i64 b, .int .i64 c, .int .i64 d, .int .i64 n] 34) := ⟨_, rfl⟩
  obtain ⟨z, hz⟩ : ∃ z, z = w.heap.size := ⟨_, rfl⟩
  have f0 : Fr (fun _ => False) w W := by rw [hW]; exact Fr.alloc (Fr.refl _ _) _
  have hg : W.heap[z]? = some (.cells #[.int .i64 6, .int .u32 a, .int .i64 b, .int .i64 c, .int .i64 d, .int .i64 n] 34 (0, 0)) := by rw [hW, hz]; exact heap_alloc_at _ _
  have x0 := (cell_of hg 0).trans (show _ = some (Value.int .i64 6) from rfl)
  have x1 := (cell_of hg 1).trans (show _ = some (Value.int .u32 a) from rfl)
  have x2 := (cell_of hg 2).trans (show _ = some (Value.int .i64 b) from rfl)
  have x3 := (cell_of hg 3).trans (show _ = some (Value.int .i64 c) from rfl)
  have x4 := (cell_of hg 4).trans (show _ = some (Value.int .i64 d) from rfl)
  have x5 := (cell_of hg 5).trans (show _ = some (Value.int .i64 n) from rfl)
  have hl0 := hl.keep f0
  have hr0 := hr.fr f0 (fun _ _ h => h)
  have lz : z < W.drew.heap.size := lt_of_block hg
  have nzL : ¬ GL z := fun e => by have := hl.bd z e; omega
  have nzR : ¬ GR z := fun e => by have := hr.bd z e; omega
  have HL0 := Lib.hid hl0; have HR0 := Lib.hid hr0; have H3 := Lib.hid h3; have H4 := Lib.hid h4; have H5 := Lib.hid h5; have H6 := Lib.hid h6; have HGR := Lib.hid hr.bd; have F0 := Lib.hid f0; have H := Lib.hid h; have Hx := Lib.hid hx
  have HOrd := Lib.hid hl.ord; have HLone := Lib.hid hl.lone; have Hok := Lib.hid hl.ok; have Hlen := Lib.hid hl.len
  clear hl hr h3 h4 h5 h6 f0 hg hl0 hr0 h hx
  obtain ⟨sv, h1, h2, _⟩ := HR0.out.ex
  obtain ⟨sa, sc, ev⟩ := wts_slice h2
  have c0 := (cell_of h1 0).trans (show _ = some sv from rfl)
  have hi := is_ok (x := .pointer (some ⟨bl, 0, none⟩)) (S := S) (M := S) (by have := Hlen.out; omega) (fun w1 f => wall_ok (HL0.out.keep f) (by have := Hx.out; omega)) h2 (by have := Hlen.out; omega)
  rw [show decide (S = S) = true by simp] at hi
  have HI := Lib.hid hi
  subst ev
  clear hi h1 h2
  go_enter Try.func9, Try.ntmps9
  go_upto_region 1 with fail
  rw [← hW, ← hz]
  clear hW hz
  go_wp2_with fail
  refine HI.out.mono ?_
  rintro e w1 ⟨rfl, f1⟩
  have HF := Lib.hid (H.out.keep (F0.out.trans f1 (fun _ _ h => h)))
  clear f1 x0 x1 x2 x3 x4 x5 c0
  go_wp2_with fail
  go_ret
  exact ⟨rfl, _, _, HF.out, by omega⟩
set_option maxRecDepth 100000 in
set_option maxHeartbeats 2000000 in
theorem ans0 (h : WP w0 bl rb S nx w) {k a b c d n : Int} (hk : k < 1 ∨ 6 < k) (hx : nx ≤ 10000000) :
    Calls Try.prog 9 #[.pointer (some ⟨bl, 0, none⟩), .pointer (some ⟨rb, 0, none⟩), opV k a b c d n] w fun e w' => e = .returned (.bool true) ∧ ∃ S' n', WP w0 bl rb S' n' w' ∧ n' ≤ nx + 1024 := by
  obtain ⟨GL, GR, hl, hr, h3, h4, h5, h6⟩ := id h
  obtain ⟨W, hW⟩ : ∃ W, W = w.alloc (.cells #[.int .i64 k, .int .u32 a, .int .i64 b, .int .i64 c, .int .i64 d, .int .i64 n] 34) := ⟨_, rfl⟩
  obtain ⟨z, hz⟩ : ∃ z, z = w.heap.size := ⟨_, rfl⟩
  have f0 : Fr (fun _ => False) w W := by rw [hW]; exact Fr.alloc (Fr.refl _ _) _
  have hg : W.heap[z]? = some (.cells #[.int .i64 k, .int .u32 a, .int .i64 b, .int .i64 c, .int .i64 d, .int .i64 n] 34 (0, 0)) := by rw [hW, hz]; exact heap_alloc_at _ _
  have x0 := (cell_of hg 0).trans (show _ = some (Value.int .i64 k) from rfl)
  have x1 := (cell_of hg 1).trans (show _ = some (Value.int .u32 a) from rfl)
  have x2 := (cell_of hg 2).trans (show _ = some (Value.int .i64 b) from rfl)
  have x3 := (cell_of hg 3).trans (show _ = some (Value.int .i64 c) from rfl)
  have x4 := (cell_of hg 4).trans (show _ = some (Value.int .i64 d) from rfl)
  have x5 := (cell_of hg 5).trans (show _ = some (Value.int .i64 n) from rfl)
  have hl0 := hl.keep f0
  have hr0 := hr.fr f0 (fun _ _ h => h)
  have lz : z < W.drew.heap.size := lt_of_block hg
  have nzL : ¬ GL z := fun e => by have := hl.bd z e; omega
  have nzR : ¬ GR z := fun e => by have := hr.bd z e; omega
  have HL0 := Lib.hid hl0; have HR0 := Lib.hid hr0; have H3 := Lib.hid h3; have H4 := Lib.hid h4; have H5 := Lib.hid h5; have H6 := Lib.hid h6; have HGR := Lib.hid hr.bd; have F0 := Lib.hid f0; have H := Lib.hid h; have Hx := Lib.hid hx
  have HOrd := Lib.hid hl.ord; have HLone := Lib.hid hl.lone; have Hok := Lib.hid hl.ok; have Hlen := Lib.hid hl.len
  clear hl hr h3 h4 h5 h6 f0 hg hl0 hr0 h hx
  have k1 : (k == 1) = false := by simp; omega
  have k2 : (k == 2) = false := by simp; omega
  have k3 : (k == 3) = false := by simp; omega
  have k4 : (k == 4) = false := by simp; omega
  have k5 : (k == 5) = false := by simp; omega
  have k6 : (k == 6) = false := by simp; omega
  clear hk
  go_enter Try.func9, Try.ntmps9
  go_upto_region 1 with fail
  rw [← hW, ← hz]
  clear hW hz
  go_wp2_with fail
  go_ret
  exact ⟨rfl, _, _, H.out.keep F0.out, by omega⟩
theorem answers_ok (h : WP w0 bl rb S nx w) {k a b c d n : Int} (ha : 0 ≤ a) (ha2 : a < 4294967296) (hn2 : n ≤ 9223372036854775807) (hx : nx ≤ 10000000) :
    Calls Try.prog 9 #[.pointer (some ⟨bl, 0, none⟩), .pointer (some ⟨rb, 0, none⟩), opV k a b c d n] w fun e w' => e = .returned (.bool true) ∧ ∃ S' n', WP w0 bl rb S' n' w' ∧ n' ≤ nx + 1024 := by
  by_cases hk : k < 1 ∨ 6 < k
  · exact ans0 h hk hx
  · rcases (by omega : k = 1 ∨ k = 2 ∨ k = 3 ∨ k = 4 ∨ k = 5 ∨ k = 6) with rfl | rfl | rfl | rfl | rfl | rfl
    · exact ans1 h ha ha2 hx
    · exact ans2 h ha ha2 hx
    · exact ans3 h ha ha2 hx
    · exact ans4 h hx
    · exact ans5 h hn2 hx
    · exact ans6 h hx
end
end Go.Proofs.Ytjfnaflbhmeokaa.Wt
namespace Go.Proofs.Ytjfnaflbhmeokaa.Wt
open Go.Shelf Go.RowKit
def kOpW (j : Nat) : IntKind := if j = 1 then .u32 else .i64
theorem wf_u32p {x : Int} (h : (Lit.int .u32 x).wf = true) : 0 ≤ x ∧ x < 4294967296 := by
  simp [Lit.wf, IntKind.min, IntKind.max, IntKind.signed, IntKind.bits] at h
  omega
theorem WP.start {w0 w1 : World} {bl : Nat} {GL : Nat → Prop} (h : StAt GL bl [] 0 w1) (hG : ∀ b, GL b → w0.heap.size ≤ b) (hf : Fr (fun _ => False) w0 w1) : WP w0 bl w1.heap.size [] 0 (w1.alloc (.cells #[.slice none 0 0] 28)) := by
  have f : Fr (fun _ => False) w1 (w1.alloc (.cells #[.slice none 0 0] 28)) := Fr.alloc (Fr.refl _ _) _
  refine ⟨GL, fun b => b = w1.heap.size, h.keep f, ⟨⟨.slice none 0 0, heap_alloc_at _ _, World.ownsRow_nil _ _ _ _, fun b hb => ?_⟩, rfl, fun b hb => ?_, by simp⟩, fun b hb e => ?_, hG, fun b hb => ?_, hf.trans f (fun _ _ h => h)⟩
  · simp [Value.ownBlock] at hb
  · subst hb; simp [World.size_alloc]
  · have := h.bd b hb; omega
  · have := hf.size; omega
set_option maxRecDepth 100000 in
set_option maxHeartbeats 4000000 in
theorem plays_walk (w : World) {v0 : Value} {K0 : Nat → Nat → Int} {n0 : Nat} (hk : KindsAt w v0 6 kOpW K0 n0) :
    Calls Try.prog 3 #[v0] w fun e w' => e = .returned (.bool true) ∧ Fr (fun _ => False) w w' := by
  obtain ⟨a1, c1', rfl, hnc, hcm, hor⟩ := id hk
  have hn1 : (n0 : Int) ≤ 9223372036854775807 := by unfold maxLen at hcm; omega
  have H1 := Lib.hid hk
  clear hk hor hcm hnc
  go_enter Try.func3, Try.ntmps3
  go_wp2_with fail
  refine (newL_ok w).mono ?_
  rintro e w1 ⟨bl, GL, rfl, hl, hg, hf⟩
  have HP := Lib.hid (WP.start hl hg hf)
  clear hl hg hf
  go_upto_region 5 with fail
  generalize w1.alloc (.cells #[.slice none 0 0] 28) = w2 at *
  generalize w1.heap.size = rb at *
  go_upto_block 0 with fail
  go_cut [] (fun wx => ∃ S nx, nx ≤ 10000000 ∧ WP w bl rb S nx wx)
  case first =>
    go_wp2_with fail
    go_loopw [5] (fun s5 wr => ∃ (i : Nat) (S : List Int) (nx : Int), s5 = .int .i64 (i : Int) ∧ i ≤ min n0 600 ∧ nx ≤ 1024 * (i : Int) ∧ WP w bl rb S nx wr) (fun s5 _ => n0 - (intOf s5).toNat)
    case atStart => exact ⟨0, [], 0, rfl, Nat.zero_le _, by simp, HP.out⟩
    case round =>
      obtain ⟨i, S, nx, rfl, hi, hnx, hP⟩ := hrel
      have hIv := H1.out.fr (by obtain ⟨_, _, _, _, _, _, _, f⟩ := hP; exact f) (fun b hb h => h) (by omega)
      have HP := Lib.hid hP
      clear hP
      by_cases hlt : i < n0
      · have hlt' : (i : Int) < (n0 : Int) := by omega
        by_cases hc : i < 600
        · have hc' : (i : Int) < 600 := by omega
          obtain ⟨a', c', e1, _, _, hor⟩ := hIv
          simp only [Value.slice.injEq] at e1
          obtain ⟨rfl, _, rfl⟩ := e1
          obtain ⟨lb, lo, rfl, hcell⟩ := hor.resolve_left (by omega)
          have k0 := (hcell i 0 hlt (by omega)).1
          have k1 := (hcell i 1 hlt (by omega)).1
          have k2 := (hcell i 2 hlt (by omega)).1
          have k3 := (hcell i 3 hlt (by omega)).1
          have k4 := (hcell i 4 hlt (by omega)).1
          have k5 := (hcell i 5 hlt (by omega)).1
          have hu := wf_u32p (hcell i 1 hlt (by omega)).2
          have hn5 : K0 i 5 ≤ 9223372036854775807 := by
            have := (hcell i 5 hlt (by omega)).2
            simp [kOpW, Lit.wf, IntKind.min, IntKind.max, IntKind.signed, IntKind.bits] at this
            omega
          simp only [Nat.add_zero] at k0
          obtain ⟨x0, e0⟩ : ∃ x, x = K0 i 0 := ⟨_, rfl⟩
          obtain ⟨x1, e1⟩ : ∃ x, x = K0 i 1 := ⟨_, rfl⟩
          obtain ⟨x2, e2⟩ : ∃ x, x = K0 i 2 := ⟨_, rfl⟩
          obtain ⟨x3, e3⟩ : ∃ x, x = K0 i 3 := ⟨_, rfl⟩
          obtain ⟨x4, e4⟩ : ∃ x, x = K0 i 4 := ⟨_, rfl⟩
          obtain ⟨x5, e5⟩ : ∃ x, x = K0 i 5 := ⟨_, rfl⟩
          rw [← e0] at k0; rw [← e1] at k1 hu; rw [← e2] at k2; rw [← e3] at k3; rw [← e4] at k4; rw [← e5] at k5 hn5
          change wr.cell? _ = some (.int .i64 x0) at k0
          change wr.cell? _ = some (.int .u32 x1) at k1
          change wr.cell? _ = some (.int .i64 x2) at k2
          change wr.cell? _ = some (.int .i64 x3) at k3
          change wr.cell? _ = some (.int .i64 x4) at k4
          change wr.cell? _ = some (.int .i64 x5) at k5
          have HA := Lib.hid (answers_ok (HP.out.keep (Fr.drew (Fr.refl (fun _ => False) _))) (k := x0) (b := x2) (c := x3) (d := x4) hu.1 hu.2 hn5 (by omega))
          have Hlt := Lib.hid hlt; have Hc := Lib.hid hc; have Hnx := Lib.hid hnx
          clear hcell hor hlt hc hi hu hn5 hnx HP e0 e1 e2 e3 e4 e5
          go_upto_region 8 with fail
          refine wp_region_held_drew (S := fun _ => True) (by kernel_rfl) (by trivial) (fun hHeld => ?_)
          refine wpAnyH_take (i := 0) (v := ?_) rfl (by kernel_rfl) (by kernel_rfl) (by kernel_rfl) (fun _ _ _ h => h) (Or.inl ⟨by rfl, ?_⟩) (by assumption) ?_
          rotate_left
          · intro w' hSw; (try dsimp only at hSw); go_simp; try with_reducible rfl
          try simp only [Act.put, List.getElem_toArray, List.getElem_cons_zero, List.getElem_cons_succ, List.setIfInBounds_toArray, List.set_cons_zero, List.set_cons_succ]
          refine wpAnyH_take (i := 1) (v := ?_) rfl (by kernel_rfl) (by kernel_rfl) (by kernel_rfl) (fun _ _ _ h => h) (Or.inl ⟨by rfl, ?_⟩) (by assumption) ?_
          rotate_left
          · intro w' hSw; (try dsimp only at hSw); go_simp; try with_reducible rfl
          try simp only [Act.put, List.getElem_toArray, List.getElem_cons_zero, List.getElem_cons_succ, List.setIfInBounds_toArray, List.set_cons_zero, List.set_cons_succ]
          refine wpAnyH_take (i := 2) (v := ?_) rfl (by kernel_rfl) (by kernel_rfl) (by kernel_rfl) (fun _ _ _ h => h) (Or.inl ⟨by rfl, ?_⟩) (by assumption) ?_
          rotate_left
          · intro w' hSw; (try dsimp only at hSw); go_simp; try with_reducible rfl
          try simp only [Act.put, List.getElem_toArray, List.getElem_cons_zero, List.getElem_cons_succ, List.setIfInBounds_toArray, List.set_cons_zero, List.set_cons_succ]
          refine wpAnyH_take (i := 3) (v := ?_) rfl (by kernel_rfl) (by kernel_rfl) (by kernel_rfl) (fun _ _ _ h => h) (Or.inl ⟨by rfl, ?_⟩) (by assumption) ?_
          rotate_left
          · intro w' hSw; (try dsimp only at hSw); go_simp; try with_reducible rfl
          try simp only [Act.put, List.getElem_toArray, List.getElem_cons_zero, List.getElem_cons_succ, List.setIfInBounds_toArray, List.set_cons_zero, List.set_cons_succ]
          refine wpAnyH_take (i := 4) (v := ?_) rfl (by kernel_rfl) (by kernel_rfl) (by kernel_rfl) (fun _ _ _ h => h) (Or.inl ⟨by rfl, ?_⟩) (by assumption) ?_
          rotate_left
          · intro w' hSw; (try dsimp only at hSw); go_simp; try with_reducible rfl
          try simp only [Act.put, List.getElem_toArray, List.getElem_cons_zero, List.getElem_cons_succ, List.setIfInBounds_toArray, List.set_cons_zero, List.set_cons_succ]
          refine wpAnyH_ready (rs := [5]) (by kernel_rfl) (by simp) ?_
          refine AllReadyH.cons rfl (fun K hK => ?_) AllReadyH.nil
          go_simp
          
          try go_simp
          refine hK.out _ _ ?_ (fun hHeld => ?_)
          · (try dsimp only); try trivial
          clear hK K
          try simp only [Act.put, List.getElem_toArray, List.getElem_cons_zero, List.getElem_cons_succ, List.setIfInBounds_toArray, List.set_cons_zero, List.set_cons_succ]
          refine wpAnyH_ready (rs := [6]) (by kernel_rfl) (by simp) ?_
          refine AllReadyH.cons rfl (fun K hK => ?_) AllReadyH.nil
          go_simp
          refine HA.out.mono ?_
          rintro e w6 ⟨rfl, S', n', hwp, hn'⟩
          obtain ⟨GL, GR, j1, r1, j3, j4, j5, j6⟩ := id hwp
          obtain ⟨sv, h1, h2, h3⟩ := r1.ex
          obtain ⟨sa, sc, rfl⟩ := wts_slice h2
          have c0 := (cell_of h1 0).trans (show _ = some (Value.slice sa S'.length sc) from rfl)
          have HW := Lib.hid hwp
          have J1 := Lib.hid j1
          have Hn' := Lib.hid hn'
          clear hwp hn' j1 r1 j3 j4 j5 j6 h1 h2 h3
          try go_simp
          refine hK.out _ _ ?_ (fun hHeld => ?_)
          · (try dsimp only); try trivial
          clear hK K
          try simp only [Act.put, List.getElem_toArray, List.getElem_cons_zero, List.getElem_cons_succ, List.setIfInBounds_toArray, List.set_cons_zero, List.set_cons_succ]
          refine wpAnyH_take (i := 7) (v := ?_) rfl (by kernel_rfl) (by kernel_rfl) (by kernel_rfl) (fun _ _ _ h => h) (Or.inl ⟨by rfl, ?_⟩) (by assumption) ?_
          rotate_left
          · intro w' hSw; (try dsimp only at hSw); go_simp; try with_reducible rfl
          try simp only [Act.put, List.getElem_toArray, List.getElem_cons_zero, List.getElem_cons_succ, List.setIfInBounds_toArray, List.set_cons_zero, List.set_cons_succ]
          refine wpAnyH_take (i := 8) (v := ?_) rfl (by kernel_rfl) (by kernel_rfl) (by kernel_rfl) (fun _ _ _ h => h) (Or.inl ⟨by rfl, ?_⟩) (by assumption) ?_
          rotate_left
          · intro w' hSw; (try dsimp only at hSw); go_simp; try with_reducible rfl
          try simp only [Act.put, List.getElem_toArray, List.getElem_cons_zero, List.getElem_cons_succ, List.setIfInBounds_toArray, List.set_cons_zero, List.set_cons_succ]
          refine wpAnyH_take (i := 9) (v := ?_) rfl (by kernel_rfl) (by kernel_rfl) (by kernel_rfl) (fun _ _ _ h => h) (Or.inl ⟨by rfl, ?_⟩) (by assumption) ?_
          rotate_left
          · intro w' hSw; (try dsimp only at hSw); go_simp; try with_reducible rfl
          try simp only [Act.put, List.getElem_toArray, List.getElem_cons_zero, List.getElem_cons_succ, List.setIfInBounds_toArray, List.set_cons_zero, List.set_cons_succ]
          refine wpAnyH_take (i := 11) (v := ?_) rfl (by kernel_rfl) (by kernel_rfl) (by kernel_rfl) (fun _ _ _ h => h) (Or.inl ⟨by rfl, ?_⟩) (by assumption) ?_
          rotate_left
          · intro w' hSw; (try dsimp only at hSw); go_simp; try with_reducible rfl
          try simp only [Act.put, List.getElem_toArray, List.getElem_cons_zero, List.getElem_cons_succ, List.setIfInBounds_toArray, List.set_cons_zero, List.set_cons_succ]
          refine wpAnyH_take (i := 12) (v := ?_) rfl (by kernel_rfl) (by kernel_rfl) (by kernel_rfl) (fun _ _ _ h => h) (Or.inl ⟨by rfl, ?_⟩) (by assumption) ?_
          rotate_left
          · intro w' hSw; (try dsimp only at hSw); go_simp; try with_reducible rfl
          try simp only [Act.put, List.getElem_toArray, List.getElem_cons_zero, List.getElem_cons_succ, List.setIfInBounds_toArray, List.set_cons_zero, List.set_cons_succ]
          refine wpAnyH_take (i := 13) (v := ?_) rfl (by kernel_rfl) (by kernel_rfl) (by kernel_rfl) (fun _ _ _ h => h) (Or.inl ⟨by rfl, ?_⟩) (by assumption) ?_
          rotate_left
          · intro w' hSw; (try dsimp only at hSw); go_simp; try with_reducible rfl
          try simp only [Act.put, List.getElem_toArray, List.getElem_cons_zero, List.getElem_cons_succ, List.setIfInBounds_toArray, List.set_cons_zero, List.set_cons_succ]
          refine wpAnyH_ready (rs := [10, 14]) (by kernel_rfl) (by simp) ?_
          refine AllReadyH.cons rfl (fun K hK => ?_) (AllReadyH.cons rfl (fun K hK => ?_) AllReadyH.nil)
          · go_simp
            refine (length_ok J1.out).mono ?_
            rintro e w7 ⟨rfl, rfl⟩
            try go_simp
            refine hK.out _ _ ?_ (fun hHeld => ?_)
            · (try dsimp only); try trivial
            clear hK K
            try simp only [Act.put, List.getElem_toArray, List.getElem_cons_zero, List.getElem_cons_succ, List.setIfInBounds_toArray, List.set_cons_zero, List.set_cons_succ]
            refine wpAnyH_ready (rs := [14]) (by kernel_rfl) (by simp) ?_
            refine AllReadyH.cons rfl (fun K hK => ?_) AllReadyH.nil
            go_simp
            
            try go_simp
            refine hK.out _ _ ?_ (fun hHeld => ?_)
            · (try dsimp only); try trivial
            clear hK K
            try simp only [Act.put, List.getElem_toArray, List.getElem_cons_zero, List.getElem_cons_succ, List.setIfInBounds_toArray, List.set_cons_zero, List.set_cons_succ]
            refine wpAnyH_take (i := 15) (v := ?_) rfl (by kernel_rfl) (by kernel_rfl) (by kernel_rfl) (fun _ _ _ h => h) (Or.inl ⟨by rfl, ?_⟩) (by assumption) ?_
            rotate_left
            · intro w' hSw; (try dsimp only at hSw); go_simp; try with_reducible rfl
            try simp only [Act.put, List.getElem_toArray, List.getElem_cons_zero, List.getElem_cons_succ, List.setIfInBounds_toArray, List.set_cons_zero, List.set_cons_succ]
            refine wpAnyH_take (i := 16) (v := ?_) rfl (by kernel_rfl) (by kernel_rfl) (by kernel_rfl) (fun _ _ _ h => h) (Or.inl ⟨by rfl, ?_⟩) (by assumption) ?_
            rotate_left
            · intro w' hSw; (try dsimp only at hSw); go_simp; try with_reducible rfl
            try simp only [Act.put, List.getElem_toArray, List.getElem_cons_zero, List.getElem_cons_succ, List.setIfInBounds_toArray, List.set_cons_zero, List.set_cons_succ]
            refine wpAnyH_take (i := 17) (v := ?_) rfl (by kernel_rfl) (by kernel_rfl) (by kernel_rfl) (fun _ _ _ h => h) (Or.inl ⟨by rfl, ?_⟩) (by assumption) ?_
            rotate_left
            · intro w' hSw; (try dsimp only at hSw); go_simp; try with_reducible rfl
            try simp only [Act.put, List.getElem_toArray, List.getElem_cons_zero, List.getElem_cons_succ, List.setIfInBounds_toArray, List.set_cons_zero, List.set_cons_succ]
            refine wpAnyH_done (by kernel_rfl) ?_ _
            go_wp2_with fail
            refine ⟨⟨i + 1, S', n', by first | (simp; done) | go_num, by have := Hlt.out; have := Hc.out; omega, by have := Hn'.out; have := Hnx.out; push_cast; omega, HW.out⟩, ?_⟩
            have := Hlt.out; simp [intOf]; omega
          · go_simp
            
            try go_simp
            refine hK.out _ _ ?_ (fun hHeld => ?_)
            · (try dsimp only); try trivial
            clear hK K
            try simp only [Act.put, List.getElem_toArray, List.getElem_cons_zero, List.getElem_cons_succ, List.setIfInBounds_toArray, List.set_cons_zero, List.set_cons_succ]
            refine wpAnyH_take (i := 15) (v := ?_) rfl (by kernel_rfl) (by kernel_rfl) (by kernel_rfl) (fun _ _ _ h => h) (Or.inl ⟨by rfl, ?_⟩) (by assumption) ?_
            rotate_left
            · intro w' hSw; (try dsimp only at hSw); go_simp; try with_reducible rfl
            try simp only [Act.put, List.getElem_toArray, List.getElem_cons_zero, List.getElem_cons_succ, List.setIfInBounds_toArray, List.set_cons_zero, List.set_cons_succ]
            refine wpAnyH_ready (rs := [10]) (by kernel_rfl) (by simp) ?_
            refine AllReadyH.cons rfl (fun K hK => ?_) AllReadyH.nil
            go_simp
            refine (length_ok J1.out).mono ?_
            rintro e w7 ⟨rfl, rfl⟩
            try go_simp
            refine hK.out _ _ ?_ (fun hHeld => ?_)
            · (try dsimp only); try trivial
            clear hK K
            try simp only [Act.put, List.getElem_toArray, List.getElem_cons_zero, List.getElem_cons_succ, List.setIfInBounds_toArray, List.set_cons_zero, List.set_cons_succ]
            refine wpAnyH_take (i := 16) (v := ?_) rfl (by kernel_rfl) (by kernel_rfl) (by kernel_rfl) (fun _ _ _ h => h) (Or.inl ⟨by rfl, ?_⟩) (by assumption) ?_
            rotate_left
            · intro w' hSw; (try dsimp only at hSw); go_simp; try with_reducible rfl
            try simp only [Act.put, List.getElem_toArray, List.getElem_cons_zero, List.getElem_cons_succ, List.setIfInBounds_toArray, List.set_cons_zero, List.set_cons_succ]
            refine wpAnyH_take (i := 17) (v := ?_) rfl (by kernel_rfl) (by kernel_rfl) (by kernel_rfl) (fun _ _ _ h => h) (Or.inl ⟨by rfl, ?_⟩) (by assumption) ?_
            rotate_left
            · intro w' hSw; (try dsimp only at hSw); go_simp; try with_reducible rfl
            try simp only [Act.put, List.getElem_toArray, List.getElem_cons_zero, List.getElem_cons_succ, List.setIfInBounds_toArray, List.set_cons_zero, List.set_cons_succ]
            refine wpAnyH_done (by kernel_rfl) ?_ _
            go_wp2_with fail
            refine ⟨⟨i + 1, S', n', by first | (simp; done) | go_num, by have := Hlt.out; have := Hc.out; omega, by have := Hn'.out; have := Hnx.out; push_cast; omega, HW.out⟩, ?_⟩
            have := Hlt.out; simp [intOf]; omega
        · have hc' : ¬ (i : Int) < 600 := by omega
          clear hIv hlt hc
          go_wp2_with fail
          go_meet
          exact ⟨S, nx, by omega, HP.out⟩
      · have hlt' : ¬ (i : Int) < (n0 : Int) := by omega
        clear hIv hlt
        go_wp2_with fail
        go_meet
        exact ⟨S, nx, by omega, HP.out⟩
  case rest =>
  obtain ⟨S, nx, hnx, hP⟩ := hcut
  obtain ⟨GL, GR, j1, r1, _, _, _, j6⟩ := hP
  obtain ⟨sv, h1, h2, _⟩ := r1.ex
  obtain ⟨sa, sc, ev⟩ := wts_slice h2
  have c0 := (cell_of h1 0).trans (show _ = some sv from rfl)
  have hx' : nx ≤ 1000000000 := by omega
  have hi := is_ok (x := .pointer (some ⟨bl, 0, none⟩)) (S := S) (M := S) (by have := r1.few; omega) (fun w1 f => wall_ok (j1.keep f) hx') h2 (by have := r1.few; omega)
  rw [show decide (S = S) = true by simp] at hi
  have HI := Lib.hid hi; have F6 := Lib.hid j6
  subst ev
  clear hi j1 j6 r1 h1 h2
  go_wp2_with fail
  refine HI.out.mono ?_
  rintro e w3 ⟨rfl, f3⟩
  have F3 := Lib.hid f3
  clear f3 c0
  go_wp2_with fail
  refine (awake_ok _).mono ?_
  rintro e w4 ⟨rfl, f4⟩
  have F4 := Lib.hid f4
  clear f4
  go_wp2_with fail
  go_ret
  exact ⟨rfl, (F6.out.trans F3.out (fun _ _ h => h)).trans F4.out (fun _ _ h => h)⟩
end Go.Proofs.Ytjfnaflbhmeokaa.Wt
