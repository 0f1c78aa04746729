/- A list of waiting parties: push, may. No condition. -/
import Derived.Test.YtjfnaflbhmeokaaWtL
namespace Go.Proofs.Ytjfnaflbhmeokaa.Wt
open Go.RowKit
theorem Grew.refl (w : World) (G : Nat → Prop) : Grew w G G := fun _ h => .inl h
theorem Grew.trans {a b : World} {G H K : Nat → Prop} (h : Grew a G H) (k : Grew b H K) (hs : a.heap.size ≤ b.heap.size) : Grew a G K := fun x hx => by
  rcases k x hx with h1 | h1
  · exact h x h1
  · exact .inr (by omega)
theorem Fr.undrew {F : Nat → Prop} {w w' : World} (h : Fr F w.drew w') : Fr F w w' := ⟨h.os, h.tape, h.output, h.size, h.blk⟩
theorem pushF_perm (L : List It) (v next : Int) : (pushF ltW L v next).Perm ((v, next) :: L) := by
  unfold pushF
  exact (settleF_perm ltW (by simp)).trans (List.perm_append_comm (l₁ := L) (l₂ := [(v, next)]))
theorem boxW_cells {w : World} {b : Nat} {x : Int} (h : w.heap[b]? = some (.cells #[.int .u32 (wW x), .int .i64 (wS x), .int .i64 (wT x), .int .i64 (wC x)] 32 (0, 0))) :
    w.cell? ⟨b, 0, none⟩ = some (.int .u32 (wW x)) ∧ w.cell? ⟨b, 1, none⟩ = some (.int .i64 (wS x)) ∧ w.cell? ⟨b, 2, none⟩ = some (.int .i64 (wT x)) ∧ w.cell? ⟨b, 3, none⟩ = some (.int .i64 (wC x)) :=
  ⟨(cell_of h 0).trans rfl, (cell_of h 1).trans rfl, (cell_of h 2).trans rfl, (cell_of h 3).trans rfl⟩
section
variable {G : Nat → Prop} {bl : Nat} {L : List It} {S : List Int} {next : Int} {f : Int → Option Int} {w : World}
set_option maxRecDepth 100000 in
set_option maxHeartbeats 1000000 in
theorem push_ok (h : LstF G bl L next f w) {x : Int} (ox : okW x) (hn : L.length < 1024) (hl : ∀ y ∈ L, wW y.1 ≠ wW x) (hx : next < 1000000000) :
    Calls Try.prog 70 #[.pointer (some ⟨bl, 0, none⟩), wtV x] w fun e w' => e = .returned (.int .i64 0) ∧
      ∃ G' L', LstF G' bl L' (next + 1) (fun j => if j = wW x then some next else f j) w' ∧ L'.Perm ((x, next) :: L) ∧ Fr G w w' ∧ Grew w G G' := by
  have f0 : Fr (fun _ => False) w (w.alloc (.cells #[.int .u32 (wW x), .int .i64 (wS x), .int .i64 (wT x), .int .i64 (wC x)] 32)) := Fr.alloc (Fr.refl _ _) _
  have gz : (w.alloc (.cells #[.int .u32 (wW x), .int .i64 (wS x), .int .i64 (wT x), .int .i64 (wC x)] 32)).heap[w.heap.size]? = some (.cells #[.int .u32 (wW x), .int .i64 (wS x), .int .i64 (wT x), .int .i64 (wC x)] 32 (0, 0)) := heap_alloc_at _ _
  have h0 := h.fr f0 (fun _ _ h => h)
  have hbG : ¬ G w.heap.size := fun hg => by have := h.bd _ hg; omega
  obtain ⟨bx, hbx⟩ : ∃ b, b = w.heap.size := ⟨_, rfl⟩
  have F0 := Lib.hid f0; have Hl := Lib.hid hl; have Hn := Lib.hid hn; have Ox := Lib.hid ox; have HW := Lib.hid hbx
  clear h f0 hl hn ox
  rw [← hbx] at gz hbG
  go_enter Try.func70, Try.ntmps70
  go_upto_region 1 with fail
  rw [← hbx]
  generalize (w.alloc (.cells #[.int .u32 (wW x), .int .i64 (wS x), .int .i64 (wT x), .int .i64 (wC x)] 32)) = W at *
  clear hbx
  obtain ⟨bh, bm, GH, h1, h2, h3, h4, h5⟩ := id h0.ex
  have c0 := (cell_of h1 0).trans (show _ = some (Value.pointer (some ⟨bh, 0, none⟩)) from rfl)
  have c1 := (cell_of h1 1).trans (show _ = some (Value.map (some bm)) from rfl)
  obtain ⟨x0, x1, x2, x3⟩ := boxW_cells gz
  have lbl := lt_of_block h1
  have lbx := lt_of_block gz
  have nbl : ¬ (False ∨ GH bl) := by rintro (h | h); exact h; exact (h5 _ h).2.1 rfl
  have nbx : ¬ (False ∨ GH bx) := by rintro (h | h); exact h; exact hbG (h5 _ h).1
  have nbm : ¬ (False ∨ GH bm) := by rintro (h | h); exact h; exact (h5 _ h).2.2 rfl
  have HP := Lib.hid (push_room (w0 := W.drew) less_ok (HpW.fr h2 (Fr.drew (Fr.refl (fun _ => False) _)) (fun _ _ h => h)) (by have := Hn.out; omega) hx (v := x) trivial)
  have H0 := Lib.hid h0; have H1 := Lib.hid h1; have H3 := Lib.hid h3; have H4 := Lib.hid h4; have H5 := Lib.hid h5; have Gz := Lib.hid gz
  clear h0 h1 h2 h3 h4 h5 gz
  go_region_held3 (fun w' => w'.cell? ⟨bl, 0, none⟩ = some (.pointer (some ⟨bh, 0, none⟩)) ∧ w'.cell? ⟨bx, 0, none⟩ = some (.int .u32 (wW x)) ∧ w'.cell? ⟨bx, 1, none⟩ = some (.int .i64 (wS x)) ∧ w'.cell? ⟨bx, 2, none⟩ = some (.int .i64 (wT x)) ∧ w'.cell? ⟨bx, 3, none⟩ = some (.int .i64 (wC x)))
    (first | (go_keep; done) | (refine ⟨?_, ?_, ?_, ?_, ?_⟩ <;> (first | exact (hf1.cell lbl nbl).trans c0 | exact (hf1.cell lbx nbx).trans x0 | exact (hf1.cell lbx nbx).trans x1 | exact (hf1.cell lbx nbx).trans x2 | exact (hf1.cell lbx nbx).trans x3)))
    (first | (go_at_call 105; refine HP.out.mono ?_; rintro e w1 ⟨rfl, G1, hH1, hf1, hg1⟩))
  replace hf1 := Fr.undrew hf1
  have HH1 := Lib.hid hH1; have Hf1 := Lib.hid hf1; have Hg1 := Lib.hid hg1
  have k1 := (hf1.cell (o := 1) (s := none) lbl nbl).trans c1
  have kx := (hf1.cell (o := 0) (s := none) lbx nbx).trans x0
  obtain ⟨es, c, hrun, hM1⟩ := run_updateU (P := Try.prog) Try.underlying80 Try.underlying30 (w := w1.drew) (UMap.fr (F := fun _ => False) (UMap.fr (F := fun b => False ∨ GH b) H3.out hf1 nbm) (Fr.drew (Fr.refl (fun _ => False) _)) (fun h => h)) (wW x) next
  have hcm : ∀ a, (setMap w1.drew bm es c).cell? a = w1.cell? a := by
    obtain ⟨l, c0, hb, _⟩ := UMap.fr (F := fun b => False ∨ GH b) H3.out hf1 nbm; exact fun a => setMap_cell (w := w1.drew) hb es c a
  have HM1 := Lib.hid hM1
  clear hH1 hf1 hg1 hM1 c0 c1 x0 x1 x2 x3
  go_wp2_with fail
  go_region_held3 (fun w' => w'.cell? ⟨bl, 1, none⟩ = some (.map (some bm)) ∧ w'.cell? ⟨bx, 0, none⟩ = some (.int .u32 (wW x))) (go_keep) (fail)
  go_wp2_with fail
  go_ret
  have hbd := HH1.out.bd
  have hW0 := F0.out.size
  have hs1 := Hf1.out.size
  have hWw : w.heap.size = bx := HW.out.symm
  have hbm := H0.out.bd bm H4.out
  have hlm : bm < w1.heap.size := by omega
  have n1 : ¬ G1 bl := fun h => by
    rcases Hg1.out _ h with h | h
    · exact (H5.out _ h).2.1 rfl
    · have e : (W.drew).heap.size = W.heap.size := rfl
      rw [e] at h; omega
  have n2 : ¬ G1 bm := fun h => by
    rcases Hg1.out _ h with h | h
    · exact (H5.out _ h).2.2 rfl
    · have e : (W.drew).heap.size = W.heap.size := rfl
      rw [e] at h; omega
  have fm : Fr (fun b => b = bm) w1 (setMap w1.drew bm es c) := Fr.setMap (F := fun b => b = bm) (b := bm) (Fr.drew (Fr.refl _ _)) (fun _ => rfl) _ _
  have nm : bl ≠ bm := by
    intro e
    obtain ⟨l, c, hb, _⟩ := H3.out
    have := H1.out
    rw [e, hb] at this; cases this
  have hG1 : ∀ b, G1 b → G b ∨ w.heap.size ≤ b := fun b hb => by
    rcases Hg1.out b hb with h | h
    · exact .inl (H5.out b h).1
    · right
      have e : (W.drew).heap.size = W.heap.size := rfl
      rw [e] at h; omega
  refine ⟨rfl, fun b => G b ∨ G1 b, pushF ltW L x next, ⟨⟨bh, bm, G1, ?_, HpW.fr HH1.out fm (fun b hb e => n2 (e ▸ hb)), HM1.out, .inl H4.out, ?_⟩, .inl H0.out.gl, ?_, push_heaped ltW_swo H0.out.he _, ?_, ?_, ?_⟩, pushF_perm _ _ _, ?_, ?_⟩
  · exact fm.get (Hf1.out.get H1.out nbl) nm
  · intro b hb
    exact ⟨.inr hb, fun e => n1 (e ▸ hb), fun e => n2 (e ▸ hb)⟩
  · rintro b (hb | hb)
    · have := H0.out.bd b hb
      rw [setMap_size]; show b < w1.heap.size; omega
    · have := hbd b hb
      rw [setMap_size]; exact this
  · intro y hy
    rcases List.mem_cons.1 ((pushF_perm L x next).mem_iff.1 hy) with rfl | hy
    · exact Ox.out
    · exact H0.out.ok y hy
  · rw [(pushF_perm L x next).length_eq, List.length_cons]; have := Hn.out; omega
  · refine lone_perm ((pushF_perm L x next).symm.map Prod.fst) ?_
    rw [List.map_cons]
    refine List.pairwise_cons.2 ⟨?_, H0.out.lone⟩
    intro y hy
    obtain ⟨z, hz, rfl⟩ := List.mem_map.1 hy
    exact fun e => Hl.out z hz e.symm
  · exact (Fr.trans (G := fun b => False ∨ GH b) (F0.out.mono (G := G) (fun _ _ h => h.elim)) Hf1.out (fun b _ h => Or.elim h False.elim (fun h => (H5.out b h).1))).trans fm (fun b _ e => e ▸ H4.out)
  · rintro b (hb | hb)
    · exact .inl hb
    · exact hG1 b hb
end
end Go.Proofs.Ytjfnaflbhmeokaa.Wt
