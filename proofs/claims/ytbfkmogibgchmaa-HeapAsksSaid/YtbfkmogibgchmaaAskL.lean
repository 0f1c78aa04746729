/- HeapAsks: the walk. No condition. -/
import Derived.Test.YtbfkmogibgchmaaAsk
import Derived.Deep.CutBlock
import Derived.Deep.LoopGhost
namespace Go.Proofs.Ytbfkmogibgchmaa
open Go.RowKit
set_option maxRecDepth 100000 in
set_option maxHeartbeats 2000000 in
theorem asks_walk {v0 : Value} {K : Nat → Nat → Int} {n0 : Nat} (w : World) (h0 : IntsAt w v0 4 K n0) :
    Calls Try.prog 5 #[v0] w fun e w' => e = .returned (.bool true) ∧ Fr (fun _ => False) w w' := by
  have H0 := Lib.hid h0
  have hmm := @run_makeMap Try.prog
  clear h0
  go_enter Try.func5, Try.ntmps5
  go_wp2_with fail
  refine (awake_ok _).mono ?_
  rintro e w1 ⟨rfl, f1⟩
  have F1 := Lib.hid f1; clear f1
  go_wp2_with fail
  have hJ : AskJ w1.heap.size (w1.heap.size + 1 + 1) (w1.heap.size + 1) (fun _ => none) (((w1.alloc (Obj.cells #[Value.bool false] 4)).alloc (Obj.map #[] 0)).alloc (Obj.cells #[Value.map (some (w1.heap.size + 1))] 49)) := by
    refine ⟨?_, ?_, [], 0, ?_, by simp, fun _ => rfl⟩
    all_goals (simp only [heap_alloc_get, World.size_alloc]; first | (simp; done) | (simp; omega))
  have hfW : Fr (fun _ => False) w (((w1.alloc (Obj.cells #[Value.bool false] 4)).alloc (Obj.map #[] 0)).alloc (Obj.cells #[Value.map (some (w1.heap.size + 1))] 49)) := Fr.alloc (Fr.alloc (Fr.alloc F1.out _) _) _
  have hbo : w.heap.size ≤ w1.heap.size := F1.out.size
  clear F1
  generalize (((w1.alloc (Obj.cells #[Value.bool false] 4)).alloc (Obj.map #[] 0)).alloc (Obj.cells #[Value.map (some (w1.heap.size + 1))] 49)) = W at *
  generalize w1.heap.size = bo at *
  have HL := fun f => Lib.hid (ask_less bo (bo + 1 + 1) (bo + 1) f)
  have HJ := Lib.hid hJ; have HfW := Lib.hid hfW
  clear hJ hfW
  refine (new_ok (HL _).out HJ.out).mono ?_
  rintro e w2 ⟨bh, rfl, hbh, f2, G, h2, hG⟩
  have H2 := Lib.hid h2; have F2 := Lib.hid f2; have HG := Lib.hid hG
  clear h2 f2 hG
  go_wp2_with fail
  refine (few_ok _ _ H0.out).mono ?_
  rintro e w3 ⟨v1, rfl, hv1, rfl⟩
  obtain ⟨m, hm⟩ : ∃ m, m = min n0 300 := ⟨_, rfl⟩
  have hm300 : m ≤ 300 := by omega
  rw [← hm] at hv1
  clear hm
  obtain ⟨a1, c1, rfl, hmc, hcc, hops⟩ := id hv1
  have H1 := Lib.hid hv1
  clear hv1 hcc hops
  have HI : AskI w bo (bo + 1 + 1) (bo + 1) bh 0 0 w2 := by
    refine ⟨G, [], _, H2.out, by simp, by simp, by simp, by omega, ?_, ?_⟩
    · exact (HfW.out.mono (fun _ _ h => h.elim)).trans F2.out (fun _ _ h => h.elim)
    · intro b hb; have := HG.out b hb; have := HfW.out.size; omega
  have HI0 := Lib.hid HI
  clear HI H2 HJ HG hbh
  go_upto_block 0 with fail
  go_cut [7] (fun _ wx => ∃ (i : Nat) (next : Int), AskI w bo (bo + 1 + 1) (bo + 1) bh i next wx)
  case first =>
    go_wp2_with fail
    go_loopw [6, 7] (fun s6 s7 wr => ∃ (i : Nat) (next : Int), s7 = .int .i64 i ∧ s6 = .int .i64 next ∧ i ≤ m ∧ 0 ≤ next ∧ AskI w bo (bo + 1 + 1) (bo + 1) bh i next wr) (fun _ s7 _ => m - (intOf s7).toNat)
    case atStart => exact ⟨0, 0, rfl, rfl, by omega, by omega, HI0.out⟩
    case round =>
      obtain ⟨i, next, rfl, rfl, hi, hx, hI⟩ := hrel
      have HIr := Lib.hid hI
      have hI2 := hI
      obtain ⟨G', L, f, hh, h3, h4, h5, h6, h7, h8⟩ := hI2
      have c4 := cell_of hh.j.may 0
      simp at c4
      have Hh := Lib.hid hh; have Hnd := Lib.hid h3; have Hle := Lib.hid h4; have Hlen := Lib.hid h5; have Hnx := Lib.hid h6; have Hf := Lib.hid h7; have Hg := Lib.hid h8
      have hnx : next ≤ (i : Int) := h6
      have hIv := Lib.hid (H1.out.fr Hf.out (fun b hb h => by omega) (by omega))
      clear hI hh h3 h4 h5 h6 h7 h8
      by_cases hlt : i < m
      · have hlt' : (i : Int) < (m : Int) := by omega
        obtain ⟨a1', c1', e1, _, _, hor⟩ := hIv.out
        simp only [Value.slice.injEq] at e1
        obtain ⟨rfl, _, rfl⟩ := e1
        obtain ⟨b1, o1, rfl, hcell⟩ := hor.resolve_left (by omega)
        have k0 := (hcell i 0 hlt (by omega)).1
        have k2 := (hcell i 2 hlt (by omega)).1
        obtain ⟨kf1, kf2⟩ := (hcell i 2 hlt (by omega)).2
        have hHm := hmc
        simp only [Nat.add_zero] at k0
        obtain ⟨kd, hkd⟩ : ∃ x, x = K i 0 := ⟨_, rfl⟩
        obtain ⟨kn, hkn⟩ : ∃ x, x = K i 2 := ⟨_, rfl⟩
        rw [← hkd] at k0; rw [← hkn] at k2 kf1 kf2
        clear hcell hkd hkn hor hIv
        have i300 : (i : Int) ≤ 300 := by omega
        have hnext0 : 0 ≤ next := hx
        go_upto_block 1 with fail
        go_cut [6] (fun s6 wx => ∃ next' : Int, s6 = .int .i64 next' ∧ 0 ≤ next' ∧ AskI w bo (bo + 1 + 1) (bo + 1) bh (i + 1) next' wx)
        case first =>
          go_wp2_with fail
          refine (pick_ok kn (next + 1) _ kf1 kf2 (by omega) (by omega)).mono ?_
          rintro e w3 ⟨rfl, rfl⟩
          obtain ⟨n, hn⟩ : ∃ n, n = kn % (next + 1) := ⟨_, rfl⟩
          rw [← hn]
          clear hn kf1 kf2 k2 hHm
          have hGJ : Hid (∀ b, G' b → ¬ AskB bo (bo + 1 + 1) (bo + 1) b) := Hh.out.nj
          have nbo : ∀ b, AskB bo (bo + 1 + 1) (bo + 1) b → w.heap.size ≤ b := by rintro b (rfl | rfl | rfl) <;> omega
          have Nbo := Lib.hid nbo
          clear nbo
          rcases (by omega : kd = 1 ∨ kd = 2 ∨ kd = 3 ∨ kd = 4 ∨ (kd ≠ 1 ∧ kd ≠ 2 ∧ kd ≠ 3 ∧ kd ≠ 4)) with rfl | rfl | rfl | rfl | ⟨n1, n2, n3, n4⟩
          · -- push
            obtain ⟨es, c, hrun, hJn, hfn⟩ := ask_upd Hh.out.j (1 + i) 1
            have hMv := Hh.out.move (A' := fun x => updI f (1 + i) 1 x = some 1) hfn Hh.out.nj hJn (fun j hj => by
              have := Hle.out j hj
              unfold updI; rw [if_neg (by omega)]; exact Hh.out.all j hj)
            have HMv := Lib.hid hMv; have Hfn := Lib.hid hfn
            clear hMv hfn hJn
            go_wp2_with fail
            refine (push_room (HL _).out HMv.out (by have := Hlen.out; omega) (by omega) (v := 1 + i) (by unfold updI; rw [if_pos rfl])).mono ?_
            rintro e w4 ⟨rfl, G4, h4, f4, g4⟩
            have H4 := Lib.hid h4; have F4 := Lib.hid f4; have HG4 := Lib.hid g4
            clear h4 f4 g4
            go_wp2_with fail
            go_meet
            have hp : (pushF ltI L (1 + i) next).Perm (L ++ [((1 : Int) + i, next)]) := settleF_perm ltI (by simp)
            refine ⟨next + 1, rfl, by omega, G4, _, _, H4.out, ?_, ?_, ?_, by omega, ?_, ?_⟩
            · refine nodup_perm hp ?_
              rw [List.map_append, List.nodup_append]
              refine ⟨Hnd.out, by simp, ?_⟩
              intro x hx y hy e
              obtain ⟨z, hz, rfl⟩ := List.mem_map.1 hx
              obtain ⟨j, hj, ej⟩ := List.getElem_of_mem hz
              have := Hle.out j hj
              rw [itAt_get hj, ej] at this
              simp at hy; omega
            · exact all_perm hp (p := fun y => y.1 ≤ ((i + 1 : Nat) : Int)) (all_append (p := fun y => y.1 ≤ ((i + 1 : Nat) : Int)) (fun j hj => by have := Hle.out j hj; omega) (by show (1 : Int) + i ≤ _; omega))
            · rw [pushF_length]; have := Hlen.out; omega
            · refine (Hf.out.trans Hfn.out (fun b _ hb => Nbo.out b hb)).trans F4.out ?_
              rintro b _ (hb | hb)
              · exact Nbo.out b hb
              · exact Hg.out b hb
            · intro b hb
              rcases HG4.out b hb with hb | hb
              · exact Hg.out b hb
              · have := Hf.out.size; have := Hfn.out.size; omega
          · -- pop
            by_cases hl0 : L.length = 0
            · have hL0 : L = [] := List.eq_nil_of_length_eq_zero hl0
              subst hL0
              clear hl0
              go_wp2_with fail
              refine (pop_none (HL _).out Hh.out).mono ?_
              rintro e w4 ⟨rfl, rfl⟩
              go_wp2_with fail
              go_meet
              exact ⟨next, rfl, hnext0, G', [], f, Hh.out, Hnd.out, fun j hj => by simp at hj, by simp, by omega, Hf.out, Hg.out⟩
            · have hlp := Lib.hid (show 0 < L.length by omega)
              clear hl0
              go_wp2_with fail
              refine (pop_some (HL _).out Hh.out hlp.out).mono ?_
              rintro e w4 ⟨rfl, h4, f4⟩
              have H4 := Lib.hid h4; have F4 := Lib.hid f4
              obtain ⟨es, c, hrun, hJn, hfn⟩ := ask_upd h4.j (itAt L 0).1 0
              obtain ⟨old, hold⟩ : ∃ x, x = (itAt L 0).1 := ⟨_, rfl⟩
              have Hnt := Lib.hid (nodup_take ltI hlp.out Hnd.out)
              have hMv := h4.move (J' := AskJ bo (bo + 1 + 1) (bo + 1) (updI f old 0)) (A' := fun x => updI f old 0 x = some 1) hfn h4.nj (by rw [hold]; exact hJn) (fun j hj => by
                have h1 := Hnt.out.2 j hj
                unfold updI; rw [if_neg (by rw [hold]; exact h1)]; exact h4.all j hj)
              have d4 := cell_of h4.j.may 0
              simp at d4
              have HMv := Lib.hid hMv; have Hfn := Lib.hid hfn; have Hold := Lib.hid hold
              rw [← hold] at hrun ⊢
              clear hMv hfn hJn h4 f4 hold
              go_wp2_with fail
              go_meet
              refine ⟨next, rfl, hnext0, G', _, _, HMv.out, Hnt.out.1, ?_, ?_, by omega, ?_, Hg.out⟩
              · intro j hj
                have := takeF_sub (lt := ltI) hlp.out (p := fun y => y.1 ≤ (i : Int)) Hle.out j (by rw [takeF_length _ hlp.out] at hj; exact hj)
                omega
              · rw [takeF_length _ hlp.out]; have := Hlen.out; omega
              · refine (Hf.out.trans F4.out ?_).trans Hfn.out (fun b _ hb => Nbo.out b hb)
                rintro b _ (hb | hb)
                · exact Nbo.out b hb
                · exact Hg.out b hb
          · -- set
            by_cases hfd : ∃ j, j < L.length ∧ (itAt L j).2 = n
            · obtain ⟨j, hj, ej⟩ := hfd
              have Hj := Lib.hid hj; have Ej := Lib.hid ej
              have cg := get_there (HL _).out Hh.out hj
              rw [ej] at cg
              clear hj ej
              go_wp2_with fail
              refine cg.mono ?_
              rintro e w4 ⟨rfl, rfl⟩
              clear cg
              obtain ⟨old, hold⟩ : ∃ x, x = (itAt L j).1 := ⟨_, rfl⟩
              rw [← hold]
              have Hold := Lib.hid hold
              clear hold
              obtain ⟨es, c, hrun, hJn, hfn⟩ := ask_upd Hh.out.j (1 + i) 1
              have hMv := Hh.out.move (A' := fun x => updI f (1 + i) 1 x = some 1) hfn Hh.out.nj hJn (fun j hj => by
                have := Hle.out j hj
                unfold updI; rw [if_neg (by omega)]; exact Hh.out.all j hj)
              have HMv := Lib.hid hMv; have Hfn := Lib.hid hfn
              clear hMv hfn hJn
              go_wp2_with fail
              have cs := set_there (HL _).out HMv.out Hj.out (v := 1 + i) (by unfold updI; rw [if_pos rfl])
              rw [Ej.out] at cs
              refine cs.mono ?_
              rintro e w4 ⟨rfl, h4, f4⟩
              clear cs hrun
              have H4 := Lib.hid h4; have F4 := Lib.hid f4
              have hp : (setF ltI L j (1 + i)).Perm (L.set j (1 + i, (itAt L j).2)) := settleF_perm ltI (by simpa using Hj.out)
              have hnd : ((L.set j ((1 : Int) + i, (itAt L j).2)).map (·.1)).Nodup ∧ ∀ k, k < (L.set j ((1 : Int) + i, (itAt L j).2)).length → (itAt (L.set j ((1 : Int) + i, (itAt L j).2)) k).1 ≠ old := by
                constructor
                · rw [List.nodup_iff_pairwise_ne, List.pairwise_iff_getElem]
                  intro x y hx hy hxy
                  simp only [List.length_map, List.length_set] at hx hy
                  rw [List.getElem_map, List.getElem_map, List.getElem_set, List.getElem_set]
                  have l1 := Hle.out x hx; have l2 := Hle.out y hy
                  have e1 := itAt_get hx; have e2 := itAt_get hy
                  split
                  · split
                    · omega
                    · rw [← e2]; dsimp only; omega
                  · split
                    · rw [← e1]; dsimp only; omega
                    · rw [← e1, ← e2]; exact fst_ne Hnd.out hx hy (by omega)
                · intro k hk
                  simp only [List.length_set] at hk
                  rw [itAt_set _ _ _ _ Hj.out, Hold.out]
                  have l1 := Hle.out j Hj.out
                  split
                  · dsimp only; omega
                  · exact fst_ne Hnd.out hk Hj.out (by assumption)
              have Hnp := Lib.hid hp; have Hns := Lib.hid hnd
              clear hp hnd
              obtain ⟨es2, c2, hrun2, hJn2, hfn2⟩ := ask_upd h4.j old 0
              have hMv2 := h4.move (A' := fun x => updI (updI f (1 + i) 1) old 0 x = some 1) hfn2 h4.nj hJn2 (fun k hk => by
                have h1 := all_perm Hnp.out (p := fun y => y.1 ≠ old) Hns.out.2 k hk
                unfold updI at h1 ⊢; rw [if_neg h1]; exact h4.all k hk)
              have d4 := cell_of h4.j.may 0
              simp at d4
              have HMv2 := Lib.hid hMv2; have Hfn2 := Lib.hid hfn2
              clear hMv2 hfn2 hJn2 h4 f4
              go_wp2_with fail
              go_meet
              refine ⟨next, rfl, hnext0, G', _, _, HMv2.out, nodup_perm Hnp.out Hns.out.1, ?_, ?_, by omega, ?_, Hg.out⟩
              · refine all_perm Hnp.out (p := fun y => y.1 ≤ ((i + 1 : Nat) : Int)) ?_
                intro k hk
                simp only [List.length_set] at hk
                rw [itAt_set _ _ _ _ Hj.out]
                have := Hle.out k hk
                split
                · dsimp only; omega
                · omega
              · rw [setF_length _ Hj.out]; have := Hlen.out; omega
              · refine ((Hf.out.trans Hfn.out (fun b _ hb => Nbo.out b hb)).trans F4.out ?_).trans Hfn2.out (fun b _ hb => Nbo.out b hb)
                rintro b _ (hb | hb)
                · exact Nbo.out b hb
                · exact Hg.out b hb
            · have hgo : ∀ j, j < L.length → (itAt L j).2 ≠ n := fun j hj e => hfd ⟨j, hj, e⟩
              have Hgo := Lib.hid hgo
              clear hfd hgo
              go_wp2_with fail
              refine (get_gone (HL _).out Hh.out Hgo.out).mono ?_
              rintro e w4 ⟨rfl, rfl⟩
              obtain ⟨es, c, hrun, hJn, hfn⟩ := ask_upd Hh.out.j (1 + i) 1
              have hMv := Hh.out.move (A' := fun x => updI f (1 + i) 1 x = some 1) hfn Hh.out.nj hJn (fun j hj => by
                have := Hle.out j hj
                unfold updI; rw [if_neg (by omega)]; exact Hh.out.all j hj)
              have HMv := Lib.hid hMv; have Hfn := Lib.hid hfn
              clear hMv hfn hJn
              go_wp2_with fail
              refine (set_gone (HL _).out HMv.out Hgo.out (1 + i)).mono ?_
              rintro e w4 ⟨rfl, rfl⟩
              obtain ⟨es2, c2, hrun2, hJn2, hfn2⟩ := ask_upd HMv.out.j (1 + i) 0
              have hMv2 := HMv.out.move (A' := fun x => updI (updI f (1 + i) 1) (1 + i) 0 x = some 1) hfn2 HMv.out.nj hJn2 (fun j hj => by
                have := Hle.out j hj
                have h2 := HMv.out.all j hj
                unfold updI at h2 ⊢; rw [if_neg (by omega)]; exact h2)
              have d4 := cell_of HMv.out.j.may 0
              simp at d4
              have HMv2 := Lib.hid hMv2; have Hfn2 := Lib.hid hfn2
              clear hMv2 hfn2 hJn2
              go_wp2_with fail
              go_meet
              exact ⟨next, rfl, hnext0, G', _, _, HMv2.out, Hnd.out, fun j hj => by have := Hle.out j hj; omega, by have := Hlen.out; omega, by omega, (Hf.out.trans Hfn.out (fun b _ hb => Nbo.out b hb)).trans Hfn2.out (fun b _ hb => Nbo.out b hb), Hg.out⟩
          · -- drop
            by_cases hfd : ∃ j, j < L.length ∧ (itAt L j).2 = n
            · obtain ⟨j, hj, ej⟩ := hfd
              have Hj := Lib.hid hj; have Ej := Lib.hid ej
              have cg := get_there (HL _).out Hh.out hj
              rw [ej] at cg
              have cs := drop_there (HL _).out Hh.out hj
              rw [ej] at cs
              have Cg := Lib.hid cg; have Cs := Lib.hid cs
              clear hj ej cg cs
              obtain ⟨old, hold⟩ : ∃ x, x = (itAt L j).1 := ⟨_, rfl⟩
              have Hold := Lib.hid hold
              clear hold
              go_wp2_with fail
              refine Cg.out.mono ?_
              rintro e w4 ⟨rfl, rfl⟩
              rw [← Hold.out]
              go_wp2_with fail
              refine Cs.out.mono ?_
              rintro e w4 ⟨rfl, h4, f4⟩
              have H4 := Lib.hid h4; have F4 := Lib.hid f4
              obtain ⟨es, c, hrun, hJn, hfn⟩ := ask_upd h4.j old 0
              have Hnt := Lib.hid (nodup_take ltI Hj.out Hnd.out)
              have hMv := h4.move (A' := fun x => updI f old 0 x = some 1) hfn h4.nj hJn (fun k hk => by
                have h1 := Hnt.out.2 k hk
                unfold updI; rw [if_neg (by rw [Hold.out]; exact h1)]; exact h4.all k hk)
              have d4 := cell_of h4.j.may 0
              simp at d4
              have HMv := Lib.hid hMv; have Hfn := Lib.hid hfn
              clear hMv hfn hJn h4 f4
              go_wp2_with fail
              go_meet
              refine ⟨next, rfl, hnext0, G', _, _, HMv.out, Hnt.out.1, ?_, ?_, by omega, ?_, Hg.out⟩
              · intro k hk
                have := takeF_sub (lt := ltI) Hj.out (p := fun y => y.1 ≤ (i : Int)) Hle.out k (by rw [takeF_length _ Hj.out] at hk; exact hk)
                omega
              · rw [takeF_length _ Hj.out]; have := Hlen.out; omega
              · refine (Hf.out.trans F4.out ?_).trans Hfn.out (fun b _ hb => Nbo.out b hb)
                rintro b _ (hb | hb)
                · exact Nbo.out b hb
                · exact Hg.out b hb
            · have hgo : ∀ j, j < L.length → (itAt L j).2 ≠ n := fun j hj e => hfd ⟨j, hj, e⟩
              have Hgo := Lib.hid hgo
              clear hfd hgo
              go_wp2_with fail
              refine (get_gone (HL _).out Hh.out Hgo.out).mono ?_
              rintro e w4 ⟨rfl, rfl⟩
              go_wp2_with fail
              refine (drop_gone (HL _).out Hh.out Hgo.out).mono ?_
              rintro e w4 ⟨rfl, rfl⟩
              go_wp2_with fail
              go_meet
              exact ⟨next, rfl, hnext0, G', L, f, Hh.out, Hnd.out, fun j hj => by have := Hle.out j hj; omega, by have := Hlen.out; omega, by omega, Hf.out, Hg.out⟩
          · have q1 : (kd == 1) = false := by simpa using n1
            have q2 : (kd == 2) = false := by simpa using n2
            have q3 : (kd == 3) = false := by simpa using n3
            have q4 : (kd == 4) = false := by simpa using n4
            clear n1 n2 n3 n4
            go_wp2_with fail
            go_meet
            exact ⟨next, rfl, hnext0, G', L, f, Hh.out, Hnd.out, fun j hj => by have := Hle.out j hj; omega, by have := Hlen.out; omega, by omega, Hf.out, Hg.out⟩
        case rest =>
          obtain ⟨next', rfl, hx', hI'⟩ := hcut
          have HI' := Lib.hid hI'
          clear hI'
          go_wp2_with fail
          go_roundw
          case rel => exact ⟨i + 1, next', by go_num, rfl, by omega, hx', HI'.out⟩
          case measure => simp [intOf]; omega
      · obtain rfl : i = m := by omega
        clear hlt
        go_wp2_with fail
        go_meet
        exact ⟨_, _, HIr.out⟩
  case rest =>
    obtain ⟨i, next, hI⟩ := hcut
    obtain ⟨G', L, f, hh, h3, h4, h5, h6, h7, h8⟩ := hI
    have c0 := cell_of hh.j.odd 0
    simp at c0
    have Hf := Lib.hid h7
    clear hh h3 h4 h5 h6 h7 h8
    go_wp2_with fail
    go_ret
    exact ⟨rfl, Fr.toNew Hf.out⟩
end Go.Proofs.Ytbfkmogibgchmaa
