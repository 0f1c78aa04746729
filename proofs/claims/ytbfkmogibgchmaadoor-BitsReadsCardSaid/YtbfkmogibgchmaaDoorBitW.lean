/- Iterators of sets that aren't there. No condition. -/
import Derived.Test.YtbfkmogibgchmaaDoorBitV
namespace Go.Proofs.YtbfkmogibgchmaaDoor.Bt
open Go.RowKit Go.Shelf
attribute [local go_sem] Oper.semAt_some encG
set_option maxRecDepth 100000 in
theorem next_no {w : World} {p : Option Addr} (h : NoSet w p) (i : Int) : Calls Tryd.prog 18 #[.pointer p, .int .i64 i] w fun e w' => e = .returned (.int .i64 (-1)) ∧ w = w' := by
  have HC := Lib.hid (seek_no h i 0)
  clear h
  go_enter Tryd.func18, Tryd.ntmps18
  go_wp2_with fail
  refine HC.out.mono ?_
  rintro e w1 ⟨rfl, rfl⟩
  go_wp2_with fail
  go_ret
  exact ⟨rfl, rfl⟩
set_option maxRecDepth 100000 in
theorem free_no {w : World} {p : Option Addr} (h : NoSet w p) (i : Int) : Calls Tryd.prog 19 #[.pointer p, .int .i64 i] w fun e w' => e = .returned (.int .i64 (-1)) ∧ w = w' := by
  have HC := Lib.hid (seek_no h i 18446744073709551615)
  clear h
  go_enter Tryd.func19, Tryd.ntmps19
  go_wp2_with fail
  refine HC.out.mono ?_
  rintro e w1 ⟨rfl, rfl⟩
  go_wp2_with fail
  go_ret
  exact ⟨rfl, rfl⟩
set_option maxRecDepth 100000 in
theorem has_no {w : World} {p : Option Addr} (h : NoSet w p) (i : Int) : Calls Tryd.prog 20 #[.pointer p, .int .i64 i] w fun e w' => e = .returned (.bool false) ∧ w = w' := by
  have H := Lib.hid h
  clear h
  go_enter Tryd.func20, Tryd.ntmps20
  go_wp2_with fail
  refine (there_no H.out).mono ?_
  rintro e w1 ⟨rfl, rfl⟩
  go_wp2_with fail
  go_ret
  exact ⟨rfl, rfl⟩
set_option maxRecDepth 100000 in
theorem bound_no {w : World} {p : Option Addr} (h : NoSet w p) : Calls Tryd.prog 49 #[.pointer p] w fun e w' => e = .returned (.int .i64 0) ∧ w = w' := by
  have H := Lib.hid h
  clear h
  go_enter Tryd.func49, Tryd.ntmps49
  go_wp2_with fail
  refine (there_no H.out).mono ?_
  rintro e w1 ⟨rfl, rfl⟩
  go_wp2_with fail
  go_ret
  exact ⟨rfl, rfl⟩
set_option maxRecDepth 100000 in
theorem count_no {w : World} {p : Option Addr} (h : NoSet w p) : Calls Tryd.prog 39 #[.pointer p] w fun e w' => e = .returned (.int .i64 0) ∧ w = w' := by
  have H := Lib.hid h
  clear h
  go_enter Tryd.func39, Tryd.ntmps39
  go_wp2_with fail
  refine (there_no H.out).mono ?_
  rintro e w1 ⟨rfl, rfl⟩
  go_wp2_with fail
  go_ret
  exact ⟨rfl, rfl⟩
set_option maxRecDepth 100000 in
set_option maxHeartbeats 2000000 in
theorem all_stops0 (n : Nat) (_hn : 1 ≤ n) {w : World} {cb : Nat} (hc : w.heap[cb]? = some (.cells #[.pointer none] 24 (0, 0))) :
    SeqStopsK Fence.wide n Tryd.prog 45 #[.pointer (some ⟨cb, 0, none⟩)] (fun x : Nat => #[Value.int .i64 x]) (KeepsB (fun _ => False)) (fun ys => ys = []) (fun _ => False) 0 w := fun l J Jx W hW hJ _ hY h0 => by
  have hro : Fence.wide.round = none := rfl
  have hc' := (hW.block cb (World.block_lt_of_cell? _ _ ((cell_of hc 0).trans (show _ = some _ from rfl)))).trans hc
  have c0 : W.cell? ⟨cb, 0, none⟩ = some (.pointer none) := (cell_of hc' 0).trans rfl
  clear hc hW hc' hY
  refine callsIn_of_wp Tryd.func45 rfl trivial ?_ hro
  simp only [Tryd.ntmps45, List.size_toArray, List.length_cons, List.length_nil, Nat.reduceAdd, Nat.reduceSub, Array.replicate_succ, Array.replicate_zero, List.push_toArray, List.append_toArray, List.nil_append, List.cons_append]
  have Hnx := Lib.hid (next_no (w := W) (p := none) (.inl rfl) 0)
  gi_wp2_with (first
    | (refine ⟨trivial, ?_⟩; gi_at_call 18; refine (callsIn_wide.2 Hnx.out).mono ?_; rintro e w' ⟨rfl, rfl⟩))
  gi_loopw [3] (fun s3 wr => s3 = .int .i64 (-1) ∧ J [] wr) (fun _ _ => 0)
  case atStart => exact ⟨rfl, h0⟩
  case round =>
    obtain ⟨rfl, hJs⟩ := hrel
    gi_wp2
    go_end0
    exact ⟨⟨_, rfl⟩, .inl ⟨_, rfl, hJs⟩⟩
set_option maxRecDepth 100000 in
theorem all_no {w : World} {p : Option Addr} (h : NoSet w p) : Calls Tryd.prog 21 #[.pointer p] w fun e w' => ∃ cb, e = .returned (.func (.func 45) #[] #[.pointer (some ⟨cb, 0, none⟩)]) ∧ w'.heap[cb]? = some (.cells #[.pointer none] 24 (0, 0)) ∧ Fr (fun _ => False) w w' := by
  have HC := Lib.hid (copy_no h)
  clear h
  go_enter Tryd.func21, Tryd.ntmps21
  go_wp2_with fail
  refine HC.out.mono ?_
  rintro e w1 ⟨rfl, rfl⟩
  go_wp2_with fail
  go_ret
  exact ⟨w.heap.size, rfl, by rw [heap_alloc_get]; simp, Fr.alloc (Fr.refl _ _) _⟩
set_option maxRecDepth 100000 in
set_option maxHeartbeats 2000000 in
theorem gaps_stops0 (n : Nat) (_hn : 1 ≤ n) {w : World} {cb : Nat} (hc : w.heap[cb]? = some (.cells #[.pointer none] 24 (0, 0))) :
    SeqStopsK Fence.wide n Tryd.prog 46 #[.pointer (some ⟨cb, 0, none⟩)] encG (KeepsB (fun _ => False)) (fun ys => ys = []) (fun _ => False) 0 w := fun l J Jx W hW hJ _ hY h0 => by
  have hro : Fence.wide.round = none := rfl
  have hc' := (hW.block cb (World.block_lt_of_cell? _ _ ((cell_of hc 0).trans (show _ = some _ from rfl)))).trans hc
  have c0 : W.cell? ⟨cb, 0, none⟩ = some (.pointer none) := (cell_of hc' 0).trans rfl
  clear hc hW hc' hY
  refine callsIn_of_wp Tryd.func46 rfl trivial ?_ hro
  simp only [Tryd.ntmps46, List.size_toArray, List.length_cons, List.length_nil, Nat.reduceAdd, Nat.reduceSub, Array.replicate_succ, Array.replicate_zero, List.push_toArray, List.append_toArray, List.nil_append, List.cons_append]
  have Hnx := Lib.hid (free_no (w := W) (p := none) (.inl rfl) 0)
  gi_wp2_with (first
    | (refine ⟨trivial, ?_⟩; gi_at_call 19; refine (callsIn_wide.2 Hnx.out).mono ?_; rintro e w' ⟨rfl, rfl⟩))
  gi_loopw [3] (fun s3 wr => s3 = .int .i64 (-1) ∧ J [] wr) (fun _ _ => 0)
  case atStart => exact ⟨rfl, h0⟩
  case round =>
    obtain ⟨rfl, hJs⟩ := hrel
    gi_wp2
    go_end0
    exact ⟨⟨_, rfl⟩, .inl ⟨_, rfl, hJs⟩⟩
set_option maxRecDepth 100000 in
theorem gaps_no {w : World} {p : Option Addr} (h : NoSet w p) : Calls Tryd.prog 22 #[.pointer p] w fun e w' => ∃ cb, e = .returned (.func (.func 46) #[] #[.pointer (some ⟨cb, 0, none⟩)]) ∧ w'.heap[cb]? = some (.cells #[.pointer none] 24 (0, 0)) ∧ Fr (fun _ => False) w w' := by
  have HC := Lib.hid (copy_no h)
  clear h
  go_enter Tryd.func22, Tryd.ntmps22
  go_wp2_with fail
  refine HC.out.mono ?_
  rintro e w1 ⟨rfl, rfl⟩
  go_wp2_with fail
  go_ret
  exact ⟨w.heap.size, rfl, by rw [heap_alloc_get]; simp, Fr.alloc (Fr.refl _ _) _⟩
set_option maxRecDepth 100000 in
set_option maxHeartbeats 4000000 in
theorem told_no {w : World} {cb : Nat} (hc : w.heap[cb]? = some (.cells #[.pointer none] 24 (0, 0))) :
    Calls Tryd.prog 24 #[.func (.func 45) #[] #[.pointer (some ⟨cb, 0, none⟩)]] w fun e w' => e = .returned (.tuple #[.slice none 0 0, .bool true]) ∧ Fr (fun _ => False) w w' := by
  have hro : Fence.wide.round = none := rfl
  have h1 : 1 ≤ 3 := by omega
  have f0 : Fr (fun _ => False) w (w.alloc (.cells #[.slice none 0 0] 22)) := Fr.alloc (Fr.refl _ _) _
  have ht0 : (w.alloc (.cells #[.slice none 0 0] 22)).heap[w.heap.size]? = some (.cells #[.slice none 0 0] 22 (0, 0)) := by rw [heap_alloc_get]; simp
  have hs1 := f0.get hc (fun h => h)
  have q := fun w => run_eql_func_nil (P := Tryd.prog) Tryd.underlying41 w (.func 45) #[] #[.pointer (some ⟨cb, 0, none⟩)]
  have hsz : (w.alloc (.cells #[.slice none 0 0] 22)).heap.size = w.heap.size + 1 := by simp
  generalize hW : (w.alloc (.cells #[.slice none 0 0] 22)) = W1 at f0 ht0 hs1 hsz
  have Hsz := Lib.hid hsz; have F0 := Lib.hid f0; have HT0 := Lib.hid ht0; have HS1 := Lib.hid hs1
  clear hc hsz f0 ht0 hs1
  refine (callsIn_wide (n := 3)).1 (callsIn_of_wp_marks Tryd.func24 rfl trivial ?_ hro)
  refine wpIn_wide.2 ?_
  simp only [Tryd.ntmps24, List.size_toArray, List.length_cons, List.length_nil, Nat.reduceAdd, Nat.reduceSub, Array.replicate_succ, Array.replicate_zero, List.push_toArray, List.append_toArray, List.nil_append, List.cons_append]
  go_wp2_with fail
  clear hW
  refine (wpIn_wide (n := 3)).1 ?_
  refine wpIn_rangeFunc_ownG hro h1 (gf := 45) (lb := #[.pointer (some ⟨cb, 0, none⟩)]) rfl trivial (enters_of Tryd.func45 (by kernel_rfl) rfl)
    (all_stops0 (3 - 1) (by omega) HS1.out) KeepsB.trans (keepsB_b (fun b hb => hb.elim)) (Below.refl _ _) (fun _ => rfl)
    (fun _ W => W.heap[w.heap.size]? = some (.cells #[.slice none 0 0] 22 (0, 0)) ∧ Fr (fun b => w.heap.size ≤ b) W1 W)
    (fun _ _ _ => False)
    ?own ?ownx ⟨HT0.out, Fr.refl _ _⟩ ?a1 ?assign ?body ?done ?stop
  case own =>
    intro s A B' row hs hg hr
    have f := grownBy.fr hg
    refine ⟨f.get hs.1 ?_, hs.2.trans f ?_⟩
    · intro e
      obtain ⟨_, o, h1, h2⟩ := hr _ e
      rw [hs.1] at h1; cases h1; simp [Obj.isCells] at h2
    · intro i hi e; have := (hr _ e).1; have := Hsz.out; omega
  case ownx =>
    intro c s A B' row hs _ _
    exact hs
  case assign =>
    intro l x W' K hK
    gi_wp2
    exact hK
  case body =>
    rintro l pre x W' _ hlt
    exact absurd hlt (by simp)
  case done =>
    rintro D ys W' hD rfl ⟨ht, hfr⟩ hK
    have c4 := (cell_of ht 0).trans (show _ = some (Value.slice none 0 0) from rfl)
    have fD : Fr (fun b => b = D) W' (W'.putObj D (.deferred none)) := (grownBy.fr (grownBy_putObj' W' D (.deferred none))).mono (fun b _ e => by cases e; rfl)
    have hD1 : w.heap.size ≤ D := by have := Hsz.out; omega
    have Hfr := Lib.hid hfr; have HK := Lib.hid hK; have HD1 := Lib.hid hD1; have FD := Lib.hid fD
    clear hfr hK hD hD1 fD ht
    go_wp2_with fail
    refine ⟨by simp, .inl ⟨_, _, rfl, run_takeDeferred HK.out, ?_⟩⟩
    refine ⟨.tuple #[.slice none 0 0, .bool true], ?_, rfl, ?_⟩
    · simp [results, Tryd.f24, go_sem]
    · refine Fr.toNew ((F0.out.mono (fun _ _ h => h.elim)).trans (Hfr.out.trans (FD.out.mono (G := fun b => w.heap.size ≤ b) (fun b _ e => by subst e; exact HD1.out)) (fun _ _ h => h)) (fun b _ h => h))
  case stop =>
    rintro D c pre W' hD hpre h hK
    exact h.elim
set_option maxRecDepth 100000 in
set_option maxHeartbeats 4000000 in
theorem pairs_no {w : World} {cb : Nat} (hc : w.heap[cb]? = some (.cells #[.pointer none] 24 (0, 0))) :
    Calls Tryd.prog 25 #[.func (.func 46) #[] #[.pointer (some ⟨cb, 0, none⟩)]] w fun e w' => e = .returned (.tuple #[.slice none 0 0, .bool true]) ∧ Fr (fun _ => False) w w' := by
  have hro : Fence.wide.round = none := rfl
  have h1 : 1 ≤ 3 := by omega
  have f0 : Fr (fun _ => False) w (w.alloc (.cells #[.slice none 0 0] 22)) := Fr.alloc (Fr.refl _ _) _
  have ht0 : (w.alloc (.cells #[.slice none 0 0] 22)).heap[w.heap.size]? = some (.cells #[.slice none 0 0] 22 (0, 0)) := by rw [heap_alloc_get]; simp
  have hs1 := f0.get hc (fun h => h)
  have q := fun w => run_eql_func_nil (P := Tryd.prog) Tryd.underlying44 w (.func 46) #[] #[.pointer (some ⟨cb, 0, none⟩)]
  have hsz : (w.alloc (.cells #[.slice none 0 0] 22)).heap.size = w.heap.size + 1 := by simp
  generalize hW : (w.alloc (.cells #[.slice none 0 0] 22)) = W1 at f0 ht0 hs1 hsz
  have Hsz := Lib.hid hsz; have F0 := Lib.hid f0; have HT0 := Lib.hid ht0; have HS1 := Lib.hid hs1
  clear hc hsz f0 ht0 hs1
  refine (callsIn_wide (n := 3)).1 (callsIn_of_wp_marks Tryd.func25 rfl trivial ?_ hro)
  refine wpIn_wide.2 ?_
  simp only [Tryd.ntmps25, List.size_toArray, List.length_cons, List.length_nil, Nat.reduceAdd, Nat.reduceSub, Array.replicate_succ, Array.replicate_zero, List.push_toArray, List.append_toArray, List.nil_append, List.cons_append]
  go_wp2_with fail
  clear hW
  refine (wpIn_wide (n := 3)).1 ?_
  refine wpIn_rangeFunc_ownG hro h1 (gf := 46) (lb := #[.pointer (some ⟨cb, 0, none⟩)]) rfl trivial (enters_of Tryd.func46 (by kernel_rfl) rfl)
    (gaps_stops0 (3 - 1) (by omega) HS1.out) KeepsB.trans (keepsB_b (fun b hb => hb.elim)) (Below.refl _ _) (fun _ => rfl)
    (fun _ W => W.heap[w.heap.size]? = some (.cells #[.slice none 0 0] 22 (0, 0)) ∧ Fr (fun b => w.heap.size ≤ b) W1 W)
    (fun _ _ _ => False)
    ?own ?ownx ⟨HT0.out, Fr.refl _ _⟩ ?a1 ?assign ?body ?done ?stop
  case own =>
    intro s A B' row hs hg hr
    have f := grownBy.fr hg
    refine ⟨f.get hs.1 ?_, hs.2.trans f ?_⟩
    · intro e
      obtain ⟨_, o, h1, h2⟩ := hr _ e
      rw [hs.1] at h1; cases h1; simp [Obj.isCells] at h2
    · intro i hi e; have := (hr _ e).1; have := Hsz.out; omega
  case ownx =>
    intro c s A B' row hs _ _
    exact hs
  case assign =>
    intro l x W' K hK
    gi_wp2
    exact hK
  case body =>
    rintro l pre x W' _ hlt
    exact absurd hlt (by simp)
  case done =>
    rintro D ys W' hD rfl ⟨ht, hfr⟩ hK
    have c4 := (cell_of ht 0).trans (show _ = some (Value.slice none 0 0) from rfl)
    have fD : Fr (fun b => b = D) W' (W'.putObj D (.deferred none)) := (grownBy.fr (grownBy_putObj' W' D (.deferred none))).mono (fun b _ e => by cases e; rfl)
    have hD1 : w.heap.size ≤ D := by have := Hsz.out; omega
    have Hfr := Lib.hid hfr; have HK := Lib.hid hK; have HD1 := Lib.hid hD1; have FD := Lib.hid fD
    clear hfr hK hD hD1 fD ht
    go_wp2_with fail
    refine ⟨by simp, .inl ⟨_, _, rfl, run_takeDeferred HK.out, ?_⟩⟩
    refine ⟨.tuple #[.slice none 0 0, .bool true], ?_, rfl, ?_⟩
    · simp [results, Tryd.f25, go_sem]
    · refine Fr.toNew ((F0.out.mono (fun _ _ h => h.elim)).trans (Hfr.out.trans (FD.out.mono (G := fun b => w.heap.size ≤ b) (fun b _ e => by subst e; exact HD1.out)) (fun _ _ h => h)) (fun b _ h => h))
  case stop =>
    rintro D c pre W' hD hpre h hK
    exact h.elim
end Go.Proofs.YtbfkmogibgchmaaDoor.Bt
