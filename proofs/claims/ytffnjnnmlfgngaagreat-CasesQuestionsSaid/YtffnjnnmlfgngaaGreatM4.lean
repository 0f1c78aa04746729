/- Texts put together: Which requests may be: requests.Check, cases.change: the record that a change would be, and what is asked of it, cases.Reply, cases.Decide: what a change comes to, cases.Answer: what a question is answered, cases.Decide of a change that may be, Records and replies held against one another, The law's. No condition. -/
import Derived.Laws.EntriesVeiled
import Derived.Shelf.Abstract
import Derived.Test.YtffnjnnmlfgngaaGreatProg
import Derived.Test.YtffnjnnmlfgngaaGreatM1
import Derived.Test.YtffnjnnmlfgngaaGreatM2
import Derived.Test.YtffnjnnmlfgngaaGreatM3
namespace Go.Proofs.YtffnjnnmlfgngaaGreat.Cs
open Go.RowKit Go.Shelf Go.Proofs.YtffnjnnmlfgngaaGreat.Bk
attribute [local go_sem] Oper.semAt_some
/-- v is a slice of these ints. -/
def IntsV (w : World) (v : Value) (L : List Int) : Prop := (v = .slice none 0 0 ∧ L = []) ∨ ∃ g, v = .slice (some ⟨g, 0, none⟩) L.length L.length ∧ w.heap[g]? = some (.cells (L.map (Value.int .i64)).toArray 3 (0, 0))
theorem IntsV.keep {w w' : World} {v : Value} {L : List Int} (h : IntsV w v L) (f : Fr (fun _ => False) w w') : IntsV w' v L := by
 rcases h with h | ⟨g, h1, h2⟩
 ·exact .inl h
 ·exact .inr ⟨g, h1, f.get h2 (fun h => h)⟩
theorem IntsV.slice {w : World} {v : Value} {L : List Int} (h : IntsV w v L) : ∃ a, v = .slice a L.length L.length := by
 rcases h with ⟨h, e⟩ | ⟨g, h1, h2⟩
 ·exact ⟨none, by rw [h, e]; rfl⟩
 ·exact ⟨_, h1⟩
theorem IntsV.cell {w : World} {v : Value} {L : List Int} (h : IntsV w v L) {i : Nat} (hi : i < L.length) : ∃ g, v = .slice (some ⟨g, 0, none⟩) L.length L.length ∧ w.cell? ⟨g, i, none⟩ = some (.int .i64 L[i]) := by
 rcases h with ⟨h, e⟩ | ⟨g, h1, h2⟩
 ·rw [e] at hi; simp at hi
 ·refine ⟨g, h1, (cell_of h2 i).trans ?_⟩
  simp [hi]
def IdxOf (w : World) (L : List Int) (x : Int) (e : Ending) (w' : World) : Prop := ∃ k : Int, e = .returned (.int .i64 k) ∧ (0 ≤ k ↔ x ∈ L) ∧ w = w'
set_option maxRecDepth 100000 in
set_option maxHeartbeats 2000000 in
theorem indexI_ok {w : World} {v : Value} {L : List Int} (h : IntsV w v L) (hn : L.length ≤ 1000) (x : Int) : Calls Tryz.prog 137 #[v, .int .i64 x] w (IdxOf w L x) := by
 obtain ⟨a, rfl⟩ := h.slice
 obtain ⟨n, hnn⟩ : ∃ n, n = L.length := ⟨_, rfl⟩
 rw [← hnn] at hn
 have H := Lib.hid h; have HN := Lib.hid hnn
 rw [← hnn] at h ⊢
 have hn' : (n : Int) ≤ 1000 := by omega
 clear h hnn
 go_enter Tryz.func137, Tryz.ntmps137
 go_wp2_with fail
 go_loopw [8] (fun s8 wr => ∃ i : Nat, s8 = .int .i64 (i : Int) ∧ i ≤ n ∧ (∀ j (h : j < L.length), j < i → L[j] ≠ x) ∧ w = wr) (fun s8 _ => n - (intOf s8).toNat)
 case atStart => exact ⟨0, rfl, Nat.zero_le _, fun j _ h => by omega, rfl⟩
 case round =>
  obtain ⟨i, rfl, hi, hno, rfl⟩ := hrel
  by_cases hlt : i < n
  ·have hlt' : (i : Int) < (n : Int) := by omega
   have i0 : (0 : Int) ≤ (i : Int) := by omega
   obtain ⟨g, e1, d0⟩ := H.out.cell (i := i) (by rw [← HN.out]; exact hlt)
   obtain ⟨y, hy⟩ : ∃ y, y = L[i]'(by rw [← HN.out]; exact hlt) := ⟨_, rfl⟩
   rw [← hy] at d0
   simp only [Value.slice.injEq] at e1
   obtain ⟨rfl, -, -⟩ := e1
   have HY := Lib.hid (show ∀ h : i < L.length, y = L[i] from fun _ => hy); have HNo := Lib.hid hno; have HLt := Lib.hid hlt
   clear hy hno hi hlt
   by_cases hf : x = y
   ·have b1 : (x == y) = true := by simpa using hf
    have HF := Lib.hid hf
    clear hf
    go_wp2_with fail
    go_ret
    exact ⟨(i : Int), rfl, ⟨fun _ => by rw [HF.out, HY.out (by rw [← HN.out]; exact HLt.out)]; exact List.getElem_mem _, fun _ => by omega⟩, rfl⟩
   ·have b1 : (x == y) = false := by simpa using hf
    have HF := Lib.hid hf
    clear hf
    obtain ⟨k1, hk1⟩ : ∃ k1, k1 = i + 1 := ⟨_, rfl⟩
    have e1 : (i : Int) + 1 = (k1 : Int) := by rw [hk1]; push_cast; rfl
    have e2 : wrap64 (k1 : Int) = (k1 : Int) := by clear d0; unfold wrap64; have := HLt.out; omega
    have e3 : IntKind.i64.wrap (k1 : Int) = (k1 : Int) := by clear d0; rw [IntKind.wrap_i64]; have := HLt.out; omega
    have HK := Lib.hid hk1
    clear hk1
    go_wp2_with fail
    go_roundw
    case rel => exact ⟨k1, rfl, by have := HK.out; have := HLt.out; omega, fun j h hj => by
     by_cases e : j = i
     ·subst e; rw [← HY.out h]; exact fun e => HF.out e.symm
     ·exact HNo.out j h (by have := HK.out; omega), by first | exact rfl | trivial⟩
    case measure => have := HK.out; have := HLt.out; simp [intOf]; omega
  ·have hlt' : ¬ (i : Int) < (n : Int) := by omega
   have HNo := Lib.hid (show x ∉ L from fun hm => by
    obtain ⟨j, hj, e⟩ := List.getElem_of_mem hm
    exact hno j hj (by have := HN.out; omega) e)
   clear hno hi hlt
   go_wp2_with fail
   go_ret
   exact ⟨(-1 : Int), rfl, ⟨fun h => by omega, fun h => absurd h HNo.out⟩, rfl⟩
set_option maxRecDepth 100000 in
theorem containsI_ok {w : World} {v : Value} {L : List Int} (h : IntsV w v L) (hn : L.length ≤ 1000) (x : Int) : Calls Tryz.prog 98 #[v, .int .i64 x] w fun e w' => e = .returned (.bool (decide (x ∈ L))) ∧ w = w' := by
 have HI := Lib.hid (indexI_ok h hn x)
 clear h
 go_enter Tryz.func98, Tryz.ntmps98
 go_wp2_with fail
 refine HI.out.mono ?_
 rintro e w1 ⟨k, rfl, hk, rfl⟩
 have hd : decide (0 ≤ k) = decide (x ∈ L) := decide_eq_decide.2 hk
 obtain ⟨t, ht⟩ : ∃ t, decide (x ∈ L) = t := ⟨_, rfl⟩
 rw [ht] at hd
 have HT := Lib.hid ht
 clear hk ht
 go_wp2_with fail
 go_ret
 exact ⟨by rw [HT.out]; rfl, rfl⟩
def fldsOf (k : Int) : List Int := if k = 1 then [1, 2] else if k = 2 ∨ k = 3 ∨ k = 5 then [0] else if k = 4 then [0, 1] else if k = 6 then [1] else if k = 7 then [2] else []
theorem fldsOf_len (k : Int) : (fldsOf k).length ≤ 1000 := by
 unfold fldsOf
 repeat' split
 all_goals simp
def OfK (w : World) (k : Int) (e : Ending) (w' : World) : Prop := ∃ v, e = .returned (.tuple #[v, .bool (decide (1 ≤ k ∧ k ≤ 10))]) ∧ IntsV w' v (fldsOf k) ∧ Fr (fun _ => False) w w'
theorem OfK.one {w : World} {k : Int} {L : List Int} {n : Nat} (hk : 1 ≤ k ∧ k ≤ 10) (hl : fldsOf k = L) (hn : L.length = n) : OfK w k (.returned (.tuple #[.slice (some ⟨w.heap.size, 0, none⟩) n n, .bool true])) (w.alloc (.cells (L.map (Value.int .i64)).toArray 3)) :=
 ⟨_, by rw [decide_eq_true hk], .inr ⟨w.heap.size, by rw [hl, hn], by rw [hl]; exact heap_alloc_at _ _⟩, Fr.alloc (Fr.refl _ _) _⟩
theorem OfK.none {w : World} {k : Int} {t : Bool} (hk : decide (1 ≤ k ∧ k ≤ 10) = t) (hl : fldsOf k = []) : OfK w k (.returned (.tuple #[.slice none 0 0, .bool t])) w :=
 ⟨_, by rw [hk], .inl ⟨rfl, hl⟩, Fr.refl _ _⟩
set_option maxRecDepth 100000 in
set_option maxHeartbeats 2000000 in
theorem ofk_ok (k : Int) (w : World) : Calls Tryz.prog 96 #[.int .i64 k] w (OfK w k) := by
 by_cases hk : 1 ≤ k ∧ k ≤ 10
 ·have hc : k = 1 ∨ k = 2 ∨ k = 3 ∨ k = 4 ∨ k = 5 ∨ k = 6 ∨ k = 7 ∨ k = 8 ∨ k = 9 ∨ k = 10 := by omega
  clear hk
  rcases hc with rfl | rfl | rfl | rfl | rfl | rfl | rfl | rfl | rfl | rfl
  ·go_enter Tryz.func96, Tryz.ntmps96
   go_wp2_with fail
   go_ret2
   exact OfK.one (L := [1, 2]) (by omega) rfl rfl
  ·go_enter Tryz.func96, Tryz.ntmps96
   go_wp2_with fail
   go_ret2
   exact OfK.one (L := [0]) (by omega) rfl rfl
  ·go_enter Tryz.func96, Tryz.ntmps96
   go_wp2_with fail
   go_ret2
   exact OfK.one (L := [0]) (by omega) rfl rfl
  ·go_enter Tryz.func96, Tryz.ntmps96
   go_wp2_with fail
   go_ret2
   exact OfK.one (L := [0, 1]) (by omega) rfl rfl
  ·go_enter Tryz.func96, Tryz.ntmps96
   go_wp2_with fail
   go_ret2
   exact OfK.one (L := [0]) (by omega) rfl rfl
  ·go_enter Tryz.func96, Tryz.ntmps96
   go_wp2_with fail
   go_ret2
   exact OfK.one (L := [1]) (by omega) rfl rfl
  ·go_enter Tryz.func96, Tryz.ntmps96
   go_wp2_with fail
   go_ret2
   exact OfK.one (L := [2]) (by omega) rfl rfl
  ·go_enter Tryz.func96, Tryz.ntmps96
   go_wp2_with fail
   go_ret2
   exact OfK.none rfl rfl
  ·go_enter Tryz.func96, Tryz.ntmps96
   go_wp2_with fail
   go_ret2
   exact OfK.none rfl rfl
  ·go_enter Tryz.func96, Tryz.ntmps96
   go_wp2_with fail
   go_ret2
   exact OfK.none rfl rfl
 ·have b1 : (k == 1) = false := by rw [beq_eq_false_iff_ne]; omega
  have b2 : (k == 2) = false := by rw [beq_eq_false_iff_ne]; omega
  have b3 : (k == 3) = false := by rw [beq_eq_false_iff_ne]; omega
  have b4 : (k == 4) = false := by rw [beq_eq_false_iff_ne]; omega
  have b5 : (k == 5) = false := by rw [beq_eq_false_iff_ne]; omega
  have b6 : (k == 6) = false := by rw [beq_eq_false_iff_ne]; omega
  have b7 : (k == 7) = false := by rw [beq_eq_false_iff_ne]; omega
  have b8 : (k == 8) = false := by rw [beq_eq_false_iff_ne]; omega
  have b9 : (k == 9) = false := by rw [beq_eq_false_iff_ne]; omega
  have b10 : (k == 10) = false := by rw [beq_eq_false_iff_ne]; omega
  have HO := Lib.hid (show OfK w k (.returned (.tuple #[.slice none 0 0, .bool false])) w from OfK.none (by simpa using hk) (by unfold fldsOf; repeat' rw [if_neg (by omega)]))
  clear hk
  go_enter Tryz.func96, Tryz.ntmps96
  go_wp2_with fail
  go_ret2
  exact HO.out
abbrev fldV : Value := .agg #[.func (.func 122) #[] #[], .func (.func 124) #[] #[], .func (.func 126) #[] #[], .func (.func 127) #[] #[], .func (.func 129) #[] #[], .func (.func 131) #[] #[], .func (.func 132) #[] #[], .func (.func 134) #[] #[], .func (.func 136) #[] #[]]
set_option maxRecDepth 100000 in
set_option maxHeartbeats 2000000 in
theorem fields_ok (w : World) : Calls Tryz.prog 97 #[] w fun e w' => e = .returned fldV ∧ Fr (fun _ => False) w w' := by
 go_enter Tryz.func97, Tryz.ntmps97
 go_wp2_with fail
 have hg := heap_alloc_at w (.cells #[.func (.func 122) #[] #[], .func (.func 124) #[] #[], .func (.func 126) #[] #[], .func (.func 127) #[] #[], .func (.func 129) #[] #[], .func (.func 131) #[] #[], .func (.func 132) #[] #[], .func (.func 134) #[] #[], .func (.func 136) #[] #[]] 182)
 have d0 := (cell_of hg 0).trans (show _ = some (Value.func (.func 122) #[] #[]) from rfl)
 have d1 := (cell_of hg 1).trans (show _ = some (Value.func (.func 124) #[] #[]) from rfl)
 have d2 := (cell_of hg 2).trans (show _ = some (Value.func (.func 126) #[] #[]) from rfl)
 have d3 := (cell_of hg 3).trans (show _ = some (Value.func (.func 127) #[] #[]) from rfl)
 have d4 := (cell_of hg 4).trans (show _ = some (Value.func (.func 129) #[] #[]) from rfl)
 have d5 := (cell_of hg 5).trans (show _ = some (Value.func (.func 131) #[] #[]) from rfl)
 have d6 := (cell_of hg 6).trans (show _ = some (Value.func (.func 132) #[] #[]) from rfl)
 have d7 := (cell_of hg 7).trans (show _ = some (Value.func (.func 134) #[] #[]) from rfl)
 have d8 := (cell_of hg 8).trans (show _ = some (Value.func (.func 136) #[] #[]) from rfl)
 refine bodyPost_ret (v := fldV) ?_ rfl ⟨rfl, Fr.alloc (Fr.refl _ _) _⟩
 simp [results, Tryz.f97, go_sem, d0, d1, d2, d3, d4, d5, d6, d7, d8]
set_option maxRecDepth 100000 in
set_option maxHeartbeats 2000000 in
theorem zid_ok (q : Rq) (t : Bool) (ht : ((q.id : Int) == 0) = t) (w : World) : Calls Tryz.prog 126 #[rqV q] w fun e w' => e = .returned (.bool t) ∧ Fr (fun _ => False) w w' := by
 obtain ⟨W, hW⟩ : ∃ W, W = w.alloc (rqC q) := ⟨_, rfl⟩
 obtain ⟨z, hz⟩ : ∃ z, z = w.heap.size := ⟨_, rfl⟩
 have f0 : Fr (fun _ => False) w W := by rw [hW]; exact Fr.alloc (Fr.refl _ _) _
 have hg : W.heap[z]? = some (rqO q) := by rw [hW, hz]; exact heap_alloc_at _ _
 have z0 := (cell_of hg 2).trans (show _ = some (Value.int .u32 (q.id : Int)) from rfl)
 have F0 := Lib.hid f0
 clear f0 hg
 go_enter Tryz.func126, Tryz.ntmps126
 go_upto_region 1 with fail
 rw [← hW, ← hz]
 clear hW hz
 go_wp2_with fail
 go_ret
 exact ⟨rfl, F0.out⟩
set_option maxRecDepth 100000 in
set_option maxHeartbeats 2000000 in
theorem zseat_ok (q : Rq) (t : Bool) (ht : (q.seat == 0) = t) (w : World) : Calls Tryz.prog 131 #[rqV q] w fun e w' => e = .returned (.bool t) ∧ Fr (fun _ => False) w w' := by
 obtain ⟨W, hW⟩ : ∃ W, W = w.alloc (rqC q) := ⟨_, rfl⟩
 obtain ⟨z, hz⟩ : ∃ z, z = w.heap.size := ⟨_, rfl⟩
 have f0 : Fr (fun _ => False) w W := by rw [hW]; exact Fr.alloc (Fr.refl _ _) _
 have hg : W.heap[z]? = some (rqO q) := by rw [hW, hz]; exact heap_alloc_at _ _
 have z0 := (cell_of hg 3).trans (show _ = some (Value.int .i64 q.seat) from rfl)
 have F0 := Lib.hid f0
 clear f0 hg
 go_enter Tryz.func131, Tryz.ntmps131
 go_upto_region 1 with fail
 rw [← hW, ← hz]
 clear hW hz
 go_wp2_with fail
 go_ret
 exact ⟨rfl, F0.out⟩
set_option maxRecDepth 100000 in
set_option maxHeartbeats 2000000 in
theorem zttl_ok (q : Rq) (t : Bool) (ht : (q.ttl == 0) = t) (w : World) : Calls Tryz.prog 136 #[rqV q] w fun e w' => e = .returned (.bool t) ∧ Fr (fun _ => False) w w' := by
 obtain ⟨W, hW⟩ : ∃ W, W = w.alloc (rqC q) := ⟨_, rfl⟩
 obtain ⟨z, hz⟩ : ∃ z, z = w.heap.size := ⟨_, rfl⟩
 have f0 : Fr (fun _ => False) w W := by rw [hW]; exact Fr.alloc (Fr.refl _ _) _
 have hg : W.heap[z]? = some (rqO q) := by rw [hW, hz]; exact heap_alloc_at _ _
 have z0 := (cell_of hg 4).trans (show _ = some (Value.int .i64 q.ttl) from rfl)
 have F0 := Lib.hid f0
 clear f0 hg
 go_enter Tryz.func136, Tryz.ntmps136
 go_upto_region 1 with fail
 rw [← hW, ← hz]
 clear hW hz
 go_wp2_with fail
 go_ret
 exact ⟨rfl, F0.out⟩
set_option maxRecDepth 100000 in
set_option maxHeartbeats 2000000 in
theorem rqcheck_ok (q : Rq) (w : World) : Calls Tryz.prog 60 #[rqV q] w fun e w' => e = .returned (.int .i64 (if rqOk q = true then 0 else 200)) ∧ Fr (fun _ => False) w w' := by
 obtain ⟨W, hW⟩ : ∃ W, W = w.alloc (rqC q) := ⟨_, rfl⟩
 obtain ⟨z, hz⟩ : ∃ z, z = w.heap.size := ⟨_, rfl⟩
 have f0 : Fr (fun _ => False) w W := by rw [hW]; exact Fr.alloc (Fr.refl _ _) _
 have hg : W.heap[z]? = some (rqO q) := by rw [hW, hz]; exact heap_alloc_at _ _
 have z0 := (cell_of hg 0).trans (show _ = some (Value.int .i64 q.kind) from rfl)
 have z1 := (cell_of hg 1).trans (show _ = some (Value.int .u32 (q.tag : Int)) from rfl)
 have z2 := (cell_of hg 2).trans (show _ = some (Value.int .u32 (q.id : Int)) from rfl)
 have z3 := (cell_of hg 3).trans (show _ = some (Value.int .i64 q.seat) from rfl)
 have z4 := (cell_of hg 4).trans (show _ = some (Value.int .i64 q.ttl) from rfl)
 have F0 := Lib.hid f0; have HG := Lib.hid hg
 clear f0 hg
 obtain ⟨E, hE⟩ : ∃ E : Int, E = (if rqOk q = true then 0 else 200) := ⟨_, rfl⟩
 rw [← hE]
 have HE := Lib.hid hE
 clear hE
 obtain ⟨tk, htk⟩ : ∃ t, decide (1 ≤ q.kind ∧ q.kind ≤ 10) = t := ⟨_, rfl⟩
 have HOf := Lib.hid (ofk_ok q.kind W)
 have HRq := Lib.hid (show rqOk q = ((tk && (decide (0 ≤ q.seat) && (decide (q.seat ≤ 65535) && decide (0 ≤ q.ttl)))) && ((hasId q.kind || decide (q.id = 0)) && ((hasSeat q.kind || decide (q.seat = 0)) && (hasTtl q.kind || decide (q.ttl = 0))))) by rw [← htk]; rfl)
 have HTk := Lib.hid htk
 clear htk
 obtain ⟨K, hK⟩ : ∃ K, K = q.kind := ⟨_, rfl⟩
 rw [← hK] at HOf
 go_enter Tryz.func60, Tryz.ntmps60
 go_upto_region 1 with fail
 rw [← hW, ← hz]
 clear hW hz
 rw [← hK] at z0
 have HKq := Lib.hid hK
 clear hK
 go_wp2_with fail
 refine HOf.out.mono ?_
 rintro e w1 ⟨hv, rfl, hI, f1⟩
 have hdk : decide (1 ≤ K ∧ K ≤ 10) = tk := by rw [HKq.out]; exact HTk.out
 rw [hdk]
 have HG1 := Lib.hid (f1.get HG.out (fun h => h)); have F1 := Lib.hid (F0.out.trans f1 (fun _ _ h => h)); have HI := Lib.hid hI
 clear f1 hI hdk z0 z1 z2 z3 z4
 have z0 := (cell_of HG1.out 0).trans (show _ = some (Value.int .i64 q.kind) from rfl)
 have z1 := (cell_of HG1.out 1).trans (show _ = some (Value.int .u32 (q.tag : Int)) from rfl)
 have z2 := (cell_of HG1.out 2).trans (show _ = some (Value.int .u32 (q.id : Int)) from rfl)
 have z3 := (cell_of HG1.out 3).trans (show _ = some (Value.int .i64 q.seat) from rfl)
 have z4 := (cell_of HG1.out 4).trans (show _ = some (Value.int .i64 q.ttl) from rfl)
 by_cases hb : (tk && (decide (0 ≤ q.seat) && (decide (q.seat ≤ 65535) && decide (0 ≤ q.ttl)))) = false
 ·have HB := Lib.hid (show rqOk q = false by rw [HRq.out, hb]; rfl)
  cases tk with
  | false =>
   clear hb
   go_wp2_with fail
   go_ret
   exact ⟨by rw [HE.out, HB.out]; rfl, F1.out⟩
  | true =>
   by_cases h1 : q.seat < 0
   ·have b1 : decide (q.seat < 0) = true := by simpa using h1
    clear hb h1
    go_wp2_with fail
    go_ret
    exact ⟨by rw [HE.out, HB.out]; rfl, F1.out⟩
   ·have b1 : decide (q.seat < 0) = false := by simpa using h1
    by_cases h2 : 65535 < q.seat
    ·have b2 : decide (65535 < q.seat) = true := by simpa using h2
     clear hb h1 h2
     go_wp2_with fail
     go_ret
     exact ⟨by rw [HE.out, HB.out]; rfl, F1.out⟩
    ·have b2 : decide (65535 < q.seat) = false := by simpa using h2
     have b3 : decide (q.ttl < 0) = true := by simp at hb ⊢; omega
     clear hb h1 h2
     go_wp2_with fail
     go_ret
     exact ⟨by rw [HE.out, HB.out]; rfl, F1.out⟩
 have hb' : tk = true ∧ 0 ≤ q.seat ∧ q.seat ≤ 65535 ∧ 0 ≤ q.ttl := by simpa using hb
 obtain ⟨rfl, q1, q2, q3⟩ := hb'
 have HRq2 := Lib.hid (show rqOk q = ((hasId q.kind || decide (q.id = 0)) && ((hasSeat q.kind || decide (q.seat = 0)) && (hasTtl q.kind || decide (q.ttl = 0)))) by
  rw [HRq.out, decide_eq_true q1, decide_eq_true q2, decide_eq_true q3]; rfl)
 have b1 : decide (q.seat < 0) = false := by simpa using q1
 have b2 : decide (65535 < q.seat) = false := by simpa using q2
 have b3 : decide (q.ttl < 0) = false := by simpa using q3
 clear hb q1 q2 q3 HRq
 obtain ⟨c0, hc0⟩ : ∃ c, hasId q.kind = c := ⟨_, rfl⟩
 obtain ⟨c1, hc1⟩ : ∃ c, hasSeat q.kind = c := ⟨_, rfl⟩
 obtain ⟨c2, hc2⟩ : ∃ c, hasTtl q.kind = c := ⟨_, rfl⟩
 obtain ⟨t0, ht0⟩ : ∃ t, ((q.id : Int) == 0) = t := ⟨_, rfl⟩
 obtain ⟨t1, ht1⟩ : ∃ t, (q.seat == 0) = t := ⟨_, rfl⟩
 obtain ⟨t2, ht2⟩ : ∃ t, (q.ttl == 0) = t := ⟨_, rfl⟩
 have HRq3 := Lib.hid (show rqOk q = ((c0 || t0) && ((c1 || t1) && (c2 || t2))) by
  rw [HRq2.out, hc0, hc1, hc2, show decide (q.id = 0) = t0 by rw [← ht0, Bool.eq_iff_iff]; simp, show decide (q.seat = 0) = t1 by rw [← ht1, Bool.eq_iff_iff]; simp, show decide (q.ttl = 0) = t2 by rw [← ht2, Bool.eq_iff_iff]; simp])
 have hm : 1 ≤ K ∧ K ≤ 10 := by have := HTk.out; rw [HKq.out]; simpa using this
 have HM0 := Lib.hid (show decide ((0 : Int) ∈ fldsOf K) = c0 by
  rw [← hc0, ← HKq.out]
  rcases (by omega : K = 1 ∨ K = 2 ∨ K = 3 ∨ K = 4 ∨ K = 5 ∨ K = 6 ∨ K = 7 ∨ K = 8 ∨ K = 9 ∨ K = 10) with h | h | h | h | h | h | h | h | h | h <;> rw [h] <;> decide)
 have HM1 := Lib.hid (show decide ((1 : Int) ∈ fldsOf K) = c1 by
  rw [← hc1, ← HKq.out]
  rcases (by omega : K = 1 ∨ K = 2 ∨ K = 3 ∨ K = 4 ∨ K = 5 ∨ K = 6 ∨ K = 7 ∨ K = 8 ∨ K = 9 ∨ K = 10) with h | h | h | h | h | h | h | h | h | h <;> rw [h] <;> decide)
 have HM2 := Lib.hid (show decide ((2 : Int) ∈ fldsOf K) = c2 by
  rw [← hc2, ← HKq.out]
  rcases (by omega : K = 1 ∨ K = 2 ∨ K = 3 ∨ K = 4 ∨ K = 5 ∨ K = 6 ∨ K = 7 ∨ K = 8 ∨ K = 9 ∨ K = 10) with h | h | h | h | h | h | h | h | h | h <;> rw [h] <;> decide)
 have HZ0 := Lib.hid (fun (W2 : World) => zid_ok q t0 ht0 W2)
 have HZ1 := Lib.hid (fun (W2 : World) => zseat_ok q t1 ht1 W2)
 have HZ2 := Lib.hid (fun (W2 : World) => zttl_ok q t2 ht2 W2)
 clear hc0 hc1 hc2 ht0 ht1 ht2 hm HRq2
 go_wp2_with fail
 refine (fields_ok w1).mono ?_
 rintro e w2 ⟨rfl, f2⟩
 have HG2 := Lib.hid (f2.get HG1.out (fun h => h)); have F2 := Lib.hid (F1.out.trans f2 (fun _ _ h => h)); have HI2 := Lib.hid (HI.out.keep f2)
 clear f2 z0 z1 z2 z3 z4 b1 b2 b3
 go_wp2_with fail
 go_loopw [31] (fun s31 wr => ∃ i : Nat, s31 = .int .i64 (i : Int) ∧ i ≤ 3 ∧ (0 < i → (c0 || t0) = true) ∧ (1 < i → (c1 || t1) = true) ∧ (2 < i → (c2 || t2) = true) ∧ Fr (fun _ => False) w2 wr) (fun s31 _ => 3 - (intOf s31).toNat)
 case atStart => exact ⟨0, rfl, Nat.zero_le _, fun h => by omega, fun h => by omega, fun h => by omega, Fr.refl _ _⟩
 case round =>
  obtain ⟨i, rfl, hi, j0, j1, j2, fr⟩ := hrel
  have J := Lib.hid (And.intro j0 (And.intro j1 j2)); have FRr := Lib.hid fr
  have HG3 := Lib.hid (fr.get HG2.out (fun h => h)); have HI3 := Lib.hid (HI2.out.keep fr)
  clear j0 j1 j2 fr
  rcases (by omega : i = 0 ∨ i = 1 ∨ i = 2 ∨ i = 3) with rfl | rfl | rfl | rfl
  ·clear hi
   obtain ⟨wB, hB⟩ : ∃ wB, wB = wr.alloc (.cells #[.func (.func 122) #[] #[], .func (.func 124) #[] #[], .func (.func 126) #[] #[]] 181) := ⟨_, rfl⟩
   obtain ⟨y, hy⟩ : ∃ y, y = wr.heap.size := ⟨_, rfl⟩
   have fB : Fr (fun _ => False) wr wB := by rw [hB]; exact Fr.alloc (Fr.refl _ _) _
   have gB : wB.heap[y]? = some (.cells #[.func (.func 122) #[] #[], .func (.func 124) #[] #[], .func (.func 126) #[] #[]] 181 (0, 0)) := by rw [hB, hy]; exact heap_alloc_at _ _
   have y2 := (cell_of gB 2).trans (show _ = some (Value.func (.func 126) #[] #[]) from rfl)
   have HG4 := Lib.hid (fB.get HG3.out (fun h => h)); have HI4 := Lib.hid (HI3.out.keep fB); have FB := Lib.hid (FRr.out.trans fB (fun _ _ h => h))
   clear fB gB
   have z0 := (cell_of HG4.out 0).trans (show _ = some (Value.int .i64 q.kind) from rfl)
   have z1 := (cell_of HG4.out 1).trans (show _ = some (Value.int .u32 (q.tag : Int)) from rfl)
   have z2 := (cell_of HG4.out 2).trans (show _ = some (Value.int .u32 (q.id : Int)) from rfl)
   have z3 := (cell_of HG4.out 3).trans (show _ = some (Value.int .i64 q.seat) from rfl)
   have z4 := (cell_of HG4.out 4).trans (show _ = some (Value.int .i64 q.ttl) from rfl)
   have xI : ∀ w : World, (Instr.index 182 fldV (.int .i64 0)).run Tryz.prog w = .ok (.agg #[.func (.func 122) #[] #[], .func (.func 124) #[] #[], .func (.func 126) #[] #[]]) w := fun _ => by kernel_rfl
   go_upto_region 7 with fail
   clear xI
   rw [← hB, ← hy]
   clear hB hy
   go_wp2_with fail
   refine (HZ0.out _).mono ?_
   rintro e w5 ⟨rfl, f5⟩
   have F5 := Lib.hid (FB.out.trans f5 (fun _ _ h => h)); have HI5 := Lib.hid (HI4.out.keep f5)
   clear f5 y2 z0 z1 z2 z3 z4
   cases t0 with
   | true =>
    go_wp2_with fail
    go_roundw
    case rel => exact ⟨1, rfl, by omega, fun _ => by simp , fun h => by omega, fun h => by omega, F5.out⟩
    case measure => simp [intOf]
   | false =>
    go_wp2_with fail
    refine (containsI_ok HI5.out (fldsOf_len _) 0).mono ?_
    rintro e w6 ⟨rfl, rfl⟩
    rw [HM0.out]
    cases c0 with
    | true =>
     go_wp2_with fail
     go_roundw
     case rel => exact ⟨1, rfl, by omega, fun _ => by simp , fun h => by omega, fun h => by omega, F5.out⟩
     case measure => simp [intOf]
    | false =>
     go_wp2_with fail
     go_ret
     exact ⟨by rw [HE.out, HRq3.out]; simp, F2.out.trans F5.out (fun _ _ h => h)⟩
  ·clear hi
   obtain ⟨wB, hB⟩ : ∃ wB, wB = wr.alloc (.cells #[.func (.func 127) #[] #[], .func (.func 129) #[] #[], .func (.func 131) #[] #[]] 181) := ⟨_, rfl⟩
   obtain ⟨y, hy⟩ : ∃ y, y = wr.heap.size := ⟨_, rfl⟩
   have fB : Fr (fun _ => False) wr wB := by rw [hB]; exact Fr.alloc (Fr.refl _ _) _
   have gB : wB.heap[y]? = some (.cells #[.func (.func 127) #[] #[], .func (.func 129) #[] #[], .func (.func 131) #[] #[]] 181 (0, 0)) := by rw [hB, hy]; exact heap_alloc_at _ _
   have y2 := (cell_of gB 2).trans (show _ = some (Value.func (.func 131) #[] #[]) from rfl)
   have HG4 := Lib.hid (fB.get HG3.out (fun h => h)); have HI4 := Lib.hid (HI3.out.keep fB); have FB := Lib.hid (FRr.out.trans fB (fun _ _ h => h))
   clear fB gB
   have z0 := (cell_of HG4.out 0).trans (show _ = some (Value.int .i64 q.kind) from rfl)
   have z1 := (cell_of HG4.out 1).trans (show _ = some (Value.int .u32 (q.tag : Int)) from rfl)
   have z2 := (cell_of HG4.out 2).trans (show _ = some (Value.int .u32 (q.id : Int)) from rfl)
   have z3 := (cell_of HG4.out 3).trans (show _ = some (Value.int .i64 q.seat) from rfl)
   have z4 := (cell_of HG4.out 4).trans (show _ = some (Value.int .i64 q.ttl) from rfl)
   have xI : ∀ w : World, (Instr.index 182 fldV (.int .i64 1)).run Tryz.prog w = .ok (.agg #[.func (.func 127) #[] #[], .func (.func 129) #[] #[], .func (.func 131) #[] #[]]) w := fun _ => by kernel_rfl
   go_upto_region 7 with fail
   clear xI
   rw [← hB, ← hy]
   clear hB hy
   go_wp2_with fail
   refine (HZ1.out _).mono ?_
   rintro e w5 ⟨rfl, f5⟩
   have F5 := Lib.hid (FB.out.trans f5 (fun _ _ h => h)); have HI5 := Lib.hid (HI4.out.keep f5)
   clear f5 y2 z0 z1 z2 z3 z4
   cases t1 with
   | true =>
    go_wp2_with fail
    go_roundw
    case rel => exact ⟨2, rfl, by omega, fun _ => J.out.1 (by omega), fun _ => by simp , fun h => by omega, F5.out⟩
    case measure => simp [intOf]
   | false =>
    go_wp2_with fail
    refine (containsI_ok HI5.out (fldsOf_len _) 1).mono ?_
    rintro e w6 ⟨rfl, rfl⟩
    rw [HM1.out]
    cases c1 with
    | true =>
     go_wp2_with fail
     go_roundw
     case rel => exact ⟨2, rfl, by omega, fun _ => J.out.1 (by omega), fun _ => by simp , fun h => by omega, F5.out⟩
     case measure => simp [intOf]
    | false =>
     go_wp2_with fail
     go_ret
     exact ⟨by rw [HE.out, HRq3.out]; simp, F2.out.trans F5.out (fun _ _ h => h)⟩
  ·clear hi
   obtain ⟨wB, hB⟩ : ∃ wB, wB = wr.alloc (.cells #[.func (.func 132) #[] #[], .func (.func 134) #[] #[], .func (.func 136) #[] #[]] 181) := ⟨_, rfl⟩
   obtain ⟨y, hy⟩ : ∃ y, y = wr.heap.size := ⟨_, rfl⟩
   have fB : Fr (fun _ => False) wr wB := by rw [hB]; exact Fr.alloc (Fr.refl _ _) _
   have gB : wB.heap[y]? = some (.cells #[.func (.func 132) #[] #[], .func (.func 134) #[] #[], .func (.func 136) #[] #[]] 181 (0, 0)) := by rw [hB, hy]; exact heap_alloc_at _ _
   have y2 := (cell_of gB 2).trans (show _ = some (Value.func (.func 136) #[] #[]) from rfl)
   have HG4 := Lib.hid (fB.get HG3.out (fun h => h)); have HI4 := Lib.hid (HI3.out.keep fB); have FB := Lib.hid (FRr.out.trans fB (fun _ _ h => h))
   clear fB gB
   have z0 := (cell_of HG4.out 0).trans (show _ = some (Value.int .i64 q.kind) from rfl)
   have z1 := (cell_of HG4.out 1).trans (show _ = some (Value.int .u32 (q.tag : Int)) from rfl)
   have z2 := (cell_of HG4.out 2).trans (show _ = some (Value.int .u32 (q.id : Int)) from rfl)
   have z3 := (cell_of HG4.out 3).trans (show _ = some (Value.int .i64 q.seat) from rfl)
   have z4 := (cell_of HG4.out 4).trans (show _ = some (Value.int .i64 q.ttl) from rfl)
   have xI : ∀ w : World, (Instr.index 182 fldV (.int .i64 2)).run Tryz.prog w = .ok (.agg #[.func (.func 132) #[] #[], .func (.func 134) #[] #[], .func (.func 136) #[] #[]]) w := fun _ => by kernel_rfl
   go_upto_region 7 with fail
   clear xI
   rw [← hB, ← hy]
   clear hB hy
   go_wp2_with fail
   refine (HZ2.out _).mono ?_
   rintro e w5 ⟨rfl, f5⟩
   have F5 := Lib.hid (FB.out.trans f5 (fun _ _ h => h)); have HI5 := Lib.hid (HI4.out.keep f5)
   clear f5 y2 z0 z1 z2 z3 z4
   cases t2 with
   | true =>
    go_wp2_with fail
    go_roundw
    case rel => exact ⟨3, rfl, by omega, fun _ => J.out.1 (by omega), fun _ => J.out.2.1 (by omega), fun _ => by simp , F5.out⟩
    case measure => simp [intOf]
   | false =>
    go_wp2_with fail
    refine (containsI_ok HI5.out (fldsOf_len _) 2).mono ?_
    rintro e w6 ⟨rfl, rfl⟩
    rw [HM2.out]
    cases c2 with
    | true =>
     go_wp2_with fail
     go_roundw
     case rel => exact ⟨3, rfl, by omega, fun _ => J.out.1 (by omega), fun _ => J.out.2.1 (by omega), fun _ => by simp , F5.out⟩
     case measure => simp [intOf]
    | false =>
     go_wp2_with fail
     go_ret
     exact ⟨by rw [HE.out, HRq3.out]; simp, F2.out.trans F5.out (fun _ _ h => h)⟩
  ·have HRq4 := Lib.hid (show rqOk q = true by rw [HRq3.out, J.out.1 (by omega), J.out.2.1 (by omega), J.out.2.2 (by omega)]; rfl)
   clear hi
   go_wp2_with fail
   go_ret
   exact ⟨by rw [HE.out, HRq4.out]; rfl, F2.out.trans FRr.out (fun _ _ h => h)⟩
end Go.Proofs.YtffnjnnmlfgngaaGreat.Cs
namespace Go.Proofs.YtffnjnnmlfgngaaGreat.Cs
open Go.RowKit Go.Shelf Go.Proofs.YtffnjnnmlfgngaaGreat.Bk
attribute [local go_sem] Oper.semAt_some
abbrev fnV (n : Nat) : Value := .func (.func n) #[] #[]
/-- v is a slice of these functions. -/
def RulesV (w : World) (v : Value) (L : List Nat) : Prop := (v = .slice none 0 0 ∧ L = []) ∨ ∃ g, v = .slice (some ⟨g, 0, none⟩) L.length L.length ∧ w.heap[g]? = some (.cells (L.map fnV).toArray 129 (0, 0))
theorem RulesV.keep {w w' : World} {v : Value} {L : List Nat} (h : RulesV w v L) {F : Nat → Prop} (f : Fr F w w') (hF : ∀ b, F b → w.heap.size ≤ b) : RulesV w' v L := by
 rcases h with h | ⟨g, h1, h2⟩
 ·exact .inl h
 ·exact .inr ⟨g, h1, f.get h2 (fun h => by have := hF g h; have := lt_of_block h2; omega)⟩
theorem RulesV.slice {w : World} {v : Value} {L : List Nat} (h : RulesV w v L) : ∃ a, v = .slice a L.length L.length := by
 rcases h with ⟨h, e⟩ | ⟨g, h1, h2⟩
 ·exact ⟨none, by rw [h, e]; rfl⟩
 ·exact ⟨_, h1⟩
theorem RulesV.cell {w : World} {v : Value} {L : List Nat} (h : RulesV w v L) {i : Nat} (hi : i < L.length) : ∃ g, v = .slice (some ⟨g, 0, none⟩) L.length L.length ∧ w.cell? ⟨g, i, none⟩ = some (fnV L[i]) := by
 rcases h with ⟨h, e⟩ | ⟨g, h1, h2⟩
 ·rw [e] at hi; simp at hi
 ·refine ⟨g, h1, (cell_of h2 i).trans ?_⟩
  simp [hi]
def rulesOf (k : Int) : List Nat := if k = 1 then [99, 100, 101, 102, 103, 104] else if k = 2 then [105, 104] else if k = 3 then [105, 104] else if k = 4 then [105, 99, 102, 104] else if k = 7 then [100, 101, 104] else []
def chRec (b : Bk) (q : Rq) : Rc := if isCh q.kind = true then recOf b q else rc0
def ChP (w : World) (b : Bk) (q : Rq) (e : Ending) (w' : World) : Prop := ∃ v, e = .returned (.tuple #[rcV (chRec b q), v, .bool (isCh q.kind)]) ∧ RulesV w' v (rulesOf q.kind) ∧ (∀ g, v.ownBlock = some g → w.heap.size ≤ g) ∧ Fr (fun _ => False) w w'
theorem ChP.drew {w w' : World} {b : Bk} {q : Rq} {e : Ending} (h : ChP w b q e w') : ChP w b q e w'.drew := by
 obtain ⟨v, h1, h2, h4, h3⟩ := h
 exact ⟨v, h1, h2.keep (Fr.drew (Fr.refl (fun _ => False) _)) (fun _ h => h.elim), h4, h3.drew⟩
theorem isCh_no {k : Int} (h : isCh k = false) : k ≠ 1 ∧ k ≠ 2 ∧ k ≠ 3 ∧ k ≠ 4 ∧ k ≠ 7 := by unfold isCh at h; simp at h; omega
abbrev rcZ : Obj := .cells #[.int .i64 0, .int .u32 0, .int .i64 0, .int .i64 0, .int .i64 0] 46
/-- A record is stored. -/
abbrev recW (w : World) (z : Nat) (k : Int) (i : Int) (s u c : Int) : World := ((((w.setCell ⟨z, 0, none⟩ (.int .i64 k)).setCell ⟨z, 1, none⟩ (.int .u32 i)).setCell ⟨z, 2, none⟩ (.int .i64 s)).setCell ⟨z, 3, none⟩ (.int .i64 u)).setCell ⟨z, 4, none⟩ (.int .i64 c)
theorem recW_at {w : World} {z : Nat} {a b c d e : Value} (h : w.heap[z]? = some (.cells #[a, b, c, d, e] 46 (0, 0))) (k i s u v : Int) : (recW w z k i s u v).heap[z]? = some (.cells #[.int .i64 k, .int .u32 i, .int .i64 s, .int .i64 u, .int .i64 v] 46 (0, 0)) :=
 setCell_blk (o := 4) (setCell_blk (o := 3) (setCell_blk (o := 2) (setCell_blk (o := 1) (setCell_blk (o := 0) h _) _) _) _) _
theorem recW_fr (w : World) (z : Nat) (k i s u v : Int) : Fr (fun b => b = z) w (recW w z k i s u v) :=
 (((((Fr.refl (fun b => b = z) w).setCell (p := ⟨z, 0, none⟩) (fun _ => rfl) _).setCell (p := ⟨z, 1, none⟩) (fun _ => rfl) _).setCell (p := ⟨z, 2, none⟩) (fun _ => rfl) _).setCell (p := ⟨z, 3, none⟩) (fun _ => rfl) _).setCell (p := ⟨z, 4, none⟩) (fun _ => rfl) _
/-- What holds behind the last region of a kind: in both orders. -/
theorem ch_end {w W : World} {z : Nat} (f : Fr (fun _ => False) w W) (hz : w.heap.size ≤ z) (hg : W.heap[z]? = some (.cells #[.int .i64 0, .int .u32 0, .int .i64 0, .int .i64 0, .int .i64 0] 46 (0, 0))) {b : Bk} {q : Rq} (hc : isCh q.kind = true) {L : List Nat} (hL : rulesOf q.kind = L) {n : Nat} (hn : L.length = n) {A : Array Value} (hA : (L.map fnV).toArray = A)
  {k i s u c : Int} (hr : rcV (recOf b q) = .agg #[.int .i64 k, .int .u32 i, .int .i64 s, .int .i64 u, .int .i64 c]) :
  (ChP w b q (.returned (.tuple #[.agg #[.int .i64 k, .int .u32 i, .int .i64 s, .int .i64 u, .int .i64 c], .slice (some ⟨W.heap.size, 0, none⟩) n n, .bool true])) (recW (W.alloc (.cells A 129)) z k i s u c) ∧
   (recW (W.alloc (.cells A 129)) z k i s u c).heap[z]? = some (.cells #[.int .i64 k, .int .u32 i, .int .i64 s, .int .i64 u, .int .i64 c] 46 (0, 0))) ∧
  (ChP w b q (.returned (.tuple #[.agg #[.int .i64 k, .int .u32 i, .int .i64 s, .int .i64 u, .int .i64 c], .slice (some ⟨(recW W z k i s u c).heap.size, 0, none⟩) n n, .bool true])) ((recW W z k i s u c).alloc (.cells A 129)) ∧
   ((recW W z k i s u c).alloc (.cells A 129)).heap[z]? = some (.cells #[.int .i64 k, .int .u32 i, .int .i64 s, .int .i64 u, .int .i64 c] 46 (0, 0))) := by
 subst hA
 have hzW := lt_of_block hg
 have e : chRec b q = recOf b q := if_pos hc
 constructor
 ·have fa : Fr (fun _ => False) W (W.alloc (.cells (L.map fnV).toArray 129)) := Fr.alloc (Fr.refl _ _) _
  have fr := recW_fr (W.alloc (.cells (L.map fnV).toArray 129)) z k i s u c
  refine ⟨⟨_, by rw [e, hr, hc], .inr ⟨W.heap.size, by rw [hL, hn], ?_⟩, (fun g hgo => by simp [Value.ownBlock] at hgo; have := f.size; omega), ?_⟩, recW_at (fa.get hg (fun h => h)) k i s u c⟩
  ·rw [hL]; exact fr.get (heap_alloc_at _ _) (by omega)
  ·exact (((f.trans fa (fun _ _ h => h)).mono (fun _ _ h => h.elim) : Fr (fun b => w.heap.size ≤ b) w _).trans fr (fun y _ e => by subst e; exact hz)).toNew
 ·have fr := recW_fr W z k i s u c
  have fa : Fr (fun _ => False) (recW W z k i s u c) ((recW W z k i s u c).alloc (.cells (L.map fnV).toArray 129)) := Fr.alloc (Fr.refl _ _) _
  refine ⟨⟨_, by rw [e, hr, hc], .inr ⟨(recW W z k i s u c).heap.size, by rw [hL, hn], ?_⟩, (fun g hgo => by simp [Value.ownBlock] at hgo; have := f.size; have := fr.size; omega), ?_⟩, fa.get (recW_at hg k i s u c) (fun h => h)⟩
  ·rw [hL]; exact heap_alloc_at _ _
  ·exact ((((f.mono (fun _ _ h => h.elim) : Fr (fun b => w.heap.size ≤ b) w W).trans fr (fun y _ e => by subst e; exact hz))).toNew).trans fa (fun _ _ h => h)
set_option maxRecDepth 100000 in
set_option maxHeartbeats 4000000 in
theorem change_1 {p : Pt} {bb : Nat} {b : Bk} {LD : List Bo} {w : World} (h : BkP p bb b.next b b.L LD w) (q : Rq) (hk : q.kind = 1) : Calls Tryz.prog 62 #[.pointer (some ⟨bb, 0, none⟩), rqV q] w (ChP w b q) := by
 obtain ⟨W, hW⟩ : ∃ W, W = (w.alloc (rqC q)).alloc rcZ := ⟨_, rfl⟩
 obtain ⟨z, hz⟩ : ∃ z, z = w.heap.size := ⟨_, rfl⟩
 have f0 : Fr (fun _ => False) w W := by rw [hW]; exact Fr.alloc (Fr.alloc (Fr.refl _ _) _) _
 have hg : W.heap[z]? = some (rqO q) := by rw [hW, hz]; simp only [heap_alloc_get, World.size_alloc]; simp
 have hg2 : W.heap[z + 1]? = some (.cells #[.int .i64 0, .int .u32 0, .int .i64 0, .int .i64 0, .int .i64 0] 46 (0, 0)) := by rw [hW, hz]; simp only [heap_alloc_get, World.size_alloc]; simp
 have z0 := (cell_of hg 0).trans (show _ = some (Value.int .i64 q.kind) from rfl)
 have z1 := (cell_of hg 1).trans (show _ = some (Value.int .u32 (q.tag : Int)) from rfl)
 have z2 := (cell_of hg 2).trans (show _ = some (Value.int .u32 (q.id : Int)) from rfl)
 have z3 := (cell_of hg 3).trans (show _ = some (Value.int .i64 q.seat) from rfl)
 have z4 := (cell_of hg 4).trans (show _ = some (Value.int .i64 q.ttl) from rfl)
 have u0 := (cell_of hg2 0).trans (show _ = some (Value.int .i64 0) from rfl)
 have y0 := free_of hg2 0
 have u1 := (cell_of hg2 1).trans (show _ = some (Value.int .u32 0) from rfl)
 have y1 := free_of hg2 1
 have u2 := (cell_of hg2 2).trans (show _ = some (Value.int .i64 0) from rfl)
 have y2 := free_of hg2 2
 have u3 := (cell_of hg2 3).trans (show _ = some (Value.int .i64 0) from rfl)
 have y3 := free_of hg2 3
 have u4 := (cell_of hg2 4).trans (show _ = some (Value.int .i64 0) from rfl)
 have y4 := free_of hg2 4
 have HSall := Lib.hid (fun (W2 : World) (f : Fr (fun _ => False) W W2) => (⟨f, (cell_of (f.get hg (fun h => h)) 4).trans rfl⟩ : Fr (fun _ => False) W W2 ∧ W2.cell? ⟨z, 4, none⟩ = some (.int .i64 q.ttl)))
 have HCl := Lib.hid (fun (W2 : World) (f : Fr (fun _ => False) W W2) => clock_ok ((h.keep f0).keep f))
 have HNx := Lib.hid (fun (W2 : World) (f : Fr (fun _ => False) W W2) => next_ok ((h.keep f0).keep f))
 have HNy := Lib.hid (fun (W2 : World) (f : Fr (fun y => y = z + 1) W W2) => next_ok ((h.keep f0).fr f (fun x hx e => by have := h.lt hx; omega)))
 obtain ⟨c, hc⟩ : ∃ c, wrap64 (b.clock + q.ttl) = c := ⟨_, rfl⟩
 have hc' : IntKind.i64.wrap (b.clock + q.ttl) = c := by rw [← hc, IntKind.wrap_i64]; unfold wrap64; omega
 obtain ⟨Wd, hWd⟩ : ∃ Wd, Wd = W.drew := ⟨_, rfl⟩
 have F1 := Lib.hid (show Fr (fun _ => False) w Wd by rw [hWd]; exact f0.drew)
 have HZ := Lib.hid (show w.heap.size ≤ z + 1 by omega)
 have HQ1 := Lib.hid (show isCh q.kind = true by rw [hk]; rfl)
 have HQ2 := Lib.hid (show rulesOf q.kind = [99, 100, 101, 102, 103, 104] by rw [hk]; rfl)
 have HQ3 := Lib.hid (show rcV (recOf b q) = .agg #[.int .i64 (1), .int .u32 ((b.next : Int)), .int .i64 (q.seat), .int .i64 (c), .int .i64 (0)] by unfold recOf; rw [hk]; simp [rcV, hc])
 have b1 : (q.kind == 1) = true := by rw [hk]; rfl
 have b2 : (q.kind == 2) = false := by rw [hk]; rfl
 have b3 : (q.kind == 3) = false := by rw [hk]; rfl
 have b4 : (q.kind == 4) = false := by rw [hk]; rfl
 have b7 : (q.kind == 7) = false := by rw [hk]; rfl
 clear h hk
 go_enter Tryz.func62, Tryz.ntmps62
 go_upto_region 1 with fail
 rw [← hW, ← hz]
 clear hW hz
 refine wp_region_held_drew (S := fun w' => Fr (fun _ => False) W w' ∧ w'.cell? ⟨z, 4, none⟩ = some (.int .i64 q.ttl)) (by kernel_rfl) (by exact HSall.out _ (Fr.drew (Fr.refl (fun _ => False) _))) (fun hHeld => ?_)
 refine wpAnyH_take (i := 0) (v := ?_) rfl (by kernel_rfl) (by kernel_rfl) (by kernel_rfl) (fun _ _ _ h => h) (Or.inl ⟨by rfl, ?_⟩) (by assumption) ?_
 rotate_left
 ·intro w' hSw; (try dsimp only at hSw); go_simp; try with_reducible rfl
 try simp only [Act.put, List.getElem_toArray, List.getElem_cons_zero, List.setIfInBounds_toArray, List.set_cons_zero, List.set_cons_succ]
 refine wpAnyH_take (i := 2) (v := ?_) rfl (by kernel_rfl) (by kernel_rfl) (by kernel_rfl) (fun _ _ _ h => h) (Or.inl ⟨by rfl, ?_⟩) (by assumption) ?_
 rotate_left
 ·intro w' hSw; (try dsimp only at hSw); go_simp; try with_reducible rfl
 try simp only [Act.put, sL]
 refine wpAnyH_take (i := 3) (v := ?_) rfl (by kernel_rfl) (by kernel_rfl) (by kernel_rfl) (fun _ _ _ h => h) (Or.inl ⟨by rfl, ?_⟩) (by assumption) ?_
 rotate_left
 ·intro w' hSw; (try dsimp only at hSw); go_simp; try with_reducible rfl
 try simp only [Act.put, sL]
 refine wpAnyH_ready (rs := [1]) (by kernel_rfl) (by simp) ?_
 refine AllReadyH.cons rfl (fun K hK => ?_) AllReadyH.nil
 go_simp
 refine (HCl.out _ hHeld.1).mono ?_
 rintro e w1x ⟨rfl, rfl⟩
 try go_simp
 refine hK.out _ _ ?_ (fun hHeld => ?_)
 ·(try dsimp only); exact hHeld
 clear hK K
 try simp only [Act.put, sL]
 refine wpAnyH_take (i := 4) (v := ?_) rfl (by kernel_rfl) (by kernel_rfl) (by kernel_rfl) (fun _ _ _ h => h) (Or.inl ⟨by rfl, ?_⟩) (by assumption) ?_
 rotate_left
 ·intro w' hSw; (try dsimp only at hSw); go_simp; try with_reducible rfl
 try simp only [Act.put, sL]
 refine wpAnyH_take (i := 5) (v := ?_) rfl (by kernel_rfl) (by kernel_rfl) (by kernel_rfl) (fun _ _ _ h => h) (Or.inl ⟨by rfl, ?_⟩) (by assumption) ?_
 rotate_left
 ·intro w' hSw; (try dsimp only at hSw); go_simp; try with_reducible rfl
 try simp only [Act.put, sL]
 refine wpAnyH_done (by kernel_rfl) ?_ _
 rw [← hWd]
 have hgd : Wd.heap[z]? = some (rqO q) := by rw [hWd]; exact hg
 have hgd2 : Wd.heap[z + 1]? = some (.cells #[.int .i64 0, .int .u32 0, .int .i64 0, .int .i64 0, .int .i64 0] 46 (0, 0)) := by rw [hWd]; exact hg2
 have FWd := Lib.hid (show Fr (fun _ => False) W Wd by rw [hWd]; exact Fr.drew (Fr.refl _ _))
 clear hWd hHeld hg hg2 f0
 have z0 := (cell_of hgd 0).trans (show _ = some (Value.int .i64 q.kind) from rfl)
 have z1 := (cell_of hgd 1).trans (show _ = some (Value.int .u32 (q.tag : Int)) from rfl)
 have z2 := (cell_of hgd 2).trans (show _ = some (Value.int .u32 (q.id : Int)) from rfl)
 have z3 := (cell_of hgd 3).trans (show _ = some (Value.int .i64 q.seat) from rfl)
 have z4 := (cell_of hgd 4).trans (show _ = some (Value.int .i64 q.ttl) from rfl)
 have u0 := (cell_of hgd2 0).trans (show _ = some (Value.int .i64 0) from rfl)
 have y0 := free_of hgd2 0
 have u1 := (cell_of hgd2 1).trans (show _ = some (Value.int .u32 0) from rfl)
 have y1 := free_of hgd2 1
 have u2 := (cell_of hgd2 2).trans (show _ = some (Value.int .i64 0) from rfl)
 have y2 := free_of hgd2 2
 have u3 := (cell_of hgd2 3).trans (show _ = some (Value.int .i64 0) from rfl)
 have y3 := free_of hgd2 3
 have u4 := (cell_of hgd2 4).trans (show _ = some (Value.int .i64 0) from rfl)
 have y4 := free_of hgd2 4
 have Hgd2 := Lib.hid hgd2; have Hgd := Lib.hid hgd
 have HSS := Lib.hid (fun (W2 : World) (f : Fr (fun y => y = z + 1) Wd W2) => (⟨f, (cell_of (f.get Hgd.out (by omega)) 3).trans rfl⟩ : Fr (fun y => y = z + 1) Wd W2 ∧ W2.cell? ⟨z, 3, none⟩ = some (.int .i64 q.seat)))
 have HNx2 := Lib.hid (fun (W2 : World) (f : Fr (fun y => y = z + 1) Wd W2) => HNy.out W2 (FWd.out.mono (fun _ _ h => h.elim) |>.trans f (fun _ _ h => h)))
 have hga := (Fr.alloc (Fr.refl (fun _ => False) Wd) (.cells #[.func (.func 99) #[] #[], .func (.func 100) #[] #[], .func (.func 101) #[] #[], .func (.func 102) #[] #[], .func (.func 103) #[] #[], .func (.func 104) #[] #[]] 129)).get hgd2 (fun h => h)
 have v0 := (cell_of hga 0).trans (show _ = some (Value.int .i64 0) from rfl)
 have vy0 := free_of hga 0
 have v1 := (cell_of hga 1).trans (show _ = some (Value.int .u32 0) from rfl)
 have vy1 := free_of hga 1
 have v2 := (cell_of hga 2).trans (show _ = some (Value.int .i64 0) from rfl)
 have vy2 := free_of hga 2
 have v3 := (cell_of hga 3).trans (show _ = some (Value.int .i64 0) from rfl)
 have vy3 := free_of hga 3
 have v4 := (cell_of hga 4).trans (show _ = some (Value.int .i64 0) from rfl)
 have vy4 := free_of hga 4
 clear hgd hgd2 hga
 go_upto_region 4 with fail
 refine wp_region_held_drew (S := fun w' => Fr (fun y => y = z + 1) Wd w' ∧ w'.cell? ⟨z, 3, none⟩ = some (.int .i64 q.seat)) (by kernel_rfl) (by exact HSS.out _ (Fr.drew (Fr.refl _ _))) (fun hHeld => ?_)
 refine wpAnyH_take (i := 0) (v := ?_) rfl (by kernel_rfl) (by kernel_rfl) (by kernel_rfl) (fun _ _ _ h => h) (Or.inl ⟨by rfl, ?_⟩) (by assumption) ?_
 rotate_left
 ·intro w' hSw; (try dsimp only at hSw); go_simp; try with_reducible rfl
 try simp only [Act.put, List.getElem_toArray, List.getElem_cons_zero, List.setIfInBounds_toArray, List.set_cons_zero, List.set_cons_succ]
 refine wpAnyH_take (i := 2) (v := ?_) rfl (by kernel_rfl) (by kernel_rfl) (by kernel_rfl) (fun _ _ _ h => h) (Or.inl ⟨by rfl, ?_⟩) (by assumption) ?_
 rotate_left
 ·intro w' hSw; (try dsimp only at hSw); go_simp; try with_reducible rfl
 try simp only [Act.put, sL]
 refine wpAnyH_take (i := 3) (v := ?_) rfl (by kernel_rfl) (by kernel_rfl) (by kernel_rfl) (fun _ _ _ h => h) (Or.inl ⟨by rfl, ?_⟩) (by assumption) ?_
 rotate_left
 ·intro w' hSw; (try dsimp only at hSw); go_simp; try with_reducible rfl
 try simp only [Act.put, sL]
 refine wpAnyH_take (i := 4) (v := ?_) rfl (by kernel_rfl) (by kernel_rfl) (by kernel_rfl) (fun _ _ _ h => h) (Or.inl ⟨by rfl, ?_⟩) (by assumption) ?_
 rotate_left
 ·intro w' hSw; (try dsimp only at hSw); go_simp; try with_reducible rfl
 try simp only [Act.put, sL]
 refine wpAnyH_ready (rs := [1, 6]) (by kernel_rfl) (by simp) ?_
 refine AllReadyH.cons rfl (fun K hK => ?_) (AllReadyH.cons rfl (fun K hK => ?_) AllReadyH.nil)
 ·go_simp
  refine (HNx2.out _ hHeld.1).mono ?_
  rintro e w1x ⟨rfl, rfl⟩
  try go_simp
  refine hK.out _ _ ?_ (fun hHeld => ?_)
  ·(try dsimp only); exact hHeld
  clear hK K
  try simp only [Act.put, sL]
  refine wpAnyH_take (i := 5) (v := ?_) rfl (by kernel_rfl) (by kernel_rfl) (by kernel_rfl) (fun _ _ _ h => h) (Or.inl ⟨by rfl, ?_⟩) (by assumption) ?_
  rotate_left
  ·intro w' hSw; (try dsimp only at hSw); go_simp; try with_reducible rfl
  try simp only [Act.put, sL]
  refine wpAnyH_ready (rs := [6, 7]) (by kernel_rfl) (by simp) ?_
  refine AllReadyH.cons rfl (fun K hK => ?_) (AllReadyH.cons rfl (fun K hK => ?_) AllReadyH.nil)
  ·go_simp
   skip
   try go_simp
   refine hK.out _ _ ?_ (fun hHeld => ?_)
   ·(try dsimp only); exact HSS.out _ (Fr.trans hHeld.1 (Fr.alloc (Fr.refl (fun _ => False) _) _) (fun _ _ h => h.elim))
   clear hK K
   try simp only [Act.put, sL]
   refine wpAnyH_ready (rs := [7]) (by kernel_rfl) (by simp) ?_
   refine AllReadyH.cons rfl (fun K hK => ?_) AllReadyH.nil
   go_simp
   skip
   try go_simp
   refine hK.out _ _ ?_ (fun hHeld => ?_)
   ·(try dsimp only); exact HSS.out _ (Fr.trans hHeld.1 (recW_fr _ _ _ _ _ _ _) (fun _ _ h => h))
   clear hK K
   try simp only [Act.put, sL]
   refine wpAnyH_take (i := 8) (v := ?_) rfl (by kernel_rfl) (by kernel_rfl) (by kernel_rfl) (fun _ _ _ h => h) (Or.inl ⟨by rfl, ?_⟩) (by assumption) ?_
   rotate_left
   ·intro w' hSw; (try dsimp only at hSw); go_simp; try with_reducible rfl
   try simp only [Act.put, sL]
   refine wpAnyH_take (i := 9) (v := ?_) rfl (by kernel_rfl) (by kernel_rfl) (by kernel_rfl) (fun _ _ _ h => h) (Or.inl ⟨by rfl, ?_⟩) (by assumption) ?_
   rotate_left
   ·intro w' hSw; (try dsimp only at hSw); go_simp; try with_reducible rfl
   try simp only [Act.put, sL]
   refine wpAnyH_done (by kernel_rfl) ?_ _
   have E1 := (ch_end F1.out HZ.out Hgd2.out HQ1.out HQ2.out (n := 6) rfl (A := #[.func (.func 99) #[] #[], .func (.func 100) #[] #[], .func (.func 101) #[] #[], .func (.func 102) #[] #[], .func (.func 103) #[] #[], .func (.func 104) #[] #[]]) rfl HQ3.out).1
   have HP := Lib.hid (ChP.drew E1.1)
   obtain ⟨Wf, hWf⟩ : ∃ Wf, Wf = recW (Wd.alloc (.cells #[.func (.func 99) #[] #[], .func (.func 100) #[] #[], .func (.func 101) #[] #[], .func (.func 102) #[] #[], .func (.func 103) #[] #[], .func (.func 104) #[] #[]] 129)) (z + 1) (1) ((b.next : Int)) (q.seat) (c) (0) := ⟨_, rfl⟩
   have gf : Wf.heap[z + 1]? = some (.cells #[.int .i64 (1), .int .u32 ((b.next : Int)), .int .i64 (q.seat), .int .i64 (c), .int .i64 (0)] 46 (0, 0)) := by rw [hWf]; exact E1.2
   have e0 := (cell_of gf 0).trans (show _ = some (Value.int .i64 (1)) from rfl)
   have e1 := (cell_of gf 1).trans (show _ = some (Value.int .u32 ((b.next : Int))) from rfl)
   have e2 := (cell_of gf 2).trans (show _ = some (Value.int .i64 (q.seat)) from rfl)
   have e3 := (cell_of gf 3).trans (show _ = some (Value.int .i64 (c)) from rfl)
   have e4 := (cell_of gf 4).trans (show _ = some (Value.int .i64 (0)) from rfl)
   rw [hWf] at e0 e1 e2 e3 e4
   have HEs := Lib.hid (And.intro e0 (And.intro e1 (And.intro e2 (And.intro e3 e4))))
   clear E1 gf hWf e0 e1 e2 e3 e4
   go_wp2_with fail
   refine bodyPost_ret ?_ rfl HP.out
   simp [results, Tryz.f62, go_sem, HEs.out.1, HEs.out.2.1, HEs.out.2.2.1, HEs.out.2.2.2.1, HEs.out.2.2.2.2]
  ·go_simp
   skip
   try go_simp
   refine hK.out _ _ ?_ (fun hHeld => ?_)
   ·(try dsimp only); exact HSS.out _ (Fr.trans hHeld.1 (recW_fr _ _ _ _ _ _ _) (fun _ _ h => h))
   clear hK K
   try simp only [Act.put, sL]
   refine wpAnyH_ready (rs := [6]) (by kernel_rfl) (by simp) ?_
   refine AllReadyH.cons rfl (fun K hK => ?_) AllReadyH.nil
   go_simp
   skip
   try go_simp
   refine hK.out _ _ ?_ (fun hHeld => ?_)
   ·(try dsimp only); exact HSS.out _ (Fr.trans hHeld.1 (Fr.alloc (Fr.refl (fun _ => False) _) _) (fun _ _ h => h.elim))
   clear hK K
   try simp only [Act.put, sL]
   refine wpAnyH_take (i := 8) (v := ?_) rfl (by kernel_rfl) (by kernel_rfl) (by kernel_rfl) (fun _ _ _ h => h) (Or.inl ⟨by rfl, ?_⟩) (by assumption) ?_
   rotate_left
   ·intro w' hSw; (try dsimp only at hSw); go_simp; try with_reducible rfl
   try simp only [Act.put, sL]
   refine wpAnyH_take (i := 9) (v := ?_) rfl (by kernel_rfl) (by kernel_rfl) (by kernel_rfl) (fun _ _ _ h => h) (Or.inl ⟨by rfl, ?_⟩) (by assumption) ?_
   rotate_left
   ·intro w' hSw; (try dsimp only at hSw); go_simp; try with_reducible rfl
   try simp only [Act.put, sL]
   refine wpAnyH_done (by kernel_rfl) ?_ _
   have E1 := (ch_end F1.out HZ.out Hgd2.out HQ1.out HQ2.out (n := 6) rfl (A := #[.func (.func 99) #[] #[], .func (.func 100) #[] #[], .func (.func 101) #[] #[], .func (.func 102) #[] #[], .func (.func 103) #[] #[], .func (.func 104) #[] #[]]) rfl HQ3.out).2
   have HP := Lib.hid (ChP.drew E1.1)
   obtain ⟨Wf, hWf⟩ : ∃ Wf, Wf = (recW Wd (z + 1) (1) ((b.next : Int)) (q.seat) (c) (0)).alloc (.cells #[.func (.func 99) #[] #[], .func (.func 100) #[] #[], .func (.func 101) #[] #[], .func (.func 102) #[] #[], .func (.func 103) #[] #[], .func (.func 104) #[] #[]] 129) := ⟨_, rfl⟩
   have gf : Wf.heap[z + 1]? = some (.cells #[.int .i64 (1), .int .u32 ((b.next : Int)), .int .i64 (q.seat), .int .i64 (c), .int .i64 (0)] 46 (0, 0)) := by rw [hWf]; exact E1.2
   have e0 := (cell_of gf 0).trans (show _ = some (Value.int .i64 (1)) from rfl)
   have e1 := (cell_of gf 1).trans (show _ = some (Value.int .u32 ((b.next : Int))) from rfl)
   have e2 := (cell_of gf 2).trans (show _ = some (Value.int .i64 (q.seat)) from rfl)
   have e3 := (cell_of gf 3).trans (show _ = some (Value.int .i64 (c)) from rfl)
   have e4 := (cell_of gf 4).trans (show _ = some (Value.int .i64 (0)) from rfl)
   rw [hWf] at e0 e1 e2 e3 e4
   have HEs := Lib.hid (And.intro e0 (And.intro e1 (And.intro e2 (And.intro e3 e4))))
   clear E1 gf hWf e0 e1 e2 e3 e4
   go_wp2_with fail
   refine bodyPost_ret ?_ rfl HP.out
   simp [results, Tryz.f62, go_sem, HEs.out.1, HEs.out.2.1, HEs.out.2.2.1, HEs.out.2.2.2.1, HEs.out.2.2.2.2]
 ·go_simp
  skip
  try go_simp
  refine hK.out _ _ ?_ (fun hHeld => ?_)
  ·(try dsimp only); exact HSS.out _ (Fr.trans hHeld.1 (Fr.alloc (Fr.refl (fun _ => False) _) _) (fun _ _ h => h.elim))
  clear hK K
  try simp only [Act.put, sL]
  refine wpAnyH_ready (rs := [1]) (by kernel_rfl) (by simp) ?_
  refine AllReadyH.cons rfl (fun K hK => ?_) AllReadyH.nil
  go_simp
  refine (HNx2.out _ hHeld.1).mono ?_
  rintro e w1x ⟨rfl, rfl⟩
  try go_simp
  refine hK.out _ _ ?_ (fun hHeld => ?_)
  ·(try dsimp only); exact hHeld
  clear hK K
  try simp only [Act.put, sL]
  refine wpAnyH_take (i := 5) (v := ?_) rfl (by kernel_rfl) (by kernel_rfl) (by kernel_rfl) (fun _ _ _ h => h) (Or.inl ⟨by rfl, ?_⟩) (by assumption) ?_
  rotate_left
  ·intro w' hSw; (try dsimp only at hSw); go_simp; try with_reducible rfl
  try simp only [Act.put, sL]
  refine wpAnyH_ready (rs := [7]) (by kernel_rfl) (by simp) ?_
  refine AllReadyH.cons rfl (fun K hK => ?_) AllReadyH.nil
  go_simp
  skip
  try go_simp
  refine hK.out _ _ ?_ (fun hHeld => ?_)
  ·(try dsimp only); exact HSS.out _ (Fr.trans hHeld.1 (recW_fr _ _ _ _ _ _ _) (fun _ _ h => h))
  clear hK K
  try simp only [Act.put, sL]
  refine wpAnyH_take (i := 8) (v := ?_) rfl (by kernel_rfl) (by kernel_rfl) (by kernel_rfl) (fun _ _ _ h => h) (Or.inl ⟨by rfl, ?_⟩) (by assumption) ?_
  rotate_left
  ·intro w' hSw; (try dsimp only at hSw); go_simp; try with_reducible rfl
  try simp only [Act.put, sL]
  refine wpAnyH_take (i := 9) (v := ?_) rfl (by kernel_rfl) (by kernel_rfl) (by kernel_rfl) (fun _ _ _ h => h) (Or.inl ⟨by rfl, ?_⟩) (by assumption) ?_
  rotate_left
  ·intro w' hSw; (try dsimp only at hSw); go_simp; try with_reducible rfl
  try simp only [Act.put, sL]
  refine wpAnyH_done (by kernel_rfl) ?_ _
  have E1 := (ch_end F1.out HZ.out Hgd2.out HQ1.out HQ2.out (n := 6) rfl (A := #[.func (.func 99) #[] #[], .func (.func 100) #[] #[], .func (.func 101) #[] #[], .func (.func 102) #[] #[], .func (.func 103) #[] #[], .func (.func 104) #[] #[]]) rfl HQ3.out).1
  have HP := Lib.hid (ChP.drew E1.1)
  obtain ⟨Wf, hWf⟩ : ∃ Wf, Wf = recW (Wd.alloc (.cells #[.func (.func 99) #[] #[], .func (.func 100) #[] #[], .func (.func 101) #[] #[], .func (.func 102) #[] #[], .func (.func 103) #[] #[], .func (.func 104) #[] #[]] 129)) (z + 1) (1) ((b.next : Int)) (q.seat) (c) (0) := ⟨_, rfl⟩
  have gf : Wf.heap[z + 1]? = some (.cells #[.int .i64 (1), .int .u32 ((b.next : Int)), .int .i64 (q.seat), .int .i64 (c), .int .i64 (0)] 46 (0, 0)) := by rw [hWf]; exact E1.2
  have e0 := (cell_of gf 0).trans (show _ = some (Value.int .i64 (1)) from rfl)
  have e1 := (cell_of gf 1).trans (show _ = some (Value.int .u32 ((b.next : Int))) from rfl)
  have e2 := (cell_of gf 2).trans (show _ = some (Value.int .i64 (q.seat)) from rfl)
  have e3 := (cell_of gf 3).trans (show _ = some (Value.int .i64 (c)) from rfl)
  have e4 := (cell_of gf 4).trans (show _ = some (Value.int .i64 (0)) from rfl)
  rw [hWf] at e0 e1 e2 e3 e4
  have HEs := Lib.hid (And.intro e0 (And.intro e1 (And.intro e2 (And.intro e3 e4))))
  clear E1 gf hWf e0 e1 e2 e3 e4
  go_wp2_with fail
  refine bodyPost_ret ?_ rfl HP.out
  simp [results, Tryz.f62, go_sem, HEs.out.1, HEs.out.2.1, HEs.out.2.2.1, HEs.out.2.2.2.1, HEs.out.2.2.2.2]
set_option maxRecDepth 100000 in
set_option maxHeartbeats 4000000 in
theorem change_2 {p : Pt} {bb : Nat} {b : Bk} {LD : List Bo} {w : World} (h : BkP p bb b.next b b.L LD w) (q : Rq) (hk : q.kind = 2) : Calls Tryz.prog 62 #[.pointer (some ⟨bb, 0, none⟩), rqV q] w (ChP w b q) := by
 obtain ⟨W, hW⟩ : ∃ W, W = (w.alloc (rqC q)).alloc rcZ := ⟨_, rfl⟩
 obtain ⟨z, hz⟩ : ∃ z, z = w.heap.size := ⟨_, rfl⟩
 have f0 : Fr (fun _ => False) w W := by rw [hW]; exact Fr.alloc (Fr.alloc (Fr.refl _ _) _) _
 have hg : W.heap[z]? = some (rqO q) := by rw [hW, hz]; simp only [heap_alloc_get, World.size_alloc]; simp
 have hg2 : W.heap[z + 1]? = some (.cells #[.int .i64 0, .int .u32 0, .int .i64 0, .int .i64 0, .int .i64 0] 46 (0, 0)) := by rw [hW, hz]; simp only [heap_alloc_get, World.size_alloc]; simp
 have z0 := (cell_of hg 0).trans (show _ = some (Value.int .i64 q.kind) from rfl)
 have z1 := (cell_of hg 1).trans (show _ = some (Value.int .u32 (q.tag : Int)) from rfl)
 have z2 := (cell_of hg 2).trans (show _ = some (Value.int .u32 (q.id : Int)) from rfl)
 have z3 := (cell_of hg 3).trans (show _ = some (Value.int .i64 q.seat) from rfl)
 have z4 := (cell_of hg 4).trans (show _ = some (Value.int .i64 q.ttl) from rfl)
 have u0 := (cell_of hg2 0).trans (show _ = some (Value.int .i64 0) from rfl)
 have y0 := free_of hg2 0
 have u1 := (cell_of hg2 1).trans (show _ = some (Value.int .u32 0) from rfl)
 have y1 := free_of hg2 1
 have u2 := (cell_of hg2 2).trans (show _ = some (Value.int .i64 0) from rfl)
 have y2 := free_of hg2 2
 have u3 := (cell_of hg2 3).trans (show _ = some (Value.int .i64 0) from rfl)
 have y3 := free_of hg2 3
 have u4 := (cell_of hg2 4).trans (show _ = some (Value.int .i64 0) from rfl)
 have y4 := free_of hg2 4
 have HSall := Lib.hid (fun (W2 : World) (f : Fr (fun _ => False) W W2) => (⟨f, (cell_of (f.get hg (fun h => h)) 4).trans rfl⟩ : Fr (fun _ => False) W W2 ∧ W2.cell? ⟨z, 4, none⟩ = some (.int .i64 q.ttl)))
 have HCl := Lib.hid (fun (W2 : World) (f : Fr (fun _ => False) W W2) => clock_ok ((h.keep f0).keep f))
 have HNx := Lib.hid (fun (W2 : World) (f : Fr (fun _ => False) W W2) => next_ok ((h.keep f0).keep f))
 have HNy := Lib.hid (fun (W2 : World) (f : Fr (fun y => y = z + 1) W W2) => next_ok ((h.keep f0).fr f (fun x hx e => by have := h.lt hx; omega)))
 obtain ⟨c, hc⟩ : ∃ c, wrap64 (b.clock + q.ttl) = c := ⟨_, rfl⟩
 have hc' : IntKind.i64.wrap (b.clock + q.ttl) = c := by rw [← hc, IntKind.wrap_i64]; unfold wrap64; omega
 obtain ⟨Wd, hWd⟩ : ∃ Wd, Wd = W.drew := ⟨_, rfl⟩
 have F1 := Lib.hid (show Fr (fun _ => False) w Wd by rw [hWd]; exact f0.drew)
 have HZ := Lib.hid (show w.heap.size ≤ z + 1 by omega)
 have HQ1 := Lib.hid (show isCh q.kind = true by rw [hk]; rfl)
 have HQ2 := Lib.hid (show rulesOf q.kind = [105, 104] by rw [hk]; rfl)
 have HQ3 := Lib.hid (show rcV (recOf b q) = .agg #[.int .i64 (2), .int .u32 ((q.id : Int)), .int .i64 (0), .int .i64 (0), .int .i64 (0)] by unfold recOf; rw [hk]; simp [rcV])
 have b1 : (q.kind == 1) = false := by rw [hk]; rfl
 have b2 : (q.kind == 2) = true := by rw [hk]; rfl
 have b3 : (q.kind == 3) = false := by rw [hk]; rfl
 have b4 : (q.kind == 4) = false := by rw [hk]; rfl
 have b7 : (q.kind == 7) = false := by rw [hk]; rfl
 clear h hk
 go_enter Tryz.func62, Tryz.ntmps62
 go_upto_region 1 with fail
 rw [← hW, ← hz]
 clear hW hz
 refine wp_region_held_drew (S := fun w' => Fr (fun _ => False) W w' ∧ w'.cell? ⟨z, 4, none⟩ = some (.int .i64 q.ttl)) (by kernel_rfl) (by exact HSall.out _ (Fr.drew (Fr.refl (fun _ => False) _))) (fun hHeld => ?_)
 refine wpAnyH_take (i := 0) (v := ?_) rfl (by kernel_rfl) (by kernel_rfl) (by kernel_rfl) (fun _ _ _ h => h) (Or.inl ⟨by rfl, ?_⟩) (by assumption) ?_
 rotate_left
 ·intro w' hSw; (try dsimp only at hSw); go_simp; try with_reducible rfl
 try simp only [Act.put, List.getElem_toArray, List.getElem_cons_zero, List.setIfInBounds_toArray, List.set_cons_zero, List.set_cons_succ]
 refine wpAnyH_take (i := 2) (v := ?_) rfl (by kernel_rfl) (by kernel_rfl) (by kernel_rfl) (fun _ _ _ h => h) (Or.inl ⟨by rfl, ?_⟩) (by assumption) ?_
 rotate_left
 ·intro w' hSw; (try dsimp only at hSw); go_simp; try with_reducible rfl
 try simp only [Act.put, sL]
 refine wpAnyH_take (i := 3) (v := ?_) rfl (by kernel_rfl) (by kernel_rfl) (by kernel_rfl) (fun _ _ _ h => h) (Or.inl ⟨by rfl, ?_⟩) (by assumption) ?_
 rotate_left
 ·intro w' hSw; (try dsimp only at hSw); go_simp; try with_reducible rfl
 try simp only [Act.put, sL]
 refine wpAnyH_ready (rs := [1]) (by kernel_rfl) (by simp) ?_
 refine AllReadyH.cons rfl (fun K hK => ?_) AllReadyH.nil
 go_simp
 refine (HCl.out _ hHeld.1).mono ?_
 rintro e w1x ⟨rfl, rfl⟩
 try go_simp
 refine hK.out _ _ ?_ (fun hHeld => ?_)
 ·(try dsimp only); exact hHeld
 clear hK K
 try simp only [Act.put, sL]
 refine wpAnyH_take (i := 4) (v := ?_) rfl (by kernel_rfl) (by kernel_rfl) (by kernel_rfl) (fun _ _ _ h => h) (Or.inl ⟨by rfl, ?_⟩) (by assumption) ?_
 rotate_left
 ·intro w' hSw; (try dsimp only at hSw); go_simp; try with_reducible rfl
 try simp only [Act.put, sL]
 refine wpAnyH_take (i := 5) (v := ?_) rfl (by kernel_rfl) (by kernel_rfl) (by kernel_rfl) (fun _ _ _ h => h) (Or.inl ⟨by rfl, ?_⟩) (by assumption) ?_
 rotate_left
 ·intro w' hSw; (try dsimp only at hSw); go_simp; try with_reducible rfl
 try simp only [Act.put, sL]
 refine wpAnyH_done (by kernel_rfl) ?_ _
 rw [← hWd]
 have hgd : Wd.heap[z]? = some (rqO q) := by rw [hWd]; exact hg
 have hgd2 : Wd.heap[z + 1]? = some (.cells #[.int .i64 0, .int .u32 0, .int .i64 0, .int .i64 0, .int .i64 0] 46 (0, 0)) := by rw [hWd]; exact hg2
 have FWd := Lib.hid (show Fr (fun _ => False) W Wd by rw [hWd]; exact Fr.drew (Fr.refl _ _))
 clear hWd hHeld hg hg2 f0
 have z0 := (cell_of hgd 0).trans (show _ = some (Value.int .i64 q.kind) from rfl)
 have z1 := (cell_of hgd 1).trans (show _ = some (Value.int .u32 (q.tag : Int)) from rfl)
 have z2 := (cell_of hgd 2).trans (show _ = some (Value.int .u32 (q.id : Int)) from rfl)
 have z3 := (cell_of hgd 3).trans (show _ = some (Value.int .i64 q.seat) from rfl)
 have z4 := (cell_of hgd 4).trans (show _ = some (Value.int .i64 q.ttl) from rfl)
 have u0 := (cell_of hgd2 0).trans (show _ = some (Value.int .i64 0) from rfl)
 have y0 := free_of hgd2 0
 have u1 := (cell_of hgd2 1).trans (show _ = some (Value.int .u32 0) from rfl)
 have y1 := free_of hgd2 1
 have u2 := (cell_of hgd2 2).trans (show _ = some (Value.int .i64 0) from rfl)
 have y2 := free_of hgd2 2
 have u3 := (cell_of hgd2 3).trans (show _ = some (Value.int .i64 0) from rfl)
 have y3 := free_of hgd2 3
 have u4 := (cell_of hgd2 4).trans (show _ = some (Value.int .i64 0) from rfl)
 have y4 := free_of hgd2 4
 have E1 := (ch_end F1.out HZ.out hgd2 HQ1.out HQ2.out (n := 2) rfl (A := #[.func (.func 105) #[] #[], .func (.func 104) #[] #[]]) rfl HQ3.out).1
 have HP := Lib.hid E1.1
 obtain ⟨Wf, hWf⟩ : ∃ Wf, Wf = recW (Wd.alloc (.cells #[.func (.func 105) #[] #[], .func (.func 104) #[] #[]] 129)) (z + 1) (2) ((q.id : Int)) (0) (0) (0) := ⟨_, rfl⟩
 have gf : Wf.heap[z + 1]? = some (.cells #[.int .i64 (2), .int .u32 ((q.id : Int)), .int .i64 (0), .int .i64 (0), .int .i64 (0)] 46 (0, 0)) := by rw [hWf]; exact E1.2
 have e0 := (cell_of gf 0).trans (show _ = some (Value.int .i64 (2)) from rfl)
 have e1 := (cell_of gf 1).trans (show _ = some (Value.int .u32 ((q.id : Int))) from rfl)
 have e2 := (cell_of gf 2).trans (show _ = some (Value.int .i64 (0)) from rfl)
 have e3 := (cell_of gf 3).trans (show _ = some (Value.int .i64 (0)) from rfl)
 have e4 := (cell_of gf 4).trans (show _ = some (Value.int .i64 (0)) from rfl)
 have hga := (Fr.alloc (Fr.refl (fun _ => False) Wd) (.cells #[.func (.func 105) #[] #[], .func (.func 104) #[] #[]] 129)).get hgd2 (fun h => h)
 have v0 := (cell_of hga 0).trans (show _ = some (Value.int .i64 0) from rfl)
 have vy0 := free_of hga 0
 have v1 := (cell_of hga 1).trans (show _ = some (Value.int .u32 0) from rfl)
 have vy1 := free_of hga 1
 have v2 := (cell_of hga 2).trans (show _ = some (Value.int .i64 0) from rfl)
 have vy2 := free_of hga 2
 have v3 := (cell_of hga 3).trans (show _ = some (Value.int .i64 0) from rfl)
 have vy3 := free_of hga 3
 have v4 := (cell_of hga 4).trans (show _ = some (Value.int .i64 0) from rfl)
 have vy4 := free_of hga 4
 clear hga
 rw [hWf] at e0 e1 e2 e3 e4
 have HEs := Lib.hid (And.intro e0 (And.intro e1 (And.intro e2 (And.intro e3 e4))))
 clear hgd hgd2 E1 gf hWf e0 e1 e2 e3 e4 hc hc' z1 z4
 go_wp2_with fail
 refine bodyPost_ret ?_ rfl HP.out
 simp [results, Tryz.f62, go_sem, HEs.out.1, HEs.out.2.1, HEs.out.2.2.1, HEs.out.2.2.2.1, HEs.out.2.2.2.2]
set_option maxRecDepth 100000 in
set_option maxHeartbeats 4000000 in
theorem change_3 {p : Pt} {bb : Nat} {b : Bk} {LD : List Bo} {w : World} (h : BkP p bb b.next b b.L LD w) (q : Rq) (hk : q.kind = 3) : Calls Tryz.prog 62 #[.pointer (some ⟨bb, 0, none⟩), rqV q] w (ChP w b q) := by
 obtain ⟨W, hW⟩ : ∃ W, W = (w.alloc (rqC q)).alloc rcZ := ⟨_, rfl⟩
 obtain ⟨z, hz⟩ : ∃ z, z = w.heap.size := ⟨_, rfl⟩
 have f0 : Fr (fun _ => False) w W := by rw [hW]; exact Fr.alloc (Fr.alloc (Fr.refl _ _) _) _
 have hg : W.heap[z]? = some (rqO q) := by rw [hW, hz]; simp only [heap_alloc_get, World.size_alloc]; simp
 have hg2 : W.heap[z + 1]? = some (.cells #[.int .i64 0, .int .u32 0, .int .i64 0, .int .i64 0, .int .i64 0] 46 (0, 0)) := by rw [hW, hz]; simp only [heap_alloc_get, World.size_alloc]; simp
 have z0 := (cell_of hg 0).trans (show _ = some (Value.int .i64 q.kind) from rfl)
 have z1 := (cell_of hg 1).trans (show _ = some (Value.int .u32 (q.tag : Int)) from rfl)
 have z2 := (cell_of hg 2).trans (show _ = some (Value.int .u32 (q.id : Int)) from rfl)
 have z3 := (cell_of hg 3).trans (show _ = some (Value.int .i64 q.seat) from rfl)
 have z4 := (cell_of hg 4).trans (show _ = some (Value.int .i64 q.ttl) from rfl)
 have u0 := (cell_of hg2 0).trans (show _ = some (Value.int .i64 0) from rfl)
 have y0 := free_of hg2 0
 have u1 := (cell_of hg2 1).trans (show _ = some (Value.int .u32 0) from rfl)
 have y1 := free_of hg2 1
 have u2 := (cell_of hg2 2).trans (show _ = some (Value.int .i64 0) from rfl)
 have y2 := free_of hg2 2
 have u3 := (cell_of hg2 3).trans (show _ = some (Value.int .i64 0) from rfl)
 have y3 := free_of hg2 3
 have u4 := (cell_of hg2 4).trans (show _ = some (Value.int .i64 0) from rfl)
 have y4 := free_of hg2 4
 have HSall := Lib.hid (fun (W2 : World) (f : Fr (fun _ => False) W W2) => (⟨f, (cell_of (f.get hg (fun h => h)) 4).trans rfl⟩ : Fr (fun _ => False) W W2 ∧ W2.cell? ⟨z, 4, none⟩ = some (.int .i64 q.ttl)))
 have HCl := Lib.hid (fun (W2 : World) (f : Fr (fun _ => False) W W2) => clock_ok ((h.keep f0).keep f))
 have HNx := Lib.hid (fun (W2 : World) (f : Fr (fun _ => False) W W2) => next_ok ((h.keep f0).keep f))
 have HNy := Lib.hid (fun (W2 : World) (f : Fr (fun y => y = z + 1) W W2) => next_ok ((h.keep f0).fr f (fun x hx e => by have := h.lt hx; omega)))
 obtain ⟨c, hc⟩ : ∃ c, wrap64 (b.clock + q.ttl) = c := ⟨_, rfl⟩
 have hc' : IntKind.i64.wrap (b.clock + q.ttl) = c := by rw [← hc, IntKind.wrap_i64]; unfold wrap64; omega
 obtain ⟨Wd, hWd⟩ : ∃ Wd, Wd = W.drew := ⟨_, rfl⟩
 have F1 := Lib.hid (show Fr (fun _ => False) w Wd by rw [hWd]; exact f0.drew)
 have HZ := Lib.hid (show w.heap.size ≤ z + 1 by omega)
 have HQ1 := Lib.hid (show isCh q.kind = true by rw [hk]; rfl)
 have HQ2 := Lib.hid (show rulesOf q.kind = [105, 104] by rw [hk]; rfl)
 have HQ3 := Lib.hid (show rcV (recOf b q) = .agg #[.int .i64 (3), .int .u32 ((q.id : Int)), .int .i64 (0), .int .i64 (0), .int .i64 (0)] by unfold recOf; rw [hk]; simp [rcV])
 have b1 : (q.kind == 1) = false := by rw [hk]; rfl
 have b2 : (q.kind == 2) = false := by rw [hk]; rfl
 have b3 : (q.kind == 3) = true := by rw [hk]; rfl
 have b4 : (q.kind == 4) = false := by rw [hk]; rfl
 have b7 : (q.kind == 7) = false := by rw [hk]; rfl
 clear h hk
 go_enter Tryz.func62, Tryz.ntmps62
 go_upto_region 1 with fail
 rw [← hW, ← hz]
 clear hW hz
 refine wp_region_held_drew (S := fun w' => Fr (fun _ => False) W w' ∧ w'.cell? ⟨z, 4, none⟩ = some (.int .i64 q.ttl)) (by kernel_rfl) (by exact HSall.out _ (Fr.drew (Fr.refl (fun _ => False) _))) (fun hHeld => ?_)
 refine wpAnyH_take (i := 0) (v := ?_) rfl (by kernel_rfl) (by kernel_rfl) (by kernel_rfl) (fun _ _ _ h => h) (Or.inl ⟨by rfl, ?_⟩) (by assumption) ?_
 rotate_left
 ·intro w' hSw; (try dsimp only at hSw); go_simp; try with_reducible rfl
 try simp only [Act.put, List.getElem_toArray, List.getElem_cons_zero, List.setIfInBounds_toArray, List.set_cons_zero, List.set_cons_succ]
 refine wpAnyH_take (i := 2) (v := ?_) rfl (by kernel_rfl) (by kernel_rfl) (by kernel_rfl) (fun _ _ _ h => h) (Or.inl ⟨by rfl, ?_⟩) (by assumption) ?_
 rotate_left
 ·intro w' hSw; (try dsimp only at hSw); go_simp; try with_reducible rfl
 try simp only [Act.put, sL]
 refine wpAnyH_take (i := 3) (v := ?_) rfl (by kernel_rfl) (by kernel_rfl) (by kernel_rfl) (fun _ _ _ h => h) (Or.inl ⟨by rfl, ?_⟩) (by assumption) ?_
 rotate_left
 ·intro w' hSw; (try dsimp only at hSw); go_simp; try with_reducible rfl
 try simp only [Act.put, sL]
 refine wpAnyH_ready (rs := [1]) (by kernel_rfl) (by simp) ?_
 refine AllReadyH.cons rfl (fun K hK => ?_) AllReadyH.nil
 go_simp
 refine (HCl.out _ hHeld.1).mono ?_
 rintro e w1x ⟨rfl, rfl⟩
 try go_simp
 refine hK.out _ _ ?_ (fun hHeld => ?_)
 ·(try dsimp only); exact hHeld
 clear hK K
 try simp only [Act.put, sL]
 refine wpAnyH_take (i := 4) (v := ?_) rfl (by kernel_rfl) (by kernel_rfl) (by kernel_rfl) (fun _ _ _ h => h) (Or.inl ⟨by rfl, ?_⟩) (by assumption) ?_
 rotate_left
 ·intro w' hSw; (try dsimp only at hSw); go_simp; try with_reducible rfl
 try simp only [Act.put, sL]
 refine wpAnyH_take (i := 5) (v := ?_) rfl (by kernel_rfl) (by kernel_rfl) (by kernel_rfl) (fun _ _ _ h => h) (Or.inl ⟨by rfl, ?_⟩) (by assumption) ?_
 rotate_left
 ·intro w' hSw; (try dsimp only at hSw); go_simp; try with_reducible rfl
 try simp only [Act.put, sL]
 refine wpAnyH_done (by kernel_rfl) ?_ _
 rw [← hWd]
 have hgd : Wd.heap[z]? = some (rqO q) := by rw [hWd]; exact hg
 have hgd2 : Wd.heap[z + 1]? = some (.cells #[.int .i64 0, .int .u32 0, .int .i64 0, .int .i64 0, .int .i64 0] 46 (0, 0)) := by rw [hWd]; exact hg2
 have FWd := Lib.hid (show Fr (fun _ => False) W Wd by rw [hWd]; exact Fr.drew (Fr.refl _ _))
 clear hWd hHeld hg hg2 f0
 have z0 := (cell_of hgd 0).trans (show _ = some (Value.int .i64 q.kind) from rfl)
 have z1 := (cell_of hgd 1).trans (show _ = some (Value.int .u32 (q.tag : Int)) from rfl)
 have z2 := (cell_of hgd 2).trans (show _ = some (Value.int .u32 (q.id : Int)) from rfl)
 have z3 := (cell_of hgd 3).trans (show _ = some (Value.int .i64 q.seat) from rfl)
 have z4 := (cell_of hgd 4).trans (show _ = some (Value.int .i64 q.ttl) from rfl)
 have u0 := (cell_of hgd2 0).trans (show _ = some (Value.int .i64 0) from rfl)
 have y0 := free_of hgd2 0
 have u1 := (cell_of hgd2 1).trans (show _ = some (Value.int .u32 0) from rfl)
 have y1 := free_of hgd2 1
 have u2 := (cell_of hgd2 2).trans (show _ = some (Value.int .i64 0) from rfl)
 have y2 := free_of hgd2 2
 have u3 := (cell_of hgd2 3).trans (show _ = some (Value.int .i64 0) from rfl)
 have y3 := free_of hgd2 3
 have u4 := (cell_of hgd2 4).trans (show _ = some (Value.int .i64 0) from rfl)
 have y4 := free_of hgd2 4
 have E1 := (ch_end F1.out HZ.out hgd2 HQ1.out HQ2.out (n := 2) rfl (A := #[.func (.func 105) #[] #[], .func (.func 104) #[] #[]]) rfl HQ3.out).1
 have HP := Lib.hid E1.1
 obtain ⟨Wf, hWf⟩ : ∃ Wf, Wf = recW (Wd.alloc (.cells #[.func (.func 105) #[] #[], .func (.func 104) #[] #[]] 129)) (z + 1) (3) ((q.id : Int)) (0) (0) (0) := ⟨_, rfl⟩
 have gf : Wf.heap[z + 1]? = some (.cells #[.int .i64 (3), .int .u32 ((q.id : Int)), .int .i64 (0), .int .i64 (0), .int .i64 (0)] 46 (0, 0)) := by rw [hWf]; exact E1.2
 have e0 := (cell_of gf 0).trans (show _ = some (Value.int .i64 (3)) from rfl)
 have e1 := (cell_of gf 1).trans (show _ = some (Value.int .u32 ((q.id : Int))) from rfl)
 have e2 := (cell_of gf 2).trans (show _ = some (Value.int .i64 (0)) from rfl)
 have e3 := (cell_of gf 3).trans (show _ = some (Value.int .i64 (0)) from rfl)
 have e4 := (cell_of gf 4).trans (show _ = some (Value.int .i64 (0)) from rfl)
 have hga := (Fr.alloc (Fr.refl (fun _ => False) Wd) (.cells #[.func (.func 105) #[] #[], .func (.func 104) #[] #[]] 129)).get hgd2 (fun h => h)
 have v0 := (cell_of hga 0).trans (show _ = some (Value.int .i64 0) from rfl)
 have vy0 := free_of hga 0
 have v1 := (cell_of hga 1).trans (show _ = some (Value.int .u32 0) from rfl)
 have vy1 := free_of hga 1
 have v2 := (cell_of hga 2).trans (show _ = some (Value.int .i64 0) from rfl)
 have vy2 := free_of hga 2
 have v3 := (cell_of hga 3).trans (show _ = some (Value.int .i64 0) from rfl)
 have vy3 := free_of hga 3
 have v4 := (cell_of hga 4).trans (show _ = some (Value.int .i64 0) from rfl)
 have vy4 := free_of hga 4
 clear hga
 rw [hWf] at e0 e1 e2 e3 e4
 have HEs := Lib.hid (And.intro e0 (And.intro e1 (And.intro e2 (And.intro e3 e4))))
 clear hgd hgd2 E1 gf hWf e0 e1 e2 e3 e4 hc hc' z1 z4
 go_wp2_with fail
 refine bodyPost_ret ?_ rfl HP.out
 simp [results, Tryz.f62, go_sem, HEs.out.1, HEs.out.2.1, HEs.out.2.2.1, HEs.out.2.2.2.1, HEs.out.2.2.2.2]
set_option maxRecDepth 100000 in
set_option maxHeartbeats 4000000 in
theorem change_4 {p : Pt} {bb : Nat} {b : Bk} {LD : List Bo} {w : World} (h : BkP p bb b.next b b.L LD w) (q : Rq) (hk : q.kind = 4) : Calls Tryz.prog 62 #[.pointer (some ⟨bb, 0, none⟩), rqV q] w (ChP w b q) := by
 obtain ⟨W, hW⟩ : ∃ W, W = (w.alloc (rqC q)).alloc rcZ := ⟨_, rfl⟩
 obtain ⟨z, hz⟩ : ∃ z, z = w.heap.size := ⟨_, rfl⟩
 have f0 : Fr (fun _ => False) w W := by rw [hW]; exact Fr.alloc (Fr.alloc (Fr.refl _ _) _) _
 have hg : W.heap[z]? = some (rqO q) := by rw [hW, hz]; simp only [heap_alloc_get, World.size_alloc]; simp
 have hg2 : W.heap[z + 1]? = some (.cells #[.int .i64 0, .int .u32 0, .int .i64 0, .int .i64 0, .int .i64 0] 46 (0, 0)) := by rw [hW, hz]; simp only [heap_alloc_get, World.size_alloc]; simp
 have z0 := (cell_of hg 0).trans (show _ = some (Value.int .i64 q.kind) from rfl)
 have z1 := (cell_of hg 1).trans (show _ = some (Value.int .u32 (q.tag : Int)) from rfl)
 have z2 := (cell_of hg 2).trans (show _ = some (Value.int .u32 (q.id : Int)) from rfl)
 have z3 := (cell_of hg 3).trans (show _ = some (Value.int .i64 q.seat) from rfl)
 have z4 := (cell_of hg 4).trans (show _ = some (Value.int .i64 q.ttl) from rfl)
 have u0 := (cell_of hg2 0).trans (show _ = some (Value.int .i64 0) from rfl)
 have y0 := free_of hg2 0
 have u1 := (cell_of hg2 1).trans (show _ = some (Value.int .u32 0) from rfl)
 have y1 := free_of hg2 1
 have u2 := (cell_of hg2 2).trans (show _ = some (Value.int .i64 0) from rfl)
 have y2 := free_of hg2 2
 have u3 := (cell_of hg2 3).trans (show _ = some (Value.int .i64 0) from rfl)
 have y3 := free_of hg2 3
 have u4 := (cell_of hg2 4).trans (show _ = some (Value.int .i64 0) from rfl)
 have y4 := free_of hg2 4
 have HSall := Lib.hid (fun (W2 : World) (f : Fr (fun _ => False) W W2) => (⟨f, (cell_of (f.get hg (fun h => h)) 4).trans rfl⟩ : Fr (fun _ => False) W W2 ∧ W2.cell? ⟨z, 4, none⟩ = some (.int .i64 q.ttl)))
 have HCl := Lib.hid (fun (W2 : World) (f : Fr (fun _ => False) W W2) => clock_ok ((h.keep f0).keep f))
 have HNx := Lib.hid (fun (W2 : World) (f : Fr (fun _ => False) W W2) => next_ok ((h.keep f0).keep f))
 have HNy := Lib.hid (fun (W2 : World) (f : Fr (fun y => y = z + 1) W W2) => next_ok ((h.keep f0).fr f (fun x hx e => by have := h.lt hx; omega)))
 obtain ⟨c, hc⟩ : ∃ c, wrap64 (b.clock + q.ttl) = c := ⟨_, rfl⟩
 have hc' : IntKind.i64.wrap (b.clock + q.ttl) = c := by rw [← hc, IntKind.wrap_i64]; unfold wrap64; omega
 obtain ⟨Wd, hWd⟩ : ∃ Wd, Wd = W.drew := ⟨_, rfl⟩
 have F1 := Lib.hid (show Fr (fun _ => False) w Wd by rw [hWd]; exact f0.drew)
 have HZ := Lib.hid (show w.heap.size ≤ z + 1 by omega)
 have HQ1 := Lib.hid (show isCh q.kind = true by rw [hk]; rfl)
 have HQ2 := Lib.hid (show rulesOf q.kind = [105, 99, 102, 104] by rw [hk]; rfl)
 have HQ3 := Lib.hid (show rcV (recOf b q) = .agg #[.int .i64 (4), .int .u32 ((q.id : Int)), .int .i64 (q.seat), .int .i64 (0), .int .i64 (0)] by unfold recOf; rw [hk]; simp [rcV])
 have b1 : (q.kind == 1) = false := by rw [hk]; rfl
 have b2 : (q.kind == 2) = false := by rw [hk]; rfl
 have b3 : (q.kind == 3) = false := by rw [hk]; rfl
 have b4 : (q.kind == 4) = true := by rw [hk]; rfl
 have b7 : (q.kind == 7) = false := by rw [hk]; rfl
 clear h hk
 go_enter Tryz.func62, Tryz.ntmps62
 go_upto_region 1 with fail
 rw [← hW, ← hz]
 clear hW hz
 refine wp_region_held_drew (S := fun w' => Fr (fun _ => False) W w' ∧ w'.cell? ⟨z, 4, none⟩ = some (.int .i64 q.ttl)) (by kernel_rfl) (by exact HSall.out _ (Fr.drew (Fr.refl (fun _ => False) _))) (fun hHeld => ?_)
 refine wpAnyH_take (i := 0) (v := ?_) rfl (by kernel_rfl) (by kernel_rfl) (by kernel_rfl) (fun _ _ _ h => h) (Or.inl ⟨by rfl, ?_⟩) (by assumption) ?_
 rotate_left
 ·intro w' hSw; (try dsimp only at hSw); go_simp; try with_reducible rfl
 try simp only [Act.put, List.getElem_toArray, List.getElem_cons_zero, List.setIfInBounds_toArray, List.set_cons_zero, List.set_cons_succ]
 refine wpAnyH_take (i := 2) (v := ?_) rfl (by kernel_rfl) (by kernel_rfl) (by kernel_rfl) (fun _ _ _ h => h) (Or.inl ⟨by rfl, ?_⟩) (by assumption) ?_
 rotate_left
 ·intro w' hSw; (try dsimp only at hSw); go_simp; try with_reducible rfl
 try simp only [Act.put, sL]
 refine wpAnyH_take (i := 3) (v := ?_) rfl (by kernel_rfl) (by kernel_rfl) (by kernel_rfl) (fun _ _ _ h => h) (Or.inl ⟨by rfl, ?_⟩) (by assumption) ?_
 rotate_left
 ·intro w' hSw; (try dsimp only at hSw); go_simp; try with_reducible rfl
 try simp only [Act.put, sL]
 refine wpAnyH_ready (rs := [1]) (by kernel_rfl) (by simp) ?_
 refine AllReadyH.cons rfl (fun K hK => ?_) AllReadyH.nil
 go_simp
 refine (HCl.out _ hHeld.1).mono ?_
 rintro e w1x ⟨rfl, rfl⟩
 try go_simp
 refine hK.out _ _ ?_ (fun hHeld => ?_)
 ·(try dsimp only); exact hHeld
 clear hK K
 try simp only [Act.put, sL]
 refine wpAnyH_take (i := 4) (v := ?_) rfl (by kernel_rfl) (by kernel_rfl) (by kernel_rfl) (fun _ _ _ h => h) (Or.inl ⟨by rfl, ?_⟩) (by assumption) ?_
 rotate_left
 ·intro w' hSw; (try dsimp only at hSw); go_simp; try with_reducible rfl
 try simp only [Act.put, sL]
 refine wpAnyH_take (i := 5) (v := ?_) rfl (by kernel_rfl) (by kernel_rfl) (by kernel_rfl) (fun _ _ _ h => h) (Or.inl ⟨by rfl, ?_⟩) (by assumption) ?_
 rotate_left
 ·intro w' hSw; (try dsimp only at hSw); go_simp; try with_reducible rfl
 try simp only [Act.put, sL]
 refine wpAnyH_done (by kernel_rfl) ?_ _
 rw [← hWd]
 have hgd : Wd.heap[z]? = some (rqO q) := by rw [hWd]; exact hg
 have hgd2 : Wd.heap[z + 1]? = some (.cells #[.int .i64 0, .int .u32 0, .int .i64 0, .int .i64 0, .int .i64 0] 46 (0, 0)) := by rw [hWd]; exact hg2
 have FWd := Lib.hid (show Fr (fun _ => False) W Wd by rw [hWd]; exact Fr.drew (Fr.refl _ _))
 clear hWd hHeld hg hg2 f0
 have z0 := (cell_of hgd 0).trans (show _ = some (Value.int .i64 q.kind) from rfl)
 have z1 := (cell_of hgd 1).trans (show _ = some (Value.int .u32 (q.tag : Int)) from rfl)
 have z2 := (cell_of hgd 2).trans (show _ = some (Value.int .u32 (q.id : Int)) from rfl)
 have z3 := (cell_of hgd 3).trans (show _ = some (Value.int .i64 q.seat) from rfl)
 have z4 := (cell_of hgd 4).trans (show _ = some (Value.int .i64 q.ttl) from rfl)
 have u0 := (cell_of hgd2 0).trans (show _ = some (Value.int .i64 0) from rfl)
 have y0 := free_of hgd2 0
 have u1 := (cell_of hgd2 1).trans (show _ = some (Value.int .u32 0) from rfl)
 have y1 := free_of hgd2 1
 have u2 := (cell_of hgd2 2).trans (show _ = some (Value.int .i64 0) from rfl)
 have y2 := free_of hgd2 2
 have u3 := (cell_of hgd2 3).trans (show _ = some (Value.int .i64 0) from rfl)
 have y3 := free_of hgd2 3
 have u4 := (cell_of hgd2 4).trans (show _ = some (Value.int .i64 0) from rfl)
 have y4 := free_of hgd2 4
 have E1 := (ch_end F1.out HZ.out hgd2 HQ1.out HQ2.out (n := 4) rfl (A := #[.func (.func 105) #[] #[], .func (.func 99) #[] #[], .func (.func 102) #[] #[], .func (.func 104) #[] #[]]) rfl HQ3.out).1
 have HP := Lib.hid E1.1
 obtain ⟨Wf, hWf⟩ : ∃ Wf, Wf = recW (Wd.alloc (.cells #[.func (.func 105) #[] #[], .func (.func 99) #[] #[], .func (.func 102) #[] #[], .func (.func 104) #[] #[]] 129)) (z + 1) (4) ((q.id : Int)) (q.seat) (0) (0) := ⟨_, rfl⟩
 have gf : Wf.heap[z + 1]? = some (.cells #[.int .i64 (4), .int .u32 ((q.id : Int)), .int .i64 (q.seat), .int .i64 (0), .int .i64 (0)] 46 (0, 0)) := by rw [hWf]; exact E1.2
 have e0 := (cell_of gf 0).trans (show _ = some (Value.int .i64 (4)) from rfl)
 have e1 := (cell_of gf 1).trans (show _ = some (Value.int .u32 ((q.id : Int))) from rfl)
 have e2 := (cell_of gf 2).trans (show _ = some (Value.int .i64 (q.seat)) from rfl)
 have e3 := (cell_of gf 3).trans (show _ = some (Value.int .i64 (0)) from rfl)
 have e4 := (cell_of gf 4).trans (show _ = some (Value.int .i64 (0)) from rfl)
 have hga := (Fr.alloc (Fr.refl (fun _ => False) Wd) (.cells #[.func (.func 105) #[] #[], .func (.func 99) #[] #[], .func (.func 102) #[] #[], .func (.func 104) #[] #[]] 129)).get hgd2 (fun h => h)
 have v0 := (cell_of hga 0).trans (show _ = some (Value.int .i64 0) from rfl)
 have vy0 := free_of hga 0
 have v1 := (cell_of hga 1).trans (show _ = some (Value.int .u32 0) from rfl)
 have vy1 := free_of hga 1
 have v2 := (cell_of hga 2).trans (show _ = some (Value.int .i64 0) from rfl)
 have vy2 := free_of hga 2
 have v3 := (cell_of hga 3).trans (show _ = some (Value.int .i64 0) from rfl)
 have vy3 := free_of hga 3
 have v4 := (cell_of hga 4).trans (show _ = some (Value.int .i64 0) from rfl)
 have vy4 := free_of hga 4
 clear hga
 rw [hWf] at e0 e1 e2 e3 e4
 have HEs := Lib.hid (And.intro e0 (And.intro e1 (And.intro e2 (And.intro e3 e4))))
 clear hgd hgd2 E1 gf hWf e0 e1 e2 e3 e4 hc hc' z1 z4
 go_wp2_with fail
 refine bodyPost_ret ?_ rfl HP.out
 simp [results, Tryz.f62, go_sem, HEs.out.1, HEs.out.2.1, HEs.out.2.2.1, HEs.out.2.2.2.1, HEs.out.2.2.2.2]
set_option maxRecDepth 100000 in
set_option maxHeartbeats 4000000 in
theorem change_7 {p : Pt} {bb : Nat} {b : Bk} {LD : List Bo} {w : World} (h : BkP p bb b.next b b.L LD w) (q : Rq) (hk : q.kind = 7) : Calls Tryz.prog 62 #[.pointer (some ⟨bb, 0, none⟩), rqV q] w (ChP w b q) := by
 obtain ⟨W, hW⟩ : ∃ W, W = (w.alloc (rqC q)).alloc rcZ := ⟨_, rfl⟩
 obtain ⟨z, hz⟩ : ∃ z, z = w.heap.size := ⟨_, rfl⟩
 have f0 : Fr (fun _ => False) w W := by rw [hW]; exact Fr.alloc (Fr.alloc (Fr.refl _ _) _) _
 have hg : W.heap[z]? = some (rqO q) := by rw [hW, hz]; simp only [heap_alloc_get, World.size_alloc]; simp
 have hg2 : W.heap[z + 1]? = some (.cells #[.int .i64 0, .int .u32 0, .int .i64 0, .int .i64 0, .int .i64 0] 46 (0, 0)) := by rw [hW, hz]; simp only [heap_alloc_get, World.size_alloc]; simp
 have z0 := (cell_of hg 0).trans (show _ = some (Value.int .i64 q.kind) from rfl)
 have z1 := (cell_of hg 1).trans (show _ = some (Value.int .u32 (q.tag : Int)) from rfl)
 have z2 := (cell_of hg 2).trans (show _ = some (Value.int .u32 (q.id : Int)) from rfl)
 have z3 := (cell_of hg 3).trans (show _ = some (Value.int .i64 q.seat) from rfl)
 have z4 := (cell_of hg 4).trans (show _ = some (Value.int .i64 q.ttl) from rfl)
 have u0 := (cell_of hg2 0).trans (show _ = some (Value.int .i64 0) from rfl)
 have y0 := free_of hg2 0
 have u1 := (cell_of hg2 1).trans (show _ = some (Value.int .u32 0) from rfl)
 have y1 := free_of hg2 1
 have u2 := (cell_of hg2 2).trans (show _ = some (Value.int .i64 0) from rfl)
 have y2 := free_of hg2 2
 have u3 := (cell_of hg2 3).trans (show _ = some (Value.int .i64 0) from rfl)
 have y3 := free_of hg2 3
 have u4 := (cell_of hg2 4).trans (show _ = some (Value.int .i64 0) from rfl)
 have y4 := free_of hg2 4
 have HSall := Lib.hid (fun (W2 : World) (f : Fr (fun _ => False) W W2) => (⟨f, (cell_of (f.get hg (fun h => h)) 4).trans rfl⟩ : Fr (fun _ => False) W W2 ∧ W2.cell? ⟨z, 4, none⟩ = some (.int .i64 q.ttl)))
 have HCl := Lib.hid (fun (W2 : World) (f : Fr (fun _ => False) W W2) => clock_ok ((h.keep f0).keep f))
 have HNx := Lib.hid (fun (W2 : World) (f : Fr (fun _ => False) W W2) => next_ok ((h.keep f0).keep f))
 have HNy := Lib.hid (fun (W2 : World) (f : Fr (fun y => y = z + 1) W W2) => next_ok ((h.keep f0).fr f (fun x hx e => by have := h.lt hx; omega)))
 obtain ⟨c, hc⟩ : ∃ c, wrap64 (b.clock + q.ttl) = c := ⟨_, rfl⟩
 have hc' : IntKind.i64.wrap (b.clock + q.ttl) = c := by rw [← hc, IntKind.wrap_i64]; unfold wrap64; omega
 obtain ⟨Wd, hWd⟩ : ∃ Wd, Wd = W.drew := ⟨_, rfl⟩
 have F1 := Lib.hid (show Fr (fun _ => False) w Wd by rw [hWd]; exact f0.drew)
 have HZ := Lib.hid (show w.heap.size ≤ z + 1 by omega)
 have HQ1 := Lib.hid (show isCh q.kind = true by rw [hk]; rfl)
 have HQ2 := Lib.hid (show rulesOf q.kind = [100, 101, 104] by rw [hk]; rfl)
 have HQ3 := Lib.hid (show rcV (recOf b q) = .agg #[.int .i64 (5), .int .u32 (0), .int .i64 (0), .int .i64 (0), .int .i64 (c)] by unfold recOf; rw [hk]; simp [rcV, hc])
 have b1 : (q.kind == 1) = false := by rw [hk]; rfl
 have b2 : (q.kind == 2) = false := by rw [hk]; rfl
 have b3 : (q.kind == 3) = false := by rw [hk]; rfl
 have b4 : (q.kind == 4) = false := by rw [hk]; rfl
 have b7 : (q.kind == 7) = true := by rw [hk]; rfl
 clear h hk
 go_enter Tryz.func62, Tryz.ntmps62
 go_upto_region 1 with fail
 rw [← hW, ← hz]
 clear hW hz
 refine wp_region_held_drew (S := fun w' => Fr (fun _ => False) W w' ∧ w'.cell? ⟨z, 4, none⟩ = some (.int .i64 q.ttl)) (by kernel_rfl) (by exact HSall.out _ (Fr.drew (Fr.refl (fun _ => False) _))) (fun hHeld => ?_)
 refine wpAnyH_take (i := 0) (v := ?_) rfl (by kernel_rfl) (by kernel_rfl) (by kernel_rfl) (fun _ _ _ h => h) (Or.inl ⟨by rfl, ?_⟩) (by assumption) ?_
 rotate_left
 ·intro w' hSw; (try dsimp only at hSw); go_simp; try with_reducible rfl
 try simp only [Act.put, List.getElem_toArray, List.getElem_cons_zero, List.setIfInBounds_toArray, List.set_cons_zero, List.set_cons_succ]
 refine wpAnyH_take (i := 2) (v := ?_) rfl (by kernel_rfl) (by kernel_rfl) (by kernel_rfl) (fun _ _ _ h => h) (Or.inl ⟨by rfl, ?_⟩) (by assumption) ?_
 rotate_left
 ·intro w' hSw; (try dsimp only at hSw); go_simp; try with_reducible rfl
 try simp only [Act.put, sL]
 refine wpAnyH_take (i := 3) (v := ?_) rfl (by kernel_rfl) (by kernel_rfl) (by kernel_rfl) (fun _ _ _ h => h) (Or.inl ⟨by rfl, ?_⟩) (by assumption) ?_
 rotate_left
 ·intro w' hSw; (try dsimp only at hSw); go_simp; try with_reducible rfl
 try simp only [Act.put, sL]
 refine wpAnyH_ready (rs := [1]) (by kernel_rfl) (by simp) ?_
 refine AllReadyH.cons rfl (fun K hK => ?_) AllReadyH.nil
 go_simp
 refine (HCl.out _ hHeld.1).mono ?_
 rintro e w1x ⟨rfl, rfl⟩
 try go_simp
 refine hK.out _ _ ?_ (fun hHeld => ?_)
 ·(try dsimp only); exact hHeld
 clear hK K
 try simp only [Act.put, sL]
 refine wpAnyH_take (i := 4) (v := ?_) rfl (by kernel_rfl) (by kernel_rfl) (by kernel_rfl) (fun _ _ _ h => h) (Or.inl ⟨by rfl, ?_⟩) (by assumption) ?_
 rotate_left
 ·intro w' hSw; (try dsimp only at hSw); go_simp; try with_reducible rfl
 try simp only [Act.put, sL]
 refine wpAnyH_take (i := 5) (v := ?_) rfl (by kernel_rfl) (by kernel_rfl) (by kernel_rfl) (fun _ _ _ h => h) (Or.inl ⟨by rfl, ?_⟩) (by assumption) ?_
 rotate_left
 ·intro w' hSw; (try dsimp only at hSw); go_simp; try with_reducible rfl
 try simp only [Act.put, sL]
 refine wpAnyH_done (by kernel_rfl) ?_ _
 rw [← hWd]
 have hgd : Wd.heap[z]? = some (rqO q) := by rw [hWd]; exact hg
 have hgd2 : Wd.heap[z + 1]? = some (.cells #[.int .i64 0, .int .u32 0, .int .i64 0, .int .i64 0, .int .i64 0] 46 (0, 0)) := by rw [hWd]; exact hg2
 have FWd := Lib.hid (show Fr (fun _ => False) W Wd by rw [hWd]; exact Fr.drew (Fr.refl _ _))
 clear hWd hHeld hg hg2 f0
 have z0 := (cell_of hgd 0).trans (show _ = some (Value.int .i64 q.kind) from rfl)
 have z1 := (cell_of hgd 1).trans (show _ = some (Value.int .u32 (q.tag : Int)) from rfl)
 have z2 := (cell_of hgd 2).trans (show _ = some (Value.int .u32 (q.id : Int)) from rfl)
 have z3 := (cell_of hgd 3).trans (show _ = some (Value.int .i64 q.seat) from rfl)
 have z4 := (cell_of hgd 4).trans (show _ = some (Value.int .i64 q.ttl) from rfl)
 have u0 := (cell_of hgd2 0).trans (show _ = some (Value.int .i64 0) from rfl)
 have y0 := free_of hgd2 0
 have u1 := (cell_of hgd2 1).trans (show _ = some (Value.int .u32 0) from rfl)
 have y1 := free_of hgd2 1
 have u2 := (cell_of hgd2 2).trans (show _ = some (Value.int .i64 0) from rfl)
 have y2 := free_of hgd2 2
 have u3 := (cell_of hgd2 3).trans (show _ = some (Value.int .i64 0) from rfl)
 have y3 := free_of hgd2 3
 have u4 := (cell_of hgd2 4).trans (show _ = some (Value.int .i64 0) from rfl)
 have y4 := free_of hgd2 4
 have E1 := (ch_end F1.out HZ.out hgd2 HQ1.out HQ2.out (n := 3) rfl (A := #[.func (.func 100) #[] #[], .func (.func 101) #[] #[], .func (.func 104) #[] #[]]) rfl HQ3.out).1
 have HP := Lib.hid E1.1
 obtain ⟨Wf, hWf⟩ : ∃ Wf, Wf = recW (Wd.alloc (.cells #[.func (.func 100) #[] #[], .func (.func 101) #[] #[], .func (.func 104) #[] #[]] 129)) (z + 1) (5) (0) (0) (0) (c) := ⟨_, rfl⟩
 have gf : Wf.heap[z + 1]? = some (.cells #[.int .i64 (5), .int .u32 (0), .int .i64 (0), .int .i64 (0), .int .i64 (c)] 46 (0, 0)) := by rw [hWf]; exact E1.2
 have e0 := (cell_of gf 0).trans (show _ = some (Value.int .i64 (5)) from rfl)
 have e1 := (cell_of gf 1).trans (show _ = some (Value.int .u32 (0)) from rfl)
 have e2 := (cell_of gf 2).trans (show _ = some (Value.int .i64 (0)) from rfl)
 have e3 := (cell_of gf 3).trans (show _ = some (Value.int .i64 (0)) from rfl)
 have e4 := (cell_of gf 4).trans (show _ = some (Value.int .i64 (c)) from rfl)
 have hga := (Fr.alloc (Fr.refl (fun _ => False) Wd) (.cells #[.func (.func 100) #[] #[], .func (.func 101) #[] #[], .func (.func 104) #[] #[]] 129)).get hgd2 (fun h => h)
 have v0 := (cell_of hga 0).trans (show _ = some (Value.int .i64 0) from rfl)
 have vy0 := free_of hga 0
 have v1 := (cell_of hga 1).trans (show _ = some (Value.int .u32 0) from rfl)
 have vy1 := free_of hga 1
 have v2 := (cell_of hga 2).trans (show _ = some (Value.int .i64 0) from rfl)
 have vy2 := free_of hga 2
 have v3 := (cell_of hga 3).trans (show _ = some (Value.int .i64 0) from rfl)
 have vy3 := free_of hga 3
 have v4 := (cell_of hga 4).trans (show _ = some (Value.int .i64 0) from rfl)
 have vy4 := free_of hga 4
 clear hga
 rw [hWf] at e0 e1 e2 e3 e4
 have HEs := Lib.hid (And.intro e0 (And.intro e1 (And.intro e2 (And.intro e3 e4))))
 clear hgd hgd2 E1 gf hWf e0 e1 e2 e3 e4 hc hc' z1 z4
 go_wp2_with fail
 refine bodyPost_ret ?_ rfl HP.out
 simp [results, Tryz.f62, go_sem, HEs.out.1, HEs.out.2.1, HEs.out.2.2.1, HEs.out.2.2.2.1, HEs.out.2.2.2.2]
set_option maxRecDepth 100000 in
set_option maxHeartbeats 4000000 in
theorem change_no {p : Pt} {bb : Nat} {b : Bk} {LD : List Bo} {w : World} (h : BkP p bb b.next b b.L LD w) (q : Rq) (hk : isCh q.kind = false) : Calls Tryz.prog 62 #[.pointer (some ⟨bb, 0, none⟩), rqV q] w (ChP w b q) := by
 obtain ⟨W, hW⟩ : ∃ W, W = (w.alloc (rqC q)).alloc rcZ := ⟨_, rfl⟩
 obtain ⟨z, hz⟩ : ∃ z, z = w.heap.size := ⟨_, rfl⟩
 have f0 : Fr (fun _ => False) w W := by rw [hW]; exact Fr.alloc (Fr.alloc (Fr.refl _ _) _) _
 have hg : W.heap[z]? = some (rqO q) := by rw [hW, hz]; simp only [heap_alloc_get, World.size_alloc]; simp
 have hg2 : W.heap[z + 1]? = some (.cells #[.int .i64 0, .int .u32 0, .int .i64 0, .int .i64 0, .int .i64 0] 46 (0, 0)) := by rw [hW, hz]; simp only [heap_alloc_get, World.size_alloc]; simp
 have z0 := (cell_of hg 0).trans (show _ = some (Value.int .i64 q.kind) from rfl)
 have z1 := (cell_of hg 1).trans (show _ = some (Value.int .u32 (q.tag : Int)) from rfl)
 have z2 := (cell_of hg 2).trans (show _ = some (Value.int .u32 (q.id : Int)) from rfl)
 have z3 := (cell_of hg 3).trans (show _ = some (Value.int .i64 q.seat) from rfl)
 have z4 := (cell_of hg 4).trans (show _ = some (Value.int .i64 q.ttl) from rfl)
 have u0 := (cell_of hg2 0).trans (show _ = some (Value.int .i64 0) from rfl)
 have y0 := free_of hg2 0
 have u1 := (cell_of hg2 1).trans (show _ = some (Value.int .u32 0) from rfl)
 have y1 := free_of hg2 1
 have u2 := (cell_of hg2 2).trans (show _ = some (Value.int .i64 0) from rfl)
 have y2 := free_of hg2 2
 have u3 := (cell_of hg2 3).trans (show _ = some (Value.int .i64 0) from rfl)
 have y3 := free_of hg2 3
 have u4 := (cell_of hg2 4).trans (show _ = some (Value.int .i64 0) from rfl)
 have y4 := free_of hg2 4
 have HSall := Lib.hid (fun (W2 : World) (f : Fr (fun _ => False) W W2) => (⟨f, (cell_of (f.get hg (fun h => h)) 4).trans rfl⟩ : Fr (fun _ => False) W W2 ∧ W2.cell? ⟨z, 4, none⟩ = some (.int .i64 q.ttl)))
 have HCl := Lib.hid (fun (W2 : World) (f : Fr (fun _ => False) W W2) => clock_ok ((h.keep f0).keep f))
 have HNx := Lib.hid (fun (W2 : World) (f : Fr (fun _ => False) W W2) => next_ok ((h.keep f0).keep f))
 have HNy := Lib.hid (fun (W2 : World) (f : Fr (fun y => y = z + 1) W W2) => next_ok ((h.keep f0).fr f (fun x hx e => by have := h.lt hx; omega)))
 obtain ⟨c, hc⟩ : ∃ c, wrap64 (b.clock + q.ttl) = c := ⟨_, rfl⟩
 have hc' : IntKind.i64.wrap (b.clock + q.ttl) = c := by rw [← hc, IntKind.wrap_i64]; unfold wrap64; omega
 obtain ⟨Wd, hWd⟩ : ∃ Wd, Wd = W.drew := ⟨_, rfl⟩
 have F1 := Lib.hid (show Fr (fun _ => False) w Wd by rw [hWd]; exact f0.drew)
 have HZ := Lib.hid (show w.heap.size ≤ z + 1 by omega)
 have hne : q.kind ≠ 1 ∧ q.kind ≠ 2 ∧ q.kind ≠ 3 ∧ q.kind ≠ 4 ∧ q.kind ≠ 7 := isCh_no hk
 have b1 : (q.kind == 1) = false := by rw [beq_eq_false_iff_ne]; omega
 have b2 : (q.kind == 2) = false := by rw [beq_eq_false_iff_ne]; omega
 have b3 : (q.kind == 3) = false := by rw [beq_eq_false_iff_ne]; omega
 have b4 : (q.kind == 4) = false := by rw [beq_eq_false_iff_ne]; omega
 have b7 : (q.kind == 7) = false := by rw [beq_eq_false_iff_ne]; omega
 have HQ := Lib.hid (show rulesOf q.kind = [] by unfold rulesOf; rw [if_neg hne.1, if_neg hne.2.1, if_neg hne.2.2.1, if_neg hne.2.2.2.1, if_neg hne.2.2.2.2])
 have HK := Lib.hid hk
 clear h hk hne
 go_enter Tryz.func62, Tryz.ntmps62
 go_upto_region 1 with fail
 rw [← hW, ← hz]
 clear hW hz
 refine wp_region_held_drew (S := fun w' => Fr (fun _ => False) W w' ∧ w'.cell? ⟨z, 4, none⟩ = some (.int .i64 q.ttl)) (by kernel_rfl) (by exact HSall.out _ (Fr.drew (Fr.refl (fun _ => False) _))) (fun hHeld => ?_)
 refine wpAnyH_take (i := 0) (v := ?_) rfl (by kernel_rfl) (by kernel_rfl) (by kernel_rfl) (fun _ _ _ h => h) (Or.inl ⟨by rfl, ?_⟩) (by assumption) ?_
 rotate_left
 ·intro w' hSw; (try dsimp only at hSw); go_simp; try with_reducible rfl
 try simp only [Act.put, List.getElem_toArray, List.getElem_cons_zero, List.setIfInBounds_toArray, List.set_cons_zero, List.set_cons_succ]
 refine wpAnyH_take (i := 2) (v := ?_) rfl (by kernel_rfl) (by kernel_rfl) (by kernel_rfl) (fun _ _ _ h => h) (Or.inl ⟨by rfl, ?_⟩) (by assumption) ?_
 rotate_left
 ·intro w' hSw; (try dsimp only at hSw); go_simp; try with_reducible rfl
 try simp only [Act.put, sL]
 refine wpAnyH_take (i := 3) (v := ?_) rfl (by kernel_rfl) (by kernel_rfl) (by kernel_rfl) (fun _ _ _ h => h) (Or.inl ⟨by rfl, ?_⟩) (by assumption) ?_
 rotate_left
 ·intro w' hSw; (try dsimp only at hSw); go_simp; try with_reducible rfl
 try simp only [Act.put, sL]
 refine wpAnyH_ready (rs := [1]) (by kernel_rfl) (by simp) ?_
 refine AllReadyH.cons rfl (fun K hK => ?_) AllReadyH.nil
 go_simp
 refine (HCl.out _ hHeld.1).mono ?_
 rintro e w1x ⟨rfl, rfl⟩
 try go_simp
 refine hK.out _ _ ?_ (fun hHeld => ?_)
 ·(try dsimp only); exact hHeld
 clear hK K
 try simp only [Act.put, sL]
 refine wpAnyH_take (i := 4) (v := ?_) rfl (by kernel_rfl) (by kernel_rfl) (by kernel_rfl) (fun _ _ _ h => h) (Or.inl ⟨by rfl, ?_⟩) (by assumption) ?_
 rotate_left
 ·intro w' hSw; (try dsimp only at hSw); go_simp; try with_reducible rfl
 try simp only [Act.put, sL]
 refine wpAnyH_take (i := 5) (v := ?_) rfl (by kernel_rfl) (by kernel_rfl) (by kernel_rfl) (fun _ _ _ h => h) (Or.inl ⟨by rfl, ?_⟩) (by assumption) ?_
 rotate_left
 ·intro w' hSw; (try dsimp only at hSw); go_simp; try with_reducible rfl
 try simp only [Act.put, sL]
 refine wpAnyH_done (by kernel_rfl) ?_ _
 rw [← hWd]
 have hgd : Wd.heap[z]? = some (rqO q) := by rw [hWd]; exact hg
 have hgd2 : Wd.heap[z + 1]? = some (.cells #[.int .i64 0, .int .u32 0, .int .i64 0, .int .i64 0, .int .i64 0] 46 (0, 0)) := by rw [hWd]; exact hg2
 have FWd := Lib.hid (show Fr (fun _ => False) W Wd by rw [hWd]; exact Fr.drew (Fr.refl _ _))
 clear hWd hHeld hg hg2 f0
 have z0 := (cell_of hgd 0).trans (show _ = some (Value.int .i64 q.kind) from rfl)
 have z1 := (cell_of hgd 1).trans (show _ = some (Value.int .u32 (q.tag : Int)) from rfl)
 have z2 := (cell_of hgd 2).trans (show _ = some (Value.int .u32 (q.id : Int)) from rfl)
 have z3 := (cell_of hgd 3).trans (show _ = some (Value.int .i64 q.seat) from rfl)
 have z4 := (cell_of hgd 4).trans (show _ = some (Value.int .i64 q.ttl) from rfl)
 have u0 := (cell_of hgd2 0).trans (show _ = some (Value.int .i64 0) from rfl)
 have y0 := free_of hgd2 0
 have u1 := (cell_of hgd2 1).trans (show _ = some (Value.int .u32 0) from rfl)
 have y1 := free_of hgd2 1
 have u2 := (cell_of hgd2 2).trans (show _ = some (Value.int .i64 0) from rfl)
 have y2 := free_of hgd2 2
 have u3 := (cell_of hgd2 3).trans (show _ = some (Value.int .i64 0) from rfl)
 have y3 := free_of hgd2 3
 have u4 := (cell_of hgd2 4).trans (show _ = some (Value.int .i64 0) from rfl)
 have y4 := free_of hgd2 4
 have E1 := recW_at hgd2 0 0 0 0 0
 have fE := recW_fr Wd (z + 1) 0 0 0 0 0
 have HP := Lib.hid (show ChP w b q (.returned (.tuple #[.agg #[.int .i64 (0), .int .u32 (0), .int .i64 (0), .int .i64 (0), .int .i64 (0)], .slice none 0 0, .bool false])) (recW Wd (z + 1) 0 0 0 0 0) from ⟨_, by rw [show chRec b q = rc0 from if_neg (by rw [HK.out]; simp), HK.out]; rfl, .inl ⟨rfl, HQ.out⟩, (fun g hgo => by simp [Value.ownBlock] at hgo), ((F1.out.mono (fun _ _ h => h.elim) : Fr (fun b => w.heap.size ≤ b) w Wd).trans fE (fun y _ e => by subst e; exact HZ.out)).toNew⟩)
 obtain ⟨Wf, hWf⟩ : ∃ Wf, Wf = recW Wd (z + 1) 0 0 0 0 0 := ⟨_, rfl⟩
 have gf : Wf.heap[z + 1]? = some (.cells #[.int .i64 (0), .int .u32 (0), .int .i64 (0), .int .i64 (0), .int .i64 (0)] 46 (0, 0)) := by rw [hWf]; exact E1
 have e0 := (cell_of gf 0).trans (show _ = some (Value.int .i64 (0)) from rfl)
 have e1 := (cell_of gf 1).trans (show _ = some (Value.int .u32 (0)) from rfl)
 have e2 := (cell_of gf 2).trans (show _ = some (Value.int .i64 (0)) from rfl)
 have e3 := (cell_of gf 3).trans (show _ = some (Value.int .i64 (0)) from rfl)
 have e4 := (cell_of gf 4).trans (show _ = some (Value.int .i64 (0)) from rfl)
 rw [hWf] at e0 e1 e2 e3 e4
 have HEs := Lib.hid (And.intro e0 (And.intro e1 (And.intro e2 (And.intro e3 e4))))
 clear hgd hgd2 E1 gf hWf e0 e1 e2 e3 e4 hc hc' z1 z4 fE
 go_wp2_with fail
 refine bodyPost_ret ?_ rfl HP.out
 simp [results, Tryz.f62, go_sem, HEs.out.1, HEs.out.2.1, HEs.out.2.2.1, HEs.out.2.2.2.1, HEs.out.2.2.2.2]
theorem change_ok {p : Pt} {bb : Nat} {b : Bk} {LD : List Bo} {w : World} (h : BkP p bb b.next b b.L LD w) (q : Rq) : Calls Tryz.prog 62 #[.pointer (some ⟨bb, 0, none⟩), rqV q] w (ChP w b q) := by
 by_cases hk : isCh q.kind = true
 ·have hc : q.kind = 1 ∨ q.kind = 2 ∨ q.kind = 3 ∨ q.kind = 4 ∨ q.kind = 7 := by unfold isCh at hk; simpa using hk
  rcases hc with hk | hk | hk | hk | hk
  ·exact change_1 h q hk
  ·exact change_2 h q hk
  ·exact change_3 h q hk
  ·exact change_4 h q hk
  ·exact change_7 h q hk
 ·exact change_no h q (by simpa using hk)
end Go.Proofs.YtffnjnnmlfgngaaGreat.Cs
namespace Go.Proofs.YtffnjnnmlfgngaaGreat.Cs
open Go.RowKit Go.Shelf Go.Proofs.YtffnjnnmlfgngaaGreat.Bk
attribute [local go_sem] Oper.semAt_some
abbrev rpO (x : Rp) : Obj := .cells #[.int .u32 (x.tag : Int), .int .i64 x.kind, .int .i64 x.err, .int .u32 (x.id : Int), .int .i64 x.seat, .int .i64 x.till, .int .i64 x.count] 71 (0, 0)
/-- A reply is stored. -/
abbrev repW (w : World) (z : Nat) (a b c d e f g : Int) : World := ((((((w.setCell ⟨z, 0, none⟩ (.int .u32 a)).setCell ⟨z, 1, none⟩ (.int .i64 b)).setCell ⟨z, 2, none⟩ (.int .i64 c)).setCell ⟨z, 3, none⟩ (.int .u32 d)).setCell ⟨z, 4, none⟩ (.int .i64 e)).setCell ⟨z, 5, none⟩ (.int .i64 f)).setCell ⟨z, 6, none⟩ (.int .i64 g)
set_option maxHeartbeats 1000000 in
theorem repW_at {w : World} {z : Nat} {x : Rp} (h : w.heap[z]? = some (rpO x)) (a b c d e f g : Int) : (repW w z a b c d e f g).heap[z]? = some (.cells #[.int .u32 a, .int .i64 b, .int .i64 c, .int .u32 d, .int .i64 e, .int .i64 f, .int .i64 g] 71 (0, 0)) :=
  by
  have h1 := (setCell_blk (o := 0) h (.int .u32 a))
  have h2 := (setCell_blk (o := 1) h1 (.int .i64 b))
  have h3 := (setCell_blk (o := 2) h2 (.int .i64 c))
  have h4 := (setCell_blk (o := 3) h3 (.int .u32 d))
  have h5 := (setCell_blk (o := 4) h4 (.int .i64 e))
  have h6 := (setCell_blk (o := 5) h5 (.int .i64 f))
  have h7 := (setCell_blk (o := 6) h6 (.int .i64 g))
  refine h7.trans ?_
  simp only [List.setIfInBounds_toArray, List.set_cons_zero, List.set_cons_succ]
theorem repW_fr (w : World) (z : Nat) (a b c d e f g : Int) : Fr (fun y => y = z) w (repW w z a b c d e f g) :=
  (((((((Fr.refl (fun y => y = z) w).setCell (p := ⟨z, 0, none⟩) (fun _ => rfl) _).setCell (p := ⟨z, 1, none⟩) (fun _ => rfl) _).setCell (p := ⟨z, 2, none⟩) (fun _ => rfl) _).setCell (p := ⟨z, 3, none⟩) (fun _ => rfl) _).setCell (p := ⟨z, 4, none⟩) (fun _ => rfl) _).setCell (p := ⟨z, 5, none⟩) (fun _ => rfl) _).setCell (p := ⟨z, 6, none⟩) (fun _ => rfl) _
theorem rp_cells {w : World} {z : Nat} {x : Rp} (h : w.heap[z]? = some (rpO x)) : w.cell? ⟨z, 0, none⟩ = some (.int .u32 (x.tag : Int)) ∧ w.cell? ⟨z, 1, none⟩ = some (.int .i64 x.kind) ∧ w.cell? ⟨z, 2, none⟩ = some (.int .i64 x.err) ∧ w.cell? ⟨z, 3, none⟩ = some (.int .u32 (x.id : Int)) ∧ w.cell? ⟨z, 4, none⟩ = some (.int .i64 x.seat) ∧ w.cell? ⟨z, 5, none⟩ = some (.int .i64 x.till) ∧ w.cell? ⟨z, 6, none⟩ = some (.int .i64 x.count) :=
  ⟨(cell_of h 0).trans rfl, (cell_of h 1).trans rfl, (cell_of h 2).trans rfl, (cell_of h 3).trans rfl, (cell_of h 4).trans rfl, (cell_of h 5).trans rfl, (cell_of h 6).trans rfl⟩
theorem rp_free {w : World} {z : Nat} {x : Rp} (h : w.heap[z]? = some (rpO x)) : w.frozen? ⟨z, 0, none⟩ = false ∧ w.frozen? ⟨z, 1, none⟩ = false ∧ w.frozen? ⟨z, 2, none⟩ = false ∧ w.frozen? ⟨z, 3, none⟩ = false ∧ w.frozen? ⟨z, 4, none⟩ = false ∧ w.frozen? ⟨z, 5, none⟩ = false ∧ w.frozen? ⟨z, 6, none⟩ = false :=
  ⟨free_of h 0, free_of h 1, free_of h 2, free_of h 3, free_of h 4, free_of h 5, free_of h 6⟩
set_option maxRecDepth 100000 in
set_option maxHeartbeats 4000000 in
theorem reply_ok (q : Rq) (r : Rc) (w : World) : Calls Tryz.prog 63 #[rqV q, rcV r] w fun e w' => e = .returned (rpV (repOf q r)) ∧ Fr (fun _ => False) w w' := by
  obtain ⟨W1, hW1⟩ : ∃ W, W = w.alloc (rqC q) := ⟨_, rfl⟩
  obtain ⟨W2, hW2⟩ : ∃ W, W = W1.alloc (rcC r) := ⟨_, rfl⟩
  obtain ⟨W3, hW3⟩ : ∃ W, W = W2.alloc (.cells #[.int .u32 0, .int .i64 0, .int .i64 0, .int .u32 0, .int .i64 0, .int .i64 0, .int .i64 0] 71) := ⟨_, rfl⟩
  obtain ⟨W, hW⟩ : ∃ W, W = W3.alloc (.cells #[.int .u32 (q.tag : Int), .int .i64 q.kind, .int .i64 0, .int .u32 0, .int .i64 0, .int .i64 0, .int .i64 0] 71) := ⟨_, rfl⟩
  obtain ⟨z, hz⟩ : ∃ z, z = w.heap.size := ⟨_, rfl⟩
  have s1 : W1.heap.size = z + 1 := by rw [hW1, hz]; simp
  have s2 : W2.heap.size = z + 2 := by rw [hW2]; simp [s1]
  have s3 : W3.heap.size = z + 3 := by rw [hW3]; simp [s2]
  have a1 : Fr (fun _ => False) w W1 := by rw [hW1]; exact Fr.alloc (Fr.refl _ _) _
  have a2 : Fr (fun _ => False) W1 W2 := by rw [hW2]; exact Fr.alloc (Fr.refl _ _) _
  have a3 : Fr (fun _ => False) W2 W3 := by rw [hW3]; exact Fr.alloc (Fr.refl _ _) _
  have a4 : Fr (fun _ => False) W3 W := by rw [hW]; exact Fr.alloc (Fr.refl _ _) _
  have f0 : Fr (fun _ => False) w W := ((a1.trans a2 (fun _ _ h => h)).trans a3 (fun _ _ h => h)).trans a4 (fun _ _ h => h)
  have hg : W.heap[z]? = some (rqO q) := a4.get (a3.get (a2.get (show W1.heap[z]? = _ by rw [hW1, hz]; exact heap_alloc_at _ _) (fun h => h)) (fun h => h)) (fun h => h)
  have hg1 : W.heap[z + 1]? = some (rcC r) := a4.get (a3.get (show W2.heap[z + 1]? = _ by rw [hW2, ← s1]; exact heap_alloc_at _ _) (fun h => h)) (fun h => h)
  have hg2 : W.heap[z + 2]? = some (rpO rp0) := a4.get (show W3.heap[z + 2]? = _ by rw [hW3, ← s2]; exact heap_alloc_at _ _) (fun h => h)
  have hg3 : W.heap[z + 3]? = some (rpO ⟨q.tag, q.kind, 0, 0, 0, 0, 0⟩) := show W.heap[z + 3]? = _ by rw [hW, ← s3]; exact heap_alloc_at _ _
  have z0 := (cell_of hg 0).trans (show _ = some (Value.int .i64 q.kind) from rfl)
  have z1 := (cell_of hg 1).trans (show _ = some (Value.int .u32 (q.tag : Int)) from rfl)
  have z2 := (cell_of hg 2).trans (show _ = some (Value.int .u32 (q.id : Int)) from rfl)
  have z3 := (cell_of hg 3).trans (show _ = some (Value.int .i64 q.seat) from rfl)
  have z4 := (cell_of hg 4).trans (show _ = some (Value.int .i64 q.ttl) from rfl)
  have r0 := (cell_of hg1 0).trans (show _ = some (Value.int .i64 r.kind) from rfl)
  have r1 := (cell_of hg1 1).trans (show _ = some (Value.int .u32 (r.id : Int)) from rfl)
  have r2 := (cell_of hg1 2).trans (show _ = some (Value.int .i64 r.seat) from rfl)
  have r3 := (cell_of hg1 3).trans (show _ = some (Value.int .i64 r.till) from rfl)
  have r4 := (cell_of hg1 4).trans (show _ = some (Value.int .i64 r.clock) from rfl)
  obtain ⟨p0, p1, p2, p3, p4, p5, p6⟩ := rp_cells hg3
  obtain ⟨y0, y1, y2, y3, y4, y5, y6⟩ := rp_free hg3
  have HG2 := Lib.hid hg2; have HG3 := Lib.hid hg3; have F0 := Lib.hid f0; have Hz := Lib.hid (show w.heap.size ≤ z by omega)
  have HC := Lib.hid (fun (V : World) (fV : Fr (fun y => y = z + 3) W V) => (⟨fV, (cell_of (fV.get hg1 (by omega)) 1).trans rfl, (cell_of (fV.get hg1 (by omega)) 3).trans rfl⟩ : Fr (fun y => y = z + 3) W V ∧ V.cell? ⟨z + 1, 1, none⟩ = some (.int .u32 (r.id : Int)) ∧ V.cell? ⟨z + 1, 3, none⟩ = some (.int .i64 r.till)))
  simp only at p0 p1 p2 p3 p4 p5 p6
  have HS1 := Lib.hid s1; have HS2 := Lib.hid s2; have HS3 := Lib.hid s3
  have HW1 := Lib.hid hW1; have HW2 := Lib.hid hW2; have HW3 := Lib.hid hW3; have HW := Lib.hid hW; have HZ := Lib.hid hz
  clear hg hg1 hg2 hg3 f0 a1 a2 a3 a4 s1 s2 s3 hW1 hW2 hW3 hW hz
  go_enter Tryz.func63, Tryz.ntmps63
  go_upto_region 2 with fail
  rw [← HW1.out, ← HW2.out, ← HW3.out, ← HW.out, ← HZ.out]
  try rw [show z + 1 + 1 + 1 = z + 3 by omega, show z + 1 + 1 = z + 2 by omega]
  go_upto_block 0 with fail
  go_cut [5] (fun s5 wx => s5 = .pointer (some ⟨z + 3, 0, none⟩) ∧ wx.heap[z + 3]? = some (rpO (repOf q r)) ∧ Fr (fun y => y = z + 3) W wx)
  case first =>
    by_cases k1 : q.kind = 1
    · have b1 : (q.kind == 1) = true := by rw [k1]; rfl
      have HR := Lib.hid (show repOf q r = ⟨q.tag, q.kind, 0, r.id, 0, r.till, 0⟩ by unfold repOf; rw [if_pos k1])
      clear k1
      go_upto_region 4 with fail
      refine wp_region_held_drew (S := fun w' => Fr (fun y => y = z + 3) W w' ∧ w'.cell? ⟨z + 1, 1, none⟩ = some (.int .u32 (r.id : Int)) ∧ w'.cell? ⟨z + 1, 3, none⟩ = some (.int .i64 r.till)) (by kernel_rfl) (by exact HC.out _ (Fr.drew (Fr.refl _ _))) (fun hHeld => ?_)
      refine wpAnyH_take (i := 0) (v := ?_) rfl (by kernel_rfl) (by kernel_rfl) (by kernel_rfl) (fun _ _ _ h => h) (Or.inl ⟨by rfl, ?_⟩) (by assumption) ?_
      rotate_left
      · intro w' hSw; (try dsimp only at hSw); go_simp; try with_reducible rfl
      try simp only [Act.put, List.getElem_toArray, List.getElem_cons_zero, List.setIfInBounds_toArray, List.set_cons_zero, List.set_cons_succ]
      refine wpAnyH_take (i := 1) (v := ?_) rfl (by kernel_rfl) (by kernel_rfl) (by kernel_rfl) (fun _ _ _ h => h) (Or.inl ⟨by rfl, ?_⟩) (by assumption) ?_
      rotate_left
      · intro w' hSw; (try dsimp only at hSw); go_simp; try with_reducible rfl
      try simp only [Act.put, sL]
      refine wpAnyH_take (i := 2) (v := ?_) rfl (by kernel_rfl) (by kernel_rfl) (by kernel_rfl) (fun _ _ _ h => h) (Or.inl ⟨by rfl, ?_⟩) (by assumption) ?_
      rotate_left
      · intro w' hSw; (try dsimp only at hSw); go_simp; try with_reducible rfl
      try simp only [Act.put, sL]
      refine wpAnyH_take (i := 3) (v := ?_) rfl (by kernel_rfl) (by kernel_rfl) (by kernel_rfl) (fun _ _ _ h => h) (Or.inl ⟨by rfl, ?_⟩) (by assumption) ?_
      rotate_left
      · intro w' hSw; (try dsimp only at hSw); go_simp; try with_reducible rfl
      try simp only [Act.put, sL]
      refine wpAnyH_take (i := 4) (v := ?_) rfl (by kernel_rfl) (by kernel_rfl) (by kernel_rfl) (fun _ _ _ h => h) (Or.inl ⟨by rfl, ?_⟩) (by assumption) ?_
      rotate_left
      · intro w' hSw; (try dsimp only at hSw); go_simp; try with_reducible rfl
      try simp only [Act.put, sL]
      refine wpAnyH_ready (rs := [5]) (by kernel_rfl) (by simp) ?_
      refine AllReadyH.cons rfl (fun K hK => ?_) AllReadyH.nil
      go_simp
      skip
      try go_simp
      refine hK.out _ _ ?_ (fun hHeld => ?_)
      · (try dsimp only); exact HC.out _ (Fr.setCell hHeld.1 (fun _ => rfl) _)
      clear hK K
      try simp only [Act.put, sL]
      refine wpAnyH_take (i := 6) (v := ?_) rfl (by kernel_rfl) (by kernel_rfl) (by kernel_rfl) (fun _ _ _ h => h) (Or.inl ⟨by rfl, ?_⟩) (by assumption) ?_
      rotate_left
      · intro w' hSw; (try dsimp only at hSw); go_simp; try with_reducible rfl
      try simp only [Act.put, sL]
      refine wpAnyH_ready (rs := [7]) (by kernel_rfl) (by simp) ?_
      refine AllReadyH.cons rfl (fun K hK => ?_) AllReadyH.nil
      go_simp
      skip
      try go_simp
      refine hK.out _ _ ?_ (fun hHeld => ?_)
      · (try dsimp only); exact HC.out _ (Fr.setCell hHeld.1 (fun _ => rfl) _)
      clear hK K
      try simp only [Act.put, sL]
      refine wpAnyH_done (by kernel_rfl) ?_ _
      go_wp2_with fail
      go_meet
      exact ⟨rfl, by rw [HR.out]; exact (setCell_blk (o := 5) (setCell_blk (o := 3) HG3.out _) _).trans rfl, Fr.drew (Fr.setCell (F := fun y => y = z + 3) (p := ⟨z + 3, 5, none⟩) (Fr.setCell (F := fun y => y = z + 3) (p := ⟨z + 3, 3, none⟩) (Fr.refl _ _) (fun _ => rfl) _) (fun _ => rfl) _)⟩
    · by_cases k4 : q.kind = 4
      · have b1 : (q.kind == 1) = false := by rw [k4]; rfl
        have b4 : (q.kind == 4) = true := by rw [k4]; rfl
        have HR := Lib.hid (show repOf q r = ⟨q.tag, q.kind, 0, 0, r.seat, 0, 0⟩ by unfold repOf; rw [if_neg k1, if_pos k4])
        clear k1 k4
        go_wp2_with fail
        go_meet
        exact ⟨rfl, by rw [HR.out]; exact (setCell_blk (o := 4) HG3.out _).trans rfl, Fr.setCell (F := fun y => y = z + 3) (p := ⟨z + 3, 4, none⟩) (Fr.refl _ _) (fun _ => rfl) _⟩
      · by_cases k7 : q.kind = 7
        · have b1 : (q.kind == 1) = false := by rw [k7]; rfl
          have b4 : (q.kind == 4) = false := by rw [k7]; rfl
          have b7 : (q.kind == 7) = true := by rw [k7]; rfl
          have HR := Lib.hid (show repOf q r = ⟨q.tag, q.kind, 0, 0, 0, r.clock, 0⟩ by unfold repOf; rw [if_neg k1, if_neg k4, if_pos k7])
          clear k1 k4 k7
          go_wp2_with fail
          go_meet
          exact ⟨rfl, by rw [HR.out]; exact (setCell_blk (o := 5) HG3.out _).trans rfl, Fr.setCell (F := fun y => y = z + 3) (p := ⟨z + 3, 5, none⟩) (Fr.refl _ _) (fun _ => rfl) _⟩
        · have b1 : (q.kind == 1) = false := by simpa using k1
          have b4 : (q.kind == 4) = false := by simpa using k4
          have b7 : (q.kind == 7) = false := by simpa using k7
          have HR := Lib.hid (show repOf q r = ⟨q.tag, q.kind, 0, 0, 0, 0, 0⟩ by unfold repOf; rw [if_neg k1, if_neg k4, if_neg k7])
          clear k1 k4 k7
          go_wp2_with fail
          go_meet
          exact ⟨rfl, by rw [HR.out]; exact HG3.out, Fr.refl _ _⟩
  case rest =>
  obtain ⟨rfl, hb, hF⟩ := hcut
  obtain ⟨x, hx⟩ : ∃ x, x = repOf q r := ⟨_, rfl⟩
  have HX := Lib.hid hx
  rw [← hx] at hb
  have hb2 := hF.get HG2.out (by omega)
  have FF := Lib.hid (show Fr (fun _ => False) w (repW wc (z + 2) (x.tag : Int) x.kind x.err (x.id : Int) x.seat x.till x.count) from (((F0.out.mono (fun _ _ h => h.elim) : Fr (fun y => w.heap.size ≤ y) w W).trans hF (fun y _ e => by have := Hz.out; omega)).trans (repW_fr wc (z + 2) (x.tag : Int) x.kind x.err (x.id : Int) x.seat x.till x.count) (fun y _ e => by have := Hz.out; omega)).toNew)
  have hfin := rp_cells (x := x) (repW_at hb2 (x.tag : Int) x.kind x.err (x.id : Int) x.seat x.till x.count)
  have HFin := Lib.hid hfin
  clear z0 z1 z2 z3 z4 r0 r1 r2 r3 r4 p0 p1 p2 p3 p4 p5 p6 y0 y1 y2 y3 y4 y5 y6 hF hx hfin
  obtain ⟨p0, p1, p2, p3, p4, p5, p6⟩ := rp_cells hb
  obtain ⟨q0, q1, q2, q3, q4, q5, q6⟩ := rp_cells hb2
  obtain ⟨y0, y1, y2, y3, y4, y5, y6⟩ := rp_free hb2
  clear hb hb2
  go_wp2_with fail
  refine bodyPost_ret (v := rpV x) ?_ rfl ⟨by rw [HX.out], FF.out⟩
  obtain ⟨e0, e1, e2, e3, e4, e5, e6⟩ := HFin.out
  simp [results, Tryz.f63, go_sem, e0, e1, e2, e3, e4, e5, e6]
end Go.Proofs.YtffnjnnmlfgngaaGreat.Cs
namespace Go.Proofs.YtffnjnnmlfgngaaGreat.Cs
open Go.RowKit Go.Shelf Go.Proofs.YtffnjnnmlfgngaaGreat.Bk
attribute [local go_sem] Oper.semAt_some
theorem firstE_all {l : List Nat} (h : ∀ j (h : j < l.length), l[j] = 0) : firstE l = 0 := by
 induction l with
 | nil => rfl
 | cons e l ih =>
  have h0 : e = 0 := h 0 (by simp)
  unfold firstE
  rw [if_pos h0]
  exact ih (fun j hj => h (j + 1) (by simpa using hj))
theorem firstE_at {l : List Nat} {i : Nat} (hi : i < l.length) (h : ∀ j (h : j < l.length), j < i → l[j] = 0) (hn : l[i] ≠ 0) : firstE l = l[i] := by
 induction l generalizing i with
 | nil => simp at hi
 | cons e l ih =>
  cases i with
  | zero => exact if_neg hn
  | succ i =>
   have h0 : e = 0 := h 0 (by simp) (by omega)
   unfold firstE
   rw [if_pos h0]
   exact ih (by simpa using hi) (fun j hj hji => h (j + 1) (by simpa using hj) (by omega)) hn
/-- The rules of a change, and what each says. -/
def rulesE (b : Bk) (room : Int) (q : Rq) : List (Nat × Nat) := if q.kind = 1 then [(99, eSeat b q), (100, eTtl q), (101, eClock b q), (102, eTaken b q), (103, eFull b), (104, eFits 1 room)] else if q.kind = 2 then [(105, eKnown b q), (104, eFits 2 room)] else if q.kind = 3 then [(105, eKnown b q), (104, eFits 3 room)] else if q.kind = 4 then [(105, eKnown b q), (99, eSeat b q), (102, eTaken b q), (104, eFits 4 room)] else [(100, eTtl q), (101, eClock b q), (104, eFits 5 room)]
structure RuleOk (bb : Nat) (b : Bk) (q : Rq) (r : Rc) (room : Int) (fl e : Nat) : Prop where
 enter : ∀ args w, (callFunc fl args).run Tryz.prog w = .ok (.enter fl args) w
 call : ∀ w p, BkP p bb b.next b b.L b.L w → Calls Tryz.prog fl #[askV bb q r room] w fun e' w' => e' = .returned (.int .i64 (e : Nat)) ∧ Aft p bb b w w'
theorem aft_of {p : Pt} {bb : Nat} {b : Bk} {w : World} (h : BkP p bb b.next b b.L b.L w) {x : Ending} : ∀ e w', e = x ∧ Fr (fun _ => False) w w' → e = x ∧ Aft p bb b w w' := fun _ _ h2 => ⟨h2.1, Aft.same h h2.2⟩
theorem rule_seat (bb : Nat) (b : Bk) (q : Rq) (r : Rc) (room : Int) : RuleOk bb b q r room 99 (eSeat b q) := ⟨enters_of Tryz.func99 (by kernel_rfl) rfl, fun _ _ h => (seat_ok h q r room).mono (aft_of h)⟩
theorem rule_ttl (bb : Nat) (b : Bk) (q : Rq) (r : Rc) (room : Int) : RuleOk bb b q r room 100 (eTtl q) := ⟨enters_of Tryz.func100 (by kernel_rfl) rfl, fun _ _ h => (ttl_ok bb q r room _).mono (aft_of h)⟩
theorem rule_clock (bb : Nat) (b : Bk) (q : Rq) (r : Rc) (room : Int) : RuleOk bb b q r room 101 (eClock b q) := ⟨enters_of Tryz.func101 (by kernel_rfl) rfl, fun _ _ h => (clockr_ok h q r room).mono (aft_of h)⟩
theorem rule_taken (bb : Nat) (b : Bk) (q : Rq) (r : Rc) (room : Int) : RuleOk bb b q r room 102 (eTaken b q) := ⟨enters_of Tryz.func102 (by kernel_rfl) rfl, fun _ _ h => (takenr_ok h q r room).mono (aft_of h)⟩
theorem rule_full (bb : Nat) (b : Bk) (q : Rq) (r : Rc) (room : Int) : RuleOk bb b q r room 103 (eFull b) := ⟨enters_of Tryz.func103 (by kernel_rfl) rfl, fun _ _ h => by
 by_cases hc : b.codes ≤ b.L.length
 ·exact (full_y h q r room hc).mono (aft_of h)
 ·exact (full_n h q r room hc rfl).mono (aft_of h)⟩
theorem rule_fits (bb : Nat) (b : Bk) (q : Rq) (r : Rc) (room : Int) (k : Int) (hk : r.kind = k) (h1 : 1 ≤ k ∧ k ≤ 5) : RuleOk bb b q r room 104 (eFits k room) := ⟨enters_of Tryz.func104 (by kernel_rfl) rfl, fun w _ h => by
 subst hk; exact (fits_ok bb q r room h1 w).mono (aft_of h)⟩
theorem rule_known (bb : Nat) (b : Bk) (q : Rq) (hid : q.id < 4294967296) (r : Rc) (room : Int) : RuleOk bb b q r room 105 (eKnown b q) := ⟨enters_of Tryz.func105 (by kernel_rfl) rfl, fun _ _ h => known_ok h q hid r room⟩
theorem rules_fst {b : Bk} {room : Int} {q : Rq} (hc : isCh q.kind = true) : (rulesE b room q).map (·.1) = rulesOf q.kind ∧ refE b room q = firstE ((rulesE b room q).map (·.2)) ∧ (rulesE b room q).length ≤ 6 := by
 have hk : q.kind = 1 ∨ q.kind = 2 ∨ q.kind = 3 ∨ q.kind = 4 ∨ q.kind = 7 := by unfold isCh at hc; simpa using hc
 rcases hk with hk | hk | hk | hk | hk <;> (unfold rulesE refE; rw [hk]; exact ⟨rfl, rfl, by simp⟩)
theorem rules_ok {bb : Nat} {b : Bk} {room : Int} {q : Rq} (hc : isCh q.kind = true) (hid : q.id < 4294967296) : ∀ x ∈ rulesE b room q, RuleOk bb b q (recOf b q) room x.1 x.2 := by
 have hk : q.kind = 1 ∨ q.kind = 2 ∨ q.kind = 3 ∨ q.kind = 4 ∨ q.kind = 7 := by unfold isCh at hc; simpa using hc
 rcases hk with hk | hk | hk | hk | hk
 ·have e : rulesE b room q = [(99, eSeat b q), (100, eTtl q), (101, eClock b q), (102, eTaken b q), (103, eFull b), (104, eFits 1 room)] := by unfold rulesE; rw [hk]; rfl
  rw [e]
  intro x hx
  simp only [List.mem_cons, List.not_mem_nil, or_false] at hx
  rcases hx with rfl | rfl | rfl | rfl | rfl | rfl
  ·exact rule_seat _ _ _ _ _
  ·exact rule_ttl _ _ _ _ _
  ·exact rule_clock _ _ _ _ _
  ·exact rule_taken _ _ _ _ _
  ·exact rule_full _ _ _ _ _
  ·exact rule_fits _ _ _ _ _ 1 (by unfold recOf; rw [hk]; rfl) (by omega)
 ·have e : rulesE b room q = [(105, eKnown b q), (104, eFits 2 room)] := by unfold rulesE; rw [hk]; rfl
  rw [e]
  intro x hx
  simp only [List.mem_cons, List.not_mem_nil, or_false] at hx
  rcases hx with rfl | rfl
  ·exact rule_known _ _ _ hid _ _
  ·exact rule_fits _ _ _ _ _ 2 (by unfold recOf; rw [hk]; rfl) (by omega)
 ·have e : rulesE b room q = [(105, eKnown b q), (104, eFits 3 room)] := by unfold rulesE; rw [hk]; rfl
  rw [e]
  intro x hx
  simp only [List.mem_cons, List.not_mem_nil, or_false] at hx
  rcases hx with rfl | rfl
  ·exact rule_known _ _ _ hid _ _
  ·exact rule_fits _ _ _ _ _ 3 (by unfold recOf; rw [hk]; rfl) (by omega)
 ·have e : rulesE b room q = [(105, eKnown b q), (99, eSeat b q), (102, eTaken b q), (104, eFits 4 room)] := by unfold rulesE; rw [hk]; rfl
  rw [e]
  intro x hx
  simp only [List.mem_cons, List.not_mem_nil, or_false] at hx
  rcases hx with rfl | rfl | rfl | rfl
  ·exact rule_known _ _ _ hid _ _
  ·exact rule_seat _ _ _ _ _
  ·exact rule_taken _ _ _ _ _
  ·exact rule_fits _ _ _ _ _ 4 (by unfold recOf; rw [hk]; rfl) (by omega)
 ·have e : rulesE b room q = [(100, eTtl q), (101, eClock b q), (104, eFits 5 room)] := by unfold rulesE; rw [hk]; rfl
  rw [e]
  intro x hx
  simp only [List.mem_cons, List.not_mem_nil, or_false] at hx
  rcases hx with rfl | rfl | rfl
  ·exact rule_ttl _ _ _ _ _
  ·exact rule_clock _ _ _ _ _
  ·exact rule_fits _ _ _ _ _ 5 (by unfold recOf; rw [hk]; rfl) (by omega)
/-- What is handed back lies in two blocks of its own. -/
theorem out_end {W : World} {z1 z2 : Nat} (hne : z1 ≠ z2) {a0 b0 c0 d0 e0 : Value} (h1 : W.heap[z1]? = some (.cells #[a0, b0, c0, d0, e0] 46 (0, 0))) {x0 : Rp} (h2 : W.heap[z2]? = some (rpO x0)) (r : Rc) (x : Rp) :
  ((repW (recW W z1 r.kind (r.id : Int) r.seat r.till r.clock) z2 (x.tag : Int) x.kind x.err (x.id : Int) x.seat x.till x.count).heap[z1]? = some (.cells #[.int .i64 r.kind, .int .u32 (r.id : Int), .int .i64 r.seat, .int .i64 r.till, .int .i64 r.clock] 46 (0, 0)) ∧ (repW (recW W z1 r.kind (r.id : Int) r.seat r.till r.clock) z2 (x.tag : Int) x.kind x.err (x.id : Int) x.seat x.till x.count).heap[z2]? = some (rpO x) ∧ Fr (fun y => y = z1 ∨ y = z2) W (repW (recW W z1 r.kind (r.id : Int) r.seat r.till r.clock) z2 (x.tag : Int) x.kind x.err (x.id : Int) x.seat x.till x.count)) ∧
  ((recW (repW W z2 (x.tag : Int) x.kind x.err (x.id : Int) x.seat x.till x.count) z1 r.kind (r.id : Int) r.seat r.till r.clock).heap[z1]? = some (.cells #[.int .i64 r.kind, .int .u32 (r.id : Int), .int .i64 r.seat, .int .i64 r.till, .int .i64 r.clock] 46 (0, 0)) ∧ (recW (repW W z2 (x.tag : Int) x.kind x.err (x.id : Int) x.seat x.till x.count) z1 r.kind (r.id : Int) r.seat r.till r.clock).heap[z2]? = some (rpO x) ∧ Fr (fun y => y = z1 ∨ y = z2) W (recW (repW W z2 (x.tag : Int) x.kind x.err (x.id : Int) x.seat x.till x.count) z1 r.kind (r.id : Int) r.seat r.till r.clock)) := by
 have k1 := fun V => recW_fr V z1 r.kind (r.id : Int) r.seat r.till r.clock
 have k2 := fun V => repW_fr V z2 (x.tag : Int) x.kind x.err (x.id : Int) x.seat x.till x.count
 refine ⟨⟨(k2 _).get (recW_at h1 r.kind (r.id : Int) r.seat r.till r.clock) (fun e => hne e), repW_at ((k1 _).get h2 (fun e => hne e.symm)) (x.tag : Int) x.kind x.err (x.id : Int) x.seat x.till x.count, ((k1 W).mono (fun _ _ e => .inl e)).trans (k2 _) (fun _ _ e => .inr e)⟩,
  ⟨recW_at ((k2 _).get h1 (fun e => hne e)) r.kind (r.id : Int) r.seat r.till r.clock, (k1 _).get (repW_at h2 (x.tag : Int) x.kind x.err (x.id : Int) x.seat x.till x.count) (fun e => hne e.symm), ((k2 W).mono (fun _ _ e => .inr e)).trans (k1 _) (fun _ _ e => .inl e)⟩⟩
theorem aft_end {p : Pt} {bb : Nat} {b : Bk} {w W3 wr wf : World} {G : Nat → Prop} (hw : Fr (fun _ => False) w W3) (hA : Aft p bb b W3 wr) (f : Fr G wr wf) (hG : ∀ y, G y → y < W3.heap.size ∧ ¬ p.own bb y ∧ w.heap.size ≤ y) : Aft p bb b w wf := by
 obtain ⟨p', h1, h2, h3⟩ := hA
 refine ⟨p', h1.fr f (fun x hx hg => ?_), (((hw.mono (fun _ _ h => h.elim) : Fr (p.own bb) w W3).trans h2 (fun _ _ h => h)).trans f (fun y hy hg => by have := (hG y hg).2.2; omega)), fun y hy => (h3 y hy).imp (fun h => h) (fun h => Nat.le_trans hw.size h)⟩
 rcases h3 x hx with h | h
 ·exact (hG x hg).2.1 h
 ·have := (hG x hg).1; omega
theorem rc_cells5 {w : World} {z : Nat} {r : Rc} (h : w.heap[z]? = some (.cells #[.int .i64 r.kind, .int .u32 (r.id : Int), .int .i64 r.seat, .int .i64 r.till, .int .i64 r.clock] 46 (0, 0))) :
  w.cell? ⟨z, 0, none⟩ = some (.int .i64 r.kind) ∧ w.cell? ⟨z, 1, none⟩ = some (.int .u32 (r.id : Int)) ∧ w.cell? ⟨z, 2, none⟩ = some (.int .i64 r.seat) ∧ w.cell? ⟨z, 3, none⟩ = some (.int .i64 r.till) ∧ w.cell? ⟨z, 4, none⟩ = some (.int .i64 r.clock) :=
 ⟨(cell_of h 0).trans rfl, (cell_of h 1).trans rfl, (cell_of h 2).trans rfl, (cell_of h 3).trans rfl, (cell_of h 4).trans rfl⟩
def DecP (p : Pt) (bb : Nat) (b : Bk) (w : World) (d : Dec) (e : Ending) (w' : World) : Prop := e = .returned (decV d) ∧ Aft p bb b w w'
set_option maxRecDepth 100000 in
set_option maxHeartbeats 4000000 in
theorem decide_bad {p : Pt} {bb : Nat} {b : Bk} {w : World} (h : BkP p bb b.next b b.L b.L w) (q : Rq) (room : Int) (hbad : (rqOk q && isCh q.kind) = false) : Calls Tryz.prog 28 #[.pointer (some ⟨bb, 0, none⟩), .int .i64 room, rqV q] w (DecP p bb b w (decD b room q)) := by
 have HBad := Lib.hid hbad
 have HD := Lib.hid (show decD b room q = ⟨rc0, rp0, false, 200⟩ from if_pos hbad)
 rw [HD.out]
 obtain ⟨ch, hch⟩ : ∃ ch, ch = isCh q.kind := ⟨_, rfl⟩
 have HCq := Lib.hid (show ch = true → rqOk q = false by intro h; rw [← hch, h] at hbad; simpa using hbad)
 clear hbad
 obtain ⟨W1, hW1⟩ : ∃ W, W = w.alloc (rqC q) := ⟨_, rfl⟩
 obtain ⟨W2, hW2⟩ : ∃ W, W = W1.alloc (.cells #[.int .i64 0, .int .u32 0, .int .i64 0, .int .i64 0, .int .i64 0] 46) := ⟨_, rfl⟩
 obtain ⟨W, hW⟩ : ∃ W, W = W2.alloc (.cells #[.int .u32 0, .int .i64 0, .int .i64 0, .int .u32 0, .int .i64 0, .int .i64 0, .int .i64 0] 71) := ⟨_, rfl⟩
 obtain ⟨z, hz⟩ : ∃ z, z = w.heap.size := ⟨_, rfl⟩
 have s1 : W1.heap.size = z + 1 := by rw [hW1, hz]; simp
 have s2 : W2.heap.size = z + 2 := by rw [hW2]; simp [s1]
 have s3 : W.heap.size = z + 3 := by rw [hW]; simp [s2]
 have a1 : Fr (fun _ => False) w W1 := by rw [hW1]; exact Fr.alloc (Fr.refl _ _) _
 have a2 : Fr (fun _ => False) W1 W2 := by rw [hW2]; exact Fr.alloc (Fr.refl _ _) _
 have a3 : Fr (fun _ => False) W2 W := by rw [hW]; exact Fr.alloc (Fr.refl _ _) _
 have f0 : Fr (fun _ => False) w W := (a1.trans a2 (fun _ _ h => h)).trans a3 (fun _ _ h => h)
 have hg : W.heap[z]? = some (rqO q) := a3.get (a2.get (show W1.heap[z]? = _ by rw [hW1, hz]; exact heap_alloc_at _ _) (fun h => h)) (fun h => h)
 have hg1 : W.heap[z + 1]? = some (.cells #[.int .i64 0, .int .u32 0, .int .i64 0, .int .i64 0, .int .i64 0] 46 (0, 0)) := a3.get (show W2.heap[z + 1]? = _ by rw [hW2, ← s1]; exact heap_alloc_at _ _) (fun h => h)
 have hg2 : W.heap[z + 2]? = some (rpO rp0) := show W.heap[z + 2]? = _ by rw [hW, ← s2]; exact heap_alloc_at _ _
 have HSh := Lib.hid (shape_ok (h.keep f0))
 have HCh := Lib.hid (fun (V : World) (fV : Fr (fun _ => False) W V) => change_ok ((h.keep f0).keep fV) q)
 have HB := Lib.hid (fun (V : World) (fV : Fr (fun _ => False) W V) => (h.keep f0).keep fV)
 have hsb : decide ((b.seats : Int) = 0 ∧ (b.codes : Int) = 0 ∧ (b.group : Int) = 0) = false := by have := h.raw.s0; simp; omega
 have hq : ∀ V : World, (binOp .eql 23 (.agg #[.int .i64 (b.seats : Int), .int .i64 (b.codes : Int), .int .i64 (b.group : Int)]) (.agg #[.int .i64 0, .int .i64 0, .int .i64 0])).run Tryz.prog V = .ok (.bool false) V := fun V => by rw [← hsb]; exact shEq V _ _ _
 have Hown := Lib.hid (show ∀ x, p.own bb x → x < w.heap.size from fun x hx => h.lt hx)
 have Hz := Lib.hid hz; have F0 := Lib.hid f0; have HG := Lib.hid (And.intro hg (And.intro hg1 hg2)); have Hs := Lib.hid s3
 have HW1 := Lib.hid hW1; have HW2 := Lib.hid hW2; have HW := Lib.hid hW; have H := Lib.hid h
 have z0 := (cell_of hg 0).trans (show _ = some (Value.int .i64 q.kind) from rfl)
 clear h f0 hg hg1 hg2 a1 a2 a3 s1 s2 s3 hW1 hW2 hW hz hsb
 have HChv := Lib.hid hch
 clear hch
 go_enter Tryz.func28, Tryz.ntmps28
 go_upto_region 1 with fail
 rw [← HW1.out, ← HW2.out, ← HW.out, ← Hz.out]
 try rw [show z + 1 + 1 = z + 2 by omega]
 clear z0
 go_wp2_with fail
 refine HSh.out.mono ?_
 rintro e w1 ⟨rfl, f1⟩
 have F1 := Lib.hid f1
 have hgq := f1.get HG.out.1 (fun h => h)
 have q0 := (cell_of hgq 0).trans (show _ = some (Value.int .i64 q.kind) from rfl)
 have q1 := (cell_of hgq 1).trans (show _ = some (Value.int .u32 (q.tag : Int)) from rfl)
 have q2 := (cell_of hgq 2).trans (show _ = some (Value.int .u32 (q.id : Int)) from rfl)
 have q3 := (cell_of hgq 3).trans (show _ = some (Value.int .i64 q.seat) from rfl)
 have q4 := (cell_of hgq 4).trans (show _ = some (Value.int .i64 q.ttl) from rfl)
 clear f1 hgq
 go_upto_region 3 with fail
 go_wp2_with fail
 refine (HCh.out _ F1.out).mono ?_
 rintro e w2 ⟨vr, rfl, hrl, hro, f2⟩
 have F2 := Lib.hid (F1.out.trans f2 (fun _ _ h => h))
 obtain ⟨r, hr⟩ : ∃ r, r = chRec b q := ⟨_, rfl⟩
 rw [← hr]
 have HR := Lib.hid hr
 obtain ⟨W3, hW3⟩ : ∃ W, W = w2.alloc (rcC r) := ⟨_, rfl⟩
 obtain ⟨y, hy⟩ : ∃ y, y = w2.heap.size := ⟨_, rfl⟩
 have f3 : Fr (fun _ => False) w2 W3 := by rw [hW3]; exact Fr.alloc (Fr.refl _ _) _
 have hgy : W3.heap[y]? = some (rcC r) := by rw [hW3, hy]; exact heap_alloc_at _ _
 have F3 := Lib.hid (F2.out.trans f3 (fun _ _ h => h))
 have HRl := Lib.hid (RulesV.keep hrl f3 (fun _ h => h.elim))
 have HGy := Lib.hid hgy
 have HY := Lib.hid (show z + 3 ≤ y ∧ y < W3.heap.size from ⟨by rw [hy, ← Hs.out]; exact F2.out.size, lt_of_block hgy⟩)
 have HG3 := Lib.hid (show W3.heap[z]? = some (rqO q) ∧ W3.heap[z + 1]? = some (.cells #[.int .i64 0, .int .u32 0, .int .i64 0, .int .i64 0, .int .i64 0] 46 (0, 0)) ∧ W3.heap[z + 2]? = some (rpO rp0) from ⟨F3.out.get HG.out.1 (fun h => h), F3.out.get HG.out.2.1 (fun h => h), F3.out.get HG.out.2.2 (fun h => h)⟩)
 have HRo := Lib.hid hro
 clear f2 f3 hrl hro hr q0 q1 q2 q3 q4 hgy
 go_upto_region 4 with fail
 rw [← hW3, ← hy]
 clear hW3 hy hq
 rw [← HChv.out]
 cases ch with
 | false =>
  obtain ⟨o1, o2, o3⟩ := (out_end (z1 := z + 1) (z2 := z + 2) (by omega) HG3.out.2.1 HG3.out.2.2 rc0 rp0).1
  have HP := Lib.hid (show Aft p bb b w (repW (recW W3 (z + 1) 0 0 0 0 0) (z + 2) 0 0 0 0 0 0 0) from aft_end (F0.out.trans F3.out (fun _ _ h => h)) (Aft.same (HB.out _ F3.out) (Fr.refl _ _)) o3 (fun x hx => ⟨by have := HY.out; omega, fun ho => by have := Hown.out x ho; have := Hz.out; omega, by have := Hz.out; omega⟩))
  have HE1 := Lib.hid o1; have HE2 := Lib.hid o2
  clear o1 o2 o3
  have u0 := (cell_of HG3.out.2.1 0).trans (show _ = some (Value.int .i64 0) from rfl)
  have v0 := free_of HG3.out.2.1 0
  have u1 := (cell_of HG3.out.2.1 1).trans (show _ = some (Value.int .u32 0) from rfl)
  have v1 := free_of HG3.out.2.1 1
  have u2 := (cell_of HG3.out.2.1 2).trans (show _ = some (Value.int .i64 0) from rfl)
  have v2 := free_of HG3.out.2.1 2
  have u3 := (cell_of HG3.out.2.1 3).trans (show _ = some (Value.int .i64 0) from rfl)
  have v3 := free_of HG3.out.2.1 3
  have u4 := (cell_of HG3.out.2.1 4).trans (show _ = some (Value.int .i64 0) from rfl)
  have v4 := free_of HG3.out.2.1 4
  have s0 := (cell_of HG3.out.2.2 0).trans (show _ = some (Value.int .u32 0) from rfl)
  have t0 := free_of HG3.out.2.2 0
  have s1 := (cell_of HG3.out.2.2 1).trans (show _ = some (Value.int .i64 0) from rfl)
  have t1 := free_of HG3.out.2.2 1
  have s2 := (cell_of HG3.out.2.2 2).trans (show _ = some (Value.int .i64 0) from rfl)
  have t2 := free_of HG3.out.2.2 2
  have s3 := (cell_of HG3.out.2.2 3).trans (show _ = some (Value.int .u32 0) from rfl)
  have t3 := free_of HG3.out.2.2 3
  have s4 := (cell_of HG3.out.2.2 4).trans (show _ = some (Value.int .i64 0) from rfl)
  have t4 := free_of HG3.out.2.2 4
  have s5 := (cell_of HG3.out.2.2 5).trans (show _ = some (Value.int .i64 0) from rfl)
  have t5 := free_of HG3.out.2.2 5
  have s6 := (cell_of HG3.out.2.2 6).trans (show _ = some (Value.int .i64 0) from rfl)
  have t6 := free_of HG3.out.2.2 6
  go_wp2_with fail
  obtain ⟨e0, e1, e2, e3, e4⟩ := rc_cells5 HE1.out
  obtain ⟨p0, p1, p2, p3, p4, p5, p6⟩ := rp_cells HE2.out
  refine bodyPost_ret ?_ rfl ⟨rfl, HP.out⟩
  simp only [rc0, rp0] at e0 e1 e2 e3 e4 p0 p1 p2 p3 p4 p5 p6
  simp [results, Tryz.f28, go_sem, rc0, rp0, u0, u1, u2, u3, u4, s0, s1, s2, s3, s4, s5, s6]
 | true =>
  have hrq := HCq.out rfl
  have HRq := Lib.hid (rqcheck_ok q W3)
  rw [hrq] at HRq
  simp only [Bool.false_eq_true, if_false] at HRq
  clear hrq
  have q0 := (cell_of HG3.out.1 0).trans (show _ = some (Value.int .i64 q.kind) from rfl)
  have q1 := (cell_of HG3.out.1 1).trans (show _ = some (Value.int .u32 (q.tag : Int)) from rfl)
  have q2 := (cell_of HG3.out.1 2).trans (show _ = some (Value.int .u32 (q.id : Int)) from rfl)
  have q3 := (cell_of HG3.out.1 3).trans (show _ = some (Value.int .i64 q.seat) from rfl)
  have q4 := (cell_of HG3.out.1 4).trans (show _ = some (Value.int .i64 q.ttl) from rfl)
  go_wp2_with fail
  refine HRq.out.mono ?_
  rintro e w4 ⟨rfl, f4⟩
  have F4 := Lib.hid (F3.out.trans f4 (fun _ _ h => h))
  have HG4 := Lib.hid (show w4.heap[z]? = some (rqO q) ∧ w4.heap[z + 1]? = some (.cells #[.int .i64 0, .int .u32 0, .int .i64 0, .int .i64 0, .int .i64 0] 46 (0, 0)) ∧ w4.heap[z + 2]? = some (rpO rp0) from ⟨F4.out.get HG.out.1 (fun h => h), F4.out.get HG.out.2.1 (fun h => h), F4.out.get HG.out.2.2 (fun h => h)⟩)
  have HY4 := Lib.hid (show z + 3 ≤ y ∧ y < w4.heap.size from ⟨HY.out.1, Nat.lt_of_lt_of_le HY.out.2 f4.size⟩)
  clear f4 q0 q1 q2 q3 q4
  obtain ⟨o1, o2, o3⟩ := (out_end (z1 := z + 1) (z2 := z + 2) (by omega) HG4.out.2.1 HG4.out.2.2 rc0 rp0).1
  have HP := Lib.hid (show Aft p bb b w (repW (recW w4 (z + 1) 0 0 0 0 0) (z + 2) 0 0 0 0 0 0 0) from aft_end (F0.out.trans F4.out (fun _ _ h => h)) (Aft.same (HB.out _ F4.out) (Fr.refl _ _)) o3 (fun x hx => ⟨by have := HY4.out; omega, fun ho => by have := Hown.out x ho; have := Hz.out; omega, by have := Hz.out; omega⟩))
  have HE1 := Lib.hid o1; have HE2 := Lib.hid o2
  clear o1 o2 o3
  have u0 := (cell_of HG4.out.2.1 0).trans (show _ = some (Value.int .i64 0) from rfl)
  have v0 := free_of HG4.out.2.1 0
  have u1 := (cell_of HG4.out.2.1 1).trans (show _ = some (Value.int .u32 0) from rfl)
  have v1 := free_of HG4.out.2.1 1
  have u2 := (cell_of HG4.out.2.1 2).trans (show _ = some (Value.int .i64 0) from rfl)
  have v2 := free_of HG4.out.2.1 2
  have u3 := (cell_of HG4.out.2.1 3).trans (show _ = some (Value.int .i64 0) from rfl)
  have v3 := free_of HG4.out.2.1 3
  have u4 := (cell_of HG4.out.2.1 4).trans (show _ = some (Value.int .i64 0) from rfl)
  have v4 := free_of HG4.out.2.1 4
  have s0 := (cell_of HG4.out.2.2 0).trans (show _ = some (Value.int .u32 0) from rfl)
  have t0 := free_of HG4.out.2.2 0
  have s1 := (cell_of HG4.out.2.2 1).trans (show _ = some (Value.int .i64 0) from rfl)
  have t1 := free_of HG4.out.2.2 1
  have s2 := (cell_of HG4.out.2.2 2).trans (show _ = some (Value.int .i64 0) from rfl)
  have t2 := free_of HG4.out.2.2 2
  have s3 := (cell_of HG4.out.2.2 3).trans (show _ = some (Value.int .u32 0) from rfl)
  have t3 := free_of HG4.out.2.2 3
  have s4 := (cell_of HG4.out.2.2 4).trans (show _ = some (Value.int .i64 0) from rfl)
  have t4 := free_of HG4.out.2.2 4
  have s5 := (cell_of HG4.out.2.2 5).trans (show _ = some (Value.int .i64 0) from rfl)
  have t5 := free_of HG4.out.2.2 5
  have s6 := (cell_of HG4.out.2.2 6).trans (show _ = some (Value.int .i64 0) from rfl)
  have t6 := free_of HG4.out.2.2 6
  go_wp2_with fail
  obtain ⟨e0, e1, e2, e3, e4⟩ := rc_cells5 HE1.out
  obtain ⟨p0, p1, p2, p3, p4, p5, p6⟩ := rp_cells HE2.out
  refine bodyPost_ret ?_ rfl ⟨rfl, HP.out⟩
  simp only [rc0, rp0] at e0 e1 e2 e3 e4 p0 p1 p2 p3 p4 p5 p6
  simp [results, Tryz.f28, go_sem, rc0, rp0, u0, u1, u2, u3, u4, s0, s1, s2, s3, s4, s5, s6]
end Go.Proofs.YtffnjnnmlfgngaaGreat.Cs
namespace Go.Proofs.YtffnjnnmlfgngaaGreat.Cs
open Go.RowKit Go.Shelf Go.Proofs.YtffnjnnmlfgngaaGreat.Bk
attribute [local go_sem] Oper.semAt_some
/-- The book stands behind a call, and takes no new blocks. -/
def AftN (p : Pt) (bb : Nat) (b' : Bk) (w w' : World) : Prop := ∃ p', BkP p' bb b'.next b' b'.L b'.L w' ∧ Fr (p.own bb) w w' ∧ ∀ y, p'.own bb y → p.own bb y
theorem AftN.aft {p : Pt} {bb : Nat} {b : Bk} {w w' : World} (h : AftN p bb b w w') : Aft p bb b w w' := by
 obtain ⟨p', h1, h2, h3⟩ := h
 exact ⟨p', h1, h2, fun y hy => .inl (h3 y hy)⟩
theorem AftN.same {p : Pt} {bb : Nat} {b : Bk} {w w' : World} (h : BkP p bb b.next b b.L b.L w) (f : Fr (fun _ => False) w w') : AftN p bb b w w' := ⟨p, h.keep f, f.mono (fun _ _ h => h.elim), fun _ h => h⟩
theorem aftn_end {p : Pt} {bb : Nat} {b : Bk} {w W3 wr wf : World} {G : Nat → Prop} (hw : Fr (fun _ => False) w W3) (hA : AftN p bb b W3 wr) (f : Fr G wr wf) (hG : ∀ y, G y → y < W3.heap.size ∧ ¬ p.own bb y ∧ w.heap.size ≤ y) : AftN p bb b w wf := by
 obtain ⟨p', h1, h2, h3⟩ := hA
 exact ⟨p', h1.fr f (fun x hx hg => (hG x hg).2.1 (h3 x hx)), (((hw.mono (fun _ _ h => h.elim) : Fr (p.own bb) w W3).trans h2 (fun _ _ h => h)).trans f (fun y hy hg => by have := (hG y hg).2.2; omega)), h3⟩
theorem get_aftn {p : Pt} {bb : Nat} {b : Bk} {w : World} (h : BkP p bb b.next b b.L b.L w) {id : Nat} (hid : id < 4294967296) : Calls Tryz.prog 47 #[.pointer (some ⟨bb, 0, none⟩), .int .u32 (id : Int)] w fun e w' => e = getE (bFind b.L id) ∧ AftN p bb b w w' := by
 refine (get_ok h hid).mono ?_
 rintro e w' ⟨he, ⟨st, hb⟩, f⟩
 exact ⟨he, p.steps st, hb, f.mono (fun y _ e => by rw [e]; exact .inr (.inr (.inr (.inl rfl)))), fun y hy => hy⟩
def AnsN (p : Pt) (bb : Nat) (b : Bk) (w : World) (d : Ans) (e : Ending) (w' : World) : Prop := e = .returned (ansV d) ∧ AftN p bb b w w'
def AnsP (p : Pt) (bb : Nat) (b : Bk) (w : World) (d : Ans) (e : Ending) (w' : World) : Prop := e = .returned (ansV d) ∧ Aft p bb b w w'
set_option maxRecDepth 100000 in
set_option maxHeartbeats 4000000 in
theorem ans_bad {p : Pt} {bb : Nat} {b : Bk} {w : World} (h : BkP p bb b.next b b.L b.L w) (q : Rq) (hb : rqOk q = false) (hd : ansD b q = ⟨rp0, 200⟩) : Calls Tryz.prog 25 #[.pointer (some ⟨bb, 0, none⟩), rqV q] w (AnsN p bb b w (ansD b q)) := by
 rw [hd]
 clear hd
 obtain ⟨W1, hW1⟩ : ∃ W, W = w.alloc (rqC q) := ⟨_, rfl⟩
 obtain ⟨W, hW⟩ : ∃ W, W = W1.alloc (.cells #[.int .u32 0, .int .i64 0, .int .i64 0, .int .u32 0, .int .i64 0, .int .i64 0, .int .i64 0] 71) := ⟨_, rfl⟩
 obtain ⟨z, hz⟩ : ∃ z, z = w.heap.size := ⟨_, rfl⟩
 have s1 : W1.heap.size = z + 1 := by rw [hW1, hz]; simp
 have s3 : W.heap.size = z + 2 := by rw [hW]; simp [s1]
 have a1 : Fr (fun _ => False) w W1 := by rw [hW1]; exact Fr.alloc (Fr.refl _ _) _
 have a3 : Fr (fun _ => False) W1 W := by rw [hW]; exact Fr.alloc (Fr.refl _ _) _
 have f0 : Fr (fun _ => False) w W := a1.trans a3 (fun _ _ h => h)
 have hg : W.heap[z]? = some (rqO q) := a3.get (show W1.heap[z]? = _ by rw [hW1, hz]; exact heap_alloc_at _ _) (fun h => h)
 have hg2 : W.heap[z + 1]? = some (rpO rp0) := show W.heap[z + 1]? = _ by rw [hW, ← s1]; exact heap_alloc_at _ _
 have HSh := Lib.hid (shape_ok (h.keep f0))
 have HB := Lib.hid (fun (V : World) (fV : Fr (fun _ => False) W V) => (h.keep f0).keep fV)
 have hsb : decide ((b.seats : Int) = 0 ∧ (b.codes : Int) = 0 ∧ (b.group : Int) = 0) = false := by have := h.raw.s0; simp; omega
 have hq : ∀ V : World, (binOp .eql 23 (.agg #[.int .i64 (b.seats : Int), .int .i64 (b.codes : Int), .int .i64 (b.group : Int)]) (.agg #[.int .i64 0, .int .i64 0, .int .i64 0])).run Tryz.prog V = .ok (.bool false) V := fun V => by rw [← hsb]; exact shEq V _ _ _
 have Hown := Lib.hid (show ∀ x, p.own bb x → x < w.heap.size from fun x hx => h.lt hx)
 have Hz := Lib.hid hz; have F0 := Lib.hid f0; have HG := Lib.hid (And.intro hg hg2); have Hs := Lib.hid s3
 have HW1 := Lib.hid hW1; have HW := Lib.hid hW
 have HRq := Lib.hid (fun (V : World) => rqcheck_ok q V)
 clear h f0 hg hg2 a1 a3 s1 s3 hW1 hW hz hsb
 rw [hb] at HRq
 simp only [Bool.false_eq_true, if_false] at HRq
 clear hb
 go_enter Tryz.func25, Tryz.ntmps25
 go_upto_region 1 with fail
 rw [← HW1.out, ← HW.out, ← Hz.out]
 go_wp2_with fail
 refine HSh.out.mono ?_
 rintro e w1 ⟨rfl, f1⟩
 have F1 := Lib.hid f1
 have HG1 := Lib.hid (And.intro (f1.get HG.out.1 (fun h => h)) (f1.get HG.out.2 (fun h => h)))
 clear f1
 have q0 := (cell_of HG1.out.1 0).trans (show _ = some (Value.int .i64 q.kind) from rfl)
 have q1 := (cell_of HG1.out.1 1).trans (show _ = some (Value.int .u32 (q.tag : Int)) from rfl)
 have q2 := (cell_of HG1.out.1 2).trans (show _ = some (Value.int .u32 (q.id : Int)) from rfl)
 have q3 := (cell_of HG1.out.1 3).trans (show _ = some (Value.int .i64 q.seat) from rfl)
 have q4 := (cell_of HG1.out.1 4).trans (show _ = some (Value.int .i64 q.ttl) from rfl)
 go_wp2_with fail
 refine (HRq.out _).mono ?_
 rintro e w2 ⟨rfl, f2⟩
 have F2 := Lib.hid (F1.out.trans f2 (fun _ _ h => h))
 have HG2 := Lib.hid (And.intro (f2.get HG1.out.1 (fun h => h)) (f2.get HG1.out.2 (fun h => h)))
 clear f2 hq q0 q1 q2 q3 q4
 have q0 := (cell_of HG2.out.1 0).trans (show _ = some (Value.int .i64 q.kind) from rfl)
 have q1 := (cell_of HG2.out.1 1).trans (show _ = some (Value.int .u32 (q.tag : Int)) from rfl)
 have q2 := (cell_of HG2.out.1 2).trans (show _ = some (Value.int .u32 (q.id : Int)) from rfl)
 have q3 := (cell_of HG2.out.1 3).trans (show _ = some (Value.int .i64 q.seat) from rfl)
 have q4 := (cell_of HG2.out.1 4).trans (show _ = some (Value.int .i64 q.ttl) from rfl)
 have hf := repW_fr w2 (z + 1) 0 0 0 0 0 0 0
 have HP := Lib.hid (show AftN p bb b w (repW w2 (z + 1) 0 0 0 0 0 0 0) from aftn_end (F0.out.trans F2.out (fun _ _ h => h)) (AftN.same (HB.out _ F2.out) (Fr.refl _ _)) hf (fun y e => ⟨by rw [e]; exact lt_of_block HG2.out.2, fun ho => by have := Hown.out y ho; have := Hz.out; omega, by have := Hz.out; omega⟩))
 have HE2 := Lib.hid (repW_at HG2.out.2 0 0 0 0 0 0 0)
 clear hf
 have s0 := (cell_of HG2.out.2 0).trans (show _ = some (Value.int .u32 0) from rfl)
 have t0 := free_of HG2.out.2 0
 have s1 := (cell_of HG2.out.2 1).trans (show _ = some (Value.int .i64 0) from rfl)
 have t1 := free_of HG2.out.2 1
 have s2 := (cell_of HG2.out.2 2).trans (show _ = some (Value.int .i64 0) from rfl)
 have t2 := free_of HG2.out.2 2
 have s3 := (cell_of HG2.out.2 3).trans (show _ = some (Value.int .u32 0) from rfl)
 have t3 := free_of HG2.out.2 3
 have s4 := (cell_of HG2.out.2 4).trans (show _ = some (Value.int .i64 0) from rfl)
 have t4 := free_of HG2.out.2 4
 have s5 := (cell_of HG2.out.2 5).trans (show _ = some (Value.int .i64 0) from rfl)
 have t5 := free_of HG2.out.2 5
 have s6 := (cell_of HG2.out.2 6).trans (show _ = some (Value.int .i64 0) from rfl)
 have t6 := free_of HG2.out.2 6
 go_wp2_with fail
 refine bodyPost_ret (v := ansV ⟨rp0, 200⟩) ?_ rfl ⟨rfl, HP.out⟩
 obtain ⟨p0, p1, p2, p3, p4, p5, p6⟩ := rp_cells (x := rp0) HE2.out
 simp only [rp0] at p0 p1 p2 p3 p4 p5 p6
 simp [results, Tryz.f25, go_sem, p0, p1, p2, p3, p4, p5, p6, rp0]
set_option maxRecDepth 100000 in
set_option maxHeartbeats 4000000 in
theorem ans_no {p : Pt} {bb : Nat} {b : Bk} {w : World} (h : BkP p bb b.next b b.L b.L w) (q : Rq) (hb : rqOk q = true) (hk : q.kind ≠ 5 ∧ q.kind ≠ 6 ∧ q.kind ≠ 10) (hd : ansD b q = ⟨rp0, 200⟩) : Calls Tryz.prog 25 #[.pointer (some ⟨bb, 0, none⟩), rqV q] w (AnsN p bb b w (ansD b q)) := by
 rw [hd]
 clear hd
 obtain ⟨W1, hW1⟩ : ∃ W, W = w.alloc (rqC q) := ⟨_, rfl⟩
 obtain ⟨W, hW⟩ : ∃ W, W = W1.alloc (.cells #[.int .u32 0, .int .i64 0, .int .i64 0, .int .u32 0, .int .i64 0, .int .i64 0, .int .i64 0] 71) := ⟨_, rfl⟩
 obtain ⟨z, hz⟩ : ∃ z, z = w.heap.size := ⟨_, rfl⟩
 have s1 : W1.heap.size = z + 1 := by rw [hW1, hz]; simp
 have s3 : W.heap.size = z + 2 := by rw [hW]; simp [s1]
 have a1 : Fr (fun _ => False) w W1 := by rw [hW1]; exact Fr.alloc (Fr.refl _ _) _
 have a3 : Fr (fun _ => False) W1 W := by rw [hW]; exact Fr.alloc (Fr.refl _ _) _
 have f0 : Fr (fun _ => False) w W := a1.trans a3 (fun _ _ h => h)
 have hg : W.heap[z]? = some (rqO q) := a3.get (show W1.heap[z]? = _ by rw [hW1, hz]; exact heap_alloc_at _ _) (fun h => h)
 have hg2 : W.heap[z + 1]? = some (rpO rp0) := show W.heap[z + 1]? = _ by rw [hW, ← s1]; exact heap_alloc_at _ _
 have HSh := Lib.hid (shape_ok (h.keep f0))
 have HB := Lib.hid (fun (V : World) (fV : Fr (fun _ => False) W V) => (h.keep f0).keep fV)
 have hsb : decide ((b.seats : Int) = 0 ∧ (b.codes : Int) = 0 ∧ (b.group : Int) = 0) = false := by have := h.raw.s0; simp; omega
 have hq : ∀ V : World, (binOp .eql 23 (.agg #[.int .i64 (b.seats : Int), .int .i64 (b.codes : Int), .int .i64 (b.group : Int)]) (.agg #[.int .i64 0, .int .i64 0, .int .i64 0])).run Tryz.prog V = .ok (.bool false) V := fun V => by rw [← hsb]; exact shEq V _ _ _
 have Hown := Lib.hid (show ∀ x, p.own bb x → x < w.heap.size from fun x hx => h.lt hx)
 have Hz := Lib.hid hz; have F0 := Lib.hid f0; have HG := Lib.hid (And.intro hg hg2); have Hs := Lib.hid s3
 have HW1 := Lib.hid hW1; have HW := Lib.hid hW
 have HRq := Lib.hid (fun (V : World) => rqcheck_ok q V)
 clear h f0 hg hg2 a1 a3 s1 s3 hW1 hW hz hsb
 rw [hb] at HRq
 simp only [if_true] at HRq
 have b5 : (q.kind == 5) = false := by simpa using hk.1
 have b6 : (q.kind == 6) = false := by simpa using hk.2.1
 have b10 : (q.kind == 10) = false := by simpa using hk.2.2
 clear hb hk
 go_enter Tryz.func25, Tryz.ntmps25
 go_upto_region 1 with fail
 rw [← HW1.out, ← HW.out, ← Hz.out]
 go_wp2_with fail
 refine HSh.out.mono ?_
 rintro e w1 ⟨rfl, f1⟩
 have F1 := Lib.hid f1
 have HG1 := Lib.hid (And.intro (f1.get HG.out.1 (fun h => h)) (f1.get HG.out.2 (fun h => h)))
 clear f1
 have q0 := (cell_of HG1.out.1 0).trans (show _ = some (Value.int .i64 q.kind) from rfl)
 have q1 := (cell_of HG1.out.1 1).trans (show _ = some (Value.int .u32 (q.tag : Int)) from rfl)
 have q2 := (cell_of HG1.out.1 2).trans (show _ = some (Value.int .u32 (q.id : Int)) from rfl)
 have q3 := (cell_of HG1.out.1 3).trans (show _ = some (Value.int .i64 q.seat) from rfl)
 have q4 := (cell_of HG1.out.1 4).trans (show _ = some (Value.int .i64 q.ttl) from rfl)
 go_wp2_with fail
 refine (HRq.out _).mono ?_
 rintro e w2 ⟨rfl, f2⟩
 have F2 := Lib.hid (F1.out.trans f2 (fun _ _ h => h))
 have HG2 := Lib.hid (And.intro (f2.get HG1.out.1 (fun h => h)) (f2.get HG1.out.2 (fun h => h)))
 clear f2 hq q0 q1 q2 q3 q4
 have q0 := (cell_of HG2.out.1 0).trans (show _ = some (Value.int .i64 q.kind) from rfl)
 have q1 := (cell_of HG2.out.1 1).trans (show _ = some (Value.int .u32 (q.tag : Int)) from rfl)
 have q2 := (cell_of HG2.out.1 2).trans (show _ = some (Value.int .u32 (q.id : Int)) from rfl)
 have q3 := (cell_of HG2.out.1 3).trans (show _ = some (Value.int .i64 q.seat) from rfl)
 have q4 := (cell_of HG2.out.1 4).trans (show _ = some (Value.int .i64 q.ttl) from rfl)
 obtain ⟨V1, hV1⟩ : ∃ V, V = w2.alloc (.cells #[.int .u32 (q.tag : Int), .int .i64 q.kind, .int .i64 0, .int .u32 0, .int .i64 0, .int .i64 0, .int .i64 0] 71) := ⟨_, rfl⟩
 obtain ⟨V, hV⟩ : ∃ V, V = V1.alloc (.cells #[.int .u32 0, .int .i64 0, .int .i64 0] 68) := ⟨_, rfl⟩
 have fV : Fr (fun _ => False) w2 V := by rw [hV, hV1]; exact Fr.alloc (Fr.alloc (Fr.refl _ _) _) _
 have F2' := Lib.hid (F2.out.trans fV (fun _ _ h => h))
 have HG2' := Lib.hid (And.intro (fV.get HG2.out.1 (fun h => h)) (fV.get HG2.out.2 (fun h => h)))
 clear fV
 go_upto_region 7 with fail
 rw [← hV1, ← hV]
 clear hV hV1 q0 q1 q2 q3 q4
 have q0 := (cell_of HG2'.out.1 0).trans (show _ = some (Value.int .i64 q.kind) from rfl)
 have q1 := (cell_of HG2'.out.1 1).trans (show _ = some (Value.int .u32 (q.tag : Int)) from rfl)
 have q2 := (cell_of HG2'.out.1 2).trans (show _ = some (Value.int .u32 (q.id : Int)) from rfl)
 have q3 := (cell_of HG2'.out.1 3).trans (show _ = some (Value.int .i64 q.seat) from rfl)
 have q4 := (cell_of HG2'.out.1 4).trans (show _ = some (Value.int .i64 q.ttl) from rfl)
 have hf := repW_fr V (z + 1) 0 0 0 0 0 0 0
 have HP := Lib.hid (show AftN p bb b w (repW V (z + 1) 0 0 0 0 0 0 0) from aftn_end (F0.out.trans F2'.out (fun _ _ h => h)) (AftN.same (HB.out _ F2'.out) (Fr.refl _ _)) hf (fun y e => ⟨by rw [e]; exact lt_of_block HG2'.out.2, fun ho => by have := Hown.out y ho; have := Hz.out; omega, by have := Hz.out; omega⟩))
 have HE2 := Lib.hid (repW_at HG2'.out.2 0 0 0 0 0 0 0)
 clear hf
 have s0 := (cell_of HG2'.out.2 0).trans (show _ = some (Value.int .u32 0) from rfl)
 have t0 := free_of HG2'.out.2 0
 have s1 := (cell_of HG2'.out.2 1).trans (show _ = some (Value.int .i64 0) from rfl)
 have t1 := free_of HG2'.out.2 1
 have s2 := (cell_of HG2'.out.2 2).trans (show _ = some (Value.int .i64 0) from rfl)
 have t2 := free_of HG2'.out.2 2
 have s3 := (cell_of HG2'.out.2 3).trans (show _ = some (Value.int .u32 0) from rfl)
 have t3 := free_of HG2'.out.2 3
 have s4 := (cell_of HG2'.out.2 4).trans (show _ = some (Value.int .i64 0) from rfl)
 have t4 := free_of HG2'.out.2 4
 have s5 := (cell_of HG2'.out.2 5).trans (show _ = some (Value.int .i64 0) from rfl)
 have t5 := free_of HG2'.out.2 5
 have s6 := (cell_of HG2'.out.2 6).trans (show _ = some (Value.int .i64 0) from rfl)
 have t6 := free_of HG2'.out.2 6
 go_wp2_with fail
 refine bodyPost_ret (v := ansV ⟨rp0, 200⟩) ?_ rfl ⟨rfl, HP.out⟩
 obtain ⟨p0, p1, p2, p3, p4, p5, p6⟩ := rp_cells (x := rp0) HE2.out
 simp only [rp0] at p0 p1 p2 p3 p4 p5 p6
 simp [results, Tryz.f25, go_sem, p0, p1, p2, p3, p4, p5, p6, rp0]
set_option maxRecDepth 100000 in
set_option maxHeartbeats 4000000 in
theorem ans_5 {p : Pt} {bb : Nat} {b : Bk} {w : World} (h : BkP p bb b.next b b.L b.L w) (q : Rq) (hk : q.kind = 5) (hb : rqOk q = true) (hid : q.id < 4294967296) {xx : Bo} {n : Int} (hget : getE (bFind b.L q.id) = .returned (.tuple #[boV xx, .int .i64 n])) {X : Rp} (hd : ansD b q = ⟨X, 0⟩) (hX : X = ⟨q.tag, q.kind, n, 0, xx.2.1, xx.2.2, 0⟩) : Calls Tryz.prog 25 #[.pointer (some ⟨bb, 0, none⟩), rqV q] w (AnsN p bb b w (ansD b q)) := by
 rw [hd]
 have b5 : (q.kind == 5) = true := by rw [hk]; rfl
 have HX := Lib.hid hX
 clear hd hk hX
 obtain ⟨W1, hW1⟩ : ∃ W, W = w.alloc (rqC q) := ⟨_, rfl⟩
 obtain ⟨W, hW⟩ : ∃ W, W = W1.alloc (.cells #[.int .u32 0, .int .i64 0, .int .i64 0, .int .u32 0, .int .i64 0, .int .i64 0, .int .i64 0] 71) := ⟨_, rfl⟩
 obtain ⟨z, hz⟩ : ∃ z, z = w.heap.size := ⟨_, rfl⟩
 have s1 : W1.heap.size = z + 1 := by rw [hW1, hz]; simp
 have s3 : W.heap.size = z + 2 := by rw [hW]; simp [s1]
 have a1 : Fr (fun _ => False) w W1 := by rw [hW1]; exact Fr.alloc (Fr.refl _ _) _
 have a3 : Fr (fun _ => False) W1 W := by rw [hW]; exact Fr.alloc (Fr.refl _ _) _
 have f0 : Fr (fun _ => False) w W := a1.trans a3 (fun _ _ h => h)
 have hg : W.heap[z]? = some (rqO q) := a3.get (show W1.heap[z]? = _ by rw [hW1, hz]; exact heap_alloc_at _ _) (fun h => h)
 have hg2 : W.heap[z + 1]? = some (rpO rp0) := show W.heap[z + 1]? = _ by rw [hW, ← s1]; exact heap_alloc_at _ _
 have HSh := Lib.hid (shape_ok (h.keep f0))
 have HB := Lib.hid (fun (V : World) (fV : Fr (fun _ => False) W V) => (h.keep f0).keep fV)
 have hsb : decide ((b.seats : Int) = 0 ∧ (b.codes : Int) = 0 ∧ (b.group : Int) = 0) = false := by have := h.raw.s0; simp; omega
 have hq : ∀ V : World, (binOp .eql 23 (.agg #[.int .i64 (b.seats : Int), .int .i64 (b.codes : Int), .int .i64 (b.group : Int)]) (.agg #[.int .i64 0, .int .i64 0, .int .i64 0])).run Tryz.prog V = .ok (.bool false) V := fun V => by rw [← hsb]; exact shEq V _ _ _
 have Hown := Lib.hid (show ∀ x, p.own bb x → x < w.heap.size from fun x hx => h.lt hx)
 have Hz := Lib.hid hz; have F0 := Lib.hid f0; have HG := Lib.hid (And.intro hg hg2); have Hs := Lib.hid s3
 have HW1 := Lib.hid hW1; have HW := Lib.hid hW
 have HRq := Lib.hid (fun (V : World) => rqcheck_ok q V)
 clear h f0 hg hg2 a1 a3 s1 s3 hW1 hW hz hsb
 have Hid := Lib.hid hid; have Hget := Lib.hid hget
 clear hid hget
 rw [hb] at HRq
 simp only [if_true] at HRq
 clear hb
 go_enter Tryz.func25, Tryz.ntmps25
 go_upto_region 1 with fail
 rw [← HW1.out, ← HW.out, ← Hz.out]
 go_wp2_with fail
 refine HSh.out.mono ?_
 rintro e w1 ⟨rfl, f1⟩
 have F1 := Lib.hid f1
 have HG1 := Lib.hid (And.intro (f1.get HG.out.1 (fun h => h)) (f1.get HG.out.2 (fun h => h)))
 clear f1
 have q0 := (cell_of HG1.out.1 0).trans (show _ = some (Value.int .i64 q.kind) from rfl)
 have q1 := (cell_of HG1.out.1 1).trans (show _ = some (Value.int .u32 (q.tag : Int)) from rfl)
 have q2 := (cell_of HG1.out.1 2).trans (show _ = some (Value.int .u32 (q.id : Int)) from rfl)
 have q3 := (cell_of HG1.out.1 3).trans (show _ = some (Value.int .i64 q.seat) from rfl)
 have q4 := (cell_of HG1.out.1 4).trans (show _ = some (Value.int .i64 q.ttl) from rfl)
 go_wp2_with fail
 refine (HRq.out _).mono ?_
 rintro e w2 ⟨rfl, f2⟩
 have F2 := Lib.hid (F1.out.trans f2 (fun _ _ h => h))
 have HG2 := Lib.hid (And.intro (f2.get HG1.out.1 (fun h => h)) (f2.get HG1.out.2 (fun h => h)))
 clear f2 hq q0 q1 q2 q3 q4
 have q0 := (cell_of HG2.out.1 0).trans (show _ = some (Value.int .i64 q.kind) from rfl)
 have q1 := (cell_of HG2.out.1 1).trans (show _ = some (Value.int .u32 (q.tag : Int)) from rfl)
 have q2 := (cell_of HG2.out.1 2).trans (show _ = some (Value.int .u32 (q.id : Int)) from rfl)
 have q3 := (cell_of HG2.out.1 3).trans (show _ = some (Value.int .i64 q.seat) from rfl)
 have q4 := (cell_of HG2.out.1 4).trans (show _ = some (Value.int .i64 q.ttl) from rfl)
 obtain ⟨V1, hV1⟩ : ∃ V, V = w2.alloc (.cells #[.int .u32 (q.tag : Int), .int .i64 q.kind, .int .i64 0, .int .u32 0, .int .i64 0, .int .i64 0, .int .i64 0] 71) := ⟨_, rfl⟩
 obtain ⟨V, hV⟩ : ∃ V, V = V1.alloc (.cells #[.int .u32 0, .int .i64 0, .int .i64 0] 68) := ⟨_, rfl⟩
 obtain ⟨c, hc⟩ : ∃ c, c = w2.heap.size := ⟨_, rfl⟩
 have sc : V1.heap.size = c + 1 := by rw [hV1, hc]; simp
 have fV1 : Fr (fun _ => False) w2 V1 := by rw [hV1]; exact Fr.alloc (Fr.refl _ _) _
 have fV2 : Fr (fun _ => False) V1 V := by rw [hV]; exact Fr.alloc (Fr.refl _ _) _
 have fV : Fr (fun _ => False) w2 V := fV1.trans fV2 (fun _ _ h => h)
 have hgc : V.heap[c]? = some (rpO ⟨q.tag, q.kind, 0, 0, 0, 0, 0⟩) := fV2.get (show V1.heap[c]? = _ by rw [hV1, hc]; exact heap_alloc_at _ _) (fun h => h)
 have hgb : V.heap[c + 1]? = some (.cells #[.int .u32 0, .int .i64 0, .int .i64 0] 68 (0, 0)) := show V.heap[c + 1]? = _ by rw [hV, ← sc]; exact heap_alloc_at _ _
 have F3 := Lib.hid (F2.out.trans fV (fun _ _ h => h))
 have HG3 := Lib.hid (And.intro (fV.get HG2.out.1 (fun h => h)) (And.intro (fV.get HG2.out.2 (fun h => h)) (And.intro hgc hgb)))
 have HC := Lib.hid (show z + 2 ≤ c ∧ c + 1 < V.heap.size from ⟨by rw [hc, ← Hs.out]; exact F2.out.size, lt_of_block hgb⟩)
 have HV1 := Lib.hid hV1; have HV := Lib.hid hV; have Hc := Lib.hid hc; have Hsc := Lib.hid sc
 clear fV fV1 fV2 hgc hgb hV1 hV hc sc
 go_upto_region 7 with fail
 rw [← HV1.out, ← HV.out, ← Hc.out]
 try rw [Hsc.out]
 clear q0 q1 q2 q3 q4
 have q0 := (cell_of HG3.out.1 0).trans (show _ = some (Value.int .i64 q.kind) from rfl)
 have q1 := (cell_of HG3.out.1 1).trans (show _ = some (Value.int .u32 (q.tag : Int)) from rfl)
 have q2 := (cell_of HG3.out.1 2).trans (show _ = some (Value.int .u32 (q.id : Int)) from rfl)
 have q3 := (cell_of HG3.out.1 3).trans (show _ = some (Value.int .i64 q.seat) from rfl)
 have q4 := (cell_of HG3.out.1 4).trans (show _ = some (Value.int .i64 q.ttl) from rfl)
 go_upto_block 0 with fail
 go_cut [6] (fun s6 wx => s6 = .pointer (some ⟨c, 0, none⟩) ∧ wx.heap[c]? = some (rpO X) ∧ wx.heap[z + 1]? = some (rpO rp0) ∧ ∃ w4, AftN p bb b V w4 ∧ Fr (fun y => y = c ∨ y = c + 1) w4 wx)
 case first =>
  have Hown2 := Lib.hid (show ∀ x, z ≤ x → ¬ p.own bb x from fun x hx ho => by have := Hown.out x ho; have := Hz.out; omega)
  have HCall := Lib.hid (get_aftn (HB.out _ F3.out) Hid.out)
  rw [Hget.out] at HCall
  go_wp2_with fail
  refine HCall.out.mono ?_
  rintro e w4 ⟨rfl, a4⟩
  obtain ⟨p4, hB4, hF4, hO4⟩ := id a4
  have HA4 := Lib.hid a4
  have hc4 := hF4.get HG3.out.2.2.1 (Hown2.out _ (by have := HC.out; omega))
  have hb4 := hF4.get HG3.out.2.2.2 (Hown2.out _ (by have := HC.out; omega))
  have hz4 := hF4.get HG3.out.2.1 (Hown2.out _ (by omega))
  clear hB4 hF4 hO4 a4 q0 q1 q2 q3 q4
  have b0 := (cell_of hb4 0).trans (show _ = some (Value.int .u32 0) from rfl)
  have b1 := (cell_of hb4 1).trans (show _ = some (Value.int .i64 0) from rfl)
  have b2 := (cell_of hb4 2).trans (show _ = some (Value.int .i64 0) from rfl)
  have c0 := free_of hb4 0; have c1 := free_of hb4 1; have c2 := free_of hb4 2
  have p2 := (cell_of hc4 2).trans (show _ = some (Value.int .i64 0) from rfl)
  have y2 := free_of hc4 2
  obtain ⟨W5, hW5⟩ : ∃ W, W = (((w4.setCell ⟨c + 1, 0, none⟩ (.int .u32 (xx.1 : Int))).setCell ⟨c + 1, 1, none⟩ (.int .i64 xx.2.1)).setCell ⟨c + 1, 2, none⟩ (.int .i64 xx.2.2)).setCell ⟨c, 2, none⟩ (.int .i64 n) := ⟨_, rfl⟩
  have f5a : Fr (fun y => y = c + 1) w4 (((w4.setCell ⟨c + 1, 0, none⟩ (.int .u32 (xx.1 : Int))).setCell ⟨c + 1, 1, none⟩ (.int .i64 xx.2.1)).setCell ⟨c + 1, 2, none⟩ (.int .i64 xx.2.2)) := ((((Fr.refl (fun y => y = c + 1) w4).setCell (p := ⟨c + 1, 0, none⟩) (fun _ => rfl) _).setCell (p := ⟨c + 1, 1, none⟩) (fun _ => rfl) _).setCell (p := ⟨c + 1, 2, none⟩) (fun _ => rfl) _)
  have f5b : Fr (fun y => y = c) (((w4.setCell ⟨c + 1, 0, none⟩ (.int .u32 (xx.1 : Int))).setCell ⟨c + 1, 1, none⟩ (.int .i64 xx.2.1)).setCell ⟨c + 1, 2, none⟩ (.int .i64 xx.2.2)) W5 := by rw [hW5]; exact Fr.setCell (F := fun y => y = c) (p := ⟨c, 2, none⟩) (Fr.refl _ _) (fun _ => rfl) _
  have hb5 : W5.heap[c + 1]? = some (.cells #[.int .u32 (xx.1 : Int), .int .i64 xx.2.1, .int .i64 xx.2.2] 68 (0, 0)) := f5b.get (setCell_blk (o := 2) (setCell_blk (o := 1) (setCell_blk (o := 0) hb4 _) _) _) (by omega)
  have hc5 : W5.heap[c]? = some (rpO ⟨q.tag, q.kind, n, 0, 0, 0, 0⟩) := by rw [hW5]; exact (setCell_blk (o := 2) (f5a.get hc4 (by omega)) (.int .i64 n)).trans rfl
  have hz5 : W5.heap[z + 1]? = some (rpO rp0) := f5b.get (f5a.get hz4 (by have := HC.out; omega)) (by have := HC.out; omega)
  have F5 := Lib.hid (show Fr (fun y => y = c ∨ y = c + 1) w4 W5 from (f5a.mono (fun _ _ e => .inr e)).trans f5b (fun _ _ e => .inl e))
  have HG5 := Lib.hid (And.intro hb5 (And.intro hc5 hz5)); have HW5 := Lib.hid hW5
  clear f5a f5b hc4 hb4 hz4 hb5 hc5 hz5 hW5
  go_upto_region 11 with fail
  rw [← HW5.out]
  clear b0 b1 b2 c0 c1 c2 p2 y2
  have l1 := (cell_of HG5.out.1 1).trans (show _ = some (Value.int .i64 xx.2.1) from rfl)
  have l2 := (cell_of HG5.out.1 2).trans (show _ = some (Value.int .i64 xx.2.2) from rfl)
  have m1 := (cell_of HG5.out.2.1 4).trans (show _ = some (Value.int .i64 0) from rfl)
  have m2 := (cell_of HG5.out.2.1 5).trans (show _ = some (Value.int .i64 0) from rfl)
  have n1 := free_of HG5.out.2.1 4; have n2 := free_of HG5.out.2.1 5
  have HSS := Lib.hid (fun (V : World) (f : Fr (fun y => y = c) W5 V) => (⟨f, (cell_of (f.get HG5.out.1 (by omega)) 1).trans rfl, (cell_of (f.get HG5.out.1 (by omega)) 2).trans rfl⟩ : Fr (fun y => y = c) W5 V ∧ V.cell? ⟨c + 1, 1, none⟩ = some (.int .i64 xx.2.1) ∧ V.cell? ⟨c + 1, 2, none⟩ = some (.int .i64 xx.2.2)))
  refine wp_region_held_drew (S := fun w' => Fr (fun y => y = c) W5 w' ∧ w'.cell? ⟨c + 1, 1, none⟩ = some (.int .i64 xx.2.1) ∧ w'.cell? ⟨c + 1, 2, none⟩ = some (.int .i64 xx.2.2)) (by kernel_rfl) (by exact HSS.out _ (Fr.drew (Fr.refl _ _))) (fun hHeld => ?_)
  refine wpAnyH_take (i := 0) (v := ?_) rfl (by kernel_rfl) (by kernel_rfl) (by kernel_rfl) (fun _ _ _ h => h) (Or.inl ⟨by rfl, ?_⟩) (by assumption) ?_
  rotate_left
  ·intro w' hSw; (try dsimp only at hSw); go_simp; try with_reducible rfl
  try simp only [Act.put, List.getElem_toArray, List.getElem_cons_zero, List.setIfInBounds_toArray, List.set_cons_zero, List.set_cons_succ]
  refine wpAnyH_take (i := 1) (v := ?_) rfl (by kernel_rfl) (by kernel_rfl) (by kernel_rfl) (fun _ _ _ h => h) (Or.inl ⟨by rfl, ?_⟩) (by assumption) ?_
  rotate_left
  ·intro w' hSw; (try dsimp only at hSw); go_simp; try with_reducible rfl
  try simp only [Act.put, sL]
  refine wpAnyH_take (i := 2) (v := ?_) rfl (by kernel_rfl) (by kernel_rfl) (by kernel_rfl) (fun _ _ _ h => h) (Or.inl ⟨by rfl, ?_⟩) (by assumption) ?_
  rotate_left
  ·intro w' hSw; (try dsimp only at hSw); go_simp; try with_reducible rfl
  try simp only [Act.put, sL]
  refine wpAnyH_take (i := 3) (v := ?_) rfl (by kernel_rfl) (by kernel_rfl) (by kernel_rfl) (fun _ _ _ h => h) (Or.inl ⟨by rfl, ?_⟩) (by assumption) ?_
  rotate_left
  ·intro w' hSw; (try dsimp only at hSw); go_simp; try with_reducible rfl
  try simp only [Act.put, sL]
  refine wpAnyH_take (i := 4) (v := ?_) rfl (by kernel_rfl) (by kernel_rfl) (by kernel_rfl) (fun _ _ _ h => h) (Or.inl ⟨by rfl, ?_⟩) (by assumption) ?_
  rotate_left
  ·intro w' hSw; (try dsimp only at hSw); go_simp; try with_reducible rfl
  try simp only [Act.put, sL]
  refine wpAnyH_ready (rs := [5]) (by kernel_rfl) (by simp) ?_
  refine AllReadyH.cons rfl (fun K hK => ?_) AllReadyH.nil
  go_simp
  skip
  try go_simp
  refine hK.out _ _ ?_ (fun hHeld => ?_)
  ·(try dsimp only); exact HSS.out _ (Fr.drew (Fr.setCell (F := fun y => y = c) (p := ⟨c, 4, none⟩) (Fr.refl _ _) (fun _ => rfl) _))
  clear hK K
  try simp only [Act.put, sL]
  refine wpAnyH_take (i := 6) (v := ?_) rfl (by kernel_rfl) (by kernel_rfl) (by kernel_rfl) (fun _ _ _ h => h) (Or.inl ⟨by rfl, ?_⟩) (by assumption) ?_
  rotate_left
  ·intro w' hSw; (try dsimp only at hSw); go_simp; try with_reducible rfl
  try simp only [Act.put, sL]
  refine wpAnyH_ready (rs := [7]) (by kernel_rfl) (by simp) ?_
  refine AllReadyH.cons rfl (fun K hK => ?_) AllReadyH.nil
  go_simp
  skip
  try go_simp
  refine hK.out _ _ ?_ (fun hHeld => ?_)
  ·(try dsimp only); exact HSS.out _ (Fr.drew (Fr.setCell (F := fun y => y = c) (p := ⟨c, 5, none⟩) (Fr.setCell (F := fun y => y = c) (p := ⟨c, 4, none⟩) (Fr.refl _ _) (fun _ => rfl) _) (fun _ => rfl) _))
  clear hK K
  try simp only [Act.put, sL]
  refine wpAnyH_done (by kernel_rfl) ?_ _
  go_wp2_with fail
  go_meet
  exact ⟨rfl, by rw [HX.out]; exact (setCell_blk (o := 5) (setCell_blk (o := 4) HG5.out.2.1 _) _).trans rfl, Fr.get (Fr.drew (Fr.setCell (F := fun y => y = c) (p := ⟨c, 5, none⟩) (Fr.setCell (F := fun y => y = c) (p := ⟨c, 4, none⟩) (Fr.refl _ _) (fun _ => rfl) _) (fun _ => rfl) _)) HG5.out.2.2 (by have := HC.out; omega), w4, HA4.out, F5.out.trans (Fr.drew (Fr.setCell (F := fun y => y = c) (p := ⟨c, 5, none⟩) (Fr.setCell (F := fun y => y = c) (p := ⟨c, 4, none⟩) (Fr.refl _ _) (fun _ => rfl) _) (fun _ => rfl) _)) (fun _ _ e => .inl e)⟩
 case rest =>
 obtain ⟨rfl, hb, hb2, w4, hA, h4⟩ := hcut
 have hf := repW_fr wc (z + 1) (X.tag : Int) X.kind X.err (X.id : Int) X.seat X.till X.count
 have HP := Lib.hid (show AftN p bb b w (repW wc (z + 1) (X.tag : Int) X.kind X.err (X.id : Int) X.seat X.till X.count) from aftn_end (G := fun y => y = c ∨ y = c + 1 ∨ y = z + 1) (F0.out.trans F3.out (fun _ _ h => h)) hA ((h4.mono (fun _ _ h => h.imp (fun h => h) (fun h => .inl h))).trans hf (fun y _ e => .inr (.inr e))) (fun y hy => ⟨by have := HC.out; omega, fun ho => by have := Hown.out y ho; have := Hz.out; have := HC.out; omega, by have := Hz.out; have := HC.out; omega⟩))
 have HE2 := Lib.hid (repW_at (x := rp0) hb2 (X.tag : Int) X.kind X.err (X.id : Int) X.seat X.till X.count)
 clear q0 q1 q2 q3 q4 hA h4 hf
 obtain ⟨p0, p1, p2, p3, p4, p5, p6⟩ := rp_cells hb
 have s := rp_cells hb2
 obtain ⟨y0, y1, y2, y3, y4, y5, y6⟩ := rp_free hb2
 simp only [rp0] at s
 obtain ⟨s0, s1, s2, s3, s4, s5, s6⟩ := s
 clear hb hb2
 go_wp2_with fail
 refine bodyPost_ret (v := ansV ⟨X, 0⟩) ?_ rfl ⟨rfl, HP.out⟩
 obtain ⟨e0, e1, e2, e3, e4, e5, e6⟩ := rp_cells (x := X) HE2.out
 simp [results, Tryz.f25, go_sem, e0, e1, e2, e3, e4, e5, e6]
set_option maxRecDepth 100000 in
set_option maxHeartbeats 4000000 in
theorem ans_6 {p : Pt} {bb : Nat} {b : Bk} {w : World} (h : BkP p bb b.next b b.L b.L w) (q : Rq) (hk : q.kind = 6) (hb : rqOk q = true) {xx : Bo} {n : Int} (hget : atE b q.seat = .returned (.tuple #[boV xx, .int .i64 n])) {X : Rp} (hd : ansD b q = ⟨X, 0⟩) (hX : X = ⟨q.tag, q.kind, n, xx.1, 0, xx.2.2, 0⟩) : Calls Tryz.prog 25 #[.pointer (some ⟨bb, 0, none⟩), rqV q] w (AnsN p bb b w (ansD b q)) := by
 rw [hd]
 have b5 : (q.kind == 5) = false := by rw [hk]; rfl
 have b6 : (q.kind == 6) = true := by rw [hk]; rfl
 have HX := Lib.hid hX
 clear hd hk hX
 obtain ⟨W1, hW1⟩ : ∃ W, W = w.alloc (rqC q) := ⟨_, rfl⟩
 obtain ⟨W, hW⟩ : ∃ W, W = W1.alloc (.cells #[.int .u32 0, .int .i64 0, .int .i64 0, .int .u32 0, .int .i64 0, .int .i64 0, .int .i64 0] 71) := ⟨_, rfl⟩
 obtain ⟨z, hz⟩ : ∃ z, z = w.heap.size := ⟨_, rfl⟩
 have s1 : W1.heap.size = z + 1 := by rw [hW1, hz]; simp
 have s3 : W.heap.size = z + 2 := by rw [hW]; simp [s1]
 have a1 : Fr (fun _ => False) w W1 := by rw [hW1]; exact Fr.alloc (Fr.refl _ _) _
 have a3 : Fr (fun _ => False) W1 W := by rw [hW]; exact Fr.alloc (Fr.refl _ _) _
 have f0 : Fr (fun _ => False) w W := a1.trans a3 (fun _ _ h => h)
 have hg : W.heap[z]? = some (rqO q) := a3.get (show W1.heap[z]? = _ by rw [hW1, hz]; exact heap_alloc_at _ _) (fun h => h)
 have hg2 : W.heap[z + 1]? = some (rpO rp0) := show W.heap[z + 1]? = _ by rw [hW, ← s1]; exact heap_alloc_at _ _
 have HSh := Lib.hid (shape_ok (h.keep f0))
 have HB := Lib.hid (fun (V : World) (fV : Fr (fun _ => False) W V) => (h.keep f0).keep fV)
 have hsb : decide ((b.seats : Int) = 0 ∧ (b.codes : Int) = 0 ∧ (b.group : Int) = 0) = false := by have := h.raw.s0; simp; omega
 have hq : ∀ V : World, (binOp .eql 23 (.agg #[.int .i64 (b.seats : Int), .int .i64 (b.codes : Int), .int .i64 (b.group : Int)]) (.agg #[.int .i64 0, .int .i64 0, .int .i64 0])).run Tryz.prog V = .ok (.bool false) V := fun V => by rw [← hsb]; exact shEq V _ _ _
 have Hown := Lib.hid (show ∀ x, p.own bb x → x < w.heap.size from fun x hx => h.lt hx)
 have Hz := Lib.hid hz; have F0 := Lib.hid f0; have HG := Lib.hid (And.intro hg hg2); have Hs := Lib.hid s3
 have HW1 := Lib.hid hW1; have HW := Lib.hid hW
 have HRq := Lib.hid (fun (V : World) => rqcheck_ok q V)
 clear h f0 hg hg2 a1 a3 s1 s3 hW1 hW hz hsb
 have Hget := Lib.hid hget
 clear hget
 rw [hb] at HRq
 simp only [if_true] at HRq
 clear hb
 go_enter Tryz.func25, Tryz.ntmps25
 go_upto_region 1 with fail
 rw [← HW1.out, ← HW.out, ← Hz.out]
 go_wp2_with fail
 refine HSh.out.mono ?_
 rintro e w1 ⟨rfl, f1⟩
 have F1 := Lib.hid f1
 have HG1 := Lib.hid (And.intro (f1.get HG.out.1 (fun h => h)) (f1.get HG.out.2 (fun h => h)))
 clear f1
 have q0 := (cell_of HG1.out.1 0).trans (show _ = some (Value.int .i64 q.kind) from rfl)
 have q1 := (cell_of HG1.out.1 1).trans (show _ = some (Value.int .u32 (q.tag : Int)) from rfl)
 have q2 := (cell_of HG1.out.1 2).trans (show _ = some (Value.int .u32 (q.id : Int)) from rfl)
 have q3 := (cell_of HG1.out.1 3).trans (show _ = some (Value.int .i64 q.seat) from rfl)
 have q4 := (cell_of HG1.out.1 4).trans (show _ = some (Value.int .i64 q.ttl) from rfl)
 go_wp2_with fail
 refine (HRq.out _).mono ?_
 rintro e w2 ⟨rfl, f2⟩
 have F2 := Lib.hid (F1.out.trans f2 (fun _ _ h => h))
 have HG2 := Lib.hid (And.intro (f2.get HG1.out.1 (fun h => h)) (f2.get HG1.out.2 (fun h => h)))
 clear f2 hq q0 q1 q2 q3 q4
 have q0 := (cell_of HG2.out.1 0).trans (show _ = some (Value.int .i64 q.kind) from rfl)
 have q1 := (cell_of HG2.out.1 1).trans (show _ = some (Value.int .u32 (q.tag : Int)) from rfl)
 have q2 := (cell_of HG2.out.1 2).trans (show _ = some (Value.int .u32 (q.id : Int)) from rfl)
 have q3 := (cell_of HG2.out.1 3).trans (show _ = some (Value.int .i64 q.seat) from rfl)
 have q4 := (cell_of HG2.out.1 4).trans (show _ = some (Value.int .i64 q.ttl) from rfl)
 obtain ⟨V1, hV1⟩ : ∃ V, V = w2.alloc (.cells #[.int .u32 (q.tag : Int), .int .i64 q.kind, .int .i64 0, .int .u32 0, .int .i64 0, .int .i64 0, .int .i64 0] 71) := ⟨_, rfl⟩
 obtain ⟨V, hV⟩ : ∃ V, V = V1.alloc (.cells #[.int .u32 0, .int .i64 0, .int .i64 0] 68) := ⟨_, rfl⟩
 obtain ⟨c, hc⟩ : ∃ c, c = w2.heap.size := ⟨_, rfl⟩
 have sc : V1.heap.size = c + 1 := by rw [hV1, hc]; simp
 have fV1 : Fr (fun _ => False) w2 V1 := by rw [hV1]; exact Fr.alloc (Fr.refl _ _) _
 have fV2 : Fr (fun _ => False) V1 V := by rw [hV]; exact Fr.alloc (Fr.refl _ _) _
 have fV : Fr (fun _ => False) w2 V := fV1.trans fV2 (fun _ _ h => h)
 have hgc : V.heap[c]? = some (rpO ⟨q.tag, q.kind, 0, 0, 0, 0, 0⟩) := fV2.get (show V1.heap[c]? = _ by rw [hV1, hc]; exact heap_alloc_at _ _) (fun h => h)
 have hgb : V.heap[c + 1]? = some (.cells #[.int .u32 0, .int .i64 0, .int .i64 0] 68 (0, 0)) := show V.heap[c + 1]? = _ by rw [hV, ← sc]; exact heap_alloc_at _ _
 have F3 := Lib.hid (F2.out.trans fV (fun _ _ h => h))
 have HG3 := Lib.hid (And.intro (fV.get HG2.out.1 (fun h => h)) (And.intro (fV.get HG2.out.2 (fun h => h)) (And.intro hgc hgb)))
 have HC := Lib.hid (show z + 2 ≤ c ∧ c + 1 < V.heap.size from ⟨by rw [hc, ← Hs.out]; exact F2.out.size, lt_of_block hgb⟩)
 have HV1 := Lib.hid hV1; have HV := Lib.hid hV; have Hc := Lib.hid hc; have Hsc := Lib.hid sc
 clear fV fV1 fV2 hgc hgb hV1 hV hc sc
 go_upto_region 7 with fail
 rw [← HV1.out, ← HV.out, ← Hc.out]
 try rw [Hsc.out]
 clear q0 q1 q2 q3 q4
 have q0 := (cell_of HG3.out.1 0).trans (show _ = some (Value.int .i64 q.kind) from rfl)
 have q1 := (cell_of HG3.out.1 1).trans (show _ = some (Value.int .u32 (q.tag : Int)) from rfl)
 have q2 := (cell_of HG3.out.1 2).trans (show _ = some (Value.int .u32 (q.id : Int)) from rfl)
 have q3 := (cell_of HG3.out.1 3).trans (show _ = some (Value.int .i64 q.seat) from rfl)
 have q4 := (cell_of HG3.out.1 4).trans (show _ = some (Value.int .i64 q.ttl) from rfl)
 go_upto_block 0 with fail
 go_cut [6] (fun s6 wx => s6 = .pointer (some ⟨c, 0, none⟩) ∧ wx.heap[c]? = some (rpO X) ∧ wx.heap[z + 1]? = some (rpO rp0) ∧ ∃ w4, AftN p bb b V w4 ∧ Fr (fun y => y = c ∨ y = c + 1) w4 wx)
 case first =>
  have Hown2 := Lib.hid (show ∀ x, z ≤ x → ¬ p.own bb x from fun x hx ho => by have := Hown.out x ho; have := Hz.out; omega)
  have hcl := at_ok (HB.out _ F3.out) q.seat
  rw [Hget.out] at hcl
  have HCall := Lib.hid (hcl.mono (fun e w' hh => (⟨hh.1, AftN.same (HB.out _ F3.out) hh.2⟩ : e = .returned (.tuple #[boV xx, .int .i64 n]) ∧ AftN p bb b V w')))
  clear hcl
  go_wp2_with fail
  refine HCall.out.mono ?_
  rintro e w4 ⟨rfl, a4⟩
  obtain ⟨p4, hB4, hF4, hO4⟩ := id a4
  have HA4 := Lib.hid a4
  have hc4 := hF4.get HG3.out.2.2.1 (Hown2.out _ (by have := HC.out; omega))
  have hb4 := hF4.get HG3.out.2.2.2 (Hown2.out _ (by have := HC.out; omega))
  have hz4 := hF4.get HG3.out.2.1 (Hown2.out _ (by omega))
  clear hB4 hF4 hO4 a4 q0 q1 q2 q3 q4
  have b0 := (cell_of hb4 0).trans (show _ = some (Value.int .u32 0) from rfl)
  have b1 := (cell_of hb4 1).trans (show _ = some (Value.int .i64 0) from rfl)
  have b2 := (cell_of hb4 2).trans (show _ = some (Value.int .i64 0) from rfl)
  have c0 := free_of hb4 0; have c1 := free_of hb4 1; have c2 := free_of hb4 2
  have p2 := (cell_of hc4 2).trans (show _ = some (Value.int .i64 0) from rfl)
  have y2 := free_of hc4 2
  obtain ⟨W5, hW5⟩ : ∃ W, W = (((w4.setCell ⟨c + 1, 0, none⟩ (.int .u32 (xx.1 : Int))).setCell ⟨c + 1, 1, none⟩ (.int .i64 xx.2.1)).setCell ⟨c + 1, 2, none⟩ (.int .i64 xx.2.2)).setCell ⟨c, 2, none⟩ (.int .i64 n) := ⟨_, rfl⟩
  have f5a : Fr (fun y => y = c + 1) w4 (((w4.setCell ⟨c + 1, 0, none⟩ (.int .u32 (xx.1 : Int))).setCell ⟨c + 1, 1, none⟩ (.int .i64 xx.2.1)).setCell ⟨c + 1, 2, none⟩ (.int .i64 xx.2.2)) := ((((Fr.refl (fun y => y = c + 1) w4).setCell (p := ⟨c + 1, 0, none⟩) (fun _ => rfl) _).setCell (p := ⟨c + 1, 1, none⟩) (fun _ => rfl) _).setCell (p := ⟨c + 1, 2, none⟩) (fun _ => rfl) _)
  have f5b : Fr (fun y => y = c) (((w4.setCell ⟨c + 1, 0, none⟩ (.int .u32 (xx.1 : Int))).setCell ⟨c + 1, 1, none⟩ (.int .i64 xx.2.1)).setCell ⟨c + 1, 2, none⟩ (.int .i64 xx.2.2)) W5 := by rw [hW5]; exact Fr.setCell (F := fun y => y = c) (p := ⟨c, 2, none⟩) (Fr.refl _ _) (fun _ => rfl) _
  have hb5 : W5.heap[c + 1]? = some (.cells #[.int .u32 (xx.1 : Int), .int .i64 xx.2.1, .int .i64 xx.2.2] 68 (0, 0)) := f5b.get (setCell_blk (o := 2) (setCell_blk (o := 1) (setCell_blk (o := 0) hb4 _) _) _) (by omega)
  have hc5 : W5.heap[c]? = some (rpO ⟨q.tag, q.kind, n, 0, 0, 0, 0⟩) := by rw [hW5]; exact (setCell_blk (o := 2) (f5a.get hc4 (by omega)) (.int .i64 n)).trans rfl
  have hz5 : W5.heap[z + 1]? = some (rpO rp0) := f5b.get (f5a.get hz4 (by have := HC.out; omega)) (by have := HC.out; omega)
  have F5 := Lib.hid (show Fr (fun y => y = c ∨ y = c + 1) w4 W5 from (f5a.mono (fun _ _ e => .inr e)).trans f5b (fun _ _ e => .inl e))
  have HG5 := Lib.hid (And.intro hb5 (And.intro hc5 hz5)); have HW5 := Lib.hid hW5
  clear f5a f5b hc4 hb4 hz4 hb5 hc5 hz5 hW5
  go_upto_region 14 with fail
  rw [← HW5.out]
  clear b0 b1 b2 c0 c1 c2 p2 y2
  have l1 := (cell_of HG5.out.1 0).trans (show _ = some (Value.int .u32 (xx.1 : Int)) from rfl)
  have l2 := (cell_of HG5.out.1 2).trans (show _ = some (Value.int .i64 xx.2.2) from rfl)
  have m1 := (cell_of HG5.out.2.1 3).trans (show _ = some (Value.int .u32 0) from rfl)
  have m2 := (cell_of HG5.out.2.1 5).trans (show _ = some (Value.int .i64 0) from rfl)
  have n1 := free_of HG5.out.2.1 3; have n2 := free_of HG5.out.2.1 5
  have HSS := Lib.hid (fun (V : World) (f : Fr (fun y => y = c) W5 V) => (⟨f, (cell_of (f.get HG5.out.1 (by omega)) 0).trans rfl, (cell_of (f.get HG5.out.1 (by omega)) 2).trans rfl⟩ : Fr (fun y => y = c) W5 V ∧ V.cell? ⟨c + 1, 0, none⟩ = some (.int .u32 (xx.1 : Int)) ∧ V.cell? ⟨c + 1, 2, none⟩ = some (.int .i64 xx.2.2)))
  refine wp_region_held_drew (S := fun w' => Fr (fun y => y = c) W5 w' ∧ w'.cell? ⟨c + 1, 0, none⟩ = some (.int .u32 (xx.1 : Int)) ∧ w'.cell? ⟨c + 1, 2, none⟩ = some (.int .i64 xx.2.2)) (by kernel_rfl) (by exact HSS.out _ (Fr.drew (Fr.refl _ _))) (fun hHeld => ?_)
  refine wpAnyH_take (i := 0) (v := ?_) rfl (by kernel_rfl) (by kernel_rfl) (by kernel_rfl) (fun _ _ _ h => h) (Or.inl ⟨by rfl, ?_⟩) (by assumption) ?_
  rotate_left
  ·intro w' hSw; (try dsimp only at hSw); go_simp; try with_reducible rfl
  try simp only [Act.put, List.getElem_toArray, List.getElem_cons_zero, List.setIfInBounds_toArray, List.set_cons_zero, List.set_cons_succ]
  refine wpAnyH_take (i := 1) (v := ?_) rfl (by kernel_rfl) (by kernel_rfl) (by kernel_rfl) (fun _ _ _ h => h) (Or.inl ⟨by rfl, ?_⟩) (by assumption) ?_
  rotate_left
  ·intro w' hSw; (try dsimp only at hSw); go_simp; try with_reducible rfl
  try simp only [Act.put, sL]
  refine wpAnyH_take (i := 2) (v := ?_) rfl (by kernel_rfl) (by kernel_rfl) (by kernel_rfl) (fun _ _ _ h => h) (Or.inl ⟨by rfl, ?_⟩) (by assumption) ?_
  rotate_left
  ·intro w' hSw; (try dsimp only at hSw); go_simp; try with_reducible rfl
  try simp only [Act.put, sL]
  refine wpAnyH_take (i := 3) (v := ?_) rfl (by kernel_rfl) (by kernel_rfl) (by kernel_rfl) (fun _ _ _ h => h) (Or.inl ⟨by rfl, ?_⟩) (by assumption) ?_
  rotate_left
  ·intro w' hSw; (try dsimp only at hSw); go_simp; try with_reducible rfl
  try simp only [Act.put, sL]
  refine wpAnyH_take (i := 4) (v := ?_) rfl (by kernel_rfl) (by kernel_rfl) (by kernel_rfl) (fun _ _ _ h => h) (Or.inl ⟨by rfl, ?_⟩) (by assumption) ?_
  rotate_left
  ·intro w' hSw; (try dsimp only at hSw); go_simp; try with_reducible rfl
  try simp only [Act.put, sL]
  refine wpAnyH_ready (rs := [5]) (by kernel_rfl) (by simp) ?_
  refine AllReadyH.cons rfl (fun K hK => ?_) AllReadyH.nil
  go_simp
  skip
  try go_simp
  refine hK.out _ _ ?_ (fun hHeld => ?_)
  ·(try dsimp only); exact HSS.out _ (Fr.drew (Fr.setCell (F := fun y => y = c) (p := ⟨c, 3, none⟩) (Fr.refl _ _) (fun _ => rfl) _))
  clear hK K
  try simp only [Act.put, sL]
  refine wpAnyH_take (i := 6) (v := ?_) rfl (by kernel_rfl) (by kernel_rfl) (by kernel_rfl) (fun _ _ _ h => h) (Or.inl ⟨by rfl, ?_⟩) (by assumption) ?_
  rotate_left
  ·intro w' hSw; (try dsimp only at hSw); go_simp; try with_reducible rfl
  try simp only [Act.put, sL]
  refine wpAnyH_ready (rs := [7]) (by kernel_rfl) (by simp) ?_
  refine AllReadyH.cons rfl (fun K hK => ?_) AllReadyH.nil
  go_simp
  skip
  try go_simp
  refine hK.out _ _ ?_ (fun hHeld => ?_)
  ·(try dsimp only); exact HSS.out _ (Fr.drew (Fr.setCell (F := fun y => y = c) (p := ⟨c, 5, none⟩) (Fr.setCell (F := fun y => y = c) (p := ⟨c, 3, none⟩) (Fr.refl _ _) (fun _ => rfl) _) (fun _ => rfl) _))
  clear hK K
  try simp only [Act.put, sL]
  refine wpAnyH_done (by kernel_rfl) ?_ _
  go_wp2_with fail
  go_meet
  exact ⟨rfl, by rw [HX.out]; exact (setCell_blk (o := 5) (setCell_blk (o := 3) HG5.out.2.1 _) _).trans rfl, Fr.get (Fr.drew (Fr.setCell (F := fun y => y = c) (p := ⟨c, 5, none⟩) (Fr.setCell (F := fun y => y = c) (p := ⟨c, 3, none⟩) (Fr.refl _ _) (fun _ => rfl) _) (fun _ => rfl) _)) HG5.out.2.2 (by have := HC.out; omega), w4, HA4.out, F5.out.trans (Fr.drew (Fr.setCell (F := fun y => y = c) (p := ⟨c, 5, none⟩) (Fr.setCell (F := fun y => y = c) (p := ⟨c, 3, none⟩) (Fr.refl _ _) (fun _ => rfl) _) (fun _ => rfl) _)) (fun _ _ e => .inl e)⟩
 case rest =>
 obtain ⟨rfl, hb, hb2, w4, hA, h4⟩ := hcut
 have hf := repW_fr wc (z + 1) (X.tag : Int) X.kind X.err (X.id : Int) X.seat X.till X.count
 have HP := Lib.hid (show AftN p bb b w (repW wc (z + 1) (X.tag : Int) X.kind X.err (X.id : Int) X.seat X.till X.count) from aftn_end (G := fun y => y = c ∨ y = c + 1 ∨ y = z + 1) (F0.out.trans F3.out (fun _ _ h => h)) hA ((h4.mono (fun _ _ h => h.imp (fun h => h) (fun h => .inl h))).trans hf (fun y _ e => .inr (.inr e))) (fun y hy => ⟨by have := HC.out; omega, fun ho => by have := Hown.out y ho; have := Hz.out; have := HC.out; omega, by have := Hz.out; have := HC.out; omega⟩))
 have HE2 := Lib.hid (repW_at (x := rp0) hb2 (X.tag : Int) X.kind X.err (X.id : Int) X.seat X.till X.count)
 clear q0 q1 q2 q3 q4 hA h4 hf
 obtain ⟨p0, p1, p2, p3, p4, p5, p6⟩ := rp_cells hb
 have s := rp_cells hb2
 obtain ⟨y0, y1, y2, y3, y4, y5, y6⟩ := rp_free hb2
 simp only [rp0] at s
 obtain ⟨s0, s1, s2, s3, s4, s5, s6⟩ := s
 clear hb hb2
 go_wp2_with fail
 refine bodyPost_ret (v := ansV ⟨X, 0⟩) ?_ rfl ⟨rfl, HP.out⟩
 obtain ⟨e0, e1, e2, e3, e4, e5, e6⟩ := rp_cells (x := X) HE2.out
 simp [results, Tryz.f25, go_sem, e0, e1, e2, e3, e4, e5, e6]
set_option maxRecDepth 100000 in
set_option maxHeartbeats 4000000 in
theorem ans_10 {p : Pt} {bb : Nat} {b : Bk} {w : World} (h : BkP p bb b.next b b.L b.L w) (q : Rq) (hk : q.kind = 10) (hb : rqOk q = true)  {X : Rp} (hd : ansD b q = ⟨X, 0⟩) (hX : X = ⟨q.tag, q.kind, 0, 0, 0, 0, (b.L.length : Int)⟩) : Calls Tryz.prog 25 #[.pointer (some ⟨bb, 0, none⟩), rqV q] w (AnsN p bb b w (ansD b q)) := by
 rw [hd]
 have b5 : (q.kind == 5) = false := by rw [hk]; rfl
 have b6 : (q.kind == 6) = false := by rw [hk]; rfl
 have b10 : (q.kind == 10) = true := by rw [hk]; rfl
 have HX := Lib.hid hX
 clear hd hk hX
 obtain ⟨W1, hW1⟩ : ∃ W, W = w.alloc (rqC q) := ⟨_, rfl⟩
 obtain ⟨W, hW⟩ : ∃ W, W = W1.alloc (.cells #[.int .u32 0, .int .i64 0, .int .i64 0, .int .u32 0, .int .i64 0, .int .i64 0, .int .i64 0] 71) := ⟨_, rfl⟩
 obtain ⟨z, hz⟩ : ∃ z, z = w.heap.size := ⟨_, rfl⟩
 have s1 : W1.heap.size = z + 1 := by rw [hW1, hz]; simp
 have s3 : W.heap.size = z + 2 := by rw [hW]; simp [s1]
 have a1 : Fr (fun _ => False) w W1 := by rw [hW1]; exact Fr.alloc (Fr.refl _ _) _
 have a3 : Fr (fun _ => False) W1 W := by rw [hW]; exact Fr.alloc (Fr.refl _ _) _
 have f0 : Fr (fun _ => False) w W := a1.trans a3 (fun _ _ h => h)
 have hg : W.heap[z]? = some (rqO q) := a3.get (show W1.heap[z]? = _ by rw [hW1, hz]; exact heap_alloc_at _ _) (fun h => h)
 have hg2 : W.heap[z + 1]? = some (rpO rp0) := show W.heap[z + 1]? = _ by rw [hW, ← s1]; exact heap_alloc_at _ _
 have HSh := Lib.hid (shape_ok (h.keep f0))
 have HB := Lib.hid (fun (V : World) (fV : Fr (fun _ => False) W V) => (h.keep f0).keep fV)
 have hsb : decide ((b.seats : Int) = 0 ∧ (b.codes : Int) = 0 ∧ (b.group : Int) = 0) = false := by have := h.raw.s0; simp; omega
 have hq : ∀ V : World, (binOp .eql 23 (.agg #[.int .i64 (b.seats : Int), .int .i64 (b.codes : Int), .int .i64 (b.group : Int)]) (.agg #[.int .i64 0, .int .i64 0, .int .i64 0])).run Tryz.prog V = .ok (.bool false) V := fun V => by rw [← hsb]; exact shEq V _ _ _
 have Hown := Lib.hid (show ∀ x, p.own bb x → x < w.heap.size from fun x hx => h.lt hx)
 have Hz := Lib.hid hz; have F0 := Lib.hid f0; have HG := Lib.hid (And.intro hg hg2); have Hs := Lib.hid s3
 have HW1 := Lib.hid hW1; have HW := Lib.hid hW
 have HRq := Lib.hid (fun (V : World) => rqcheck_ok q V)
 clear h f0 hg hg2 a1 a3 s1 s3 hW1 hW hz hsb
 rw [hb] at HRq
 simp only [if_true] at HRq
 clear hb
 go_enter Tryz.func25, Tryz.ntmps25
 go_upto_region 1 with fail
 rw [← HW1.out, ← HW.out, ← Hz.out]
 go_wp2_with fail
 refine HSh.out.mono ?_
 rintro e w1 ⟨rfl, f1⟩
 have F1 := Lib.hid f1
 have HG1 := Lib.hid (And.intro (f1.get HG.out.1 (fun h => h)) (f1.get HG.out.2 (fun h => h)))
 clear f1
 have q0 := (cell_of HG1.out.1 0).trans (show _ = some (Value.int .i64 q.kind) from rfl)
 have q1 := (cell_of HG1.out.1 1).trans (show _ = some (Value.int .u32 (q.tag : Int)) from rfl)
 have q2 := (cell_of HG1.out.1 2).trans (show _ = some (Value.int .u32 (q.id : Int)) from rfl)
 have q3 := (cell_of HG1.out.1 3).trans (show _ = some (Value.int .i64 q.seat) from rfl)
 have q4 := (cell_of HG1.out.1 4).trans (show _ = some (Value.int .i64 q.ttl) from rfl)
 go_wp2_with fail
 refine (HRq.out _).mono ?_
 rintro e w2 ⟨rfl, f2⟩
 have F2 := Lib.hid (F1.out.trans f2 (fun _ _ h => h))
 have HG2 := Lib.hid (And.intro (f2.get HG1.out.1 (fun h => h)) (f2.get HG1.out.2 (fun h => h)))
 clear f2 hq q0 q1 q2 q3 q4
 have q0 := (cell_of HG2.out.1 0).trans (show _ = some (Value.int .i64 q.kind) from rfl)
 have q1 := (cell_of HG2.out.1 1).trans (show _ = some (Value.int .u32 (q.tag : Int)) from rfl)
 have q2 := (cell_of HG2.out.1 2).trans (show _ = some (Value.int .u32 (q.id : Int)) from rfl)
 have q3 := (cell_of HG2.out.1 3).trans (show _ = some (Value.int .i64 q.seat) from rfl)
 have q4 := (cell_of HG2.out.1 4).trans (show _ = some (Value.int .i64 q.ttl) from rfl)
 obtain ⟨V1, hV1⟩ : ∃ V, V = w2.alloc (.cells #[.int .u32 (q.tag : Int), .int .i64 q.kind, .int .i64 0, .int .u32 0, .int .i64 0, .int .i64 0, .int .i64 0] 71) := ⟨_, rfl⟩
 obtain ⟨V, hV⟩ : ∃ V, V = V1.alloc (.cells #[.int .u32 0, .int .i64 0, .int .i64 0] 68) := ⟨_, rfl⟩
 obtain ⟨c, hc⟩ : ∃ c, c = w2.heap.size := ⟨_, rfl⟩
 have sc : V1.heap.size = c + 1 := by rw [hV1, hc]; simp
 have fV1 : Fr (fun _ => False) w2 V1 := by rw [hV1]; exact Fr.alloc (Fr.refl _ _) _
 have fV2 : Fr (fun _ => False) V1 V := by rw [hV]; exact Fr.alloc (Fr.refl _ _) _
 have fV : Fr (fun _ => False) w2 V := fV1.trans fV2 (fun _ _ h => h)
 have hgc : V.heap[c]? = some (rpO ⟨q.tag, q.kind, 0, 0, 0, 0, 0⟩) := fV2.get (show V1.heap[c]? = _ by rw [hV1, hc]; exact heap_alloc_at _ _) (fun h => h)
 have hgb : V.heap[c + 1]? = some (.cells #[.int .u32 0, .int .i64 0, .int .i64 0] 68 (0, 0)) := show V.heap[c + 1]? = _ by rw [hV, ← sc]; exact heap_alloc_at _ _
 have F3 := Lib.hid (F2.out.trans fV (fun _ _ h => h))
 have HG3 := Lib.hid (And.intro (fV.get HG2.out.1 (fun h => h)) (And.intro (fV.get HG2.out.2 (fun h => h)) (And.intro hgc hgb)))
 have HC := Lib.hid (show z + 2 ≤ c ∧ c + 1 < V.heap.size from ⟨by rw [hc, ← Hs.out]; exact F2.out.size, lt_of_block hgb⟩)
 have HV1 := Lib.hid hV1; have HV := Lib.hid hV; have Hc := Lib.hid hc; have Hsc := Lib.hid sc
 clear fV fV1 fV2 hgc hgb hV1 hV hc sc
 go_upto_region 7 with fail
 rw [← HV1.out, ← HV.out, ← Hc.out]
 try rw [Hsc.out]
 clear q0 q1 q2 q3 q4
 have q0 := (cell_of HG3.out.1 0).trans (show _ = some (Value.int .i64 q.kind) from rfl)
 have q1 := (cell_of HG3.out.1 1).trans (show _ = some (Value.int .u32 (q.tag : Int)) from rfl)
 have q2 := (cell_of HG3.out.1 2).trans (show _ = some (Value.int .u32 (q.id : Int)) from rfl)
 have q3 := (cell_of HG3.out.1 3).trans (show _ = some (Value.int .i64 q.seat) from rfl)
 have q4 := (cell_of HG3.out.1 4).trans (show _ = some (Value.int .i64 q.ttl) from rfl)
 go_upto_block 0 with fail
 go_cut [6] (fun s6 wx => s6 = .pointer (some ⟨c, 0, none⟩) ∧ wx.heap[c]? = some (rpO X) ∧ wx.heap[z + 1]? = some (rpO rp0) ∧ ∃ w4, AftN p bb b V w4 ∧ Fr (fun y => y = c ∨ y = c + 1) w4 wx)
 case first =>
  have Hown2 := Lib.hid (show ∀ x, z ≤ x → ¬ p.own bb x from fun x hx ho => by have := Hown.out x ho; have := Hz.out; omega)
  have HCall := Lib.hid ((len_ok (HB.out _ F3.out)).mono (fun e w' hh => (⟨hh.1, hh.2 ▸ AftN.same (HB.out _ F3.out) (Fr.refl _ _)⟩ : e = .returned (.int .i64 (b.L.length : Int)) ∧ AftN p bb b V w')))
  go_wp2_with fail
  refine HCall.out.mono ?_
  rintro e w4 ⟨rfl, a4⟩
  obtain ⟨p4, hB4, hF4, hO4⟩ := id a4
  have HA4 := Lib.hid a4
  have hc4 := hF4.get HG3.out.2.2.1 (Hown2.out _ (by have := HC.out; omega))
  have hb4 := hF4.get HG3.out.2.2.2 (Hown2.out _ (by have := HC.out; omega))
  have hz4 := hF4.get HG3.out.2.1 (Hown2.out _ (by omega))
  clear hB4 hF4 hO4 a4 q0 q1 q2 q3 q4
  have p6 := (cell_of hc4 6).trans (show _ = some (Value.int .i64 0) from rfl)
  have y6 := free_of hc4 6
  have HG5 := Lib.hid (And.intro hb4 (And.intro hc4 hz4))
  clear hb4 hc4 hz4
  go_wp2_with fail
  go_meet
  exact ⟨rfl, by rw [HX.out]; exact (setCell_blk (o := 6) HG5.out.2.1 _).trans rfl, Fr.get (Fr.setCell (F := fun y => y = c) (p := ⟨c, 6, none⟩) (Fr.refl _ _) (fun _ => rfl) _) HG5.out.2.2 (by have := HC.out; omega), w4, HA4.out, Fr.setCell (F := fun y => y = c ∨ y = c + 1) (p := ⟨c, 6, none⟩) (Fr.refl _ _) (fun _ => .inl rfl) _⟩
 case rest =>
 obtain ⟨rfl, hb, hb2, w4, hA, h4⟩ := hcut
 have hf := repW_fr wc (z + 1) (X.tag : Int) X.kind X.err (X.id : Int) X.seat X.till X.count
 have HP := Lib.hid (show AftN p bb b w (repW wc (z + 1) (X.tag : Int) X.kind X.err (X.id : Int) X.seat X.till X.count) from aftn_end (G := fun y => y = c ∨ y = c + 1 ∨ y = z + 1) (F0.out.trans F3.out (fun _ _ h => h)) hA ((h4.mono (fun _ _ h => h.imp (fun h => h) (fun h => .inl h))).trans hf (fun y _ e => .inr (.inr e))) (fun y hy => ⟨by have := HC.out; omega, fun ho => by have := Hown.out y ho; have := Hz.out; have := HC.out; omega, by have := Hz.out; have := HC.out; omega⟩))
 have HE2 := Lib.hid (repW_at (x := rp0) hb2 (X.tag : Int) X.kind X.err (X.id : Int) X.seat X.till X.count)
 clear q0 q1 q2 q3 q4 hA h4 hf
 obtain ⟨p0, p1, p2, p3, p4, p5, p6⟩ := rp_cells hb
 have s := rp_cells hb2
 obtain ⟨y0, y1, y2, y3, y4, y5, y6⟩ := rp_free hb2
 simp only [rp0] at s
 obtain ⟨s0, s1, s2, s3, s4, s5, s6⟩ := s
 clear hb hb2
 go_wp2_with fail
 refine bodyPost_ret (v := ansV ⟨X, 0⟩) ?_ rfl ⟨rfl, HP.out⟩
 obtain ⟨e0, e1, e2, e3, e4, e5, e6⟩ := rp_cells (x := X) HE2.out
 simp [results, Tryz.f25, go_sem, e0, e1, e2, e3, e4, e5, e6]
set_option maxRecDepth 100000 in
set_option maxHeartbeats 4000000 in
theorem answer_n {p : Pt} {bb : Nat} {b : Bk} {w : World} (h : BkP p bb b.next b b.L b.L w) (q : Rq) (hid : q.id < 4294967296) : Calls Tryz.prog 25 #[.pointer (some ⟨bb, 0, none⟩), rqV q] w (AnsN p bb b w (ansD b q)) := by
 by_cases hb : rqOk q = true
 ·by_cases k5 : q.kind = 5
  ·cases hf : bFind b.L q.id with
   | none => exact ans_5 h q k5 hb hid (xx := (0, 0, 0)) (n := 171) (by rw [hf]; rfl) (by unfold ansD; rw [if_neg (by rw [hb]; simp), if_pos k5, hf]) rfl
   | some x => exact ans_5 h q k5 hb hid (xx := x) (n := 0) (by rw [hf]; rfl) (by unfold ansD; rw [if_neg (by rw [hb]; simp), if_pos k5, hf]) rfl
  ·by_cases k6 : q.kind = 6
   ·by_cases hs : (b.seats : Int) ≤ q.seat
    ·exact ans_6 h q k6 hb (xx := (0, 0, 0)) (n := 140) (by unfold atE; rw [if_pos (.inr hs)]) (by unfold ansD; rw [if_neg (by rw [hb]; simp), if_neg k5, if_pos k6, if_pos hs]) rfl
    ·have h0 := (rqOk_seat hb).1
     cases hf : bSeat b.L q.seat with
     | none => exact ans_6 h q k6 hb (xx := (0, 0, 0)) (n := 171) (by unfold atE; rw [if_neg (by omega), hf]) (by unfold ansD; rw [if_neg (by rw [hb]; simp), if_neg k5, if_pos k6, if_neg hs, hf]) rfl
     | some x => exact ans_6 h q k6 hb (xx := x) (n := 0) (by unfold atE; rw [if_neg (by omega), hf]) (by unfold ansD; rw [if_neg (by rw [hb]; simp), if_neg k5, if_pos k6, if_neg hs, hf]) rfl
   ·by_cases k10 : q.kind = 10
    ·exact ans_10 h q k10 hb (by unfold ansD; rw [if_neg (by rw [hb]; simp), if_neg k5, if_neg k6, if_pos k10]) rfl
    ·exact ans_no h q hb ⟨k5, k6, k10⟩ (by unfold ansD; rw [if_neg (by rw [hb]; simp), if_neg k5, if_neg k6, if_neg k10])
 ·have hb' : rqOk q = false := by simpa using hb
  exact ans_bad h q hb' (by unfold ansD; rw [if_pos hb'])
theorem answer_ok {p : Pt} {bb : Nat} {b : Bk} {w : World} (h : BkP p bb b.next b b.L b.L w) (q : Rq) (hid : q.id < 4294967296) : Calls Tryz.prog 25 #[.pointer (some ⟨bb, 0, none⟩), rqV q] w (AnsP p bb b w (ansD b q)) := (answer_n h q hid).mono fun _ _ h => ⟨h.1, h.2.aft⟩
end Go.Proofs.YtffnjnnmlfgngaaGreat.Cs
namespace Go.Proofs.YtffnjnnmlfgngaaGreat.Cs
open Go.RowKit Go.Shelf Go.Proofs.YtffnjnnmlfgngaaGreat.Bk
attribute [local go_sem] Oper.semAt_some
theorem RulesV.fr {w w' : World} {v : Value} {L : List Nat} (h : RulesV w v L) {F : Nat → Prop} (f : Fr F w w') (hF : ∀ g, v.ownBlock = some g → ¬ F g) : RulesV w' v L := by
 rcases h with h | ⟨g, h1, h2⟩
 ·exact .inl h
 ·exact .inr ⟨g, h1, f.get h2 (hF g (by rw [h1]; rfl))⟩
set_option maxRecDepth 100000 in
set_option maxHeartbeats 4000000 in
theorem decide_good {p : Pt} {bb : Nat} {b : Bk} {w : World} (h : BkP p bb b.next b b.L b.L w) (q : Rq) (room : Int) (hid : q.id < 4294967296) (hgood : (rqOk q && isCh q.kind) = true) : Calls Tryz.prog 28 #[.pointer (some ⟨bb, 0, none⟩), .int .i64 room, rqV q] w (DecP p bb b w (decD b room q)) := by
 have hch : isCh q.kind = true := by simp at hgood; exact hgood.2
 have hrq : rqOk q = true := by simp at hgood; exact hgood.1
 have HCh1 := Lib.hid hch
 have HDec := Lib.hid (show decD b room q = if refE b room q = 0 then ⟨recOf b q, repOf q (recOf b q), true, 0⟩ else ⟨rc0, ⟨q.tag, q.kind, (refE b room q : Nat), 0, 0, 0, 0⟩, false, 0⟩ by unfold decD; rw [if_neg (by rw [hgood]; simp)])
 have HRq := Lib.hid (fun (V : World) => rqcheck_ok q V)
 rw [hrq] at HRq
 simp only [if_true] at HRq
 obtain ⟨E, hE⟩ : ∃ E, E = rulesE b room q := ⟨_, rfl⟩
 have hfst := rules_fst (b := b) (room := room) hch
 rw [← hE] at hfst
 have HFst := Lib.hid hfst
 have HAll := Lib.hid (show ∀ x ∈ E, RuleOk bb b q (recOf b q) room x.1 x.2 by rw [hE]; exact rules_ok hch hid)
 clear hgood hch hrq hE hfst hid
 obtain ⟨W1, hW1⟩ : ∃ W, W = w.alloc (rqC q) := ⟨_, rfl⟩
 obtain ⟨W2, hW2⟩ : ∃ W, W = W1.alloc (.cells #[.int .i64 0, .int .u32 0, .int .i64 0, .int .i64 0, .int .i64 0] 46) := ⟨_, rfl⟩
 obtain ⟨W, hW⟩ : ∃ W, W = W2.alloc (.cells #[.int .u32 0, .int .i64 0, .int .i64 0, .int .u32 0, .int .i64 0, .int .i64 0, .int .i64 0] 71) := ⟨_, rfl⟩
 obtain ⟨z, hz⟩ : ∃ z, z = w.heap.size := ⟨_, rfl⟩
 have s1 : W1.heap.size = z + 1 := by rw [hW1, hz]; simp
 have s2 : W2.heap.size = z + 2 := by rw [hW2]; simp [s1]
 have s3 : W.heap.size = z + 3 := by rw [hW]; simp [s2]
 have a1 : Fr (fun _ => False) w W1 := by rw [hW1]; exact Fr.alloc (Fr.refl _ _) _
 have a2 : Fr (fun _ => False) W1 W2 := by rw [hW2]; exact Fr.alloc (Fr.refl _ _) _
 have a3 : Fr (fun _ => False) W2 W := by rw [hW]; exact Fr.alloc (Fr.refl _ _) _
 have f0 : Fr (fun _ => False) w W := (a1.trans a2 (fun _ _ h => h)).trans a3 (fun _ _ h => h)
 have hg : W.heap[z]? = some (rqO q) := a3.get (a2.get (show W1.heap[z]? = _ by rw [hW1, hz]; exact heap_alloc_at _ _) (fun h => h)) (fun h => h)
 have hg1 : W.heap[z + 1]? = some (.cells #[.int .i64 0, .int .u32 0, .int .i64 0, .int .i64 0, .int .i64 0] 46 (0, 0)) := a3.get (show W2.heap[z + 1]? = _ by rw [hW2, ← s1]; exact heap_alloc_at _ _) (fun h => h)
 have hg2 : W.heap[z + 2]? = some (rpO rp0) := show W.heap[z + 2]? = _ by rw [hW, ← s2]; exact heap_alloc_at _ _
 have HSh := Lib.hid (shape_ok (h.keep f0))
 have HCh := Lib.hid (fun (V : World) (fV : Fr (fun _ => False) W V) => change_ok ((h.keep f0).keep fV) q)
 have HB := Lib.hid (fun (V : World) (fV : Fr (fun _ => False) W V) => (h.keep f0).keep fV)
 have hsb : decide ((b.seats : Int) = 0 ∧ (b.codes : Int) = 0 ∧ (b.group : Int) = 0) = false := by have := h.raw.s0; simp; omega
 have hq : ∀ V : World, (binOp .eql 23 (.agg #[.int .i64 (b.seats : Int), .int .i64 (b.codes : Int), .int .i64 (b.group : Int)]) (.agg #[.int .i64 0, .int .i64 0, .int .i64 0])).run Tryz.prog V = .ok (.bool false) V := fun V => by rw [← hsb]; exact shEq V _ _ _
 have Hown := Lib.hid (show ∀ x, p.own bb x → x < w.heap.size from fun x hx => h.lt hx)
 have Hz := Lib.hid hz; have F0 := Lib.hid f0; have HG := Lib.hid (And.intro hg (And.intro hg1 hg2)); have Hs := Lib.hid s3
 have HW1 := Lib.hid hW1; have HW2 := Lib.hid hW2; have HW := Lib.hid hW; have H := Lib.hid h
 have z0 := (cell_of hg 0).trans (show _ = some (Value.int .i64 q.kind) from rfl)
 clear h f0 hg hg1 hg2 a1 a2 a3 s1 s2 s3 hW1 hW2 hW hz hsb
 go_enter Tryz.func28, Tryz.ntmps28
 go_upto_region 1 with fail
 rw [← HW1.out, ← HW2.out, ← HW.out, ← Hz.out]
 try rw [show z + 1 + 1 = z + 2 by omega]
 clear z0
 go_wp2_with fail
 refine HSh.out.mono ?_
 rintro e w1 ⟨rfl, f1⟩
 have F1 := Lib.hid f1
 have hgq := f1.get HG.out.1 (fun h => h)
 have q0 := (cell_of hgq 0).trans (show _ = some (Value.int .i64 q.kind) from rfl)
 have q1 := (cell_of hgq 1).trans (show _ = some (Value.int .u32 (q.tag : Int)) from rfl)
 have q2 := (cell_of hgq 2).trans (show _ = some (Value.int .u32 (q.id : Int)) from rfl)
 have q3 := (cell_of hgq 3).trans (show _ = some (Value.int .i64 q.seat) from rfl)
 have q4 := (cell_of hgq 4).trans (show _ = some (Value.int .i64 q.ttl) from rfl)
 clear f1 hgq
 go_upto_region 3 with fail
 go_wp2_with fail
 refine (HCh.out _ F1.out).mono ?_
 rintro e w2 ⟨vr, rfl, hrl, hro, f2⟩
 have F2 := Lib.hid (F1.out.trans f2 (fun _ _ h => h))
 obtain ⟨r, hr⟩ : ∃ r, r = chRec b q := ⟨_, rfl⟩
 rw [← hr]
 have HR := Lib.hid hr
 obtain ⟨W3, hW3⟩ : ∃ W, W = w2.alloc (rcC r) := ⟨_, rfl⟩
 obtain ⟨y, hy⟩ : ∃ y, y = w2.heap.size := ⟨_, rfl⟩
 have f3 : Fr (fun _ => False) w2 W3 := by rw [hW3]; exact Fr.alloc (Fr.refl _ _) _
 have hgy : W3.heap[y]? = some (rcC r) := by rw [hW3, hy]; exact heap_alloc_at _ _
 have F3 := Lib.hid (F2.out.trans f3 (fun _ _ h => h))
 have HRl := Lib.hid (RulesV.keep hrl f3 (fun _ h => h.elim))
 have HGy := Lib.hid hgy
 have HY := Lib.hid (show z + 3 ≤ y ∧ y < W3.heap.size from ⟨by rw [hy, ← Hs.out]; exact F2.out.size, lt_of_block hgy⟩)
 have HG3 := Lib.hid (show W3.heap[z]? = some (rqO q) ∧ W3.heap[z + 1]? = some (.cells #[.int .i64 0, .int .u32 0, .int .i64 0, .int .i64 0, .int .i64 0] 46 (0, 0)) ∧ W3.heap[z + 2]? = some (rpO rp0) from ⟨F3.out.get HG.out.1 (fun h => h), F3.out.get HG.out.2.1 (fun h => h), F3.out.get HG.out.2.2 (fun h => h)⟩)
 have HRo := Lib.hid hro
 clear f2 f3 hrl hro hr q0 q1 q2 q3 q4 hgy
 go_upto_region 4 with fail
 rw [← hW3, ← hy]
 clear hW3 hy hq
 rw [HCh1.out]
 have hrr : r = recOf b q := by rw [HR.out]; exact if_pos HCh1.out
 have HRec := Lib.hid hrr
 have HAll2 := Lib.hid (show ∀ x ∈ E, RuleOk bb b q r room x.1 x.2 by rw [hrr]; exact HAll.out)
 have HRl2 := Lib.hid (show RulesV W3 vr (E.map (·.1)) by rw [HFst.out.1]; exact HRl.out)
 clear hrr
 have q0 := (cell_of HG3.out.1 0).trans (show _ = some (Value.int .i64 q.kind) from rfl)
 have q1 := (cell_of HG3.out.1 1).trans (show _ = some (Value.int .u32 (q.tag : Int)) from rfl)
 have q2 := (cell_of HG3.out.1 2).trans (show _ = some (Value.int .u32 (q.id : Int)) from rfl)
 have q3 := (cell_of HG3.out.1 3).trans (show _ = some (Value.int .i64 q.seat) from rfl)
 have q4 := (cell_of HG3.out.1 4).trans (show _ = some (Value.int .i64 q.ttl) from rfl)
 go_wp2_with fail
 refine (HRq.out _).mono ?_
 rintro e w4 ⟨rfl, f4⟩
 have F4 := Lib.hid (F3.out.trans f4 (fun _ _ h => h))
 have HG4 := Lib.hid (show w4.heap[z]? = some (rqO q) ∧ w4.heap[z + 1]? = some (.cells #[.int .i64 0, .int .u32 0, .int .i64 0, .int .i64 0, .int .i64 0] 46 (0, 0)) ∧ w4.heap[z + 2]? = some (rpO rp0) ∧ w4.heap[y]? = some (rcC r) from ⟨F4.out.get HG.out.1 (fun h => h), F4.out.get HG.out.2.1 (fun h => h), F4.out.get HG.out.2.2 (fun h => h), f4.get HGy.out (fun h => h)⟩)
 have HY4 := Lib.hid (show z + 3 ≤ y ∧ y < w4.heap.size from ⟨HY.out.1, Nat.lt_of_lt_of_le HY.out.2 f4.size⟩)
 have HRl4 := Lib.hid (HRl2.out.fr f4 (fun _ _ h => h))
 clear f4 q0 q1 q2 q3 q4
 obtain ⟨n, hn⟩ : ∃ n, n = E.length := ⟨_, rfl⟩
 have hlen : (E.map (·.1)).length = n := by rw [List.length_map, hn]
 obtain ⟨a, hva⟩ := HRl4.out.slice
 rw [hlen] at hva
 have HVa := Lib.hid hva
 have HN := Lib.hid hn
 have hn6 : n ≤ 6 := by rw [hn]; exact HFst.out.2.2
 have hn6' : (n : Int) ≤ 6 := by omega
 have Hn6 := Lib.hid hn6
 rw [hva]
 clear hva hn hlen hn6
 go_wp2_with fail
 go_loopw [40] (fun s40 wr => ∃ i : Nat, s40 = .int .i64 (i : Int) ∧ i ≤ n ∧ (∀ j (h : j < E.length), j < i → E[j].2 = 0) ∧ Aft p bb b w4 wr) (fun s40 _ => n - (intOf s40).toNat)
 case atStart => exact ⟨0, rfl, Nat.zero_le _, fun j _ h => by omega, Aft.same (HB.out _ F4.out) (Fr.refl _ _)⟩
 case round =>
  obtain ⟨i, rfl, hi, hz0, hA⟩ := hrel
  have HZ0 := Lib.hid hz0; have HA := Lib.hid hA
  obtain ⟨p', hB', hF', hO'⟩ := hA
  have nown : ∀ x, z ≤ x → ¬ p.own bb x := fun x hx ho => by have := Hown.out x ho; have := Hz.out; omega
  have HGr := Lib.hid (show wr.heap[z]? = some (rqO q) ∧ wr.heap[z + 1]? = some (.cells #[.int .i64 0, .int .u32 0, .int .i64 0, .int .i64 0, .int .i64 0] 46 (0, 0)) ∧ wr.heap[z + 2]? = some (rpO rp0) ∧ wr.heap[y]? = some (rcC r) from ⟨hF'.get HG4.out.1 (nown _ (by omega)), hF'.get HG4.out.2.1 (nown _ (by omega)), hF'.get HG4.out.2.2.1 (nown _ (by omega)), hF'.get HG4.out.2.2.2 (nown _ (by have := HY4.out; omega))⟩)
  have HRlr := Lib.hid (HRl4.out.fr hF' (fun g hg => nown g (by have := HRo.out g (by first | exact hg | simpa using hg); have := F1.out.size; have := Hs.out; omega)))
  have HB' := Lib.hid hB'; have HF' := Lib.hid hF'; have HO' := Lib.hid hO'; have Hnown := Lib.hid nown
  clear hz0 hB' hF' hO' nown
  have q0 := (cell_of HGr.out.1 0).trans (show _ = some (Value.int .i64 q.kind) from rfl)
  have q1 := (cell_of HGr.out.1 1).trans (show _ = some (Value.int .u32 (q.tag : Int)) from rfl)
  have q2 := (cell_of HGr.out.1 2).trans (show _ = some (Value.int .u32 (q.id : Int)) from rfl)
  have q3 := (cell_of HGr.out.1 3).trans (show _ = some (Value.int .i64 q.seat) from rfl)
  have q4 := (cell_of HGr.out.1 4).trans (show _ = some (Value.int .i64 q.ttl) from rfl)
  have k0 := (cell_of HGr.out.2.2.2 0).trans (show _ = some (Value.int .i64 r.kind) from rfl)
  have k1 := (cell_of HGr.out.2.2.2 1).trans (show _ = some (Value.int .u32 (r.id : Int)) from rfl)
  have k2 := (cell_of HGr.out.2.2.2 2).trans (show _ = some (Value.int .i64 r.seat) from rfl)
  have k3 := (cell_of HGr.out.2.2.2 3).trans (show _ = some (Value.int .i64 r.till) from rfl)
  have k4 := (cell_of HGr.out.2.2.2 4).trans (show _ = some (Value.int .i64 r.clock) from rfl)
  have u0 := (cell_of HGr.out.2.1 0).trans (show _ = some (Value.int .i64 0) from rfl)
  have v0 := free_of HGr.out.2.1 0
  have u1 := (cell_of HGr.out.2.1 1).trans (show _ = some (Value.int .u32 0) from rfl)
  have v1 := free_of HGr.out.2.1 1
  have u2 := (cell_of HGr.out.2.1 2).trans (show _ = some (Value.int .i64 0) from rfl)
  have v2 := free_of HGr.out.2.1 2
  have u3 := (cell_of HGr.out.2.1 3).trans (show _ = some (Value.int .i64 0) from rfl)
  have v3 := free_of HGr.out.2.1 3
  have u4 := (cell_of HGr.out.2.1 4).trans (show _ = some (Value.int .i64 0) from rfl)
  have v4 := free_of HGr.out.2.1 4
  have s0 := (cell_of HGr.out.2.2.1 0).trans (show _ = some (Value.int .u32 0) from rfl)
  have t0 := free_of HGr.out.2.2.1 0
  have s1 := (cell_of HGr.out.2.2.1 1).trans (show _ = some (Value.int .i64 0) from rfl)
  have t1 := free_of HGr.out.2.2.1 1
  have s2 := (cell_of HGr.out.2.2.1 2).trans (show _ = some (Value.int .i64 0) from rfl)
  have t2 := free_of HGr.out.2.2.1 2
  have s3 := (cell_of HGr.out.2.2.1 3).trans (show _ = some (Value.int .u32 0) from rfl)
  have t3 := free_of HGr.out.2.2.1 3
  have s4 := (cell_of HGr.out.2.2.1 4).trans (show _ = some (Value.int .i64 0) from rfl)
  have t4 := free_of HGr.out.2.2.1 4
  have s5 := (cell_of HGr.out.2.2.1 5).trans (show _ = some (Value.int .i64 0) from rfl)
  have t5 := free_of HGr.out.2.2.1 5
  have s6 := (cell_of HGr.out.2.2.1 6).trans (show _ = some (Value.int .i64 0) from rfl)
  have t6 := free_of HGr.out.2.2.1 6
  by_cases hlt : i < n
  ·have hlt' : (i : Int) < (n : Int) := by omega
   have i0 : (0 : Int) ≤ (i : Int) := by omega
   have hiE : i < E.length := by rw [← HN.out]; exact hlt
   obtain ⟨g, e1, d0⟩ := HRlr.out.cell (i := i) (by rw [List.length_map]; exact hiE)
   have e2 := HVa.out
   rw [e1, List.length_map, ← HN.out] at e2
   obtain ⟨rfl, -, -⟩ := Value.slice.inj e2
   simp only [List.getElem_map] at d0
   obtain ⟨fl, ev, hx⟩ : ∃ fl ev, E[i] = (fl, ev) := ⟨_, _, rfl⟩
   rw [hx] at d0
   simp only at d0
   have HRo2 := HAll2.out (fl, ev) (by rw [← hx]; exact List.getElem_mem hiE)
   have hent := HRo2.enter
   have HCall := Lib.hid (HRo2.call wr p' HB'.out)
   have HX := Lib.hid (show ∀ h : i < E.length, E[i].2 = ev from fun _ => by rw [hx])
   have HLt := Lib.hid hlt; have HiE := Lib.hid hiE
   have ev0 : (0 : Int) ≤ (ev : Int) := by omega
   clear hx HRo2 e1 e2 hlt hi hiE
   go_wp2_with fail
   refine HCall.out.mono ?_
   rintro e w5 ⟨rfl, a5⟩
   have A5 := Lib.hid (show Aft p bb b w4 w5 from a5.of HF'.out HO'.out)
   clear a5 hent d0 q0 k0 u0 v0 q1 k1 u1 v1 q2 k2 u2 v2 q3 k3 u3 v3 q4 k4 u4 v4 s0 t0 s1 t1 s2 t2 s3 t3 s4 t4 s5 t5 s6 t6
   by_cases hev : ev = 0
   ·have b1 : ((ev : Int) != 0) = false := by simp [hev]
    have HEv := Lib.hid hev
    obtain ⟨i1, hi1⟩ : ∃ i1, i1 = i + 1 := ⟨_, rfl⟩
    have j1 : (i : Int) + 1 = (i1 : Int) := by rw [hi1]; push_cast; rfl
    have j2 : wrap64 (i1 : Int) = (i1 : Int) := by unfold wrap64; have := HLt.out; have := Hn6.out; omega
    have j3 : IntKind.i64.wrap (i1 : Int) = (i1 : Int) := by rw [IntKind.wrap_i64]; have := HLt.out; have := Hn6.out; omega
    have HI1 := Lib.hid hi1
    clear hev hi1
    go_wp2_with fail
    go_roundw
    case rel => exact ⟨i1, rfl, by have := HI1.out; have := HLt.out; omega, fun j h hj => by
     by_cases e : j = i
     ·subst e; rw [HX.out h]; exact HEv.out
     ·exact HZ0.out j h (by have := HI1.out; omega), A5.out⟩
    case measure => have := HI1.out; have := HLt.out; simp [intOf]; omega
   ·have b1 : ((ev : Int) != 0) = true := by simpa using hev
    have HDv := Lib.hid (show decD b room q = ⟨rc0, ⟨q.tag, q.kind, (ev : Int), 0, 0, 0, 0⟩, false, 0⟩ by
     have e1 : refE b room q = ev := by
      have h1 := HX.out HiE.out
      rw [HFst.out.2.1, firstE_at (l := E.map (·.2)) (i := i) (by rw [List.length_map]; exact HiE.out) (fun j h hj => by rw [List.getElem_map]; exact HZ0.out j (by simpa using h) hj) (by rw [List.getElem_map, h1]; exact hev)]
      rw [List.getElem_map, h1]
     rw [HDec.out, e1, if_neg hev])
    obtain ⟨p5, hB5, hF5, hO5⟩ := A5.out
    have HG5 := Lib.hid (show w5.heap[z]? = some (rqO q) ∧ w5.heap[z + 1]? = some (.cells #[.int .i64 0, .int .u32 0, .int .i64 0, .int .i64 0, .int .i64 0] 46 (0, 0)) ∧ w5.heap[z + 2]? = some (rpO rp0) from ⟨hF5.get HG4.out.1 (Hnown.out _ (by omega)), hF5.get HG4.out.2.1 (Hnown.out _ (by omega)), hF5.get HG4.out.2.2.1 (Hnown.out _ (by omega))⟩)
    clear hev hB5 hF5 hO5
    have q0 := (cell_of HG5.out.1 0).trans (show _ = some (Value.int .i64 q.kind) from rfl)
    have q1 := (cell_of HG5.out.1 1).trans (show _ = some (Value.int .u32 (q.tag : Int)) from rfl)
    have u0 := (cell_of HG5.out.2.1 0).trans (show _ = some (Value.int .i64 0) from rfl)
    have v0 := free_of HG5.out.2.1 0
    have u1 := (cell_of HG5.out.2.1 1).trans (show _ = some (Value.int .u32 0) from rfl)
    have v1 := free_of HG5.out.2.1 1
    have u2 := (cell_of HG5.out.2.1 2).trans (show _ = some (Value.int .i64 0) from rfl)
    have v2 := free_of HG5.out.2.1 2
    have u3 := (cell_of HG5.out.2.1 3).trans (show _ = some (Value.int .i64 0) from rfl)
    have v3 := free_of HG5.out.2.1 3
    have u4 := (cell_of HG5.out.2.1 4).trans (show _ = some (Value.int .i64 0) from rfl)
    have v4 := free_of HG5.out.2.1 4
    have s0 := (cell_of HG5.out.2.2 0).trans (show _ = some (Value.int .u32 0) from rfl)
    have t0 := free_of HG5.out.2.2 0
    have s1 := (cell_of HG5.out.2.2 1).trans (show _ = some (Value.int .i64 0) from rfl)
    have t1 := free_of HG5.out.2.2 1
    have s2 := (cell_of HG5.out.2.2 2).trans (show _ = some (Value.int .i64 0) from rfl)
    have t2 := free_of HG5.out.2.2 2
    have s3 := (cell_of HG5.out.2.2 3).trans (show _ = some (Value.int .u32 0) from rfl)
    have t3 := free_of HG5.out.2.2 3
    have s4 := (cell_of HG5.out.2.2 4).trans (show _ = some (Value.int .i64 0) from rfl)
    have t4 := free_of HG5.out.2.2 4
    have s5 := (cell_of HG5.out.2.2 5).trans (show _ = some (Value.int .i64 0) from rfl)
    have t5 := free_of HG5.out.2.2 5
    have s6 := (cell_of HG5.out.2.2 6).trans (show _ = some (Value.int .i64 0) from rfl)
    have t6 := free_of HG5.out.2.2 6
    have HSS := Lib.hid (fun (V : World) (f : Fr (fun x => x = z + 1 ∨ x = z + 2) w5 V) => (⟨f, (cell_of (f.get HG5.out.1 (by omega)) 1).trans rfl, (cell_of (f.get HG5.out.1 (by omega)) 0).trans rfl⟩ : Fr (fun x => x = z + 1 ∨ x = z + 2) w5 V ∧ V.cell? ⟨z, 1, none⟩ = some (.int .u32 (q.tag : Int)) ∧ V.cell? ⟨z, 0, none⟩ = some (.int .i64 q.kind)))
    have HEnd := Lib.hid (out_end (z1 := z + 1) (z2 := z + 2) (by omega) HG5.out.2.1 HG5.out.2.2 rc0 ⟨q.tag, q.kind, (ev : Int), 0, 0, 0, 0⟩)
    clear q0 q1
    go_upto_region 11 with fail
    refine wp_region_held_drew (S := fun w' => Fr (fun x => x = z + 1 ∨ x = z + 2) w5 w' ∧ w'.cell? ⟨z, 1, none⟩ = some (.int .u32 (q.tag : Int)) ∧ w'.cell? ⟨z, 0, none⟩ = some (.int .i64 q.kind)) (by kernel_rfl) (by exact HSS.out _ (Fr.drew (Fr.refl _ _))) (fun hHeld => ?_)
    refine wpAnyH_take (i := 0) (v := ?_) rfl (by kernel_rfl) (by kernel_rfl) (by kernel_rfl) (fun _ _ _ h => h) (Or.inl ⟨by rfl, ?_⟩) (by assumption) ?_
    rotate_left
    ·intro w' hSw; (try dsimp only at hSw); go_simp; try with_reducible rfl
    try simp only [Act.put, List.getElem_toArray, List.getElem_cons_zero, List.setIfInBounds_toArray, List.set_cons_zero, List.set_cons_succ]
    refine wpAnyH_take (i := 1) (v := ?_) rfl (by kernel_rfl) (by kernel_rfl) (by kernel_rfl) (fun _ _ _ h => h) (Or.inl ⟨by rfl, ?_⟩) (by assumption) ?_
    rotate_left
    ·intro w' hSw; (try dsimp only at hSw); go_simp; try with_reducible rfl
    try simp only [Act.put, sL]
    refine wpAnyH_take (i := 2) (v := ?_) rfl (by kernel_rfl) (by kernel_rfl) (by kernel_rfl) (fun _ _ _ h => h) (Or.inl ⟨by rfl, ?_⟩) (by assumption) ?_
    rotate_left
    ·intro w' hSw; (try dsimp only at hSw); go_simp; try with_reducible rfl
    try simp only [Act.put, sL]
    refine wpAnyH_take (i := 3) (v := ?_) rfl (by kernel_rfl) (by kernel_rfl) (by kernel_rfl) (fun _ _ _ h => h) (Or.inl ⟨by rfl, ?_⟩) (by assumption) ?_
    rotate_left
    ·intro w' hSw; (try dsimp only at hSw); go_simp; try with_reducible rfl
    try simp only [Act.put, sL]
    refine wpAnyH_take (i := 4) (v := ?_) rfl (by kernel_rfl) (by kernel_rfl) (by kernel_rfl) (fun _ _ _ h => h) (Or.inl ⟨by rfl, ?_⟩) (by assumption) ?_
    rotate_left
    ·intro w' hSw; (try dsimp only at hSw); go_simp; try with_reducible rfl
    try simp only [Act.put, sL]
    refine wpAnyH_take (i := 5) (v := ?_) rfl (by kernel_rfl) (by kernel_rfl) (by kernel_rfl) (fun _ _ _ h => h) (Or.inl ⟨by rfl, ?_⟩) (by assumption) ?_
    rotate_left
    ·intro w' hSw; (try dsimp only at hSw); go_simp; try with_reducible rfl
    try simp only [Act.put, sL]
    refine wpAnyH_take (i := 6) (v := ?_) rfl (by kernel_rfl) (by kernel_rfl) (by kernel_rfl) (fun _ _ _ h => h) (Or.inl ⟨by rfl, ?_⟩) (by assumption) ?_
    rotate_left
    ·intro w' hSw; (try dsimp only at hSw); go_simp; try with_reducible rfl
    try simp only [Act.put, sL]
    refine wpAnyH_ready (rs := [7]) (by kernel_rfl) (by simp) ?_
    refine AllReadyH.cons rfl (fun K hK => ?_) AllReadyH.nil
    go_simp
    skip
    try go_simp
    refine hK.out _ _ ?_ (fun hHeld => ?_)
    ·(try dsimp only); exact HSS.out _ (Fr.drew ((recW_fr w5 (z + 1) _ _ _ _ _).mono (fun _ _ e => .inl e)))
    clear hK K
    try simp only [Act.put, sL]
    refine wpAnyH_ready (rs := [8]) (by kernel_rfl) (by simp) ?_
    refine AllReadyH.cons rfl (fun K hK => ?_) AllReadyH.nil
    go_simp
    skip
    try go_simp
    refine hK.out _ _ ?_ (fun hHeld => ?_)
    ·(try dsimp only); exact HSS.out _ (Fr.drew HEnd.out.1.2.2)
    clear hK K
    try simp only [Act.put, sL]
    refine wpAnyH_take (i := 9) (v := ?_) rfl (by kernel_rfl) (by kernel_rfl) (by kernel_rfl) (fun _ _ _ h => h) (Or.inl ⟨by rfl, ?_⟩) (by assumption) ?_
    rotate_left
    ·intro w' hSw; (try dsimp only at hSw); go_simp; try with_reducible rfl
    try simp only [Act.put, sL]
    refine wpAnyH_take (i := 10) (v := ?_) rfl (by kernel_rfl) (by kernel_rfl) (by kernel_rfl) (fun _ _ _ h => h) (Or.inl ⟨by rfl, ?_⟩) (by assumption) ?_
    rotate_left
    ·intro w' hSw; (try dsimp only at hSw); go_simp; try with_reducible rfl
    try simp only [Act.put, sL]
    refine wpAnyH_done (by kernel_rfl) ?_ _
    obtain ⟨o1, o2, o3⟩ := HEnd.out.1
    have HP := Lib.hid (aft_to (aft_end (F0.out.trans F4.out (fun _ _ h => h)) A5.out o3 (fun x hx => ⟨by have := HY4.out; omega, fun ho => by have := Hown.out x ho; have := Hz.out; omega, by have := Hz.out; omega⟩)) (Fr.drew (Fr.refl _ _)))
    have HE1 := Lib.hid o1; have HE2 := Lib.hid o2
    clear o1 o2 o3
    go_wp2_with fail
    refine bodyPost_ret (v := decV ⟨rc0, ⟨q.tag, q.kind, (ev : Int), 0, 0, 0, 0⟩, false, 0⟩) ?_ rfl (by rw [HDv.out]; exact ⟨rfl, HP.out⟩)
    obtain ⟨e0, e1, e2, e3, e4⟩ := rc_cells5 HE1.out
    obtain ⟨p0, p1, p2, p3, p4, p5, p6⟩ := rp_cells HE2.out
    simp only [rc0] at e0 e1 e2 e3 e4 p0 p1 p2 p3 p4 p5 p6
    simp [results, Tryz.f28, go_sem, rc0, u0, u1, u2, u3, u4, s0, s1, s2, s3, s4, s5, s6]
  ·have hin : i = n := by omega
   have HDv := Lib.hid (show decD b room q = ⟨r, repOf q r, true, 0⟩ by
    have e1 : refE b room q = 0 := by
     rw [HFst.out.2.1]
     exact firstE_all (fun j h => by rw [List.getElem_map]; exact HZ0.out j (by simpa using h) (by have := HN.out; have : j < E.length := (by simpa using h); omega))
    rw [HDec.out, e1, if_pos rfl, HRec.out])
   have hlt' : ¬ (i : Int) < (n : Int) := by omega
   have HSS := Lib.hid (fun (V : World) (f : Fr (fun x => x = z + 1 ∨ x = z + 2) wr V) => (⟨f, (cell_of (f.get HGr.out.1 (by omega)) 0).trans rfl, (cell_of (f.get HGr.out.1 (by omega)) 1).trans rfl, (cell_of (f.get HGr.out.1 (by omega)) 2).trans rfl, (cell_of (f.get HGr.out.1 (by omega)) 3).trans rfl, (cell_of (f.get HGr.out.1 (by omega)) 4).trans rfl, (cell_of (f.get HGr.out.2.2.2 (by have := HY4.out; omega)) 0).trans rfl, (cell_of (f.get HGr.out.2.2.2 (by have := HY4.out; omega)) 1).trans rfl, (cell_of (f.get HGr.out.2.2.2 (by have := HY4.out; omega)) 2).trans rfl, (cell_of (f.get HGr.out.2.2.2 (by have := HY4.out; omega)) 3).trans rfl, (cell_of (f.get HGr.out.2.2.2 (by have := HY4.out; omega)) 4).trans rfl⟩ : Fr (fun x => x = z + 1 ∨ x = z + 2) wr V ∧ V.cell? ⟨z, 0, none⟩ = some (.int .i64 q.kind) ∧ V.cell? ⟨z, 1, none⟩ = some (.int .u32 (q.tag : Int)) ∧ V.cell? ⟨z, 2, none⟩ = some (.int .u32 (q.id : Int)) ∧ V.cell? ⟨z, 3, none⟩ = some (.int .i64 q.seat) ∧ V.cell? ⟨z, 4, none⟩ = some (.int .i64 q.ttl) ∧ V.cell? ⟨y, 0, none⟩ = some (.int .i64 r.kind) ∧ V.cell? ⟨y, 1, none⟩ = some (.int .u32 (r.id : Int)) ∧ V.cell? ⟨y, 2, none⟩ = some (.int .i64 r.seat) ∧ V.cell? ⟨y, 3, none⟩ = some (.int .i64 r.till) ∧ V.cell? ⟨y, 4, none⟩ = some (.int .i64 r.clock)))
   obtain ⟨x, hx⟩ : ∃ x, x = repOf q r := ⟨_, rfl⟩
   have HRep := Lib.hid (fun (V : World) => show Calls Tryz.prog 63 #[rqV q, rcV r] V fun e w' => e = .returned (rpV x) ∧ Fr (fun _ => False) V w' by rw [hx]; exact reply_ok q r V)
   have HXr := Lib.hid hx
   clear hin hi hlt hx
   go_upto_region 13 with fail
   refine wp_region_held_drew (S := fun w' => Fr (fun x => x = z + 1 ∨ x = z + 2) wr w' ∧ w'.cell? ⟨z, 0, none⟩ = some (.int .i64 q.kind) ∧ w'.cell? ⟨z, 1, none⟩ = some (.int .u32 (q.tag : Int)) ∧ w'.cell? ⟨z, 2, none⟩ = some (.int .u32 (q.id : Int)) ∧ w'.cell? ⟨z, 3, none⟩ = some (.int .i64 q.seat) ∧ w'.cell? ⟨z, 4, none⟩ = some (.int .i64 q.ttl) ∧ w'.cell? ⟨y, 0, none⟩ = some (.int .i64 r.kind) ∧ w'.cell? ⟨y, 1, none⟩ = some (.int .u32 (r.id : Int)) ∧ w'.cell? ⟨y, 2, none⟩ = some (.int .i64 r.seat) ∧ w'.cell? ⟨y, 3, none⟩ = some (.int .i64 r.till) ∧ w'.cell? ⟨y, 4, none⟩ = some (.int .i64 r.clock)) (by kernel_rfl) (by exact HSS.out _ (Fr.drew (Fr.refl _ _))) (fun hHeld => ?_)
   refine wpAnyH_take (i := 0) (v := ?_) rfl (by kernel_rfl) (by kernel_rfl) (by kernel_rfl) (fun _ _ _ h => h) (Or.inl ⟨by rfl, ?_⟩) (by assumption) ?_
   rotate_left
   ·intro w' hSw; (try dsimp only at hSw); go_simp; try with_reducible rfl
   try simp only [Act.put, List.getElem_toArray, List.getElem_cons_zero, List.setIfInBounds_toArray, List.set_cons_zero, List.set_cons_succ]
   refine wpAnyH_take (i := 1) (v := ?_) rfl (by kernel_rfl) (by kernel_rfl) (by kernel_rfl) (fun _ _ _ h => h) (Or.inl ⟨by rfl, ?_⟩) (by assumption) ?_
   rotate_left
   ·intro w' hSw; (try dsimp only at hSw); go_simp; try with_reducible rfl
   try simp only [Act.put, sL]
   refine wpAnyH_take (i := 2) (v := ?_) rfl (by kernel_rfl) (by kernel_rfl) (by kernel_rfl) (fun _ _ _ h => h) (Or.inl ⟨by rfl, ?_⟩) (by assumption) ?_
   rotate_left
   ·intro w' hSw; (try dsimp only at hSw); go_simp; try with_reducible rfl
   try simp only [Act.put, sL]
   refine wpAnyH_ready (rs := [3]) (by kernel_rfl) (by simp) ?_
   refine AllReadyH.cons rfl (fun K hK => ?_) AllReadyH.nil
   go_simp
   refine (HRep.out _).mono ?_
   rintro e w3x ⟨rfl, f3x⟩
   try go_simp
   refine hK.out _ _ ?_ (fun hHeld => ?_)
   ·(try dsimp only); exact HSS.out _ (hHeld.1.trans f3x (fun _ _ h => h.elim))
   clear hK K
   have f3x' := f3x
   have hA1 : w3x.heap[z + 1]? = some (.cells #[.int .i64 0, .int .u32 0, .int .i64 0, .int .i64 0, .int .i64 0] 46 (0, 0)) := f3x.get HGr.out.2.1 (fun h => h)
   have hA2 : w3x.heap[z + 2]? = some (rpO rp0) := f3x.get HGr.out.2.2.1 (fun h => h)
   have HFx := Lib.hid (show Fr (fun x => x = z + 1 ∨ x = z + 2) wr w3x from ((Fr.drew (Fr.refl (fun x => x = z + 1 ∨ x = z + 2) wr)).trans f3x (fun _ _ h => h.elim)))
   have HEnd := Lib.hid (out_end (z1 := z + 1) (z2 := z + 2) (by omega) hA1 hA2 r x)
   clear u0 u1 u2 u3 u4 v0 v1 v2 v3 v4 s0 s1 s2 s3 s4 s5 s6 t0 t1 t2 t3 t4 t5 t6
   have u0 := (cell_of hA1 0).trans (show _ = some (Value.int .i64 0) from rfl)
   have v0 := free_of hA1 0
   have u1 := (cell_of hA1 1).trans (show _ = some (Value.int .u32 0) from rfl)
   have v1 := free_of hA1 1
   have u2 := (cell_of hA1 2).trans (show _ = some (Value.int .i64 0) from rfl)
   have v2 := free_of hA1 2
   have u3 := (cell_of hA1 3).trans (show _ = some (Value.int .i64 0) from rfl)
   have v3 := free_of hA1 3
   have u4 := (cell_of hA1 4).trans (show _ = some (Value.int .i64 0) from rfl)
   have v4 := free_of hA1 4
   have s0 := (cell_of hA2 0).trans (show _ = some (Value.int .u32 0) from rfl)
   have t0 := free_of hA2 0
   have s1 := (cell_of hA2 1).trans (show _ = some (Value.int .i64 0) from rfl)
   have t1 := free_of hA2 1
   have s2 := (cell_of hA2 2).trans (show _ = some (Value.int .i64 0) from rfl)
   have t2 := free_of hA2 2
   have s3 := (cell_of hA2 3).trans (show _ = some (Value.int .u32 0) from rfl)
   have t3 := free_of hA2 3
   have s4 := (cell_of hA2 4).trans (show _ = some (Value.int .i64 0) from rfl)
   have t4 := free_of hA2 4
   have s5 := (cell_of hA2 5).trans (show _ = some (Value.int .i64 0) from rfl)
   have t5 := free_of hA2 5
   have s6 := (cell_of hA2 6).trans (show _ = some (Value.int .i64 0) from rfl)
   have t6 := free_of hA2 6
   clear f3x f3x' hA1 hA2
   try simp only [Act.put, sL]
   refine wpAnyH_ready (rs := [4]) (by kernel_rfl) (by simp) ?_
   refine AllReadyH.cons rfl (fun K hK => ?_) AllReadyH.nil
   go_simp
   skip
   try go_simp
   refine hK.out _ _ ?_ (fun hHeld => ?_)
   ·(try dsimp only); exact HSS.out _ (HFx.out.trans (recW_fr w3x (z + 1) _ _ _ _ _) (fun _ _ e => .inl e))
   clear hK K
   try simp only [Act.put, sL]
   refine wpAnyH_ready (rs := [5]) (by kernel_rfl) (by simp) ?_
   refine AllReadyH.cons rfl (fun K hK => ?_) AllReadyH.nil
   go_simp
   skip
   try go_simp
   refine hK.out _ _ ?_ (fun hHeld => ?_)
   ·(try dsimp only); exact HSS.out _ (HFx.out.trans HEnd.out.1.2.2 (fun _ _ h => h))
   clear hK K
   try simp only [Act.put, sL]
   refine wpAnyH_take (i := 6) (v := ?_) rfl (by kernel_rfl) (by kernel_rfl) (by kernel_rfl) (fun _ _ _ h => h) (Or.inl ⟨by rfl, ?_⟩) (by assumption) ?_
   rotate_left
   ·intro w' hSw; (try dsimp only at hSw); go_simp; try with_reducible rfl
   try simp only [Act.put, sL]
   refine wpAnyH_take (i := 7) (v := ?_) rfl (by kernel_rfl) (by kernel_rfl) (by kernel_rfl) (fun _ _ _ h => h) (Or.inl ⟨by rfl, ?_⟩) (by assumption) ?_
   rotate_left
   ·intro w' hSw; (try dsimp only at hSw); go_simp; try with_reducible rfl
   try simp only [Act.put, sL]
   refine wpAnyH_done (by kernel_rfl) ?_ _
   obtain ⟨o1, o2, o3⟩ := HEnd.out.1
   have HP := Lib.hid (aft_end (F0.out.trans F4.out (fun _ _ h => h)) HA.out (HFx.out.trans o3 (fun _ _ h => h)) (fun x hx => ⟨by have := HY4.out; omega, fun ho => by have := Hown.out x ho; have := Hz.out; omega, by have := Hz.out; omega⟩))
   have HE1 := Lib.hid o1; have HE2 := Lib.hid o2
   clear o1 o2 o3
   go_wp2_with fail
   refine bodyPost_ret (v := decV ⟨r, x, true, 0⟩) ?_ rfl (by rw [HDv.out, ← HXr.out]; exact ⟨rfl, HP.out⟩)
   obtain ⟨e0, e1, e2, e3, e4⟩ := rc_cells5 HE1.out
   obtain ⟨p0, p1, p2, p3, p4, p5, p6⟩ := rp_cells HE2.out
   simp [results, Tryz.f28, go_sem, e0, e1, e2, e3, e4, p0, p1, p2, p3, p4, p5, p6]
end Go.Proofs.YtffnjnnmlfgngaaGreat.Cs
namespace Go.Proofs.YtffnjnnmlfgngaaGreat.Cs
open Go.RowKit Go.Shelf Go.Proofs.YtffnjnnmlfgngaaGreat.Bk
theorem equalRc (w : World) (a b c d e a' b' c' d' e' : Int) : (Op.equalIn 10000 46 (.agg #[.int .i64 a, .int .u32 b, .int .i64 c, .int .i64 d, .int .i64 e]) (.agg #[.int .i64 a', .int .u32 b', .int .i64 c', .int .i64 d', .int .i64 e'])).run Tryz.prog w = .ok (a == a' && (b == b' && (c == c' && (d == d' && (e == e'))))) w := by
  rw [run_equalIn_agg (P := Tryz.prog) w 9999 46 _ _ (by kernel_rfl) Tryz.stoodInHeld46]
  have hf : (Tryz.prog.fieldsOf 46).toList.map (fun f => (decide (f.name = "_"), f.type, f.offset)) = [(false, 44, 0), (false, 24, 1), (false, 3, 2), (false, 2, 3), (false, 2, 4)] := by kernel_rfl
  revert hf
  generalize (Tryz.prog.fieldsOf 46).toList = fs
  intro hf
  rcases fs with _ | ⟨f1, _ | ⟨f2, _ | ⟨f3, _ | ⟨f4, _ | ⟨f5, _ | ⟨f6, fs⟩⟩⟩⟩⟩⟩
  · simp at hf
  · simp at hf
  · simp at hf
  · simp at hf
  · simp at hf
  · simp only [List.map_cons, List.map_nil, List.cons.injEq, Prod.mk.injEq, and_true] at hf
    obtain ⟨⟨a1, a2, a3⟩, ⟨b1, b2, b3⟩, ⟨c1, c2, c3⟩, ⟨d1, d2, d3⟩, e1, e2, e3⟩ := hf
    cases h0 : (a == a')
    · simp [Op.eqFields, of_decide_eq_false a1, a2, a3, of_decide_eq_false b1, b2, b3, of_decide_eq_false c1, c2, c3, of_decide_eq_false d1, d2, d3, of_decide_eq_false e1, e2, e3, go_sem, h0]
    cases h1 : (b == b')
    · simp [Op.eqFields, of_decide_eq_false a1, a2, a3, of_decide_eq_false b1, b2, b3, of_decide_eq_false c1, c2, c3, of_decide_eq_false d1, d2, d3, of_decide_eq_false e1, e2, e3, go_sem, h0, h1]
    cases h2 : (c == c')
    · simp [Op.eqFields, of_decide_eq_false a1, a2, a3, of_decide_eq_false b1, b2, b3, of_decide_eq_false c1, c2, c3, of_decide_eq_false d1, d2, d3, of_decide_eq_false e1, e2, e3, go_sem, h0, h1, h2]
    cases h3 : (d == d')
    · simp [Op.eqFields, of_decide_eq_false a1, a2, a3, of_decide_eq_false b1, b2, b3, of_decide_eq_false c1, c2, c3, of_decide_eq_false d1, d2, d3, of_decide_eq_false e1, e2, e3, go_sem, h0, h1, h2, h3]
    cases h4 : (e == e')
    · simp [Op.eqFields, of_decide_eq_false a1, a2, a3, of_decide_eq_false b1, b2, b3, of_decide_eq_false c1, c2, c3, of_decide_eq_false d1, d2, d3, of_decide_eq_false e1, e2, e3, go_sem, h0, h1, h2, h3, h4]
    · simp [Op.eqFields, of_decide_eq_false a1, a2, a3, of_decide_eq_false b1, b2, b3, of_decide_eq_false c1, c2, c3, of_decide_eq_false d1, d2, d3, of_decide_eq_false e1, e2, e3, go_sem, h0, h1, h2, h3, h4]
  · simp at hf
theorem equalRp (w : World) (a b c d e f g a' b' c' d' e' f' g' : Int) : (Op.equalIn 10000 71 (.agg #[.int .u32 a, .int .i64 b, .int .i64 c, .int .u32 d, .int .i64 e, .int .i64 f, .int .i64 g]) (.agg #[.int .u32 a', .int .i64 b', .int .i64 c', .int .u32 d', .int .i64 e', .int .i64 f', .int .i64 g'])).run Tryz.prog w = .ok (a == a' && (b == b' && (c == c' && (d == d' && (e == e' && (f == f' && (g == g'))))))) w := by
  rw [run_equalIn_agg (P := Tryz.prog) w 9999 71 _ _ (by kernel_rfl) Tryz.stoodInHeld71]
  have hf : (Tryz.prog.fieldsOf 71).toList.map (fun f => (decide (f.name = "_"), f.type, f.offset)) = [(false, 24, 0), (false, 69, 1), (false, 32, 2), (false, 24, 3), (false, 3, 4), (false, 2, 5), (false, 3, 6)] := by kernel_rfl
  revert hf
  generalize (Tryz.prog.fieldsOf 71).toList = fs
  intro hf
  rcases fs with _ | ⟨f1, _ | ⟨f2, _ | ⟨f3, _ | ⟨f4, _ | ⟨f5, _ | ⟨f6, _ | ⟨f7, _ | ⟨f8, fs⟩⟩⟩⟩⟩⟩⟩⟩
  · simp at hf
  · simp at hf
  · simp at hf
  · simp at hf
  · simp at hf
  · simp at hf
  · simp at hf
  · simp only [List.map_cons, List.map_nil, List.cons.injEq, Prod.mk.injEq, and_true] at hf
    obtain ⟨⟨a1, a2, a3⟩, ⟨b1, b2, b3⟩, ⟨c1, c2, c3⟩, ⟨d1, d2, d3⟩, ⟨e1, e2, e3⟩, ⟨f1, f2, f3⟩, g1, g2, g3⟩ := hf
    cases h0 : (a == a')
    · simp [Op.eqFields, of_decide_eq_false a1, a2, a3, of_decide_eq_false b1, b2, b3, of_decide_eq_false c1, c2, c3, of_decide_eq_false d1, d2, d3, of_decide_eq_false e1, e2, e3, of_decide_eq_false f1, f2, f3, of_decide_eq_false g1, g2, g3, go_sem, h0]
    cases h1 : (b == b')
    · simp [Op.eqFields, of_decide_eq_false a1, a2, a3, of_decide_eq_false b1, b2, b3, of_decide_eq_false c1, c2, c3, of_decide_eq_false d1, d2, d3, of_decide_eq_false e1, e2, e3, of_decide_eq_false f1, f2, f3, of_decide_eq_false g1, g2, g3, go_sem, h0, h1]
    cases h2 : (c == c')
    · simp [Op.eqFields, of_decide_eq_false a1, a2, a3, of_decide_eq_false b1, b2, b3, of_decide_eq_false c1, c2, c3, of_decide_eq_false d1, d2, d3, of_decide_eq_false e1, e2, e3, of_decide_eq_false f1, f2, f3, of_decide_eq_false g1, g2, g3, go_sem, h0, h1, h2]
    cases h3 : (d == d')
    · simp [Op.eqFields, of_decide_eq_false a1, a2, a3, of_decide_eq_false b1, b2, b3, of_decide_eq_false c1, c2, c3, of_decide_eq_false d1, d2, d3, of_decide_eq_false e1, e2, e3, of_decide_eq_false f1, f2, f3, of_decide_eq_false g1, g2, g3, go_sem, h0, h1, h2, h3]
    cases h4 : (e == e')
    · simp [Op.eqFields, of_decide_eq_false a1, a2, a3, of_decide_eq_false b1, b2, b3, of_decide_eq_false c1, c2, c3, of_decide_eq_false d1, d2, d3, of_decide_eq_false e1, e2, e3, of_decide_eq_false f1, f2, f3, of_decide_eq_false g1, g2, g3, go_sem, h0, h1, h2, h3, h4]
    cases h5 : (f == f')
    · simp [Op.eqFields, of_decide_eq_false a1, a2, a3, of_decide_eq_false b1, b2, b3, of_decide_eq_false c1, c2, c3, of_decide_eq_false d1, d2, d3, of_decide_eq_false e1, e2, e3, of_decide_eq_false f1, f2, f3, of_decide_eq_false g1, g2, g3, go_sem, h0, h1, h2, h3, h4, h5]
    cases h6 : (g == g')
    · simp [Op.eqFields, of_decide_eq_false a1, a2, a3, of_decide_eq_false b1, b2, b3, of_decide_eq_false c1, c2, c3, of_decide_eq_false d1, d2, d3, of_decide_eq_false e1, e2, e3, of_decide_eq_false f1, f2, f3, of_decide_eq_false g1, g2, g3, go_sem, h0, h1, h2, h3, h4, h5, h6]
    · simp [Op.eqFields, of_decide_eq_false a1, a2, a3, of_decide_eq_false b1, b2, b3, of_decide_eq_false c1, c2, c3, of_decide_eq_false d1, d2, d3, of_decide_eq_false e1, e2, e3, of_decide_eq_false f1, f2, f3, of_decide_eq_false g1, g2, g3, go_sem, h0, h1, h2, h3, h4, h5, h6]
  · simp at hf
theorem eqlRc (w : World) (r : Rc) : (binOp .eql 46 (rcV r) (rcV r)).run Tryz.prog w = .ok (.bool true) w := by
  rw [run_eql_struct, equalRc]; simp
theorem eqlRp (w : World) (x : Rp) : (binOp .eql 71 (rpV x) (rpV x)).run Tryz.prog w = .ok (.bool true) w := by
  rw [run_eql_struct, equalRp]; simp
theorem neqRc (w : World) (r : Rc) : (binOp .neq 46 (rcV r) (rcV r)).run Tryz.prog w = .ok (.bool false) w := by
  rw [run_neq_struct, equalRc]; simp
theorem neqRp (w : World) (x : Rp) : (binOp .neq 71 (rpV x) (rpV x)).run Tryz.prog w = .ok (.bool false) w := by
  rw [run_neq_struct, equalRp]; simp
/-- Decide of a book. -/
theorem decide_ok {p : Pt} {bb : Nat} {b : Bk} {w : World} (h : BkP p bb b.next b b.L b.L w) (q : Rq) (room : Int) (hid : q.id < 4294967296) : Calls Tryz.prog 28 #[.pointer (some ⟨bb, 0, none⟩), .int .i64 room, rqV q] w (DecP p bb b w (decD b room q)) := by
  cases hb : (rqOk q && isCh q.kind) with
  | true => exact decide_good h q room hid hb
  | false => exact decide_bad h q room hb
end Go.Proofs.YtffnjnnmlfgngaaGreat.Cs
namespace Go.Proofs.YtffnjnnmlfgngaaGreat.Cs
open Go.RowKit Go.Shelf Go.Proofs.YtffnjnnmlfgngaaGreat.Bk
attribute [local go_sem] Oper.semAt_some
theorem bks_stay {w w1 w2 : World} {n : Nat} {B : Nat → Nat} {M : Nat → Bk} {Z : Nat → Prop} {P : Nat → Pt} (h : Bks w w1 n B M Z P) {i : Nat} (hi : i < n) (ha : Aft (P i) (B i) (M i) w1 w2) : (∃ P', Bks w w2 n B M Z P') ∧ Fr (fun y => ¬ Z y) w1 w2 := by
  obtain ⟨⟨P', h'⟩, f⟩ := h.aft hi ha
  refine ⟨⟨P', h'.names (fun _ _ => rfl) (fun j _ => ?_)⟩, f⟩
  by_cases e : j = i
  · rw [e, upd_same]
  · rw [upd_ne _ _ e]
def bC1 : Bk := { seats := 3, codes := 2, group := 1, next := 2, clock := 4, L := [(1, 0, 9)] }
theorem decC1 : decV (decD bC1 37 ⟨1, 7, 0, 2, 5⟩) = .tuple #[.agg #[.int .i64 1, .int .u32 2, .int .i64 2, .int .i64 9, .int .i64 0], .agg #[.int .u32 7, .int .i64 1, .int .i64 0, .int .u32 2, .int .i64 0, .int .i64 9, .int .i64 0], .bool true, .int .i64 0] := by
  kernel_rfl
theorem ansC1 : ansV (ansD bC1 ⟨6, 8, 0, 0, 0⟩) = .tuple #[.agg #[.int .u32 8, .int .i64 6, .int .i64 0, .int .u32 1, .int .i64 0, .int .i64 9, .int .i64 0], .int .i64 0] := by
  kernel_rfl
theorem ofC1 : ofGo (bkL 3 2 1 2 4 []) 0 [(1, 0, 9)] = true := by rfl
theorem bos_one {w : World} {g : Nat} {x : Bo} (h : w.heap[g]? = some (.cells #[.int .u32 (x.1 : Int), .int .i64 x.2.1, .int .i64 x.2.2] 68 (0, 0))) : Bos w (.slice (some ⟨g, 0, none⟩) 1 1) [x] :=
  ⟨rfl, .inr ⟨g, 1, _, rfl, Nat.zero_le _, h, Nat.le_refl _, by decide, rfl, rfl⟩⟩
set_option maxRecDepth 100000 in
set_option maxHeartbeats 4000000 in
theorem awake_ok (w : World) : Calls Tryz.prog 27 #[] w fun e w' => e = .returned (.bool true) ∧ Fr (fun _ => False) w w' := by
  obtain ⟨W, hW⟩ : ∃ W, W = w.alloc (.cells #[.int .u32 1, .int .i64 0, .int .i64 9] 68) := ⟨_, rfl⟩
  obtain ⟨z, hz⟩ : ∃ z, z = w.heap.size := ⟨_, rfl⟩
  have f0 : Fr (fun _ => False) w W := by rw [hW]; exact Fr.alloc (Fr.refl _ _) _
  have hg : W.heap[z]? = some (.cells #[.int .u32 1, .int .i64 0, .int .i64 9] 68 (0, 0)) := by rw [hW, hz]; exact heap_alloc_at _ _
  have HOf := Lib.hid (of_ok (w := W) (n := 3) (m := 2) (q := 1) (by omega) (by omega) (by omega) (nx := 2) (by omega) (c := 4) (by omega) (bos_one (x := (1, 0, 9)) hg) (by simp))
  have F0 := Lib.hid f0
  clear f0 hg
  go_enter Tryz.func27, Tryz.ntmps27
  go_upto_region 1 with fail
  go_wp2_with fail
  rw [← hW, ← hz]
  clear hW hz
  refine HOf.out.mono ?_
  rintro e w1 ⟨f1, ho⟩
  rw [if_pos ofC1] at ho
  obtain ⟨p, bb, rfl, hB, hn⟩ := ho
  obtain ⟨P, hP⟩ := Bks.one (w := W) (w1 := w1) (bb := bb) (b := bC1) ⟨p, hB, hn, f1⟩
  have HB := Lib.hid hP
  clear f1 hB hn hP
  go_upto_region 2 with fail
  go_wp2_with fail
  refine (decide_ok (HB.out.at_ 0 (by omega)) ⟨1, 7, 0, 2, 5⟩ 37 (by decide)).mono ?_
  rintro e w2 ⟨rfl, a2⟩
  rw [decC1]
  obtain ⟨⟨P2, hP2⟩, -⟩ := bks_stay HB.out (i := 0) (by omega) a2
  obtain ⟨V1, hV1⟩ : ∃ V, V = w2.alloc (.cells #[.int .i64 1, .int .u32 2, .int .i64 2, .int .i64 9, .int .i64 0] 46) := ⟨_, rfl⟩
  obtain ⟨V, hV⟩ : ∃ V, V = V1.alloc (.cells #[.int .u32 7, .int .i64 1, .int .i64 0, .int .u32 2, .int .i64 0, .int .i64 9, .int .i64 0] 71) := ⟨_, rfl⟩
  obtain ⟨c, hc⟩ : ∃ c, c = w2.heap.size := ⟨_, rfl⟩
  have sc : V1.heap.size = c + 1 := by rw [hV1, hc]; simp
  have fV1 : Fr (fun _ => False) w2 V1 := by rw [hV1]; exact Fr.alloc (Fr.refl _ _) _
  have fV2 : Fr (fun _ => False) V1 V := by rw [hV]; exact Fr.alloc (Fr.refl _ _) _
  have g1 : V.heap[c]? = some (.cells #[.int .i64 1, .int .u32 2, .int .i64 2, .int .i64 9, .int .i64 0] 46 (0, 0)) := fV2.get (show V1.heap[c]? = _ by rw [hV1, hc]; exact heap_alloc_at _ _) (fun h => h)
  have g2 : V.heap[c + 1]? = some (.cells #[.int .u32 7, .int .i64 1, .int .i64 0, .int .u32 2, .int .i64 0, .int .i64 9, .int .i64 0] 71 (0, 0)) := show V.heap[c + 1]? = _ by rw [hV, ← sc]; exact heap_alloc_at _ _
  have HB2 := Lib.hid (hP2.keep (fV1.trans fV2 (fun _ _ h => h)))
  have HZ := Lib.hid (show w2.heap.size ≤ c ∧ c + 1 < V.heap.size from ⟨by omega, lt_of_block g2⟩)
  have HG := Lib.hid (And.intro g1 g2); have HV1 := Lib.hid hV1; have HV := Lib.hid hV; have Hc := Lib.hid hc; have Hsc := Lib.hid sc
  clear a2 hP2 fV1 fV2 g1 g2 hV1 hV hc sc
  go_upto_region 3 with fail
  rw [← HV1.out, ← HV.out, ← Hc.out]
  try rw [Hsc.out]
  go_wp2_with fail
  refine (answer_ok (HB2.out.at_ 0 (by omega)) ⟨6, 8, 0, 0, 0⟩ (by decide)).mono ?_
  rintro e w3 ⟨rfl, a3⟩
  rw [ansC1]
  obtain ⟨⟨P3, hP3⟩, f3⟩ := bks_stay HB2.out (i := 0) (by omega) a3
  have h1 := f3.get HG.out.1 (fun h => h (.inr ⟨HZ.out.1, by have := HZ.out.2; omega⟩))
  have h2 := f3.get HG.out.2 (fun h => h (.inr ⟨by have := HZ.out.1; omega, HZ.out.2⟩))
  have F3 := Lib.hid (F0.out.trans hP3.fr (fun _ _ h => h))
  obtain ⟨V3, hV3⟩ : ∃ V, V = w3.alloc (.cells #[.int .u32 8, .int .i64 6, .int .i64 0, .int .u32 1, .int .i64 0, .int .i64 9, .int .i64 0] 71) := ⟨_, rfl⟩
  obtain ⟨d, hd⟩ : ∃ d, d = w3.heap.size := ⟨_, rfl⟩
  have fV3 : Fr (fun _ => False) w3 V3 := by rw [hV3]; exact Fr.alloc (Fr.refl _ _) _
  have g3 : V3.heap[d]? = some (.cells #[.int .u32 8, .int .i64 6, .int .i64 0, .int .u32 1, .int .i64 0, .int .i64 9, .int .i64 0] 71 (0, 0)) := by rw [hV3, hd]; exact heap_alloc_at _ _
  have g1 := fV3.get h1 (fun h => h)
  have g2 := fV3.get h2 (fun h => h)
  have F4 := Lib.hid (F3.out.trans fV3 (fun _ _ h => h))
  have HV3 := Lib.hid hV3; have Hd := Lib.hid hd
  clear a3 hP3 f3 h1 h2 fV3 hV3 hd
  go_upto_region 4 with fail
  rw [← HV3.out, ← Hd.out]
  have m0 := (cell_of g1 0).trans (show _ = some (Value.int .i64 1) from rfl)
  have m1 := (cell_of g1 1).trans (show _ = some (Value.int .u32 2) from rfl)
  have m2 := (cell_of g1 2).trans (show _ = some (Value.int .i64 2) from rfl)
  have m3 := (cell_of g1 3).trans (show _ = some (Value.int .i64 9) from rfl)
  have m4 := (cell_of g1 4).trans (show _ = some (Value.int .i64 0) from rfl)
  have n0 := (cell_of g2 0).trans (show _ = some (Value.int .u32 7) from rfl)
  have n1 := (cell_of g2 1).trans (show _ = some (Value.int .i64 1) from rfl)
  have n2 := (cell_of g2 2).trans (show _ = some (Value.int .i64 0) from rfl)
  have n3 := (cell_of g2 3).trans (show _ = some (Value.int .u32 2) from rfl)
  have n4 := (cell_of g2 4).trans (show _ = some (Value.int .i64 0) from rfl)
  have n5 := (cell_of g2 5).trans (show _ = some (Value.int .i64 9) from rfl)
  have n6 := (cell_of g2 6).trans (show _ = some (Value.int .i64 0) from rfl)
  have o0 := (cell_of g3 0).trans (show _ = some (Value.int .u32 8) from rfl)
  have o1 := (cell_of g3 1).trans (show _ = some (Value.int .i64 6) from rfl)
  have o2 := (cell_of g3 2).trans (show _ = some (Value.int .i64 0) from rfl)
  have o3 := (cell_of g3 3).trans (show _ = some (Value.int .u32 1) from rfl)
  have o4 := (cell_of g3 4).trans (show _ = some (Value.int .i64 0) from rfl)
  have o5 := (cell_of g3 5).trans (show _ = some (Value.int .i64 9) from rfl)
  have o6 := (cell_of g3 6).trans (show _ = some (Value.int .i64 0) from rfl)
  clear g1 g2 g3
  have E1 : ∀ V : World, (binOp .eql 46 (.agg #[.int .i64 1, .int .u32 2, .int .i64 2, .int .i64 9, .int .i64 0]) (.agg #[.int .i64 1, .int .u32 2, .int .i64 2, .int .i64 9, .int .i64 0])).run Tryz.prog V = .ok (.bool true) V := fun V => eqlRc V ⟨1, 2, 2, 9, 0⟩
  have E2 : ∀ V : World, (binOp .eql 71 (.agg #[.int .u32 7, .int .i64 1, .int .i64 0, .int .u32 2, .int .i64 0, .int .i64 9, .int .i64 0]) (.agg #[.int .u32 7, .int .i64 1, .int .i64 0, .int .u32 2, .int .i64 0, .int .i64 9, .int .i64 0])).run Tryz.prog V = .ok (.bool true) V := fun V => eqlRp V ⟨7, 1, 0, 2, 0, 9, 0⟩
  have E3 : ∀ V : World, (binOp .eql 71 (.agg #[.int .u32 8, .int .i64 6, .int .i64 0, .int .u32 1, .int .i64 0, .int .i64 9, .int .i64 0]) (.agg #[.int .u32 8, .int .i64 6, .int .i64 0, .int .u32 1, .int .i64 0, .int .i64 9, .int .i64 0])).run Tryz.prog V = .ok (.bool true) V := fun V => eqlRp V ⟨8, 6, 0, 1, 0, 9, 0⟩
  go_wp2_with fail
  go_ret
  exact ⟨rfl, F4.out⟩
end Go.Proofs.YtffnjnnmlfgngaaGreat.Cs
namespace Go.Proofs.YtffnjnnmlfgngaaGreat
open Go.RowKit
theorem pick_ok (x n : Int) (w : World) (_hx : -9223372036854775808 ≤ x) (_hx2 : x ≤ 9223372036854775807) (hn : 1 ≤ n) (hn2 : n ≤ 1099511627776) :
    Calls Tryz.prog 15 #[.int .i64 x, .int .i64 n] w fun e w' => e = .returned (.int .i64 (x % n)) ∧ w = w' := by
  have e1 : ((n : Int) < 1) = False := by simp; omega
  by_cases h : 0 ≤ x
  · have ht : x.tmod n = x % n := Int.tmod_eq_emod_of_nonneg h
    have h0 := Int.emod_nonneg x (by omega : n ≠ 0)
    have h1 := Int.emod_lt_of_pos x (by omega : 0 < n)
    obtain ⟨y, hy⟩ : ∃ y, y = x % n := ⟨_, rfl⟩
    rw [← hy] at ht h0 h1 ⊢
    have hne : (n == 0) = false := by simp; omega
    clear hy
    go_enter Tryz.func15, Tryz.ntmps15
    go_wp2
    go_ret
    exact ⟨rfl, rfl⟩
  · have hb := Int.tmod_eq_emod (a := x) (b := n)
    have h0 := Int.emod_nonneg x (by omega : n ≠ 0)
    have h1 := Int.emod_lt_of_pos x (by omega : 0 < n)
    have hne : (n == 0) = false := by simp; omega
    by_cases hd : n ∣ x
    · have e2 : x % n = 0 := Int.emod_eq_zero_of_dvd hd
      have e3 : x.tmod n = 0 := by rw [hb, if_pos (.inr hd), e2]; rfl
      rw [e2]
      clear h0 h1 e2 hb h
      go_enter Tryz.func15, Tryz.ntmps15
      go_wp2
      go_ret
      exact ⟨rfl, rfl⟩
    · obtain ⟨y, hy⟩ : ∃ y, y = x % n := ⟨_, rfl⟩
      have e3 : x.tmod n = y - n := by rw [hb, if_neg (by rintro (h' | h') <;> contradiction), hy]; omega
      rw [← hy] at h0 h1 ⊢
      clear hy hb h hd
      go_enter Tryz.func15, Tryz.ntmps15
      go_wp2
      go_ret
      exact ⟨by go_num, rfl⟩
end Go.Proofs.YtffnjnnmlfgngaaGreat
namespace Go.Proofs.YtffnjnnmlfgngaaGreat.Bk
open Go.RowKit Go.Shelf
attribute [local go_sem] Oper.semAt_some
/-- The document's book that isn't there. -/
def RefNo (W : World) (wb : Nat) : Prop := W.heap[wb]? = some (.cells #[.bool false, .int .i64 0, .int .i64 0, .int .i64 0, .slice none 0 0, .int .u32 0, .int .i64 0] 52 (0, 0))
theorem RefNo.fr {w w' : World} {wb : Nat} (h : RefNo w wb) (f : Fr (fun _ => False) w w') : RefNo w' wb := f.get h (fun h => h)
theorem RefNo.c {w : World} {wb : Nat} (h : RefNo w wb) : w.cell? ⟨wb, 0, none⟩ = some (.bool false) ∧ w.cell? ⟨wb, 1, none⟩ = some (.int .i64 0) ∧ w.cell? ⟨wb, 2, none⟩ = some (.int .i64 0) ∧ w.cell? ⟨wb, 3, none⟩ = some (.int .i64 0) ∧ w.cell? ⟨wb, 4, none⟩ = some (.slice none 0 0) ∧ w.cell? ⟨wb, 5, none⟩ = some (.int .u32 0) ∧ w.cell? ⟨wb, 6, none⟩ = some (.int .i64 0) :=
  ⟨(cell_of h 0).trans rfl, (cell_of h 1).trans rfl, (cell_of h 2).trans rfl, (cell_of h 3).trans rfl, (cell_of h 4).trans rfl, (cell_of h 5).trans rfl, (cell_of h 6).trans rfl⟩
end Go.Proofs.YtffnjnnmlfgngaaGreat.Bk
namespace Go.Proofs.YtffnjnnmlfgngaaGreat.Bk
open Go.RowKit Go.Shelf
attribute [local go_sem] Oper.semAt_some
/-- The document's book, there. -/
structure RefAt (W : World) (wb : Nat) (v : Value) (b : Bk) : Prop where
  head : W.heap[wb]? = some (.cells #[.bool true, .int .i64 (b.seats : Int), .int .i64 (b.codes : Int), .int .i64 (b.group : Int), v, .int .u32 (b.next : Int), .int .i64 b.clock] 52 (0, 0))
  row : Bos W v b.L
  ne : v.ownBlock ≠ some wb
theorem RefAt.fr {w w' : World} {wb : Nat} {v : Value} {b : Bk} (h : RefAt w wb v b) {F : Nat → Prop} (f : Fr F w w') (h1 : ¬ F wb) (h2 : ∀ x, v.ownBlock = some x → ¬ F x) : RefAt w' wb v b := ⟨f.get h.head h1, Row.fr h.row f h2, h.ne⟩
theorem RefAt.keep {w w' : World} {wb : Nat} {v : Value} {b : Bk} (h : RefAt w wb v b) (f : Fr (fun _ => False) w w') : RefAt w' wb v b := h.fr f (fun h => h) (fun _ _ h => h)
theorem RefAt.c {w : World} {wb : Nat} {v : Value} {b : Bk} (h : RefAt w wb v b) : w.cell? ⟨wb, 0, none⟩ = some (.bool true) ∧ w.cell? ⟨wb, 1, none⟩ = some (.int .i64 (b.seats : Int)) ∧ w.cell? ⟨wb, 2, none⟩ = some (.int .i64 (b.codes : Int)) ∧ w.cell? ⟨wb, 3, none⟩ = some (.int .i64 (b.group : Int)) ∧ w.cell? ⟨wb, 4, none⟩ = some v ∧ w.cell? ⟨wb, 5, none⟩ = some (.int .u32 (b.next : Int)) ∧ w.cell? ⟨wb, 6, none⟩ = some (.int .i64 b.clock) :=
  ⟨(cell_of h.head 0).trans rfl, (cell_of h.head 1).trans rfl, (cell_of h.head 2).trans rfl, (cell_of h.head 3).trans rfl, (cell_of h.head 4).trans rfl, (cell_of h.head 5).trans rfl, (cell_of h.head 6).trans rfl⟩
/-- The place of one that is so; -1. -/
def PosOf (f : Bo → Bool) (L : List Bo) (i : Int) : Prop := (i = -1 ∧ ∀ x ∈ L, f x = false) ∨ ∃ k, ∃ h : k < L.length, i = (k : Int) ∧ f L[k] = true
theorem none_of {f : Bo → Bool} {L : List Bo} (h : ∀ j (h : j < L.length), f L[j] = false) : ∀ x ∈ L, f x = false := by
  intro x hx
  obtain ⟨j, hj, rfl⟩ := List.getElem_of_mem hx
  exact h j hj
set_option maxRecDepth 100000 in
set_option maxHeartbeats 2000000 in
theorem rfind_ok {w : World} {wb : Nat} {v : Value} {b : Bk} (h : RefAt w wb v b) (hl : b.L.length ≤ 100000) (id : Nat) : Calls Tryz.prog 89 #[.pointer (some ⟨wb, 0, none⟩), .int .u32 (id : Int)] w fun e w' => (∃ i, e = .returned (.int .i64 i) ∧ PosOf (fun x => x.1 == id) b.L i) ∧ w = w' := by
  obtain ⟨a, c, rfl⟩ := bos_slice h.row
  have c4 := h.c.2.2.2.2.1
  have HR := Lib.hid h.row; have HL := Lib.hid hl
  clear h hl
  go_enter Tryz.func89, Tryz.ntmps89
  go_wp2_with fail
  go_loopw [5] (fun s5 wr => ∃ i : Nat, s5 = .int .i64 (i : Int) ∧ i ≤ b.L.length ∧ (∀ j (h : j < b.L.length), j < i → (fun x : Bo => x.1 == id) b.L[j] = false) ∧ w = wr) (fun s5 _ => b.L.length - (intOf s5).toNat)
  case atStart => exact ⟨0, rfl, Nat.zero_le _, fun j _ h => by omega, rfl⟩
  case round =>
    obtain ⟨i, rfl, hi, hno, rfl⟩ := hrel
    by_cases hlt : i < b.L.length
    · have hlt' : (i : Int) < (b.L.length : Int) := by omega
      have i0 : (0 : Int) ≤ (i : Int) := by omega
      obtain ⟨g, cap, e1, d0, d1, d2⟩ := Bos.cells HR.out hlt
      obtain ⟨x, hx⟩ : ∃ x, x = b.L[i] := ⟨_, rfl⟩
      rw [← hx] at d0 d1 d2
      simp only [Value.slice.injEq] at e1
      obtain ⟨rfl, -, rfl⟩ := e1
      obtain ⟨k1, hk1⟩ : ∃ k1, k1 = i + 1 := ⟨_, rfl⟩
      have hk5 : k1 ≤ 100000 := by have := HL.out; omega
      have e1 : (i : Int) + 1 = (k1 : Int) := by rw [hk1]; push_cast; rfl
      have HK1 := Lib.hid (show k1 = i + 1 ∧ i < b.L.length from ⟨hk1, hlt⟩)
      have HX := Lib.hid (show ∀ h : i < b.L.length, x = b.L[i] from fun _ => hx)
      have HNo := Lib.hid hno
      clear hno hi hx hk1 hlt
      have e2 : wrap64 (k1 : Int) = (k1 : Int) := by clear d0 d1 d2 c4; unfold wrap64; omega
      have e3 : IntKind.i64.wrap (k1 : Int) = (k1 : Int) := by clear d0 d1 d2 c4; rw [IntKind.wrap_i64]; omega
      clear hk5
      by_cases hf : x.1 = id
      · have b1 : ((x.1 : Int) == (id : Int)) = true := by rw [beq_iff_eq]; omega
        have HF := Lib.hid hf
        clear hf
        go_wp2_with fail
        go_ret
        exact ⟨⟨_, rfl, .inr ⟨i, HK1.out.2, rfl, by rw [← HX.out HK1.out.2]; simpa using HF.out⟩⟩, rfl⟩
      · have b1 : ((x.1 : Int) == (id : Int)) = false := by rw [beq_eq_false_iff_ne]; omega
        have HF := Lib.hid hf
        clear hf
        go_wp2_with fail
        go_roundw
        case rel => exact ⟨k1, rfl, by rw [HK1.out.1]; exact HK1.out.2, fun j h hj => by
          by_cases e : j = i
          · subst e; rw [← HX.out h]; simpa using HF.out
          · exact HNo.out j h (by have := HK1.out.1; omega), by first | exact rfl | trivial⟩
        case measure => have := HK1.out; simp [intOf]; omega
    · have hlt' : ¬ (i : Int) < (b.L.length : Int) := by omega
      have HNo := Lib.hid (show ∀ x ∈ b.L, (fun x : Bo => x.1 == id) x = false from none_of (fun j h => hno j h (by omega)))
      clear hno hi hlt
      go_wp2_with fail
      go_ret
      exact ⟨⟨_, rfl, .inl ⟨rfl, HNo.out⟩⟩, rfl⟩
set_option maxRecDepth 100000 in
set_option maxHeartbeats 2000000 in
theorem rtaken_ok {w : World} {wb : Nat} {v : Value} {b : Bk} (h : RefAt w wb v b) (hl : b.L.length ≤ 100000) (id : Int) : Calls Tryz.prog 90 #[.pointer (some ⟨wb, 0, none⟩), .int .i64 id] w fun e w' => (∃ i, e = .returned (.int .i64 i) ∧ PosOf (fun x => x.2.1 == id) b.L i) ∧ w = w' := by
  obtain ⟨a, c, rfl⟩ := bos_slice h.row
  have c4 := h.c.2.2.2.2.1
  have HR := Lib.hid h.row; have HL := Lib.hid hl
  clear h hl
  go_enter Tryz.func90, Tryz.ntmps90
  go_wp2_with fail
  go_loopw [5] (fun s5 wr => ∃ i : Nat, s5 = .int .i64 (i : Int) ∧ i ≤ b.L.length ∧ (∀ j (h : j < b.L.length), j < i → (fun x : Bo => x.2.1 == id) b.L[j] = false) ∧ w = wr) (fun s5 _ => b.L.length - (intOf s5).toNat)
  case atStart => exact ⟨0, rfl, Nat.zero_le _, fun j _ h => by omega, rfl⟩
  case round =>
    obtain ⟨i, rfl, hi, hno, rfl⟩ := hrel
    by_cases hlt : i < b.L.length
    · have hlt' : (i : Int) < (b.L.length : Int) := by omega
      have i0 : (0 : Int) ≤ (i : Int) := by omega
      obtain ⟨g, cap, e1, d0, d1, d2⟩ := Bos.cells HR.out hlt
      obtain ⟨x, hx⟩ : ∃ x, x = b.L[i] := ⟨_, rfl⟩
      rw [← hx] at d0 d1 d2
      simp only [Value.slice.injEq] at e1
      obtain ⟨rfl, -, rfl⟩ := e1
      obtain ⟨k1, hk1⟩ : ∃ k1, k1 = i + 1 := ⟨_, rfl⟩
      have hk5 : k1 ≤ 100000 := by have := HL.out; omega
      have e1 : (i : Int) + 1 = (k1 : Int) := by rw [hk1]; push_cast; rfl
      have HK1 := Lib.hid (show k1 = i + 1 ∧ i < b.L.length from ⟨hk1, hlt⟩)
      have HX := Lib.hid (show ∀ h : i < b.L.length, x = b.L[i] from fun _ => hx)
      have HNo := Lib.hid hno
      clear hno hi hx hk1 hlt
      have e2 : wrap64 (k1 : Int) = (k1 : Int) := by clear d0 d1 d2 c4; unfold wrap64; omega
      have e3 : IntKind.i64.wrap (k1 : Int) = (k1 : Int) := by clear d0 d1 d2 c4; rw [IntKind.wrap_i64]; omega
      clear hk5
      by_cases hf : x.2.1 = id
      · have b1 : (x.2.1 == id) = true := by rw [beq_iff_eq]; omega
        have HF := Lib.hid hf
        clear hf
        go_wp2_with fail
        go_ret
        exact ⟨⟨_, rfl, .inr ⟨i, HK1.out.2, rfl, by rw [← HX.out HK1.out.2]; simpa using HF.out⟩⟩, rfl⟩
      · have b1 : (x.2.1 == id) = false := by rw [beq_eq_false_iff_ne]; omega
        have HF := Lib.hid hf
        clear hf
        go_wp2_with fail
        go_roundw
        case rel => exact ⟨k1, rfl, by rw [HK1.out.1]; exact HK1.out.2, fun j h hj => by
          by_cases e : j = i
          · subst e; rw [← HX.out h]; simpa using HF.out
          · exact HNo.out j h (by have := HK1.out.1; omega), by first | exact rfl | trivial⟩
        case measure => have := HK1.out; simp [intOf]; omega
    · have hlt' : ¬ (i : Int) < (b.L.length : Int) := by omega
      have HNo := Lib.hid (show ∀ x ∈ b.L, (fun x : Bo => x.2.1 == id) x = false from none_of (fun j h => hno j h (by omega)))
      clear hno hi hlt
      go_wp2_with fail
      go_ret
      exact ⟨⟨_, rfl, .inl ⟨rfl, HNo.out⟩⟩, rfl⟩
end Go.Proofs.YtffnjnnmlfgngaaGreat.Bk
namespace Go.Proofs.YtffnjnnmlfgngaaGreat.Cs
open Go.RowKit Go.Shelf Go.Proofs.YtffnjnnmlfgngaaGreat.Bk
attribute [local go_sem] Oper.semAt_some
def optB (o : Option Bo) : Bo := o.getD (0, 0, 0)
def FoundP (w : World) (o : Option Bo) (e : Ending) (w' : World) : Prop := e = .returned (.tuple #[boV (optB o), .bool o.isSome]) ∧ Fr (fun _ => False) w w'
set_option maxRecDepth 100000 in
set_option maxHeartbeats 4000000 in
theorem rhas_ok {w : World} {wb : Nat} {v : Value} {b : Bk} (h : RefAt w wb v b) (hraw : Raw b) (id : Nat) : Calls Tryz.prog 70 #[.pointer (some ⟨wb, 0, none⟩), .int .u32 (id : Int)] w (FoundP w (bFind b.L id)) := by
  have hl : b.L.length ≤ 100000 := by have := hraw.few; have := hraw.c1; omega
  obtain ⟨W, hW⟩ : ∃ W, W = w.alloc (.cells #[.int .u32 0, .int .i64 0, .int .i64 0] 68) := ⟨_, rfl⟩
  obtain ⟨z, hz⟩ : ∃ z, z = w.heap.size := ⟨_, rfl⟩
  have f0 : Fr (fun _ => False) w W := by rw [hW]; exact Fr.alloc (Fr.refl _ _) _
  have hg : W.heap[z]? = some (.cells #[.int .u32 0, .int .i64 0, .int .i64 0] 68 (0, 0)) := by rw [hW, hz]; exact heap_alloc_at _ _
  have hR := h.keep f0
  obtain ⟨a, c, rfl⟩ := bos_slice hR.row
  have c4 := hR.c.2.2.2.2.1
  obtain ⟨n, hn⟩ : ∃ n, n = b.L.length := ⟨_, rfl⟩
  rw [← hn] at c4 hl
  have HR := Lib.hid hR.row; have HRaw := Lib.hid hraw; have HG := Lib.hid hg; have F0 := Lib.hid f0; have Hz := Lib.hid (show w.heap.size ≤ z by omega); have HN := Lib.hid hn
  have y0 := free_of hg 0; have y1 := free_of hg 1; have y2 := free_of hg 2
  have z0 := (cell_of hg 0).trans (show _ = some (Value.int .u32 0) from rfl)
  have z1 := (cell_of hg 1).trans (show _ = some (Value.int .i64 0) from rfl)
  have z2 := (cell_of hg 2).trans (show _ = some (Value.int .i64 0) from rfl)
  have Fin := Lib.hid (fun (x : Bo) => setCell_blk (o := 2) (setCell_blk (o := 1) (setCell_blk (o := 0) hg (.int .u32 (x.1 : Int))) (.int .i64 x.2.1)) (.int .i64 x.2.2))
  have FZ := Lib.hid (fun (x : Bo) => (f0.trans ((((Fr.refl (fun y => y = z) W).setCell (p := ⟨z, 0, none⟩) (fun _ => rfl) (.int .u32 (x.1 : Int))).setCell (p := ⟨z, 1, none⟩) (fun _ => rfl) (.int .i64 x.2.1)).setCell (p := ⟨z, 2, none⟩) (fun _ => rfl) (.int .i64 x.2.2)) (fun y hy e => by have := Hz.out; omega) : Fr (fun _ => False) w _))
  have hl2 : (n : Int) ≤ 100000 := by omega
  obtain ⟨fnd, hfnd⟩ : ∃ o, o = bFind b.L id := ⟨_, rfl⟩
  rw [← hfnd]
  have HF := Lib.hid hfnd
  clear h f0 hg hR hraw hn hl hfnd
  go_enter Tryz.func70, Tryz.ntmps70
  go_upto_region 1 with fail
  rw [← hW, ← hz]
  clear hW hz
  go_wp2_with fail
  go_loopw [6] (fun s6 wr => ∃ i : Nat, s6 = .int .i64 (i : Int) ∧ i ≤ n ∧ (∀ j (h : j < b.L.length), j < i → (fun x : Bo => x.1 == id) b.L[j] = false) ∧ W = wr) (fun s6 _ => n - (intOf s6).toNat)
  case atStart => exact ⟨0, rfl, Nat.zero_le _, fun j _ h => by omega, rfl⟩
  case round =>
    obtain ⟨i, rfl, hi, hno, rfl⟩ := hrel
    by_cases hlt : i < n
    · have hlt' : (i : Int) < (n : Int) := by omega
      have i0 : (0 : Int) ≤ (i : Int) := by omega
      have hlb : i < b.L.length := by rw [← HN.out]; exact hlt
      obtain ⟨g, cap, e1, d0, d1, d2⟩ := Bos.cells HR.out hlb
      obtain ⟨x, hx⟩ : ∃ x, x = b.L[i] := ⟨_, rfl⟩
      rw [← hx] at d0 d1 d2
      obtain ⟨rfl, -, rfl⟩ := Value.slice.inj e1
      have HX := Lib.hid (show ∀ h : i < b.L.length, x = b.L[i] from fun _ => hx)
      have HXm := Lib.hid (show x ∈ b.L by rw [hx]; exact List.getElem_mem hlb)
      have HNo := Lib.hid hno; have HLt := Lib.hid hlt
      clear hno hx e1 hlb hi hlt
      by_cases hf : x.1 = id
      · have b1 : ((x.1 : Int) == (id : Int)) = true := by rw [beq_iff_eq]; omega
        have hF : fnd = some x := by rw [HF.out, ← hf]; exact (bFind_some HRaw.out.up).2 HXm.out
        have HFd := Lib.hid hF
        have hfin := Fin.out x
        have HE := Lib.hid (And.intro ((cell_of hfin 0).trans (show _ = some (Value.int .u32 (x.1 : Int)) from rfl)) (And.intro ((cell_of hfin 1).trans (show _ = some (Value.int .i64 x.2.1) from rfl)) ((cell_of hfin 2).trans (show _ = some (Value.int .i64 x.2.2) from rfl))))
        clear hf hF hfin
        go_wp2_with fail
        refine bodyPost_ret (v := .tuple #[boV x, .bool true]) ?_ rfl ⟨by rw [HFd.out]; rfl, FZ.out x⟩
        simp [results, Tryz.f70, go_sem, HE.out.1, HE.out.2.1, HE.out.2.2]
      · have b1 : ((x.1 : Int) == (id : Int)) = false := by rw [beq_eq_false_iff_ne]; omega
        have HNf := Lib.hid hf
        obtain ⟨k1, hk1⟩ : ∃ k1, k1 = i + 1 := ⟨_, rfl⟩
        have e1 : (i : Int) + 1 = (k1 : Int) := by rw [hk1]; push_cast; rfl
        have HK1 := Lib.hid hk1
        have e2 : wrap64 (k1 : Int) = (k1 : Int) := by clear d0 d1 d2 c4 z0 z1 z2 b1 hf; unfold wrap64; have := HLt.out; omega
        have e3 : IntKind.i64.wrap (k1 : Int) = (k1 : Int) := by clear d0 d1 d2 c4 z0 z1 z2 b1 hf e2; rw [IntKind.wrap_i64]; have := HLt.out; omega
        clear hk1 hf
        go_wp2_with fail
        go_roundw
        case rel => exact ⟨k1, rfl, by have := HK1.out; have := HLt.out; omega, fun j h hj => by
          by_cases e : j = i
          · subst e; rw [← HX.out h]; simpa using HNf.out
          · exact HNo.out j h (by have := HK1.out; omega), by first | exact rfl | trivial⟩
        case measure => have := HK1.out; have := HLt.out; simp [intOf]; omega
    · have hlt' : ¬ (i : Int) < (n : Int) := by omega
      have HFd := Lib.hid (show fnd = none by
        rw [HF.out]
        cases e : bFind b.L id with
        | none => rfl
        | some x =>
          have h1 := bFind_id e
          have h2 := none_of (f := (fun x : Bo => x.1 == id)) (fun j h => hno j h (by have := HN.out; omega)) x h1.2
          simp [h1.1] at h2)
      have hfin := Fin.out ((0, 0, 0) : Bo)
      have HE := Lib.hid (And.intro ((cell_of hfin 0).trans (show _ = some (Value.int .u32 0) from rfl)) (And.intro ((cell_of hfin 1).trans (show _ = some (Value.int .i64 0) from rfl)) ((cell_of hfin 2).trans (show _ = some (Value.int .i64 0) from rfl))))
      clear hno hi hlt hfin
      go_wp2_with fail
      refine bodyPost_ret (v := .tuple #[boV (0, 0, 0), .bool false]) ?_ rfl ⟨by rw [HFd.out]; rfl, FZ.out (0, 0, 0)⟩
      have hE := HE.out
      simp at hE
      simp [results, Tryz.f70, go_sem, hE.1, hE.2.1, hE.2.2]
set_option maxRecDepth 100000 in
set_option maxHeartbeats 4000000 in
theorem ron_ok {w : World} {wb : Nat} {v : Value} {b : Bk} (h : RefAt w wb v b) (hraw : Raw b) (id : Int) : Calls Tryz.prog 71 #[.pointer (some ⟨wb, 0, none⟩), .int .i64 id] w (FoundP w (bSeat b.L id)) := by
  have hl : b.L.length ≤ 100000 := by have := hraw.few; have := hraw.c1; omega
  obtain ⟨W, hW⟩ : ∃ W, W = w.alloc (.cells #[.int .u32 0, .int .i64 0, .int .i64 0] 68) := ⟨_, rfl⟩
  obtain ⟨z, hz⟩ : ∃ z, z = w.heap.size := ⟨_, rfl⟩
  have f0 : Fr (fun _ => False) w W := by rw [hW]; exact Fr.alloc (Fr.refl _ _) _
  have hg : W.heap[z]? = some (.cells #[.int .u32 0, .int .i64 0, .int .i64 0] 68 (0, 0)) := by rw [hW, hz]; exact heap_alloc_at _ _
  have hR := h.keep f0
  obtain ⟨a, c, rfl⟩ := bos_slice hR.row
  have c4 := hR.c.2.2.2.2.1
  obtain ⟨n, hn⟩ : ∃ n, n = b.L.length := ⟨_, rfl⟩
  rw [← hn] at c4 hl
  have HR := Lib.hid hR.row; have HRaw := Lib.hid hraw; have HG := Lib.hid hg; have F0 := Lib.hid f0; have Hz := Lib.hid (show w.heap.size ≤ z by omega); have HN := Lib.hid hn
  have y0 := free_of hg 0; have y1 := free_of hg 1; have y2 := free_of hg 2
  have z0 := (cell_of hg 0).trans (show _ = some (Value.int .u32 0) from rfl)
  have z1 := (cell_of hg 1).trans (show _ = some (Value.int .i64 0) from rfl)
  have z2 := (cell_of hg 2).trans (show _ = some (Value.int .i64 0) from rfl)
  have Fin := Lib.hid (fun (x : Bo) => setCell_blk (o := 2) (setCell_blk (o := 1) (setCell_blk (o := 0) hg (.int .u32 (x.1 : Int))) (.int .i64 x.2.1)) (.int .i64 x.2.2))
  have FZ := Lib.hid (fun (x : Bo) => (f0.trans ((((Fr.refl (fun y => y = z) W).setCell (p := ⟨z, 0, none⟩) (fun _ => rfl) (.int .u32 (x.1 : Int))).setCell (p := ⟨z, 1, none⟩) (fun _ => rfl) (.int .i64 x.2.1)).setCell (p := ⟨z, 2, none⟩) (fun _ => rfl) (.int .i64 x.2.2)) (fun y hy e => by have := Hz.out; omega) : Fr (fun _ => False) w _))
  have hl2 : (n : Int) ≤ 100000 := by omega
  obtain ⟨fnd, hfnd⟩ : ∃ o, o = bSeat b.L id := ⟨_, rfl⟩
  rw [← hfnd]
  have HF := Lib.hid hfnd
  clear h f0 hg hR hraw hn hl hfnd
  go_enter Tryz.func71, Tryz.ntmps71
  go_upto_region 1 with fail
  rw [← hW, ← hz]
  clear hW hz
  go_wp2_with fail
  go_loopw [6] (fun s6 wr => ∃ i : Nat, s6 = .int .i64 (i : Int) ∧ i ≤ n ∧ (∀ j (h : j < b.L.length), j < i → (fun x : Bo => x.2.1 == id) b.L[j] = false) ∧ W = wr) (fun s6 _ => n - (intOf s6).toNat)
  case atStart => exact ⟨0, rfl, Nat.zero_le _, fun j _ h => by omega, rfl⟩
  case round =>
    obtain ⟨i, rfl, hi, hno, rfl⟩ := hrel
    by_cases hlt : i < n
    · have hlt' : (i : Int) < (n : Int) := by omega
      have i0 : (0 : Int) ≤ (i : Int) := by omega
      have hlb : i < b.L.length := by rw [← HN.out]; exact hlt
      obtain ⟨g, cap, e1, d0, d1, d2⟩ := Bos.cells HR.out hlb
      obtain ⟨x, hx⟩ : ∃ x, x = b.L[i] := ⟨_, rfl⟩
      rw [← hx] at d0 d1 d2
      obtain ⟨rfl, -, rfl⟩ := Value.slice.inj e1
      have HX := Lib.hid (show ∀ h : i < b.L.length, x = b.L[i] from fun _ => hx)
      have HXm := Lib.hid (show x ∈ b.L by rw [hx]; exact List.getElem_mem hlb)
      have HNo := Lib.hid hno; have HLt := Lib.hid hlt
      clear hno hx e1 hlb hi hlt
      by_cases hf : x.2.1 = id
      · have b1 : (x.2.1 == id) = true := by rw [beq_iff_eq]; omega
        have hF : fnd = some x := by rw [HF.out, ← hf]; exact (bSeat_some HRaw.out.lone).2 HXm.out
        have HFd := Lib.hid hF
        have hfin := Fin.out x
        have HE := Lib.hid (And.intro ((cell_of hfin 0).trans (show _ = some (Value.int .u32 (x.1 : Int)) from rfl)) (And.intro ((cell_of hfin 1).trans (show _ = some (Value.int .i64 x.2.1) from rfl)) ((cell_of hfin 2).trans (show _ = some (Value.int .i64 x.2.2) from rfl))))
        clear hf hF hfin
        go_wp2_with fail
        refine bodyPost_ret (v := .tuple #[boV x, .bool true]) ?_ rfl ⟨by rw [HFd.out]; rfl, FZ.out x⟩
        simp [results, Tryz.f71, go_sem, HE.out.1, HE.out.2.1, HE.out.2.2]
      · have b1 : (x.2.1 == id) = false := by rw [beq_eq_false_iff_ne]; omega
        have HNf := Lib.hid hf
        obtain ⟨k1, hk1⟩ : ∃ k1, k1 = i + 1 := ⟨_, rfl⟩
        have e1 : (i : Int) + 1 = (k1 : Int) := by rw [hk1]; push_cast; rfl
        have HK1 := Lib.hid hk1
        have e2 : wrap64 (k1 : Int) = (k1 : Int) := by clear d0 d1 d2 c4 z0 z1 z2 b1 hf; unfold wrap64; have := HLt.out; omega
        have e3 : IntKind.i64.wrap (k1 : Int) = (k1 : Int) := by clear d0 d1 d2 c4 z0 z1 z2 b1 hf e2; rw [IntKind.wrap_i64]; have := HLt.out; omega
        clear hk1 hf
        go_wp2_with fail
        go_roundw
        case rel => exact ⟨k1, rfl, by have := HK1.out; have := HLt.out; omega, fun j h hj => by
          by_cases e : j = i
          · subst e; rw [← HX.out h]; simpa using HNf.out
          · exact HNo.out j h (by have := HK1.out; omega), by first | exact rfl | trivial⟩
        case measure => have := HK1.out; have := HLt.out; simp [intOf]; omega
    · have hlt' : ¬ (i : Int) < (n : Int) := by omega
      have HFd := Lib.hid (show fnd = none by
        rw [HF.out]
        cases e : bSeat b.L id with
        | none => rfl
        | some x =>
          have h1 := bSeat_id e
          have h2 := none_of (f := (fun x : Bo => x.2.1 == id)) (fun j h => hno j h (by have := HN.out; omega)) x h1.2
          simp [h1.1] at h2)
      have hfin := Fin.out ((0, 0, 0) : Bo)
      have HE := Lib.hid (And.intro ((cell_of hfin 0).trans (show _ = some (Value.int .u32 0) from rfl)) (And.intro ((cell_of hfin 1).trans (show _ = some (Value.int .i64 0) from rfl)) ((cell_of hfin 2).trans (show _ = some (Value.int .i64 0) from rfl))))
      clear hno hi hlt hfin
      go_wp2_with fail
      refine bodyPost_ret (v := .tuple #[boV (0, 0, 0), .bool false]) ?_ rfl ⟨by rw [HFd.out]; rfl, FZ.out (0, 0, 0)⟩
      have hE := HE.out
      simp at hE
      simp [results, Tryz.f71, go_sem, hE.1, hE.2.1, hE.2.2]
end Go.Proofs.YtffnjnnmlfgngaaGreat.Cs
namespace Go.Proofs.YtffnjnnmlfgngaaGreat.Bk
open Go.RowKit Go.Shelf
attribute [local go_sem] Oper.semAt_some
def two {α : Type} (x y : α) (j : Nat) : α := if j = 0 then x else y
section
variable {w w1 w2 : World} {bb cc : Nat} {b c b' c' : Bk} {Z : Nat → Prop} {P : Nat → Pt}
theorem Bks.two (h : Bks w w1 1 (fun _ => bb) (fun _ => b) Z P) {p : Pt} (hb : BkP p cc c.next c c.L c.L w2) (hn : ∀ y, p.own cc y → w1.heap.size ≤ y) (f : Fr (fun _ => False) w1 w2) : ∃ P, Bks w w2 2 (two bb cc) (two b c) Z P :=
  ⟨_, (h.add hb hn f).names (fun j hj => by rcases (by omega : j = 0 ∨ j = 1) with rfl | rfl <;> rfl) (fun j hj => by rcases (by omega : j = 0 ∨ j = 1) with rfl | rfl <;> rfl)⟩
theorem Bks.p0 (h : Bks w w1 2 (Bk.two bb cc) (Bk.two b c) Z P) : BkP (P 0) bb b.next b b.L b.L w1 := h.at_ 0 (by omega)
theorem Bks.p1 (h : Bks w w1 2 (Bk.two bb cc) (Bk.two b c) Z P) : BkP (P 1) cc c.next c c.L c.L w1 := h.at_ 1 (by omega)
/-- The other blocks stay; new ones come to them. -/
theorem Bks.quiet {n : Nat} {B : Nat → Nat} {M : Nat → Bk} (h : Bks w w1 n B M Z P) (f : Fr (fun _ => False) w1 w2) : Bks w w2 n B M Z P := (h.keep f).less (fun _ hy => .inl hy)
end
end Go.Proofs.YtffnjnnmlfgngaaGreat.Bk
namespace Go.Proofs.YtffnjnnmlfgngaaGreat.Bk
open Go.RowKit Go.Shelf
theorem upd_one {α : Type} (f : Nat → α) (x : α) : ∀ j, j < 0 + 1 → upd f 0 x j = (fun _ => x) j := by
  intro j hj
  obtain rfl : j = 0 := by omega
  rfl
theorem upd_two {α : Type} (x y : α) : ∀ j, j < 0 + 1 + 1 → upd (fun _ => x) (0 + 1) y j = two x y j := by
  intro j hj
  rcases (by omega : j = 0 ∨ j = 1) with rfl | rfl <;> rfl
/-- These blocks hold these objects. -/
def Keep (L : List (Nat × Obj)) (V : World) : Prop := ∀ x ∈ L, V.heap[x.1]? = some x.2
theorem Keep.nil (V : World) : Keep [] V := fun x hx => by simp at hx
theorem Keep.cons {a : Nat} {o : Obj} {L : List (Nat × Obj)} {V : World} (h : V.heap[a]? = some o) (k : Keep L V) : Keep ((a, o) :: L) V := fun x hx => by
  rcases List.mem_cons.1 hx with rfl | hx
  · exact h
  · exact k x hx
theorem Keep.fr {L : List (Nat × Obj)} {V V' : World} (k : Keep L V) {F : Nat → Prop} (f : Fr F V V') (hF : ∀ x ∈ L, ¬ F x.1) : Keep L V' := fun x hx => f.get (k x hx) (hF x hx)
/-- n books, the blocks of L, all apart; all of it new since W. -/
def St (W V : World) (n : Nat) (B : Nat → Nat) (M : Nat → Bk) (L : List (Nat × Obj)) : Prop := ∃ Z P, Bks W V n B M Z P ∧ Keep L V ∧ ∀ x ∈ L, Z x.1
section
variable {W V V' : World} {n : Nat} {B : Nat → Nat} {M : Nat → Bk} {L : List (Nat × Obj)}
theorem St.fr (h : St W V n B M L) : Fr (fun _ => False) W V := by obtain ⟨Z, P, h1, _, _⟩ := h; exact h1.fr
theorem St.get (h : St W V n B M L) {a : Nat} {o : Obj} (hx : (a, o) ∈ L) : V.heap[a]? = some o := by obtain ⟨Z, P, _, h2, _⟩ := h; exact h2 (a, o) hx
theorem St.zero (f : Fr (fun _ => False) W V) (k : Keep L V) : St W V 0 B M L :=
  ⟨fun y => y < V.heap.size, fun _ => ⟨0, .slice none 0 0, 0, 0, 0, 0, .slice none 0 0, 0, fun _ => False, 0, [], 0, fun _ => none⟩, ⟨fun j hj => by omega, fun j hj => by omega, fun i j hi => by omega, fun y hy => ⟨hy, fun j hj => by omega⟩, f⟩, k, fun x hx => lt_of_block (k x hx)⟩
/-- One of the books may be asked; what it is then. -/
theorem St.at_ (h : St W V n B M L) {i : Nat} (hi : i < n) : ∃ p, BkP p (B i) (M i).next (M i) (M i).L (M i).L V ∧ (∀ y, p.own (B i) y → W.heap.size ≤ y) ∧ (∀ V', Aft p (B i) (M i) V V' → St W V' n B M L) ∧ ∀ b' V', Aft p (B i) b' V V' → St W V' n B (upd M i b') L := by
  obtain ⟨Z, P, h1, h2, h3⟩ := h
  have key : ∀ b' V', Aft (P i) (B i) b' V V' → St W V' n B (upd M i b') L := fun b' V' ha => by
    obtain ⟨⟨P', hP'⟩, f⟩ := h1.aft hi ha
    exact ⟨Z, P', hP', h2.fr f (fun x hx hz => hz (h3 x hx)), h3⟩
  refine ⟨P i, h1.at_ i hi, h1.new i hi, fun V' ha => ?_, key⟩
  obtain ⟨Z', P', hP', k2, k3⟩ := key (M i) V' ha
  refine ⟨Z', P', hP'.names (fun _ _ => rfl) (fun j _ => ?_), k2, k3⟩
  by_cases e : j = i
  · rw [e, upd_same]
  · rw [upd_ne _ _ e]
/-- What writes no old block. -/
theorem St.new (h : St W V n B M L) (f : Fr (fun _ => False) V V') {N : List (Nat × Obj)} (k : Keep N V') (hs : ∀ x ∈ N, V.heap.size ≤ x.1) : St W V' n B M (N ++ L) := by
  obtain ⟨Z, P, h1, h2, h3⟩ := h
  refine ⟨_, P, h1.keep f, fun x hx => ?_, fun x hx => ?_⟩
  · rcases List.mem_append.1 hx with hx | hx
    · exact k x hx
    · exact f.get (h2 x hx) (fun h => h)
  · rcases List.mem_append.1 hx with hx | hx
    · exact .inr ⟨hs x hx, lt_of_block (k x hx)⟩
    · exact .inl (h3 x hx)
theorem St.quiet (h : St W V n B M L) (f : Fr (fun _ => False) V V') : St W V' n B M L := h.new f (Keep.nil V') (fun x hx => by simp at hx)
theorem St.one (h : St W V n B M L) (f : Fr (fun _ => False) V V') {a : Nat} {o : Obj} (ha : V'.heap[a]? = some o) (hs : V.heap.size ≤ a) : St W V' n B M ((a, o) :: L) :=
  h.new f (Keep.cons ha (Keep.nil V')) (fun x hx => by have : x = (a, o) := by simpa using hx
                                                       rw [this]; exact hs)
theorem St.alloc (h : St W V n B M L) (c : Array Value) (t : TypeId) : St W (V.alloc (.cells c t)) n B M ((V.heap.size, .cells c t (0, 0)) :: L) := h.one (Fr.alloc (Fr.refl _ _) _) (heap_alloc_at _ _) (Nat.le_refl _)
/-- A new book. -/
theorem St.add (h : St W V n B M L) {p : Pt} {bb : Nat} {b : Bk} (hb : BkP p bb b.next b b.L b.L V') (hn : ∀ y, p.own bb y → V.heap.size ≤ y) (f : Fr (fun _ => False) V V') : St W V' (n + 1) (upd B n bb) (upd M n b) L := by
  obtain ⟨Z, P, h1, h2, h3⟩ := h
  exact ⟨Z, _, h1.add hb hn f, h2.fr f (fun _ _ h => h), h3⟩
theorem St.names (h : St W V n B M L) {B' : Nat → Nat} {M' : Nat → Bk} (hb : ∀ j, j < n → B j = B' j) (hm : ∀ j, j < n → M j = M' j) : St W V n B' M' L := by
  obtain ⟨Z, P, h1, h2, h3⟩ := h
  exact ⟨Z, P, h1.names hb hm, h2, h3⟩
theorem St.less (h : St W V n B M L) {L' : List (Nat × Obj)} (hL : ∀ x ∈ L', x ∈ L) : St W V n B M L' := by
  obtain ⟨Z, P, h1, h2, h3⟩ := h
  exact ⟨Z, P, h1, fun x hx => h2 x (hL x hx), fun x hx => h3 x (hL x hx)⟩
end
end Go.Proofs.YtffnjnnmlfgngaaGreat.Bk
