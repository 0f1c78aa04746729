/- Parties: which run a test finds first. No condition. -/
import Derived.Test.YthckfbfenfkdiaaDoorPyG
namespace Go.Proofs.YthckfbfenfkdiaaDoor.Py
open Go.RowKit St
/-- The first one that meets a test, or -1. -/
def idxI (p : Sp → Bool) (S : List Sp) : Int := match S.findIdx? p with
  | some i => (i : Int)
  | none => -1
theorem idxI_some {p : Sp → Bool} {S : List Sp} {i : Nat} (h : S.findIdx? p = some i) : idxI p S = (i : Int) := by unfold idxI; rw [h]
theorem idxI_none {p : Sp → Bool} {S : List Sp} (h : S.findIdx? p = none) : idxI p S = -1 := by unfold idxI; rw [h]
theorem idx_here {p : Sp → Bool} {S : List Sp} {i : Nat} (hi : i < S.length) (h : ∀ j (hj : j < i), p (S[j]'(by omega)) = false) (hp : p S[i] = true) : S.findIdx? p = some i := by
  rw [List.findIdx?_eq_some_iff_getElem]
  exact ⟨hi, hp, fun j hj => by simpa using h j hj⟩
theorem idx_not {p : Sp → Bool} {S : List Sp} (h : ∀ j (hj : j < S.length), p S[j] = false) : S.findIdx? p = none := by
  rw [List.findIdx?_eq_none_iff]
  intro x hx
  obtain ⟨j, hj, rfl⟩ := List.mem_iff_getElem.1 hx
  exact h j hj
set_option maxRecDepth 100000 in
set_option maxHeartbeats 1000000 in
theorem index_ok {w : World} {sv : Value} {S : List Sp} (h : Sps w sv S) (hn : S.length ≤ 1000000) (fl : Nat) (cv : Value) (eg : ∀ args w, (callFunc fl args).run Tryd.prog w = .ok (.enter fl args) w) (p : Sp → Bool)
    (hp : ∀ x ∈ S, ∀ W, Fr (fun _ => False) w W → Calls Tryd.prog fl #[.agg #[.int .i64 (x.1 : Int), .int .i64 (x.2 : Int)], cv] W fun e W' => e = .returned (.bool (p x)) ∧ Fr (fun _ => False) W W') :
    Calls Tryd.prog 27 #[sv, .func (.func fl) #[] #[cv]] w fun e w' => e = .returned (.int .i64 (idxI p S)) ∧ Fr (fun _ => False) w w' := by
  have H := Lib.hid h
  obtain ⟨a, c, rfl⟩ : ∃ a c, sv = .slice a S.length c := by
    rcases h.2 with ⟨rfl, h0⟩ | ⟨g, cap, cur, rfl, _⟩
    · exact ⟨none, 0, by rw [h0]⟩
    · exact ⟨_, _, rfl⟩
  have HP := Lib.hid hp
  clear h hp
  go_enter Tryd.func27, Tryd.ntmps27
  go_wp2_with fail
  go_loopw [5, 8] (fun s5 s8 wr => ∃ k : Nat, s8 = .int .i64 k ∧ k ≤ S.length ∧ Hid (∀ j (hj : j < k) (hl : j < S.length), p S[j] = false) ∧ Hid (Fr (fun _ => False) w wr)) (fun _ s8 _ => S.length - (intOf s8).toNat)
  case atStart => exact ⟨0, rfl, Nat.zero_le _, Lib.hid (fun j hj => by omega), Lib.hid (Fr.refl _ _)⟩
  case round =>
    obtain ⟨k, rfl, hk, HN, HF⟩ := hrel
    by_cases hlt : k < S.length
    · have hlt' : (k : Int) < (S.length : Int) := by omega
      have HSr : Sps wr (.slice a S.length c) S := Row.fr H.out HF.out (fun _ _ h => h)
      obtain ⟨g, cap, hge, hcells⟩ := Els.cells enc_len HSr hlt
      obtain rfl : a = some ⟨g, 0, none⟩ := (Value.slice.inj hge).1
      have x1 : wr.cell? ⟨g, k * 2, none⟩ = some (.int .i64 S[k].1) := hcells 0 (by omega)
      have x2 : wr.cell? ⟨g, k * 2 + 1, none⟩ = some (.int .i64 S[k].2) := hcells 1 (by omega)
      have hC := Lib.hid (HP.out S[k] (List.getElem_mem hlt) wr HF.out)
      obtain ⟨q, hq⟩ : ∃ q, p S[k] = q := ⟨_, rfl⟩
      rw [hq] at hC
      obtain ⟨f, hf⟩ : ∃ f, f = S[k].1 := ⟨_, rfl⟩
      obtain ⟨d, hd⟩ : ∃ d, d = S[k].2 := ⟨_, rfl⟩
      rw [← hf] at x1 hC; rw [← hd] at x2 hC
      have HQ := Lib.hid hq
      clear hcells HSr hge hq hf hd
      go_wp2_with fail
      refine hC.out.mono ?_
      rintro e w1 ⟨rfl, hf⟩
      have HF1 := Lib.hid (HF.out.trans hf (fun _ _ h => h))
      clear hf x1 x2
      cases q
      · go_wp2_with fail
        go_roundw
        case rel =>
          refine ⟨k + 1, by go_num, by omega, Lib.hid (fun j hj hl => ?_), HF1⟩
          by_cases e : j = k
          · subst e; exact HQ.out
          · exact HN.out j (by omega) hl
        case measure => simp [intOf]; omega
      · have HR := Lib.hid (idxI_some (idx_here hlt (fun j hj => HN.out j hj (by omega)) HQ.out))
        go_wp2_with fail
        go_ret
        exact ⟨by rw [HR.out]; rfl, HF1.out⟩
    · have hlt' : ¬ (k : Int) < (S.length : Int) := by omega
      obtain rfl : k = S.length := by omega
      have HR := Lib.hid (idxI_none (idx_not (fun j hj => HN.out j hj hj)))
      go_wp2_with fail
      go_ret
      exact ⟨by rw [HR.out]; rfl, HF.out⟩
set_option maxRecDepth 100000 in
theorem atLeast_ok {w : World} {b : Nat} {m : Int} (hb : w.cell? ⟨b, 0, none⟩ = some (.int .i64 m)) (hlt : b < w.heap.size) (x : Sp) :
    Calls Tryd.prog 28 #[.agg #[.int .i64 (x.1 : Int), .int .i64 (x.2 : Int)], .pointer (some ⟨b, 0, none⟩)] w fun e w' => e = .returned (.bool (decide (m ≤ (x.2 : Int)))) ∧ Fr (fun _ => False) w w' := by
  go_enter Tryd.func28, Tryd.ntmps28
  go_wp2_with fail
  go_ret
  exact ⟨rfl, Fr.alloc (Fr.refl _ _) _⟩
set_option maxRecDepth 100000 in
theorem equals_ok {w : World} {b : Nat} {m : Int} (hb : w.cell? ⟨b, 0, none⟩ = some (.int .i64 m)) (hlt : b < w.heap.size) (x : Sp) :
    Calls Tryd.prog 29 #[.agg #[.int .i64 (x.1 : Int), .int .i64 (x.2 : Int)], .pointer (some ⟨b, 0, none⟩)] w fun e w' => e = .returned (.bool ((x.2 : Int) == m)) ∧ Fr (fun _ => False) w w' := by
  go_enter Tryd.func29, Tryd.ntmps29
  go_wp2_with fail
  go_ret
  exact ⟨rfl, Fr.alloc (Fr.refl _ _) _⟩
end Go.Proofs.YthckfbfenfkdiaaDoor.Py
