/- The document's list of waiting parties: place, put, out. No condition. -/
import Derived.Test.YtjfnaflbhmeokaaWtRf
import Derived.Test.YtjfnaflbhmeokaaWtRp
namespace Go.Proofs.Ytjfnaflbhmeokaa.Wt
open Go.Shelf Go.RowKit
section
variable {G : Nat → Prop} {rb : Nat} {S : List Int} {w : World}
set_option maxRecDepth 100000 in
theorem rplace_ok (h : RfAt G rb S w) (who : Int) : Calls Try.prog 72 #[.pointer (some ⟨rb, 0, none⟩), .int .u32 who] w fun e w' => Placed S who e ∧ w = w' := by
  obtain ⟨sv, h1, h2, h3⟩ := h.ex
  obtain ⟨a, c, ev⟩ := wts_slice h2
  obtain ⟨n, hn⟩ : ∃ n, n = S.length := ⟨_, rfl⟩
  have c0 := (cell_of h1 0).trans (show _ = some sv from rfl)
  rw [ev, ← hn] at c0
  have hfew := h.few
  have hn2 : (n : Int) ≤ 1024 := by omega
  have H2 := Lib.hid h2; have Hn := Lib.hid hn; have Hev := Lib.hid ev
  clear h h1 h2 h3 ev hn hfew
  go_enter Try.func72, Try.ntmps72
  go_wp2_with fail
  go_loop [5] (fun s5 => ∃ i : Nat, i ≤ n ∧ s5 = .int .i64 i ∧ ∀ j, j < i → wW (S.getD j 0) ≠ who) (fun s5 => n - (intOf s5).toNat)
  case atStart => exact ⟨0, Nat.zero_le _, rfl, fun j hj => by omega⟩
  case round =>
    obtain ⟨i, hi, rfl, hne⟩ := hrel
    have Hne := Lib.hid hne
    clear hne
    by_cases hlt : i < n
    · have hlt' : (i : Int) < (n : Int) := by omega
      obtain ⟨g, cap, e, d0, _⟩ := H2.out.cells (k := i) (by have := Hn.out; omega)
      rw [Hev.out] at e
      obtain ⟨rfl, _, rfl⟩ := Value.slice.inj e
      obtain ⟨y, hy⟩ : ∃ y, y = wW (S.getD i 0) := ⟨_, rfl⟩
      rw [← hy] at d0
      have Hy := Lib.hid hy; have Hlt := Lib.hid hlt
      clear e hy hlt
      by_cases hw : y = who
      · have hb : (y == who) = true := by simpa using hw
        have Hw := Lib.hid hw
        clear hw
        go_wp2_with fail
        go_ret
        exact ⟨.inl ⟨i, by have := Hlt.out; have := Hn.out; omega, by rw [← Hy.out]; exact Hw.out, rfl⟩, rfl⟩
      · have hb : (y == who) = false := by simpa using hw
        have Hw := Lib.hid hw
        clear hw
        go_wp2_with fail
        go_round
        case rel => exact ⟨i + 1, Hlt.out, by go_num, fun j hj => by
          by_cases e : j = i
          · subst e; rw [← Hy.out]; exact Hw.out
          · exact Hne.out j (by omega)⟩
        case measure => have := Hlt.out; simp [intOf]; omega
    · obtain rfl : i = n := by omega
      clear hlt hi
      go_wp2_with fail
      go_ret
      refine ⟨.inr ⟨fun x hx => ?_, rfl⟩, rfl⟩
      obtain ⟨j, hj, rfl⟩ := List.getElem_of_mem hx
      rw [← getD_get hj]
      exact Hne.out j (by have := Hn.out; omega)
end
/-- The three appends that lay a party in. -/
theorem put_runs {w : World} {S : List Int} (hf : S.length ≤ 1024) {k : Nat} (hk : k ≤ S.length) (x : Int) {a1 a2 : Option Addr} {c1 c2 : Nat} (s1 : SrcAt w 4 encW a1 (S.take k)) (s2 : SrcAt w 4 encW a2 (S.drop k)) (l2 : ∀ g o, a2 = some ⟨g, o, none⟩ → g < w.heap.size) :
    ∃ b1 d1 w1 b2 d2 w2 b3 d3 w3, (Builtin.append_ #[26, 26] 26 #[.slice none 0 0, .slice a1 k c1]).run Try.prog w = .ok (.slice b1 k d1) w1 ∧
      (Builtin.append_ #[26, 26] 26 #[.slice b1 k d1, .slice (some ⟨w1.heap.size, 0, none⟩) 1 1]).run Try.prog (w1.alloc (.cells #[.int .u32 (wW x), .int .i64 (wS x), .int .i64 (wT x), .int .i64 (wC x)] 32)) = .ok (.slice b2 (k + 1) d2) w2 ∧
      (Builtin.append_ #[26, 26] 26 #[.slice b2 (k + 1) d2, .slice a2 (S.length - k) c2]).run Try.prog w2 = .ok (.slice b3 (S.length + 1) d3) w3 ∧
      Fr (fun _ => False) w w1 ∧ Fr (fun _ => False) w w2 ∧ Fr (fun _ => False) w w3 ∧ Wts w3 (.slice b3 (S.length + 1) d3) (S.take k ++ x :: S.drop k) ∧ ∀ b, (Value.slice b3 (S.length + 1) d3).ownBlock = some b → w.heap.size ≤ b := by
  have l1 : (S.take k).length = k := by rw [List.length_take]; omega
  obtain ⟨b1, d1, w1, r1, e1, f1, o1⟩ := Els.apps (P := Try.prog) (t := 26) (ty := 26) encW_len (show Els w 32 4 encW (.slice none 0 0) [] from World.ownsRow_nil _ _ _ _) Try.underlying26 Try.infoWait rfl (by decide) encW_one (c := c1) s1 l1.symm (by rw [l1]; simp; omega) (by decide)
  simp only [List.length_nil, Nat.zero_add, List.nil_append] at r1 e1 o1
  have f1' : Fr (fun _ => False) w w1 := f1.mono (fun b _ h => by simp [Value.ownBlock] at h)
  have o1' : ∀ b, (Value.slice b1 k d1).ownBlock = some b → w.heap.size ≤ b := fun b hb => by
    rcases o1 b hb with h | h
    · simp [Value.ownBlock] at h
    · omega
  obtain ⟨b2, d2, w2, r2, e2, f2, o2⟩ := Wts.app (S := S.take k) e1 (by omega) x
  rw [l1] at r2 e2 o2
  have f2' : Fr (fun _ => False) w w2 := f1'.trans f2 (fun b hb h => by have := o1' b h; omega)
  have o2' : ∀ b, (Value.slice b2 (k + 1) d2).ownBlock = some b → w.heap.size ≤ b := fun b hb => by
    rcases o2 b hb with h | h
    · exact o1' b h
    · have := f1'.size; omega
  have l2' : (S.drop k).length = S.length - k := by rw [List.length_drop]
  have l3 : (S.take k ++ [x]).length = k + 1 := by rw [List.length_append, l1]; rfl
  obtain ⟨b3, d3, w3, r3, e3, f3, o3⟩ := Els.apps (P := Try.prog) (t := 26) (ty := 26) encW_len (L := S.take k ++ [x]) e2 Try.underlying26 Try.infoWait rfl (by decide) encW_one (c := c2) (s2.fr f2' (fun _ _ _ h => h) l2) l2'.symm (by rw [l3, l2']; omega) (by decide)
  have e4 : (S.take k ++ [x]).length + (S.length - k) = S.length + 1 := by rw [l3]; omega
  rw [e4] at r3 e3 o3
  have e5 : S.take k ++ [x] ++ S.drop k = S.take k ++ x :: S.drop k := by simp
  rw [e5] at e3
  refine ⟨b1, d1, w1, b2, d2, w2, b3, d3, w3, r1, r2, r3, f1', f2', f2'.trans f3 (fun b hb h => by have := o2' b h; omega), ?_, ?_⟩
  · exact e3
  · intro b hb
    rcases o3 b hb with h | h
    · exact o2' b h
    · have := f2'.size; omega
end Go.Proofs.Ytjfnaflbhmeokaa.Wt
