/- A slice of ids that slides: a queue. No condition. -/
import Derived.Test.YtoehdpfcnpdhnaaIxU
import Derived.ArgAppend
namespace Go.Proofs.Ytoehdpfcnpdhnaa.Ix
open Go.RowKit
def u32v (x : Nat) : Value := .int .u32 (x : Int)
/-- The slice v is the queue H. -/
structure QueAt (w : World) (v : Value) (H : List Nat) : Prop where
  ex : ∃ a c, v = .slice a H.length c ∧ H.length ≤ c ∧ c ≤ maxLen ∧ (c = 0 ∨ ∃ b o arr, a = some ⟨b, o, none⟩ ∧ w.heap[b]? = some (.cells arr 34 (0, 0)) ∧ o + c ≤ arr.size ∧ ∀ k, k < H.length → arr[o + k]? = some (u32v (H.getD k 0)))
theorem QueAt.nil (w : World) : QueAt w (.slice none 0 0) [] := ⟨none, 0, rfl, Nat.le_refl _, Nat.zero_le _, .inl rfl⟩
theorem Try.infoU32 : (Try.prog.info? 34).map (fun i => (i.zero, i.size, i.bytes)) = some (some (.int .u32 0), 1, 4) := by kernel_rfl
section
variable {w w' : World} {v : Value} {H : List Nat}
theorem QueAt.fr (h : QueAt w v H) {F : Nat → Prop} (f : Fr F w w') (hF : ∀ b, v.ownBlock = some b → ¬ F b) : QueAt w' v H := by
  obtain ⟨a, c, rfl, h1, h2, h3⟩ := h.ex
  refine ⟨a, c, rfl, h1, h2, ?_⟩
  rcases h3 with h3 | ⟨b, o, arr, rfl, h4, h5⟩
  · exact .inl h3
  · exact .inr ⟨b, o, arr, rfl, f.get h4 (hF b rfl), h5⟩
theorem QueAt.row {n0 : Nat} {n : Nat} (h : w.ownsRow n0 34 1 v n (H.map u32v)) : QueAt w v H := by
  have hn : H.length = n := by have := h.1; simpa using this
  rcases h.2 with ⟨rfl, h0⟩ | ⟨g, cap, cur, rfl, _, k1, k2, k3, k4, k5⟩
  · have : H = [] := List.eq_nil_of_length_eq_zero (by omega)
    subst this
    exact QueAt.nil w
  · refine ⟨some ⟨g, 0, none⟩, cap, by rw [hn], by omega, k3, .inr ⟨g, 0, cur, rfl, k1, by omega, fun k hk => ?_⟩⟩
    have : (cur.toList.take (n * 1))[k]? = (H.map u32v)[k]? := by rw [k5]
    rw [List.getElem?_take, if_pos (by omega), List.getElem?_map, List.getElem?_eq_getElem hk] at this
    rw [Nat.zero_add]
    simp [hk] at this ⊢
    exact this
/-- One more. -/
theorem QueAt.app (h : QueAt w v H) (hl : H.length ≤ 100000) (x : Nat) :
    ∃ a c w2, (Builtin.append_ #[51, 51] 51 #[v, .slice (some ⟨w.heap.size, 0, none⟩) 1 1]).run Try.prog (w.alloc (.cells #[.int .u32 (x : Int)] 34)) = .ok (.slice a (H.length + 1) c) w2 ∧
      QueAt w2 (.slice a (H.length + 1) c) (H ++ [x]) ∧ Fr (fun b => v.ownBlock = some b) w w2 ∧ (∀ b, (Value.slice a (H.length + 1) c).ownBlock = some b → v.ownBlock = some b ∨ w.heap.size ≤ b) := by
  obtain ⟨i0, hi, hz0, hz1, hz2⟩ := info_parts Try.infoU32
  have f0 : Fr (fun _ => False) w (w.alloc (.cells #[.int .u32 (x : Int)] 34)) := Fr.alloc (Fr.refl _ _) _
  have hsz : (w.alloc (.cells #[.int .u32 (x : Int)] 34)).heap.size = w.heap.size + 1 := by simp
  have hg : (w.alloc (.cells #[.int .u32 (x : Int)] 34)).heap[w.heap.size]? = some (.cells #[.int .u32 (x : Int)] 34 (0, 0)) := by rw [heap_alloc_get]; simp
  have hnews : ∀ j u, [u32v x][j]? = some u → (w.alloc (.cells #[.int .u32 (x : Int)] 34)).cell? ((⟨w.heap.size, 0, none⟩ : Addr).add j) = some u := by
    intro j u hu
    rw [addr_add, Nat.zero_add, cell_of hg j]
    simpa [u32v] using hu
  have hone : ∀ u ∈ [u32v x], u.oneCell' = true := by intro u hu; simp at hu; subst hu; rfl
  have hq := h.fr f0 (fun _ _ h => h)
  generalize w.alloc (.cells #[.int .u32 (x : Int)] 34) = W at *
  have shape : ∀ {n0 : Nat} {v' : Value} {W2 : World}, W2.ownsRow n0 34 1 v' (H.length + 1) ((H ++ [x]).map u32v) → n0 = W.heap.size → ∃ a c, v' = .slice a (H.length + 1) c ∧ QueAt W2 (.slice a (H.length + 1) c) (H ++ [x]) ∧ ∀ b, (Value.slice a (H.length + 1) c).ownBlock = some b → w.heap.size ≤ b := by
    intro n0 v' W2 hr hn0
    have hque := QueAt.row hr
    rcases hr.2 with ⟨_, h0⟩ | ⟨g, cap, cur, rfl, hb, _⟩
    · omega
    · exact ⟨_, _, rfl, hque, fun b hb' => by simp [Value.ownBlock] at hb'; omega⟩
  obtain ⟨a, c, rfl, h1, h2, h3⟩ := hq.ex
  by_cases hroom : H.length + 1 ≤ c
  · obtain ⟨b, o, arr, rfl, k1, k2, k3⟩ := h3.resolve_left (by omega)
    have hrun := run_append_room_cells (P := Try.prog) W 51 51 34 i0 Try.underlying51 hi b o H.length c ⟨w.heap.size, 0, none⟩ 1 1 [u32v x] (by rw [hz1]; rfl) hnews hone hroom
      (by
        intro j hj
        simp at hj
        subst hj
        rw [hz1, cell_of k1, Nat.mul_one, Nat.add_zero]
        rw [Array.getElem?_eq_getElem (by omega)]; rfl)
      (fun j _ => free_of k1 _)
    rw [hz1, Nat.mul_one] at hrun
    refine ⟨_, c, _, hrun, ?_, ?_, fun b' hb' => .inl hb'⟩
    · refine ⟨some ⟨b, o, none⟩, c, by simp, by simpa using hroom, h2, .inr ⟨b, o, arr.setIfInBounds (o + H.length) (u32v x), rfl, ?_, by simpa using k2, ?_⟩⟩
      · show (W.setCell ⟨b, o + H.length, none⟩ (u32v x)).heap[b]? = _
        exact setCell_blk (o := o + H.length) k1 _
      · intro k hk
        rw [List.length_append, List.length_singleton] at hk
        rw [Array.getElem?_setIfInBounds]
        by_cases e : H.length = k
        · subst e
          rw [if_pos rfl, if_pos (by omega)]
          simp
        · rw [if_neg (by omega), k3 k (by omega)]
          rw [List.getD_eq_getElem?_getD, List.getD_eq_getElem?_getD, List.getElem?_append_left (by omega)]
    · have fs : Fr (fun k => k = b) W (W.setCells b (o + H.length) [u32v x]) := setCells_fr _ _ _ _
      exact (f0.mono (fun _ _ h => h.elim)).trans fs (fun k _ e => by subst e; rfl)
  · have hg2 : c < H.length + 1 := by omega
    cases a with
    | none =>
      have hc0 : c = 0 := by
        rcases h3 with h3 | ⟨b, o, arr, e, _⟩
        · exact h3
        · cases e
      have hH : H = [] := List.eq_nil_of_length_eq_zero (by omega)
      subst hH hc0
      obtain ⟨v', w3, hrun, hR3, hf3, ho3⟩ := run_append_fr (P := Try.prog) W 51 51 34 i0 _ 1 4 Try.underlying51 hi hz0 hz1 hz2 rfl (by decide) (.slice none 0 0) 0 [] (World.ownsRow_nil _ _ _ _) ⟨w.heap.size, 0, none⟩ 1 1 [u32v x] rfl hnews hone (by unfold maxLen; omega) (by omega)
      simp only [Nat.zero_add, List.nil_append] at hR3
      have hque : QueAt w3 v' [x] := QueAt.row (n0 := 0) (n := 1) hR3
      rcases hR3.2 with ⟨_, h0⟩ | ⟨g, cap, cur, rfl, _⟩
      · omega
      · refine ⟨some ⟨g, 0, none⟩, cap, w3, hrun, hque, (f0.mono (fun _ _ h => h.elim)).trans (hf3.mono (G := fun b => (Value.slice none 0 0).ownBlock = some b) (fun _ _ e => e)) (fun _ _ e => e), fun b hb => ?_⟩
        have hb' : g = b := by simpa [Value.ownBlock] using hb
        rcases ho3 with h | h
        · simp [Value.ownBlock] at h
        · simp [Value.ownBlock] at h; right; omega
    | some ad =>
      obtain ⟨b, o, s⟩ := ad
      have holds : ∀ j u, (H.map u32v)[j]? = some u → W.cell? ((⟨b, o, s⟩ : Addr).add j) = some u := by
        intro j u hu
        have hj : j < H.length := by have := (List.getElem?_eq_some_iff.1 hu).1; simpa using this
        obtain ⟨b', o', arr, e, k1, k2, k3⟩ := h3.resolve_left (by omega)
        simp only [Option.some.injEq, Addr.mk.injEq] at e
        obtain ⟨rfl, rfl, rfl⟩ := e
        rw [addr_add, cell_of k1, k3 j hj, ← hu]
        simp [hj]
      obtain ⟨v', w3, hrun, hR3, hgr⟩ := run_append_arg_grows (P := Try.prog) W 51 51 34 i0 _ 1 4 Try.underlying51 hi hz0 hz1 hz2 rfl (by decide) ⟨b, o, s⟩ H.length c (H.map u32v) (by simp) holds ⟨w.heap.size, 0, none⟩ 1 1 [u32v x] rfl hnews hg2 (by unfold maxLen; omega) (by omega)
      have e1 : H.map u32v ++ [u32v x] = (H ++ [x]).map u32v := by simp
      rw [e1] at hR3
      obtain ⟨a', c', rfl, hque, hown⟩ := shape hR3 rfl
      exact ⟨a', c', w3, hrun, hque, (f0.mono (fun _ _ h => h.elim)).trans ((grownBy.fr hgr).mono (fun _ _ e => by cases e)) (fun _ _ h => h), fun b hb => .inr (hown b hb)⟩
/-- The first one less. -/
theorem QueAt.slide {a : Option Addr} {n c x : Nat} (h : QueAt w (.slice a n c) (x :: H)) : ∃ b o a', a = some ⟨b, o, none⟩ ∧ n = H.length + 1 ∧ n ≤ c ∧ w.cell? ⟨b, o, none⟩ = some (u32v x) ∧ (if c = 1 then (some ⟨b, o, none⟩ : Option Addr) else some ⟨b, o + 1, none⟩) = a' ∧ QueAt w (.slice a' H.length (c - 1)) H ∧ ∀ b', (Value.slice a' H.length (c - 1)).ownBlock = some b' → b' = b := by
  obtain ⟨a0, c0, e, h1, h2, h3⟩ := h.ex
  obtain ⟨rfl, rfl, rfl⟩ := Value.slice.inj e
  simp only [List.length_cons] at h1 h3
  obtain ⟨b, o, arr, rfl, k1, k2, k3⟩ := h3.resolve_left (by omega)
  have hx : w.cell? ⟨b, o, none⟩ = some (u32v x) := by
    rw [cell_of k1]
    have := k3 0 (by omega)
    simpa using this
  by_cases hc : c = 1
  · refine ⟨b, o, some ⟨b, o, none⟩, rfl, by simp, by simpa using h1, hx, by rw [if_pos hc], ⟨_, _, rfl, by omega, by omega, .inl (by omega)⟩, fun b' hb => by simp [Value.ownBlock] at hb; exact hb.symm⟩
  · refine ⟨b, o, some ⟨b, o + 1, none⟩, rfl, by simp, by simpa using h1, hx, by rw [if_neg hc], ⟨_, _, rfl, by omega, by omega, .inr ⟨b, o + 1, arr, rfl, k1, by omega, fun k hk => ?_⟩⟩, fun b' hb => by simp [Value.ownBlock] at hb; exact hb.symm⟩
    have := k3 (k + 1) (by omega)
    rw [show o + 1 + k = o + (k + 1) by omega, this]
    simp
theorem QueAt.shape (h : QueAt w v H) : ∃ a c, v = .slice a H.length c ∧ H.length ≤ c ∧ c ≤ maxLen := by
  obtain ⟨a, c, e, h1, h2, _⟩ := h.ex
  exact ⟨a, c, e, h1, h2⟩
theorem QueAt.at_ {a : Option Addr} {n c k : Nat} (h : QueAt w (.slice a n c) H) (hk : k < H.length) : ∃ b o, a = some ⟨b, o, none⟩ ∧ w.cell? ⟨b, o + k, none⟩ = some (u32v (H.getD k 0)) := by
  obtain ⟨a0, c0, e, h1, h2, h3⟩ := h.ex
  obtain ⟨rfl, rfl, rfl⟩ := Value.slice.inj e
  obtain ⟨b, o, arr, rfl, k1, k2, k3⟩ := h3.resolve_left (by omega)
  exact ⟨b, o, rfl, by rw [cell_of k1]; exact k3 k hk⟩
theorem QueAt.lt (h : QueAt w v H) (hH : H ≠ []) {b : Nat} (hb : v.ownBlock = some b) : b < w.heap.size := by
  obtain ⟨a, c, rfl, h1, h2, h3⟩ := h.ex
  have : 0 < H.length := List.length_pos_iff.2 hH
  obtain ⟨b', o, arr, rfl, k1, k2, k3⟩ := h3.resolve_left (by omega)
  simp [Value.ownBlock] at hb
  subst hb
  exact lt_of_block k1
end
end Go.Proofs.Ytoehdpfcnpdhnaa.Ix
