/- A slice of ids that slides: a queue. No condition. -/
import Derived.Test.YtiebcmlfppepaaaIxU
import Derived.ArgAppend
namespace Go.Proofs.Ytiebcmlfppepaaa.Ix
open Go.RowKit
def u32v (x : Nat) : Value := .int .u32 (x : Int)
/-- The slice v is the queue H. -/
structure QueAt (w : World) (v : Value) (H : List Nat) : Prop where
  ex : ∃ a c, v = .slice a H.length c ∧ H.length ≤ c ∧ c ≤ maxLen ∧ (c = 0 ∨ ∃ b o arr, a = some ⟨b, o, none⟩ ∧ w.heap[b]? = some (.cells arr 34 (0, 0)) ∧ o + c ≤ arr.size ∧ ∀ k, k < H.length → arr[o + k]? = some (u32v (H.getD k 0)))
theorem QueAt.nil (w : World) : QueAt w (.slice none 0 0) [] := ⟨none, 0, rfl, Nat.le_refl _, Nat.zero_le _, .inl rfl⟩
theorem Try.infoU32 : (Try.prog.info? 34).map (fun i => (i.zero, i.size, i.bytes)) = some (some (.int .u32 0), 1, 4) := by kernel_rfl
section
variable {w w' : World} {v : Value} {H : List Nat}
theorem QueAt.fr (h : QueAt w v H) {F : Nat → Prop} (f : Fr F w w') (hF : ∀ b, v.ownBlock = some b → ¬ F b) : QueAt w' v H := by
  obtain ⟨a, c, rfl, h1, h2, h3⟩ := h.ex
  refine ⟨a, c, rfl, h1, h2, ?_⟩
  rcases h3 with h3 | ⟨b, o, arr, rfl, h4, h5⟩
  · exact .inl h3
  · exact .inr ⟨b, o, arr, rfl, f.get h4 (hF b rfl), h5⟩
theorem QueAt.row {n0 : Nat} {n : Nat} (h : w.ownsRow n0 34 1 v n (H.map u32v)) : QueAt w v H := by
  have hn : H.length = n := by have := h.1; simpa using this
  rcases h.2 with ⟨rfl, h0⟩ | ⟨g, cap, cur, rfl, _, k1, k2, k3, k4, k5⟩
  · have : H = [] := List.eq_nil_of_length_eq_zero (by omega)
    subst this
    exact QueAt.nil w
  · refine ⟨some ⟨g, 0, none⟩, cap, by rw [hn], by omega, k3, .inr ⟨g, 0, cur, rfl, k1, by omega, fun k hk => ?_⟩⟩
    have : (cur.toList.take (n * 1))[k]? = (H.map u32v)[k]? := by rw [k5]
    rw [List.getElem?_take, if_pos (by omega), List.getElem?_map, List.getElem?_eq_getElem hk] at this
    rw [Nat.zero_add]
    simp [hk] at this ⊢
    exact this
/-- The first one less. -/
theorem QueAt.slide {a : Option Addr} {n c x : Nat} (h : QueAt w (.slice a n c) (x :: H)) : ∃ b o a', a = some ⟨b, o, none⟩ ∧ n = H.length + 1 ∧ n ≤ c ∧ w.cell? ⟨b, o, none⟩ = some (u32v x) ∧ (if c = 1 then (some ⟨b, o, none⟩ : Option Addr) else some ⟨b, o + 1, none⟩) = a' ∧ QueAt w (.slice a' H.length (c - 1)) H ∧ ∀ b', (Value.slice a' H.length (c - 1)).ownBlock = some b' → b' = b := by
  obtain ⟨a0, c0, e, h1, h2, h3⟩ := h.ex
  obtain ⟨rfl, rfl, rfl⟩ := Value.slice.inj e
  simp only [List.length_cons] at h1 h3
  obtain ⟨b, o, arr, rfl, k1, k2, k3⟩ := h3.resolve_left (by omega)
  have hx : w.cell? ⟨b, o, none⟩ = some (u32v x) := by
    rw [cell_of k1]
    have := k3 0 (by omega)
    simpa using this
  by_cases hc : c = 1
  · refine ⟨b, o, some ⟨b, o, none⟩, rfl, by simp, by simpa using h1, hx, by rw [if_pos hc], ⟨_, _, rfl, by omega, by omega, .inl (by omega)⟩, fun b' hb => by simp [Value.ownBlock] at hb; exact hb.symm⟩
  · refine ⟨b, o, some ⟨b, o + 1, none⟩, rfl, by simp, by simpa using h1, hx, by rw [if_neg hc], ⟨_, _, rfl, by omega, by omega, .inr ⟨b, o + 1, arr, rfl, k1, by omega, fun k hk => ?_⟩⟩, fun b' hb => by simp [Value.ownBlock] at hb; exact hb.symm⟩
    have := k3 (k + 1) (by omega)
    rw [show o + 1 + k = o + (k + 1) by omega, this]
    simp
theorem QueAt.shape (h : QueAt w v H) : ∃ a c, v = .slice a H.length c ∧ H.length ≤ c ∧ c ≤ maxLen := by
  obtain ⟨a, c, e, h1, h2, _⟩ := h.ex
  exact ⟨a, c, e, h1, h2⟩
theorem QueAt.at_ {a : Option Addr} {n c k : Nat} (h : QueAt w (.slice a n c) H) (hk : k < H.length) : ∃ b o, a = some ⟨b, o, none⟩ ∧ w.cell? ⟨b, o + k, none⟩ = some (u32v (H.getD k 0)) := by
  obtain ⟨a0, c0, e, h1, h2, h3⟩ := h.ex
  obtain ⟨rfl, rfl, rfl⟩ := Value.slice.inj e
  obtain ⟨b, o, arr, rfl, k1, k2, k3⟩ := h3.resolve_left (by omega)
  exact ⟨b, o, rfl, by rw [cell_of k1]; exact k3 k hk⟩
theorem QueAt.lt (h : QueAt w v H) (hH : H ≠ []) {b : Nat} (hb : v.ownBlock = some b) : b < w.heap.size := by
  obtain ⟨a, c, rfl, h1, h2, h3⟩ := h.ex
  have : 0 < H.length := List.length_pos_iff.2 hH
  obtain ⟨b', o, arr, rfl, k1, k2, k3⟩ := h3.resolve_left (by omega)
  simp [Value.ownBlock] at hb
  subst hb
  exact lt_of_block k1
end
end Go.Proofs.Ytiebcmlfppepaaa.Ix
