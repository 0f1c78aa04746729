/- Arguments that are slices of structs, of numbers and of structs of numbers. No condition. -/
import Derived.Test.YtjfnaflbhmeokaaArgk
namespace Go.Proofs.Ytjfnaflbhmeokaa
open Go.ChangeShapes Go.WideShapes Go.ChangeAt Go.RowKit Go.Deep
section
variable {H : Type} {enc : TypeId × Value → H} {P : Program} {w : World} {base : Nat} {spare : Nat → Bool} {held : Bool}
/-- The kind of a type's j-th cell, when it is a number. -/
def kindAt (P : Program) : Nat → TypeId → Nat → Option IntKind
  | 0, _, _ => none
  | n + 1, t, j => match P.underlying t with
    | some (.int k) => if j = 0 then some k else none
    | some (.struct fs) => fs.toList.findSome? fun f => if f.offset ≤ j ∧ j < f.offset + P.cellsOf f.type then kindAt P n f.type (j - f.offset) else none
    | _ => none
theorem trod_kindAt : ∀ (n : Nat) {t : TypeId} {j : Nat} {k : IntKind} {fuel : Nat} {cs : List Value} {x : DataW H × List MemPlace}, kindAt P n t j = some k → DataW.trod enc P w base spare held fuel t cs = some x → ∃ v, cs[j]? = some (.int k v) ∧ (Lit.int k v).wf = true := by
  intro n
  induction n with
  | zero => intro t j k fuel cs x h; simp [kindAt] at h
  | succ n ih =>
    intro t j k fuel cs x h hf
    unfold kindAt at h
    split at h
    · rename_i k' hu
      split at h
      · rename_i hj
        subst hj
        obtain ⟨v, rfl, _, h3⟩ := DataW.trod_int hu hf
        obtain rfl : k' = k := Option.some.inj h
        exact ⟨v, rfl, h3⟩
      · cases h
    · rename_i fs hu
      obtain ⟨ys, n', _, _, hlen, hyl, hff⟩ := DataW.trod_struct hu hf
      obtain ⟨f, hfm, hfk⟩ := List.exists_of_findSome?_eq_some h
      split at hfk
      · rename_i hc
        obtain ⟨i, hi, rfl⟩ := List.getElem_of_mem hfm
        have hi' : i < fs.size := by simpa using hi
        have h1 := hff i _ (Array.getElem?_eq_getElem hi')
        have hys : ys[i]? = some (ys[i]'(by omega)) := List.getElem?_eq_getElem (by omega)
        obtain ⟨v, hv, hw⟩ := ih (by simpa using hfk) (h1.trans hys)
        refine ⟨v, ?_, hw⟩
        rw [List.getElem?_take, if_pos (by simp at hc; omega), List.getElem?_drop] at hv
        rw [← hv]
        simp at hc
        congr 1
        omega
      · cases hfk
    · cases h
theorem kindsAt_flat {m : Nat} {kd : Nat → IntKind} {t e : TypeId} {a0 : Option Addr} {len0 cap0 : Nat} {d : DataW H} {p : List MemPlace} (n : Nat) (ht : P.underlying t = some (.slice e))
    (hone : (List.range m).all (fun j => kindAt P n e j == some (kd j)) = true) (hC : P.cellsOf e = m) (h0 : 0 < m) (h : DataW.Trod enc P w base spare held t (.slice a0 len0 cap0) d p) :
    ∃ K, KindsAt w (.slice a0 len0 cap0) m kd K len0 := by
  obtain ⟨fuel, hf⟩ := h
  rcases open_slice ht hf with ⟨hcs, _⟩ | ⟨a, len, cap, q, n1, D, Pl, hcs, hb, hl, hm, hmm, hx, hi⟩
  · simp [Value.cells] at hcs
    obtain ⟨rfl, rfl, rfl⟩ := hcs
    exact ⟨fun _ _ => 0, none, 0, rfl, Nat.le_refl _, Nat.zero_le _, .inl rfl⟩
  · simp [Value.cells] at hcs
    obtain ⟨rfl, rfl, rfl⟩ := hcs
    have hlm : len0 ≤ q := by rw [hmm]; split <;> omega
    have cell : ∀ i j, i < len0 → j < m → ∃ x, w.cell? (a.add (i * m + j)) = some (.int (kd j) x) ∧ (Lit.int (kd j) x).wf = true := by
      intro i j hil hjl
      obtain ⟨cs', hc, ht'⟩ := hi i (by omega)
      rw [hC] at hc
      obtain ⟨_, hcl, hat⟩ := World.cells?_some hc
      have hk : kindAt P n e j = some (kd j) := by
        have := List.all_eq_true.1 hone j (List.mem_range.2 hjl)
        exact eq_of_beq this
      obtain ⟨x, hx1, hx3⟩ := trod_kindAt n hk ht'
      refine ⟨x, ?_, hx3⟩
      rw [← Go.Deep.add_add, hat j hjl, hx1]
    by_cases hz : len0 = 0
    · subst hz; exact ⟨fun _ _ => 0, some a, cap0, rfl, hl, hm, .inl rfl⟩
    · obtain ⟨b, o, sp⟩ := a
      have hsp : sp = none := by
        obtain ⟨x, hx1, _⟩ := cell 0 0 (by omega) h0
        simpa [Addr.add] using World.cell?_spot hx1
      subst hsp
      have cell' : ∀ i j, i < len0 → j < m → ∃ x, w.cell? ⟨b, o + i * m + j, none⟩ = some (.int (kd j) x) ∧ (Lit.int (kd j) x).wf = true := by
        intro i j hil hjl
        have e : (⟨b, o, none⟩ : Addr).add (i * m + j) = ⟨b, o + i * m + j, none⟩ := by
          unfold Addr.add
          split
          · first | (simp; done) | (simp; omega)
          · simp [Nat.add_assoc]
        rw [← e]
        exact cell i j hil hjl
      refine ⟨fun i j => if h : i < len0 ∧ j < m then (cell' i j h.1 h.2).choose else 0, some ⟨b, o, none⟩, cap0, rfl, hl, hm, .inr ⟨b, o, rfl, ?_⟩⟩
      intro i j hil hjl
      have hsp := (cell' i j hil hjl).choose_spec
      dsimp only
      rw [dif_pos ⟨hil, hjl⟩]
      exact hsp
end
end Go.Proofs.Ytjfnaflbhmeokaa
