/- The index layer, plain: what is found behind Set, Put, Drop; an index with what told gave. No condition. -/
import Derived.Test.YtiebcmlfppepaaaIxT
namespace Go.Proofs.Ytiebcmlfppepaaa.Ix
open Go.RowKit
theorem look_some_iff {L : List (Nat × Int)} {id : Nat} : (look L id).isSome = L.any fun x => x.1 == id := by
  unfold look
  rw [Option.isSome_map, Bool.eq_iff_iff, List.find?_isSome, List.any_eq_true]
theorem look_upd {L : List (Nat × Int)} {id : Nat} (v : Int) (hu : (upd L id v).Pairwise fun a b => a.1 < b.1) (h : (look L id).isSome = true) : look (upd L id v) id = some v := by
  rw [look_of hu]
  rw [look_some_iff, List.any_eq_true] at h
  obtain ⟨x, hx, e⟩ := h
  have e : x.1 = id := by simpa using e
  exact List.mem_map.2 ⟨x, hx, by rw [if_pos e]⟩
theorem look_ins {L : List (Nat × Int)} {id : Nat} (v : Int) (hu : (ins L id v).Pairwise fun a b => a.1 < b.1) : look (ins L id v) id = some v := by
  rw [look_of hu]; unfold ins; simp
theorem look_del (L : List (Nat × Int)) (id : Nat) : look (del L id) id = none := by
  rw [look_none]
  intro x hx
  have := (List.mem_filter.1 hx).2
  simpa using this
theorem look_at {L : List (Nat × Int)} (hu : L.Pairwise fun a b => a.1 < b.1) {k : Nat} (hk : k < L.length) : look L (liAt L k).1 = some (liAt L k).2 := by
  rw [look_of hu]
  exact List.mem_of_getElem? (liAt_of hk)
theorem up_at {L : List (Nat × Int)} (hu : L.Pairwise fun a b => a.1 < b.1) {i k : Nat} (hik : i < k) (hk : k < L.length) : (liAt L i).1 < (liAt L k).1 := by
  have := List.pairwise_iff_getElem.1 hu i k (by omega) hk hik
  simpa [liAt, hk, show i < L.length by omega] using this
theorem IxAt.ids {w : World} {bh g N most st : Nat} {L : List (Nat × Int)} (h : IxAt w bh g N most L st) : ∀ x ∈ L, x.1 < 4294967296 := by
  obtain ⟨S, hr, _⟩ := h; exact hr.ids
theorem IxAt.few {w : World} {bh g N most st : Nat} {L : List (Nat × Int)} (h : IxAt w bh g N most L st) : L.length ≤ 4096 := by
  obtain ⟨S, hr, _, h2, _⟩ := h; have := hr.hi; have := hr.lo; omega
theorem mem_at {L : List (Nat × Int)} {k : Nat} (hk : k < L.length) : liAt L k ∈ L := List.mem_of_getElem? (liAt_of hk)
/-- Is an id among the first? -/
def among (L : List (Nat × Int)) (id i : Nat) : Bool := (L.take i).any fun x => x.1 == id
theorem among_zero (L : List (Nat × Int)) (id : Nat) : among L id 0 = false := by simp [among]
theorem among_succ {L : List (Nat × Int)} {id i : Nat} (h : i < L.length) : among L id (i + 1) = (among L id i || ((liAt L i).1 == id)) := by
  unfold among
  rw [← take_snocL h, List.any_append]; simp
theorem among_all (L : List (Nat × Int)) (id : Nat) : among L id L.length = (look L id).isSome := by
  unfold among; rw [List.take_length, look_some_iff]
/-- An index of one's own, with what told gave of it. -/
structure Fnd (w : World) (bh g N m : Nat) (L : List (Nat × Int)) (va vb : Value) (st : Nat) (w' : World) : Prop where
  ix : NewIx w w' bh g N m L st
  rowa : Row w' 38 1 va L.length ((idsOf L).map u64v)
  rowb : Row w' 3 1 vb L.length ((valsOf L).map i64v)
  na : ∀ b, va.ownBlock = some b → b ≠ bh ∧ b ≠ g
  nb : ∀ b, vb.ownBlock = some b → b ≠ bh ∧ b ≠ g
section fnd
variable {w w1 w2 : World} {bh g N m st st' : Nat} {L : List (Nat × Int)} {va vb : Value}
theorem Fnd.then (h : Fnd w bh g N m L va vb st w1) (k : IxAt w2 bh g N m L st') (f : Fr (fun b => b = bh ∨ b = g) w1 w2) : Fnd w bh g N m L va vb st' w2 :=
  ⟨h.ix.then k f (fun b hb => by rcases hb with e | e <;> simp [e]), Row.fr h.rowa f (fun b hb e => by have := h.na b hb; rcases e with e | e <;> simp [e] at this), Row.fr h.rowb f (fun b hb e => by have := h.nb b hb; rcases e with e | e <;> simp [e] at this), h.na, h.nb⟩
theorem Fnd.drew (h : Fnd w bh g N m L va vb st w1) : Fnd w bh g N m L va vb st w1.drew := ⟨⟨h.ix.at_.fr (Fr.drew (Fr.refl (fun _ => False) w1)) (fun h => h) (fun h => h), h.ix.newh, h.ix.newg, h.ix.up, h.ix.fr.drew⟩, h.rowa, h.rowb, h.na, h.nb⟩
theorem Fnd.cella {ga n c k : Nat} (h : Fnd w bh g N m L (.slice (some ⟨ga, 0, none⟩) n c) vb st w1) (hk : k < L.length) : w1.cell? ⟨ga, k, none⟩ = some (.int .u64 ((liAt L k).1 : Int)) := by
  obtain ⟨a, c', e, hh⟩ := row_cell h.rowa
  obtain ⟨g', e2, k1⟩ := hh k hk
  obtain ⟨e3, -, -⟩ := Value.slice.inj e
  rw [e2] at e3
  obtain rfl : g' = ga := by simpa using e3.symm
  rw [k1]
  simp [idsOf, u64v, liAt, hk]
theorem Fnd.cellb {gb n c k : Nat} (h : Fnd w bh g N m L va (.slice (some ⟨gb, 0, none⟩) n c) st w1) (hk : k < L.length) : w1.cell? ⟨gb, k, none⟩ = some (.int .i64 (liAt L k).2) := by
  obtain ⟨a, c', e, hh⟩ := row_cell h.rowb
  obtain ⟨g', e2, k1⟩ := hh k hk
  obtain ⟨e3, -, -⟩ := Value.slice.inj e
  rw [e2] at e3
  obtain rfl : g' = gb := by simpa using e3.symm
  rw [k1]
  simp [valsOf, i64v, liAt, hk]
theorem Fnd.of (h : NewIx w w1 bh g N m L st) (f : Fr (fun _ => False) w1 w2) (ra : Row w2 38 1 va L.length ((idsOf L).map u64v)) (rb : Row w2 3 1 vb L.length ((valsOf L).map i64v)) (na : ∀ b, va.ownBlock = some b → w1.heap.size ≤ b) (nb : ∀ b, vb.ownBlock = some b → w1.heap.size ≤ b) : Fnd w bh g N m L va vb st w2 :=
  ⟨h.then (h.at_.fr f (fun h => h) (fun h => h)) f (fun _ h => h.elim), ra, rb, fun b hb => by have := na b hb; have := h.at_.lt; omega, fun b hb => by have := nb b hb; have := h.at_.lt; omega⟩
theorem told_ix (h : NewIx w w1 bh g N m L st) : Calls Try.prog 9 #[.pointer (some ⟨bh, 0, none⟩)] w1 (ToldOf w1 L) :=
  told_ok (by have := h.at_.few; omega) h.at_.ids (fun w2 f => all_ok (h.at_.fr f (fun h => h) (fun h => h)))
end fnd
end Go.Proofs.Ytiebcmlfppepaaa.Ix
