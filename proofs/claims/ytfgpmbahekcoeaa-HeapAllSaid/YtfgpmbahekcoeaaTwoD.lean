/- What both heaps tell: Get, Least. No condition. -/
import Derived.Test.YtfgpmbahekcoeaaTwoC
namespace Go.Proofs.Ytfgpmbahekcoeaa
open Go.RowKit
section
variable {G G1 G2 : Nat → Prop} {bk bh rh : Nat} {k next : Int} {L R : List It} {w W : World}
theorem Parts.refStay (c : Parts G G1 G2 bk bh rh k next L R w W) {w1 : World} (f : Fr (fun _ => False) W w1) : RefIs G2 rh k R next w1 := c.r.fr f (fun _ _ h => h)
/-- Get on both. -/
structure Gets (bh rh : Nat) (n v : Int) (b : Bool) (W : World) : Prop where
  one : ∀ w0, Fr (fun _ => False) W w0 → Calls Try.prog 70 #[.pointer (some ⟨bh, 0, none⟩), .int .i64 n] w0 fun e w' => e = .returned (.tuple #[.int .i64 v, .bool b]) ∧ w0 = w'
  two : ∀ w0, Fr (fun _ => False) W w0 → Calls Try.prog 71 #[.pointer (some ⟨rh, 0, none⟩), .int .i64 n] w0 fun e w' => e = .returned (.tuple #[.int .i64 v, .bool b]) ∧ w0 = w'
theorem Parts.get (c : Parts G G1 G2 bk bh rh k next L R w W) (n : Int) : ∃ v b, Gets bh rh n v b W := by
  by_cases h : ∃ i, i < L.length ∧ (itAt L i).2 = n
  · obtain ⟨i, hi, rfl⟩ := h
    obtain ⟨q, hq, eq⟩ := c.p.rel.find hi
    have e1 : (itAt R q).1 = (itAt L i).2 := by rw [eq]; rfl
    have e2 : (itAt R q).2 = (itAt L i).1 := by rw [eq]; rfl
    refine ⟨(itAt L i).1, true, ?_, ?_⟩
    · intro w0 f0
      exact get_there c.less (c.heapFr f0) hi
    · intro w0 f0
      have := rget_there (c.refStay f0) (rel_lone c.p.rel) hq
      rw [e1, e2] at this
      exact this
  · have hg : ∀ i, i < L.length → (itAt L i).2 ≠ n := fun i hi e => h ⟨i, hi, e⟩
    exact ⟨0, false, fun w0 f0 => get_gone c.less (c.heapFr f0) hg, fun w0 f0 => rget_gone (c.refStay f0) (rel_gone c.p.rel hg)⟩
/-- Least on both. -/
structure Leasts (bh rh : Nat) (k : Int) (v m : Int) (ok : Bool) (v2 m2 : Int) (ok2 : Bool) (W : World) : Prop where
  one : ∀ w0, Fr (fun _ => False) W w0 → Calls Try.prog 53 #[.pointer (some ⟨bh, 0, none⟩)] w0 fun e w' => e = .returned (.tuple #[.int .i64 v, .int .i64 m, .bool ok]) ∧ Fr (fun _ => False) w0 w'
  two : ∀ w0, Fr (fun _ => False) W w0 → Calls Try.prog 72 #[.pointer (some ⟨rh, 0, none⟩)] w0 fun e w' => e = .returned (.tuple #[.int .i64 v2, .int .i64 m2, .bool ok2]) ∧ Fr (fun _ => False) w0 w'
  get : ∀ w0, Fr (fun _ => False) W w0 → Calls Try.prog 71 #[.pointer (some ⟨rh, 0, none⟩), .int .i64 m] w0 fun e w' => e = .returned (.tuple #[.int .i64 v, .bool ok]) ∧ w0 = w'
  no : ok = false → v = 0 ∧ m = 0
  ord : k < 4 → v2 = v ∧ m2 = m
theorem Parts.least (c : Parts G G1 G2 bk bh rh k next L R w W) : ∃ v m v2 m2, Leasts bh rh k v m (decide ((0 : Int) < (R.length : Int))) v2 m2 (decide ((0 : Int) < (R.length : Int))) W := by
  have hlen := c.p.rel.len
  by_cases h : L = []
  · subst h
    obtain rfl : R = [] := List.length_eq_zero_iff.1 (by rw [hlen]; rfl)
    refine ⟨0, 0, 0, 0, ⟨?_, ?_, ?_, fun _ => ⟨rfl, rfl⟩, fun _ => ⟨rfl, rfl⟩⟩⟩
    · intro w0 f0
      refine (least_none c.less (c.heapFr f0)).mono ?_
      rintro e w' ⟨rfl, rfl⟩
      exact ⟨rfl, Fr.refl _ _⟩
    · intro w0 f0
      refine (rleast_none (c.refStay f0)).mono ?_
      rintro e w' ⟨rfl, rfl⟩
      exact ⟨rfl, Fr.refl _ _⟩
    · intro w0 f0
      exact rget_gone (c.refStay f0) (hd := 0) (by simp)
  · have h0 : 0 < L.length := List.length_pos_iff.2 h
    obtain ⟨q, hq, eq⟩ := c.p.rel.find h0
    have e1 : (itAt R q).1 = (itAt L 0).2 := by rw [eq]; rfl
    have e2 : (itAt R q).2 = (itAt L 0).1 := by rw [eq]; rfl
    have hne : R ≠ [] := by intro e; subst e; simp at hq
    have hb : decide ((0 : Int) < (R.length : Int)) = true := by simp; exact List.length_pos_iff.2 hne
    rw [hb]
    refine ⟨(itAt L 0).1, (itAt L 0).2, (leastTo (lessK k) R (R.length - 1)).2, (leastTo (lessK k) R (R.length - 1)).1, ⟨?_, ?_, ?_, fun e => absurd e (by simp), fun h4 => ?_⟩⟩
    · intro w0 f0
      exact least_some c.less (c.heapFr f0) h
    · intro w0 f0
      exact rleast_some (c.refStay f0) hne c.p.k0 c.p.k7 (rel_fits c.p.rel c.h.all)
    · intro w0 f0
      have := rget_there (c.refStay f0) (rel_lone c.p.rel) hq
      rw [e1, e2] at this
      exact this
    · rw [c.p.rel.least (lessK_swo k c.p.k0 h4) (c.p.hp h4) h0]
      exact ⟨rfl, rfl⟩
end
end Go.Proofs.Ytfgpmbahekcoeaa
