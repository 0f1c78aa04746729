/- Texts put together: Books: CopyBookings; a book's group plays no part; three or four books at once. No condition. -/
import Derived.Test.YtmmjlnicfndmcaaM7
namespace Go.Proofs.Ytmmjlnicfndmcaa.Bk
open Go.RowKit Go.Shelf
attribute [local go_sem] Oper.semAt_some
set_option maxRecDepth 100000 in
theorem copyb_ok {w : World} {v : Value} {L : List Bo} (h : Bos w v L) (hn : L.length ≤ 1000000) : Calls Try.prog 23 #[v] w fun e w' => ∃ v', e = .returned v' ∧ Bos w' v' L ∧ (∀ b, v'.ownBlock = some b → w.heap.size ≤ b) ∧ Fr (fun _ => False) w w' := by
  obtain ⟨a, c, rfl⟩ := bos_slice h
  have hs := Els.srcTake encB_len h L.length
  rw [List.take_length] at hs
  obtain ⟨b1, d1, w1, r1, e1, f1, o1⟩ := Els.apps (P := Try.prog) (t := 27) (ty := 27) encB_len (show Els w 44 3 encB (.slice none 0 0) [] from World.ownsRow_nil _ _ _ _) Try.underlying27 Try.infoBo rfl (by decide) encB_one (c := c) hs rfl (by simpa using hn) (by decide)
  simp only [List.length_nil, Nat.zero_add, List.nil_append] at r1 e1 o1
  have f1' : Fr (fun _ => False) w w1 := f1.mono (fun b _ h => by simp [Value.ownBlock] at h)
  have o1' : ∀ b, (Value.slice b1 L.length d1).ownBlock = some b → w.heap.size ≤ b := fun b hb => by
    rcases o1 b hb with h | h
    · simp [Value.ownBlock] at h
    · omega
  have HR := Lib.hid r1; have HE := Lib.hid e1; have HF := Lib.hid f1'; have HO := Lib.hid o1'
  clear h hs r1 e1 f1 o1 f1' o1' hn
  go_enter Try.func23, Try.ntmps23
  go_wp2_with (at_builtin; refine wpList_append_run rfl _ _ _ rfl rfl rfl HR.out ?_)
  go_ret
  exact ⟨_, rfl, HE.out, HO.out, HF.out⟩
/-- The same book under another group. -/
def grp (b : Bk) (g : Nat) : Bk := { b with group := g }
theorem grp_app (b : Bk) (g : Nat) (r : Rc) : appE (grp b g) r = appE b r ∧ appB (grp b g) r = grp (appB b r) g := by
  refine ⟨rfl, ?_⟩
  unfold appB
  by_cases h0 : recB r = false
  · rw [if_pos h0, if_pos h0]
  rw [if_neg h0, if_neg h0]
  by_cases k1 : r.kind = 1
  · rw [if_pos k1, if_pos k1]
    show holdB (grp b g) r = _
    unfold holdB
    by_cases h : holdE b r = 0
    · rw [if_pos h, if_pos (show holdE (grp b g) r = 0 from h)]; rfl
    · rw [if_neg h, if_neg (show ¬ holdE (grp b g) r = 0 from h)]
  rw [if_neg k1, if_neg k1]
  by_cases k5 : r.kind = 5
  · rw [if_pos k5, if_pos k5]
    unfold tickB
    by_cases h : r.clock ≤ b.clock
    · rw [if_pos h, if_pos (show r.clock ≤ (grp b g).clock from h)]
    · rw [if_neg h, if_neg (show ¬ r.clock ≤ (grp b g).clock from h)]; rfl
  rw [if_neg k5, if_neg k5]
  show (match bFind b.L r.id with | none => grp b g | some x => _) = _
  cases bFind b.L r.id with
  | none => rfl
  | some x =>
    simp only
    by_cases k2 : r.kind = 2
    · rw [if_pos k2, if_pos k2]; rfl
    rw [if_neg k2, if_neg k2]
    by_cases k3 : r.kind = 3
    · rw [if_pos k3, if_pos k3]; rfl
    rw [if_neg k3, if_neg k3]
    unfold seatB
    by_cases h : seatE b x r.seat = 0
    · rw [if_pos h, if_pos (show seatE (grp b g) x r.seat = 0 from h)]; rfl
    · rw [if_neg h, if_neg (show ¬ seatE (grp b g) x r.seat = 0 from h)]
theorem grp_ok {b : Bk} (h : Ok b) (g : Nat) : Ok (grp b g) := ⟨⟨h.s0, h.s1, h.c0, h.c1, h.n0, h.n1, h.t0, h.t1, h.up, h.ids, h.at_, h.lone, h.till, h.few⟩, h.held⟩
theorem sameK_grp (b : Bk) (g : Nat) : sameK (grp b g) b.next b b.next = true ∧ sameK b b.next (grp b g) b.next = true := by simp [sameK, grp]
def four {α : Type} (x y z u : α) (j : Nat) : α := if j = 0 then x else if j = 1 then y else if j = 2 then z else u
section
variable {w w1 w2 : World} {b0 b1 b2 b3 : Nat} {m0 m1 m2 m3 m' : Bk} {Z : Nat → Prop} {P : Nat → Pt}
theorem Bks.third (h : Bks w w1 2 (Bk.two b0 b1) (Bk.two m0 m1) Z P) {p : Pt} (hb : BkP p b2 m2.next m2 m2.L m2.L w2) (hn : ∀ y, p.own b2 y → w1.heap.size ≤ y) (f : Fr (fun _ => False) w1 w2) : ∃ P, Bks w w2 3 (four b0 b1 b2 b2) (four m0 m1 m2 m2) Z P :=
  ⟨_, (h.add hb hn f).names (fun j hj => by rcases (by omega : j = 0 ∨ j = 1 ∨ j = 2) with rfl | rfl | rfl <;> rfl) (fun j hj => by rcases (by omega : j = 0 ∨ j = 1 ∨ j = 2) with rfl | rfl | rfl <;> rfl)⟩
theorem Bks.fourth {n0 : Nat} {k0 : Bk} (h : Bks w w1 3 (four b0 b1 b2 n0) (four m0 m1 m2 k0) Z P) {p : Pt} (hb : BkP p b3 m3.next m3 m3.L m3.L w2) (hn : ∀ y, p.own b3 y → w1.heap.size ≤ y) (f : Fr (fun _ => False) w1 w2) : ∃ P, Bks w w2 4 (four b0 b1 b2 b3) (four m0 m1 m2 m3) Z P :=
  ⟨_, (h.add hb hn f).names (fun j hj => by rcases (by omega : j = 0 ∨ j = 1 ∨ j = 2 ∨ j = 3) with rfl | rfl | rfl | rfl <;> rfl) (fun j hj => by rcases (by omega : j = 0 ∨ j = 1 ∨ j = 2 ∨ j = 3) with rfl | rfl | rfl | rfl <;> rfl)⟩
theorem Bks.f0 (h : Bks w w1 4 (four b0 b1 b2 b3) (four m0 m1 m2 m3) Z P) (ha : Aft (P 0) b0 m' w1 w2) : ∃ P', Bks w w2 4 (four b0 b1 b2 b3) (four m' m1 m2 m3) Z P' := by
  obtain ⟨⟨P', h1⟩, h2⟩ := h.aft (i := 0) (by omega) (b' := m') ha
  exact ⟨P', h1.names (fun _ _ => rfl) (fun j hj => by rcases (by omega : j = 0 ∨ j = 1 ∨ j = 2 ∨ j = 3) with rfl | rfl | rfl | rfl <;> rfl)⟩
theorem Bks.f1 (h : Bks w w1 4 (four b0 b1 b2 b3) (four m0 m1 m2 m3) Z P) (ha : Aft (P 1) b1 m' w1 w2) : ∃ P', Bks w w2 4 (four b0 b1 b2 b3) (four m0 m' m2 m3) Z P' := by
  obtain ⟨⟨P', h1⟩, h2⟩ := h.aft (i := 1) (by omega) (b' := m') ha
  exact ⟨P', h1.names (fun _ _ => rfl) (fun j hj => by rcases (by omega : j = 0 ∨ j = 1 ∨ j = 2 ∨ j = 3) with rfl | rfl | rfl | rfl <;> rfl)⟩
theorem Bks.f2 (h : Bks w w1 4 (four b0 b1 b2 b3) (four m0 m1 m2 m3) Z P) (ha : Aft (P 2) b2 m' w1 w2) : ∃ P', Bks w w2 4 (four b0 b1 b2 b3) (four m0 m1 m' m3) Z P' := by
  obtain ⟨⟨P', h1⟩, h2⟩ := h.aft (i := 2) (by omega) (b' := m') ha
  exact ⟨P', h1.names (fun _ _ => rfl) (fun j hj => by rcases (by omega : j = 0 ∨ j = 1 ∨ j = 2 ∨ j = 3) with rfl | rfl | rfl | rfl <;> rfl)⟩
theorem Bks.q0 (h : Bks w w1 4 (four b0 b1 b2 b3) (four m0 m1 m2 m3) Z P) : BkP (P 0) b0 m0.next m0 m0.L m0.L w1 := h.at_ 0 (by omega)
theorem Bks.q1 (h : Bks w w1 4 (four b0 b1 b2 b3) (four m0 m1 m2 m3) Z P) : BkP (P 1) b1 m1.next m1 m1.L m1.L w1 := h.at_ 1 (by omega)
theorem Bks.q2 (h : Bks w w1 4 (four b0 b1 b2 b3) (four m0 m1 m2 m3) Z P) : BkP (P 2) b2 m2.next m2 m2.L m2.L w1 := h.at_ 2 (by omega)
theorem Bks.q3 (h : Bks w w1 4 (four b0 b1 b2 b3) (four m0 m1 m2 m3) Z P) : BkP (P 3) b3 m3.next m3 m3.L m3.L w1 := h.at_ 3 (by omega)
theorem Bks.t0 {n0 : Nat} {k0 : Bk} (h : Bks w w1 3 (four b0 b1 b2 n0) (four m0 m1 m2 k0) Z P) : BkP (P 0) b0 m0.next m0 m0.L m0.L w1 := h.at_ 0 (by omega)
theorem Bks.t1 {n0 : Nat} {k0 : Bk} (h : Bks w w1 3 (four b0 b1 b2 n0) (four m0 m1 m2 k0) Z P) : BkP (P 1) b1 m1.next m1 m1.L m1.L w1 := h.at_ 1 (by omega)
theorem Bks.t2 {n0 : Nat} {k0 : Bk} (h : Bks w w1 3 (four b0 b1 b2 n0) (four m0 m1 m2 k0) Z P) : BkP (P 2) b2 m2.next m2 m2.L m2.L w1 := h.at_ 2 (by omega)
end
/-- Same of two books that are alike. -/
theorem same_alike {p q : Pt} {bb cc : Nat} {A C : Bk} {w : World} (h1 : BkP p bb A.next A A.L A.L w) (h2 : BkP q cc C.next C C.L C.L w) (h : sameK A A.next C C.next = true) :
    Calls Try.prog 15 #[.pointer (some ⟨bb, 0, none⟩), .pointer (some ⟨cc, 0, none⟩)] w fun e w' => e = .returned (.bool true) ∧ Fr (fun _ => False) w w' := by
  have := bsame_ok h1 h2
  rw [h] at this
  exact this
end Go.Proofs.Ytmmjlnicfndmcaa.Bk
