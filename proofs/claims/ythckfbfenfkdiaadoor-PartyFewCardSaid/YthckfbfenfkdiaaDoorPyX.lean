/- Parties: what Seat answers, whatever is asked; a list of ints that is written into. Condition: the table of math/bits. -/
import Derived.Test.YthckfbfenfkdiaaDoorPyS
import Derived.Test.YthckfbfenfkdiaaDoorPyT
import Derived.Test.YthckfbfenfkdiaaDoorPyW
namespace Go.Proofs.YthckfbfenfkdiaaDoor.Py
open Go.RowKit St Bt
theorem ints_at {w : World} {a : Option Addr} {n c : Nat} {A : List Int} (h : Ints w (.slice a n c) A) {i : Nat} (hi : i < A.length) : ∃ g, a = some ⟨g, 0, none⟩ ∧ n = A.length ∧ w.cell? ⟨g, i, none⟩ = some (.int .i64 (A.getD i 0)) := by
  rcases h.2 with ⟨_, h0⟩ | ⟨g1, cap1, cur, e0, _, hb, hc1, hc2, hcs, htk⟩
  · omega
  simp only [Value.slice.injEq] at e0
  obtain ⟨rfl, rfl, rfl⟩ := e0
  refine ⟨g1, rfl, rfl, ?_⟩
  rw [cell_of hb]
  have : (cur.toList.take (A.length * 1))[i]? = (A.map i64v)[i]? := by rw [htk]
  rw [List.getElem?_take, if_pos (by omega), Array.getElem?_toList] at this
  rw [this]
  simp [hi, i64v, List.getD_eq_getElem?_getD]
theorem ints_put {w : World} {g n c : Nat} {A : List Int} (h : Ints w (.slice (some ⟨g, 0, none⟩) n c) A) (hl : A.length = n) {i : Nat} (_hi : i < n) :
    w.frozen? ⟨g, i, none⟩ = false ∧ ∀ x : Int, Ints (w.setCell ⟨g, i, none⟩ (.int .i64 x)) (.slice (some ⟨g, 0, none⟩) n c) (A.set i x) := by
  rcases h.2 with ⟨e0, h0⟩ | ⟨g1, cap1, cur, e0, _, hb, hc1, hc2, hcs, htk⟩
  · simp at e0
  simp only [Value.slice.injEq, Option.some.injEq, Addr.mk.injEq, and_true] at e0
  obtain ⟨rfl, e2, rfl⟩ := e0
  refine ⟨free_of hb _, fun x => ?_⟩
  show Row _ _ _ _ _ _
  rw [List.length_set]
  refine ⟨by simp, .inr ⟨g, c, _, by rw [hl], Nat.zero_le _, setCell_blk (o := i) hb _, hc1, hc2, by simpa using hcs, ?_⟩⟩
  rw [Array.toList_setIfInBounds, List.take_set, htk, List.map_set]
  rfl
/-- What Seat says. -/
inductive Says (B : List Bool) (T : List Sp) (n : Int) (M : List Int) (e : Int) : Prop where
  | party (h : n < 1 ∨ 16 < n) (hM : M = []) (he : e = 270)
  | full (m : Nat) (hm : n = m) (h : 1 ≤ m ∧ m ≤ 16) (hf : total T < m) (hM : M = []) (he : e = 6)
  | given (m : Nat) (hm : n = m) (h : 1 ≤ m ∧ m ≤ 16) (hf : m ≤ total T) (he : e = 0) (S : List Sp) (hp : S.Perm T) (hS : SrtS S) (hM : M = srtI ((seatF S.length S m).map Int.ofNat))
theorem seat_any {w : World} {sv : Value} {L : List Int} {R W bh : Nat} {bv : Value} {B : List Bool} (h : Ask w sv L R W bh bv B) (n : Int) :
    Calls Tryd.prog 10 #[.agg #[.int .i64 R, .int .i64 W, sv], .pointer (some ⟨bh, 0, none⟩), .int .i64 n] w fun e w' => (∃ a c M x, e = .returned (.tuple #[.slice a (List.length M) c, .int .i64 x]) ∧ Ints w' (.slice a (List.length M) c) M ∧ Says B (runs (freeF B) (beg W L) (R * W)) n M x) ∧ Fr (fun _ => False) w w' := by
  have ht : total (runs (freeF B) (beg W L) (R * W)) = B.length - cnt B := by rw [total_runs, ← h.len, cnt_free]
  have nilI : ∀ W' : World, Ints W' (.slice none 0 0) [] := fun W' => ⟨rfl, .inl ⟨rfl, rfl⟩⟩
  by_cases h1 : n < 1 ∨ 16 < n
  · refine (seat_party h h1).mono ?_
    rintro e w' ⟨rfl, hf⟩
    exact ⟨⟨none, 0, [], 270, rfl, nilI w', .party h1 rfl rfl⟩, hf⟩
  · obtain ⟨m, rfl⟩ : ∃ m : Nat, n = m := ⟨n.toNat, by omega⟩
    have hm : 1 ≤ m ∧ m ≤ 16 := by omega
    by_cases h2 : B.length - cnt B < m
    · refine (seat_full h hm h2).mono ?_
      rintro e w' ⟨rfl, hf⟩
      exact ⟨⟨none, 0, [], 6, rfl, nilI w', .full m rfl hm (by rw [ht]; exact h2) rfl rfl⟩, hf⟩
    · refine (seat_ok h hm (by omega)).mono ?_
      rintro e w' ⟨⟨ov, S, rfl, hp, hS, hI, _⟩, hf⟩
      obtain ⟨M, hM⟩ : ∃ M, M = srtI ((seatF S.length S m).map Int.ofNat) := ⟨_, rfl⟩
      rw [← hM] at hI
      obtain ⟨a, c, rfl⟩ : ∃ a c, ov = .slice a (List.length M) c := by
        rcases hI.2 with ⟨rfl, h0⟩ | ⟨g, cap, cur, rfl, _⟩
        · exact ⟨none, 0, by rw [h0]⟩
        · exact ⟨_, _, rfl⟩
      exact ⟨⟨a, c, M, 0, rfl, hI, .given m rfl hm (by rw [ht]; omega) rfl S hp hS hM⟩, hf⟩
/-- Spans and ints that stand. -/
structure Fw (w : World) (lv : Value) (T : List Sp) (mv : Value) (M : List Int) (W : World) : Prop where
  sps : Sps W lv T
  ints : Ints W mv M
  fr : Fr (fun _ => False) w W
theorem Fw.keep {w : World} {lv : Value} {T : List Sp} {mv : Value} {M : List Int} {W W' : World} (h : Fw w lv T mv M W) (f : Fr (fun _ => False) W W') : Fw w lv T mv M W' :=
  ⟨Row.fr h.sps f (fun _ _ h => h), Row.fr h.ints f (fun _ _ h => h), h.fr.trans f (fun _ _ h => h)⟩
/-- And the lengths that are left, in a block of their own. -/
structure Fl (w : World) (lv : Value) (T : List Sp) (mv : Value) (M : List Int) (dv : Value) (A : List Int) (W : World) : Prop where
  fw : Fw w lv T mv M W
  left : Ints W dv A
  own : ∀ b, dv.ownBlock = some b → w.heap.size ≤ b ∧ lv.ownBlock ≠ some b ∧ mv.ownBlock ≠ some b
theorem Fl.keep {w : World} {lv : Value} {T : List Sp} {mv : Value} {M : List Int} {dv : Value} {A : List Int} {W W' : World} (h : Fl w lv T mv M dv A W) (f : Fr (fun _ => False) W W') : Fl w lv T mv M dv A W' :=
  ⟨h.fw.keep f, Row.fr h.left f (fun _ _ h => h), h.own⟩
theorem Fl.more {w : World} {lv : Value} {T : List Sp} {mv : Value} {M : List Int} {dv dv' : Value} {A A' : List Int} {W W' : World} (h : Fl w lv T mv M dv A W) (f : Fr (fun b => dv.ownBlock = some b) W W') (hi : Ints W' dv' A') (ho : ∀ b, dv'.ownBlock = some b → dv.ownBlock = some b ∨ W.heap.size ≤ b) : Fl w lv T mv M dv' A' W' := by
  refine ⟨⟨Row.fr h.fw.sps f (fun b hb hF => (h.own b hF).2.1 hb), Row.fr h.fw.ints f (fun b hb hF => (h.own b hF).2.2 hb), ((h.fw.fr.mono (G := fun b => w.heap.size ≤ b) (fun _ _ h => h.elim)).trans f (fun b _ hb => (h.own b hb).1)).toNew⟩, hi, fun b hb => ?_⟩
  rcases ho b hb with h1 | h1
  · exact h.own b h1
  · refine ⟨by have := h.fw.fr.size; omega, fun e => ?_, fun e => ?_⟩
    · have := Row.lt h.fw.sps e; omega
    · have := Row.lt h.fw.ints e; omega
theorem Fl.put {w : World} {lv : Value} {T : List Sp} {mv : Value} {M : List Int} {g n c : Nat} {A : List Int} {W : World} (h : Fl w lv T mv M (.slice (some ⟨g, 0, none⟩) n c) A W) (hl : A.length = n) {i : Nat} (hi : i < n) (x : Int) :
    Fl w lv T mv M (.slice (some ⟨g, 0, none⟩) n c) (A.set i x) (W.setCell ⟨g, i, none⟩ (.int .i64 x)) :=
  h.more (Fr.setCell (F := fun b => (Value.slice (some ⟨g, 0, none⟩) n c).ownBlock = some b) (p := ⟨g, i, none⟩) (Fr.refl _ _) (fun _ => rfl) _) ((ints_put h.left hl hi).2 x) (fun _ hb => .inl hb)
theorem total_take {T : List Sp} {i : Nat} (h : i < T.length) : total (T.take (i + 1)) = total (T.take i) + T[i].2 := by
  rw [List.take_succ_eq_append_getElem h, total_app]; simp [total]
theorem total_take_le (T : List Sp) (i : Nat) : total (T.take i) ≤ total T := by
  conv => rhs; rw [← List.take_append_drop i T, total_app]
  omega
theorem offs_le {g : Sp → Nat} {T : List Sp} (i : Nat) : offs g T i ≤ offs g T T.length := by
  unfold offs
  rw [List.take_length]
  conv => rhs; rw [← List.take_append_drop i T, List.map_append, List.sum_append]
  omega
theorem count_take {T : List Sp} {p : Sp → Bool} {i : Nat} (h : i < T.length) : (T.take (i + 1)).countP p = (T.take i).countP p + (if p T[i] then 1 else 0) := by
  rw [List.take_succ_eq_append_getElem h, List.countP_append]; simp [List.countP_cons]
theorem srtI_lenF {S : List Sp} {m : Nat} (h : m ≤ total S) : (srtI ((seatF S.length S m).map Int.ofNat)).length = m := by
  rw [srtI_len, List.length_map, seatF_len _ _ _ rfl h]
end Go.Proofs.YthckfbfenfkdiaaDoor.Py
