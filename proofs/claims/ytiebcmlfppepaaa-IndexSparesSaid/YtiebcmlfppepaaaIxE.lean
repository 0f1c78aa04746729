/- The index layer: what an index is in memory; Most, Len, Steps, Slots, Get, Set, Drop. No condition. -/
import Derived.Test.YtiebcmlfppepaaaIxD
namespace Go.Proofs.Ytiebcmlfppepaaa.Ix
open Go.RowKit
/-- An index's parts, whatever it is laden with. -/
structure Raw (w : World) (bh g N most : Nat) (S : List Sl) (L : List (Nat × Int)) (st : Nat) : Prop where
  head : HeadAt w bh g N most L.length (graves S) st
  slots : SlotsAt w g S
  len : S.length = N
  good : Good (home N) S
  maps : Maps S L
  ids : ∀ x ∈ L, x.1 < 4294967296
  ne : bh ≠ g
  lo : 2 * most ≤ N
  one : 1 ≤ most
  hi : N ≤ 8192
/-- An index that holds L, for at most so many; st: the last search's steps. -/
def IxAt (w : World) (bh g N most : Nat) (L : List (Nat × Int)) (st : Nat) : Prop := ∃ S, Raw w bh g N most S L st ∧ 4 * (L.length + graves S) ≤ 3 * N ∧ L.length ≤ most ∧ st ≤ N
theorem Raw.fr {w w' : World} {bh g N most : Nat} {S : List Sl} {L : List (Nat × Int)} {st : Nat} (h : Raw w bh g N most S L st) {F : Nat → Prop} (f : Fr F w w') (h1 : ¬ F bh) (h2 : ¬ F g) : Raw w' bh g N most S L st :=
  ⟨h.head.fr f h1, h.slots.fr f h2, h.len, h.good, h.maps, h.ids, h.ne, h.lo, h.one, h.hi⟩
theorem IxAt.fr {w w' : World} {bh g N most : Nat} {L : List (Nat × Int)} {st : Nat} (h : IxAt w bh g N most L st) {F : Nat → Prop} (f : Fr F w w') (h1 : ¬ F bh) (h2 : ¬ F g) : IxAt w' bh g N most L st := by
  obtain ⟨S, hr, h3⟩ := h; exact ⟨S, hr.fr f h1 h2, h3⟩
theorem Raw.gap {w : World} {bh g N most : Nat} {S : List Sl} {L : List (Nat × Int)} {st : Nat} (h : Raw w bh g N most S L st) (hl : L.length + graves S < N) : ∃ p, p < N ∧ (slAt S p).1 = 0 := by
  have := _root_.Go.Proofs.Ytiebcmlfppepaaa.Ix.gap h.good.le2 (by rw [← h.maps.length, h.len]; exact hl)
  rwa [h.len] at this
theorem IxAt.lt {w : World} {bh g N most : Nat} {L : List (Nat × Int)} {st : Nat} (h : IxAt w bh g N most L st) : bh < w.heap.size ∧ g < w.heap.size := by
  obtain ⟨S, hr, _⟩ := h; exact ⟨hr.head.lt, hr.slots.lt⟩
theorem IxAt.ne {w : World} {bh g N most : Nat} {L : List (Nat × Int)} {st : Nat} (h : IxAt w bh g N most L st) : bh ≠ g := by
  obtain ⟨S, hr, _⟩ := h; exact hr.ne
theorem IxAt.up {w : World} {bh g N most : Nat} {L : List (Nat × Int)} {st : Nat} (h : IxAt w bh g N most L st) : L.Pairwise fun a b => a.1 < b.1 := by
  obtain ⟨S, hr, _⟩ := h; exact hr.maps.up
theorem IxAt.load {w : World} {bh g N most : Nat} {L : List (Nat × Int)} {st : Nat} (h : IxAt w bh g N most L st) : L.length ≤ most := by
  obtain ⟨S, hr, _, h2, _⟩ := h; exact h2
/-- Find, over an index's parts. -/
theorem find_raw {w : World} {bh g N most st id : Nat} {S : List Sl} {L : List (Nat × Int)} (H : Raw w bh g N most S L st) (hl : L.length + graves S < N) (hid : id < 4294967296) :
    Calls Try.prog 64 #[.pointer (some ⟨bh, 0, none⟩), .int .u32 (id : Int)] w fun e w' => ∃ st', 1 ≤ st' ∧ st' ≤ N ∧ Raw w' bh g N most S L st' ∧ Fr (fun b => b = bh) w w' ∧ Found S N id e := by
  refine (find_ok H.head H.slots H.len H.good (H.gap hl) H.ne hid H.hi).mono ?_
  rintro e w' ⟨st', h1, h2, h3, h4, h5⟩
  exact ⟨st', h1, h2, ⟨h3, H.slots.fr h4 (fun e => H.ne e.symm), H.len, H.good, H.maps, H.ids, H.ne, H.lo, H.one, H.hi⟩, h4, h5⟩
theorem upd_none {L : List (Nat × Int)} {id : Nat} (v : Int) (h : look L id = none) : upd L id v = L := by
  unfold upd
  conv => rhs; rw [← List.map_id L]
  apply List.map_congr_left
  intro x hx
  rw [if_neg (look_none.1 h x hx)]; rfl
theorem del_none {L : List (Nat × Int)} {id : Nat} (h : look L id = none) : del L id = L := by
  unfold del
  rw [List.filter_eq_self]
  intro x hx
  simpa using look_none.1 h x hx
section simple
variable {w : World} {bh g N most : Nat} {L : List (Nat × Int)} {st : Nat}
set_option maxRecDepth 100000 in
theorem len_ok (h : IxAt w bh g N most L st) : Calls Try.prog 38 #[.pointer (some ⟨bh, 0, none⟩)] w fun e w' => e = .returned (.int .i64 (L.length : Int)) ∧ w = w' := by
  obtain ⟨S, hr, _⟩ := h
  have c := hr.head.cells.2.2.1
  have H := Lib.hid hr.head
  clear hr
  go_enter Try.func38, Try.ntmps38
  go_wp2_with fail
  refine (made_ok H.out).mono ?_
  rintro e w1 ⟨rfl, rfl⟩
  go_wp2_with fail
  go_ret
  exact ⟨rfl, rfl⟩
set_option maxRecDepth 100000 in
theorem slots_ok (h : IxAt w bh g N most L st) : Calls Try.prog 39 #[.pointer (some ⟨bh, 0, none⟩)] w fun e w' => e = .returned (.int .i64 (N : Int)) ∧ w = w' := by
  obtain ⟨S, hr, _⟩ := h
  have c := hr.head.cells.1
  have H := Lib.hid hr.head
  clear hr
  go_enter Try.func39, Try.ntmps39
  go_wp2_with fail
  refine (made_ok H.out).mono ?_
  rintro e w1 ⟨rfl, rfl⟩
  go_wp2_with fail
  go_ret
  exact ⟨rfl, rfl⟩
theorem load_lt (hr : 2 * most ≤ N) (h1 : 1 ≤ most) {l gr : Nat} (h : 4 * (l + gr) ≤ 3 * N) : l + gr < N := by omega
set_option maxRecDepth 100000 in
theorem get_ok (h : IxAt w bh g N most L st) {id : Nat} (hid : id < 4294967296) : Calls Try.prog 36 #[.pointer (some ⟨bh, 0, none⟩), .int .u32 (id : Int)] w fun e w' => ∃ st', 1 ≤ st' ∧ e = .returned (.tuple #[.int .i64 ((look L id).getD 0), .bool (look L id).isSome]) ∧ IxAt w' bh g N most L st' ∧ Fr (fun b => b = bh) w w' := by
  obtain ⟨S, hr, hl1, hl2, hl3⟩ := h
  have HF := Lib.hid (find_raw hr (load_lt hr.lo hr.one hl1) hid)
  have H := Lib.hid hr.head; have HL := Lib.hid hl1; have HL2 := Lib.hid hl2
  clear hr hl1 hl2 hl3 hid
  go_enter Try.func36, Try.ntmps36
  go_wp2_with fail
  refine (made_ok H.out).mono ?_
  rintro e w1 ⟨rfl, rfl⟩
  go_wp2_with fail
  refine HF.out.mono ?_
  rintro e w1 ⟨st', h1, h2, hr, hf, hd⟩
  rcases hd with ⟨p, rfl, hp, hs⟩ | ⟨p, rfl, -, ha⟩
  · have hlk := hr.maps.found (by rw [hr.len]; exact hp) hs
    have c0 := hr.head.cells.1
    have c2 := (hr.slots.cells (p := p) (by rw [hr.len]; exact hp)).2.2
    have hpl : (p : Int) < (N : Int) := by omega
    have HR := Lib.hid hr; have Hf := Lib.hid hf; have HK := Lib.hid hlk; have HS := Lib.hid (And.intro h1 h2)
    clear hr hf hlk h1 h2 hs hp
    go_wp2_with fail
    refine bodyPost_ret (v := .tuple #[.int .i64 (slAt S p).2.2, .bool true]) ?_ rfl ?_
    · simp [results, Try.results36, Try.f36, go_sem]
    · exact ⟨st', HS.out.1, by rw [HK.out]; rfl, ⟨S, HR.out, HL.out, HL2.out, HS.out.2⟩, Hf.out⟩
  · have hlk := hr.maps.absent ha
    have HR := Lib.hid hr; have Hf := Lib.hid hf; have HK := Lib.hid hlk; have HS := Lib.hid (And.intro h1 h2)
    clear hr hf hlk h1 h2 ha
    go_wp2_with fail
    refine bodyPost_ret (v := .tuple #[.int .i64 0, .bool false]) ?_ rfl ?_
    · simp [results, Try.results36, Try.f36, go_sem]
    · exact ⟨st', HS.out.1, by rw [HK.out]; rfl, ⟨S, HR.out, HL.out, HL2.out, HS.out.2⟩, Hf.out⟩
theorem look_mem (hu : L.Pairwise fun a b => a.1 < b.1) {id : Nat} {v : Int} (h : look L id = some v) : ∃ x ∈ L, x.1 = id := ⟨(id, v), (look_of hu).1 h, rfl⟩
theorem Raw.upd {S : List Sl} {w' : World} (hr : Raw w bh g N most S L st) {p id : Nat} (v : Int) (hp : p < N) (hs : (slAt S p).1 = 1 ∧ (slAt S p).2.1 = id) (hh : HeadAt w' bh g N most L.length (graves S) st) (hsl : SlotsAt w' g (S.set p (1, id, v))) : Raw w' bh g N most (S.set p (1, id, v)) (upd L id v) st ∧ graves (S.set p (1, id, v)) = graves S := by
  have hp' : p < S.length := by rw [hr.len]; exact hp
  have hg : graves (S.set p (1, id, v)) = graves S := by
    have := graves_set hp' (1, id, v)
    rw [if_neg (by rw [hs.1]; simp), if_neg (by simp)] at this; omega
  refine ⟨⟨?_, hsl, by rw [List.length_set]; exact hr.len, hr.good.setv hp' hs, hr.maps.setv hr.good hp' hs, ?_, hr.ne, hr.lo, hr.one, hr.hi⟩, hg⟩
  · rw [upd_length, hg]; exact hh
  · intro x hx
    obtain ⟨y, hy, rfl⟩ := List.mem_map.1 hx
    obtain ⟨z, hz, hzi⟩ := look_mem hr.maps.up (hr.maps.found hp' hs)
    split
    · exact hzi ▸ hr.ids z hz
    · exact hr.ids y hy
set_option maxRecDepth 100000 in
theorem set_ok (h : IxAt w bh g N most L st) {id : Nat} (hid : id < 4294967296) (v : Int) : Calls Try.prog 35 #[.pointer (some ⟨bh, 0, none⟩), .int .u32 (id : Int), .int .i64 v] w fun e w' => ∃ st', 1 ≤ st' ∧ e = .returned (.bool (look L id).isSome) ∧ IxAt w' bh g N most (upd L id v) st' ∧ Fr (fun b => b = bh ∨ b = g) w w' := by
  obtain ⟨S, hr, hl1, hl2, hl3⟩ := h
  have HF := Lib.hid (find_raw hr (load_lt hr.lo hr.one hl1) hid)
  have H := Lib.hid hr.head; have HL := Lib.hid hl1; have HL2 := Lib.hid hl2
  clear hr hl1 hl2 hl3 hid
  go_enter Try.func35, Try.ntmps35
  go_wp2_with fail
  refine (made_ok H.out).mono ?_
  rintro e w1 ⟨rfl, rfl⟩
  go_wp2_with fail
  refine HF.out.mono ?_
  rintro e w1 ⟨st', h1, h2, hr, hf, hd⟩
  rcases hd with ⟨p, rfl, hp, hs⟩ | ⟨p, rfl, -, ha⟩
  · have hlk := hr.maps.found (by rw [hr.len]; exact hp) hs
    have c0 := hr.head.cells.1
    have c2 := (hr.slots.cells (p := p) (by rw [hr.len]; exact hp)).2.2
    have fz := hr.slots.free (p * 3 + 2)
    have hpl : (p : Int) < (N : Int) := by omega
    have hsl := hr.slots.setv (p := p) (by rw [hr.len]; exact hp) v
    rw [hs.1, hs.2] at hsl
    have hfs : Fr (fun b => b = bh ∨ b = g) w (w1.setCell ⟨g, p * 3 + 2, none⟩ (.int .i64 v)) := Fr.setCell (F := fun b => b = bh ∨ b = g) (p := ⟨g, p * 3 + 2, none⟩) (hf.mono (fun _ _ h => .inl h)) (fun _ => .inr rfl) _
    have hh := hr.head.fr (Fr.setCell (F := fun b => b = g) (p := ⟨g, p * 3 + 2, none⟩) (Fr.refl _ w1) (fun _ => rfl) (.int .i64 v)) hr.ne
    have HR := Lib.hid (hr.upd v hp hs hh hsl); have Hf := Lib.hid hfs; have HK := Lib.hid hlk; have HS := Lib.hid (And.intro h1 h2)
    clear hr hf hlk h1 h2 hs hp hsl hfs hh
    go_wp2_with fail
    go_ret
    obtain ⟨hr, hg⟩ := HR.out
    exact ⟨st', HS.out.1, by rw [HK.out]; rfl, ⟨_, hr, by rw [hg, upd_length]; exact HL.out, by rw [upd_length]; exact HL2.out, HS.out.2⟩, Hf.out⟩
  · have hlk := hr.maps.absent ha
    have HR := Lib.hid hr; have Hf := Lib.hid hf; have HK := Lib.hid hlk; have HS := Lib.hid (And.intro h1 h2)
    clear hr hf hlk h1 h2 ha
    go_wp2_with fail
    go_ret
    exact ⟨st', HS.out.1, by rw [HK.out]; rfl, by rw [upd_none v HK.out]; exact ⟨S, HR.out, HL.out, HL2.out, HS.out.2⟩, Hf.out.mono (fun _ _ h => .inl h)⟩
theorem Raw.del {S : List Sl} {w' : World} (hr : Raw w bh g N most S L st) {p id : Nat} (hp : p < N) (hs : (slAt S p).1 = 1 ∧ (slAt S p).2.1 = id) (hh : HeadAt w' bh g N most (L.length - 1) (graves S + 1) st) (hsl : SlotsAt w' g (S.set p (2, 0, 0))) : Raw w' bh g N most (S.set p (2, 0, 0)) (del L id) st ∧ graves (S.set p (2, 0, 0)) = graves S + 1 ∧ (del L id).length + 1 = L.length := by
  have hp' : p < S.length := by rw [hr.len]; exact hp
  have hg : graves (S.set p (2, 0, 0)) = graves S + 1 := by
    have := graves_set hp' (2, 0, 0)
    rw [if_neg (by rw [hs.1]; simp), if_pos (by simp)] at this; omega
  have hd := del_length hr.maps.up (hr.maps.found hp' hs)
  refine ⟨⟨?_, hsl, by rw [List.length_set]; exact hr.len, hr.good.drop hp', hr.maps.drop hr.good hp' hs, ?_, hr.ne, hr.lo, hr.one, hr.hi⟩, hg, hd⟩
  · rw [hg, show (Ix.del L id).length = L.length - 1 by omega]; exact hh
  · intro x hx
    exact hr.ids x (List.mem_filter.1 hx).1
set_option maxRecDepth 100000 in
theorem drop_ok (h : IxAt w bh g N most L st) {id : Nat} (hid : id < 4294967296) : Calls Try.prog 37 #[.pointer (some ⟨bh, 0, none⟩), .int .u32 (id : Int)] w fun e w' => ∃ st', 1 ≤ st' ∧ e = .returned (.bool (look L id).isSome) ∧ IxAt w' bh g N most (del L id) st' ∧ Fr (fun b => b = bh ∨ b = g) w w' := by
  obtain ⟨S, hr, hl1, hl2, hl3⟩ := h
  have HF := Lib.hid (find_raw hr (load_lt hr.lo hr.one hl1) hid)
  have H := Lib.hid hr.head; have HL := Lib.hid hl1; have HL2 := Lib.hid hl2
  have hN8 := hr.hi
  have hm : L.length ≤ most := hl2
  have hlo := hr.lo
  obtain ⟨q, hq⟩ : ∃ q, q = L.length := ⟨_, rfl⟩
  obtain ⟨gr, hgr⟩ : ∃ gr, gr = graves S := ⟨_, rfl⟩
  have hq6 : q ≤ 8192 := by omega
  have hgr6 : gr ≤ 8192 := by rw [hgr]; exact Nat.le_trans (graves_le S) (by rw [hr.len]; exact hr.hi)
  have HQ := Lib.hid hq; have HGR := Lib.hid hgr
  clear hr hl1 hl2 hl3 hid hm hq hgr hlo hN8
  go_enter Try.func37, Try.ntmps37
  go_wp2_with fail
  refine (made_ok H.out).mono ?_
  rintro e w1 ⟨rfl, rfl⟩
  go_wp2_with fail
  refine HF.out.mono ?_
  rintro e w1 ⟨st', h1, h2, hr, hf, hd⟩
  rcases hd with ⟨p, rfl, hp, hs⟩ | ⟨p, rfl, -, ha⟩
  · have hp' : p < S.length := by rw [hr.len]; exact hp
    have hlk := hr.maps.found hp' hs
    have hq1 : 1 ≤ q := by have := del_length hr.maps.up hlk; rw [HQ.out]; omega
    have hhd := hr.head
    rw [← HQ.out, ← HGR.out] at hhd
    have c0 := hhd.cells.1
    obtain ⟨k0, k1, k2⟩ := hr.slots.cells hp'
    have z0 := hr.slots.free (p * 3); have z1 := hr.slots.free (p * 3 + 1); have z2 := hr.slots.free (p * 3 + 2)
    have hpl : (p : Int) < (N : Int) := by omega
    have hsl : SlotsAt (((w1.setCell ⟨g, p * 3, none⟩ (.int .u8 2)).setCell ⟨g, p * 3 + 1, none⟩ (.int .u32 0)).setCell ⟨g, p * 3 + 2, none⟩ (.int .i64 0)) g (S.set p (2, 0, 0)) := hr.slots.set hp' (2, 0, 0)
    have fs : Fr (fun b => b = g) w1 (((w1.setCell ⟨g, p * 3, none⟩ (.int .u8 2)).setCell ⟨g, p * 3 + 1, none⟩ (.int .u32 0)).setCell ⟨g, p * 3 + 2, none⟩ (.int .i64 0)) := Fr.setCell (F := fun b => b = g) (p := ⟨g, p * 3 + 2, none⟩) (Fr.setCell (F := fun b => b = g) (p := ⟨g, p * 3 + 1, none⟩) (Fr.setCell (F := fun b => b = g) (p := ⟨g, p * 3, none⟩) (Fr.refl _ w1) (fun _ => rfl) _) (fun _ => rfl) _) (fun _ => rfl) _
    have HR := Lib.hid hr; have Hf := Lib.hid hf; have HK := Lib.hid hlk; have HS := Lib.hid (And.intro h1 h2); have Hhd := Lib.hid hhd; have Hsl := Lib.hid hsl; have Fs := Lib.hid fs; have Hp := Lib.hid hp; have Hs := Lib.hid hs
    clear hr hf hlk h1 h2 hp hp' hhd hsl fs hs
    go_upto_region 6 with fail
    have hh2 := Hhd.out.fr Fs.out HR.out.ne
    have hsl2 := Hsl.out
    have hf2 := Hf.out.mono (G := fun b => b = bh ∨ b = g) (fun _ _ h => .inl h) |>.trans Fs.out (fun _ _ h => .inr h)
    clear k0 k1 k2 z0 z1 z2 c0 hpl
    generalize ((w1.setCell ⟨g, p * 3, none⟩ (.int .u8 2)).setCell ⟨g, p * 3 + 1, none⟩ (.int .u32 0)).setCell ⟨g, p * 3 + 2, none⟩ (.int .i64 0) = w3 at hh2 hsl2 hf2 ⊢
    obtain ⟨q1, hq2⟩ : ∃ q1, q = q1 + 1 := ⟨q - 1, by omega⟩
    have e1 : (q : Int) - 1 = (q1 : Int) := by omega
    obtain ⟨e2, e3, -⟩ := wrap_small (x := q1) (by omega)
    have e4 : (gr : Int) + 1 = ((gr + 1 : Nat) : Int) := by omega
    obtain ⟨e5, e6, -⟩ := wrap_small (x := gr + 1) (by omega)
    obtain ⟨gr1, hgr1⟩ : ∃ gr1, gr1 = gr + 1 := ⟨_, rfl⟩
    rw [← hgr1] at e4 e5 e6
    obtain ⟨-, -, c2, c3, -⟩ := hh2.cells
    have z2 := hh2.free 2; have z3 := hh2.free 3
    have hh3 := (hh2.len q1).graves gr1
    have hsl3 : SlotsAt ((w3.setCell ⟨bh, 2, none⟩ (.int .i64 (q1 : Int))).setCell ⟨bh, 3, none⟩ (.int .i64 (gr1 : Int))) g (S.set p (2, 0, 0)) := hsl2.fr (Fr.setCell (F := fun b => b = bh) (p := ⟨bh, 3, none⟩) (Fr.setCell (F := fun b => b = bh) (p := ⟨bh, 2, none⟩) (Fr.refl _ w3) (fun _ => rfl) _) (fun _ => rfl) _) (fun e => HR.out.ne e.symm)
    have hf3 : Fr (fun b => b = bh ∨ b = g) w ((w3.setCell ⟨bh, 2, none⟩ (.int .i64 (q1 : Int))).setCell ⟨bh, 3, none⟩ (.int .i64 (gr1 : Int))) := Fr.setCell (F := fun b => b = bh ∨ b = g) (p := ⟨bh, 3, none⟩) (Fr.setCell (F := fun b => b = bh ∨ b = g) (p := ⟨bh, 2, none⟩) hf2 (fun _ => .inl rfl) _) (fun _ => .inl rfl) _
    have hq1e : q1 = L.length - 1 := by rw [← HQ.out]; omega
    rw [hq1e, hgr1, HGR.out, ← hq1e] at hh3
    have HRD := Lib.hid (HR.out.del Hp.out Hs.out (by rw [← hq1e]; exact hh3) (by have h := hsl3; rw [hgr1, HGR.out] at h; exact h))
    have Hf3 := Lib.hid hf3; have Hg1 := Lib.hid hgr1
    clear hh2 hsl2 hf2 hh3 hsl3 hf3 hq1e hq2 hgr1 hq6 hgr6 hq1
    go_wp2_with fail
    go_ret
    obtain ⟨hr, hg, hd⟩ := HRD.out
    refine ⟨st', HS.out.1, by rw [HK.out]; rfl, ⟨_, ?_, by rw [hg]; have := HL.out; omega, by have := HL2.out; omega, HS.out.2⟩, Hf3.out⟩
    have e := Hg1.out
    rw [HGR.out] at e
    rw [e]; exact hr
  · have hlk := hr.maps.absent ha
    have HR := Lib.hid hr; have Hf := Lib.hid hf; have HK := Lib.hid hlk; have HS := Lib.hid (And.intro h1 h2)
    clear hr hf hlk h1 h2 ha hq6 hgr6
    go_wp2_with fail
    go_ret
    exact ⟨st', HS.out.1, by rw [HK.out]; rfl, by rw [del_none HK.out]; exact ⟨S, HR.out, HL.out, HL2.out, HS.out.2⟩, Hf.out.mono (fun _ _ h => .inl h)⟩
end simple
end Go.Proofs.Ytiebcmlfppepaaa.Ix
