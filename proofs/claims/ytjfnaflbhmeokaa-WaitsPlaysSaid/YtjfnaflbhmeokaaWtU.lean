/- A list of waiting parties: Serve. No condition. -/
import Derived.Test.YtjfnaflbhmeokaaWtZ
namespace Go.Proofs.Ytjfnaflbhmeokaa.Wt
open Go.Shelf Go.RowKit
section
variable {G : Nat → Prop} {bl : Nat} {L : List It} {S : List Int} {next : Int} {f : Int → Option Int} {w : World}
set_option maxRecDepth 100000 in
theorem serve_no {p : Option Addr} (h : NoList w p) (n : Int) : Calls Try.prog 41 #[.pointer p, .int .i64 n] w fun e w' => e = .returned (.tuple #[.slice none 0 0, .int .i64 1]) ∧ w = w' := by
  have HM := Lib.hid (made_no h)
  clear h
  go_enter Try.func41, Try.ntmps41
  go_wp2_with fail
  refine HM.out.mono ?_
  rintro e w1 ⟨rfl, rfl⟩
  go_wp2_with fail
  go_ret2
  exact ⟨rfl, rfl⟩
set_option maxRecDepth 100000 in
theorem serve_neg (h : StAt G bl S next w) {n : Int} (hn : n < 0) : Calls Try.prog 41 #[.pointer (some ⟨bl, 0, none⟩), .int .i64 n] w fun e w' => e = .returned (.tuple #[.slice none 0 0, .int .i64 2]) ∧ w = w' := by
  obtain ⟨L, f, h1, _⟩ := h
  obtain ⟨bh, bm, GH, g1, _⟩ := h1.ex
  have HM := Lib.hid (made_ok g1)
  clear h1 g1
  go_enter Try.func41, Try.ntmps41
  go_wp2_with fail
  refine HM.out.mono ?_
  rintro e w1 ⟨rfl, rfl⟩
  go_wp2_with fail
  go_ret2
  exact ⟨rfl, rfl⟩
/-- What is left to serve, and what was got: R waits still, o got seats, y stays. -/
structure Srv (w : World) (G : Nat → Prop) (bl : Nat) (S : List Int) (next n : Int) (s : Int) (vo vs : Value) (o y R : List Int) (L : List It) (f : Int → Option Int) (wr : World) : Prop where
  eq : serveF n S = (o ++ (serveF s R).1, y ++ (serveF s R).2)
  lst : LstF G bl L next f wr
  pm : (L.map Prod.fst).Perm R
  od : Ord R
  ro : Wts wr vo o
  rs : Wts wr vs y
  oo : ∀ b, vo.ownBlock = some b → w.heap.size ≤ b
  os : ∀ b, vs.ownBlock = some b → w.heap.size ≤ b
  ne : ∀ b, vo.ownBlock = some b → vs.ownBlock ≠ some b
  here : ∀ x ∈ L, f (wW x.1) = some x.2
  gone : ∀ who, (∀ x ∈ R, wW x ≠ who) → (∀ x ∈ y, wW x ≠ who) → f who = none
  all : (o ++ (y ++ R)).Perm S
  nn : 0 ≤ s
  fr : Fr G w wr
theorem root_least (h : Heaped ltW L) {x : Int} {R : List Int} (hp : (L.map Prod.fst).Perm (x :: R)) (ho : Ord (x :: R)) : 0 < L.length ∧ (itAt L 0).1 = x := by
  have hl : 0 < L.length := by have := hp.length_eq; simp at this; omega
  refine ⟨hl, ?_⟩
  have hr : (itAt L 0).1 ∈ x :: R := hp.mem_iff.1 (List.mem_map.2 ⟨_, itAt_mem hl, rfl⟩)
  rcases List.mem_cons.1 hr with e | hr
  · exact e
  · have h1 := (List.pairwise_cons.1 ho).1 _ hr
    have hx : x ∈ L.map Prod.fst := hp.mem_iff.2 (by simp)
    obtain ⟨z, hz, rfl⟩ := List.mem_map.1 hx
    obtain ⟨i, hi, rfl⟩ := List.getElem_of_mem hz
    have h2 := (leI_iff.1 (heaped_least ltW_swo h i hi)).1
    rw [itAt_get hi] at h2
    rw [h1] at h2; cases h2
theorem Srv.small {w : World} {n s : Int} {vo vs : Value} {o y R : List Int} {wr : World} (h : Srv w G bl S next n s vo vs o y R L f wr) (hS : S.length ≤ 1024) : o.length + y.length ≤ 1024 ∧ y.length ≤ 1024 ∧ R.length ≤ 1024 := by
  have := h.all.length_eq
  simp at this
  omega
/-- Behind Pop: the heap is the rest. -/
theorem Srv.popped {x : Int} {R : List Int} {wr w' : World} (h1 : LstF G bl L next f wr) (hp : (L.map Prod.fst).Perm (x :: R)) (ho : Ord (x :: R)) {bh bm : Nat} {GH : Nat → Prop} (g1 : wr.heap[bl]? = some (.cells #[.pointer (some ⟨bh, 0, none⟩), .map (some bm)] 82 (0, 0)))
    (g3 : UMap wr bm f) (g4 : G bm) (g5 : ∀ b, GH b → G b ∧ b ≠ bl ∧ b ≠ bm) (hH : HpW GH bh (takeF ltW L 0) next w') (hf : Fr (fun b => False ∨ GH b) wr w') :
    LstF G bl (takeF ltW L 0) next f w' ∧ ((takeF ltW L 0).map Prod.fst).Perm R := by
  obtain ⟨hl, e⟩ := root_least h1.he hp ho
  obtain ⟨o1, o2, o3⟩ := okW_take h1 hl
  have nbl : ¬ (False ∨ GH bl) := by rintro (h | h); exact h; exact (g5 _ h).2.1 rfl
  have nbm : ¬ (False ∨ GH bm) := by rintro (h | h); exact h; exact (g5 _ h).2.2 rfl
  refine ⟨⟨⟨bh, bm, GH, hf.get g1 nbl, hH, g3.fr hf nbm, g4, g5⟩, h1.gl, fun b hb => Nat.lt_of_lt_of_le (h1.bd b hb) hf.size, take_heaped ltW_swo h1.he hl, o1, o2, o3⟩, ?_⟩
  have h2 := ((perm_take ltW hl).map Prod.fst).trans hp
  rw [List.map_cons, e] at h2
  exact (List.perm_cons _).1 h2
def lenV : Value → Nat
  | .slice _ n _ => n
  | _ => 0
theorem wts_slice {w : World} {v : Value} {S : List Int} (h : Wts w v S) : ∃ a c, v = .slice a S.length c := by
  rcases h.2 with ⟨rfl, h0⟩ | ⟨g, cap, cur, rfl, _⟩
  · exact ⟨none, 0, by rw [h0]⟩
  · exact ⟨_, _, rfl⟩
theorem LstF.mapAt (h : LstF G bl L next f w) {bm : Nat} (k : w.cell? ⟨bl, 1, none⟩ = some (.map (some bm))) : UMap w bm f ∧ G bm := by
  obtain ⟨bh', bm', GH', q1, q2, q3, q4, q5⟩ := h.ex
  have e1 := (cell_of q1 1).trans (show _ = some (Value.map (some bm')) from rfl)
  rw [k] at e1
  simp only [Option.some.injEq, Value.map.injEq] at e1
  subst e1
  exact ⟨q3, q4⟩
theorem LstF.deleted (h : LstF G bl L next f w) {bm : Nat} (k : w.cell? ⟨bl, 1, none⟩ = some (.map (some bm))) {F : Nat → Prop} {w2 w3 : World} (f2 : Fr F w w2) (hF : ∀ b, G b → ¬ F b) (f3 : Fr (fun b => b = bm) w2 w3) {g : Int → Option Int} (hM : UMap w3 bm g) : LstF G bl L next g w3 := by
  obtain ⟨bh', bm', GH', q1, q2, q3, q4, q5⟩ := id h.ex
  have e1 := (cell_of q1 1).trans (show _ = some (Value.map (some bm')) from rfl)
  rw [k] at e1
  simp only [Option.some.injEq, Value.map.injEq] at e1
  subst e1
  have nm : bl ≠ bm := by
    intro e
    obtain ⟨l, c, hb, _⟩ := q3
    rw [e, hb] at q1; cases q1
  exact ⟨⟨bh', bm, GH', f3.get (f2.get q1 (hF _ h.gl)) nm, HpW.fr (HpW.fr q2 f2 (fun b hb => hF b (q5 b hb).1)) f3 (fun b hb => (q5 b hb).2.2), hM, q4, q5⟩, h.gl, fun b hb => Nat.lt_of_lt_of_le (h.bd b hb) (Nat.le_trans f2.size f3.size), h.he, h.ok, h.few, h.lone⟩
theorem LstF.same (h : LstF G bl L next f w) {w' : World} (hf : Fr (fun b => ¬ G b) w w') : LstF G bl L next f w' := h.fr hf (fun _ hb hn => hn hb)
theorem Srv.keep {w : World} {n s : Int} {vo vs : Value} {o y R : List Int} {wr w' : World} (h : Srv w G bl S next n s vo vs o y R L f wr) (hf : Fr (fun _ => False) wr w') : Srv w G bl S next n s vo vs o y R L f w' :=
  ⟨h.eq, h.lst.fr hf (fun _ _ h => h), h.pm, h.od, Row.fr h.ro hf (fun _ _ h => h), Row.fr h.rs hf (fun _ _ h => h), h.oo, h.os, h.ne, h.here, h.gone, h.all, h.nn, h.fr.trans hf (fun _ _ h => h.elim)⟩
theorem Srv.stayed {w : World} {n s : Int} {vo vs : Value} {o y R : List Int} {x : Int} {wr : World} (h : Srv w G bl S next n s vo vs o y (x :: R) L f wr) (hG : ∀ b, G b → b < w.heap.size) (hs : s < wS x) {L' : List It} {W W2 : World} {vs' : Value}
    (l3 : LstF G bl L' next f W) (p3 : (L'.map Prod.fst).Perm R) (hsub : ∀ z ∈ L', z ∈ L) (fW : Fr G wr W) (ro : Wts W vo o) (r2 : Wts W2 vs' (y ++ [x])) (f2 : Fr (fun b => vs.ownBlock = some b) W W2) (o2 : ∀ b, vs'.ownBlock = some b → vs.ownBlock = some b ∨ W.heap.size ≤ b) :
    Srv w G bl S next n s vo vs' o (y ++ [x]) R L' f W2 := by
  have z1 := h.fr.size
  have z2 := fW.size
  have lvo : ∀ b, vo.ownBlock = some b → b < W.heap.size := fun b hb => Row.lt ro hb
  refine ⟨?_, l3.fr f2 (fun b hb e => by have := hG b hb; have := h.os b e; omega), p3, (List.pairwise_cons.1 h.od).2, Row.fr ro f2 (fun b hb e => h.ne b hb e), r2, h.oo, ?_, ?_, fun z hz => h.here z (hsub z hz), ?_, ?_, h.nn, (h.fr.trans fW (fun _ _ h => h)).trans f2 (fun b hb e => by have := h.os b e; omega)⟩
  · have := h.eq
    rw [this]
    conv => lhs; unfold serveF
    rw [if_neg (by omega)]
    simp
  · intro b hb
    rcases o2 b hb with e | e
    · exact h.os b e
    · omega
  · intro b hb e
    rcases o2 b e with e | e
    · exact h.ne b hb e
    · have := lvo b hb; omega
  · intro who h1 h2
    refine h.gone who ?_ (fun z hz => h2 z (by simp [hz]))
    intro z hz
    rcases List.mem_cons.1 hz with rfl | hz
    · exact h2 _ (by simp)
    · exact h1 z hz
  · refine List.Perm.trans ?_ h.all
    simp
theorem Srv.got {w : World} {n s : Int} {vo vs : Value} {o y R : List Int} {x : Int} {wr : World} (h : Srv w G bl S next n s vo vs o y (x :: R) L f wr) (hG : ∀ b, G b → b < w.heap.size) (hl : Lone S) (hs : wS x ≤ s) {L' : List It} {W W2 W3 : World} {vo' : Value}
    (l3 : LstF G bl L' next (fun j => if j = wW x then none else f j) W3) (p3 : (L'.map Prod.fst).Perm R) (hsub : ∀ z ∈ L', z ∈ L) (fW : Fr G wr W) (rs : Wts W vs y) (r2 : Wts W2 vo' (o ++ [x])) (f2 : Fr (fun b => vo.ownBlock = some b) W W2) (o2 : ∀ b, vo'.ownBlock = some b → vo.ownBlock = some b ∨ W.heap.size ≤ b) (f3 : Fr G W2 W3) :
    Srv w G bl S next n (s - wS x) vo' vs (o ++ [x]) y R L' (fun j => if j = wW x then none else f j) W3 := by
  have z1 := h.fr.size
  have z2 := fW.size
  have lvs : ∀ b, vs.ownBlock = some b → b < W.heap.size := fun b hb => Row.lt rs hb
  have hall : (o ++ [x] ++ (y ++ R)).Perm S := by
    refine List.Perm.trans ?_ h.all
    rw [List.append_assoc]
    refine List.Perm.append_left o ?_
    exact (List.perm_middle (l₁ := y) (a := x) (l₂ := R)).symm
  have hlone := lone_perm hall.symm hl
  have oo' : ∀ b, vo'.ownBlock = some b → w.heap.size ≤ b := by
    intro b hb
    rcases o2 b hb with e | e
    · exact h.oo b e
    · omega
  refine ⟨?_, l3, p3, (List.pairwise_cons.1 h.od).2, Row.fr r2 f3 (fun b hb e => by have := hG b e; have := oo' b hb; omega), Row.fr (Row.fr rs f2 (fun b hb e => h.ne b e hb)) f3 (fun b hb e => by have := hG b e; have := h.os b hb; omega), oo', h.os, ?_, ?_, ?_, hall, by omega, ((h.fr.trans fW (fun _ _ h => h)).trans f2 (fun b hb e => by have := h.oo b e; omega)).trans f3 (fun _ _ h => h)⟩
  · have := h.eq
    rw [this]
    conv => lhs; unfold serveF
    rw [if_pos hs]
    simp
  · intro b hb e
    rcases o2 b hb with e2 | e2
    · exact h.ne b e2 e
    · have := lvs b e; omega
  · intro z hz
    have hne : wW z.1 ≠ wW x := by
      have hzR : z.1 ∈ R := p3.mem_iff.1 (List.mem_map.2 ⟨z, hz, rfl⟩)
      have h2 : Lone (x :: R) := by
        have := hlone
        rw [List.append_assoc] at this
        refine (this.sublist (List.sublist_append_right o _)).sublist ?_
        exact (List.sublist_append_right y R).cons_cons x
      exact fun e => (List.pairwise_cons.1 h2).1 _ hzR e.symm
    show (if wW z.1 = wW x then none else f (wW z.1)) = some z.2
    rw [if_neg hne]; exact h.here z (hsub z hz)
  · intro who h1 h2
    show (if who = wW x then none else f who) = none
    split
    · rfl
    · rename_i hne
      refine h.gone who ?_ h2
      intro z hz
      rcases List.mem_cons.1 hz with rfl | hz
      · exact fun e => hne e.symm
      · exact h1 z hz
/-- While those that stay are pushed back: k of them are. -/
structure Bck (w : World) (G : Nat → Prop) (bl : Nat) (next : Int) (vo vs : Value) (o y R : List Int) (k : Nat) (G' : Nat → Prop) (n' : Int) (L : List It) (f : Int → Option Int) (wr : World) : Prop where
  lst : LstF G' bl L n' f wr
  pm : (L.map Prod.fst).Perm (R ++ y.take k)
  here : ∀ x ∈ L, f (wW x.1) = some x.2
  gone : ∀ who, (∀ x ∈ R, wW x ≠ who) → (∀ x ∈ y, wW x ≠ who) → f who = none
  ro : Wts wr vo o
  rs : Wts wr vs y
  no : ∀ b, vo.ownBlock = some b → ¬ G' b
  ns : ∀ b, vs.ownBlock = some b → ¬ G' b
  fr : Fr G w wr
  gr : Grew w G G'
  nx : n' ≤ next + k
theorem Bck.keep {w : World} {vo vs : Value} {o y R : List Int} {k : Nat} {G' : Nat → Prop} {n' : Int} {wr w' : World} (h : Bck w G bl next vo vs o y R k G' n' L f wr) (hf : Fr (fun _ => False) wr w') : Bck w G bl next vo vs o y R k G' n' L f w' :=
  ⟨h.lst.fr hf (fun _ _ h => h), h.pm, h.here, h.gone, Row.fr h.ro hf (fun _ _ h => h), Row.fr h.rs hf (fun _ _ h => h), h.no, h.ns, h.fr.trans hf (fun _ _ h => h.elim), h.gr, h.nx⟩
theorem Bck.step {w : World} {vo vs : Value} {o y R : List Int} {k : Nat} {G' : Nat → Prop} {n' : Int} {wr w' : World} (h : Bck w G bl next vo vs o y R k G' n' L f wr) (hk : k < y.length) {x : Int} (hx : x = y.getD k 0) (hne : ∀ z ∈ L, wW z.1 ≠ wW x) {G2 : Nat → Prop} {L2 : List It}
    (l2 : LstF G2 bl L2 (n' + 1) (fun j => if j = wW x then some n' else f j) w') (p2 : L2.Perm ((x, n') :: L)) (f2 : Fr G' wr w') (g2 : Grew wr G' G2) : Bck w G bl next vo vs o y R (k + 1) G2 (n' + 1) L2 (fun j => if j = wW x then some n' else f j) w' := by
  have hxy : x ∈ y := by rw [hx]; simp [hk]
  refine ⟨l2, ?_, ?_, ?_, Row.fr h.ro f2 h.no, Row.fr h.rs f2 h.ns, ?_, ?_, h.fr.trans f2 (fun b hb e => (h.gr b e).resolve_right (by omega)), ?_, by have := h.nx; push_cast; omega⟩
  · have h1 := p2.map Prod.fst
    rw [List.map_cons] at h1
    rw [← take_snocS hk, ← hx, ← List.append_assoc]
    exact (h1.trans (h.pm.cons x)).trans (List.perm_append_comm (l₁ := [x]))
  · intro z hz
    rcases List.mem_cons.1 (p2.mem_iff.1 hz) with rfl | hz
    · simp
    · show (if wW z.1 = wW x then some n' else f (wW z.1)) = some z.2
      rw [if_neg (hne z hz)]; exact h.here z hz
  · intro who h1 h2
    show (if who = wW x then some n' else f who) = none
    rw [if_neg (fun e => h2 x hxy e.symm)]
    exact h.gone who h1 h2
  · intro b hb hg
    rcases g2 b hg with e | e
    · exact h.no b hb e
    · have := Row.lt h.ro hb; omega
  · intro b hb hg
    rcases g2 b hg with e | e
    · exact h.ns b hb e
    · have := Row.lt h.rs hb; omega
  · intro b hb
    rcases g2 b hb with e | e
    · exact h.gr b e
    · have := h.fr.size; right; omega
theorem Bck.done {w : World} {vo vs : Value} {o y R : List Int} {G' : Nat → Prop} {n' : Int} {wr : World} (h : Bck w G bl next vo vs o y R y.length G' n' L f wr) (ho : Ord (y ++ R)) : StAt G' bl (y ++ R) n' wr := by
  have hp := h.pm
  rw [List.take_length] at hp
  refine ⟨L, f, h.lst, ⟨h.here, ?_⟩, hp.trans List.perm_append_comm, ho⟩
  intro who hw
  have hh : ∀ x ∈ R ++ y, wW x ≠ who := by
    intro x hx
    obtain ⟨z, hz, rfl⟩ := List.mem_map.1 (hp.mem_iff.2 hx)
    exact hw z hz
  exact h.gone who (fun x hx => hh x (by simp [hx])) (fun x hx => hh x (by simp [hx]))
set_option maxRecDepth 100000 in
set_option maxHeartbeats 4000000 in
theorem serve_ok (h : StAt G bl S next w) {n : Int} (hn : 0 ≤ n) (hn2 : n ≤ 9223372036854775807) (hx : next ≤ 100000000) :
    Calls Try.prog 41 #[.pointer (some ⟨bl, 0, none⟩), .int .i64 n] w fun e w' => ∃ v, e = .returned (.tuple #[v, .int .i64 0]) ∧ Wts w' v (serveF n S).1 ∧ (∀ b, v.ownBlock = some b → w.heap.size ≤ b) ∧
      ∃ G' n', StAt G' bl (serveF n S).2 n' w' ∧ n' ≤ next + 1024 ∧ Fr G w w' ∧ Grew w G G' ∧ (∀ b, v.ownBlock = some b → ¬ G' b) := by
  have hok := h.ok
  have hlen := h.len
  have hord := h.ord
  have hlone := h.lone
  obtain ⟨L0, f0, h1, h2, h3, h4⟩ := id h
  obtain ⟨bh0, bm0, GH0, g1, _⟩ := id h1.ex
  have HM := Lib.hid (made_ok g1)
  have hGw : ∀ b, G b → b < w.heap.size := h.bd
  have hS0 : Srv w G bl S next n n (.slice none 0 0) (.slice none 0 0) [] [] S L0 f0 w := by
    refine ⟨by simp, h1, h3, h4, World.ownsRow_nil _ _ _ _, World.ownsRow_nil _ _ _ _, by simp [Value.ownBlock], by simp [Value.ownBlock], by simp [Value.ownBlock], h2.here, ?_, by simp, hn, Fr.refl _ _⟩
    intro who h5 _
    exact h2.none h3 (fun ⟨x, hx, e⟩ => h5 x hx e)
  have HS0 := Lib.hid hS0; have Hok := Lib.hid hok; have Hlone := Lib.hid hlone; have Hlen := Lib.hid hlen; have Hord := Lib.hid hord; have HGw := Lib.hid hGw; have Hx := Lib.hid hx
  have hq0 : decide (n < 0) = false := by simp; omega
  have HN2 := Lib.hid hn2
  clear h h1 h2 h3 h4 g1 hGw hS0 hok hlen hord hlone hx hn2
  go_enter Try.func41, Try.ntmps41
  go_wp2_with fail
  refine HM.out.mono ?_
  rintro e w1 ⟨rfl, rfl⟩
  go_upto_block 1 with fail
  clear hq0 hn
  go_cut [1, 6, 7] (fun s1 s6 s7 wx => ∃ o y R L f, Srv w G bl S next n 0 s6 s7 o y R L f wx)
  case first =>
    go_wp2_with fail
    go_loopw [1, 6, 7] (fun s1 s6 s7 wr => ∃ s o y R L f, s1 = .int .i64 s ∧ s ≤ 9223372036854775807 ∧ Srv w G bl S next n s s6 s7 o y R L f wr) (fun _ s6 s7 _ => 2000 - lenV s6 - lenV s7)
    case atStart => exact ⟨n, _, _, _, _, _, rfl, HN2.out, HS0.out⟩
    case round =>
      obtain ⟨s, o, y, R, L, f, rfl, hs9, hS⟩ := hrel
      obtain ⟨hol, hyl, hRl⟩ := hS.small Hlen.out
      by_cases hs0 : 0 < s
      · obtain ⟨a6, c6, e6⟩ := wts_slice hS.ro
        obtain ⟨a7, c7, e7⟩ := wts_slice hS.rs
        subst e6; subst e7
        obtain ⟨bh, bm, GH, g1, g2, g3, g4, g5⟩ := id hS.lst.ex
        have c0 := (cell_of g1 0).trans (show _ = some (Value.pointer (some ⟨bh, 0, none⟩)) from rfl)
        have c1 := (cell_of g1 1).trans (show _ = some (Value.map (some bm)) from rfl)
        cases R with
        | nil =>
          have hL0 : L = [] := by have := hS.pm.length_eq; simp at this; exact this
          have HP := Lib.hid (fun (h : HpW GH bh [] next wr) => pop_none less_ok h)
          have HS := Lib.hid hS; have G2 := Lib.hid (hL0 ▸ g2)
          have Hol := Lib.hid hol; have Hyl := Lib.hid hyl
          clear hS g1 g2 g3 g4 g5 hol hyl hRl hL0 c1
          go_wp2_with fail
          refine (HP.out G2.out).mono ?_
          rintro e w3 ⟨rfl, f3⟩
          have F3 := Lib.hid f3
          clear f3
          go_wp2_with fail
          go_meet
          have H0 := HS.out
          exact ⟨o, y, [], L, f, Srv.keep (w := w) ⟨by rw [H0.eq]; rfl, H0.lst, H0.pm, H0.od, H0.ro, H0.rs, H0.oo, H0.os, H0.ne, H0.here, H0.gone, H0.all, by omega, H0.fr⟩ (Fr.alloc F3.out _)⟩
        | cons x R =>
          obtain ⟨hl0, hroot⟩ := root_least hS.lst.he hS.pm hS.od
          have HP := pop_some less_ok g2 hl0
          rw [hroot] at HP
          have HP := Lib.hid HP
          have okx : okW x := by
            have : (itAt L 0).1 = x := hroot
            rw [← this]; exact hS.lst.ok _ (itAt_mem hl0)
          obtain ⟨_, _, ok3, ok4, _⟩ := okx
          have hsub := Lib.hid (show ∀ z ∈ takeF ltW L 0, z ∈ L from fun z hz => (perm_take ltW hl0).mem_iff.1 (by simp [hz]))
          have HS := Lib.hid hS; have G1 := Lib.hid g1; have G3 := Lib.hid g3; have G4 := Lib.hid g4; have G5 := Lib.hid g5
          have Hol := Lib.hid hol; have Hyl := Lib.hid hyl; have Hs9 := Lib.hid hs9; have Hs0 := Lib.hid hs0
          have lbl := lt_of_block g1
          have nbl : ¬ (False ∨ GH bl) := by rintro (h | h); exact h; exact (g5 _ h).2.1 rfl
          clear hS g1 g2 g3 g4 g5 hol hyl hRl hl0 hroot
          go_wp2_with fail
          refine HP.out.mono ?_
          rintro e w3 ⟨rfl, hH3, hf3⟩
          obtain ⟨l3, p3⟩ := Srv.popped HS.out.lst HS.out.pm HS.out.od G1.out G3.out G4.out G5.out hH3 hf3
          have fA : Fr (fun _ => False) w3 (w3.alloc (.cells #[.int .u32 (wW x), .int .i64 (wS x), .int .i64 (wT x), .int .i64 (wC x)] 32)) := Fr.alloc (Fr.refl _ _) _
          have gb : (w3.alloc (.cells #[.int .u32 (wW x), .int .i64 (wS x), .int .i64 (wT x), .int .i64 (wC x)] 32)).heap[w3.heap.size]? = some (.cells #[.int .u32 (wW x), .int .i64 (wS x), .int .i64 (wT x), .int .i64 (wC x)] 32 (0, 0)) := heap_alloc_at _ _
          have fW := (hf3.mono (G := G) (fun b _ h => Or.elim h False.elim (fun h => (G5.out b h).1))).trans fA (fun _ _ h => h.elim)
          have ro' := Row.fr HS.out.ro fW (fun b hb e => by have := HGw.out b e; have := HS.out.oo b hb; omega)
          have rs' := Row.fr HS.out.rs fW (fun b hb e => by have := HGw.out b e; have := HS.out.os b hb; omega)
          have Hbx0 := Lib.hid (show wr.heap.size ≤ w3.heap.size from hf3.size)
          replace l3 := l3.fr fA (fun _ _ h => h)
          have k1 := (fA.cell (Nat.lt_of_lt_of_le lbl hf3.size) (fun h => h)).trans ((hf3.cell lbl nbl).trans c1)
          have L3 := Lib.hid l3; have P3 := Lib.hid p3; have FW := Lib.hid fW; have RO := Lib.hid ro'; have RS := Lib.hid rs'
          clear c0 c1 hH3 hf3 l3 p3 fW ro' rs' fA
          go_upto_region 9 with fail
          generalize (w3.alloc (.cells #[.int .u32 (wW x), .int .i64 (wS x), .int .i64 (wT x), .int .i64 (wC x)] 32)) = W at *
          have hbx : wr.heap.size ≤ w3.heap.size := by have := Hbx0.out; exact this
          generalize w3.heap.size = bx at *
          have Hbx := Lib.hid hbx
          clear hbx
          obtain ⟨x0, x1, x2, x3⟩ := boxW_cells gb
          by_cases hfit : wS x ≤ s
          · have hd : decide (s < wS x) = false := by simp; omega
            obtain ⟨a8, c8, W2, hrun, r2, f2, o2⟩ := Wts.app RO.out (by have := Hol.out; omega) x
            have hw1 : wrap64 (s - wS x) = s - wS x := by unfold wrap64; have := Hs9.out; omega
            have hw2 : IntKind.i64.wrap (s - wS x) = s - wS x := by rw [IntKind.wrap_i64]; have := Hs9.out; omega
            have lbW : bl < W.heap.size := Nat.lt_of_lt_of_le lbl FW.out.size
            have lxW := lt_of_block gb
            have nbO : ∀ b, G b → ¬ (Value.slice a6 o.length c6).ownBlock = some b := fun b hb e => by have := HS.out.oo _ e; have := HGw.out _ hb; omega
            have nbxO : ¬ (Value.slice a6 o.length c6).ownBlock = some bx := fun e => by
              have := Row.lt HS.out.ro e
              have := Hbx.out
              omega
            have k2 := (f2.cell (o := 1) (s := none) lbW (nbO _ L3.out.gl)).trans k1
            have kx := (f2.cell (o := 0) (s := none) lxW nbxO).trans x0
            obtain ⟨hmW, hGm⟩ := LstF.mapAt L3.out k1
            replace hmW := hmW.fr f2 (nbO _ hGm)
            obtain ⟨es, c, hrunD, hM1⟩ := run_deleteU (P := Try.prog) Try.underlying80 Try.underlying30 (w := W2.drew) (UMap.fr (F := fun _ => False) hmW (Fr.drew (Fr.refl (fun _ => False) _)) (fun h => h)) (wW x) #[80, 30] rfl 0
            have hcm : ∀ a, (setMap W2.drew bm es c).cell? a = W2.cell? a := by
              obtain ⟨l, c0, hb, _⟩ := hmW; exact fun a => setMap_cell (w := W2.drew) hb es c a
            have fm : Fr (fun b => b = bm) W2 (setMap W2.drew bm es c) := Fr.setMap (F := fun b => b = bm) (b := bm) (Fr.drew (Fr.refl _ _)) (fun _ => rfl) _ _
            have L4 := Lib.hid (LstF.deleted L3.out k1 f2 nbO fm hM1)
            have Hrun := Lib.hid hrun; have R2 := Lib.hid r2; have F2 := Lib.hid f2; have O2 := Lib.hid o2; have Hfit := Lib.hid hfit; have Fm := Lib.hid fm; have HGm := Lib.hid hGm
            clear hrun r2 f2 o2 gb hM1 hmW hfit lbW lxW nbO nbxO fm hGm
            go_upto_region 13 with (at_builtin; refine wpList_append_run rfl _ _ 26 rfl rfl rfl Hrun.out ?_)
            clear k1 x0 x1 x2 x3
            go_region_held3 (fun w' => w'.cell? ⟨bl, 1, none⟩ = some (.map (some bm)) ∧ w'.cell? ⟨bx, 0, none⟩ = some (.int .u32 (wW x))) (go_keep) ((rw [if_pos rfl]; refine wp_delete_run rfl rfl rfl hrunD ?_))
            go_wp2_with fail
            go_roundw
            case rel => exact ⟨s - wS x, o ++ [x], y, R, takeF ltW L 0, _, rfl, by have := Hs9.out; omega, Srv.got HS.out HGw.out Hlone.out Hfit.out L4.out P3.out hsub.out FW.out RS.out R2.out F2.out O2.out (Fm.out.mono (fun b _ e => e ▸ HGm.out))⟩
            case measure => have := Hol.out; have := Hyl.out; simp [lenV]; omega
          · have hd : s < wS x := by omega
            obtain ⟨a8, c8, W2, hrun, r2, f2, o2⟩ := Wts.app RS.out (by have := Hyl.out; omega) x
            have Hrun := Lib.hid hrun; have R2 := Lib.hid r2; have F2 := Lib.hid f2; have O2 := Lib.hid o2
            have Hd := Lib.hid hd
            clear hrun r2 f2 o2 gb k1
            go_wp2_with (at_builtin; refine wpList_append_run rfl _ _ 26 rfl rfl rfl Hrun.out ?_)
            go_roundw
            case rel => exact ⟨s, o, y ++ [x], R, takeF ltW L 0, f, rfl, Hs9.out, Srv.stayed HS.out HGw.out Hd.out L3.out P3.out hsub.out FW.out RO.out R2.out F2.out O2.out⟩
            case measure => have := Hol.out; have := Hyl.out; simp [lenV]; omega
      · obtain rfl : s = 0 := by have := hS.nn; omega
        have HS := Lib.hid hS
        clear hS hol hyl hRl hs0 hs9
        go_wp2_with fail
        go_meet
        exact ⟨_, _, _, _, _, HS.out⟩
  case rest =>
    obtain ⟨o, y, R, L, f, hS⟩ := hcut
    obtain ⟨hol, hyl, hRl⟩ := hS.small Hlen.out
    obtain ⟨a6, c6, e6⟩ := wts_slice hS.ro
    obtain ⟨a7, c7, e7⟩ := wts_slice hS.rs
    subst e6; subst e7
    have hall := hS.all.length_eq
    have hokR : ∀ z ∈ R, okW z := fun z hz => Hok.out z (hS.all.mem_iff.1 (by simp [hz]))
    have hoky : ∀ z ∈ y, okW z := fun z hz => Hok.out z (hS.all.mem_iff.1 (by simp [hz]))
    have hEq : serveF n S = (o, y ++ R) := by
      rw [hS.eq, serveF_le (Int.le_refl 0) hokR]; simp
    have hOrd : Ord (y ++ R) := by
      have := Hord.out.sublist (serveF_sub2 n S)
      rw [hEq] at this; exact this
    have hLn : Lone (R ++ y) := by
      have := lone_perm hS.all.symm Hlone.out
      exact lone_perm List.perm_append_comm (this.sublist (List.sublist_append_right o _))
    have hB : Bck w G bl next (.slice a6 o.length c6) (.slice a7 y.length c7) o y R 0 G next L f wc := by
      refine ⟨hS.lst, by simpa using hS.pm, hS.here, hS.gone, hS.ro, hS.rs, fun b hb hg => ?_, fun b hb hg => ?_, hS.fr, fun b hb => .inl hb, by simp⟩
      · have := hS.oo b hb; have := HGw.out b hg; omega
      · have := hS.os b hb; have := HGw.out b hg; omega
    have HB := Lib.hid hB; have HEq := Lib.hid hEq; have HOrd := Lib.hid hOrd; have HLn := Lib.hid hLn; have Hoky := Lib.hid hoky; have Hyl := Lib.hid hyl
    have Hsum := Lib.hid (show R.length + y.length ≤ 1024 by have := Hlen.out; simp at hall; omega)
    have HOO := Lib.hid hS.oo
    obtain ⟨m, hm⟩ : ∃ m, m = y.length := ⟨_, rfl⟩
    rw [← hm] at HB ⊢
    have Hm := Lib.hid hm
    clear hB hEq hOrd hLn hoky hokR hol hyl hRl hall hS hm
    go_upto_block 3 with fail
    go_cut [57] (fun _ wx => ∃ G' n' L f, Bck w G bl next (.slice a6 o.length c6) (.slice a7 m c7) o y R m G' n' L f wx)
    case first =>
      go_wp2_with fail
      go_loopw [57] (fun s57 wr => ∃ (k : Nat) (G' : Nat → Prop) (n' : Int) (L : List It) (f : Int → Option Int), s57 = .int .i64 k ∧ k ≤ m ∧ Bck w G bl next (.slice a6 o.length c6) (.slice a7 m c7) o y R k G' n' L f wr) (fun s57 _ => m - (intOf s57).toNat)
      case atStart => exact ⟨0, G, next, L, f, rfl, Nat.zero_le _, HB.out⟩
      case round =>
        obtain ⟨k, G', n', L, f, rfl, hk, hB⟩ := hrel
        by_cases hlt : k < m
        · have hlt' : (k : Int) < (m : Int) := by omega
          have k0 : (0 : Int) ≤ (k : Int) := by omega
          have hky : k < y.length := by rw [← Hm.out]; exact hlt
          obtain ⟨g, cap, e, d0, d1, d2, d3⟩ := hB.rs.cells hky
          simp only [Value.slice.injEq] at e
          obtain ⟨rfl, -, rfl⟩ := e
          obtain ⟨x, hx⟩ : ∃ x, x = y.getD k 0 := ⟨_, rfl⟩
          rw [← hx] at d0 d1 d2 d3
          have hxy : x ∈ y := by rw [hx]; simp [hky]
          have hne : ∀ z ∈ L, wW z.1 ≠ wW x := by
            intro z hz e
            have h1 : z.1 ∈ R ++ y.take k := hB.pm.mem_iff.1 (List.mem_map.2 ⟨z, hz, rfl⟩)
            have h2 : Lone (R ++ y.take k ++ [x]) := by
              rw [List.append_assoc, hx, take_snocS hky]
              exact HLn.out.sublist (List.Sublist.append_left (List.take_sublist _ _) R)
            exact (List.pairwise_append.1 h2).2.2 z.1 h1 x (by simp) e
          have hLk : L.length < 1024 := by
            have := hB.pm.length_eq
            simp at this
            have := Hsum.out
            omega
          have hn' : n' < 1000000000 := by have := hB.nx; have := Hx.out; have := Hyl.out; omega
          have fA : Fr (fun _ => False) wr (wr.alloc (.cells #[.int .u32 (wW x), .int .i64 (wS x), .int .i64 (wT x), .int .i64 (wC x)] 32)) := Fr.alloc (Fr.refl _ _) _
          have gb : (wr.alloc (.cells #[.int .u32 (wW x), .int .i64 (wS x), .int .i64 (wT x), .int .i64 (wC x)] 32)).heap[wr.heap.size]? = some (.cells #[.int .u32 (wW x), .int .i64 (wS x), .int .i64 (wT x), .int .i64 (wC x)] 32 (0, 0)) := heap_alloc_at _ _
          have hBa := hB.keep fA
          have HP := Lib.hid (push_ok hBa.lst (Hoky.out x hxy) hLk hne hn')
          obtain ⟨k1, hk1⟩ : ∃ k1, k1 = k + 1 := ⟨_, rfl⟩
          have e1 : (k : Int) + 1 = (k1 : Int) := by omega
          have e2 : wrap64 (k1 : Int) = (k1 : Int) := by unfold wrap64; have := Hsum.out; have := Hyl.out; omega
          have e3 : IntKind.i64.wrap (k1 : Int) = (k1 : Int) := by rw [IntKind.wrap_i64]; have := Hsum.out; have := Hyl.out; omega
          have HBa := Lib.hid hBa; have HX := Lib.hid hx; have Hne := Lib.hid hne; have HK1 := Lib.hid hk1; have Hlt := Lib.hid hlt; have Hky := Lib.hid hky
          clear hB hBa fA hxy hne hLk hn' hk1 hlt hky hk hx
          go_upto_region 17 with fail
          clear d0 d1 d2 d3
          generalize (wr.alloc (.cells #[.int .u32 (wW x), .int .i64 (wS x), .int .i64 (wT x), .int .i64 (wC x)] 32)) = W at *
          generalize wr.heap.size = bx at *
          obtain ⟨x0, x1, x2, x3⟩ := boxW_cells gb
          clear gb
          go_wp2_with fail
          refine HP.out.mono ?_
          rintro e w5 ⟨rfl, G2, L2, l2, p2, f2, g2⟩
          have HB2 := Lib.hid (HBa.out.step Hky.out HX.out Hne.out l2 p2 f2 g2)
          clear l2 p2 f2 g2 x0 x1 x2 x3
          go_wp2_with fail
          go_roundw
          case rel => exact ⟨k1, G2, n' + 1, L2, _, rfl, by have := HK1.out; have := Hlt.out; omega, by rw [HK1.out]; exact HB2.out⟩
          case measure => have := HK1.out; have := Hlt.out; simp [intOf]; omega
        · obtain rfl : k = m := by omega
          clear hlt hk
          have HBe := Lib.hid hB
          clear hB
          go_wp2_with fail
          go_meet
          exact ⟨G', n', L, f, HBe.out⟩
    case rest =>
      obtain ⟨G', n', L, f, hB⟩ := hcut
      have HBe := Lib.hid hB
      clear hB
      go_wp2_with fail
      go_ret2
      have hB := HBe.out
      refine ⟨_, rfl, by rw [HEq.out]; exact hB.ro, HOO.out, G', n', ?_, ?_, hB.fr, hB.gr, hB.no⟩
      · rw [HEq.out]
        have hB' := hB
        rw [Hm.out] at hB'
        exact hB'.done HOrd.out
      · have := hB.nx; have := Hyl.out; have := Hm.out; omega
end
end Go.Proofs.Ytjfnaflbhmeokaa.Wt
