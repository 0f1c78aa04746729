/- A list of waiting parties in memory; New, made, Len, may, push. No condition. -/
import Derived.Test.YtjfnaflbhmeokaaWtC
import Derived.Test.YtjfnaflbhmeokaaMapU
import Derived.Test.YtjfnaflbhmeokaaKeepB
namespace Go.Proofs.Ytjfnaflbhmeokaa.Wt
open Go.RowKit
abbrev fvW : Value := .func (.func 31) #[] #[]
set_option maxRecDepth 100000 in
theorem less_call (x y : Int) (w : World) : Calls Try.prog 31 #[wtV x, wtV y] w fun e w' => e = .returned (.bool (ltW x y)) ∧ True ∧ Fr (fun _ => False) w w' := by
  have f0 : Fr (fun _ => False) w ((w.alloc (.cells #[.int .u32 (wW x), .int .i64 (wS x), .int .i64 (wT x), .int .i64 (wC x)] 32)).alloc (.cells #[.int .u32 (wW y), .int .i64 (wS y), .int .i64 (wT y), .int .i64 (wC y)] 32)) := Fr.alloc (Fr.alloc (Fr.refl _ _) _) _
  have g2 : ((w.alloc (.cells #[.int .u32 (wW x), .int .i64 (wS x), .int .i64 (wT x), .int .i64 (wC x)] 32)).alloc (.cells #[.int .u32 (wW y), .int .i64 (wS y), .int .i64 (wT y), .int .i64 (wC y)] 32)).heap[w.heap.size]? = some (.cells #[.int .u32 (wW x), .int .i64 (wS x), .int .i64 (wT x), .int .i64 (wC x)] 32 (0, 0)) := by simp only [heap_alloc_get, World.size_alloc]; simp
  have g3 : ((w.alloc (.cells #[.int .u32 (wW x), .int .i64 (wS x), .int .i64 (wT x), .int .i64 (wC x)] 32)).alloc (.cells #[.int .u32 (wW y), .int .i64 (wS y), .int .i64 (wT y), .int .i64 (wC y)] 32)).heap[w.heap.size + 1]? = some (.cells #[.int .u32 (wW y), .int .i64 (wS y), .int .i64 (wT y), .int .i64 (wC y)] 32 (0, 0)) := by simp only [heap_alloc_get, World.size_alloc]; simp
  have a0 := (cell_of g2 0).trans (show _ = some (Value.int .u32 (wW x)) from rfl)
  have a1 := (cell_of g2 1).trans (show _ = some (Value.int .i64 (wS x)) from rfl)
  have a2 := (cell_of g2 2).trans (show _ = some (Value.int .i64 (wT x)) from rfl)
  have a3 := (cell_of g2 3).trans (show _ = some (Value.int .i64 (wC x)) from rfl)
  have d0 := (cell_of g3 0).trans (show _ = some (Value.int .u32 (wW y)) from rfl)
  have d1 := (cell_of g3 1).trans (show _ = some (Value.int .i64 (wS y)) from rfl)
  have d2 := (cell_of g3 2).trans (show _ = some (Value.int .i64 (wT y)) from rfl)
  have d3 := (cell_of g3 3).trans (show _ = some (Value.int .i64 (wC y)) from rfl)
  have F0 := Lib.hid f0
  clear g2 g3 f0
  go_enter Try.func31, Try.ntmps31
  go_upto_region 1 with fail
  generalize ((w.alloc (.cells #[.int .u32 (wW x), .int .i64 (wS x), .int .i64 (wT x), .int .i64 (wC x)] 32)).alloc (.cells #[.int .u32 (wW y), .int .i64 (wS y), .int .i64 (wT y), .int .i64 (wC y)] 32)) = W at *
  go_wp2_with fail
  refine (order_ok x y _).mono ?_
  rintro e w1 ⟨rfl, hg⟩
  have f1 := Fr.grown (F := fun _ => False) hg
  clear hg
  go_wp2_with fail
  go_ret
  exact ⟨rfl, trivial, F0.out.trans f1 (fun _ _ h => h)⟩
theorem less_ok : LessOk Try.prog fvW ltW (fun _ => True) (fun _ => False) (fun _ => True) 31 #[] where
  eq := rfl
  enter := enters_of Try.func31 (by kernel_rfl) rfl
  call := fun w x y _ _ _ => less_call x y w
  keep := fun _ _ _ _ => trivial
  bound := fun _ _ _ h => h.elim
abbrev HpW := HeapIs (fun _ => True) (fun _ => False) (fun _ => True) fvW
theorem HpW.fr {G F : Nat → Prop} {bh : Nat} {L : List It} {next : Int} {w w' : World} (h : HpW G bh L next w) (f : Fr F w w') (hn : ∀ b, G b → ¬ F b) : HpW G bh L next w' := HeapIs.fr h f trivial hn
/-- The list in block bl: its heap's items, its map f. -/
structure LstF (G : Nat → Prop) (bl : Nat) (L : List It) (next : Int) (f : Int → Option Int) (w : World) : Prop where
  ex : ∃ bh bm GH, w.heap[bl]? = some (.cells #[.pointer (some ⟨bh, 0, none⟩), .map (some bm)] 82 (0, 0)) ∧ HpW GH bh L next w ∧ UMap w bm f ∧ G bm ∧ (∀ b, GH b → G b ∧ b ≠ bl ∧ b ≠ bm)
  gl : G bl
  bd : ∀ b, G b → b < w.heap.size
  he : Heaped ltW L
  ok : ∀ x ∈ L, okW x.1
  few : L.length ≤ 1024
  lone : Lone (L.map Prod.fst)
/-- The map has each party's handle. -/
structure AtOf (f : Int → Option Int) (L : List It) : Prop where
  here : ∀ x ∈ L, f (wW x.1) = some x.2
  gone : ∀ who, (∀ x ∈ L, wW x.1 ≠ who) → f who = none
/-- The list in block bl has the parties S, in their order. -/
def StAt (G : Nat → Prop) (bl : Nat) (S : List Int) (next : Int) (w : World) : Prop := ∃ L f, LstF G bl L next f w ∧ AtOf f L ∧ (L.map Prod.fst).Perm S ∧ Ord S
section
variable {G : Nat → Prop} {bl : Nat} {L : List It} {S : List Int} {next : Int} {f : Int → Option Int} {w : World}
theorem LstF.fr (h : LstF G bl L next f w) {F : Nat → Prop} {w' : World} (hf : Fr F w w') (hn : ∀ b, G b → ¬ F b) : LstF G bl L next f w' := by
  obtain ⟨bh, bm, GH, h1, h2, h3, h4, h5⟩ := h.ex
  exact ⟨⟨bh, bm, GH, hf.get h1 (hn _ h.gl), h2.fr hf (fun b hb => hn b (h5 b hb).1), h3.fr hf (hn _ h4), h4, h5⟩, h.gl, fun b hb => Nat.lt_of_lt_of_le (h.bd b hb) hf.size, h.he, h.ok, h.few, h.lone⟩
theorem StAt.fr (h : StAt G bl S next w) {F : Nat → Prop} {w' : World} (hf : Fr F w w') (hn : ∀ b, G b → ¬ F b) : StAt G bl S next w' := by
  obtain ⟨L, f, h1, h2⟩ := h
  exact ⟨L, f, h1.fr hf hn, h2⟩
theorem StAt.keep (h : StAt G bl S next w) {w' : World} (hf : Fr (fun _ => False) w w') : StAt G bl S next w' := h.fr hf (fun _ _ h => h)
theorem StAt.len (h : StAt G bl S next w) : S.length ≤ 1024 := by
  obtain ⟨L, f, h1, _, h2, _⟩ := h
  rw [← h2.length_eq, List.length_map]; exact h1.few
theorem StAt.ord (h : StAt G bl S next w) : Ord S := by obtain ⟨L, f, _, _, _, h⟩ := h; exact h
theorem StAt.ok (h : StAt G bl S next w) : ∀ x ∈ S, okW x := by
  obtain ⟨L, f, h1, _, h2, _⟩ := h
  intro x hx
  obtain ⟨y, hy, rfl⟩ := List.mem_map.1 (h2.mem_iff.2 hx)
  exact h1.ok y hy
theorem StAt.lone (h : StAt G bl S next w) : Lone S := by
  obtain ⟨L, f, h1, _, h2, _⟩ := h
  exact lone_perm h2 h1.lone
theorem StAt.bd (h : StAt G bl S next w) : ∀ b, G b → b < w.heap.size := by obtain ⟨L, f, h1, _⟩ := h; exact h1.bd
/-- A pointer at no list: nil, or at one that nobody made. -/
def NoList (w : World) (p : Option Addr) : Prop := p = none ∨ ∃ b v, p = some ⟨b, 0, none⟩ ∧ w.heap[b]? = some (.cells #[.pointer none, v] 82 (0, 0))
theorem NoList.fr {p : Option Addr} (h : NoList w p) {w' : World} (hf : Fr (fun _ => False) w w') : NoList w' p := by
  rcases h with rfl | ⟨b, v, rfl, h⟩
  · exact .inl rfl
  · exact .inr ⟨b, v, rfl, hf.get h (fun h => h)⟩
set_option maxRecDepth 100000 in
theorem made_ok {bh bm : Nat} (h : w.heap[bl]? = some (.cells #[.pointer (some ⟨bh, 0, none⟩), .map (some bm)] 82 (0, 0))) : Calls Try.prog 44 #[.pointer (some ⟨bl, 0, none⟩)] w fun e w' => e = .returned (.bool true) ∧ w = w' := by
  have c0 := (cell_of h 0).trans (show _ = some (Value.pointer (some ⟨bh, 0, none⟩)) from rfl)
  clear h
  go_enter Try.func44, Try.ntmps44
  go_wp2_with fail
  go_ret
  exact ⟨rfl, rfl⟩
set_option maxRecDepth 100000 in
theorem made_no {p : Option Addr} (h : NoList w p) : Calls Try.prog 44 #[.pointer p] w fun e w' => e = .returned (.bool false) ∧ w = w' := by
  rcases h with rfl | ⟨b, v, rfl, h⟩
  · go_enter Try.func44, Try.ntmps44
    go_wp2_with fail
    go_ret
    exact ⟨rfl, rfl⟩
  · have c0 := (cell_of h 0).trans (show _ = some (Value.pointer none) from rfl)
    clear h
    go_enter Try.func44, Try.ntmps44
    go_wp2_with fail
    go_ret
    exact ⟨rfl, rfl⟩
set_option maxRecDepth 100000 in
theorem lenF_ok (h : LstF G bl L next f w) : Calls Try.prog 10 #[.pointer (some ⟨bl, 0, none⟩)] w fun e w' => e = .returned (.int .i64 L.length) ∧ w = w' := by
  obtain ⟨bh, bm, GH, h1, h2, h3, h4, h5⟩ := h.ex
  have c0 := (cell_of h1 0).trans (show _ = some (Value.pointer (some ⟨bh, 0, none⟩)) from rfl)
  have HM := Lib.hid (made_ok h1)
  have HH := Lib.hid (len_ok less_ok h2)
  clear h h1 h2 h3 h4 h5
  go_enter Try.func10, Try.ntmps10
  go_wp2_with fail
  refine HM.out.mono ?_
  rintro e w1 ⟨rfl, rfl⟩
  go_wp2_with fail
  refine HH.out.mono ?_
  rintro e w1 ⟨rfl, rfl⟩
  go_wp2_with fail
  go_ret
  exact ⟨rfl, rfl⟩
theorem length_ok (h : StAt G bl S next w) : Calls Try.prog 10 #[.pointer (some ⟨bl, 0, none⟩)] w fun e w' => e = .returned (.int .i64 S.length) ∧ w = w' := by
  obtain ⟨L, f, h1, _, h2, _⟩ := h
  have e : S.length = L.length := by rw [← h2.length_eq, List.length_map]
  rw [e]
  exact lenF_ok h1
set_option maxRecDepth 100000 in
theorem length_no {p : Option Addr} (h : NoList w p) : Calls Try.prog 10 #[.pointer p] w fun e w' => e = .returned (.int .i64 0) ∧ w = w' := by
  have HM := Lib.hid (made_no h)
  clear h
  go_enter Try.func10, Try.ntmps10
  go_wp2_with fail
  refine HM.out.mono ?_
  rintro e w1 ⟨rfl, rfl⟩
  go_wp2_with fail
  go_ret
  exact ⟨rfl, rfl⟩
end
set_option maxRecDepth 100000 in
theorem newL_ok (w : World) : Calls Try.prog 8 #[] w fun e w' => ∃ bl G, e = .returned (.pointer (some ⟨bl, 0, none⟩)) ∧ StAt G bl [] 0 w' ∧ (∀ b, G b → w.heap.size ≤ b) ∧ Fr (fun _ => False) w w' := by
  have hmm := @run_makeMap Try.prog
  go_enter Try.func8, Try.ntmps8
  go_wp2_with fail
  refine (new_ok less_ok trivial).mono ?_
  rintro e w1 ⟨bh, rfl, hb, hf, GH, hH, hG⟩
  have HH := Lib.hid hH; have HG := Lib.hid hG; have Hf := Lib.hid hf; have Hb := Lib.hid hb
  clear hb hf hH hG
  go_wp2_with fail
  go_ret
  have fA : Fr (fun _ => False) w1 ((w1.alloc (.map #[] 0)).alloc (.cells #[.pointer (some ⟨bh, 0, none⟩), .map (some w1.heap.size)] 82)) := Fr.alloc (Fr.alloc (Fr.refl _ _) _) _
  refine ⟨w1.heap.size + 1, fun b => GH b ∨ b = w1.heap.size ∨ b = w1.heap.size + 1, rfl, ⟨[], fun _ => none, ⟨⟨bh, w1.heap.size, GH, ?_, HpW.fr HH.out fA (fun _ _ h => h), ⟨[], 0, ?_, by simp, fun _ => rfl⟩, .inr (.inl rfl), ?_⟩, .inr (.inr rfl), ?_, heaped_nil _, by simp, by simp, List.Pairwise.nil⟩, ⟨by simp, fun _ _ => rfl⟩, List.Perm.refl _, List.Pairwise.nil⟩, ?_, Hf.out.trans fA (fun _ _ h => h)⟩
  · simp only [heap_alloc_get, World.size_alloc]; simp
  · simp only [heap_alloc_get, World.size_alloc]; simp
  · intro b hb
    have := HH.out.bd b hb
    exact ⟨.inl hb, by omega, by omega⟩
  · rintro b (hb | hb | hb)
    · have := HH.out.bd b hb; simp; omega
    · simp; omega
    · simp; omega
  · rintro b (hb | hb | hb)
    · exact HG.out b hb
    · have := Hf.out.size; omega
    · have := Hf.out.size; omega
end Go.Proofs.Ytjfnaflbhmeokaa.Wt
