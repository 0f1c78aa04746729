/- HeapSorts' state in memory. No condition. -/
import Derived.Test.YtfgpmbahekcoeaaThgI
import Derived.Laws.BytesArg
namespace Go.Proofs.Ytfgpmbahekcoeaa.Th
open Go.RowKit
noncomputable def flatV (V : List Int) : List Value := V.flatMap fun x => [.string (tS x), .float .f64 (tW x)]
theorem flatV_length (V : List Int) : (flatV V).length = V.length * 2 := by
  induction V with
  | nil => rfl
  | cons x L ih => simp only [flatV, List.flatMap_cons, List.length_append, List.length_cons, List.length_nil] at ih ⊢; omega
theorem flatV_append (V M : List Int) : flatV (V ++ M) = flatV V ++ flatV M := by simp [flatV]
theorem flatV_get (V : List Int) : ∀ i, i < V.length → (flatV V)[i * 2]? = some (.string (tS (V.getD i 0))) ∧ (flatV V)[i * 2 + 1]? = some (.float .f64 (tW (V.getD i 0))) := by
  induction V with
  | nil => intro i hi; simp at hi
  | cons x L ih =>
    intro i hi
    have e : flatV (x :: L) = .string (tS x) :: .float .f64 (tW x) :: flatV L := rfl
    rw [e]
    cases i with
    | zero => simp
    | succ i =>
      have := ih i (by simpa using hi)
      have e1 : (i + 1) * 2 = i * 2 + 1 + 1 := by omega
      rw [e1]
      simpa using this
abbrev fvS : Value := .func (.func 14) #[] #[]
abbrev HpS := HeapIs (fun _ => True) (fun _ => False) (fun _ => True) fvS
/-- The heap, the row of all things, the row of which are there. -/
structure St (w : World) (bh : Nat) (V : List Int) (T : List Bool) (sa st : Value) (wr : World) : Prop where
  hp : ∃ G L, HpS G bh L (V.length : Int) wr ∧ L.length ≤ V.length ∧ Items V T L ∧ Heaped ltT L ∧ (∀ b, G b → w.heap.size ≤ b) ∧ (∀ b, sa.ownBlock = some b → ¬ G b) ∧ (∀ b, st.ownBlock = some b → ¬ G b)
  ra : Row wr 29 2 sa V.length (flatV V)
  rt : Row wr 4 1 st T.length (T.map Value.bool)
  oa : ∀ b, sa.ownBlock = some b → w.heap.size ≤ b
  ot : ∀ b, st.ownBlock = some b → w.heap.size ≤ b
  ne : ∀ b, sa.ownBlock = some b → st.ownBlock ≠ some b
  fr : Fr (fun b => w.heap.size ≤ b) w wr
theorem HpS.fr {G F : Nat → Prop} {bh : Nat} {L : List It} {next : Int} {w w' : World} (h : HpS G bh L next w) (f : Fr F w w') (hn : ∀ b, G b → ¬ F b) : HpS G bh L next w' := HeapIs.fr h f trivial hn
theorem St.keep {w wr w' : World} {bh : Nat} {V : List Int} {T : List Bool} {sa st : Value} (h : St w bh V T sa st wr) (f : Fr (fun _ => False) wr w') : St w bh V T sa st w' := by
  obtain ⟨G, L, h1, hl, h2, h3, h4, h5, h6⟩ := h.hp
  exact ⟨⟨G, L, HpS.fr h1 f (fun _ _ h => h), hl, h2, h3, h4, h5, h6⟩, Row.fr h.ra f (fun _ _ h => h), Row.fr h.rt f (fun _ _ h => h), h.oa, h.ot, h.ne, h.fr.trans (f.mono (fun _ _ h => h.elim)) (fun _ _ h => h)⟩
theorem St.push {w wr wc w3 W2 W3 : World} {bh : Nat} {V : List Int} {T : List Bool} {sa st : Value} (Hs : St w bh V T sa st wr) (F9 : Fr (fun _ => False) wr wc) {G G3 : Nat → Prop} {L : List It} {xx : Int}
    (hit : Items V T L) (hll : L.length ≤ V.length) (hhp : Heaped ltT L) (hG1 : ∀ b, G b → w.heap.size ≤ b) (hG2 : ∀ b, sa.ownBlock = some b → ¬ G b) (hG3 : ∀ b, st.ownBlock = some b → ¬ G b)
    (H3 : HpS G3 bh (pushF ltT L xx (V.length : Int)) ((V.length : Int) + 1) w3) (F3 : Fr (fun b => False ∨ G b) wc w3) (g3 : Grew wc G G3) {va vt : Value}
    (HRA : Row W2 29 2 va (V.length + 1) (flatV (V ++ [xx]))) (FA : Fr (fun b => sa.ownBlock = some b) w3 W2) (OA : ∀ b, va.ownBlock = some b → sa.ownBlock = some b ∨ w3.heap.size ≤ b)
    (HRT : Row W3 4 1 vt (T.length + 1) ((T ++ [true]).map Value.bool)) (FT : Fr (fun b => st.ownBlock = some b) W2 W3) (OT : ∀ b, vt.ownBlock = some b → st.ownBlock = some b ∨ W2.heap.size ≤ b) :
    St w bh (V ++ [xx]) (T ++ [true]) va vt W3 := by
  have z1 := F9.size; have z2 := F3.size; have z3 := FA.size; have z4 := FT.size; have z0 := Hs.fr.size
  have lsa : ∀ b, sa.ownBlock = some b → b < wr.heap.size := fun b hb => Row.lt Hs.ra hb
  have lst : ∀ b, st.ownBlock = some b → b < wr.heap.size := fun b hb => Row.lt Hs.rt hb
  have nA : ∀ b, sa.ownBlock = some b → ¬ G3 b := fun b hb h => by
    rcases g3 b h with h | h
    · exact hG2 b hb h
    · have := lsa b hb; omega
  have nT : ∀ b, st.ownBlock = some b → ¬ G3 b := fun b hb h => by
    rcases g3 b h with h | h
    · exact hG3 b hb h
    · have := lst b hb; omega
  have hbd := H3.bd
  have hG3w : ∀ b, G3 b → w.heap.size ≤ b := fun b h => by
    rcases g3 b h with h | h
    · exact hG1 b h
    · omega
  have hpl : (pushF ltT L xx (V.length : Int)).length = L.length + 1 := by
    unfold pushF; rw [settleF_length ltT (by simp)]; simp
  refine ⟨⟨G3, pushF ltT L xx (V.length : Int), ?_, ?_, hit.push xx, push_heaped ltT_swo hhp _, hG3w, ?_, ?_⟩, ?_, ?_, ?_, ?_, ?_, ?_⟩
  · have := HpS.fr (HpS.fr H3 FA (fun b h e => nA b e h)) FT (fun b h e => nT b e h)
    simpa using this
  · rw [hpl]; simp; exact hll
  · intro b hb h
    rcases OA b hb with h1 | h1
    · exact nA b h1 h
    · have := hbd b h; omega
  · intro b hb h
    rcases OT b hb with h1 | h1
    · exact nT b h1 h
    · have := hbd b h; omega
  · have := Row.fr HRA FT (fun b hb e => by
      rcases OA b hb with h1 | h1
      · exact Hs.ne b h1 e
      · have := lst b e; omega)
    simpa using this
  · simpa using HRT
  · intro b hb
    rcases OA b hb with h1 | h1
    · exact Hs.oa b h1
    · omega
  · intro b hb
    rcases OT b hb with h1 | h1
    · exact Hs.ot b h1
    · omega
  · intro b hb e
    rcases OT b e with h1 | h1
    · rcases OA b hb with h2 | h2
      · exact Hs.ne b h2 h1
      · have := lst b h1; omega
    · have := Row.lt HRA hb; omega
  · refine (((Hs.fr.trans F9 (fun _ _ h => h.elim)).trans F3 (fun b _ h => h.elim (fun h => h.elim) (hG1 b))).trans FA (fun b _ h => Hs.oa b h)).trans FT (fun b _ h => Hs.ot b h)
theorem Try.infoThg : (Try.prog.info? 29).map (fun i => (i.zero, i.size, i.bytes)) = some (some (.agg #[.string ⟨#[]⟩, .float .f64 0]), 2, 24) := by kernel_rfl
theorem Try.infoBool : (Try.prog.info? 4).map (fun i => (i.zero, i.size, i.bytes)) = some (some (.bool false), 1, 1) := by kernel_rfl
theorem app_thing {W : World} {sa : Value} {V : List Int} (h : Row W 29 2 sa V.length (flatV V)) (x : Int) (hV : V.length ≤ 400) :
    ∃ a c W2, (Builtin.append_ #[31, 31] 31 #[sa, .slice (some ⟨W.heap.size, 0, none⟩) 1 1]).run Try.prog (W.alloc (.cells #[.string (tS x), .float .f64 (tW x)] 29)) = .ok (.slice a (V.length + 1) c) W2 ∧
      Row W2 29 2 (.slice a (V.length + 1) c) (V.length + 1) (flatV (V ++ [x])) ∧ Fr (fun b => sa.ownBlock = some b) W W2 ∧ (∀ b, (Value.slice a (V.length + 1) c).ownBlock = some b → sa.ownBlock = some b ∨ W.heap.size ≤ b) := by
  obtain ⟨i0, hi, hz0, hz1, hz2⟩ := info_parts Try.infoThg
  have f0 : Fr (fun _ => False) W (W.alloc (.cells #[.string (tS x), .float .f64 (tW x)] 29)) := Fr.alloc (Fr.refl _ _) _
  obtain ⟨v', w3, hrun, hR3, hf3, ho3⟩ := run_append_fr (P := Try.prog) _ 31 31 29 i0 _ 2 24 Try.underlying31 hi hz0 hz1 hz2 rfl (by decide) _ _ _ (Row.fr h f0 (fun _ _ h => h)) ⟨W.heap.size, 0, none⟩ 1 1 [.string (tS x), .float .f64 (tW x)] rfl
    (by intro j u hu; match j, hu with
        | 0, hu => simp at hu; subst hu; simp [Addr.add, World.cell?_alloc_at]
        | 1, hu => simp at hu; subst hu; simp [Addr.add, World.cell?_alloc_at])
    (by intro u hu; simp at hu; rcases hu with rfl | rfl <;> rfl) (by unfold maxLen; omega) (by omega)
  obtain ⟨a', c', hv'⟩ : ∃ a' c', v' = .slice a' (V.length + 1) c' := by
    rcases hR3.2 with ⟨rfl, h0⟩ | ⟨g, cap, cur, rfl, _⟩
    · exact ⟨none, 0, by rw [h0]⟩
    · exact ⟨_, _, rfl⟩
  subst hv'
  refine ⟨a', c', w3, hrun, by rw [flatV_append]; exact hR3, (f0.mono (fun _ _ h => h.elim)).trans hf3 (fun _ _ h => h), ?_⟩
  intro b hb
  rcases ho3 with h | h
  · rw [h] at hb; exact .inl hb
  · rw [h] at hb; simp at hb; right; omega
theorem app_bool {W : World} {st : Value} {T : List Bool} (h : Row W 4 1 st T.length (T.map Value.bool)) (x : Bool) (hV : T.length ≤ 400) :
    ∃ a c W2, (Builtin.append_ #[32, 32] 32 #[st, .slice (some ⟨W.heap.size, 0, none⟩) 1 1]).run Try.prog (W.alloc (.cells #[.bool x] 4)) = .ok (.slice a (T.length + 1) c) W2 ∧
      Row W2 4 1 (.slice a (T.length + 1) c) (T.length + 1) ((T ++ [x]).map Value.bool) ∧ Fr (fun b => st.ownBlock = some b) W W2 ∧ (∀ b, (Value.slice a (T.length + 1) c).ownBlock = some b → st.ownBlock = some b ∨ W.heap.size ≤ b) := by
  obtain ⟨i0, hi, hz0, hz1, hz2⟩ := info_parts Try.infoBool
  have f0 : Fr (fun _ => False) W (W.alloc (.cells #[.bool x] 4)) := Fr.alloc (Fr.refl _ _) _
  obtain ⟨v', w3, hrun, hR3, hf3, ho3⟩ := run_append_fr (P := Try.prog) _ 32 32 4 i0 _ 1 1 Try.underlying32 hi hz0 hz1 hz2 rfl (by decide) _ _ _ (Row.fr h f0 (fun _ _ h => h)) ⟨W.heap.size, 0, none⟩ 1 1 [.bool x] rfl
    (by intro j u hu; match j, hu with
        | 0, hu => simp at hu; subst hu; simp [Addr.add, World.cell?_alloc_at])
    (by intro u hu; simp at hu; subst hu; rfl) (by unfold maxLen; omega) (by omega)
  obtain ⟨a', c', hv'⟩ : ∃ a' c', v' = .slice a' (T.length + 1) c' := by
    rcases hR3.2 with ⟨rfl, h0⟩ | ⟨g, cap, cur, rfl, _⟩
    · exact ⟨none, 0, by rw [h0]⟩
    · exact ⟨_, _, rfl⟩
  subst hv'
  refine ⟨a', c', w3, hrun, by rw [List.map_append]; exact hR3, (f0.mono (fun _ _ h => h.elim)).trans hf3 (fun _ _ h => h), ?_⟩
  intro b hb
  rcases ho3 with h | h
  · rw [h] at hb; exact .inl hb
  · rw [h] at hb; simp at hb; right; omega
theorem u8_of (i : Nat) : UInt8.ofNat (IntKind.u8.wrap (i : Int)).toNat = UInt8.ofNat i := by
  have h : IntKind.u8.wrap (i : Int) = ((i % 256 : Nat) : Int) := by
    rw [IntKind.wrap_u8]; omega
  rw [h, Int.toNat_natCast]
  have h2 : (i % 256) = i % 2^8 := rfl
  rw [h2]
  exact UInt8.ofNat_mod_size
theorem conv2 {W : World} {b : Nat} (i : Nat) (p : Int) (hp : 0 ≤ p) (hp2 : p < 20) (h : W.heap[b]? = some (.cells #[.int .u8 (IntKind.u8.wrap (i : Int)), .int .u8 (IntKind.u8.wrap ((i : Int) / 256))] 5 (0, 0))) :
    (convert 34 9 (.slice (some ⟨b, 0, none⟩) 2 2)).run Try.prog W = .ok (.string (tS (20 * i + p))) W := by
  have h1 := run_convert_bytes_arg (P := Try.prog) W 34 5 Try.underlying34 Try.underlying5 b 0 2 2 [IntKind.u8.wrap (i : Int), IntKind.u8.wrap ((i : Int) / 256)] rfl (by
    intro j hj
    rcases (by omega : j = 0 ∨ j = 1) with rfl | rfl
    · exact (cell_of h 0).trans (by simp)
    · exact (cell_of h 1).trans (by simp)) 9 Try.underlying9
  have hst : strOfNums [IntKind.u8.wrap (i : Int), IntKind.u8.wrap ((i : Int) / 256)] = tS (20 * i + p) := by
    rw [tS_eq]
    have e1 : ((20 * (i : Int) + p) / 20).toNat = i := by omega
    rw [e1]
    have e2 : (i : Int) / 256 = ((i / 256 : Nat) : Int) := by omega
    rw [e2]
    simp only [strOfNums, List.map_cons, List.map_nil]
    rw [u8_of, u8_of]
  rw [h1, hst]
end Go.Proofs.Ytfgpmbahekcoeaa.Th
