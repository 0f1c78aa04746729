/- The document's list of waiting parties, plainly: a place, one more, one less. No condition. -/
import Derived.Test.YtjfnaflbhmeokaaWtO
import Derived.Test.YtjfnaflbhmeokaaWtQ
namespace Go.Proofs.Ytjfnaflbhmeokaa.Wt
/-- What a search for a party tells. -/
def Placed (S : List Int) (who : Int) (e : Ending) : Prop :=
  (∃ i, i < S.length ∧ wW (S.getD i 0) = who ∧ e = .returned (.int .i64 (i : Int))) ∨ ((∀ x ∈ S, wW x ≠ who) ∧ e = .returned (.int .i64 (-1)))
theorem getD_mem {S : List Int} {i : Nat} (h : i < S.length) : S.getD i 0 ∈ S := by
  rw [List.getD_eq_getElem?_getD, List.getElem?_eq_getElem h]; exact List.getElem_mem h
theorem getD_get {S : List Int} {i : Nat} (h : i < S.length) : S.getD i 0 = S[i] := by
  rw [List.getD_eq_getElem?_getD, List.getElem?_eq_getElem h]; rfl
/-- Laid in behind all that stand ahead. -/
theorem put_insW {S : List Int} (ho : Ord S) {x : Int} (hn : ∀ y ∈ S, wW y ≠ wW x) {k : Nat} (hk : k ≤ S.length) (h1 : ∀ i, i < k → ltW (S.getD i 0) x = true) (h2 : k < S.length → ltW (S.getD k 0) x = false) :
    S.take k ++ x :: S.drop k = insW x S := by
  refine ord_unique ?_ ?_ (insW_ord ho hn)
  · refine List.Perm.trans ?_ (insW_perm x S).symm
    refine List.perm_middle.trans ?_
    rw [List.take_append_drop]
  · have hs : Ord (S.take k ++ S.drop k) := by rw [List.take_append_drop]; exact ho
    have hs' := List.pairwise_append.1 hs
    have hx1 : ∀ a ∈ S.take k, ltW a x = true := by
      intro a ha
      obtain ⟨i, hi, rfl⟩ := List.getElem_of_mem ha
      have hi' : i < k := by rw [List.length_take] at hi; omega
      rw [List.getElem_take, ← getD_get (by omega)]; exact h1 i hi'
    have hx2 : ∀ c ∈ S.drop k, ltW x c = true := by
      intro c hc
      have hkl : k < S.length := by
        apply Nat.lt_of_not_le; intro h
        rw [List.drop_eq_nil_of_le h] at hc; simp at hc
      have h3 := h2 hkl
      have hm : S.getD k 0 ∈ S := getD_mem hkl
      have h4 : ltW x (S.getD k 0) = true := by
        rcases ltW_total (hn _ hm) with h | h
        · rw [h3] at h; simp at h
        · exact h
      rw [List.drop_eq_getElem_cons hkl] at hc
      rcases List.mem_cons.1 hc with rfl | hc
      · rw [← getD_get hkl]; exact h4
      · have h5 := hs'.2.1
        rw [List.drop_eq_getElem_cons hkl] at h5
        have h6 := (List.pairwise_cons.1 h5).1 c hc
        rw [← getD_get hkl] at h6
        exact ltW_trans h4 h6
    show List.Pairwise _ _
    rw [List.pairwise_append]
    refine ⟨hs'.1, List.pairwise_cons.2 ⟨hx2, hs'.2.1⟩, ?_⟩
    intro a ha c hc
    rcases List.mem_cons.1 hc with rfl | hc
    · exact hx1 a ha
    · exact hs'.2.2 a ha c hc
theorem out_outW {S : List Int} (ho : Ord S) (hl : Lone S) {k : Nat} (hk : k < S.length) : S.take k ++ S.drop (k + 1) = outW (wW (S.getD k 0)) S := by
  have hm := getD_mem hk
  refine ord_unique ?_ ?_ (outW_ord ho)
  · have p1 : (S.getD k 0 :: (S.take k ++ S.drop (k + 1))).Perm S := by
      refine List.perm_middle.symm.trans ?_
      rw [getD_get hk, ← List.drop_eq_getElem_cons hk, List.take_append_drop]
    exact (p1.trans (outW_perm hl hm).symm).cons_inv
  · refine ho.sublist ?_
    have h1 : (S.take k ++ S.drop (k + 1)).Sublist (S.take k ++ S.drop k) := List.Sublist.append (List.Sublist.refl _) (by rw [List.drop_eq_getElem_cons hk]; exact List.sublist_cons_self _ _)
    rwa [List.take_append_drop] at h1
end Go.Proofs.Ytjfnaflbhmeokaa.Wt
