/- The document's heap: Pop. No condition. -/
import Derived.Test.YtfgpmbahekcoeaaRefE
namespace Go.Proofs.Ytfgpmbahekcoeaa
open Go.RowKit
section
variable {G : Nat → Prop} {rh : Nat} {kind next : Int} {R : List It} {w : World}
set_option maxRecDepth 100000 in
theorem rpop_none (h : RefIs G rh kind [] next w) : Calls Try.prog 86 #[.pointer (some ⟨rh, 0, none⟩)] w fun e w' => e = .returned (.tuple #[.int .i64 0, .int .i64 0, .bool false]) ∧ w = w' := by
  have H := Lib.hid h
  clear h
  go_enter Try.func86, Try.ntmps86
  go_wp2_with fail
  refine (rleast_none H.out).mono ?_
  rintro e w' ⟨rfl, rfl⟩
  go_wp2_with fail
  refine (rdrop_gone H.out (by simp)).mono ?_
  rintro e w' ⟨rfl, rfl⟩
  go_wp2_with fail
  go_ret3
  exact ⟨rfl, rfl⟩
set_option maxRecDepth 100000 in
theorem rpop_some (h : RefIs G rh kind R next w) (h0 : R ≠ []) (hl : Lone R) (hk0 : 0 ≤ kind) (hk7 : kind < 7) (hfit : ∀ i, i < R.length → Fits (itAt R i).2) {k : Nat} (hk : k < R.length) (he : leastTo (lessK kind) R (R.length - 1) = itAt R k) :
    Calls Try.prog 86 #[.pointer (some ⟨rh, 0, none⟩)] w fun e w' => e = .returned (.tuple #[.int .i64 (itAt R k).2, .int .i64 (itAt R k).1, .bool true]) ∧
      ∃ G', RefIs G' rh kind (R.take k ++ R.drop (k + 1)) next w' ∧ Fr (fun b => b = rh) w w' ∧ Grew w G G' := by
  have hls := rleast_some h h0 hk0 hk7 hfit
  rw [he] at hls
  have H := Lib.hid h; have Hls := Lib.hid hls; have Hl := Lib.hid hl; have Hk := Lib.hid hk
  clear h h0 hl hfit hls he hk hk0 hk7
  go_enter Try.func86, Try.ntmps86
  go_wp2_with fail
  refine Hls.out.mono ?_
  rintro e w1 ⟨rfl, f1⟩
  have F1 := Lib.hid f1; clear f1
  go_wp2_with fail
  refine (rdrop_there (H.out.fr F1.out (fun _ _ h => h)) Hl.out Hk.out).mono ?_
  rintro e w2 ⟨rfl, G2, h2, f2, g2⟩
  have H2 := Lib.hid h2; have F2 := Lib.hid f2; have G2' := Lib.hid g2
  clear h2 f2 g2
  go_wp2_with fail
  go_ret3
  refine ⟨rfl, G2, H2.out, (F1.out.mono (fun _ _ h => h.elim)).trans F2.out (fun _ _ h => h), ?_⟩
  intro b hb
  have := F1.out.size
  rcases G2'.out b hb with h | h
  · exact .inl h
  · exact .inr (by omega)
end
end Go.Proofs.Ytfgpmbahekcoeaa
