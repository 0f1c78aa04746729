/- BitsBack's walk. Condition: the table of math/bits. -/
import Derived.Test.YtbfkmogibgchmaaDoorBackC
import Derived.Test.YtbfkmogibgchmaaDoorBackD
namespace Go.Proofs.YtbfkmogibgchmaaDoor.Bt
open Go.RowKit Go.Shelf
set_option maxRecDepth 100000 in
theorem back_err (w : World) (hT : TabOk w) {n : Int} (hn : n < 0 ∨ 65536 < n) {v1 : Value} :
    Calls Tryd.prog 9 #[.int .i64 n, v1] w fun e w' => e = .returned (.bool true) ∧ Fr (fun _ => False) w w' := by
  have HT := Lib.hid hT; have Hn := Lib.hid hn
  rcases hn with hn | hn
  · have b1 : decide (n < 0) = true := by simpa using hn
    clear hT hn
    go_enter Tryd.func9, Tryd.ntmps9
    go_wp2_with fail
    refine (awake_ok HT.out).mono ?_
    rintro e w1 ⟨rfl, f1⟩
    have F1 := Lib.hid f1; clear f1
    go_wp2_with fail
    refine (new_err w1 Hn.out).mono ?_
    rintro e w2 ⟨rfl, rfl⟩
    go_wp2_with fail
    go_ret
    exact ⟨rfl, F1.out⟩
  · have b1 : decide (n < 0) = false := by simp; omega
    have b2 : decide (65536 < n) = true := by simpa using hn
    clear hT hn
    go_enter Tryd.func9, Tryd.ntmps9
    go_wp2_with fail
    refine (awake_ok HT.out).mono ?_
    rintro e w1 ⟨rfl, f1⟩
    have F1 := Lib.hid f1; clear f1
    go_wp2_with fail
    refine (new_err w1 Hn.out).mono ?_
    rintro e w2 ⟨rfl, rfl⟩
    go_wp2_with fail
    go_ret
    exact ⟨rfl, F1.out⟩
theorem back_walk (w : World) (hT : TabOk w) (n : Int) (hn : Fits n) {v1 : Value} {K1 : Nat → Nat → Int} {n1 : Nat} (h1 : IntsAt w v1 1 K1 n1) :
    Calls Tryd.prog 9 #[.int .i64 n, v1] w fun e w' => e = .returned (.bool true) ∧ Fr (fun _ => False) w w' := by
  obtain ⟨a1, c1, rfl, hnc, hcm, hor⟩ := id h1
  by_cases hr : n < 0 ∨ 65536 < n
  · exact back_err w hT hr
  · obtain ⟨m, rfl⟩ : ∃ m : Nat, n = (m : Int) := ⟨n.toNat, by omega⟩
    by_cases hm : m < 65536
    · exact back_small w hT (by omega) rfl hm h1
    · exact back_max w hT (by omega) (by omega) h1
end Go.Proofs.YtbfkmogibgchmaaDoor.Bt
