/- BitsPlays' walk. Condition: the table of math/bits. -/
import Derived.Test.YtbfkmogibgchmaaDoorBitZf
import Derived.Test.YtbfkmogibgchmaaDoorBitZg
namespace Go.Proofs.YtbfkmogibgchmaaDoor.Bt
open Go.RowKit
theorem plays_walk (w : World) (hT : TabOk w) (n : Int) (hn : Fits n) {v1 : Value} {K1 : Nat → Nat → Int} {n1 : Nat} (h1 : IntsAt w v1 3 K1 n1) :
    Calls Tryd.prog 7 #[.int .i64 n, v1] w fun e w' => e = .returned (.bool true) ∧ Fr (fun _ => False) w w' := by
  by_cases h : 0 ≤ n ∧ n ≤ 65536
  · exact plays_there w hT n hn h.1 h.2 h1
  · exact plays_none w hT n hn (by omega) h1
end Go.Proofs.YtbfkmogibgchmaaDoor.Bt
