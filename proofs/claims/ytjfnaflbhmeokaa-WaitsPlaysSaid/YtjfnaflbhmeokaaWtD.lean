/- How a waiting party stands for a number here: its four fields. No condition. -/
import Derived.Test.YtjfnaflbhmeokaaHeapM
import Derived.Test.YtjfnaflbhmeokaaHeapN
import Derived.Test.YtjfnaflbhmeokaaLib
import Derived.WideLaws
import Derived.StillTailTactics
namespace Go.Proofs.Ytjfnaflbhmeokaa
open Go.RowKit
theorem encW_ex : ∃ e : Int → Int × Int × Int × Int, ∀ x, e x = (x % 4294967296, x / 151115727451828646838272, x / 9444732965739290427392 % 16, x / 4294967296 % 2199023255552) := ⟨_, fun _ => rfl⟩
noncomputable def encW : Int → Int × Int × Int × Int := Classical.choose encW_ex
theorem encW_eq (x : Int) : encW x = (x % 4294967296, x / 151115727451828646838272, x / 9444732965739290427392 % 16, x / 4294967296 % 2199023255552) := Classical.choose_spec encW_ex x
/-- Who, Size, Tier, Since of the party that a number stands for. -/
noncomputable def wW (x : Int) : Int := (encW x).1
noncomputable def wS (x : Int) : Int := (encW x).2.1
noncomputable def wT (x : Int) : Int := (encW x).2.2.1
noncomputable def wC (x : Int) : Int := (encW x).2.2.2
/-- The number of a party. -/
def wtN (who size tier since : Int) : Int := who + 4294967296 * (since + 2199023255552 * (tier + 16 * size))
theorem wW_n {a b c d : Int} (h1 : 0 ≤ a) (h2 : a < 4294967296) : wW (wtN a b c d) = a := by
  unfold wW wtN; rw [encW_eq]; simp only; omega
theorem wS_n {a b c d : Int} (h1 : 0 ≤ a) (h2 : a < 4294967296) (h3 : 0 ≤ c) (h4 : c < 16) (h5 : 0 ≤ d) (h6 : d < 2199023255552) : wS (wtN a b c d) = b := by
  unfold wS wtN; rw [encW_eq]; simp only; omega
theorem wT_n {a b c d : Int} (h1 : 0 ≤ a) (h2 : a < 4294967296) (h3 : 0 ≤ c) (h4 : c < 16) (h5 : 0 ≤ d) (h6 : d < 2199023255552) : wT (wtN a b c d) = c := by
  unfold wT wtN; rw [encW_eq]; simp only; omega
theorem wC_n {a b c d : Int} (h1 : 0 ≤ a) (h2 : a < 4294967296) (h5 : 0 ≤ d) (h6 : d < 2199023255552) : wC (wtN a b c d) = d := by
  unfold wC wtN; rw [encW_eq]; simp only; omega
theorem wt_eta (x : Int) : wtN (wW x) (wS x) (wT x) (wC x) = x := by
  unfold wW wS wT wC wtN; rw [encW_eq]; simp only; omega
theorem wt_inj {x y : Int} (h1 : wW x = wW y) (h2 : wS x = wS y) (h3 : wT x = wT y) (h4 : wC x = wC y) : x = y := by
  rw [← wt_eta x, ← wt_eta y, h1, h2, h3, h4]
theorem wW_0 : wW 0 = 0 := by unfold wW; rw [encW_eq]; rfl
theorem wS_0 : wS 0 = 0 := by unfold wS; rw [encW_eq]; rfl
theorem wT_0 : wT 0 = 0 := by unfold wT; rw [encW_eq]; rfl
theorem wC_0 : wC 0 = 0 := by unfold wC; rw [encW_eq]; rfl
/-- Row arr of cells has the items L. -/
def Cells5 (arr : Array Value) (L : List It) : Prop := ∀ i, i < L.length → arr[i * 5]? = some (.int .u32 (wW (itAt L i).1)) ∧ arr[i * 5 + 1]? = some (.int .i64 (wS (itAt L i).1)) ∧ arr[i * 5 + 2]? = some (.int .i64 (wT (itAt L i).1)) ∧ arr[i * 5 + 3]? = some (.int .i64 (wC (itAt L i).1)) ∧ arr[i * 5 + 4]? = some (.int .i64 (itAt L i).2)
theorem region_any {P : Program} {ops : Array Oper} {id : Nat} {Q : Exit → Act → World → Prop} {a : Act} {w : World} (hm : P.follows .mixedOrders = true)
    (h : wpAny P .any ops Q ops.size (Array.replicate ops.size false) a w.drew) : (Code.region id ops true).wp P Q a w := wp_region_any hm h
theorem ite_take {c : Prop} [Decidable c] {a b : Prop} (h : c) (ha : a) : if c then a else b := by rw [if_pos h]; exact ha
/-- A builtin append whose run is known, as one operation. -/
theorem wp_append_run {P : Program} {Q : Exit → Act → World → Prop} {K : Act → World → Prop} {o : Oper} {a : Act} {w : World} {s x : Operand} {t : TypeId}
    (ho : o.op = .call { callee := .builtin .append, args := #[s, x], argTypes := #[t, t] }) {v u r : Value} {w' : World} (hs : a.eval s = v) (hx : a.eval x = u)
    (hrun : (Builtin.append_ #[t, t] o.type #[v, u]).run P w = .ok r w') (h : K (a.put o.dst r) w') : o.wp P a w K Q := by
  unfold Oper.wp execOp
  simp only [ho, resolve, invoke, builtin, Sem.run_bind, Sem.run_pure, Result.andThen_ok, List.map_toArray, List.map_cons, List.map_nil, hs, hx, hrun]
  exact h
theorem region_tail {P : Program} {id : Nat} {Q : Exit → Act → World → Prop} {a : Act} {w : World} {l : List Oper} (n : Nat) (hm : P.follows .mixedOrders = true) (hB : Region.lexTailB .any l.toArray n = true)
    (h : wpStill P l.toArray w.drew (fun a' => wpList P l.toArray Q (l.drop n) a' w.drew) (l.take n) a) : (Code.region id l.toArray true).wp P Q a w := wp_region_still_tail n hm hB h
end Go.Proofs.Ytjfnaflbhmeokaa
