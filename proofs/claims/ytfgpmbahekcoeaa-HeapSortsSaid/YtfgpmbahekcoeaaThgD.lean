/- How a thing stands for a number here: a text and what it is worth. No condition. -/
import Derived.Test.YtfgpmbahekcoeaaHeapM
import Derived.Test.YtfgpmbahekcoeaaHeapN
import Derived.Test.YtfgpmbahekcoeaaLib
import Derived.WideLaws
import Derived.StillTailTactics
namespace Go.Proofs.Ytfgpmbahekcoeaa
open Go.RowKit
/-- The 64 bits of small whole numbers. -/
def f64s : List Nat := [0, 4607182418800017408, 4611686018427387904, 4613937818241073152, 4616189618054758400, 4617315517961601024, 4618441417868443648, 4619567317775286272, 4620693217682128896, 4621256167635550208, 4621819117588971520, 4622382067542392832, 4622945017495814144, 4623507967449235456, 4624070917402656768, 4624633867356078080, 4625196817309499392, 4625478292286210048, 4625759767262920704, 4626041242239631360]
theorem enc_ex : ∃ e : Int → ByteArray × Nat, ∀ x, e x = (⟨#[UInt8.ofNat (x / 20).toNat, UInt8.ofNat ((x / 20).toNat / 256)]⟩, f64s.getD (x % 20).toNat 0) := ⟨_, fun _ => rfl⟩
noncomputable def encT : Int → ByteArray × Nat := Classical.choose enc_ex
theorem encT_eq (x : Int) : encT x = (⟨#[UInt8.ofNat (x / 20).toNat, UInt8.ofNat ((x / 20).toNat / 256)]⟩, f64s.getD (x % 20).toNat 0) := Classical.choose_spec enc_ex x
noncomputable def tS (x : Int) : ByteArray := (encT x).1
noncomputable def tW (x : Int) : Nat := (encT x).2
/-- Row arr of cells has the items L. -/
def Cells3 (arr : Array Value) (L : List It) : Prop := ∀ i, i < L.length → arr[i * 3]? = some (.string (tS (itAt L i).1)) ∧ arr[i * 3 + 1]? = some (.float .f64 (tW (itAt L i).1)) ∧ arr[i * 3 + 2]? = some (.int .i64 (itAt L i).2)
theorem run_store_float {P : Program} (w : World) (a : Addr) (m : Mode) (k : FloatKind) (n : Nat) : (store a (.float k n) m).run P w = stored P w a (.float k n) m := run_store P w a _ m rfl
theorem region_any {P : Program} {ops : Array Oper} {id : Nat} {Q : Exit → Act → World → Prop} {a : Act} {w : World} (hm : P.follows .mixedOrders = true)
    (h : wpAny P .any ops Q ops.size (Array.replicate ops.size false) a w.drew) : (Code.region id ops true).wp P Q a w := wp_region_any hm h
theorem ite_take {c : Prop} [Decidable c] {a b : Prop} (h : c) (ha : a) : if c then a else b := by rw [if_pos h]; exact ha
/-- A builtin append whose run is known, as one operation. -/
theorem wp_append_run {P : Program} {Q : Exit → Act → World → Prop} {K : Act → World → Prop} {o : Oper} {a : Act} {w : World} {s x : Operand} {t : TypeId}
    (ho : o.op = .call { callee := .builtin .append, args := #[s, x], argTypes := #[t, t] }) {v u r : Value} {w' : World} (hs : a.eval s = v) (hx : a.eval x = u)
    (hrun : (Builtin.append_ #[t, t] o.type #[v, u]).run P w = .ok r w') (h : K (a.put o.dst r) w') : o.wp P a w K Q := by
  unfold Oper.wp execOp
  simp only [ho, resolve, invoke, builtin, Sem.run_bind, Sem.run_pure, Result.andThen_ok, List.map_toArray, List.map_cons, List.map_nil, hs, hx, hrun]
  exact h
theorem region_tail {P : Program} {id : Nat} {Q : Exit → Act → World → Prop} {a : Act} {w : World} {l : List Oper} (n : Nat) (hm : P.follows .mixedOrders = true) (hB : Region.lexTailB .any l.toArray n = true)
    (h : wpStill P l.toArray w.drew (fun a' => wpList P l.toArray Q (l.drop n) a' w.drew) (l.take n) a) : (Code.region id l.toArray true).wp P Q a w := wp_region_still_tail n hm hB h
end Go.Proofs.Ytfgpmbahekcoeaa
