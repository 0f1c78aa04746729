/- More general facts: function values against nil; draws. No condition. -/
import Derived.Test.YthckfbfenfkdiaaDoorLib
import Derived.Deep.Draws
namespace Go.Proofs.YthckfbfenfkdiaaDoor
open Go.RowKit
theorem Fr.drewN {F : Nat → Prop} {a w : World} (h : Fr F a w) (n : Nat) : Fr F a (w.drewN n) := ⟨h.os, h.tape, h.output, h.size, h.blk⟩
/-- x fits an int. -/
def Fits (x : Int) : Prop := -9223372036854775808 ≤ x ∧ x ≤ 9223372036854775807
theorem fits_small {x : Int} (h : -1000000000 ≤ x) (h' : x ≤ 1000000000) : Fits x := ⟨by omega, by omega⟩
/-- What writes new blocks alone writes none of the old ones. -/
theorem Fr.toNew {w w' : World} (h : Fr (fun b => w.heap.size ≤ b) w w') : Fr (fun _ => False) w w' :=
  h.mono (fun b hb h => by omega)
/-- A builtin append whose run is known. -/
theorem wpList_append_run {P : Program} {ops : Array Oper} {Q : Exit → Act → World → Prop} {rest : List Oper} {o : Oper} {a : Act} {w : World} (hgd : o.guard = none) (s x : Operand) (t : TypeId)
    (ho : o.op = .call { callee := .builtin .append, args := #[s, x], argTypes := #[t, t] }) {v u v' : Value} {w' : World} (hs : a.eval s = v) (hx : a.eval x = u)
    (hrun : (Builtin.append_ #[t, t] o.type #[v, u]).run P w = .ok v' w') (h : wpList P ops Q rest (a.put o.dst v') w') : wpList P ops Q (o :: rest) a w :=
  wpList_plain hgd fun K hK => by
    unfold Oper.wp execOp
    simp only [ho, resolve, invoke, builtin, Sem.run_bind, Sem.run_pure, Result.andThen_ok, List.map_toArray, List.map_cons, List.map_nil, hs, hx, hrun]
    exact hK _ _ h
/-- A builtin delete whose run is known. -/
theorem wp_delete_run {P : Program} {Q : Exit → Act → World → Prop} {K : Act → World → Prop} {o : Oper} {a : Act} {w : World} {m k : Operand} {ats : Array TypeId}
    (ho : o.op = .call { callee := .builtin .delete, args := #[m, k], argTypes := ats }) {v u r : Value} {w' : World} (hs : a.eval m = v) (hx : a.eval k = u)
    (hrun : (Builtin.delete_ ats o.type #[v, u]).run P w = .ok r w') (h : K (a.put o.dst r) w') : o.wp P a w K Q := by
  unfold Oper.wp execOp
  simp only [ho, resolve, invoke, builtin, Sem.run_bind, Sem.run_pure, Result.andThen_ok, List.map_toArray, List.map_cons, List.map_nil, hs, hx, hrun]
  exact h
section
variable {P : Program} {T : TypeId} {ps rs : Array TypeId} {v : Bool} (hT : P.underlying T = some (.func ps rs v)) (w : World)
include hT
theorem run_equalIn_func_nil (d : Nat) (fn : Fn) (a c : Array Value) : (Op.equalIn (d + 1) T (.func fn a c) .nilFunc).run P w = .ok false w := by
  simp [Op.equalIn, run_underlying hT]
theorem run_equalIn_nil_func (d : Nat) : (Op.equalIn (d + 1) T .nilFunc .nilFunc).run P w = .ok true w := by
  simp [Op.equalIn, run_underlying hT]
theorem run_eql_func_nil (fn : Fn) (a c : Array Value) : (binOp .eql T (.func fn a c) .nilFunc).run P w = .ok (.bool false) w := by
  simp only [binOp]
  simp [Op.equal, Op.maxDepth, run_equalIn_func_nil hT w 9999]
theorem run_eql_nil_nil_func : (binOp .eql T .nilFunc .nilFunc).run P w = .ok (.bool true) w := by
  simp only [binOp]
  simp [Op.equal, Op.maxDepth, run_equalIn_nil_func hT w 9999]
end
end Go.Proofs.YthckfbfenfkdiaaDoor
