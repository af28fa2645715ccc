/- Texts of this proof, put together: Idx. -/
import Derived.Test.YtehibiplodjofaaDoorProg
import Derived.Test.YtehibiplodjofaaDoorMRouteAbouta
import Derived.Test.YtehibiplodjofaaDoorMRouteAbouth
import Derived.ChangeKeysEq
section
/- Reading one cell of an array that is a value. -/
namespace Go.Proofs.YtehibiplodjofaaDoor
open Go.RowKit
set_option linter.unusedVariables false
set_option linter.unusedSimpArgs false
theorem run_index_one {P : Program} (w : World) (t e : TypeId) (n k : Nat) (cs : Array Value) (v : Value) (hu : P.underlying t = some (.array n e)) (hk : k < n)
    (hagg : (isAgg e).run P w = .ok false w) (hsz : (sizeOf e).run P w = .ok 1 w) (hv : cs[k]? = some v) : (Instr.index t (.agg cs) (.int .i64 (k : Int))).run P w = .ok v w := by
  have h1 : (0 : Int) ≤ k ∧ (k : Int) < (n : Int) := ⟨by omega, by omega⟩
  unfold Instr.index part
  simp [asIntOf, run_underlying hu, h1.2, Sem.run_bind, hagg, hsz, hv, hk]
theorem wpList_index_one {P : Program} {ops : Array Oper} {rest : List Oper} {op : Oper} {a : Act} {w : World} {Q : Exit → Act → World → Prop} (hgd : op.guard = none) (t : TypeId) (x ix : Operand) (ho : op.op = .index t x ix)
    (cs : Array Value) (hx : a.eval x = .agg cs) (k : Nat) (hi : a.eval ix = .int .i64 (k : Int)) (e : TypeId) (n : Nat) (hu : P.underlying t = some (.array n e)) (hk : k < n)
    (hagg : (isAgg e).run P w = .ok false w) (hsz : (sizeOf e).run P w = .ok 1 w) (v : Value) (hv : cs[k]? = some v) (h : wpList P ops Q rest (a.put op.dst v) w) : wpList P ops Q (op :: rest) a w :=
  wpList_plain hgd fun _ hK => by
    unfold Oper.wp execOp
    simp only [ho, hx, hi]
    rw [Sem.run_bind, run_index_one w t e n k cs v hu hk hagg hsz hv]
    exact hK _ _ h
end Go.Proofs.YtehibiplodjofaaDoor
end
