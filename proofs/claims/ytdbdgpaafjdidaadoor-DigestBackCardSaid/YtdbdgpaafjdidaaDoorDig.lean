/- A digest that came in. -/
import Derived.Test.YtdbdgpaafjdidaaDoorProg
import Derived.Test.YtdbdgpaafjdidaaDoorArgs
namespace Go.Proofs.YtdbdgpaafjdidaaDoor
open Go.ChangeShapes Go.WideShapes Go.ChangeAt Go.RowKit
set_option linter.unusedVariables false
def IsDig (w : World) (v : Value) : Prop := ∃ dl : List UInt8, dl.length = 32 ∧ v = .agg (Lib.byteCells dl).toArray
theorem open_dig {H : Type} {enc : TypeId × Value → H} {w : World} {base b0 : Nat} {held : Bool} {r : Reach} {v : Value} {d : DataW H} {p : List MemPlace} (hv : Value.okWide Tryd.prog w r b0 24 v) (h : DataW.Trod enc Tryd.prog w base (fun _ => true) held 24 v d p) : IsDig w v :=
  open_bytesA Tryd.underlying24 Tryd.underlying5 (by kernel_rfl) (by kernel_rfl) hv h
end Go.Proofs.YtdbdgpaafjdidaaDoor
