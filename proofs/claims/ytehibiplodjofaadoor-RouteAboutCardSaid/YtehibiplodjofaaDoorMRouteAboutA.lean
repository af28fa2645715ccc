/- Texts of this proof, put together: Tk21. -/
import Derived.Test.YtehibiplodjofaaDoorMRouteAboutu
import Derived.Test.YtehibiplodjofaaDoorMRouteAbouts
section
/- token.Make, token.Read, by their contracts, in the print's form. -/
namespace Go.Proofs.YtehibiplodjofaaDoor.Pr
open Go.RowKit Go.Proofs.YtehibiplodjofaaDoorW.PrintWords Go.Proofs.YtehibiplodjofaaDoorW.PrintLast Go.Proofs.YtehibiplodjofaaDoorW.PrintMore
set_option linter.unusedVariables false
set_option linter.unusedSimpArgs false
def makeR (a b : ByteArray) : ByteArray × Int := if 400 < a.size ∨ 400 < b.size then (⟨#[]⟩, 3) else (⟨(madeS a.data.toList b.data.toList).toArray⟩, 0)
def readR (s : ByteArray) : ByteArray × ByteArray × Int := if 1610 < s.size then (⟨#[]⟩, ⟨#[]⟩, 3) else match readO s.data.toList with
  | none => (⟨#[]⟩, ⟨#[]⟩, 4)
  | some (x, y) => (⟨x.toArray⟩, ⟨y.toArray⟩, 0)
theorem readR_V (s : ByteArray) : readV s = .tuple #[.string (readR s).1, .string (readR s).2.1, .int .i64 (readR s).2.2] := by
  unfold readV readR
  split
  · rfl
  · cases h : readO s.data.toList with
    | none => rfl
    | some q => rfl
def token_Make.f (a b : ByteArray) : Option (ByteArray × Int) := if a.size ≤ 1000000 ∧ b.size ≤ 1000000 then some (makeR a b) else none
def token_Read.f (s : ByteArray) : Option (ByteArray × ByteArray × Int) := if s.size ≤ 1000000 then some (readR s) else none
theorem token_Read.calls (a0 : ByteArray) (r1 r2 : ByteArray) (r3 : Int) (w : World) (h : token_Read.f a0 = some (r1, r2, r3)) :
    Calls Tryd.prog 35 #[.string a0] w fun e w' => e = .returned (.tuple #[.string r1, .string r2, .int .i64 r3]) ∧ Below w.heap.size w w' := by
  unfold token_Read.f at h
  split at h
  · rename_i hs
    have hr : readR a0 = (r1, r2, r3) := Option.some.inj h
    have := pRead_any a0 w hs
    rw [readR_V, hr] at this
    exact this
  · cases h
end Go.Proofs.YtehibiplodjofaaDoor.Pr
end
