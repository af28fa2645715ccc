/- Texts of this proof, put together: Ao, Ap. -/
import Derived.Test.YtmgpbcpggnlkkaaDoorMResponseKnownj
import Derived.OpenShut
import Derived.ChangeSlices
import Derived.WideShapes
import Derived.ProofKit
section
/- Arguments that came in, opened into the print's kinds, kind by kind: plain, of no program. -/
namespace Go.Proofs.YtmgpbcpggnlkkaaDoor
open Go.ChangeShapes Go.WideShapes Go.ChangeAt Go.RowKit Go.Proofs.YtmgpbcpggnlkkaaDoorW.PrintWords Go.Proofs.YtmgpbcpggnlkkaaDoorW.PrintLast Go.Proofs.YtmgpbcpggnlkkaaDoorW.PrintMore
set_option linter.unusedVariables false
set_option linter.unusedSimpArgs false
section
variable {H : Type} {enc : TypeId × Value → H} {P : Program} {w : World} {base : Nat} {spare : Nat → Bool} {held : Bool}
end
end Go.Proofs.YtmgpbcpggnlkkaaDoor
end
section
/- Lists of pairs that came in. -/
namespace Go.Proofs.YtmgpbcpggnlkkaaDoor
open Go.ChangeShapes Go.WideShapes Go.ChangeAt Go.RowKit Go.Proofs.YtmgpbcpggnlkkaaDoorW.PrintWords
set_option linter.unusedVariables false
section
variable {H : Type} {enc : TypeId × Value → H} {w : World} {base : Nat} {spare : Nat → Bool} {held : Bool}
end
end Go.Proofs.YtmgpbcpggnlkkaaDoor
end
