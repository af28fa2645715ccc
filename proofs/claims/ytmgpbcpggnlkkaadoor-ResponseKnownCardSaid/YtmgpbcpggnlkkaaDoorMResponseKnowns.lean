/- Texts of this proof, put together: Wr27. -/
import Derived.Test.YtmgpbcpggnlkkaaDoorMResponseKnowno
import Derived.Test.YtmgpbcpggnlkkaaDoorMResponseKnownr
import Derived.Test.YtmgpbcpggnlkkaaDoorMResponseKnownm
section
/- ResponseKnown, ResponseBack: the walks, over what came in. -/
namespace Go.Proofs.YtmgpbcpggnlkkaaDoor
open Go.RowKit Go.Proofs.YtmgpbcpggnlkkaaDoorW.PrintWords
set_option linter.unusedVariables false
theorem known_walk27 (w : World) (hG : Pr.GM w) : Calls Tryd.prog 3 #[] w fun e w' => e = .returned (.bool true) ∧ Below w.heap.size w w' :=
  Pr.stowagelaw27_ResponseKnown.calls 6 true w hG known27_f
end Go.Proofs.YtmgpbcpggnlkkaaDoor
end
