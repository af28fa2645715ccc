/- Texts of this proof, put together: Ar27. -/
import Derived.Test.YtmgpbcpggnlkkaaDoorMResponseKnownp
import Derived.Test.YtmgpbcpggnlkkaaDoorMResponseKnowno
section
/- Answers, and bytes, that came in. -/
namespace Go.Proofs.YtmgpbcpggnlkkaaDoor
open Go.ChangeShapes Go.WideShapes Go.ChangeAt Go.RowKit Go.Proofs.YtmgpbcpggnlkkaaDoorW.PrintWords
set_option linter.unusedVariables false
end Go.Proofs.YtmgpbcpggnlkkaaDoor
end
