/- Texts of this proof, put together: Bg20, Cm20. -/
import Derived.Test.YtdaokkajbooiaaaProg
import Derived.Test.YtdaokkajbooiaaaMTopTokensb
import Derived.Test.YtdaokkajbooiaaaMTopTokensi
import Derived.Lib.SlBytesConst
section
/- Listing: does a text begin with another one? -/
namespace Go.Proofs.Ytdaokkajbooiaaa
open Go.RowKit
set_option linter.unusedVariables false
set_option linter.unusedSimpArgs false
end Go.Proofs.Ytdaokkajbooiaaa
end
section
/- Listing: the reference's common prefix. -/
namespace Go.Proofs.Ytdaokkajbooiaaa
open Go.RowKit
set_option linter.unusedVariables false
set_option linter.unusedSimpArgs false
end Go.Proofs.Ytdaokkajbooiaaa
end
