/- Texts of this proof, put together: Inf. -/
import Derived.Test.YtdaokkajbooiaaaProg
import Derived.Test.YtdaokkajbooiaaaMListingPagesb
section
/- Rows of this seat's type table. -/
namespace Go.Proofs.Ytdaokkajbooiaaa
end Go.Proofs.Ytdaokkajbooiaaa
end
