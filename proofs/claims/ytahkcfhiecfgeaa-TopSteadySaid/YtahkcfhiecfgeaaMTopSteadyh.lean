/- Texts of this proof, put together: Inf. -/
import Derived.Test.YtahkcfhiecfgeaaProg
import Derived.Test.YtahkcfhiecfgeaaMTopSteadya
section
/- Rows of this seat's type table. -/
namespace Go.Proofs.Ytahkcfhiecfgeaa
theorem infoU8 : (Try.prog.info? 5).map (fun i => (i.zero, i.size, i.bytes)) = some (some (.int .u8 0), 1, 1) := by kernel_rfl
end Go.Proofs.Ytahkcfhiecfgeaa
end
