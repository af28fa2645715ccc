/- Rows of this seat's type table. -/
import Derived.Test.YthnhfbdoielekaaDoorProg
import Derived.Test.YthnhfbdoielekaaDoorBase
namespace Go.Proofs.YthnhfbdoielekaaDoor
theorem infoU8 : (Tryd.prog.info? 5).map (fun i => (i.zero, i.size, i.bytes)) = some (some (.int .u8 0), 1, 1) := by kernel_rfl
end Go.Proofs.YthnhfbdoielekaaDoor
