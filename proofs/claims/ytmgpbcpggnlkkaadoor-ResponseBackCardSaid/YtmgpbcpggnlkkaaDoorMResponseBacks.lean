/- Texts of this proof, put together: Wr27. -/
import Derived.Test.YtmgpbcpggnlkkaaDoorMResponseBackq
import Derived.Test.YtmgpbcpggnlkkaaDoorMResponseBackr
import Derived.Test.YtmgpbcpggnlkkaaDoorMResponseBackn
section
/- ResponseKnown, ResponseBack: the walks, over what came in. -/
namespace Go.Proofs.YtmgpbcpggnlkkaaDoor
open Go.RowKit Go.Proofs.YtmgpbcpggnlkkaaDoorW.PrintWords
set_option linter.unusedVariables false
theorem back_walk27 (v0 v1 : Value) (a2 : Int) (v3 : Value) (w : World) (hG : Pr.GM w) (h0 : IsResp w v0) (h1 : IsNums w v1) (h3 : IsNums w v3) : Calls Tryd.prog 4 #[v0, v1, .int .i64 a2, v3] w fun e w' => e = .returned (.bool true) ∧ Below w.heap.size w w' := by
  obtain ⟨st, A1, c1, hs, A2, c2, b, rfl, k1, k2, k3, k4⟩ := h0
  obtain ⟨B1, d1, l1, rfl, m1, m2⟩ := h1
  obtain ⟨B3, d3, l3, rfl, n1, n2⟩ := h3
  exact Pr.stowagelaw27_ResponseBack.calls 1000 st A1 c1 hs A2 c2 (Pr.numsL b) B1 d1 (Pr.numsL l1) a2 B3 d3 (Pr.numsL l3) true w hG k2 k1 k4 k3 m2 m1 n2 n1 (back_f st hs b l1 a2 l3)
end Go.Proofs.YtmgpbcpggnlkkaaDoor
end
