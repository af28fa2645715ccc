/- Texts of this proof, put together: Pv24. -/
import Derived.Test.YthnhfbdoielekaaDoorMPercentPairso
import Derived.Test.YthnhfbdoielekaaDoorMPercentPairsp
section
/- Percent: the walks of PercentAsks and PercentPairs, over lists of pairs that came in. -/
namespace Go.Proofs.YthnhfbdoielekaaDoor
open Go.RowKit
set_option linter.unusedVariables false
theorem pasks_any (s n : ByteArray) (v : Value) (w : World) (h : IsPairs w v) : Calls Tryd.prog 3 #[.string s, v, .string n] w fun e w' => e = .returned (.bool true) ∧ Below w.heap.size w w' := by
  obtain ⟨A, c, l, rfl, hc, hr⟩ := h
  exact Pr.stowagelaw24_PercentAsks.calls 6000 s A c l n true w hr hc (asks_f s l n)
theorem ppairs_any (path : ByteArray) (v : Value) (w : World) (h : IsPairs w v) : Calls Tryd.prog 6 #[v, .string path] w fun e w' => e = .returned (.bool true) ∧ Below w.heap.size w w' := by
  obtain ⟨A, c, l, rfl, hc, hr⟩ := h
  exact Pr.stowagelaw24_PercentPairs.calls 5000 A c l path true w hr hc (pairs_f l path)
end Go.Proofs.YthnhfbdoielekaaDoor
end
