/- Texts of this proof, put together: Wt20. -/
import Derived.Test.YtahkcfhiecfgeaaMListingTellsq
import Derived.Test.YtahkcfhiecfgeaaMListingTellsg
section
/- ListingTells: the walk, over entries that came in. -/
namespace Go.Proofs.Ytahkcfhiecfgeaa
open Go.RowKit
set_option linter.unusedVariables false
theorem tells_walk (v : Value) (a1 a2 a3 a4 : ByteArray) (a5 : Int) (w : World) (h : IsEnts w v) (hMax : ∃ m, w.cell? ⟨0, 0, none⟩ = some (.int .i64 m)) : Calls Try.prog 3 #[v, .string a1, .string a2, .string a3, .string a4, .int .i64 a5] w fun e w' => e = .returned (.bool true) ∧ Below w.heap.size w w' := by
  obtain ⟨A, c, l, rfl, hc, hr⟩ := h
  exact tells_any A c l a1 a2 a3 a4 a5 w hMax hr hc
end Go.Proofs.Ytahkcfhiecfgeaa
end
