/- Texts of this proof, put together: Wp20. -/
import Derived.Test.YtdaokkajbooiaaaMListingPagess
import Derived.Test.YtdaokkajbooiaaaMListingPagesf
section
/- ListingPages: the walk, over entries that came in. -/
namespace Go.Proofs.Ytdaokkajbooiaaa
open Go.RowKit
set_option linter.unusedVariables false
theorem pages_walk (v : Value) (a1 a2 : ByteArray) (a3 : Int) (w : World) (h : IsEnts w v) (hMax : ∃ m, w.cell? ⟨0, 0, none⟩ = some (.int .i64 m)) : Calls Try.prog 5 #[v, .string a1, .string a2, .int .i64 a3] w fun e w' => e = .returned (.bool true) ∧ Below w.heap.size w w' := by
  obtain ⟨A, c, l, rfl, hc, hr⟩ := h
  exact Pr.stowagelaw20_ListingPages.calls 100000 A c l a1 a2 a3 true w hMax hr hc (pages_f 100000 (Nat.le_refl _) l a1 a2 a3)
end Go.Proofs.Ytdaokkajbooiaaa
end
