/- Texts of this proof, put together: Wq20. -/
import Derived.Test.YtdaokkajbooiaaaMTopTokensB
import Derived.Test.YtdaokkajbooiaaaMTopTokensq
section
/- TopTokens: the walk, over entries that came in. -/
namespace Go.Proofs.Ytdaokkajbooiaaa
open Go.RowKit
set_option linter.unusedVariables false
theorem tokens_walk (v : Value) (a1 a2 : ByteArray) (a3 : Int) (w : World) (h : IsEnts w v) (hMax : ∃ m, w.cell? ⟨0, 0, none⟩ = some (.int .i64 m)) : Calls Try.prog 8 #[v, .string a1, .string a2, .int .i64 a3] w fun e w' => e = .returned (.bool true) ∧ Below w.heap.size w w' := by
  obtain ⟨A, c, l, rfl, hc, hr⟩ := h
  exact Pr.stowagetop_TopTokens.calls 6000 A c l a1 a2 a3 true w hMax hr hc (tok_f 6000 (Nat.le_refl _) l a1 a2 a3)
end Go.Proofs.Ytdaokkajbooiaaa
end
