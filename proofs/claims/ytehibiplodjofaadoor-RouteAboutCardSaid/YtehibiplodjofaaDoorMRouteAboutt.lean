/- Texts of this proof, put together: PrB. -/
import Derived.WalkKit
import Derived.Sort.Walk0
import Derived.Laws.Cover1
import Derived.Below
import Derived.Deep.Draws
section
/- Two spellings of an order of strings: no program in sight. -/
namespace Go.Proofs.YtehibiplodjofaaDoor.Pr
open Go.RowKit
set_option linter.unusedVariables false
/-- What is asked of the world's own cells (bytealg's bound; where numbers are laid and read, the library's table of powers and its two errors, too): it holds from the start on. -/
def GM (w : World) : Prop := ∃ m, w.cell? ⟨0, 0, none⟩ = some (.int .i64 m)
theorem GM.below {w w' : World} (hb : Below w.heap.size w w') (h : GM w) : GM w' := by
  obtain ⟨m, h⟩ := h
  exact ⟨m, (hb.cell (World.block_lt_of_cell? w _ h)).trans h⟩
theorem GM.drew {w : World} (h : GM w) : GM w.drew := by
  obtain ⟨m, h⟩ := h
  exact ⟨m, h⟩
theorem GM.drewN {w : World} {n : Nat} (h : GM w) : GM (w.drewN n) := by
  obtain ⟨m, h⟩ := h
  exact ⟨m, h⟩
end Go.Proofs.YtehibiplodjofaaDoor.Pr
end
