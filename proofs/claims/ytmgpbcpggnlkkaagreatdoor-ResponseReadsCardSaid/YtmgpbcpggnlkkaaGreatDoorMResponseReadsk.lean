/- Texts of this proof, put together: PrB. -/
import Derived.WalkKit
import Derived.Sort.Walk0
import Derived.Laws.Cover1
import Derived.Below
import Derived.Deep.Draws
import Derived.Lib.AppendIntMem
import Derived.Test.YtmgpbcpggnlkkaaGreatDoorProg
section
/- Two spellings of an order of strings: no program in sight. -/
namespace Go.Proofs.YtmgpbcpggnlkkaaGreatDoor.Pr
open Go.RowKit
set_option linter.unusedVariables false
/-- What is asked of the world's own cells (bytealg's bound; where numbers are laid and read, the library's table of powers and its two errors, too): it holds from the start on. -/
structure GM (w : World) : Prop where
  max : ∃ m, w.cell? ⟨0, 0, none⟩ = some (.int .i64 m)
  tab : ∃ B, B ≤ w.heap.size ∧ Lib.TabBelow Tryz.prog B w "internal/strconv.uint64pow10" .u64 Lib.pow10Tab
  syn : ∃ ev, w.cell? ⟨1, 0, none⟩ = some ev ∧ (ev = .nilIface ∨ ∃ te pe, ev = .iface te pe)
  ran : ∃ ev, w.cell? ⟨2, 0, none⟩ = some ev ∧ (ev = .nilIface ∨ ∃ te pe, ev = .iface te pe)
theorem GM.below {w w' : World} (hb : Below w.heap.size w w') (h : GM w) : GM w' := by
  obtain ⟨⟨m, h1⟩, ⟨B, hB, h2⟩, ⟨e3, h3, g3⟩, ⟨e4, h4, g4⟩⟩ := h
  exact ⟨⟨m, (hb.cell (World.block_lt_of_cell? w _ h1)).trans h1⟩, ⟨B, Nat.le_trans hB hb.size, h2.on (hb.mono hB)⟩, ⟨e3, (hb.cell (World.block_lt_of_cell? w _ h3)).trans h3, g3⟩, ⟨e4, (hb.cell (World.block_lt_of_cell? w _ h4)).trans h4, g4⟩⟩
theorem GM.drewN {w : World} {n : Nat} (h : GM w) : GM (w.drewN n) := by
  have hb : Below w.heap.size w (w.drewN n) := ⟨rfl, rfl, rfl, Nat.le_refl _, fun _ _ => rfl⟩
  exact GM.below hb h
theorem GM.drew {w : World} (h : GM w) : GM w.drew := by
  have hb : Below w.heap.size w w.drew := ⟨rfl, rfl, rfl, Nat.le_refl _, fun _ _ => rfl⟩
  exact GM.below hb h
end Go.Proofs.YtmgpbcpggnlkkaaGreatDoor.Pr
end
