/- Plain laws on blocks: a block looks at its first 64 bytes alone. -/
import Derived.Test.YtdbdgpaafjdidaaDoorProg
import Derived.Test.YtdbdgpaafjdidaaDoorH10
namespace Go.Proofs.YtdbdgpaafjdidaaDoor
open Go.RowKit
set_option linter.unusedVariables false
set_option linter.unusedSimpArgs false
theorem wordAt_app (l r : List UInt8) (t : Nat) (h : 4 * t + 4 ≤ l.length) : wordAt (l ++ r) t = wordAt l t := by
  unfold wordAt wpart
  rw [List.drop_append_of_le_length (by omega), List.take_append_of_le_length (by simp; omega)]
theorem schedF_app (l r : List UInt8) (h : 64 ≤ l.length) : schedF (l ++ r) = schedF l := by
  funext j
  unfold schedF sched
  have e : (List.range 16).map (wordAt (l ++ r)) = (List.range 16).map (wordAt l) := by
    apply List.map_congr_left
    intro t ht
    have := List.mem_range.1 ht
    exact wordAt_app l r t (by omega)
  rw [e]
theorem blockS_app (K : List UInt32) (s : S8) (l r : List UInt8) (h : 64 ≤ l.length) : blockS K s (l ++ r) = blockS K s l := by
  unfold blockS rnds
  rw [schedF_app l r h]
end Go.Proofs.YtdbdgpaafjdidaaDoor
