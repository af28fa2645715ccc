/- Texts of this proof, put together: PrB. -/
import Derived.WalkKit
import Derived.Sort.Walk0
import Derived.Laws.Cover1
import Derived.Below
import Derived.Deep.Draws
section
/- Two spellings of an order of strings: no program in sight. -/
namespace Go.Proofs.Ytdaokkajbooiaaa.Pr
open Go.RowKit
set_option linter.unusedVariables false
theorem bl_leq {a b : List UInt8} (h : Op.bytesLess a b = true) : (Op.bytesLess b a || b == a) = false := by
  rw [bytesLess_eq] at h ⊢
  have h := of_decide_eq_true h
  have h1 : ¬ b < a := fun k => List.lt_irrefl a (List.lt_trans h k)
  have h2 : ¬ b = a := fun e => List.lt_irrefl a (e ▸ h)
  simp [h1, h2]
theorem bl_leq' {a b : List UInt8} (h : Op.bytesLess a b = false) : (Op.bytesLess b a || b == a) = true := by
  rw [bytesLess_eq] at h ⊢
  have h := of_decide_eq_false h
  by_cases k : b < a
  · simp [k]
  · have : a = b := List.le_antisymm (List.not_lt.1 k) (List.not_lt.1 h)
    simp [this]
theorem bl_le (a b : List UInt8) : (Op.bytesLess b a || b == a) = !(Op.bytesLess a b) := by
  cases h : Op.bytesLess a b
  · rw [bl_leq' h]; rfl
  · rw [bl_leq h]; rfl
theorem leq_as_less (t : TypeId) (a b : ByteArray) : binOp .leq t (.string a) (.string b) = pure (Value.bool (!(Op.bytesLess b.toList a.toList))) := by
  rw [Go.binOp_string_leq, bl_le]
/-- What is asked of the world's own cells (bytealg's bound): it holds from the start on. -/
def GM (w : World) : Prop := ∃ m, w.cell? ⟨0, 0, none⟩ = some (.int .i64 m)
theorem GM.below {w w' : World} (hb : Below w.heap.size w w') (h : GM w) : GM w' := by
  obtain ⟨m, h⟩ := h
  exact ⟨m, (hb.cell (World.block_lt_of_cell? w _ h)).trans h⟩
theorem GM.drew {w : World} (h : GM w) : GM w.drew := by
  obtain ⟨m, h⟩ := h
  exact ⟨m, h⟩
theorem GM.drewN {w : World} {n : Nat} (h : GM w) : GM (w.drewN n) := by
  obtain ⟨m, h⟩ := h
  exact ⟨m, h⟩
end Go.Proofs.Ytdaokkajbooiaaa.Pr
end
