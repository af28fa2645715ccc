/- Texts of this proof, put together: Push. -/
import Derived.Test.YtmgpbcpggnlkkaaGreatDoorProg
import Derived.Test.YtmgpbcpggnlkkaaGreatDoorMResponseBytesc
import Derived.Test.YtmgpbcpggnlkkaaGreatDoorMResponseBytese
import Derived.Laws.AppendOwnNone
import Derived.DataReads
section
/- append of a whole slice of bytes (nil or not) to a row of the call's own. -/
namespace Go.Proofs.YtmgpbcpggnlkkaaGreatDoor
open Go.RowKit
set_option linter.unusedVariables false
set_option linter.unusedSimpArgs false
/-- A slice value and the cells that it shows. -/
def Src (w : World) (u : Value) (ys : List Value) : Prop := (∃ A c, u = .slice A 0 c ∧ (A = none → c = 0) ∧ ys = []) ∨ ∃ b off c, u = .slice (some ⟨b, off, none⟩) ys.length c ∧ ys.length ≤ c ∧ ∀ j x, ys[j]? = some x → w.cell? ⟨b, off + j, none⟩ = some x
theorem Src.block {w w' : World} {u : Value} {ys : List Value} (h : Src w u ys) (hb : Below w.heap.size w w') : Src w' u ys := by
  rcases h with h | ⟨b, off, c, hu, hle, hc⟩
  · exact .inl h
  · exact .inr ⟨b, off, c, hu, hle, fun j x hj => below_cell hb (hc j x hj)⟩
/-- What is left of a slice behind k elements (the form of the walk: at the end of the room the address stays). -/
theorem Src.drop {w : World} {b off n c k : Nat} {ys : List Value} (h : Src w (.slice (some ⟨b, off, none⟩) n c) ys) (hk : k ≤ n) :
    Src w (.slice (if c = k then some ⟨b, off, none⟩ else some ⟨b, off + k, none⟩) (n - k) (c - k)) (ys.drop k) := by
  rcases h with ⟨A', c', h, _, rfl⟩ | ⟨b', off', c', hu, hle, hc⟩
  · injection h with h1 h2 h3
    subst h2
    obtain rfl : k = 0 := by omega
    refine .inl ⟨_, _, rfl, fun e => ?_, by simp⟩
    split at e <;> cases e
  · injection hu with h1 h2 h3
    injection h1 with h1
    injection h1 with h1 h4
    subst h1 h4 h3
    have hl : (ys.drop k).length = n - k := by simp; omega
    by_cases e : c = k
    · rw [if_pos e]
      refine .inr ⟨b, off, c - k, by rw [hl], by rw [hl]; omega, fun j x hj => ?_⟩
      have := (List.getElem?_eq_some_iff.1 hj).1
      omega
    · rw [if_neg e]
      refine .inr ⟨b, off + k, c - k, by rw [hl], by rw [hl]; omega, fun j x hj => ?_⟩
      rw [Nat.add_assoc]
      exact hc (k + j) x (by rw [List.getElem?_drop] at hj; exact hj)
end Go.Proofs.YtmgpbcpggnlkkaaGreatDoor
end
