/- Texts of this proof, put together: Inf, ArrB. -/
import Derived.Test.YtmgpbcpggnlkkaaGreatDoorProg
import Derived.Test.YtmgpbcpggnlkkaaGreatDoorMResponseReadsc
section
/- Rows of this seat's type table. -/
namespace Go.Proofs.YtmgpbcpggnlkkaaGreatDoor
theorem infoU8 : (Tryz.prog.info? 5).map (fun i => (i.zero, i.size, i.bytes)) = some (some (.int .u8 0), 1, 1) := by kernel_rfl
end Go.Proofs.YtmgpbcpggnlkkaaGreatDoor
end
section
/- Arrays of bytes in memory. -/
namespace Go.Proofs.YtmgpbcpggnlkkaaGreatDoor
open Go.RowKit
set_option linter.unusedVariables false
set_option linter.unusedSimpArgs false
def UB (x : UInt8) : Value := .int .u8 (x.toNat : Int)
/-- The cells of an array of n bytes. -/
def ArrB (w : World) (B : Nat) (f : Nat → UInt8) (n : Nat) : Prop := ∀ j, j < n → w.cell? ⟨B, j, none⟩ = some (UB (f j)) ∧ w.frozen? ⟨B, j, none⟩ = false
section
variable {w : World} {B : Nat} {f g : Nat → UInt8} {n : Nat}
theorem ArrB.cell (h : ArrB w B f n) {j : Nat} (hj : j < n) : w.cell? ⟨B, j, none⟩ = some (.int .u8 ((f j).toNat : Int)) := (h j hj).1
theorem ArrB.froz (h : ArrB w B f n) {j : Nat} (hj : j < n) : w.frozen? ⟨B, j, none⟩ = false := (h j hj).2
theorem ArrB.drewN (h : ArrB w B f n) (m : Nat) : ArrB (w.drewN m) B f n := fun j hj => h j hj
theorem ArrB.congr (h : ArrB w B f n) (e : ∀ j, j < n → f j = g j) : ArrB w B g n := fun j hj => by rw [← e j hj]; exact h j hj
theorem ArrB.ofBlock {w' : World} (h : ArrB w B f n) (e : w'.heap[B]? = w.heap[B]?) : ArrB w' B f n := fun j hj => ⟨(World.cell?_of_block (w := w) (w' := w') (a := ⟨B, j, none⟩) e).trans (h j hj).1, (World.frozen?_of_block (w := w) (w' := w') (a := ⟨B, j, none⟩) e).trans (h j hj).2⟩
theorem ArrB.below {w' : World} (h : ArrB w B f n) (hB : B < w.heap.size) (hb : Below w.heap.size w w') : ArrB w' B f n := h.ofBlock (hb.block B hB)
theorem ArrB.alloc (h : ArrB w B f n) (hB : B < w.heap.size) (o : Obj) : ArrB (w.alloc o) B f n := h.below hB ((Below.refl _ w).alloc (Nat.le_refl _) o)
theorem ArrB.set (h : ArrB w B f n) {t : Nat} (ht : t < n) (x : UInt8) : ArrB (w.setCell ⟨B, t, none⟩ (.int .u8 (x.toNat : Int))) B (fun j => if j = t then x else f j) n := fun j hj => by
  refine ⟨?_, by rw [World.frozen?_setCell]; exact (h j hj).2⟩
  by_cases e : j = t
  · subst e
    simp only [if_true]
    exact World.cell?_setCell_same' _ _ _ (by rw [(h j hj).1]; rfl)
  · simp only [if_neg e]
    rw [World.cell?_setCell_other w ⟨B, t, none⟩ ⟨B, j, none⟩ _ (by intro he; exact e (by injection he with _ h2 _; exact h2.symm))]
    exact (h j hj).1
end
end Go.Proofs.YtmgpbcpggnlkkaaGreatDoor
end
