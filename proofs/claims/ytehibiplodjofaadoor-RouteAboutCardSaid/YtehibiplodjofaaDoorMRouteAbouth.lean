/- Texts of this proof, put together: Inf, R04, ArrB, H09. -/
import Derived.Test.YtehibiplodjofaaDoorProg
import Derived.Test.YtehibiplodjofaaDoorMRouteAbouta
section
/- Rows of this seat's type table. -/
namespace Go.Proofs.YtehibiplodjofaaDoor
theorem infoU8 : (Tryd.prog.info? 5).map (fun i => (i.zero, i.size, i.bytes)) = some (some (.int .u8 0), 1, 1) := by kernel_rfl
end Go.Proofs.YtehibiplodjofaaDoor
end
section
/- The walks of the reference's digits (stowageref04). -/
namespace Go.Proofs.YtehibiplodjofaaDoor
open Go.RowKit
set_option linter.unusedVariables false
set_option linter.unusedSimpArgs false
def hexs : List UInt8 → List UInt8
  | [] => []
  | c :: r => hexD (c.toNat / 16) :: hexD (c.toNat % 16) :: hexs r
def undig : List UInt8 → Option (List UInt8)
  | [] => some []
  | [_] => none
  | a :: b :: r => if hexN a.toNat < 0 then none else if hexN b.toNat < 0 then none else (undig r).map (hexByte a b :: ·)
end Go.Proofs.YtehibiplodjofaaDoor
end
section
/- Arrays of bytes in memory. -/
namespace Go.Proofs.YtehibiplodjofaaDoor
open Go.RowKit
set_option linter.unusedVariables false
set_option linter.unusedSimpArgs false
def UB (x : UInt8) : Value := .int .u8 (x.toNat : Int)
/-- The cells of an array of n bytes. -/
def ArrB (w : World) (B : Nat) (f : Nat → UInt8) (n : Nat) : Prop := ∀ j, j < n → w.cell? ⟨B, j, none⟩ = some (UB (f j)) ∧ w.frozen? ⟨B, j, none⟩ = false
section
variable {w : World} {B : Nat} {f g : Nat → UInt8} {n : Nat}
theorem ArrB.cell (h : ArrB w B f n) {j : Nat} (hj : j < n) : w.cell? ⟨B, j, none⟩ = some (.int .u8 ((f j).toNat : Int)) := (h j hj).1
theorem ArrB.froz (h : ArrB w B f n) {j : Nat} (hj : j < n) : w.frozen? ⟨B, j, none⟩ = false := (h j hj).2
theorem ArrB.drewN (h : ArrB w B f n) (m : Nat) : ArrB (w.drewN m) B f n := fun j hj => h j hj
theorem ArrB.congr (h : ArrB w B f n) (e : ∀ j, j < n → f j = g j) : ArrB w B g n := fun j hj => by rw [← e j hj]; exact h j hj
theorem ArrB.ofBlock {w' : World} (h : ArrB w B f n) (e : w'.heap[B]? = w.heap[B]?) : ArrB w' B f n := fun j hj => ⟨(World.cell?_of_block (w := w) (w' := w') (a := ⟨B, j, none⟩) e).trans (h j hj).1, (World.frozen?_of_block (w := w) (w' := w') (a := ⟨B, j, none⟩) e).trans (h j hj).2⟩
theorem ArrB.below {w' : World} (h : ArrB w B f n) (hB : B < w.heap.size) (hb : Below w.heap.size w w') : ArrB w' B f n := h.ofBlock (hb.block B hB)
theorem ArrB.alloc (h : ArrB w B f n) (hB : B < w.heap.size) (o : Obj) : ArrB (w.alloc o) B f n := h.below hB ((Below.refl _ w).alloc (Nat.le_refl _) o)
theorem ArrB.other (h : ArrB w B f n) {p : Addr} (hp : p.block ≠ B) (v : Value) : ArrB (w.setCell p v) B f n := fun j hj => by
  refine ⟨?_, by rw [World.frozen?_setCell]; exact (h j hj).2⟩
  rw [World.cell?_setCell_other w p ⟨B, j, none⟩ v (by intro e; exact hp (by rw [e]))]
  exact (h j hj).1
theorem ArrB.set (h : ArrB w B f n) {t : Nat} (ht : t < n) (x : UInt8) : ArrB (w.setCell ⟨B, t, none⟩ (.int .u8 (x.toNat : Int))) B (fun j => if j = t then x else f j) n := fun j hj => by
  refine ⟨?_, by rw [World.frozen?_setCell]; exact (h j hj).2⟩
  by_cases e : j = t
  · subst e
    simp only [if_true]
    exact World.cell?_setCell_same' _ _ _ (by rw [(h j hj).1]; rfl)
  · simp only [if_neg e]
    rw [World.cell?_setCell_other w ⟨B, t, none⟩ ⟨B, j, none⟩ _ (by intro he; exact e (by injection he with _ h2 _; exact h2.symm))]
    exact (h j hj).1
end
theorem arrB_new (w : World) (c : Array Value) (t : TypeId) (f : Nat → UInt8) (n : Nat) (h : ∀ j, j < n → c[j]? = some (UB (f j))) : ArrB (w.alloc (.cells c t)) w.heap.size f n := fun j hj => by
  have hb := heap_alloc_new w (.cells c t)
  exact ⟨by rw [cell_of_row _ _ j c t (0, 0) hb]; exact h j hj, by unfold World.frozen?; rw [hb]; simp⟩
end Go.Proofs.YtehibiplodjofaaDoor
end
section
/- The eight bytes of a number. -/
namespace Go.Proofs.YtehibiplodjofaaDoor
open Go.RowKit
set_option linter.unusedVariables false
set_option linter.unusedSimpArgs false
def eightB (n i : Nat) : UInt8 := (n / 2 ^ (56 - 8 * i)).toUInt8
def eightL (n : Nat) (k : Nat) : List UInt8 := (List.range k).map (eightB n)
theorem eightB_nat (n i : Nat) : (eightB n i).toNat = n / 2 ^ (56 - 8 * i) % 256 := by simp [eightB]
theorem eightL_succ (n k : Nat) : eightL n (k + 1) = eightL n k ++ [eightB n k] := by simp [eightL, List.range_succ]
theorem eightL_len (n k : Nat) : (eightL n k).length = k := by simp [eightL]
end Go.Proofs.YtehibiplodjofaaDoor
end
