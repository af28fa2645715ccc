/- Texts of this proof, put together: Rp29. -/
import Derived.Test.YtehibiplodjofaaDoorMRouteAbouty
import Derived.Test.YtehibiplodjofaaDoorMRouteAboutA
import Derived.Test.YtehibiplodjofaaDoorMRouteAboutu
import Derived.StillTailTactics
section
/- route.beside: what it keeps, step by step. -/
namespace Go.Proofs.YtehibiplodjofaaDoor
open Go.RowKit Go.Proofs.YtehibiplodjofaaDoorW.PrintWords Go.Proofs.YtehibiplodjofaaDoorW.PrintLast Go.Proofs.YtehibiplodjofaaDoorW.PrintMore
set_option linter.unusedVariables false
set_option linter.unusedSimpArgs false
structure CallP where
  kind : Int
  bucket : ByteArray
  key : ByteArray
  version : ByteArray
  upload : ByteArray
  part : Int
  pre : ByteArray
  delim : ByteArray
  aft : ByteArray
  behind : ByteArray
  most : Int
  ranged : Bool
  frm : Int
  til : Int
def callV (c : CallP) (b : Value) : Array Value := #[.int .i64 c.kind, .string c.bucket, .string c.key, .string c.version, .string c.upload, .int .i64 c.part, .string c.pre, .string c.delim, .string c.aft, .string c.behind, .int .i64 c.most, .bool c.ranged, .int .i64 c.frm, .int .i64 c.til, b]
structure Bes (w0 w : World) (g : Nat) (rq : Array Value) (l : List PairT) (cs : Array Value) (f : Bool) : Prop where
  lt : g < w0.heap.size
  hg : w.heap[g]? = some (.cells cs 26 (0, 0))
  hR : w.heap[w0.heap.size]? = some (.cells rq 31 (0, 0))
  hP : PairsAt w (w0.heap.size + 1) (fun k => k = g ∨ k = w0.heap.size + 1 + 1) l
  hF : w.heap[w0.heap.size + 1 + 1]? = some (.cells #[.bool f] 4 (0, 0))
  hX : w.heap[w0.heap.size + 1 + 1 + 1]? = some (.cells #[textFn (w0.heap.size + 1)] 73 (0, 0))
  hk : Keeps (fun k => k = g) w0 w
theorem Bes.step {w0 w w' : World} {g : Nat} {rq : Array Value} {l : List PairT} {cs cs' : Array Value} {f f' : Bool} (h : Bes w0 w g rq l cs f) (hg' : w'.heap[g]? = some (.cells cs' 26 (0, 0))) (hF' : w'.heap[w0.heap.size + 1 + 1]? = some (.cells #[.bool f'] 4 (0, 0)))
    (hk : Keeps (fun k => k = g ∨ k = w0.heap.size + 1 + 1) w w') : Bes w0 w' g rq l cs' f' := by
  have hlt := h.lt
  exact ⟨hlt, hg', (hk.block _ (blk_lt h.hR) (by omega)).trans h.hR, h.hP.keep hk, hF', (hk.block _ (blk_lt h.hX) (by omega)).trans h.hX, h.hk.trans hk (fun i hi h => by rcases h with h | h; exact h; omega)⟩
theorem Bes.below {w0 w w' : World} {g : Nat} {rq : Array Value} {l : List PairT} {cs : Array Value} {f : Bool} (h : Bes w0 w g rq l cs f) (hb : Below w.heap.size w w') : Bes w0 w' g rq l cs f :=
  h.step (blk_below h.hg hb) (blk_below h.hF hb) (Keeps.ofBelow _ hb)
theorem Bes.drew {w0 w : World} {g : Nat} {rq : Array Value} {l : List PairT} {cs : Array Value} {f : Bool} (h : Bes w0 w g rq l cs f) : Bes w0 w.drew g rq l cs f := h.below ((Below.refl _ w).drew)
theorem Bes.drewN {w0 w : World} {g : Nat} {rq : Array Value} {l : List PairT} {cs : Array Value} {f : Bool} (h : Bes w0 w g rq l cs f) (n : Nat) : Bes w0 (w.drewN n) g rq l cs f := h.below (below_drewN (Below.refl _ w) n)
theorem Bes.set {w0 w : World} {g : Nat} {rq : Array Value} {l : List PairT} {cs : Array Value} {f : Bool} (h : Bes w0 w g rq l cs f) (i : Nat) (u : Value) : Bes w0 (w.setCell ⟨g, i, none⟩ u) g rq l (cs.setIfInBounds i u) f :=
  h.step (blk_set h.hg i u) (blk_far h.hF (p := ⟨g, i, none⟩) (by have := h.lt; show w0.heap.size + 1 + 1 ≠ g; omega) u) ((Keeps.refl _ w).setCell (p := ⟨g, i, none⟩) (fun _ => .inl rfl) u)
theorem Bes.setF {w0 w : World} {g : Nat} {rq : Array Value} {l : List PairT} {cs : Array Value} {f : Bool} (h : Bes w0 w g rq l cs f) (f' : Bool) : Bes w0 (w.setCell ⟨w0.heap.size + 1 + 1, 0, none⟩ (.bool f')) g rq l cs f' :=
  h.step (blk_far h.hg (p := ⟨w0.heap.size + 1 + 1, 0, none⟩) (by have := h.lt; show g ≠ w0.heap.size + 1 + 1; omega) _) (blk_set h.hF 0 (.bool f')) ((Keeps.refl _ w).setCell (p := ⟨w0.heap.size + 1 + 1, 0, none⟩) (fun _ => .inr rfl) _)
theorem Bes.cF {w0 w : World} {g : Nat} {rq : Array Value} {l : List PairT} {cs : Array Value} {f : Bool} (h : Bes w0 w g rq l cs f) : w.cell? ⟨w0.heap.size + 1 + 1, 0, none⟩ = some (.bool f) := by rw [blk_cell h.hF]; rfl
theorem Bes.fF {w0 w : World} {g : Nat} {rq : Array Value} {l : List PairT} {cs : Array Value} {f : Bool} (h : Bes w0 w g rq l cs f) : w.frozen? ⟨w0.heap.size + 1 + 1, 0, none⟩ = false := blk_frozen h.hF 0
theorem Bes.cX {w0 w : World} {g : Nat} {rq : Array Value} {l : List PairT} {cs : Array Value} {f : Bool} (h : Bes w0 w g rq l cs f) : w.cell? ⟨w0.heap.size + 1 + 1 + 1, 0, none⟩ = some (.func (.func 31) #[] #[.pointer (some ⟨w0.heap.size + 1, 0, none⟩)]) := by rw [blk_cell h.hX]; rfl
theorem Bes.c {w0 w : World} {g : Nat} {rq : Array Value} {l : List PairT} {cs : Array Value} {f : Bool} (h : Bes w0 w g rq l cs f) (i : Nat) {u : Value} (hu : cs[i]? = some u) : w.cell? ⟨g, i, none⟩ = some u := by rw [blk_cell h.hg]; exact hu
theorem Bes.fz {w0 w : World} {g : Nat} {rq : Array Value} {l : List PairT} {cs : Array Value} {f : Bool} (h : Bes w0 w g rq l cs f) (i : Nat) : w.frozen? ⟨g, i, none⟩ = false := blk_frozen h.hg i
theorem Bes.cR {w0 w : World} {g : Nat} {rq : Array Value} {l : List PairT} {cs : Array Value} {f : Bool} (h : Bes w0 w g rq l cs f) (i : Nat) {u : Value} (hu : rq[i]? = some u) : w.cell? ⟨w0.heap.size, i, none⟩ = some u := by rw [blk_cell h.hR]; exact hu
/-- The beginning: the five blocks are laid. -/
theorem Bes.start {w : World} {g : Nat} {rq : Array Value} {l : List PairT} {cs : Array Value} {A : Option Addr} {c : Nat} (hg : w.heap[g]? = some (.cells cs 26 (0, 0))) (hl : l.length ≤ 32) (hC : Kd.C Pr.k41 w A l.length l) (hc : l.length ≤ c) (hA : ∀ ad, A = some ad → 0 < l.length → ad.block ≠ g ∧ ad.block < w.heap.size) :
    Bes w ((((((w.alloc (.cells rq 31)).alloc (.cells #[.slice A l.length c] 29)).alloc (.cells #[.bool true] 4)).alloc (.cells #[textFn (w.heap.size + 1)] 73)))) g rq l cs true := by
  have hlt := blk_lt hg
  have b1 : Below w.heap.size w (w.alloc (.cells rq 31)) := (Below.refl _ w).alloc (Nat.le_refl _) _
  generalize hW1 : w.alloc (.cells rq 31) = W1 at b1
  have s1 : W1.heap.size = w.heap.size + 1 := by rw [← hW1]; simp
  have r1 : W1.heap[w.heap.size]? = some (.cells rq 31 (0, 0)) := by rw [← hW1]; exact heap_alloc_new _ _
  have b2 : Below W1.heap.size W1 (W1.alloc (.cells #[.slice A l.length c] 29)) := (Below.refl _ W1).alloc (Nat.le_refl _) _
  generalize hW2 : W1.alloc (.cells #[.slice A l.length c] 29) = W2 at b2
  have s2 : W2.heap.size = w.heap.size + 1 + 1 := by rw [← hW2]; simp [s1]
  have p2 : W2.heap[w.heap.size + 1]? = some (.cells #[.slice A l.length c] 29 (0, 0)) := by rw [← hW2, ← s1]; exact heap_alloc_new _ _
  have b3 : Below W2.heap.size W2 (W2.alloc (.cells #[.bool true] 4)) := (Below.refl _ W2).alloc (Nat.le_refl _) _
  generalize hW3 : W2.alloc (.cells #[.bool true] 4) = W3 at b3
  have s3 : W3.heap.size = w.heap.size + 1 + 1 + 1 := by rw [← hW3]; simp [s2]
  have f3 : W3.heap[w.heap.size + 1 + 1]? = some (.cells #[.bool true] 4 (0, 0)) := by rw [← hW3, ← s2]; exact heap_alloc_new _ _
  have b4 : Below W3.heap.size W3 (W3.alloc (.cells #[textFn (w.heap.size + 1)] 73)) := (Below.refl _ W3).alloc (Nat.le_refl _) _
  have x4 : (W3.alloc (.cells #[textFn (w.heap.size + 1)] 73)).heap[w.heap.size + 1 + 1 + 1]? = some (.cells #[textFn (w.heap.size + 1)] 73 (0, 0)) := by rw [← s3]; exact heap_alloc_new _ _
  have b34 := b3.trans (b4.mono b3.size)
  have b24 := b2.trans (b34.mono b2.size)
  have b14 := b1.trans (b24.mono b1.size)
  exact ⟨hlt, blk_below hg b14, blk_below r1 b24, ⟨hl, by omega, A, c, blk_below p2 b34, Kd.C_below hC b14, hc, fun ad h1 h2 => by have := hA ad h1 h2; omega⟩, blk_below f3 b4, x4, Keeps.ofBelow _ b14⟩
end Go.Proofs.YtehibiplodjofaaDoor
end
