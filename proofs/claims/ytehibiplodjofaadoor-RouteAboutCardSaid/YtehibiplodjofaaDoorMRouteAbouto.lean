/- Texts of this proof, put together: H10, H11. -/
import Derived.Test.YtehibiplodjofaaDoorProg
import Derived.Test.YtehibiplodjofaaDoorMRouteAboutl
import Derived.Test.YtehibiplodjofaaDoorMRouteAbouth
import Derived.Test.YtehibiplodjofaaDoorMRouteAboutn
section
/- The sums: the message in blocks; stowageref04.Sum. -/
namespace Go.Proofs.YtehibiplodjofaaDoor
open Go.RowKit
set_option linter.unusedVariables false
set_option linter.unusedSimpArgs false
def zpad (n : Nat) : Nat := (119 - n % 64) % 64
/-- The message, filled up. -/
def msg (l : List UInt8) : List UInt8 := l ++ [128] ++ List.replicate (zpad l.length) 0 ++ eightL (8 * l.length) 8
def blocks (s : S8) (l : List UInt8) : Nat → S8
  | 0 => s
  | n + 1 => blockS shaK (blocks s l n) (l.drop (64 * n))
theorem blocks_succ (s : S8) (l : List UInt8) (n : Nat) : blocks s l (n + 1) = blockS shaK (blocks s l n) (l.drop (64 * n)) := rfl
def shaS (l : List UInt8) : S8 := blocks sha0 (msg l) ((msg l).length / 64)
def s8bytes (s : S8) : List UInt8 := (List.range 32).map fun i => (s.at (i / 4) >>> (24 - 8 * (i % 4)).toUInt32).toUInt8
def dig (l : List UInt8) : List UInt8 := s8bytes (shaS l)
def digV (l : List UInt8) : Value := .agg ((Lib.byteCells (dig l)).toArray)
theorem u8one (l : List UInt8) : ∀ y ∈ Lib.byteCells l, y.oneCell' = true := by
  intro y hy
  simp [Lib.byteCells] at hy
  obtain ⟨c, _, rfl⟩ := hy
  rfl
/-- A whole block of cells. -/
def Row (w : World) (B : Nat) (c : Array Value) (t : TypeId) : Prop := w.heap[B]? = some (.cells c t (0, 0))
theorem Row.lt {w : World} {B : Nat} {c : Array Value} {t : TypeId} (h : Row w B c t) : B < w.heap.size := by
  unfold Row at h
  exact (Array.getElem?_eq_some_iff.1 h).1
theorem Row.alloc {w : World} {B : Nat} {c : Array Value} {t : TypeId} (h : Row w B c t) (o : Obj) : Row (w.alloc o) B c t := (((Below.refl _ w).alloc (Nat.le_refl _) o).block B h.lt).trans h
theorem Row.grown {w w' : World} {B : Nat} {c : Array Value} {t : TypeId} {row : Option Nat} (h : Row w B c t) (hg : w.grownBy w' row) (hr : ∀ k, row = some k → B < k) : Row w' B c t :=
  (hg.block B h.lt (fun e => by have := hr B (by rw [← e]); omega)).trans h
theorem Row.below {w w' : World} {B n : Nat} {c : Array Value} {t : TypeId} (h : Row w B c t) (hb : Below n w w') (hB : B < n) : Row w' B c t := (hb.block B hB).trans h
theorem Src.form {w : World} {u : Value} {ys : List Value} (h : Src w u ys) : ∃ A c, u = .slice A ys.length c := by
  rcases h with ⟨A, c, rfl, _, rfl⟩ | ⟨b, off, c, hu, _, _⟩
  · exact ⟨A, c, rfl⟩
  · exact ⟨_, c, hu⟩
theorem setS_heap {w : World} {B C : Nat} (h : B ≠ C) (y : S8) : (setS w B y).heap[C]? = w.heap[C]? := by simp [setS, World.setCell, Array.getElem?_modify, h]
theorem ownsRow_heap {w w' : World} {base : Nat} {e : TypeId} {size : Nat} {v : Value} {n : Nat} {xs : List Value} (h : w.ownsRow base e size v n xs) (hh : ∀ g, v.ownBlock = some g → w'.heap[g]? = w.heap[g]?) : w'.ownsRow base e size v n xs := by
  rcases h with ⟨h1, h2 | ⟨g, cap, cur, hv, hb, hg, h3⟩⟩
  · exact ⟨h1, .inl h2⟩
  · exact ⟨h1, .inr ⟨g, cap, cur, hv, hb, (hh g (by rw [hv]; rfl)).trans hg, h3⟩⟩
def slLen : Value → Nat
  | .slice _ n _ => n
  | _ => 0
theorem pad_step (n k : Nat) (h : k ≤ zpad n) : ((n + 1 + k : Nat) : Int) % 64 = 56 ↔ k = zpad n := by unfold zpad at *; omega
theorem Src.own {w : World} {base n : Nat} {v : Value} {e : TypeId} {ys : List Value} (h : w.ownsRow base e 1 v n ys) : Src w v ys := by
  have hl : ys.length = n := by have := h.1; omega
  rcases h with ⟨h1, ⟨rfl, h2⟩ | ⟨g, cap, cur, hv, hb, hg, hc, h3⟩⟩
  · exact .inl ⟨none, 0, rfl, fun _ => rfl, List.length_eq_zero_iff.1 (by omega)⟩
  · have hown : w.ownsRow base e 1 v n ys := ⟨h1, .inr ⟨g, cap, cur, hv, hb, hg, hc, h3⟩⟩
    subst hv
    refine .inr ⟨g, 0, cap, by rw [hl], by omega, fun j x hj => ?_⟩
    have hj' : j < ys.length := (List.getElem?_eq_some_iff.1 hj).1
    rw [Nat.zero_add, hown.cellAt j (by omega)]
    exact hj
def dByte (s : S8) (k : Nat) : UInt8 := (s.at (k / 4) >>> (24 - 8 * (k % 4)).toUInt32).toUInt8
def upB (s : S8) (k n : Nat) : UInt8 := if n < k then dByte s n else 0
theorem Row.setSelf {w : World} {B : Nat} {c : Array Value} {t : TypeId} (h : Row w B c t) (k : Nat) (v : Value) : ∃ c', Row (w.setCell ⟨B, k, none⟩ v) B c' t ∧ c'.size = c.size := by
  unfold Row at *
  refine ⟨c.setIfInBounds k v, ?_, by simp⟩
  simp [World.setCell, Array.getElem?_modify, h]
structure DigR (w wr : World) (s : S8) (p4 : Nat) (k : Nat) (wx : World) : Prop where
  below : Below w.heap.size w wx
  size : wr.heap.size < wx.heap.size
  row : Row wx w.heap.size (Array.replicate 32 (.int .u8 0)) 97
  arr : Arr wx p4 s.at 8
  d : ArrB wx wr.heap.size (upB s k) 32
  rd : ∃ cur, Row wx wr.heap.size cur 97 ∧ cur.size = 32
theorem DigR.step {w wr wx : World} {s : S8} {p4 k : Nat} (h : DigR w wr s p4 k wx) (hk : k < 32) (h1 : w.heap.size < wr.heap.size) (h2 : p4 < wr.heap.size) :
    DigR w wr s p4 (k + 1) (wx.setCell ⟨wr.heap.size, k, none⟩ (.int .u8 ((dByte s k).toNat : Int))) :=
  ⟨h.below.setCell (p := ⟨wr.heap.size, k, none⟩) (by show w.heap.size ≤ wr.heap.size; omega) _, by simp only [World.size_setCell]; exact h.size,
    (by have hb := ((Below.refl wr.heap.size wx).setCell (p := ⟨wr.heap.size, k, none⟩) (Nat.le_refl _) (.int .u8 ((dByte s k).toNat : Int))); exact (hb.block w.heap.size h1).trans h.row),
    h.arr.other (by show wr.heap.size ≠ p4; omega) _, (h.d.set hk (dByte s k)).congr fun j hj => by
      unfold upB
      by_cases e : j = k
      · rw [if_pos e, if_pos (by omega), e]
      · rw [if_neg e]
        by_cases e2 : j < k
        · rw [if_pos e2, if_pos (by omega)]
        · rw [if_neg e2, if_neg (by omega)], (by obtain ⟨cur, hc, hs⟩ := h.rd; obtain ⟨c', hc', hs'⟩ := hc.setSelf k (.int .u8 ((dByte s k).toNat : Int)); exact ⟨c', hc', hs'.trans hs⟩)⟩
theorem digR_end {w wr wx : World} {s : S8} {p4 : Nat} (h : DigR w wr s p4 32 wx) : Row wx wr.heap.size (Lib.byteCells (s8bytes s)).toArray 97 := by
  obtain ⟨cur, hc, hs⟩ := h.rd
  have e : cur = (Lib.byteCells (s8bytes s)).toArray := by
    apply Array.ext_getElem?
    intro j
    by_cases hj : j < 32
    · have h1 := h.d.cell (j := j) hj
      rw [cell_of_row _ _ j cur _ (0, 0) hc] at h1
      rw [h1]
      simp [Lib.byteCells, s8bytes, hj, upB, dByte]
    · rw [Array.getElem?_eq_none (by omega), Array.getElem?_eq_none (by simp [Lib.byteCells, s8bytes]; omega)]
  rw [← e]
  exact hc
theorem Row.setRow {w : World} {B : Nat} {c c' : Array Value} {t : TypeId} (h : Row w B c t) : Row (w.setRow B c') B c' t := by
  unfold Row at *
  simp [World.setRow, Array.getElem?_modify, h]
theorem below_setRow {w0 w : World} {n B : Nat} {c' : Array Value} (h : Below n w0 w) (hB : n ≤ B) : Below n w0 (w.setRow B c') :=
  ⟨h.os, h.tape, h.output, by simpa [World.setRow] using h.size, fun k hk => by
    rw [← h.block k hk]
    simp [World.setRow, Array.getElem?_modify, show ¬ B = k by omega]⟩
theorem dByte0 (s : S8) (k : Nat) (x : UInt32) (hx : s.at (k / 4) = x) (h : (k : Int) % 4 = 0) : (x.toNat : Int) / (16777216 : Int) % (256 : Int) = ((dByte s k).toNat : Int) := by
  unfold dByte
  rw [show k % 4 = 0 by omega, hx]
  simp [UInt32.toNat_shiftRight, Nat.shiftRight_eq_div_pow]
theorem dByte1 (s : S8) (k : Nat) (x : UInt32) (hx : s.at (k / 4) = x) (h : (k : Int) % 4 = 1) : (x.toNat : Int) / (65536 : Int) % (256 : Int) = ((dByte s k).toNat : Int) := by
  unfold dByte
  rw [show k % 4 = 1 by omega, hx]
  simp [UInt32.toNat_shiftRight, Nat.shiftRight_eq_div_pow]
theorem dByte2 (s : S8) (k : Nat) (x : UInt32) (hx : s.at (k / 4) = x) (h : (k : Int) % 4 = 2) : (x.toNat : Int) / (256 : Int) % (256 : Int) = ((dByte s k).toNat : Int) := by
  unfold dByte
  rw [show k % 4 = 2 by omega, hx]
  simp [UInt32.toNat_shiftRight, Nat.shiftRight_eq_div_pow]
theorem dByte3 (s : S8) (k : Nat) (x : UInt32) (hx : s.at (k / 4) = x) (h : (k : Int) % 4 = 3) : (x.toNat : Int) % (256 : Int) = ((dByte s k).toNat : Int) := by
  unfold dByte
  rw [show k % 4 = 3 by omega, hx]
  simp [UInt32.toNat_shiftRight, Nat.shiftRight_eq_div_pow]
end Go.Proofs.YtehibiplodjofaaDoor
end
section
/- Plain laws on blocks: a block looks at its first 64 bytes alone. -/
namespace Go.Proofs.YtehibiplodjofaaDoor
open Go.RowKit
set_option linter.unusedVariables false
set_option linter.unusedSimpArgs false
theorem wordAt_app (l r : List UInt8) (t : Nat) (h : 4 * t + 4 ≤ l.length) : wordAt (l ++ r) t = wordAt l t := by
  unfold wordAt wpart
  rw [List.drop_append_of_le_length (by omega), List.take_append_of_le_length (by simp; omega)]
theorem schedF_app (l r : List UInt8) (h : 64 ≤ l.length) : schedF (l ++ r) = schedF l := by
  funext j
  unfold schedF sched
  have e : (List.range 16).map (wordAt (l ++ r)) = (List.range 16).map (wordAt l) := by
    apply List.map_congr_left
    intro t ht
    have := List.mem_range.1 ht
    exact wordAt_app l r t (by omega)
  rw [e]
theorem blockS_app (K : List UInt32) (s : S8) (l r : List UInt8) (h : 64 ≤ l.length) : blockS K s (l ++ r) = blockS K s l := by
  unfold blockS rnds
  rw [schedF_app l r h]
end Go.Proofs.YtehibiplodjofaaDoor
end
