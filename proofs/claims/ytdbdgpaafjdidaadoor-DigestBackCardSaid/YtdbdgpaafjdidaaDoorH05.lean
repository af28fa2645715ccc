/- Arrays of 32-bit words in memory; SHA-256's schedule and rounds, in plain words. -/
import Derived.Test.YtdbdgpaafjdidaaDoorProg
import Derived.Test.YtdbdgpaafjdidaaDoorH04
namespace Go.Proofs.YtdbdgpaafjdidaaDoor
open Go.RowKit
set_option linter.unusedVariables false
set_option linter.unusedSimpArgs false
def U (x : UInt32) : Value := .int .u32 (x.toNat : Int)
/-- The cells of an array of n words. -/
def Arr (w : World) (B : Nat) (f : Nat → UInt32) (n : Nat) : Prop := ∀ j, j < n → w.cell? ⟨B, j, none⟩ = some (U (f j)) ∧ w.frozen? ⟨B, j, none⟩ = false
section
variable {w : World} {B : Nat} {f g : Nat → UInt32} {n : Nat}
theorem Arr.cell (h : Arr w B f n) {j : Nat} (hj : j < n) : w.cell? ⟨B, j, none⟩ = some (.int .u32 ((f j).toNat : Int)) := (h j hj).1
theorem Arr.froz (h : Arr w B f n) {j : Nat} (hj : j < n) : w.frozen? ⟨B, j, none⟩ = false := (h j hj).2
theorem Arr.drewN (h : Arr w B f n) (m : Nat) : Arr (w.drewN m) B f n := fun j hj => h j hj
theorem Arr.congr (h : Arr w B f n) (e : ∀ j, j < n → f j = g j) : Arr w B g n := fun j hj => by rw [← e j hj]; exact h j hj
theorem Arr.ofBlock {w' : World} (h : Arr w B f n) (e : w'.heap[B]? = w.heap[B]?) : Arr w' B f n := fun j hj => ⟨(World.cell?_of_block (w := w) (w' := w') (a := ⟨B, j, none⟩) e).trans (h j hj).1, (World.frozen?_of_block (w := w) (w' := w') (a := ⟨B, j, none⟩) e).trans (h j hj).2⟩
theorem Arr.below {w' : World} (h : Arr w B f n) (hB : B < w.heap.size) (hb : Below w.heap.size w w') : Arr w' B f n := h.ofBlock (hb.block B hB)
theorem Arr.alloc (h : Arr w B f n) (hB : B < w.heap.size) (o : Obj) : Arr (w.alloc o) B f n := h.below hB ((Below.refl _ w).alloc (Nat.le_refl _) o)
theorem Arr.other (h : Arr w B f n) {p : Addr} (hp : p.block ≠ B) (v : Value) : Arr (w.setCell p v) B f n := fun j hj => by
  refine ⟨?_, by rw [World.frozen?_setCell]; exact (h j hj).2⟩
  rw [World.cell?_setCell_other w p ⟨B, j, none⟩ v (by intro e; exact hp (by rw [e]))]
  exact (h j hj).1
theorem Arr.set (h : Arr w B f n) {t : Nat} (ht : t < n) (x : UInt32) : Arr (w.setCell ⟨B, t, none⟩ (.int .u32 (x.toNat : Int))) B (fun j => if j = t then x else f j) n := fun j hj => by
  refine ⟨?_, by rw [World.frozen?_setCell]; exact (h j hj).2⟩
  by_cases e : j = t
  · subst e
    simp only [if_true]
    exact World.cell?_setCell_same' _ _ _ (by rw [(h j hj).1]; rfl)
  · simp only [if_neg e]
    rw [World.cell?_setCell_other w ⟨B, t, none⟩ ⟨B, j, none⟩ _ (by intro he; exact e (by injection he with _ h2 _; exact h2.symm))]
    exact (h j hj).1
end
/-! The plain side. -/
def wpart (l : List UInt8) (i : Nat) : UInt32 := (l.take i).foldl (fun a c => (a <<< 8) ||| c.toUInt32) 0
def wordAt (l : List UInt8) (t : Nat) : UInt32 := wpart (l.drop (4 * t)) 4
def sg0 (x : UInt32) : UInt32 := rot x 7 ^^^ rot x 18 ^^^ (x >>> 3)
def sg1 (x : UInt32) : UInt32 := rot x 17 ^^^ rot x 19 ^^^ (x >>> 10)
theorem sg0_def (x : UInt32) : sg0 x = rot x 7 ^^^ rot x 18 ^^^ (x >>> 3) := rfl
theorem sg1_def (x : UInt32) : sg1 x = rot x 17 ^^^ rot x 19 ^^^ (x >>> 10) := rfl
def sNext (ws : List UInt32) : UInt32 := sg1 (ws.getD (ws.length - 2) 0) + ws.getD (ws.length - 7) 0 + sg0 (ws.getD (ws.length - 15) 0) + ws.getD (ws.length - 16) 0
def sGrow : Nat → List UInt32 → List UInt32
  | 0, ws => ws
  | n + 1, ws => sGrow n (ws ++ [sNext ws])
def sched (l : List UInt8) : List UInt32 := sGrow 48 ((List.range 16).map (wordAt l))
def schedF (l : List UInt8) (j : Nat) : UInt32 := (sched l).getD j 0
theorem sGrow_get (n : Nat) (ws : List UInt32) : (∀ j, j < ws.length → (sGrow n ws).getD j 0 = ws.getD j 0) ∧ (sGrow n ws).length = ws.length + n ∧
    (16 ≤ ws.length → ∀ j, ws.length ≤ j → j < ws.length + n → (sGrow n ws).getD j 0 = sg1 ((sGrow n ws).getD (j - 2) 0) + (sGrow n ws).getD (j - 7) 0 + sg0 ((sGrow n ws).getD (j - 15) 0) + (sGrow n ws).getD (j - 16) 0) := by
  induction n generalizing ws with
  | zero => exact ⟨fun _ _ => rfl, rfl, fun _ j h1 h2 => by omega⟩
  | succ n ih =>
    obtain ⟨h1, h2, h3⟩ := ih (ws ++ [sNext ws])
    simp only [List.length_append, List.length_cons, List.length_nil] at h1 h2 h3
    have low : ∀ j, j < ws.length → (sGrow (n + 1) ws).getD j 0 = ws.getD j 0 := fun j hj => by
      show (sGrow n (ws ++ [sNext ws])).getD j 0 = _
      rw [h1 j (by omega)]
      simp [List.getD_eq_getElem?_getD, List.getElem?_append_left hj]
    refine ⟨low, by show (sGrow n (ws ++ [sNext ws])).length = _; omega, fun h16 j hj1 hj2 => ?_⟩
    by_cases e : j = ws.length
    · subst e
      rw [low (ws.length - 2) (by omega), low (ws.length - 7) (by omega), low (ws.length - 15) (by omega), low (ws.length - 16) (by omega)]
      show (sGrow n (ws ++ [sNext ws])).getD ws.length 0 = _
      rw [h1 _ (by omega)]
      simp [List.getD_eq_getElem?_getD, sNext]
    · exact h3 (by omega) j (by omega) (by omega)
theorem schedF_lo (l : List UInt8) (j : Nat) (hj : j < 16) : schedF l j = wordAt l j := by
  unfold schedF sched
  rw [(sGrow_get 48 _).1 j (by simpa using hj)]
  simp [List.getD_eq_getElem?_getD, hj]
theorem schedF_hi (l : List UInt8) (j : Nat) (h1 : 16 ≤ j) (h2 : j < 64) : schedF l j = sg1 (schedF l (j - 2)) + schedF l (j - 7) + sg0 (schedF l (j - 15)) + schedF l (j - 16) := by
  unfold schedF sched
  exact (sGrow_get 48 _).2.2 (by simp) j (by simpa using h1) (by simpa using h2)
structure S8 where
  (a b c d e f g h : UInt32)
def bs0 (x : UInt32) : UInt32 := rot x 2 ^^^ rot x 13 ^^^ rot x 22
def bs1 (x : UInt32) : UInt32 := rot x 6 ^^^ rot x 11 ^^^ rot x 25
theorem bs0_def (x : UInt32) : bs0 x = rot x 2 ^^^ rot x 13 ^^^ rot x 22 := rfl
theorem bs1_def (x : UInt32) : bs1 x = rot x 6 ^^^ rot x 11 ^^^ rot x 25 := rfl
def rT1 (s : S8) (k w : UInt32) : UInt32 := s.h + bs1 s.e + ((s.e &&& s.f) ^^^ (~~~s.e &&& s.g)) + k + w
def rT2 (s : S8) : UInt32 := bs0 s.a + ((s.a &&& s.b) ^^^ (s.a &&& s.c) ^^^ (s.b &&& s.c))
def rnd (s : S8) (k w : UInt32) : S8 := ⟨rT1 s k w + rT2 s, s.a, s.b, s.c, s.d + rT1 s k w, s.e, s.f, s.g⟩
def rnds (K : List UInt32) (l : List UInt8) (s : S8) (n : Nat) : S8 := (List.range n).foldl (fun s t => rnd s (K.getD t 0) (schedF l t)) s
theorem rnds_succ (K : List UInt32) (l : List UInt8) (s : S8) (n : Nat) : rnds K l s (n + 1) = rnd (rnds K l s n) (K.getD n 0) (schedF l n) := by simp [rnds, List.range_succ]
def addS (s t : S8) : S8 := ⟨s.a + t.a, s.b + t.b, s.c + t.c, s.d + t.d, s.e + t.e, s.f + t.f, s.g + t.g, s.h + t.h⟩
/-- A block, in. -/
def blockS (K : List UInt32) (s : S8) (l : List UInt8) : S8 := addS s (rnds K l s 64)
def S8.at (s : S8) (j : Nat) : UInt32 := match j with | 0 => s.a | 1 => s.b | 2 => s.c | 3 => s.d | 4 => s.e | 5 => s.f | 6 => s.g | _ => s.h
def S8.vals (s : S8) : Array Value := #[.int .u32 (s.a.toNat : Int), .int .u32 (s.b.toNat : Int), .int .u32 (s.c.toNat : Int), .int .u32 (s.d.toNat : Int), .int .u32 (s.e.toNat : Int), .int .u32 (s.f.toNat : Int), .int .u32 (s.g.toNat : Int), .int .u32 (s.h.toNat : Int)]
end Go.Proofs.YtdbdgpaafjdidaaDoor
