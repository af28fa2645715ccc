/- Texts of this proof, put together: Inf, R04, ArrB, H09. -/
import Derived.Test.YtdaokkajbooiaaaProg
import Derived.Test.YtdaokkajbooiaaaMTopTokensb
section
/- Rows of this seat's type table. -/
namespace Go.Proofs.Ytdaokkajbooiaaa
theorem infoU8 : (Try.prog.info? 5).map (fun i => (i.zero, i.size, i.bytes)) = some (some (.int .u8 0), 1, 1) := by kernel_rfl
end Go.Proofs.Ytdaokkajbooiaaa
end
section
/- The walks of the reference's digits (stowageref04). -/
namespace Go.Proofs.Ytdaokkajbooiaaa
open Go.RowKit
set_option linter.unusedVariables false
set_option linter.unusedSimpArgs false
def hexs : List UInt8 → List UInt8
  | [] => []
  | c :: r => hexD (c.toNat / 16) :: hexD (c.toNat % 16) :: hexs r
set_option maxHeartbeats 400000 in
theorem digits_any (A : Option Addr) (c : Nat) (l : List UInt8) (w : World) (hl : l.length ≤ 1000000) (hr : Rd w A (Lib.byteCells l)) :
    Calls Try.prog 39 #[.slice A l.length c] w fun e w' => e = .returned (.string ⟨(hexs l).toArray⟩) ∧ Below w.heap.size w w' := by
  go_enter Try.func39, Try.ntmps39
  go_wp2
  go_loopw [3, 4] (fun t i wr => ∃ (k : Nat) (s : ByteArray), k ≤ l.length ∧ i = .int .i64 k ∧ t = .string s ∧ s.size ≤ 2 * k ∧ Below w.heap.size w wr ∧ Hid (s.data.toList ++ hexs (l.drop k) = hexs l)) (fun _ i _ => l.length - (intOf i).toNat)
  case atStart => exact ⟨0, _, Nat.zero_le _, rfl, rfl, by simp [ByteArray.size_mk'], Below.refl _ _, Lib.hid (by simp)⟩
  case round =>
    obtain ⟨k, s, hk, rfl, rfl, hs, hb, H⟩ := hrel
    by_cases hlt : k < l.length
    · obtain ⟨x, hx, hdr⟩ := next_elem l k hlt
      rw [hdr] at H
      obtain ⟨b, off, rfl, hcell⟩ := hr (by intro e; simp [Lib.byteCells] at e; simp [e] at hlt)
      have hc := below_cell hb (hcell k (.int .u8 x.toNat) (by simp [Lib.byteCells, hx]))
      have h256 : x.toNat < 256 := x.toNat_lt
      clear hdr hcell hr hx
      go_wp2
      have q1 : IntKind.u8.wrap (↑x.toNat / 16) = ↑x.toNat / 16 := IntWalk.u8_in _ (by omega)
      have q2 : IntKind.u8.wrap (↑x.toNat / 16 + 1) = ↑x.toNat / 16 + 1 := IntWalk.u8_in _ (by omega)
      have q3 : IntKind.u8.wrap (↑x.toNat % 16) = ↑x.toNat % 16 := IntWalk.u8_in _ (by omega)
      have q4 : IntKind.u8.wrap (↑x.toNat % 16 + 1) = ↑x.toNat % 16 + 1 := IntWalk.u8_in _ (by omega)
      have q5 := slice_hex (P := Try.prog) 9 Try.underlying9 .u8 .u8 (↑x.toNat / 16) (↑x.toNat / 16 + 1) (x.toNat / 16) (by omega) (by omega) (by omega)
      have q6 := slice_hex (P := Try.prog) 9 Try.underlying9 .u8 .u8 (↑x.toNat % 16) (↑x.toNat % 16 + 1) (x.toNat % 16) (by omega) (by omega) (by omega)
      have q7 := fun W => run_string_add_sum (P := Try.prog) W s ⟨#[hexD (x.toNat / 16)]⟩ (by simp [ByteArray.size_mk']; omega)
      have q8 := fun W => run_string_add_sum (P := Try.prog) W (s ++ ⟨#[hexD (x.toNat / 16)]⟩) ⟨#[hexD (x.toNat % 16)]⟩ (by simp [ByteArray.size_mk', ByteArray.size_append']; omega)
      go_quiet (fail)
      clear q1 q2 q3 q4 q5 q6 q7 q8
      go_wp2
      go_roundw
      case rel => exact ⟨k + 1, _, by omega, by go_num, rfl, by simp [ByteArray.size_mk', ByteArray.size_append']; omega, Keeps.below ((Keeps.ofBelow (fun _ => False) hb).drewN _) (Nat.le_refl _) (by simp), Lib.hid (by have h := H.out; simpa [hexs, bs_app] using h)⟩
      case measure => simp [intOf]; omega
    · rw [List.drop_of_length_le (by omega)] at H
      go_wp2
      go_ret
      refine ⟨ret_str ?_, hb⟩
      have h := H.out
      simp [hexs] at h
      exact bs_mk h
def undig : List UInt8 → Option (List UInt8)
  | [] => some []
  | [_] => none
  | a :: b :: r => if hexN a.toNat < 0 then none else if hexN b.toNat < 0 then none else (undig r).map (hexByte a b :: ·)
end Go.Proofs.Ytdaokkajbooiaaa
end
section
/- Arrays of bytes in memory. -/
namespace Go.Proofs.Ytdaokkajbooiaaa
open Go.RowKit
set_option linter.unusedVariables false
set_option linter.unusedSimpArgs false
def UB (x : UInt8) : Value := .int .u8 (x.toNat : Int)
/-- The cells of an array of n bytes. -/
def ArrB (w : World) (B : Nat) (f : Nat → UInt8) (n : Nat) : Prop := ∀ j, j < n → w.cell? ⟨B, j, none⟩ = some (UB (f j)) ∧ w.frozen? ⟨B, j, none⟩ = false
section
variable {w : World} {B : Nat} {f g : Nat → UInt8} {n : Nat}
theorem ArrB.cell (h : ArrB w B f n) {j : Nat} (hj : j < n) : w.cell? ⟨B, j, none⟩ = some (.int .u8 ((f j).toNat : Int)) := (h j hj).1
theorem ArrB.froz (h : ArrB w B f n) {j : Nat} (hj : j < n) : w.frozen? ⟨B, j, none⟩ = false := (h j hj).2
theorem ArrB.drewN (h : ArrB w B f n) (m : Nat) : ArrB (w.drewN m) B f n := fun j hj => h j hj
theorem ArrB.congr (h : ArrB w B f n) (e : ∀ j, j < n → f j = g j) : ArrB w B g n := fun j hj => by rw [← e j hj]; exact h j hj
theorem ArrB.ofBlock {w' : World} (h : ArrB w B f n) (e : w'.heap[B]? = w.heap[B]?) : ArrB w' B f n := fun j hj => ⟨(World.cell?_of_block (w := w) (w' := w') (a := ⟨B, j, none⟩) e).trans (h j hj).1, (World.frozen?_of_block (w := w) (w' := w') (a := ⟨B, j, none⟩) e).trans (h j hj).2⟩
theorem ArrB.below {w' : World} (h : ArrB w B f n) (hB : B < w.heap.size) (hb : Below w.heap.size w w') : ArrB w' B f n := h.ofBlock (hb.block B hB)
theorem ArrB.alloc (h : ArrB w B f n) (hB : B < w.heap.size) (o : Obj) : ArrB (w.alloc o) B f n := h.below hB ((Below.refl _ w).alloc (Nat.le_refl _) o)
theorem ArrB.other (h : ArrB w B f n) {p : Addr} (hp : p.block ≠ B) (v : Value) : ArrB (w.setCell p v) B f n := fun j hj => by
  refine ⟨?_, by rw [World.frozen?_setCell]; exact (h j hj).2⟩
  rw [World.cell?_setCell_other w p ⟨B, j, none⟩ v (by intro e; exact hp (by rw [e]))]
  exact (h j hj).1
theorem ArrB.set (h : ArrB w B f n) {t : Nat} (ht : t < n) (x : UInt8) : ArrB (w.setCell ⟨B, t, none⟩ (.int .u8 (x.toNat : Int))) B (fun j => if j = t then x else f j) n := fun j hj => by
  refine ⟨?_, by rw [World.frozen?_setCell]; exact (h j hj).2⟩
  by_cases e : j = t
  · subst e
    simp only [if_true]
    exact World.cell?_setCell_same' _ _ _ (by rw [(h j hj).1]; rfl)
  · simp only [if_neg e]
    rw [World.cell?_setCell_other w ⟨B, t, none⟩ ⟨B, j, none⟩ _ (by intro he; exact e (by injection he with _ h2 _; exact h2.symm))]
    exact (h j hj).1
end
theorem arrB_new (w : World) (c : Array Value) (t : TypeId) (f : Nat → UInt8) (n : Nat) (h : ∀ j, j < n → c[j]? = some (UB (f j))) : ArrB (w.alloc (.cells c t)) w.heap.size f n := fun j hj => by
  have hb := heap_alloc_new w (.cells c t)
  exact ⟨by rw [cell_of_row _ _ j c t (0, 0) hb]; exact h j hj, by unfold World.frozen?; rw [hb]; simp⟩
end Go.Proofs.Ytdaokkajbooiaaa
end
section
/- The eight bytes of a number. -/
namespace Go.Proofs.Ytdaokkajbooiaaa
open Go.RowKit
set_option linter.unusedVariables false
set_option linter.unusedSimpArgs false
def eightB (n i : Nat) : UInt8 := (n / 2 ^ (56 - 8 * i)).toUInt8
def eightL (n : Nat) (k : Nat) : List UInt8 := (List.range k).map (eightB n)
theorem eightB_nat (n i : Nat) : (eightB n i).toNat = n / 2 ^ (56 - 8 * i) % 256 := by simp [eightB]
theorem eightL_succ (n k : Nat) : eightL n (k + 1) = eightL n k ++ [eightB n k] := by simp [eightL, List.range_succ]
theorem eightL_len (n k : Nat) : (eightL n k).length = k := by simp [eightL]
def EigR (n : Nat) (w : World) (v i : Value) (wr : World) : Prop := ∃ k : Nat, k ≤ 8 ∧ i = .int .i64 k ∧ wr.ownsRow w.heap.size 5 1 v k (Lib.byteCells (eightL n k)) ∧ Below w.heap.size w wr
set_option maxHeartbeats 1000000 in
theorem eight_any (n : Nat) (w : World) (hn : n < 9223372036854775808) : Calls Try.prog 64 #[.int .u64 n] w fun e w' => (∃ v, e = .returned v ∧ w'.ownsRow w.heap.size 5 1 v 8 (Lib.byteCells (eightL n 8))) ∧ Below w.heap.size w w' := by
  obtain ⟨i0, hi, hz0, hz1, hz2⟩ := info_parts infoU8
  go_enter Try.func64, Try.ntmps64
  go_wp2
  go_loopw [3, 4] (fun v i wr => EigR n w v i wr) (fun _ i _ => 8 - (intOf i).toNat)
  case atStart =>
    unfold EigR
    exact ⟨0, Nat.zero_le _, rfl, World.ownsRow_nil _ _ _ _, Below.refl _ _⟩
  case round =>
    obtain ⟨k, hk, rfl, hown, hb⟩ := hrel
    have hz := hb.size
    by_cases hlt : k < 8
    · have hsn := eightL_succ n k
      have HSN := Lib.hid hsn
      clear hsn
      rcases (by omega : k = 0 ∨ k = 1 ∨ k = 2 ∨ k = 3 ∨ k = 4 ∨ k = 5 ∨ k = 6 ∨ k = 7) with rfl | rfl | rfl | rfl | rfl | rfl | rfl | rfl
      all_goals
        go_wp2_with (at_builtin; go_must (refine wpList_push rfl _ _ 69 rfl w.heap.size 5 i0 (.int .u8 0) 1 Try.underlying69 hi hz0 hz1 hz2 rfl _ _ _ rfl (World.ownsRow.alloc hown _) ⟨wr.heap.size, 0, none⟩ _ rfl (cell_new _ _ _) rfl (by omega) (by omega) (by simp; omega) ?_); intro v2 w2 hown2 hgrow hat)
        all_goals try (exfalso; omega)
        have hb2 := below_push0 hb (Nat.le_refl _) hgrow (fun k hk => (hown.lt k hk).1)
        clear hat hgrow
        refine ⟨⟨_, ?_, rfl, ?_, hb2⟩, by simp [intOf]⟩
        rotate_left
        · rw [HSN.out, ← bytes_snoc _ _ (eightB n _) ?_]
          · exact hown2
          · simp only [eightB_nat]; omega
        · first | omega | decide
    · obtain rfl : k = 8 := by omega
      go_wp2
      go_ret
      exact ⟨⟨_, rfl, hown⟩, hb⟩
end Go.Proofs.Ytdaokkajbooiaaa
end
