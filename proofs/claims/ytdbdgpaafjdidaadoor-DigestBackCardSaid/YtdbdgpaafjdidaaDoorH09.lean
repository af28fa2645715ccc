/- The eight bytes of a number. -/
import Derived.Test.YtdbdgpaafjdidaaDoorProg
import Derived.Test.YtdbdgpaafjdidaaDoorBase
import Derived.Test.YtdbdgpaafjdidaaDoorInf
namespace Go.Proofs.YtdbdgpaafjdidaaDoor
open Go.RowKit
set_option linter.unusedVariables false
set_option linter.unusedSimpArgs false
def eightB (n i : Nat) : UInt8 := (n / 2 ^ (56 - 8 * i)).toUInt8
def eightL (n : Nat) (k : Nat) : List UInt8 := (List.range k).map (eightB n)
theorem eightB_nat (n i : Nat) : (eightB n i).toNat = n / 2 ^ (56 - 8 * i) % 256 := by simp [eightB]
theorem eightL_succ (n k : Nat) : eightL n (k + 1) = eightL n k ++ [eightB n k] := by simp [eightL, List.range_succ]
theorem eightL_len (n k : Nat) : (eightL n k).length = k := by simp [eightL]
def EigR (n : Nat) (w : World) (v i : Value) (wr : World) : Prop := ∃ k : Nat, k ≤ 8 ∧ i = .int .i64 k ∧ wr.ownsRow w.heap.size 5 1 v k (Lib.byteCells (eightL n k)) ∧ Below w.heap.size w wr
set_option maxHeartbeats 1000000 in
theorem eight_any (n : Nat) (w : World) (hn : n < 9223372036854775808) : Calls Tryd.prog 41 #[.int .u64 n] w fun e w' => (∃ v, e = .returned v ∧ w'.ownsRow w.heap.size 5 1 v 8 (Lib.byteCells (eightL n 8))) ∧ Below w.heap.size w w' := by
  obtain ⟨i0, hi, hz0, hz1, hz2⟩ := info_parts infoU8
  go_enter Tryd.func41, Tryd.ntmps41
  go_wp2
  go_loopw [3, 4] (fun v i wr => EigR n w v i wr) (fun _ i _ => 8 - (intOf i).toNat)
  case atStart =>
    unfold EigR
    exact ⟨0, Nat.zero_le _, rfl, World.ownsRow_nil _ _ _ _, Below.refl _ _⟩
  case round =>
    obtain ⟨k, hk, rfl, hown, hb⟩ := hrel
    have hz := hb.size
    by_cases hlt : k < 8
    · have hsn := eightL_succ n k
      have HSN := Lib.hid hsn
      clear hsn
      rcases (by omega : k = 0 ∨ k = 1 ∨ k = 2 ∨ k = 3 ∨ k = 4 ∨ k = 5 ∨ k = 6 ∨ k = 7) with rfl | rfl | rfl | rfl | rfl | rfl | rfl | rfl
      all_goals
        go_wp2_with (at_builtin; go_must (refine wpList_push rfl _ _ 26 rfl w.heap.size 5 i0 (.int .u8 0) 1 Tryd.underlying26 hi hz0 hz1 hz2 rfl _ _ _ rfl (World.ownsRow.alloc hown _) ⟨wr.heap.size, 0, none⟩ _ rfl (cell_new _ _ _) rfl (by omega) (by omega) (by simp; omega) ?_); intro v2 w2 hown2 hgrow hat)
        all_goals try (exfalso; omega)
        have hb2 := below_push0 hb (Nat.le_refl _) hgrow (fun k hk => (hown.lt k hk).1)
        clear hat hgrow
        refine ⟨⟨_, ?_, rfl, ?_, hb2⟩, by simp [intOf]⟩
        rotate_left
        · rw [HSN.out, ← bytes_snoc _ _ (eightB n _) ?_]
          · exact hown2
          · simp only [eightB_nat]; omega
        · first | omega | decide
    · obtain rfl : k = 8 := by omega
      go_wp2
      go_ret
      exact ⟨⟨_, rfl, hown⟩, hb⟩
end Go.Proofs.YtdbdgpaafjdidaaDoor
