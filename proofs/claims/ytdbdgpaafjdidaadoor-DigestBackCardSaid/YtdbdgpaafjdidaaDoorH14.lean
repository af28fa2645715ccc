/- The statement DigestSums: its walk. -/
import Derived.Test.YtdbdgpaafjdidaaDoorProg
import Derived.Test.YtdbdgpaafjdidaaDoorH13
import Derived.Test.YtdbdgpaafjdidaaDoorKit
import Derived.Lib.SmallJoins
namespace Go.Proofs.YtdbdgpaafjdidaaDoor
open Go.RowKit
set_option linter.unusedVariables false
set_option linter.unusedSimpArgs false
theorem dig_abc : hexs (dig [97, 98, 99]) = ([98, 97, 55, 56, 49, 54, 98, 102, 56, 102, 48, 49, 99, 102, 101, 97, 52, 49, 52, 49, 52, 48, 100, 101, 53, 100, 97, 101, 50, 50, 50, 51, 98, 48, 48, 51, 54, 49, 97, 51, 57, 54, 49, 55, 55, 97, 57, 99, 98, 52, 49, 48, 102, 102, 54, 49, 102, 50, 48, 48, 49, 53, 97, 100] : List UInt8) := by kernel_rfl
theorem dig_nil : hexs (dig []) = ([101, 51, 98, 48, 99, 52, 52, 50, 57, 56, 102, 99, 49, 99, 49, 52, 57, 97, 102, 98, 102, 52, 99, 56, 57, 57, 54, 102, 98, 57, 50, 52, 50, 55, 97, 101, 52, 49, 101, 52, 54, 52, 57, 98, 57, 51, 52, 99, 97, 52, 57, 53, 57, 57, 49, 98, 55, 56, 53, 50, 98, 56, 53, 53] : List UInt8) := by kernel_rfl
theorem abc_src (w : World) (fr : Nat × Nat) : Src (w.alloc (.cells #[.int .u8 97, .int .u8 98, .int .u8 99] 5 fr)) (.slice (some ⟨w.heap.size, 0, none⟩) 3 3) (Lib.byteCells [97, 98, 99]) := by
  refine .inr ⟨w.heap.size, 0, 3, rfl, by decide, fun j x hj => ?_⟩
  rw [Nat.zero_add, cell_of_row _ _ j _ _ fr (heap_alloc_new w _)]
  rw [← hj]
  simp [Lib.byteCells]
set_option maxHeartbeats 400000 in
theorem awake_any (w : World) : Calls Tryd.prog 18 #[] w fun e w' => e = .returned (.bool true) ∧ Below w.heap.size w w' := by
  have h1 := dig_abc
  have h2 := dig_nil
  have H1 := Lib.hid h1
  have H2 := Lib.hid h2
  clear h1 h2
  have hcv := Go.Joins.run_convert_bytes_const_at (P := Tryd.prog) w 26 5 #[.int .u8 97, .int .u8 98, .int .u8 99] 3 3 w.heap.size rfl Tryd.underlying26 Tryd.underlying5
  go_enter Tryd.func18, Tryd.ntmps18
  go_wp2_with fail
  refine (pSum_any _ [97, 98, 99] _ (by decide) (abc_src w _)).mono ?_
  rintro e w1 ⟨rfl, hb1⟩
  unfold digV
  go_wp2_with fail
  refine (pHex_any _ (dig_len _) _).mono ?_
  rintro e w2 ⟨rfl, hb2⟩
  rw [H1.out]
  go_wp2_with fail
  refine (pSum_any _ [] _ (by decide) (.inl ⟨none, 0, rfl, fun _ => rfl, rfl⟩)).mono ?_
  rintro e w3 ⟨rfl, hb3⟩
  unfold digV
  go_wp2_with fail
  refine (pHex_any _ (dig_len _) _).mono ?_
  rintro e w4 ⟨rfl, hb4⟩
  rw [H2.out]
  go_wp2
  go_ret
  have hbA : Below w.heap.size w w1 := ((Below.refl _ w).alloc (Nat.le_refl _) _).trans (hb1.mono (by simp))
  exact ⟨rfl, bstep (bstep (bstep hbA hb2 (Nat.le_refl _)) hb3 (Nat.le_refl _)) hb4 (Nat.le_refl _)⟩
end Go.Proofs.YtdbdgpaafjdidaaDoor
