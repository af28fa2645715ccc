/- The statement DigestSums: its walk. -/
import Derived.Test.YtdbdgpaafjdidaaProg
import Derived.Test.YtdbdgpaafjdidaaH13
import Derived.Test.YtdbdgpaafjdidaaKit
import Derived.Lib.SmallJoins
namespace Go.Proofs.Ytdbdgpaafjdidaa
open Go.RowKit
set_option linter.unusedVariables false
set_option linter.unusedSimpArgs false
theorem dig_abc : hexs (dig [97, 98, 99]) = ([98, 97, 55, 56, 49, 54, 98, 102, 56, 102, 48, 49, 99, 102, 101, 97, 52, 49, 52, 49, 52, 48, 100, 101, 53, 100, 97, 101, 50, 50, 50, 51, 98, 48, 48, 51, 54, 49, 97, 51, 57, 54, 49, 55, 55, 97, 57, 99, 98, 52, 49, 48, 102, 102, 54, 49, 102, 50, 48, 48, 49, 53, 97, 100] : List UInt8) := by kernel_rfl
theorem dig_nil : hexs (dig []) = ([101, 51, 98, 48, 99, 52, 52, 50, 57, 56, 102, 99, 49, 99, 49, 52, 57, 97, 102, 98, 102, 52, 99, 56, 57, 57, 54, 102, 98, 57, 50, 52, 50, 55, 97, 101, 52, 49, 101, 52, 54, 52, 57, 98, 57, 51, 52, 99, 97, 52, 57, 53, 57, 57, 49, 98, 55, 56, 53, 50, 98, 56, 53, 53] : List UInt8) := by kernel_rfl
theorem abc_src (w : World) (fr : Nat × Nat) : Src (w.alloc (.cells #[.int .u8 97, .int .u8 98, .int .u8 99] 5 fr)) (.slice (some ⟨w.heap.size, 0, none⟩) 3 3) (Lib.byteCells [97, 98, 99]) := by
  refine .inr ⟨w.heap.size, 0, 3, rfl, by decide, fun j x hj => ?_⟩
  rw [Nat.zero_add, cell_of_row _ _ j _ _ fr (heap_alloc_new w _)]
  rw [← hj]
  simp [Lib.byteCells]
set_option maxHeartbeats 400000 in
theorem awake_any (w : World) : Calls Try.prog 10 #[] w fun e w' => e = .returned (.bool true) ∧ Below w.heap.size w w' := by
  have h1 := dig_abc
  have h2 := dig_nil
  have H1 := Lib.hid h1
  have H2 := Lib.hid h2
  clear h1 h2
  have hcv := Go.Joins.run_convert_bytes_const_at (P := Try.prog) w 22 5 #[.int .u8 97, .int .u8 98, .int .u8 99] 3 3 w.heap.size rfl Try.underlying22 Try.underlying5
  go_enter Try.func10, Try.ntmps10
  go_wp2_with fail
  refine (pSum_any _ [97, 98, 99] _ (by decide) (abc_src w _)).mono ?_
  rintro e w1 ⟨rfl, hb1⟩
  unfold digV
  go_wp2_with fail
  refine (pHex_any _ (dig_len _) _).mono ?_
  rintro e w2 ⟨rfl, hb2⟩
  rw [H1.out]
  go_wp2_with fail
  refine (pSum_any _ [] _ (by decide) (.inl ⟨none, 0, rfl, fun _ => rfl, rfl⟩)).mono ?_
  rintro e w3 ⟨rfl, hb3⟩
  unfold digV
  go_wp2_with fail
  refine (pHex_any _ (dig_len _) _).mono ?_
  rintro e w4 ⟨rfl, hb4⟩
  rw [H2.out]
  go_wp2
  go_ret
  have hbA : Below w.heap.size w w1 := ((Below.refl _ w).alloc (Nat.le_refl _) _).trans (hb1.mono (by simp))
  exact ⟨rfl, bstep (bstep (bstep hbA hb2 (Nat.le_refl _)) hb3 (Nat.le_refl _)) hb4 (Nat.le_refl _)⟩
set_option maxHeartbeats 400000 in
theorem sums_walk (b : Value) (l : List UInt8) (w : World) (hb : Src w b (Lib.byteCells l)) : Calls Try.prog 3 #[b] w fun e w' => e = .returned (.bool true) ∧ Below w.heap.size w w' := by
  have hblen : (Lib.byteCells l).length = l.length := by simp [Lib.byteCells]
  obtain ⟨A0, c0, hbv⟩ := hb.form
  rw [hblen] at hbv
  subst hbv
  by_cases hl : l.length ≤ 5000
  · have hb0 := Lib.hid hb
    clear hb
    go_enter Try.func3, Try.ntmps3
    go_wp2_with fail
    refine (lent_any _ l _ (by omega) hb0.out).mono ?_
    rintro e w1 ⟨⟨B, rfl, hB, hA⟩, hb1⟩
    have hs1 := lent_src hA
    have hBw1 : B < w1.heap.size := cell_lt (hA.cell (j := 0) (by omega))
    go_wp2_with fail
    refine (pSum_any _ l _ (by omega) hs1).mono ?_
    rintro e w2 ⟨rfl, hb2⟩
    have hB2 := bstep hb1 hb2 (Nat.le_refl _)
    go_wp2_with fail
    refine (rSum_any _ l _ (by omega) (hb0.out.block hB2)).mono ?_
    rintro e w3 ⟨rfl, hb3⟩
    have hB3 := bstep hB2 hb3 (Nat.le_refl _)
    unfold digV
    have heq : ∀ W, (Op.equalIn 10000 25 (.agg (Lib.byteCells (dig l)).toArray) (.agg (Lib.byteCells (dig l)).toArray)).run Try.prog W = .ok true W := fun W => by
      rw [run_eq_bytes W 25 5 32 Try.underlying25 Try.underlying5 (fun w => by kernel_rfl) (by kernel_rfl) _ _ (dig_len l) (dig_len l)]
      simp
    go_wp2_with fail
    refine (pTag_any _ l _ (by omega) (hs1.block (hb2.trans (hb3.mono hb2.size)))).mono ?_
    rintro e w4 ⟨rfl, hb4⟩
    have hB4 := bstep hB3 hb4 (Nat.le_refl _)
    go_wp2_with fail
    refine (rTag_any _ l _ (by omega) (hb0.out.block hB4)).mono ?_
    rintro e w5 ⟨rfl, hb5⟩
    have hB5 := bstep hB4 hb5 (Nat.le_refl _)
    have hb15 := ((hb2.trans (hb3.mono hb2.size)).trans (hb4.mono (by have := hb2.size; have := hb3.size; omega))).trans (hb5.mono (by have := hb2.size; have := hb3.size; have := hb4.size; omega))
    go_wp2_with fail
    refine (kept_any B _ l _ (by omega) (hA.below hBw1 hb15) (hb0.out.block hB5)).mono ?_
    rintro e w6 ⟨rfl, hb6⟩
    have hB6 := bstep hB5 hb6 (Nat.le_refl _)
    go_wp2_with fail
    refine (awake_any _).mono ?_
    rintro e w7 ⟨rfl, hb7⟩
    have hB7 := bstep hB6 hb7 (Nat.le_refl _)
    go_wp2
    go_ret
    exact ⟨rfl, hB7⟩
  · go_enter Try.func3, Try.ntmps3
    have hl2 : 5000 < (l.length : Int) := by omega
    go_wp2_with fail
    go_ret
    exact ⟨rfl, Below.refl _ _⟩
end Go.Proofs.Ytdbdgpaafjdidaa
