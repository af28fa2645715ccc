/- The walks of the statements about percent signs. -/
import Derived.Test.YthnhfbdoielekaaProg
import Derived.Test.YthnhfbdoielekaaS24
namespace Go.Proofs.Ythnhfbdoielekaa
open Go.RowKit
set_option linter.unusedVariables false
set_option linter.unusedSimpArgs false
theorem pdec1 (w : World) : Calls Try.prog 4 #[.string (⟨#[97, 37, 50, 70, 98, 43, 99]⟩ : ByteArray), .bool false] w fun e w' => e = .returned (.tuple #[.string (⟨#[97, 47, 98, 43, 99]⟩ : ByteArray), .int .i64 0]) ∧ Below w.heap.size w w' := by
  have e1 : pDecR false (⟨#[97, 37, 50, 70, 98, 43, 99]⟩ : ByteArray) = ([97, 47, 98, 43, 99] : List UInt8) := by decide
  have e2 : pDecE false (⟨#[97, 37, 50, 70, 98, 43, 99]⟩ : ByteArray) = 0 := by decide
  have h := pDecode_any (⟨#[97, 37, 50, 70, 98, 43, 99]⟩ : ByteArray) false w (by decide)
  rw [e1, e2] at h
  exact h
theorem pdec2 (w : World) : Calls Try.prog 4 #[.string (⟨#[97, 43, 98]⟩ : ByteArray), .bool true] w fun e w' => e = .returned (.tuple #[.string (⟨#[97, 32, 98]⟩ : ByteArray), .int .i64 0]) ∧ Below w.heap.size w w' := by
  have e1 : pDecR true (⟨#[97, 43, 98]⟩ : ByteArray) = ([97, 32, 98] : List UInt8) := by decide
  have e2 : pDecE true (⟨#[97, 43, 98]⟩ : ByteArray) = 0 := by decide
  have h := pDecode_any (⟨#[97, 43, 98]⟩ : ByteArray) true w (by decide)
  rw [e1, e2] at h
  exact h
theorem penc1 (w : World) : Calls Try.prog 6 #[.string (⟨#[97, 47, 98, 32, 99, 126]⟩ : ByteArray), .bool true] w fun e w' => e = .returned (.string (⟨#[97, 47, 98, 37, 50, 48, 99, 126]⟩ : ByteArray)) ∧ Below w.heap.size w w' := by
  have e1 : pencGo true ([97, 47, 98, 32, 99, 126] : List UInt8) = ([97, 47, 98, 37, 50, 48, 99, 126] : List UInt8) := by decide
  have h := pEncode_any (⟨#[97, 47, 98, 32, 99, 126]⟩ : ByteArray) true w (by decide)
  rw [show ((⟨#[97, 47, 98, 32, 99, 126]⟩ : ByteArray)).data.toList = ([97, 47, 98, 32, 99, 126] : List UInt8) from rfl, e1] at h
  exact h
theorem decodes1 (w : World) : Calls Try.prog 15 #[.string (⟨#[97, 37, 50, 70, 98, 43, 99]⟩ : ByteArray), .bool false, .string (⟨#[97, 47, 98, 43, 99]⟩ : ByteArray)] w fun e w' => e = .returned (.bool true) ∧ Below w.heap.size w w' := by
  go_enter Try.func15, Try.ntmps15
  go_wp2_with fail
  refine (pdec1 _).mono ?_
  rintro e w1 ⟨rfl, hb1⟩
  go_wp2
  go_ret
  exact ⟨rfl, hb1⟩
theorem decodes2 (w : World) : Calls Try.prog 15 #[.string (⟨#[97, 43, 98]⟩ : ByteArray), .bool true, .string (⟨#[97, 32, 98]⟩ : ByteArray)] w fun e w' => e = .returned (.bool true) ∧ Below w.heap.size w w' := by
  go_enter Try.func15, Try.ntmps15
  go_wp2_with fail
  refine (pdec2 _).mono ?_
  rintro e w1 ⟨rfl, hb1⟩
  go_wp2
  go_ret
  exact ⟨rfl, hb1⟩
set_option maxHeartbeats 400000 in
theorem awake24_any (w : World) : Calls Try.prog 8 #[] w fun e w' => e = .returned (.bool true) ∧ Below w.heap.size w w' := by
  go_enter Try.func8, Try.ntmps8
  go_wp2_with fail
  refine (decodes1 _).mono ?_
  rintro e w1 ⟨rfl, hb1⟩
  have hz1 := hb1.size
  go_wp2_with fail
  refine (decodes2 _).mono ?_
  rintro e w2 ⟨rfl, hb2⟩
  have hz2 := hb2.size
  go_wp2_with fail
  refine (penc1 _).mono ?_
  rintro e w3 ⟨rfl, hb3⟩
  go_wp2
  go_ret
  exact ⟨rfl, (hb1.trans (hb2.mono hz1)).trans (hb3.mono (by omega))⟩
set_option maxHeartbeats 400000 in
theorem percentTells_walk (s : ByteArray) (fl : Bool) (w : World) : Calls Try.prog 3 #[.string s, .bool fl] w fun e w' => e = .returned (.bool true) ∧ Below w.heap.size w w' := by
  by_cases hs : s.size ≤ 3000
  · go_enter Try.func3, Try.ntmps3
    go_wp2_with fail
    refine (pDecode_any _ _ _ (by omega)).mono ?_
    rintro e w1 ⟨rfl, hq⟩
    have hB := bstep (Below.refl _ w) hq (Nat.le_refl _)
    clear hq
    go_wp2_with fail
    refine (rDecode_any _ _ _ (by omega)).mono ?_
    rintro e w2 ⟨rfl, hq⟩
    replace hB := bstep hB hq (Nat.le_refl _)
    clear hq
    go_wp2_with fail
    refine (pEncode_any _ _ _ (by omega)).mono ?_
    rintro e w3 ⟨rfl, hq⟩
    replace hB := bstep hB hq (Nat.le_refl _)
    clear hq
    go_wp2_with fail
    refine (rEncode_any _ _ _ (by omega)).mono ?_
    rintro e w4 ⟨rfl, hq⟩
    replace hB := bstep hB hq (Nat.le_refl _)
    clear hq
    go_wp2_with fail
    refine (awake24_any _).mono ?_
    rintro e w5 ⟨rfl, hq⟩
    replace hB := bstep hB hq (Nat.le_refl _)
    clear hq
    go_wp2
    go_ret
    exact ⟨rfl, hB⟩
  · go_enter Try.func3, Try.ntmps3
    go_wp2
    all_goals (go_ret; exact ⟨rfl, Below.refl _ _⟩)
end Go.Proofs.Ythnhfbdoielekaa
