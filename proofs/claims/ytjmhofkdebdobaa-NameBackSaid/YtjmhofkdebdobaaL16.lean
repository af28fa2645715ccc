/- The walks of the statements about names. -/
import Derived.Test.YtjmhofkdebdobaaProg
import Derived.Test.YtjmhofkdebdobaaR16
namespace Go.Proofs.Ytjmhofkdebdobaa
open Go.RowKit
set_option linter.unusedVariables false
set_option linter.unusedSimpArgs false
theorem aw_path (w : World) : Calls Try.prog 7 #[.string (⟨#[97, 98, 99]⟩ : ByteArray), .string (⟨#[97, 47, 98, 32, 99, 95, 68]⟩ : ByteArray)] w fun e w' => e = .returned (.tuple #[.string (⟨#[97, 98, 99, 47, 97, 37, 50, 102, 98, 37, 50, 48, 99, 95, 68]⟩ : ByteArray), .int .i64 0]) ∧ Below w.heap.size w w' := by
  have e1 : pathR (⟨#[97, 98, 99]⟩ : ByteArray) (⟨#[97, 47, 98, 32, 99, 95, 68]⟩ : ByteArray) = ([97, 98, 99, 47, 97, 37, 50, 102, 98, 37, 50, 48, 99, 95, 68] : List UInt8) := by decide
  have e2 : pathE (⟨#[97, 98, 99]⟩ : ByteArray) (⟨#[97, 47, 98, 32, 99, 95, 68]⟩ : ByteArray) = 0 := by decide
  have h := Path_any (⟨#[97, 98, 99]⟩ : ByteArray) (⟨#[97, 47, 98, 32, 99, 95, 68]⟩ : ByteArray) w (by decide) (by decide)
  rw [e1, e2] at h
  exact h
theorem aw_b1 (w : World) : Calls Try.prog 9 #[.string (⟨#[109, 121, 45, 108, 111, 103, 115, 46, 55]⟩ : ByteArray)] w fun e w' => e = .returned (.bool true) ∧ Below w.heap.size w w' := by
  have e1 : bucketB (⟨#[109, 121, 45, 108, 111, 103, 115, 46, 55]⟩ : ByteArray) = true := by decide
  have h := bucket_any (⟨#[109, 121, 45, 108, 111, 103, 115, 46, 55]⟩ : ByteArray) w
  rw [e1] at h
  exact h
theorem aw_b2 (w : World) : Calls Try.prog 9 #[.string (⟨#[97, 46, 46, 98]⟩ : ByteArray)] w fun e w' => e = .returned (.bool false) ∧ Below w.heap.size w w' := by
  have e1 : bucketB (⟨#[97, 46, 46, 98]⟩ : ByteArray) = false := by decide
  have h := bucket_any (⟨#[97, 46, 46, 98]⟩ : ByteArray) w
  rw [e1] at h
  exact h
set_option maxHeartbeats 400000 in
theorem awake16_any (w : World) : Calls Try.prog 13 #[] w fun e w' => e = .returned (.bool true) ∧ Below w.heap.size w w' := by
  go_enter Try.func13, Try.ntmps13
  go_wp2_with fail
  refine (aw_path _).mono ?_
  rintro e w1 ⟨rfl, hb1⟩
  have hz1 := hb1.size
  go_wp2_with fail
  refine (aw_b1 _).mono ?_
  rintro e w2 ⟨rfl, hb2⟩
  have hz2 := hb2.size
  go_wp2_with fail
  refine (aw_b2 _).mono ?_
  rintro e w3 ⟨rfl, hb3⟩
  go_wp2
  go_ret
  exact ⟨rfl, (hb1.trans (hb2.mono hz1)).trans (hb3.mono (by omega))⟩
set_option maxHeartbeats 400000 in
theorem nameTells_walk (b k : ByteArray) (w : World) : Calls Try.prog 3 #[.string b, .string k] w fun e w' => e = .returned (.bool true) ∧ Below w.heap.size w w' := by
  by_cases hb : b.size ≤ 1000
  · by_cases hk : k.size ≤ 1000
    · go_enter Try.func3, Try.ntmps3
      go_wp2_with fail
      refine (Path_any _ _ _ hb hk).mono ?_
      rintro e w1 ⟨rfl, hq⟩
      have hB := bstep (Below.refl _ w) hq (Nat.le_refl _)
      clear hq
      go_wp2_with fail
      refine (rPath_any _ _ _ hb hk).mono ?_
      rintro e w2 ⟨rfl, hq⟩
      replace hB := bstep hB hq (Nat.le_refl _)
      clear hq
      go_wp2_with fail
      refine (bucket_any _ _).mono ?_
      rintro e w3 ⟨rfl, hq⟩
      replace hB := bstep hB hq (Nat.le_refl _)
      clear hq
      go_wp2_with fail
      refine (rbucket_any _ _ (by omega)).mono ?_
      rintro e w' ⟨rfl, rfl⟩
      go_wp2_with fail
      refine (key_any _ _ (by omega)).mono ?_
      rintro e w4 ⟨rfl, hq⟩
      replace hB := bstep hB hq (Nat.le_refl _)
      clear hq
      go_wp2_with fail
      refine (rkey_any _ _ (by omega)).mono ?_
      rintro e w' ⟨rfl, rfl⟩
      go_wp2_with fail
      refine (bucket_any _ _).mono ?_
      rintro e w5 ⟨rfl, hq⟩
      replace hB := bstep hB hq (Nat.le_refl _)
      clear hq
      go_wp2_with fail
      refine (rbucket_any _ _ (by omega)).mono ?_
      rintro e w' ⟨rfl, rfl⟩
      go_wp2_with fail
      refine (awake16_any _).mono ?_
      rintro e w6 ⟨rfl, hq⟩
      replace hB := bstep hB hq (Nat.le_refl _)
      clear hq
      go_wp2
      go_ret
      exact ⟨rfl, hB⟩
    · go_enter Try.func3, Try.ntmps3
      go_wp2
      all_goals (go_ret; exact ⟨rfl, Below.refl _ _⟩)
  · go_enter Try.func3, Try.ntmps3
    go_wp2
    all_goals (go_ret; exact ⟨rfl, Below.refl _ _⟩)
end Go.Proofs.Ytjmhofkdebdobaa
