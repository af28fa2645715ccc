/- The statements about tokens: TokenTells. -/
import Derived.Test.YtnhkfjgoocbbdaaProg
import Derived.Test.YtnhkfjgoocbbdaaW21
namespace Go.Proofs.Ytnhkfjgoocbbdaa
open Go.RowKit
set_option linter.unusedVariables false
set_option linter.unusedSimpArgs false
theorem makeV_form (a b : ByteArray) : ∃ (X : ByteArray) (n : Int), makeV a b = .tuple #[.string X, .int .i64 n] := by
  unfold makeV
  split
  · exact ⟨_, _, rfl⟩
  · exact ⟨_, _, rfl⟩
theorem readV_form (s : ByteArray) : ∃ (X Y : ByteArray) (n : Int), readV s = .tuple #[.string X, .string Y, .int .i64 n] := by
  unfold readV
  split
  · exact ⟨_, _, _, rfl⟩
  · split
    · exact ⟨_, _, _, rfl⟩
    · exact ⟨_, _, _, rfl⟩
theorem mk1 : makeV (⟨#[97]⟩ : ByteArray) (⟨#[]⟩ : ByteArray) = .tuple #[.string (⟨#[54, 49, 45, 45, 53, 52, 100, 55, 57, 57, 48, 98]⟩ : ByteArray), .int .i64 0] := by kernel_rfl
theorem rd1 : readV (⟨#[54, 49, 45, 45, 53, 52, 100, 55, 57, 57, 48, 98]⟩ : ByteArray) = .tuple #[.string (⟨#[97]⟩ : ByteArray), .string (⟨#[]⟩ : ByteArray), .int .i64 0] := by kernel_rfl
set_option maxHeartbeats 400000 in
theorem awake21_any (w : World) : Calls Try.prog 12 #[] w fun e w' => e = .returned (.bool true) ∧ Below w.heap.size w w' := by
  have h1 := fun W => pMake_any (⟨#[97]⟩ : ByteArray) (⟨#[]⟩ : ByteArray) W (by decide) (by decide)
  have h2 := fun W => pRead_any (⟨#[54, 49, 45, 45, 53, 52, 100, 55, 57, 57, 48, 98]⟩ : ByteArray) W (by decide)
  rw [mk1] at h1
  rw [rd1] at h2
  go_enter Try.func12, Try.ntmps12
  go_wp2_with fail
  refine (h1 _).mono ?_
  rintro e w1 ⟨rfl, hb1⟩
  go_wp2_with fail
  refine (h2 _).mono ?_
  rintro e w2 ⟨rfl, hb2⟩
  go_wp2
  go_ret
  exact ⟨rfl, bstep hb1 hb2 (Nat.le_refl _)⟩
set_option maxHeartbeats 400000 in
theorem tokenTells_walk (a b s : ByteArray) (w : World) : Calls Try.prog 3 #[.string a, .string b, .string s] w fun e w' => e = .returned (.bool true) ∧ Below w.heap.size w w' := by
  by_cases h1 : a.size ≤ 3000
  · by_cases h2 : b.size ≤ 3000
    · by_cases h3 : s.size ≤ 3000
      · have k1 : ¬ (3000 : Int) < a.size := by omega
        have k2 : ¬ (3000 : Int) < b.size := by omega
        have k3 : ¬ (3000 : Int) < s.size := by omega
        obtain ⟨X, n, hX⟩ := makeV_form a b
        obtain ⟨Y, Z, m, hY⟩ := readV_form s
        have q1 := fun W => pMake_any a b W (by omega) (by omega)
        have q2 := fun W => rMake_any a b W (by omega) (by omega)
        have q3 := fun W => pRead_any s W (by omega)
        have q4 := fun W => rRead_any s W (by omega)
        rw [hX] at q1 q2
        rw [hY] at q3 q4
        have b1 := bs_beq X
        have b2 := bs_beq Y
        have b3 := bs_beq Z
        clear hX hY h1 h2 h3
        go_enter Try.func3, Try.ntmps3
        go_wp2_with fail
        refine (q1 _).mono ?_
        rintro e w1 ⟨rfl, hb1⟩
        go_wp2_with fail
        refine (q2 _).mono ?_
        rintro e w2 ⟨rfl, hb2⟩
        have hB2 := bstep hb1 hb2 (Nat.le_refl _)
        go_wp2_with fail
        refine (q3 _).mono ?_
        rintro e w3 ⟨rfl, hb3⟩
        have hB3 := bstep hB2 hb3 (Nat.le_refl _)
        go_wp2_with fail
        refine (q4 _).mono ?_
        rintro e w4 ⟨rfl, hb4⟩
        have hB4 := bstep hB3 hb4 (Nat.le_refl _)
        go_wp2_with fail
        refine (awake21_any _).mono ?_
        rintro e w5 ⟨rfl, hb5⟩
        have hB5 := bstep hB4 hb5 (Nat.le_refl _)
        go_wp2
        go_ret
        exact ⟨rfl, hB5⟩
      · have k1 : ¬ (3000 : Int) < a.size := by omega
        have k2 : ¬ (3000 : Int) < b.size := by omega
        have k3 : (3000 : Int) < s.size := by omega
        go_enter Try.func3, Try.ntmps3
        go_wp2_with fail
        go_ret
        exact ⟨rfl, Below.refl _ _⟩
    · have k1 : ¬ (3000 : Int) < a.size := by omega
      have k2 : (3000 : Int) < b.size := by omega
      go_enter Try.func3, Try.ntmps3
      go_wp2_with fail
      go_ret
      exact ⟨rfl, Below.refl _ _⟩
  · have k1 : (3000 : Int) < a.size := by omega
    go_enter Try.func3, Try.ntmps3
    go_wp2_with fail
    go_ret
    exact ⟨rfl, Below.refl _ _⟩
end Go.Proofs.Ytnhkfjgoocbbdaa
