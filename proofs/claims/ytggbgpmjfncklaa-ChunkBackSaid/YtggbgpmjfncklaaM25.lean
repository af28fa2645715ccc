/- Digits to the base 16. -/
import Derived.Test.YtggbgpmjfncklaaProg
import Derived.Test.YtggbgpmjfncklaaBase
namespace Go.Proofs.Ytggbgpmjfncklaa
open Go.RowKit
set_option linter.unusedVariables false
set_option linter.unusedSimpArgs false
def hexL (n : Nat) : List UInt8 := if n < 16 then [hexD n] else hexL (n / 16) ++ [hexD (n % 16)]
termination_by n
decreasing_by omega
theorem hexL_small {n : Nat} (h : n < 16) : hexL n = [hexD n] := by unfold hexL; rw [if_pos h]
theorem hexL_big {n : Nat} (h : ¬ n < 16) : hexL n = hexL (n / 16) ++ [hexD (n % 16)] := by conv => lhs; unfold hexL; rw [if_neg h]
theorem hexL_len : ∀ (k n : Nat), n < 16 ^ (k + 1) → (hexL n).length ≤ k + 1
  | 0, n, h => by rw [hexL_small (by simpa using h)]; simp
  | k + 1, n, h => by
    by_cases h16 : n < 16
    · rw [hexL_small h16]; simp
    · rw [hexL_big h16]
      have := hexL_len k (n / 16) (by rw [Nat.pow_succ] at h; omega)
      simp
      omega
theorem and15 (n : Int) : bits .and .i64 n 15 = n % 16 := by
  have h15 : (BitVec.ofInt 64 15).toNat = 2 ^ 4 - 1 := by decide
  have key : (BitVec.ofInt 64 n &&& BitVec.ofInt 64 15).toNat = (n % ((2 ^ 64 : Nat) : Int)).toNat % 2 ^ 4 := by
    rw [BitVec.toNat_and, BitVec.toNat_ofInt, h15, Nat.and_two_pow_sub_one_eq_mod]
  show IntKind.i64.wrap ((BitVec.ofInt 64 n &&& BitVec.ofInt 64 15).toNat : Nat) = n % 16
  rw [key, IntKind.wrap_i64]
  omega
set_option maxHeartbeats 400000 in
theorem pHexN_any (n : Nat) : ∀ (w : World), n ≤ 1000000 → Calls Try.prog 24 #[.int .i64 (n : Int)] w fun e w' => e = .returned (.string ⟨(hexL n).toArray⟩) ∧ w' = w := by
  induction n using Nat.strongRecOn with
  | ind n ih =>
    intro w hn
    by_cases h16 : n < 16
    · have hl := hexL_small h16
      have q5 := slice_hex (P := Try.prog) 9 Try.underlying9 .i64 .i64 (n : Int) ((n : Int) + 1) n h16 rfl rfl
      have HL := Lib.hid hl
      clear hl ih
      go_enter Try.func24, Try.ntmps24
      go_wp2
      go_ret
      exact ⟨ret_str (by rw [HL.out]), rfl⟩
    · have hl := hexL_big h16
      have h1 := ih (n / 16) (by omega) w (by omega)
      rw [show ((n / 16 : Nat) : Int) = (n : Int) / 16 by omega] at h1
      have h2 := ih (n % 16) (by omega) w (by omega)
      rw [show ((n % 16 : Nat) : Int) = (n : Int) % 16 by omega] at h2
      have ha := and15 n
      have hl1 := hexL_len 5 (n / 16) (by simp; omega)
      have hl2 := hexL_small (n := n % 16) (by omega)
      obtain ⟨x, hx⟩ : ∃ x, (⟨(hexL (n / 16)).toArray⟩ : ByteArray) = x := ⟨_, rfl⟩
      rw [hx] at h1
      have hxs : x.size ≤ 6 := by rw [← hx]; simpa [ByteArray.size_mk'] using hl1
      have HL := Lib.hid hl
      have HX := Lib.hid hx
      have HL2 := Lib.hid hl2
      rw [hl2] at h2
      have q7 := fun W => run_string_add_sum (P := Try.prog) W x ⟨#[hexD (n % 16)]⟩ (by simp [ByteArray.size_mk']; omega)
      clear hl ih hx hl1 hl2
      go_enter Try.func24, Try.ntmps24
      go_wp2_with fail
      refine h1.mono ?_
      rintro e w1 ⟨rfl, rfl⟩
      go_wp2_with fail
      refine h2.mono ?_
      rintro e w2 ⟨rfl, rfl⟩
      go_wp2
      go_ret
      exact ⟨ret_str (by rw [HL.out, ← HX.out]; apply bs_ext; simp [bs_app]), rfl⟩
set_option maxHeartbeats 400000 in
theorem rHexN_any (n : Nat) : ∀ (w : World), n ≤ 1000000 → Calls Try.prog 25 #[.int .i64 (n : Int)] w fun e w' => e = .returned (.string ⟨(hexL n).toArray⟩) ∧ w' = w := by
  induction n using Nat.strongRecOn with
  | ind n ih =>
    intro w hn
    by_cases h16 : n < 16
    · have hl := hexL_small h16
      have q5 := slice_hex (P := Try.prog) 9 Try.underlying9 .i64 .i64 (n : Int) ((n : Int) + 1) n h16 rfl rfl
      have HL := Lib.hid hl
      clear hl ih
      go_enter Try.func25, Try.ntmps25
      go_wp2
      go_ret
      exact ⟨ret_str (by rw [HL.out]), rfl⟩
    · have hl := hexL_big h16
      have h1 := ih (n / 16) (by omega) w (by omega)
      rw [show ((n / 16 : Nat) : Int) = (n : Int) / 16 by omega] at h1
      have h2 := ih (n % 16) (by omega) w (by omega)
      rw [show ((n % 16 : Nat) : Int) = (n : Int) % 16 by omega] at h2
      have hl1 := hexL_len 5 (n / 16) (by simp; omega)
      have hl2 := hexL_small (n := n % 16) (by omega)
      obtain ⟨x, hx⟩ : ∃ x, (⟨(hexL (n / 16)).toArray⟩ : ByteArray) = x := ⟨_, rfl⟩
      rw [hx] at h1
      have hxs : x.size ≤ 6 := by rw [← hx]; simpa [ByteArray.size_mk'] using hl1
      have HL := Lib.hid hl
      have HX := Lib.hid hx
      have HL2 := Lib.hid hl2
      rw [hl2] at h2
      have q7 := fun W => run_string_add_sum (P := Try.prog) W x ⟨#[hexD (n % 16)]⟩ (by simp [ByteArray.size_mk']; omega)
      clear hl ih hx hl1 hl2
      go_enter Try.func25, Try.ntmps25
      go_wp2_with fail
      refine h1.mono ?_
      rintro e w1 ⟨rfl, rfl⟩
      go_wp2_with fail
      refine h2.mono ?_
      rintro e w2 ⟨rfl, rfl⟩
      go_wp2
      go_ret
      exact ⟨ret_str (by rw [HL.out, ← HX.out]; apply bs_ext; simp [bs_app]), rfl⟩
end Go.Proofs.Ytggbgpmjfncklaa
