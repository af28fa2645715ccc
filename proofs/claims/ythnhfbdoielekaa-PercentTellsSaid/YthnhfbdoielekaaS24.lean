/- The walk of stowageref24.Encode. -/
import Derived.Test.YthnhfbdoielekaaProg
import Derived.Test.YthnhfbdoielekaaR24
import Derived.Test.YthnhfbdoielekaaR04
namespace Go.Proofs.Ythnhfbdoielekaa
open Go.RowKit
set_option linter.unusedVariables false
set_option linter.unusedSimpArgs false
set_option maxHeartbeats 1000000 in
set_option maxRecDepth 100000 in
theorem rEncode_any (s : ByteArray) (sl : Bool) (w : World) (hs : s.size ≤ 1000000) : Calls Try.prog 7 #[.string s, .bool sl] w fun e w' => e = .returned (.string ⟨(pencGo sl s.data.toList).toArray⟩) ∧ Below w.heap.size w w' := by
  go_enter Try.func7, Try.ntmps7
  go_wp2
  go_loopw [5, 6] (fun t i wr => ∃ (k : Nat) (a : ByteArray), k ≤ s.size ∧ i = .int .i64 k ∧ t = .string a ∧ a.size ≤ 3 * k ∧ Below w.heap.size w wr ∧ Hid (a.data.toList ++ pencGo sl (s.data.toList.drop k) = pencGo sl s.data.toList)) (fun _ i _ => s.size - (intOf i).toNat)
  case atStart => exact ⟨0, _, Nat.zero_le _, rfl, rfl, by simp [ByteArray.size_mk'], Below.refl _ _, Lib.hid (by simp)⟩
  case round =>
    obtain ⟨k, a, hk, rfl, rfl, ha, hb, H⟩ := hrel
    by_cases hlt : k < s.size
    · obtain ⟨c, hc, hdr⟩ := next_at s k hlt
      rw [hdr] at H
      have sl1 := slice_one (P := Try.prog) 9 Try.underlying9 .i64 .i64 s k hlt c hc
      clear hdr
      have h256 : c.toNat < 256 := c.toNat_lt
      have hsz := hb.size
      by_cases hp : (plainP c.toNat || sl && decide ((c.toNat : Int) = 47)) = true
      · have H2 : Hid (a.data.toList ++ [c] ++ pencGo sl (s.data.toList.drop (k + 1)) = pencGo sl s.data.toList) := Lib.hid (by have h := H.out; simp only [pencGo, if_pos hp] at h; simpa using h)
        have hq : (97 ≤ (c.toNat : Int) ∧ (c.toNat : Int) ≤ 122) ∨ (65 ≤ (c.toNat : Int) ∧ (c.toNat : Int) ≤ 90) ∨ (48 ≤ (c.toNat : Int) ∧ (c.toNat : Int) ≤ 57) ∨ (c.toNat : Int) = 45 ∨ (c.toNat : Int) = 46 ∨ (c.toNat : Int) = 95 ∨ (c.toNat : Int) = 126 ∨ (sl = true ∧ (c.toNat : Int) = 47) := by
          cases sl <;> simp [plainP] at hp ⊢ <;> omega
        clear hp H
        have H3 := H2
        clear H2
        cases sl
        all_goals
          go_wp2
          all_goals first
            | (exfalso; omega)
            | (exfalso; simp at hq; omega)
            | (go_roundw
               case rel => exact ⟨k + 1, _, by omega, by go_num, rfl, by simp [ByteArray.size_mk', ByteArray.size_append']; omega, hb, Lib.hid (by have h := H3.out; simpa [bs_app] using h)⟩
               case measure => simp [intOf]; omega)
      · have H2 : Hid (a.data.toList ++ [37, hexD (c.toNat / 16), hexD (c.toNat % 16)] ++ pencGo sl (s.data.toList.drop (k + 1)) = pencGo sl s.data.toList) := Lib.hid (by have h := H.out; simp only [pencGo, if_neg hp] at h; simpa using h)
        have hq : ¬ (97 ≤ (c.toNat : Int) ∧ (c.toNat : Int) ≤ 122) ∧ ¬ (65 ≤ (c.toNat : Int) ∧ (c.toNat : Int) ≤ 90) ∧ ¬ (48 ≤ (c.toNat : Int) ∧ (c.toNat : Int) ≤ 57) ∧ ¬ (c.toNat : Int) = 45 ∧ ¬ (c.toNat : Int) = 46 ∧ ¬ (c.toNat : Int) = 95 ∧ ¬ (c.toNat : Int) = 126 := by
          refine ⟨?_, ?_, ?_, ?_, ?_, ?_, ?_⟩ <;> (intro h; exact hp (by simp [plainP, h]))
        have hsl : sl = true → ¬ (c.toNat : Int) = 47 := by intro e h; exact hp (by simp [e, h])
        obtain ⟨q1, q2, q3, q4, q5, q6, q7⟩ := hq
        clear hp H
        have H3 := H2
        clear H2
        cases sl
        all_goals
          try have h47 := hsl rfl
          clear hsl
          go_wp2_with fail
          all_goals try (exfalso; omega)
          all_goals
            refine (digits_any _ _ [c] _ (by simp) (Rd.one (cell_new wr _ _))).mono ?_
            rintro e w2 ⟨rfl, hb2⟩
            simp only [hexs]
            go_wp2
            go_roundw
            case rel => exact ⟨k + 1, _, by omega, by go_num, rfl, by simp [ByteArray.size_mk', ByteArray.size_append']; omega, hb.trans (((Below.refl _ wr).alloc hsz _).trans (hb2.mono (by simp; omega))), Lib.hid (by have h := H3.out; simpa [bs_app] using h)⟩
            case measure => simp [intOf]; omega
    · rw [List.drop_of_length_le (by simp; omega)] at H
      go_wp2
      go_ret
      refine ⟨ret_str ?_, hb⟩
      have h := H.out
      simp [pencGo] at h
      exact bs_mk h
end Go.Proofs.Ythnhfbdoielekaa
