/- The statements TokenKnown and TokenBack: their walks. -/
import Derived.Test.YtnhkfjgoocbbdaaProg
import Derived.Test.YtnhkfjgoocbbdaaY21
namespace Go.Proofs.Ytnhkfjgoocbbdaa
open Go.RowKit
set_option linter.unusedVariables false
set_option linter.unusedSimpArgs false
theorem makeV_long (a b : ByteArray) (h : 400 < a.size) : makeV a b = .tuple #[.string ⟨#[]⟩, .int .i64 3] := by unfold makeV; rw [if_pos (.inl h)]
theorem makeV_ok (a b : ByteArray) (ha : a.size ≤ 400) (hb : b.size ≤ 400) : makeV a b = .tuple #[.string ⟨(madeS a.data.toList b.data.toList).toArray⟩, .int .i64 0] := by unfold makeV; rw [if_neg (by omega)]
theorem makeV_bad (a b : ByteArray) (h : ¬ (a.size ≤ 400 ∧ b.size ≤ 400)) : makeV a b = .tuple #[.string ⟨#[]⟩, .int .i64 3] := by unfold makeV; rw [if_pos (by omega)]
set_option maxHeartbeats 400000 in
theorem known21_any (w : World) : Calls Try.prog 4 #[] w fun e w' => e = .returned (.bool true) ∧ Below w.heap.size w w' := by
  have h0 := fun W => Try.strings_Repeat (⟨#[97]⟩ : ByteArray) 401 W (by omega) (by decide)
  obtain ⟨L, hL⟩ : ∃ L : ByteArray, (⟨(Lib.repeatL ((⟨#[97]⟩ : ByteArray)).data.toList 401).toArray⟩ : ByteArray) = L := ⟨_, rfl⟩
  have hLl : L.size = 401 := by rw [← hL]; simp [ByteArray.size_mk', Lib.repeatL_length]
  rw [hL] at h0
  have h1 := fun W => pMake_any L (⟨#[]⟩ : ByteArray) W (by omega) (by decide)
  rw [makeV_long L _ (by omega)] at h1
  clear hL
  go_enter Try.func4, Try.ntmps4
  go_wp2_with fail
  refine (h0 _).mono ?_
  rintro e w1 ⟨rfl, hb1⟩
  go_wp2_with fail
  refine (h1 _).mono ?_
  rintro e w2 ⟨rfl, hb2⟩
  have hB2 := bstep hb1 hb2 (Nat.le_refl _)
  go_wp2_with fail
  refine (awake21_any _).mono ?_
  rintro e w3 ⟨rfl, hb3⟩
  have hB3 := bstep hB2 hb3 (Nat.le_refl _)
  go_wp2_with fail
  refine (refused_any _ _ (by decide) rv1).mono ?_
  rintro e w4 ⟨rfl, hb4⟩
  have hB4 := bstep hB3 hb4 (Nat.le_refl _)
  go_wp2_with fail
  refine (refused_any _ _ (by decide) rv2).mono ?_
  rintro e w5 ⟨rfl, hb5⟩
  have hB5 := bstep hB4 hb5 (Nat.le_refl _)
  go_wp2_with fail
  refine (refused_any _ _ (by decide) rv3).mono ?_
  rintro e w6 ⟨rfl, hb6⟩
  have hB6 := bstep hB5 hb6 (Nat.le_refl _)
  go_wp2
  go_ret
  exact ⟨rfl, hB6⟩
/-- the second half of TokenBack, from the reading of s on -/
theorem readV_cases (s : ByteArray) : (∃ n : Int, n ≠ 0 ∧ readV s = .tuple #[.string ⟨#[]⟩, .string ⟨#[]⟩, .int .i64 n]) ∨
    ∃ x y : ByteArray, readV s = .tuple #[.string x, .string y, .int .i64 0] ∧ x.size ≤ 400 ∧ y.size ≤ 400 ∧ (⟨(madeS x.data.toList y.data.toList).toArray⟩ : ByteArray) = s ∧ s.size ≤ 1610 := by
  by_cases h : 1610 < s.size
  · exact .inl ⟨3, by decide, readV_big s h⟩
  · cases hr : readO s.data.toList with
    | none => exact .inl ⟨4, by decide, readV_none s h hr⟩
    | some q =>
      obtain ⟨x, y⟩ := q
      obtain ⟨h1, h2, h3⟩ := readO_some _ _ _ hr
      obtain ⟨X, hX⟩ := bs_of x
      obtain ⟨Y, hY⟩ := bs_of y
      subst hX hY
      exact .inr ⟨X, Y, readV_some s X Y h hr, by rw [bs_len]; exact h1, by rw [bs_len]; exact h2, (bs_mk h3.symm).symm, by omega⟩
set_option maxHeartbeats 1000000 in
theorem tokenBack_walk (a b s : ByteArray) (w : World) : Calls Try.prog 5 #[.string a, .string b, .string s] w fun e w' => e = .returned (.bool true) ∧ Below w.heap.size w w' := by
  by_cases hbig : 3000 < a.size ∨ 3000 < b.size ∨ 3000 < s.size
  · go_enter Try.func5, Try.ntmps5
    go_wp2_with fail
    refine (known21_any _).mono ?_
    rintro e w1 ⟨rfl, hb1⟩
    by_cases h1 : 3000 < a.size
    · have k1 : (3000 : Int) < a.size := by omega
      go_wp2_with fail
      go_ret
      exact ⟨rfl, hb1⟩
    · have k1 : ¬ (3000 : Int) < a.size := by omega
      by_cases h2 : 3000 < b.size
      · have k2 : (3000 : Int) < b.size := by omega
        go_wp2_with fail
        go_ret
        exact ⟨rfl, hb1⟩
      · have k2 : ¬ (3000 : Int) < b.size := by omega
        have k3 : (3000 : Int) < s.size := by omega
        go_wp2_with fail
        go_ret
        exact ⟨rfl, hb1⟩
  · have k1 : ¬ (3000 : Int) < a.size := by omega
    have k2 : ¬ (3000 : Int) < b.size := by omega
    have k3 : ¬ (3000 : Int) < s.size := by omega
    have hmk := fun W => pMake_any a b W (by omega) (by omega)
    have hrs := fun W => pRead_any s W (by omega)
    clear hbig
    rcases readV_cases s with ⟨n, hn, hv⟩ | ⟨x, y, hv, hx, hy, hm, hs⟩
    · have hn' : (n != 0) = true := by simpa using hn
      rw [hv] at hrs
      clear hv
      by_cases hok : a.size ≤ 400 ∧ b.size ≤ 400
      · skip
        obtain ⟨ha, hb⟩ := hok
        rw [makeV_ok a b ha hb] at hmk
        obtain ⟨t, ht⟩ : ∃ t : ByteArray, (⟨(madeS a.data.toList b.data.toList).toArray⟩ : ByteArray) = t := ⟨_, rfl⟩
        have htl : (t.size : Int) = 2 * (a.size : Int) + 2 * (b.size : Int) + 10 := by
          have := madeS_len a.data.toList b.data.toList
          rw [← ht]
          simp only [ByteArray.size_mk', List.size_toArray, this, bs_len]
          omega
        have hrt := fun W => pRead_any t W (by omega)
        rw [← ht, read_made a b ha hb, ht] at hrt
        rw [ht] at hmk
        have q1 := bs_beq a
        have q2 := bs_beq b
        clear ht
        go_enter Try.func5, Try.ntmps5
        go_wp2_with fail
        refine (known21_any _).mono ?_
        rintro e w1 ⟨rfl, hb1⟩
        go_wp2_with fail
        all_goals try (exfalso; omega)
        refine (hmk _).mono ?_
        rintro e w2 ⟨rfl, hb2⟩
        have hB2 := bstep hb1 hb2 (Nat.le_refl _)
        go_wp2_with fail
        refine (hrt _).mono ?_
        rintro e w3 ⟨rfl, hb3⟩
        have hB3 := bstep hB2 hb3 (Nat.le_refl _)
        go_wp2_with fail
        refine (hrs _).mono ?_
        rintro e w4 ⟨rfl, hb4⟩
        have hB4 := bstep hB3 hb4 (Nat.le_refl _)
        go_wp2
        go_ret
        exact ⟨rfl, hB4⟩
      · skip
        rw [makeV_bad a b hok] at hmk
        clear hok
        go_enter Try.func5, Try.ntmps5
        go_wp2_with fail
        refine (known21_any _).mono ?_
        rintro e w1 ⟨rfl, hb1⟩
        go_wp2_with fail
        all_goals try (exfalso; omega)
        refine (hmk _).mono ?_
        rintro e w2 ⟨rfl, hb2⟩
        have hB2 := bstep hb1 hb2 (Nat.le_refl _)
        have hB3 := hB2
        go_wp2_with fail
        refine (hrs _).mono ?_
        rintro e w4 ⟨rfl, hb4⟩
        have hB4 := bstep hB3 hb4 (Nat.le_refl _)
        go_wp2
        go_ret
        exact ⟨rfl, hB4⟩
    · rw [hv] at hrs
      clear hv
      have hmk2 := fun W => pMake_any x y W (by omega) (by omega)
      rw [makeV_ok x y hx hy, hm] at hmk2
      have q3 := bs_beq s
      clear hm
      by_cases hok : a.size ≤ 400 ∧ b.size ≤ 400
      · skip
        obtain ⟨ha, hb⟩ := hok
        rw [makeV_ok a b ha hb] at hmk
        obtain ⟨t, ht⟩ : ∃ t : ByteArray, (⟨(madeS a.data.toList b.data.toList).toArray⟩ : ByteArray) = t := ⟨_, rfl⟩
        have htl : (t.size : Int) = 2 * (a.size : Int) + 2 * (b.size : Int) + 10 := by
          have := madeS_len a.data.toList b.data.toList
          rw [← ht]
          simp only [ByteArray.size_mk', List.size_toArray, this, bs_len]
          omega
        have hrt := fun W => pRead_any t W (by omega)
        rw [← ht, read_made a b ha hb, ht] at hrt
        rw [ht] at hmk
        have q1 := bs_beq a
        have q2 := bs_beq b
        clear ht
        go_enter Try.func5, Try.ntmps5
        go_wp2_with fail
        refine (known21_any _).mono ?_
        rintro e w1 ⟨rfl, hb1⟩
        go_wp2_with fail
        all_goals try (exfalso; omega)
        refine (hmk _).mono ?_
        rintro e w2 ⟨rfl, hb2⟩
        have hB2 := bstep hb1 hb2 (Nat.le_refl _)
        go_wp2_with fail
        refine (hrt _).mono ?_
        rintro e w3 ⟨rfl, hb3⟩
        have hB3 := bstep hB2 hb3 (Nat.le_refl _)
        go_wp2_with fail
        refine (hrs _).mono ?_
        rintro e w4 ⟨rfl, hb4⟩
        have hB4 := bstep hB3 hb4 (Nat.le_refl _)
        go_wp2_with fail
        refine (hmk2 _).mono ?_
        rintro e w5 ⟨rfl, hb5⟩
        have hB5 := bstep hB4 hb5 (Nat.le_refl _)
        go_wp2
        go_ret
        exact ⟨rfl, hB5⟩
      · skip
        rw [makeV_bad a b hok] at hmk
        clear hok
        go_enter Try.func5, Try.ntmps5
        go_wp2_with fail
        refine (known21_any _).mono ?_
        rintro e w1 ⟨rfl, hb1⟩
        go_wp2_with fail
        all_goals try (exfalso; omega)
        refine (hmk _).mono ?_
        rintro e w2 ⟨rfl, hb2⟩
        have hB2 := bstep hb1 hb2 (Nat.le_refl _)
        have hB3 := hB2
        go_wp2_with fail
        refine (hrs _).mono ?_
        rintro e w4 ⟨rfl, hb4⟩
        have hB4 := bstep hB3 hb4 (Nat.le_refl _)
        go_wp2_with fail
        refine (hmk2 _).mono ?_
        rintro e w5 ⟨rfl, hb5⟩
        have hB5 := bstep hB4 hb5 (Nat.le_refl _)
        go_wp2
        go_ret
        exact ⟨rfl, hB5⟩
end Go.Proofs.Ytnhkfjgoocbbdaa
