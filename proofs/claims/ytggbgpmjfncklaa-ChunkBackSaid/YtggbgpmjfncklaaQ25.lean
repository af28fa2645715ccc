/- The statements ChunkDecodes, ChunkEncodes: their walks. -/
import Derived.Test.YtggbgpmjfncklaaProg
import Derived.Test.YtggbgpmjfncklaaP25
namespace Go.Proofs.Ytggbgpmjfncklaa
open Go.RowKit
set_option linter.unusedVariables false
set_option linter.unusedSimpArgs false
theorem wf_i64 {n : Int} (h : (Lit.int .i64 n).wf = true) : -9223372036854775808 ≤ n ∧ n ≤ 9223372036854775807 := by
  simp [Lit.wf, IntKind.min, IntKind.max, IntKind.signed, IntKind.bits] at h
  exact h
theorem longD_body (d : Dec) : (longD d).2.body = d.body := by unfold longD; split <;> rfl
theorem stepD_body (d : Dec) (c : UInt8) : (stepD d c).2.body.length ≤ d.body.length + 1 := by
  unfold stepD
  split
  · unfold headD
    repeat' split
    all_goals (first | (rw [longD_body]; simp) | simp)
  · unfold headedD
    repeat' split
    all_goals simp
  · unfold dataD
    simp
  · unfold shutD
    split <;> simp
  · unfold endedD
    split <;> simp
  · unfold trailerD
    repeat' split
    all_goals (first | (rw [longD_body]; simp) | simp)
  · unfold trailedD
    split <;> simp
theorem runD_len : ∀ (l : List UInt8) (d : Dec) (k : Nat), (runD d l k).1.length ≤ d.body.length + l.length
  | [], d, k => by unfold runD; simp
  | c :: r, d, k => by
    unfold runD
    have h1 := stepD_body d c
    have h2 := runD_len r (stepD d c).2 (k + 1)
    split
    · split
      · simp; omega
      · simp; omega
    · simp
set_option maxHeartbeats 800000 in
theorem cdec_walk (b : Value) (l : List UInt8) (w : World) (hb : Src w b (Lib.byteCells l)) : Calls Try.prog 3 #[b] w fun e w' => e = .returned (.bool true) ∧ Below w.heap.size w w' := by
  obtain ⟨A0, c0, rfl⟩ := src_form hb
  by_cases hl : l.length ≤ 4000
  · have hb0 := Lib.hid hb
    clear hb
    have hlen : (runD dec0 l 0).1.length ≤ 65536 := by
      have := runD_len l dec0 0
      simp [dec0] at this ⊢
      omega
    obtain ⟨R, hR⟩ : ∃ R, runD dec0 l 0 = R := ⟨_, rfl⟩
    have hd1 := fun b W h => decode_any b l W (by omega) h
    have hd2 := fun b W h => rDecode_any b l W (by omega) h
    rw [hR] at hd1 hd2 hlen
    clear hR
    go_enter Try.func3, Try.ntmps3
    go_wp2_with fail
    refine (lent_any _ l _ (by omega) hb0.out).mono ?_
    rintro e w1 ⟨⟨B, rfl, hB, hA⟩, hb1⟩
    have hs1 := lent_src hA
    have hBw1 : B < w1.heap.size := cell_lt (hA.cell (j := 0) (by omega))
    go_wp2_with fail
    refine (hd1 _ _ hs1).mono ?_
    rintro e w2 ⟨⟨x, rfl, hx⟩, hb2⟩
    have hB2 := bstep hb1 hb2 (Nat.le_refl _)
    go_wp2_with fail
    refine (hd2 _ _ (hb0.out.block hB2)).mono ?_
    rintro e w3 ⟨⟨y, rfl, hy⟩, hb3⟩
    have hB3 := bstep hB2 hb3 (Nat.le_refl _)
    have hx3 := hx.below hb3
    go_wp2_with fail
    refine (same_src x y _ _ _ hx3.src (row_src rfl hy)).mono ?_
    rintro e w4 ⟨rfl, rfl⟩
    have hdt : decide (R.1 = R.1) = true := by simp
    rw [hdt]
    clear hdt
    go_wp2_with fail
    refine (hx3.over (by omega)).mono ?_
    rintro e w5 ⟨rfl, hb5⟩
    have hB5 : Below w.heap.size w w5 := hB3.trans (hb5.mono hb1.size)
    have hb15 := (hb2.trans (hb3.mono hb2.size)).trans hb5
    go_wp2_with fail
    refine (kept_any B _ l _ (by omega) (hA.below hBw1 hb15) (hb0.out.block hB5)).mono ?_
    rintro e w6 ⟨rfl, hb6⟩
    have hB6 := bstep hB5 hb6 (Nat.le_refl _)
    go_wp2_with fail
    refine (awake25_any _).mono ?_
    rintro e w7 ⟨rfl, hb7⟩
    have hB7 := bstep hB6 hb7 (Nat.le_refl _)
    go_wp2
    go_ret
    exact ⟨rfl, hB7⟩
  · go_enter Try.func3, Try.ntmps3
    have hl2 : 4000 < (l.length : Int) := by omega
    go_wp2_with fail
    go_ret
    exact ⟨rfl, Below.refl _ _⟩
set_option maxHeartbeats 800000 in
theorem cenc_walk (b : Value) (l : List UInt8) (size : Int) (w : World) (h1 : -9223372036854775808 ≤ size) (h2 : size ≤ 9223372036854775807) (hb : Src w b (Lib.byteCells l)) : Calls Try.prog 4 #[b, .int .i64 size] w fun e w' => e = .returned (.bool true) ∧ Below w.heap.size w w' := by
  obtain ⟨A0, c0, rfl⟩ := src_form hb
  by_cases hl : 2000 < l.length ∧ l.length ≤ 65536 ∨ 70000 < l.length
  · have hways : (2000 < (l.length : Int) ∧ (l.length : Int) ≤ 65536) ∨ (65536 < (l.length : Int) ∧ 70000 < (l.length : Int)) := by omega
    rcases hways with ⟨k1, k2⟩ | ⟨k1, k2⟩
    all_goals (
      go_enter Try.func4, Try.ntmps4
      go_wp2_with fail
      all_goals (
        go_ret
        exact ⟨rfl, Below.refl _ _⟩))
  · have hb0 := Lib.hid hb
    clear hb
    have hl70 : l.length ≤ 70000 := by omega
    have hways : ¬ 2000 < (l.length : Int) ∨ (2000 < (l.length : Int) ∧ ¬ (l.length : Int) ≤ 65536 ∧ ¬ 70000 < (l.length : Int)) := by omega
    obtain ⟨R, hR⟩ : ∃ R, encV l size = R := ⟨_, rfl⟩
    have hd1 := fun b W h => pEncode_any b l size W hl70 h h1 h2
    have hd2 := fun b W h => rEncode_any b l size W hl70 h h1 h2
    rw [hR] at hd1 hd2
    clear hR hl
    rcases hways with k1 | ⟨k1, k2, k3⟩
    all_goals (
      go_enter Try.func4, Try.ntmps4
      go_wp2_with fail
      refine (lent_any _ l _ (by omega) hb0.out).mono ?_
      rintro e w1 ⟨⟨B, rfl, hB, hA⟩, hb1⟩
      have hs1 := lent_src hA
      have hBw1 : B < w1.heap.size := cell_lt (hA.cell (j := 0) (by omega))
      go_wp2_with fail
      refine (hd1 _ _ hs1).mono ?_
      rintro e w2 ⟨⟨x, rfl, hx⟩, hb2⟩
      have hB2 := bstep hb1 hb2 (Nat.le_refl _)
      go_wp2_with fail
      refine (hd2 _ _ (hb0.out.block hB2)).mono ?_
      rintro e w3 ⟨⟨y, rfl, hy⟩, hb3⟩
      have hB3 := bstep hB2 hb3 (Nat.le_refl _)
      have hx3 := hx.below hb3
      go_wp2_with fail
      refine (same_src x y _ _ _ hx3.src hy.src).mono ?_
      rintro e w4 ⟨rfl, rfl⟩
      have hdt : decide (R.1 = R.1) = true := by simp
      rw [hdt]
      clear hdt
      go_wp2_with fail
      refine (over_own _ x _ _ hx3).mono ?_
      rintro e w5 ⟨rfl, hb5⟩
      have hB5 : Below w.heap.size w w5 := hB3.trans (hb5.mono hb1.size)
      have hb15 := (hb2.trans (hb3.mono hb2.size)).trans hb5
      go_wp2_with fail
      refine (kept_any B _ l _ (by omega) (hA.below hBw1 hb15) (hb0.out.block hB5)).mono ?_
      rintro e w6 ⟨rfl, hb6⟩
      have hB6 := bstep hB5 hb6 (Nat.le_refl _)
      go_wp2_with fail
      refine (awake25_any _).mono ?_
      rintro e w7 ⟨rfl, hb7⟩
      have hB7 := bstep hB6 hb7 (Nat.le_refl _)
      go_wp2
      go_ret
      exact ⟨rfl, hB7⟩)
end Go.Proofs.Ytggbgpmjfncklaa
