/- stowageref21: Make, dash, Read. -/
import Derived.Test.YtnhkfjgoocbbdaaProg
import Derived.Test.YtnhkfjgoocbbdaaT21
namespace Go.Proofs.Ytnhkfjgoocbbdaa
open Go.RowKit
set_option linter.unusedVariables false
set_option linter.unusedSimpArgs false
def dashGo : List UInt8 → Nat → Int
  | [], _ => -1
  | c :: r, n => if c = 45 then (n : Int) else dashGo r (n + 1)
theorem dashGo_none : ∀ (l : List UInt8) (n : Nat), cutAt 45 l = none → dashGo l n = -1
  | [], _, _ => rfl
  | c :: r, n, h => by
    unfold cutAt at h
    unfold dashGo
    by_cases hc : c = 45
    · simp [hc] at h
    · rw [if_neg hc] at h ⊢
      exact dashGo_none r (n + 1) (by cases hh : cutAt 45 r with | none => rfl | some p => simp [hh] at h)
theorem dashGo_some : ∀ (l a b : List UInt8) (n : Nat), cutAt 45 l = some (a, b) → dashGo l n = ((n + a.length : Nat) : Int)
  | [], _, _, _, h => by simp [cutAt] at h
  | c :: r, a, b, n, h => by
    unfold cutAt at h
    unfold dashGo
    by_cases hc : c = 45
    · simp [hc] at h
      rw [if_pos hc, h.1]
      rfl
    · rw [if_neg hc] at h ⊢
      cases hh : cutAt 45 r with
      | none => simp [hh] at h
      | some q =>
        obtain ⟨x, y⟩ := q
        simp [hh] at h
        rw [dashGo_some r x y (n + 1) hh, ← h.1]
        simp
        omega
set_option maxHeartbeats 400000 in
theorem dash_any (s : ByteArray) (n : Nat) (w : World) (hs : s.size ≤ 1000000) (hn : n ≤ s.size) :
    Calls Try.prog 28 #[.string s, .int .i64 (n : Int)] w fun e w' => e = .returned (.int .i64 (dashGo (s.data.toList.drop n) n)) ∧ w' = w := by
  go_enter Try.func28, Try.ntmps28
  go_wp2
  go_loop [5] (fun i => ∃ k : Nat, k ≤ s.size ∧ i = .int .i64 k ∧ Hid (dashGo (s.data.toList.drop k) k = dashGo (s.data.toList.drop n) n)) (fun i => s.size - (intOf i).toNat)
  case atStart => exact ⟨n, hn, rfl, Lib.hid rfl⟩
  case round =>
    obtain ⟨k, hk, rfl, H⟩ := hrel
    by_cases hlt : k < s.size
    · obtain ⟨c, hcd, hdr⟩ := next_at s k hlt
      rw [hdr] at H
      clear hdr
      by_cases h45 : (c.toNat : Int) = 45
      · go_wp2
        go_ret
        refine ⟨ret_int ?_, rfl⟩
        have h := H.out
        have : c = 45 := UInt8.toNat_inj.1 (by have : (45 : UInt8).toNat = 45 := rfl; omega)
        simp [dashGo, this] at h
        exact h
      · go_wp2
        go_round
        case rel => exact ⟨k + 1, by omega, by go_num, Lib.hid (by
          have h := H.out
          have : c ≠ 45 := fun e => h45 (by rw [e]; rfl)
          simpa [dashGo, this] using h)⟩
        case measure => simp [intOf]; omega
    · rw [List.drop_of_length_le (by simp; omega)] at H
      go_wp2
      go_ret
      exact ⟨ret_int (by have h := H.out; simpa [dashGo] using h), rfl⟩
def makeV (a b : ByteArray) : Value := if 400 < a.size ∨ 400 < b.size then .tuple #[.string ⟨#[]⟩, .int .i64 3] else .tuple #[.string ⟨(madeS a.data.toList b.data.toList).toArray⟩, .int .i64 0]
theorem rMake_any (a b : ByteArray) (w : World) (ha : a.size ≤ 1000000) (hb : b.size ≤ 1000000) :
    Calls Try.prog 9 #[.string a, .string b] w fun e w' => e = .returned (makeV a b) ∧ Below w.heap.size w w' := by
  by_cases h : 400 < a.size ∨ 400 < b.size
  · have hm : makeV a b = .tuple #[.string ⟨#[]⟩, .int .i64 3] := by unfold makeV; rw [if_pos h]
    rw [hm]
    clear hm
    by_cases h1 : 400 < a.size
    · have h1' : 400 < (a.size : Int) := by omega
      go_enter Try.func9, Try.ntmps9
      go_wp2
      all_goals (go_ret2; exact ⟨rfl, Below.refl _ _⟩)
    · have h1' : ¬ 400 < (a.size : Int) := by omega
      have h2' : 400 < (b.size : Int) := by omega
      go_enter Try.func9, Try.ntmps9
      go_wp2
      all_goals (go_ret2; exact ⟨rfl, Below.refl _ _⟩)
  · have hm : makeV a b = .tuple #[.string ⟨(madeS a.data.toList b.data.toList).toArray⟩, .int .i64 0] := by unfold makeV; rw [if_neg h]
    have HM := Lib.hid hm
    have h1' : ¬ 400 < (a.size : Int) := by omega
    have h2' : ¬ 400 < (b.size : Int) := by omega
    clear hm
    obtain ⟨w1, c1, hcv1, hc1, hb1, hsz1, hcell1⟩ := conv_bytes (P := Try.prog) w 9 32 5 a Try.underlying9 Try.underlying32 Try.underlying5
    have hs1 := conv_src hc1 hcell1
    obtain ⟨X, hX⟩ : ∃ X : ByteArray, (⟨(hexs a.data.toList).toArray⟩ : ByteArray) = X := ⟨_, rfl⟩
    obtain ⟨Y, hY⟩ : ∃ Y : ByteArray, (⟨(hexs b.data.toList).toArray⟩ : ByteArray) = Y := ⟨_, rfl⟩
    have hd1 := digits_any _ c1 a.data.toList w1 (by rw [← bs_len]; omega) hs1.rd.1
    rw [← bs_len, hX] at hd1
    have hXl : X.size ≤ 800 := by rw [← hX]; simp [ByteArray.size_mk', hexs_len]; omega
    have hYl : Y.size ≤ 800 := by rw [← hY]; simp [ByteArray.size_mk', hexs_len]; omega
    obtain ⟨p, hp⟩ : ∃ p : ByteArray, X ++ ⟨#[45]⟩ ++ Y ++ ⟨#[45]⟩ = p := ⟨_, rfl⟩
    have hpl : p.size ≤ 1602 := by rw [← hp]; simp [ByteArray.size_append', ByteArray.size_mk']; omega
    have hpm : p.data.toList = madeL a.data.toList b.data.toList := by rw [← hp, ← hX, ← hY]; simp [bs_app, madeL]
    obtain ⟨t8, ht8⟩ : ∃ t8 : ByteArray, (⟨((tagS p.data.toList).data.toList.take 8).toArray⟩ : ByteArray) = t8 := ⟨_, rfl⟩
    obtain ⟨tg, htg⟩ : ∃ tg : ByteArray, tagS p.data.toList = tg := ⟨_, rfl⟩
    have htl : tg.size = 32 := by rw [← htg]; unfold tagS; simp [ByteArray.size_mk', hexs_len, dig_len]
    have h8l : t8.size = 8 := by rw [← ht8, htg]; simp [ByteArray.size_mk']; rw [htl]; rfl
    have hfin : (⟨(madeS a.data.toList b.data.toList).toArray⟩ : ByteArray) = p ++ t8 := by
      symm
      refine bs_mk ?_
      unfold madeS
      rw [bs_app, hpm, ← ht8]
      unfold tagS
      simp only
      rw [← hexs_take, hpm, List.take_take]
      rfl
    have q1 := fun W => run_string_add_sum (P := Try.prog) W X ⟨#[45]⟩ (by simp [ByteArray.size_mk']; omega)
    have q2 := fun W => run_string_add_sum (P := Try.prog) W (X ++ ⟨#[45]⟩) Y (by simp [ByteArray.size_mk', ByteArray.size_append']; omega)
    have q3 := fun W => run_string_add_sum (P := Try.prog) W (X ++ ⟨#[45]⟩ ++ Y) ⟨#[45]⟩ (by simp [ByteArray.size_mk', ByteArray.size_append']; omega)
    have q4 := fun W => run_string_add_sum (P := Try.prog) W p t8 (by omega)
    have q5 := fun W => slice_to (P := Try.prog) 9 Try.underlying9 .i64 tg 8 8 rfl (by omega) W
    rw [hp] at q3
    rw [htg] at ht8
    rw [ht8] at q5
    have HFIN := Lib.hid hfin
    have HTG := Lib.hid htg
    have HY := Lib.hid hY
    clear hfin htg ht8 hpm hp hX hY
    go_enter Try.func9, Try.ntmps9
    go_wp2_with fail
    refine hd1.mono ?_
    rintro e w2 ⟨rfl, hb2⟩
    have hbw2 := bstep hb1 hb2 (Nat.le_refl _)
    obtain ⟨w3, c3, hcv3, hc3, hb3, hsz3, hcell3⟩ := conv_bytes (P := Try.prog) w2 9 32 5 b Try.underlying9 Try.underlying32 Try.underlying5
    have hs3 := conv_src hc3 hcell3
    have hbw3 := bstep hbw2 hb3 (Nat.le_refl _)
    have hd3 := digits_any _ c3 b.data.toList w3 (by rw [← bs_len]; omega) hs3.rd.1
    rw [← bs_len, HY.out] at hd3
    clear hcell3 hcell1 hs3 hs1 hcv1
    go_wp2_with fail
    refine hd3.mono ?_
    rintro e w4 ⟨rfl, hb4⟩
    have hbw4 := bstep hbw3 hb4 (Nat.le_refl _)
    obtain ⟨w5, c5, hcv5, hc5, hb5, hsz5, hcell5⟩ := conv_bytes (P := Try.prog) w4 9 32 5 p Try.underlying9 Try.underlying32 Try.underlying5
    have hs5 := conv_src hc5 hcell5
    have hbw5 := bstep hbw4 hb5 (Nat.le_refl _)
    clear hcell5 hcv3
    go_wp2_with fail
    refine (rTag_any _ p.data.toList _ (by rw [← bs_len]; omega) hs5).mono ?_
    rintro e w6 ⟨rfl, hb6⟩
    rw [HTG.out]
    have hbw6 := bstep hbw5 hb6 (Nat.le_refl _)
    clear hcv5
    go_wp2
    go_ret2
    exact ⟨by rw [HM.out, HFIN.out]; rfl, hbw6⟩
theorem pMake_any (a b : ByteArray) (w : World) (ha : a.size ≤ 1000000) (hb : b.size ≤ 1000000) :
    Calls Try.prog 8 #[.string a, .string b] w fun e w' => e = .returned (makeV a b) ∧ Below w.heap.size w w' := by
  by_cases h : 400 < a.size ∨ 400 < b.size
  · have hm : makeV a b = .tuple #[.string ⟨#[]⟩, .int .i64 3] := by unfold makeV; rw [if_pos h]
    rw [hm]
    clear hm
    by_cases h1 : 400 < a.size
    · have h1' : 400 < (a.size : Int) := by omega
      go_enter Try.func8, Try.ntmps8
      go_wp2
      all_goals (go_ret2; exact ⟨rfl, Below.refl _ _⟩)
    · have h1' : ¬ 400 < (a.size : Int) := by omega
      have h2' : 400 < (b.size : Int) := by omega
      go_enter Try.func8, Try.ntmps8
      go_wp2
      all_goals (go_ret2; exact ⟨rfl, Below.refl _ _⟩)
  · have hm : makeV a b = .tuple #[.string ⟨(madeS a.data.toList b.data.toList).toArray⟩, .int .i64 0] := by unfold makeV; rw [if_neg h]
    have HM := Lib.hid hm
    have h1' : ¬ 400 < (a.size : Int) := by omega
    have h2' : ¬ 400 < (b.size : Int) := by omega
    clear hm
    go_enter Try.func8, Try.ntmps8
    go_wp2_with fail
    refine (made_any a b _ (by omega) (by omega)).mono ?_
    rintro e w1 ⟨rfl, hb1⟩
    go_wp2
    go_ret2
    exact ⟨by rw [HM.out]; rfl, hb1⟩
end Go.Proofs.Ytnhkfjgoocbbdaa
