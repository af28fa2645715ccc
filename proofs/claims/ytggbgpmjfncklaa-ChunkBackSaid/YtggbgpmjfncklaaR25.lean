/- Chunks: what is encoded is decoded: the plain law. -/
import Derived.Test.YtggbgpmjfncklaaProg
import Derived.Test.YtggbgpmjfncklaaP25
namespace Go.Proofs.Ytggbgpmjfncklaa
open Go.RowKit
set_option linter.unusedVariables false
set_option linter.unusedSimpArgs false
/-- Steps without an error and without an end. -/
def stepsD : Dec → List UInt8 → Option Dec
  | d, [] => some d
  | d, c :: r => if (stepD d c).1 = 0 ∧ (stepD d c).2.done = false then stepsD (stepD d c).2 r else none
theorem stepsD_app : ∀ (a b : List UInt8) (d d1 : Dec), stepsD d a = some d1 → stepsD d (a ++ b) = stepsD d1 b
  | [], b, d, d1, h => by
    unfold stepsD at h
    injection h with h
    subst h
    rfl
  | c :: r, b, d, d1, h => by
    unfold stepsD at h
    split at h
    · rename_i hc
      rw [List.cons_append]
      conv => lhs; unfold stepsD
      rw [if_pos hc]
      exact stepsD_app r b _ d1 h
    · cases h
theorem stepsD_two {d d1 d2 : Dec} {a b : List UInt8} (h : stepsD d a = some d1) (g : stepsD d1 b = some d2) : stepsD d (a ++ b) = some d2 := by rw [stepsD_app a b d d1 h, g]
theorem runD_steps : ∀ (a b : List UInt8) (d d1 : Dec) (k : Nat), stepsD d a = some d1 → runD d (a ++ b) k = runD d1 b (k + a.length)
  | [], b, d, d1, k, h => by
    unfold stepsD at h
    injection h with h
    subst h
    rfl
  | c :: r, b, d, d1, k, h => by
    unfold stepsD at h
    split at h
    · rename_i hc
      rw [List.cons_append]
      conv => lhs; unfold runD
      rw [if_pos hc.1, if_neg (by rw [hc.2]; simp), runD_steps r b _ d1 _ h]
      congr 1
      simp
      omega
    · cases h
theorem stepsD_take : ∀ (a : List UInt8) (d d1 : Dec) (n : Nat), stepsD d a = some d1 → ∃ d2, stepsD d (a.take n) = some d2
  | [], d, d1, n, h => by simp [stepsD]
  | c :: r, d, d1, 0, h => by simp [stepsD]
  | c :: r, d, d1, n + 1, h => by
    unfold stepsD at h
    split at h
    · rename_i hc
      obtain ⟨d2, h2⟩ := stepsD_take r _ d1 n h
      refine ⟨d2, ?_⟩
      rw [List.take_succ_cons]
      unfold stepsD
      rw [if_pos hc]
      exact h2
    · cases h
theorem hexD_dig (v : Nat) (h : v < 16) : digN (hexD v) = v ∧ (hexD v).toNat ≠ 13 ∧ (hexD v).toNat ≠ 59 := by
  have : v = 0 ∨ v = 1 ∨ v = 2 ∨ v = 3 ∨ v = 4 ∨ v = 5 ∨ v = 6 ∨ v = 7 ∨ v = 8 ∨ v = 9 ∨ v = 10 ∨ v = 11 ∨ v = 12 ∨ v = 13 ∨ v = 14 ∨ v = 15 := by omega
  rcases this with rfl | rfl | rfl | rfl | rfl | rfl | rfl | rfl | rfl | rfl | rfl | rfl | rfl | rfl | rfl | rfl <;> exact ⟨by decide, by decide, by decide⟩
theorem step_hex (b : List UInt8) (n s t : Nat) (v : Nat) (hv : v < 16) (hn : n < 6) :
    stepsD ⟨0, b, n, n, s, false, t, false⟩ [hexD v] = some ⟨0, b, n + 1, n + 1, 16 * s + v, false, t, false⟩ := by
  obtain ⟨h1, h2, h3⟩ := hexD_dig v hv
  have e : stepD ⟨0, b, n, n, s, false, t, false⟩ (hexD v) = (0, ⟨0, b, n + 1, n + 1, 16 * s + v, false, t, false⟩) := by
    show headD _ _ = _
    unfold headD
    rw [if_neg (fun h => h2 h.1), if_neg (by simp), if_neg (fun h => h3 h.1), if_pos (by rw [h1]; omega), if_neg (by simp only; omega)]
    unfold longD
    rw [if_neg (by simp only; omega), h1]
    simp
  simp only [stepsD, e, and_self, if_true]
theorem steps_hex (b : List UInt8) (t : Nat) : ∀ (k n : Nat), n < 16 ^ (k + 1) → k < 6 → stepsD ⟨0, b, 0, 0, 0, false, t, false⟩ (hexL n) = some ⟨0, b, (hexL n).length, (hexL n).length, n, false, t, false⟩
  | 0, n, h, hk => by
    have h16 : n < 16 := by simpa using h
    rw [hexL_small h16, step_hex b 0 0 t n h16 (by omega)]
    simp
  | k + 1, n, h, hk => by
    by_cases h16 : n < 16
    · rw [hexL_small h16, step_hex b 0 0 t n h16 (by omega)]
      simp
    · rw [hexL_big h16]
      have hl := hexL_len k (n / 16) (by rw [Nat.pow_succ] at h; omega)
      rw [stepsD_two (steps_hex b t k (n / 16) (by rw [Nat.pow_succ] at h; omega) (by omega)) (step_hex b _ _ t (n % 16) (by omega) (by omega))]
      simp
      omega
theorem hexL_pos (n : Nat) : 0 < (hexL n).length := by
  by_cases h16 : n < 16
  · rw [hexL_small h16]; simp
  · rw [hexL_big h16]; simp
theorem steps_head (b : List UInt8) (t n : Nat) (h : n ≤ 65536) (hb : b.length + n ≤ 65536) :
    ∃ k, stepsD ⟨0, b, 0, 0, 0, false, t, false⟩ (hexL n ++ [13, 10]) = some ⟨if n = 0 then 5 else 2, b, 0, k, n, false, t, false⟩ := by
  refine ⟨(hexL n).length, stepsD_two (steps_hex b t 5 n (by simp; omega) (by omega)) ?_⟩
  have hp := hexL_pos n
  have e1 : stepD ⟨0, b, (hexL n).length, (hexL n).length, n, false, t, false⟩ 13 = (0, ⟨1, b, (hexL n).length, (hexL n).length, n, false, t, false⟩) := by
    show headD _ _ = _
    unfold headD
    rw [if_pos ⟨rfl, hp⟩]
  have e2 : stepD ⟨1, b, (hexL n).length, (hexL n).length, n, false, t, false⟩ 10 = (0, ⟨if n = 0 then 5 else 2, b, 0, (hexL n).length, n, false, t, false⟩) := by
    show headedD _ _ = _
    unfold headedD
    rw [if_pos rfl, if_neg (by simp only; omega)]
  simp only [stepsD, e1, e2, and_self, if_true]
theorem steps_data (t k : Nat) : ∀ (s b : List UInt8), s ≠ [] → stepsD ⟨2, b, 0, k, s.length, false, t, false⟩ s = some ⟨3, b ++ s, 0, k, 0, false, t, false⟩
  | [], b, h => absurd rfl h
  | [c], b, h => by
    have e : stepD ⟨2, b, 0, k, 1, false, t, false⟩ c = (0, ⟨3, b ++ [c], 0, k, 0, false, t, false⟩) := rfl
    simp only [List.length_singleton, stepsD, e, and_self, if_true]
  | c :: c2 :: r, b, h => by
    have e : stepD ⟨2, b, 0, k, (c :: c2 :: r).length, false, t, false⟩ c = (0, ⟨2, b ++ [c], 0, k, (c2 :: r).length, false, t, false⟩) := by
      show dataD _ _ = _
      unfold dataD
      rw [if_neg (by simp)]
      rfl
    have ih := steps_data t k (c2 :: r) (b ++ [c]) (by simp)
    unfold stepsD
    rw [e]
    rw [if_pos ⟨rfl, rfl⟩, ih]
    simp
theorem steps_shut (b : List UInt8) (k t : Nat) : stepsD ⟨3, b, 0, k, 0, false, t, false⟩ [13, 10] = some ⟨0, b, 0, 0, 0, false, t, false⟩ := rfl
theorem steps_enc (size : Nat) (hs : size ≠ 0) (t : Nat) : ∀ (n : Nat) (l b : List UInt8), l.length ≤ n → b.length + l.length ≤ 65536 →
    stepsD ⟨0, b, 0, 0, 0, false, t, false⟩ (encC size l) = some ⟨0, b ++ l, 0, 0, 0, false, t, false⟩
  | 0, l, b, hn, hb => by
    have : l = [] := List.eq_nil_of_length_eq_zero (by omega)
    subst this
    rw [encC_nil]
    simp [stepsD]
  | n + 1, l, b, hn, hb => by
    by_cases hl : l = []
    · subst hl
      rw [encC_nil]
      simp [stepsD]
    · have hl0 : l.length ≠ 0 := fun e => hl (List.eq_nil_of_length_eq_zero e)
      rw [encC_go hl hs]
      obtain ⟨M, hM⟩ : ∃ M, min size l.length = M := ⟨_, rfl⟩
      rw [hM]
      obtain ⟨k, h1⟩ := steps_head b t M (by omega) (by omega)
      rw [if_neg (by omega)] at h1
      have htl : (l.take M).length = M := by simp; omega
      have h2 := steps_data t k (l.take M) b (by intro e; rw [e] at htl; simp at htl; omega)
      rw [htl] at h2
      have h3 := stepsD_two (stepsD_two h1 h2) (steps_shut _ k t)
      have h4 := steps_enc size hs t n (l.drop M) (b ++ l.take M) (by rw [List.length_drop]; omega) (by rw [List.length_drop, List.length_append, htl]; omega)
      rw [List.append_assoc b, List.take_append_drop] at h4
      exact stepsD_two h3 h4
/-- All but the last byte. -/
theorem steps_all (size : Nat) (hs : size ≠ 0) (l : List UInt8) (hl : l.length ≤ 65536) :
    stepsD dec0 (encC size l ++ [48, 13, 10, 13]) = some ⟨6, l, 0, 1, 0, false, 0, false⟩ := by
  have h1 := steps_enc size hs 0 l.length l [] (Nat.le_refl _) (by simpa using hl)
  refine stepsD_two h1 ?_
  obtain ⟨k, h2⟩ := steps_head l 0 0 (by omega) (by omega)
  have e0 : hexL 0 = [48] := by rw [hexL_small (by omega)]; rfl
  have h3 : stepsD ⟨0, l, 0, 0, 0, false, 0, false⟩ [48, 13, 10] = some ⟨5, l, 0, 1, 0, false, 0, false⟩ := by
    have e1 : stepD ⟨0, l, 0, 0, 0, false, 0, false⟩ 48 = (0, ⟨0, l, 1, 1, 0, false, 0, false⟩) := rfl
    have e2 : stepD ⟨0, l, 1, 1, 0, false, 0, false⟩ 13 = (0, ⟨1, l, 1, 1, 0, false, 0, false⟩) := rfl
    have e3 : stepD ⟨1, l, 1, 1, 0, false, 0, false⟩ 10 = (0, ⟨5, l, 0, 1, 0, false, 0, false⟩) := by
      show headedD _ _ = _
      unfold headedD
      rw [if_pos rfl, if_neg (by simp only; omega)]
      rfl
    simp only [stepsD, e1, e2, e3, and_self, if_true]
  exact stepsD_two (b := [13]) h3 rfl
theorem back_whole (size : Nat) (hs : size ≠ 0) (l r : List UInt8) (hl : l.length ≤ 65536) :
    runD dec0 ((encC size l ++ tailE) ++ r) 0 = (l, (encC size l ++ tailE).length, 0) := by
  have h := runD_steps _ (10 :: r) dec0 _ 0 (steps_all size hs l hl)
  have e : (encC size l ++ [48, 13, 10, 13]) ++ (10 :: r) = (encC size l ++ tailE) ++ r := by simp [tailE]
  rw [e] at h
  rw [h]
  have e4 : stepD ⟨6, l, 0, 1, 0, false, 0, false⟩ 10 = (0, ⟨5, l, 0, 1, 0, false, 0, true⟩) := rfl
  unfold runD
  rw [e4]
  simp [tailE]
theorem back_part (size : Nat) (hs : size ≠ 0) (l : List UInt8) (hl : l.length ≤ 65536) (n : Nat) (hn : n < (encC size l ++ tailE).length) :
    runD dec0 ((encC size l ++ tailE).take n) 0 = ([], 0, 9) := by
  have e : encC size l ++ tailE = (encC size l ++ [48, 13, 10, 13]) ++ [10] := by simp [tailE]
  rw [e] at hn ⊢
  have hn2 : n ≤ (encC size l ++ [48, 13, 10, 13]).length := by simp at hn ⊢; omega
  rw [List.take_append_of_le_length hn2]
  obtain ⟨d2, h2⟩ := stepsD_take _ _ _ n (steps_all size hs l hl)
  have h3 := runD_steps _ [] dec0 d2 0 h2
  rw [List.append_nil] at h3
  rw [h3]
  rfl
end Go.Proofs.Ytggbgpmjfncklaa
