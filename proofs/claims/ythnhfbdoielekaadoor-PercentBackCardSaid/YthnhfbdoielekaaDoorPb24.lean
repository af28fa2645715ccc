/- Percent: the chapter's examples (by the kernel), and what is encoded is decoded as it was: plain. -/
import Derived.Test.YthnhfbdoielekaaDoorHb24
import Derived.Test.YthnhfbdoielekaaDoorPrStowagelaw24PercentKnown
import Derived.Test.YthnhfbdoielekaaDoorPrStowagelaw24PercentBack
namespace Go.Proofs.YthnhfbdoielekaaDoor
open Go.RowKit
set_option linter.unusedVariables false
set_option linter.unusedSimpArgs false
theorem known_f : Pr.stowagelaw24_PercentKnown.f 60 = some true := by decide +kernel
theorem pknown_any (w : World) : Calls Tryd.prog 4 #[] w fun e w' => e = .returned (.bool true) ∧ Below w.heap.size w w' := Pr.stowagelaw24_PercentKnown.calls 60 true w known_f
theorem hex_back (c : UInt8) : hexMB (hexD (c.toNat / 16)) (hexD (c.toNat % 16)) = c ∧ ¬ hexM (hexD (c.toNat / 16)).toNat < 0 ∧ ¬ hexM (hexD (c.toNat % 16)).toNat < 0 := by
  have h : ∀ i : Fin 256, hexMB (hexD (i.1 / 16)) (hexD (i.1 % 16)) = UInt8.ofNat i.1 ∧ ¬ hexM (hexD (i.1 / 16)).toNat < 0 ∧ ¬ hexM (hexD (i.1 % 16)).toNat < 0 := by decide +kernel
  have := h ⟨c.toNat, c.toNat_lt⟩
  simpa using this
theorem plain_may (sl : Bool) (c : UInt8) (h : (plainP c.toNat || sl && decide ((c.toNat : Int) = 47)) = true) : c ≠ 37 ∧ c ≠ 43 ∧ ¬ c.toNat < 33 ∧ ¬ 126 < c.toNat := by
  have hh : ∀ i : Fin 256, (plainP i.1 || decide ((i.1 : Int) = 47)) = true → UInt8.ofNat i.1 ≠ 37 ∧ UInt8.ofNat i.1 ≠ 43 ∧ ¬ i.1 < 33 ∧ ¬ 126 < i.1 := by decide +kernel
  have := hh ⟨c.toNat, c.toNat_lt⟩ (by cases sl <;> simp_all)
  simpa using this
theorem pdec_penc (bl sl : Bool) : ∀ l : List UInt8, pdec bl (pencGo sl l) = some l
  | [] => rfl
  | c :: r => by
    have ih := pdec_penc bl sl r
    by_cases h : (plainP c.toNat || sl && decide ((c.toNat : Int) = 47)) = true
    · obtain ⟨h1, h2, h3, h4⟩ := plain_may sl c h
      rw [pencGo, if_pos h]
      simp only [List.cons_append, List.nil_append]
      rw [pdec_plain bl c _ h1 (fun e => h2 e.1), if_neg h3, if_neg h4, ih]
      rfl
    · obtain ⟨h1, h2, h3⟩ := hex_back c
      rw [pencGo, if_neg h]
      simp only [List.cons_append, List.nil_append]
      rw [pdec_pct, if_neg h2, if_neg h3, ih, h1]
      rfl
theorem pdec_len (bl : Bool) : ∀ (n : Nat) (l m : List UInt8), l.length ≤ n → pdec bl l = some m → m.length ≤ l.length
  | _, [], m, _, h => by cases h; simp
  | 0, c :: r, m, hn, h => by simp at hn
  | n + 1, c :: r, m, hn, h => by
    simp only [List.length_cons] at hn
    by_cases h37 : c = 37
    · subst h37
      match r, hn, h with
      | [], _, h => rw [pdec_short bl [] (by simp)] at h; cases h
      | [a], _, h => rw [pdec_short bl [a] (by simp)] at h; cases h
      | a :: b :: r', hn, h =>
        rw [pdec_pct] at h
        split at h
        · cases h
        · split at h
          · cases h
          · cases hr : pdec bl r' with
            | none => rw [hr] at h; cases h
            | some q =>
              rw [hr] at h
              cases h
              have := pdec_len bl n r' q (by simp only [List.length_cons] at hn; omega) hr
              simp
              omega
    · by_cases hp : c = 43 ∧ bl = true
      · obtain ⟨rfl, rfl⟩ := hp
        rw [pdec_plus] at h
        cases hr : pdec true r with
        | none => rw [hr] at h; cases h
        | some q =>
          rw [hr] at h
          cases h
          have := pdec_len true n r q (by omega) hr
          simp
          omega
      · rw [pdec_plain bl c r h37 hp] at h
        split at h
        · cases h
        · split at h
          · cases h
          · cases hr : pdec bl r with
            | none => rw [hr] at h; cases h
            | some q =>
              rw [hr] at h
              cases h
              have := pdec_len bl n r q (by omega) hr
              simp
              omega
theorem penc_len (sl : Bool) : ∀ l : List UInt8, (pencGo sl l).length ≤ 3 * l.length
  | [] => by simp [pencGo]
  | c :: r => by
    have := penc_len sl r
    rw [pencGo, List.length_append]
    simp only [List.length_cons]
    split <;> simp <;> omega
theorem pDecode_f (s : ByteArray) (bl : Bool) (hs : s.size ≤ 1000000) : Pr.percent_Decode.f s bl = some (if 2048 < s.size then ((⟨#[]⟩ : ByteArray), (3 : Int)) else match pdec bl s.data.toList with | some l => ((⟨l.toArray⟩ : ByteArray), (0 : Int)) | none => ((⟨#[]⟩ : ByteArray), (4 : Int))) := by
  unfold Pr.percent_Decode.f
  by_cases h : 2048 < s.size
  · rw [if_pos (by omega), if_pos h]
  · rw [if_neg (by omega), if_neg h]
    unfold Pr.percent_decoded.f
    rw [if_pos hs]
    cases hd : pdec bl s.data.toList <;> simp
theorem back_f (s : ByteArray) (sl bl : Bool) : Pr.stowagelaw24_PercentBack.f 60 s sl bl = some true := by
  unfold Pr.stowagelaw24_PercentBack.f
  rw [known_f, Option.bind_some]
  by_cases h : 3000 < s.size
  · rw [if_pos (by omega)]
  · rw [if_neg (by omega)]
    have he : Pr.percent_Encode.f s sl = some ⟨(pencGo sl s.data.toList).toArray⟩ := by unfold Pr.percent_Encode.f; rw [if_pos (by omega)]
    have hl := penc_len sl s.data.toList
    have hsz : (⟨(pencGo sl s.data.toList).toArray⟩ : ByteArray).size = (pencGo sl s.data.toList).length := by rw [bs_len]
    have hss : s.data.toList.length = s.size := by rw [bs_len]
    rw [he, Option.bind_some, pDecode_f _ bl (by omega), Option.bind_some]
    by_cases h2 : 2048 < (pencGo sl s.data.toList).length
    · rw [if_pos (by rw [hsz]; omega), if_pos rfl, if_pos (by rw [hsz]; omega)]
      rfl
    · rw [if_neg (by rw [hsz]; omega)]
      have hd : (⟨(pencGo sl s.data.toList).toArray⟩ : ByteArray).data.toList = pencGo sl s.data.toList := by simp
      rw [if_neg (by rw [hsz]; omega), hd, pdec_penc]
      rw [pDecode_f s bl (by omega), Option.bind_some]
      simp only [if_true]
      by_cases h3 : 2048 < s.size
      · rw [if_pos h3]; rfl
      · rw [if_neg h3]
        cases hp : pdec bl s.data.toList with
        | none => rfl
        | some m =>
          have := pdec_len bl _ _ m (Nat.le_refl _) hp
          simp only [if_true]
          congr 1
          simp only [decide_eq_true_eq]
          rw [show (⟨m.toArray⟩ : ByteArray).size = m.length by rw [bs_len]]
          omega
theorem pback_any (s : ByteArray) (sl bl : Bool) (w : World) : Calls Tryd.prog 5 #[.string s, .bool sl, .bool bl] w fun e w' => e = .returned (.bool true) ∧ Below w.heap.size w w' := Pr.stowagelaw24_PercentBack.calls 60 s sl bl true w (back_f s sl bl)
end Go.Proofs.YthnhfbdoielekaaDoor
