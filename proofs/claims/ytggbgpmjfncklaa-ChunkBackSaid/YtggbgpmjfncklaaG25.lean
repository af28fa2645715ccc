/- Plain laws: the reference's lines beside the machine. -/
import Derived.Test.YtggbgpmjfncklaaProg
import Derived.Test.YtggbgpmjfncklaaF25
namespace Go.Proofs.Ytggbgpmjfncklaa
open Go.RowKit
set_option linter.unusedVariables false
set_option linter.unusedSimpArgs false
theorem digN_shown (c : UInt8) (h : 0 ≤ digN c) : showsB c = true := by
  have h256 := c.toNat_lt
  unfold digN hexN at h
  unfold showsB
  simp
  repeat' split at h
  all_goals omega
theorem hidden_ne (c : UInt8) (h : ¬ showsB c = true) : c.toNat ≠ 59 ∧ digN c < 0 := by
  refine ⟨fun e => h (by unfold showsB; simp; omega), ?_⟩
  rcases Int.lt_or_le (digN c) 0 with h1 | h1
  · exact h1
  · exact absurd (digN_shown c h1) h
/-- What a prefix of a chunk's line has made of a fresh decoder. -/
structure LI (body : List UInt8) (p : List UInt8) (st : Dec) : Prop where
  ph : st.ph = 0
  body : st.body = body
  line : st.line = p.length
  trailers : st.trailers = 0
  done : st.done = false
  digits : st.digits ≤ 6
  size : st.size < 16 ^ st.digits
  pos : p ≠ [] → 0 < st.digits
  beh : st.behind = true → p ≠ [] ∧ (∀ x, headGo (p ++ x) 0 = 0) ∧ (∀ x, numGo (p ++ x) 0 = st.size)
  nob : st.behind = false → st.digits = p.length ∧ (∀ x, headGo (p ++ x) 0 = headGo x p.length) ∧ (∀ x, numGo (p ++ x) 0 = numGo x st.size)
  len : p.length ≤ 64
def fresh (body : List UInt8) : Dec := ⟨0, body, 0, 0, 0, false, 0, false⟩
theorem li_fresh (body : List UInt8) : LI body [] (fresh body) := ⟨rfl, rfl, rfl, rfl, rfl, Nat.zero_le _, (show 0 < 16 ^ 0 by decide), fun h => absurd rfl h, fun h => (by cases h), fun _ => ⟨rfl, fun x => rfl, fun x => rfl⟩, Nat.zero_le _⟩
theorem li_13 {body p : List UInt8} {st : Dec} (h : LI body p st) (hp : p ≠ []) : stepD st 13 = (0, { st with ph := 1 }) := by
  unfold stepD
  rw [h.ph]
  simp only
  unfold headD
  rw [if_pos ⟨rfl, h.pos hp⟩]
theorem li_13nil {body : List UInt8} {st : Dec} (h : LI body [] st) : (stepD st 13).1 = 4 := by
  have hb : st.behind = false := by
    cases hh : st.behind
    · rfl
    · exact absurd rfl (h.beh hh).1
  have hd := (h.nob hb).1
  unfold stepD
  rw [h.ph]
  simp only
  unfold headD
  rw [if_neg (by simp at hd; omega), if_neg (by rw [hb]; decide), if_neg (fun hh => absurd hh.1 (by decide)), if_neg (by decide)]
theorem li_step {body p : List UInt8} {st : Dec} (h : LI body p st) (c : UInt8) (hc : c ≠ 13) :
    (¬ showsB c = true → (stepD st c).1 = 4) ∧ (showsB c = true → headGo (p ++ [c]) 0 ≠ 0 → (stepD st c).1 = headGo (p ++ [c]) 0) ∧
    (showsB c = true → headGo (p ++ [c]) 0 = 0 → 64 ≤ p.length → (stepD st c).1 = 3) ∧
    (showsB c = true → headGo (p ++ [c]) 0 = 0 → p.length < 64 → (stepD st c).1 = 0 ∧ LI body (p ++ [c]) (stepD st c).2) := by
  have hc13 : ¬ (c.toNat = 13 ∧ 0 < st.digits) := fun hh => hc (UInt8.toNat_inj.1 hh.1)
  have e : stepD st c = headD st c := by unfold stepD; rw [h.ph]; rfl
  rw [e]
  cases hbe : st.behind with
  | true =>
    obtain ⟨hp, h1, h2⟩ := h.beh hbe
    have hh : headD st c = if showsB c = true then longD st else (4, st) := by unfold headD; rw [if_neg hc13, if_pos hbe]
    refine ⟨fun hs => by rw [hh, if_neg hs], fun hs hn => absurd (h1 [c]) hn, fun hs _ hl => ?_, fun hs _ hl => ?_⟩
    · rw [hh, if_pos hs]; unfold longD; rw [if_pos (by rw [h.line]; omega)]
    · rw [hh, if_pos hs]; unfold longD; rw [if_neg (by rw [h.line]; omega)]
      refine ⟨rfl, h.ph, h.body, by simp [h.line], h.trailers, h.done, h.digits, h.size, fun _ => h.pos hp, fun _ => ⟨by simp, fun x => ?_, fun x => ?_⟩, fun hf => ?_, by simp; omega⟩
      · rw [List.append_assoc]; exact h1 _
      · rw [List.append_assoc]; exact h2 _
      · simp only at hf; rw [hbe] at hf; cases hf
  | false =>
    obtain ⟨hd, h1, h2⟩ := h.nob hbe
    have hnb : ¬ st.behind = true := by rw [hbe]; decide
    have hg := h1 [c]
    by_cases h59 : c.toNat = 59
    · have hsh : showsB c = true := by unfold showsB; simp; omega
      have hdn : digN c < 0 := by
        have : c = 59 := UInt8.toNat_inj.1 h59
        rw [this]; decide
      by_cases hd0 : 0 < p.length
      · have hg0 : headGo (p ++ [c]) 0 = 0 := by rw [hg]; unfold headGo; rw [if_pos ⟨h59, hd0⟩]
        have hh : headD st c = longD { st with behind := true } := by unfold headD; rw [if_neg hc13, if_neg hnb, if_pos ⟨h59, by omega⟩]
        refine ⟨fun hs => absurd hsh hs, fun _ hn => absurd hg0 hn, fun _ _ hl => ?_, fun _ _ hl => ?_⟩
        · rw [hh]; unfold longD; rw [if_pos (by simp only [h.line]; omega)]
        · rw [hh]; unfold longD; rw [if_neg (by simp only [h.line]; omega)]
          refine ⟨rfl, h.ph, h.body, by simp [h.line], h.trailers, h.done, h.digits, h.size, fun _ => by simp only; omega, fun _ => ⟨by simp, fun x => ?_, fun x => ?_⟩, fun hf => (by cases hf), (by simp; omega)⟩
          · rw [List.append_assoc, h1]; simp only [List.cons_append, List.nil_append]; unfold headGo; rw [if_pos ⟨h59, hd0⟩]
          · rw [List.append_assoc, h2]; simp only [List.cons_append, List.nil_append]; unfold numGo; rw [if_pos h59]
      · have hg4 : headGo (p ++ [c]) 0 = 4 := by rw [hg]; unfold headGo; rw [if_neg (by omega), if_pos hdn]
        have hh : headD st c = (4, st) := by unfold headD; rw [if_neg hc13, if_neg hnb, if_neg (by omega), if_neg (by omega)]
        refine ⟨fun hs => absurd hsh hs, fun _ _ => by rw [hh, hg4], fun _ h0 => ?_, fun _ h0 => ?_⟩
        · rw [hg4] at h0; cases h0
        · rw [hg4] at h0; cases h0
    · by_cases hdn : 0 ≤ digN c
      · have hsh := digN_shown c hdn
        by_cases h6 : 6 ≤ p.length
        · have hg3 : headGo (p ++ [c]) 0 = 3 := by rw [hg]; unfold headGo; rw [if_neg (by omega), if_neg (by omega), if_pos h6]
          have hh : headD st c = (3, st) := by unfold headD; rw [if_neg hc13, if_neg hnb, if_neg (by omega), if_pos hdn, if_pos (by omega)]
          refine ⟨fun hs => absurd hsh hs, fun _ _ => by rw [hh, hg3], fun _ h0 => ?_, fun _ h0 => ?_⟩
          · rw [hg3] at h0; cases h0
          · rw [hg3] at h0; cases h0
        · have hg0 : headGo (p ++ [c]) 0 = 0 := by rw [hg]; unfold headGo; rw [if_neg (by omega), if_neg (by omega), if_neg h6]; rfl
          have hh : headD st c = longD { st with digits := st.digits + 1, size := 16 * st.size + (digN c).toNat } := by unfold headD; rw [if_neg hc13, if_neg hnb, if_neg (by omega), if_pos hdn, if_neg (by omega)]
          refine ⟨fun hs => absurd hsh hs, fun _ hn => absurd hg0 hn, fun _ _ hl => by omega, fun _ _ hl => ?_⟩
          rw [hh]; unfold longD; rw [if_neg (by simp only [h.line]; omega)]
          have hhi := digN_hi c
          have hsz := h.size
          refine ⟨rfl, h.ph, h.body, by simp [h.line], h.trailers, h.done, by simp only; omega, by simp only [Nat.pow_succ]; omega, fun _ => by simp, fun hf => ?_, fun _ => ⟨by simp [hd], fun x => ?_, fun x => ?_⟩, by simp; omega⟩
          · simp only at hf; rw [hbe] at hf; cases hf
          · rw [List.append_assoc, h1]; simp only [List.cons_append, List.nil_append]
            conv => lhs; unfold headGo
            rw [if_neg (by omega), if_neg (by omega), if_neg h6]
            simp
          · rw [List.append_assoc, h2]; simp only [List.cons_append, List.nil_append]
            conv => lhs; unfold numGo
            rw [if_neg h59]
      · have hg4 : headGo (p ++ [c]) 0 = 4 := by rw [hg]; unfold headGo; rw [if_neg (by omega), if_pos (by omega)]
        have hh : headD st c = (4, st) := by unfold headD; rw [if_neg hc13, if_neg hnb, if_neg (by omega), if_neg hdn]
        refine ⟨fun _ => by rw [hh], fun _ _ => by rw [hh, hg4], fun _ h0 => ?_, fun _ h0 => ?_⟩
        · rw [hg4] at h0; cases h0
        · rw [hg4] at h0; cases h0
theorem runD_bad (d : Dec) (c : UInt8) (r : List UInt8) (n : Nat) (e : Int) (h : (stepD d c).1 = e) (he : e ≠ 0) : runD d (c :: r) n = ([], 0, e) := by
  unfold runD
  rw [if_neg (by rw [h]; exact he), h]
theorem runD_go (d : Dec) (c : UInt8) (r : List UInt8) (n : Nat) (h : (stepD d c).1 = 0) (hd : (stepD d c).2.done = false) : runD d (c :: r) n = runD (stepD d c).2 r (n + 1) := by
  conv => lhs; unfold runD
  rw [if_pos h, if_neg (by rw [hd]; decide)]
end Go.Proofs.Ytggbgpmjfncklaa
