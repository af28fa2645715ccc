/- Listing: the plain side: which items are listed; the order of texts. -/
import Derived.Sort.Walk0
namespace Go.Proofs.Ytahkcfhiecfgeaa
set_option linter.unusedVariables false
set_option linter.unusedSimpArgs false
abbrev Bs := List UInt8
theorem lt_irr (a : Bs) : ¬ a < a := List.lt_irrefl a
theorem lt_trn {a b c : Bs} (h : a < b) (k : b < c) : a < c := List.lt_trans h k
theorem lt_tri (a b : Bs) : a < b ∨ a = b ∨ b < a := by
  by_cases h : a < b
  · exact .inl h
  · by_cases k : b < a
    · exact .inr (.inr k)
    · exact .inr (.inl (List.le_antisymm (List.not_lt.1 k) (List.not_lt.1 h)))
theorem lt_asy {a b : Bs} (h : a < b) : ¬ b < a := fun k => lt_irr a (lt_trn h k)
theorem lt_ne {a b : Bs} (h : a < b) : a ≠ b := fun e => lt_irr b (e ▸ h)
theorem nil_lt (a : Bs) (h : a ≠ []) : ([] : Bs) < a := by
  cases a with
  | nil => exact absurd rfl h
  | cons c r => exact List.nil_lt_cons c r
theorem not_lt_nil (a : Bs) : ¬ a < ([] : Bs) := List.not_lt_nil a
theorem lt_app (p a b : Bs) : p ++ a < p ++ b ↔ a < b := by
  induction p with
  | nil => simp
  | cons c r ih => simp [ih]
/-- What lies between two texts with a beginning in common has it, too. -/
theorem between : ∀ (c k1 k2 k3 : Bs), k1 < k2 → k2 < k3 → c <+: k1 → c <+: k3 → c <+: k2
  | [], _, _, _, _, _, _, _ => List.nil_prefix
  | x :: c, k1, k2, k3, h12, h23, h1, h3 => by
    obtain ⟨r1, rfl⟩ := h1
    obtain ⟨r3, rfl⟩ := h3
    cases k2 with
    | nil => exact absurd h12 (not_lt_nil _)
    | cons y k2 =>
      rw [List.cons_append] at h12 h23
      rw [List.cons_lt_cons_iff] at h12 h23
      have hxy : x = y := by
        rcases h12 with h | ⟨h, _⟩
        · rcases h23 with h' | ⟨h', _⟩
          · exact absurd (UInt8.lt_trans h h') (UInt8.lt_irrefl x)
          · exact absurd (h' ▸ h) (UInt8.lt_irrefl _)
        · exact h
      subst hxy
      have h12' : c ++ r1 < k2 := by
        rcases h12 with h | ⟨_, h⟩
        · exact absurd h (UInt8.lt_irrefl x)
        · exact h
      have h23' : k2 < c ++ r3 := by
        rcases h23 with h | ⟨_, h⟩
        · exact absurd h (UInt8.lt_irrefl x)
        · exact h
      have ih := between c (c ++ r1) k2 (c ++ r3) h12' h23' ⟨r1, rfl⟩ ⟨r3, rfl⟩
      obtain ⟨r, rfl⟩ := ih
      exact ⟨r, rfl⟩
theorem lt_of_prefix {c k : Bs} (h : c <+: k) (hne : c ≠ k) : c < k := by
  obtain ⟨r, rfl⟩ := h
  have hr : r ≠ [] := by rintro rfl; simp at hne
  have := (lt_app c [] r).2 (nil_lt r hr)
  simpa using this
/-! ### common prefixes -/
/-- What stands ahead of the first d in a text. -/
def headL (d : Bs) : Bs → Option Bs
  | [] => if d = [] then some [] else none
  | x :: r => if d <+: (x :: r) then some [] else (headL d r).map (x :: ·)
theorem headL_some (d : Bs) : ∀ l h, headL d l = some h → ∃ r, l = h ++ d ++ r
  | [], h, e => by
    unfold headL at e
    split at e
    · injection e with e; subst e; exact ⟨[], by simp [*]⟩
    · cases e
  | x :: r, h, e => by
    unfold headL at e
    split at e
    · rename_i hp
      injection e with e
      subst e
      obtain ⟨t, ht⟩ := hp
      exact ⟨t, by simp [ht]⟩
    · cases hh : headL d r with
      | none => simp [hh] at e
      | some h' =>
        simp only [hh, Option.map_some, Option.some.injEq] at e
        subst e
        obtain ⟨t, ht⟩ := headL_some d r h' hh
        exact ⟨t, by simp [ht]⟩
/-- It hangs on what stands up to the end of d alone. -/
theorem headL_app (d : Bs) (hd : d ≠ []) : ∀ l h, headL d l = some h → ∀ r, headL d (h ++ d ++ r) = some h
  | [], h, e, r => by
    unfold headL at e
    rw [if_neg hd] at e
    cases e
  | x :: l, h, e, r => by
    unfold headL at e
    split at e
    · injection e with e
      subst e
      cases hdr : d with
      | nil => exact absurd hdr hd
      | cons y t =>
        rw [List.nil_append, List.cons_append]
        unfold headL
        rw [if_pos ⟨r, by simp⟩]
    · rename_i hp
      cases hh : headL d l with
      | none => simp [hh] at e
      | some h' =>
        simp only [hh, Option.map_some, Option.some.injEq] at e
        subst e
        obtain ⟨t, ht⟩ := headL_some d l h' hh
        rw [List.cons_append, List.cons_append]
        unfold headL
        rw [if_neg, headL_app d hd l h' hh r]
        · rfl
        · rintro ⟨q, hq⟩
          apply hp
          rw [ht]
          -- d stands at the beginning of x :: (h' ++ d ++ r): its bytes lie within x :: (h' ++ d)
          have hlen : d.length ≤ (x :: (h' ++ d)).length := by simp; omega
          have e1 : (x :: (h' ++ d ++ r)).take d.length = d := by rw [← hq]; simp
          refine ⟨(x :: (h' ++ d ++ t)).drop d.length, ?_⟩
          have e2 : (x :: (h' ++ d ++ t)).take d.length = d := by
            rw [show x :: (h' ++ d ++ r) = (x :: (h' ++ d)) ++ r by simp, List.take_append_of_le_length hlen] at e1
            rw [show x :: (h' ++ d ++ t) = (x :: (h' ++ d)) ++ t by simp, List.take_append_of_le_length hlen]
            exact e1
          conv => lhs; lhs; rw [← e2]
          exact List.take_append_drop _ _
/-- The common prefix of a key that begins with a prefix. -/
def commonL (p d k : Bs) : Option Bs := if d = [] then none else (headL d (k.drop p.length)).map fun h => p ++ h ++ d
theorem commonL_some {p d k c : Bs} (hk : p <+: k) (h : commonL p d k = some c) : p <+: c ∧ c <+: k ∧ (∃ h, c = p ++ h ++ d) ∧ d ≠ [] ∧ ∀ k', c <+: k' → commonL p d k' = some c := by
  unfold commonL at h
  split at h
  · cases h
  rename_i hd
  cases hh : headL d (k.drop p.length) with
  | none => simp [hh] at h
  | some x =>
    simp only [hh, Option.map_some, Option.some.injEq] at h
    subst h
    obtain ⟨r, rfl⟩ := hk
    rw [List.drop_left] at hh
    obtain ⟨t, ht⟩ := headL_some d r x hh
    refine ⟨⟨x ++ d, by simp⟩, ⟨t, by simp [ht]⟩, ⟨x, rfl⟩, hd, ?_⟩
    rintro k' ⟨q, rfl⟩
    unfold commonL
    rw [if_neg hd]
    have e : (p ++ x ++ d ++ q).drop p.length = x ++ d ++ q := by simp
    rw [e, headL_app d hd r x hh q]
    rfl
end Go.Proofs.Ytahkcfhiecfgeaa
