/- stowageref25.line, behind the last chunk. -/
import Derived.Test.YtggbgpmjfncklaaProg
import Derived.Test.YtggbgpmjfncklaaI25
namespace Go.Proofs.Ytggbgpmjfncklaa
open Go.RowKit
set_option linter.unusedVariables false
set_option linter.unusedSimpArgs false
/-- The machine in a line behind the last chunk, n bytes of which are taken. -/
def trl (s0 : Dec) (n : Nat) : Dec := if n = 0 then s0 else { s0 with line := n, trailers := s0.trailers + 1 }
def LineFOk (s0 : Dec) (l : List UInt8) (at' : Nat) (e : Ending) : Prop :=
  (∃ err : Int, err ≠ 0 ∧ e = .returned (.tuple #[.int .i64 0, .int .i64 err]) ∧ runD s0 (l.drop at') at' = ([], 0, err)) ∨
  ∃ (t2 : Nat), e = .returned (.tuple #[.int .i64 (t2 : Int), .int .i64 0]) ∧ at' ≤ t2 ∧ t2 + 2 ≤ l.length ∧ (at' < t2 → ∃ c, l[at']? = some c ∧ c ≠ 13) ∧ runD s0 (l.drop at') at' = runD { trl s0 (t2 - at') with ph := 6 } (10 :: l.drop (t2 + 2)) (t2 + 1)
theorem LineFOk.bad {s0 : Dec} {l : List UInt8} {at' : Nat} {err : Int} (h : err ≠ 0) (hr : runD s0 (l.drop at') at' = ([], 0, err)) : LineFOk s0 l at' (.returned (.tuple #[.int .i64 0, .int .i64 err])) := .inl ⟨err, h, rfl, hr⟩
theorem trl_ph {s0 : Dec} (h : s0.ph = 5) (n : Nat) : (trl s0 n).ph = 5 := by unfold trl; split <;> exact h
theorem trl_done {s0 : Dec} (h : s0.done = false) (n : Nat) : (trl s0 n).done = false := by unfold trl; split <;> exact h
theorem trl_13 {s0 : Dec} (h : s0.ph = 5) (n : Nat) : stepD (trl s0 n) 13 = (0, { trl s0 n with ph := 6 }) := by unfold stepD; rw [trl_ph h]; rfl
theorem trl_hidden {s0 : Dec} (h : s0.ph = 5) (n : Nat) (c : UInt8) (hc : c ≠ 13) (hs : ¬ showsB c = true) : (stepD (trl s0 n) c).1 = 4 := by
  unfold stepD
  rw [trl_ph h]
  simp only
  unfold trailerD
  rw [if_neg hc, if_neg hs]
theorem trl_long {s0 : Dec} (h : s0.ph = 5) (n : Nat) (c : UInt8) (hc : c ≠ 13) (hs : showsB c = true) (hn : 64 ≤ n) : (stepD (trl s0 n) c).1 = 3 := by
  unfold stepD
  rw [trl_ph h]
  simp only
  unfold trailerD
  have e : (trl s0 n).line = n := by unfold trl; rw [if_neg (by omega)]
  rw [if_neg hc, if_pos hs, if_neg (by omega)]
  unfold longD
  rw [if_pos (by omega)]
theorem trl_step {s0 : Dec} (h : s0.ph = 5) (h0 : s0.line = 0) (n : Nat) (c : UInt8) (hc : c ≠ 13) (hs : showsB c = true) (hn : n < 64) (ht : n = 0 → s0.trailers < 16) : stepD (trl s0 n) c = (0, trl s0 (n + 1)) := by
  unfold stepD
  rw [trl_ph h]
  simp only
  unfold trailerD
  rw [if_neg hc, if_pos hs]
  by_cases e : n = 0
  · subst e
    have e1 : trl s0 0 = s0 := rfl
    rw [e1, if_pos h0, if_neg (by have := ht rfl; omega)]
    unfold longD trl
    simp only [h0]
    rw [if_neg (by omega), if_neg (by omega)]
  · have e1 : trl s0 n = { s0 with line := n, trailers := s0.trailers + 1 } := by unfold trl; rw [if_neg e]
    rw [e1, if_neg (by simp only; exact e)]
    unfold longD trl
    simp only
    rw [if_neg (by omega), if_neg (by omega)]
set_option maxHeartbeats 2000000 in
theorem lineF_any (A : Option Addr) (cp : Nat) (l : List UInt8) (s0 : Dec) (a : Nat) (w : World) (hl : l.length ≤ 1000000) (hs : Src w (.slice A l.length cp) (Lib.byteCells l)) (ha : a ≤ l.length) (h5 : s0.ph = 5) (h0 : s0.line = 0) (hdn : s0.done = false) (ht : ∀ c, l[a]? = some c → c ≠ 13 → s0.trailers < 16) :
    Calls Try.prog 22 #[.slice A l.length cp, .int .i64 (a : Int), .bool false] w fun e w' => LineFOk s0 l a e ∧ w' = w := by
  have HCL := Lib.hid (src_cells hs rfl)
  obtain ⟨R, hR⟩ : ∃ R, runD s0 (l.drop a) a = R := ⟨_, rfl⟩
  have HR := Lib.hid hR
  have HT := Lib.hid ht
  have H5 := Lib.hid h5
  have H0 := Lib.hid h0
  have HD := Lib.hid hdn
  clear hs hR ht h5 h0 hdn
  go_enter Try.func22, Try.ntmps22
  go_wp2
  go_loop [8] (fun i => ∃ (k : Nat), a ≤ k ∧ k ≤ l.length ∧ i = .int .i64 k ∧ Hid (a < k → ∃ c, l[a]? = some c ∧ c ≠ 13) ∧ Hid (runD (trl s0 (k - a)) (l.drop k) k = R)) (fun i => l.length - (intOf i).toNat)
  case atStart => exact ⟨a, Nat.le_refl _, ha, rfl, Lib.hid (fun h => absurd h (Nat.lt_irrefl _)), Lib.hid (by rw [Nat.sub_self]; exact HR.out)⟩
  case round =>
    obtain ⟨k, hak, hk, rfl, HN, H⟩ := hrel
    by_cases hlt : k < l.length
    · obtain ⟨c, b, off, rfl, hlc, hcell, hdr⟩ := HCL.out k hlt
      rw [hdr] at H
      by_cases h13 : c = 13
      · subst h13
        have hs13 := trl_13 H5.out (k - a)
        have hgo : R = runD { trl s0 (k - a) with ph := 6 } (l.drop (k + 1)) (k + 1) := by
          rw [← H.out, runD_go _ 13 _ _ (by rw [hs13]) (by rw [hs13]; exact trl_done HD.out _), hs13]
        by_cases hend : k + 1 = l.length
        · have hr : R = ([], 0, 9) := by rw [hgo, List.drop_of_length_le (by omega)]; rfl
          have HQ := Lib.hid (LineFOk.bad (s0 := s0) (l := l) (at' := a) (err := 9) (by decide) (HR.out.trans hr))
          have ke : (k : Int) + 1 = (l.length : Int) := by omega
          clear hr hdr hlc hgo hs13
          go_wp2
          go_ret2
          exact ⟨HQ.out, rfl⟩
        · obtain ⟨c2, b2, off2, hA2, hlc2, hcell2, hdr2⟩ := HCL.out (k + 1) (by omega)
          have hA2' := Option.some.inj hA2
          injection hA2' with hb1 ho1
          subst hb1 ho1
          have ke : ¬ (k : Int) + 1 = (l.length : Int) := by omega
          have hk1 : k + 1 < l.length := by omega
          rw [hdr2] at hgo
          have hc2' : w.cell? ⟨b, off + k + 1, none⟩ = some (.int .u8 (c2.toNat : Int)) := by rw [Nat.add_assoc]; exact hcell2
          by_cases h10 : c2 = 10
          · subst h10
            have hq : LineFOk s0 l a (.returned (.tuple #[.int .i64 (k : Int), .int .i64 0])) := .inr ⟨k, rfl, hak, by omega, HN.out, by rw [HR.out, hgo]⟩
            have HQ := Lib.hid hq
            clear hq hdr hlc hgo hs13 hdr2 hlc2 hA2
            go_wp2
            go_ret2
            exact ⟨HQ.out, rfl⟩
          · have hr : R = ([], 0, 4) := by
              rw [hgo]
              exact runD_bad _ _ _ _ 4 (by unfold stepD trailedD; simp only; rw [if_neg h10]) (by decide)
            have HQ := Lib.hid (LineFOk.bad (s0 := s0) (l := l) (at' := a) (err := 4) (by decide) (HR.out.trans hr))
            have k10 := ne_nat (n := 10) (by decide) h10
            clear hr hdr hlc hgo hs13 hdr2 hlc2 hA2
            go_wp2
            go_ret2
            exact ⟨HQ.out, rfl⟩
      · have k13 := ne_nat (n := 13) (by decide) h13
        by_cases hsh : showsB c = true
        · have hcase : (c.toNat : Int) = 9 ∨ ¬ (c.toNat : Int) = 9 ∧ ¬ (c.toNat : Int) < 32 ∧ ¬ (126 : Int) < (c.toNat : Int) := by
            have h := hsh
            unfold showsB at h
            simp at h
            omega
          by_cases h64 : 64 ≤ k - a
          · have hr : R = ([], 0, 3) := by rw [← H.out]; exact runD_bad _ _ _ _ 3 (trl_long H5.out _ c h13 hsh h64) (by decide)
            have HQ := Lib.hid (LineFOk.bad (s0 := s0) (l := l) (at' := a) (err := 3) (by decide) (HR.out.trans hr))
            have k64 : (64 : Int) ≤ (k : Int) - (a : Int) := by omega
            clear hr hdr hlc hsh
            rcases hcase with h9 | ⟨h9, h32, h126⟩
            all_goals (
              go_wp2
              go_ret2
              exact ⟨HQ.out, rfl⟩)
          · have hst := trl_step H5.out H0.out (k - a) c h13 hsh (by omega) (fun e => HT.out c (by rw [show a = k by omega]; exact hlc) h13)
            have hgo : R = runD (trl s0 (k + 1 - a)) (l.drop (k + 1)) (k + 1) := by
              rw [← H.out, runD_go _ c _ _ (by rw [hst]) (by rw [hst]; exact trl_done HD.out _), hst, show k - a + 1 = k + 1 - a by omega]
            have HG := Lib.hid hgo
            have HN2 : Hid (a < k + 1 → ∃ c, l[a]? = some c ∧ c ≠ 13) := Lib.hid fun _ => by
              by_cases e : a = k
              · exact ⟨c, by rw [e]; exact hlc, h13⟩
              · exact HN.out (by omega)
            have k64 : ¬ (64 : Int) ≤ (k : Int) - (a : Int) := by omega
            clear hdr hlc hsh hst hgo
            rcases hcase with h9 | ⟨h9, h32, h126⟩
            all_goals (
              go_wp2
              go_round
              case rel => exact ⟨k + 1, by omega, by omega, by go_num, HN2, Lib.hid HG.out.symm⟩
              case measure => simp [intOf]; omega)
        · have hr : R = ([], 0, 4) := by rw [← H.out]; exact runD_bad _ _ _ _ 4 (trl_hidden H5.out _ c h13 hsh) (by decide)
          have HQ := Lib.hid (LineFOk.bad (s0 := s0) (l := l) (at' := a) (err := 4) (by decide) (HR.out.trans hr))
          have hn9 : ¬ (c.toNat : Int) = 9 := fun e => hsh (by unfold showsB; simp; omega)
          have hout : (c.toNat : Int) < 32 ∨ (126 : Int) < (c.toNat : Int) := by
            rcases Nat.lt_or_ge c.toNat 32 with h | h
            · left; omega
            · right
              rcases Nat.lt_or_ge 126 c.toNat with h2 | h2
              · omega
              · exact absurd (by unfold showsB; simp; omega) hsh
          clear hr hdr hlc
          rcases hout with ho | ho
          all_goals (
            go_wp2
            go_ret2
            exact ⟨HQ.out, rfl⟩)
    · have hr : R = ([], 0, 9) := by rw [← H.out, List.drop_of_length_le (by omega)]; rfl
      have HQ := Lib.hid (LineFOk.bad (s0 := s0) (l := l) (at' := a) (err := 9) (by decide) (HR.out.trans hr))
      clear hr
      go_wp2
      go_ret2
      exact ⟨HQ.out, rfl⟩
end Go.Proofs.Ytggbgpmjfncklaa
