/- stowageref25.line. -/
import Derived.Test.YtggbgpmjfncklaaProg
import Derived.Test.YtggbgpmjfncklaaG25
namespace Go.Proofs.Ytggbgpmjfncklaa
open Go.RowKit
set_option linter.unusedVariables false
set_option linter.unusedSimpArgs false
def LineOk (body l : List UInt8) (at' : Nat) (e : Ending) : Prop :=
  (∃ err : Int, err ≠ 0 ∧ e = .returned (.tuple #[.int .i64 0, .int .i64 err]) ∧ runD (fresh body) (l.drop at') at' = ([], 0, err)) ∨
  ∃ (t2 : Nat) (st : Dec), e = .returned (.tuple #[.int .i64 (t2 : Int), .int .i64 0]) ∧ at' < t2 ∧ t2 + 2 ≤ l.length ∧ LI body ((l.drop at').take (t2 - at')) st ∧ runD (fresh body) (l.drop at') at' = runD { st with ph := 1 } (10 :: l.drop (t2 + 2)) (t2 + 1)
theorem LineOk.bad {body l : List UInt8} {at' : Nat} {err : Int} (h : err ≠ 0) (hr : runD (fresh body) (l.drop at') at' = ([], 0, err)) : LineOk body l at' (.returned (.tuple #[.int .i64 0, .int .i64 err])) := .inl ⟨err, h, rfl, hr⟩
theorem take_snoc (l : List UInt8) (a k : Nat) (c : UInt8) (ha : a ≤ k) (hc : l[k]? = some c) : (l.drop a).take (k + 1 - a) = (l.drop a).take (k - a) ++ [c] := by
  rw [show k + 1 - a = (k - a) + 1 by omega, List.take_add_one, List.getElem?_drop, show a + (k - a) = k by omega, hc]
  rfl
theorem hs_take {w : World} {A : Option Addr} {n c : Nat} {ys : List Value} (h : Src w (.slice A n c) ys) (m : Nat) (hm : m ≤ n) : Src w (.slice A m c) (ys.take m) := by
  rcases h with ⟨A', c', h, hA, rfl⟩ | ⟨b, off, c', hu, hle, hc⟩
  · injection h with h1 h2 h3
    subst h1 h2 h3
    obtain rfl : m = 0 := by omega
    exact .inl ⟨A, c, rfl, hA, by simp⟩
  · injection hu with h1 h2 h3
    subst h1 h3
    have hl : (ys.take m).length = m := by rw [List.length_take]; omega
    refine .inr ⟨b, off, c, by rw [hl], by omega, fun j x hj => hc j x ?_⟩
    rw [List.getElem?_take] at hj
    split at hj
    · exact hj
    · cases hj
set_option maxHeartbeats 2000000 in
theorem lineT_any (A : Option Addr) (cp : Nat) (l body : List UInt8) (a : Nat) (w : World) (hl : l.length ≤ 1000000) (hs : Src w (.slice A l.length cp) (Lib.byteCells l)) (ha : a ≤ l.length) :
    Calls Try.prog 22 #[.slice A l.length cp, .int .i64 (a : Int), .bool true] w fun e w' => LineOk body l a e ∧ w' = w := by
  have HCL := Lib.hid (src_cells hs rfl)
  have HS := Lib.hid hs
  obtain ⟨R, hR⟩ : ∃ R, runD (fresh body) (l.drop a) a = R := ⟨_, rfl⟩
  have HR := Lib.hid hR
  clear hs hR
  go_enter Try.func22, Try.ntmps22
  go_wp2
  go_loop [8] (fun i => ∃ (k : Nat) (st : Dec), a ≤ k ∧ k ≤ l.length ∧ i = .int .i64 k ∧ Hid (LI body ((l.drop a).take (k - a)) st) ∧ Hid (runD st (l.drop k) k = R)) (fun i => l.length - (intOf i).toNat)
  case atStart => exact ⟨a, fresh body, Nat.le_refl _, ha, rfl, Lib.hid (by rw [Nat.sub_self]; exact li_fresh body), HR⟩
  case round =>
    obtain ⟨k, st, hak, hk, rfl, HL, H⟩ := hrel
    by_cases hlt : k < l.length
    · obtain ⟨c, b, off, rfl, hlc, hcell, hdr⟩ := HCL.out k hlt
      rw [hdr] at H
      have hsub : ((k : Int) - (a : Int)) = ((k - a : Nat) : Int) := by omega
      by_cases h13 : c = 13
      · subst h13
        by_cases hka : k = a
        · subst hka
          have hr : R = ([], 0, 4) := by
            rw [← H.out]
            have hL := HL.out
            rw [Nat.sub_self] at hL
            exact runD_bad _ _ _ _ 4 (li_13nil hL) (by decide)
          have hq := LineOk.bad (body := body) (l := l) (at' := k) (err := 4) (by decide) (HR.out.trans hr)
          have HQ := Lib.hid hq
          clear hq hr hdr hlc
          go_wp2
          go_ret2
          exact ⟨HQ.out, rfl⟩
        · have hpl : ((l.drop a).take (k - a)).length = k - a := by simp; omega
          have hpne : (l.drop a).take (k - a) ≠ [] := by intro e; rw [e] at hpl; simp at hpl; omega
          have hs13 := li_13 HL.out hpne
          have hgo : R = runD { st with ph := 1 } (l.drop (k + 1)) (k + 1) := by
            rw [← H.out, runD_go st 13 _ _ (by rw [hs13]) (by rw [hs13]; exact HL.out.done), hs13]
          have kka : ¬ ((k : Int) - (a : Int)) = 0 := by omega
          by_cases hend : k + 1 = l.length
          · have hr : R = ([], 0, 9) := by rw [hgo, List.drop_of_length_le (by omega)]; rfl
            have hq := LineOk.bad (body := body) (l := l) (at' := a) (err := 9) (by decide) (HR.out.trans hr)
            have HQ := Lib.hid hq
            have ke : (k : Int) + 1 = (l.length : Int) := by omega
            clear hq hr hdr hlc hgo hs13 hpne hpl
            go_wp2
            go_ret2
            exact ⟨HQ.out, rfl⟩
          · obtain ⟨c2, b2, off2, hA2, hlc2, hcell2, hdr2⟩ := HCL.out (k + 1) (by omega)
            have hA2' := Option.some.inj hA2
            injection hA2' with hb1 ho1
            subst hb1 ho1
            have ke : ¬ (k : Int) + 1 = (l.length : Int) := by omega
            have hk1 : k + 1 < l.length := by omega
            rw [hdr2] at hgo
            have hc2' : w.cell? ⟨b, off + k + 1, none⟩ = some (.int .u8 (c2.toNat : Int)) := by rw [Nat.add_assoc]; exact hcell2
            by_cases h10 : c2 = 10
            · subst h10
              have hq : LineOk body l a (.returned (.tuple #[.int .i64 (k : Int), .int .i64 0])) := .inr ⟨k, st, rfl, by omega, by omega, HL.out, by rw [HR.out, hgo]⟩
              have HQ := Lib.hid hq
              clear hq hdr hlc hgo hs13 hpne hpl hdr2 hlc2 hA2
              go_wp2
              go_ret2
              exact ⟨HQ.out, rfl⟩
            · have hr : R = ([], 0, 4) := by
                rw [hgo]
                exact runD_bad _ _ _ _ 4 (by unfold stepD headedD; simp only; rw [if_neg h10]) (by decide)
              have hq := LineOk.bad (body := body) (l := l) (at' := a) (err := 4) (by decide) (HR.out.trans hr)
              have HQ := Lib.hid hq
              have k10 := ne_nat (n := 10) (by decide) h10
              clear hq hr hdr hlc hgo hs13 hpne hpl hdr2 hlc2 hA2
              go_wp2
              go_ret2
              exact ⟨HQ.out, rfl⟩
      · have k13 := ne_nat (n := 13) (by decide) h13
        obtain ⟨s1, s2, s3, s4⟩ := li_step HL.out c h13
        by_cases hsh : showsB c = true
        · have hpp := take_snoc l a k c hak hlc
          have hpl : ((l.drop a).take (k + 1 - a)).length = k + 1 - a := by simp; omega
          have hsub2 := HS.out
          have hcplt : l.length ≤ cp := by
            rcases hsub2 with ⟨_, _, h1, _, h2⟩ | ⟨_, _, _, h1, h2, _⟩
            · injection h1 with _ h3 _; omega
            · injection h1 with _ h3 h4; simp [Lib.byteCells] at h2; omega
          have hsd := (hs_take (HS.out.drop ha) (k + 1 - a) (by omega))
          rw [if_neg (by omega)] at hsd
          have hbytes : ((Lib.byteCells l).drop a).take (k + 1 - a) = Lib.byteCells ((l.drop a).take (k + 1 - a)) := by simp [Lib.byteCells, List.map_drop, List.map_take]
          rw [hbytes] at hsd
          have hhd := fun W (hW : W = w) => rhead_any (some ⟨b, off + a, none⟩) (cp - a) ((l.drop a).take (k + 1 - a)) w (by omega) (by rw [hpl]; exact hsd)
          rw [hpl, hpp] at hhd
          obtain ⟨g, hg⟩ : ∃ g, headGo ((l.drop a).take (k - a) ++ [c]) 0 = g := ⟨_, rfl⟩
          rw [hg] at hhd s2 s3 s4
          have hpl2 : ((l.drop a).take (k - a)).length = k - a := by simp; omega
          rw [hpl2] at s3 s4
          have hcase : (c.toNat : Int) = 9 ∨ ¬ (c.toNat : Int) = 9 ∧ ¬ (c.toNat : Int) < 32 ∧ ¬ (126 : Int) < (c.toNat : Int) := by
            have h := hsh
            unfold showsB at h
            simp at h
            omega
          have hcpa : ¬ cp = a := by omega
          by_cases hg0 : g = 0
          · by_cases h64 : 64 ≤ k - a
            · have hr : R = ([], 0, 3) := by rw [← H.out]; exact runD_bad _ _ _ _ 3 (s3 hsh hg0 h64) (by decide)
              have HQ := Lib.hid (LineOk.bad (body := body) (l := l) (at' := a) (err := 3) (by decide) (HR.out.trans hr))
              have k64 : (64 : Int) ≤ (k : Int) - (a : Int) := by omega
              subst hg0
              have hc2 := hhd w rfl
              clear hr hdr hlc s1 s2 s3 s4 hpp hpl hsub2 hsd hbytes hhd hg hpl2 hsh
              rcases hcase with h9 | ⟨h9, h32, h126⟩
              all_goals (
                go_wp2_with fail
                refine hc2.mono ?_
                rintro e w' ⟨rfl, rfl⟩
                go_wp2
                go_ret2
                exact ⟨HQ.out, rfl⟩)
            · obtain ⟨s5, s6⟩ := s4 hsh hg0 (by omega)
              have hgo : R = runD (stepD st c).2 (l.drop (k + 1)) (k + 1) := by rw [← H.out, runD_go st c _ _ s5 s6.done]
              rw [← hpp] at s6
              have HL2 := Lib.hid s6
              have HG := Lib.hid hgo
              have k64 : ¬ (64 : Int) ≤ (k : Int) - (a : Int) := by omega
              subst hg0
              have hc2 := hhd w rfl
              clear hdr hlc s1 s2 s3 s4 hpp hpl hsub2 hsd hbytes hhd hg hpl2 hsh s5 s6 hgo
              rcases hcase with h9 | ⟨h9, h32, h126⟩
              all_goals (
                go_wp2_with fail
                refine hc2.mono ?_
                rintro e w' ⟨rfl, rfl⟩
                go_wp2
                go_round
                case rel => exact ⟨k + 1, (stepD st c).2, by omega, by omega, by go_num, HL2, Lib.hid HG.out.symm⟩
                case measure => simp [intOf]; omega)
          · have hr : R = ([], 0, g) := by rw [← H.out]; exact runD_bad _ _ _ _ g (s2 hsh hg0) hg0
            have HQ := Lib.hid (LineOk.bad (body := body) (l := l) (at' := a) (err := g) hg0 (HR.out.trans hr))
            have hg0' : (g != 0) = true := by simpa using hg0
            have hc2 := hhd w rfl
            clear hr hdr hlc s1 s2 s3 s4 hpp hpl hsub2 hsd hbytes hhd hg hpl2 hsh hg0
            rcases hcase with h9 | ⟨h9, h32, h126⟩
            all_goals (
              go_wp2_with fail
              refine hc2.mono ?_
              rintro e w' ⟨rfl, rfl⟩
              go_wp2
              go_ret2
              exact ⟨HQ.out, rfl⟩)
        · have hr : R = ([], 0, 4) := by rw [← H.out]; exact runD_bad _ _ _ _ 4 (s1 hsh) (by decide)
          have hq := LineOk.bad (body := body) (l := l) (at' := a) (err := 4) (by decide) (HR.out.trans hr)
          have HQ := Lib.hid hq
          have hn9 : ¬ (c.toNat : Int) = 9 := fun e => hsh (by unfold showsB; simp; omega)
          have hout : (c.toNat : Int) < 32 ∨ (126 : Int) < (c.toNat : Int) := by
            rcases Nat.lt_or_ge c.toNat 32 with h | h
            · left; omega
            · right
              rcases Nat.lt_or_ge 126 c.toNat with h2 | h2
              · omega
              · exact absurd (by unfold showsB; simp; omega) hsh
          clear hq hr hdr hlc s1 s2 s3 s4
          rcases hout with ho | ho
          all_goals (
            go_wp2
            go_ret2
            exact ⟨HQ.out, rfl⟩)
    · have hr : R = ([], 0, 9) := by rw [← H.out, List.drop_of_length_le (by omega)]; rfl
      have hq := LineOk.bad (body := body) (l := l) (at' := a) (err := 9) (by decide) (HR.out.trans hr)
      have HQ := Lib.hid hq
      clear hq hr
      go_wp2
      go_ret2
      exact ⟨HQ.out, rfl⟩
end Go.Proofs.Ytggbgpmjfncklaa
