/- Texts of this proof, put together: U21, Y21. -/
import Derived.Test.YtehibiplodjofaaDoorProg
import Derived.Test.YtehibiplodjofaaDoorMRouteAboutr
import Derived.Lib.SmallJoins
section
/- package token: text, Read. -/
namespace Go.Proofs.YtehibiplodjofaaDoor
open Go.RowKit
set_option linter.unusedVariables false
set_option linter.unusedSimpArgs false
def TxtR (s : ByteArray) (w : World) (v i : Value) (wr : World) : Prop :=
  ∃ (j : Nat) (acc : List UInt8), j ≤ s.size ∧ i = .int .i64 j ∧ wr.ownsRow w.heap.size 5 1 v acc.length (Lib.byteCells acc) ∧ Below w.heap.size w wr ∧
    Hid (2 * acc.length = j ∧ (undig (s.data.toList.drop j)).map (acc ++ ·) = undig s.data.toList)
def TextQ (s : ByteArray) (w : World) (e : Ending) (w' : World) : Prop :=
  (∃ (v : ByteArray) (ok : Bool), e = .returned (.tuple #[.string v, .bool ok]) ∧ (ok = true → undig s.data.toList = some v.data.toList ∧ v.size ≤ 400) ∧ (ok = false → ∀ l, undig s.data.toList = some l → 400 < l.length)) ∧ Below w.heap.size w w'
set_option maxRecDepth 10000 in
set_option maxHeartbeats 1000000 in
theorem text_any (s : ByteArray) (w : World) (hs : s.size ≤ 1000000) : Calls Tryd.prog 44 #[.string s] w (TextQ s w) := by
  obtain ⟨i0, hi, hz0, hz1, hz2⟩ := info_parts infoU8
  go_enter Tryd.func44, Tryd.ntmps44
  go_wp2
  go_loopw [4, 5] (fun v i wr => TxtR s w v i wr) (fun _ i _ => s.size - (intOf i).toNat)
  case atStart =>
    unfold TxtR
    exact ⟨0, [], Nat.zero_le _, rfl, World.ownsRow_nil _ _ _ _, Below.refl _ _, Lib.hid ⟨rfl, by simp⟩⟩
  case round =>
    obtain ⟨j, acc, hj, rfl, hown, hb, H⟩ := hrel
    have hac : acc.length ≤ j := by have := H.out.1; omega
    by_cases hlt : j + 1 < s.size
    · obtain ⟨a, ha, hda⟩ := next_at s j (by omega)
      obtain ⟨b, hb', hdb⟩ := next_at s (j + 1) (by omega)
      rw [hda, hdb] at H
      have hz := hb.size
      clear hda hdb
      have a1 := hexN_lo a.toNat
      have a2 := hexN_hi a.toNat
      have b1 := hexN_lo b.toNat
      have b2 := hexN_hi b.toNat
      have hlt' : (j : Int) + 1 < s.size := by omega
      by_cases hA : hexN a.toNat < 0
      · go_wp2
        go_quiet ((first | (go_at_call 38; exact Calls.quiet_of_same (idx_any _ _))))
        go_wp2
        all_goals (
          go_ret2
          have h := H.out.2
          simp [undig, hA] at h
          exact ⟨⟨_, _, rfl, by simp, fun _ l hl => by rw [hl] at h; simp at h⟩, below_drewN hb _⟩)
      · by_cases hB : hexN b.toNat < 0
        · go_wp2
          go_quiet ((first | (go_at_call 38; exact Calls.quiet_of_same (idx_any _ _))))
          go_wp2
          all_goals (
            go_ret2
            have h := H.out.2
            simp [undig, hA, hB] at h
            exact ⟨⟨_, _, rfl, by simp, fun _ l hl => by rw [hl] at h; simp at h⟩, below_drewN hb _⟩)
        · go_wp2
          go_quiet ((first | (go_at_call 38; exact Calls.quiet_of_same (idx_any _ _))))
          go_wp2_with (at_builtin; go_must (refine wpList_push rfl _ _ 24 rfl w.heap.size 5 i0 (.int .u8 0) 1 Tryd.underlying24 hi hz0 hz1 hz2 rfl _ _ _ rfl (World.ownsRow.alloc hown _) ⟨wr.heap.size, 0, none⟩ _ rfl (cell_new _ _ _) rfl (by omega) (by omega) (by simp; omega) ?_); intro v2 w2 hown2 hgrow hat)
          all_goals try (exfalso; omega)
          have hb2 := below_push hb (Nat.le_refl _) _ hgrow (fun k hk => (hown.lt k hk).1)
          have hown3 := ownsRow_snoc hown2 (hexByte a b) (hexByte_or a b (by omega) (by omega))
          clear hown hown2 hgrow hat
          go_wp2
          go_roundw
          case rel =>
            have HR : TxtR s w v2 (.int .i64 ((j : Int) + 2)) w2 := by
              have h := H.out.2
              have h2 := H.out.1
              simp only [undig, if_neg (show ¬ hexN a.toNat < 0 by omega), if_neg (show ¬ hexN b.toNat < 0 by omega)] at h
              exact ⟨j + 2, acc ++ [hexByte a b], by omega, by go_num, hown3, hb2, Lib.hid ⟨by simp; omega, by rw [← h]; cases undig (s.data.toList.drop (j + 1 + 1)) <;> simp⟩⟩
            first | exact HR | ((repeat apply Exists.intro); refine ⟨HR, ?_⟩; first | rfl | (repeat' (first | apply And.intro | rfl)))
          case measure => simp [intOf]; omega
    · have hcv := conv_back hown 24 9 Tryd.underlying24 Tryd.underlying5 Tryd.underlying9
      have hfin : (s.size % 2 = 0 ∧ undig s.data.toList = some acc) ∨ (s.size % 2 = 1 ∧ undig s.data.toList = none) := by
        have h := H.out.2
        have h2 := H.out.1
        rcases (by omega : j = s.size ∨ j + 1 = s.size) with e | e
        · rw [List.drop_of_length_le (by simp; omega)] at h
          simp [undig] at h
          exact .inl ⟨by omega, h.symm⟩
        · have hl1 : (s.data.toList.drop j).length = 1 := by simp; omega
          obtain ⟨x, hx⟩ := List.length_eq_one_iff.1 hl1
          rw [hx] at h
          simp [undig] at h
          exact .inr ⟨by omega, h.symm⟩
      have HF := Lib.hid hfin
      clear hfin H
      rcases (by omega : s.size % 2 = 0 ∨ s.size % 2 = 1) with he | he
      · have he' : (s.size : Int) % 2 = 0 := by omega
        have HE := Lib.hid he
        clear he
        rcases Go.Joins.ownsRow_forms hown with ⟨rfl, h0⟩ | ⟨g, cap, rfl⟩
        · have hacc : acc = [] := List.eq_nil_of_length_eq_zero h0
          subst hacc
          go_wp2
          go_ret2
          refine ⟨⟨⟨#[]⟩, true, rfl, fun _ => ⟨?_, by decide⟩, fun h => by cases h⟩, hb⟩
          rcases HF.out with ⟨_, h⟩ | ⟨h, _⟩
          · exact h
          · have := HE.out; omega
        · go_wp2
          go_ret2
          refine ⟨⟨⟨acc.toArray⟩, _, rfl, fun h => ⟨?_, ?_⟩, fun h l hl => ?_⟩, hb⟩
          · rcases HF.out with ⟨_, h⟩ | ⟨h, _⟩
            · exact h
            · have := HE.out; omega
          · simp at h
            simp [ByteArray.size_mk']
            omega
          · rcases HF.out with ⟨_, h2⟩ | ⟨h2, _⟩
            · rw [hl] at h2
              have h3 := Option.some.inj h2
              subst h3
              simp at h
              omega
            · have := HE.out; omega
      · have he' : (s.size : Int) % 2 = 1 := by omega
        have HE := Lib.hid he
        clear he
        go_wp2
        go_ret2
        refine ⟨⟨_, false, rfl, fun h => (by cases h), fun _ l hl => ?_⟩, hb⟩
        rcases HF.out with ⟨h, _⟩ | ⟨_, h⟩
        · have := HE.out; omega
        · rw [h] at hl; cases hl
def readO (s : List UInt8) : Option (List UInt8 × List UInt8) :=
  match cutAt 45 s with
  | none => none
  | some (a, rest) => match cutAt 45 rest with
    | none => none
    | some (b, _) => match undig a, undig b with
      | some x, some y => if x.length ≤ 400 ∧ y.length ≤ 400 ∧ madeS x y = s then some (x, y) else none
      | _, _ => none
def readV (s : ByteArray) : Value := if 1610 < s.size then .tuple #[.string ⟨#[]⟩, .string ⟨#[]⟩, .int .i64 3] else match readO s.data.toList with
  | none => .tuple #[.string ⟨#[]⟩, .string ⟨#[]⟩, .int .i64 4]
  | some (x, y) => .tuple #[.string ⟨x.toArray⟩, .string ⟨y.toArray⟩, .int .i64 0]
theorem cutAt_sum (c : UInt8) (l a b : List UInt8) (h : cutAt c l = some (a, b)) : a.length + b.length + 1 = l.length := by
  obtain ⟨_, h⟩ := cutAt_some c l a b h
  rw [h]
  simp
  omega
set_option maxHeartbeats 1000000 in
theorem pRead_any (s : ByteArray) (w : World) (hs : s.size ≤ 1000000) : Calls Tryd.prog 35 #[.string s] w fun e w' => e = .returned (readV s) ∧ Below w.heap.size w w' := by
  by_cases hl : 1610 < s.size
  · have hv : readV s = .tuple #[.string ⟨#[]⟩, .string ⟨#[]⟩, .int .i64 3] := by unfold readV; rw [if_pos hl]
    rw [hv]
    have hl' : (1610 : Int) < s.size := by omega
    go_enter Tryd.func35, Tryd.ntmps35
    go_wp2
    go_ret3
    exact ⟨rfl, Below.refl _ _⟩
  have hl' : ¬ (1610 : Int) < s.size := by omega
  cases hc1 : cutAt 45 s.data.toList with
  | none =>
    have hv : readV s = .tuple #[.string ⟨#[]⟩, .string ⟨#[]⟩, .int .i64 4] := by unfold readV readO; rw [if_neg hl, hc1]
    rw [hv]
    clear hv
    have HC1 := Lib.hid hc1
    clear hc1
    go_enter Tryd.func35, Tryd.ntmps35
    go_wp2_with fail
    refine (cut_none s 45 _ HC1.out).mono ?_
    rintro e w1 ⟨rfl, rfl⟩
    go_wp2_with fail
    refine (cut_none ⟨#[]⟩ 45 _ rfl).mono ?_
    rintro e w1 ⟨rfl, rfl⟩
    go_wp2_with fail
    refine (text_any s _ hs).mono ?_
    rintro e w2 ⟨⟨v1, ok1, rfl, -, -⟩, hb2⟩
    go_wp2_with fail
    refine (text_any ⟨#[]⟩ _ (by decide)).mono ?_
    rintro e w3 ⟨⟨v2, ok2, rfl, -, -⟩, hb3⟩
    go_wp2
    go_ret3
    exact ⟨rfl, bstep hb2 hb3 (Nat.le_refl _)⟩
  | some q =>
    obtain ⟨a, rest⟩ := q
    have HC1 := Lib.hid hc1
    have hlen1 := cutAt_sum _ _ _ _ hc1
    rw [show s.data.toList.length = s.size by simp] at hlen1
    obtain ⟨A, hA⟩ := bs_of a
    obtain ⟨R, hR⟩ := bs_of rest
    subst hA hR
    have hAs : A.size ≤ 1000000 := by rw [bs_len]; omega
    have hRs : R.size ≤ 1000000 := by rw [bs_len]; omega
    have hcut1 := fun W => cut_someB s 45 A R W hs hc1
    cases hc2 : cutAt 45 R.data.toList with
    | none =>
      have hv : readV s = .tuple #[.string ⟨#[]⟩, .string ⟨#[]⟩, .int .i64 4] := by unfold readV readO; rw [if_neg hl, hc1]; simp only [hc2]
      rw [hv]
      clear hv hc1
      have HC2 := Lib.hid hc2
      clear hc2
      go_enter Tryd.func35, Tryd.ntmps35
      go_wp2_with fail
      refine (hcut1 _).mono ?_
      rintro e w1 ⟨rfl, n1, rfl⟩
      go_wp2_with fail
      refine (cut_none R 45 _ HC2.out).mono ?_
      rintro e w1 ⟨rfl, rfl⟩
      go_wp2_with fail
      refine (text_any A _ hAs).mono ?_
      rintro e w2 ⟨⟨v1, ok1, rfl, -, -⟩, hb2⟩
      go_wp2_with fail
      refine (text_any R _ hRs).mono ?_
      rintro e w3 ⟨⟨v2, ok2, rfl, -, -⟩, hb3⟩
      go_wp2
      all_goals (
        go_ret3
        exact ⟨rfl, bstep ⟨hb2.os, hb2.tape, hb2.output, hb2.size, hb2.block⟩ hb3 (Nat.le_refl _)⟩)
    | some q =>
      obtain ⟨b, rest2⟩ := q
      have hlen2 := cutAt_sum _ _ _ _ hc2
      obtain ⟨B, hB⟩ := bs_of b
      obtain ⟨R2, hR2⟩ := bs_of rest2
      subst hB hR2
      have hBs : B.size ≤ 1000000 := by rw [bs_len]; omega
      have hcut2 := fun W => cut_someB R 45 B R2 W hRs hc2
      have hv : readO s.data.toList = match undig A.data.toList, undig B.data.toList with
        | some x, some y => if x.length ≤ 400 ∧ y.length ≤ 400 ∧ madeS x y = s.data.toList then some (x, y) else none
        | _, _ => none := by unfold readO; rw [hc1]; simp only [hc2]
      have HV := Lib.hid hv
      have HL := Lib.hid hl
      clear hv hc1 hc2 HC1
      go_enter Tryd.func35, Tryd.ntmps35
      go_wp2_with fail
      refine (hcut1 _).mono ?_
      rintro e w1 ⟨rfl, n1, rfl⟩
      go_wp2_with fail
      refine (hcut2 _).mono ?_
      rintro e w1 ⟨rfl, n2, rfl⟩
      go_wp2_with fail
      refine (text_any A _ hAs).mono ?_
      rintro e w2 ⟨⟨v1, ok1, rfl, ha1, ha2⟩, hb2⟩
      have HA1 := Lib.hid ha1
      have HA2 := Lib.hid ha2
      clear ha1 ha2
      go_wp2_with fail
      refine (text_any B _ hBs).mono ?_
      rintro e w3 ⟨⟨v2, ok2, rfl, hb1', hb2'⟩, hb3⟩
      have HB1 := Lib.hid hb1'
      have HB2 := Lib.hid hb2'
      clear hb1' hb2'
      have hbw3 : Below w.heap.size w w3 := bstep ⟨hb2.os, hb2.tape, hb2.output, hb2.size, hb2.block⟩ hb3 (Nat.le_refl _)
      have hnone : readO s.data.toList = none → readV s = .tuple #[.string ⟨#[]⟩, .string ⟨#[]⟩, .int .i64 4] := fun h => by unfold readV; rw [if_neg HL.out, h]
      have HN := Lib.hid hnone
      clear hnone
      cases ok1 with
      | false =>
        have hno : readO s.data.toList = none := by
          rw [HV.out]
          cases h1 : undig A.data.toList with
          | none => rfl
          | some x =>
            cases h2 : undig B.data.toList with
            | none => rfl
            | some y =>
              have := HA2.out rfl x h1
              simp only
              rw [if_neg (by omega)]
        have hv := HN.out hno
        clear hno
        have HVV := Lib.hid hv
        clear hv
        go_wp2
        all_goals (
          go_ret3
          exact ⟨by rw [HVV.out]; rfl, hbw3⟩)
      | true =>
        cases ok2 with
        | false =>
          have hno : readO s.data.toList = none := by
            rw [HV.out]
            cases h1 : undig A.data.toList with
            | none => rfl
            | some x =>
              cases h2 : undig B.data.toList with
              | none => rfl
              | some y =>
                have := HB2.out rfl y h2
                simp only
                rw [if_neg (by omega)]
          have hv := HN.out hno
          clear hno
          have HVV := Lib.hid hv
          clear hv
          go_wp2
          all_goals (
            go_ret3
            exact ⟨by rw [HVV.out]; rfl, hbw3⟩)
        | true =>
          have hs1 : v1.size ≤ 400 := (HA1.out rfl).2
          have hs2 : v2.size ≤ 400 := (HB1.out rfl).2
          have hro : readO s.data.toList = if madeS v1.data.toList v2.data.toList = s.data.toList then some (v1.data.toList, v2.data.toList) else none := by
            rw [HV.out, (HA1.out rfl).1, (HB1.out rfl).1]
            simp only
            have h1 : v1.data.toList.length ≤ 400 := by rw [← bs_len]; exact hs1
            have h2 : v2.data.toList.length ≤ 400 := by rw [← bs_len]; exact hs2
            simp only [h1, h2, true_and]
          have HRO := Lib.hid hro
          clear hro HV HA1 HA2 HB1 HB2
          go_wp2_with fail
          refine (made_any v1 v2 _ (by omega) (by omega)).mono ?_
          rintro e w4 ⟨rfl, hb4⟩
          have hbw4 := bstep hbw3 hb4 (Nat.le_refl _)
          by_cases heq : (⟨(madeS v1.data.toList v2.data.toList).toArray⟩ : ByteArray) = s
          · have hv : readV s = .tuple #[.string v1, .string v2, .int .i64 0] := by
              unfold readV
              rw [if_neg HL.out, HRO.out, if_pos (by rw [← heq])]
            have HVV := Lib.hid hv
            rw [heq]
            have hbq := bs_beq s
            clear hv heq
            go_wp2
            go_ret3
            exact ⟨by rw [HVV.out]; rfl, hbw4⟩
          · have hno : readO s.data.toList = none := by
              rw [HRO.out, if_neg (fun h => heq (by rw [h]))]
            have hv := HN.out hno
            clear hno
            have HVV := Lib.hid hv
            clear hv
            obtain ⟨m, hm⟩ : ∃ m : ByteArray, (⟨(madeS v1.data.toList v2.data.toList).toArray⟩ : ByteArray) = m := ⟨_, rfl⟩
            rw [hm] at heq ⊢
            have hbq : (m.data.toList == s.data.toList) = false := by
              rw [Bool.eq_false_iff]
              intro h
              exact heq (bs_ext (by simpa using h))
            have hbq2 : (m.toList == s.toList) = false := by rw [bs_toList, bs_toList]; exact hbq
            clear hm
            go_wp2
            all_goals (
              go_ret3
              exact ⟨by rw [HVV.out]; rfl, hbw4⟩)
end Go.Proofs.YtehibiplodjofaaDoor
end
section
/- Plain laws on tokens: what is made is read as it was; a turned token. -/
namespace Go.Proofs.YtehibiplodjofaaDoor
open Go.RowKit
set_option linter.unusedVariables false
set_option linter.unusedSimpArgs false
end Go.Proofs.YtehibiplodjofaaDoor
end
