/- stowageref21.Read. -/
import Derived.Test.YtnhkfjgoocbbdaaProg
import Derived.Test.YtnhkfjgoocbbdaaU21
import Derived.Test.YtnhkfjgoocbbdaaV21
namespace Go.Proofs.Ytnhkfjgoocbbdaa
open Go.RowKit
set_option linter.unusedVariables false
set_option linter.unusedSimpArgs false
theorem slice_mid {P : Program} (t : TypeId) (ht : P.underlying t = some .string) (k k' : IntKind) (s : ByteArray) (i j : Int) (n m : Nat) (hi : i = n) (hj : j = m) (hn : n ≤ m) (hm : m ≤ s.size) (W : World) :
    (Instr.slice t (.string s) (some (.int k i)) (some (.int k' j)) none).run P W = .ok (.string ⟨((s.data.toList.drop n).take (m - n)).toArray⟩) W := by
  subst hi hj
  rw [run_slice_string (P := P) (w := W) t _ k k' _ _ ht (by omega) (by omega) (by omega), Int.toNat_natCast, Int.toNat_natCast, ext_list]
theorem readV_big (s : ByteArray) (h : 1610 < s.size) : readV s = .tuple #[.string ⟨#[]⟩, .string ⟨#[]⟩, .int .i64 3] := by unfold readV; rw [if_pos h]
theorem readV_none (s : ByteArray) (h : ¬ 1610 < s.size) (h2 : readO s.data.toList = none) : readV s = .tuple #[.string ⟨#[]⟩, .string ⟨#[]⟩, .int .i64 4] := by unfold readV; rw [if_neg h, h2]
theorem readV_some (s x y : ByteArray) (h : ¬ 1610 < s.size) (h2 : readO s.data.toList = some (x.data.toList, y.data.toList)) : readV s = .tuple #[.string x, .string y, .int .i64 0] := by unfold readV; rw [if_neg h, h2]
set_option maxRecDepth 10000 in
set_option maxHeartbeats 1000000 in
theorem rRead_any (s : ByteArray) (w : World) (hs : s.size ≤ 1000000) : Calls Try.prog 11 #[.string s] w fun e w' => e = .returned (readV s) ∧ Below w.heap.size w w' := by
  by_cases hl : 1610 < s.size
  · have HVV := Lib.hid (readV_big s hl)
    have hl' : (1610 : Int) < s.size := by omega
    go_enter Try.func11, Try.ntmps11
    go_wp2
    go_ret3
    exact ⟨by rw [HVV.out]; rfl, Below.refl _ _⟩
  have hl' : ¬ (1610 : Int) < s.size := by omega
  have hd0 := fun W => dash_any s 0 W hs (by omega)
  cases hc1 : cutAt 45 s.data.toList with
  | none =>
    have hv := readV_none s hl (by unfold readO; rw [hc1])
    have HVV := Lib.hid hv
    clear hv
    have hda := dashGo_none (s.data.toList.drop 0) 0 hc1
    rw [hda] at hd0
    clear hda hc1
    go_enter Try.func11, Try.ntmps11
    go_wp2_with fail
    refine (hd0 _).mono ?_
    rintro e w1 ⟨rfl, rfl⟩
    go_wp2
    go_ret3
    exact ⟨by rw [HVV.out]; rfl, Below.refl _ _⟩
  | some q =>
    obtain ⟨a, rest⟩ := q
    have hlen1 := cutAt_len _ _ _ _ hc1
    rw [show s.data.toList.length = s.size by simp] at hlen1
    obtain ⟨_, hsl⟩ := cutAt_some _ _ _ _ hc1
    obtain ⟨A, hA⟩ := bs_of a
    obtain ⟨R, hR⟩ := bs_of rest
    subst hA hR
    rw [← bs_len, ← bs_len] at hlen1
    have hda := dashGo_some (s.data.toList.drop 0) _ _ 0 hc1
    rw [hda, Nat.zero_add, ← bs_len] at hd0
    have hdrop : s.data.toList.drop (A.size + 1) = R.data.toList := by
      rw [hsl, show A.data.toList ++ 45 :: R.data.toList = (A.data.toList ++ [45]) ++ R.data.toList by simp, List.drop_left' (by simp)]
    have hd1 := fun W => dash_any s (A.size + 1) W hs (by omega)
    rw [hdrop] at hd1
    have hw1 : IntKind.i64.wrap ((A.size : Int) + 1) = ((A.size + 1 : Nat) : Int) := by rw [IntWalk.i64_in _ (by omega)]; omega
    cases hc2 : cutAt 45 R.data.toList with
    | none =>
      have hv := readV_none s hl (by unfold readO; rw [hc1]; simp only [hc2])
      have HVV := Lib.hid hv
      clear hv
      rw [dashGo_none _ _ hc2] at hd1
      obtain ⟨n1, hn1⟩ : ∃ n1, A.size + 1 = n1 := ⟨_, rfl⟩
      rw [hn1] at hd1 hw1
      clear hda hc1 hc2 hsl hdrop
      go_enter Try.func11, Try.ntmps11
      go_wp2_with fail
      refine (hd0 _).mono ?_
      rintro e w1 ⟨rfl, rfl⟩
      go_wp2_with fail
      refine (hd1 _).mono ?_
      rintro e w1 ⟨rfl, rfl⟩
      go_wp2
      go_ret3
      exact ⟨by rw [HVV.out]; rfl, Below.refl _ _⟩
    | some q =>
      obtain ⟨b, rest2⟩ := q
      have hlen2 := cutAt_len _ _ _ _ hc2
      obtain ⟨_, hsl2⟩ := cutAt_some _ _ _ _ hc2
      obtain ⟨B, hB⟩ := bs_of b
      obtain ⟨R2, hR2⟩ := bs_of rest2
      subst hB hR2
      rw [← bs_len, ← bs_len, ← bs_len] at hlen2
      rw [dashGo_some _ _ _ _ hc2, ← bs_len] at hd1
      have hv : readO s.data.toList = match undig A.data.toList, undig B.data.toList with
        | some x, some y => if x.length ≤ 400 ∧ y.length ≤ 400 ∧ madeS x y = s.data.toList then some (x, y) else none
        | _, _ => none := by unfold readO; rw [hc1]; simp only [hc2]; rfl
      have HV := Lib.hid hv
      have HL := Lib.hid hl
      obtain ⟨n1, hn1⟩ : ∃ n1, A.size + 1 = n1 := ⟨_, rfl⟩
      obtain ⟨n2, hn2⟩ : ∃ n2, n1 + B.size = n2 := ⟨_, rfl⟩
      have e1 : (⟨(s.data.toList.take A.size).toArray⟩ : ByteArray) = A := (bs_mk (by rw [hsl, List.take_left' (by simp)])).symm
      have e2 : (⟨((s.data.toList.drop n1).take (n2 - n1)).toArray⟩ : ByteArray) = B := (bs_mk (by rw [← hn1, hdrop, hsl2, List.take_left' (by simp; omega)])).symm
      have q1 := fun W => slice_to (P := Try.prog) 9 Try.underlying9 .i64 s (A.size : Int) A.size rfl (by omega) W
      have q2 := fun W => slice_mid (P := Try.prog) 9 Try.underlying9 .i64 .i64 s (n1 : Int) (n2 : Int) n1 n2 rfl rfl (by omega) (by omega) W
      rw [e1] at q1
      rw [e2] at q2
      rw [hn1, hn2] at hd1
      have hAs : A.size ≤ 1000000 := by omega
      have hBs : B.size ≤ 1000000 := by omega
      have hn12 : n1 ≤ 2000 := by omega
      have hz : (A.size : Int) + 1 = (n1 : Int) := by omega
      have HZ := Lib.hid hz
      rw [hn1] at hw1
      have hl2 := hl'
      clear hv hc1 hc2 hda hsl hsl2 hdrop e1 e2 hlen2 hz hn2
      go_enter Try.func11, Try.ntmps11
      go_wp2_with fail
      refine (hd0 _).mono ?_
      rintro e w1 ⟨rfl, rfl⟩
      go_wp2_with fail
      refine (hd1 _).mono ?_
      rintro e w1 ⟨rfl, rfl⟩
      go_wp2_with fail
      refine (undigits_any A _ hAs).mono ?_
      rintro e w2 ⟨ha1, ha2, hb2⟩
      have hbw2 := hb2
      cases hu1 : undig A.data.toList with
      | none =>
        obtain rfl := ha1 hu1
        have HVV := Lib.hid (readV_none s HL.out (by rw [HV.out, hu1]))
        clear ha1 ha2 hu1
        go_wp2_with fail
        refine (undigits_any B _ hBs).mono ?_
        rintro e w3 ⟨hb1', hb2', hb3⟩
        have hbw3 := bstep hbw2 hb3 (Nat.le_refl _)
        cases hu2 : undig B.data.toList with
        | none =>
          obtain rfl := hb1' hu2
          clear hb1' hb2' hu2
          go_wp2
          go_ret3
          exact ⟨by rw [HVV.out]; rfl, hbw3⟩
        | some y =>
          obtain ⟨v2, rfl, -⟩ := hb2' y hu2
          clear hb1' hb2' hu2
          go_wp2
          go_ret3
          exact ⟨by rw [HVV.out]; rfl, hbw3⟩
      | some x =>
        obtain ⟨v1, rfl, hown1⟩ := ha2 x hu1
        have HU1 := Lib.hid hu1
        clear ha1 ha2 hu1
        go_wp2_with fail
        refine (undigits_any B _ hBs).mono ?_
        rintro e w3 ⟨hb1', hb2', hb3⟩
        have hbw3 := bstep hbw2 hb3 (Nat.le_refl _)
        cases hu2 : undig B.data.toList with
        | none =>
          obtain rfl := hb1' hu2
          have HVV := Lib.hid (readV_none s HL.out (by rw [HV.out, HU1.out, hu2]))
          clear hb1' hb2' hu2
          go_wp2
          go_ret3
          exact ⟨by rw [HVV.out]; rfl, hbw3⟩
        | some y =>
          obtain ⟨v2, rfl, hown2⟩ := hb2' y hu2
          have HU2 := Lib.hid hu2
          have hown1' := ownsRow_below hown1 hb3
          obtain ⟨X, hX⟩ := bs_of x
          obtain ⟨Y, hY⟩ := bs_of y
          subst hX hY
          have hxl := undig_len _ _ HU1.out
          have hyl := undig_len _ _ HU2.out
          rw [← bs_len, ← bs_len] at hxl hyl
          have hXs : X.size ≤ 1000000 := by omega
          have hYs : Y.size ≤ 1000000 := by omega
          have hc1 := conv_back hown1' 32 9 Try.underlying32 Try.underlying5 Try.underlying9
          have hc2 := conv_back hown2 32 9 Try.underlying32 Try.underlying5 Try.underlying9
          rw [← bs_mk (a := X) rfl] at hc1
          rw [← bs_mk (a := Y) rfl] at hc2
          have hro : readO s.data.toList = if X.size ≤ 400 ∧ Y.size ≤ 400 ∧ madeS X.data.toList Y.data.toList = s.data.toList then some (X.data.toList, Y.data.toList) else none := by
            rw [HV.out, HU1.out, HU2.out]
            simp only [bs_len]
          have HRO := Lib.hid hro
          have HO1 := Lib.hid hown1'
          have HO2 := Lib.hid hown2
          clear hb1' hb2' hu2 hown1 hown1' hown2 hro hxl hyl
          go_wp2_with fail
          refine (rMake_any X Y _ hXs hYs).mono ?_
          rintro e w4 ⟨rfl, hb4⟩
          have hbw4 := bstep hbw3 hb4 (Nat.le_refl _)
          by_cases hsz : 400 < X.size ∨ 400 < Y.size
          · have HVV := Lib.hid (readV_none s HL.out (by rw [HRO.out, if_neg (by omega)]))
            have hm : makeV X Y = .tuple #[.string ⟨#[]⟩, .int .i64 3] := by unfold makeV; rw [if_pos hsz]
            rw [hm]
            clear hm hsz
            go_wp2
            go_ret3
            exact ⟨by rw [HVV.out]; rfl, hbw4⟩
          · have hm : makeV X Y = .tuple #[.string ⟨(madeS X.data.toList Y.data.toList).toArray⟩, .int .i64 0] := by unfold makeV; rw [if_neg hsz]
            rw [hm]
            clear hm
            by_cases heq : (⟨(madeS X.data.toList Y.data.toList).toArray⟩ : ByteArray) = s
            · have HVV := Lib.hid (readV_some s X Y HL.out (by rw [HRO.out, if_pos ⟨by omega, by omega, by rw [← heq]⟩]))
              rw [heq]
              have hbq := bs_beq s
              have hc1' := fun n => conv_back (w := w4.drewN n) (l := X.data.toList) (ownsRow_below HO1.out (below_drewN hb4 n)) 32 9 Try.underlying32 Try.underlying5 Try.underlying9
              have hc2' := fun n => conv_back (w := w4.drewN n) (l := Y.data.toList) (ownsRow_below HO2.out (below_drewN hb4 n)) 32 9 Try.underlying32 Try.underlying5 Try.underlying9
              rw [← bs_mk (a := X) rfl] at hc1'
              rw [← bs_mk (a := Y) rfl] at hc2'
              clear heq hsz
              go_wp2
              go_quiet (fail)
              go_wp2
              go_ret3
              exact ⟨by rw [HVV.out]; rfl, below_drewN hbw4 _⟩
            · have HVV := Lib.hid (readV_none s HL.out (by rw [HRO.out, if_neg (fun h => heq (by rw [h.2.2]))]))
              obtain ⟨m, hm⟩ : ∃ m : ByteArray, (⟨(madeS X.data.toList Y.data.toList).toArray⟩ : ByteArray) = m := ⟨_, rfl⟩
              rw [hm] at heq ⊢
              have hbq2 : (m.toList == s.toList) = false := by
                rw [bs_toList, bs_toList, Bool.eq_false_iff]
                intro h
                exact heq (bs_ext (by simpa using h))
              clear hm hsz
              go_wp2
              all_goals (
                go_ret3
                exact ⟨by rw [HVV.out]; rfl, hbw4⟩)
end Go.Proofs.Ytnhkfjgoocbbdaa
