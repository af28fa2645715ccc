/- Texts of this proof, put together: R24. -/
import Derived.Test.YthnhfbdoielekaaDoorProg
import Derived.Test.YthnhfbdoielekaaDoorMPercentPairsg
section
/- The walks of the reference for package percent. -/
namespace Go.Proofs.YthnhfbdoielekaaDoor
open Go.RowKit
set_option linter.unusedVariables false
set_option linter.unusedSimpArgs false
theorem rmdigit_l (c : UInt8) (w : World) : Calls Tryd.prog 30 #[.int .u8 c.toNat] w fun e w' => e = .returned (.int .i64 (hexM c.toNat)) ∧ w = w' := by
  have h256 := c.toNat_lt
  go_enter Tryd.func30, Tryd.ntmps30
  go_wp2
  all_goals (go_ret; refine ⟨ret_int ?_, rfl⟩; unfold hexM; repeat' split; all_goals omega)
theorem hexMB_sum (a b : UInt8) (ha : 0 ≤ hexM a.toNat) (hb : 0 ≤ hexM b.toNat) : IntKind.u8.wrap (IntKind.i64.wrap (IntKind.i64.wrap (16 * hexM a.toNat) + hexM b.toNat)) = ((hexMB a b).toNat : Int) := by
  have h1 := hexM_hi a.toNat
  have h2 := hexM_hi b.toNat
  rw [IntWalk.i64_in (16 * hexM a.toNat) (by omega), IntWalk.i64_in _ (by omega), IntWalk.u8_in _ (by omega)]
  exact hexMB_val a b ha hb
set_option maxHeartbeats 2000000 in
set_option maxRecDepth 100000 in
theorem rmdecoded_any (s : ByteArray) (bl : Bool) (w : World) (hs : s.size ≤ 1000000) :
    Calls Tryd.prog 21 #[.string s, .bool bl] w fun e w' => (pdec bl s.data.toList = none → e = .returned (.tuple #[.string ⟨#[]⟩, .bool false])) ∧
      (∀ l, pdec bl s.data.toList = some l → e = .returned (.tuple #[.string ⟨l.toArray⟩, .bool true])) ∧ Below w.heap.size w w' := by
  obtain ⟨i0, hi, hz0, hz1, hz2⟩ := info_parts infoU8
  go_enter Tryd.func21, Tryd.ntmps21
  go_wp2
  go_loopw [6, 7] (fun v i wr => PdR bl s w v i wr) (fun _ i _ => s.size - (intOf i).toNat)
  case atStart =>
    unfold PdR
    exact ⟨0, [], Nat.zero_le _, rfl, Nat.zero_le _, World.ownsRow_nil _ _ _ _, Below.refl _ _, by simp⟩
  case round =>
    obtain ⟨j, acc, hj, rfl, hac, hown, hb, h⟩ := hrel
    have H := Lib.hid h
    clear h
    have hz := hb.size
    by_cases hlt : j < s.size
    · obtain ⟨c, hc, hdr⟩ := next_at s j hlt
      have h256 := c.toNat_lt
      rw [hdr] at H
      by_cases hp : c = 37
      · subst hp
        by_cases h3 : j + 3 ≤ s.size
        · obtain ⟨a, ha, hda⟩ := next_at s (j + 1) (by omega)
          obtain ⟨b, hb0, hdb⟩ := next_at s (j + 1 + 1) (by omega)
          rw [hda, hdb, pdec_pct] at H
          have hb1 : s[j + 2]'(by omega) = b := hb0
          clear hdr hda hdb
          have a1 := hexM_lo a.toNat
          have a2 := hexM_hi a.toNat
          have b1 := hexM_lo b.toNat
          have b2 := hexM_hi b.toNat
          by_cases hA : hexM a.toNat < 0
          · go_wp2_with (go_at_call 30; refine (rmdigit_l _ _).mono ?_; rintro e w' ⟨rfl, rfl⟩)
            have hn : pdec bl s.data.toList = none := by have h := H.out; rw [← h]; simp [hA]
            (try rw [Exit.noGoto_ret])
            go_ret2
            exact ⟨fun _ => rfl, fun l hl => (by rw [hl] at hn; cases hn), hb⟩
          · by_cases hB : hexM b.toNat < 0
            · go_wp2_with (go_at_call 30; refine (rmdigit_l _ _).mono ?_; rintro e w' ⟨rfl, rfl⟩)
              all_goals try (exfalso; omega)
              have hn : pdec bl s.data.toList = none := by have h := H.out; rw [← h]; rw [if_neg (by omega), if_pos hB]; rfl
              (try rw [Exit.noGoto_ret])
              go_ret2
              exact ⟨fun _ => rfl, fun l hl => (by rw [hl] at hn; cases hn), hb⟩
            · go_wp2_with (go_at_call 30; refine (rmdigit_l _ _).mono ?_; rintro e w' ⟨rfl, rfl⟩)
              all_goals try (exfalso; omega)
              have q1 : IntKind.i64.wrap ((j : Int) + 1) = (j : Int) + 1 := IntWalk.i64_in _ (by omega)
              have q2 : IntKind.i64.wrap ((j : Int) + 2) = (j : Int) + 2 := IntWalk.i64_in _ (by omega)
              have q3 : (0 : Int) ≤ (j : Int) + 1 ∧ (j : Int) + 1 < (s.size : Int) := by omega
              have q4 : (0 : Int) ≤ (j : Int) + 2 ∧ (j : Int) + 2 < (s.size : Int) := by omega
              have q5 : ((j : Int) + 1).toNat = j + 1 := by omega
              have q6 : ((j : Int) + 2).toNat = j + 2 := by omega
              go_region_law (first | (refine step_push rfl _ _ 50 rfl w.heap.size 5 i0 (.int .u8 0) 1 Tryd.underlying50 hi hz0 hz1 hz2 rfl _ _ _ rfl (World.ownsRow.alloc hown _) ⟨wr.heap.size, 0, none⟩ _ rfl (cell_new _ _ _) rfl (by omega) (by omega) (by simp; omega) ?_; intro v2 w2 hown2 hgrow hat) | (go_simp; go_at_call 30; refine (rmdigit_l _ _).mono ?_; rintro e w' ⟨rfl, rfl⟩))
              all_goals
                have hb2 := (Below.drew (Below.alloc hb hz _)).grown hgrow (by simp; omega) (fun k hk => (hown.lt k hk).1)
                have hown3 := ownsRow_snoc hown2 (hexMB a b) (hexMB_sum a b (by omega) (by omega))
                clear hown hown2 hgrow hat q1 q2 q3 q4 q5 q6
                go_wp2
                go_roundw
                case rel =>
                  have HR : PdR bl s w v2 (.int .i64 ((j : Int) + 3)) w2 := by
                    have h := H.out
                    rw [if_neg (by omega), if_neg (by omega)] at h
                    exact ⟨j + 3, acc ++ [hexMB a b], by omega, by go_num, by simp; omega, hown3, hb2, by rw [← h]; cases pdec bl (s.data.toList.drop (j + 1 + 1 + 1)) <;> simp⟩
                  first | exact HR | ((repeat apply Exists.intro); refine ⟨HR, ?_⟩; first | rfl | (repeat' (first | apply And.intro | rfl)))
                case measure => simp [intOf]; omega
        · have hn : pdec bl (37 :: s.data.toList.drop (j + 1)) = none := pdec_short bl _ (by simp; omega)
          rw [hn] at H
          clear hdr hn
          go_wp2
          have hn : pdec bl s.data.toList = none := by have h := H.out; rw [← h]; rfl
          (try rw [Exit.noGoto_ret])
          go_ret2
          exact ⟨fun _ => rfl, fun l hl => (by rw [hl] at hn; cases hn), hb⟩
      · have hp' : ¬ (c.toNat : Int) = 37 := ne37 (n := 37) (by omega) hp
        by_cases hpl : c = 43 ∧ bl = true
        · obtain ⟨rfl, rfl⟩ := hpl
          rw [pdec_plus] at H
          clear hdr
          go_wp2_with (at_builtin; go_must (refine wpList_push rfl _ _ 50 rfl w.heap.size 5 i0 (.int .u8 0) 1 Tryd.underlying50 hi hz0 hz1 hz2 rfl _ _ _ rfl (World.ownsRow.alloc hown _) ⟨wr.heap.size, 0, none⟩ _ rfl (cell_new _ _ _) rfl (by omega) (by omega) (by simp; omega) ?_); intro v2 w2 hown2 hgrow hat)
          have hb2 := below_push0 hb (Nat.le_refl _) hgrow (fun k hk => (hown.lt k hk).1)
          have hown3 := ownsRow_snoc hown2 32 rfl
          clear hown hown2 hgrow hat
          go_wp2
          go_roundw
          case rel =>
            have HR : PdR true s w v2 (.int .i64 ((j : Int) + 1)) w2 := by
              have h := H.out
              exact ⟨j + 1, acc ++ [32], by omega, by go_num, by simp; omega, hown3, hb2, by rw [← h]; cases pdec true (s.data.toList.drop (j + 1)) <;> simp⟩
            first | exact HR | ((repeat apply Exists.intro); refine ⟨HR, ?_⟩; first | rfl | (repeat' (first | apply And.intro | rfl)))
          case measure => simp [intOf]; omega
        · rw [pdec_plain bl c _ hp hpl] at H
          clear hdr
          have hpb : bl = true → ¬ (c.toNat : Int) = 43 := fun e => ne37 (n := 43) (by omega) (fun h => hpl ⟨h, e⟩)
          cases bl with
          | true =>
            have hp2 := hpb rfl
            by_cases h1 : c.toNat < 33
            · go_wp2
              all_goals try (exfalso; omega)
              have hn : pdec true s.data.toList = none := by have h := H.out; rw [← h, if_pos h1]; rfl
              (try rw [Exit.noGoto_ret])
              go_ret2
              exact ⟨fun _ => rfl, fun l hl => (by rw [hl] at hn; cases hn), hb⟩
            · by_cases h2 : 126 < c.toNat
              · go_wp2
                all_goals try (exfalso; omega)
                have hn : pdec true s.data.toList = none := by have h := H.out; rw [← h, if_neg h1, if_pos h2]; rfl
                (try rw [Exit.noGoto_ret])
                go_ret2
                exact ⟨fun _ => rfl, fun l hl => (by rw [hl] at hn; cases hn), hb⟩
              · go_wp2_with (at_builtin; go_must (refine wpList_push rfl _ _ 50 rfl w.heap.size 5 i0 (.int .u8 0) 1 Tryd.underlying50 hi hz0 hz1 hz2 rfl _ _ _ rfl (World.ownsRow.alloc hown _) ⟨wr.heap.size, 0, none⟩ _ rfl (cell_new _ _ _) rfl (by omega) (by omega) (by simp; omega) ?_); intro v2 w2 hown2 hgrow hat)
                all_goals try (exfalso; omega)
                have hb2 := below_push0 hb (Nat.le_refl _) hgrow (fun k hk => (hown.lt k hk).1)
                have hown3 := ownsRow_snoc hown2 c rfl
                clear hown hown2 hgrow hat
                go_wp2
                go_roundw
                case rel =>
                  have HR : PdR true s w v2 (.int .i64 ((j : Int) + 1)) w2 := by
                    have h := H.out
                    rw [if_neg (by omega), if_neg (by omega)] at h
                    exact ⟨j + 1, acc ++ [c], by omega, by go_num, by simp; omega, hown3, hb2, by rw [← h]; cases pdec true (s.data.toList.drop (j + 1)) <;> simp⟩
                  first | exact HR | ((repeat apply Exists.intro); refine ⟨HR, ?_⟩; first | rfl | (repeat' (first | apply And.intro | rfl)))
                case measure => simp [intOf]; omega
          | false =>
            by_cases h1 : c.toNat < 33
            · go_wp2
              all_goals try (exfalso; omega)
              have hn : pdec false s.data.toList = none := by have h := H.out; rw [← h, if_pos h1]; rfl
              (try rw [Exit.noGoto_ret])
              go_ret2
              exact ⟨fun _ => rfl, fun l hl => (by rw [hl] at hn; cases hn), hb⟩
            · by_cases h2 : 126 < c.toNat
              · go_wp2
                all_goals try (exfalso; omega)
                have hn : pdec false s.data.toList = none := by have h := H.out; rw [← h, if_neg h1, if_pos h2]; rfl
                (try rw [Exit.noGoto_ret])
                go_ret2
                exact ⟨fun _ => rfl, fun l hl => (by rw [hl] at hn; cases hn), hb⟩
              · by_cases h43 : (c.toNat : Int) = 43
                all_goals
                  go_wp2_with (at_builtin; go_must (refine wpList_push rfl _ _ 50 rfl w.heap.size 5 i0 (.int .u8 0) 1 Tryd.underlying50 hi hz0 hz1 hz2 rfl _ _ _ rfl (World.ownsRow.alloc hown _) ⟨wr.heap.size, 0, none⟩ _ rfl (cell_new _ _ _) rfl (by omega) (by omega) (by simp; omega) ?_); intro v2 w2 hown2 hgrow hat)
                  all_goals try (exfalso; omega)
                  have hb2 := below_push0 hb (Nat.le_refl _) hgrow (fun k hk => (hown.lt k hk).1)
                  have hown3 := ownsRow_snoc hown2 c (by first | rfl | omega)
                  clear hown hown2 hgrow hat
                  go_wp2
                  go_roundw
                  case rel =>
                    have HR : PdR false s w v2 (.int .i64 ((j : Int) + 1)) w2 := by
                      have h := H.out
                      rw [if_neg (by omega), if_neg (by omega)] at h
                      exact ⟨j + 1, acc ++ [c], by omega, by go_num, by simp; omega, hown3, hb2, by rw [← h]; cases pdec false (s.data.toList.drop (j + 1)) <;> simp⟩
                    first | exact HR | ((repeat apply Exists.intro); refine ⟨HR, ?_⟩; first | rfl | (repeat' (first | apply And.intro | rfl)))
                  case measure => simp [intOf]; omega
    · rw [List.drop_of_length_le (by simp; omega)] at H
      have cb := conv_back (P := Tryd.prog) hown 50 9 Tryd.underlying50 Tryd.underlying5 Tryd.underlying9
      go_wp2
      (try rw [Exit.noGoto_ret])
      go_ret2
      have h := H.out
      simp [pdec] at h
      exact ⟨fun hn => (by rw [hn] at h; cases h), fun l hl => (by rw [hl] at h; cases h; rfl), hb⟩
end Go.Proofs.YthnhfbdoielekaaDoor
end
