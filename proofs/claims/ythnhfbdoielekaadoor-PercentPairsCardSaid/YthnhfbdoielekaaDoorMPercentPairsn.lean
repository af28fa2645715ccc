/- Texts of this proof, put together: Hb24, PrPercentTarget, PrPercentDecode, PrStowagelaw24Decodes, PrStowagelaw24Awake, PrStowagelaw24PercentKnown, PrStowagelaw24PercentBack, Pb24, Rq24, Hr24, PrStowageref24Target. -/
import Derived.Test.YthnhfbdoielekaaDoorMPercentPairsm
import Derived.Test.YthnhfbdoielekaaDoorMPercentPairsh
import Derived.Test.YthnhfbdoielekaaDoorMPercentPairsi
section
/- What the print does not take of percent: strings.Cut at one byte, decoded, Encode, Query; by their contracts, in the print's form. -/
namespace Go.Proofs.YthnhfbdoielekaaDoor.Pr
open Go.RowKit Go.Proofs.YthnhfbdoielekaaDoorW.PrintWords Go.Proofs.YthnhfbdoielekaaDoorW.PrintLast Go.Proofs.YthnhfbdoielekaaDoorW.PrintMore
set_option linter.unusedVariables false
set_option linter.unusedSimpArgs false
def strings_Cut.f (s sep : ByteArray) : Option (ByteArray × ByteArray × Bool) :=
  match sep.data.toList with
  | [c] => if s.size ≤ 1000000 then some (⟨(cutF c s.data.toList).1.toArray⟩, ⟨(cutF c s.data.toList).2.toArray⟩, (cutAt c s.data.toList).isSome) else none
  | _ => none
theorem strings_Cut.calls (a0 a1 : ByteArray) (r1 r2 : ByteArray) (r3 : Bool) (w : World) (h : strings_Cut.f a0 a1 = some (r1, r2, r3)) :
    Calls Tryd.prog 18 #[.string a0, .string a1] w fun e w' => e = .returned (.tuple #[.string r1, .string r2, .bool r3]) ∧ Drawn0 w w' := by
  unfold strings_Cut.f at h
  split at h
  · rename_i c hc
    split at h
    · rename_i hs
      simp only [Option.some.injEq, Prod.mk.injEq] at h
      obtain ⟨rfl, rfl, rfl⟩ := h
      obtain rfl : a1 = ⟨#[c]⟩ := bs_mk hc
      exact (cut_both a0 c w hs).mono fun e w' h => ⟨h.1, drawn_of h.2⟩
    · cases h
  · cases h
def percent_decoded.f (s : ByteArray) (bl : Bool) : Option (ByteArray × Bool) := if s.size ≤ 1000000 then some (⟨((pdec bl s.data.toList).getD []).toArray⟩, (pdec bl s.data.toList).isSome) else none
theorem percent_decoded.calls (a0 : ByteArray) (a1 : Bool) (r1 : ByteArray) (r2 : Bool) (w : World) (h : percent_decoded.f a0 a1 = some (r1, r2)) :
    Calls Tryd.prog 19 #[.string a0, .bool a1] w fun e w' => e = .returned (.tuple #[.string r1, .bool r2]) ∧ Below w.heap.size w w' := by
  unfold percent_decoded.f at h
  split at h
  · rename_i hs
    simp only [Option.some.injEq, Prod.mk.injEq] at h
    obtain ⟨rfl, rfl⟩ := h
    exact dec_any a0 a1 w hs
  · cases h
def percent_Encode.f (s : ByteArray) (sl : Bool) : Option ByteArray := if s.size ≤ 1000000 then some ⟨(pencGo sl s.data.toList).toArray⟩ else none
theorem percent_Encode.calls (a0 : ByteArray) (a1 : Bool) (r : ByteArray) (w : World) (h : percent_Encode.f a0 a1 = some r) :
    Calls Tryd.prog 16 #[.string a0, .bool a1] w fun e w' => e = .returned (.string r) ∧ Below w.heap.size w w' := by
  unfold percent_Encode.f at h
  split at h
  · rename_i hs
    cases h
    exact pEncode_any a0 a1 w hs
  · cases h
def pairS (p : PairP) : S32 := ⟨⟨p.1.toArray⟩, ⟨p.2.toArray⟩⟩
def percent_Query.f (s : ByteArray) : Option (List (S32) × Int) := if s.size ≤ 1000000 then some ((queryV s.data.toList).1.map pairS, (queryV s.data.toList).2) else none
theorem percent_Query.calls (a0 : ByteArray) (r1 : List (S32)) (r2 : Int) (w : World) (h : percent_Query.f a0 = some (r1, r2)) :
    Calls Tryd.prog 7 #[.string a0] w fun e w' => ∃ v0_ : Value, e = .returned (.tuple #[v0_, .int .i64 r2]) ∧ Kd.R k32 32 w' w.heap.size (fun _ => True) v0_ r1 ∧ Below w.heap.size w w' := by
  unfold percent_Query.f at h
  split at h
  · rename_i hs
    simp only [Option.some.injEq, Prod.mk.injEq] at h
    obtain ⟨rfl, rfl⟩ := h
    refine (query_any a0 w hs).mono ?_
    rintro e w' ⟨v, rfl, ho, hb⟩
    exact ⟨v, rfl, R_of_own (d := k32) pairS pairC (fun _ => rfl) _ (fun ok p => k32_mkM _ _ _ (pairS p)) ho, hb⟩
  · cases h
end Go.Proofs.YthnhfbdoielekaaDoor.Pr
end
section
namespace Go.Proofs.YthnhfbdoielekaaDoor.Pr
open Go.RowKit Go.Proofs.YthnhfbdoielekaaDoorW.PrintWords Go.Proofs.YthnhfbdoielekaaDoorW.PrintLast Go.Proofs.YthnhfbdoielekaaDoorW.PrintMore
attribute [local go_sem] max2_int min2_int max_two min_two max_three min_three max_four min_four   -- for this text's walks alone
attribute [local go_sem high] gtr_as_less leq_as_less
set_option linter.unusedVariables false
set_option linter.unusedSimpArgs false

/-! ### percent_Target: function 9 -/
def percent_Target.j0 : Nat → ByteArray → ByteArray → Bool → Option (ByteArray × (List (S32)) × Int)
  | 0, _, _, _ => none
  | k + 1, x6, x8, x32 => if x32 = true then (some ((⟨#[]⟩ : ByteArray), ([] : List (S32)), 4)) else ((percent_Query.f x6).bind fun bt108 => (if bt108.2 = 0 then (some (x8, bt108.1, 0)) else (some ((⟨#[]⟩ : ByteArray), ([] : List (S32)), bt108.2))))
def percent_Target.f (k : Nat) (a0 : ByteArray) : Option (ByteArray × (List (S32)) × Int) := if (a0.size : Int) > 2048 then (some ((⟨#[]⟩ : ByteArray), ([] : List (S32)), 3)) else ((strings_Cut.f a0 (⟨#[63]⟩ : ByteArray)).bind fun bt102 => ((percent_decoded.f bt102.1 false).bind fun bt105 => (if bt105.2 = true then ((strings_HasPrefix.f bt102.1 (⟨#[47]⟩ : ByteArray)).bind fun t107 => (percent_Target.j0 k bt102.2.1 bt105.1 (!t107))) else (percent_Target.j0 k bt102.2.1 bt105.1 true))))
theorem percent_Target.mono_l : ∀ k, (∀ y0 y1 y2, LeO (percent_Target.j0 k y0 y1 y2) (percent_Target.j0 (k + 1) y0 y1 y2))
  | 0 => fun _ _ _ r h => by simp [percent_Target.j0] at h
  | k + 1 => by
    have ih0 := percent_Target.mono_l k
    · intro y0 y1 y2
      unfold percent_Target.j0
      repeat' first
      | (with_reducible exact ih0 _ _ _)
      | (with_reducible exact LeO.refl _)
      | (with_reducible exact LeO.none _)
      | (with_reducible refine LeO.ite ?_ ?_)
      | (with_reducible refine LeO.bind ?_ (fun _ => ?_))
      | exact ih0 _ _ _
      | exact LeO.none _
      | refine LeO.ite ?_ ?_
      | refine LeO.bind ?_ (fun _ => ?_)
theorem percent_Target.mono : ∀ a0 k, LeO (percent_Target.f k a0) (percent_Target.f (k + 1) a0) := by
  intro a0 k
  have ih0 := percent_Target.mono_l k
  unfold percent_Target.f
  repeat' first
      | (with_reducible exact ih0 _ _ _)
      | (with_reducible exact LeO.refl _)
      | (with_reducible exact LeO.none _)
      | (with_reducible refine LeO.ite ?_ ?_)
      | (with_reducible refine LeO.bind ?_ (fun _ => ?_))
      | exact ih0 _ _ _
      | exact LeO.none _
      | refine LeO.ite ?_ ?_
      | refine LeO.bind ?_ (fun _ => ?_)
set_option maxHeartbeats 8000000 in
set_option maxRecDepth 100000 in
theorem percent_Target.calls (k : Nat) (a0 : ByteArray) (r1 : ByteArray) (r2 : List (S32)) (r3 : Int) (w : World) (h : percent_Target.f k a0 = some (r1, r2, r3)) :
    Calls Tryd.prog 9 #[.string a0] w fun e w' => ∃ v1_ : Value, e = .returned (.tuple #[.string r1, v1_, .int .i64 r3]) ∧ Kd.R k32 32 w' w.heap.size (fun _ => True) v1_ r2 ∧ Below w.heap.size w w' := by
  have HB := Aside0.mk (Below.refl w.heap.size w)
  have H : (if (a0.size : Int) > 2048 then (some ((⟨#[]⟩ : ByteArray), ([] : List (S32)), 3)) else ((strings_Cut.f a0 (⟨#[63]⟩ : ByteArray)).bind fun bt102 => ((percent_decoded.f bt102.1 false).bind fun bt105 => (if bt105.2 = true then ((strings_HasPrefix.f bt102.1 (⟨#[47]⟩ : ByteArray)).bind fun t107 => (percent_Target.j0 k bt102.2.1 bt105.1 (!t107))) else (percent_Target.j0 k bt102.2.1 bt105.1 true))))) = some (r1, r2, r3) := h
  clear h
  by_cases c2 : (a0.size : Int) > 2048
  · rw [if_pos c2] at H
    have c2b0 : decide (2048 < (a0.size : Int)) = true := decide_eq_true c2
    have c2b1 : decide (2048 < a0.size) = true := decide_eq_true (by omega)
    clear c2
    simp only [Option.some.injEq, Prod.mk.injEq] at H
    obtain ⟨rfl, rfl, rfl⟩ := H
    go_enter Tryd.func9, Tryd.ntmps9
    go_wp2
    go_ret3
    exact ⟨_, by first | rfl | (simp [errW_none, errW_some] <;> rfl) | (simp [*, errW_none, errW_some] <;> rfl), by first | exact Kd.R_nil _ _ _ _ _ | exact Kd.N_nil _ _ _ _ _ | exact Kd.V_nil _ _ _ _ _ | exact Kd.Q_nil _ _ _ _ _ | exact Kd.S_nil _ _ _ _ _, by repeat (first | (with_reducible first | exact HB.out | apply below_alloc | apply pw_below_drewN | apply below_drew1) | exact HB.out)⟩
  · rw [if_neg c2] at H
    have c2b0 : decide (2048 < (a0.size : Int)) = false := decide_eq_false c2
    have c2b1 : decide (2048 < a0.size) = false := decide_eq_false (by omega)
    clear c2
    replace H := Option.bind_eq_some_iff.mp H
    obtain ⟨⟨t102, t103, t104⟩, A30, H⟩ := H
    replace H : ((percent_decoded.f t102 false).bind fun bt105 => (if bt105.2 = true then ((strings_HasPrefix.f t102 (⟨#[47]⟩ : ByteArray)).bind fun t107 => (percent_Target.j0 k t103 bt105.1 (!t107))) else (percent_Target.j0 k t103 bt105.1 true))) = some (r1, r2, r3) := H
    have A3 := Aside0.mk A30
    clear A30
    replace H := Option.bind_eq_some_iff.mp H
    obtain ⟨⟨t105, t106⟩, A40, H⟩ := H
    replace H : (if t106 = true then ((strings_HasPrefix.f t102 (⟨#[47]⟩ : ByteArray)).bind fun t107 => (percent_Target.j0 k t103 t105 (!t107))) else (percent_Target.j0 k t103 t105 true)) = some (r1, r2, r3) := H
    have A4 := Aside0.mk A40
    clear A40
    have HC5 := Aside0.mk H
    clear H
    go_enter Tryd.func9, Tryd.ntmps9
    go_upto_region 5 with (first | ((with_reducible refine gate_callee (f := 18) rfl ?_); refine goesL_ (some 17) rfl rfl Tryd.func18 (by kernel_rfl) rfl #[.string a0, .string (⟨#[63]⟩ : ByteArray)] rfl (by (try simp only [List.map_toArray, List.map_cons, List.map_nil]); first | done | rfl | (simp only [List.length_drop, List.length_take]; rfl)) ?_; (with_reducible refine (strings_Cut.calls a0 (⟨#[63]⟩ : ByteArray) t102 t103 t104 _ A3.out).mono ?_); rintro e w' ⟨rfl, ⟨nd, rfl⟩⟩; refine ⟨_, rfl, ?_⟩) | ((with_reducible refine gate_callee (f := 19) rfl ?_); refine goesL_ (some 23) rfl rfl Tryd.func19 (by kernel_rfl) rfl #[.string t102, .bool false] rfl (by (try simp only [List.map_toArray, List.map_cons, List.map_nil]); first | done | rfl | (simp only [List.length_drop, List.length_take]; rfl)) ?_; (with_reducible refine (percent_decoded.calls t102 false t105 t106 _ A4.out).mono ?_); rintro e w6 ⟨rfl, hb⟩; refine ⟨_, rfl, ?_⟩; have n0_ := Aside0.mk (below_step (by repeat (first | (with_reducible first | exact HB.out | apply below_alloc | apply pw_below_drewN | apply below_drew1) | exact HB.out)) hb); clear HB; have HB := n0_; clear n0_; (try clear hb); (try clear hb2); (try clear hk); (try clear hi)))
    (try simp only [Act.put, List.setIfInBounds_toArray, List.set_cons_zero, List.set_cons_succ])
    go_cut [32] (fun v32 wc => ∃ (kq : Nat) (x32_4 : Bool), v32 = .bool x32_4 ∧ Aside0 (percent_Target.j0 kq t103 t105 x32_4 = some (r1, r2, r3)) ∧ Aside0 (kq ≤ k) ∧ Aside0 (Below w.heap.size w wc))
    case first =>
      have H := HC5.out
      clear HC5
      by_cases c7 : t106 = true
      · subst c7
        have H1 : ((strings_HasPrefix.f t102 (⟨#[47]⟩ : ByteArray)).bind fun t107 => (percent_Target.j0 k t103 t105 (!t107))) = some (r1, r2, r3) := by rw [if_pos rfl] at H; exact H
        clear H
        have H := H1
        clear H1
        replace H := Option.bind_eq_some_iff.mp H
        obtain ⟨t107, A80, H⟩ := H
        replace H : (percent_Target.j0 k t103 t105 (!t107)) = some (r1, r2, r3) := H
        have A8 := Aside0.mk A80
        clear A80
        have H' := Aside0.mk H
        clear H
        go_wp2_with (first | (go_at_call 22; (with_reducible refine (strings_HasPrefix.calls t102 (⟨#[47]⟩ : ByteArray) t107 _ A8.out).mono ?_); rintro e w' ⟨rfl, ⟨nd, rfl⟩⟩))
        go_meet
        case rel => exact ⟨_, (!t107), (by first | rfl | (simp; done) | (simp [*]; done)), H', ⟨by first | omega | exact Nat.le_refl _⟩, ⟨by repeat (first | (with_reducible first | exact HB.out | apply below_alloc | apply pw_below_drewN | apply below_drew1) | exact HB.out)⟩⟩
      · replace c7 := Bool.eq_false_iff.mpr c7
        subst c7
        have H1 : (percent_Target.j0 k t103 t105 true) = some (r1, r2, r3) := by rw [if_neg (show ¬ (false = true) by decide)] at H; exact H
        clear H
        have H := H1
        clear H1
        have H' := Aside0.mk H
        clear H
        go_wp2
        go_meet
        case rel => exact ⟨_, (true), (by first | rfl | (simp; done) | (simp [*]; done)), H', ⟨by first | omega | exact Nat.le_refl _⟩, ⟨by repeat (first | (with_reducible first | exact HB.out | apply below_alloc | apply pw_below_drewN | apply below_drew1) | exact HB.out)⟩⟩
    case rest =>
      clear HC5
      try clear c1
      try clear c2
      try clear c2b0
      try clear c2b1
      try clear p2
      try clear c7
      obtain ⟨kq, x32_4, rfl, HA, HJ4, HB⟩ := hcut
      cases kq with
      | zero => exact absurd HA.out (by simp [percent_Target.j0])
      | succ kj4 =>
        have H := HA.out
        clear HA
        simp only [percent_Target.j0] at H
        by_cases c9 : x32_4 = true
        · subst c9
          have H1 : (some ((⟨#[]⟩ : ByteArray), ([] : List (S32)), 4)) = some (r1, r2, r3) := by rw [if_pos rfl] at H; exact H
          clear H
          have H := H1
          clear H1
          simp only [Option.some.injEq, Prod.mk.injEq] at H
          obtain ⟨rfl, rfl, rfl⟩ := H
          go_wp2
          go_ret3
          exact ⟨_, by first | rfl | (simp [errW_none, errW_some] <;> rfl) | (simp [*, errW_none, errW_some] <;> rfl), by first | exact Kd.R_nil _ _ _ _ _ | exact Kd.N_nil _ _ _ _ _ | exact Kd.V_nil _ _ _ _ _ | exact Kd.Q_nil _ _ _ _ _ | exact Kd.S_nil _ _ _ _ _, by repeat (first | (with_reducible first | exact HB.out | apply below_alloc | apply pw_below_drewN | apply below_drew1) | exact HB.out)⟩
        · replace c9 := Bool.eq_false_iff.mpr c9
          subst c9
          have H1 : ((percent_Query.f t103).bind fun bt108 => (if bt108.2 = 0 then (some (t105, bt108.1, 0)) else (some ((⟨#[]⟩ : ByteArray), ([] : List (S32)), bt108.2)))) = some (r1, r2, r3) := by rw [if_neg (show ¬ (false = true) by decide)] at H; exact H
          clear H
          have H := H1
          clear H1
          replace H := Option.bind_eq_some_iff.mp H
          obtain ⟨⟨t108, t109⟩, A100, H⟩ := H
          replace H : (if t109 = 0 then (some (t105, t108, 0)) else (some ((⟨#[]⟩ : ByteArray), ([] : List (S32)), t109))) = some (r1, r2, r3) := H
          have A10 := Aside0.mk A100
          clear A100
          by_cases c11 : t109 = 0
          · rw [if_pos c11] at H
            have c11b0 : (t109 == 0) = true := beq_iff_eq.mpr c11
            have c11b1 : (t109 != 0) = false := bne_eq_false_iff_eq.mpr c11
            clear c11
            simp only [Option.some.injEq, Prod.mk.injEq] at H
            obtain ⟨rfl, rfl, rfl⟩ := H
            go_wp2_with (first | ((with_reducible refine gate_callee (f := 7) rfl ?_); refine goesL_ (some 35) rfl rfl Tryd.func7 (by kernel_rfl) rfl #[.string t103] rfl (by (try simp only [List.map_toArray, List.map_cons, List.map_nil]); first | done | rfl | (simp only [List.length_drop, List.length_take]; rfl)) ?_; (with_reducible refine (percent_Query.calls t103 t108 t109 _ A10.out).mono ?_); rintro e w12 ⟨v110, rfl, ho0, hb⟩; refine ⟨_, rfl, ?_⟩; have n0_ := Aside0.mk (Kd.R_lower ho0 (below_size (by repeat (first | (with_reducible first | exact HB.out | apply below_alloc | apply pw_below_drewN | apply below_drew1) | exact HB.out)))); have n1_ := Aside0.mk (below_step (by repeat (first | (with_reducible first | exact HB.out | apply below_alloc | apply pw_below_drewN | apply below_drew1) | exact HB.out)) hb); clear HB; have HO111 := n0_; have HB := n1_; clear n0_ n1_; (try clear hb); (try clear hb2); (try clear hk); (try clear hi); (try clear ho0)))
            go_ret3
            exact ⟨_, by first | rfl | (simp [errW_none, errW_some] <;> rfl) | (simp [*, errW_none, errW_some] <;> rfl), by (with_reducible repeat (first | apply Kd.R_alloc | apply Kd.R_drewN | apply Kd.R_drew)); exact HO111.out, by repeat (first | (with_reducible first | exact HB.out | apply below_alloc | apply pw_below_drewN | apply below_drew1) | exact HB.out)⟩
          · rw [if_neg c11] at H
            have c11b0 : (t109 == 0) = false := beq_eq_false_iff_ne.mpr c11
            have c11b1 : (t109 != 0) = true := bne_iff_ne.mpr c11
            simp only [Option.some.injEq, Prod.mk.injEq] at H
            obtain ⟨rfl, rfl, rfl⟩ := H
            go_wp2_with (first | ((with_reducible refine gate_callee (f := 7) rfl ?_); refine goesL_ (some 35) rfl rfl Tryd.func7 (by kernel_rfl) rfl #[.string t103] rfl (by (try simp only [List.map_toArray, List.map_cons, List.map_nil]); first | done | rfl | (simp only [List.length_drop, List.length_take]; rfl)) ?_; (with_reducible refine (percent_Query.calls t103 t108 t109 _ A10.out).mono ?_); rintro e w13 ⟨v110, rfl, ho0, hb⟩; refine ⟨_, rfl, ?_⟩; have n0_ := Aside0.mk (Kd.R_lower ho0 (below_size (by repeat (first | (with_reducible first | exact HB.out | apply below_alloc | apply pw_below_drewN | apply below_drew1) | exact HB.out)))); have n1_ := Aside0.mk (below_step (by repeat (first | (with_reducible first | exact HB.out | apply below_alloc | apply pw_below_drewN | apply below_drew1) | exact HB.out)) hb); clear HB; have HO111 := n0_; have HB := n1_; clear n0_ n1_; (try clear hb); (try clear hb2); (try clear hk); (try clear hi); (try clear ho0)))
            go_ret3
            exact ⟨_, by first | rfl | (simp [errW_none, errW_some] <;> rfl) | (simp [*, errW_none, errW_some] <;> rfl), by first | exact Kd.R_nil _ _ _ _ _ | exact Kd.N_nil _ _ _ _ _ | exact Kd.V_nil _ _ _ _ _ | exact Kd.Q_nil _ _ _ _ _ | exact Kd.S_nil _ _ _ _ _, by repeat (first | (with_reducible first | exact HB.out | apply below_alloc | apply pw_below_drewN | apply below_drew1) | exact HB.out)⟩

end Go.Proofs.YthnhfbdoielekaaDoor.Pr
end
section
namespace Go.Proofs.YthnhfbdoielekaaDoor.Pr
open Go.RowKit Go.Proofs.YthnhfbdoielekaaDoorW.PrintWords Go.Proofs.YthnhfbdoielekaaDoorW.PrintLast Go.Proofs.YthnhfbdoielekaaDoorW.PrintMore
attribute [local go_sem] max2_int min2_int max_two min_two max_three min_three max_four min_four   -- for this text's walks alone
attribute [local go_sem high] gtr_as_less leq_as_less
set_option linter.unusedVariables false
set_option linter.unusedSimpArgs false

/-! ### percent_Decode: function 15 -/
def percent_Decode.f (a0 : ByteArray) (a1 : Bool) : Option (ByteArray × Int) := if (a0.size : Int) > 2048 then (some ((⟨#[]⟩ : ByteArray), 3)) else ((percent_decoded.f a0 a1).bind fun bt125 => (if bt125.2 = true then (some (bt125.1, 0)) else (some ((⟨#[]⟩ : ByteArray), 4))))
set_option maxHeartbeats 8000000 in
set_option maxRecDepth 100000 in
theorem percent_Decode.calls (a0 : ByteArray) (a1 : Bool) (r1 : ByteArray) (r2 : Int) (w : World) (h : percent_Decode.f a0 a1 = some (r1, r2)) :
    Calls Tryd.prog 15 #[.string a0, .bool a1] w fun e w' => e = .returned (.tuple #[.string r1, .int .i64 r2]) ∧ Below w.heap.size w w' := by
  have HB := Aside0.mk (Below.refl w.heap.size w)
  have H : (if (a0.size : Int) > 2048 then (some ((⟨#[]⟩ : ByteArray), 3)) else ((percent_decoded.f a0 a1).bind fun bt125 => (if bt125.2 = true then (some (bt125.1, 0)) else (some ((⟨#[]⟩ : ByteArray), 4))))) = some (r1, r2) := h
  clear h
  by_cases c3 : (a0.size : Int) > 2048
  · rw [if_pos c3] at H
    have c3b0 : decide (2048 < (a0.size : Int)) = true := decide_eq_true c3
    have c3b1 : decide (2048 < a0.size) = true := decide_eq_true (by omega)
    clear c3
    simp only [Option.some.injEq, Prod.mk.injEq] at H
    obtain ⟨rfl, rfl⟩ := H
    go_enter Tryd.func15, Tryd.ntmps15
    go_wp2
    go_ret2
    exact ⟨by first | rfl | (simp [errW_none, errW_some] <;> rfl) | (simp [*, errW_none, errW_some] <;> rfl), by repeat (first | (with_reducible first | exact HB.out | apply below_alloc | apply pw_below_drewN | apply below_drew1) | exact HB.out)⟩
  · rw [if_neg c3] at H
    have c3b0 : decide (2048 < (a0.size : Int)) = false := decide_eq_false c3
    have c3b1 : decide (2048 < a0.size) = false := decide_eq_false (by omega)
    clear c3
    replace H := Option.bind_eq_some_iff.mp H
    obtain ⟨⟨t125, t126⟩, A40, H⟩ := H
    replace H : (if t126 = true then (some (t125, 0)) else (some ((⟨#[]⟩ : ByteArray), 4))) = some (r1, r2) := H
    have A4 := Aside0.mk A40
    clear A40
    by_cases c5 : t126 = true
    · subst c5
      have H1 : (some (t125, 0)) = some (r1, r2) := by rw [if_pos rfl] at H; exact H
      clear H
      have H := H1
      clear H1
      simp only [Option.some.injEq, Prod.mk.injEq] at H
      obtain ⟨rfl, rfl⟩ := H
      go_enter Tryd.func15, Tryd.ntmps15
      go_wp2_with (first | ((with_reducible refine gate_callee (f := 19) rfl ?_); refine goesL_ (some 14) rfl rfl Tryd.func19 (by kernel_rfl) rfl #[.string a0, .bool a1] rfl (by (try simp only [List.map_toArray, List.map_cons, List.map_nil]); first | done | rfl | (simp only [List.length_drop, List.length_take]; rfl)) ?_; (with_reducible refine (percent_decoded.calls a0 a1 t125 true _ A4.out).mono ?_); rintro e w6 ⟨rfl, hb⟩; refine ⟨_, rfl, ?_⟩; have n0_ := Aside0.mk (below_step (by repeat (first | (with_reducible first | exact HB.out | apply below_alloc | apply pw_below_drewN | apply below_drew1) | exact HB.out)) hb); clear HB; have HB := n0_; clear n0_; (try clear hb); (try clear hb2); (try clear hk); (try clear hi)))
      go_ret2
      exact ⟨by first | rfl | (simp [errW_none, errW_some] <;> rfl) | (simp [*, errW_none, errW_some] <;> rfl), by repeat (first | (with_reducible first | exact HB.out | apply below_alloc | apply pw_below_drewN | apply below_drew1) | exact HB.out)⟩
    · replace c5 := Bool.eq_false_iff.mpr c5
      subst c5
      have H1 : (some ((⟨#[]⟩ : ByteArray), 4)) = some (r1, r2) := by rw [if_neg (show ¬ (false = true) by decide)] at H; exact H
      clear H
      have H := H1
      clear H1
      simp only [Option.some.injEq, Prod.mk.injEq] at H
      obtain ⟨rfl, rfl⟩ := H
      go_enter Tryd.func15, Tryd.ntmps15
      go_wp2_with (first | ((with_reducible refine gate_callee (f := 19) rfl ?_); refine goesL_ (some 14) rfl rfl Tryd.func19 (by kernel_rfl) rfl #[.string a0, .bool a1] rfl (by (try simp only [List.map_toArray, List.map_cons, List.map_nil]); first | done | rfl | (simp only [List.length_drop, List.length_take]; rfl)) ?_; (with_reducible refine (percent_decoded.calls a0 a1 t125 false _ A4.out).mono ?_); rintro e w7 ⟨rfl, hb⟩; refine ⟨_, rfl, ?_⟩; have n0_ := Aside0.mk (below_step (by repeat (first | (with_reducible first | exact HB.out | apply below_alloc | apply pw_below_drewN | apply below_drew1) | exact HB.out)) hb); clear HB; have HB := n0_; clear n0_; (try clear hb); (try clear hb2); (try clear hk); (try clear hi)))
      go_ret2
      exact ⟨by first | rfl | (simp [errW_none, errW_some] <;> rfl) | (simp [*, errW_none, errW_some] <;> rfl), by repeat (first | (with_reducible first | exact HB.out | apply below_alloc | apply pw_below_drewN | apply below_drew1) | exact HB.out)⟩

end Go.Proofs.YthnhfbdoielekaaDoor.Pr
end
section
namespace Go.Proofs.YthnhfbdoielekaaDoor.Pr
open Go.RowKit Go.Proofs.YthnhfbdoielekaaDoorW.PrintWords Go.Proofs.YthnhfbdoielekaaDoorW.PrintLast Go.Proofs.YthnhfbdoielekaaDoorW.PrintMore
attribute [local go_sem] max2_int min2_int max_two min_two max_three min_three max_four min_four   -- for this text's walks alone
attribute [local go_sem high] gtr_as_less leq_as_less
set_option linter.unusedVariables false
set_option linter.unusedSimpArgs false

/-! ### stowagelaw24_decodes: function 23 -/
def stowagelaw24_decodes.f (a0 : ByteArray) (a1 : Bool) (a2 : ByteArray) : Option (Bool) := (percent_Decode.f a0 a1).bind fun bt127 => (if bt127.1.toList = a2.toList then (some (bt127.2 == 0)) else (some false))
set_option maxHeartbeats 8000000 in
set_option maxRecDepth 100000 in
theorem stowagelaw24_decodes.calls (a0 : ByteArray) (a1 : Bool) (a2 : ByteArray) (r : Bool) (w : World) (h : stowagelaw24_decodes.f a0 a1 a2 = some r) :
    Calls Tryd.prog 23 #[.string a0, .bool a1, .string a2] w fun e w' => e = .returned (.bool r) ∧ Below w.heap.size w w' := by
  have HB := Aside0.mk (Below.refl w.heap.size w)
  have H : ((percent_Decode.f a0 a1).bind fun bt127 => (if bt127.1.toList = a2.toList then (some (bt127.2 == 0)) else (some false))) = some r := h
  clear h
  replace H := Option.bind_eq_some_iff.mp H
  obtain ⟨⟨t127, t128⟩, A40, H⟩ := H
  replace H : (if t127.toList = a2.toList then (some (t128 == 0)) else (some false)) = some r := H
  have A4 := Aside0.mk A40
  clear A40
  by_cases c5 : t127.toList = a2.toList
  · rw [if_pos c5] at H
    have c5b0 : (t127.toList == a2.toList) = true := beq_iff_eq.mpr c5
    have c5b1 : (t127.toList != a2.toList) = false := bne_eq_false_iff_eq.mpr c5
    clear c5
    obtain rfl := Option.some.inj H
    go_enter Tryd.func23, Tryd.ntmps23
    go_wp2_with (first | ((with_reducible refine gate_callee (f := 15) rfl ?_); refine goesL_ (some 12) rfl rfl Tryd.func15 (by kernel_rfl) rfl #[.string a0, .bool a1] rfl (by (try simp only [List.map_toArray, List.map_cons, List.map_nil]); first | done | rfl | (simp only [List.length_drop, List.length_take]; rfl)) ?_; (with_reducible refine (percent_Decode.calls a0 a1 t127 t128 _ A4.out).mono ?_); rintro e w6 ⟨rfl, hb⟩; refine ⟨_, rfl, ?_⟩; have n0_ := Aside0.mk (below_step (by repeat (first | (with_reducible first | exact HB.out | apply below_alloc | apply pw_below_drewN | apply below_drew1) | exact HB.out)) hb); clear HB; have HB := n0_; clear n0_; (try clear hb); (try clear hb2); (try clear hk); (try clear hi)))
    go_ret
    exact ⟨by first | rfl | (simp [errW_none, errW_some] <;> rfl) | (simp [*, errW_none, errW_some] <;> rfl), by repeat (first | (with_reducible first | exact HB.out | apply below_alloc | apply pw_below_drewN | apply below_drew1) | exact HB.out)⟩
  · rw [if_neg c5] at H
    have c5b0 : (t127.toList == a2.toList) = false := beq_eq_false_iff_ne.mpr c5
    have c5b1 : (t127.toList != a2.toList) = true := bne_iff_ne.mpr c5
    obtain rfl := Option.some.inj H
    go_enter Tryd.func23, Tryd.ntmps23
    go_wp2_with (first | ((with_reducible refine gate_callee (f := 15) rfl ?_); refine goesL_ (some 12) rfl rfl Tryd.func15 (by kernel_rfl) rfl #[.string a0, .bool a1] rfl (by (try simp only [List.map_toArray, List.map_cons, List.map_nil]); first | done | rfl | (simp only [List.length_drop, List.length_take]; rfl)) ?_; (with_reducible refine (percent_Decode.calls a0 a1 t127 t128 _ A4.out).mono ?_); rintro e w7 ⟨rfl, hb⟩; refine ⟨_, rfl, ?_⟩; have n0_ := Aside0.mk (below_step (by repeat (first | (with_reducible first | exact HB.out | apply below_alloc | apply pw_below_drewN | apply below_drew1) | exact HB.out)) hb); clear HB; have HB := n0_; clear n0_; (try clear hb); (try clear hb2); (try clear hk); (try clear hi)))
    go_ret
    exact ⟨by first | rfl | (simp [errW_none, errW_some] <;> rfl) | (simp [*, errW_none, errW_some] <;> rfl), by repeat (first | (with_reducible first | exact HB.out | apply below_alloc | apply pw_below_drewN | apply below_drew1) | exact HB.out)⟩

end Go.Proofs.YthnhfbdoielekaaDoor.Pr
end
section
namespace Go.Proofs.YthnhfbdoielekaaDoor.Pr
open Go.RowKit Go.Proofs.YthnhfbdoielekaaDoorW.PrintWords Go.Proofs.YthnhfbdoielekaaDoorW.PrintLast Go.Proofs.YthnhfbdoielekaaDoorW.PrintMore
attribute [local go_sem] max2_int min2_int max_two min_two max_three min_three max_four min_four   -- for this text's walks alone
attribute [local go_sem high] gtr_as_less leq_as_less
set_option linter.unusedVariables false
set_option linter.unusedSimpArgs false

/-! ### stowagelaw24_awake: function 14 -/
def stowagelaw24_awake.f  : Option (Bool) := (stowagelaw24_decodes.f (⟨#[97, 37, 50, 70, 98, 43, 99]⟩ : ByteArray) false (⟨#[97, 47, 98, 43, 99]⟩ : ByteArray)).bind fun t129 => (if t129 = true then ((stowagelaw24_decodes.f (⟨#[97, 43, 98]⟩ : ByteArray) true (⟨#[97, 32, 98]⟩ : ByteArray)).bind fun t130 => (if t130 = true then ((percent_Encode.f (⟨#[97, 47, 98, 32, 99, 126]⟩ : ByteArray) true).bind fun t131 => (some (t131.toList == ([97, 47, 98, 37, 50, 48, 99, 126] : List UInt8)))) else (some false))) else (some false))
set_option maxHeartbeats 8000000 in
set_option maxRecDepth 100000 in
theorem stowagelaw24_awake.calls  (r : Bool) (w : World) (h : stowagelaw24_awake.f  = some r) :
    Calls Tryd.prog 14 #[] w fun e w' => e = .returned (.bool r) ∧ Below w.heap.size w w' := by
  have HB := Aside0.mk (Below.refl w.heap.size w)
  have H : ((stowagelaw24_decodes.f (⟨#[97, 37, 50, 70, 98, 43, 99]⟩ : ByteArray) false (⟨#[97, 47, 98, 43, 99]⟩ : ByteArray)).bind fun t129 => (if t129 = true then ((stowagelaw24_decodes.f (⟨#[97, 43, 98]⟩ : ByteArray) true (⟨#[97, 32, 98]⟩ : ByteArray)).bind fun t130 => (if t130 = true then ((percent_Encode.f (⟨#[97, 47, 98, 32, 99, 126]⟩ : ByteArray) true).bind fun t131 => (some (t131.toList == ([97, 47, 98, 37, 50, 48, 99, 126] : List UInt8)))) else (some false))) else (some false))) = some r := h
  clear h
  replace H := Option.bind_eq_some_iff.mp H
  obtain ⟨t129, A10, H⟩ := H
  replace H : (if t129 = true then ((stowagelaw24_decodes.f (⟨#[97, 43, 98]⟩ : ByteArray) true (⟨#[97, 32, 98]⟩ : ByteArray)).bind fun t130 => (if t130 = true then ((percent_Encode.f (⟨#[97, 47, 98, 32, 99, 126]⟩ : ByteArray) true).bind fun t131 => (some (t131.toList == ([97, 47, 98, 37, 50, 48, 99, 126] : List UInt8)))) else (some false))) else (some false)) = some r := H
  have A1 := Aside0.mk A10
  clear A10
  by_cases c2 : t129 = true
  · subst c2
    have H1 : ((stowagelaw24_decodes.f (⟨#[97, 43, 98]⟩ : ByteArray) true (⟨#[97, 32, 98]⟩ : ByteArray)).bind fun t130 => (if t130 = true then ((percent_Encode.f (⟨#[97, 47, 98, 32, 99, 126]⟩ : ByteArray) true).bind fun t131 => (some (t131.toList == ([97, 47, 98, 37, 50, 48, 99, 126] : List UInt8)))) else (some false))) = some r := by rw [if_pos rfl] at H; exact H
    clear H
    have H := H1
    clear H1
    replace H := Option.bind_eq_some_iff.mp H
    obtain ⟨t130, A30, H⟩ := H
    replace H : (if t130 = true then ((percent_Encode.f (⟨#[97, 47, 98, 32, 99, 126]⟩ : ByteArray) true).bind fun t131 => (some (t131.toList == ([97, 47, 98, 37, 50, 48, 99, 126] : List UInt8)))) else (some false)) = some r := H
    have A3 := Aside0.mk A30
    clear A30
    by_cases c4 : t130 = true
    · subst c4
      have H1 : ((percent_Encode.f (⟨#[97, 47, 98, 32, 99, 126]⟩ : ByteArray) true).bind fun t131 => (some (t131.toList == ([97, 47, 98, 37, 50, 48, 99, 126] : List UInt8)))) = some r := by rw [if_pos rfl] at H; exact H
      clear H
      have H := H1
      clear H1
      replace H := Option.bind_eq_some_iff.mp H
      obtain ⟨t131, A50, H⟩ := H
      replace H : (some (t131.toList == ([97, 47, 98, 37, 50, 48, 99, 126] : List UInt8))) = some r := H
      have A5 := Aside0.mk A50
      clear A50
      obtain rfl := Option.some.inj H
      go_enter Tryd.func14, Tryd.ntmps14
      go_wp2_with (first | ((with_reducible refine gate_callee (f := 23) rfl ?_); refine goesL_ (some 1) rfl rfl Tryd.func23 (by kernel_rfl) rfl #[.string (⟨#[97, 37, 50, 70, 98, 43, 99]⟩ : ByteArray), .bool false, .string (⟨#[97, 47, 98, 43, 99]⟩ : ByteArray)] rfl (by (try simp only [List.map_toArray, List.map_cons, List.map_nil]); first | done | rfl | (simp only [List.length_drop, List.length_take]; rfl)) ?_; (with_reducible refine (stowagelaw24_decodes.calls (⟨#[97, 37, 50, 70, 98, 43, 99]⟩ : ByteArray) false (⟨#[97, 47, 98, 43, 99]⟩ : ByteArray) true _ A1.out).mono ?_); rintro e w6 ⟨rfl, hb⟩; refine ⟨_, rfl, ?_⟩; have n0_ := Aside0.mk (below_step (by repeat (first | (with_reducible first | exact HB.out | apply below_alloc | apply pw_below_drewN | apply below_drew1) | exact HB.out)) hb); clear HB; have HB := n0_; clear n0_; (try clear hb); (try clear hb2); (try clear hk); (try clear hi)) | (go_at_call 23; (with_reducible refine (stowagelaw24_decodes.calls (⟨#[97, 43, 98]⟩ : ByteArray) true (⟨#[97, 32, 98]⟩ : ByteArray) true _ A3.out).mono ?_); rintro e w7 ⟨rfl, hb⟩; have n0_ := Aside0.mk (below_step (by repeat (first | (with_reducible first | exact HB.out | apply below_alloc | apply pw_below_drewN | apply below_drew1) | exact HB.out)) hb); clear HB; have HB := n0_; clear n0_; (try clear hb); (try clear hb2); (try clear hk); (try clear hi)) | (go_at_call 16; (with_reducible refine (percent_Encode.calls (⟨#[97, 47, 98, 32, 99, 126]⟩ : ByteArray) true t131 _ A5.out).mono ?_); rintro e w8 ⟨rfl, hb⟩; have n0_ := Aside0.mk (below_step (by repeat (first | (with_reducible first | exact HB.out | apply below_alloc | apply pw_below_drewN | apply below_drew1) | exact HB.out)) hb); clear HB; have HB := n0_; clear n0_; (try clear hb); (try clear hb2); (try clear hk); (try clear hi)))
      go_ret
      exact ⟨by first | rfl | (simp [errW_none, errW_some] <;> rfl) | (simp [*, errW_none, errW_some] <;> rfl), by repeat (first | (with_reducible first | exact HB.out | apply below_alloc | apply pw_below_drewN | apply below_drew1) | exact HB.out)⟩
    · replace c4 := Bool.eq_false_iff.mpr c4
      subst c4
      have H1 : (some false) = some r := by rw [if_neg (show ¬ (false = true) by decide)] at H; exact H
      clear H
      have H := H1
      clear H1
      obtain rfl := Option.some.inj H
      go_enter Tryd.func14, Tryd.ntmps14
      go_wp2_with (first | ((with_reducible refine gate_callee (f := 23) rfl ?_); refine goesL_ (some 1) rfl rfl Tryd.func23 (by kernel_rfl) rfl #[.string (⟨#[97, 37, 50, 70, 98, 43, 99]⟩ : ByteArray), .bool false, .string (⟨#[97, 47, 98, 43, 99]⟩ : ByteArray)] rfl (by (try simp only [List.map_toArray, List.map_cons, List.map_nil]); first | done | rfl | (simp only [List.length_drop, List.length_take]; rfl)) ?_; (with_reducible refine (stowagelaw24_decodes.calls (⟨#[97, 37, 50, 70, 98, 43, 99]⟩ : ByteArray) false (⟨#[97, 47, 98, 43, 99]⟩ : ByteArray) true _ A1.out).mono ?_); rintro e w9 ⟨rfl, hb⟩; refine ⟨_, rfl, ?_⟩; have n0_ := Aside0.mk (below_step (by repeat (first | (with_reducible first | exact HB.out | apply below_alloc | apply pw_below_drewN | apply below_drew1) | exact HB.out)) hb); clear HB; have HB := n0_; clear n0_; (try clear hb); (try clear hb2); (try clear hk); (try clear hi)) | (go_at_call 23; (with_reducible refine (stowagelaw24_decodes.calls (⟨#[97, 43, 98]⟩ : ByteArray) true (⟨#[97, 32, 98]⟩ : ByteArray) false _ A3.out).mono ?_); rintro e w10 ⟨rfl, hb⟩; have n0_ := Aside0.mk (below_step (by repeat (first | (with_reducible first | exact HB.out | apply below_alloc | apply pw_below_drewN | apply below_drew1) | exact HB.out)) hb); clear HB; have HB := n0_; clear n0_; (try clear hb); (try clear hb2); (try clear hk); (try clear hi)))
      go_ret
      exact ⟨by first | rfl | (simp [errW_none, errW_some] <;> rfl) | (simp [*, errW_none, errW_some] <;> rfl), by repeat (first | (with_reducible first | exact HB.out | apply below_alloc | apply pw_below_drewN | apply below_drew1) | exact HB.out)⟩
  · replace c2 := Bool.eq_false_iff.mpr c2
    subst c2
    have H1 : (some false) = some r := by rw [if_neg (show ¬ (false = true) by decide)] at H; exact H
    clear H
    have H := H1
    clear H1
    obtain rfl := Option.some.inj H
    go_enter Tryd.func14, Tryd.ntmps14
    go_wp2_with (first | ((with_reducible refine gate_callee (f := 23) rfl ?_); refine goesL_ (some 1) rfl rfl Tryd.func23 (by kernel_rfl) rfl #[.string (⟨#[97, 37, 50, 70, 98, 43, 99]⟩ : ByteArray), .bool false, .string (⟨#[97, 47, 98, 43, 99]⟩ : ByteArray)] rfl (by (try simp only [List.map_toArray, List.map_cons, List.map_nil]); first | done | rfl | (simp only [List.length_drop, List.length_take]; rfl)) ?_; (with_reducible refine (stowagelaw24_decodes.calls (⟨#[97, 37, 50, 70, 98, 43, 99]⟩ : ByteArray) false (⟨#[97, 47, 98, 43, 99]⟩ : ByteArray) false _ A1.out).mono ?_); rintro e w11 ⟨rfl, hb⟩; refine ⟨_, rfl, ?_⟩; have n0_ := Aside0.mk (below_step (by repeat (first | (with_reducible first | exact HB.out | apply below_alloc | apply pw_below_drewN | apply below_drew1) | exact HB.out)) hb); clear HB; have HB := n0_; clear n0_; (try clear hb); (try clear hb2); (try clear hk); (try clear hi)))
    go_ret
    exact ⟨by first | rfl | (simp [errW_none, errW_some] <;> rfl) | (simp [*, errW_none, errW_some] <;> rfl), by repeat (first | (with_reducible first | exact HB.out | apply below_alloc | apply pw_below_drewN | apply below_drew1) | exact HB.out)⟩

end Go.Proofs.YthnhfbdoielekaaDoor.Pr
end
section
namespace Go.Proofs.YthnhfbdoielekaaDoor.Pr
open Go.RowKit Go.Proofs.YthnhfbdoielekaaDoorW.PrintWords Go.Proofs.YthnhfbdoielekaaDoorW.PrintLast Go.Proofs.YthnhfbdoielekaaDoorW.PrintMore
attribute [local go_sem] max2_int min2_int max_two min_two max_three min_three max_four min_four   -- for this text's walks alone
attribute [local go_sem high] gtr_as_less leq_as_less
set_option linter.unusedVariables false
set_option linter.unusedSimpArgs false

/-! ### stowagelaw24_PercentKnown: function 4 -/
def stowagelaw24_PercentKnown.j0 : Nat → ByteArray → List (S32) → Int → Int → ByteArray → Bool → ByteArray → Bool → Bool → Option (Bool)
  | 0, _, _, _, _, _, _, _, _, _ => none
  | k + 1, x7, x8, x9, x12, x14, x15, x16, x17, x18 => if x18 = true then (if x7.toList = ([47, 97, 32, 98] : List UInt8) then (if x9 = 0 then ((stowagekit_SamePairs.f k x8 (([(⟨(⟨#[120]⟩ : ByteArray), (⟨#[32]⟩ : ByteArray)⟩ : S32)] : List (S32)))).bind fun t200 => (if t200 = true then (if x12 = 4 then (if x14.toList = ([49] : List UInt8) then (if x15 = true then (if x16.toList = ([] : List UInt8) then (some (!x17)) else (some false)) else (some false)) else (some false)) else (some false)) else (some false))) else (some false)) else (some false)) else (some false)
def stowagelaw24_PercentKnown.f (k : Nat)  : Option (Bool) := (percent_Decode.f (⟨#[97, 37, 50]⟩ : ByteArray) false).bind fun bt166 => ((percent_Decode.f (⟨#[97, 32, 98]⟩ : ByteArray) true).bind fun bt168 => ((percent_Query.f (⟨#[97, 61, 49, 38, 98, 38, 38, 99, 61, 120, 37, 51, 100, 121, 61]⟩ : ByteArray)).bind fun bt170 => ((percent_Target.f k (⟨#[47, 97, 37, 50, 48, 98, 63, 120, 61, 43]⟩ : ByteArray)).bind fun bt174 => ((percent_Target.f k (⟨#[97]⟩ : ByteArray)).bind fun bt179 => ((some (([(⟨(⟨#[97]⟩ : ByteArray), (⟨#[49]⟩ : ByteArray)⟩ : S32), (⟨(⟨#[97]⟩ : ByteArray), (⟨#[50]⟩ : ByteArray)⟩ : S32)] : List (S32)) : List (S32))).bind fun y184 => ((percent_Find.f k y184 (⟨#[97]⟩ : ByteArray)).bind fun bt187 => ((percent_Find.f k y184 (⟨#[98]⟩ : ByteArray)).bind fun bt189 => ((stowagelaw24_awake.f).bind fun t191 => (if t191 = true then (if bt166.2 = 4 then (if bt168.2 = 4 then ((percent_Encode.f (⟨#[97, 47, 98]⟩ : ByteArray) false).bind fun t192 => (if t192.toList = ([97, 37, 50, 102, 98] : List UInt8) then (if bt170.2 = 0 then ((stowagekit_SamePairs.f k bt170.1 (([(⟨(⟨#[97]⟩ : ByteArray), (⟨#[49]⟩ : ByteArray)⟩ : S32), (⟨(⟨#[98]⟩ : ByteArray), (⟨#[]⟩ : ByteArray)⟩ : S32), (⟨(⟨#[99]⟩ : ByteArray), (⟨#[120, 61, 121, 61]⟩ : ByteArray)⟩ : S32)] : List (S32)))).bind fun t196 => (stowagelaw24_PercentKnown.j0 k bt174.1 bt174.2.1 bt174.2.2 bt179.2.2 bt187.1 bt187.2 bt189.1 bt189.2 t196)) else (stowagelaw24_PercentKnown.j0 k bt174.1 bt174.2.1 bt174.2.2 bt179.2.2 bt187.1 bt187.2 bt189.1 bt189.2 false)) else (stowagelaw24_PercentKnown.j0 k bt174.1 bt174.2.1 bt174.2.2 bt179.2.2 bt187.1 bt187.2 bt189.1 bt189.2 false))) else (stowagelaw24_PercentKnown.j0 k bt174.1 bt174.2.1 bt174.2.2 bt179.2.2 bt187.1 bt187.2 bt189.1 bt189.2 false)) else (stowagelaw24_PercentKnown.j0 k bt174.1 bt174.2.1 bt174.2.2 bt179.2.2 bt187.1 bt187.2 bt189.1 bt189.2 false)) else (stowagelaw24_PercentKnown.j0 k bt174.1 bt174.2.1 bt174.2.2 bt179.2.2 bt187.1 bt187.2 bt189.1 bt189.2 false))))))))))
theorem stowagelaw24_PercentKnown.mono_l : ∀ k, (∀ y0 y1 y2 y3 y4 y5 y6 y7 y8, LeO (stowagelaw24_PercentKnown.j0 k y0 y1 y2 y3 y4 y5 y6 y7 y8) (stowagelaw24_PercentKnown.j0 (k + 1) y0 y1 y2 y3 y4 y5 y6 y7 y8))
  | 0 => fun _ _ _ _ _ _ _ _ _ r h => by simp [stowagelaw24_PercentKnown.j0] at h
  | k + 1 => by
    have ih0 := stowagelaw24_PercentKnown.mono_l k
    · intro y0 y1 y2 y3 y4 y5 y6 y7 y8
      unfold stowagelaw24_PercentKnown.j0
      repeat' first
      | (with_reducible exact ih0 _ _ _ _ _ _ _ _ _)
      | (with_reducible exact percent_Find.mono _ _ _)
      | (with_reducible exact percent_Target.mono _ _)
      | (with_reducible exact stowagekit_SamePairs.mono _ _ _)
      | (with_reducible exact LeO.refl _)
      | (with_reducible exact LeO.none _)
      | (with_reducible refine LeO.ite ?_ ?_)
      | (with_reducible refine LeO.bind ?_ (fun _ => ?_))
      | exact ih0 _ _ _ _ _ _ _ _ _
      | exact percent_Find.mono _ _ _
      | exact percent_Target.mono _ _
      | exact stowagekit_SamePairs.mono _ _ _
      | exact LeO.none _
      | refine LeO.ite ?_ ?_
      | refine LeO.bind ?_ (fun _ => ?_)
theorem stowagelaw24_PercentKnown.mono : ∀ k, LeO (stowagelaw24_PercentKnown.f k ) (stowagelaw24_PercentKnown.f (k + 1) ) := by
  intro  k
  have ih0 := stowagelaw24_PercentKnown.mono_l k
  unfold stowagelaw24_PercentKnown.f
  repeat' first
      | (with_reducible exact ih0 _ _ _ _ _ _ _ _ _)
      | (with_reducible exact percent_Find.mono _ _ _)
      | (with_reducible exact percent_Target.mono _ _)
      | (with_reducible exact stowagekit_SamePairs.mono _ _ _)
      | (with_reducible exact LeO.refl _)
      | (with_reducible exact LeO.none _)
      | (with_reducible refine LeO.ite ?_ ?_)
      | (with_reducible refine LeO.bind ?_ (fun _ => ?_))
      | exact ih0 _ _ _ _ _ _ _ _ _
      | exact percent_Find.mono _ _ _
      | exact percent_Target.mono _ _
      | exact stowagekit_SamePairs.mono _ _ _
      | exact LeO.none _
      | refine LeO.ite ?_ ?_
      | refine LeO.bind ?_ (fun _ => ?_)
set_option maxHeartbeats 8000000 in
set_option maxRecDepth 100000 in
theorem stowagelaw24_PercentKnown.calls (k : Nat)  (r : Bool) (w : World) (h : stowagelaw24_PercentKnown.f k  = some r) :
    Calls Tryd.prog 4 #[] w fun e w' => e = .returned (.bool r) ∧ Below w.heap.size w w' := by
  have hu32 := Tryd.underlying32
  have HB := Aside0.mk (Below.refl w.heap.size w)
  have H : ((percent_Decode.f (⟨#[97, 37, 50]⟩ : ByteArray) false).bind fun bt166 => ((percent_Decode.f (⟨#[97, 32, 98]⟩ : ByteArray) true).bind fun bt168 => ((percent_Query.f (⟨#[97, 61, 49, 38, 98, 38, 38, 99, 61, 120, 37, 51, 100, 121, 61]⟩ : ByteArray)).bind fun bt170 => ((percent_Target.f k (⟨#[47, 97, 37, 50, 48, 98, 63, 120, 61, 43]⟩ : ByteArray)).bind fun bt174 => ((percent_Target.f k (⟨#[97]⟩ : ByteArray)).bind fun bt179 => ((some (([(⟨(⟨#[97]⟩ : ByteArray), (⟨#[49]⟩ : ByteArray)⟩ : S32), (⟨(⟨#[97]⟩ : ByteArray), (⟨#[50]⟩ : ByteArray)⟩ : S32)] : List (S32)) : List (S32))).bind fun y184 => ((percent_Find.f k y184 (⟨#[97]⟩ : ByteArray)).bind fun bt187 => ((percent_Find.f k y184 (⟨#[98]⟩ : ByteArray)).bind fun bt189 => ((stowagelaw24_awake.f).bind fun t191 => (if t191 = true then (if bt166.2 = 4 then (if bt168.2 = 4 then ((percent_Encode.f (⟨#[97, 47, 98]⟩ : ByteArray) false).bind fun t192 => (if t192.toList = ([97, 37, 50, 102, 98] : List UInt8) then (if bt170.2 = 0 then ((stowagekit_SamePairs.f k bt170.1 (([(⟨(⟨#[97]⟩ : ByteArray), (⟨#[49]⟩ : ByteArray)⟩ : S32), (⟨(⟨#[98]⟩ : ByteArray), (⟨#[]⟩ : ByteArray)⟩ : S32), (⟨(⟨#[99]⟩ : ByteArray), (⟨#[120, 61, 121, 61]⟩ : ByteArray)⟩ : S32)] : List (S32)))).bind fun t196 => (stowagelaw24_PercentKnown.j0 k bt174.1 bt174.2.1 bt174.2.2 bt179.2.2 bt187.1 bt187.2 bt189.1 bt189.2 t196)) else (stowagelaw24_PercentKnown.j0 k bt174.1 bt174.2.1 bt174.2.2 bt179.2.2 bt187.1 bt187.2 bt189.1 bt189.2 false)) else (stowagelaw24_PercentKnown.j0 k bt174.1 bt174.2.1 bt174.2.2 bt179.2.2 bt187.1 bt187.2 bt189.1 bt189.2 false))) else (stowagelaw24_PercentKnown.j0 k bt174.1 bt174.2.1 bt174.2.2 bt179.2.2 bt187.1 bt187.2 bt189.1 bt189.2 false)) else (stowagelaw24_PercentKnown.j0 k bt174.1 bt174.2.1 bt174.2.2 bt179.2.2 bt187.1 bt187.2 bt189.1 bt189.2 false)) else (stowagelaw24_PercentKnown.j0 k bt174.1 bt174.2.1 bt174.2.2 bt179.2.2 bt187.1 bt187.2 bt189.1 bt189.2 false))))))))))) = some r := h
  clear h
  replace H := Option.bind_eq_some_iff.mp H
  obtain ⟨⟨t166, t167⟩, A10, H⟩ := H
  replace H : ((percent_Decode.f (⟨#[97, 32, 98]⟩ : ByteArray) true).bind fun bt168 => ((percent_Query.f (⟨#[97, 61, 49, 38, 98, 38, 38, 99, 61, 120, 37, 51, 100, 121, 61]⟩ : ByteArray)).bind fun bt170 => ((percent_Target.f k (⟨#[47, 97, 37, 50, 48, 98, 63, 120, 61, 43]⟩ : ByteArray)).bind fun bt174 => ((percent_Target.f k (⟨#[97]⟩ : ByteArray)).bind fun bt179 => ((some (([(⟨(⟨#[97]⟩ : ByteArray), (⟨#[49]⟩ : ByteArray)⟩ : S32), (⟨(⟨#[97]⟩ : ByteArray), (⟨#[50]⟩ : ByteArray)⟩ : S32)] : List (S32)) : List (S32))).bind fun y184 => ((percent_Find.f k y184 (⟨#[97]⟩ : ByteArray)).bind fun bt187 => ((percent_Find.f k y184 (⟨#[98]⟩ : ByteArray)).bind fun bt189 => ((stowagelaw24_awake.f).bind fun t191 => (if t191 = true then (if t167 = 4 then (if bt168.2 = 4 then ((percent_Encode.f (⟨#[97, 47, 98]⟩ : ByteArray) false).bind fun t192 => (if t192.toList = ([97, 37, 50, 102, 98] : List UInt8) then (if bt170.2 = 0 then ((stowagekit_SamePairs.f k bt170.1 (([(⟨(⟨#[97]⟩ : ByteArray), (⟨#[49]⟩ : ByteArray)⟩ : S32), (⟨(⟨#[98]⟩ : ByteArray), (⟨#[]⟩ : ByteArray)⟩ : S32), (⟨(⟨#[99]⟩ : ByteArray), (⟨#[120, 61, 121, 61]⟩ : ByteArray)⟩ : S32)] : List (S32)))).bind fun t196 => (stowagelaw24_PercentKnown.j0 k bt174.1 bt174.2.1 bt174.2.2 bt179.2.2 bt187.1 bt187.2 bt189.1 bt189.2 t196)) else (stowagelaw24_PercentKnown.j0 k bt174.1 bt174.2.1 bt174.2.2 bt179.2.2 bt187.1 bt187.2 bt189.1 bt189.2 false)) else (stowagelaw24_PercentKnown.j0 k bt174.1 bt174.2.1 bt174.2.2 bt179.2.2 bt187.1 bt187.2 bt189.1 bt189.2 false))) else (stowagelaw24_PercentKnown.j0 k bt174.1 bt174.2.1 bt174.2.2 bt179.2.2 bt187.1 bt187.2 bt189.1 bt189.2 false)) else (stowagelaw24_PercentKnown.j0 k bt174.1 bt174.2.1 bt174.2.2 bt179.2.2 bt187.1 bt187.2 bt189.1 bt189.2 false)) else (stowagelaw24_PercentKnown.j0 k bt174.1 bt174.2.1 bt174.2.2 bt179.2.2 bt187.1 bt187.2 bt189.1 bt189.2 false)))))))))) = some r := H
  have A1 := Aside0.mk A10
  clear A10
  replace H := Option.bind_eq_some_iff.mp H
  obtain ⟨⟨t168, t169⟩, A20, H⟩ := H
  replace H : ((percent_Query.f (⟨#[97, 61, 49, 38, 98, 38, 38, 99, 61, 120, 37, 51, 100, 121, 61]⟩ : ByteArray)).bind fun bt170 => ((percent_Target.f k (⟨#[47, 97, 37, 50, 48, 98, 63, 120, 61, 43]⟩ : ByteArray)).bind fun bt174 => ((percent_Target.f k (⟨#[97]⟩ : ByteArray)).bind fun bt179 => ((some (([(⟨(⟨#[97]⟩ : ByteArray), (⟨#[49]⟩ : ByteArray)⟩ : S32), (⟨(⟨#[97]⟩ : ByteArray), (⟨#[50]⟩ : ByteArray)⟩ : S32)] : List (S32)) : List (S32))).bind fun y184 => ((percent_Find.f k y184 (⟨#[97]⟩ : ByteArray)).bind fun bt187 => ((percent_Find.f k y184 (⟨#[98]⟩ : ByteArray)).bind fun bt189 => ((stowagelaw24_awake.f).bind fun t191 => (if t191 = true then (if t167 = 4 then (if t169 = 4 then ((percent_Encode.f (⟨#[97, 47, 98]⟩ : ByteArray) false).bind fun t192 => (if t192.toList = ([97, 37, 50, 102, 98] : List UInt8) then (if bt170.2 = 0 then ((stowagekit_SamePairs.f k bt170.1 (([(⟨(⟨#[97]⟩ : ByteArray), (⟨#[49]⟩ : ByteArray)⟩ : S32), (⟨(⟨#[98]⟩ : ByteArray), (⟨#[]⟩ : ByteArray)⟩ : S32), (⟨(⟨#[99]⟩ : ByteArray), (⟨#[120, 61, 121, 61]⟩ : ByteArray)⟩ : S32)] : List (S32)))).bind fun t196 => (stowagelaw24_PercentKnown.j0 k bt174.1 bt174.2.1 bt174.2.2 bt179.2.2 bt187.1 bt187.2 bt189.1 bt189.2 t196)) else (stowagelaw24_PercentKnown.j0 k bt174.1 bt174.2.1 bt174.2.2 bt179.2.2 bt187.1 bt187.2 bt189.1 bt189.2 false)) else (stowagelaw24_PercentKnown.j0 k bt174.1 bt174.2.1 bt174.2.2 bt179.2.2 bt187.1 bt187.2 bt189.1 bt189.2 false))) else (stowagelaw24_PercentKnown.j0 k bt174.1 bt174.2.1 bt174.2.2 bt179.2.2 bt187.1 bt187.2 bt189.1 bt189.2 false)) else (stowagelaw24_PercentKnown.j0 k bt174.1 bt174.2.1 bt174.2.2 bt179.2.2 bt187.1 bt187.2 bt189.1 bt189.2 false)) else (stowagelaw24_PercentKnown.j0 k bt174.1 bt174.2.1 bt174.2.2 bt179.2.2 bt187.1 bt187.2 bt189.1 bt189.2 false))))))))) = some r := H
  have A2 := Aside0.mk A20
  clear A20
  replace H := Option.bind_eq_some_iff.mp H
  obtain ⟨⟨t170, t171⟩, A30, H⟩ := H
  replace H : ((percent_Target.f k (⟨#[47, 97, 37, 50, 48, 98, 63, 120, 61, 43]⟩ : ByteArray)).bind fun bt174 => ((percent_Target.f k (⟨#[97]⟩ : ByteArray)).bind fun bt179 => ((some (([(⟨(⟨#[97]⟩ : ByteArray), (⟨#[49]⟩ : ByteArray)⟩ : S32), (⟨(⟨#[97]⟩ : ByteArray), (⟨#[50]⟩ : ByteArray)⟩ : S32)] : List (S32)) : List (S32))).bind fun y184 => ((percent_Find.f k y184 (⟨#[97]⟩ : ByteArray)).bind fun bt187 => ((percent_Find.f k y184 (⟨#[98]⟩ : ByteArray)).bind fun bt189 => ((stowagelaw24_awake.f).bind fun t191 => (if t191 = true then (if t167 = 4 then (if t169 = 4 then ((percent_Encode.f (⟨#[97, 47, 98]⟩ : ByteArray) false).bind fun t192 => (if t192.toList = ([97, 37, 50, 102, 98] : List UInt8) then (if t171 = 0 then ((stowagekit_SamePairs.f k t170 (([(⟨(⟨#[97]⟩ : ByteArray), (⟨#[49]⟩ : ByteArray)⟩ : S32), (⟨(⟨#[98]⟩ : ByteArray), (⟨#[]⟩ : ByteArray)⟩ : S32), (⟨(⟨#[99]⟩ : ByteArray), (⟨#[120, 61, 121, 61]⟩ : ByteArray)⟩ : S32)] : List (S32)))).bind fun t196 => (stowagelaw24_PercentKnown.j0 k bt174.1 bt174.2.1 bt174.2.2 bt179.2.2 bt187.1 bt187.2 bt189.1 bt189.2 t196)) else (stowagelaw24_PercentKnown.j0 k bt174.1 bt174.2.1 bt174.2.2 bt179.2.2 bt187.1 bt187.2 bt189.1 bt189.2 false)) else (stowagelaw24_PercentKnown.j0 k bt174.1 bt174.2.1 bt174.2.2 bt179.2.2 bt187.1 bt187.2 bt189.1 bt189.2 false))) else (stowagelaw24_PercentKnown.j0 k bt174.1 bt174.2.1 bt174.2.2 bt179.2.2 bt187.1 bt187.2 bt189.1 bt189.2 false)) else (stowagelaw24_PercentKnown.j0 k bt174.1 bt174.2.1 bt174.2.2 bt179.2.2 bt187.1 bt187.2 bt189.1 bt189.2 false)) else (stowagelaw24_PercentKnown.j0 k bt174.1 bt174.2.1 bt174.2.2 bt179.2.2 bt187.1 bt187.2 bt189.1 bt189.2 false)))))))) = some r := H
  have A3 := Aside0.mk A30
  clear A30
  replace H := Option.bind_eq_some_iff.mp H
  obtain ⟨⟨t174, t175, t176⟩, A40, H⟩ := H
  replace H : ((percent_Target.f k (⟨#[97]⟩ : ByteArray)).bind fun bt179 => ((some (([(⟨(⟨#[97]⟩ : ByteArray), (⟨#[49]⟩ : ByteArray)⟩ : S32), (⟨(⟨#[97]⟩ : ByteArray), (⟨#[50]⟩ : ByteArray)⟩ : S32)] : List (S32)) : List (S32))).bind fun y184 => ((percent_Find.f k y184 (⟨#[97]⟩ : ByteArray)).bind fun bt187 => ((percent_Find.f k y184 (⟨#[98]⟩ : ByteArray)).bind fun bt189 => ((stowagelaw24_awake.f).bind fun t191 => (if t191 = true then (if t167 = 4 then (if t169 = 4 then ((percent_Encode.f (⟨#[97, 47, 98]⟩ : ByteArray) false).bind fun t192 => (if t192.toList = ([97, 37, 50, 102, 98] : List UInt8) then (if t171 = 0 then ((stowagekit_SamePairs.f k t170 (([(⟨(⟨#[97]⟩ : ByteArray), (⟨#[49]⟩ : ByteArray)⟩ : S32), (⟨(⟨#[98]⟩ : ByteArray), (⟨#[]⟩ : ByteArray)⟩ : S32), (⟨(⟨#[99]⟩ : ByteArray), (⟨#[120, 61, 121, 61]⟩ : ByteArray)⟩ : S32)] : List (S32)))).bind fun t196 => (stowagelaw24_PercentKnown.j0 k t174 t175 t176 bt179.2.2 bt187.1 bt187.2 bt189.1 bt189.2 t196)) else (stowagelaw24_PercentKnown.j0 k t174 t175 t176 bt179.2.2 bt187.1 bt187.2 bt189.1 bt189.2 false)) else (stowagelaw24_PercentKnown.j0 k t174 t175 t176 bt179.2.2 bt187.1 bt187.2 bt189.1 bt189.2 false))) else (stowagelaw24_PercentKnown.j0 k t174 t175 t176 bt179.2.2 bt187.1 bt187.2 bt189.1 bt189.2 false)) else (stowagelaw24_PercentKnown.j0 k t174 t175 t176 bt179.2.2 bt187.1 bt187.2 bt189.1 bt189.2 false)) else (stowagelaw24_PercentKnown.j0 k t174 t175 t176 bt179.2.2 bt187.1 bt187.2 bt189.1 bt189.2 false))))))) = some r := H
  have A4 := Aside0.mk A40
  clear A40
  replace H := Option.bind_eq_some_iff.mp H
  obtain ⟨⟨t179, t180, t181⟩, A50, H⟩ := H
  replace H : ((some (([(⟨(⟨#[97]⟩ : ByteArray), (⟨#[49]⟩ : ByteArray)⟩ : S32), (⟨(⟨#[97]⟩ : ByteArray), (⟨#[50]⟩ : ByteArray)⟩ : S32)] : List (S32)) : List (S32))).bind fun y184 => ((percent_Find.f k y184 (⟨#[97]⟩ : ByteArray)).bind fun bt187 => ((percent_Find.f k y184 (⟨#[98]⟩ : ByteArray)).bind fun bt189 => ((stowagelaw24_awake.f).bind fun t191 => (if t191 = true then (if t167 = 4 then (if t169 = 4 then ((percent_Encode.f (⟨#[97, 47, 98]⟩ : ByteArray) false).bind fun t192 => (if t192.toList = ([97, 37, 50, 102, 98] : List UInt8) then (if t171 = 0 then ((stowagekit_SamePairs.f k t170 (([(⟨(⟨#[97]⟩ : ByteArray), (⟨#[49]⟩ : ByteArray)⟩ : S32), (⟨(⟨#[98]⟩ : ByteArray), (⟨#[]⟩ : ByteArray)⟩ : S32), (⟨(⟨#[99]⟩ : ByteArray), (⟨#[120, 61, 121, 61]⟩ : ByteArray)⟩ : S32)] : List (S32)))).bind fun t196 => (stowagelaw24_PercentKnown.j0 k t174 t175 t176 t181 bt187.1 bt187.2 bt189.1 bt189.2 t196)) else (stowagelaw24_PercentKnown.j0 k t174 t175 t176 t181 bt187.1 bt187.2 bt189.1 bt189.2 false)) else (stowagelaw24_PercentKnown.j0 k t174 t175 t176 t181 bt187.1 bt187.2 bt189.1 bt189.2 false))) else (stowagelaw24_PercentKnown.j0 k t174 t175 t176 t181 bt187.1 bt187.2 bt189.1 bt189.2 false)) else (stowagelaw24_PercentKnown.j0 k t174 t175 t176 t181 bt187.1 bt187.2 bt189.1 bt189.2 false)) else (stowagelaw24_PercentKnown.j0 k t174 t175 t176 t181 bt187.1 bt187.2 bt189.1 bt189.2 false)))))) = some r := H
  have A5 := Aside0.mk A50
  clear A50
  obtain ⟨y184, hy184⟩ : ∃ y_ : List (S32), y_ = (([(⟨(⟨#[97]⟩ : ByteArray), (⟨#[49]⟩ : ByteArray)⟩ : S32), (⟨(⟨#[97]⟩ : ByteArray), (⟨#[50]⟩ : ByteArray)⟩ : S32)] : List (S32))) := ⟨_, rfl⟩
  replace H : ((percent_Find.f k y184 (⟨#[97]⟩ : ByteArray)).bind fun bt187 => ((percent_Find.f k y184 (⟨#[98]⟩ : ByteArray)).bind fun bt189 => ((stowagelaw24_awake.f).bind fun t191 => (if t191 = true then (if t167 = 4 then (if t169 = 4 then ((percent_Encode.f (⟨#[97, 47, 98]⟩ : ByteArray) false).bind fun t192 => (if t192.toList = ([97, 37, 50, 102, 98] : List UInt8) then (if t171 = 0 then ((stowagekit_SamePairs.f k t170 (([(⟨(⟨#[97]⟩ : ByteArray), (⟨#[49]⟩ : ByteArray)⟩ : S32), (⟨(⟨#[98]⟩ : ByteArray), (⟨#[]⟩ : ByteArray)⟩ : S32), (⟨(⟨#[99]⟩ : ByteArray), (⟨#[120, 61, 121, 61]⟩ : ByteArray)⟩ : S32)] : List (S32)))).bind fun t196 => (stowagelaw24_PercentKnown.j0 k t174 t175 t176 t181 bt187.1 bt187.2 bt189.1 bt189.2 t196)) else (stowagelaw24_PercentKnown.j0 k t174 t175 t176 t181 bt187.1 bt187.2 bt189.1 bt189.2 false)) else (stowagelaw24_PercentKnown.j0 k t174 t175 t176 t181 bt187.1 bt187.2 bt189.1 bt189.2 false))) else (stowagelaw24_PercentKnown.j0 k t174 t175 t176 t181 bt187.1 bt187.2 bt189.1 bt189.2 false)) else (stowagelaw24_PercentKnown.j0 k t174 t175 t176 t181 bt187.1 bt187.2 bt189.1 bt189.2 false)) else (stowagelaw24_PercentKnown.j0 k t174 t175 t176 t181 bt187.1 bt187.2 bt189.1 bt189.2 false))))) = some r := by first | (rw [hy184]; with_reducible exact H) | (have H2_ := (Option.bind_some _ _).symm.trans H; rw [hy184]; with_reducible exact H2_) | (have H2_ := (Option.bind_some _ _).symm.trans H; with_reducible exact H2_) | with_reducible exact H | (rw [hy184]; exact H) | exact H
  have Ny184 := Aside0.mk hy184
  clear hy184
  replace H := Option.bind_eq_some_iff.mp H
  obtain ⟨⟨t187, t188⟩, A60, H⟩ := H
  replace H : ((percent_Find.f k y184 (⟨#[98]⟩ : ByteArray)).bind fun bt189 => ((stowagelaw24_awake.f).bind fun t191 => (if t191 = true then (if t167 = 4 then (if t169 = 4 then ((percent_Encode.f (⟨#[97, 47, 98]⟩ : ByteArray) false).bind fun t192 => (if t192.toList = ([97, 37, 50, 102, 98] : List UInt8) then (if t171 = 0 then ((stowagekit_SamePairs.f k t170 (([(⟨(⟨#[97]⟩ : ByteArray), (⟨#[49]⟩ : ByteArray)⟩ : S32), (⟨(⟨#[98]⟩ : ByteArray), (⟨#[]⟩ : ByteArray)⟩ : S32), (⟨(⟨#[99]⟩ : ByteArray), (⟨#[120, 61, 121, 61]⟩ : ByteArray)⟩ : S32)] : List (S32)))).bind fun t196 => (stowagelaw24_PercentKnown.j0 k t174 t175 t176 t181 t187 t188 bt189.1 bt189.2 t196)) else (stowagelaw24_PercentKnown.j0 k t174 t175 t176 t181 t187 t188 bt189.1 bt189.2 false)) else (stowagelaw24_PercentKnown.j0 k t174 t175 t176 t181 t187 t188 bt189.1 bt189.2 false))) else (stowagelaw24_PercentKnown.j0 k t174 t175 t176 t181 t187 t188 bt189.1 bt189.2 false)) else (stowagelaw24_PercentKnown.j0 k t174 t175 t176 t181 t187 t188 bt189.1 bt189.2 false)) else (stowagelaw24_PercentKnown.j0 k t174 t175 t176 t181 t187 t188 bt189.1 bt189.2 false)))) = some r := H
  have A6 := Aside0.mk A60
  clear A60
  replace H := Option.bind_eq_some_iff.mp H
  obtain ⟨⟨t189, t190⟩, A70, H⟩ := H
  replace H : ((stowagelaw24_awake.f).bind fun t191 => (if t191 = true then (if t167 = 4 then (if t169 = 4 then ((percent_Encode.f (⟨#[97, 47, 98]⟩ : ByteArray) false).bind fun t192 => (if t192.toList = ([97, 37, 50, 102, 98] : List UInt8) then (if t171 = 0 then ((stowagekit_SamePairs.f k t170 (([(⟨(⟨#[97]⟩ : ByteArray), (⟨#[49]⟩ : ByteArray)⟩ : S32), (⟨(⟨#[98]⟩ : ByteArray), (⟨#[]⟩ : ByteArray)⟩ : S32), (⟨(⟨#[99]⟩ : ByteArray), (⟨#[120, 61, 121, 61]⟩ : ByteArray)⟩ : S32)] : List (S32)))).bind fun t196 => (stowagelaw24_PercentKnown.j0 k t174 t175 t176 t181 t187 t188 t189 t190 t196)) else (stowagelaw24_PercentKnown.j0 k t174 t175 t176 t181 t187 t188 t189 t190 false)) else (stowagelaw24_PercentKnown.j0 k t174 t175 t176 t181 t187 t188 t189 t190 false))) else (stowagelaw24_PercentKnown.j0 k t174 t175 t176 t181 t187 t188 t189 t190 false)) else (stowagelaw24_PercentKnown.j0 k t174 t175 t176 t181 t187 t188 t189 t190 false)) else (stowagelaw24_PercentKnown.j0 k t174 t175 t176 t181 t187 t188 t189 t190 false))) = some r := H
  have A7 := Aside0.mk A70
  clear A70
  have HC8 := Aside0.mk H
  clear H
  go_enter Tryd.func4, Tryd.ntmps4
  go_upto_region 9 with (first | ((with_reducible refine gate_callee (f := 15) rfl ?_); refine goesL_ (some 20) rfl rfl Tryd.func15 (by kernel_rfl) rfl #[.string (⟨#[97, 37, 50]⟩ : ByteArray), .bool false] rfl (by (try simp only [List.map_toArray, List.map_cons, List.map_nil]); first | done | rfl | (simp only [List.length_drop, List.length_take]; rfl)) ?_; (with_reducible refine (percent_Decode.calls (⟨#[97, 37, 50]⟩ : ByteArray) false t166 t167 _ A1.out).mono ?_); rintro e w9 ⟨rfl, hb⟩; refine ⟨_, rfl, ?_⟩; have n0_ := Aside0.mk (below_step (by repeat (first | (with_reducible first | exact HB.out | apply below_alloc | apply pw_below_drewN | apply below_drew1) | exact HB.out)) hb); clear HB; have HB := n0_; clear n0_; (try clear hb); (try clear hb2); (try clear hk); (try clear hi)) | ((with_reducible refine gate_callee (f := 15) rfl ?_); refine goesL_ (some 24) rfl rfl Tryd.func15 (by kernel_rfl) rfl #[.string (⟨#[97, 32, 98]⟩ : ByteArray), .bool true] rfl (by (try simp only [List.map_toArray, List.map_cons, List.map_nil]); first | done | rfl | (simp only [List.length_drop, List.length_take]; rfl)) ?_; (with_reducible refine (percent_Decode.calls (⟨#[97, 32, 98]⟩ : ByteArray) true t168 t169 _ A2.out).mono ?_); rintro e w10 ⟨rfl, hb⟩; refine ⟨_, rfl, ?_⟩; have n0_ := Aside0.mk (below_step (by repeat (first | (with_reducible first | exact HB.out | apply below_alloc | apply pw_below_drewN | apply below_drew1) | exact HB.out)) hb); clear HB; have HB := n0_; clear n0_; (try clear hb); (try clear hb2); (try clear hk); (try clear hi)) | ((with_reducible refine gate_callee (f := 7) rfl ?_); refine goesL_ (some 28) rfl rfl Tryd.func7 (by kernel_rfl) rfl #[.string (⟨#[97, 61, 49, 38, 98, 38, 38, 99, 61, 120, 37, 51, 100, 121, 61]⟩ : ByteArray)] rfl (by (try simp only [List.map_toArray, List.map_cons, List.map_nil]); first | done | rfl | (simp only [List.length_drop, List.length_take]; rfl)) ?_; (with_reducible refine (percent_Query.calls (⟨#[97, 61, 49, 38, 98, 38, 38, 99, 61, 120, 37, 51, 100, 121, 61]⟩ : ByteArray) t170 t171 _ A3.out).mono ?_); rintro e w11 ⟨v172, rfl, ho0, hb⟩; refine ⟨_, rfl, ?_⟩; have n0_ := Aside0.mk (Kd.R_lower ho0 (below_size (by repeat (first | (with_reducible first | exact HB.out | apply below_alloc | apply pw_below_drewN | apply below_drew1) | exact HB.out)))); have n1_ := Aside0.mk (below_step (by repeat (first | (with_reducible first | exact HB.out | apply below_alloc | apply pw_below_drewN | apply below_drew1) | exact HB.out)) hb); clear HB; have HO173 := n0_; have HB := n1_; clear n0_ n1_; (try clear hb); (try clear hb2); (try clear hk); (try clear hi); (try clear ho0)) | ((with_reducible refine gate_callee (f := 9) rfl ?_); refine goesL_ (some 32) rfl rfl Tryd.func9 (by kernel_rfl) rfl #[.string (⟨#[47, 97, 37, 50, 48, 98, 63, 120, 61, 43]⟩ : ByteArray)] rfl (by (try simp only [List.map_toArray, List.map_cons, List.map_nil]); first | done | rfl | (simp only [List.length_drop, List.length_take]; rfl)) ?_; (with_reducible refine (percent_Target.calls k (⟨#[47, 97, 37, 50, 48, 98, 63, 120, 61, 43]⟩ : ByteArray) t174 t175 t176 _ A4.out).mono ?_); rintro e w12 ⟨v177, rfl, ho0, hb⟩; refine ⟨_, rfl, ?_⟩; have n0_ := Aside0.mk (Kd.R_elder' (by (with_reducible repeat (first | apply Kd.R_alloc | apply Kd.R_drewN | apply Kd.R_drew)); exact HO173.out) (Kd.R_base ho0) hb); have n1_ := Aside0.mk (Kd.R_lower (Kd.R_new' ho0 (Kd.R_lt (by (with_reducible repeat (first | apply Kd.R_alloc | apply Kd.R_drewN | apply Kd.R_drew)); exact HO173.out))) (below_size (by repeat (first | (with_reducible first | exact HB.out | apply below_alloc | apply pw_below_drewN | apply below_drew1) | exact HB.out)))); have n2_ := Aside0.mk (below_step (by repeat (first | (with_reducible first | exact HB.out | apply below_alloc | apply pw_below_drewN | apply below_drew1) | exact HB.out)) hb); clear HO173; clear HB; have HO173 := n0_; have HO178 := n1_; have HB := n2_; clear n0_ n1_ n2_; (try clear hb); (try clear hb2); (try clear hk); (try clear hi); (try clear ho0)) | ((with_reducible refine gate_callee (f := 9) rfl ?_); refine goesL_ (some 37) rfl rfl Tryd.func9 (by kernel_rfl) rfl #[.string (⟨#[97]⟩ : ByteArray)] rfl (by (try simp only [List.map_toArray, List.map_cons, List.map_nil]); first | done | rfl | (simp only [List.length_drop, List.length_take]; rfl)) ?_; (with_reducible refine (percent_Target.calls k (⟨#[97]⟩ : ByteArray) t179 t180 t181 _ A5.out).mono ?_); rintro e w13 ⟨v182, rfl, ho0, hb⟩; refine ⟨_, rfl, ?_⟩; have n0_ := Aside0.mk (Kd.R_elder' (by (with_reducible repeat (first | apply Kd.R_alloc | apply Kd.R_drewN | apply Kd.R_drew)); exact HO173.out) (Kd.R_base ho0) hb); have n1_ := Aside0.mk (Kd.R_elder' (by (with_reducible repeat (first | apply Kd.R_alloc | apply Kd.R_drewN | apply Kd.R_drew)); exact HO178.out) (Kd.R_base ho0) hb); have n2_ := Aside0.mk (Kd.R_lower (Kd.R_new' (Kd.R_new' ho0 (Kd.R_lt (by (with_reducible repeat (first | apply Kd.R_alloc | apply Kd.R_drewN | apply Kd.R_drew)); exact HO173.out))) (Kd.R_lt (by (with_reducible repeat (first | apply Kd.R_alloc | apply Kd.R_drewN | apply Kd.R_drew)); exact HO178.out))) (below_size (by repeat (first | (with_reducible first | exact HB.out | apply below_alloc | apply pw_below_drewN | apply below_drew1) | exact HB.out)))); have n3_ := Aside0.mk (below_step (by repeat (first | (with_reducible first | exact HB.out | apply below_alloc | apply pw_below_drewN | apply below_drew1) | exact HB.out)) hb); clear HO173; clear HO178; clear HB; have HO173 := n0_; have HO178 := n1_; have HO183 := n2_; have HB := n3_; clear n0_ n1_ n2_ n3_; (try clear hb); (try clear hb2); (try clear hk); (try clear hi); (try clear ho0)) | ((with_reducible refine gate_dst (N := 43) rfl ?_); (try (refine gate_guard (by rfl) ?_; dsimp only)); refine Kd.R_lit k32 _ 32 ?hg (N := 43) ?hd (xs := ([(⟨(⟨#[97]⟩ : ByteArray), (⟨#[49]⟩ : ByteArray)⟩ : S32), (⟨(⟨#[97]⟩ : ByteArray), (⟨#[50]⟩ : ByteArray)⟩ : S32)] : List (S32))) (inner := [.string (⟨#[97]⟩ : ByteArray), .string (⟨#[49]⟩ : ByteArray), .string (⟨#[97]⟩ : ByteArray), .string (⟨#[50]⟩ : ByteArray)]) (ok := fun _ => True) (okp := fun _ => True) ?hr ?hp (fun _ hk => hk) trivial (Below.refl _ _) (Nat.le_refl _) (by simp) ?_; (case hd => rfl); (case hg => rfl); (case hr => first | (go_simp; done) | (go_simp; rfl)); (case hp => exact (Reps.c2 (show Kd.M k32 _ _ _ (⟨(⟨#[97]⟩ : ByteArray), (⟨#[49]⟩ : ByteArray)⟩ : S32) [.string (⟨#[97]⟩ : ByteArray), .string (⟨#[49]⟩ : ByteArray)] from (k32_mkM _ _ _ (⟨(⟨#[97]⟩ : ByteArray), (⟨#[49]⟩ : ByteArray)⟩ : S32) )) (Reps.c2 (show Kd.M k32 _ _ _ (⟨(⟨#[97]⟩ : ByteArray), (⟨#[50]⟩ : ByteArray)⟩ : S32) [.string (⟨#[97]⟩ : ByteArray), .string (⟨#[50]⟩ : ByteArray)] from (k32_mkM _ _ _ (⟨(⟨#[97]⟩ : ByteArray), (⟨#[50]⟩ : ByteArray)⟩ : S32) )) (Reps.none _ _)))); intro v185 w14 ho15 hb hg_ hnew_; clear hg_ hnew_; (first | rw [← Ny184.out] at ho15 | (simp only [Int.reduceToNat] at ho15; rw [← Ny184.out] at ho15)); have n0_ := Aside0.mk (Kd.R_elder' (by (with_reducible repeat (first | apply Kd.R_alloc | apply Kd.R_drewN | apply Kd.R_drew)); exact HO173.out) (Kd.R_base ho15) hb); have n1_ := Aside0.mk (Kd.R_elder' (by (with_reducible repeat (first | apply Kd.R_alloc | apply Kd.R_drewN | apply Kd.R_drew)); exact HO178.out) (Kd.R_base ho15) hb); have n2_ := Aside0.mk (Kd.R_elder' (by (with_reducible repeat (first | apply Kd.R_alloc | apply Kd.R_drewN | apply Kd.R_drew)); exact HO183.out) (Kd.R_base ho15) hb); have n3_ := Aside0.mk (Kd.R_lower (Kd.R_new' (Kd.R_new' (Kd.R_new' ho15 (Kd.R_lt (by (with_reducible repeat (first | apply Kd.R_alloc | apply Kd.R_drewN | apply Kd.R_drew)); exact HO173.out))) (Kd.R_lt (by (with_reducible repeat (first | apply Kd.R_alloc | apply Kd.R_drewN | apply Kd.R_drew)); exact HO178.out))) (Kd.R_lt (by (with_reducible repeat (first | apply Kd.R_alloc | apply Kd.R_drewN | apply Kd.R_drew)); exact HO183.out))) (below_size (by repeat (first | (with_reducible first | exact HB.out | apply below_alloc | apply pw_below_drewN | apply below_drew1) | exact HB.out)))); have n4_ := Aside0.mk (below_step (by repeat (first | (with_reducible first | exact HB.out | apply below_alloc | apply pw_below_drewN | apply below_drew1) | exact HB.out)) hb); clear HO173; clear HO178; clear HO183; clear HB; have HO173 := n0_; have HO178 := n1_; have HO183 := n2_; have HO186 := n3_; have HB := n4_; clear n0_ n1_ n2_ n3_ n4_; clear hb ho15; obtain ⟨Ao16, co16, eo16⟩ := Kd.R_slice HO186.out; subst eo16) | ((with_reducible refine gate_callee (f := 11) rfl ?_); refine goesL_ (some 46) rfl rfl Tryd.func11 (by kernel_rfl) rfl #[.slice Ao16 y184.length co16, .string (⟨#[97]⟩ : ByteArray)] rfl (by (try simp only [List.map_toArray, List.map_cons, List.map_nil]); first | done | rfl | (simp only [List.length_drop, List.length_take]; rfl)) ?_; (with_reducible refine (percent_Find.calls k _ _ y184 (⟨#[97]⟩ : ByteArray) t187 t188 _ ?side1 ?side2 A6.out).mono ?_); (case side1 => repeat (first | exact (Kd.R_reads' HO186.out).2.2 | (with_reducible refine Kd.C_alloc ?_ _) | (with_reducible refine Kd.C_drewN ?_ _) | (with_reducible refine Kd.C_drew ?_))); (case side2 => exact (Kd.R_reads' HO186.out).2.1); rintro e w17 ⟨rfl, hb⟩; refine ⟨_, rfl, ?_⟩; have n0_ := Aside0.mk (Kd.R_below (by (with_reducible repeat (first | apply Kd.R_alloc | apply Kd.R_drewN | apply Kd.R_drew)); exact HO173.out) hb); have n1_ := Aside0.mk (Kd.R_below (by (with_reducible repeat (first | apply Kd.R_alloc | apply Kd.R_drewN | apply Kd.R_drew)); exact HO178.out) hb); have n2_ := Aside0.mk (Kd.R_below (by (with_reducible repeat (first | apply Kd.R_alloc | apply Kd.R_drewN | apply Kd.R_drew)); exact HO183.out) hb); have n3_ := Aside0.mk (Kd.R_below (by (with_reducible repeat (first | apply Kd.R_alloc | apply Kd.R_drewN | apply Kd.R_drew)); exact HO186.out) hb); have n4_ := Aside0.mk (below_step (by repeat (first | (with_reducible first | exact HB.out | apply below_alloc | apply pw_below_drewN | apply below_drew1) | exact HB.out)) hb); clear HO173; clear HO178; clear HO183; clear HO186; clear HB; have HO173 := n0_; have HO178 := n1_; have HO183 := n2_; have HO186 := n3_; have HB := n4_; clear n0_ n1_ n2_ n3_ n4_; (try clear hb); (try clear hb2); (try clear hk); (try clear hi)) | ((with_reducible refine gate_callee (f := 11) rfl ?_); refine goesL_ (some 51) rfl rfl Tryd.func11 (by kernel_rfl) rfl #[.slice Ao16 y184.length co16, .string (⟨#[98]⟩ : ByteArray)] rfl (by (try simp only [List.map_toArray, List.map_cons, List.map_nil]); first | done | rfl | (simp only [List.length_drop, List.length_take]; rfl)) ?_; (with_reducible refine (percent_Find.calls k _ _ y184 (⟨#[98]⟩ : ByteArray) t189 t190 _ ?side1 ?side2 A7.out).mono ?_); (case side1 => repeat (first | exact (Kd.R_reads' HO186.out).2.2 | (with_reducible refine Kd.C_alloc ?_ _) | (with_reducible refine Kd.C_drewN ?_ _) | (with_reducible refine Kd.C_drew ?_))); (case side2 => exact (Kd.R_reads' HO186.out).2.1); rintro e w18 ⟨rfl, hb⟩; refine ⟨_, rfl, ?_⟩; have n0_ := Aside0.mk (Kd.R_below (by (with_reducible repeat (first | apply Kd.R_alloc | apply Kd.R_drewN | apply Kd.R_drew)); exact HO173.out) hb); have n1_ := Aside0.mk (Kd.R_below (by (with_reducible repeat (first | apply Kd.R_alloc | apply Kd.R_drewN | apply Kd.R_drew)); exact HO178.out) hb); have n2_ := Aside0.mk (Kd.R_below (by (with_reducible repeat (first | apply Kd.R_alloc | apply Kd.R_drewN | apply Kd.R_drew)); exact HO183.out) hb); have n3_ := Aside0.mk (Kd.R_below (by (with_reducible repeat (first | apply Kd.R_alloc | apply Kd.R_drewN | apply Kd.R_drew)); exact HO186.out) hb); have n4_ := Aside0.mk (below_step (by repeat (first | (with_reducible first | exact HB.out | apply below_alloc | apply pw_below_drewN | apply below_drew1) | exact HB.out)) hb); clear HO173; clear HO178; clear HO183; clear HO186; clear HB; have HO173 := n0_; have HO178 := n1_; have HO183 := n2_; have HO186 := n3_; have HB := n4_; clear n0_ n1_ n2_ n3_ n4_; (try clear hb); (try clear hb2); (try clear hk); (try clear hi)))
  (try simp only [Act.put, List.setIfInBounds_toArray, List.set_cons_zero, List.set_cons_succ])
  go_cut [18] (fun v18 wc => ∃ (kq : Nat) (x18_7 : Bool), v18 = .bool x18_7 ∧ Aside0 (stowagelaw24_PercentKnown.j0 kq t174 t175 t176 t181 t187 t188 t189 t190 x18_7 = some r) ∧ Aside0 (kq ≤ k) ∧ Aside0 (Kd.R k32 32 wc w.heap.size (fun _ => True) v177 t175) ∧ Aside0 (Below w.heap.size w wc))
  case first =>
    have H := HC8.out
    clear HC8
    replace H := Option.bind_eq_some_iff.mp H
    obtain ⟨t191, A190, H⟩ := H
    replace H : (if t191 = true then (if t167 = 4 then (if t169 = 4 then ((percent_Encode.f (⟨#[97, 47, 98]⟩ : ByteArray) false).bind fun t192 => (if t192.toList = ([97, 37, 50, 102, 98] : List UInt8) then (if t171 = 0 then ((stowagekit_SamePairs.f k t170 (([(⟨(⟨#[97]⟩ : ByteArray), (⟨#[49]⟩ : ByteArray)⟩ : S32), (⟨(⟨#[98]⟩ : ByteArray), (⟨#[]⟩ : ByteArray)⟩ : S32), (⟨(⟨#[99]⟩ : ByteArray), (⟨#[120, 61, 121, 61]⟩ : ByteArray)⟩ : S32)] : List (S32)))).bind fun t196 => (stowagelaw24_PercentKnown.j0 k t174 t175 t176 t181 t187 t188 t189 t190 t196)) else (stowagelaw24_PercentKnown.j0 k t174 t175 t176 t181 t187 t188 t189 t190 false)) else (stowagelaw24_PercentKnown.j0 k t174 t175 t176 t181 t187 t188 t189 t190 false))) else (stowagelaw24_PercentKnown.j0 k t174 t175 t176 t181 t187 t188 t189 t190 false)) else (stowagelaw24_PercentKnown.j0 k t174 t175 t176 t181 t187 t188 t189 t190 false)) else (stowagelaw24_PercentKnown.j0 k t174 t175 t176 t181 t187 t188 t189 t190 false)) = some r := H
    have A19 := Aside0.mk A190
    clear A190
    by_cases c20 : t191 = true
    · subst c20
      have H1 : (if t167 = 4 then (if t169 = 4 then ((percent_Encode.f (⟨#[97, 47, 98]⟩ : ByteArray) false).bind fun t192 => (if t192.toList = ([97, 37, 50, 102, 98] : List UInt8) then (if t171 = 0 then ((stowagekit_SamePairs.f k t170 (([(⟨(⟨#[97]⟩ : ByteArray), (⟨#[49]⟩ : ByteArray)⟩ : S32), (⟨(⟨#[98]⟩ : ByteArray), (⟨#[]⟩ : ByteArray)⟩ : S32), (⟨(⟨#[99]⟩ : ByteArray), (⟨#[120, 61, 121, 61]⟩ : ByteArray)⟩ : S32)] : List (S32)))).bind fun t196 => (stowagelaw24_PercentKnown.j0 k t174 t175 t176 t181 t187 t188 t189 t190 t196)) else (stowagelaw24_PercentKnown.j0 k t174 t175 t176 t181 t187 t188 t189 t190 false)) else (stowagelaw24_PercentKnown.j0 k t174 t175 t176 t181 t187 t188 t189 t190 false))) else (stowagelaw24_PercentKnown.j0 k t174 t175 t176 t181 t187 t188 t189 t190 false)) else (stowagelaw24_PercentKnown.j0 k t174 t175 t176 t181 t187 t188 t189 t190 false)) = some r := by rw [if_pos rfl] at H; exact H
      clear H
      have H := H1
      clear H1
      by_cases c21 : t167 = 4
      · rw [if_pos c21] at H
        have c21b0 : (t167 == 4) = true := beq_iff_eq.mpr c21
        have c21b1 : (t167 != 4) = false := bne_eq_false_iff_eq.mpr c21
        clear c21
        (first | rw [c21b0] | (simp only [i64_w, i32_w]; rw [c21b0]) | skip)
        by_cases c22 : t169 = 4
        · rw [if_pos c22] at H
          have c22b0 : (t169 == 4) = true := beq_iff_eq.mpr c22
          have c22b1 : (t169 != 4) = false := bne_eq_false_iff_eq.mpr c22
          clear c22
          replace H := Option.bind_eq_some_iff.mp H
          obtain ⟨t192, A230, H⟩ := H
          replace H : (if t192.toList = ([97, 37, 50, 102, 98] : List UInt8) then (if t171 = 0 then ((stowagekit_SamePairs.f k t170 (([(⟨(⟨#[97]⟩ : ByteArray), (⟨#[49]⟩ : ByteArray)⟩ : S32), (⟨(⟨#[98]⟩ : ByteArray), (⟨#[]⟩ : ByteArray)⟩ : S32), (⟨(⟨#[99]⟩ : ByteArray), (⟨#[120, 61, 121, 61]⟩ : ByteArray)⟩ : S32)] : List (S32)))).bind fun t196 => (stowagelaw24_PercentKnown.j0 k t174 t175 t176 t181 t187 t188 t189 t190 t196)) else (stowagelaw24_PercentKnown.j0 k t174 t175 t176 t181 t187 t188 t189 t190 false)) else (stowagelaw24_PercentKnown.j0 k t174 t175 t176 t181 t187 t188 t189 t190 false)) = some r := H
          have A23 := Aside0.mk A230
          clear A230
          by_cases c24 : t192.toList = ([97, 37, 50, 102, 98] : List UInt8)
          · rw [if_pos c24] at H
            have c24b0 : (t192.toList == ([97, 37, 50, 102, 98] : List UInt8)) = true := beq_iff_eq.mpr c24
            have c24b1 : (t192.toList != ([97, 37, 50, 102, 98] : List UInt8)) = false := bne_eq_false_iff_eq.mpr c24
            clear c24
            by_cases c25 : t171 = 0
            · rw [if_pos c25] at H
              have c25b0 : (t171 == 0) = true := beq_iff_eq.mpr c25
              have c25b1 : (t171 != 0) = false := bne_eq_false_iff_eq.mpr c25
              clear c25
              obtain ⟨y193, hy193⟩ : ∃ y_ : List (S32), y_ = (([(⟨(⟨#[97]⟩ : ByteArray), (⟨#[49]⟩ : ByteArray)⟩ : S32), (⟨(⟨#[98]⟩ : ByteArray), (⟨#[]⟩ : ByteArray)⟩ : S32), (⟨(⟨#[99]⟩ : ByteArray), (⟨#[120, 61, 121, 61]⟩ : ByteArray)⟩ : S32)] : List (S32))) := ⟨_, rfl⟩
              replace H : ((stowagekit_SamePairs.f k t170 y193).bind fun t196 => (stowagelaw24_PercentKnown.j0 k t174 t175 t176 t181 t187 t188 t189 t190 t196)) = some r := by first | (rw [hy193]; with_reducible exact H) | (have H2_ := (Option.bind_some _ _).symm.trans H; rw [hy193]; with_reducible exact H2_) | (have H2_ := (Option.bind_some _ _).symm.trans H; with_reducible exact H2_) | with_reducible exact H | (rw [hy193]; exact H) | exact H
              have Ny193 := Aside0.mk hy193
              clear hy193
              replace H := Option.bind_eq_some_iff.mp H
              obtain ⟨t196, A260, H⟩ := H
              replace H : (stowagelaw24_PercentKnown.j0 k t174 t175 t176 t181 t187 t188 t189 t190 t196) = some r := H
              have A26 := Aside0.mk A260
              clear A260
              have H' := Aside0.mk H
              clear H
              go_wp2_with (first | ((with_reducible refine gate_callee (f := 14) rfl ?_); refine goesL_ (some 54) rfl rfl Tryd.func14 (by kernel_rfl) rfl #[] rfl (by (try simp only [List.map_toArray, List.map_cons, List.map_nil]); first | done | rfl | (simp only [List.length_drop, List.length_take]; rfl)) ?_; (with_reducible refine (stowagelaw24_awake.calls  true _ A19.out).mono ?_); rintro e w27 ⟨rfl, hb⟩; refine ⟨_, rfl, ?_⟩; have n0_ := Aside0.mk (Kd.R_below (by (with_reducible repeat (first | apply Kd.R_alloc | apply Kd.R_drewN | apply Kd.R_drew)); exact HO173.out) hb); have n1_ := Aside0.mk (Kd.R_below (by (with_reducible repeat (first | apply Kd.R_alloc | apply Kd.R_drewN | apply Kd.R_drew)); exact HO178.out) hb); have n2_ := Aside0.mk (Kd.R_below (by (with_reducible repeat (first | apply Kd.R_alloc | apply Kd.R_drewN | apply Kd.R_drew)); exact HO183.out) hb); have n3_ := Aside0.mk (Kd.R_below (by (with_reducible repeat (first | apply Kd.R_alloc | apply Kd.R_drewN | apply Kd.R_drew)); exact HO186.out) hb); have n4_ := Aside0.mk (below_step (by repeat (first | (with_reducible first | exact HB.out | apply below_alloc | apply pw_below_drewN | apply below_drew1) | exact HB.out)) hb); clear HO173; clear HO178; clear HO183; clear HO186; clear HB; have HO173 := n0_; have HO178 := n1_; have HO183 := n2_; have HO186 := n3_; have HB := n4_; clear n0_ n1_ n2_ n3_ n4_; (try clear hb); (try clear hb2); (try clear hk); (try clear hi)) | (go_at_call 16; (with_reducible refine (percent_Encode.calls (⟨#[97, 47, 98]⟩ : ByteArray) false t192 _ A23.out).mono ?_); rintro e w28 ⟨rfl, hb⟩; have n0_ := Aside0.mk (Kd.R_below (by (with_reducible repeat (first | apply Kd.R_alloc | apply Kd.R_drewN | apply Kd.R_drew)); exact HO173.out) hb); have n1_ := Aside0.mk (Kd.R_below (by (with_reducible repeat (first | apply Kd.R_alloc | apply Kd.R_drewN | apply Kd.R_drew)); exact HO178.out) hb); have n2_ := Aside0.mk (Kd.R_below (by (with_reducible repeat (first | apply Kd.R_alloc | apply Kd.R_drewN | apply Kd.R_drew)); exact HO183.out) hb); have n3_ := Aside0.mk (Kd.R_below (by (with_reducible repeat (first | apply Kd.R_alloc | apply Kd.R_drewN | apply Kd.R_drew)); exact HO186.out) hb); have n4_ := Aside0.mk (below_step (by repeat (first | (with_reducible first | exact HB.out | apply below_alloc | apply pw_below_drewN | apply below_drew1) | exact HB.out)) hb); clear HO173; clear HO178; clear HO183; clear HO186; clear HB; have HO173 := n0_; have HO178 := n1_; have HO183 := n2_; have HO186 := n3_; have HB := n4_; clear n0_ n1_ n2_ n3_ n4_; (try clear hb); (try clear hb2); (try clear hk); (try clear hi)) | ((with_reducible refine gate_dst (N := 76) rfl ?_); (try (refine gate_guard (by rfl) ?_; dsimp only)); refine Kd.R_lit k32 _ 32 ?hg (N := 76) ?hd (xs := ([(⟨(⟨#[97]⟩ : ByteArray), (⟨#[49]⟩ : ByteArray)⟩ : S32), (⟨(⟨#[98]⟩ : ByteArray), (⟨#[]⟩ : ByteArray)⟩ : S32), (⟨(⟨#[99]⟩ : ByteArray), (⟨#[120, 61, 121, 61]⟩ : ByteArray)⟩ : S32)] : List (S32))) (inner := [.string (⟨#[97]⟩ : ByteArray), .string (⟨#[49]⟩ : ByteArray), .string (⟨#[98]⟩ : ByteArray), .string (⟨#[]⟩ : ByteArray), .string (⟨#[99]⟩ : ByteArray), .string (⟨#[120, 61, 121, 61]⟩ : ByteArray)]) (ok := fun _ => True) (okp := fun _ => True) ?hr ?hp (fun _ hk => hk) trivial (Below.refl _ _) (Nat.le_refl _) (by simp) ?_; (case hd => rfl); (case hg => rfl); (case hr => first | (go_simp; done) | (go_simp; rfl)); (case hp => exact (Reps.c2 (show Kd.M k32 _ _ _ (⟨(⟨#[97]⟩ : ByteArray), (⟨#[49]⟩ : ByteArray)⟩ : S32) [.string (⟨#[97]⟩ : ByteArray), .string (⟨#[49]⟩ : ByteArray)] from (k32_mkM _ _ _ (⟨(⟨#[97]⟩ : ByteArray), (⟨#[49]⟩ : ByteArray)⟩ : S32) )) (Reps.c2 (show Kd.M k32 _ _ _ (⟨(⟨#[98]⟩ : ByteArray), (⟨#[]⟩ : ByteArray)⟩ : S32) [.string (⟨#[98]⟩ : ByteArray), .string (⟨#[]⟩ : ByteArray)] from (k32_mkM _ _ _ (⟨(⟨#[98]⟩ : ByteArray), (⟨#[]⟩ : ByteArray)⟩ : S32) )) (Reps.c2 (show Kd.M k32 _ _ _ (⟨(⟨#[99]⟩ : ByteArray), (⟨#[120, 61, 121, 61]⟩ : ByteArray)⟩ : S32) [.string (⟨#[99]⟩ : ByteArray), .string (⟨#[120, 61, 121, 61]⟩ : ByteArray)] from (k32_mkM _ _ _ (⟨(⟨#[99]⟩ : ByteArray), (⟨#[120, 61, 121, 61]⟩ : ByteArray)⟩ : S32) )) (Reps.none _ _))))); intro v194 w29 ho30 hb hg_ hnew_; clear hg_ hnew_; (first | rw [← Ny193.out] at ho30 | (simp only [Int.reduceToNat] at ho30; rw [← Ny193.out] at ho30)); have n0_ := Aside0.mk (Kd.R_elder' (by (with_reducible repeat (first | apply Kd.R_alloc | apply Kd.R_drewN | apply Kd.R_drew)); exact HO173.out) (Kd.R_base ho30) hb); have n1_ := Aside0.mk (Kd.R_elder' (by (with_reducible repeat (first | apply Kd.R_alloc | apply Kd.R_drewN | apply Kd.R_drew)); exact HO178.out) (Kd.R_base ho30) hb); have n2_ := Aside0.mk (Kd.R_elder' (by (with_reducible repeat (first | apply Kd.R_alloc | apply Kd.R_drewN | apply Kd.R_drew)); exact HO183.out) (Kd.R_base ho30) hb); have n3_ := Aside0.mk (Kd.R_elder' (by (with_reducible repeat (first | apply Kd.R_alloc | apply Kd.R_drewN | apply Kd.R_drew)); exact HO186.out) (Kd.R_base ho30) hb); have n4_ := Aside0.mk (Kd.R_lower (Kd.R_new' (Kd.R_new' (Kd.R_new' (Kd.R_new' ho30 (Kd.R_lt (by (with_reducible repeat (first | apply Kd.R_alloc | apply Kd.R_drewN | apply Kd.R_drew)); exact HO173.out))) (Kd.R_lt (by (with_reducible repeat (first | apply Kd.R_alloc | apply Kd.R_drewN | apply Kd.R_drew)); exact HO178.out))) (Kd.R_lt (by (with_reducible repeat (first | apply Kd.R_alloc | apply Kd.R_drewN | apply Kd.R_drew)); exact HO183.out))) (Kd.R_lt (by (with_reducible repeat (first | apply Kd.R_alloc | apply Kd.R_drewN | apply Kd.R_drew)); exact HO186.out))) (below_size (by repeat (first | (with_reducible first | exact HB.out | apply below_alloc | apply pw_below_drewN | apply below_drew1) | exact HB.out)))); have n5_ := Aside0.mk (below_step (by repeat (first | (with_reducible first | exact HB.out | apply below_alloc | apply pw_below_drewN | apply below_drew1) | exact HB.out)) hb); clear HO173; clear HO178; clear HO183; clear HO186; clear HB; have HO173 := n0_; have HO178 := n1_; have HO183 := n2_; have HO186 := n3_; have HO195 := n4_; have HB := n5_; clear n0_ n1_ n2_ n3_ n4_ n5_; clear hb ho30; obtain ⟨Ao31, co31, eo31⟩ := Kd.R_slice HO173.out; subst eo31; obtain ⟨Ao32, co32, eo32⟩ := Kd.R_slice HO195.out; subst eo32) | (go_at_call 13; (with_reducible refine (stowagekit_SamePairs.calls k _ _ t170 _ _ y193 t196 _ ?side1 ?side2 ?side3 ?side4 A26.out).mono ?_); (case side1 => repeat (first | exact (Kd.R_reads' HO173.out).2.2 | (with_reducible refine Kd.C_alloc ?_ _) | (with_reducible refine Kd.C_drewN ?_ _) | (with_reducible refine Kd.C_drew ?_))); (case side2 => exact (Kd.R_reads' HO173.out).2.1); (case side3 => repeat (first | exact (Kd.R_reads' HO195.out).2.2 | (with_reducible refine Kd.C_alloc ?_ _) | (with_reducible refine Kd.C_drewN ?_ _) | (with_reducible refine Kd.C_drew ?_))); (case side4 => exact (Kd.R_reads' HO195.out).2.1); rintro e w' ⟨rfl, ⟨nd, rfl⟩⟩))
              go_meet
              case rel => exact ⟨_, (t196), (by first | rfl | (simp; done) | (simp [*]; done)), H', ⟨by first | omega | exact Nat.le_refl _⟩, ⟨by (with_reducible repeat (first | apply Kd.R_alloc | apply Kd.R_drewN | apply Kd.R_drew)); exact Kd.R_mono HO178.out (fun _ hk => trivial)⟩, ⟨by repeat (first | (with_reducible first | exact HB.out | apply below_alloc | apply pw_below_drewN | apply below_drew1) | exact HB.out)⟩⟩
            · rw [if_neg c25] at H
              have c25b0 : (t171 == 0) = false := beq_eq_false_iff_ne.mpr c25
              have c25b1 : (t171 != 0) = true := bne_iff_ne.mpr c25
              have H' := Aside0.mk H
              clear H
              go_wp2_with (first | ((with_reducible refine gate_callee (f := 14) rfl ?_); refine goesL_ (some 54) rfl rfl Tryd.func14 (by kernel_rfl) rfl #[] rfl (by (try simp only [List.map_toArray, List.map_cons, List.map_nil]); first | done | rfl | (simp only [List.length_drop, List.length_take]; rfl)) ?_; (with_reducible refine (stowagelaw24_awake.calls  true _ A19.out).mono ?_); rintro e w33 ⟨rfl, hb⟩; refine ⟨_, rfl, ?_⟩; have n0_ := Aside0.mk (Kd.R_below (by (with_reducible repeat (first | apply Kd.R_alloc | apply Kd.R_drewN | apply Kd.R_drew)); exact HO173.out) hb); have n1_ := Aside0.mk (Kd.R_below (by (with_reducible repeat (first | apply Kd.R_alloc | apply Kd.R_drewN | apply Kd.R_drew)); exact HO178.out) hb); have n2_ := Aside0.mk (Kd.R_below (by (with_reducible repeat (first | apply Kd.R_alloc | apply Kd.R_drewN | apply Kd.R_drew)); exact HO183.out) hb); have n3_ := Aside0.mk (Kd.R_below (by (with_reducible repeat (first | apply Kd.R_alloc | apply Kd.R_drewN | apply Kd.R_drew)); exact HO186.out) hb); have n4_ := Aside0.mk (below_step (by repeat (first | (with_reducible first | exact HB.out | apply below_alloc | apply pw_below_drewN | apply below_drew1) | exact HB.out)) hb); clear HO173; clear HO178; clear HO183; clear HO186; clear HB; have HO173 := n0_; have HO178 := n1_; have HO183 := n2_; have HO186 := n3_; have HB := n4_; clear n0_ n1_ n2_ n3_ n4_; (try clear hb); (try clear hb2); (try clear hk); (try clear hi)) | (go_at_call 16; (with_reducible refine (percent_Encode.calls (⟨#[97, 47, 98]⟩ : ByteArray) false t192 _ A23.out).mono ?_); rintro e w34 ⟨rfl, hb⟩; have n0_ := Aside0.mk (Kd.R_below (by (with_reducible repeat (first | apply Kd.R_alloc | apply Kd.R_drewN | apply Kd.R_drew)); exact HO173.out) hb); have n1_ := Aside0.mk (Kd.R_below (by (with_reducible repeat (first | apply Kd.R_alloc | apply Kd.R_drewN | apply Kd.R_drew)); exact HO178.out) hb); have n2_ := Aside0.mk (Kd.R_below (by (with_reducible repeat (first | apply Kd.R_alloc | apply Kd.R_drewN | apply Kd.R_drew)); exact HO183.out) hb); have n3_ := Aside0.mk (Kd.R_below (by (with_reducible repeat (first | apply Kd.R_alloc | apply Kd.R_drewN | apply Kd.R_drew)); exact HO186.out) hb); have n4_ := Aside0.mk (below_step (by repeat (first | (with_reducible first | exact HB.out | apply below_alloc | apply pw_below_drewN | apply below_drew1) | exact HB.out)) hb); clear HO173; clear HO178; clear HO183; clear HO186; clear HB; have HO173 := n0_; have HO178 := n1_; have HO183 := n2_; have HO186 := n3_; have HB := n4_; clear n0_ n1_ n2_ n3_ n4_; (try clear hb); (try clear hb2); (try clear hk); (try clear hi)))
              go_meet
              case rel => exact ⟨_, (false), (by first | rfl | (simp; done) | (simp [*]; done)), H', ⟨by first | omega | exact Nat.le_refl _⟩, ⟨by (with_reducible repeat (first | apply Kd.R_alloc | apply Kd.R_drewN | apply Kd.R_drew)); exact Kd.R_mono HO178.out (fun _ hk => trivial)⟩, ⟨by repeat (first | (with_reducible first | exact HB.out | apply below_alloc | apply pw_below_drewN | apply below_drew1) | exact HB.out)⟩⟩
          · rw [if_neg c24] at H
            have c24b0 : (t192.toList == ([97, 37, 50, 102, 98] : List UInt8)) = false := beq_eq_false_iff_ne.mpr c24
            have c24b1 : (t192.toList != ([97, 37, 50, 102, 98] : List UInt8)) = true := bne_iff_ne.mpr c24
            have H' := Aside0.mk H
            clear H
            go_wp2_with (first | ((with_reducible refine gate_callee (f := 14) rfl ?_); refine goesL_ (some 54) rfl rfl Tryd.func14 (by kernel_rfl) rfl #[] rfl (by (try simp only [List.map_toArray, List.map_cons, List.map_nil]); first | done | rfl | (simp only [List.length_drop, List.length_take]; rfl)) ?_; (with_reducible refine (stowagelaw24_awake.calls  true _ A19.out).mono ?_); rintro e w35 ⟨rfl, hb⟩; refine ⟨_, rfl, ?_⟩; have n0_ := Aside0.mk (Kd.R_below (by (with_reducible repeat (first | apply Kd.R_alloc | apply Kd.R_drewN | apply Kd.R_drew)); exact HO173.out) hb); have n1_ := Aside0.mk (Kd.R_below (by (with_reducible repeat (first | apply Kd.R_alloc | apply Kd.R_drewN | apply Kd.R_drew)); exact HO178.out) hb); have n2_ := Aside0.mk (Kd.R_below (by (with_reducible repeat (first | apply Kd.R_alloc | apply Kd.R_drewN | apply Kd.R_drew)); exact HO183.out) hb); have n3_ := Aside0.mk (Kd.R_below (by (with_reducible repeat (first | apply Kd.R_alloc | apply Kd.R_drewN | apply Kd.R_drew)); exact HO186.out) hb); have n4_ := Aside0.mk (below_step (by repeat (first | (with_reducible first | exact HB.out | apply below_alloc | apply pw_below_drewN | apply below_drew1) | exact HB.out)) hb); clear HO173; clear HO178; clear HO183; clear HO186; clear HB; have HO173 := n0_; have HO178 := n1_; have HO183 := n2_; have HO186 := n3_; have HB := n4_; clear n0_ n1_ n2_ n3_ n4_; (try clear hb); (try clear hb2); (try clear hk); (try clear hi)) | (go_at_call 16; (with_reducible refine (percent_Encode.calls (⟨#[97, 47, 98]⟩ : ByteArray) false t192 _ A23.out).mono ?_); rintro e w36 ⟨rfl, hb⟩; have n0_ := Aside0.mk (Kd.R_below (by (with_reducible repeat (first | apply Kd.R_alloc | apply Kd.R_drewN | apply Kd.R_drew)); exact HO173.out) hb); have n1_ := Aside0.mk (Kd.R_below (by (with_reducible repeat (first | apply Kd.R_alloc | apply Kd.R_drewN | apply Kd.R_drew)); exact HO178.out) hb); have n2_ := Aside0.mk (Kd.R_below (by (with_reducible repeat (first | apply Kd.R_alloc | apply Kd.R_drewN | apply Kd.R_drew)); exact HO183.out) hb); have n3_ := Aside0.mk (Kd.R_below (by (with_reducible repeat (first | apply Kd.R_alloc | apply Kd.R_drewN | apply Kd.R_drew)); exact HO186.out) hb); have n4_ := Aside0.mk (below_step (by repeat (first | (with_reducible first | exact HB.out | apply below_alloc | apply pw_below_drewN | apply below_drew1) | exact HB.out)) hb); clear HO173; clear HO178; clear HO183; clear HO186; clear HB; have HO173 := n0_; have HO178 := n1_; have HO183 := n2_; have HO186 := n3_; have HB := n4_; clear n0_ n1_ n2_ n3_ n4_; (try clear hb); (try clear hb2); (try clear hk); (try clear hi)))
            go_meet
            case rel => exact ⟨_, (false), (by first | rfl | (simp; done) | (simp [*]; done)), H', ⟨by first | omega | exact Nat.le_refl _⟩, ⟨by (with_reducible repeat (first | apply Kd.R_alloc | apply Kd.R_drewN | apply Kd.R_drew)); exact Kd.R_mono HO178.out (fun _ hk => trivial)⟩, ⟨by repeat (first | (with_reducible first | exact HB.out | apply below_alloc | apply pw_below_drewN | apply below_drew1) | exact HB.out)⟩⟩
        · rw [if_neg c22] at H
          have c22b0 : (t169 == 4) = false := beq_eq_false_iff_ne.mpr c22
          have c22b1 : (t169 != 4) = true := bne_iff_ne.mpr c22
          have H' := Aside0.mk H
          clear H
          go_wp2_with (first | ((with_reducible refine gate_callee (f := 14) rfl ?_); refine goesL_ (some 54) rfl rfl Tryd.func14 (by kernel_rfl) rfl #[] rfl (by (try simp only [List.map_toArray, List.map_cons, List.map_nil]); first | done | rfl | (simp only [List.length_drop, List.length_take]; rfl)) ?_; (with_reducible refine (stowagelaw24_awake.calls  true _ A19.out).mono ?_); rintro e w37 ⟨rfl, hb⟩; refine ⟨_, rfl, ?_⟩; have n0_ := Aside0.mk (Kd.R_below (by (with_reducible repeat (first | apply Kd.R_alloc | apply Kd.R_drewN | apply Kd.R_drew)); exact HO173.out) hb); have n1_ := Aside0.mk (Kd.R_below (by (with_reducible repeat (first | apply Kd.R_alloc | apply Kd.R_drewN | apply Kd.R_drew)); exact HO178.out) hb); have n2_ := Aside0.mk (Kd.R_below (by (with_reducible repeat (first | apply Kd.R_alloc | apply Kd.R_drewN | apply Kd.R_drew)); exact HO183.out) hb); have n3_ := Aside0.mk (Kd.R_below (by (with_reducible repeat (first | apply Kd.R_alloc | apply Kd.R_drewN | apply Kd.R_drew)); exact HO186.out) hb); have n4_ := Aside0.mk (below_step (by repeat (first | (with_reducible first | exact HB.out | apply below_alloc | apply pw_below_drewN | apply below_drew1) | exact HB.out)) hb); clear HO173; clear HO178; clear HO183; clear HO186; clear HB; have HO173 := n0_; have HO178 := n1_; have HO183 := n2_; have HO186 := n3_; have HB := n4_; clear n0_ n1_ n2_ n3_ n4_; (try clear hb); (try clear hb2); (try clear hk); (try clear hi)))
          go_meet
          case rel => exact ⟨_, (false), (by first | rfl | (simp; done) | (simp [*]; done)), H', ⟨by first | omega | exact Nat.le_refl _⟩, ⟨by (with_reducible repeat (first | apply Kd.R_alloc | apply Kd.R_drewN | apply Kd.R_drew)); exact Kd.R_mono HO178.out (fun _ hk => trivial)⟩, ⟨by repeat (first | (with_reducible first | exact HB.out | apply below_alloc | apply pw_below_drewN | apply below_drew1) | exact HB.out)⟩⟩
      · rw [if_neg c21] at H
        have c21b0 : (t167 == 4) = false := beq_eq_false_iff_ne.mpr c21
        have c21b1 : (t167 != 4) = true := bne_iff_ne.mpr c21
        (first | rw [c21b0] | (simp only [i64_w, i32_w]; rw [c21b0]) | skip)
        have H' := Aside0.mk H
        clear H
        go_wp2_with (first | ((with_reducible refine gate_callee (f := 14) rfl ?_); refine goesL_ (some 54) rfl rfl Tryd.func14 (by kernel_rfl) rfl #[] rfl (by (try simp only [List.map_toArray, List.map_cons, List.map_nil]); first | done | rfl | (simp only [List.length_drop, List.length_take]; rfl)) ?_; (with_reducible refine (stowagelaw24_awake.calls  true _ A19.out).mono ?_); rintro e w38 ⟨rfl, hb⟩; refine ⟨_, rfl, ?_⟩; have n0_ := Aside0.mk (Kd.R_below (by (with_reducible repeat (first | apply Kd.R_alloc | apply Kd.R_drewN | apply Kd.R_drew)); exact HO173.out) hb); have n1_ := Aside0.mk (Kd.R_below (by (with_reducible repeat (first | apply Kd.R_alloc | apply Kd.R_drewN | apply Kd.R_drew)); exact HO178.out) hb); have n2_ := Aside0.mk (Kd.R_below (by (with_reducible repeat (first | apply Kd.R_alloc | apply Kd.R_drewN | apply Kd.R_drew)); exact HO183.out) hb); have n3_ := Aside0.mk (Kd.R_below (by (with_reducible repeat (first | apply Kd.R_alloc | apply Kd.R_drewN | apply Kd.R_drew)); exact HO186.out) hb); have n4_ := Aside0.mk (below_step (by repeat (first | (with_reducible first | exact HB.out | apply below_alloc | apply pw_below_drewN | apply below_drew1) | exact HB.out)) hb); clear HO173; clear HO178; clear HO183; clear HO186; clear HB; have HO173 := n0_; have HO178 := n1_; have HO183 := n2_; have HO186 := n3_; have HB := n4_; clear n0_ n1_ n2_ n3_ n4_; (try clear hb); (try clear hb2); (try clear hk); (try clear hi)))
        go_meet
        case rel => exact ⟨_, (false), (by first | rfl | (simp; done) | (simp [*]; done)), H', ⟨by first | omega | exact Nat.le_refl _⟩, ⟨by (with_reducible repeat (first | apply Kd.R_alloc | apply Kd.R_drewN | apply Kd.R_drew)); exact Kd.R_mono HO178.out (fun _ hk => trivial)⟩, ⟨by repeat (first | (with_reducible first | exact HB.out | apply below_alloc | apply pw_below_drewN | apply below_drew1) | exact HB.out)⟩⟩
    · replace c20 := Bool.eq_false_iff.mpr c20
      subst c20
      have H1 : (stowagelaw24_PercentKnown.j0 k t174 t175 t176 t181 t187 t188 t189 t190 false) = some r := by rw [if_neg (show ¬ (false = true) by decide)] at H; exact H
      clear H
      have H := H1
      clear H1
      have H' := Aside0.mk H
      clear H
      go_wp2_with (first | ((with_reducible refine gate_callee (f := 14) rfl ?_); refine goesL_ (some 54) rfl rfl Tryd.func14 (by kernel_rfl) rfl #[] rfl (by (try simp only [List.map_toArray, List.map_cons, List.map_nil]); first | done | rfl | (simp only [List.length_drop, List.length_take]; rfl)) ?_; (with_reducible refine (stowagelaw24_awake.calls  false _ A19.out).mono ?_); rintro e w39 ⟨rfl, hb⟩; refine ⟨_, rfl, ?_⟩; have n0_ := Aside0.mk (Kd.R_below (by (with_reducible repeat (first | apply Kd.R_alloc | apply Kd.R_drewN | apply Kd.R_drew)); exact HO173.out) hb); have n1_ := Aside0.mk (Kd.R_below (by (with_reducible repeat (first | apply Kd.R_alloc | apply Kd.R_drewN | apply Kd.R_drew)); exact HO178.out) hb); have n2_ := Aside0.mk (Kd.R_below (by (with_reducible repeat (first | apply Kd.R_alloc | apply Kd.R_drewN | apply Kd.R_drew)); exact HO183.out) hb); have n3_ := Aside0.mk (Kd.R_below (by (with_reducible repeat (first | apply Kd.R_alloc | apply Kd.R_drewN | apply Kd.R_drew)); exact HO186.out) hb); have n4_ := Aside0.mk (below_step (by repeat (first | (with_reducible first | exact HB.out | apply below_alloc | apply pw_below_drewN | apply below_drew1) | exact HB.out)) hb); clear HO173; clear HO178; clear HO183; clear HO186; clear HB; have HO173 := n0_; have HO178 := n1_; have HO183 := n2_; have HO186 := n3_; have HB := n4_; clear n0_ n1_ n2_ n3_ n4_; (try clear hb); (try clear hb2); (try clear hk); (try clear hi)))
      go_meet
      case rel => exact ⟨_, (false), (by first | rfl | (simp; done) | (simp [*]; done)), H', ⟨by first | omega | exact Nat.le_refl _⟩, ⟨by (with_reducible repeat (first | apply Kd.R_alloc | apply Kd.R_drewN | apply Kd.R_drew)); exact Kd.R_mono HO178.out (fun _ hk => trivial)⟩, ⟨by repeat (first | (with_reducible first | exact HB.out | apply below_alloc | apply pw_below_drewN | apply below_drew1) | exact HB.out)⟩⟩
  case rest =>
    clear HC8
    try clear c1
    try clear c2
    try clear p2
    try clear c4
    try clear c7
    try clear c9
    try clear c11
    try clear c14
    try clear c15
    try clear c20
    try clear c21
    try clear c21b0
    try clear c21b1
    try clear c22
    try clear c22b0
    try clear c22b1
    try clear c24
    try clear c24b0
    try clear c24b1
    try clear c25
    try clear c25b0
    try clear c25b1
    obtain ⟨kq, x18_7, rfl, HA, HJ7, HO_8, HB⟩ := hcut
    cases kq with
    | zero => exact absurd HA.out (by simp [stowagelaw24_PercentKnown.j0])
    | succ kj7 =>
      have H := HA.out
      clear HA
      simp only [stowagelaw24_PercentKnown.j0] at H
      by_cases c40 : x18_7 = true
      · subst c40
        have H1 : (if t174.toList = ([47, 97, 32, 98] : List UInt8) then (if t176 = 0 then ((stowagekit_SamePairs.f kj7 t175 (([(⟨(⟨#[120]⟩ : ByteArray), (⟨#[32]⟩ : ByteArray)⟩ : S32)] : List (S32)))).bind fun t200 => (if t200 = true then (if t181 = 4 then (if t187.toList = ([49] : List UInt8) then (if t188 = true then (if t189.toList = ([] : List UInt8) then (some (!t190)) else (some false)) else (some false)) else (some false)) else (some false)) else (some false))) else (some false)) else (some false)) = some r := by rw [if_pos rfl] at H; exact H
        clear H
        have H := H1
        clear H1
        by_cases c41 : t174.toList = ([47, 97, 32, 98] : List UInt8)
        · rw [if_pos c41] at H
          have c41b0 : (t174.toList == ([47, 97, 32, 98] : List UInt8)) = true := beq_iff_eq.mpr c41
          have c41b1 : (t174.toList != ([47, 97, 32, 98] : List UInt8)) = false := bne_eq_false_iff_eq.mpr c41
          clear c41
          by_cases c42 : t176 = 0
          · rw [if_pos c42] at H
            have c42b0 : (t176 == 0) = true := beq_iff_eq.mpr c42
            have c42b1 : (t176 != 0) = false := bne_eq_false_iff_eq.mpr c42
            clear c42
            obtain ⟨y197, hy197⟩ : ∃ y_ : List (S32), y_ = (([(⟨(⟨#[120]⟩ : ByteArray), (⟨#[32]⟩ : ByteArray)⟩ : S32)] : List (S32))) := ⟨_, rfl⟩
            replace H : ((stowagekit_SamePairs.f kj7 t175 y197).bind fun t200 => (if t200 = true then (if t181 = 4 then (if t187.toList = ([49] : List UInt8) then (if t188 = true then (if t189.toList = ([] : List UInt8) then (some (!t190)) else (some false)) else (some false)) else (some false)) else (some false)) else (some false))) = some r := by first | (rw [hy197]; with_reducible exact H) | (have H2_ := (Option.bind_some _ _).symm.trans H; rw [hy197]; with_reducible exact H2_) | (have H2_ := (Option.bind_some _ _).symm.trans H; with_reducible exact H2_) | with_reducible exact H | (rw [hy197]; exact H) | exact H
            have Ny197 := Aside0.mk hy197
            clear hy197
            replace H := Option.bind_eq_some_iff.mp H
            obtain ⟨t200, A430, H⟩ := H
            replace H : (if t200 = true then (if t181 = 4 then (if t187.toList = ([49] : List UInt8) then (if t188 = true then (if t189.toList = ([] : List UInt8) then (some (!t190)) else (some false)) else (some false)) else (some false)) else (some false)) else (some false)) = some r := H
            have A43 := Aside0.mk A430
            clear A430
            by_cases c44 : t200 = true
            · subst c44
              have H1 : (if t181 = 4 then (if t187.toList = ([49] : List UInt8) then (if t188 = true then (if t189.toList = ([] : List UInt8) then (some (!t190)) else (some false)) else (some false)) else (some false)) else (some false)) = some r := by rw [if_pos rfl] at H; exact H
              clear H
              have H := H1
              clear H1
              by_cases c45 : t181 = 4
              · rw [if_pos c45] at H
                have c45b0 : (t181 == 4) = true := beq_iff_eq.mpr c45
                have c45b1 : (t181 != 4) = false := bne_eq_false_iff_eq.mpr c45
                clear c45
                by_cases c46 : t187.toList = ([49] : List UInt8)
                · rw [if_pos c46] at H
                  have c46b0 : (t187.toList == ([49] : List UInt8)) = true := beq_iff_eq.mpr c46
                  have c46b1 : (t187.toList != ([49] : List UInt8)) = false := bne_eq_false_iff_eq.mpr c46
                  clear c46
                  by_cases c47 : t188 = true
                  · subst c47
                    have H1 : (if t189.toList = ([] : List UInt8) then (some (!t190)) else (some false)) = some r := by rw [if_pos rfl] at H; exact H
                    clear H
                    have H := H1
                    clear H1
                    by_cases c48 : t189.toList = ([] : List UInt8)
                    · rw [if_pos c48] at H
                      have c48b0 : (t189.toList == ([] : List UInt8)) = true := beq_iff_eq.mpr c48
                      have c48b1 : (t189.toList != ([] : List UInt8)) = false := bne_eq_false_iff_eq.mpr c48
                      clear c48
                      obtain rfl := Option.some.inj H
                      go_wp2_with (first | ((with_reducible refine gate_dst (N := 91) rfl ?_); (try (refine gate_guard (by rfl) ?_; dsimp only)); refine Kd.R_lit k32 _ 32 ?hg (N := 91) ?hd (xs := ([(⟨(⟨#[120]⟩ : ByteArray), (⟨#[32]⟩ : ByteArray)⟩ : S32)] : List (S32))) (inner := [.string (⟨#[120]⟩ : ByteArray), .string (⟨#[32]⟩ : ByteArray)]) (ok := fun _ => True) (okp := fun _ => True) ?hr ?hp (fun _ hk => hk) trivial (Below.refl _ _) (Nat.le_refl _) (by simp) ?_; (case hd => rfl); (case hg => rfl); (case hr => first | (go_simp; done) | (go_simp; rfl)); (case hp => exact (Reps.c2 (show Kd.M k32 _ _ _ (⟨(⟨#[120]⟩ : ByteArray), (⟨#[32]⟩ : ByteArray)⟩ : S32) [.string (⟨#[120]⟩ : ByteArray), .string (⟨#[32]⟩ : ByteArray)] from (k32_mkM _ _ _ (⟨(⟨#[120]⟩ : ByteArray), (⟨#[32]⟩ : ByteArray)⟩ : S32) )) (Reps.none _ _))); intro v198 w49 ho50 hb hg_ hnew_; clear hg_ hnew_; (first | rw [← Ny197.out] at ho50 | (simp only [Int.reduceToNat] at ho50; rw [← Ny197.out] at ho50)); have n0_ := Aside0.mk (Kd.R_elder' (by (with_reducible repeat (first | apply Kd.R_alloc | apply Kd.R_drewN | apply Kd.R_drew)); exact HO_8.out) (Kd.R_base ho50) hb); have n1_ := Aside0.mk (Kd.R_lower (Kd.R_new' ho50 (Kd.R_lt (by (with_reducible repeat (first | apply Kd.R_alloc | apply Kd.R_drewN | apply Kd.R_drew)); exact HO_8.out))) (below_size (by repeat (first | (with_reducible first | exact HB.out | apply below_alloc | apply pw_below_drewN | apply below_drew1) | exact HB.out)))); have n2_ := Aside0.mk (below_step (by repeat (first | (with_reducible first | exact HB.out | apply below_alloc | apply pw_below_drewN | apply below_drew1) | exact HB.out)) hb); clear HO_8; clear HB; have HO_8 := n0_; have HO199 := n1_; have HB := n2_; clear n0_ n1_ n2_; clear hb ho50; obtain ⟨Ao51, co51, eo51⟩ := Kd.R_slice HO_8.out; subst eo51; obtain ⟨Ao52, co52, eo52⟩ := Kd.R_slice HO199.out; subst eo52) | (go_at_call 13; (with_reducible refine (stowagekit_SamePairs.calls kj7 _ _ t175 _ _ y197 true _ ?side1 ?side2 ?side3 ?side4 A43.out).mono ?_); (case side1 => repeat (first | exact (Kd.R_reads' HO_8.out).2.2 | (with_reducible refine Kd.C_alloc ?_ _) | (with_reducible refine Kd.C_drewN ?_ _) | (with_reducible refine Kd.C_drew ?_))); (case side2 => exact (Kd.R_reads' HO_8.out).2.1); (case side3 => repeat (first | exact (Kd.R_reads' HO199.out).2.2 | (with_reducible refine Kd.C_alloc ?_ _) | (with_reducible refine Kd.C_drewN ?_ _) | (with_reducible refine Kd.C_drew ?_))); (case side4 => exact (Kd.R_reads' HO199.out).2.1); rintro e w' ⟨rfl, ⟨nd, rfl⟩⟩))
                      go_ret
                      exact ⟨by first | rfl | (simp [errW_none, errW_some] <;> rfl) | (simp [*, errW_none, errW_some] <;> rfl), by repeat (first | (with_reducible first | exact HB.out | apply below_alloc | apply pw_below_drewN | apply below_drew1) | exact HB.out)⟩
                    · rw [if_neg c48] at H
                      have c48b0 : (t189.toList == ([] : List UInt8)) = false := beq_eq_false_iff_ne.mpr c48
                      have c48b1 : (t189.toList != ([] : List UInt8)) = true := bne_iff_ne.mpr c48
                      obtain rfl := Option.some.inj H
                      go_wp2_with (first | ((with_reducible refine gate_dst (N := 91) rfl ?_); (try (refine gate_guard (by rfl) ?_; dsimp only)); refine Kd.R_lit k32 _ 32 ?hg (N := 91) ?hd (xs := ([(⟨(⟨#[120]⟩ : ByteArray), (⟨#[32]⟩ : ByteArray)⟩ : S32)] : List (S32))) (inner := [.string (⟨#[120]⟩ : ByteArray), .string (⟨#[32]⟩ : ByteArray)]) (ok := fun _ => True) (okp := fun _ => True) ?hr ?hp (fun _ hk => hk) trivial (Below.refl _ _) (Nat.le_refl _) (by simp) ?_; (case hd => rfl); (case hg => rfl); (case hr => first | (go_simp; done) | (go_simp; rfl)); (case hp => exact (Reps.c2 (show Kd.M k32 _ _ _ (⟨(⟨#[120]⟩ : ByteArray), (⟨#[32]⟩ : ByteArray)⟩ : S32) [.string (⟨#[120]⟩ : ByteArray), .string (⟨#[32]⟩ : ByteArray)] from (k32_mkM _ _ _ (⟨(⟨#[120]⟩ : ByteArray), (⟨#[32]⟩ : ByteArray)⟩ : S32) )) (Reps.none _ _))); intro v198 w53 ho54 hb hg_ hnew_; clear hg_ hnew_; (first | rw [← Ny197.out] at ho54 | (simp only [Int.reduceToNat] at ho54; rw [← Ny197.out] at ho54)); have n0_ := Aside0.mk (Kd.R_elder' (by (with_reducible repeat (first | apply Kd.R_alloc | apply Kd.R_drewN | apply Kd.R_drew)); exact HO_8.out) (Kd.R_base ho54) hb); have n1_ := Aside0.mk (Kd.R_lower (Kd.R_new' ho54 (Kd.R_lt (by (with_reducible repeat (first | apply Kd.R_alloc | apply Kd.R_drewN | apply Kd.R_drew)); exact HO_8.out))) (below_size (by repeat (first | (with_reducible first | exact HB.out | apply below_alloc | apply pw_below_drewN | apply below_drew1) | exact HB.out)))); have n2_ := Aside0.mk (below_step (by repeat (first | (with_reducible first | exact HB.out | apply below_alloc | apply pw_below_drewN | apply below_drew1) | exact HB.out)) hb); clear HO_8; clear HB; have HO_8 := n0_; have HO199 := n1_; have HB := n2_; clear n0_ n1_ n2_; clear hb ho54; obtain ⟨Ao55, co55, eo55⟩ := Kd.R_slice HO_8.out; subst eo55; obtain ⟨Ao56, co56, eo56⟩ := Kd.R_slice HO199.out; subst eo56) | (go_at_call 13; (with_reducible refine (stowagekit_SamePairs.calls kj7 _ _ t175 _ _ y197 true _ ?side1 ?side2 ?side3 ?side4 A43.out).mono ?_); (case side1 => repeat (first | exact (Kd.R_reads' HO_8.out).2.2 | (with_reducible refine Kd.C_alloc ?_ _) | (with_reducible refine Kd.C_drewN ?_ _) | (with_reducible refine Kd.C_drew ?_))); (case side2 => exact (Kd.R_reads' HO_8.out).2.1); (case side3 => repeat (first | exact (Kd.R_reads' HO199.out).2.2 | (with_reducible refine Kd.C_alloc ?_ _) | (with_reducible refine Kd.C_drewN ?_ _) | (with_reducible refine Kd.C_drew ?_))); (case side4 => exact (Kd.R_reads' HO199.out).2.1); rintro e w' ⟨rfl, ⟨nd, rfl⟩⟩))
                      go_ret
                      exact ⟨by first | rfl | (simp [errW_none, errW_some] <;> rfl) | (simp [*, errW_none, errW_some] <;> rfl), by repeat (first | (with_reducible first | exact HB.out | apply below_alloc | apply pw_below_drewN | apply below_drew1) | exact HB.out)⟩
                  · replace c47 := Bool.eq_false_iff.mpr c47
                    subst c47
                    have H1 : (some false) = some r := by rw [if_neg (show ¬ (false = true) by decide)] at H; exact H
                    clear H
                    have H := H1
                    clear H1
                    obtain rfl := Option.some.inj H
                    go_wp2_with (first | ((with_reducible refine gate_dst (N := 91) rfl ?_); (try (refine gate_guard (by rfl) ?_; dsimp only)); refine Kd.R_lit k32 _ 32 ?hg (N := 91) ?hd (xs := ([(⟨(⟨#[120]⟩ : ByteArray), (⟨#[32]⟩ : ByteArray)⟩ : S32)] : List (S32))) (inner := [.string (⟨#[120]⟩ : ByteArray), .string (⟨#[32]⟩ : ByteArray)]) (ok := fun _ => True) (okp := fun _ => True) ?hr ?hp (fun _ hk => hk) trivial (Below.refl _ _) (Nat.le_refl _) (by simp) ?_; (case hd => rfl); (case hg => rfl); (case hr => first | (go_simp; done) | (go_simp; rfl)); (case hp => exact (Reps.c2 (show Kd.M k32 _ _ _ (⟨(⟨#[120]⟩ : ByteArray), (⟨#[32]⟩ : ByteArray)⟩ : S32) [.string (⟨#[120]⟩ : ByteArray), .string (⟨#[32]⟩ : ByteArray)] from (k32_mkM _ _ _ (⟨(⟨#[120]⟩ : ByteArray), (⟨#[32]⟩ : ByteArray)⟩ : S32) )) (Reps.none _ _))); intro v198 w57 ho58 hb hg_ hnew_; clear hg_ hnew_; (first | rw [← Ny197.out] at ho58 | (simp only [Int.reduceToNat] at ho58; rw [← Ny197.out] at ho58)); have n0_ := Aside0.mk (Kd.R_elder' (by (with_reducible repeat (first | apply Kd.R_alloc | apply Kd.R_drewN | apply Kd.R_drew)); exact HO_8.out) (Kd.R_base ho58) hb); have n1_ := Aside0.mk (Kd.R_lower (Kd.R_new' ho58 (Kd.R_lt (by (with_reducible repeat (first | apply Kd.R_alloc | apply Kd.R_drewN | apply Kd.R_drew)); exact HO_8.out))) (below_size (by repeat (first | (with_reducible first | exact HB.out | apply below_alloc | apply pw_below_drewN | apply below_drew1) | exact HB.out)))); have n2_ := Aside0.mk (below_step (by repeat (first | (with_reducible first | exact HB.out | apply below_alloc | apply pw_below_drewN | apply below_drew1) | exact HB.out)) hb); clear HO_8; clear HB; have HO_8 := n0_; have HO199 := n1_; have HB := n2_; clear n0_ n1_ n2_; clear hb ho58; obtain ⟨Ao59, co59, eo59⟩ := Kd.R_slice HO_8.out; subst eo59; obtain ⟨Ao60, co60, eo60⟩ := Kd.R_slice HO199.out; subst eo60) | (go_at_call 13; (with_reducible refine (stowagekit_SamePairs.calls kj7 _ _ t175 _ _ y197 true _ ?side1 ?side2 ?side3 ?side4 A43.out).mono ?_); (case side1 => repeat (first | exact (Kd.R_reads' HO_8.out).2.2 | (with_reducible refine Kd.C_alloc ?_ _) | (with_reducible refine Kd.C_drewN ?_ _) | (with_reducible refine Kd.C_drew ?_))); (case side2 => exact (Kd.R_reads' HO_8.out).2.1); (case side3 => repeat (first | exact (Kd.R_reads' HO199.out).2.2 | (with_reducible refine Kd.C_alloc ?_ _) | (with_reducible refine Kd.C_drewN ?_ _) | (with_reducible refine Kd.C_drew ?_))); (case side4 => exact (Kd.R_reads' HO199.out).2.1); rintro e w' ⟨rfl, ⟨nd, rfl⟩⟩))
                    go_ret
                    exact ⟨by first | rfl | (simp [errW_none, errW_some] <;> rfl) | (simp [*, errW_none, errW_some] <;> rfl), by repeat (first | (with_reducible first | exact HB.out | apply below_alloc | apply pw_below_drewN | apply below_drew1) | exact HB.out)⟩
                · rw [if_neg c46] at H
                  have c46b0 : (t187.toList == ([49] : List UInt8)) = false := beq_eq_false_iff_ne.mpr c46
                  have c46b1 : (t187.toList != ([49] : List UInt8)) = true := bne_iff_ne.mpr c46
                  obtain rfl := Option.some.inj H
                  go_wp2_with (first | ((with_reducible refine gate_dst (N := 91) rfl ?_); (try (refine gate_guard (by rfl) ?_; dsimp only)); refine Kd.R_lit k32 _ 32 ?hg (N := 91) ?hd (xs := ([(⟨(⟨#[120]⟩ : ByteArray), (⟨#[32]⟩ : ByteArray)⟩ : S32)] : List (S32))) (inner := [.string (⟨#[120]⟩ : ByteArray), .string (⟨#[32]⟩ : ByteArray)]) (ok := fun _ => True) (okp := fun _ => True) ?hr ?hp (fun _ hk => hk) trivial (Below.refl _ _) (Nat.le_refl _) (by simp) ?_; (case hd => rfl); (case hg => rfl); (case hr => first | (go_simp; done) | (go_simp; rfl)); (case hp => exact (Reps.c2 (show Kd.M k32 _ _ _ (⟨(⟨#[120]⟩ : ByteArray), (⟨#[32]⟩ : ByteArray)⟩ : S32) [.string (⟨#[120]⟩ : ByteArray), .string (⟨#[32]⟩ : ByteArray)] from (k32_mkM _ _ _ (⟨(⟨#[120]⟩ : ByteArray), (⟨#[32]⟩ : ByteArray)⟩ : S32) )) (Reps.none _ _))); intro v198 w61 ho62 hb hg_ hnew_; clear hg_ hnew_; (first | rw [← Ny197.out] at ho62 | (simp only [Int.reduceToNat] at ho62; rw [← Ny197.out] at ho62)); have n0_ := Aside0.mk (Kd.R_elder' (by (with_reducible repeat (first | apply Kd.R_alloc | apply Kd.R_drewN | apply Kd.R_drew)); exact HO_8.out) (Kd.R_base ho62) hb); have n1_ := Aside0.mk (Kd.R_lower (Kd.R_new' ho62 (Kd.R_lt (by (with_reducible repeat (first | apply Kd.R_alloc | apply Kd.R_drewN | apply Kd.R_drew)); exact HO_8.out))) (below_size (by repeat (first | (with_reducible first | exact HB.out | apply below_alloc | apply pw_below_drewN | apply below_drew1) | exact HB.out)))); have n2_ := Aside0.mk (below_step (by repeat (first | (with_reducible first | exact HB.out | apply below_alloc | apply pw_below_drewN | apply below_drew1) | exact HB.out)) hb); clear HO_8; clear HB; have HO_8 := n0_; have HO199 := n1_; have HB := n2_; clear n0_ n1_ n2_; clear hb ho62; obtain ⟨Ao63, co63, eo63⟩ := Kd.R_slice HO_8.out; subst eo63; obtain ⟨Ao64, co64, eo64⟩ := Kd.R_slice HO199.out; subst eo64) | (go_at_call 13; (with_reducible refine (stowagekit_SamePairs.calls kj7 _ _ t175 _ _ y197 true _ ?side1 ?side2 ?side3 ?side4 A43.out).mono ?_); (case side1 => repeat (first | exact (Kd.R_reads' HO_8.out).2.2 | (with_reducible refine Kd.C_alloc ?_ _) | (with_reducible refine Kd.C_drewN ?_ _) | (with_reducible refine Kd.C_drew ?_))); (case side2 => exact (Kd.R_reads' HO_8.out).2.1); (case side3 => repeat (first | exact (Kd.R_reads' HO199.out).2.2 | (with_reducible refine Kd.C_alloc ?_ _) | (with_reducible refine Kd.C_drewN ?_ _) | (with_reducible refine Kd.C_drew ?_))); (case side4 => exact (Kd.R_reads' HO199.out).2.1); rintro e w' ⟨rfl, ⟨nd, rfl⟩⟩))
                  go_ret
                  exact ⟨by first | rfl | (simp [errW_none, errW_some] <;> rfl) | (simp [*, errW_none, errW_some] <;> rfl), by repeat (first | (with_reducible first | exact HB.out | apply below_alloc | apply pw_below_drewN | apply below_drew1) | exact HB.out)⟩
              · rw [if_neg c45] at H
                have c45b0 : (t181 == 4) = false := beq_eq_false_iff_ne.mpr c45
                have c45b1 : (t181 != 4) = true := bne_iff_ne.mpr c45
                obtain rfl := Option.some.inj H
                go_wp2_with (first | ((with_reducible refine gate_dst (N := 91) rfl ?_); (try (refine gate_guard (by rfl) ?_; dsimp only)); refine Kd.R_lit k32 _ 32 ?hg (N := 91) ?hd (xs := ([(⟨(⟨#[120]⟩ : ByteArray), (⟨#[32]⟩ : ByteArray)⟩ : S32)] : List (S32))) (inner := [.string (⟨#[120]⟩ : ByteArray), .string (⟨#[32]⟩ : ByteArray)]) (ok := fun _ => True) (okp := fun _ => True) ?hr ?hp (fun _ hk => hk) trivial (Below.refl _ _) (Nat.le_refl _) (by simp) ?_; (case hd => rfl); (case hg => rfl); (case hr => first | (go_simp; done) | (go_simp; rfl)); (case hp => exact (Reps.c2 (show Kd.M k32 _ _ _ (⟨(⟨#[120]⟩ : ByteArray), (⟨#[32]⟩ : ByteArray)⟩ : S32) [.string (⟨#[120]⟩ : ByteArray), .string (⟨#[32]⟩ : ByteArray)] from (k32_mkM _ _ _ (⟨(⟨#[120]⟩ : ByteArray), (⟨#[32]⟩ : ByteArray)⟩ : S32) )) (Reps.none _ _))); intro v198 w65 ho66 hb hg_ hnew_; clear hg_ hnew_; (first | rw [← Ny197.out] at ho66 | (simp only [Int.reduceToNat] at ho66; rw [← Ny197.out] at ho66)); have n0_ := Aside0.mk (Kd.R_elder' (by (with_reducible repeat (first | apply Kd.R_alloc | apply Kd.R_drewN | apply Kd.R_drew)); exact HO_8.out) (Kd.R_base ho66) hb); have n1_ := Aside0.mk (Kd.R_lower (Kd.R_new' ho66 (Kd.R_lt (by (with_reducible repeat (first | apply Kd.R_alloc | apply Kd.R_drewN | apply Kd.R_drew)); exact HO_8.out))) (below_size (by repeat (first | (with_reducible first | exact HB.out | apply below_alloc | apply pw_below_drewN | apply below_drew1) | exact HB.out)))); have n2_ := Aside0.mk (below_step (by repeat (first | (with_reducible first | exact HB.out | apply below_alloc | apply pw_below_drewN | apply below_drew1) | exact HB.out)) hb); clear HO_8; clear HB; have HO_8 := n0_; have HO199 := n1_; have HB := n2_; clear n0_ n1_ n2_; clear hb ho66; obtain ⟨Ao67, co67, eo67⟩ := Kd.R_slice HO_8.out; subst eo67; obtain ⟨Ao68, co68, eo68⟩ := Kd.R_slice HO199.out; subst eo68) | (go_at_call 13; (with_reducible refine (stowagekit_SamePairs.calls kj7 _ _ t175 _ _ y197 true _ ?side1 ?side2 ?side3 ?side4 A43.out).mono ?_); (case side1 => repeat (first | exact (Kd.R_reads' HO_8.out).2.2 | (with_reducible refine Kd.C_alloc ?_ _) | (with_reducible refine Kd.C_drewN ?_ _) | (with_reducible refine Kd.C_drew ?_))); (case side2 => exact (Kd.R_reads' HO_8.out).2.1); (case side3 => repeat (first | exact (Kd.R_reads' HO199.out).2.2 | (with_reducible refine Kd.C_alloc ?_ _) | (with_reducible refine Kd.C_drewN ?_ _) | (with_reducible refine Kd.C_drew ?_))); (case side4 => exact (Kd.R_reads' HO199.out).2.1); rintro e w' ⟨rfl, ⟨nd, rfl⟩⟩))
                go_ret
                exact ⟨by first | rfl | (simp [errW_none, errW_some] <;> rfl) | (simp [*, errW_none, errW_some] <;> rfl), by repeat (first | (with_reducible first | exact HB.out | apply below_alloc | apply pw_below_drewN | apply below_drew1) | exact HB.out)⟩
            · replace c44 := Bool.eq_false_iff.mpr c44
              subst c44
              have H1 : (some false) = some r := by rw [if_neg (show ¬ (false = true) by decide)] at H; exact H
              clear H
              have H := H1
              clear H1
              obtain rfl := Option.some.inj H
              go_wp2_with (first | ((with_reducible refine gate_dst (N := 91) rfl ?_); (try (refine gate_guard (by rfl) ?_; dsimp only)); refine Kd.R_lit k32 _ 32 ?hg (N := 91) ?hd (xs := ([(⟨(⟨#[120]⟩ : ByteArray), (⟨#[32]⟩ : ByteArray)⟩ : S32)] : List (S32))) (inner := [.string (⟨#[120]⟩ : ByteArray), .string (⟨#[32]⟩ : ByteArray)]) (ok := fun _ => True) (okp := fun _ => True) ?hr ?hp (fun _ hk => hk) trivial (Below.refl _ _) (Nat.le_refl _) (by simp) ?_; (case hd => rfl); (case hg => rfl); (case hr => first | (go_simp; done) | (go_simp; rfl)); (case hp => exact (Reps.c2 (show Kd.M k32 _ _ _ (⟨(⟨#[120]⟩ : ByteArray), (⟨#[32]⟩ : ByteArray)⟩ : S32) [.string (⟨#[120]⟩ : ByteArray), .string (⟨#[32]⟩ : ByteArray)] from (k32_mkM _ _ _ (⟨(⟨#[120]⟩ : ByteArray), (⟨#[32]⟩ : ByteArray)⟩ : S32) )) (Reps.none _ _))); intro v198 w69 ho70 hb hg_ hnew_; clear hg_ hnew_; (first | rw [← Ny197.out] at ho70 | (simp only [Int.reduceToNat] at ho70; rw [← Ny197.out] at ho70)); have n0_ := Aside0.mk (Kd.R_elder' (by (with_reducible repeat (first | apply Kd.R_alloc | apply Kd.R_drewN | apply Kd.R_drew)); exact HO_8.out) (Kd.R_base ho70) hb); have n1_ := Aside0.mk (Kd.R_lower (Kd.R_new' ho70 (Kd.R_lt (by (with_reducible repeat (first | apply Kd.R_alloc | apply Kd.R_drewN | apply Kd.R_drew)); exact HO_8.out))) (below_size (by repeat (first | (with_reducible first | exact HB.out | apply below_alloc | apply pw_below_drewN | apply below_drew1) | exact HB.out)))); have n2_ := Aside0.mk (below_step (by repeat (first | (with_reducible first | exact HB.out | apply below_alloc | apply pw_below_drewN | apply below_drew1) | exact HB.out)) hb); clear HO_8; clear HB; have HO_8 := n0_; have HO199 := n1_; have HB := n2_; clear n0_ n1_ n2_; clear hb ho70; obtain ⟨Ao71, co71, eo71⟩ := Kd.R_slice HO_8.out; subst eo71; obtain ⟨Ao72, co72, eo72⟩ := Kd.R_slice HO199.out; subst eo72) | (go_at_call 13; (with_reducible refine (stowagekit_SamePairs.calls kj7 _ _ t175 _ _ y197 false _ ?side1 ?side2 ?side3 ?side4 A43.out).mono ?_); (case side1 => repeat (first | exact (Kd.R_reads' HO_8.out).2.2 | (with_reducible refine Kd.C_alloc ?_ _) | (with_reducible refine Kd.C_drewN ?_ _) | (with_reducible refine Kd.C_drew ?_))); (case side2 => exact (Kd.R_reads' HO_8.out).2.1); (case side3 => repeat (first | exact (Kd.R_reads' HO199.out).2.2 | (with_reducible refine Kd.C_alloc ?_ _) | (with_reducible refine Kd.C_drewN ?_ _) | (with_reducible refine Kd.C_drew ?_))); (case side4 => exact (Kd.R_reads' HO199.out).2.1); rintro e w' ⟨rfl, ⟨nd, rfl⟩⟩))
              go_ret
              exact ⟨by first | rfl | (simp [errW_none, errW_some] <;> rfl) | (simp [*, errW_none, errW_some] <;> rfl), by repeat (first | (with_reducible first | exact HB.out | apply below_alloc | apply pw_below_drewN | apply below_drew1) | exact HB.out)⟩
          · rw [if_neg c42] at H
            have c42b0 : (t176 == 0) = false := beq_eq_false_iff_ne.mpr c42
            have c42b1 : (t176 != 0) = true := bne_iff_ne.mpr c42
            obtain rfl := Option.some.inj H
            go_wp2
            go_ret
            exact ⟨by first | rfl | (simp [errW_none, errW_some] <;> rfl) | (simp [*, errW_none, errW_some] <;> rfl), by repeat (first | (with_reducible first | exact HB.out | apply below_alloc | apply pw_below_drewN | apply below_drew1) | exact HB.out)⟩
        · rw [if_neg c41] at H
          have c41b0 : (t174.toList == ([47, 97, 32, 98] : List UInt8)) = false := beq_eq_false_iff_ne.mpr c41
          have c41b1 : (t174.toList != ([47, 97, 32, 98] : List UInt8)) = true := bne_iff_ne.mpr c41
          obtain rfl := Option.some.inj H
          go_wp2
          go_ret
          exact ⟨by first | rfl | (simp [errW_none, errW_some] <;> rfl) | (simp [*, errW_none, errW_some] <;> rfl), by repeat (first | (with_reducible first | exact HB.out | apply below_alloc | apply pw_below_drewN | apply below_drew1) | exact HB.out)⟩
      · replace c40 := Bool.eq_false_iff.mpr c40
        subst c40
        have H1 : (some false) = some r := by rw [if_neg (show ¬ (false = true) by decide)] at H; exact H
        clear H
        have H := H1
        clear H1
        obtain rfl := Option.some.inj H
        go_wp2
        go_ret
        exact ⟨by first | rfl | (simp [errW_none, errW_some] <;> rfl) | (simp [*, errW_none, errW_some] <;> rfl), by repeat (first | (with_reducible first | exact HB.out | apply below_alloc | apply pw_below_drewN | apply below_drew1) | exact HB.out)⟩

/-- THE ONE PURE STATEMENT of stowagelaw24_PercentKnown: yours. -/
def stowagelaw24_PercentKnown.Pure : Prop := ∃ k, stowagelaw24_PercentKnown.f k  = some true
theorem stowagelaw24_PercentKnown.walk (P : stowagelaw24_PercentKnown.Pure)  (w : World)  :
    Calls Tryd.prog 4 #[] w fun e w' => e = .returned (.bool true) ∧ Below w.heap.size w w' := by
  obtain ⟨k, h⟩ := P  
  refine (stowagelaw24_PercentKnown.calls k  true w h).mono ?_
  rintro e w' ⟨rfl, hd⟩
  exact ⟨rfl, hd⟩

end Go.Proofs.YthnhfbdoielekaaDoor.Pr
end
section
namespace Go.Proofs.YthnhfbdoielekaaDoor.Pr
open Go.RowKit Go.Proofs.YthnhfbdoielekaaDoorW.PrintWords Go.Proofs.YthnhfbdoielekaaDoorW.PrintLast Go.Proofs.YthnhfbdoielekaaDoorW.PrintMore
attribute [local go_sem] max2_int min2_int max_two min_two max_three min_three max_four min_four   -- for this text's walks alone
attribute [local go_sem high] gtr_as_less leq_as_less
set_option linter.unusedVariables false
set_option linter.unusedSimpArgs false

/-! ### stowagelaw24_PercentBack: function 5 -/
def stowagelaw24_PercentBack.f (k : Nat) (a0 : ByteArray) (a1 : Bool) (a2 : Bool) : Option (Bool) := (stowagelaw24_PercentKnown.f k).bind fun t201 => (if (a0.size : Int) > 3000 then (some t201) else ((percent_Encode.f a0 a1).bind fun t202 => ((percent_Decode.f t202 a2).bind fun bt203 => (if (t202.size : Int) > 2048 then (if t201 = true then (some (bt203.2 == 3)) else (some false)) else ((percent_Decode.f a0 a2).bind fun bt205 => (if t201 = true then (if bt203.2 = 0 then (if bt203.1.toList = a0.toList then (if bt205.2 = 0 then (some (decide ((bt205.1.size : Int) ≤ (a0.size : Int)))) else (some true)) else (some false)) else (some false)) else (some false)))))))
theorem stowagelaw24_PercentBack.mono : ∀ a0 a1 a2 k, LeO (stowagelaw24_PercentBack.f k a0 a1 a2) (stowagelaw24_PercentBack.f (k + 1) a0 a1 a2) := by
  intro a0 a1 a2 k
  unfold stowagelaw24_PercentBack.f
  repeat' first
      | (with_reducible exact stowagelaw24_PercentKnown.mono _)
      | (with_reducible exact LeO.refl _)
      | (with_reducible exact LeO.none _)
      | (with_reducible refine LeO.ite ?_ ?_)
      | (with_reducible refine LeO.bind ?_ (fun _ => ?_))
      | exact stowagelaw24_PercentKnown.mono _
      | exact LeO.none _
      | refine LeO.ite ?_ ?_
      | refine LeO.bind ?_ (fun _ => ?_)
set_option maxHeartbeats 8000000 in
set_option maxRecDepth 100000 in
theorem stowagelaw24_PercentBack.calls (k : Nat) (a0 : ByteArray) (a1 : Bool) (a2 : Bool) (r : Bool) (w : World) (h : stowagelaw24_PercentBack.f k a0 a1 a2 = some r) :
    Calls Tryd.prog 5 #[.string a0, .bool a1, .bool a2] w fun e w' => e = .returned (.bool r) ∧ Below w.heap.size w w' := by
  have HB := Aside0.mk (Below.refl w.heap.size w)
  have H : ((stowagelaw24_PercentKnown.f k).bind fun t201 => (if (a0.size : Int) > 3000 then (some t201) else ((percent_Encode.f a0 a1).bind fun t202 => ((percent_Decode.f t202 a2).bind fun bt203 => (if (t202.size : Int) > 2048 then (if t201 = true then (some (bt203.2 == 3)) else (some false)) else ((percent_Decode.f a0 a2).bind fun bt205 => (if t201 = true then (if bt203.2 = 0 then (if bt203.1.toList = a0.toList then (if bt205.2 = 0 then (some (decide ((bt205.1.size : Int) ≤ (a0.size : Int)))) else (some true)) else (some false)) else (some false)) else (some false)))))))) = some r := h
  clear h
  replace H := Option.bind_eq_some_iff.mp H
  obtain ⟨t201, A40, H⟩ := H
  replace H : (if (a0.size : Int) > 3000 then (some t201) else ((percent_Encode.f a0 a1).bind fun t202 => ((percent_Decode.f t202 a2).bind fun bt203 => (if (t202.size : Int) > 2048 then (if t201 = true then (some (bt203.2 == 3)) else (some false)) else ((percent_Decode.f a0 a2).bind fun bt205 => (if t201 = true then (if bt203.2 = 0 then (if bt203.1.toList = a0.toList then (if bt205.2 = 0 then (some (decide ((bt205.1.size : Int) ≤ (a0.size : Int)))) else (some true)) else (some false)) else (some false)) else (some false))))))) = some r := H
  have A4 := Aside0.mk A40
  clear A40
  by_cases c5 : (a0.size : Int) > 3000
  · rw [if_pos c5] at H
    have c5b0 : decide (3000 < (a0.size : Int)) = true := decide_eq_true c5
    have c5b1 : decide (3000 < a0.size) = true := decide_eq_true (by omega)
    clear c5
    obtain rfl := Option.some.inj H
    go_enter Tryd.func5, Tryd.ntmps5
    go_wp2_with (first | ((with_reducible refine gate_callee (f := 4) rfl ?_); refine goesL_ (some 13) rfl rfl Tryd.func4 (by kernel_rfl) rfl #[] rfl (by (try simp only [List.map_toArray, List.map_cons, List.map_nil]); first | done | rfl | (simp only [List.length_drop, List.length_take]; rfl)) ?_; (with_reducible refine (stowagelaw24_PercentKnown.calls k  t201 _ A4.out).mono ?_); rintro e w6 ⟨rfl, hb⟩; refine ⟨_, rfl, ?_⟩; have n0_ := Aside0.mk (below_step (by repeat (first | (with_reducible first | exact HB.out | apply below_alloc | apply pw_below_drewN | apply below_drew1) | exact HB.out)) hb); clear HB; have HB := n0_; clear n0_; (try clear hb); (try clear hb2); (try clear hk); (try clear hi)))
    go_ret
    exact ⟨by first | rfl | (simp [errW_none, errW_some] <;> rfl) | (simp [*, errW_none, errW_some] <;> rfl), by repeat (first | (with_reducible first | exact HB.out | apply below_alloc | apply pw_below_drewN | apply below_drew1) | exact HB.out)⟩
  · rw [if_neg c5] at H
    have c5b0 : decide (3000 < (a0.size : Int)) = false := decide_eq_false c5
    have c5b1 : decide (3000 < a0.size) = false := decide_eq_false (by omega)
    clear c5
    replace H := Option.bind_eq_some_iff.mp H
    obtain ⟨t202, A70, H⟩ := H
    replace H : ((percent_Decode.f t202 a2).bind fun bt203 => (if (t202.size : Int) > 2048 then (if t201 = true then (some (bt203.2 == 3)) else (some false)) else ((percent_Decode.f a0 a2).bind fun bt205 => (if t201 = true then (if bt203.2 = 0 then (if bt203.1.toList = a0.toList then (if bt205.2 = 0 then (some (decide ((bt205.1.size : Int) ≤ (a0.size : Int)))) else (some true)) else (some false)) else (some false)) else (some false))))) = some r := H
    have A7 := Aside0.mk A70
    clear A70
    replace H := Option.bind_eq_some_iff.mp H
    obtain ⟨⟨t203, t204⟩, A80, H⟩ := H
    replace H : (if (t202.size : Int) > 2048 then (if t201 = true then (some (t204 == 3)) else (some false)) else ((percent_Decode.f a0 a2).bind fun bt205 => (if t201 = true then (if t204 = 0 then (if t203.toList = a0.toList then (if bt205.2 = 0 then (some (decide ((bt205.1.size : Int) ≤ (a0.size : Int)))) else (some true)) else (some false)) else (some false)) else (some false)))) = some r := H
    have A8 := Aside0.mk A80
    clear A80
    by_cases c9 : (t202.size : Int) > 2048
    · rw [if_pos c9] at H
      have c9b0 : decide (2048 < (t202.size : Int)) = true := decide_eq_true c9
      have c9b1 : decide (2048 < t202.size) = true := decide_eq_true (by omega)
      clear c9
      by_cases c10 : t201 = true
      · subst c10
        have H1 : (some (t204 == 3)) = some r := by rw [if_pos rfl] at H; exact H
        clear H
        have H := H1
        clear H1
        obtain rfl := Option.some.inj H
        go_enter Tryd.func5, Tryd.ntmps5
        go_wp2_with (first | ((with_reducible refine gate_callee (f := 4) rfl ?_); refine goesL_ (some 13) rfl rfl Tryd.func4 (by kernel_rfl) rfl #[] rfl (by (try simp only [List.map_toArray, List.map_cons, List.map_nil]); first | done | rfl | (simp only [List.length_drop, List.length_take]; rfl)) ?_; (with_reducible refine (stowagelaw24_PercentKnown.calls k  true _ A4.out).mono ?_); rintro e w11 ⟨rfl, hb⟩; refine ⟨_, rfl, ?_⟩; have n0_ := Aside0.mk (below_step (by repeat (first | (with_reducible first | exact HB.out | apply below_alloc | apply pw_below_drewN | apply below_drew1) | exact HB.out)) hb); clear HB; have HB := n0_; clear n0_; (try clear hb); (try clear hb2); (try clear hk); (try clear hi)) | ((with_reducible refine gate_callee (f := 16) rfl ?_); refine goesL_ (some 20) rfl rfl Tryd.func16 (by kernel_rfl) rfl #[.string a0, .bool a1] rfl (by (try simp only [List.map_toArray, List.map_cons, List.map_nil]); first | done | rfl | (simp only [List.length_drop, List.length_take]; rfl)) ?_; (with_reducible refine (percent_Encode.calls a0 a1 t202 _ A7.out).mono ?_); rintro e w12 ⟨rfl, hb⟩; refine ⟨_, rfl, ?_⟩; have n0_ := Aside0.mk (below_step (by repeat (first | (with_reducible first | exact HB.out | apply below_alloc | apply pw_below_drewN | apply below_drew1) | exact HB.out)) hb); clear HB; have HB := n0_; clear n0_; (try clear hb); (try clear hb2); (try clear hk); (try clear hi)) | ((with_reducible refine gate_callee (f := 15) rfl ?_); refine goesL_ (some 24) rfl rfl Tryd.func15 (by kernel_rfl) rfl #[.string t202, .bool a2] rfl (by (try simp only [List.map_toArray, List.map_cons, List.map_nil]); first | done | rfl | (simp only [List.length_drop, List.length_take]; rfl)) ?_; (with_reducible refine (percent_Decode.calls t202 a2 t203 t204 _ A8.out).mono ?_); rintro e w13 ⟨rfl, hb⟩; refine ⟨_, rfl, ?_⟩; have n0_ := Aside0.mk (below_step (by repeat (first | (with_reducible first | exact HB.out | apply below_alloc | apply pw_below_drewN | apply below_drew1) | exact HB.out)) hb); clear HB; have HB := n0_; clear n0_; (try clear hb); (try clear hb2); (try clear hk); (try clear hi)))
        go_ret
        exact ⟨by first | rfl | (simp [errW_none, errW_some] <;> rfl) | (simp [*, errW_none, errW_some] <;> rfl), by repeat (first | (with_reducible first | exact HB.out | apply below_alloc | apply pw_below_drewN | apply below_drew1) | exact HB.out)⟩
      · replace c10 := Bool.eq_false_iff.mpr c10
        subst c10
        have H1 : (some false) = some r := by rw [if_neg (show ¬ (false = true) by decide)] at H; exact H
        clear H
        have H := H1
        clear H1
        obtain rfl := Option.some.inj H
        go_enter Tryd.func5, Tryd.ntmps5
        go_wp2_with (first | ((with_reducible refine gate_callee (f := 4) rfl ?_); refine goesL_ (some 13) rfl rfl Tryd.func4 (by kernel_rfl) rfl #[] rfl (by (try simp only [List.map_toArray, List.map_cons, List.map_nil]); first | done | rfl | (simp only [List.length_drop, List.length_take]; rfl)) ?_; (with_reducible refine (stowagelaw24_PercentKnown.calls k  false _ A4.out).mono ?_); rintro e w14 ⟨rfl, hb⟩; refine ⟨_, rfl, ?_⟩; have n0_ := Aside0.mk (below_step (by repeat (first | (with_reducible first | exact HB.out | apply below_alloc | apply pw_below_drewN | apply below_drew1) | exact HB.out)) hb); clear HB; have HB := n0_; clear n0_; (try clear hb); (try clear hb2); (try clear hk); (try clear hi)) | ((with_reducible refine gate_callee (f := 16) rfl ?_); refine goesL_ (some 20) rfl rfl Tryd.func16 (by kernel_rfl) rfl #[.string a0, .bool a1] rfl (by (try simp only [List.map_toArray, List.map_cons, List.map_nil]); first | done | rfl | (simp only [List.length_drop, List.length_take]; rfl)) ?_; (with_reducible refine (percent_Encode.calls a0 a1 t202 _ A7.out).mono ?_); rintro e w15 ⟨rfl, hb⟩; refine ⟨_, rfl, ?_⟩; have n0_ := Aside0.mk (below_step (by repeat (first | (with_reducible first | exact HB.out | apply below_alloc | apply pw_below_drewN | apply below_drew1) | exact HB.out)) hb); clear HB; have HB := n0_; clear n0_; (try clear hb); (try clear hb2); (try clear hk); (try clear hi)) | ((with_reducible refine gate_callee (f := 15) rfl ?_); refine goesL_ (some 24) rfl rfl Tryd.func15 (by kernel_rfl) rfl #[.string t202, .bool a2] rfl (by (try simp only [List.map_toArray, List.map_cons, List.map_nil]); first | done | rfl | (simp only [List.length_drop, List.length_take]; rfl)) ?_; (with_reducible refine (percent_Decode.calls t202 a2 t203 t204 _ A8.out).mono ?_); rintro e w16 ⟨rfl, hb⟩; refine ⟨_, rfl, ?_⟩; have n0_ := Aside0.mk (below_step (by repeat (first | (with_reducible first | exact HB.out | apply below_alloc | apply pw_below_drewN | apply below_drew1) | exact HB.out)) hb); clear HB; have HB := n0_; clear n0_; (try clear hb); (try clear hb2); (try clear hk); (try clear hi)))
        go_ret
        exact ⟨by first | rfl | (simp [errW_none, errW_some] <;> rfl) | (simp [*, errW_none, errW_some] <;> rfl), by repeat (first | (with_reducible first | exact HB.out | apply below_alloc | apply pw_below_drewN | apply below_drew1) | exact HB.out)⟩
    · rw [if_neg c9] at H
      have c9b0 : decide (2048 < (t202.size : Int)) = false := decide_eq_false c9
      have c9b1 : decide (2048 < t202.size) = false := decide_eq_false (by omega)
      clear c9
      replace H := Option.bind_eq_some_iff.mp H
      obtain ⟨⟨t205, t206⟩, A170, H⟩ := H
      replace H : (if t201 = true then (if t204 = 0 then (if t203.toList = a0.toList then (if t206 = 0 then (some (decide ((t205.size : Int) ≤ (a0.size : Int)))) else (some true)) else (some false)) else (some false)) else (some false)) = some r := H
      have A17 := Aside0.mk A170
      clear A170
      by_cases c18 : t201 = true
      · subst c18
        have H1 : (if t204 = 0 then (if t203.toList = a0.toList then (if t206 = 0 then (some (decide ((t205.size : Int) ≤ (a0.size : Int)))) else (some true)) else (some false)) else (some false)) = some r := by rw [if_pos rfl] at H; exact H
        clear H
        have H := H1
        clear H1
        by_cases c19 : t204 = 0
        · rw [if_pos c19] at H
          have c19b0 : (t204 == 0) = true := beq_iff_eq.mpr c19
          have c19b1 : (t204 != 0) = false := bne_eq_false_iff_eq.mpr c19
          clear c19
          by_cases c20 : t203.toList = a0.toList
          · rw [if_pos c20] at H
            have c20b0 : (t203.toList == a0.toList) = true := beq_iff_eq.mpr c20
            have c20b1 : (t203.toList != a0.toList) = false := bne_eq_false_iff_eq.mpr c20
            clear c20
            by_cases c21 : t206 = 0
            · rw [if_pos c21] at H
              have c21b0 : (t206 == 0) = true := beq_iff_eq.mpr c21
              have c21b1 : (t206 != 0) = false := bne_eq_false_iff_eq.mpr c21
              clear c21
              obtain rfl := Option.some.inj H
              go_enter Tryd.func5, Tryd.ntmps5
              go_wp2_with (first | ((with_reducible refine gate_callee (f := 4) rfl ?_); refine goesL_ (some 13) rfl rfl Tryd.func4 (by kernel_rfl) rfl #[] rfl (by (try simp only [List.map_toArray, List.map_cons, List.map_nil]); first | done | rfl | (simp only [List.length_drop, List.length_take]; rfl)) ?_; (with_reducible refine (stowagelaw24_PercentKnown.calls k  true _ A4.out).mono ?_); rintro e w22 ⟨rfl, hb⟩; refine ⟨_, rfl, ?_⟩; have n0_ := Aside0.mk (below_step (by repeat (first | (with_reducible first | exact HB.out | apply below_alloc | apply pw_below_drewN | apply below_drew1) | exact HB.out)) hb); clear HB; have HB := n0_; clear n0_; (try clear hb); (try clear hb2); (try clear hk); (try clear hi)) | ((with_reducible refine gate_callee (f := 16) rfl ?_); refine goesL_ (some 20) rfl rfl Tryd.func16 (by kernel_rfl) rfl #[.string a0, .bool a1] rfl (by (try simp only [List.map_toArray, List.map_cons, List.map_nil]); first | done | rfl | (simp only [List.length_drop, List.length_take]; rfl)) ?_; (with_reducible refine (percent_Encode.calls a0 a1 t202 _ A7.out).mono ?_); rintro e w23 ⟨rfl, hb⟩; refine ⟨_, rfl, ?_⟩; have n0_ := Aside0.mk (below_step (by repeat (first | (with_reducible first | exact HB.out | apply below_alloc | apply pw_below_drewN | apply below_drew1) | exact HB.out)) hb); clear HB; have HB := n0_; clear n0_; (try clear hb); (try clear hb2); (try clear hk); (try clear hi)) | ((with_reducible refine gate_callee (f := 15) rfl ?_); refine goesL_ (some 24) rfl rfl Tryd.func15 (by kernel_rfl) rfl #[.string t202, .bool a2] rfl (by (try simp only [List.map_toArray, List.map_cons, List.map_nil]); first | done | rfl | (simp only [List.length_drop, List.length_take]; rfl)) ?_; (with_reducible refine (percent_Decode.calls t202 a2 t203 t204 _ A8.out).mono ?_); rintro e w24 ⟨rfl, hb⟩; refine ⟨_, rfl, ?_⟩; have n0_ := Aside0.mk (below_step (by repeat (first | (with_reducible first | exact HB.out | apply below_alloc | apply pw_below_drewN | apply below_drew1) | exact HB.out)) hb); clear HB; have HB := n0_; clear n0_; (try clear hb); (try clear hb2); (try clear hk); (try clear hi)) | ((with_reducible refine gate_callee (f := 15) rfl ?_); refine goesL_ (some 38) rfl rfl Tryd.func15 (by kernel_rfl) rfl #[.string a0, .bool a2] rfl (by (try simp only [List.map_toArray, List.map_cons, List.map_nil]); first | done | rfl | (simp only [List.length_drop, List.length_take]; rfl)) ?_; (with_reducible refine (percent_Decode.calls a0 a2 t205 t206 _ A17.out).mono ?_); rintro e w25 ⟨rfl, hb⟩; refine ⟨_, rfl, ?_⟩; have n0_ := Aside0.mk (below_step (by repeat (first | (with_reducible first | exact HB.out | apply below_alloc | apply pw_below_drewN | apply below_drew1) | exact HB.out)) hb); clear HB; have HB := n0_; clear n0_; (try clear hb); (try clear hb2); (try clear hk); (try clear hi)))
              go_ret
              exact ⟨by first | rfl | (simp [errW_none, errW_some] <;> rfl) | (simp [*, errW_none, errW_some] <;> rfl), by repeat (first | (with_reducible first | exact HB.out | apply below_alloc | apply pw_below_drewN | apply below_drew1) | exact HB.out)⟩
            · rw [if_neg c21] at H
              have c21b0 : (t206 == 0) = false := beq_eq_false_iff_ne.mpr c21
              have c21b1 : (t206 != 0) = true := bne_iff_ne.mpr c21
              obtain rfl := Option.some.inj H
              go_enter Tryd.func5, Tryd.ntmps5
              go_wp2_with (first | ((with_reducible refine gate_callee (f := 4) rfl ?_); refine goesL_ (some 13) rfl rfl Tryd.func4 (by kernel_rfl) rfl #[] rfl (by (try simp only [List.map_toArray, List.map_cons, List.map_nil]); first | done | rfl | (simp only [List.length_drop, List.length_take]; rfl)) ?_; (with_reducible refine (stowagelaw24_PercentKnown.calls k  true _ A4.out).mono ?_); rintro e w26 ⟨rfl, hb⟩; refine ⟨_, rfl, ?_⟩; have n0_ := Aside0.mk (below_step (by repeat (first | (with_reducible first | exact HB.out | apply below_alloc | apply pw_below_drewN | apply below_drew1) | exact HB.out)) hb); clear HB; have HB := n0_; clear n0_; (try clear hb); (try clear hb2); (try clear hk); (try clear hi)) | ((with_reducible refine gate_callee (f := 16) rfl ?_); refine goesL_ (some 20) rfl rfl Tryd.func16 (by kernel_rfl) rfl #[.string a0, .bool a1] rfl (by (try simp only [List.map_toArray, List.map_cons, List.map_nil]); first | done | rfl | (simp only [List.length_drop, List.length_take]; rfl)) ?_; (with_reducible refine (percent_Encode.calls a0 a1 t202 _ A7.out).mono ?_); rintro e w27 ⟨rfl, hb⟩; refine ⟨_, rfl, ?_⟩; have n0_ := Aside0.mk (below_step (by repeat (first | (with_reducible first | exact HB.out | apply below_alloc | apply pw_below_drewN | apply below_drew1) | exact HB.out)) hb); clear HB; have HB := n0_; clear n0_; (try clear hb); (try clear hb2); (try clear hk); (try clear hi)) | ((with_reducible refine gate_callee (f := 15) rfl ?_); refine goesL_ (some 24) rfl rfl Tryd.func15 (by kernel_rfl) rfl #[.string t202, .bool a2] rfl (by (try simp only [List.map_toArray, List.map_cons, List.map_nil]); first | done | rfl | (simp only [List.length_drop, List.length_take]; rfl)) ?_; (with_reducible refine (percent_Decode.calls t202 a2 t203 t204 _ A8.out).mono ?_); rintro e w28 ⟨rfl, hb⟩; refine ⟨_, rfl, ?_⟩; have n0_ := Aside0.mk (below_step (by repeat (first | (with_reducible first | exact HB.out | apply below_alloc | apply pw_below_drewN | apply below_drew1) | exact HB.out)) hb); clear HB; have HB := n0_; clear n0_; (try clear hb); (try clear hb2); (try clear hk); (try clear hi)) | ((with_reducible refine gate_callee (f := 15) rfl ?_); refine goesL_ (some 38) rfl rfl Tryd.func15 (by kernel_rfl) rfl #[.string a0, .bool a2] rfl (by (try simp only [List.map_toArray, List.map_cons, List.map_nil]); first | done | rfl | (simp only [List.length_drop, List.length_take]; rfl)) ?_; (with_reducible refine (percent_Decode.calls a0 a2 t205 t206 _ A17.out).mono ?_); rintro e w29 ⟨rfl, hb⟩; refine ⟨_, rfl, ?_⟩; have n0_ := Aside0.mk (below_step (by repeat (first | (with_reducible first | exact HB.out | apply below_alloc | apply pw_below_drewN | apply below_drew1) | exact HB.out)) hb); clear HB; have HB := n0_; clear n0_; (try clear hb); (try clear hb2); (try clear hk); (try clear hi)))
              go_ret
              exact ⟨by first | rfl | (simp [errW_none, errW_some] <;> rfl) | (simp [*, errW_none, errW_some] <;> rfl), by repeat (first | (with_reducible first | exact HB.out | apply below_alloc | apply pw_below_drewN | apply below_drew1) | exact HB.out)⟩
          · rw [if_neg c20] at H
            have c20b0 : (t203.toList == a0.toList) = false := beq_eq_false_iff_ne.mpr c20
            have c20b1 : (t203.toList != a0.toList) = true := bne_iff_ne.mpr c20
            obtain rfl := Option.some.inj H
            go_enter Tryd.func5, Tryd.ntmps5
            go_wp2_with (first | ((with_reducible refine gate_callee (f := 4) rfl ?_); refine goesL_ (some 13) rfl rfl Tryd.func4 (by kernel_rfl) rfl #[] rfl (by (try simp only [List.map_toArray, List.map_cons, List.map_nil]); first | done | rfl | (simp only [List.length_drop, List.length_take]; rfl)) ?_; (with_reducible refine (stowagelaw24_PercentKnown.calls k  true _ A4.out).mono ?_); rintro e w30 ⟨rfl, hb⟩; refine ⟨_, rfl, ?_⟩; have n0_ := Aside0.mk (below_step (by repeat (first | (with_reducible first | exact HB.out | apply below_alloc | apply pw_below_drewN | apply below_drew1) | exact HB.out)) hb); clear HB; have HB := n0_; clear n0_; (try clear hb); (try clear hb2); (try clear hk); (try clear hi)) | ((with_reducible refine gate_callee (f := 16) rfl ?_); refine goesL_ (some 20) rfl rfl Tryd.func16 (by kernel_rfl) rfl #[.string a0, .bool a1] rfl (by (try simp only [List.map_toArray, List.map_cons, List.map_nil]); first | done | rfl | (simp only [List.length_drop, List.length_take]; rfl)) ?_; (with_reducible refine (percent_Encode.calls a0 a1 t202 _ A7.out).mono ?_); rintro e w31 ⟨rfl, hb⟩; refine ⟨_, rfl, ?_⟩; have n0_ := Aside0.mk (below_step (by repeat (first | (with_reducible first | exact HB.out | apply below_alloc | apply pw_below_drewN | apply below_drew1) | exact HB.out)) hb); clear HB; have HB := n0_; clear n0_; (try clear hb); (try clear hb2); (try clear hk); (try clear hi)) | ((with_reducible refine gate_callee (f := 15) rfl ?_); refine goesL_ (some 24) rfl rfl Tryd.func15 (by kernel_rfl) rfl #[.string t202, .bool a2] rfl (by (try simp only [List.map_toArray, List.map_cons, List.map_nil]); first | done | rfl | (simp only [List.length_drop, List.length_take]; rfl)) ?_; (with_reducible refine (percent_Decode.calls t202 a2 t203 t204 _ A8.out).mono ?_); rintro e w32 ⟨rfl, hb⟩; refine ⟨_, rfl, ?_⟩; have n0_ := Aside0.mk (below_step (by repeat (first | (with_reducible first | exact HB.out | apply below_alloc | apply pw_below_drewN | apply below_drew1) | exact HB.out)) hb); clear HB; have HB := n0_; clear n0_; (try clear hb); (try clear hb2); (try clear hk); (try clear hi)) | ((with_reducible refine gate_callee (f := 15) rfl ?_); refine goesL_ (some 38) rfl rfl Tryd.func15 (by kernel_rfl) rfl #[.string a0, .bool a2] rfl (by (try simp only [List.map_toArray, List.map_cons, List.map_nil]); first | done | rfl | (simp only [List.length_drop, List.length_take]; rfl)) ?_; (with_reducible refine (percent_Decode.calls a0 a2 t205 t206 _ A17.out).mono ?_); rintro e w33 ⟨rfl, hb⟩; refine ⟨_, rfl, ?_⟩; have n0_ := Aside0.mk (below_step (by repeat (first | (with_reducible first | exact HB.out | apply below_alloc | apply pw_below_drewN | apply below_drew1) | exact HB.out)) hb); clear HB; have HB := n0_; clear n0_; (try clear hb); (try clear hb2); (try clear hk); (try clear hi)))
            go_ret
            exact ⟨by first | rfl | (simp [errW_none, errW_some] <;> rfl) | (simp [*, errW_none, errW_some] <;> rfl), by repeat (first | (with_reducible first | exact HB.out | apply below_alloc | apply pw_below_drewN | apply below_drew1) | exact HB.out)⟩
        · rw [if_neg c19] at H
          have c19b0 : (t204 == 0) = false := beq_eq_false_iff_ne.mpr c19
          have c19b1 : (t204 != 0) = true := bne_iff_ne.mpr c19
          obtain rfl := Option.some.inj H
          go_enter Tryd.func5, Tryd.ntmps5
          go_wp2_with (first | ((with_reducible refine gate_callee (f := 4) rfl ?_); refine goesL_ (some 13) rfl rfl Tryd.func4 (by kernel_rfl) rfl #[] rfl (by (try simp only [List.map_toArray, List.map_cons, List.map_nil]); first | done | rfl | (simp only [List.length_drop, List.length_take]; rfl)) ?_; (with_reducible refine (stowagelaw24_PercentKnown.calls k  true _ A4.out).mono ?_); rintro e w34 ⟨rfl, hb⟩; refine ⟨_, rfl, ?_⟩; have n0_ := Aside0.mk (below_step (by repeat (first | (with_reducible first | exact HB.out | apply below_alloc | apply pw_below_drewN | apply below_drew1) | exact HB.out)) hb); clear HB; have HB := n0_; clear n0_; (try clear hb); (try clear hb2); (try clear hk); (try clear hi)) | ((with_reducible refine gate_callee (f := 16) rfl ?_); refine goesL_ (some 20) rfl rfl Tryd.func16 (by kernel_rfl) rfl #[.string a0, .bool a1] rfl (by (try simp only [List.map_toArray, List.map_cons, List.map_nil]); first | done | rfl | (simp only [List.length_drop, List.length_take]; rfl)) ?_; (with_reducible refine (percent_Encode.calls a0 a1 t202 _ A7.out).mono ?_); rintro e w35 ⟨rfl, hb⟩; refine ⟨_, rfl, ?_⟩; have n0_ := Aside0.mk (below_step (by repeat (first | (with_reducible first | exact HB.out | apply below_alloc | apply pw_below_drewN | apply below_drew1) | exact HB.out)) hb); clear HB; have HB := n0_; clear n0_; (try clear hb); (try clear hb2); (try clear hk); (try clear hi)) | ((with_reducible refine gate_callee (f := 15) rfl ?_); refine goesL_ (some 24) rfl rfl Tryd.func15 (by kernel_rfl) rfl #[.string t202, .bool a2] rfl (by (try simp only [List.map_toArray, List.map_cons, List.map_nil]); first | done | rfl | (simp only [List.length_drop, List.length_take]; rfl)) ?_; (with_reducible refine (percent_Decode.calls t202 a2 t203 t204 _ A8.out).mono ?_); rintro e w36 ⟨rfl, hb⟩; refine ⟨_, rfl, ?_⟩; have n0_ := Aside0.mk (below_step (by repeat (first | (with_reducible first | exact HB.out | apply below_alloc | apply pw_below_drewN | apply below_drew1) | exact HB.out)) hb); clear HB; have HB := n0_; clear n0_; (try clear hb); (try clear hb2); (try clear hk); (try clear hi)) | ((with_reducible refine gate_callee (f := 15) rfl ?_); refine goesL_ (some 38) rfl rfl Tryd.func15 (by kernel_rfl) rfl #[.string a0, .bool a2] rfl (by (try simp only [List.map_toArray, List.map_cons, List.map_nil]); first | done | rfl | (simp only [List.length_drop, List.length_take]; rfl)) ?_; (with_reducible refine (percent_Decode.calls a0 a2 t205 t206 _ A17.out).mono ?_); rintro e w37 ⟨rfl, hb⟩; refine ⟨_, rfl, ?_⟩; have n0_ := Aside0.mk (below_step (by repeat (first | (with_reducible first | exact HB.out | apply below_alloc | apply pw_below_drewN | apply below_drew1) | exact HB.out)) hb); clear HB; have HB := n0_; clear n0_; (try clear hb); (try clear hb2); (try clear hk); (try clear hi)))
          go_ret
          exact ⟨by first | rfl | (simp [errW_none, errW_some] <;> rfl) | (simp [*, errW_none, errW_some] <;> rfl), by repeat (first | (with_reducible first | exact HB.out | apply below_alloc | apply pw_below_drewN | apply below_drew1) | exact HB.out)⟩
      · replace c18 := Bool.eq_false_iff.mpr c18
        subst c18
        have H1 : (some false) = some r := by rw [if_neg (show ¬ (false = true) by decide)] at H; exact H
        clear H
        have H := H1
        clear H1
        obtain rfl := Option.some.inj H
        go_enter Tryd.func5, Tryd.ntmps5
        go_wp2_with (first | ((with_reducible refine gate_callee (f := 4) rfl ?_); refine goesL_ (some 13) rfl rfl Tryd.func4 (by kernel_rfl) rfl #[] rfl (by (try simp only [List.map_toArray, List.map_cons, List.map_nil]); first | done | rfl | (simp only [List.length_drop, List.length_take]; rfl)) ?_; (with_reducible refine (stowagelaw24_PercentKnown.calls k  false _ A4.out).mono ?_); rintro e w38 ⟨rfl, hb⟩; refine ⟨_, rfl, ?_⟩; have n0_ := Aside0.mk (below_step (by repeat (first | (with_reducible first | exact HB.out | apply below_alloc | apply pw_below_drewN | apply below_drew1) | exact HB.out)) hb); clear HB; have HB := n0_; clear n0_; (try clear hb); (try clear hb2); (try clear hk); (try clear hi)) | ((with_reducible refine gate_callee (f := 16) rfl ?_); refine goesL_ (some 20) rfl rfl Tryd.func16 (by kernel_rfl) rfl #[.string a0, .bool a1] rfl (by (try simp only [List.map_toArray, List.map_cons, List.map_nil]); first | done | rfl | (simp only [List.length_drop, List.length_take]; rfl)) ?_; (with_reducible refine (percent_Encode.calls a0 a1 t202 _ A7.out).mono ?_); rintro e w39 ⟨rfl, hb⟩; refine ⟨_, rfl, ?_⟩; have n0_ := Aside0.mk (below_step (by repeat (first | (with_reducible first | exact HB.out | apply below_alloc | apply pw_below_drewN | apply below_drew1) | exact HB.out)) hb); clear HB; have HB := n0_; clear n0_; (try clear hb); (try clear hb2); (try clear hk); (try clear hi)) | ((with_reducible refine gate_callee (f := 15) rfl ?_); refine goesL_ (some 24) rfl rfl Tryd.func15 (by kernel_rfl) rfl #[.string t202, .bool a2] rfl (by (try simp only [List.map_toArray, List.map_cons, List.map_nil]); first | done | rfl | (simp only [List.length_drop, List.length_take]; rfl)) ?_; (with_reducible refine (percent_Decode.calls t202 a2 t203 t204 _ A8.out).mono ?_); rintro e w40 ⟨rfl, hb⟩; refine ⟨_, rfl, ?_⟩; have n0_ := Aside0.mk (below_step (by repeat (first | (with_reducible first | exact HB.out | apply below_alloc | apply pw_below_drewN | apply below_drew1) | exact HB.out)) hb); clear HB; have HB := n0_; clear n0_; (try clear hb); (try clear hb2); (try clear hk); (try clear hi)) | ((with_reducible refine gate_callee (f := 15) rfl ?_); refine goesL_ (some 38) rfl rfl Tryd.func15 (by kernel_rfl) rfl #[.string a0, .bool a2] rfl (by (try simp only [List.map_toArray, List.map_cons, List.map_nil]); first | done | rfl | (simp only [List.length_drop, List.length_take]; rfl)) ?_; (with_reducible refine (percent_Decode.calls a0 a2 t205 t206 _ A17.out).mono ?_); rintro e w41 ⟨rfl, hb⟩; refine ⟨_, rfl, ?_⟩; have n0_ := Aside0.mk (below_step (by repeat (first | (with_reducible first | exact HB.out | apply below_alloc | apply pw_below_drewN | apply below_drew1) | exact HB.out)) hb); clear HB; have HB := n0_; clear n0_; (try clear hb); (try clear hb2); (try clear hk); (try clear hi)))
        go_ret
        exact ⟨by first | rfl | (simp [errW_none, errW_some] <;> rfl) | (simp [*, errW_none, errW_some] <;> rfl), by repeat (first | (with_reducible first | exact HB.out | apply below_alloc | apply pw_below_drewN | apply below_drew1) | exact HB.out)⟩

/-- THE ONE PURE STATEMENT of stowagelaw24_PercentBack: yours. -/
def stowagelaw24_PercentBack.Pure : Prop := ∀ (a0 : ByteArray) (a1 : Bool) (a2 : Bool), a0.size ≤ 140737488351232 → ∃ k, stowagelaw24_PercentBack.f k a0 a1 a2 = some true
theorem stowagelaw24_PercentBack.walk (P : stowagelaw24_PercentBack.Pure) (a0 : ByteArray) (a1 : Bool) (a2 : Bool) (w : World) (w0 : a0.size ≤ 140737488351232) :
    Calls Tryd.prog 5 #[.string a0, .bool a1, .bool a2] w fun e w' => e = .returned (.bool true) ∧ Below w.heap.size w w' := by
  obtain ⟨k, h⟩ := P a0 a1 a2 w0
  refine (stowagelaw24_PercentBack.calls k a0 a1 a2 true w h).mono ?_
  rintro e w' ⟨rfl, hd⟩
  exact ⟨rfl, hd⟩

end Go.Proofs.YthnhfbdoielekaaDoor.Pr
end
section
/- Percent: the chapter's examples (by the kernel), and what is encoded is decoded as it was: plain. -/
namespace Go.Proofs.YthnhfbdoielekaaDoor
open Go.RowKit
set_option linter.unusedVariables false
set_option linter.unusedSimpArgs false
theorem known_f : Pr.stowagelaw24_PercentKnown.f 60 = some true := by decide +kernel
theorem pknown_any (w : World) : Calls Tryd.prog 4 #[] w fun e w' => e = .returned (.bool true) ∧ Below w.heap.size w w' := Pr.stowagelaw24_PercentKnown.calls 60 true w known_f
theorem hex_back (c : UInt8) : hexMB (hexD (c.toNat / 16)) (hexD (c.toNat % 16)) = c ∧ ¬ hexM (hexD (c.toNat / 16)).toNat < 0 ∧ ¬ hexM (hexD (c.toNat % 16)).toNat < 0 := by
  have h : ∀ i : Fin 256, hexMB (hexD (i.1 / 16)) (hexD (i.1 % 16)) = UInt8.ofNat i.1 ∧ ¬ hexM (hexD (i.1 / 16)).toNat < 0 ∧ ¬ hexM (hexD (i.1 % 16)).toNat < 0 := by decide +kernel
  have := h ⟨c.toNat, c.toNat_lt⟩
  simpa using this
theorem plain_may (sl : Bool) (c : UInt8) (h : (plainP c.toNat || sl && decide ((c.toNat : Int) = 47)) = true) : c ≠ 37 ∧ c ≠ 43 ∧ ¬ c.toNat < 33 ∧ ¬ 126 < c.toNat := by
  have hh : ∀ i : Fin 256, (plainP i.1 || decide ((i.1 : Int) = 47)) = true → UInt8.ofNat i.1 ≠ 37 ∧ UInt8.ofNat i.1 ≠ 43 ∧ ¬ i.1 < 33 ∧ ¬ 126 < i.1 := by decide +kernel
  have := hh ⟨c.toNat, c.toNat_lt⟩ (by cases sl <;> simp_all)
  simpa using this
theorem pdec_penc (bl sl : Bool) : ∀ l : List UInt8, pdec bl (pencGo sl l) = some l
  | [] => rfl
  | c :: r => by
    have ih := pdec_penc bl sl r
    by_cases h : (plainP c.toNat || sl && decide ((c.toNat : Int) = 47)) = true
    · obtain ⟨h1, h2, h3, h4⟩ := plain_may sl c h
      rw [pencGo, if_pos h]
      simp only [List.cons_append, List.nil_append]
      rw [pdec_plain bl c _ h1 (fun e => h2 e.1), if_neg h3, if_neg h4, ih]
      rfl
    · obtain ⟨h1, h2, h3⟩ := hex_back c
      rw [pencGo, if_neg h]
      simp only [List.cons_append, List.nil_append]
      rw [pdec_pct, if_neg h2, if_neg h3, ih, h1]
      rfl
theorem pdec_len (bl : Bool) : ∀ (n : Nat) (l m : List UInt8), l.length ≤ n → pdec bl l = some m → m.length ≤ l.length
  | _, [], m, _, h => by cases h; simp
  | 0, c :: r, m, hn, h => by simp at hn
  | n + 1, c :: r, m, hn, h => by
    simp only [List.length_cons] at hn
    by_cases h37 : c = 37
    · subst h37
      match r, hn, h with
      | [], _, h => rw [pdec_short bl [] (by simp)] at h; cases h
      | [a], _, h => rw [pdec_short bl [a] (by simp)] at h; cases h
      | a :: b :: r', hn, h =>
        rw [pdec_pct] at h
        split at h
        · cases h
        · split at h
          · cases h
          · cases hr : pdec bl r' with
            | none => rw [hr] at h; cases h
            | some q =>
              rw [hr] at h
              cases h
              have := pdec_len bl n r' q (by simp only [List.length_cons] at hn; omega) hr
              simp
              omega
    · by_cases hp : c = 43 ∧ bl = true
      · obtain ⟨rfl, rfl⟩ := hp
        rw [pdec_plus] at h
        cases hr : pdec true r with
        | none => rw [hr] at h; cases h
        | some q =>
          rw [hr] at h
          cases h
          have := pdec_len true n r q (by omega) hr
          simp
          omega
      · rw [pdec_plain bl c r h37 hp] at h
        split at h
        · cases h
        · split at h
          · cases h
          · cases hr : pdec bl r with
            | none => rw [hr] at h; cases h
            | some q =>
              rw [hr] at h
              cases h
              have := pdec_len bl n r q (by omega) hr
              simp
              omega
theorem penc_len (sl : Bool) : ∀ l : List UInt8, (pencGo sl l).length ≤ 3 * l.length
  | [] => by simp [pencGo]
  | c :: r => by
    have := penc_len sl r
    rw [pencGo, List.length_append]
    simp only [List.length_cons]
    split <;> simp <;> omega
theorem pDecode_f (s : ByteArray) (bl : Bool) (hs : s.size ≤ 1000000) : Pr.percent_Decode.f s bl = some (if 2048 < s.size then ((⟨#[]⟩ : ByteArray), (3 : Int)) else match pdec bl s.data.toList with | some l => ((⟨l.toArray⟩ : ByteArray), (0 : Int)) | none => ((⟨#[]⟩ : ByteArray), (4 : Int))) := by
  unfold Pr.percent_Decode.f
  by_cases h : 2048 < s.size
  · rw [if_pos (by omega), if_pos h]
  · rw [if_neg (by omega), if_neg h]
    unfold Pr.percent_decoded.f
    rw [if_pos hs]
    cases hd : pdec bl s.data.toList <;> simp
theorem back_f (s : ByteArray) (sl bl : Bool) : Pr.stowagelaw24_PercentBack.f 60 s sl bl = some true := by
  unfold Pr.stowagelaw24_PercentBack.f
  rw [known_f, Option.bind_some]
  by_cases h : 3000 < s.size
  · rw [if_pos (by omega)]
  · rw [if_neg (by omega)]
    have he : Pr.percent_Encode.f s sl = some ⟨(pencGo sl s.data.toList).toArray⟩ := by unfold Pr.percent_Encode.f; rw [if_pos (by omega)]
    have hl := penc_len sl s.data.toList
    have hsz : (⟨(pencGo sl s.data.toList).toArray⟩ : ByteArray).size = (pencGo sl s.data.toList).length := by rw [bs_len]
    have hss : s.data.toList.length = s.size := by rw [bs_len]
    rw [he, Option.bind_some, pDecode_f _ bl (by omega), Option.bind_some]
    by_cases h2 : 2048 < (pencGo sl s.data.toList).length
    · rw [if_pos (by rw [hsz]; omega), if_pos rfl, if_pos (by rw [hsz]; omega)]
      rfl
    · rw [if_neg (by rw [hsz]; omega)]
      have hd : (⟨(pencGo sl s.data.toList).toArray⟩ : ByteArray).data.toList = pencGo sl s.data.toList := by simp
      rw [if_neg (by rw [hsz]; omega), hd, pdec_penc]
      rw [pDecode_f s bl (by omega), Option.bind_some]
      simp only [if_true]
      by_cases h3 : 2048 < s.size
      · rw [if_pos h3]; rfl
      · rw [if_neg h3]
        cases hp : pdec bl s.data.toList with
        | none => rfl
        | some m =>
          have := pdec_len bl _ _ m (Nat.le_refl _) hp
          simp only [if_true]
          congr 1
          simp only [decide_eq_true_eq]
          rw [show (⟨m.toArray⟩ : ByteArray).size = m.length by rw [bs_len]]
          omega
theorem pback_any (s : ByteArray) (sl bl : Bool) (w : World) : Calls Tryd.prog 5 #[.string s, .bool sl, .bool bl] w fun e w' => e = .returned (.bool true) ∧ Below w.heap.size w w' := Pr.stowagelaw24_PercentBack.calls 60 s sl bl true w (back_f s sl bl)
end Go.Proofs.YthnhfbdoielekaaDoor
end
section
/- The reference of percent: find, Query (beside the program's answer, 'queryV'). -/
namespace Go.Proofs.YthnhfbdoielekaaDoor
open Go.RowKit
open Go.Proofs.YthnhfbdoielekaaDoorW.PrintMore (min2_int min_two)
attribute [local go_sem] min2_int min_two
set_option linter.unusedVariables false
set_option linter.unusedSimpArgs false
/-- Where a byte stands first; the length, if it does not. -/
def fndL (c : UInt8) : List UInt8 → Nat
  | [] => 0
  | x :: r => if x = c then 0 else fndL c r + 1
theorem fndL_le (c : UInt8) : ∀ l, fndL c l ≤ l.length
  | [] => Nat.le_refl _
  | x :: r => by
    have := fndL_le c r
    unfold fndL
    split
    · simp
    · simp; omega
theorem byteAt (s : ByteArray) (j : Nat) (h : j < s.size) : Go.Proofs.YthnhfbdoielekaaDoorW.PrintWords.bt s (j : Int) = ((s[j]'h).toNat : Int) := by
  unfold Go.Proofs.YthnhfbdoielekaaDoorW.PrintWords.bt
  simp [h]
theorem wrap_succ (j n : Nat) (h : j < n) (hn : n ≤ 1000000) : wrap64 ((j : Int) + 1) = ((j + 1 : Nat) : Int) := by unfold wrap64; omega
theorem find_l0 (s : ByteArray) (c : UInt8) (hs : s.size ≤ 1000000) : ∀ (d k j : Nat), j + d = s.size → d < k → Pr.stowageref24_find.l0 k s (c.toNat : Int) (j : Int) = some ((j + fndL c (s.data.toList.drop j) : Nat) : Int)
  | d, 0, j, _, h => by omega
  | 0, k + 1, j, hj, _ => by
    simp only [Pr.stowageref24_find.l0]
    rw [if_neg (by omega), List.drop_of_length_le (by simp; omega)]
    simp [fndL]
    omega
  | d + 1, k + 1, j, hj, hk => by
    have hlt : j < s.size := by omega
    obtain ⟨b, hb, hd⟩ := next_at s j hlt
    simp only [Pr.stowageref24_find.l0]
    rw [if_pos (by omega), if_pos (by omega), byteAt s j hlt, hb, hd]
    by_cases hc : b = c
    · subst hc
      rw [if_pos rfl]
      simp [fndL]
    · rw [if_neg (by intro e; exact hc (UInt8.toNat_inj.1 (by omega))), wrap_succ j s.size hlt hs, find_l0 s c hs d k (j + 1) (by omega) (by omega)]
      simp [fndL, hc]
      omega
theorem find_f (s : ByteArray) (c : UInt8) (k : Nat) (hs : s.size ≤ 1000000) (hk : s.size < k) : Pr.stowageref24_find.f k s (c.toNat : Int) = some (fndL c s.data.toList : Int) := by
  have h := find_l0 s c hs s.size k 0 (by omega) hk
  simpa [Pr.stowageref24_find.f] using h
theorem rfind_any (s : ByteArray) (c : UInt8) (w : World) (hs : s.size ≤ 1000000) : Calls Tryd.prog 20 #[.string s, .int .u8 c.toNat] w fun e w' => e = .returned (.int .i64 (fndL c s.data.toList)) ∧ ∃ n, w' = w.drewN n :=
  (Pr.stowageref24_find.calls _ s _ _ w (find_f s c (s.size + 1) hs (by omega))).mono fun _ _ h => ⟨h.1, h.2.out⟩
theorem rdec_any (s : ByteArray) (bl : Bool) (w : World) (hs : s.size ≤ 1000000) :
    Calls Tryd.prog 21 #[.string s, .bool bl] w fun e w' => e = .returned (.tuple #[.string ⟨((pdec bl s.data.toList).getD []).toArray⟩, .bool (pdec bl s.data.toList).isSome]) ∧ Below w.heap.size w w' := by
  refine (rmdecoded_any s bl w hs).mono ?_
  rintro e w' ⟨h1, h2, hb⟩
  cases h : pdec bl s.data.toList with
  | none => exact ⟨h1 h, hb⟩
  | some l => exact ⟨h2 l h, hb⟩
theorem cutF_fnd (c : UInt8) : ∀ l, cutF c l = (l.take (fndL c l), l.drop (fndL c l + 1))
  | [] => rfl
  | x :: r => by
    have ih := cutF_fnd c r
    unfold cutF cutAt fndL
    by_cases h : x = c
    · simp [h]
    · unfold cutF at ih
      rw [if_neg h, if_neg h]
      cases hc : cutAt c r with
      | none => rw [hc] at ih; simp only [Option.getD_none, Prod.mk.injEq] at ih; simp [← ih.1, ← ih.2]
      | some p => rw [hc] at ih; simp only [Option.getD_some] at ih; simp [ih]
theorem fndL_index (c : UInt8) : ∀ l, (Lib.indexByte l c = -1 ∧ fndL c l = l.length) ∨ (Lib.indexByte l c = fndL c l ∧ fndL c l < l.length)
  | [] => .inl ⟨rfl, rfl⟩
  | x :: r => by
    unfold Lib.indexByte fndL
    by_cases h : x = c
    · right; simp [h]
    · have h' : (x == c) = false := by simpa using h
      rw [h', if_neg h]
      rcases fndL_index c r with ⟨h1, h2⟩ | ⟨h1, h2⟩
      · left; simp [h1, h2]
      · right
        have hn : ¬ (fndL c r : Int) = -1 := by omega
        have hb : ((fndL c r : Int) == -1) = false := by simp
        simp only [h1, hb, Bool.false_eq_true, if_false]
        simp
        omega
theorem stepQ_nil (o : Option (List PairP)) : stepQ o [] = o := by
  cases o with
  | none => rfl
  | some l => simp [stepQ, partQ]
theorem fold_nil (m : Nat) (o : Option (List PairP)) : (splitN [38] m []).foldl stepQ o = o := by
  have h : splitN [38] m [] = [[]] := by
    cases m with
    | zero => rfl
    | succ m => unfold splitN; rw [if_pos (by decide)]
  rw [h]
  simp [stepQ_nil]
/-- One step of the reference's loop. -/
theorem fold_step (m : Nat) (r : List UInt8) (o : Option (List PairP)) : (splitN [38] (m + 1) r).foldl stepQ o = (splitN [38] m (r.drop (fndL 38 r + 1))).foldl stepQ (stepQ o (r.take (fndL 38 r))) := by
  rw [splitN, index_one]
  rcases fndL_index 38 r with ⟨h1, h2⟩ | ⟨h1, h2⟩
  · rw [if_pos (by omega), h2, List.take_length, List.drop_of_length_le (by omega), fold_nil]
    rfl
  · rw [if_neg (by omega), h1, Int.toNat_natCast]
    rfl
def strLen : Value → Nat
  | .string s => s.size
  | _ => 0
def qV : Option (List PairP) → List PairP × Int
  | none => ([], 4)
  | some o => if 32 < o.length then ([], 8) else (o, 0)
theorem queryV_qV (l : List UInt8) (h : ¬ 2048 < l.length) : queryV l = qV (partsQ (splitN [38] l.length l)) := by
  unfold queryV
  rw [if_neg h]
  cases partsQ (splitN [38] l.length l) <;> rfl
theorem infoPr2 : (Tryd.prog.info? 32).map (fun i => (i.zero, i.size, i.bytes)) = some (some (.agg #[.string ⟨#[]⟩, .string ⟨#[]⟩]), 2, 32) := by kernel_rfl
theorem own_drewN {W : World} {base : Nat} {e : TypeId} {size n : Nat} {v : Value} {xs : List Value} (h : W.ownsRow base e size v n xs) (k : Nat) : (W.drewN k).ownsRow base e size v n xs := by
  refine h.kept (row := none) ⟨rfl, rfl, rfl, Nat.le_refl _, fun j hj _ => rfl⟩ ?_
  rcases h.2 with ⟨rfl, _⟩ | ⟨g, cap, cur, rfl, _⟩
  · exact .inl rfl
  · exact .inr (by simp [Value.ownBlock])
def RqR (w : World) (Q : Option (List PairP)) (v o : Value) (wr : World) : Prop := ∃ (r : List UInt8) (m : Nat) (acc : List PairP), v = .string ⟨r.toArray⟩ ∧ r.length ≤ m ∧ m ≤ 2048 ∧ acc.length + m ≤ 2048 ∧ wr.ownsRow w.heap.size 32 2 o acc.length (acc.flatMap pairC) ∧ Below w.heap.size w wr ∧ Hid ((splitN [38] m r).foldl stepQ (some acc) = Q)
set_option maxRecDepth 100000 in
set_option maxHeartbeats 4000000 in
theorem rquery_any (s : ByteArray) (w : World) (hs : s.size ≤ 1000000) :
    Calls Tryd.prog 8 #[.string s] w fun e w' => ∃ v, e = .returned (.tuple #[v, .int .i64 (queryV s.data.toList).2]) ∧ w'.ownsRow w.heap.size 32 2 v (queryV s.data.toList).1.length ((queryV s.data.toList).1.flatMap pairC) ∧ Below w.heap.size w w' := by
  by_cases hlong : 2048 < s.size
  · have HV := Lib.hid (show queryV s.data.toList = ([], 3) by unfold queryV; rw [if_pos (by rw [← bs_len]; exact hlong)])
    go_enter Tryd.func8, Tryd.ntmps8
    go_wp2
    go_ret2
    exact ⟨.slice none 0 0, by rw [HV.out]; rfl, by rw [HV.out]; exact World.ownsRow_nil _ _ _ _, Below.refl _ _⟩
  · have hl2 : (s.size : Int) ≤ 2048 := by omega
    obtain ⟨L, rfl⟩ : ∃ L : List UInt8, s = ⟨L.toArray⟩ := ⟨s.data.toList, bs_mk rfl⟩
    have hL : (⟨L.toArray⟩ : ByteArray).data.toList = L := by simp
    have hLl : L.length ≤ 2048 := by rw [← hL, ← bs_len]; omega
    obtain ⟨i0, hi, hz0, hz1, hz2⟩ := info_parts infoPr2
    obtain ⟨Q, hQ⟩ : ∃ Q, partsQ (splitN [38] L.length L) = Q := ⟨_, rfl⟩
    have HV := Lib.hid (show queryV L = qV Q by rw [queryV_qV L (by omega), hQ])
    have HQ := Lib.hid hQ
    rw [hL]
    clear hQ hL
    go_enter Tryd.func8, Tryd.ntmps8
    go_wp2
    go_loopw [0, 4] (fun v o wr => RqR w Q v o wr) (fun v _ _ => strLen v)
    case atStart => exact ⟨L, L.length, [], rfl, Nat.le_refl _, hLl, by simpa using hLl, World.ownsRow_nil _ _ _ _, Below.refl _ _, HQ⟩
    case round =>
      obtain ⟨r, m, acc, rfl, hrm, hm, ham, ho, hb, H⟩ := hrel
      have htl : (⟨r.toArray⟩ : ByteArray).toList = r := by rw [bs_toList]
      have hdl : (⟨r.toArray⟩ : ByteArray).data.toList = r := by simp
      have hsz : (⟨r.toArray⟩ : ByteArray).size = r.length := by rw [bs_len]
      by_cases hr : r = []
      · subst hr
        have hfin : Q = some acc := by rw [← H.out, fold_nil]
        have HF := Lib.hid hfin
        obtain ⟨A, c, rfl⟩ := slice_form ho
        clear hfin H
        by_cases h32 : 32 < acc.length
        · have h32' : (32 : Int) < (acc.length : Int) := by omega
          go_wp2
          go_ret2
          have hv : qV (some acc) = ([], 8) := by simp [qV, h32]
          exact ⟨.slice none 0 0, by rw [HV.out, HF.out, hv]; rfl, by rw [HV.out, HF.out, hv]; exact World.ownsRow_nil _ _ _ _, hb⟩
        · have h32' : ¬ (32 : Int) < (acc.length : Int) := by omega
          go_wp2
          go_ret2
          have hv : qV (some acc) = (acc, 0) := by simp [qV, h32]
          exact ⟨.slice A acc.length c, by rw [HV.out, HF.out, hv]; rfl, by rw [HV.out, HF.out, hv]; exact ho, hb⟩
      · obtain ⟨m1, rfl⟩ : ∃ m1, m = m1 + 1 := ⟨m - 1, by have : r.length ≠ 0 := fun e => hr (List.eq_nil_of_length_eq_zero e); omega⟩
        have hst := H.out
        rw [fold_step] at hst
        have hfl := fndL_le 38 r
        have q1 : ((⟨r.toArray⟩ : ByteArray).toList == []) = false := by rw [htl]; simpa using hr
        have q2 : (⟨r.toArray⟩ : ByteArray).toList.isEmpty = false := by rw [htl]; simpa using hr
        have q3 : r.isEmpty = false := by simpa using hr
        have hf1 := fun W => rfind_any ⟨r.toArray⟩ 38 W (by rw [hsz]; omega)
        rw [hdl] at hf1
        obtain ⟨k, hk⟩ : ∃ k, fndL 38 r = k := ⟨_, rfl⟩
        rw [hk] at hf1 hst hfl
        have e1 : (⟨r.toArray⟩ : ByteArray).extract 0 k = ⟨(r.take k).toArray⟩ := bs_mk (by simp [ByteArray.data_extract, List.extract_eq_take_drop])
        obtain ⟨j, hj, hjd, hjl⟩ : ∃ j : Nat, (if (r.length : Int) < (k : Int) + 1 then (r.length : Int) else (k : Int) + 1) = (j : Int) ∧ r.drop j = r.drop (k + 1) ∧ j ≤ r.length := by
          by_cases h : r.length < k + 1
          · exact ⟨r.length, if_pos (by omega), by rw [List.drop_of_length_le (Nat.le_refl _), List.drop_of_length_le (by omega)], Nat.le_refl _⟩
          · exact ⟨k + 1, by rw [if_neg (by omega)]; simp, rfl, by omega⟩
        have e2 : (⟨r.toArray⟩ : ByteArray).extract j r.length = ⟨(r.drop (k + 1)).toArray⟩ := bs_mk (by
          simp only [ByteArray.data_extract, Array.toList_extract, List.extract_eq_take_drop]
          rw [hjd]
          exact List.take_of_length_le (by simp; omega))
        have g1 := fun W => run_slice_string_h (P := Tryd.prog) (w := W) 9 (⟨r.toArray⟩ : ByteArray) Tryd.underlying9 .i64 (k : Int) (by omega) (by omega)
        have g2 := fun W => run_slice_string_l (P := Tryd.prog) (w := W) 9 (⟨r.toArray⟩ : ByteArray) Tryd.underlying9 .i64 (j : Int) (by omega) (by omega)
        simp only [Int.toNat_natCast, hsz, e1, e2] at g1 g2
        obtain ⟨X, hX⟩ : ∃ X, r.take k = X := ⟨_, rfl⟩
        obtain ⟨R, hR⟩ : ∃ R, r.drop (k + 1) = R := ⟨_, rfl⟩
        have hXl : X.length ≤ 2048 := by rw [← hX]; simp; omega
        have hRl : R.length ≤ m1 ∧ R.length < r.length := by
          rw [← hR]
          simp
          have : r.length ≠ 0 := fun e => hr (List.eq_nil_of_length_eq_zero e)
          omega
        rw [hX, hR] at hst
        rw [hX] at g1
        rw [hR] at g2
        have HM := Lib.hid (show strLen (.string ⟨R.toArray⟩) < strLen (.string ⟨r.toArray⟩) by show (⟨R.toArray⟩ : ByteArray).size < (⟨r.toArray⟩ : ByteArray).size; rw [hsz, bs_len]; simpa using hRl.2)
        have hk2 : (k : Int) ≤ 2048 := by omega
        clear e1 e2 hjd hX hR hk hr htl hdl hsz H
        by_cases hX : X = []
        · subst hX
          rw [stepQ_nil] at hst
          have HN := Lib.hid hst
          clear hst
          go_wp2_with (go_at_call 20; refine (hf1 _).mono ?_; clear hf1; rintro e w2 ⟨rfl, nd, rfl⟩)
          go_roundw
          case rel =>
            have HR : RqR w Q (.string ⟨R.toArray⟩) u4 (wr.drewN nd) := ⟨R, m1, acc, rfl, hRl.1, by omega, by omega, own_drewN ho _, below_drewN hb _, HN⟩
            first | exact HR | ((repeat apply Exists.intro); refine ⟨HR, ?_⟩; first | rfl | (repeat' (first | apply And.intro | rfl)))
          case measure => exact HM.out
        · have htX : (⟨X.toArray⟩ : ByteArray).toList = X := by rw [bs_toList]
          have hdX : (⟨X.toArray⟩ : ByteArray).data.toList = X := by simp
          have hsX : (⟨X.toArray⟩ : ByteArray).size = X.length := by rw [bs_len]
          have p1 : ((⟨X.toArray⟩ : ByteArray).toList == []) = false := by rw [htX]; simpa using hX
          have p2 : (⟨X.toArray⟩ : ByteArray).toList.isEmpty = false := by rw [htX]; simpa using hX
          have p3 : X.isEmpty = false := by simpa using hX
          have hf2 := fun W => rfind_any ⟨X.toArray⟩ 61 W (by rw [hsX]; omega)
          rw [hdX] at hf2
          have hcF := cutF_fnd 61 X
          have hfl2 := fndL_le 61 X
          obtain ⟨k2, hk2e⟩ : ∃ k2, fndL 61 X = k2 := ⟨_, rfl⟩
          rw [hk2e] at hf2 hcF hfl2
          obtain ⟨a, ha⟩ : ∃ a, X.take k2 = a := ⟨_, rfl⟩
          obtain ⟨b, hb'⟩ : ∃ b, X.drop (k2 + 1) = b := ⟨_, rfl⟩
          rw [ha, hb'] at hcF
          obtain ⟨j2, hj2, hjd2, hjl2⟩ : ∃ j : Nat, (if (X.length : Int) < (k2 : Int) + 1 then (X.length : Int) else (k2 : Int) + 1) = (j : Int) ∧ X.drop j = X.drop (k2 + 1) ∧ j ≤ X.length := by
            by_cases h : X.length < k2 + 1
            · exact ⟨X.length, if_pos (by omega), by rw [List.drop_of_length_le (Nat.le_refl _), List.drop_of_length_le (by omega)], Nat.le_refl _⟩
            · exact ⟨k2 + 1, by rw [if_neg (by omega)]; simp, rfl, by omega⟩
          have f1 : (⟨X.toArray⟩ : ByteArray).extract 0 k2 = ⟨a.toArray⟩ := bs_mk (by simp [ByteArray.data_extract, List.extract_eq_take_drop, ha])
          have f2 : (⟨X.toArray⟩ : ByteArray).extract j2 X.length = ⟨b.toArray⟩ := bs_mk (by
            simp only [ByteArray.data_extract, Array.toList_extract, List.extract_eq_take_drop]
            rw [hjd2, hb']
            exact List.take_of_length_le (by rw [← hb']; simp; omega))
          have g3 := fun W => run_slice_string_h (P := Tryd.prog) (w := W) 9 (⟨X.toArray⟩ : ByteArray) Tryd.underlying9 .i64 (k2 : Int) (by omega) (by omega)
          have g4 := fun W => run_slice_string_l (P := Tryd.prog) (w := W) 9 (⟨X.toArray⟩ : ByteArray) Tryd.underlying9 .i64 (j2 : Int) (by omega) (by omega)
          simp only [Int.toNat_natCast, hsX, f1, f2] at g3 g4
          have hal : a.length ≤ 2048 ∧ b.length ≤ 2048 := by rw [← ha, ← hb']; simp; omega
          have hA := fun V => rdec_any ⟨a.toArray⟩ true V (by rw [bs_len]; simp; omega)
          have hB := fun V => rdec_any ⟨b.toArray⟩ true V (by rw [bs_len]; simp; omega)
          simp only [show (⟨a.toArray⟩ : ByteArray).data.toList = a by simp, show (⟨b.toArray⟩ : ByteArray).data.toList = b by simp] at hA hB
          have hpq : partQ X = match pdec true a, pdec true b with | some a, some b => some [(a, b)] | _, _ => none := by unfold partQ; rw [if_neg hX, hcF] <;> rfl
          have hk2' : (k2 : Int) ≤ 2048 := by omega
          clear f1 f2 hjd2 ha hb' hk2e hcF htX hdX hsX hX
          cases ha : pdec true a with
          | none =>
            obtain ⟨vb, hvb⟩ : ∃ vb, ((pdec true b).getD []).toArray = vb := ⟨_, rfl⟩
            obtain ⟨ob, hob⟩ : ∃ ob, (pdec true b).isSome = ob := ⟨_, rfl⟩
            rw [hvb, hob] at hB
            rw [ha] at hA hpq
            simp only [Option.getD_none, Option.isSome_none] at hA
            have hn : Q = none := by rw [← hst]; unfold stepQ; rw [hpq]; exact stepQ_none _
            have HN := Lib.hid hn
            clear hn hst hvb hob ha hpq
            go_wp2_with first
              | (go_at_call 20; refine (hf1 _).mono ?_; clear hf1; rintro e w2 ⟨rfl, nd, rfl⟩)
              | (go_at_call 20; refine (hf2 _).mono ?_; clear hf2; rintro e w3 ⟨rfl, nd2, rfl⟩)
              | (go_at_call 21; refine (hA _).mono ?_; clear hA; rintro e w4 ⟨rfl, hb4⟩)
              | (go_at_call 21; refine (hB _).mono ?_; clear hB; rintro e w5 ⟨rfl, hb5⟩)
            go_ret2
            have hv : qV none = ([], 4) := rfl
            exact ⟨.slice none 0 0, by rw [HV.out, HN.out, hv]; rfl, by rw [HV.out, HN.out, hv]; exact World.ownsRow_nil _ _ _ _, (hb.trans (((below_drewN (Below.refl _ _) (nd + nd2)).trans hb4).mono hb.size |>.trans (hb5.mono (Nat.le_trans hb.size hb4.size))))⟩
          | some a' =>
            rw [ha] at hA hpq
            simp only [Option.getD_some, Option.isSome_some] at hA
            clear ha
            cases hbb : pdec true b with
            | none =>
              rw [hbb] at hB hpq
              simp only [Option.getD_none, Option.isSome_none] at hB
              have hn : Q = none := by rw [← hst]; unfold stepQ; rw [hpq]; exact stepQ_none _
              have HN := Lib.hid hn
              clear hn hst hbb hpq
              go_wp2_with first
                | (go_at_call 20; refine (hf1 _).mono ?_; clear hf1; rintro e w2 ⟨rfl, nd, rfl⟩)
                | (go_at_call 20; refine (hf2 _).mono ?_; clear hf2; rintro e w3 ⟨rfl, nd2, rfl⟩)
                | (go_at_call 21; refine (hA _).mono ?_; clear hA; rintro e w4 ⟨rfl, hb4⟩)
                | (go_at_call 21; refine (hB _).mono ?_; clear hB; rintro e w5 ⟨rfl, hb5⟩)
              go_ret2
              have hv : qV none = ([], 4) := rfl
              exact ⟨.slice none 0 0, by rw [HV.out, HN.out, hv]; rfl, by rw [HV.out, HN.out, hv]; exact World.ownsRow_nil _ _ _ _, (hb.trans (((below_drewN (Below.refl _ _) (nd + nd2)).trans hb4).mono hb.size |>.trans (hb5.mono (Nat.le_trans hb.size hb4.size))))⟩
            | some b' =>
              rw [hbb] at hB hpq
              simp only [Option.getD_some, Option.isSome_some] at hB
              have hst2 : (splitN [38] m1 R).foldl stepQ (some (acc ++ [(a', b')])) = Q := by rw [← hst]; unfold stepQ; rw [hpq]
              have HN := Lib.hid hst2
              clear hst2 hst hbb hpq
              have hbnd1 : acc.length + 1 ≤ maxLen := by unfold maxLen; omega
              have hbnd2 : (acc.length + 1) * 32 ≤ 140737488355328 := by omega
              obtain ⟨Ao, co, rfl⟩ := slice_form ho
              go_wp2_with first
                | (go_at_call 20; refine (hf1 _).mono ?_; clear hf1; rintro e w2 ⟨rfl, nd, rfl⟩)
                | (go_at_call 20; refine (hf2 _).mono ?_; clear hf2; rintro e w3 ⟨rfl, nd2, rfl⟩)
                | (go_at_call 21; refine (hA _).mono ?_; clear hA; rintro e w4 ⟨rfl, hb4⟩)
                | (go_at_call 21; refine (hB _).mono ?_; clear hB; rintro e w5 ⟨rfl, hb5⟩; have hb6 : Below w.heap.size w w5 := (hb.trans (((below_drewN (Below.refl _ _) (nd + nd2)).trans hb4).mono hb.size |>.trans (hb5.mono (Nat.le_trans hb.size hb4.size)))); have ho6 := own_belowW (own_belowW (own_drewN ho (nd + nd2)) hb4) hb5)
                | (at_builtin; go_must (refine wpList_append_own _ rfl _ _ 22 rfl w.heap.size 32 i0 _ 2 32 Tryd.underlying22 hi hz0 hz1 hz2 rfl (by decide) _ _ _ rfl (ho6.alloc _) ⟨w5.heap.size, 0, none⟩ 1 1 [.string ⟨a'.toArray⟩, .string ⟨b'.toArray⟩] rfl rfl (cells_newL w5 [.string ⟨a'.toArray⟩, .string ⟨b'.toArray⟩] _) (by simp [Value.oneCell']) hbnd1 hbnd2 (by simp; exact Nat.le_succ_of_le hb6.size) ?_); intro v' w6 hown' hgrow _)
              have hb7 := (hb6.alloc hb6.size _).grown hgrow (by simp; exact Nat.le_succ_of_le hb6.size) (fun k hk => (ho6.lt k hk).1)
              exact ⟨⟨R, m1, acc ++ [(a', b')], rfl, hRl.1, by omega, by simp; omega, by simpa [pairC] using hown', hb7, HN⟩, HM.out⟩
end Go.Proofs.YthnhfbdoielekaaDoor
end
section
/- What the print does not take of percent's reference: decoded, Query; by their contracts, in the print's form. -/
namespace Go.Proofs.YthnhfbdoielekaaDoor.Pr
open Go.RowKit Go.Proofs.YthnhfbdoielekaaDoorW.PrintWords Go.Proofs.YthnhfbdoielekaaDoorW.PrintLast Go.Proofs.YthnhfbdoielekaaDoorW.PrintMore
set_option linter.unusedVariables false
set_option linter.unusedSimpArgs false
def stowageref24_decoded.f (s : ByteArray) (bl : Bool) : Option (ByteArray × Bool) := percent_decoded.f s bl
theorem stowageref24_decoded.calls (a0 : ByteArray) (a1 : Bool) (r1 : ByteArray) (r2 : Bool) (w : World) (h : stowageref24_decoded.f a0 a1 = some (r1, r2)) :
    Calls Tryd.prog 21 #[.string a0, .bool a1] w fun e w' => e = .returned (.tuple #[.string r1, .bool r2]) ∧ Below w.heap.size w w' := by
  unfold stowageref24_decoded.f percent_decoded.f at h
  split at h
  · rename_i hs
    simp only [Option.some.injEq, Prod.mk.injEq] at h
    obtain ⟨rfl, rfl⟩ := h
    exact rdec_any a0 a1 w hs
  · cases h
def stowageref24_Query.f (s : ByteArray) : Option (List (S32) × Int) := percent_Query.f s
theorem stowageref24_Query.calls (a0 : ByteArray) (r1 : List (S32)) (r2 : Int) (w : World) (h : stowageref24_Query.f a0 = some (r1, r2)) :
    Calls Tryd.prog 8 #[.string a0] w fun e w' => ∃ v0_ : Value, e = .returned (.tuple #[v0_, .int .i64 r2]) ∧ Kd.R k32 32 w' w.heap.size (fun _ => True) v0_ r1 ∧ Below w.heap.size w w' := by
  unfold stowageref24_Query.f percent_Query.f at h
  split at h
  · rename_i hs
    simp only [Option.some.injEq, Prod.mk.injEq] at h
    obtain ⟨rfl, rfl⟩ := h
    refine (rquery_any a0 w hs).mono ?_
    rintro e w' ⟨v, rfl, ho, hb⟩
    exact ⟨v, rfl, R_of_own (d := k32) pairS pairC (fun _ => rfl) _ (fun ok p => k32_mkM _ _ _ (pairS p)) ho, hb⟩
  · cases h
end Go.Proofs.YthnhfbdoielekaaDoor.Pr
end
section
namespace Go.Proofs.YthnhfbdoielekaaDoor.Pr
open Go.RowKit Go.Proofs.YthnhfbdoielekaaDoorW.PrintWords Go.Proofs.YthnhfbdoielekaaDoorW.PrintLast Go.Proofs.YthnhfbdoielekaaDoorW.PrintMore
attribute [local go_sem] max2_int min2_int max_two min_two max_three min_three max_four min_four   -- for this text's walks alone
attribute [local go_sem high] gtr_as_less leq_as_less
set_option linter.unusedVariables false
set_option linter.unusedSimpArgs false

/-! ### stowageref24_Target: function 10 -/
def stowageref24_Target.j0 : Nat → ByteArray → Bool → Option (ByteArray × (List (S32)) × Int)
  | 0, _, _ => none
  | k + 1, x0, x19 => if x19 = true then (some ((⟨#[]⟩ : ByteArray), ([] : List (S32)), 4)) else ((stowageref24_find.f k x0 63).bind fun t112 => (if 0 ≤ t112 then (if t112 ≤ (x0.size : Int) then ((stowageref24_decoded.f (x0.extract 0 (t112 : Int).toNat) false).bind fun bt113 => (if bt113.2 = true then (if 0 ≤ (mn (wrap64 (t112 + 1)) (x0.size : Int)) then (if (mn (wrap64 (t112 + 1)) (x0.size : Int)) ≤ (x0.size : Int) then ((stowageref24_Query.f (x0.extract ((mn (wrap64 (t112 + 1)) (x0.size : Int)) : Int).toNat x0.size)).bind fun bt115 => (if bt115.2 = 0 then (some (bt113.1, bt115.1, 0)) else (some ((⟨#[]⟩ : ByteArray), ([] : List (S32)), bt115.2)))) else (none)) else (none)) else (some ((⟨#[]⟩ : ByteArray), ([] : List (S32)), 4)))) else (none)) else (none)))
def stowageref24_Target.f (k : Nat) (a0 : ByteArray) : Option (ByteArray × (List (S32)) × Int) := if (a0.size : Int) > 2048 then (some ((⟨#[]⟩ : ByteArray), ([] : List (S32)), 3)) else (if a0.toList = ([] : List UInt8) then (stowageref24_Target.j0 k a0 true) else (if 0 < (a0.size : Int) then (stowageref24_Target.j0 k a0 ((bt a0 0) != 47)) else (none)))
theorem stowageref24_Target.mono_l : ∀ k, (∀ y0 y1, LeO (stowageref24_Target.j0 k y0 y1) (stowageref24_Target.j0 (k + 1) y0 y1))
  | 0 => fun _ _ r h => by simp [stowageref24_Target.j0] at h
  | k + 1 => by
    have ih0 := stowageref24_Target.mono_l k
    · intro y0 y1
      unfold stowageref24_Target.j0
      repeat' first
      | (with_reducible exact ih0 _ _)
      | (with_reducible exact stowageref24_find.mono _ _ _)
      | (with_reducible exact LeO.refl _)
      | (with_reducible exact LeO.none _)
      | (with_reducible refine LeO.ite ?_ ?_)
      | (with_reducible refine LeO.bind ?_ (fun _ => ?_))
      | exact ih0 _ _
      | exact stowageref24_find.mono _ _ _
      | exact LeO.none _
      | refine LeO.ite ?_ ?_
      | refine LeO.bind ?_ (fun _ => ?_)
theorem stowageref24_Target.mono : ∀ a0 k, LeO (stowageref24_Target.f k a0) (stowageref24_Target.f (k + 1) a0) := by
  intro a0 k
  have ih0 := stowageref24_Target.mono_l k
  unfold stowageref24_Target.f
  repeat' first
      | (with_reducible exact ih0 _ _)
      | (with_reducible exact stowageref24_find.mono _ _ _)
      | (with_reducible exact LeO.refl _)
      | (with_reducible exact LeO.none _)
      | (with_reducible refine LeO.ite ?_ ?_)
      | (with_reducible refine LeO.bind ?_ (fun _ => ?_))
      | exact ih0 _ _
      | exact stowageref24_find.mono _ _ _
      | exact LeO.none _
      | refine LeO.ite ?_ ?_
      | refine LeO.bind ?_ (fun _ => ?_)
set_option maxHeartbeats 8000000 in
set_option maxRecDepth 100000 in
theorem stowageref24_Target.calls (k : Nat) (a0 : ByteArray) (r1 : ByteArray) (r2 : List (S32)) (r3 : Int) (w : World) (h : stowageref24_Target.f k a0 = some (r1, r2, r3)) :
    Calls Tryd.prog 10 #[.string a0] w fun e w' => ∃ v1_ : Value, e = .returned (.tuple #[.string r1, v1_, .int .i64 r3]) ∧ Kd.R k32 32 w' w.heap.size (fun _ => True) v1_ r2 ∧ Below w.heap.size w w' := by
  have HB := Aside0.mk (Below.refl w.heap.size w)
  have H : (if (a0.size : Int) > 2048 then (some ((⟨#[]⟩ : ByteArray), ([] : List (S32)), 3)) else (if a0.toList = ([] : List UInt8) then (stowageref24_Target.j0 k a0 true) else (if 0 < (a0.size : Int) then (stowageref24_Target.j0 k a0 ((bt a0 0) != 47)) else (none)))) = some (r1, r2, r3) := h
  clear h
  by_cases c2 : (a0.size : Int) > 2048
  · rw [if_pos c2] at H
    have c2b0 : decide (2048 < (a0.size : Int)) = true := decide_eq_true c2
    have c2b1 : decide (2048 < a0.size) = true := decide_eq_true (by omega)
    clear c2
    simp only [Option.some.injEq, Prod.mk.injEq] at H
    obtain ⟨rfl, rfl, rfl⟩ := H
    go_enter Tryd.func10, Tryd.ntmps10
    go_wp2
    go_ret3
    exact ⟨_, by first | rfl | (simp [errW_none, errW_some] <;> rfl) | (simp [*, errW_none, errW_some] <;> rfl), by first | exact Kd.R_nil _ _ _ _ _ | exact Kd.N_nil _ _ _ _ _ | exact Kd.V_nil _ _ _ _ _ | exact Kd.Q_nil _ _ _ _ _ | exact Kd.S_nil _ _ _ _ _, by repeat (first | (with_reducible first | exact HB.out | apply below_alloc | apply pw_below_drewN | apply below_drew1) | exact HB.out)⟩
  · rw [if_neg c2] at H
    have c2b0 : decide (2048 < (a0.size : Int)) = false := decide_eq_false c2
    have c2b1 : decide (2048 < a0.size) = false := decide_eq_false (by omega)
    clear c2
    have HC3 := Aside0.mk H
    clear H
    go_enter Tryd.func10, Tryd.ntmps10
    go_upto_region 3 with (fail)
    go_cut [19] (fun v19 wc => ∃ (kq : Nat) (x19_2 : Bool), v19 = .bool x19_2 ∧ Aside0 (stowageref24_Target.j0 kq a0 x19_2 = some (r1, r2, r3)) ∧ Aside0 (kq ≤ k) ∧ Aside0 (Below w.heap.size w wc))
    case first =>
      have H := HC3.out
      clear HC3
      by_cases c4 : a0.toList = ([] : List UInt8)
      · rw [if_pos c4] at H
        have c4b0 : (a0.toList == ([] : List UInt8)) = true := beq_iff_eq.mpr c4
        have c4b1 : (a0.toList != ([] : List UInt8)) = false := bne_eq_false_iff_eq.mpr c4
        clear c4
        (first | rw [c4b0] | (simp only [i64_w, i32_w]; rw [c4b0]) | skip)
        have H' := Aside0.mk H
        clear H
        go_wp2
        go_meet
        case rel => exact ⟨_, (true), (by first | rfl | (simp; done) | (simp [*]; done)), H', ⟨by first | omega | exact Nat.le_refl _⟩, ⟨by repeat (first | (with_reducible first | exact HB.out | apply below_alloc | apply pw_below_drewN | apply below_drew1) | exact HB.out)⟩⟩
      · rw [if_neg c4] at H
        have c4b0 : (a0.toList == ([] : List UInt8)) = false := beq_eq_false_iff_ne.mpr c4
        have c4b1 : (a0.toList != ([] : List UInt8)) = true := bne_iff_ne.mpr c4
        (first | rw [c4b0] | (simp only [i64_w, i32_w]; rw [c4b0]) | skip)
        by_cases c5 : 0 < (a0.size : Int)
        · rw [if_pos c5] at H
          have c5b0 : decide (0 < (a0.size : Int)) = true := decide_eq_true c5
          have c5b1 : decide (0 < a0.size) = true := decide_eq_true (by omega)
          clear c5
          have H' := Aside0.mk H
          clear H
          have p6 : 0 ≤ (0 : Int) := (by omega)
          have q6 : 0 < a0.size := (by have : (0 : Int) < (a0.size : Int) := of_decide_eq_true (by first | (with_reducible assumption) | assumption); omega)
          have hx6 : ∀ h : 0 < a0.size, ((a0[0]'h).toNat : Int) = bt a0 0 := bt_at a0 0
          clear p6
          have qi6 : (0 < (a0.size : Int)) = True := eq_true (of_decide_eq_true (by first | (with_reducible assumption) | assumption))
          replace q6 := eq_true q6
          go_wp2
          go_meet
          case rel => exact ⟨_, (((bt a0 0) != 47)), (by first | rfl | (simp; done) | (simp [*]; done)), H', ⟨by first | omega | exact Nat.le_refl _⟩, ⟨by repeat (first | (with_reducible first | exact HB.out | apply below_alloc | apply pw_below_drewN | apply below_drew1) | exact HB.out)⟩⟩
        · rw [if_neg c5] at H
          exact absurd H (by simp)
    case rest =>
      clear HC3
      try clear c1
      try clear c2
      try clear c2b0
      try clear c2b1
      try clear p2
      try clear c4
      try clear c4b0
      try clear c4b1
      try clear c5
      try clear c5b0
      try clear c5b1
      try clear p6
      try clear q6
      try clear hx6
      try clear qi6
      try clear p6
      try clear q6
      obtain ⟨kq, x19_2, rfl, HA, HJ2, HB⟩ := hcut
      cases kq with
      | zero => exact absurd HA.out (by simp [stowageref24_Target.j0])
      | succ kj2 =>
        have H := HA.out
        clear HA
        simp only [stowageref24_Target.j0] at H
        by_cases c7 : x19_2 = true
        · subst c7
          have H1 : (some ((⟨#[]⟩ : ByteArray), ([] : List (S32)), 4)) = some (r1, r2, r3) := by rw [if_pos rfl] at H; exact H
          clear H
          have H := H1
          clear H1
          simp only [Option.some.injEq, Prod.mk.injEq] at H
          obtain ⟨rfl, rfl, rfl⟩ := H
          go_wp2
          go_ret3
          exact ⟨_, by first | rfl | (simp [errW_none, errW_some] <;> rfl) | (simp [*, errW_none, errW_some] <;> rfl), by first | exact Kd.R_nil _ _ _ _ _ | exact Kd.N_nil _ _ _ _ _ | exact Kd.V_nil _ _ _ _ _ | exact Kd.Q_nil _ _ _ _ _ | exact Kd.S_nil _ _ _ _ _, by repeat (first | (with_reducible first | exact HB.out | apply below_alloc | apply pw_below_drewN | apply below_drew1) | exact HB.out)⟩
        · replace c7 := Bool.eq_false_iff.mpr c7
          subst c7
          have H1 : ((stowageref24_find.f kj2 a0 63).bind fun t112 => (if 0 ≤ t112 then (if t112 ≤ (a0.size : Int) then ((stowageref24_decoded.f (a0.extract 0 (t112 : Int).toNat) false).bind fun bt113 => (if bt113.2 = true then (if 0 ≤ (mn (wrap64 (t112 + 1)) (a0.size : Int)) then (if (mn (wrap64 (t112 + 1)) (a0.size : Int)) ≤ (a0.size : Int) then ((stowageref24_Query.f (a0.extract ((mn (wrap64 (t112 + 1)) (a0.size : Int)) : Int).toNat a0.size)).bind fun bt115 => (if bt115.2 = 0 then (some (bt113.1, bt115.1, 0)) else (some ((⟨#[]⟩ : ByteArray), ([] : List (S32)), bt115.2)))) else (none)) else (none)) else (some ((⟨#[]⟩ : ByteArray), ([] : List (S32)), 4)))) else (none)) else (none))) = some (r1, r2, r3) := by rw [if_neg (show ¬ (false = true) by decide)] at H; exact H
          clear H
          have H := H1
          clear H1
          replace H := Option.bind_eq_some_iff.mp H
          obtain ⟨t112, A80, H⟩ := H
          replace H : (if 0 ≤ t112 then (if t112 ≤ (a0.size : Int) then ((stowageref24_decoded.f (a0.extract 0 (t112 : Int).toNat) false).bind fun bt113 => (if bt113.2 = true then (if 0 ≤ (mn (wrap64 (t112 + 1)) (a0.size : Int)) then (if (mn (wrap64 (t112 + 1)) (a0.size : Int)) ≤ (a0.size : Int) then ((stowageref24_Query.f (a0.extract ((mn (wrap64 (t112 + 1)) (a0.size : Int)) : Int).toNat a0.size)).bind fun bt115 => (if bt115.2 = 0 then (some (bt113.1, bt115.1, 0)) else (some ((⟨#[]⟩ : ByteArray), ([] : List (S32)), bt115.2)))) else (none)) else (none)) else (some ((⟨#[]⟩ : ByteArray), ([] : List (S32)), 4)))) else (none)) else (none)) = some (r1, r2, r3) := H
          have A8 := Aside0.mk A80
          clear A80
          by_cases c9 : 0 ≤ t112
          · rw [if_pos c9] at H
            have c9b0 := eq_true c9
            have c9b1 : decide (0 ≤ t112) = true := decide_eq_true c9
            clear c9
            by_cases c10 : t112 ≤ (a0.size : Int)
            · rw [if_pos c10] at H
              have c10b0 := eq_true c10
              have c10b1 : decide (t112 ≤ (a0.size : Int)) = true := decide_eq_true c10
              clear c10
              replace H := Option.bind_eq_some_iff.mp H
              obtain ⟨⟨t113, t114⟩, A110, H⟩ := H
              replace H : (if t114 = true then (if 0 ≤ (mn (wrap64 (t112 + 1)) (a0.size : Int)) then (if (mn (wrap64 (t112 + 1)) (a0.size : Int)) ≤ (a0.size : Int) then ((stowageref24_Query.f (a0.extract ((mn (wrap64 (t112 + 1)) (a0.size : Int)) : Int).toNat a0.size)).bind fun bt115 => (if bt115.2 = 0 then (some (t113, bt115.1, 0)) else (some ((⟨#[]⟩ : ByteArray), ([] : List (S32)), bt115.2)))) else (none)) else (none)) else (some ((⟨#[]⟩ : ByteArray), ([] : List (S32)), 4))) = some (r1, r2, r3) := H
              have A11 := Aside0.mk A110
              clear A110
              by_cases c12 : t114 = true
              · subst c12
                have H1 : (if 0 ≤ (mn (wrap64 (t112 + 1)) (a0.size : Int)) then (if (mn (wrap64 (t112 + 1)) (a0.size : Int)) ≤ (a0.size : Int) then ((stowageref24_Query.f (a0.extract ((mn (wrap64 (t112 + 1)) (a0.size : Int)) : Int).toNat a0.size)).bind fun bt115 => (if bt115.2 = 0 then (some (t113, bt115.1, 0)) else (some ((⟨#[]⟩ : ByteArray), ([] : List (S32)), bt115.2)))) else (none)) else (none)) = some (r1, r2, r3) := by rw [if_pos rfl] at H; exact H
                clear H
                have H := H1
                clear H1
                obtain ⟨ji13, hji13⟩ : ∃ j_ : Int, (mn (wrap64 (t112 + 1)) (a0.size : Int)) = j_ := ⟨_, rfl⟩
                replace H : (if 0 ≤ (ji13) then (if (ji13) ≤ (a0.size : Int) then ((stowageref24_Query.f (a0.extract ((ji13) : Int).toNat a0.size)).bind fun bt115 => (if bt115.2 = 0 then (some (t113, bt115.1, 0)) else (some ((⟨#[]⟩ : ByteArray), ([] : List (S32)), bt115.2)))) else (none)) else (none)) = some (r1, r2, r3) := by first | (rw [hji13] at H; exact H) | (simp only [hji13] at H ⊢; exact H)
                (try rw [hji13] at A8)
                (try rw [hji13] at A11)
                have hji13_ : (if (a0.size : Int) < (wrap64 (t112 + 1)) then (a0.size : Int) else (wrap64 (t112 + 1))) = ji13 := hji13
                by_cases c14 : 0 ≤ (ji13)
                · rw [if_pos c14] at H
                  have c14b0 := eq_true c14
                  have c14b1 : decide (0 ≤ (ji13)) = true := decide_eq_true c14
                  clear c14
                  by_cases c15 : (ji13) ≤ (a0.size : Int)
                  · rw [if_pos c15] at H
                    have c15b0 := eq_true c15
                    have c15b1 : decide ((ji13) ≤ (a0.size : Int)) = true := decide_eq_true c15
                    clear c15
                    replace H := Option.bind_eq_some_iff.mp H
                    obtain ⟨⟨t115, t116⟩, A160, H⟩ := H
                    replace H : (if t116 = 0 then (some (t113, t115, 0)) else (some ((⟨#[]⟩ : ByteArray), ([] : List (S32)), t116))) = some (r1, r2, r3) := H
                    have A16 := Aside0.mk A160
                    clear A160
                    by_cases c17 : t116 = 0
                    · rw [if_pos c17] at H
                      have c17b0 : (t116 == 0) = true := beq_iff_eq.mpr c17
                      have c17b1 : (t116 != 0) = false := bne_eq_false_iff_eq.mpr c17
                      clear c17
                      simp only [Option.some.injEq, Prod.mk.injEq] at H
                      obtain ⟨rfl, rfl, rfl⟩ := H
                      go_wp2_with (first | ((with_reducible refine gate_callee (f := 20) rfl ?_); refine goesL_ (some 21) rfl rfl Tryd.func20 (by kernel_rfl) rfl #[.string a0, .int .u8 63] rfl (by (try simp only [List.map_toArray, List.map_cons, List.map_nil]); first | done | rfl | (simp only [List.length_drop, List.length_take]; rfl)) ?_; (with_reducible refine (stowageref24_find.calls kj2 a0 63 t112 _ A8.out).mono ?_); rintro e w' ⟨rfl, ⟨nd, rfl⟩⟩; refine ⟨_, rfl, ?_⟩) | ((with_reducible refine gate_callee (f := 21) rfl ?_); refine goesL_ (some 26) rfl rfl Tryd.func21 (by kernel_rfl) rfl #[.string (a0.extract 0 (t112 : Int).toNat), .bool false] rfl (by (try simp only [List.map_toArray, List.map_cons, List.map_nil]); first | done | rfl | (simp only [List.length_drop, List.length_take]; rfl)) ?_; (with_reducible refine (stowageref24_decoded.calls (a0.extract 0 (t112 : Int).toNat) false t113 true _ A11.out).mono ?_); rintro e w18 ⟨rfl, hb⟩; refine ⟨_, rfl, ?_⟩; have n0_ := Aside0.mk (below_step (by repeat (first | (with_reducible first | exact HB.out | apply below_alloc | apply pw_below_drewN | apply below_drew1) | exact HB.out)) hb); clear HB; have HB := n0_; clear n0_; (try clear hb); (try clear hb2); (try clear hk); (try clear hi)) | ((with_reducible refine gate_callee (f := 8) rfl ?_); refine goesL_ (some 39) rfl rfl Tryd.func8 (by kernel_rfl) rfl #[.string (a0.extract ((ji13) : Int).toNat a0.size)] rfl (by (try simp only [List.map_toArray, List.map_cons, List.map_nil]); first | done | (simp only [hji13]; rfl) | rfl | (simp only [List.length_drop, List.length_take]; rfl)) ?_; (with_reducible refine (stowageref24_Query.calls (a0.extract ((ji13) : Int).toNat a0.size) t115 t116 _ A16.out).mono ?_); rintro e w19 ⟨v117, rfl, ho0, hb⟩; refine ⟨_, rfl, ?_⟩; have n0_ := Aside0.mk (Kd.R_lower ho0 (below_size (by repeat (first | (with_reducible first | exact HB.out | apply below_alloc | apply pw_below_drewN | apply below_drew1) | exact HB.out)))); have n1_ := Aside0.mk (below_step (by repeat (first | (with_reducible first | exact HB.out | apply below_alloc | apply pw_below_drewN | apply below_drew1) | exact HB.out)) hb); clear HB; have HO118 := n0_; have HB := n1_; clear n0_ n1_; (try clear hb); (try clear hb2); (try clear hk); (try clear hi); (try clear ho0)))
                      go_ret3
                      exact ⟨_, by first | rfl | (simp [errW_none, errW_some] <;> rfl) | (simp only [← hji13]; first | rfl | (simp [errW_none, errW_some] <;> rfl)) | (simp [*, errW_none, errW_some] <;> rfl), by (with_reducible repeat (first | apply Kd.R_alloc | apply Kd.R_drewN | apply Kd.R_drew)); exact HO118.out, by repeat (first | (with_reducible first | exact HB.out | apply below_alloc | apply pw_below_drewN | apply below_drew1) | exact HB.out)⟩
                    · rw [if_neg c17] at H
                      have c17b0 : (t116 == 0) = false := beq_eq_false_iff_ne.mpr c17
                      have c17b1 : (t116 != 0) = true := bne_iff_ne.mpr c17
                      simp only [Option.some.injEq, Prod.mk.injEq] at H
                      obtain ⟨rfl, rfl, rfl⟩ := H
                      go_wp2_with (first | ((with_reducible refine gate_callee (f := 20) rfl ?_); refine goesL_ (some 21) rfl rfl Tryd.func20 (by kernel_rfl) rfl #[.string a0, .int .u8 63] rfl (by (try simp only [List.map_toArray, List.map_cons, List.map_nil]); first | done | rfl | (simp only [List.length_drop, List.length_take]; rfl)) ?_; (with_reducible refine (stowageref24_find.calls kj2 a0 63 t112 _ A8.out).mono ?_); rintro e w' ⟨rfl, ⟨nd, rfl⟩⟩; refine ⟨_, rfl, ?_⟩) | ((with_reducible refine gate_callee (f := 21) rfl ?_); refine goesL_ (some 26) rfl rfl Tryd.func21 (by kernel_rfl) rfl #[.string (a0.extract 0 (t112 : Int).toNat), .bool false] rfl (by (try simp only [List.map_toArray, List.map_cons, List.map_nil]); first | done | rfl | (simp only [List.length_drop, List.length_take]; rfl)) ?_; (with_reducible refine (stowageref24_decoded.calls (a0.extract 0 (t112 : Int).toNat) false t113 true _ A11.out).mono ?_); rintro e w20 ⟨rfl, hb⟩; refine ⟨_, rfl, ?_⟩; have n0_ := Aside0.mk (below_step (by repeat (first | (with_reducible first | exact HB.out | apply below_alloc | apply pw_below_drewN | apply below_drew1) | exact HB.out)) hb); clear HB; have HB := n0_; clear n0_; (try clear hb); (try clear hb2); (try clear hk); (try clear hi)) | ((with_reducible refine gate_callee (f := 8) rfl ?_); refine goesL_ (some 39) rfl rfl Tryd.func8 (by kernel_rfl) rfl #[.string (a0.extract ((ji13) : Int).toNat a0.size)] rfl (by (try simp only [List.map_toArray, List.map_cons, List.map_nil]); first | done | (simp only [hji13]; rfl) | rfl | (simp only [List.length_drop, List.length_take]; rfl)) ?_; (with_reducible refine (stowageref24_Query.calls (a0.extract ((ji13) : Int).toNat a0.size) t115 t116 _ A16.out).mono ?_); rintro e w21 ⟨v117, rfl, ho0, hb⟩; refine ⟨_, rfl, ?_⟩; have n0_ := Aside0.mk (Kd.R_lower ho0 (below_size (by repeat (first | (with_reducible first | exact HB.out | apply below_alloc | apply pw_below_drewN | apply below_drew1) | exact HB.out)))); have n1_ := Aside0.mk (below_step (by repeat (first | (with_reducible first | exact HB.out | apply below_alloc | apply pw_below_drewN | apply below_drew1) | exact HB.out)) hb); clear HB; have HO118 := n0_; have HB := n1_; clear n0_ n1_; (try clear hb); (try clear hb2); (try clear hk); (try clear hi); (try clear ho0)))
                      go_ret3
                      exact ⟨_, by first | rfl | (simp [errW_none, errW_some] <;> rfl) | (simp only [← hji13]; first | rfl | (simp [errW_none, errW_some] <;> rfl)) | (simp [*, errW_none, errW_some] <;> rfl), by first | exact Kd.R_nil _ _ _ _ _ | exact Kd.N_nil _ _ _ _ _ | exact Kd.V_nil _ _ _ _ _ | exact Kd.Q_nil _ _ _ _ _ | exact Kd.S_nil _ _ _ _ _, by repeat (first | (with_reducible first | exact HB.out | apply below_alloc | apply pw_below_drewN | apply below_drew1) | exact HB.out)⟩
                  · rw [if_neg c15] at H
                    exact absurd H (by simp)
                · rw [if_neg c14] at H
                  exact absurd H (by simp)
              · replace c12 := Bool.eq_false_iff.mpr c12
                subst c12
                have H1 : (some ((⟨#[]⟩ : ByteArray), ([] : List (S32)), 4)) = some (r1, r2, r3) := by rw [if_neg (show ¬ (false = true) by decide)] at H; exact H
                clear H
                have H := H1
                clear H1
                simp only [Option.some.injEq, Prod.mk.injEq] at H
                obtain ⟨rfl, rfl, rfl⟩ := H
                go_wp2_with (first | ((with_reducible refine gate_callee (f := 20) rfl ?_); refine goesL_ (some 21) rfl rfl Tryd.func20 (by kernel_rfl) rfl #[.string a0, .int .u8 63] rfl (by (try simp only [List.map_toArray, List.map_cons, List.map_nil]); first | done | rfl | (simp only [List.length_drop, List.length_take]; rfl)) ?_; (with_reducible refine (stowageref24_find.calls kj2 a0 63 t112 _ A8.out).mono ?_); rintro e w' ⟨rfl, ⟨nd, rfl⟩⟩; refine ⟨_, rfl, ?_⟩) | ((with_reducible refine gate_callee (f := 21) rfl ?_); refine goesL_ (some 26) rfl rfl Tryd.func21 (by kernel_rfl) rfl #[.string (a0.extract 0 (t112 : Int).toNat), .bool false] rfl (by (try simp only [List.map_toArray, List.map_cons, List.map_nil]); first | done | rfl | (simp only [List.length_drop, List.length_take]; rfl)) ?_; (with_reducible refine (stowageref24_decoded.calls (a0.extract 0 (t112 : Int).toNat) false t113 false _ A11.out).mono ?_); rintro e w22 ⟨rfl, hb⟩; refine ⟨_, rfl, ?_⟩; have n0_ := Aside0.mk (below_step (by repeat (first | (with_reducible first | exact HB.out | apply below_alloc | apply pw_below_drewN | apply below_drew1) | exact HB.out)) hb); clear HB; have HB := n0_; clear n0_; (try clear hb); (try clear hb2); (try clear hk); (try clear hi)))
                go_ret3
                exact ⟨_, by first | rfl | (simp [errW_none, errW_some] <;> rfl) | (simp [*, errW_none, errW_some] <;> rfl), by first | exact Kd.R_nil _ _ _ _ _ | exact Kd.N_nil _ _ _ _ _ | exact Kd.V_nil _ _ _ _ _ | exact Kd.Q_nil _ _ _ _ _ | exact Kd.S_nil _ _ _ _ _, by repeat (first | (with_reducible first | exact HB.out | apply below_alloc | apply pw_below_drewN | apply below_drew1) | exact HB.out)⟩
            · rw [if_neg c10] at H
              exact absurd H (by simp)
          · rw [if_neg c9] at H
            exact absurd H (by simp)

end Go.Proofs.YthnhfbdoielekaaDoor.Pr
end
