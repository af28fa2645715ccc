/- Texts of this proof, put together: PrStowagelaw24PercentAsks, PrStowagelaw24PercentPairs, Pt24, Pu24. -/
import Derived.Test.YthnhfbdoielekaaDoorMPercentPairsm
import Derived.Test.YthnhfbdoielekaaDoorMPercentPairsn
section
namespace Go.Proofs.YthnhfbdoielekaaDoor.Pr
open Go.RowKit Go.Proofs.YthnhfbdoielekaaDoorW.PrintWords Go.Proofs.YthnhfbdoielekaaDoorW.PrintLast Go.Proofs.YthnhfbdoielekaaDoorW.PrintMore
attribute [local go_sem] max2_int min2_int max_two min_two max_three min_three max_four min_four   -- for this text's walks alone
attribute [local go_sem high] gtr_as_less leq_as_less
set_option linter.unusedVariables false
set_option linter.unusedSimpArgs false

/-! ### stowagelaw24_PercentAsks: function 3 -/
mutual
def stowagelaw24_PercentAsks.j0 : Nat → ByteArray → List (S32) → ByteArray → Bool → Option (Bool)
  | 0, _, _, _, _ => none
  | k + 1, x0, x1, x2, x30 => if x30 = true then (some true) else ((percent_Query.f x0).bind fun bt132 => ((stowageref24_Query.f x0).bind fun bt136 => ((percent_Target.f k x0).bind fun bt140 => ((stowageref24_Target.f k x0).bind fun bt145 => ((some (([] : List (S32)) : List (S32))).bind fun y150 => (if y150.length + x1.length < 4398046511104 then ((some (y150 ++ x1 : List (S32))).bind fun y153 => ((percent_Find.f k y153 x2).bind fun bt156 => ((stowageref24_Find.f k x1 x2).bind fun bt158 => ((stowagekit_SamePairs.f k bt132.1 bt136.1).bind fun t160 => (if t160 = true then (if bt132.2 = bt136.2 then (if bt140.1.toList = bt145.1.toList then ((stowagekit_SamePairs.f k bt140.2.1 bt145.2.1).bind fun t161 => (if t161 = true then (if bt140.2.2 = bt145.2.2 then (if bt156.1.toList = bt158.1.toList then (if (bt156.2 != bt158.2) = true then (stowagelaw24_PercentAsks.j1 k bt132.1 bt140.2.1 bt145.2.1 true) else ((stowagekit_SamePairs.f k y153 x1).bind fun t162 => (stowagelaw24_PercentAsks.j1 k bt132.1 bt140.2.1 bt145.2.1 (!t162)))) else (stowagelaw24_PercentAsks.j1 k bt132.1 bt140.2.1 bt145.2.1 true)) else (stowagelaw24_PercentAsks.j1 k bt132.1 bt140.2.1 bt145.2.1 true)) else (stowagelaw24_PercentAsks.j1 k bt132.1 bt140.2.1 bt145.2.1 true))) else (stowagelaw24_PercentAsks.j1 k bt132.1 bt140.2.1 bt145.2.1 true)) else (stowagelaw24_PercentAsks.j1 k bt132.1 bt140.2.1 bt145.2.1 true)) else (stowagelaw24_PercentAsks.j1 k bt132.1 bt140.2.1 bt145.2.1 true)))))) else (none)))))))
def stowagelaw24_PercentAsks.j1 : Nat → List (S32) → List (S32) → List (S32) → Bool → Option (Bool)
  | 0, _, _, _, _ => none
  | k + 1, x7, x12, x15, x108 => if x108 = true then (some false) else (stowagelaw24_PercentAsks.l0 k x7 x12 x15 0)
def stowagelaw24_PercentAsks.l0 : Nat → List (S32) → List (S32) → List (S32) → Int → Option (Bool)
  | 0, _, _, _, _ => none
  | k + 1, x7, x12, x15, x22 => if x22 < (x7.length : Int) then (if 0 ≤ x22 then (stowagelaw24_PercentAsks.l0 k (x7.set (x22 : Int).toNat (⟨(⟨#[111, 118, 101, 114]⟩ : ByteArray), (rd_T32 x7 x22).f1⟩ : S32)) x12 x15 (wrap64 (x22 + 1))) else (none)) else ((stowagekit_SamePairs.f k x12 x15).bind fun t164 => (if t164 = true then ((stowagelaw24_awake.f).bind fun t165 => (some t165)) else (some false)))
end
def stowagelaw24_PercentAsks.f (k : Nat) (a0 : ByteArray) (l1 : List (S32)) (a2 : ByteArray) : Option (Bool) := if (a0.size : Int) > 3000 then (stowagelaw24_PercentAsks.j0 k a0 l1 a2 true) else (stowagelaw24_PercentAsks.j0 k a0 l1 a2 (decide ((l1.length : Int) > 100)))
theorem stowagelaw24_PercentAsks.mono_l : ∀ k, (∀ y0 y1 y2 y3, LeO (stowagelaw24_PercentAsks.j0 k y0 y1 y2 y3) (stowagelaw24_PercentAsks.j0 (k + 1) y0 y1 y2 y3)) ∧ (∀ y0 y1 y2 y3, LeO (stowagelaw24_PercentAsks.j1 k y0 y1 y2 y3) (stowagelaw24_PercentAsks.j1 (k + 1) y0 y1 y2 y3)) ∧ (∀ y0 y1 y2 y3, LeO (stowagelaw24_PercentAsks.l0 k y0 y1 y2 y3) (stowagelaw24_PercentAsks.l0 (k + 1) y0 y1 y2 y3))
  | 0 => ⟨fun _ _ _ _ r h => by simp [stowagelaw24_PercentAsks.j0] at h, fun _ _ _ _ r h => by simp [stowagelaw24_PercentAsks.j1] at h, fun _ _ _ _ r h => by simp [stowagelaw24_PercentAsks.l0] at h⟩
  | k + 1 => by
    obtain ⟨ih0, ih1, ih2⟩ := stowagelaw24_PercentAsks.mono_l k
    refine ⟨?_, ?_, ?_⟩
    · intro y0 y1 y2 y3
      unfold stowagelaw24_PercentAsks.j0
      repeat' first
      | (with_reducible exact ih0 _ _ _ _)
      | (with_reducible exact ih1 _ _ _ _)
      | (with_reducible exact ih2 _ _ _ _)
      | (with_reducible exact percent_Find.mono _ _ _)
      | (with_reducible exact percent_Target.mono _ _)
      | (with_reducible exact stowagekit_SamePairs.mono _ _ _)
      | (with_reducible exact stowageref24_Find.mono _ _ _)
      | (with_reducible exact stowageref24_Target.mono _ _)
      | (with_reducible exact LeO.refl _)
      | (with_reducible exact LeO.none _)
      | (with_reducible refine LeO.ite ?_ ?_)
      | (with_reducible refine LeO.bind ?_ (fun _ => ?_))
      | exact ih0 _ _ _ _
      | exact ih1 _ _ _ _
      | exact ih2 _ _ _ _
      | exact percent_Find.mono _ _ _
      | exact percent_Target.mono _ _
      | exact stowagekit_SamePairs.mono _ _ _
      | exact stowageref24_Find.mono _ _ _
      | exact stowageref24_Target.mono _ _
      | exact LeO.none _
      | refine LeO.ite ?_ ?_
      | refine LeO.bind ?_ (fun _ => ?_)
    · intro y0 y1 y2 y3
      unfold stowagelaw24_PercentAsks.j1
      repeat' first
      | (with_reducible exact ih0 _ _ _ _)
      | (with_reducible exact ih1 _ _ _ _)
      | (with_reducible exact ih2 _ _ _ _)
      | (with_reducible exact percent_Find.mono _ _ _)
      | (with_reducible exact percent_Target.mono _ _)
      | (with_reducible exact stowagekit_SamePairs.mono _ _ _)
      | (with_reducible exact stowageref24_Find.mono _ _ _)
      | (with_reducible exact stowageref24_Target.mono _ _)
      | (with_reducible exact LeO.refl _)
      | (with_reducible exact LeO.none _)
      | (with_reducible refine LeO.ite ?_ ?_)
      | (with_reducible refine LeO.bind ?_ (fun _ => ?_))
      | exact ih0 _ _ _ _
      | exact ih1 _ _ _ _
      | exact ih2 _ _ _ _
      | exact percent_Find.mono _ _ _
      | exact percent_Target.mono _ _
      | exact stowagekit_SamePairs.mono _ _ _
      | exact stowageref24_Find.mono _ _ _
      | exact stowageref24_Target.mono _ _
      | exact LeO.none _
      | refine LeO.ite ?_ ?_
      | refine LeO.bind ?_ (fun _ => ?_)
    · intro y0 y1 y2 y3
      unfold stowagelaw24_PercentAsks.l0
      repeat' first
      | (with_reducible exact ih0 _ _ _ _)
      | (with_reducible exact ih1 _ _ _ _)
      | (with_reducible exact ih2 _ _ _ _)
      | (with_reducible exact percent_Find.mono _ _ _)
      | (with_reducible exact percent_Target.mono _ _)
      | (with_reducible exact stowagekit_SamePairs.mono _ _ _)
      | (with_reducible exact stowageref24_Find.mono _ _ _)
      | (with_reducible exact stowageref24_Target.mono _ _)
      | (with_reducible exact LeO.refl _)
      | (with_reducible exact LeO.none _)
      | (with_reducible refine LeO.ite ?_ ?_)
      | (with_reducible refine LeO.bind ?_ (fun _ => ?_))
      | exact ih0 _ _ _ _
      | exact ih1 _ _ _ _
      | exact ih2 _ _ _ _
      | exact percent_Find.mono _ _ _
      | exact percent_Target.mono _ _
      | exact stowagekit_SamePairs.mono _ _ _
      | exact stowageref24_Find.mono _ _ _
      | exact stowageref24_Target.mono _ _
      | exact LeO.none _
      | refine LeO.ite ?_ ?_
      | refine LeO.bind ?_ (fun _ => ?_)
theorem stowagelaw24_PercentAsks.mono : ∀ a0 a1 a2 k, LeO (stowagelaw24_PercentAsks.f k a0 a1 a2) (stowagelaw24_PercentAsks.f (k + 1) a0 a1 a2) := by
  intro a0 a1 a2 k
  obtain ⟨ih0, ih1, ih2⟩ := stowagelaw24_PercentAsks.mono_l k
  unfold stowagelaw24_PercentAsks.f
  repeat' first
      | (with_reducible exact ih0 _ _ _ _)
      | (with_reducible exact ih1 _ _ _ _)
      | (with_reducible exact ih2 _ _ _ _)
      | (with_reducible exact percent_Find.mono _ _ _)
      | (with_reducible exact percent_Target.mono _ _)
      | (with_reducible exact stowagekit_SamePairs.mono _ _ _)
      | (with_reducible exact stowageref24_Find.mono _ _ _)
      | (with_reducible exact stowageref24_Target.mono _ _)
      | (with_reducible exact LeO.refl _)
      | (with_reducible exact LeO.none _)
      | (with_reducible refine LeO.ite ?_ ?_)
      | (with_reducible refine LeO.bind ?_ (fun _ => ?_))
      | exact ih0 _ _ _ _
      | exact ih1 _ _ _ _
      | exact ih2 _ _ _ _
      | exact percent_Find.mono _ _ _
      | exact percent_Target.mono _ _
      | exact stowagekit_SamePairs.mono _ _ _
      | exact stowageref24_Find.mono _ _ _
      | exact stowageref24_Target.mono _ _
      | exact LeO.none _
      | refine LeO.ite ?_ ?_
      | refine LeO.bind ?_ (fun _ => ?_)
set_option maxHeartbeats 8000000 in
set_option maxRecDepth 100000 in
theorem stowagelaw24_PercentAsks.calls (k : Nat) (a0 : ByteArray) (A1 : Option Addr) (c1 : Nat) (l1 : List (S32)) (a2 : ByteArray) (r : Bool) (w : World) (hr1 : Kd.C k32 w A1 l1.length l1) (hc1 : l1.length ≤ c1) (h : stowagelaw24_PercentAsks.f k a0 l1 a2 = some r) :
    Calls Tryd.prog 3 #[.string a0, .slice A1 l1.length c1, .string a2] w fun e w' => e = .returned (.bool r) ∧ Below w.heap.size w w' := by
  have HR1 := Aside0.mk hr1
  have HC1 := Aside0.mk hc1
  clear hr1 hc1
  have HB := Aside0.mk (Below.refl w.heap.size w)
  have H : (if (a0.size : Int) > 3000 then (stowagelaw24_PercentAsks.j0 k a0 l1 a2 true) else (stowagelaw24_PercentAsks.j0 k a0 l1 a2 (decide ((l1.length : Int) > 100)))) = some r := h
  clear h
  have HC4 := Aside0.mk H
  clear H
  go_enter Tryd.func3, Tryd.ntmps3
  go_upto_region 1 with (fail)
  go_cut [30] (fun v30 wc => ∃ (kq : Nat) (x30_3 : Bool), v30 = .bool x30_3 ∧ Aside0 (stowagelaw24_PercentAsks.j0 kq a0 l1 a2 x30_3 = some r) ∧ Aside0 (kq ≤ k) ∧ Aside0 (Below w.heap.size w wc))
  case first =>
    have H := HC4.out
    clear HC4
    by_cases c5 : (a0.size : Int) > 3000
    · rw [if_pos c5] at H
      have c5b0 : decide (3000 < (a0.size : Int)) = true := decide_eq_true c5
      have c5b1 : decide (3000 < a0.size) = true := decide_eq_true (by omega)
      clear c5
      (first | rw [c5b0] | (simp only [i64_w, i32_w]; rw [c5b0]) | skip)
      have H' := Aside0.mk H
      clear H
      go_wp2
      go_meet
      case rel => exact ⟨_, (true), (by first | rfl | (simp; done) | (simp [*]; done)), H', ⟨by first | omega | exact Nat.le_refl _⟩, ⟨by repeat (first | (with_reducible first | exact HB.out | apply below_alloc | apply pw_below_drewN | apply below_drew1) | exact HB.out)⟩⟩
    · rw [if_neg c5] at H
      have c5b0 : decide (3000 < (a0.size : Int)) = false := decide_eq_false c5
      have c5b1 : decide (3000 < a0.size) = false := decide_eq_false (by omega)
      clear c5
      (first | rw [c5b0] | (simp only [i64_w, i32_w]; rw [c5b0]) | skip)
      have H' := Aside0.mk H
      clear H
      go_wp2
      go_meet
      case rel => exact ⟨_, (decide ((l1.length : Int) > 100)), (by first | rfl | (simp; done) | (simp [*]; done)), H', ⟨by first | omega | exact Nat.le_refl _⟩, ⟨by repeat (first | (with_reducible first | exact HB.out | apply below_alloc | apply pw_below_drewN | apply below_drew1) | exact HB.out)⟩⟩
  case rest =>
    clear HC4
    try clear c1
    try clear p2
    try clear c3
    try clear c5
    try clear c5b0
    try clear c5b1
    obtain ⟨kq, x30_3, rfl, HA, HJ3, HB⟩ := hcut
    cases kq with
    | zero => exact absurd HA.out (by simp [stowagelaw24_PercentAsks.j0])
    | succ kj3 =>
      have H := HA.out
      clear HA
      simp only [stowagelaw24_PercentAsks.j0] at H
      by_cases c6 : x30_3 = true
      · subst c6
        have H1 : (some true) = some r := by rw [if_pos rfl] at H; exact H
        clear H
        have H := H1
        clear H1
        obtain rfl := Option.some.inj H
        go_wp2
        go_ret
        exact ⟨by first | rfl | (simp [errW_none, errW_some] <;> rfl) | (simp [*, errW_none, errW_some] <;> rfl), by repeat (first | (with_reducible first | exact HB.out | apply below_alloc | apply pw_below_drewN | apply below_drew1) | exact HB.out)⟩
      · replace c6 := Bool.eq_false_iff.mpr c6
        subst c6
        have H1 : ((percent_Query.f a0).bind fun bt132 => ((stowageref24_Query.f a0).bind fun bt136 => ((percent_Target.f kj3 a0).bind fun bt140 => ((stowageref24_Target.f kj3 a0).bind fun bt145 => ((some (([] : List (S32)) : List (S32))).bind fun y150 => (if y150.length + l1.length < 4398046511104 then ((some (y150 ++ l1 : List (S32))).bind fun y153 => ((percent_Find.f kj3 y153 a2).bind fun bt156 => ((stowageref24_Find.f kj3 l1 a2).bind fun bt158 => ((stowagekit_SamePairs.f kj3 bt132.1 bt136.1).bind fun t160 => (if t160 = true then (if bt132.2 = bt136.2 then (if bt140.1.toList = bt145.1.toList then ((stowagekit_SamePairs.f kj3 bt140.2.1 bt145.2.1).bind fun t161 => (if t161 = true then (if bt140.2.2 = bt145.2.2 then (if bt156.1.toList = bt158.1.toList then (if (bt156.2 != bt158.2) = true then (stowagelaw24_PercentAsks.j1 kj3 bt132.1 bt140.2.1 bt145.2.1 true) else ((stowagekit_SamePairs.f kj3 y153 l1).bind fun t162 => (stowagelaw24_PercentAsks.j1 kj3 bt132.1 bt140.2.1 bt145.2.1 (!t162)))) else (stowagelaw24_PercentAsks.j1 kj3 bt132.1 bt140.2.1 bt145.2.1 true)) else (stowagelaw24_PercentAsks.j1 kj3 bt132.1 bt140.2.1 bt145.2.1 true)) else (stowagelaw24_PercentAsks.j1 kj3 bt132.1 bt140.2.1 bt145.2.1 true))) else (stowagelaw24_PercentAsks.j1 kj3 bt132.1 bt140.2.1 bt145.2.1 true)) else (stowagelaw24_PercentAsks.j1 kj3 bt132.1 bt140.2.1 bt145.2.1 true)) else (stowagelaw24_PercentAsks.j1 kj3 bt132.1 bt140.2.1 bt145.2.1 true)))))) else (none))))))) = some r := by rw [if_neg (show ¬ (false = true) by decide)] at H; exact H
        clear H
        have H := H1
        clear H1
        replace H := Option.bind_eq_some_iff.mp H
        obtain ⟨⟨t132, t133⟩, A70, H⟩ := H
        replace H : ((stowageref24_Query.f a0).bind fun bt136 => ((percent_Target.f kj3 a0).bind fun bt140 => ((stowageref24_Target.f kj3 a0).bind fun bt145 => ((some (([] : List (S32)) : List (S32))).bind fun y150 => (if y150.length + l1.length < 4398046511104 then ((some (y150 ++ l1 : List (S32))).bind fun y153 => ((percent_Find.f kj3 y153 a2).bind fun bt156 => ((stowageref24_Find.f kj3 l1 a2).bind fun bt158 => ((stowagekit_SamePairs.f kj3 t132 bt136.1).bind fun t160 => (if t160 = true then (if t133 = bt136.2 then (if bt140.1.toList = bt145.1.toList then ((stowagekit_SamePairs.f kj3 bt140.2.1 bt145.2.1).bind fun t161 => (if t161 = true then (if bt140.2.2 = bt145.2.2 then (if bt156.1.toList = bt158.1.toList then (if (bt156.2 != bt158.2) = true then (stowagelaw24_PercentAsks.j1 kj3 t132 bt140.2.1 bt145.2.1 true) else ((stowagekit_SamePairs.f kj3 y153 l1).bind fun t162 => (stowagelaw24_PercentAsks.j1 kj3 t132 bt140.2.1 bt145.2.1 (!t162)))) else (stowagelaw24_PercentAsks.j1 kj3 t132 bt140.2.1 bt145.2.1 true)) else (stowagelaw24_PercentAsks.j1 kj3 t132 bt140.2.1 bt145.2.1 true)) else (stowagelaw24_PercentAsks.j1 kj3 t132 bt140.2.1 bt145.2.1 true))) else (stowagelaw24_PercentAsks.j1 kj3 t132 bt140.2.1 bt145.2.1 true)) else (stowagelaw24_PercentAsks.j1 kj3 t132 bt140.2.1 bt145.2.1 true)) else (stowagelaw24_PercentAsks.j1 kj3 t132 bt140.2.1 bt145.2.1 true)))))) else (none)))))) = some r := H
        have A7 := Aside0.mk A70
        clear A70
        replace H := Option.bind_eq_some_iff.mp H
        obtain ⟨⟨t136, t137⟩, A80, H⟩ := H
        replace H : ((percent_Target.f kj3 a0).bind fun bt140 => ((stowageref24_Target.f kj3 a0).bind fun bt145 => ((some (([] : List (S32)) : List (S32))).bind fun y150 => (if y150.length + l1.length < 4398046511104 then ((some (y150 ++ l1 : List (S32))).bind fun y153 => ((percent_Find.f kj3 y153 a2).bind fun bt156 => ((stowageref24_Find.f kj3 l1 a2).bind fun bt158 => ((stowagekit_SamePairs.f kj3 t132 t136).bind fun t160 => (if t160 = true then (if t133 = t137 then (if bt140.1.toList = bt145.1.toList then ((stowagekit_SamePairs.f kj3 bt140.2.1 bt145.2.1).bind fun t161 => (if t161 = true then (if bt140.2.2 = bt145.2.2 then (if bt156.1.toList = bt158.1.toList then (if (bt156.2 != bt158.2) = true then (stowagelaw24_PercentAsks.j1 kj3 t132 bt140.2.1 bt145.2.1 true) else ((stowagekit_SamePairs.f kj3 y153 l1).bind fun t162 => (stowagelaw24_PercentAsks.j1 kj3 t132 bt140.2.1 bt145.2.1 (!t162)))) else (stowagelaw24_PercentAsks.j1 kj3 t132 bt140.2.1 bt145.2.1 true)) else (stowagelaw24_PercentAsks.j1 kj3 t132 bt140.2.1 bt145.2.1 true)) else (stowagelaw24_PercentAsks.j1 kj3 t132 bt140.2.1 bt145.2.1 true))) else (stowagelaw24_PercentAsks.j1 kj3 t132 bt140.2.1 bt145.2.1 true)) else (stowagelaw24_PercentAsks.j1 kj3 t132 bt140.2.1 bt145.2.1 true)) else (stowagelaw24_PercentAsks.j1 kj3 t132 bt140.2.1 bt145.2.1 true)))))) else (none))))) = some r := H
        have A8 := Aside0.mk A80
        clear A80
        replace H := Option.bind_eq_some_iff.mp H
        obtain ⟨⟨t140, t141, t142⟩, A90, H⟩ := H
        replace H : ((stowageref24_Target.f kj3 a0).bind fun bt145 => ((some (([] : List (S32)) : List (S32))).bind fun y150 => (if y150.length + l1.length < 4398046511104 then ((some (y150 ++ l1 : List (S32))).bind fun y153 => ((percent_Find.f kj3 y153 a2).bind fun bt156 => ((stowageref24_Find.f kj3 l1 a2).bind fun bt158 => ((stowagekit_SamePairs.f kj3 t132 t136).bind fun t160 => (if t160 = true then (if t133 = t137 then (if t140.toList = bt145.1.toList then ((stowagekit_SamePairs.f kj3 t141 bt145.2.1).bind fun t161 => (if t161 = true then (if t142 = bt145.2.2 then (if bt156.1.toList = bt158.1.toList then (if (bt156.2 != bt158.2) = true then (stowagelaw24_PercentAsks.j1 kj3 t132 t141 bt145.2.1 true) else ((stowagekit_SamePairs.f kj3 y153 l1).bind fun t162 => (stowagelaw24_PercentAsks.j1 kj3 t132 t141 bt145.2.1 (!t162)))) else (stowagelaw24_PercentAsks.j1 kj3 t132 t141 bt145.2.1 true)) else (stowagelaw24_PercentAsks.j1 kj3 t132 t141 bt145.2.1 true)) else (stowagelaw24_PercentAsks.j1 kj3 t132 t141 bt145.2.1 true))) else (stowagelaw24_PercentAsks.j1 kj3 t132 t141 bt145.2.1 true)) else (stowagelaw24_PercentAsks.j1 kj3 t132 t141 bt145.2.1 true)) else (stowagelaw24_PercentAsks.j1 kj3 t132 t141 bt145.2.1 true)))))) else (none)))) = some r := H
        have A9 := Aside0.mk A90
        clear A90
        replace H := Option.bind_eq_some_iff.mp H
        obtain ⟨⟨t145, t146, t147⟩, A100, H⟩ := H
        replace H : ((some (([] : List (S32)) : List (S32))).bind fun y150 => (if y150.length + l1.length < 4398046511104 then ((some (y150 ++ l1 : List (S32))).bind fun y153 => ((percent_Find.f kj3 y153 a2).bind fun bt156 => ((stowageref24_Find.f kj3 l1 a2).bind fun bt158 => ((stowagekit_SamePairs.f kj3 t132 t136).bind fun t160 => (if t160 = true then (if t133 = t137 then (if t140.toList = t145.toList then ((stowagekit_SamePairs.f kj3 t141 t146).bind fun t161 => (if t161 = true then (if t142 = t147 then (if bt156.1.toList = bt158.1.toList then (if (bt156.2 != bt158.2) = true then (stowagelaw24_PercentAsks.j1 kj3 t132 t141 t146 true) else ((stowagekit_SamePairs.f kj3 y153 l1).bind fun t162 => (stowagelaw24_PercentAsks.j1 kj3 t132 t141 t146 (!t162)))) else (stowagelaw24_PercentAsks.j1 kj3 t132 t141 t146 true)) else (stowagelaw24_PercentAsks.j1 kj3 t132 t141 t146 true)) else (stowagelaw24_PercentAsks.j1 kj3 t132 t141 t146 true))) else (stowagelaw24_PercentAsks.j1 kj3 t132 t141 t146 true)) else (stowagelaw24_PercentAsks.j1 kj3 t132 t141 t146 true)) else (stowagelaw24_PercentAsks.j1 kj3 t132 t141 t146 true)))))) else (none))) = some r := H
        have A10 := Aside0.mk A100
        clear A100
        obtain ⟨y150, hy150⟩ : ∃ y_ : List (S32), y_ = (([] : List (S32))) := ⟨_, rfl⟩
        replace H : (if y150.length + l1.length < 4398046511104 then ((some (y150 ++ l1 : List (S32))).bind fun y153 => ((percent_Find.f kj3 y153 a2).bind fun bt156 => ((stowageref24_Find.f kj3 l1 a2).bind fun bt158 => ((stowagekit_SamePairs.f kj3 t132 t136).bind fun t160 => (if t160 = true then (if t133 = t137 then (if t140.toList = t145.toList then ((stowagekit_SamePairs.f kj3 t141 t146).bind fun t161 => (if t161 = true then (if t142 = t147 then (if bt156.1.toList = bt158.1.toList then (if (bt156.2 != bt158.2) = true then (stowagelaw24_PercentAsks.j1 kj3 t132 t141 t146 true) else ((stowagekit_SamePairs.f kj3 y153 l1).bind fun t162 => (stowagelaw24_PercentAsks.j1 kj3 t132 t141 t146 (!t162)))) else (stowagelaw24_PercentAsks.j1 kj3 t132 t141 t146 true)) else (stowagelaw24_PercentAsks.j1 kj3 t132 t141 t146 true)) else (stowagelaw24_PercentAsks.j1 kj3 t132 t141 t146 true))) else (stowagelaw24_PercentAsks.j1 kj3 t132 t141 t146 true)) else (stowagelaw24_PercentAsks.j1 kj3 t132 t141 t146 true)) else (stowagelaw24_PercentAsks.j1 kj3 t132 t141 t146 true)))))) else (none)) = some r := by first | (rw [hy150]; with_reducible exact H) | (have H2_ := (Option.bind_some _ _).symm.trans H; rw [hy150]; with_reducible exact H2_) | (have H2_ := (Option.bind_some _ _).symm.trans H; with_reducible exact H2_) | with_reducible exact H | (rw [hy150]; exact H) | exact H
        have Ny150 := Aside0.mk hy150
        clear hy150
        by_cases c11 : y150.length + l1.length < 4398046511104
        · rw [if_pos c11] at H
          have LMc11 := Aside0.mk c11
          clear c11
          obtain ⟨y153, hy153⟩ : ∃ y_ : List (S32), y_ = (y150 ++ l1) := ⟨_, rfl⟩
          replace H : ((percent_Find.f kj3 y153 a2).bind fun bt156 => ((stowageref24_Find.f kj3 l1 a2).bind fun bt158 => ((stowagekit_SamePairs.f kj3 t132 t136).bind fun t160 => (if t160 = true then (if t133 = t137 then (if t140.toList = t145.toList then ((stowagekit_SamePairs.f kj3 t141 t146).bind fun t161 => (if t161 = true then (if t142 = t147 then (if bt156.1.toList = bt158.1.toList then (if (bt156.2 != bt158.2) = true then (stowagelaw24_PercentAsks.j1 kj3 t132 t141 t146 true) else ((stowagekit_SamePairs.f kj3 y153 l1).bind fun t162 => (stowagelaw24_PercentAsks.j1 kj3 t132 t141 t146 (!t162)))) else (stowagelaw24_PercentAsks.j1 kj3 t132 t141 t146 true)) else (stowagelaw24_PercentAsks.j1 kj3 t132 t141 t146 true)) else (stowagelaw24_PercentAsks.j1 kj3 t132 t141 t146 true))) else (stowagelaw24_PercentAsks.j1 kj3 t132 t141 t146 true)) else (stowagelaw24_PercentAsks.j1 kj3 t132 t141 t146 true)) else (stowagelaw24_PercentAsks.j1 kj3 t132 t141 t146 true))))) = some r := by first | (rw [hy153]; with_reducible exact H) | (have H2_ := (Option.bind_some _ _).symm.trans H; rw [hy153]; with_reducible exact H2_) | (have H2_ := (Option.bind_some _ _).symm.trans H; with_reducible exact H2_) | with_reducible exact H | (rw [hy153]; exact H) | exact H
          have Ny153 := Aside0.mk hy153
          clear hy153
          replace H := Option.bind_eq_some_iff.mp H
          obtain ⟨⟨t156, t157⟩, A120, H⟩ := H
          replace H : ((stowageref24_Find.f kj3 l1 a2).bind fun bt158 => ((stowagekit_SamePairs.f kj3 t132 t136).bind fun t160 => (if t160 = true then (if t133 = t137 then (if t140.toList = t145.toList then ((stowagekit_SamePairs.f kj3 t141 t146).bind fun t161 => (if t161 = true then (if t142 = t147 then (if t156.toList = bt158.1.toList then (if (t157 != bt158.2) = true then (stowagelaw24_PercentAsks.j1 kj3 t132 t141 t146 true) else ((stowagekit_SamePairs.f kj3 y153 l1).bind fun t162 => (stowagelaw24_PercentAsks.j1 kj3 t132 t141 t146 (!t162)))) else (stowagelaw24_PercentAsks.j1 kj3 t132 t141 t146 true)) else (stowagelaw24_PercentAsks.j1 kj3 t132 t141 t146 true)) else (stowagelaw24_PercentAsks.j1 kj3 t132 t141 t146 true))) else (stowagelaw24_PercentAsks.j1 kj3 t132 t141 t146 true)) else (stowagelaw24_PercentAsks.j1 kj3 t132 t141 t146 true)) else (stowagelaw24_PercentAsks.j1 kj3 t132 t141 t146 true)))) = some r := H
          have A12 := Aside0.mk A120
          clear A120
          replace H := Option.bind_eq_some_iff.mp H
          obtain ⟨⟨t158, t159⟩, A130, H⟩ := H
          replace H : ((stowagekit_SamePairs.f kj3 t132 t136).bind fun t160 => (if t160 = true then (if t133 = t137 then (if t140.toList = t145.toList then ((stowagekit_SamePairs.f kj3 t141 t146).bind fun t161 => (if t161 = true then (if t142 = t147 then (if t156.toList = t158.toList then (if (t157 != t159) = true then (stowagelaw24_PercentAsks.j1 kj3 t132 t141 t146 true) else ((stowagekit_SamePairs.f kj3 y153 l1).bind fun t162 => (stowagelaw24_PercentAsks.j1 kj3 t132 t141 t146 (!t162)))) else (stowagelaw24_PercentAsks.j1 kj3 t132 t141 t146 true)) else (stowagelaw24_PercentAsks.j1 kj3 t132 t141 t146 true)) else (stowagelaw24_PercentAsks.j1 kj3 t132 t141 t146 true))) else (stowagelaw24_PercentAsks.j1 kj3 t132 t141 t146 true)) else (stowagelaw24_PercentAsks.j1 kj3 t132 t141 t146 true)) else (stowagelaw24_PercentAsks.j1 kj3 t132 t141 t146 true))) = some r := H
          have A13 := Aside0.mk A130
          clear A130
          have HC14 := Aside0.mk H
          clear H
          go_upto_region 10 with (first | ((with_reducible refine gate_callee (f := 7) rfl ?_); refine goesL_ (some 33) rfl rfl Tryd.func7 (by kernel_rfl) rfl #[.string a0] rfl (by (try simp only [List.map_toArray, List.map_cons, List.map_nil]); first | done | rfl | (simp only [List.length_drop, List.length_take]; rfl)) ?_; (with_reducible refine (percent_Query.calls a0 t132 t133 _ A7.out).mono ?_); rintro e w15 ⟨v134, rfl, ho0, hb⟩; refine ⟨_, rfl, ?_⟩; have n0_ := Aside0.mk (Kd.R_lower ho0 (below_size (by repeat (first | (with_reducible first | exact HB.out | apply below_alloc | apply pw_below_drewN | apply below_drew1) | exact HB.out)))); have n1_ := Aside0.mk (below_step (by repeat (first | (with_reducible first | exact HB.out | apply below_alloc | apply pw_below_drewN | apply below_drew1) | exact HB.out)) hb); clear HB; have HO135 := n0_; have HB := n1_; clear n0_ n1_; (try clear hb); (try clear hb2); (try clear hk); (try clear hi); (try clear ho0)) | ((with_reducible refine gate_callee (f := 8) rfl ?_); refine goesL_ (some 38) rfl rfl Tryd.func8 (by kernel_rfl) rfl #[.string a0] rfl (by (try simp only [List.map_toArray, List.map_cons, List.map_nil]); first | done | rfl | (simp only [List.length_drop, List.length_take]; rfl)) ?_; (with_reducible refine (stowageref24_Query.calls a0 t136 t137 _ A8.out).mono ?_); rintro e w16 ⟨v138, rfl, ho0, hb⟩; refine ⟨_, rfl, ?_⟩; have n0_ := Aside0.mk (Kd.R_elder' (by (with_reducible repeat (first | apply Kd.R_alloc | apply Kd.R_drewN | apply Kd.R_drew)); exact HO135.out) (Kd.R_base ho0) hb); have n1_ := Aside0.mk (Kd.R_lower (Kd.R_new' ho0 (Kd.R_lt (by (with_reducible repeat (first | apply Kd.R_alloc | apply Kd.R_drewN | apply Kd.R_drew)); exact HO135.out))) (below_size (by repeat (first | (with_reducible first | exact HB.out | apply below_alloc | apply pw_below_drewN | apply below_drew1) | exact HB.out)))); have n2_ := Aside0.mk (below_step (by repeat (first | (with_reducible first | exact HB.out | apply below_alloc | apply pw_below_drewN | apply below_drew1) | exact HB.out)) hb); clear HO135; clear HB; have HO135 := n0_; have HO139 := n1_; have HB := n2_; clear n0_ n1_ n2_; (try clear hb); (try clear hb2); (try clear hk); (try clear hi); (try clear ho0)) | ((with_reducible refine gate_callee (f := 9) rfl ?_); refine goesL_ (some 43) rfl rfl Tryd.func9 (by kernel_rfl) rfl #[.string a0] rfl (by (try simp only [List.map_toArray, List.map_cons, List.map_nil]); first | done | rfl | (simp only [List.length_drop, List.length_take]; rfl)) ?_; (with_reducible refine (percent_Target.calls kj3 a0 t140 t141 t142 _ A9.out).mono ?_); rintro e w17 ⟨v143, rfl, ho0, hb⟩; refine ⟨_, rfl, ?_⟩; have n0_ := Aside0.mk (Kd.R_elder' (by (with_reducible repeat (first | apply Kd.R_alloc | apply Kd.R_drewN | apply Kd.R_drew)); exact HO135.out) (Kd.R_base ho0) hb); have n1_ := Aside0.mk (Kd.R_elder' (by (with_reducible repeat (first | apply Kd.R_alloc | apply Kd.R_drewN | apply Kd.R_drew)); exact HO139.out) (Kd.R_base ho0) hb); have n2_ := Aside0.mk (Kd.R_lower (Kd.R_new' (Kd.R_new' ho0 (Kd.R_lt (by (with_reducible repeat (first | apply Kd.R_alloc | apply Kd.R_drewN | apply Kd.R_drew)); exact HO135.out))) (Kd.R_lt (by (with_reducible repeat (first | apply Kd.R_alloc | apply Kd.R_drewN | apply Kd.R_drew)); exact HO139.out))) (below_size (by repeat (first | (with_reducible first | exact HB.out | apply below_alloc | apply pw_below_drewN | apply below_drew1) | exact HB.out)))); have n3_ := Aside0.mk (below_step (by repeat (first | (with_reducible first | exact HB.out | apply below_alloc | apply pw_below_drewN | apply below_drew1) | exact HB.out)) hb); clear HO135; clear HO139; clear HB; have HO135 := n0_; have HO139 := n1_; have HO144 := n2_; have HB := n3_; clear n0_ n1_ n2_ n3_; (try clear hb); (try clear hb2); (try clear hk); (try clear hi); (try clear ho0)) | ((with_reducible refine gate_callee (f := 10) rfl ?_); refine goesL_ (some 49) rfl rfl Tryd.func10 (by kernel_rfl) rfl #[.string a0] rfl (by (try simp only [List.map_toArray, List.map_cons, List.map_nil]); first | done | rfl | (simp only [List.length_drop, List.length_take]; rfl)) ?_; (with_reducible refine (stowageref24_Target.calls kj3 a0 t145 t146 t147 _ A10.out).mono ?_); rintro e w18 ⟨v148, rfl, ho0, hb⟩; refine ⟨_, rfl, ?_⟩; have n0_ := Aside0.mk (Kd.R_elder' (by (with_reducible repeat (first | apply Kd.R_alloc | apply Kd.R_drewN | apply Kd.R_drew)); exact HO135.out) (Kd.R_base ho0) hb); have n1_ := Aside0.mk (Kd.R_elder' (by (with_reducible repeat (first | apply Kd.R_alloc | apply Kd.R_drewN | apply Kd.R_drew)); exact HO139.out) (Kd.R_base ho0) hb); have n2_ := Aside0.mk (Kd.R_elder' (by (with_reducible repeat (first | apply Kd.R_alloc | apply Kd.R_drewN | apply Kd.R_drew)); exact HO144.out) (Kd.R_base ho0) hb); have n3_ := Aside0.mk (Kd.R_lower (Kd.R_new' (Kd.R_new' (Kd.R_new' ho0 (Kd.R_lt (by (with_reducible repeat (first | apply Kd.R_alloc | apply Kd.R_drewN | apply Kd.R_drew)); exact HO135.out))) (Kd.R_lt (by (with_reducible repeat (first | apply Kd.R_alloc | apply Kd.R_drewN | apply Kd.R_drew)); exact HO139.out))) (Kd.R_lt (by (with_reducible repeat (first | apply Kd.R_alloc | apply Kd.R_drewN | apply Kd.R_drew)); exact HO144.out))) (below_size (by repeat (first | (with_reducible first | exact HB.out | apply below_alloc | apply pw_below_drewN | apply below_drew1) | exact HB.out)))); have n4_ := Aside0.mk (below_step (by repeat (first | (with_reducible first | exact HB.out | apply below_alloc | apply pw_below_drewN | apply below_drew1) | exact HB.out)) hb); clear HO135; clear HO139; clear HO144; clear HB; have HO135 := n0_; have HO139 := n1_; have HO144 := n2_; have HO149 := n3_; have HB := n4_; clear n0_ n1_ n2_ n3_ n4_; (try clear hb); (try clear hb2); (try clear hk); (try clear hi); (try clear ho0)) | ((with_reducible refine gate_dst (N := 53) rfl ?_); (try (refine gate_guard (by rfl) ?_; dsimp only)); refine Kd.R_lit k32 _ 32 ?hg (N := 53) ?hd (xs := ([] : List (S32))) (inner := []) (ok := fun _ => True) (okp := fun _ => True) ?hr ?hp (fun _ hk => hk) trivial (Below.refl _ _) (Nat.le_refl _) (by simp) ?_; (case hd => rfl); (case hg => rfl); (case hr => first | (go_simp; done) | (go_simp; rfl)); (case hp => exact (Reps.none _ _)); intro v151 w19 ho20 hb hg_ hnew_; clear hg_ hnew_; (first | rw [← Ny150.out] at ho20 | (simp only [Int.reduceToNat] at ho20; rw [← Ny150.out] at ho20)); have n0_ := Aside0.mk (Kd.R_elder' (by (with_reducible repeat (first | apply Kd.R_alloc | apply Kd.R_drewN | apply Kd.R_drew)); exact HO135.out) (Kd.R_base ho20) hb); have n1_ := Aside0.mk (Kd.R_elder' (by (with_reducible repeat (first | apply Kd.R_alloc | apply Kd.R_drewN | apply Kd.R_drew)); exact HO139.out) (Kd.R_base ho20) hb); have n2_ := Aside0.mk (Kd.R_elder' (by (with_reducible repeat (first | apply Kd.R_alloc | apply Kd.R_drewN | apply Kd.R_drew)); exact HO144.out) (Kd.R_base ho20) hb); have n3_ := Aside0.mk (Kd.R_elder' (by (with_reducible repeat (first | apply Kd.R_alloc | apply Kd.R_drewN | apply Kd.R_drew)); exact HO149.out) (Kd.R_base ho20) hb); have n4_ := Aside0.mk (Kd.R_lower (Kd.R_new' (Kd.R_new' (Kd.R_new' (Kd.R_new' ho20 (Kd.R_lt (by (with_reducible repeat (first | apply Kd.R_alloc | apply Kd.R_drewN | apply Kd.R_drew)); exact HO135.out))) (Kd.R_lt (by (with_reducible repeat (first | apply Kd.R_alloc | apply Kd.R_drewN | apply Kd.R_drew)); exact HO139.out))) (Kd.R_lt (by (with_reducible repeat (first | apply Kd.R_alloc | apply Kd.R_drewN | apply Kd.R_drew)); exact HO144.out))) (Kd.R_lt (by (with_reducible repeat (first | apply Kd.R_alloc | apply Kd.R_drewN | apply Kd.R_drew)); exact HO149.out))) (below_size (by repeat (first | (with_reducible first | exact HB.out | apply below_alloc | apply pw_below_drewN | apply below_drew1) | exact HB.out)))); have n5_ := Aside0.mk (below_step (by repeat (first | (with_reducible first | exact HB.out | apply below_alloc | apply pw_below_drewN | apply below_drew1) | exact HB.out)) hb); clear HO135; clear HO139; clear HO144; clear HO149; clear HB; have HO135 := n0_; have HO139 := n1_; have HO144 := n2_; have HO149 := n3_; have HO152 := n4_; have HB := n5_; clear n0_ n1_ n2_ n3_ n4_ n5_; clear hb ho20) | ((with_reducible refine gate_builtin (b := .append) (xs := #[.tmp 53, .tmp 54]) rfl ?_); (try (refine gate_guard (by rfl) ?_; dsimp only)); at_builtin; refine Kd.R_append_rows k32 (w0 := w) w.heap.size rfl (.tmp 53) (.tmp 54) 22 32 (.agg #[(.string ⟨#[]⟩), (.string ⟨#[]⟩)]) 32 rfl Tryd.underlying22 info32 rfl (by decide) (by omega) v151 y150 l1 _ _ _ (fun k_ => some k_ ≠ (v134 : Value).ownBlock ∧ some k_ ≠ (v138 : Value).ownBlock ∧ some k_ ≠ (v143 : Value).ownBlock ∧ some k_ ≠ (v148 : Value).ownBlock) (fun _ => False) rfl rfl ?aO ?aR (fun _ _ h => h) (fun _ h => h.elim) ?aF ?aB ?aS ?aL ?_; (case aR => repeat (first | exact (Kd.C_below HR1.out HB.out) | (with_reducible refine Kd.C_alloc ?_ _) | (with_reducible refine Kd.C_drewN ?_ _) | (with_reducible refine Kd.C_drew ?_))); (case aB => exact (by repeat (first | (with_reducible first | exact HB.out | apply below_alloc | apply pw_below_drewN | apply below_drew1) | exact HB.out))); (case aF => exact (fun k_ hk => ⟨Kd.fresh' (Kd.R_lt (by (with_reducible repeat (first | apply Kd.R_alloc | apply Kd.R_drewN | apply Kd.R_drew)); exact HO135.out)) k_ hk, Kd.fresh' (Kd.R_lt (by (with_reducible repeat (first | apply Kd.R_alloc | apply Kd.R_drewN | apply Kd.R_drew)); exact HO139.out)) k_ hk, Kd.fresh' (Kd.R_lt (by (with_reducible repeat (first | apply Kd.R_alloc | apply Kd.R_drewN | apply Kd.R_drew)); exact HO144.out)) k_ hk, Kd.fresh' (Kd.R_lt (by (with_reducible repeat (first | apply Kd.R_alloc | apply Kd.R_drewN | apply Kd.R_drew)); exact HO149.out)) k_ hk⟩)); (case aO => exact (by (with_reducible repeat (first | apply Kd.R_alloc | apply Kd.R_drewN | apply Kd.R_drew)); exact Kd.R_mono HO152.out (fun _ hk => ⟨hk.1.1.1.2, ⟨hk.1.1.2, ⟨hk.1.2, hk.2⟩⟩⟩))); (case aS => exact (below_size (by repeat (first | (with_reducible first | exact HB.out | apply below_alloc | apply pw_below_drewN | apply below_drew1) | exact HB.out)))); (case aL => have := LMc11.out; omega); intro v154 w21 ho hb hg hat; rw [← Ny153.out] at ho; have n0_ := Aside0.mk (Kd.R_after (ok := (fun k_ => some k_ ≠ (v138 : Value).ownBlock ∧ some k_ ≠ (v143 : Value).ownBlock ∧ some k_ ≠ (v148 : Value).ownBlock)) (by (with_reducible repeat (first | apply Kd.R_alloc | apply Kd.R_drewN | apply Kd.R_drew)); exact Kd.R_mono HO135.out (fun _ hk => ⟨⟨hk.1.1.1.2, ⟨hk.1.1.2, hk.1.2⟩⟩, hk.2⟩)) hg hat); have n1_ := Aside0.mk (Kd.R_after (ok := (fun k_ => some k_ ≠ (v134 : Value).ownBlock ∧ some k_ ≠ (v143 : Value).ownBlock ∧ some k_ ≠ (v148 : Value).ownBlock)) (by (with_reducible repeat (first | apply Kd.R_alloc | apply Kd.R_drewN | apply Kd.R_drew)); exact Kd.R_mono HO139.out (fun _ hk => ⟨⟨hk.1.1.1.2, ⟨hk.1.1.2, hk.1.2⟩⟩, hk.2⟩)) hg hat); have n2_ := Aside0.mk (Kd.R_after (ok := (fun k_ => some k_ ≠ (v134 : Value).ownBlock ∧ some k_ ≠ (v138 : Value).ownBlock ∧ some k_ ≠ (v148 : Value).ownBlock)) (by (with_reducible repeat (first | apply Kd.R_alloc | apply Kd.R_drewN | apply Kd.R_drew)); exact Kd.R_mono HO144.out (fun _ hk => ⟨⟨hk.1.1.1.2, ⟨hk.1.1.2, hk.1.2⟩⟩, hk.2⟩)) hg hat); have n3_ := Aside0.mk (Kd.R_after (ok := (fun k_ => some k_ ≠ (v134 : Value).ownBlock ∧ some k_ ≠ (v138 : Value).ownBlock ∧ some k_ ≠ (v143 : Value).ownBlock)) (by (with_reducible repeat (first | apply Kd.R_alloc | apply Kd.R_drewN | apply Kd.R_drew)); exact Kd.R_mono HO149.out (fun _ hk => ⟨⟨hk.1.1.1.2, ⟨hk.1.1.2, hk.1.2⟩⟩, hk.2⟩)) hg hat); have n4_ := Aside0.mk (hb); have n5_ := Aside0.mk (ho); clear HO135; clear HO139; clear HO144; clear HO149; clear HB; clear HO152; have HO135 := n0_; have HO139 := n1_; have HO144 := n2_; have HO149 := n3_; have HB := n4_; have HO155 := n5_; clear n0_ n1_ n2_ n3_ n4_ n5_; clear ho hb hg hat; obtain ⟨Ao22, co22, eo22⟩ := Kd.R_slice HO155.out; subst eo22) | ((with_reducible refine gate_callee (f := 11) rfl ?_); refine goesL_ (some 59) rfl rfl Tryd.func11 (by kernel_rfl) rfl #[.slice Ao22 y153.length co22, .string a2] rfl (by (try simp only [List.map_toArray, List.map_cons, List.map_nil]); first | done | rfl | (simp only [List.length_drop, List.length_take]; rfl)) ?_; (with_reducible refine (percent_Find.calls kj3 _ _ y153 a2 t156 t157 _ ?side1 ?side2 A12.out).mono ?_); (case side1 => repeat (first | exact (Kd.R_reads' HO155.out).2.2 | (with_reducible refine Kd.C_alloc ?_ _) | (with_reducible refine Kd.C_drewN ?_ _) | (with_reducible refine Kd.C_drew ?_))); (case side2 => exact (Kd.R_reads' HO155.out).2.1); rintro e w23 ⟨rfl, hb⟩; refine ⟨_, rfl, ?_⟩; have n0_ := Aside0.mk (Kd.R_below (by (with_reducible repeat (first | apply Kd.R_alloc | apply Kd.R_drewN | apply Kd.R_drew)); exact HO135.out) hb); have n1_ := Aside0.mk (Kd.R_below (by (with_reducible repeat (first | apply Kd.R_alloc | apply Kd.R_drewN | apply Kd.R_drew)); exact HO139.out) hb); have n2_ := Aside0.mk (Kd.R_below (by (with_reducible repeat (first | apply Kd.R_alloc | apply Kd.R_drewN | apply Kd.R_drew)); exact HO144.out) hb); have n3_ := Aside0.mk (Kd.R_below (by (with_reducible repeat (first | apply Kd.R_alloc | apply Kd.R_drewN | apply Kd.R_drew)); exact HO149.out) hb); have n4_ := Aside0.mk (Kd.R_below (by (with_reducible repeat (first | apply Kd.R_alloc | apply Kd.R_drewN | apply Kd.R_drew)); exact HO155.out) hb); have n5_ := Aside0.mk (below_step (by repeat (first | (with_reducible first | exact HB.out | apply below_alloc | apply pw_below_drewN | apply below_drew1) | exact HB.out)) hb); clear HO135; clear HO139; clear HO144; clear HO149; clear HO155; clear HB; have HO135 := n0_; have HO139 := n1_; have HO144 := n2_; have HO149 := n3_; have HO155 := n4_; have HB := n5_; clear n0_ n1_ n2_ n3_ n4_ n5_; (try clear hb); (try clear hb2); (try clear hk); (try clear hi)) | ((with_reducible refine gate_callee (f := 12) rfl ?_); refine goesL_ (some 65) rfl rfl Tryd.func12 (by kernel_rfl) rfl #[.slice A1 l1.length c1, .string a2] rfl (by (try simp only [List.map_toArray, List.map_cons, List.map_nil]); first | done | rfl | (simp only [List.length_drop, List.length_take]; rfl)) ?_; (with_reducible refine (stowageref24_Find.calls kj3 _ _ l1 a2 t158 t159 _ ?side1 ?side2 A13.out).mono ?_); (case side1 => repeat (first | exact (Kd.C_below HR1.out HB.out) | (with_reducible refine Kd.C_alloc ?_ _) | (with_reducible refine Kd.C_drewN ?_ _) | (with_reducible refine Kd.C_drew ?_))); (case side2 => exact HC1.out); rintro e w' ⟨rfl, ⟨nd, rfl⟩⟩; refine ⟨_, rfl, ?_⟩))
          (try simp only [Act.put, List.setIfInBounds_toArray, List.set_cons_zero, List.set_cons_succ])
          go_cut [108] (fun v108 wc => ∃ (kq : Nat) (x108_13 : Bool), v108 = .bool x108_13 ∧ Aside0 (stowagelaw24_PercentAsks.j1 kq t132 t141 t146 x108_13 = some r) ∧ Aside0 (kq ≤ kj3) ∧ Aside0 (Kd.R k32 32 wc w.heap.size (fun k_ => some k_ ≠ (v143 : Value).ownBlock ∧ some k_ ≠ (v148 : Value).ownBlock) v134 t132) ∧ Aside0 (Kd.R k32 32 wc w.heap.size (fun k_ => some k_ ≠ (v134 : Value).ownBlock ∧ some k_ ≠ (v148 : Value).ownBlock) v143 t141) ∧ Aside0 (Kd.R k32 32 wc w.heap.size (fun k_ => some k_ ≠ (v134 : Value).ownBlock ∧ some k_ ≠ (v143 : Value).ownBlock) v148 t146) ∧ Aside0 (Below w.heap.size w wc))
          case first =>
            have H := HC14.out
            clear HC14
            replace H := Option.bind_eq_some_iff.mp H
            obtain ⟨t160, A240, H⟩ := H
            replace H : (if t160 = true then (if t133 = t137 then (if t140.toList = t145.toList then ((stowagekit_SamePairs.f kj3 t141 t146).bind fun t161 => (if t161 = true then (if t142 = t147 then (if t156.toList = t158.toList then (if (t157 != t159) = true then (stowagelaw24_PercentAsks.j1 kj3 t132 t141 t146 true) else ((stowagekit_SamePairs.f kj3 y153 l1).bind fun t162 => (stowagelaw24_PercentAsks.j1 kj3 t132 t141 t146 (!t162)))) else (stowagelaw24_PercentAsks.j1 kj3 t132 t141 t146 true)) else (stowagelaw24_PercentAsks.j1 kj3 t132 t141 t146 true)) else (stowagelaw24_PercentAsks.j1 kj3 t132 t141 t146 true))) else (stowagelaw24_PercentAsks.j1 kj3 t132 t141 t146 true)) else (stowagelaw24_PercentAsks.j1 kj3 t132 t141 t146 true)) else (stowagelaw24_PercentAsks.j1 kj3 t132 t141 t146 true)) = some r := H
            have A24 := Aside0.mk A240
            clear A240
            by_cases c25 : t160 = true
            · subst c25
              have H1 : (if t133 = t137 then (if t140.toList = t145.toList then ((stowagekit_SamePairs.f kj3 t141 t146).bind fun t161 => (if t161 = true then (if t142 = t147 then (if t156.toList = t158.toList then (if (t157 != t159) = true then (stowagelaw24_PercentAsks.j1 kj3 t132 t141 t146 true) else ((stowagekit_SamePairs.f kj3 y153 l1).bind fun t162 => (stowagelaw24_PercentAsks.j1 kj3 t132 t141 t146 (!t162)))) else (stowagelaw24_PercentAsks.j1 kj3 t132 t141 t146 true)) else (stowagelaw24_PercentAsks.j1 kj3 t132 t141 t146 true)) else (stowagelaw24_PercentAsks.j1 kj3 t132 t141 t146 true))) else (stowagelaw24_PercentAsks.j1 kj3 t132 t141 t146 true)) else (stowagelaw24_PercentAsks.j1 kj3 t132 t141 t146 true)) = some r := by rw [if_pos rfl] at H; exact H
              clear H
              have H := H1
              clear H1
              by_cases c26 : t133 = t137
              · rw [if_pos c26] at H
                have c26b0 : (t133 == t137) = true := beq_iff_eq.mpr c26
                have c26b1 : (t133 != t137) = false := bne_eq_false_iff_eq.mpr c26
                clear c26
                (first | rw [c26b0] | (simp only [i64_w, i32_w]; rw [c26b0]) | skip)
                by_cases c27 : t140.toList = t145.toList
                · rw [if_pos c27] at H
                  have c27b0 : (t140.toList == t145.toList) = true := beq_iff_eq.mpr c27
                  have c27b1 : (t140.toList != t145.toList) = false := bne_eq_false_iff_eq.mpr c27
                  clear c27
                  replace H := Option.bind_eq_some_iff.mp H
                  obtain ⟨t161, A280, H⟩ := H
                  replace H : (if t161 = true then (if t142 = t147 then (if t156.toList = t158.toList then (if (t157 != t159) = true then (stowagelaw24_PercentAsks.j1 kj3 t132 t141 t146 true) else ((stowagekit_SamePairs.f kj3 y153 l1).bind fun t162 => (stowagelaw24_PercentAsks.j1 kj3 t132 t141 t146 (!t162)))) else (stowagelaw24_PercentAsks.j1 kj3 t132 t141 t146 true)) else (stowagelaw24_PercentAsks.j1 kj3 t132 t141 t146 true)) else (stowagelaw24_PercentAsks.j1 kj3 t132 t141 t146 true)) = some r := H
                  have A28 := Aside0.mk A280
                  clear A280
                  by_cases c29 : t161 = true
                  · subst c29
                    have H1 : (if t142 = t147 then (if t156.toList = t158.toList then (if (t157 != t159) = true then (stowagelaw24_PercentAsks.j1 kj3 t132 t141 t146 true) else ((stowagekit_SamePairs.f kj3 y153 l1).bind fun t162 => (stowagelaw24_PercentAsks.j1 kj3 t132 t141 t146 (!t162)))) else (stowagelaw24_PercentAsks.j1 kj3 t132 t141 t146 true)) else (stowagelaw24_PercentAsks.j1 kj3 t132 t141 t146 true)) = some r := by rw [if_pos rfl] at H; exact H
                    clear H
                    have H := H1
                    clear H1
                    by_cases c30 : t142 = t147
                    · rw [if_pos c30] at H
                      have c30b0 : (t142 == t147) = true := beq_iff_eq.mpr c30
                      have c30b1 : (t142 != t147) = false := bne_eq_false_iff_eq.mpr c30
                      clear c30
                      by_cases c31 : t156.toList = t158.toList
                      · rw [if_pos c31] at H
                        have c31b0 : (t156.toList == t158.toList) = true := beq_iff_eq.mpr c31
                        have c31b1 : (t156.toList != t158.toList) = false := bne_eq_false_iff_eq.mpr c31
                        clear c31
                        by_cases c32 : (t157 != t159) = true
                        · rw [if_pos c32] at H
                          have c32b0 : (t157 != t159) = true := c32
                          (try (have c32b1 : decide (t157 = t159) = false := by simpa using c32))
                          (try (have c32b2 : (t157 == t159) = false := by simpa using c32))
                          (try (have c32b3 : ¬ (t157 = t159) := by simpa using c32))
                          clear c32
                          have H' := Aside0.mk H
                          clear H
                          obtain ⟨Ao33, co33, eo33⟩ := Kd.R_slice HO135.out
                          subst eo33
                          obtain ⟨Ao34, co34, eo34⟩ := Kd.R_slice HO139.out
                          subst eo34
                          go_wp2_with (first | ((with_reducible refine gate_callee (f := 13) rfl ?_); refine goesL_ (some 70) rfl rfl Tryd.func13 (by kernel_rfl) rfl #[.slice Ao33 t132.length co33, .slice Ao34 t136.length co34] rfl (by (try simp only [List.map_toArray, List.map_cons, List.map_nil]); first | done | rfl | (simp only [List.length_drop, List.length_take]; rfl)) ?_; (with_reducible refine (stowagekit_SamePairs.calls kj3 _ _ t132 _ _ t136 true _ ?side1 ?side2 ?side3 ?side4 A24.out).mono ?_); (case side1 => repeat (first | exact (Kd.R_reads' HO135.out).2.2 | (with_reducible refine Kd.C_alloc ?_ _) | (with_reducible refine Kd.C_drewN ?_ _) | (with_reducible refine Kd.C_drew ?_))); (case side2 => exact (Kd.R_reads' HO135.out).2.1); (case side3 => repeat (first | exact (Kd.R_reads' HO139.out).2.2 | (with_reducible refine Kd.C_alloc ?_ _) | (with_reducible refine Kd.C_drewN ?_ _) | (with_reducible refine Kd.C_drew ?_))); (case side4 => exact (Kd.R_reads' HO139.out).2.1); rintro e w' ⟨rfl, ⟨nd, rfl⟩⟩; refine ⟨_, rfl, ?_⟩; obtain ⟨Ao35, co35, eo35⟩ := Kd.R_slice HO144.out; subst eo35; obtain ⟨Ao36, co36, eo36⟩ := Kd.R_slice HO149.out; subst eo36) | (go_at_call 13; (with_reducible refine (stowagekit_SamePairs.calls kj3 _ _ t141 _ _ t146 true _ ?side1 ?side2 ?side3 ?side4 A28.out).mono ?_); (case side1 => repeat (first | exact (Kd.R_reads' HO144.out).2.2 | (with_reducible refine Kd.C_alloc ?_ _) | (with_reducible refine Kd.C_drewN ?_ _) | (with_reducible refine Kd.C_drew ?_))); (case side2 => exact (Kd.R_reads' HO144.out).2.1); (case side3 => repeat (first | exact (Kd.R_reads' HO149.out).2.2 | (with_reducible refine Kd.C_alloc ?_ _) | (with_reducible refine Kd.C_drewN ?_ _) | (with_reducible refine Kd.C_drew ?_))); (case side4 => exact (Kd.R_reads' HO149.out).2.1); rintro e w' ⟨rfl, ⟨nd, rfl⟩⟩))
                          go_meet
                          case rel => exact ⟨_, (true), (by first | rfl | (simp; done) | (simp [*]; done)), H', ⟨by have := HJ3.out; first | omega | exact Nat.le_refl _⟩, ⟨by (with_reducible repeat (first | apply Kd.R_alloc | apply Kd.R_drewN | apply Kd.R_drew)); exact Kd.R_mono HO135.out (fun _ hk => ⟨hk.1.2.1, hk.1.2.2⟩)⟩, ⟨by (with_reducible repeat (first | apply Kd.R_alloc | apply Kd.R_drewN | apply Kd.R_drew)); exact Kd.R_mono HO144.out (fun _ hk => ⟨hk.1.1, hk.1.2.2⟩)⟩, ⟨by (with_reducible repeat (first | apply Kd.R_alloc | apply Kd.R_drewN | apply Kd.R_drew)); exact Kd.R_mono HO149.out (fun _ hk => ⟨hk.1.1, hk.1.2.2⟩)⟩, ⟨by repeat (first | (with_reducible first | exact HB.out | apply below_alloc | apply pw_below_drewN | apply below_drew1) | exact HB.out)⟩⟩
                        · rw [if_neg c32] at H
                          have c32b0 : (t157 != t159) = false := by simpa using c32
                          (try (have c32b1 : decide (t157 = t159) = true := by simpa using c32))
                          (try (have c32b2 : (t157 == t159) = true := by simpa using c32))
                          clear c32
                          replace H := Option.bind_eq_some_iff.mp H
                          obtain ⟨t162, A370, H⟩ := H
                          replace H : (stowagelaw24_PercentAsks.j1 kj3 t132 t141 t146 (!t162)) = some r := H
                          have A37 := Aside0.mk A370
                          clear A370
                          have H' := Aside0.mk H
                          clear H
                          obtain ⟨Ao38, co38, eo38⟩ := Kd.R_slice HO135.out
                          subst eo38
                          obtain ⟨Ao39, co39, eo39⟩ := Kd.R_slice HO139.out
                          subst eo39
                          go_wp2_with (first | ((with_reducible refine gate_callee (f := 13) rfl ?_); refine goesL_ (some 70) rfl rfl Tryd.func13 (by kernel_rfl) rfl #[.slice Ao38 t132.length co38, .slice Ao39 t136.length co39] rfl (by (try simp only [List.map_toArray, List.map_cons, List.map_nil]); first | done | rfl | (simp only [List.length_drop, List.length_take]; rfl)) ?_; (with_reducible refine (stowagekit_SamePairs.calls kj3 _ _ t132 _ _ t136 true _ ?side1 ?side2 ?side3 ?side4 A24.out).mono ?_); (case side1 => repeat (first | exact (Kd.R_reads' HO135.out).2.2 | (with_reducible refine Kd.C_alloc ?_ _) | (with_reducible refine Kd.C_drewN ?_ _) | (with_reducible refine Kd.C_drew ?_))); (case side2 => exact (Kd.R_reads' HO135.out).2.1); (case side3 => repeat (first | exact (Kd.R_reads' HO139.out).2.2 | (with_reducible refine Kd.C_alloc ?_ _) | (with_reducible refine Kd.C_drewN ?_ _) | (with_reducible refine Kd.C_drew ?_))); (case side4 => exact (Kd.R_reads' HO139.out).2.1); rintro e w' ⟨rfl, ⟨nd, rfl⟩⟩; refine ⟨_, rfl, ?_⟩; obtain ⟨Ao40, co40, eo40⟩ := Kd.R_slice HO144.out; subst eo40; obtain ⟨Ao41, co41, eo41⟩ := Kd.R_slice HO149.out; subst eo41) | (go_at_call 13; (with_reducible refine (stowagekit_SamePairs.calls kj3 _ _ t141 _ _ t146 true _ ?side1 ?side2 ?side3 ?side4 A28.out).mono ?_); (case side1 => repeat (first | exact (Kd.R_reads' HO144.out).2.2 | (with_reducible refine Kd.C_alloc ?_ _) | (with_reducible refine Kd.C_drewN ?_ _) | (with_reducible refine Kd.C_drew ?_))); (case side2 => exact (Kd.R_reads' HO144.out).2.1); (case side3 => repeat (first | exact (Kd.R_reads' HO149.out).2.2 | (with_reducible refine Kd.C_alloc ?_ _) | (with_reducible refine Kd.C_drewN ?_ _) | (with_reducible refine Kd.C_drew ?_))); (case side4 => exact (Kd.R_reads' HO149.out).2.1); rintro e w' ⟨rfl, ⟨nd, rfl⟩⟩) | (go_at_call 13; (with_reducible refine (stowagekit_SamePairs.calls kj3 _ _ y153 _ _ l1 t162 _ ?side1 ?side2 ?side3 ?side4 A37.out).mono ?_); (case side1 => repeat (first | exact (Kd.R_reads' HO155.out).2.2 | (with_reducible refine Kd.C_alloc ?_ _) | (with_reducible refine Kd.C_drewN ?_ _) | (with_reducible refine Kd.C_drew ?_))); (case side2 => exact (Kd.R_reads' HO155.out).2.1); (case side3 => repeat (first | exact (Kd.C_below HR1.out (by repeat (first | (with_reducible first | exact HB.out | apply below_alloc | apply pw_below_drewN | apply below_drew1) | exact HB.out))) | (with_reducible refine Kd.C_alloc ?_ _) | (with_reducible refine Kd.C_drewN ?_ _) | (with_reducible refine Kd.C_drew ?_))); (case side4 => exact HC1.out); rintro e w' ⟨rfl, ⟨nd, rfl⟩⟩))
                          go_meet
                          case rel => exact ⟨_, (!t162), (by first | rfl | (simp; done) | (simp [*]; done)), H', ⟨by have := HJ3.out; first | omega | exact Nat.le_refl _⟩, ⟨by (with_reducible repeat (first | apply Kd.R_alloc | apply Kd.R_drewN | apply Kd.R_drew)); exact Kd.R_mono HO135.out (fun _ hk => ⟨hk.1.2.1, hk.1.2.2⟩)⟩, ⟨by (with_reducible repeat (first | apply Kd.R_alloc | apply Kd.R_drewN | apply Kd.R_drew)); exact Kd.R_mono HO144.out (fun _ hk => ⟨hk.1.1, hk.1.2.2⟩)⟩, ⟨by (with_reducible repeat (first | apply Kd.R_alloc | apply Kd.R_drewN | apply Kd.R_drew)); exact Kd.R_mono HO149.out (fun _ hk => ⟨hk.1.1, hk.1.2.2⟩)⟩, ⟨by repeat (first | (with_reducible first | exact HB.out | apply below_alloc | apply pw_below_drewN | apply below_drew1) | exact HB.out)⟩⟩
                      · rw [if_neg c31] at H
                        have c31b0 : (t156.toList == t158.toList) = false := beq_eq_false_iff_ne.mpr c31
                        have c31b1 : (t156.toList != t158.toList) = true := bne_iff_ne.mpr c31
                        have H' := Aside0.mk H
                        clear H
                        obtain ⟨Ao42, co42, eo42⟩ := Kd.R_slice HO135.out
                        subst eo42
                        obtain ⟨Ao43, co43, eo43⟩ := Kd.R_slice HO139.out
                        subst eo43
                        go_wp2_with (first | ((with_reducible refine gate_callee (f := 13) rfl ?_); refine goesL_ (some 70) rfl rfl Tryd.func13 (by kernel_rfl) rfl #[.slice Ao42 t132.length co42, .slice Ao43 t136.length co43] rfl (by (try simp only [List.map_toArray, List.map_cons, List.map_nil]); first | done | rfl | (simp only [List.length_drop, List.length_take]; rfl)) ?_; (with_reducible refine (stowagekit_SamePairs.calls kj3 _ _ t132 _ _ t136 true _ ?side1 ?side2 ?side3 ?side4 A24.out).mono ?_); (case side1 => repeat (first | exact (Kd.R_reads' HO135.out).2.2 | (with_reducible refine Kd.C_alloc ?_ _) | (with_reducible refine Kd.C_drewN ?_ _) | (with_reducible refine Kd.C_drew ?_))); (case side2 => exact (Kd.R_reads' HO135.out).2.1); (case side3 => repeat (first | exact (Kd.R_reads' HO139.out).2.2 | (with_reducible refine Kd.C_alloc ?_ _) | (with_reducible refine Kd.C_drewN ?_ _) | (with_reducible refine Kd.C_drew ?_))); (case side4 => exact (Kd.R_reads' HO139.out).2.1); rintro e w' ⟨rfl, ⟨nd, rfl⟩⟩; refine ⟨_, rfl, ?_⟩; obtain ⟨Ao44, co44, eo44⟩ := Kd.R_slice HO144.out; subst eo44; obtain ⟨Ao45, co45, eo45⟩ := Kd.R_slice HO149.out; subst eo45) | (go_at_call 13; (with_reducible refine (stowagekit_SamePairs.calls kj3 _ _ t141 _ _ t146 true _ ?side1 ?side2 ?side3 ?side4 A28.out).mono ?_); (case side1 => repeat (first | exact (Kd.R_reads' HO144.out).2.2 | (with_reducible refine Kd.C_alloc ?_ _) | (with_reducible refine Kd.C_drewN ?_ _) | (with_reducible refine Kd.C_drew ?_))); (case side2 => exact (Kd.R_reads' HO144.out).2.1); (case side3 => repeat (first | exact (Kd.R_reads' HO149.out).2.2 | (with_reducible refine Kd.C_alloc ?_ _) | (with_reducible refine Kd.C_drewN ?_ _) | (with_reducible refine Kd.C_drew ?_))); (case side4 => exact (Kd.R_reads' HO149.out).2.1); rintro e w' ⟨rfl, ⟨nd, rfl⟩⟩))
                        go_meet
                        case rel => exact ⟨_, (true), (by first | rfl | (simp; done) | (simp [*]; done)), H', ⟨by have := HJ3.out; first | omega | exact Nat.le_refl _⟩, ⟨by (with_reducible repeat (first | apply Kd.R_alloc | apply Kd.R_drewN | apply Kd.R_drew)); exact Kd.R_mono HO135.out (fun _ hk => ⟨hk.1.2.1, hk.1.2.2⟩)⟩, ⟨by (with_reducible repeat (first | apply Kd.R_alloc | apply Kd.R_drewN | apply Kd.R_drew)); exact Kd.R_mono HO144.out (fun _ hk => ⟨hk.1.1, hk.1.2.2⟩)⟩, ⟨by (with_reducible repeat (first | apply Kd.R_alloc | apply Kd.R_drewN | apply Kd.R_drew)); exact Kd.R_mono HO149.out (fun _ hk => ⟨hk.1.1, hk.1.2.2⟩)⟩, ⟨by repeat (first | (with_reducible first | exact HB.out | apply below_alloc | apply pw_below_drewN | apply below_drew1) | exact HB.out)⟩⟩
                    · rw [if_neg c30] at H
                      have c30b0 : (t142 == t147) = false := beq_eq_false_iff_ne.mpr c30
                      have c30b1 : (t142 != t147) = true := bne_iff_ne.mpr c30
                      have H' := Aside0.mk H
                      clear H
                      obtain ⟨Ao46, co46, eo46⟩ := Kd.R_slice HO135.out
                      subst eo46
                      obtain ⟨Ao47, co47, eo47⟩ := Kd.R_slice HO139.out
                      subst eo47
                      go_wp2_with (first | ((with_reducible refine gate_callee (f := 13) rfl ?_); refine goesL_ (some 70) rfl rfl Tryd.func13 (by kernel_rfl) rfl #[.slice Ao46 t132.length co46, .slice Ao47 t136.length co47] rfl (by (try simp only [List.map_toArray, List.map_cons, List.map_nil]); first | done | rfl | (simp only [List.length_drop, List.length_take]; rfl)) ?_; (with_reducible refine (stowagekit_SamePairs.calls kj3 _ _ t132 _ _ t136 true _ ?side1 ?side2 ?side3 ?side4 A24.out).mono ?_); (case side1 => repeat (first | exact (Kd.R_reads' HO135.out).2.2 | (with_reducible refine Kd.C_alloc ?_ _) | (with_reducible refine Kd.C_drewN ?_ _) | (with_reducible refine Kd.C_drew ?_))); (case side2 => exact (Kd.R_reads' HO135.out).2.1); (case side3 => repeat (first | exact (Kd.R_reads' HO139.out).2.2 | (with_reducible refine Kd.C_alloc ?_ _) | (with_reducible refine Kd.C_drewN ?_ _) | (with_reducible refine Kd.C_drew ?_))); (case side4 => exact (Kd.R_reads' HO139.out).2.1); rintro e w' ⟨rfl, ⟨nd, rfl⟩⟩; refine ⟨_, rfl, ?_⟩; obtain ⟨Ao48, co48, eo48⟩ := Kd.R_slice HO144.out; subst eo48; obtain ⟨Ao49, co49, eo49⟩ := Kd.R_slice HO149.out; subst eo49) | (go_at_call 13; (with_reducible refine (stowagekit_SamePairs.calls kj3 _ _ t141 _ _ t146 true _ ?side1 ?side2 ?side3 ?side4 A28.out).mono ?_); (case side1 => repeat (first | exact (Kd.R_reads' HO144.out).2.2 | (with_reducible refine Kd.C_alloc ?_ _) | (with_reducible refine Kd.C_drewN ?_ _) | (with_reducible refine Kd.C_drew ?_))); (case side2 => exact (Kd.R_reads' HO144.out).2.1); (case side3 => repeat (first | exact (Kd.R_reads' HO149.out).2.2 | (with_reducible refine Kd.C_alloc ?_ _) | (with_reducible refine Kd.C_drewN ?_ _) | (with_reducible refine Kd.C_drew ?_))); (case side4 => exact (Kd.R_reads' HO149.out).2.1); rintro e w' ⟨rfl, ⟨nd, rfl⟩⟩))
                      go_meet
                      case rel => exact ⟨_, (true), (by first | rfl | (simp; done) | (simp [*]; done)), H', ⟨by have := HJ3.out; first | omega | exact Nat.le_refl _⟩, ⟨by (with_reducible repeat (first | apply Kd.R_alloc | apply Kd.R_drewN | apply Kd.R_drew)); exact Kd.R_mono HO135.out (fun _ hk => ⟨hk.1.2.1, hk.1.2.2⟩)⟩, ⟨by (with_reducible repeat (first | apply Kd.R_alloc | apply Kd.R_drewN | apply Kd.R_drew)); exact Kd.R_mono HO144.out (fun _ hk => ⟨hk.1.1, hk.1.2.2⟩)⟩, ⟨by (with_reducible repeat (first | apply Kd.R_alloc | apply Kd.R_drewN | apply Kd.R_drew)); exact Kd.R_mono HO149.out (fun _ hk => ⟨hk.1.1, hk.1.2.2⟩)⟩, ⟨by repeat (first | (with_reducible first | exact HB.out | apply below_alloc | apply pw_below_drewN | apply below_drew1) | exact HB.out)⟩⟩
                  · replace c29 := Bool.eq_false_iff.mpr c29
                    subst c29
                    have H1 : (stowagelaw24_PercentAsks.j1 kj3 t132 t141 t146 true) = some r := by rw [if_neg (show ¬ (false = true) by decide)] at H; exact H
                    clear H
                    have H := H1
                    clear H1
                    have H' := Aside0.mk H
                    clear H
                    obtain ⟨Ao50, co50, eo50⟩ := Kd.R_slice HO135.out
                    subst eo50
                    obtain ⟨Ao51, co51, eo51⟩ := Kd.R_slice HO139.out
                    subst eo51
                    go_wp2_with (first | ((with_reducible refine gate_callee (f := 13) rfl ?_); refine goesL_ (some 70) rfl rfl Tryd.func13 (by kernel_rfl) rfl #[.slice Ao50 t132.length co50, .slice Ao51 t136.length co51] rfl (by (try simp only [List.map_toArray, List.map_cons, List.map_nil]); first | done | rfl | (simp only [List.length_drop, List.length_take]; rfl)) ?_; (with_reducible refine (stowagekit_SamePairs.calls kj3 _ _ t132 _ _ t136 true _ ?side1 ?side2 ?side3 ?side4 A24.out).mono ?_); (case side1 => repeat (first | exact (Kd.R_reads' HO135.out).2.2 | (with_reducible refine Kd.C_alloc ?_ _) | (with_reducible refine Kd.C_drewN ?_ _) | (with_reducible refine Kd.C_drew ?_))); (case side2 => exact (Kd.R_reads' HO135.out).2.1); (case side3 => repeat (first | exact (Kd.R_reads' HO139.out).2.2 | (with_reducible refine Kd.C_alloc ?_ _) | (with_reducible refine Kd.C_drewN ?_ _) | (with_reducible refine Kd.C_drew ?_))); (case side4 => exact (Kd.R_reads' HO139.out).2.1); rintro e w' ⟨rfl, ⟨nd, rfl⟩⟩; refine ⟨_, rfl, ?_⟩; obtain ⟨Ao52, co52, eo52⟩ := Kd.R_slice HO144.out; subst eo52; obtain ⟨Ao53, co53, eo53⟩ := Kd.R_slice HO149.out; subst eo53) | (go_at_call 13; (with_reducible refine (stowagekit_SamePairs.calls kj3 _ _ t141 _ _ t146 false _ ?side1 ?side2 ?side3 ?side4 A28.out).mono ?_); (case side1 => repeat (first | exact (Kd.R_reads' HO144.out).2.2 | (with_reducible refine Kd.C_alloc ?_ _) | (with_reducible refine Kd.C_drewN ?_ _) | (with_reducible refine Kd.C_drew ?_))); (case side2 => exact (Kd.R_reads' HO144.out).2.1); (case side3 => repeat (first | exact (Kd.R_reads' HO149.out).2.2 | (with_reducible refine Kd.C_alloc ?_ _) | (with_reducible refine Kd.C_drewN ?_ _) | (with_reducible refine Kd.C_drew ?_))); (case side4 => exact (Kd.R_reads' HO149.out).2.1); rintro e w' ⟨rfl, ⟨nd, rfl⟩⟩))
                    go_meet
                    case rel => exact ⟨_, (true), (by first | rfl | (simp; done) | (simp [*]; done)), H', ⟨by have := HJ3.out; first | omega | exact Nat.le_refl _⟩, ⟨by (with_reducible repeat (first | apply Kd.R_alloc | apply Kd.R_drewN | apply Kd.R_drew)); exact Kd.R_mono HO135.out (fun _ hk => ⟨hk.1.2.1, hk.1.2.2⟩)⟩, ⟨by (with_reducible repeat (first | apply Kd.R_alloc | apply Kd.R_drewN | apply Kd.R_drew)); exact Kd.R_mono HO144.out (fun _ hk => ⟨hk.1.1, hk.1.2.2⟩)⟩, ⟨by (with_reducible repeat (first | apply Kd.R_alloc | apply Kd.R_drewN | apply Kd.R_drew)); exact Kd.R_mono HO149.out (fun _ hk => ⟨hk.1.1, hk.1.2.2⟩)⟩, ⟨by repeat (first | (with_reducible first | exact HB.out | apply below_alloc | apply pw_below_drewN | apply below_drew1) | exact HB.out)⟩⟩
                · rw [if_neg c27] at H
                  have c27b0 : (t140.toList == t145.toList) = false := beq_eq_false_iff_ne.mpr c27
                  have c27b1 : (t140.toList != t145.toList) = true := bne_iff_ne.mpr c27
                  have H' := Aside0.mk H
                  clear H
                  obtain ⟨Ao54, co54, eo54⟩ := Kd.R_slice HO135.out
                  subst eo54
                  obtain ⟨Ao55, co55, eo55⟩ := Kd.R_slice HO139.out
                  subst eo55
                  go_wp2_with (first | ((with_reducible refine gate_callee (f := 13) rfl ?_); refine goesL_ (some 70) rfl rfl Tryd.func13 (by kernel_rfl) rfl #[.slice Ao54 t132.length co54, .slice Ao55 t136.length co55] rfl (by (try simp only [List.map_toArray, List.map_cons, List.map_nil]); first | done | rfl | (simp only [List.length_drop, List.length_take]; rfl)) ?_; (with_reducible refine (stowagekit_SamePairs.calls kj3 _ _ t132 _ _ t136 true _ ?side1 ?side2 ?side3 ?side4 A24.out).mono ?_); (case side1 => repeat (first | exact (Kd.R_reads' HO135.out).2.2 | (with_reducible refine Kd.C_alloc ?_ _) | (with_reducible refine Kd.C_drewN ?_ _) | (with_reducible refine Kd.C_drew ?_))); (case side2 => exact (Kd.R_reads' HO135.out).2.1); (case side3 => repeat (first | exact (Kd.R_reads' HO139.out).2.2 | (with_reducible refine Kd.C_alloc ?_ _) | (with_reducible refine Kd.C_drewN ?_ _) | (with_reducible refine Kd.C_drew ?_))); (case side4 => exact (Kd.R_reads' HO139.out).2.1); rintro e w' ⟨rfl, ⟨nd, rfl⟩⟩; refine ⟨_, rfl, ?_⟩))
                  go_meet
                  case rel => exact ⟨_, (true), (by first | rfl | (simp; done) | (simp [*]; done)), H', ⟨by have := HJ3.out; first | omega | exact Nat.le_refl _⟩, ⟨by (with_reducible repeat (first | apply Kd.R_alloc | apply Kd.R_drewN | apply Kd.R_drew)); exact Kd.R_mono HO135.out (fun _ hk => ⟨hk.1.2.1, hk.1.2.2⟩)⟩, ⟨by (with_reducible repeat (first | apply Kd.R_alloc | apply Kd.R_drewN | apply Kd.R_drew)); exact Kd.R_mono HO144.out (fun _ hk => ⟨hk.1.1, hk.1.2.2⟩)⟩, ⟨by (with_reducible repeat (first | apply Kd.R_alloc | apply Kd.R_drewN | apply Kd.R_drew)); exact Kd.R_mono HO149.out (fun _ hk => ⟨hk.1.1, hk.1.2.2⟩)⟩, ⟨by repeat (first | (with_reducible first | exact HB.out | apply below_alloc | apply pw_below_drewN | apply below_drew1) | exact HB.out)⟩⟩
              · rw [if_neg c26] at H
                have c26b0 : (t133 == t137) = false := beq_eq_false_iff_ne.mpr c26
                have c26b1 : (t133 != t137) = true := bne_iff_ne.mpr c26
                (first | rw [c26b0] | (simp only [i64_w, i32_w]; rw [c26b0]) | skip)
                have H' := Aside0.mk H
                clear H
                obtain ⟨Ao56, co56, eo56⟩ := Kd.R_slice HO135.out
                subst eo56
                obtain ⟨Ao57, co57, eo57⟩ := Kd.R_slice HO139.out
                subst eo57
                go_wp2_with (first | ((with_reducible refine gate_callee (f := 13) rfl ?_); refine goesL_ (some 70) rfl rfl Tryd.func13 (by kernel_rfl) rfl #[.slice Ao56 t132.length co56, .slice Ao57 t136.length co57] rfl (by (try simp only [List.map_toArray, List.map_cons, List.map_nil]); first | done | rfl | (simp only [List.length_drop, List.length_take]; rfl)) ?_; (with_reducible refine (stowagekit_SamePairs.calls kj3 _ _ t132 _ _ t136 true _ ?side1 ?side2 ?side3 ?side4 A24.out).mono ?_); (case side1 => repeat (first | exact (Kd.R_reads' HO135.out).2.2 | (with_reducible refine Kd.C_alloc ?_ _) | (with_reducible refine Kd.C_drewN ?_ _) | (with_reducible refine Kd.C_drew ?_))); (case side2 => exact (Kd.R_reads' HO135.out).2.1); (case side3 => repeat (first | exact (Kd.R_reads' HO139.out).2.2 | (with_reducible refine Kd.C_alloc ?_ _) | (with_reducible refine Kd.C_drewN ?_ _) | (with_reducible refine Kd.C_drew ?_))); (case side4 => exact (Kd.R_reads' HO139.out).2.1); rintro e w' ⟨rfl, ⟨nd, rfl⟩⟩; refine ⟨_, rfl, ?_⟩))
                go_meet
                case rel => exact ⟨_, (true), (by first | rfl | (simp; done) | (simp [*]; done)), H', ⟨by have := HJ3.out; first | omega | exact Nat.le_refl _⟩, ⟨by (with_reducible repeat (first | apply Kd.R_alloc | apply Kd.R_drewN | apply Kd.R_drew)); exact Kd.R_mono HO135.out (fun _ hk => ⟨hk.1.2.1, hk.1.2.2⟩)⟩, ⟨by (with_reducible repeat (first | apply Kd.R_alloc | apply Kd.R_drewN | apply Kd.R_drew)); exact Kd.R_mono HO144.out (fun _ hk => ⟨hk.1.1, hk.1.2.2⟩)⟩, ⟨by (with_reducible repeat (first | apply Kd.R_alloc | apply Kd.R_drewN | apply Kd.R_drew)); exact Kd.R_mono HO149.out (fun _ hk => ⟨hk.1.1, hk.1.2.2⟩)⟩, ⟨by repeat (first | (with_reducible first | exact HB.out | apply below_alloc | apply pw_below_drewN | apply below_drew1) | exact HB.out)⟩⟩
            · replace c25 := Bool.eq_false_iff.mpr c25
              subst c25
              have H1 : (stowagelaw24_PercentAsks.j1 kj3 t132 t141 t146 true) = some r := by rw [if_neg (show ¬ (false = true) by decide)] at H; exact H
              clear H
              have H := H1
              clear H1
              have H' := Aside0.mk H
              clear H
              obtain ⟨Ao58, co58, eo58⟩ := Kd.R_slice HO135.out
              subst eo58
              obtain ⟨Ao59, co59, eo59⟩ := Kd.R_slice HO139.out
              subst eo59
              go_wp2_with (first | ((with_reducible refine gate_callee (f := 13) rfl ?_); refine goesL_ (some 70) rfl rfl Tryd.func13 (by kernel_rfl) rfl #[.slice Ao58 t132.length co58, .slice Ao59 t136.length co59] rfl (by (try simp only [List.map_toArray, List.map_cons, List.map_nil]); first | done | rfl | (simp only [List.length_drop, List.length_take]; rfl)) ?_; (with_reducible refine (stowagekit_SamePairs.calls kj3 _ _ t132 _ _ t136 false _ ?side1 ?side2 ?side3 ?side4 A24.out).mono ?_); (case side1 => repeat (first | exact (Kd.R_reads' HO135.out).2.2 | (with_reducible refine Kd.C_alloc ?_ _) | (with_reducible refine Kd.C_drewN ?_ _) | (with_reducible refine Kd.C_drew ?_))); (case side2 => exact (Kd.R_reads' HO135.out).2.1); (case side3 => repeat (first | exact (Kd.R_reads' HO139.out).2.2 | (with_reducible refine Kd.C_alloc ?_ _) | (with_reducible refine Kd.C_drewN ?_ _) | (with_reducible refine Kd.C_drew ?_))); (case side4 => exact (Kd.R_reads' HO139.out).2.1); rintro e w' ⟨rfl, ⟨nd, rfl⟩⟩; refine ⟨_, rfl, ?_⟩))
              go_meet
              case rel => exact ⟨_, (true), (by first | rfl | (simp; done) | (simp [*]; done)), H', ⟨by have := HJ3.out; first | omega | exact Nat.le_refl _⟩, ⟨by (with_reducible repeat (first | apply Kd.R_alloc | apply Kd.R_drewN | apply Kd.R_drew)); exact Kd.R_mono HO135.out (fun _ hk => ⟨hk.1.2.1, hk.1.2.2⟩)⟩, ⟨by (with_reducible repeat (first | apply Kd.R_alloc | apply Kd.R_drewN | apply Kd.R_drew)); exact Kd.R_mono HO144.out (fun _ hk => ⟨hk.1.1, hk.1.2.2⟩)⟩, ⟨by (with_reducible repeat (first | apply Kd.R_alloc | apply Kd.R_drewN | apply Kd.R_drew)); exact Kd.R_mono HO149.out (fun _ hk => ⟨hk.1.1, hk.1.2.2⟩)⟩, ⟨by repeat (first | (with_reducible first | exact HB.out | apply below_alloc | apply pw_below_drewN | apply below_drew1) | exact HB.out)⟩⟩
          case rest =>
            clear HC14
            try clear c1
            try clear c2
            try clear p2
            try clear c3
            try clear c5
            try clear c5b0
            try clear c5b1
            try clear c6
            try clear c7
            try clear c8
            try clear c9
            try clear c10
            try clear c11
            try clear c12
            try clear c13
            try clear c25
            try clear c26
            try clear c26b0
            try clear c26b1
            try clear c27
            try clear c27b0
            try clear c27b1
            try clear c29
            try clear c30
            try clear c30b0
            try clear c30b1
            try clear c31
            try clear c31b0
            try clear c31b1
            try clear c32
            try clear c32b0
            try clear c32b1
            try clear c32b2
            try clear p2
            obtain ⟨kq, x108_13, rfl, HA, HJ13, HO_7, HO_12, HO_15, HB⟩ := hcut
            cases kq with
            | zero => exact absurd HA.out (by simp [stowagelaw24_PercentAsks.j1])
            | succ kj13 =>
              have H := HA.out
              clear HA
              simp only [stowagelaw24_PercentAsks.j1] at H
              by_cases c60 : x108_13 = true
              · subst c60
                have H1 : (some false) = some r := by rw [if_pos rfl] at H; exact H
                clear H
                have H := H1
                clear H1
                obtain rfl := Option.some.inj H
                go_wp2
                go_ret
                exact ⟨by first | rfl | (simp [errW_none, errW_some] <;> rfl) | (simp [*, errW_none, errW_some] <;> rfl), by repeat (first | (with_reducible first | exact HB.out | apply below_alloc | apply pw_below_drewN | apply below_drew1) | exact HB.out)⟩
              · replace c60 := Bool.eq_false_iff.mpr c60
                subst c60
                have H1 : (stowagelaw24_PercentAsks.l0 kj13 t132 t141 t146 0) = some r := by rw [if_neg (show ¬ (false = true) by decide)] at H; exact H
                clear H
                have H := H1
                clear H1
                have H' := Aside0.mk H
                clear H
                go_wp2
                go_loopg [22] kj13 (fun kq v22 w' => ∃ (x7_3 : List (S32)) (x22_3 : Int), v22 = .int .i64 x22_3 ∧ Aside0 (stowagelaw24_PercentAsks.l0 kq x7_3 t141 t146 x22_3 = some r) ∧ Aside0 (kq ≤ kj13) ∧ Aside0 (Kd.R k32 32 w' w.heap.size (fun k_ => some k_ ≠ (v143 : Value).ownBlock ∧ some k_ ≠ (v148 : Value).ownBlock) v134 x7_3) ∧ Aside0 (Kd.R k32 32 w' w.heap.size (fun k_ => some k_ ≠ (v134 : Value).ownBlock ∧ some k_ ≠ (v148 : Value).ownBlock) v143 t141) ∧ Aside0 (Kd.R k32 32 w' w.heap.size (fun k_ => some k_ ≠ (v134 : Value).ownBlock ∧ some k_ ≠ (v143 : Value).ownBlock) v148 t146) ∧ Aside0 (Below w.heap.size w w'))
                case atStart => exact ⟨(t132), (0), (by first | rfl | (simp; done) | (simp [*]; done)), H', ⟨Nat.le_refl _⟩, ⟨by (with_reducible repeat (first | apply Kd.R_alloc | apply Kd.R_drewN | apply Kd.R_drew)); exact HO_7.out⟩, ⟨by (with_reducible repeat (first | apply Kd.R_alloc | apply Kd.R_drewN | apply Kd.R_drew)); exact HO_12.out⟩, ⟨by (with_reducible repeat (first | apply Kd.R_alloc | apply Kd.R_drewN | apply Kd.R_drew)); exact HO_15.out⟩, ⟨by repeat (first | (with_reducible first | exact HB.out | apply below_alloc | apply pw_below_drewN | apply below_drew1) | exact HB.out)⟩⟩
                case round =>
                  clear H'
                  try clear c1
                  try clear c2
                  try clear p2
                  try clear c3
                  try clear c5
                  try clear c5b0
                  try clear c5b1
                  try clear c6
                  try clear c7
                  try clear c8
                  try clear c9
                  try clear c10
                  try clear c11
                  try clear c12
                  try clear c13
                  try clear c25
                  try clear c26
                  try clear c26b0
                  try clear c26b1
                  try clear c27
                  try clear c27b0
                  try clear c27b1
                  try clear c29
                  try clear c30
                  try clear c30b0
                  try clear c30b1
                  try clear c31
                  try clear c31b0
                  try clear c31b1
                  try clear c32
                  try clear c32b0
                  try clear c32b1
                  try clear c32b2
                  try clear c60
                  try clear p2
                  obtain ⟨x7_3, x22_3, rfl, HA, HK3, HO_7, HO_12, HO_15, HB⟩ := hrel
                  cases gk with
                  | zero => exact absurd HA.out (by simp [stowagelaw24_PercentAsks.l0])
                  | succ k3 =>
                    have H := HA.out
                    clear HA
                    simp only [stowagelaw24_PercentAsks.l0] at H
                    by_cases c61 : x22_3 < (x7_3.length : Int)
                    · rw [if_pos c61] at H
                      have c61b0 : decide (x22_3 < (x7_3.length : Int)) = true := decide_eq_true c61
                      clear c61
                      by_cases c62 : 0 ≤ x22_3
                      · rw [if_pos c62] at H
                        have c62b0 : decide (0 ≤ x22_3) = true := decide_eq_true c62
                        clear c62
                        obtain ⟨y163, hy163⟩ : ∃ y_ : List (S32), y_ = (x7_3.set (x22_3 : Int).toNat (⟨(⟨#[111, 118, 101, 114]⟩ : ByteArray), (rd_T32 x7_3 x22_3).f1⟩ : S32)) := ⟨_, rfl⟩
                        replace H : (stowagelaw24_PercentAsks.l0 k3 y163 t141 t146 (wrap64 (x22_3 + 1))) = some r := by first | (rw [hy163]; with_reducible exact H) | (have H2_ := (Option.bind_some _ _).symm.trans H; rw [hy163]; with_reducible exact H2_) | (have H2_ := (Option.bind_some _ _).symm.trans H; with_reducible exact H2_) | with_reducible exact H | (rw [hy163]; exact H) | exact H
                        have Ny163 := Aside0.mk hy163
                        clear hy163
                        have H' := Aside0.mk H
                        clear H
                        obtain ⟨Ao64, co64, eo64⟩ := Kd.R_slice HO_7.out
                        subst eo64
                        have p63 : 0 ≤ (x22_3 : Int) := of_decide_eq_true (by first | (with_reducible assumption) | assumption)
                        have q63 : (x22_3 : Int) < ((x7_3.length : Int) : Int) := of_decide_eq_true (by first | (with_reducible assumption) | assumption)
                        obtain ⟨go63, co63, eo63, gb63, gl63, cl63, HG63⟩ := Kd.R_form HO_7.out (by omega)
                        (first | cases eo63 | (injection eo63 with ea_ en_ ec_; (first | subst ea_ | (injection ea_ with ea_; subst ea_)); subst ec_; clear en_))
                        have GB63 := Aside0.mk gb63
                        have GG63 := Aside0.mk HG63
                        clear gb63 gl63 HG63
                        obtain ⟨ce63, hcl63, hM63, hcc63, hfr63⟩ := Kd.R_elem HO_7.out z32 (x22_3 : Int) p63 q63
                        obtain rfl := k32_openM hM63
                        have hx63_0 : wr.cell? ⟨go63, (x22_3 : Int).toNat * 2, none⟩ = some (.string ((rd_T32 x7_3 x22_3).f0)) := hcc63 0 _ rfl
                        have hx63_1 : wr.cell? ⟨go63, (x22_3 : Int).toNat * 2 + 1, none⟩ = some (.string ((rd_T32 x7_3 x22_3).f1)) := hcc63 1 _ rfl
                        have hf63_0 : wr.frozen? ⟨go63, (x22_3 : Int).toNat * 2, none⟩ = false := hfr63 0
                        have hf63_1 : wr.frozen? ⟨go63, (x22_3 : Int).toNat * 2 + 1, none⟩ = false := hfr63 1
                        clear hcl63 hcc63 hfr63 hM63
                        replace p63 := eq_true p63
                        replace q63 := eq_true q63
                        have HX65 := Aside0.mk (show Kd.R k32 32 wr w.heap.size (fun k_ => some k_ ≠ (v143 : Value).ownBlock ∧ some k_ ≠ (v148 : Value).ownBlock) (.slice (some ⟨go63, 0, none⟩) x7_3.length co64) x7_3 from (by (with_reducible repeat (first | apply Kd.R_alloc | apply Kd.R_drewN | apply Kd.R_drew)); exact HO_7.out))
                        obtain ⟨ce65, hcl65, hM65, hcc65, hfr65⟩ := Kd.R_elem HX65.out z32 (x22_3 : Int) (of_decide_eq_true (by first | (with_reducible assumption) | assumption)) (by have h_ : (x22_3 : Int) < ((x7_3.length : Int) : Int) := of_decide_eq_true (by first | (with_reducible assumption) | assumption); first | exact h_ | (have e_ := (Kd.R_reads' HO_7.out).1; omega) | simpa using h_)
                        obtain rfl := k32_openM hM65
                        have HP65 := Kd.R_seg HX65.out (x22_3 : Int) (of_decide_eq_true (by first | (with_reducible assumption) | assumption)) (by have h_ : (x22_3 : Int) < ((x7_3.length : Int) : Int) := of_decide_eq_true (by first | (with_reducible assumption) | assumption); first | exact h_ | (have e_ := (Kd.R_reads' HO_7.out).1; omega) | simpa using h_) (seg := [.string (⟨#[111, 118, 101, 114]⟩ : ByteArray)]) (j := 0) hcl65 hcc65 (show 1 ≤ 2 from by decide) (x' := (⟨(⟨#[111, 118, 101, 114]⟩ : ByteArray), (rd_T32 x7_3 x22_3).f1⟩ : S32)) (k32_mkM _ _ _ (⟨(⟨#[111, 118, 101, 114]⟩ : ByteArray), (rd_T32 x7_3 x22_3).f1⟩ : S32) ) (fun _ hk => hk)
                        have hx65_0 := hcc65 0 _ rfl
                        (try simp only [show (k32).sz = 2 from rfl, Nat.mul_one, Nat.add_zero] at hx65_0)
                        have hf65_0 := hfr65 0
                        (try simp only [show (k32).sz = 2 from rfl, Nat.mul_one, Nat.add_zero] at hf65_0)
                        clear hcl65 hcc65 hfr65 hM65
                        go_wp2_with (first | ((with_reducible refine gate_store (t := 9) (p := 118) rfl ?_); refine store_event (t := 9) (p := 118) (v := ?vo_w66) (w1 := (wr.setCell ⟨go63, (x22_3 : Int).toNat * 2, none⟩ (.string (⟨#[111, 118, 101, 114]⟩ : ByteArray)))) ?hg ?ho ?hn ?hr ?_; (case ho => rfl); (case hg => rfl); (case hn => rfl); (case hr => first | (go_simp; done) | (go_simp; rfl)); intro w66 hw; have hg : wr.grownBy w66 (some go63) := (by rw [hw]; exact HP65.2); have hp_ : Kd.R k32 32 w66 w.heap.size (fun k_ => some k_ ≠ (v143 : Value).ownBlock ∧ some k_ ≠ (v148 : Value).ownBlock) (.slice (some ⟨go63, 0, none⟩) x7_3.length co64) y163 := (by rw [hw, Ny163.out]; exact HP65.1); clear HP65; have n0_ := Aside0.mk (hp_); have n1_ := Aside0.mk (Kd.R_after (v := (.slice (some ⟨go63, 0, none⟩) x7_3.length co64)) (v1 := (.slice (some ⟨go63, 0, none⟩) x7_3.length co64)) (ok := (fun k_ => some k_ ≠ (v148 : Value).ownBlock)) (by (with_reducible repeat (first | apply Kd.R_alloc | apply Kd.R_drewN | apply Kd.R_drew)); exact Kd.R_mono HO_12.out (fun _ hk => ⟨hk.2, hk.1⟩)) hg (.inl rfl)); have n2_ := Aside0.mk (Kd.R_after (v := (.slice (some ⟨go63, 0, none⟩) x7_3.length co64)) (v1 := (.slice (some ⟨go63, 0, none⟩) x7_3.length co64)) (ok := (fun k_ => some k_ ≠ (v143 : Value).ownBlock)) (by (with_reducible repeat (first | apply Kd.R_alloc | apply Kd.R_drewN | apply Kd.R_drew)); exact Kd.R_mono HO_15.out (fun _ hk => ⟨hk.2, hk.1⟩)) hg (.inl rfl)); have n3_ := Aside0.mk ((by rw [hw]; exact below_set (HB.out) GB63.out : Below w.heap.size w w66)); clear HO_7; clear HO_12; clear HO_15; clear HB; have HO_7 := n0_; have HO_12 := n1_; have HO_15 := n2_; have HB := n3_; clear n0_ n1_ n2_ n3_; clear hg hw hp_))
                        go_roundg k3
                        case measure => have := HJ3.out; have := HJ13.out; have := HK3.out; omega
                        case rel => exact ⟨(y163), (wrap64 (x22_3 + 1)), (by first | rfl | (simp; done) | (simp [*]; done)), H', ⟨by have := HJ3.out; have := HJ13.out; have := HK3.out; omega⟩, ⟨by (with_reducible repeat (first | apply Kd.R_alloc | apply Kd.R_drewN | apply Kd.R_drew)); exact HO_7.out⟩, ⟨by (with_reducible repeat (first | apply Kd.R_alloc | apply Kd.R_drewN | apply Kd.R_drew)); exact Kd.R_mono HO_12.out (fun _ hk => ⟨hk.2, hk.1⟩)⟩, ⟨by (with_reducible repeat (first | apply Kd.R_alloc | apply Kd.R_drewN | apply Kd.R_drew)); exact Kd.R_mono HO_15.out (fun _ hk => ⟨hk.2, hk.1⟩)⟩, ⟨by repeat (first | (with_reducible first | exact HB.out | apply below_alloc | apply pw_below_drewN | apply below_drew1) | exact HB.out)⟩⟩
                      · rw [if_neg c62] at H
                        exact absurd H (by simp)
                    · rw [if_neg c61] at H
                      have c61b0 : decide (x22_3 < (x7_3.length : Int)) = false := decide_eq_false c61
                      clear c61
                      replace H := Option.bind_eq_some_iff.mp H
                      obtain ⟨t164, A670, H⟩ := H
                      replace H : (if t164 = true then ((stowagelaw24_awake.f).bind fun t165 => (some t165)) else (some false)) = some r := H
                      have A67 := Aside0.mk A670
                      clear A670
                      by_cases c68 : t164 = true
                      · subst c68
                        have H1 : ((stowagelaw24_awake.f).bind fun t165 => (some t165)) = some r := by rw [if_pos rfl] at H; exact H
                        clear H
                        have H := H1
                        clear H1
                        replace H := Option.bind_eq_some_iff.mp H
                        obtain ⟨t165, A690, H⟩ := H
                        replace H : (some t165) = some r := H
                        have A69 := Aside0.mk A690
                        clear A690
                        obtain rfl := Option.some.inj H
                        obtain ⟨Ao70, co70, eo70⟩ := Kd.R_slice HO_7.out
                        subst eo70
                        obtain ⟨Ao71, co71, eo71⟩ := Kd.R_slice HO_12.out
                        subst eo71
                        obtain ⟨Ao72, co72, eo72⟩ := Kd.R_slice HO_15.out
                        subst eo72
                        go_wp2_with (first | ((with_reducible refine gate_callee (f := 13) rfl ?_); refine goesL_ (some 121) rfl rfl Tryd.func13 (by kernel_rfl) rfl #[.slice Ao71 t141.length co71, .slice Ao72 t146.length co72] rfl (by (try simp only [List.map_toArray, List.map_cons, List.map_nil]); first | done | rfl | (simp only [List.length_drop, List.length_take]; rfl)) ?_; (with_reducible refine (stowagekit_SamePairs.calls k3 _ _ t141 _ _ t146 true _ ?side1 ?side2 ?side3 ?side4 A67.out).mono ?_); (case side1 => repeat (first | exact (Kd.R_reads' HO_12.out).2.2 | (with_reducible refine Kd.C_alloc ?_ _) | (with_reducible refine Kd.C_drewN ?_ _) | (with_reducible refine Kd.C_drew ?_))); (case side2 => exact (Kd.R_reads' HO_12.out).2.1); (case side3 => repeat (first | exact (Kd.R_reads' HO_15.out).2.2 | (with_reducible refine Kd.C_alloc ?_ _) | (with_reducible refine Kd.C_drewN ?_ _) | (with_reducible refine Kd.C_drew ?_))); (case side4 => exact (Kd.R_reads' HO_15.out).2.1); rintro e w' ⟨rfl, ⟨nd, rfl⟩⟩; refine ⟨_, rfl, ?_⟩) | (go_at_call 14; (with_reducible refine (stowagelaw24_awake.calls  t165 _ A69.out).mono ?_); rintro e w73 ⟨rfl, hb⟩; have n0_ := Aside0.mk (Kd.R_below (by (with_reducible repeat (first | apply Kd.R_alloc | apply Kd.R_drewN | apply Kd.R_drew)); exact HO_7.out) hb); have n1_ := Aside0.mk (Kd.R_below (by (with_reducible repeat (first | apply Kd.R_alloc | apply Kd.R_drewN | apply Kd.R_drew)); exact HO_12.out) hb); have n2_ := Aside0.mk (Kd.R_below (by (with_reducible repeat (first | apply Kd.R_alloc | apply Kd.R_drewN | apply Kd.R_drew)); exact HO_15.out) hb); have n3_ := Aside0.mk (below_step (by repeat (first | (with_reducible first | exact HB.out | apply below_alloc | apply pw_below_drewN | apply below_drew1) | exact HB.out)) hb); clear HO_7; clear HO_12; clear HO_15; clear HB; have HO_7 := n0_; have HO_12 := n1_; have HO_15 := n2_; have HB := n3_; clear n0_ n1_ n2_ n3_; (try clear hb); (try clear hb2); (try clear hk); (try clear hi)))
                        go_ret
                        exact ⟨by first | rfl | (simp [errW_none, errW_some] <;> rfl) | (simp [*, errW_none, errW_some] <;> rfl), by repeat (first | (with_reducible first | exact HB.out | apply below_alloc | apply pw_below_drewN | apply below_drew1) | exact HB.out)⟩
                      · replace c68 := Bool.eq_false_iff.mpr c68
                        subst c68
                        have H1 : (some false) = some r := by rw [if_neg (show ¬ (false = true) by decide)] at H; exact H
                        clear H
                        have H := H1
                        clear H1
                        obtain rfl := Option.some.inj H
                        obtain ⟨Ao74, co74, eo74⟩ := Kd.R_slice HO_7.out
                        subst eo74
                        obtain ⟨Ao75, co75, eo75⟩ := Kd.R_slice HO_12.out
                        subst eo75
                        obtain ⟨Ao76, co76, eo76⟩ := Kd.R_slice HO_15.out
                        subst eo76
                        go_wp2_with (first | ((with_reducible refine gate_callee (f := 13) rfl ?_); refine goesL_ (some 121) rfl rfl Tryd.func13 (by kernel_rfl) rfl #[.slice Ao75 t141.length co75, .slice Ao76 t146.length co76] rfl (by (try simp only [List.map_toArray, List.map_cons, List.map_nil]); first | done | rfl | (simp only [List.length_drop, List.length_take]; rfl)) ?_; (with_reducible refine (stowagekit_SamePairs.calls k3 _ _ t141 _ _ t146 false _ ?side1 ?side2 ?side3 ?side4 A67.out).mono ?_); (case side1 => repeat (first | exact (Kd.R_reads' HO_12.out).2.2 | (with_reducible refine Kd.C_alloc ?_ _) | (with_reducible refine Kd.C_drewN ?_ _) | (with_reducible refine Kd.C_drew ?_))); (case side2 => exact (Kd.R_reads' HO_12.out).2.1); (case side3 => repeat (first | exact (Kd.R_reads' HO_15.out).2.2 | (with_reducible refine Kd.C_alloc ?_ _) | (with_reducible refine Kd.C_drewN ?_ _) | (with_reducible refine Kd.C_drew ?_))); (case side4 => exact (Kd.R_reads' HO_15.out).2.1); rintro e w' ⟨rfl, ⟨nd, rfl⟩⟩; refine ⟨_, rfl, ?_⟩))
                        go_ret
                        exact ⟨by first | rfl | (simp [errW_none, errW_some] <;> rfl) | (simp [*, errW_none, errW_some] <;> rfl), by repeat (first | (with_reducible first | exact HB.out | apply below_alloc | apply pw_below_drewN | apply below_drew1) | exact HB.out)⟩
        · rw [if_neg c11] at H
          exact absurd H (by simp)

end Go.Proofs.YthnhfbdoielekaaDoor.Pr
end
section
namespace Go.Proofs.YthnhfbdoielekaaDoor.Pr
open Go.RowKit Go.Proofs.YthnhfbdoielekaaDoorW.PrintWords Go.Proofs.YthnhfbdoielekaaDoorW.PrintLast Go.Proofs.YthnhfbdoielekaaDoorW.PrintMore
attribute [local go_sem] max2_int min2_int max_two min_two max_three min_three max_four min_four   -- for this text's walks alone
attribute [local go_sem high] gtr_as_less leq_as_less
set_option linter.unusedVariables false
set_option linter.unusedSimpArgs false

/-! ### stowagelaw24_PercentPairs: function 6 -/
mutual
def stowagelaw24_PercentPairs.j0 : Nat → List (S32) → ByteArray → Bool → Bool → Option (Bool)
  | 0, _, _, _, _ => none
  | k + 1, x0, x1, x5, x22 => if x22 = true then (some x5) else (stowagelaw24_PercentPairs.l0 k x0 x1 x5 (⟨#[]⟩ : ByteArray) 0)
def stowagelaw24_PercentPairs.l0 : Nat → List (S32) → ByteArray → Bool → ByteArray → Int → Option (Bool)
  | 0, _, _, _, _, _ => none
  | k + 1, x0, x1, x5, x6, x7 => if x7 < (x0.length : Int) then (if 0 ≤ x7 then (if ((rd_T32 x0 x7).f0).toList = ([] : List UInt8) then (stowagelaw24_PercentPairs.j2 k x0 x1 x5 x6 x7 true) else (if (((rd_T32 x0 x7).f0).size : Int) > 100 then (stowagelaw24_PercentPairs.j2 k x0 x1 x5 x6 x7 true) else (stowagelaw24_PercentPairs.j2 k x0 x1 x5 x6 x7 (decide ((((rd_T32 x0 x7).f1).size : Int) > 100))))) else (none)) else ((percent_Encode.f x1 true).bind fun t215 => (if 1 + t215.size ≤ 9223372036854775807 then (if 1 + t215.size + 1 ≤ 9223372036854775807 then (if (1 + t215.size) + 1 + x6.size ≤ 9223372036854775807 then (if (((1 + t215.size) + 1) + x6.size : Int) > 2048 then (some x5) else ((percent_Query.f x6).bind fun bt216 => ((percent_Target.f k ((((⟨#[47]⟩ : ByteArray) ++ t215) ++ (⟨#[63]⟩ : ByteArray)) ++ x6)).bind fun bt220 => (if x5 = true then (if bt216.2 = 0 then ((stowagekit_SamePairs.f k bt216.1 x0).bind fun t225 => (if t225 = true then (if bt220.2.2 = 0 then (if 1 + x1.size ≤ 9223372036854775807 then (if bt220.1.toList = ((⟨#[47]⟩ : ByteArray) ++ x1).toList then ((stowagekit_SamePairs.f k bt220.2.1 x0).bind fun t226 => (some t226)) else (some false)) else (none)) else (some false)) else (some false))) else (some false)) else (some false))))) else (none)) else (none)) else (none)))
def stowagelaw24_PercentPairs.j2 : Nat → List (S32) → ByteArray → Bool → ByteArray → Int → Bool → Option (Bool)
  | 0, _, _, _, _, _, _ => none
  | k + 1, x0, x1, x5, x6, x7, x53 => if x53 = true then (some x5) else (if x7 > 0 then (if x6.size + 1 ≤ 9223372036854775807 then (stowagelaw24_PercentPairs.j3 k x0 x1 x5 (x6 ++ (⟨#[38]⟩ : ByteArray)) x7) else (none)) else (stowagelaw24_PercentPairs.j3 k x0 x1 x5 x6 x7))
def stowagelaw24_PercentPairs.j3 : Nat → List (S32) → ByteArray → Bool → ByteArray → Int → Option (Bool)
  | 0, _, _, _, _, _ => none
  | k + 1, x0, x1, x5, x6, x7 => if 0 ≤ x7 then (if x7 < (x0.length : Int) then ((percent_Encode.f ((rd_T32 x0 x7).f0) false).bind fun t212 => (if x6.size + t212.size ≤ 9223372036854775807 then (if x6.size + t212.size + 1 ≤ 9223372036854775807 then ((percent_Encode.f ((rd_T32 x0 x7).f1) false).bind fun t214 => (if (x6.size + t212.size) + 1 + t214.size ≤ 9223372036854775807 then (stowagelaw24_PercentPairs.l0 k x0 x1 x5 (((x6 ++ t212) ++ (⟨#[61]⟩ : ByteArray)) ++ t214) (wrap64 (x7 + 1))) else (none))) else (none)) else (none))) else (none)) else (none)
end
def stowagelaw24_PercentPairs.f (k : Nat) (l0 : List (S32)) (a1 : ByteArray) : Option (Bool) := (stowagelaw24_PercentKnown.f k).bind fun t207 => (if (l0.length : Int) > 32 then (stowagelaw24_PercentPairs.j0 k l0 a1 t207 true) else (stowagelaw24_PercentPairs.j0 k l0 a1 t207 (decide ((a1.size : Int) > 1000))))
theorem stowagelaw24_PercentPairs.mono_l : ∀ k, (∀ y0 y1 y2 y3, LeO (stowagelaw24_PercentPairs.j0 k y0 y1 y2 y3) (stowagelaw24_PercentPairs.j0 (k + 1) y0 y1 y2 y3)) ∧ (∀ y0 y1 y2 y3 y4, LeO (stowagelaw24_PercentPairs.l0 k y0 y1 y2 y3 y4) (stowagelaw24_PercentPairs.l0 (k + 1) y0 y1 y2 y3 y4)) ∧ (∀ y0 y1 y2 y3 y4 y5, LeO (stowagelaw24_PercentPairs.j2 k y0 y1 y2 y3 y4 y5) (stowagelaw24_PercentPairs.j2 (k + 1) y0 y1 y2 y3 y4 y5)) ∧ (∀ y0 y1 y2 y3 y4, LeO (stowagelaw24_PercentPairs.j3 k y0 y1 y2 y3 y4) (stowagelaw24_PercentPairs.j3 (k + 1) y0 y1 y2 y3 y4))
  | 0 => ⟨fun _ _ _ _ r h => by simp [stowagelaw24_PercentPairs.j0] at h, fun _ _ _ _ _ r h => by simp [stowagelaw24_PercentPairs.l0] at h, fun _ _ _ _ _ _ r h => by simp [stowagelaw24_PercentPairs.j2] at h, fun _ _ _ _ _ r h => by simp [stowagelaw24_PercentPairs.j3] at h⟩
  | k + 1 => by
    obtain ⟨ih0, ih1, ih2, ih3⟩ := stowagelaw24_PercentPairs.mono_l k
    refine ⟨?_, ?_, ?_, ?_⟩
    · intro y0 y1 y2 y3
      unfold stowagelaw24_PercentPairs.j0
      repeat' first
      | (with_reducible exact ih0 _ _ _ _)
      | (with_reducible exact ih1 _ _ _ _ _)
      | (with_reducible exact ih2 _ _ _ _ _ _)
      | (with_reducible exact ih3 _ _ _ _ _)
      | (with_reducible exact percent_Target.mono _ _)
      | (with_reducible exact stowagekit_SamePairs.mono _ _ _)
      | (with_reducible exact stowagelaw24_PercentKnown.mono _)
      | (with_reducible exact LeO.refl _)
      | (with_reducible exact LeO.none _)
      | (with_reducible refine LeO.ite ?_ ?_)
      | (with_reducible refine LeO.bind ?_ (fun _ => ?_))
      | exact ih0 _ _ _ _
      | exact ih1 _ _ _ _ _
      | exact ih2 _ _ _ _ _ _
      | exact ih3 _ _ _ _ _
      | exact percent_Target.mono _ _
      | exact stowagekit_SamePairs.mono _ _ _
      | exact stowagelaw24_PercentKnown.mono _
      | exact LeO.none _
      | refine LeO.ite ?_ ?_
      | refine LeO.bind ?_ (fun _ => ?_)
    · intro y0 y1 y2 y3 y4
      unfold stowagelaw24_PercentPairs.l0
      repeat' first
      | (with_reducible exact ih0 _ _ _ _)
      | (with_reducible exact ih1 _ _ _ _ _)
      | (with_reducible exact ih2 _ _ _ _ _ _)
      | (with_reducible exact ih3 _ _ _ _ _)
      | (with_reducible exact percent_Target.mono _ _)
      | (with_reducible exact stowagekit_SamePairs.mono _ _ _)
      | (with_reducible exact stowagelaw24_PercentKnown.mono _)
      | (with_reducible exact LeO.refl _)
      | (with_reducible exact LeO.none _)
      | (with_reducible refine LeO.ite ?_ ?_)
      | (with_reducible refine LeO.bind ?_ (fun _ => ?_))
      | exact ih0 _ _ _ _
      | exact ih1 _ _ _ _ _
      | exact ih2 _ _ _ _ _ _
      | exact ih3 _ _ _ _ _
      | exact percent_Target.mono _ _
      | exact stowagekit_SamePairs.mono _ _ _
      | exact stowagelaw24_PercentKnown.mono _
      | exact LeO.none _
      | refine LeO.ite ?_ ?_
      | refine LeO.bind ?_ (fun _ => ?_)
    · intro y0 y1 y2 y3 y4 y5
      unfold stowagelaw24_PercentPairs.j2
      repeat' first
      | (with_reducible exact ih0 _ _ _ _)
      | (with_reducible exact ih1 _ _ _ _ _)
      | (with_reducible exact ih2 _ _ _ _ _ _)
      | (with_reducible exact ih3 _ _ _ _ _)
      | (with_reducible exact percent_Target.mono _ _)
      | (with_reducible exact stowagekit_SamePairs.mono _ _ _)
      | (with_reducible exact stowagelaw24_PercentKnown.mono _)
      | (with_reducible exact LeO.refl _)
      | (with_reducible exact LeO.none _)
      | (with_reducible refine LeO.ite ?_ ?_)
      | (with_reducible refine LeO.bind ?_ (fun _ => ?_))
      | exact ih0 _ _ _ _
      | exact ih1 _ _ _ _ _
      | exact ih2 _ _ _ _ _ _
      | exact ih3 _ _ _ _ _
      | exact percent_Target.mono _ _
      | exact stowagekit_SamePairs.mono _ _ _
      | exact stowagelaw24_PercentKnown.mono _
      | exact LeO.none _
      | refine LeO.ite ?_ ?_
      | refine LeO.bind ?_ (fun _ => ?_)
    · intro y0 y1 y2 y3 y4
      unfold stowagelaw24_PercentPairs.j3
      repeat' first
      | (with_reducible exact ih0 _ _ _ _)
      | (with_reducible exact ih1 _ _ _ _ _)
      | (with_reducible exact ih2 _ _ _ _ _ _)
      | (with_reducible exact ih3 _ _ _ _ _)
      | (with_reducible exact percent_Target.mono _ _)
      | (with_reducible exact stowagekit_SamePairs.mono _ _ _)
      | (with_reducible exact stowagelaw24_PercentKnown.mono _)
      | (with_reducible exact LeO.refl _)
      | (with_reducible exact LeO.none _)
      | (with_reducible refine LeO.ite ?_ ?_)
      | (with_reducible refine LeO.bind ?_ (fun _ => ?_))
      | exact ih0 _ _ _ _
      | exact ih1 _ _ _ _ _
      | exact ih2 _ _ _ _ _ _
      | exact ih3 _ _ _ _ _
      | exact percent_Target.mono _ _
      | exact stowagekit_SamePairs.mono _ _ _
      | exact stowagelaw24_PercentKnown.mono _
      | exact LeO.none _
      | refine LeO.ite ?_ ?_
      | refine LeO.bind ?_ (fun _ => ?_)
theorem stowagelaw24_PercentPairs.mono : ∀ a0 a1 k, LeO (stowagelaw24_PercentPairs.f k a0 a1) (stowagelaw24_PercentPairs.f (k + 1) a0 a1) := by
  intro a0 a1 k
  obtain ⟨ih0, ih1, ih2, ih3⟩ := stowagelaw24_PercentPairs.mono_l k
  unfold stowagelaw24_PercentPairs.f
  repeat' first
      | (with_reducible exact ih0 _ _ _ _)
      | (with_reducible exact ih1 _ _ _ _ _)
      | (with_reducible exact ih2 _ _ _ _ _ _)
      | (with_reducible exact ih3 _ _ _ _ _)
      | (with_reducible exact percent_Target.mono _ _)
      | (with_reducible exact stowagekit_SamePairs.mono _ _ _)
      | (with_reducible exact stowagelaw24_PercentKnown.mono _)
      | (with_reducible exact LeO.refl _)
      | (with_reducible exact LeO.none _)
      | (with_reducible refine LeO.ite ?_ ?_)
      | (with_reducible refine LeO.bind ?_ (fun _ => ?_))
      | exact ih0 _ _ _ _
      | exact ih1 _ _ _ _ _
      | exact ih2 _ _ _ _ _ _
      | exact ih3 _ _ _ _ _
      | exact percent_Target.mono _ _
      | exact stowagekit_SamePairs.mono _ _ _
      | exact stowagelaw24_PercentKnown.mono _
      | exact LeO.none _
      | refine LeO.ite ?_ ?_
      | refine LeO.bind ?_ (fun _ => ?_)
def stowagelaw24_PercentPairs.T12 : Bool × List (List Nat × List Nat) := (true, [([], []), ([], []), ([], []), ([1, 2], [1, 2]), ([3], [3]), ([4], [4]), ([5], [5]), ([0, 6], [0, 6]), ([7], [7]), ([], []), ([], []), ([9, 10], [9, 10]), ([11], [11]), ([12], [12]), ([13, 6], [13]), ([8, 14], [8, 14]), ([15, 14, 0, 1, 2, 3, 4, 5, 6, 7, 8, 9, 10, 11, 12, 13, 14, 15], [0, 15])])
def stowagelaw24_PercentPairs.B12 : List Nat := [0, 0, 0, 6, 14, 30, 62, 127, 255, 0, 0, 1536, 3584, 7680, 15998, 32767, 65535]
theorem stowagelaw24_PercentPairs.tab12 : rtab .any (opsOf Tryd.f6 12) = stowagelaw24_PercentPairs.T12 := by kernel_rfl
theorem stowagelaw24_PercentPairs.bits12 : waitsOk stowagelaw24_PercentPairs.T12.2 stowagelaw24_PercentPairs.B12 = true := by kernel_rfl
set_option maxHeartbeats 8000000 in
set_option maxRecDepth 100000 in
theorem stowagelaw24_PercentPairs.calls (k : Nat) (A0 : Option Addr) (c0 : Nat) (l0 : List (S32)) (a1 : ByteArray) (r : Bool) (w : World) (hr0 : Kd.C k32 w A0 l0.length l0) (hc0 : l0.length ≤ c0) (h : stowagelaw24_PercentPairs.f k l0 a1 = some r) :
    Calls Tryd.prog 6 #[.slice A0 l0.length c0, .string a1] w fun e w' => e = .returned (.bool r) ∧ Below w.heap.size w w' := by
  have HR0 := Aside0.mk hr0
  have HC0 := Aside0.mk hc0
  clear hr0 hc0
  have HB := Aside0.mk (Below.refl w.heap.size w)
  have H : ((stowagelaw24_PercentKnown.f k).bind fun t207 => (if (l0.length : Int) > 32 then (stowagelaw24_PercentPairs.j0 k l0 a1 t207 true) else (stowagelaw24_PercentPairs.j0 k l0 a1 t207 (decide ((a1.size : Int) > 1000))))) = some r := h
  clear h
  replace H := Option.bind_eq_some_iff.mp H
  obtain ⟨t207, A30, H⟩ := H
  replace H : (if (l0.length : Int) > 32 then (stowagelaw24_PercentPairs.j0 k l0 a1 t207 true) else (stowagelaw24_PercentPairs.j0 k l0 a1 t207 (decide ((a1.size : Int) > 1000)))) = some r := H
  have A3 := Aside0.mk A30
  clear A30
  have HC4 := Aside0.mk H
  clear H
  go_enter Tryd.func6, Tryd.ntmps6
  go_upto_region 2 with (first | ((with_reducible refine gate_callee (f := 4) rfl ?_); refine goesL_ (some 14) rfl rfl Tryd.func4 (by kernel_rfl) rfl #[] rfl (by (try simp only [List.map_toArray, List.map_cons, List.map_nil]); first | done | rfl | (simp only [List.length_drop, List.length_take]; rfl)) ?_; (with_reducible refine (stowagelaw24_PercentKnown.calls k  t207 _ A3.out).mono ?_); rintro e w5 ⟨rfl, hb⟩; refine ⟨_, rfl, ?_⟩; have n0_ := Aside0.mk (below_step (by repeat (first | (with_reducible first | exact HB.out | apply below_alloc | apply pw_below_drewN | apply below_drew1) | exact HB.out)) hb); clear HB; have HB := n0_; clear n0_; (try clear hb); (try clear hb2); (try clear hk); (try clear hi)))
  (try simp only [Act.put, List.setIfInBounds_toArray, List.set_cons_zero, List.set_cons_succ])
  go_cut [22] (fun v22 wc => ∃ (kq : Nat) (x22_3 : Bool), v22 = .bool x22_3 ∧ Aside0 (stowagelaw24_PercentPairs.j0 kq l0 a1 t207 x22_3 = some r) ∧ Aside0 (kq ≤ k) ∧ Aside0 (Below w.heap.size w wc))
  case first =>
    have H := HC4.out
    clear HC4
    by_cases c6 : (l0.length : Int) > 32
    · rw [if_pos c6] at H
      have c6b0 : decide (32 < (l0.length : Int)) = true := decide_eq_true c6
      have c6b1 : decide (32 < l0.length) = true := decide_eq_true (by omega)
      clear c6
      (first | rw [c6b0] | (simp only [i64_w, i32_w]; rw [c6b0]) | skip)
      have H' := Aside0.mk H
      clear H
      go_wp2
      go_meet
      case rel => exact ⟨_, (true), (by first | rfl | (simp; done) | (simp [*]; done)), H', ⟨by first | omega | exact Nat.le_refl _⟩, ⟨by repeat (first | (with_reducible first | exact HB.out | apply below_alloc | apply pw_below_drewN | apply below_drew1) | exact HB.out)⟩⟩
    · rw [if_neg c6] at H
      have c6b0 : decide (32 < (l0.length : Int)) = false := decide_eq_false c6
      have c6b1 : decide (32 < l0.length) = false := decide_eq_false (by omega)
      clear c6
      (first | rw [c6b0] | (simp only [i64_w, i32_w]; rw [c6b0]) | skip)
      have H' := Aside0.mk H
      clear H
      go_wp2
      go_meet
      case rel => exact ⟨_, (decide ((a1.size : Int) > 1000)), (by first | rfl | (simp; done) | (simp [*]; done)), H', ⟨by first | omega | exact Nat.le_refl _⟩, ⟨by repeat (first | (with_reducible first | exact HB.out | apply below_alloc | apply pw_below_drewN | apply below_drew1) | exact HB.out)⟩⟩
  case rest =>
    clear HC4
    try clear p2
    try clear c4
    try clear c6
    try clear c6b0
    try clear c6b1
    obtain ⟨kq, x22_3, rfl, HA, HJ3, HB⟩ := hcut
    cases kq with
    | zero => exact absurd HA.out (by simp [stowagelaw24_PercentPairs.j0])
    | succ kj3 =>
      have H := HA.out
      clear HA
      simp only [stowagelaw24_PercentPairs.j0] at H
      by_cases c7 : x22_3 = true
      · subst c7
        have H1 : (some t207) = some r := by rw [if_pos rfl] at H; exact H
        clear H
        have H := H1
        clear H1
        obtain rfl := Option.some.inj H
        go_wp2
        go_ret
        exact ⟨by first | rfl | (simp [errW_none, errW_some] <;> rfl) | (simp [*, errW_none, errW_some] <;> rfl), by repeat (first | (with_reducible first | exact HB.out | apply below_alloc | apply pw_below_drewN | apply below_drew1) | exact HB.out)⟩
      · replace c7 := Bool.eq_false_iff.mpr c7
        subst c7
        have H1 : (stowagelaw24_PercentPairs.l0 kj3 l0 a1 t207 (⟨#[]⟩ : ByteArray) 0) = some r := by rw [if_neg (show ¬ (false = true) by decide)] at H; exact H
        clear H
        have H := H1
        clear H1
        have H' := Aside0.mk H
        clear H
        go_wp2
        go_loopg [6, 7] kj3 (fun kq v6 v7 w' => ∃ (x6_2 : ByteArray) (x7_2 : Int), v6 = .string x6_2 ∧ v7 = .int .i64 x7_2 ∧ Aside0 (stowagelaw24_PercentPairs.l0 kq l0 a1 t207 x6_2 x7_2 = some r) ∧ Aside0 (kq ≤ kj3) ∧ Aside0 (Below w.heap.size w w'))
        case atStart => exact ⟨((⟨#[]⟩ : ByteArray)), (0), (by first | rfl | (simp; done) | (simp [*]; done)), (by first | rfl | (simp; done) | (simp [*]; done)), H', ⟨Nat.le_refl _⟩, ⟨by repeat (first | (with_reducible first | exact HB.out | apply below_alloc | apply pw_below_drewN | apply below_drew1) | exact HB.out)⟩⟩
        case round =>
          clear H'
          try clear p2
          try clear c4
          try clear c6
          try clear c6b0
          try clear c6b1
          try clear c7
          try clear p2
          obtain ⟨x6_2, x7_2, rfl, rfl, HA, HK2, HB⟩ := hrel
          cases gk with
          | zero => exact absurd HA.out (by simp [stowagelaw24_PercentPairs.l0])
          | succ k2 =>
            have H := HA.out
            clear HA
            simp only [stowagelaw24_PercentPairs.l0] at H
            by_cases c8 : x7_2 < (l0.length : Int)
            · rw [if_pos c8] at H
              have c8b0 : decide (x7_2 < (l0.length : Int)) = true := decide_eq_true c8
              clear c8
              have HC9 := Aside0.mk H
              clear H
              go_upto_region 8 with (fail)
              go_cut [53] (fun v53 wc => ∃ (kq : Nat) (x53_8 : Bool), v53 = .bool x53_8 ∧ Aside0 (stowagelaw24_PercentPairs.j2 kq l0 a1 t207 x6_2 x7_2 x53_8 = some r) ∧ Aside0 (kq ≤ k2) ∧ Aside0 (Below w.heap.size w wc))
              case first =>
                have H := HC9.out
                clear HC9
                by_cases c10 : 0 ≤ x7_2
                · rw [if_pos c10] at H
                  have c10b0 : decide (0 ≤ x7_2) = true := decide_eq_true c10
                  clear c10
                  (first | rw [c10b0] | (simp only [i64_w, i32_w]; rw [c10b0]) | skip)
                  by_cases c11 : ((rd_T32 l0 x7_2).f0).toList = ([] : List UInt8)
                  · rw [if_pos c11] at H
                    have c11b0 : (((rd_T32 l0 x7_2).f0).toList == ([] : List UInt8)) = true := beq_iff_eq.mpr c11
                    have c11b1 : (((rd_T32 l0 x7_2).f0).toList != ([] : List UInt8)) = false := bne_eq_false_iff_eq.mpr c11
                    clear c11
                    have H' := Aside0.mk H
                    clear H
                    have p208 : 0 ≤ (x7_2 : Int) := of_decide_eq_true (by first | (with_reducible assumption) | assumption)
                    have q208 : x7_2 < (l0.length : Int) := of_decide_eq_true (by first | (with_reducible assumption) | assumption)
                    obtain ⟨ad208, e208, hx208_0, hx208_1⟩ := at_T32 HR0.out x7_2 p208 q208
                    cases e208
                    replace hx208_0 := (HB.out.cell (World.block_lt_of_cell? w _ hx208_0)).trans hx208_0
                    replace hx208_1 := (HB.out.cell (World.block_lt_of_cell? w _ hx208_1)).trans hx208_1
                    replace p208 := eq_true p208
                    replace q208 := eq_true q208
                    go_wp2
                    go_meet
                    case rel => exact ⟨_, (true), (by first | rfl | (simp; done) | (simp [*]; done)), H', ⟨by have := HJ3.out; have := HK2.out; first | omega | exact Nat.le_refl _⟩, ⟨by repeat (first | (with_reducible first | exact HB.out | apply below_alloc | apply pw_below_drewN | apply below_drew1) | exact HB.out)⟩⟩
                  · rw [if_neg c11] at H
                    have c11b0 : (((rd_T32 l0 x7_2).f0).toList == ([] : List UInt8)) = false := beq_eq_false_iff_ne.mpr c11
                    have c11b1 : (((rd_T32 l0 x7_2).f0).toList != ([] : List UInt8)) = true := bne_iff_ne.mpr c11
                    by_cases c12 : (((rd_T32 l0 x7_2).f0).size : Int) > 100
                    · rw [if_pos c12] at H
                      have c12b0 : decide (100 < (((rd_T32 l0 x7_2).f0).size : Int)) = true := decide_eq_true c12
                      have c12b1 : decide (100 < ((rd_T32 l0 x7_2).f0).size) = true := decide_eq_true (by omega)
                      clear c12
                      have H' := Aside0.mk H
                      clear H
                      have p208 : 0 ≤ (x7_2 : Int) := of_decide_eq_true (by first | (with_reducible assumption) | assumption)
                      have q208 : x7_2 < (l0.length : Int) := of_decide_eq_true (by first | (with_reducible assumption) | assumption)
                      obtain ⟨ad208, e208, hx208_0, hx208_1⟩ := at_T32 HR0.out x7_2 p208 q208
                      cases e208
                      replace hx208_0 := (HB.out.cell (World.block_lt_of_cell? w _ hx208_0)).trans hx208_0
                      replace hx208_1 := (HB.out.cell (World.block_lt_of_cell? w _ hx208_1)).trans hx208_1
                      replace p208 := eq_true p208
                      replace q208 := eq_true q208
                      have p209 : 0 ≤ (x7_2 : Int) := of_decide_eq_true (by first | (with_reducible assumption) | assumption)
                      have q209 : x7_2 < (l0.length : Int) := of_decide_eq_true (by first | (with_reducible assumption) | assumption)
                      obtain ⟨ad209, e209, hx209_0, hx209_1⟩ := at_T32 HR0.out x7_2 p209 q209
                      obtain rfl : ad208 = ad209 := (by injection e209)
                      replace hx209_0 := (HB.out.cell (World.block_lt_of_cell? w _ hx209_0)).trans hx209_0
                      replace hx209_1 := (HB.out.cell (World.block_lt_of_cell? w _ hx209_1)).trans hx209_1
                      replace p209 := eq_true p209
                      replace q209 := eq_true q209
                      go_wp2
                      go_meet
                      case rel => exact ⟨_, (true), (by first | rfl | (simp; done) | (simp [*]; done)), H', ⟨by have := HJ3.out; have := HK2.out; first | omega | exact Nat.le_refl _⟩, ⟨by repeat (first | (with_reducible first | exact HB.out | apply below_alloc | apply pw_below_drewN | apply below_drew1) | exact HB.out)⟩⟩
                    · rw [if_neg c12] at H
                      have c12b0 : decide (100 < (((rd_T32 l0 x7_2).f0).size : Int)) = false := decide_eq_false c12
                      have c12b1 : decide (100 < ((rd_T32 l0 x7_2).f0).size) = false := decide_eq_false (by omega)
                      clear c12
                      have H' := Aside0.mk H
                      clear H
                      have p208 : 0 ≤ (x7_2 : Int) := of_decide_eq_true (by first | (with_reducible assumption) | assumption)
                      have q208 : x7_2 < (l0.length : Int) := of_decide_eq_true (by first | (with_reducible assumption) | assumption)
                      obtain ⟨ad208, e208, hx208_0, hx208_1⟩ := at_T32 HR0.out x7_2 p208 q208
                      cases e208
                      replace hx208_0 := (HB.out.cell (World.block_lt_of_cell? w _ hx208_0)).trans hx208_0
                      replace hx208_1 := (HB.out.cell (World.block_lt_of_cell? w _ hx208_1)).trans hx208_1
                      replace p208 := eq_true p208
                      replace q208 := eq_true q208
                      have p209 : 0 ≤ (x7_2 : Int) := of_decide_eq_true (by first | (with_reducible assumption) | assumption)
                      have q209 : x7_2 < (l0.length : Int) := of_decide_eq_true (by first | (with_reducible assumption) | assumption)
                      obtain ⟨ad209, e209, hx209_0, hx209_1⟩ := at_T32 HR0.out x7_2 p209 q209
                      obtain rfl : ad208 = ad209 := (by injection e209)
                      replace hx209_0 := (HB.out.cell (World.block_lt_of_cell? w _ hx209_0)).trans hx209_0
                      replace hx209_1 := (HB.out.cell (World.block_lt_of_cell? w _ hx209_1)).trans hx209_1
                      replace p209 := eq_true p209
                      replace q209 := eq_true q209
                      have p210 : 0 ≤ (x7_2 : Int) := of_decide_eq_true (by first | (with_reducible assumption) | assumption)
                      have q210 : x7_2 < (l0.length : Int) := of_decide_eq_true (by first | (with_reducible assumption) | assumption)
                      obtain ⟨ad210, e210, hx210_0, hx210_1⟩ := at_T32 HR0.out x7_2 p210 q210
                      obtain rfl : ad208 = ad210 := (by injection e210)
                      replace hx210_0 := (HB.out.cell (World.block_lt_of_cell? w _ hx210_0)).trans hx210_0
                      replace hx210_1 := (HB.out.cell (World.block_lt_of_cell? w _ hx210_1)).trans hx210_1
                      replace p210 := eq_true p210
                      replace q210 := eq_true q210
                      go_wp2
                      go_meet
                      case rel => exact ⟨_, (decide ((((rd_T32 l0 x7_2).f1).size : Int) > 100)), (by first | rfl | (simp; done) | (simp [*]; done)), H', ⟨by have := HJ3.out; have := HK2.out; first | omega | exact Nat.le_refl _⟩, ⟨by repeat (first | (with_reducible first | exact HB.out | apply below_alloc | apply pw_below_drewN | apply below_drew1) | exact HB.out)⟩⟩
                · rw [if_neg c10] at H
                  exact absurd H (by simp)
              case rest =>
                clear HC9
                try clear c1
                try clear p2
                try clear q2
                try clear hx2
                try clear c4
                try clear c6
                try clear c6b0
                try clear c6b1
                try clear c7
                try clear c8
                try clear c8b0
                try clear c10
                try clear c10b0
                try clear c11
                try clear c11b0
                try clear c11b1
                try clear c12
                try clear c12b0
                try clear c12b1
                try clear hx208_0
                try clear hx208_1
                try clear hx209_0
                try clear hx209_1
                try clear hx210_0
                try clear hx210_1
                try clear p2
                try clear p208
                try clear p209
                try clear p210
                try clear q208
                try clear q209
                try clear q210
                obtain ⟨kq, x53_8, rfl, HA, HJ8, HB⟩ := hcut
                cases kq with
                | zero => exact absurd HA.out (by simp [stowagelaw24_PercentPairs.j2])
                | succ kj8 =>
                  have H := HA.out
                  clear HA
                  simp only [stowagelaw24_PercentPairs.j2] at H
                  by_cases c13 : x53_8 = true
                  · subst c13
                    have H1 : (some t207) = some r := by rw [if_pos rfl] at H; exact H
                    clear H
                    have H := H1
                    clear H1
                    obtain rfl := Option.some.inj H
                    go_wp2
                    go_ret
                    exact ⟨by first | rfl | (simp [errW_none, errW_some] <;> rfl) | (simp [*, errW_none, errW_some] <;> rfl), by repeat (first | (with_reducible first | exact HB.out | apply below_alloc | apply pw_below_drewN | apply below_drew1) | exact HB.out)⟩
                  · replace c13 := Bool.eq_false_iff.mpr c13
                    subst c13
                    have H1 : (if x7_2 > 0 then (if x6_2.size + 1 ≤ 9223372036854775807 then (stowagelaw24_PercentPairs.j3 kj8 l0 a1 t207 (x6_2 ++ (⟨#[38]⟩ : ByteArray)) x7_2) else (none)) else (stowagelaw24_PercentPairs.j3 kj8 l0 a1 t207 x6_2 x7_2)) = some r := by rw [if_neg (show ¬ (false = true) by decide)] at H; exact H
                    clear H
                    have H := H1
                    clear H1
                    have HC14 := Aside0.mk H
                    clear H
                    go_upto_if 56 with (fail)
                    go_cut [6] (fun v6 wc => ∃ (kq : Nat) (x6_13 : ByteArray), v6 = .string x6_13 ∧ Aside0 (stowagelaw24_PercentPairs.j3 kq l0 a1 t207 x6_13 x7_2 = some r) ∧ Aside0 (kq ≤ kj8) ∧ Aside0 (Below w.heap.size w wc))
                    case first =>
                      have H := HC14.out
                      clear HC14
                      by_cases c15 : x7_2 > 0
                      · rw [if_pos c15] at H
                        have c15b0 : decide (0 < x7_2) = true := decide_eq_true c15
                        clear c15
                        (first | rw [c15b0] | (simp only [i64_w, i32_w]; rw [c15b0]) | skip)
                        by_cases c16 : x6_2.size + 1 ≤ 9223372036854775807
                        · rw [if_pos c16] at H
                          have c16b0 := eq_true c16
                          have c16b1 : decide (x6_2.size + 1 ≤ 9223372036854775807) = true := decide_eq_true c16
                          try have c16b2 : (9223372036854775807 < x6_2.size + 1) = False := eq_false (Nat.not_lt.2 c16)
                          have H' := Aside0.mk H
                          clear H
                          go_wp2
                          go_meet
                          case rel => exact ⟨_, (x6_2 ++ (⟨#[38]⟩ : ByteArray)), (by first | rfl | (simp; done) | (simp [*]; done)), H', ⟨by have := HJ3.out; have := HK2.out; have := HJ8.out; first | omega | exact Nat.le_refl _⟩, ⟨by repeat (first | (with_reducible first | exact HB.out | apply below_alloc | apply pw_below_drewN | apply below_drew1) | exact HB.out)⟩⟩
                        · rw [if_neg c16] at H
                          exact absurd H (by simp)
                      · rw [if_neg c15] at H
                        have c15b0 : decide (0 < x7_2) = false := decide_eq_false c15
                        clear c15
                        (first | rw [c15b0] | (simp only [i64_w, i32_w]; rw [c15b0]) | skip)
                        have H' := Aside0.mk H
                        clear H
                        go_wp2
                        go_meet
                        case rel => exact ⟨_, (x6_2), (by first | rfl | (simp; done) | (simp [*]; done)), H', ⟨by have := HJ3.out; have := HK2.out; have := HJ8.out; first | omega | exact Nat.le_refl _⟩, ⟨by repeat (first | (with_reducible first | exact HB.out | apply below_alloc | apply pw_below_drewN | apply below_drew1) | exact HB.out)⟩⟩
                    case rest =>
                      clear HC14
                      try clear c1
                      try clear p2
                      try clear q2
                      try clear hx2
                      try clear c4
                      try clear c6
                      try clear c6b0
                      try clear c6b1
                      try clear c7
                      try clear c8
                      try clear c8b0
                      try clear c10
                      try clear c10b0
                      try clear c11
                      try clear c11b0
                      try clear c11b1
                      try clear c12
                      try clear c12b0
                      try clear c12b1
                      try clear c13
                      try clear c15
                      try clear c15b0
                      try clear c16
                      try clear c16b0
                      try clear c16b1
                      try clear c16b2
                      try clear hx208_0
                      try clear hx208_1
                      try clear hx209_0
                      try clear hx209_1
                      try clear hx210_0
                      try clear hx210_1
                      try clear p2
                      try clear p208
                      try clear p209
                      try clear p210
                      try clear q2
                      try clear q208
                      try clear q209
                      try clear q210
                      obtain ⟨kq, x6_13, rfl, HA, HJ13, HB⟩ := hcut
                      cases kq with
                      | zero => exact absurd HA.out (by simp [stowagelaw24_PercentPairs.j3])
                      | succ kj13 =>
                        have H := HA.out
                        clear HA
                        simp only [stowagelaw24_PercentPairs.j3] at H
                        by_cases c17 : 0 ≤ x7_2
                        · rw [if_pos c17] at H
                          have c17b0 : decide (0 ≤ x7_2) = true := decide_eq_true c17
                          clear c17
                          by_cases c18 : x7_2 < (l0.length : Int)
                          · rw [if_pos c18] at H
                            have c18b0 : decide (x7_2 < (l0.length : Int)) = true := decide_eq_true c18
                            clear c18
                            replace H := Option.bind_eq_some_iff.mp H
                            obtain ⟨t212, A190, H⟩ := H
                            replace H : (if x6_13.size + t212.size ≤ 9223372036854775807 then (if x6_13.size + t212.size + 1 ≤ 9223372036854775807 then ((percent_Encode.f ((rd_T32 l0 x7_2).f1) false).bind fun t214 => (if (x6_13.size + t212.size) + 1 + t214.size ≤ 9223372036854775807 then (stowagelaw24_PercentPairs.l0 kj13 l0 a1 t207 (((x6_13 ++ t212) ++ (⟨#[61]⟩ : ByteArray)) ++ t214) (wrap64 (x7_2 + 1))) else (none))) else (none)) else (none)) = some r := H
                            have A19 := Aside0.mk A190
                            clear A190
                            by_cases c20 : x6_13.size + t212.size ≤ 9223372036854775807
                            · rw [if_pos c20] at H
                              have c20b0 := eq_true c20
                              have c20b1 : decide (x6_13.size + t212.size ≤ 9223372036854775807) = true := decide_eq_true c20
                              try have c20b2 : (9223372036854775807 < x6_13.size + t212.size) = False := eq_false (Nat.not_lt.2 c20)
                              by_cases c21 : x6_13.size + t212.size + 1 ≤ 9223372036854775807
                              · rw [if_pos c21] at H
                                have c21b0 := eq_true c21
                                have c21b1 : decide (x6_13.size + t212.size + 1 ≤ 9223372036854775807) = true := decide_eq_true c21
                                try have c21b2 : (9223372036854775807 < x6_13.size + t212.size + 1) = False := eq_false (Nat.not_lt.2 c21)
                                replace H := Option.bind_eq_some_iff.mp H
                                obtain ⟨t214, A220, H⟩ := H
                                replace H : (if (x6_13.size + t212.size) + 1 + t214.size ≤ 9223372036854775807 then (stowagelaw24_PercentPairs.l0 kj13 l0 a1 t207 (((x6_13 ++ t212) ++ (⟨#[61]⟩ : ByteArray)) ++ t214) (wrap64 (x7_2 + 1))) else (none)) = some r := H
                                have A22 := Aside0.mk A220
                                clear A220
                                by_cases c23 : (x6_13.size + t212.size) + 1 + t214.size ≤ 9223372036854775807
                                · rw [if_pos c23] at H
                                  have c23b0 := eq_true c23
                                  have c23b1 : decide ((x6_13.size + t212.size) + 1 + t214.size ≤ 9223372036854775807) = true := decide_eq_true c23
                                  try have c23b2 : (9223372036854775807 < (x6_13.size + t212.size) + 1 + t214.size) = False := eq_false (Nat.not_lt.2 c23)
                                  have H' := Aside0.mk H
                                  clear H
                                  try go_wp2
                                  have n0_ := Aside0.mk (below_drew1 HB.out)
                                  clear HB
                                  have HB := n0_
                                  clear n0_
                                  have p211 : 0 ≤ (x7_2 : Int) := of_decide_eq_true (by first | (with_reducible assumption) | assumption)
                                  have q211 : x7_2 < (l0.length : Int) := of_decide_eq_true (by first | (with_reducible assumption) | assumption)
                                  obtain ⟨ad211, e211, hx211_0, hx211_1⟩ := at_T32 HR0.out x7_2 p211 q211
                                  have hw211_1 := hx211_1
                                  have hw211_0 := hx211_0
                                  cases e211
                                  replace hx211_0 := (HB.out.cell (World.block_lt_of_cell? w _ hx211_0)).trans hx211_0
                                  replace hx211_1 := (HB.out.cell (World.block_lt_of_cell? w _ hx211_1)).trans hx211_1
                                  replace p211 := eq_true p211
                                  replace q211 := eq_true q211
                                  have p213 : 0 ≤ (x7_2 : Int) := of_decide_eq_true (by first | (with_reducible assumption) | assumption)
                                  have q213 : x7_2 < (l0.length : Int) := of_decide_eq_true (by first | (with_reducible assumption) | assumption)
                                  obtain ⟨ad213, e213, hx213_0, hx213_1⟩ := at_T32 HR0.out x7_2 p213 q213
                                  have hw213_1 := hx213_1
                                  have hw213_0 := hx213_0
                                  obtain rfl : ad211 = ad213 := (by injection e213)
                                  replace hx213_0 := (HB.out.cell (World.block_lt_of_cell? w _ hx213_0)).trans hx213_0
                                  replace hx213_1 := (HB.out.cell (World.block_lt_of_cell? w _ hx213_1)).trans hx213_1
                                  replace p213 := eq_true p213
                                  replace q213 := eq_true q213
                                  refine start_ (n := 17) (S := fun w' => w'.cell? (ad211.add ((x7_2).toNat * 2)) = some (.string ((rd_T32 l0 x7_2).f0)) ∧ w'.cell? ⟨(ad211.add ((x7_2).toNat * 2)).block, (ad211.add ((x7_2).toNat * 2)).off + 1, none⟩ = some (.string ((rd_T32 l0 x7_2).f1)) ∧ w'.cell? (ad211.add ((x7_2).toNat * 2)) = some (.string ((rd_T32 l0 x7_2).f0)) ∧ w'.cell? ⟨(ad211.add ((x7_2).toNat * 2)).block, (ad211.add ((x7_2).toNat * 2)).off + 1, none⟩ = some (.string ((rd_T32 l0 x7_2).f1))) (ds := []) #[false, false, false, false, false, false, false, false, false, false, false, false, false, false, false, false, false] (by kernel_rfl) rfl rfl ⟨((HB.out.cell (World.block_lt_of_cell? w _ hw211_0)).trans hw211_0), ((HB.out.cell (World.block_lt_of_cell? w _ hw211_1)).trans hw211_1), ((HB.out.cell (World.block_lt_of_cell? w _ hw213_0)).trans hw213_0), ((HB.out.cell (World.block_lt_of_cell? w _ hw213_1)).trans hw213_1)⟩ (fun hHeld => ?_); refine with_tabW stowagelaw24_PercentPairs.tab12 stowagelaw24_PercentPairs.bits12 (fun HT_ HW_ => ?_)
                                  generalize wc.drew = w24 at HB hx211_0 hx211_1 hx213_0 hx213_1 hHeld ⊢
                                  refine pure_ (i := 0) (N := some 59) (v := ?_) (a' := ?_) #[true, false, false, false, false, false, false, false, false, false, false, false, false, false, false, false, false] rfl rfl (any_of HT_.out (by kernel_rfl)) (fun _ _ _ h => h) (Or.inl ⟨by rfl, ?_⟩) ?_ ?_
                                  rotate_left
                                  · intro w'
                                    go_simp
                                    with_reducible rfl
                                  rotate_left
                                  · simp only [Act.put, List.setIfInBounds_toArray, List.set_cons_zero, List.set_cons_succ, i64_w, i32_w]
                                    rfl
                                  refine pure_ (i := 1) (N := some 60) (v := ?_) (a' := ?_) #[true, true, false, false, false, false, false, false, false, false, false, false, false, false, false, false, false] rfl rfl (any_of HT_.out (by kernel_rfl)) (fun _ _ _ h => h) (Or.inl ⟨by rfl, ?_⟩) ?_ ?_
                                  rotate_left
                                  · intro w'
                                    go_simp
                                    with_reducible rfl
                                  rotate_left
                                  · simp only [Act.put, List.setIfInBounds_toArray, List.set_cons_zero, List.set_cons_succ, i64_w, i32_w]
                                    rfl
                                  refine pure_ (i := 2) (N := some 61) (v := ?_) (a' := ?_) #[true, true, true, false, false, false, false, false, false, false, false, false, false, false, false, false, false] rfl rfl (any_of HT_.out (by kernel_rfl)) (fun _ _ _ h => h) (Or.inl ⟨by rfl, ?_⟩) ?_ ?_
                                  rotate_left
                                  · intro w'
                                    go_simp
                                    with_reducible rfl
                                  rotate_left
                                  · simp only [Act.put, List.setIfInBounds_toArray, List.set_cons_zero, List.set_cons_succ, i64_w, i32_w]
                                    rfl
                                  refine pure_ (i := 3) (N := some 62) (v := ?_) (a' := ?_) #[true, true, true, true, false, false, false, false, false, false, false, false, false, false, false, false, false] rfl rfl (any_of HT_.out (by kernel_rfl)) (fun _ _ _ h => h) (Or.inl ⟨by rfl, ?_⟩) ?_ ?_
                                  rotate_left
                                  · intro w'
                                    go_simp
                                    with_reducible rfl
                                  rotate_left
                                  · simp only [Act.put, List.setIfInBounds_toArray, List.set_cons_zero, List.set_cons_succ, i64_w, i32_w]
                                    rfl
                                  refine pure_ (i := 4) (N := some 63) (v := ?_) (a' := ?_) #[true, true, true, true, true, false, false, false, false, false, false, false, false, false, false, false, false] rfl rfl (any_of HT_.out (by kernel_rfl)) (fun _ _ _ h => h) (Or.inl ⟨by rfl, ?_⟩) ?_ ?_
                                  rotate_left
                                  · intro w'
                                    go_simp
                                    with_reducible rfl
                                  rotate_left
                                  · simp only [Act.put, List.setIfInBounds_toArray, List.set_cons_zero, List.set_cons_succ, i64_w, i32_w]
                                    rfl
                                  refine pure_ (i := 9) (N := some 68) (v := ?_) (a' := ?_) #[true, true, true, true, true, false, false, false, false, true, false, false, false, false, false, false, false] rfl rfl (any_of HT_.out (by kernel_rfl)) (fun _ _ _ h => h) (Or.inl ⟨by rfl, ?_⟩) ?_ ?_
                                  rotate_left
                                  · intro w'
                                    go_simp
                                    with_reducible rfl
                                  rotate_left
                                  · simp only [Act.put, List.setIfInBounds_toArray, List.set_cons_zero, List.set_cons_succ, i64_w, i32_w]
                                    rfl
                                  refine pure_ (i := 10) (N := some 69) (v := ?_) (a' := ?_) #[true, true, true, true, true, false, false, false, false, true, true, false, false, false, false, false, false] rfl rfl (any_of HT_.out (by kernel_rfl)) (fun _ _ _ h => h) (Or.inl ⟨by rfl, ?_⟩) ?_ ?_
                                  rotate_left
                                  · intro w'
                                    go_simp
                                    with_reducible rfl
                                  rotate_left
                                  · simp only [Act.put, List.setIfInBounds_toArray, List.set_cons_zero, List.set_cons_succ, i64_w, i32_w]
                                    rfl
                                  refine pure_ (i := 11) (N := some 70) (v := ?_) (a' := ?_) #[true, true, true, true, true, false, false, false, false, true, true, true, false, false, false, false, false] rfl rfl (any_of HT_.out (by kernel_rfl)) (fun _ _ _ h => h) (Or.inl ⟨by rfl, ?_⟩) ?_ ?_
                                  rotate_left
                                  · intro w'
                                    go_simp
                                    with_reducible rfl
                                  rotate_left
                                  · simp only [Act.put, List.setIfInBounds_toArray, List.set_cons_zero, List.set_cons_succ, i64_w, i32_w]
                                    rfl
                                  refine pure_ (i := 12) (N := some 71) (v := ?_) (a' := ?_) #[true, true, true, true, true, false, false, false, false, true, true, true, true, false, false, false, false] rfl rfl (any_of HT_.out (by kernel_rfl)) (fun _ _ _ h => h) (Or.inl ⟨by rfl, ?_⟩) ?_ ?_
                                  rotate_left
                                  · intro w'
                                    go_simp
                                    with_reducible rfl
                                  rotate_left
                                  · simp only [Act.put, List.setIfInBounds_toArray, List.set_cons_zero, List.set_cons_succ, i64_w, i32_w]
                                    rfl
                                  refine take_ (i := 5) (N := some 64) (v := ?_) (a' := ?_) #[true, true, true, true, true, true, false, false, false, true, true, true, true, false, false, false, false] rfl rfl (take_ofW HT_.out HW_.out (by kernel_rfl)) (fun _ _ _ h => h) (Or.inl ⟨by rfl, ?_⟩) hHeld ?_ ?_
                                  rotate_left
                                  · rintro w' ⟨s0, s1, s2, s3⟩
                                    go_simp
                                    with_reducible rfl
                                  rotate_left
                                  · simp only [Act.put, List.setIfInBounds_toArray, List.set_cons_zero, List.set_cons_succ, i64_w, i32_w]
                                    rfl
                                  refine take_ (i := 13) (N := some 72) (v := ?_) (a' := ?_) #[true, true, true, true, true, true, false, false, false, true, true, true, true, true, false, false, false] rfl rfl (take_ofW HT_.out HW_.out (by kernel_rfl)) (fun _ _ _ h => h) (Or.inl ⟨by rfl, ?_⟩) hHeld ?_ ?_
                                  rotate_left
                                  · rintro w' ⟨s0, s1, s2, s3⟩
                                    go_simp
                                    with_reducible rfl
                                  rotate_left
                                  · simp only [Act.put, List.setIfInBounds_toArray, List.set_cons_zero, List.set_cons_succ, i64_w, i32_w]
                                    rfl
                                  refine one_ (i := 6) (N := some 65) #[true, true, true, true, true, true, true, false, false, true, true, true, true, true, false, false, false] rfl rfl (one_of HT_.out (by kernel_rfl)) (by decide) (fun K hK => ?_)
                                  refine goes_ Tryd.func16 (by kernel_rfl) rfl #[.string ((rd_T32 l0 x7_2).f0), .bool false] (by rfl) rfl rfl (by (try simp only [List.map_toArray, List.map_cons, List.map_nil]); first | done | rfl | (simp only [List.length_drop, List.length_take]; rfl)) ?_
                                  with_reducible refine (percent_Encode.calls ((rd_T32 l0 x7_2).f0) false t212 _ A19.out).mono ?_
                                  rintro e w25 ⟨rfl, hb⟩
                                  refine ⟨_, rfl, ?_⟩
                                  have n0_ := Aside0.mk (below_step (by repeat (first | (with_reducible first | exact HB.out | apply below_alloc | apply pw_below_drewN | apply below_drew1) | exact HB.out)) hb)
                                  clear HB
                                  have HB := n0_
                                  clear n0_
                                  (try clear hb)
                                  (try clear hb2)
                                  (try clear hk)
                                  (try clear hi)
                                  refine hK.out _ _ ⟨((HB.out.cell (World.block_lt_of_cell? w _ hw211_0)).trans hw211_0), ((HB.out.cell (World.block_lt_of_cell? w _ hw211_1)).trans hw211_1), ((HB.out.cell (World.block_lt_of_cell? w _ hw213_0)).trans hw213_0), ((HB.out.cell (World.block_lt_of_cell? w _ hw213_1)).trans hw213_1)⟩ (fun hHeld => ?_)
                                  clear hK K
                                  refine norm_ (a' := ?_) ?_ ?_
                                  rotate_left
                                  · show Act.put _ (some 65) _ = _
                                    simp only [Act.put, List.setIfInBounds_toArray, List.set_cons_zero, List.set_cons_succ, i64_w, i32_w]
                                    rfl
                                  refine pure_ (i := 7) (N := some 66) (v := ?_) (a' := ?_) #[true, true, true, true, true, true, true, true, false, true, true, true, true, true, false, false, false] rfl rfl (any_of HT_.out (by kernel_rfl)) (fun _ _ _ h => h) (Or.inl ⟨by rfl, ?_⟩) ?_ ?_
                                  rotate_left
                                  · intro w'
                                    go_simp
                                    with_reducible rfl
                                  rotate_left
                                  · simp only [Act.put, List.setIfInBounds_toArray, List.set_cons_zero, List.set_cons_succ, i64_w, i32_w]
                                    rfl
                                  refine pure_ (i := 8) (N := some 67) (v := ?_) (a' := ?_) #[true, true, true, true, true, true, true, true, true, true, true, true, true, true, false, false, false] rfl rfl (any_of HT_.out (by kernel_rfl)) (fun _ _ _ h => h) (Or.inl ⟨by rfl, ?_⟩) ?_ ?_
                                  rotate_left
                                  · intro w'
                                    go_simp
                                    with_reducible rfl
                                  rotate_left
                                  · simp only [Act.put, List.setIfInBounds_toArray, List.set_cons_zero, List.set_cons_succ, i64_w, i32_w]
                                    rfl
                                  refine one_ (i := 14) (N := some 73) #[true, true, true, true, true, true, true, true, true, true, true, true, true, true, true, false, false] rfl rfl (one_of HT_.out (by kernel_rfl)) (by decide) (fun K hK => ?_)
                                  refine goes_ Tryd.func16 (by kernel_rfl) rfl #[.string ((rd_T32 l0 x7_2).f1), .bool false] (by rfl) rfl rfl (by (try simp only [List.map_toArray, List.map_cons, List.map_nil]); first | done | rfl | (simp only [List.length_drop, List.length_take]; rfl)) ?_
                                  with_reducible refine (percent_Encode.calls ((rd_T32 l0 x7_2).f1) false t214 _ A22.out).mono ?_
                                  rintro e w26 ⟨rfl, hb⟩
                                  refine ⟨_, rfl, ?_⟩
                                  have n0_ := Aside0.mk (below_step (by repeat (first | (with_reducible first | exact HB.out | apply below_alloc | apply pw_below_drewN | apply below_drew1) | exact HB.out)) hb)
                                  clear HB
                                  have HB := n0_
                                  clear n0_
                                  (try clear hb)
                                  (try clear hb2)
                                  (try clear hk)
                                  (try clear hi)
                                  refine hK.out _ _ ⟨((HB.out.cell (World.block_lt_of_cell? w _ hw211_0)).trans hw211_0), ((HB.out.cell (World.block_lt_of_cell? w _ hw211_1)).trans hw211_1), ((HB.out.cell (World.block_lt_of_cell? w _ hw213_0)).trans hw213_0), ((HB.out.cell (World.block_lt_of_cell? w _ hw213_1)).trans hw213_1)⟩ (fun hHeld => ?_)
                                  clear hK K
                                  refine norm_ (a' := ?_) ?_ ?_
                                  rotate_left
                                  · show Act.put _ (some 73) _ = _
                                    simp only [Act.put, List.setIfInBounds_toArray, List.set_cons_zero, List.set_cons_succ, i64_w, i32_w]
                                    rfl
                                  refine pure_ (i := 15) (N := some 74) (v := ?_) (a' := ?_) #[true, true, true, true, true, true, true, true, true, true, true, true, true, true, true, true, false] rfl rfl (any_of HT_.out (by kernel_rfl)) (fun _ _ _ h => h) (Or.inl ⟨by rfl, ?_⟩) ?_ ?_
                                  rotate_left
                                  · intro w'
                                    go_simp
                                    with_reducible rfl
                                  rotate_left
                                  · simp only [Act.put, List.setIfInBounds_toArray, List.set_cons_zero, List.set_cons_succ, i64_w, i32_w]
                                    rfl
                                  refine pure_ (i := 16) (N := some 6) (v := ?_) (a' := ?_) #[true, true, true, true, true, true, true, true, true, true, true, true, true, true, true, true, true] rfl rfl (any_of HT_.out (by kernel_rfl)) (fun _ _ _ h => h) (Or.inl ⟨by rfl, ?_⟩) ?_ ?_
                                  rotate_left
                                  · intro w'
                                    go_simp
                                    with_reducible rfl
                                  rotate_left
                                  · simp only [Act.put, List.setIfInBounds_toArray, List.set_cons_zero, List.set_cons_succ, i64_w, i32_w]
                                    rfl
                                  refine done_ (done_of HT_.out (by kernel_rfl)) ?_
                                  try go_wp2
                                  go_roundg kj13
                                  case measure => have := HJ3.out; have := HK2.out; have := HJ8.out; have := HJ13.out; omega
                                  case rel => exact ⟨(((x6_13 ++ t212) ++ (⟨#[61]⟩ : ByteArray)) ++ t214), (wrap64 (x7_2 + 1)), (by first | rfl | (simp; done) | (simp [*]; done)), (by first | rfl | (simp; done) | (simp [*]; done)), H', ⟨by have := HJ3.out; have := HK2.out; have := HJ8.out; have := HJ13.out; omega⟩, ⟨by repeat (first | (with_reducible first | exact HB.out | apply below_alloc | apply pw_below_drewN | apply below_drew1) | exact HB.out)⟩⟩
                                · rw [if_neg c23] at H
                                  exact absurd H (by simp)
                              · rw [if_neg c21] at H
                                exact absurd H (by simp)
                            · rw [if_neg c20] at H
                              exact absurd H (by simp)
                          · rw [if_neg c18] at H
                            exact absurd H (by simp)
                        · rw [if_neg c17] at H
                          exact absurd H (by simp)
            · rw [if_neg c8] at H
              have c8b0 : decide (x7_2 < (l0.length : Int)) = false := decide_eq_false c8
              clear c8
              replace H := Option.bind_eq_some_iff.mp H
              obtain ⟨t215, A270, H⟩ := H
              replace H : (if 1 + t215.size ≤ 9223372036854775807 then (if 1 + t215.size + 1 ≤ 9223372036854775807 then (if (1 + t215.size) + 1 + x6_2.size ≤ 9223372036854775807 then (if (((1 + t215.size) + 1) + x6_2.size : Int) > 2048 then (some t207) else ((percent_Query.f x6_2).bind fun bt216 => ((percent_Target.f k2 ((((⟨#[47]⟩ : ByteArray) ++ t215) ++ (⟨#[63]⟩ : ByteArray)) ++ x6_2)).bind fun bt220 => (if t207 = true then (if bt216.2 = 0 then ((stowagekit_SamePairs.f k2 bt216.1 l0).bind fun t225 => (if t225 = true then (if bt220.2.2 = 0 then (if 1 + a1.size ≤ 9223372036854775807 then (if bt220.1.toList = ((⟨#[47]⟩ : ByteArray) ++ a1).toList then ((stowagekit_SamePairs.f k2 bt220.2.1 l0).bind fun t226 => (some t226)) else (some false)) else (none)) else (some false)) else (some false))) else (some false)) else (some false))))) else (none)) else (none)) else (none)) = some r := H
              have A27 := Aside0.mk A270
              clear A270
              by_cases c28 : 1 + t215.size ≤ 9223372036854775807
              · rw [if_pos c28] at H
                have c28b0 := eq_true c28
                have c28b1 : decide (1 + t215.size ≤ 9223372036854775807) = true := decide_eq_true c28
                try have c28b2 : (9223372036854775807 < 1 + t215.size) = False := eq_false (Nat.not_lt.2 c28)
                by_cases c29 : 1 + t215.size + 1 ≤ 9223372036854775807
                · rw [if_pos c29] at H
                  have c29b0 := eq_true c29
                  have c29b1 : decide (1 + t215.size + 1 ≤ 9223372036854775807) = true := decide_eq_true c29
                  try have c29b2 : (9223372036854775807 < 1 + t215.size + 1) = False := eq_false (Nat.not_lt.2 c29)
                  by_cases c30 : (1 + t215.size) + 1 + x6_2.size ≤ 9223372036854775807
                  · rw [if_pos c30] at H
                    have c30b0 := eq_true c30
                    have c30b1 : decide ((1 + t215.size) + 1 + x6_2.size ≤ 9223372036854775807) = true := decide_eq_true c30
                    try have c30b2 : (9223372036854775807 < (1 + t215.size) + 1 + x6_2.size) = False := eq_false (Nat.not_lt.2 c30)
                    by_cases c31 : (((1 + t215.size) + 1) + x6_2.size : Int) > 2048
                    · rw [if_pos c31] at H
                      have c31b0 : decide (2048 < (((1 + t215.size) + 1) + x6_2.size : Int)) = true := decide_eq_true c31
                      have c31b1 : decide (2048 < ((1 + t215.size) + 1) + x6_2.size) = true := decide_eq_true (by omega)
                      clear c31
                      obtain rfl := Option.some.inj H
                      go_wp2_with (first | ((with_reducible refine gate_callee (f := 16) rfl ?_); refine goesL_ (some 76) rfl rfl Tryd.func16 (by kernel_rfl) rfl #[.string a1, .bool true] rfl (by (try simp only [List.map_toArray, List.map_cons, List.map_nil]); first | done | rfl | (simp only [List.length_drop, List.length_take]; rfl)) ?_; (with_reducible refine (percent_Encode.calls a1 true t215 _ A27.out).mono ?_); rintro e w32 ⟨rfl, hb⟩; refine ⟨_, rfl, ?_⟩; have n0_ := Aside0.mk (below_step (by repeat (first | (with_reducible first | exact HB.out | apply below_alloc | apply pw_below_drewN | apply below_drew1) | exact HB.out)) hb); clear HB; have HB := n0_; clear n0_; (try clear hb); (try clear hb2); (try clear hk); (try clear hi)))
                      go_ret
                      exact ⟨by first | rfl | (simp [errW_none, errW_some] <;> rfl) | (simp [*, errW_none, errW_some] <;> rfl), by repeat (first | (with_reducible first | exact HB.out | apply below_alloc | apply pw_below_drewN | apply below_drew1) | exact HB.out)⟩
                    · rw [if_neg c31] at H
                      have c31b0 : decide (2048 < (((1 + t215.size) + 1) + x6_2.size : Int)) = false := decide_eq_false c31
                      have c31b1 : decide (2048 < ((1 + t215.size) + 1) + x6_2.size) = false := decide_eq_false (by omega)
                      clear c31
                      replace H := Option.bind_eq_some_iff.mp H
                      obtain ⟨⟨t216, t217⟩, A330, H⟩ := H
                      replace H : ((percent_Target.f k2 ((((⟨#[47]⟩ : ByteArray) ++ t215) ++ (⟨#[63]⟩ : ByteArray)) ++ x6_2)).bind fun bt220 => (if t207 = true then (if t217 = 0 then ((stowagekit_SamePairs.f k2 t216 l0).bind fun t225 => (if t225 = true then (if bt220.2.2 = 0 then (if 1 + a1.size ≤ 9223372036854775807 then (if bt220.1.toList = ((⟨#[47]⟩ : ByteArray) ++ a1).toList then ((stowagekit_SamePairs.f k2 bt220.2.1 l0).bind fun t226 => (some t226)) else (some false)) else (none)) else (some false)) else (some false))) else (some false)) else (some false))) = some r := H
                      have A33 := Aside0.mk A330
                      clear A330
                      replace H := Option.bind_eq_some_iff.mp H
                      obtain ⟨⟨t220, t221, t222⟩, A340, H⟩ := H
                      replace H : (if t207 = true then (if t217 = 0 then ((stowagekit_SamePairs.f k2 t216 l0).bind fun t225 => (if t225 = true then (if t222 = 0 then (if 1 + a1.size ≤ 9223372036854775807 then (if t220.toList = ((⟨#[47]⟩ : ByteArray) ++ a1).toList then ((stowagekit_SamePairs.f k2 t221 l0).bind fun t226 => (some t226)) else (some false)) else (none)) else (some false)) else (some false))) else (some false)) else (some false)) = some r := H
                      have A34 := Aside0.mk A340
                      clear A340
                      by_cases c35 : t207 = true
                      · subst c35
                        have H1 : (if t217 = 0 then ((stowagekit_SamePairs.f k2 t216 l0).bind fun t225 => (if t225 = true then (if t222 = 0 then (if 1 + a1.size ≤ 9223372036854775807 then (if t220.toList = ((⟨#[47]⟩ : ByteArray) ++ a1).toList then ((stowagekit_SamePairs.f k2 t221 l0).bind fun t226 => (some t226)) else (some false)) else (none)) else (some false)) else (some false))) else (some false)) = some r := by rw [if_pos rfl] at H; exact H
                        clear H
                        have H := H1
                        clear H1
                        by_cases c36 : t217 = 0
                        · rw [if_pos c36] at H
                          have c36b0 : (t217 == 0) = true := beq_iff_eq.mpr c36
                          have c36b1 : (t217 != 0) = false := bne_eq_false_iff_eq.mpr c36
                          clear c36
                          replace H := Option.bind_eq_some_iff.mp H
                          obtain ⟨t225, A370, H⟩ := H
                          replace H : (if t225 = true then (if t222 = 0 then (if 1 + a1.size ≤ 9223372036854775807 then (if t220.toList = ((⟨#[47]⟩ : ByteArray) ++ a1).toList then ((stowagekit_SamePairs.f k2 t221 l0).bind fun t226 => (some t226)) else (some false)) else (none)) else (some false)) else (some false)) = some r := H
                          have A37 := Aside0.mk A370
                          clear A370
                          by_cases c38 : t225 = true
                          · subst c38
                            have H1 : (if t222 = 0 then (if 1 + a1.size ≤ 9223372036854775807 then (if t220.toList = ((⟨#[47]⟩ : ByteArray) ++ a1).toList then ((stowagekit_SamePairs.f k2 t221 l0).bind fun t226 => (some t226)) else (some false)) else (none)) else (some false)) = some r := by rw [if_pos rfl] at H; exact H
                            clear H
                            have H := H1
                            clear H1
                            by_cases c39 : t222 = 0
                            · rw [if_pos c39] at H
                              have c39b0 : (t222 == 0) = true := beq_iff_eq.mpr c39
                              have c39b1 : (t222 != 0) = false := bne_eq_false_iff_eq.mpr c39
                              clear c39
                              by_cases c40 : 1 + a1.size ≤ 9223372036854775807
                              · rw [if_pos c40] at H
                                have c40b0 := eq_true c40
                                have c40b1 : decide (1 + a1.size ≤ 9223372036854775807) = true := decide_eq_true c40
                                try have c40b2 : (9223372036854775807 < 1 + a1.size) = False := eq_false (Nat.not_lt.2 c40)
                                by_cases c41 : t220.toList = ((⟨#[47]⟩ : ByteArray) ++ a1).toList
                                · rw [if_pos c41] at H
                                  have c41b0 : (t220.toList == ((⟨#[47]⟩ : ByteArray) ++ a1).toList) = true := beq_iff_eq.mpr c41
                                  have c41b1 : (t220.toList != ((⟨#[47]⟩ : ByteArray) ++ a1).toList) = false := bne_eq_false_iff_eq.mpr c41
                                  clear c41
                                  replace H := Option.bind_eq_some_iff.mp H
                                  obtain ⟨t226, A420, H⟩ := H
                                  replace H : (some t226) = some r := H
                                  have A42 := Aside0.mk A420
                                  clear A420
                                  obtain rfl := Option.some.inj H
                                  go_wp2_with (first | ((with_reducible refine gate_callee (f := 16) rfl ?_); refine goesL_ (some 76) rfl rfl Tryd.func16 (by kernel_rfl) rfl #[.string a1, .bool true] rfl (by (try simp only [List.map_toArray, List.map_cons, List.map_nil]); first | done | rfl | (simp only [List.length_drop, List.length_take]; rfl)) ?_; (with_reducible refine (percent_Encode.calls a1 true t215 _ A27.out).mono ?_); rintro e w43 ⟨rfl, hb⟩; refine ⟨_, rfl, ?_⟩; have n0_ := Aside0.mk (below_step (by repeat (first | (with_reducible first | exact HB.out | apply below_alloc | apply pw_below_drewN | apply below_drew1) | exact HB.out)) hb); clear HB; have HB := n0_; clear n0_; (try clear hb); (try clear hb2); (try clear hk); (try clear hi)) | ((with_reducible refine gate_callee (f := 7) rfl ?_); refine goesL_ (some 87) rfl rfl Tryd.func7 (by kernel_rfl) rfl #[.string x6_2] rfl (by (try simp only [List.map_toArray, List.map_cons, List.map_nil]); first | done | rfl | (simp only [List.length_drop, List.length_take]; rfl)) ?_; (with_reducible refine (percent_Query.calls x6_2 t216 t217 _ A33.out).mono ?_); rintro e w44 ⟨v218, rfl, ho0, hb⟩; refine ⟨_, rfl, ?_⟩; have n0_ := Aside0.mk (Kd.R_lower ho0 (below_size (by repeat (first | (with_reducible first | exact HB.out | apply below_alloc | apply pw_below_drewN | apply below_drew1) | exact HB.out)))); have n1_ := Aside0.mk (below_step (by repeat (first | (with_reducible first | exact HB.out | apply below_alloc | apply pw_below_drewN | apply below_drew1) | exact HB.out)) hb); clear HB; have HO219 := n0_; have HB := n1_; clear n0_ n1_; (try clear hb); (try clear hb2); (try clear hk); (try clear hi); (try clear ho0)) | ((with_reducible refine gate_callee (f := 9) rfl ?_); refine goesL_ (some 92) rfl rfl Tryd.func9 (by kernel_rfl) rfl #[.string ((((⟨#[47]⟩ : ByteArray) ++ t215) ++ (⟨#[63]⟩ : ByteArray)) ++ x6_2)] rfl (by (try simp only [List.map_toArray, List.map_cons, List.map_nil]); first | done | rfl | (simp only [List.length_drop, List.length_take]; rfl)) ?_; (with_reducible refine (percent_Target.calls k2 ((((⟨#[47]⟩ : ByteArray) ++ t215) ++ (⟨#[63]⟩ : ByteArray)) ++ x6_2) t220 t221 t222 _ A34.out).mono ?_); rintro e w45 ⟨v223, rfl, ho0, hb⟩; refine ⟨_, rfl, ?_⟩; have n0_ := Aside0.mk (Kd.R_elder' (by (with_reducible repeat (first | apply Kd.R_alloc | apply Kd.R_drewN | apply Kd.R_drew)); exact HO219.out) (Kd.R_base ho0) hb); have n1_ := Aside0.mk (Kd.R_lower (Kd.R_new' ho0 (Kd.R_lt (by (with_reducible repeat (first | apply Kd.R_alloc | apply Kd.R_drewN | apply Kd.R_drew)); exact HO219.out))) (below_size (by repeat (first | (with_reducible first | exact HB.out | apply below_alloc | apply pw_below_drewN | apply below_drew1) | exact HB.out)))); have n2_ := Aside0.mk (below_step (by repeat (first | (with_reducible first | exact HB.out | apply below_alloc | apply pw_below_drewN | apply below_drew1) | exact HB.out)) hb); clear HO219; clear HB; have HO219 := n0_; have HO224 := n1_; have HB := n2_; clear n0_ n1_ n2_; (try clear hb); (try clear hb2); (try clear hk); (try clear hi); (try clear ho0); obtain ⟨Ao46, co46, eo46⟩ := Kd.R_slice HO219.out; subst eo46) | (go_at_call 13; (with_reducible refine (stowagekit_SamePairs.calls k2 _ _ t216 _ _ l0 true _ ?side1 ?side2 ?side3 ?side4 A37.out).mono ?_); (case side1 => repeat (first | exact (Kd.R_reads' HO219.out).2.2 | (with_reducible refine Kd.C_alloc ?_ _) | (with_reducible refine Kd.C_drewN ?_ _) | (with_reducible refine Kd.C_drew ?_))); (case side2 => exact (Kd.R_reads' HO219.out).2.1); (case side3 => repeat (first | exact (Kd.C_below HR0.out HB.out) | (with_reducible refine Kd.C_alloc ?_ _) | (with_reducible refine Kd.C_drewN ?_ _) | (with_reducible refine Kd.C_drew ?_))); (case side4 => exact HC0.out); rintro e w' ⟨rfl, ⟨nd, rfl⟩⟩; obtain ⟨Ao47, co47, eo47⟩ := Kd.R_slice HO224.out; subst eo47) | (go_at_call 13; (with_reducible refine (stowagekit_SamePairs.calls k2 _ _ t221 _ _ l0 t226 _ ?side1 ?side2 ?side3 ?side4 A42.out).mono ?_); (case side1 => repeat (first | exact (Kd.R_reads' HO224.out).2.2 | (with_reducible refine Kd.C_alloc ?_ _) | (with_reducible refine Kd.C_drewN ?_ _) | (with_reducible refine Kd.C_drew ?_))); (case side2 => exact (Kd.R_reads' HO224.out).2.1); (case side3 => repeat (first | exact (Kd.C_below HR0.out (by repeat (first | (with_reducible first | exact HB.out | apply below_alloc | apply pw_below_drewN | apply below_drew1) | exact HB.out))) | (with_reducible refine Kd.C_alloc ?_ _) | (with_reducible refine Kd.C_drewN ?_ _) | (with_reducible refine Kd.C_drew ?_))); (case side4 => exact HC0.out); rintro e w' ⟨rfl, ⟨nd, rfl⟩⟩))
                                  go_ret
                                  exact ⟨by first | rfl | (simp [errW_none, errW_some] <;> rfl) | (simp [*, errW_none, errW_some] <;> rfl), by repeat (first | (with_reducible first | exact HB.out | apply below_alloc | apply pw_below_drewN | apply below_drew1) | exact HB.out)⟩
                                · rw [if_neg c41] at H
                                  have c41b0 : (t220.toList == ((⟨#[47]⟩ : ByteArray) ++ a1).toList) = false := beq_eq_false_iff_ne.mpr c41
                                  have c41b1 : (t220.toList != ((⟨#[47]⟩ : ByteArray) ++ a1).toList) = true := bne_iff_ne.mpr c41
                                  obtain rfl := Option.some.inj H
                                  go_wp2_with (first | ((with_reducible refine gate_callee (f := 16) rfl ?_); refine goesL_ (some 76) rfl rfl Tryd.func16 (by kernel_rfl) rfl #[.string a1, .bool true] rfl (by (try simp only [List.map_toArray, List.map_cons, List.map_nil]); first | done | rfl | (simp only [List.length_drop, List.length_take]; rfl)) ?_; (with_reducible refine (percent_Encode.calls a1 true t215 _ A27.out).mono ?_); rintro e w48 ⟨rfl, hb⟩; refine ⟨_, rfl, ?_⟩; have n0_ := Aside0.mk (below_step (by repeat (first | (with_reducible first | exact HB.out | apply below_alloc | apply pw_below_drewN | apply below_drew1) | exact HB.out)) hb); clear HB; have HB := n0_; clear n0_; (try clear hb); (try clear hb2); (try clear hk); (try clear hi)) | ((with_reducible refine gate_callee (f := 7) rfl ?_); refine goesL_ (some 87) rfl rfl Tryd.func7 (by kernel_rfl) rfl #[.string x6_2] rfl (by (try simp only [List.map_toArray, List.map_cons, List.map_nil]); first | done | rfl | (simp only [List.length_drop, List.length_take]; rfl)) ?_; (with_reducible refine (percent_Query.calls x6_2 t216 t217 _ A33.out).mono ?_); rintro e w49 ⟨v218, rfl, ho0, hb⟩; refine ⟨_, rfl, ?_⟩; have n0_ := Aside0.mk (Kd.R_lower ho0 (below_size (by repeat (first | (with_reducible first | exact HB.out | apply below_alloc | apply pw_below_drewN | apply below_drew1) | exact HB.out)))); have n1_ := Aside0.mk (below_step (by repeat (first | (with_reducible first | exact HB.out | apply below_alloc | apply pw_below_drewN | apply below_drew1) | exact HB.out)) hb); clear HB; have HO219 := n0_; have HB := n1_; clear n0_ n1_; (try clear hb); (try clear hb2); (try clear hk); (try clear hi); (try clear ho0)) | ((with_reducible refine gate_callee (f := 9) rfl ?_); refine goesL_ (some 92) rfl rfl Tryd.func9 (by kernel_rfl) rfl #[.string ((((⟨#[47]⟩ : ByteArray) ++ t215) ++ (⟨#[63]⟩ : ByteArray)) ++ x6_2)] rfl (by (try simp only [List.map_toArray, List.map_cons, List.map_nil]); first | done | rfl | (simp only [List.length_drop, List.length_take]; rfl)) ?_; (with_reducible refine (percent_Target.calls k2 ((((⟨#[47]⟩ : ByteArray) ++ t215) ++ (⟨#[63]⟩ : ByteArray)) ++ x6_2) t220 t221 t222 _ A34.out).mono ?_); rintro e w50 ⟨v223, rfl, ho0, hb⟩; refine ⟨_, rfl, ?_⟩; have n0_ := Aside0.mk (Kd.R_elder' (by (with_reducible repeat (first | apply Kd.R_alloc | apply Kd.R_drewN | apply Kd.R_drew)); exact HO219.out) (Kd.R_base ho0) hb); have n1_ := Aside0.mk (Kd.R_lower (Kd.R_new' ho0 (Kd.R_lt (by (with_reducible repeat (first | apply Kd.R_alloc | apply Kd.R_drewN | apply Kd.R_drew)); exact HO219.out))) (below_size (by repeat (first | (with_reducible first | exact HB.out | apply below_alloc | apply pw_below_drewN | apply below_drew1) | exact HB.out)))); have n2_ := Aside0.mk (below_step (by repeat (first | (with_reducible first | exact HB.out | apply below_alloc | apply pw_below_drewN | apply below_drew1) | exact HB.out)) hb); clear HO219; clear HB; have HO219 := n0_; have HO224 := n1_; have HB := n2_; clear n0_ n1_ n2_; (try clear hb); (try clear hb2); (try clear hk); (try clear hi); (try clear ho0); obtain ⟨Ao51, co51, eo51⟩ := Kd.R_slice HO219.out; subst eo51) | (go_at_call 13; (with_reducible refine (stowagekit_SamePairs.calls k2 _ _ t216 _ _ l0 true _ ?side1 ?side2 ?side3 ?side4 A37.out).mono ?_); (case side1 => repeat (first | exact (Kd.R_reads' HO219.out).2.2 | (with_reducible refine Kd.C_alloc ?_ _) | (with_reducible refine Kd.C_drewN ?_ _) | (with_reducible refine Kd.C_drew ?_))); (case side2 => exact (Kd.R_reads' HO219.out).2.1); (case side3 => repeat (first | exact (Kd.C_below HR0.out HB.out) | (with_reducible refine Kd.C_alloc ?_ _) | (with_reducible refine Kd.C_drewN ?_ _) | (with_reducible refine Kd.C_drew ?_))); (case side4 => exact HC0.out); rintro e w' ⟨rfl, ⟨nd, rfl⟩⟩))
                                  go_ret
                                  exact ⟨by first | rfl | (simp [errW_none, errW_some] <;> rfl) | (simp [*, errW_none, errW_some] <;> rfl), by repeat (first | (with_reducible first | exact HB.out | apply below_alloc | apply pw_below_drewN | apply below_drew1) | exact HB.out)⟩
                              · rw [if_neg c40] at H
                                exact absurd H (by simp)
                            · rw [if_neg c39] at H
                              have c39b0 : (t222 == 0) = false := beq_eq_false_iff_ne.mpr c39
                              have c39b1 : (t222 != 0) = true := bne_iff_ne.mpr c39
                              obtain rfl := Option.some.inj H
                              go_wp2_with (first | ((with_reducible refine gate_callee (f := 16) rfl ?_); refine goesL_ (some 76) rfl rfl Tryd.func16 (by kernel_rfl) rfl #[.string a1, .bool true] rfl (by (try simp only [List.map_toArray, List.map_cons, List.map_nil]); first | done | rfl | (simp only [List.length_drop, List.length_take]; rfl)) ?_; (with_reducible refine (percent_Encode.calls a1 true t215 _ A27.out).mono ?_); rintro e w52 ⟨rfl, hb⟩; refine ⟨_, rfl, ?_⟩; have n0_ := Aside0.mk (below_step (by repeat (first | (with_reducible first | exact HB.out | apply below_alloc | apply pw_below_drewN | apply below_drew1) | exact HB.out)) hb); clear HB; have HB := n0_; clear n0_; (try clear hb); (try clear hb2); (try clear hk); (try clear hi)) | ((with_reducible refine gate_callee (f := 7) rfl ?_); refine goesL_ (some 87) rfl rfl Tryd.func7 (by kernel_rfl) rfl #[.string x6_2] rfl (by (try simp only [List.map_toArray, List.map_cons, List.map_nil]); first | done | rfl | (simp only [List.length_drop, List.length_take]; rfl)) ?_; (with_reducible refine (percent_Query.calls x6_2 t216 t217 _ A33.out).mono ?_); rintro e w53 ⟨v218, rfl, ho0, hb⟩; refine ⟨_, rfl, ?_⟩; have n0_ := Aside0.mk (Kd.R_lower ho0 (below_size (by repeat (first | (with_reducible first | exact HB.out | apply below_alloc | apply pw_below_drewN | apply below_drew1) | exact HB.out)))); have n1_ := Aside0.mk (below_step (by repeat (first | (with_reducible first | exact HB.out | apply below_alloc | apply pw_below_drewN | apply below_drew1) | exact HB.out)) hb); clear HB; have HO219 := n0_; have HB := n1_; clear n0_ n1_; (try clear hb); (try clear hb2); (try clear hk); (try clear hi); (try clear ho0)) | ((with_reducible refine gate_callee (f := 9) rfl ?_); refine goesL_ (some 92) rfl rfl Tryd.func9 (by kernel_rfl) rfl #[.string ((((⟨#[47]⟩ : ByteArray) ++ t215) ++ (⟨#[63]⟩ : ByteArray)) ++ x6_2)] rfl (by (try simp only [List.map_toArray, List.map_cons, List.map_nil]); first | done | rfl | (simp only [List.length_drop, List.length_take]; rfl)) ?_; (with_reducible refine (percent_Target.calls k2 ((((⟨#[47]⟩ : ByteArray) ++ t215) ++ (⟨#[63]⟩ : ByteArray)) ++ x6_2) t220 t221 t222 _ A34.out).mono ?_); rintro e w54 ⟨v223, rfl, ho0, hb⟩; refine ⟨_, rfl, ?_⟩; have n0_ := Aside0.mk (Kd.R_elder' (by (with_reducible repeat (first | apply Kd.R_alloc | apply Kd.R_drewN | apply Kd.R_drew)); exact HO219.out) (Kd.R_base ho0) hb); have n1_ := Aside0.mk (Kd.R_lower (Kd.R_new' ho0 (Kd.R_lt (by (with_reducible repeat (first | apply Kd.R_alloc | apply Kd.R_drewN | apply Kd.R_drew)); exact HO219.out))) (below_size (by repeat (first | (with_reducible first | exact HB.out | apply below_alloc | apply pw_below_drewN | apply below_drew1) | exact HB.out)))); have n2_ := Aside0.mk (below_step (by repeat (first | (with_reducible first | exact HB.out | apply below_alloc | apply pw_below_drewN | apply below_drew1) | exact HB.out)) hb); clear HO219; clear HB; have HO219 := n0_; have HO224 := n1_; have HB := n2_; clear n0_ n1_ n2_; (try clear hb); (try clear hb2); (try clear hk); (try clear hi); (try clear ho0); obtain ⟨Ao55, co55, eo55⟩ := Kd.R_slice HO219.out; subst eo55) | (go_at_call 13; (with_reducible refine (stowagekit_SamePairs.calls k2 _ _ t216 _ _ l0 true _ ?side1 ?side2 ?side3 ?side4 A37.out).mono ?_); (case side1 => repeat (first | exact (Kd.R_reads' HO219.out).2.2 | (with_reducible refine Kd.C_alloc ?_ _) | (with_reducible refine Kd.C_drewN ?_ _) | (with_reducible refine Kd.C_drew ?_))); (case side2 => exact (Kd.R_reads' HO219.out).2.1); (case side3 => repeat (first | exact (Kd.C_below HR0.out HB.out) | (with_reducible refine Kd.C_alloc ?_ _) | (with_reducible refine Kd.C_drewN ?_ _) | (with_reducible refine Kd.C_drew ?_))); (case side4 => exact HC0.out); rintro e w' ⟨rfl, ⟨nd, rfl⟩⟩))
                              go_ret
                              exact ⟨by first | rfl | (simp [errW_none, errW_some] <;> rfl) | (simp [*, errW_none, errW_some] <;> rfl), by repeat (first | (with_reducible first | exact HB.out | apply below_alloc | apply pw_below_drewN | apply below_drew1) | exact HB.out)⟩
                          · replace c38 := Bool.eq_false_iff.mpr c38
                            subst c38
                            have H1 : (some false) = some r := by rw [if_neg (show ¬ (false = true) by decide)] at H; exact H
                            clear H
                            have H := H1
                            clear H1
                            obtain rfl := Option.some.inj H
                            go_wp2_with (first | ((with_reducible refine gate_callee (f := 16) rfl ?_); refine goesL_ (some 76) rfl rfl Tryd.func16 (by kernel_rfl) rfl #[.string a1, .bool true] rfl (by (try simp only [List.map_toArray, List.map_cons, List.map_nil]); first | done | rfl | (simp only [List.length_drop, List.length_take]; rfl)) ?_; (with_reducible refine (percent_Encode.calls a1 true t215 _ A27.out).mono ?_); rintro e w56 ⟨rfl, hb⟩; refine ⟨_, rfl, ?_⟩; have n0_ := Aside0.mk (below_step (by repeat (first | (with_reducible first | exact HB.out | apply below_alloc | apply pw_below_drewN | apply below_drew1) | exact HB.out)) hb); clear HB; have HB := n0_; clear n0_; (try clear hb); (try clear hb2); (try clear hk); (try clear hi)) | ((with_reducible refine gate_callee (f := 7) rfl ?_); refine goesL_ (some 87) rfl rfl Tryd.func7 (by kernel_rfl) rfl #[.string x6_2] rfl (by (try simp only [List.map_toArray, List.map_cons, List.map_nil]); first | done | rfl | (simp only [List.length_drop, List.length_take]; rfl)) ?_; (with_reducible refine (percent_Query.calls x6_2 t216 t217 _ A33.out).mono ?_); rintro e w57 ⟨v218, rfl, ho0, hb⟩; refine ⟨_, rfl, ?_⟩; have n0_ := Aside0.mk (Kd.R_lower ho0 (below_size (by repeat (first | (with_reducible first | exact HB.out | apply below_alloc | apply pw_below_drewN | apply below_drew1) | exact HB.out)))); have n1_ := Aside0.mk (below_step (by repeat (first | (with_reducible first | exact HB.out | apply below_alloc | apply pw_below_drewN | apply below_drew1) | exact HB.out)) hb); clear HB; have HO219 := n0_; have HB := n1_; clear n0_ n1_; (try clear hb); (try clear hb2); (try clear hk); (try clear hi); (try clear ho0)) | ((with_reducible refine gate_callee (f := 9) rfl ?_); refine goesL_ (some 92) rfl rfl Tryd.func9 (by kernel_rfl) rfl #[.string ((((⟨#[47]⟩ : ByteArray) ++ t215) ++ (⟨#[63]⟩ : ByteArray)) ++ x6_2)] rfl (by (try simp only [List.map_toArray, List.map_cons, List.map_nil]); first | done | rfl | (simp only [List.length_drop, List.length_take]; rfl)) ?_; (with_reducible refine (percent_Target.calls k2 ((((⟨#[47]⟩ : ByteArray) ++ t215) ++ (⟨#[63]⟩ : ByteArray)) ++ x6_2) t220 t221 t222 _ A34.out).mono ?_); rintro e w58 ⟨v223, rfl, ho0, hb⟩; refine ⟨_, rfl, ?_⟩; have n0_ := Aside0.mk (Kd.R_elder' (by (with_reducible repeat (first | apply Kd.R_alloc | apply Kd.R_drewN | apply Kd.R_drew)); exact HO219.out) (Kd.R_base ho0) hb); have n1_ := Aside0.mk (Kd.R_lower (Kd.R_new' ho0 (Kd.R_lt (by (with_reducible repeat (first | apply Kd.R_alloc | apply Kd.R_drewN | apply Kd.R_drew)); exact HO219.out))) (below_size (by repeat (first | (with_reducible first | exact HB.out | apply below_alloc | apply pw_below_drewN | apply below_drew1) | exact HB.out)))); have n2_ := Aside0.mk (below_step (by repeat (first | (with_reducible first | exact HB.out | apply below_alloc | apply pw_below_drewN | apply below_drew1) | exact HB.out)) hb); clear HO219; clear HB; have HO219 := n0_; have HO224 := n1_; have HB := n2_; clear n0_ n1_ n2_; (try clear hb); (try clear hb2); (try clear hk); (try clear hi); (try clear ho0); obtain ⟨Ao59, co59, eo59⟩ := Kd.R_slice HO219.out; subst eo59) | (go_at_call 13; (with_reducible refine (stowagekit_SamePairs.calls k2 _ _ t216 _ _ l0 false _ ?side1 ?side2 ?side3 ?side4 A37.out).mono ?_); (case side1 => repeat (first | exact (Kd.R_reads' HO219.out).2.2 | (with_reducible refine Kd.C_alloc ?_ _) | (with_reducible refine Kd.C_drewN ?_ _) | (with_reducible refine Kd.C_drew ?_))); (case side2 => exact (Kd.R_reads' HO219.out).2.1); (case side3 => repeat (first | exact (Kd.C_below HR0.out HB.out) | (with_reducible refine Kd.C_alloc ?_ _) | (with_reducible refine Kd.C_drewN ?_ _) | (with_reducible refine Kd.C_drew ?_))); (case side4 => exact HC0.out); rintro e w' ⟨rfl, ⟨nd, rfl⟩⟩))
                            go_ret
                            exact ⟨by first | rfl | (simp [errW_none, errW_some] <;> rfl) | (simp [*, errW_none, errW_some] <;> rfl), by repeat (first | (with_reducible first | exact HB.out | apply below_alloc | apply pw_below_drewN | apply below_drew1) | exact HB.out)⟩
                        · rw [if_neg c36] at H
                          have c36b0 : (t217 == 0) = false := beq_eq_false_iff_ne.mpr c36
                          have c36b1 : (t217 != 0) = true := bne_iff_ne.mpr c36
                          obtain rfl := Option.some.inj H
                          go_wp2_with (first | ((with_reducible refine gate_callee (f := 16) rfl ?_); refine goesL_ (some 76) rfl rfl Tryd.func16 (by kernel_rfl) rfl #[.string a1, .bool true] rfl (by (try simp only [List.map_toArray, List.map_cons, List.map_nil]); first | done | rfl | (simp only [List.length_drop, List.length_take]; rfl)) ?_; (with_reducible refine (percent_Encode.calls a1 true t215 _ A27.out).mono ?_); rintro e w60 ⟨rfl, hb⟩; refine ⟨_, rfl, ?_⟩; have n0_ := Aside0.mk (below_step (by repeat (first | (with_reducible first | exact HB.out | apply below_alloc | apply pw_below_drewN | apply below_drew1) | exact HB.out)) hb); clear HB; have HB := n0_; clear n0_; (try clear hb); (try clear hb2); (try clear hk); (try clear hi)) | ((with_reducible refine gate_callee (f := 7) rfl ?_); refine goesL_ (some 87) rfl rfl Tryd.func7 (by kernel_rfl) rfl #[.string x6_2] rfl (by (try simp only [List.map_toArray, List.map_cons, List.map_nil]); first | done | rfl | (simp only [List.length_drop, List.length_take]; rfl)) ?_; (with_reducible refine (percent_Query.calls x6_2 t216 t217 _ A33.out).mono ?_); rintro e w61 ⟨v218, rfl, ho0, hb⟩; refine ⟨_, rfl, ?_⟩; have n0_ := Aside0.mk (Kd.R_lower ho0 (below_size (by repeat (first | (with_reducible first | exact HB.out | apply below_alloc | apply pw_below_drewN | apply below_drew1) | exact HB.out)))); have n1_ := Aside0.mk (below_step (by repeat (first | (with_reducible first | exact HB.out | apply below_alloc | apply pw_below_drewN | apply below_drew1) | exact HB.out)) hb); clear HB; have HO219 := n0_; have HB := n1_; clear n0_ n1_; (try clear hb); (try clear hb2); (try clear hk); (try clear hi); (try clear ho0)) | ((with_reducible refine gate_callee (f := 9) rfl ?_); refine goesL_ (some 92) rfl rfl Tryd.func9 (by kernel_rfl) rfl #[.string ((((⟨#[47]⟩ : ByteArray) ++ t215) ++ (⟨#[63]⟩ : ByteArray)) ++ x6_2)] rfl (by (try simp only [List.map_toArray, List.map_cons, List.map_nil]); first | done | rfl | (simp only [List.length_drop, List.length_take]; rfl)) ?_; (with_reducible refine (percent_Target.calls k2 ((((⟨#[47]⟩ : ByteArray) ++ t215) ++ (⟨#[63]⟩ : ByteArray)) ++ x6_2) t220 t221 t222 _ A34.out).mono ?_); rintro e w62 ⟨v223, rfl, ho0, hb⟩; refine ⟨_, rfl, ?_⟩; have n0_ := Aside0.mk (Kd.R_elder' (by (with_reducible repeat (first | apply Kd.R_alloc | apply Kd.R_drewN | apply Kd.R_drew)); exact HO219.out) (Kd.R_base ho0) hb); have n1_ := Aside0.mk (Kd.R_lower (Kd.R_new' ho0 (Kd.R_lt (by (with_reducible repeat (first | apply Kd.R_alloc | apply Kd.R_drewN | apply Kd.R_drew)); exact HO219.out))) (below_size (by repeat (first | (with_reducible first | exact HB.out | apply below_alloc | apply pw_below_drewN | apply below_drew1) | exact HB.out)))); have n2_ := Aside0.mk (below_step (by repeat (first | (with_reducible first | exact HB.out | apply below_alloc | apply pw_below_drewN | apply below_drew1) | exact HB.out)) hb); clear HO219; clear HB; have HO219 := n0_; have HO224 := n1_; have HB := n2_; clear n0_ n1_ n2_; (try clear hb); (try clear hb2); (try clear hk); (try clear hi); (try clear ho0)))
                          go_ret
                          exact ⟨by first | rfl | (simp [errW_none, errW_some] <;> rfl) | (simp [*, errW_none, errW_some] <;> rfl), by repeat (first | (with_reducible first | exact HB.out | apply below_alloc | apply pw_below_drewN | apply below_drew1) | exact HB.out)⟩
                      · replace c35 := Bool.eq_false_iff.mpr c35
                        subst c35
                        have H1 : (some false) = some r := by rw [if_neg (show ¬ (false = true) by decide)] at H; exact H
                        clear H
                        have H := H1
                        clear H1
                        obtain rfl := Option.some.inj H
                        go_wp2_with (first | ((with_reducible refine gate_callee (f := 16) rfl ?_); refine goesL_ (some 76) rfl rfl Tryd.func16 (by kernel_rfl) rfl #[.string a1, .bool true] rfl (by (try simp only [List.map_toArray, List.map_cons, List.map_nil]); first | done | rfl | (simp only [List.length_drop, List.length_take]; rfl)) ?_; (with_reducible refine (percent_Encode.calls a1 true t215 _ A27.out).mono ?_); rintro e w63 ⟨rfl, hb⟩; refine ⟨_, rfl, ?_⟩; have n0_ := Aside0.mk (below_step (by repeat (first | (with_reducible first | exact HB.out | apply below_alloc | apply pw_below_drewN | apply below_drew1) | exact HB.out)) hb); clear HB; have HB := n0_; clear n0_; (try clear hb); (try clear hb2); (try clear hk); (try clear hi)) | ((with_reducible refine gate_callee (f := 7) rfl ?_); refine goesL_ (some 87) rfl rfl Tryd.func7 (by kernel_rfl) rfl #[.string x6_2] rfl (by (try simp only [List.map_toArray, List.map_cons, List.map_nil]); first | done | rfl | (simp only [List.length_drop, List.length_take]; rfl)) ?_; (with_reducible refine (percent_Query.calls x6_2 t216 t217 _ A33.out).mono ?_); rintro e w64 ⟨v218, rfl, ho0, hb⟩; refine ⟨_, rfl, ?_⟩; have n0_ := Aside0.mk (Kd.R_lower ho0 (below_size (by repeat (first | (with_reducible first | exact HB.out | apply below_alloc | apply pw_below_drewN | apply below_drew1) | exact HB.out)))); have n1_ := Aside0.mk (below_step (by repeat (first | (with_reducible first | exact HB.out | apply below_alloc | apply pw_below_drewN | apply below_drew1) | exact HB.out)) hb); clear HB; have HO219 := n0_; have HB := n1_; clear n0_ n1_; (try clear hb); (try clear hb2); (try clear hk); (try clear hi); (try clear ho0)) | ((with_reducible refine gate_callee (f := 9) rfl ?_); refine goesL_ (some 92) rfl rfl Tryd.func9 (by kernel_rfl) rfl #[.string ((((⟨#[47]⟩ : ByteArray) ++ t215) ++ (⟨#[63]⟩ : ByteArray)) ++ x6_2)] rfl (by (try simp only [List.map_toArray, List.map_cons, List.map_nil]); first | done | rfl | (simp only [List.length_drop, List.length_take]; rfl)) ?_; (with_reducible refine (percent_Target.calls k2 ((((⟨#[47]⟩ : ByteArray) ++ t215) ++ (⟨#[63]⟩ : ByteArray)) ++ x6_2) t220 t221 t222 _ A34.out).mono ?_); rintro e w65 ⟨v223, rfl, ho0, hb⟩; refine ⟨_, rfl, ?_⟩; have n0_ := Aside0.mk (Kd.R_elder' (by (with_reducible repeat (first | apply Kd.R_alloc | apply Kd.R_drewN | apply Kd.R_drew)); exact HO219.out) (Kd.R_base ho0) hb); have n1_ := Aside0.mk (Kd.R_lower (Kd.R_new' ho0 (Kd.R_lt (by (with_reducible repeat (first | apply Kd.R_alloc | apply Kd.R_drewN | apply Kd.R_drew)); exact HO219.out))) (below_size (by repeat (first | (with_reducible first | exact HB.out | apply below_alloc | apply pw_below_drewN | apply below_drew1) | exact HB.out)))); have n2_ := Aside0.mk (below_step (by repeat (first | (with_reducible first | exact HB.out | apply below_alloc | apply pw_below_drewN | apply below_drew1) | exact HB.out)) hb); clear HO219; clear HB; have HO219 := n0_; have HO224 := n1_; have HB := n2_; clear n0_ n1_ n2_; (try clear hb); (try clear hb2); (try clear hk); (try clear hi); (try clear ho0)))
                        go_ret
                        exact ⟨by first | rfl | (simp [errW_none, errW_some] <;> rfl) | (simp [*, errW_none, errW_some] <;> rfl), by repeat (first | (with_reducible first | exact HB.out | apply below_alloc | apply pw_below_drewN | apply below_drew1) | exact HB.out)⟩
                  · rw [if_neg c30] at H
                    exact absurd H (by simp)
                · rw [if_neg c29] at H
                  exact absurd H (by simp)
              · rw [if_neg c28] at H
                exact absurd H (by simp)

end Go.Proofs.YthnhfbdoielekaaDoor.Pr
end
section
/- Percent: pairs, targets, and which pairs a query has: plain, over what the print tells. -/
namespace Go.Proofs.YthnhfbdoielekaaDoor
open Go.RowKit
set_option linter.unusedVariables false
set_option linter.unusedSimpArgs false
abbrev P2 := Pr.S32
theorem wrap_up (j n : Nat) (h : j < n) (hn : n ≤ 1000000) : wrap64 ((j : Int) + 1) = ((j + 1 : Nat) : Int) := by unfold wrap64; omega
theorem rd_at (l : List P2) (j : Nat) (h : j < l.length) : Pr.rd_T32 l (j : Int) = l[j] := by
  unfold Pr.rd_T32
  simp [h]
/-! ### lists of pairs that are alike -/
theorem same_l0 (l : List P2) (hl : l.length ≤ 1000000) : ∀ (d k j : Nat), j + d = l.length → d < k → Pr.stowagekit_SamePairs.l0 k l l (j : Int) = some true
  | d, 0, j, _, h => by omega
  | 0, k + 1, j, hj, _ => by
    simp only [Pr.stowagekit_SamePairs.l0]
    rw [if_neg (by omega)]
  | d + 1, k + 1, j, hj, hk => by
    simp only [Pr.stowagekit_SamePairs.l0]
    rw [if_pos (by omega), if_pos (by omega), if_pos (by omega), if_neg (by simp), wrap_up j l.length (by omega) hl]
    exact same_l0 l hl d k (j + 1) (by omega) (by omega)
theorem same_f (l : List P2) (k : Nat) (hl : l.length ≤ 1000000) (hk : l.length < k) : Pr.stowagekit_SamePairs.f k l l = some true := by
  unfold Pr.stowagekit_SamePairs.f
  rw [if_pos rfl]
  exact same_l0 l hl l.length k 0 (by omega) hk
/-! ### the value of a name -/
def findP (n : ByteArray) : List P2 → ByteArray × Bool
  | [] => (⟨#[]⟩, false)
  | p :: r => if p.f0.toList = n.toList then (p.f1, true) else findP n r
theorem pfind_l0 (l : List P2) (n : ByteArray) (hl : l.length ≤ 1000000) : ∀ (d k j : Nat), j + d = l.length → d < k → Pr.percent_Find.l0 k n l (l.length : Int) (j : Int) = some (findP n (l.drop j))
  | d, 0, j, _, h => by omega
  | 0, k + 1, j, hj, _ => by
    simp only [Pr.percent_Find.l0]
    rw [if_neg (by omega), List.drop_of_length_le (by omega)]
    rfl
  | d + 1, k + 1, j, hj, hk => by
    simp only [Pr.percent_Find.l0]
    rw [if_pos (by omega), if_pos (by omega), if_pos (by omega), rd_at l j (by omega), List.drop_eq_getElem_cons (by omega : j < l.length), findP]
    split
    · rfl
    · rw [wrap_up j l.length (by omega) hl]
      exact pfind_l0 l n hl d k (j + 1) (by omega) (by omega)
theorem rfind_l0 (l : List P2) (n : ByteArray) (hl : l.length ≤ 1000000) : ∀ (d k j : Nat), j + d = l.length → d < k → Pr.stowageref24_Find.l0 k l n (j : Int) = some (findP n (l.drop j))
  | d, 0, j, _, h => by omega
  | 0, k + 1, j, hj, _ => by
    simp only [Pr.stowageref24_Find.l0]
    rw [if_neg (by omega), List.drop_of_length_le (by omega)]
    rfl
  | d + 1, k + 1, j, hj, hk => by
    simp only [Pr.stowageref24_Find.l0]
    rw [if_pos (by omega), if_pos (by omega), rd_at l j (by omega), List.drop_eq_getElem_cons (by omega : j < l.length), findP]
    split
    · rfl
    · rw [wrap_up j l.length (by omega) hl]
      exact rfind_l0 l n hl d k (j + 1) (by omega) (by omega)
theorem pfind_f (l : List P2) (n : ByteArray) (k : Nat) (hl : l.length ≤ 1000000) (hk : l.length < k) : Pr.percent_Find.f k l n = some (findP n l) := by
  have := pfind_l0 l n hl l.length k 0 (by omega) hk
  simpa [Pr.percent_Find.f] using this
theorem rfindP_f (l : List P2) (n : ByteArray) (k : Nat) (hl : l.length ≤ 1000000) (hk : l.length < k) : Pr.stowageref24_Find.f k l n = some (findP n l) := by
  have := rfind_l0 l n hl l.length k 0 (by omega) hk
  simpa [Pr.stowageref24_Find.f] using this
/-! ### targets -/
def noP : List P2 := []
def targetV (l : List UInt8) : ByteArray × List P2 × Int :=
  if 2048 < l.length then (⟨#[]⟩, [], 3)
  else if (cutF 63 l).1.head? = some 47 then match pdec false (cutF 63 l).1 with
    | none => (⟨#[]⟩, [], 4)
    | some p => if (queryV (cutF 63 l).2).2 = 0 then (⟨p.toArray⟩, (queryV (cutF 63 l).2).1.map Pr.pairS, 0) else (⟨#[]⟩, [], (queryV (cutF 63 l).2).2)
  else (⟨#[]⟩, [], 4)
theorem mk_size (l : List UInt8) : (⟨l.toArray⟩ : ByteArray).size = l.length := by rw [bs_len]
theorem mk_list (l : List UInt8) : (⟨l.toArray⟩ : ByteArray).data.toList = l := by simp
theorem mk_toList (l : List UInt8) : (⟨l.toArray⟩ : ByteArray).toList = l := by rw [bs_toList]
theorem query_f (l : List UInt8) (h : l.length ≤ 1000000) : Pr.percent_Query.f ⟨l.toArray⟩ = some ((queryV l).1.map Pr.pairS, (queryV l).2) := by
  unfold Pr.percent_Query.f
  rw [if_pos (by rw [mk_size]; exact h), mk_list]
theorem decoded_f (l : List UInt8) (bl : Bool) (h : l.length ≤ 1000000) : Pr.percent_decoded.f ⟨l.toArray⟩ bl = some (⟨((pdec bl l).getD []).toArray⟩, (pdec bl l).isSome) := by
  unfold Pr.percent_decoded.f
  rw [if_pos (by rw [mk_size]; exact h), mk_list]
theorem prefix_f (l : List UInt8) : Pr.strings_HasPrefix.f ⟨l.toArray⟩ ⟨#[47]⟩ = some (l.head? == some 47) := by
  unfold Pr.strings_HasPrefix.f Pr.stringslite_HasPrefix.f
  have h1 : (⟨#[47]⟩ : ByteArray).size = 1 := rfl
  rw [mk_size, h1]
  cases l with
  | nil => rfl
  | cons c r =>
    rw [if_pos (by simp; omega), if_pos (by decide), if_pos (by simp; omega), Option.bind_some]
    have he : (⟨(c :: r).toArray⟩ : ByteArray).extract 0 ((1 : Nat) : Int).toNat = ⟨#[c]⟩ := bs_ext (by simp [ByteArray.data_extract, List.extract_eq_take_drop])
    rw [he, show (⟨#[c]⟩ : ByteArray).toList = [c] by rw [bs_toList], show (⟨#[47]⟩ : ByteArray).toList = [47] by rw [bs_toList]]
    by_cases hc : c = 47 <;> simp [hc]
theorem ptarget_f (l : List UInt8) (k : Nat) (h : l.length ≤ 1000000) : Pr.percent_Target.f (k + 1) ⟨l.toArray⟩ = some (targetV l) := by
  unfold Pr.percent_Target.f targetV
  rw [mk_size]
  by_cases h1 : 2048 < l.length
  · rw [if_pos (by omega), if_pos h1]
  · have hcl := cutF_len 63 l
    have hc : Pr.strings_Cut.f ⟨l.toArray⟩ ⟨#[63]⟩ = some (⟨(cutF 63 l).1.toArray⟩, ⟨(cutF 63 l).2.toArray⟩, (cutAt 63 l).isSome) := by
      show (if (⟨l.toArray⟩ : ByteArray).size ≤ 1000000 then _ else _) = _
      rw [if_pos (by rw [mk_size]; exact h), mk_list]
    rw [if_neg (by omega), if_neg h1, hc, Option.bind_some, decoded_f _ false (by omega), Option.bind_some]
    cases hd : pdec false (cutF 63 l).1 with
    | none =>
      simp only [Option.isSome_none, Bool.false_eq_true, if_false, Option.getD_none, Pr.percent_Target.j0, if_true]
      split <;> rfl
    | some p =>
      simp only [Option.isSome_some, if_true, Option.getD_some]
      rw [prefix_f, Option.bind_some]
      by_cases hh : (cutF 63 l).1.head? = some 47
      · rw [if_pos hh, hh]
        simp only [Pr.percent_Target.j0]
        rw [if_neg (by decide), query_f _ (by omega), Option.bind_some]
        simp only
        split <;> rfl
      · have hb : ((cutF 63 l).1.head? == some 47) = false := by simpa using hh
        rw [if_neg hh, hb]
        simp only [Pr.percent_Target.j0, Bool.not_false, if_true]
theorem head_cut (c : UInt8) (r : List UInt8) : (cutF 63 (c :: r)).1.head? = if c = 63 then none else some c := by
  unfold cutF cutAt
  split
  · rfl
  · cases cutAt 63 r <;> rfl
theorem rtarget_f (l : List UInt8) (k : Nat) (h : l.length ≤ 1000000) (hk : l.length < k) : Pr.stowageref24_Target.f (k + 1) ⟨l.toArray⟩ = some (targetV l) := by
  unfold Pr.stowageref24_Target.f targetV
  rw [mk_size]
  by_cases h1 : 2048 < l.length
  · rw [if_pos (by omega), if_pos h1]
  · rw [if_neg (by omega), if_neg h1, mk_toList]
    have hcl := cutF_len 63 l
    cases hl : l with
    | nil =>
      rw [if_pos rfl]
      simp only [Pr.stowageref24_Target.j0, if_true]
      rfl
    | cons c r =>
      rw [← hl, if_neg (by rw [hl]; simp), if_pos (by rw [hl]; simp)]
      have hb : Go.Proofs.YthnhfbdoielekaaDoorW.PrintWords.bt (⟨l.toArray⟩ : ByteArray) 0 = (c.toNat : Int) := by
        have := byteAt (⟨l.toArray⟩ : ByteArray) 0 (by rw [mk_size, hl]; simp)
        rw [show ((0 : Nat) : Int) = 0 from rfl] at this
        rw [this]
        simp [hl]
        rfl
      rw [hb]
      have hhc := head_cut c r
      rw [← hl] at hhc
      rw [hhc]
      by_cases hc : c = 47
      · subst hc
        simp only [Pr.stowageref24_Target.j0]
        rw [if_neg (by decide), if_pos (by decide)]
        have hf := find_f ⟨l.toArray⟩ 63 k (by rw [mk_size]; exact h) (by rw [mk_size]; exact hk)
        rw [mk_list] at hf
        have hcf := cutF_fnd 63 l
        have hfl := fndL_le 63 l
        rw [show ((63 : UInt8).toNat : Int) = 63 from rfl] at hf
        rw [hf, Option.bind_some, if_pos (by omega), if_pos (by rw [mk_size]; omega), Int.toNat_natCast]
        have e1 : (⟨l.toArray⟩ : ByteArray).extract 0 (fndL 63 l) = ⟨(cutF 63 l).1.toArray⟩ := bs_mk (by rw [hcf]; simp [ByteArray.data_extract, List.extract_eq_take_drop])
        rw [e1]
        unfold Pr.stowageref24_decoded.f
        rw [decoded_f _ false (by omega), Option.bind_some]
        have hw : wrap64 ((fndL 63 l : Int) + 1) = ((fndL 63 l + 1 : Nat) : Int) := wrap_up _ (l.length + 1) (by omega) (by omega)
        obtain ⟨j, hj, hjd, hjl⟩ : ∃ j : Nat, Go.Proofs.YthnhfbdoielekaaDoorW.PrintWords.mn (wrap64 ((fndL 63 l : Int) + 1)) (l.length : Int) = (j : Int) ∧ l.drop j = l.drop (fndL 63 l + 1) ∧ j ≤ l.length := by
          rw [hw]
          unfold Go.Proofs.YthnhfbdoielekaaDoorW.PrintWords.mn
          by_cases hh : l.length < fndL 63 l + 1
          · exact ⟨l.length, by rw [if_pos (by omega)], by rw [List.drop_of_length_le (Nat.le_refl _), List.drop_of_length_le (by omega)], Nat.le_refl _⟩
          · exact ⟨fndL 63 l + 1, by rw [if_neg (by omega)], rfl, by omega⟩
        have e2 : (⟨l.toArray⟩ : ByteArray).extract j l.length = ⟨(cutF 63 l).2.toArray⟩ := bs_mk (by
          rw [hcf]
          simp only [ByteArray.data_extract, Array.toList_extract, List.extract_eq_take_drop]
          exact (List.take_of_length_le (by simp)).trans hjd)
        rw [mk_size, hj, Int.toNat_natCast, e2]
        cases hd : pdec false (cutF 63 l).1 with
        | none => simp
        | some p =>
          simp only [Option.isSome_some, if_true, Option.getD_some]
          rw [if_pos (by omega), if_pos (by omega)]
          unfold Pr.stowageref24_Query.f
          rw [query_f _ (by omega), Option.bind_some]
          simp only [show (47 : UInt8) ≠ 63 by decide, if_false, if_true]
          split <;> rfl
      · have hn : ((c.toNat : Int) != 47) = true := by
          rw [bne_iff_ne]
          intro e
          exact hc (UInt8.toNat_inj.1 (by show c.toNat = 47; omega))
        rw [hn]
        simp only [Pr.stowageref24_Target.j0, if_true]
        rw [if_neg (by split <;> simp [hc])]
theorem queryV_len (l : List UInt8) : (queryV l).1.length ≤ 32 := by
  unfold queryV
  split
  · simp
  · split
    · simp
    · split
      · simp
      · simp only; omega
theorem targetV_len (l : List UInt8) : (targetV l).2.1.length ≤ 32 := by
  unfold targetV
  have := queryV_len (cutF 63 l).2
  split
  · simp
  · split
    · split
      · simp
      · split
        · simpa using this
        · simp
    · simp
theorem awake_f : Pr.stowagelaw24_awake.f = some true := by decide +kernel
theorem asks_l0 (t : List P2) (ht : t.length ≤ 1000) : ∀ (d k : Nat) (x : List P2) (j : Nat), j + d = x.length → x.length ≤ 1000 → d + 1001 < k → Pr.stowagelaw24_PercentAsks.l0 k x t t (j : Int) = some true
  | d, 0, x, j, _, _, h => by omega
  | 0, k + 1, x, j, hj, _, hk => by
    simp only [Pr.stowagelaw24_PercentAsks.l0]
    rw [if_neg (by omega), same_f t k (by omega) (by omega), Option.bind_some, if_pos rfl, awake_f]
    rfl
  | d + 1, k + 1, x, j, hj, hx, hk => by
    simp only [Pr.stowagelaw24_PercentAsks.l0]
    rw [if_pos (by omega), if_pos (by omega), wrap_up j x.length (by omega) (by omega)]
    exact asks_l0 t ht d k _ (j + 1) (by simp; omega) (by simp; omega) (by omega)
theorem asks_f (s : ByteArray) (l : List P2) (n : ByteArray) : Pr.stowagelaw24_PercentAsks.f 6000 s l n = some true := by
  unfold Pr.stowagelaw24_PercentAsks.f
  obtain ⟨L, rfl⟩ : ∃ L : List UInt8, s = ⟨L.toArray⟩ := ⟨s.data.toList, bs_mk rfl⟩
  rw [mk_size]
  by_cases h1 : 3000 < L.length
  · rw [if_pos (by omega)]
    simp only [Pr.stowagelaw24_PercentAsks.j0, if_true]
  · rw [if_neg (by omega)]
    by_cases h2 : 100 < l.length
    · rw [show decide ((l.length : Int) > 100) = true by simp; omega]
      simp only [Pr.stowagelaw24_PercentAsks.j0, if_true]
    · rw [show decide ((l.length : Int) > 100) = false by simp; omega]
      have hq := queryV_len L
      have ht := targetV_len L
      simp only [Pr.stowagelaw24_PercentAsks.j0]
      rw [if_neg (by decide), query_f L (by omega), Option.bind_some]
      unfold Pr.stowageref24_Query.f
      rw [query_f L (by omega), Option.bind_some, ptarget_f L 5998 (by omega), Option.bind_some, rtarget_f L 5998 (by omega) (by omega), Option.bind_some, Option.bind_some]
      rw [if_pos (by simp; omega), Option.bind_some, List.nil_append, pfind_f l n 5999 (by omega) (by omega), Option.bind_some, rfindP_f l n 5999 (by omega) (by omega), Option.bind_some]
      rw [same_f _ 5999 (by simp; omega) (by simp; omega), Option.bind_some]
      simp only [if_true]
      rw [same_f _ 5999 (by omega) (by omega), Option.bind_some]
      simp only [if_true]
      rw [if_neg (by simp), same_f l 5999 (by omega) (by omega), Option.bind_some]
      simp only [Pr.stowagelaw24_PercentAsks.j1]
      rw [if_neg (by decide)]
      exact asks_l0 _ (by omega) ((queryV L).1.map Pr.pairS).length 5998 _ 0 (by simp) (by simp; omega) (by simp; omega)
end Go.Proofs.YthnhfbdoielekaaDoor
end
section
/- Percent: pairs, put together and read again: plain, over what the print tells. -/
namespace Go.Proofs.YthnhfbdoielekaaDoor
open Go.RowKit
set_option linter.unusedVariables false
set_option linter.unusedSimpArgs false
def encL (l : List UInt8) : List UInt8 := pencGo false l
def segP (p : P2) : List UInt8 := encL p.f0.data.toList ++ [61] ++ encL p.f1.data.toList
/-- What is put together: i parts before. -/
def catP (s : List UInt8) : Nat → List P2 → List UInt8
  | _, [] => s
  | i, p :: r => catP (s ++ (if 0 < i then [38] else []) ++ segP p) (i + 1) r
theorem catP_more : ∀ (r : List P2) (s : List UInt8) (i : Nat), catP s (i + 1) r = s ++ r.flatMap fun p => 38 :: segP p
  | [], s, i => by simp [catP]
  | p :: r, s, i => by
    rw [catP, if_pos (by omega), catP_more r]
    simp
theorem enc_byte (sl : Bool) : ∀ (l : List UInt8) (c : UInt8), c ∈ pencGo sl l → c ≠ 38 ∧ c ≠ 61 ∧ c ≠ 63
  | [], c, h => by simp [pencGo] at h
  | x :: r, c, h => by
    rw [pencGo, List.mem_append] at h
    rcases h with h | h
    · by_cases hp : (plainP x.toNat || sl && decide ((x.toNat : Int) = 47)) = true
      · rw [if_pos hp] at h
        obtain rfl : c = x := by simpa using h
        have hh : ∀ i : Fin 256, (plainP i.1 || decide ((i.1 : Int) = 47)) = true → UInt8.ofNat i.1 ≠ 38 ∧ UInt8.ofNat i.1 ≠ 61 ∧ UInt8.ofNat i.1 ≠ 63 := by decide +kernel
        have := hh ⟨c.toNat, c.toNat_lt⟩ (by cases sl <;> simp_all)
        simpa using this
      · rw [if_neg hp] at h
        have hh : ∀ i : Fin 16, hexD i.1 ≠ 38 ∧ hexD i.1 ≠ 61 ∧ hexD i.1 ≠ 63 := by decide +kernel
        have h1 := hh ⟨x.toNat / 16, by have := x.toNat_lt; omega⟩
        have h2 := hh ⟨x.toNat % 16, by omega⟩
        simp only [List.mem_cons, List.mem_nil_iff, or_false] at h
        rcases h with rfl | rfl | rfl
        · decide
        · exact h1
        · exact h2
    · exact enc_byte sl r c h
theorem cutAt_skip (c : UInt8) : ∀ (a b : List UInt8), (∀ x ∈ a, x ≠ c) → cutAt c (a ++ c :: b) = some (a, b)
  | [], b, _ => by simp [cutAt]
  | x :: r, b, h => by
    have hx : x ≠ c := h x (by simp)
    rw [List.cons_append, cutAt, if_neg hx, cutAt_skip c r b (fun y hy => h y (by simp [hy]))]
    rfl
theorem indexByte_skip (c : UInt8) : ∀ (a b : List UInt8), (∀ x ∈ a, x ≠ c) → Lib.indexByte (a ++ c :: b) c = a.length := fun a b h => (cutAt_some c _ _ _ (cutAt_skip c a b h)).1
theorem indexByte_no (c : UInt8) : ∀ (a : List UInt8), (∀ x ∈ a, x ≠ c) → Lib.indexByte a c = -1
  | [], _ => rfl
  | x :: r, h => by
    have hx : (x == c) = false := by simpa using h x (by simp)
    unfold Lib.indexByte
    rw [hx, indexByte_no c r (fun y hy => h y (by simp [hy]))]
    rfl
theorem seg_byte (p : P2) : ∀ x ∈ segP p, x ≠ 38 := by
  intro x hx
  unfold segP encL at hx
  simp only [List.append_assoc, List.mem_append, List.mem_cons, List.mem_nil_iff, or_false] at hx
  rcases hx with h | rfl | h
  · exact (enc_byte false _ x h).1
  · decide
  · exact (enc_byte false _ x h).1
def toP (p : P2) : PairP := (p.f0.data.toList, p.f1.data.toList)
theorem partQ_seg (p : P2) : partQ (segP p) = some [toP p] := by
  have hne : segP p ≠ [] := by unfold segP; simp
  have hc : cutF 61 (segP p) = (encL p.f0.data.toList, encL p.f1.data.toList) := by
    unfold cutF segP
    rw [List.append_assoc, List.singleton_append, cutAt_skip 61 (encL p.f0.data.toList) (encL p.f1.data.toList) (fun x hx => (enc_byte false _ x hx).2.1)]
    rfl
  unfold partQ
  rw [if_neg hne, hc]
  simp only [encL, pdec_penc]
  rfl
theorem parts_tail : ∀ (r : List P2) (p : P2) (acc : List PairP) (n : Nat), r.length ≤ n → (splitN [38] n (segP p ++ r.flatMap fun p => 38 :: segP p)).foldl stepQ (some acc) = some (acc ++ toP p :: r.map toP)
  | [], p, acc, n, _ => by
    have h : splitN [38] n (segP p) = [segP p] := by
      cases n with
      | zero => rfl
      | succ n => rw [splitN, index_one, indexByte_no 38 _ (seg_byte p)]; rfl
    simp only [List.flatMap_nil, List.append_nil, h, List.foldl_cons, List.foldl_nil, stepQ, partQ_seg]
    rfl
  | q :: r, p, acc, n, hn => by
    obtain ⟨m, rfl⟩ : ∃ m, n = m + 1 := ⟨n - 1, by simp at hn; omega⟩
    have hl : segP p ++ (q :: r).flatMap (fun p => 38 :: segP p) = segP p ++ 38 :: (segP q ++ r.flatMap fun p => 38 :: segP p) := by simp
    rw [hl, splitN, index_one, indexByte_skip 38 _ _ (seg_byte p), if_neg (by omega), Int.toNat_natCast]
    rw [show (segP p ++ 38 :: (segP q ++ r.flatMap fun p => 38 :: segP p)).take (segP p).length = segP p by simp]
    rw [show (segP p ++ 38 :: (segP q ++ r.flatMap fun p => 38 :: segP p)).drop ((segP p).length + [(38 : UInt8)].length) = segP q ++ r.flatMap fun p => 38 :: segP p by simp [List.drop_append]]
    rw [List.foldl_cons, show stepQ (some acc) (segP p) = some (acc ++ [toP p]) by simp [stepQ, partQ_seg], parts_tail r q _ m (by simp at hn; omega)]
    simp
theorem flat_len : ∀ (r : List P2), r.length ≤ (r.flatMap fun p => 38 :: segP p).length
  | [] => by simp
  | p :: r => by
    have := flat_len r
    rw [List.flatMap_cons, List.length_append, List.length_cons, List.length_cons]
    omega
theorem parts_cat (l : List P2) : partsQ (splitN [38] (catP [] 0 l).length (catP [] 0 l)) = some (l.map toP) := by
  cases l with
  | nil => rfl
  | cons p r =>
    rw [catP, if_neg (by omega), catP_more]
    simp only [List.nil_append, List.append_nil]
    have := flat_len r
    exact parts_tail r p [] _ (Nat.le_trans this (by rw [List.length_append]; exact Nat.le_add_left _ _))
theorem toP_back (p : P2) : Pr.pairS (toP p) = p := by
  cases p
  unfold Pr.pairS toP
  congr 1
theorem map_back (l : List P2) : (l.map toP).map Pr.pairS = l := by
  rw [List.map_map]
  conv => rhs; rw [← List.map_id l]
  exact List.map_congr_left fun p _ => toP_back p
theorem queryV_cat (l : List P2) (hl : l.length ≤ 32) (hs : (catP [] 0 l).length ≤ 2048) : queryV (catP [] 0 l) = (l.map toP, 0) := by
  unfold queryV
  rw [if_neg (by omega), parts_cat]
  simp only
  rw [if_neg (by simp; omega)]
theorem targetV_cat (path : List UInt8) (l : List P2) (hl : l.length ≤ 32) (ht : (47 :: (pencGo true path ++ 63 :: catP [] 0 l)).length ≤ 2048) : targetV (47 :: (pencGo true path ++ 63 :: catP [] 0 l)) = (⟨(47 :: path).toArray⟩, l, 0) := by
  have hc : cutF 63 (47 :: (pencGo true path ++ 63 :: catP [] 0 l)) = (47 :: pencGo true path, catP [] 0 l) := by
    unfold cutF
    have := cutAt_skip 63 (47 :: pencGo true path) (catP [] 0 l) (fun x hx => by
      rcases List.mem_cons.1 hx with rfl | hx
      · decide
      · exact (enc_byte true _ x hx).2.2)
    rw [List.cons_append] at this
    rw [this]
    rfl
  have hd : pdec false (47 :: pencGo true path) = some (47 :: path) := by
    rw [pdec_plain false 47 _ (by decide) (by decide), if_neg (by decide), if_neg (by decide), pdec_penc]
    rfl
  simp only [List.length_cons, List.length_append] at ht
  unfold targetV
  rw [if_neg (by simp; omega), hc]
  simp only [List.head?_cons, if_true, hd]
  rw [queryV_cat l hl (by omega)]
  simp only [if_true, map_back]
theorem encode_f (s : ByteArray) (sl : Bool) (h : s.size ≤ 1000000) : Pr.percent_Encode.f s sl = some ⟨(pencGo sl s.data.toList).toArray⟩ := by
  unfold Pr.percent_Encode.f
  rw [if_pos h]
theorem enc_size (s : ByteArray) (sl : Bool) : (⟨(pencGo sl s.data.toList).toArray⟩ : ByteArray).size ≤ 3 * s.size := by
  rw [mk_size]
  have := penc_len sl s.data.toList
  rwa [← bs_len] at this
/-- The end: all is put together. -/
theorem pairs_end (l : List P2) (path : ByteArray) (x6 : ByteArray) (k : Nat) (hk : 4000 ≤ k) (hl : l.length ≤ 32) (hp : path.size ≤ 1000) (h6 : x6.size ≤ 100000) (hx : x6.data.toList = catP [] 0 l) :
    Pr.stowagelaw24_PercentPairs.l0 (k + 1) l path true x6 (l.length : Int) = some true := by
  simp only [Pr.stowagelaw24_PercentPairs.l0]
  have hes := enc_size path true
  rw [if_neg (by omega), encode_f path true (by omega), Option.bind_some]
  rw [if_pos (by omega), if_pos (by omega), if_pos (by omega)]
  obtain ⟨X, rfl⟩ : ∃ X : List UInt8, x6 = ⟨X.toArray⟩ := ⟨x6.data.toList, bs_mk rfl⟩
  rw [mk_list] at hx
  subst hx
  rw [mk_size] at hes h6 ⊢
  rw [mk_size]
  by_cases h20 : 2048 < 1 + (pencGo true path.data.toList).length + 1 + (catP [] 0 l).length
  · rw [if_pos (by omega)]
  · rw [if_neg (by omega)]
    have hT : (((⟨#[47]⟩ : ByteArray) ++ (⟨(pencGo true path.data.toList).toArray⟩ : ByteArray)) ++ (⟨#[63]⟩ : ByteArray)) ++ (⟨(catP [] 0 l).toArray⟩ : ByteArray) = ⟨(47 :: (pencGo true path.data.toList ++ 63 :: catP [] 0 l)).toArray⟩ := bs_mk (by simp only [bs_app]; simp)
    have hTl : (47 :: (pencGo true path.data.toList ++ 63 :: catP [] 0 l)).length ≤ 2048 := by simp; omega
    rw [hT, query_f _ (by omega), Option.bind_some, queryV_cat l hl (by omega)]
    obtain ⟨k1, rfl⟩ : ∃ k1, k = k1 + 1 := ⟨k - 1, by omega⟩
    rw [ptarget_f _ k1 (by omega), Option.bind_some, targetV_cat _ l hl hTl]
    simp only [if_true, map_back]
    rw [same_f l _ (by omega) (by omega), Option.bind_some]
    simp only [if_true]
    rw [if_pos (by omega), if_pos (by rw [mk_toList, bs_toList, bs_app]; rfl)]
    rfl
theorem pairs_l0 (l : List P2) (path : ByteArray) (hl : l.length ≤ 32) (hp : path.size ≤ 1000) : ∀ (d k j : Nat) (x6 : ByteArray), j + d = l.length → 4001 + 3 * d ≤ k → x6.size ≤ 1000 * j → catP x6.data.toList j (l.drop j) = catP [] 0 l →
    Pr.stowagelaw24_PercentPairs.l0 k l path true x6 (j : Int) = some true
  | 0, k, j, x6, hj, hk, h6, hx => by
    obtain ⟨k1, rfl⟩ : ∃ k1, k = k1 + 1 := ⟨k - 1, by omega⟩
    obtain rfl : j = l.length := by omega
    rw [List.drop_of_length_le (Nat.le_refl _), catP] at hx
    exact pairs_end l path x6 k1 (by omega) hl hp (by omega) hx
  | d + 1, k, j, x6, hj, hk, h6, hx => by
    obtain ⟨k1, rfl⟩ : ∃ k1, k = k1 + 1 + 1 + 1 := ⟨k - 3, by omega⟩
    have hlt : j < l.length := by omega
    rw [List.drop_eq_getElem_cons hlt, catP] at hx
    have bad : Pr.stowagelaw24_PercentPairs.j2 (k1 + 1 + 1) l path true x6 (j : Int) true = some true := by
      simp only [Pr.stowagelaw24_PercentPairs.j2, if_true]
    simp only [Pr.stowagelaw24_PercentPairs.l0]
    rw [if_pos (by omega), if_pos (by omega), rd_at l j hlt]
    obtain ⟨p, hp'⟩ : ∃ p, l[j] = p := ⟨_, rfl⟩
    rw [hp'] at hx ⊢
    split
    · exact bad
    · split
      · exact bad
      · rename_i h100
        by_cases h1 : 100 < p.f1.size
        · rw [show decide ((p.f1.size : Int) > 100) = true by simp; omega]
          exact bad
        · rw [show decide ((p.f1.size : Int) > 100) = false by simp; omega]
          have e1 := enc_size p.f0 false
          have e2 := enc_size p.f1 false
          have good : ∀ (y : ByteArray), y.size ≤ 1000 * j + 1 → y.data.toList = x6.data.toList ++ (if 0 < j then [38] else []) → Pr.stowagelaw24_PercentPairs.j3 (k1 + 1) l path true y (j : Int) = some true := by
            intro y hy hyl
            simp only [Pr.stowagelaw24_PercentPairs.j3]
            rw [if_pos (by omega), if_pos (by omega), rd_at l j hlt, hp', encode_f p.f0 false (by omega), Option.bind_some, if_pos (by omega), if_pos (by omega), encode_f p.f1 false (by omega), Option.bind_some, if_pos (by omega), wrap_up j l.length hlt (by omega)]
            refine pairs_l0 l path hl hp d k1 (j + 1) _ (by omega) (by omega) ?_ ?_
            · simp only [ByteArray.size_append]
              have : (⟨#[61]⟩ : ByteArray).size = 1 := rfl
              omega
            · rw [← hx]
              congr 1
              simp only [bs_app, hyl, segP, encL]
              simp
          simp only [Pr.stowagelaw24_PercentPairs.j2]
          rw [if_neg (by decide)]
          by_cases h0 : 0 < j
          · rw [if_pos (by omega), if_pos (by omega)]
            exact good _ (by rw [ByteArray.size_append]; have : (⟨#[38]⟩ : ByteArray).size = 1 := rfl; omega) (by rw [bs_app, if_pos h0])
          · rw [if_neg (by omega)]
            exact good x6 (by omega) (by rw [if_neg h0, List.append_nil])
theorem pairs_f (l : List P2) (path : ByteArray) : Pr.stowagelaw24_PercentPairs.f 5000 l path = some true := by
  unfold Pr.stowagelaw24_PercentPairs.f
  have hkn : Pr.stowagelaw24_PercentKnown.f 5000 = some true := Go.Proofs.YthnhfbdoielekaaDoorW.PrintWords.at_rounds (fun k => Pr.stowagelaw24_PercentKnown.mono k) (show 60 ≤ 5000 by omega) known_f
  rw [hkn, Option.bind_some]
  have yes : Pr.stowagelaw24_PercentPairs.j0 5000 l path true true = some true := by simp only [Pr.stowagelaw24_PercentPairs.j0, if_true]
  by_cases h1 : 32 < l.length
  · rw [if_pos (by omega)]
    exact yes
  · rw [if_neg (by omega)]
    by_cases h2 : 1000 < path.size
    · rw [show decide ((path.size : Int) > 1000) = true by simp; omega]
      exact yes
    · rw [show decide ((path.size : Int) > 1000) = false by simp; omega]
      simp only [Pr.stowagelaw24_PercentPairs.j0]
      rw [if_neg (by decide)]
      exact pairs_l0 l path (by omega) (by omega) l.length 4999 0 _ (by omega) (by omega) (by decide) rfl
end Go.Proofs.YthnhfbdoielekaaDoor
end
