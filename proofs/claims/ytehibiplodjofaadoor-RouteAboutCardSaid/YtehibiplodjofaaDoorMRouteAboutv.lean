/- Texts of this proof, put together: Hb24, PrPercentTarget, Tg29. -/
import Derived.Test.YtehibiplodjofaaDoorMRouteAboutu
import Derived.Test.YtehibiplodjofaaDoorMRouteAboutj
section
/- What the print does not take of percent: strings.Cut at one byte, decoded, Encode, Query; by their contracts, in the print's form. -/
namespace Go.Proofs.YtehibiplodjofaaDoor.Pr
open Go.RowKit Go.Proofs.YtehibiplodjofaaDoorW.PrintWords Go.Proofs.YtehibiplodjofaaDoorW.PrintLast Go.Proofs.YtehibiplodjofaaDoorW.PrintMore
set_option linter.unusedVariables false
set_option linter.unusedSimpArgs false
def strings_Cut.f (s sep : ByteArray) : Option (ByteArray × ByteArray × Bool) :=
  match sep.data.toList with
  | [c] => if s.size ≤ 1000000 then some (⟨(cutF c s.data.toList).1.toArray⟩, ⟨(cutF c s.data.toList).2.toArray⟩, (cutAt c s.data.toList).isSome) else none
  | _ => none
theorem strings_Cut.calls (a0 a1 : ByteArray) (r1 r2 : ByteArray) (r3 : Bool) (w : World) (h : strings_Cut.f a0 a1 = some (r1, r2, r3)) :
    Calls Tryd.prog 27 #[.string a0, .string a1] w fun e w' => e = .returned (.tuple #[.string r1, .string r2, .bool r3]) ∧ Drawn0 w w' := by
  unfold strings_Cut.f at h
  split at h
  · rename_i c hc
    split at h
    · rename_i hs
      simp only [Option.some.injEq, Prod.mk.injEq] at h
      obtain ⟨rfl, rfl, rfl⟩ := h
      obtain rfl : a1 = ⟨#[c]⟩ := bs_mk hc
      exact (cut_both a0 c w hs).mono fun e w' h => ⟨h.1, drawn_of h.2⟩
    · cases h
  · cases h
def percent_decoded.f (s : ByteArray) (bl : Bool) : Option (ByteArray × Bool) := if s.size ≤ 1000000 then some (⟨((pdec bl s.data.toList).getD []).toArray⟩, (pdec bl s.data.toList).isSome) else none
theorem percent_decoded.calls (a0 : ByteArray) (a1 : Bool) (r1 : ByteArray) (r2 : Bool) (w : World) (h : percent_decoded.f a0 a1 = some (r1, r2)) :
    Calls Tryd.prog 28 #[.string a0, .bool a1] w fun e w' => e = .returned (.tuple #[.string r1, .bool r2]) ∧ Below w.heap.size w w' := by
  unfold percent_decoded.f at h
  split at h
  · rename_i hs
    simp only [Option.some.injEq, Prod.mk.injEq] at h
    obtain ⟨rfl, rfl⟩ := h
    exact dec_any a0 a1 w hs
  · cases h
def percent_Encode.f (s : ByteArray) (sl : Bool) : Option ByteArray := if s.size ≤ 1000000 then some ⟨(pencGo sl s.data.toList).toArray⟩ else none
def pairS (p : PairP) : S41 := ⟨⟨p.1.toArray⟩, ⟨p.2.toArray⟩⟩
def percent_Query.f (s : ByteArray) : Option (List (S41) × Int) := if s.size ≤ 1000000 then some ((queryV s.data.toList).1.map pairS, (queryV s.data.toList).2) else none
theorem percent_Query.calls (a0 : ByteArray) (r1 : List (S41)) (r2 : Int) (w : World) (h : percent_Query.f a0 = some (r1, r2)) :
    Calls Tryd.prog 30 #[.string a0] w fun e w' => ∃ v0_ : Value, e = .returned (.tuple #[v0_, .int .i64 r2]) ∧ Kd.R k41 41 w' w.heap.size (fun _ => True) v0_ r1 ∧ Below w.heap.size w w' := by
  unfold percent_Query.f at h
  split at h
  · rename_i hs
    simp only [Option.some.injEq, Prod.mk.injEq] at h
    obtain ⟨rfl, rfl⟩ := h
    refine (query_any a0 w hs).mono ?_
    rintro e w' ⟨v, rfl, ho, hb⟩
    exact ⟨v, rfl, R_of_own (d := k41) pairS pairC (fun _ => rfl) _ (fun ok p => k41_mkM _ _ _ (pairS p)) ho, hb⟩
  · cases h
end Go.Proofs.YtehibiplodjofaaDoor.Pr
end
section
namespace Go.Proofs.YtehibiplodjofaaDoor.Pr
open Go.RowKit Go.Proofs.YtehibiplodjofaaDoorW.PrintWords Go.Proofs.YtehibiplodjofaaDoorW.PrintLast Go.Proofs.YtehibiplodjofaaDoorW.PrintMore
attribute [local go_sem] max2_int min2_int max_two min_two max_three min_three max_four min_four -- for this text's walks alone
set_option linter.unusedVariables false
set_option linter.unusedSimpArgs false

/-! ### percent_Target: function 16 -/
def percent_Target.j0 : Nat → ByteArray → ByteArray → Bool → Option (ByteArray × (List (S41)) × Int)
 | 0, _, _, _ => none
 | k + 1, x6, x8, x32 => if x32 = true then (some ((⟨#[]⟩ : ByteArray), ([] : List (S41)), 4)) else ((percent_Query.f x6).bind fun bt111 => (if bt111.2 = 0 then (some (x8, bt111.1, 0)) else (some ((⟨#[]⟩ : ByteArray), ([] : List (S41)), bt111.2))))
def percent_Target.f (k : Nat) (a0 : ByteArray) : Option (ByteArray × (List (S41)) × Int) := if (a0.size : Int) > 2048 then (some ((⟨#[]⟩ : ByteArray), ([] : List (S41)), 3)) else ((strings_Cut.f a0 (⟨#[63]⟩ : ByteArray)).bind fun bt105 => ((percent_decoded.f bt105.1 false).bind fun bt108 => (if bt108.2 = true then ((strings_HasPrefix.f bt105.1 (⟨#[47]⟩ : ByteArray)).bind fun t110 => (percent_Target.j0 k bt105.2.1 bt108.1 (!t110))) else (percent_Target.j0 k bt105.2.1 bt108.1 true))))
theorem percent_Target.mono_l : ∀ k, (∀ y0 y1 y2, LeO (percent_Target.j0 k y0 y1 y2) (percent_Target.j0 (k + 1) y0 y1 y2))
 | 0 => fun _ _ _ r h => by simp [percent_Target.j0] at h
 | k + 1 => by
  have ih0 := percent_Target.mono_l k
  ·intro y0 y1 y2
   unfold percent_Target.j0
   repeat' first
   | (with_reducible exact ih0 _ _ _)
   | (with_reducible exact LeO.refl _)
   | (with_reducible exact LeO.none _)
   | (with_reducible refine LeO.ite ?_ ?_)
   | (with_reducible refine LeO.bind ?_ (fun _ => ?_))
   | exact ih0 _ _ _
   | exact LeO.none _
   | refine LeO.ite ?_ ?_
   | refine LeO.bind ?_ (fun _ => ?_)
theorem percent_Target.mono : ∀ a0 k, LeO (percent_Target.f k a0) (percent_Target.f (k + 1) a0) := by
 intro a0 k
 have ih0 := percent_Target.mono_l k
 unfold percent_Target.f
 repeat' first
   | (with_reducible exact ih0 _ _ _)
   | (with_reducible exact LeO.refl _)
   | (with_reducible exact LeO.none _)
   | (with_reducible refine LeO.ite ?_ ?_)
   | (with_reducible refine LeO.bind ?_ (fun _ => ?_))
   | exact ih0 _ _ _
   | exact LeO.none _
   | refine LeO.ite ?_ ?_
   | refine LeO.bind ?_ (fun _ => ?_)
set_option maxHeartbeats 8000000 in
set_option maxRecDepth 100000 in
theorem percent_Target.calls (k : Nat) (a0 : ByteArray) (r1 : ByteArray) (r2 : List (S41)) (r3 : Int) (w : World) (h : percent_Target.f k a0 = some (r1, r2, r3)) :
  Calls Tryd.prog 16 #[.string a0] w fun e w' => ∃ v1_ : Value, e = .returned (.tuple #[.string r1, v1_, .int .i64 r3]) ∧ Kd.R k41 41 w' w.heap.size (fun _ => True) v1_ r2 ∧ Below w.heap.size w w' := by
 have HB := Aside0.mk (Below.refl w.heap.size w)
 have H : (if (a0.size : Int) > 2048 then (some ((⟨#[]⟩ : ByteArray), ([] : List (S41)), 3)) else ((strings_Cut.f a0 (⟨#[63]⟩ : ByteArray)).bind fun bt105 => ((percent_decoded.f bt105.1 false).bind fun bt108 => (if bt108.2 = true then ((strings_HasPrefix.f bt105.1 (⟨#[47]⟩ : ByteArray)).bind fun t110 => (percent_Target.j0 k bt105.2.1 bt108.1 (!t110))) else (percent_Target.j0 k bt105.2.1 bt108.1 true))))) = some (r1, r2, r3) := h
 clear h
 by_cases c2 : (a0.size : Int) > 2048
 ·rw [if_pos c2] at H
  have c2b0 : decide (2048 < (a0.size : Int)) = true := decide_eq_true c2
  have c2b1 : decide (2048 < a0.size) = true := decide_eq_true (by omega)
  clear c2
  as_aux_lemma =>
   simp only [Option.some.injEq, Prod.mk.injEq] at H
   obtain ⟨rfl, rfl, rfl⟩ := H
   go_enter Tryd.func16, Tryd.ntmps16
   go_wp2
   go_ret3
   exact ⟨_, by first|rfl|(simp [errW_none, errW_some] <;> rfl)|(simp [*, errW_none, errW_some] <;> rfl), by first|exact Kd.R_nil _ _ _ _ _|exact Kd.N_nil _ _ _ _ _|exact Kd.V_nil _ _ _ _ _|exact Kd.Q_nil _ _ _ _ _|exact Kd.S_nil _ _ _ _ _, by repeat (first|(with_reducible first|exact HB.out|apply below_alloc|apply pw_below_drewN|apply below_drew1)|exact HB.out)⟩
 ·rw [if_neg c2] at H
  have c2b0 : decide (2048 < (a0.size : Int)) = false := decide_eq_false c2
  have c2b1 : decide (2048 < a0.size) = false := decide_eq_false (by omega)
  clear c2
  replace H := Option.bind_eq_some_iff.mp H
  obtain ⟨⟨t105, t106, t107⟩, A30, H⟩ := H
  replace H : ((percent_decoded.f t105 false).bind fun bt108 => (if bt108.2 = true then ((strings_HasPrefix.f t105 (⟨#[47]⟩ : ByteArray)).bind fun t110 => (percent_Target.j0 k t106 bt108.1 (!t110))) else (percent_Target.j0 k t106 bt108.1 true))) = some (r1, r2, r3) := H
  have A3 := Aside0.mk A30
  clear A30
  replace H := Option.bind_eq_some_iff.mp H
  obtain ⟨⟨t108, t109⟩, A40, H⟩ := H
  replace H : (if t109 = true then ((strings_HasPrefix.f t105 (⟨#[47]⟩ : ByteArray)).bind fun t110 => (percent_Target.j0 k t106 t108 (!t110))) else (percent_Target.j0 k t106 t108 true)) = some (r1, r2, r3) := H
  have A4 := Aside0.mk A40
  clear A40
  have HC5 := Aside0.mk H
  clear H
  go_enter Tryd.func16, Tryd.ntmps16
  go_upto_region 5 with (first|((with_reducible refine gate_callee (f := 27) rfl ?_); refine goesL_ (some 17) rfl rfl Tryd.func27 (by kernel_rfl) rfl #[.string a0, .string (⟨#[63]⟩ : ByteArray)] rfl (by (try simp only [List.map_toArray, List.map_cons, List.map_nil]); first|done|rfl|(simp only [List.length_drop, List.length_take]; rfl)) ?_; (with_reducible refine (strings_Cut.calls a0 (⟨#[63]⟩ : ByteArray) t105 t106 t107 _ A3.out).mono ?_); rintro e w' ⟨rfl, ⟨nd, rfl⟩⟩; refine ⟨_, rfl, ?_⟩)|((with_reducible refine gate_callee (f := 28) rfl ?_); refine goesL_ (some 23) rfl rfl Tryd.func28 (by kernel_rfl) rfl #[.string t105, .bool false] rfl (by (try simp only [List.map_toArray, List.map_cons, List.map_nil]); first|done|rfl|(simp only [List.length_drop, List.length_take]; rfl)) ?_; (with_reducible refine (percent_decoded.calls t105 false t108 t109 _ A4.out).mono ?_); rintro e w6 ⟨rfl, hb⟩; refine ⟨_, rfl, ?_⟩; have n0_ := Aside0.mk (below_step (by repeat (first|(with_reducible first|exact HB.out|apply below_alloc|apply pw_below_drewN|apply below_drew1)|exact HB.out)) hb); clear HB; have HB := n0_; clear n0_; (try clear hb); (try clear hb2); (try clear hk); (try clear hi)))
  (try simp only [Act.put, List.setIfInBounds_toArray, List.set_cons_zero, List.set_cons_succ])
  go_cut [32] (fun v32 wc => ∃ (kq : Nat) (x32_4 : Bool), v32 = .bool x32_4 ∧ Aside0 (percent_Target.j0 kq t106 t108 x32_4 = some (r1, r2, r3)) ∧ Aside0 (kq ≤ k) ∧ Aside0 (Below w.heap.size w wc))
  case first =>
   have H := HC5.out
   clear HC5
   by_cases c7 : t109 = true
   ·subst c7
    have H1 : ((strings_HasPrefix.f t105 (⟨#[47]⟩ : ByteArray)).bind fun t110 => (percent_Target.j0 k t106 t108 (!t110))) = some (r1, r2, r3) := by rw [if_pos rfl] at H; exact H
    clear H
    have H := H1
    clear H1
    replace H := Option.bind_eq_some_iff.mp H
    obtain ⟨t110, A80, H⟩ := H
    replace H : (percent_Target.j0 k t106 t108 (!t110)) = some (r1, r2, r3) := H
    have A8 := Aside0.mk A80
    clear A80
    as_aux_lemma =>
     have H' := Aside0.mk H
     clear H
     go_wp2_with (first|(go_at_call 29; (with_reducible refine (strings_HasPrefix.calls t105 (⟨#[47]⟩ : ByteArray) t110 _ A8.out).mono ?_); rintro e w' ⟨rfl, ⟨nd, rfl⟩⟩))
     go_meet
     case rel => exact ⟨_, (!t110), (by first|rfl|(simp; done)|(simp [*]; done)), H', ⟨by first|omega|exact Nat.le_refl _⟩, ⟨by repeat (first|(with_reducible first|exact HB.out|apply below_alloc|apply pw_below_drewN|apply below_drew1)|exact HB.out)⟩⟩
   ·replace c7 := Bool.eq_false_iff.mpr c7
    subst c7
    have H1 : (percent_Target.j0 k t106 t108 true) = some (r1, r2, r3) := by rw [if_neg (show ¬ (false = true) by decide)] at H; exact H
    clear H
    have H := H1
    clear H1
    as_aux_lemma =>
     have H' := Aside0.mk H
     clear H
     go_wp2
     go_meet
     case rel => exact ⟨_, (true), (by first|rfl|(simp; done)|(simp [*]; done)), H', ⟨by first|omega|exact Nat.le_refl _⟩, ⟨by repeat (first|(with_reducible first|exact HB.out|apply below_alloc|apply pw_below_drewN|apply below_drew1)|exact HB.out)⟩⟩
  case rest =>
   clear HC5
   try clear c1
   try clear c2
   try clear c2b0
   try clear c2b1
   try clear p2
   try clear c7
   obtain ⟨kq, x32_4, rfl, HA, HJ4, HB⟩ := hcut
   cases kq with
   | zero => exact absurd HA.out (by simp [percent_Target.j0])
   | succ kj4 =>
    have H := HA.out
    clear HA
    simp only [percent_Target.j0] at H
    by_cases c9 : x32_4 = true
    ·subst c9
     have H1 : (some ((⟨#[]⟩ : ByteArray), ([] : List (S41)), 4)) = some (r1, r2, r3) := by rw [if_pos rfl] at H; exact H
     clear H
     have H := H1
     clear H1
     as_aux_lemma =>
      simp only [Option.some.injEq, Prod.mk.injEq] at H
      obtain ⟨rfl, rfl, rfl⟩ := H
      go_wp2
      go_ret3
      exact ⟨_, by first|rfl|(simp [errW_none, errW_some] <;> rfl)|(simp [*, errW_none, errW_some] <;> rfl), by first|exact Kd.R_nil _ _ _ _ _|exact Kd.N_nil _ _ _ _ _|exact Kd.V_nil _ _ _ _ _|exact Kd.Q_nil _ _ _ _ _|exact Kd.S_nil _ _ _ _ _, by repeat (first|(with_reducible first|exact HB.out|apply below_alloc|apply pw_below_drewN|apply below_drew1)|exact HB.out)⟩
    ·replace c9 := Bool.eq_false_iff.mpr c9
     subst c9
     have H1 : ((percent_Query.f t106).bind fun bt111 => (if bt111.2 = 0 then (some (t108, bt111.1, 0)) else (some ((⟨#[]⟩ : ByteArray), ([] : List (S41)), bt111.2)))) = some (r1, r2, r3) := by rw [if_neg (show ¬ (false = true) by decide)] at H; exact H
     clear H
     have H := H1
     clear H1
     replace H := Option.bind_eq_some_iff.mp H
     obtain ⟨⟨t111, t112⟩, A100, H⟩ := H
     replace H : (if t112 = 0 then (some (t108, t111, 0)) else (some ((⟨#[]⟩ : ByteArray), ([] : List (S41)), t112))) = some (r1, r2, r3) := H
     have A10 := Aside0.mk A100
     clear A100
     by_cases c11 : t112 = 0
     ·rw [if_pos c11] at H
      have c11b0 : (t112 == 0) = true := beq_iff_eq.mpr c11
      have c11b1 : (t112 != 0) = false := bne_eq_false_iff_eq.mpr c11
      clear c11
      as_aux_lemma =>
       simp only [Option.some.injEq, Prod.mk.injEq] at H
       obtain ⟨rfl, rfl, rfl⟩ := H
       go_wp2_with (first|((with_reducible refine gate_callee (f := 30) rfl ?_); refine goesL_ (some 35) rfl rfl Tryd.func30 (by kernel_rfl) rfl #[.string t106] rfl (by (try simp only [List.map_toArray, List.map_cons, List.map_nil]); first|done|rfl|(simp only [List.length_drop, List.length_take]; rfl)) ?_; (with_reducible refine (percent_Query.calls t106 t111 t112 _ A10.out).mono ?_); rintro e w12 ⟨v113, rfl, ho0, hb⟩; refine ⟨_, rfl, ?_⟩; have n0_ := Aside0.mk (Kd.R_lower ho0 (below_size (by repeat (first|(with_reducible first|exact HB.out|apply below_alloc|apply pw_below_drewN|apply below_drew1)|exact HB.out)))); have n1_ := Aside0.mk (below_step (by repeat (first|(with_reducible first|exact HB.out|apply below_alloc|apply pw_below_drewN|apply below_drew1)|exact HB.out)) hb); clear HB; have HO114 := n0_; have HB := n1_; clear n0_ n1_; (try clear hb); (try clear hb2); (try clear hk); (try clear hi); (try clear ho0)))
       go_ret3
       exact ⟨_, by first|rfl|(simp [errW_none, errW_some] <;> rfl)|(simp [*, errW_none, errW_some] <;> rfl), by (with_reducible repeat (first|apply Kd.R_alloc|apply Kd.R_drewN|apply Kd.R_drew)); exact HO114.out, by repeat (first|(with_reducible first|exact HB.out|apply below_alloc|apply pw_below_drewN|apply below_drew1)|exact HB.out)⟩
     ·rw [if_neg c11] at H
      have c11b0 : (t112 == 0) = false := beq_eq_false_iff_ne.mpr c11
      have c11b1 : (t112 != 0) = true := bne_iff_ne.mpr c11
      as_aux_lemma =>
       simp only [Option.some.injEq, Prod.mk.injEq] at H
       obtain ⟨rfl, rfl, rfl⟩ := H
       go_wp2_with (first|((with_reducible refine gate_callee (f := 30) rfl ?_); refine goesL_ (some 35) rfl rfl Tryd.func30 (by kernel_rfl) rfl #[.string t106] rfl (by (try simp only [List.map_toArray, List.map_cons, List.map_nil]); first|done|rfl|(simp only [List.length_drop, List.length_take]; rfl)) ?_; (with_reducible refine (percent_Query.calls t106 t111 t112 _ A10.out).mono ?_); rintro e w13 ⟨v113, rfl, ho0, hb⟩; refine ⟨_, rfl, ?_⟩; have n0_ := Aside0.mk (Kd.R_lower ho0 (below_size (by repeat (first|(with_reducible first|exact HB.out|apply below_alloc|apply pw_below_drewN|apply below_drew1)|exact HB.out)))); have n1_ := Aside0.mk (below_step (by repeat (first|(with_reducible first|exact HB.out|apply below_alloc|apply pw_below_drewN|apply below_drew1)|exact HB.out)) hb); clear HB; have HO114 := n0_; have HB := n1_; clear n0_ n1_; (try clear hb); (try clear hb2); (try clear hk); (try clear hi); (try clear ho0)))
       go_ret3
       exact ⟨_, by first|rfl|(simp [errW_none, errW_some] <;> rfl)|(simp [*, errW_none, errW_some] <;> rfl), by first|exact Kd.R_nil _ _ _ _ _|exact Kd.N_nil _ _ _ _ _|exact Kd.V_nil _ _ _ _ _|exact Kd.Q_nil _ _ _ _ _|exact Kd.S_nil _ _ _ _ _, by repeat (first|(with_reducible first|exact HB.out|apply below_alloc|apply pw_below_drewN|apply below_drew1)|exact HB.out)⟩

end Go.Proofs.YtehibiplodjofaaDoor.Pr
end
section
/- Route: what percent.Find and percent.Target answer, in plain words. -/
namespace Go.Proofs.YtehibiplodjofaaDoor
open Go.RowKit
set_option linter.unusedVariables false
set_option linter.unusedSimpArgs false
abbrev PairT := Pr.S41
theorem wrap_up (j n : Nat) (h : j < n) (hn : n ≤ 1000000) : wrap64 ((j : Int) + 1) = ((j + 1 : Nat) : Int) := by unfold wrap64; omega
theorem rd_at (l : List PairT) (j : Nat) (h : j < l.length) : Pr.rd_T41 l (j : Int) = l[j] := by
  unfold Pr.rd_T41
  simp [h]
/-! ### the value of a name -/
def findP (n : ByteArray) : List PairT → ByteArray × Bool
  | [] => (⟨#[]⟩, false)
  | p :: r => if p.f0.toList = n.toList then (p.f1, true) else findP n r
theorem pfind_l0 (l : List PairT) (n : ByteArray) (hl : l.length ≤ 1000000) : ∀ (d k j : Nat), j + d = l.length → d < k → Pr.percent_Find.l0 k n l (l.length : Int) (j : Int) = some (findP n (l.drop j))
  | d, 0, j, _, h => by omega
  | 0, k + 1, j, hj, _ => by
    simp only [Pr.percent_Find.l0]
    rw [if_neg (by omega), List.drop_of_length_le (by omega)]
    rfl
  | d + 1, k + 1, j, hj, hk => by
    simp only [Pr.percent_Find.l0]
    rw [if_pos (by omega), if_pos (by omega), if_pos (by omega), rd_at l j (by omega), List.drop_eq_getElem_cons (by omega : j < l.length), findP]
    split
    · rfl
    · rw [wrap_up j l.length (by omega) hl]
      exact pfind_l0 l n hl d k (j + 1) (by omega) (by omega)
theorem pfind_f (l : List PairT) (n : ByteArray) (k : Nat) (hl : l.length ≤ 1000000) (hk : l.length < k) : Pr.percent_Find.f k l n = some (findP n l) := by
  have := pfind_l0 l n hl l.length k 0 (by omega) hk
  simpa [Pr.percent_Find.f] using this
/-! ### targets -/
def targetV (l : List UInt8) : ByteArray × List PairT × Int :=
  if 2048 < l.length then (⟨#[]⟩, [], 3)
  else if (cutF 63 l).1.head? = some 47 then match pdec false (cutF 63 l).1 with
    | none => (⟨#[]⟩, [], 4)
    | some p => if (queryV (cutF 63 l).2).2 = 0 then (⟨p.toArray⟩, (queryV (cutF 63 l).2).1.map Pr.pairS, 0) else (⟨#[]⟩, [], (queryV (cutF 63 l).2).2)
  else (⟨#[]⟩, [], 4)
theorem mk_size (l : List UInt8) : (⟨l.toArray⟩ : ByteArray).size = l.length := by rw [bs_len]
theorem mk_list (l : List UInt8) : (⟨l.toArray⟩ : ByteArray).data.toList = l := by simp
theorem query_f (l : List UInt8) (h : l.length ≤ 1000000) : Pr.percent_Query.f ⟨l.toArray⟩ = some ((queryV l).1.map Pr.pairS, (queryV l).2) := by
  unfold Pr.percent_Query.f
  rw [if_pos (by rw [mk_size]; exact h), mk_list]
theorem decoded_f (l : List UInt8) (bl : Bool) (h : l.length ≤ 1000000) : Pr.percent_decoded.f ⟨l.toArray⟩ bl = some (⟨((pdec bl l).getD []).toArray⟩, (pdec bl l).isSome) := by
  unfold Pr.percent_decoded.f
  rw [if_pos (by rw [mk_size]; exact h), mk_list]
theorem prefix_f (l : List UInt8) : Pr.strings_HasPrefix.f ⟨l.toArray⟩ ⟨#[47]⟩ = some (l.head? == some 47) := by
  unfold Pr.strings_HasPrefix.f Pr.stringslite_HasPrefix.f
  have h1 : (⟨#[47]⟩ : ByteArray).size = 1 := rfl
  rw [mk_size, h1]
  cases l with
  | nil => rfl
  | cons c r =>
    rw [if_pos (by simp; omega), if_pos (by decide), if_pos (by simp; omega), Option.bind_some]
    have he : (⟨(c :: r).toArray⟩ : ByteArray).extract 0 ((1 : Nat) : Int).toNat = ⟨#[c]⟩ := bs_ext (by simp [ByteArray.data_extract, List.extract_eq_take_drop])
    rw [he, show (⟨#[c]⟩ : ByteArray).toList = [c] by rw [bs_toList], show (⟨#[47]⟩ : ByteArray).toList = [47] by rw [bs_toList]]
    by_cases hc : c = 47 <;> simp [hc]
theorem ptarget_f (l : List UInt8) (k : Nat) (h : l.length ≤ 1000000) : Pr.percent_Target.f (k + 1) ⟨l.toArray⟩ = some (targetV l) := by
  unfold Pr.percent_Target.f targetV
  rw [mk_size]
  by_cases h1 : 2048 < l.length
  · rw [if_pos (by omega), if_pos h1]
  · have hcl := cutF_len 63 l
    have hc : Pr.strings_Cut.f ⟨l.toArray⟩ ⟨#[63]⟩ = some (⟨(cutF 63 l).1.toArray⟩, ⟨(cutF 63 l).2.toArray⟩, (cutAt 63 l).isSome) := by
      show (if (⟨l.toArray⟩ : ByteArray).size ≤ 1000000 then _ else _) = _
      rw [if_pos (by rw [mk_size]; exact h), mk_list]
    rw [if_neg (by omega), if_neg h1, hc, Option.bind_some, decoded_f _ false (by omega), Option.bind_some]
    cases hd : pdec false (cutF 63 l).1 with
    | none =>
      simp only [Option.isSome_none, Bool.false_eq_true, if_false, Option.getD_none, Pr.percent_Target.j0, if_true]
      split <;> rfl
    | some p =>
      simp only [Option.isSome_some, if_true, Option.getD_some]
      rw [prefix_f, Option.bind_some]
      by_cases hh : (cutF 63 l).1.head? = some 47
      · rw [if_pos hh, hh]
        simp only [Pr.percent_Target.j0]
        rw [if_neg (by decide), query_f _ (by omega), Option.bind_some]
        simp only
        split <;> rfl
      · have hb : ((cutF 63 l).1.head? == some 47) = false := by simpa using hh
        rw [if_neg hh, hb]
        simp only [Pr.percent_Target.j0, Bool.not_false, if_true]
theorem queryV_len (l : List UInt8) : (queryV l).1.length ≤ 32 := by
  unfold queryV
  split
  · simp
  · split
    · simp
    · split
      · simp
      · simp only; omega
theorem targetV_len (l : List UInt8) : (targetV l).2.1.length ≤ 32 := by
  unfold targetV
  have := queryV_len (cutF 63 l).2
  split
  · simp
  · split
    · split
      · simp
      · split
        · simpa using this
        · simp
    · simp
end Go.Proofs.YtehibiplodjofaaDoor
end
