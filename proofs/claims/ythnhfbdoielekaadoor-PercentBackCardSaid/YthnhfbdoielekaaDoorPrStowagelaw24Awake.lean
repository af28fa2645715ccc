-- Written by a program of this session over the kit's print: a function's plain form, and that the call comes to it.
import Derived.Test.YthnhfbdoielekaaDoorPr0
import Derived.Test.YthnhfbdoielekaaDoorPrStowagelaw24Decodes
import Derived.Test.YthnhfbdoielekaaDoorHb24
namespace Go.Proofs.YthnhfbdoielekaaDoor.Pr
open Go.RowKit Go.Proofs.YthnhfbdoielekaaDoorW.PrintWords Go.Proofs.YthnhfbdoielekaaDoorW.PrintLast Go.Proofs.YthnhfbdoielekaaDoorW.PrintMore
attribute [local go_sem] max2_int min2_int max_two min_two max_three min_three max_four min_four   -- for this text's walks alone
attribute [local go_sem high] gtr_as_less leq_as_less
set_option linter.unusedVariables false
set_option linter.unusedSimpArgs false

/-! ### stowagelaw24_awake: function 14 -/
def stowagelaw24_awake.f  : Option (Bool) := (stowagelaw24_decodes.f (⟨#[97, 37, 50, 70, 98, 43, 99]⟩ : ByteArray) false (⟨#[97, 47, 98, 43, 99]⟩ : ByteArray)).bind fun t129 => (if t129 = true then ((stowagelaw24_decodes.f (⟨#[97, 43, 98]⟩ : ByteArray) true (⟨#[97, 32, 98]⟩ : ByteArray)).bind fun t130 => (if t130 = true then ((percent_Encode.f (⟨#[97, 47, 98, 32, 99, 126]⟩ : ByteArray) true).bind fun t131 => (some (t131.toList == ([97, 47, 98, 37, 50, 48, 99, 126] : List UInt8)))) else (some false))) else (some false))
set_option maxHeartbeats 8000000 in
set_option maxRecDepth 100000 in
theorem stowagelaw24_awake.calls  (r : Bool) (w : World) (h : stowagelaw24_awake.f  = some r) :
    Calls Tryd.prog 14 #[] w fun e w' => e = .returned (.bool r) ∧ Below w.heap.size w w' := by
  have HB := Aside0.mk (Below.refl w.heap.size w)
  have H : ((stowagelaw24_decodes.f (⟨#[97, 37, 50, 70, 98, 43, 99]⟩ : ByteArray) false (⟨#[97, 47, 98, 43, 99]⟩ : ByteArray)).bind fun t129 => (if t129 = true then ((stowagelaw24_decodes.f (⟨#[97, 43, 98]⟩ : ByteArray) true (⟨#[97, 32, 98]⟩ : ByteArray)).bind fun t130 => (if t130 = true then ((percent_Encode.f (⟨#[97, 47, 98, 32, 99, 126]⟩ : ByteArray) true).bind fun t131 => (some (t131.toList == ([97, 47, 98, 37, 50, 48, 99, 126] : List UInt8)))) else (some false))) else (some false))) = some r := h
  clear h
  replace H := Option.bind_eq_some_iff.mp H
  obtain ⟨t129, A10, H⟩ := H
  replace H : (if t129 = true then ((stowagelaw24_decodes.f (⟨#[97, 43, 98]⟩ : ByteArray) true (⟨#[97, 32, 98]⟩ : ByteArray)).bind fun t130 => (if t130 = true then ((percent_Encode.f (⟨#[97, 47, 98, 32, 99, 126]⟩ : ByteArray) true).bind fun t131 => (some (t131.toList == ([97, 47, 98, 37, 50, 48, 99, 126] : List UInt8)))) else (some false))) else (some false)) = some r := H
  have A1 := Aside0.mk A10
  clear A10
  by_cases c2 : t129 = true
  · subst c2
    have H1 : ((stowagelaw24_decodes.f (⟨#[97, 43, 98]⟩ : ByteArray) true (⟨#[97, 32, 98]⟩ : ByteArray)).bind fun t130 => (if t130 = true then ((percent_Encode.f (⟨#[97, 47, 98, 32, 99, 126]⟩ : ByteArray) true).bind fun t131 => (some (t131.toList == ([97, 47, 98, 37, 50, 48, 99, 126] : List UInt8)))) else (some false))) = some r := by rw [if_pos rfl] at H; exact H
    clear H
    have H := H1
    clear H1
    replace H := Option.bind_eq_some_iff.mp H
    obtain ⟨t130, A30, H⟩ := H
    replace H : (if t130 = true then ((percent_Encode.f (⟨#[97, 47, 98, 32, 99, 126]⟩ : ByteArray) true).bind fun t131 => (some (t131.toList == ([97, 47, 98, 37, 50, 48, 99, 126] : List UInt8)))) else (some false)) = some r := H
    have A3 := Aside0.mk A30
    clear A30
    by_cases c4 : t130 = true
    · subst c4
      have H1 : ((percent_Encode.f (⟨#[97, 47, 98, 32, 99, 126]⟩ : ByteArray) true).bind fun t131 => (some (t131.toList == ([97, 47, 98, 37, 50, 48, 99, 126] : List UInt8)))) = some r := by rw [if_pos rfl] at H; exact H
      clear H
      have H := H1
      clear H1
      replace H := Option.bind_eq_some_iff.mp H
      obtain ⟨t131, A50, H⟩ := H
      replace H : (some (t131.toList == ([97, 47, 98, 37, 50, 48, 99, 126] : List UInt8))) = some r := H
      have A5 := Aside0.mk A50
      clear A50
      obtain rfl := Option.some.inj H
      go_enter Tryd.func14, Tryd.ntmps14
      go_wp2_with (first | ((with_reducible refine gate_callee (f := 23) rfl ?_); refine goesL_ (some 1) rfl rfl Tryd.func23 (by kernel_rfl) rfl #[.string (⟨#[97, 37, 50, 70, 98, 43, 99]⟩ : ByteArray), .bool false, .string (⟨#[97, 47, 98, 43, 99]⟩ : ByteArray)] rfl (by (try simp only [List.map_toArray, List.map_cons, List.map_nil]); first | done | rfl | (simp only [List.length_drop, List.length_take]; rfl)) ?_; (with_reducible refine (stowagelaw24_decodes.calls (⟨#[97, 37, 50, 70, 98, 43, 99]⟩ : ByteArray) false (⟨#[97, 47, 98, 43, 99]⟩ : ByteArray) true _ A1.out).mono ?_); rintro e w6 ⟨rfl, hb⟩; refine ⟨_, rfl, ?_⟩; have n0_ := Aside0.mk (below_step (by repeat (first | (with_reducible first | exact HB.out | apply below_alloc | apply pw_below_drewN | apply below_drew1) | exact HB.out)) hb); clear HB; have HB := n0_; clear n0_; (try clear hb); (try clear hb2); (try clear hk); (try clear hi)) | (go_at_call 23; (with_reducible refine (stowagelaw24_decodes.calls (⟨#[97, 43, 98]⟩ : ByteArray) true (⟨#[97, 32, 98]⟩ : ByteArray) true _ A3.out).mono ?_); rintro e w7 ⟨rfl, hb⟩; have n0_ := Aside0.mk (below_step (by repeat (first | (with_reducible first | exact HB.out | apply below_alloc | apply pw_below_drewN | apply below_drew1) | exact HB.out)) hb); clear HB; have HB := n0_; clear n0_; (try clear hb); (try clear hb2); (try clear hk); (try clear hi)) | (go_at_call 16; (with_reducible refine (percent_Encode.calls (⟨#[97, 47, 98, 32, 99, 126]⟩ : ByteArray) true t131 _ A5.out).mono ?_); rintro e w8 ⟨rfl, hb⟩; have n0_ := Aside0.mk (below_step (by repeat (first | (with_reducible first | exact HB.out | apply below_alloc | apply pw_below_drewN | apply below_drew1) | exact HB.out)) hb); clear HB; have HB := n0_; clear n0_; (try clear hb); (try clear hb2); (try clear hk); (try clear hi)))
      go_ret
      exact ⟨by first | rfl | (simp [errW_none, errW_some] <;> rfl) | (simp [*, errW_none, errW_some] <;> rfl), by repeat (first | (with_reducible first | exact HB.out | apply below_alloc | apply pw_below_drewN | apply below_drew1) | exact HB.out)⟩
    · replace c4 := Bool.eq_false_iff.mpr c4
      subst c4
      have H1 : (some false) = some r := by rw [if_neg (show ¬ (false = true) by decide)] at H; exact H
      clear H
      have H := H1
      clear H1
      obtain rfl := Option.some.inj H
      go_enter Tryd.func14, Tryd.ntmps14
      go_wp2_with (first | ((with_reducible refine gate_callee (f := 23) rfl ?_); refine goesL_ (some 1) rfl rfl Tryd.func23 (by kernel_rfl) rfl #[.string (⟨#[97, 37, 50, 70, 98, 43, 99]⟩ : ByteArray), .bool false, .string (⟨#[97, 47, 98, 43, 99]⟩ : ByteArray)] rfl (by (try simp only [List.map_toArray, List.map_cons, List.map_nil]); first | done | rfl | (simp only [List.length_drop, List.length_take]; rfl)) ?_; (with_reducible refine (stowagelaw24_decodes.calls (⟨#[97, 37, 50, 70, 98, 43, 99]⟩ : ByteArray) false (⟨#[97, 47, 98, 43, 99]⟩ : ByteArray) true _ A1.out).mono ?_); rintro e w9 ⟨rfl, hb⟩; refine ⟨_, rfl, ?_⟩; have n0_ := Aside0.mk (below_step (by repeat (first | (with_reducible first | exact HB.out | apply below_alloc | apply pw_below_drewN | apply below_drew1) | exact HB.out)) hb); clear HB; have HB := n0_; clear n0_; (try clear hb); (try clear hb2); (try clear hk); (try clear hi)) | (go_at_call 23; (with_reducible refine (stowagelaw24_decodes.calls (⟨#[97, 43, 98]⟩ : ByteArray) true (⟨#[97, 32, 98]⟩ : ByteArray) false _ A3.out).mono ?_); rintro e w10 ⟨rfl, hb⟩; have n0_ := Aside0.mk (below_step (by repeat (first | (with_reducible first | exact HB.out | apply below_alloc | apply pw_below_drewN | apply below_drew1) | exact HB.out)) hb); clear HB; have HB := n0_; clear n0_; (try clear hb); (try clear hb2); (try clear hk); (try clear hi)))
      go_ret
      exact ⟨by first | rfl | (simp [errW_none, errW_some] <;> rfl) | (simp [*, errW_none, errW_some] <;> rfl), by repeat (first | (with_reducible first | exact HB.out | apply below_alloc | apply pw_below_drewN | apply below_drew1) | exact HB.out)⟩
  · replace c2 := Bool.eq_false_iff.mpr c2
    subst c2
    have H1 : (some false) = some r := by rw [if_neg (show ¬ (false = true) by decide)] at H; exact H
    clear H
    have H := H1
    clear H1
    obtain rfl := Option.some.inj H
    go_enter Tryd.func14, Tryd.ntmps14
    go_wp2_with (first | ((with_reducible refine gate_callee (f := 23) rfl ?_); refine goesL_ (some 1) rfl rfl Tryd.func23 (by kernel_rfl) rfl #[.string (⟨#[97, 37, 50, 70, 98, 43, 99]⟩ : ByteArray), .bool false, .string (⟨#[97, 47, 98, 43, 99]⟩ : ByteArray)] rfl (by (try simp only [List.map_toArray, List.map_cons, List.map_nil]); first | done | rfl | (simp only [List.length_drop, List.length_take]; rfl)) ?_; (with_reducible refine (stowagelaw24_decodes.calls (⟨#[97, 37, 50, 70, 98, 43, 99]⟩ : ByteArray) false (⟨#[97, 47, 98, 43, 99]⟩ : ByteArray) false _ A1.out).mono ?_); rintro e w11 ⟨rfl, hb⟩; refine ⟨_, rfl, ?_⟩; have n0_ := Aside0.mk (below_step (by repeat (first | (with_reducible first | exact HB.out | apply below_alloc | apply pw_below_drewN | apply below_drew1) | exact HB.out)) hb); clear HB; have HB := n0_; clear n0_; (try clear hb); (try clear hb2); (try clear hk); (try clear hi)))
    go_ret
    exact ⟨by first | rfl | (simp [errW_none, errW_some] <;> rfl) | (simp [*, errW_none, errW_some] <;> rfl), by repeat (first | (with_reducible first | exact HB.out | apply below_alloc | apply pw_below_drewN | apply below_drew1) | exact HB.out)⟩

end Go.Proofs.YthnhfbdoielekaaDoor.Pr
