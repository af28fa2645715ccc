/- Texts of this proof, put together: PrStowagelaw27ResponseBack, Pb27. -/
import Derived.Test.YtmgpbcpggnlkkaaDoorMResponseBackj
import Derived.Test.YtmgpbcpggnlkkaaDoorMResponseBackl
import Derived.Test.YtmgpbcpggnlkkaaDoorMResponseBackp
section
namespace Go.Proofs.YtmgpbcpggnlkkaaDoor.Pr
open Go.RowKit Go.Proofs.YtmgpbcpggnlkkaaDoorW.PrintWords Go.Proofs.YtmgpbcpggnlkkaaDoorW.PrintLast Go.Proofs.YtmgpbcpggnlkkaaDoorW.PrintMore
attribute [local go_sem] max2_int min2_int max_two min_two max_three min_three max_four min_four -- for this text's walks alone
set_option linter.unusedVariables false
set_option linter.unusedSimpArgs false

/-! ### stowagelaw27_ResponseBack: function 4 -/
mutual
def stowagelaw27_ResponseBack.j0 : Nat → List Int → Int → List Int → Bool → Bool → Int → List (S32) → List Int → Option (Bool)
 | 0, _, _, _, _, _, _, _, _ => none
 | k + 1, x1, x2, x3, x9, x35, x219000, x219001, x219002 => if x35 = true then (some x9) else ((response_Bytes.f k x219000 x219001 x219002).bind fun bt221 => (if bt221.2 = 0 then ((stowagekit_CopyBytes.f bt221.1).bind fun t225 => (if t225.length + x1.length < 140737488355328 then ((response_Read.f (t225 ++ x1)).bind fun bt231 => (if bt231.2.2.2.2 = 0 then (if bt231.2.2.2.1 = (bt221.1.length : Int) then (if bt231.2.2.2.1 = 0 then (stowagelaw27_ResponseBack.j1 k x2 x3 x9 bt221.1 true) else ((stowagekit_SameResponse.f k bt231.1 bt231.2.1 bt231.2.2.1 x219000 x219001 x219002).bind fun t241 => (stowagelaw27_ResponseBack.j1 k x2 x3 x9 bt221.1 (!t241)))) else (stowagelaw27_ResponseBack.j1 k x2 x3 x9 bt221.1 true)) else (stowagelaw27_ResponseBack.j1 k x2 x3 x9 bt221.1 true))) else (none))) else (stowagelaw27_ResponseBack.j2 k x3 x9)))
def stowagelaw27_ResponseBack.j2 : Nat → List Int → Bool → Option (Bool)
 | 0, _, _ => none
 | k + 1, x3, x9 => (response_Read.f x3).bind fun bt257 => (if bt257.2.2.2.2 = 0 then ((response_Bytes.f k bt257.1 bt257.2.1 bt257.2.2.1).bind fun bt267 => (if x9 = true then (if bt267.2 = 0 then (if bt257.2.2.2.1 ≥ 0 then (if bt257.2.2.2.1 ≤ (x3.length : Int) then (if 0 ≤ bt257.2.2.2.1 then ((stowagekit_SameBytes.f bt267.1 (x3.take (bt257.2.2.2.1 : Int).toNat)).bind fun t272 => (some t272)) else (none)) else (some false)) else (some false)) else (some false)) else (some false))) else (some x9))
def stowagelaw27_ResponseBack.j1 : Nat → Int → List Int → Bool → List Int → Bool → Option (Bool)
 | 0, _, _, _, _, _ => none
 | k + 1, x2, x3, x9, x10, x70 => if x70 = true then (some false) else ((stowagekit_Pick.f x2 (x10.length : Int)).bind fun t242 => (if 0 ≤ t242 then (if t242 ≤ (x10.length : Int) then ((response_Read.f (x10.take (t242 : Int).toNat)).bind fun bt247 => (if bt247.2.2.2.2 = 9 then (if bt247.2.2.2.1 = 0 then (stowagelaw27_ResponseBack.j2 k x3 x9) else (some false)) else (some false))) else (none)) else (none)))
end
def stowagelaw27_ResponseBack.f (k : Nat) (a0_0 : Int) (l0_1 : List (S32)) (l0_2 : List Int) (l1 : List Int) (a2 : Int) (l3 : List Int) : Option (Bool) := (stowagelaw27_ResponseKnown.f k).bind fun t219 => ((stowagekit_LargeResponse.f k a0_0 l0_1 l0_2).bind fun t220 => (if t220 = true then (stowagelaw27_ResponseBack.j0 k l1 a2 l3 t219 true a0_0 l0_1 l0_2) else (if (l1.length : Int) > 1000 then (stowagelaw27_ResponseBack.j0 k l1 a2 l3 t219 true a0_0 l0_1 l0_2) else (stowagelaw27_ResponseBack.j0 k l1 a2 l3 t219 (decide ((l3.length : Int) > 6000)) a0_0 l0_1 l0_2))))
theorem stowagelaw27_ResponseBack.mono_l : ∀ k, (∀ y0 y1 y2 y3 y4 y5 y6 y7, LeO (stowagelaw27_ResponseBack.j0 k y0 y1 y2 y3 y4 y5 y6 y7) (stowagelaw27_ResponseBack.j0 (k + 1) y0 y1 y2 y3 y4 y5 y6 y7)) ∧ (∀ y0 y1, LeO (stowagelaw27_ResponseBack.j2 k y0 y1) (stowagelaw27_ResponseBack.j2 (k + 1) y0 y1)) ∧ (∀ y0 y1 y2 y3 y4, LeO (stowagelaw27_ResponseBack.j1 k y0 y1 y2 y3 y4) (stowagelaw27_ResponseBack.j1 (k + 1) y0 y1 y2 y3 y4))
 | 0 => ⟨fun _ _ _ _ _ _ _ _ r h => by simp [stowagelaw27_ResponseBack.j0] at h, fun _ _ r h => by simp [stowagelaw27_ResponseBack.j2] at h, fun _ _ _ _ _ r h => by simp [stowagelaw27_ResponseBack.j1] at h⟩
 | k + 1 => by
  obtain ⟨ih0, ih1, ih2⟩ := stowagelaw27_ResponseBack.mono_l k
  refine ⟨?_, ?_, ?_⟩
  ·intro y0 y1 y2 y3 y4 y5 y6 y7
   unfold stowagelaw27_ResponseBack.j0
   repeat' first
   | (with_reducible exact ih0 _ _ _ _ _ _ _ _)
   | (with_reducible exact ih1 _ _)
   | (with_reducible exact ih2 _ _ _ _ _)
   | (with_reducible exact response_Bytes.mono _ _ _ _)
   | (with_reducible exact stowagekit_LargeResponse.mono _ _ _ _)
   | (with_reducible exact stowagekit_SameResponse.mono _ _ _ _ _ _ _)
   | (with_reducible exact stowagelaw27_ResponseKnown.mono _)
   | (with_reducible exact LeO.refl _)
   | (with_reducible exact LeO.none _)
   | (with_reducible refine LeO.ite ?_ ?_)
   | (with_reducible refine LeO.bind ?_ (fun _ => ?_))
   | exact ih0 _ _ _ _ _ _ _ _
   | exact ih1 _ _
   | exact ih2 _ _ _ _ _
   | exact response_Bytes.mono _ _ _ _
   | exact stowagekit_LargeResponse.mono _ _ _ _
   | exact stowagekit_SameResponse.mono _ _ _ _ _ _ _
   | exact stowagelaw27_ResponseKnown.mono _
   | exact LeO.none _
   | refine LeO.ite ?_ ?_
   | refine LeO.bind ?_ (fun _ => ?_)
  ·intro y0 y1
   unfold stowagelaw27_ResponseBack.j2
   repeat' first
   | (with_reducible exact ih0 _ _ _ _ _ _ _ _)
   | (with_reducible exact ih1 _ _)
   | (with_reducible exact ih2 _ _ _ _ _)
   | (with_reducible exact response_Bytes.mono _ _ _ _)
   | (with_reducible exact stowagekit_LargeResponse.mono _ _ _ _)
   | (with_reducible exact stowagekit_SameResponse.mono _ _ _ _ _ _ _)
   | (with_reducible exact stowagelaw27_ResponseKnown.mono _)
   | (with_reducible exact LeO.refl _)
   | (with_reducible exact LeO.none _)
   | (with_reducible refine LeO.ite ?_ ?_)
   | (with_reducible refine LeO.bind ?_ (fun _ => ?_))
   | exact ih0 _ _ _ _ _ _ _ _
   | exact ih1 _ _
   | exact ih2 _ _ _ _ _
   | exact response_Bytes.mono _ _ _ _
   | exact stowagekit_LargeResponse.mono _ _ _ _
   | exact stowagekit_SameResponse.mono _ _ _ _ _ _ _
   | exact stowagelaw27_ResponseKnown.mono _
   | exact LeO.none _
   | refine LeO.ite ?_ ?_
   | refine LeO.bind ?_ (fun _ => ?_)
  ·intro y0 y1 y2 y3 y4
   unfold stowagelaw27_ResponseBack.j1
   repeat' first
   | (with_reducible exact ih0 _ _ _ _ _ _ _ _)
   | (with_reducible exact ih1 _ _)
   | (with_reducible exact ih2 _ _ _ _ _)
   | (with_reducible exact response_Bytes.mono _ _ _ _)
   | (with_reducible exact stowagekit_LargeResponse.mono _ _ _ _)
   | (with_reducible exact stowagekit_SameResponse.mono _ _ _ _ _ _ _)
   | (with_reducible exact stowagelaw27_ResponseKnown.mono _)
   | (with_reducible exact LeO.refl _)
   | (with_reducible exact LeO.none _)
   | (with_reducible refine LeO.ite ?_ ?_)
   | (with_reducible refine LeO.bind ?_ (fun _ => ?_))
   | exact ih0 _ _ _ _ _ _ _ _
   | exact ih1 _ _
   | exact ih2 _ _ _ _ _
   | exact response_Bytes.mono _ _ _ _
   | exact stowagekit_LargeResponse.mono _ _ _ _
   | exact stowagekit_SameResponse.mono _ _ _ _ _ _ _
   | exact stowagelaw27_ResponseKnown.mono _
   | exact LeO.none _
   | refine LeO.ite ?_ ?_
   | refine LeO.bind ?_ (fun _ => ?_)
theorem stowagelaw27_ResponseBack.mono : ∀ a0 a1 a2 a3 a4 a5 k, LeO (stowagelaw27_ResponseBack.f k a0 a1 a2 a3 a4 a5) (stowagelaw27_ResponseBack.f (k + 1) a0 a1 a2 a3 a4 a5) := by
 intro a0 a1 a2 a3 a4 a5 k
 obtain ⟨ih0, ih1, ih2⟩ := stowagelaw27_ResponseBack.mono_l k
 unfold stowagelaw27_ResponseBack.f
 repeat' first
   | (with_reducible exact ih0 _ _ _ _ _ _ _ _)
   | (with_reducible exact ih1 _ _)
   | (with_reducible exact ih2 _ _ _ _ _)
   | (with_reducible exact response_Bytes.mono _ _ _ _)
   | (with_reducible exact stowagekit_LargeResponse.mono _ _ _ _)
   | (with_reducible exact stowagekit_SameResponse.mono _ _ _ _ _ _ _)
   | (with_reducible exact stowagelaw27_ResponseKnown.mono _)
   | (with_reducible exact LeO.refl _)
   | (with_reducible exact LeO.none _)
   | (with_reducible refine LeO.ite ?_ ?_)
   | (with_reducible refine LeO.bind ?_ (fun _ => ?_))
   | exact ih0 _ _ _ _ _ _ _ _
   | exact ih1 _ _
   | exact ih2 _ _ _ _ _
   | exact response_Bytes.mono _ _ _ _
   | exact stowagekit_LargeResponse.mono _ _ _ _
   | exact stowagekit_SameResponse.mono _ _ _ _ _ _ _
   | exact stowagelaw27_ResponseKnown.mono _
   | exact LeO.none _
   | refine LeO.ite ?_ ?_
   | refine LeO.bind ?_ (fun _ => ?_)
set_option maxHeartbeats 8000000 in
set_option maxRecDepth 100000 in
theorem stowagelaw27_ResponseBack.calls (k : Nat) (a0_0 : Int) (A0_1 : Option Addr) (c0_1 : Nat) (l0_1 : List (S32)) (A0_2 : Option Addr) (c0_2 : Nat) (l0_2 : List Int) (A1 : Option Addr) (c1 : Nat) (l1 : List Int) (a2 : Int) (A3 : Option Addr) (c3 : Nat) (l3 : List Int) (r : Bool) (w : World) (hG : GM w) (hr0_1 : Kd.C k32 w A0_1 l0_1.length l0_1) (hc0_1 : l0_1.length ≤ c0_1) (hr0_2 : Kd.C (Kd.int .u8) w A0_2 l0_2.length l0_2) (hc0_2 : l0_2.length ≤ c0_2) (hr1 : Kd.C (Kd.int .u8) w A1 l1.length l1) (hc1 : l1.length ≤ c1) (hr3 : Kd.C (Kd.int .u8) w A3 l3.length l3) (hc3 : l3.length ≤ c3) (h : stowagelaw27_ResponseBack.f k a0_0 l0_1 l0_2 l1 a2 l3 = some r) :
  Calls Tryd.prog 4 #[.agg #[.int .i64 a0_0, .slice A0_1 l0_1.length c0_1, .slice A0_2 l0_2.length c0_2], .slice A1 l1.length c1, .int .i64 a2, .slice A3 l3.length c3] w fun e w' => e = .returned (.bool r) ∧ Below w.heap.size w w' := by
 have hu30 := Tryd.underlying30
 have HR0_1 := Aside0.mk hr0_1
 have HC0_1 := Aside0.mk hc0_1
 clear hr0_1 hc0_1
 have HR0_2 := Aside0.mk hr0_2
 have HC0_2 := Aside0.mk hc0_2
 clear hr0_2 hc0_2
 have HR1 := Aside0.mk hr1
 have HC1 := Aside0.mk hc1
 clear hr1 hc1
 have HR3 := Aside0.mk hr3
 have HC3 := Aside0.mk hc3
 clear hr3 hc3
 have HB := Aside0.mk (Below.refl w.heap.size w)
 have HG := Aside0.mk hG
 clear hG
 have H : ((stowagelaw27_ResponseKnown.f k).bind fun t219 => ((stowagekit_LargeResponse.f k a0_0 l0_1 l0_2).bind fun t220 => (if t220 = true then (stowagelaw27_ResponseBack.j0 k l1 a2 l3 t219 true a0_0 l0_1 l0_2) else (if (l1.length : Int) > 1000 then (stowagelaw27_ResponseBack.j0 k l1 a2 l3 t219 true a0_0 l0_1 l0_2) else (stowagelaw27_ResponseBack.j0 k l1 a2 l3 t219 (decide ((l3.length : Int) > 6000)) a0_0 l0_1 l0_2))))) = some r := h
 clear h
 replace H := Option.bind_eq_some_iff.mp H
 obtain ⟨t219, A50, H⟩ := H
 replace H : ((stowagekit_LargeResponse.f k a0_0 l0_1 l0_2).bind fun t220 => (if t220 = true then (stowagelaw27_ResponseBack.j0 k l1 a2 l3 t219 true a0_0 l0_1 l0_2) else (if (l1.length : Int) > 1000 then (stowagelaw27_ResponseBack.j0 k l1 a2 l3 t219 true a0_0 l0_1 l0_2) else (stowagelaw27_ResponseBack.j0 k l1 a2 l3 t219 (decide ((l3.length : Int) > 6000)) a0_0 l0_1 l0_2)))) = some r := H
 have A5 := Aside0.mk A50
 clear A50
 have HC6 := Aside0.mk H
 clear H
 go_enter Tryd.func4, Tryd.ntmps4
 go_upto_region 2 with (first|((with_reducible refine gate_dst (N := 4) rfl ?_); (try (refine gate_guard (by rfl) ?_; dsimp only)); refine box_event ?hg (N := 4) ?hd (cs := #[.int .i64 a0_0, .slice A0_1 l0_1.length c0_1, .slice A0_2 l0_2.length c0_2]) (t := 30) ?hr ?_; (case hd => rfl); (case hg => rfl); (case hr => first|(go_simp; done)|(go_simp; rfl)); intro gb218 hg w7 hbox hb; have n0_ := Aside0.mk (below_step (by repeat (first|(with_reducible first|exact HB.out|apply below_alloc|apply pw_below_drewN|apply below_drew1)|exact HB.out)) hb); have n1_ := Aside0.mk (hbox); have n2_ := Aside0.mk ((by rw [hg]; exact (below_size (by repeat (first|(with_reducible first|exact HB.out|apply below_alloc|apply pw_below_drewN|apply below_drew1)|exact HB.out))) : w.heap.size ≤ gb218)); have n3_ := Aside0.mk ((by rw [hg]; exact (below_size (by repeat (first|(with_reducible first|exact HB.out|apply below_alloc|apply pw_below_drewN|apply below_drew1)|exact HB.out))) : w.heap.size ≤ gb218)); clear HB; have HB := n0_; have BK218 := n1_; have GW218 := n2_; have GE218 := n3_; clear n0_ n1_ n2_ n3_; clear hb hbox hg)|((with_reducible refine gate_callee (f := 3) rfl ?_); refine goesL_ (some 23) rfl rfl Tryd.func3 (by kernel_rfl) rfl #[] rfl (by (try simp only [List.map_toArray, List.map_cons, List.map_nil]); first|done|rfl|(simp only [List.length_drop, List.length_take]; rfl)) ?_; (with_reducible refine (stowagelaw27_ResponseKnown.calls k  t219 _ ?side1 A5.out).mono ?_); (case side1 => first|exact HG.out|exact GM.below (by repeat (first|(with_reducible first|exact HB.out|apply below_alloc|apply pw_below_drewN|apply below_drew1|refine below_set ?_ GE218.out)|exact HB.out)) HG.out|(repeat (first|exact HG.out|apply GM.drewN|apply GM.drew))); rintro e w8 ⟨rfl, hb⟩; refine ⟨_, rfl, ?_⟩; have n0_ := Aside0.mk (blk_below (g := gb218) (o := .cells #[.int .i64 a0_0, .slice A0_1 l0_1.length c0_1, .slice A0_2 l0_2.length c0_2] 30 (0, 0)) (by (with_reducible repeat (first|refine blk_drewN ?_ _|refine blk_drew ?_|refine blk_alloc ?_ _)); exact BK218.out) hb); have n1_ := Aside0.mk (below_step (by repeat (first|(with_reducible first|exact HB.out|apply below_alloc|apply pw_below_drewN|apply below_drew1|refine below_set ?_ GE218.out)|exact HB.out)) hb); clear BK218; clear HB; have BK218 := n0_; have HB := n1_; clear n0_ n1_; (try clear hb); (try clear hb2); (try clear hk); (try clear hi)))
 (try simp only [Act.put, List.setIfInBounds_toArray, List.set_cons_zero, List.set_cons_succ])
 go_cut [35] (fun v35 wc => ∃ (kq : Nat) (x35_5 : Bool), v35 = .bool x35_5 ∧ Aside0 (stowagelaw27_ResponseBack.j0 kq l1 a2 l3 t219 x35_5 a0_0 l0_1 l0_2 = some r) ∧ Aside0 (kq ≤ k) ∧ Aside0 (wc.heap[gb218]? = some (.cells #[.int .i64 a0_0, (.slice A0_1 l0_1.length c0_1), (.slice A0_2 l0_2.length c0_2)] 30 (0, 0))) ∧ Aside0 (Below w.heap.size w wc))
 case first =>
  have H := HC6.out
  clear HC6
  replace H := Option.bind_eq_some_iff.mp H
  obtain ⟨t220, A90, H⟩ := H
  replace H : (if t220 = true then (stowagelaw27_ResponseBack.j0 k l1 a2 l3 t219 true a0_0 l0_1 l0_2) else (if (l1.length : Int) > 1000 then (stowagelaw27_ResponseBack.j0 k l1 a2 l3 t219 true a0_0 l0_1 l0_2) else (stowagelaw27_ResponseBack.j0 k l1 a2 l3 t219 (decide ((l3.length : Int) > 6000)) a0_0 l0_1 l0_2))) = some r := H
  have A9 := Aside0.mk A90
  clear A90
  by_cases c10 : t220 = true
  ·subst c10
   have H1 : (stowagelaw27_ResponseBack.j0 k l1 a2 l3 t219 true a0_0 l0_1 l0_2) = some r := by rw [if_pos rfl] at H; exact H
   clear H
   have H := H1
   clear H1
   have H' := Aside0.mk H
   clear H
   have hcz11_0 : w8.cell? ⟨gb218, 0, none⟩ = some (.int .i64 a0_0) := (blk_cell BK218.out 0).trans rfl
   have hcz11_1 : w8.cell? ⟨gb218, 1, none⟩ = some (.slice A0_1 l0_1.length c0_1) := (blk_cell BK218.out 1).trans rfl
   have hcz11_2 : w8.cell? ⟨gb218, 2, none⟩ = some (.slice A0_2 l0_2.length c0_2) := (blk_cell BK218.out 2).trans rfl
   have hfz11_0 := blk_frozen BK218.out 0
   have hfz11_1 := blk_frozen BK218.out 1
   have hfz11_2 := blk_frozen BK218.out 2
   go_wp2_with (first|((with_reducible refine gate_callee (f := 9) rfl ?_); refine goesL_ (some 25) rfl rfl Tryd.func9 (by kernel_rfl) rfl #[.agg #[.int .i64 a0_0, .slice A0_1 l0_1.length c0_1, .slice A0_2 l0_2.length c0_2]] rfl (by (try simp only [List.map_toArray, List.map_cons, List.map_nil]); first|done|rfl|(simp only [List.length_drop, List.length_take]; rfl)) ?_; (with_reducible refine (stowagekit_LargeResponse.calls k a0_0 _ _ l0_1 _ _ l0_2 true _ ?side1 ?side2 ?side3 ?side4 A9.out).mono ?_); (case side1 => repeat (first|exact (Kd.C_below HR0_1.out HB.out)|(with_reducible refine Kd.C_alloc ?_ _)|(with_reducible refine Kd.C_drewN ?_ _)|(with_reducible refine Kd.C_drew ?_))); (case side2 => exact HC0_1.out); (case side3 => repeat (first|exact (Kd.C_below HR0_2.out HB.out)|(with_reducible refine Kd.C_alloc ?_ _)|(with_reducible refine Kd.C_drewN ?_ _)|(with_reducible refine Kd.C_drew ?_))); (case side4 => exact HC0_2.out); rintro e w12 ⟨rfl, hb⟩; refine ⟨_, rfl, ?_⟩; have n0_ := Aside0.mk (blk_below (g := gb218) (o := .cells #[.int .i64 a0_0, .slice A0_1 l0_1.length c0_1, .slice A0_2 l0_2.length c0_2] 30 (0, 0)) (by (with_reducible repeat (first|refine blk_drewN ?_ _|refine blk_drew ?_|refine blk_alloc ?_ _)); exact BK218.out) hb); have n1_ := Aside0.mk (below_step (by repeat (first|(with_reducible first|exact HB.out|apply below_alloc|apply pw_below_drewN|apply below_drew1|refine below_set ?_ GE218.out)|exact HB.out)) hb); clear BK218; clear HB; have BK218 := n0_; have HB := n1_; clear n0_ n1_; (try clear hb); (try clear hb2); (try clear hk); (try clear hi)))
   go_meet
   case rel => exact ⟨_, (true), (by first|rfl|(simp; done)|(simp [*]; done)), H', ⟨by first|omega|exact Nat.le_refl _⟩, ⟨by (with_reducible repeat (first|refine blk_drewN ?_ _|refine blk_drew ?_|refine blk_alloc ?_ _)); exact BK218.out⟩, ⟨by repeat (first|(with_reducible first|exact HB.out|apply below_alloc|apply pw_below_drewN|apply below_drew1|refine below_set ?_ GE218.out)|exact HB.out)⟩⟩
  ·replace c10 := Bool.eq_false_iff.mpr c10
   subst c10
   have H1 : (if (l1.length : Int) > 1000 then (stowagelaw27_ResponseBack.j0 k l1 a2 l3 t219 true a0_0 l0_1 l0_2) else (stowagelaw27_ResponseBack.j0 k l1 a2 l3 t219 (decide ((l3.length : Int) > 6000)) a0_0 l0_1 l0_2)) = some r := by rw [if_neg (show ¬ (false = true) by decide)] at H; exact H
   clear H
   have H := H1
   clear H1
   by_cases c13 : (l1.length : Int) > 1000
   ·rw [if_pos c13] at H
    have c13b0 : decide (1000 < (l1.length : Int)) = true := decide_eq_true c13
    have c13b1 : decide (1000 < l1.length) = true := decide_eq_true (by omega)
    clear c13
    (first|rw [c13b0]|(simp only [i64_w, i32_w]; rw [c13b0])|skip)
    have H' := Aside0.mk H
    clear H
    have hcz14_0 : w8.cell? ⟨gb218, 0, none⟩ = some (.int .i64 a0_0) := (blk_cell BK218.out 0).trans rfl
    have hcz14_1 : w8.cell? ⟨gb218, 1, none⟩ = some (.slice A0_1 l0_1.length c0_1) := (blk_cell BK218.out 1).trans rfl
    have hcz14_2 : w8.cell? ⟨gb218, 2, none⟩ = some (.slice A0_2 l0_2.length c0_2) := (blk_cell BK218.out 2).trans rfl
    have hfz14_0 := blk_frozen BK218.out 0
    have hfz14_1 := blk_frozen BK218.out 1
    have hfz14_2 := blk_frozen BK218.out 2
    go_wp2_with (first|((with_reducible refine gate_callee (f := 9) rfl ?_); refine goesL_ (some 25) rfl rfl Tryd.func9 (by kernel_rfl) rfl #[.agg #[.int .i64 a0_0, .slice A0_1 l0_1.length c0_1, .slice A0_2 l0_2.length c0_2]] rfl (by (try simp only [List.map_toArray, List.map_cons, List.map_nil]); first|done|rfl|(simp only [List.length_drop, List.length_take]; rfl)) ?_; (with_reducible refine (stowagekit_LargeResponse.calls k a0_0 _ _ l0_1 _ _ l0_2 false _ ?side1 ?side2 ?side3 ?side4 A9.out).mono ?_); (case side1 => repeat (first|exact (Kd.C_below HR0_1.out HB.out)|(with_reducible refine Kd.C_alloc ?_ _)|(with_reducible refine Kd.C_drewN ?_ _)|(with_reducible refine Kd.C_drew ?_))); (case side2 => exact HC0_1.out); (case side3 => repeat (first|exact (Kd.C_below HR0_2.out HB.out)|(with_reducible refine Kd.C_alloc ?_ _)|(with_reducible refine Kd.C_drewN ?_ _)|(with_reducible refine Kd.C_drew ?_))); (case side4 => exact HC0_2.out); rintro e w15 ⟨rfl, hb⟩; refine ⟨_, rfl, ?_⟩; have n0_ := Aside0.mk (blk_below (g := gb218) (o := .cells #[.int .i64 a0_0, .slice A0_1 l0_1.length c0_1, .slice A0_2 l0_2.length c0_2] 30 (0, 0)) (by (with_reducible repeat (first|refine blk_drewN ?_ _|refine blk_drew ?_|refine blk_alloc ?_ _)); exact BK218.out) hb); have n1_ := Aside0.mk (below_step (by repeat (first|(with_reducible first|exact HB.out|apply below_alloc|apply pw_below_drewN|apply below_drew1|refine below_set ?_ GE218.out)|exact HB.out)) hb); clear BK218; clear HB; have BK218 := n0_; have HB := n1_; clear n0_ n1_; (try clear hb); (try clear hb2); (try clear hk); (try clear hi)))
    go_meet
    case rel => exact ⟨_, (true), (by first|rfl|(simp; done)|(simp [*]; done)), H', ⟨by first|omega|exact Nat.le_refl _⟩, ⟨by (with_reducible repeat (first|refine blk_drewN ?_ _|refine blk_drew ?_|refine blk_alloc ?_ _)); exact BK218.out⟩, ⟨by repeat (first|(with_reducible first|exact HB.out|apply below_alloc|apply pw_below_drewN|apply below_drew1|refine below_set ?_ GE218.out)|exact HB.out)⟩⟩
   ·rw [if_neg c13] at H
    have c13b0 : decide (1000 < (l1.length : Int)) = false := decide_eq_false c13
    have c13b1 : decide (1000 < l1.length) = false := decide_eq_false (by omega)
    clear c13
    (first|rw [c13b0]|(simp only [i64_w, i32_w]; rw [c13b0])|skip)
    have H' := Aside0.mk H
    clear H
    have hcz16_0 : w8.cell? ⟨gb218, 0, none⟩ = some (.int .i64 a0_0) := (blk_cell BK218.out 0).trans rfl
    have hcz16_1 : w8.cell? ⟨gb218, 1, none⟩ = some (.slice A0_1 l0_1.length c0_1) := (blk_cell BK218.out 1).trans rfl
    have hcz16_2 : w8.cell? ⟨gb218, 2, none⟩ = some (.slice A0_2 l0_2.length c0_2) := (blk_cell BK218.out 2).trans rfl
    have hfz16_0 := blk_frozen BK218.out 0
    have hfz16_1 := blk_frozen BK218.out 1
    have hfz16_2 := blk_frozen BK218.out 2
    go_wp2_with (first|((with_reducible refine gate_callee (f := 9) rfl ?_); refine goesL_ (some 25) rfl rfl Tryd.func9 (by kernel_rfl) rfl #[.agg #[.int .i64 a0_0, .slice A0_1 l0_1.length c0_1, .slice A0_2 l0_2.length c0_2]] rfl (by (try simp only [List.map_toArray, List.map_cons, List.map_nil]); first|done|rfl|(simp only [List.length_drop, List.length_take]; rfl)) ?_; (with_reducible refine (stowagekit_LargeResponse.calls k a0_0 _ _ l0_1 _ _ l0_2 false _ ?side1 ?side2 ?side3 ?side4 A9.out).mono ?_); (case side1 => repeat (first|exact (Kd.C_below HR0_1.out HB.out)|(with_reducible refine Kd.C_alloc ?_ _)|(with_reducible refine Kd.C_drewN ?_ _)|(with_reducible refine Kd.C_drew ?_))); (case side2 => exact HC0_1.out); (case side3 => repeat (first|exact (Kd.C_below HR0_2.out HB.out)|(with_reducible refine Kd.C_alloc ?_ _)|(with_reducible refine Kd.C_drewN ?_ _)|(with_reducible refine Kd.C_drew ?_))); (case side4 => exact HC0_2.out); rintro e w17 ⟨rfl, hb⟩; refine ⟨_, rfl, ?_⟩; have n0_ := Aside0.mk (blk_below (g := gb218) (o := .cells #[.int .i64 a0_0, .slice A0_1 l0_1.length c0_1, .slice A0_2 l0_2.length c0_2] 30 (0, 0)) (by (with_reducible repeat (first|refine blk_drewN ?_ _|refine blk_drew ?_|refine blk_alloc ?_ _)); exact BK218.out) hb); have n1_ := Aside0.mk (below_step (by repeat (first|(with_reducible first|exact HB.out|apply below_alloc|apply pw_below_drewN|apply below_drew1|refine below_set ?_ GE218.out)|exact HB.out)) hb); clear BK218; clear HB; have BK218 := n0_; have HB := n1_; clear n0_ n1_; (try clear hb); (try clear hb2); (try clear hk); (try clear hi)))
    go_meet
    case rel => exact ⟨_, (decide ((l3.length : Int) > 6000)), (by first|rfl|(simp; done)|(simp [*]; done)), H', ⟨by first|omega|exact Nat.le_refl _⟩, ⟨by (with_reducible repeat (first|refine blk_drewN ?_ _|refine blk_drew ?_|refine blk_alloc ?_ _)); exact BK218.out⟩, ⟨by repeat (first|(with_reducible first|exact HB.out|apply below_alloc|apply pw_below_drewN|apply below_drew1|refine below_set ?_ GE218.out)|exact HB.out)⟩⟩
 case rest =>
  clear HC6
  try clear c1
  try clear p2
  try clear c3
  try clear c4
  try clear c9
  try clear c10
  try clear c13
  try clear c13b0
  try clear c13b1
  try clear hcz11_0
  try clear hcz11_1
  try clear hcz11_2
  try clear hcz14_0
  try clear hcz14_1
  try clear hcz14_2
  try clear hcz16_0
  try clear hcz16_1
  try clear hcz16_2
  try clear hfz11_0
  try clear hfz11_1
  try clear hfz11_2
  try clear hfz14_0
  try clear hfz14_1
  try clear hfz14_2
  try clear hfz16_0
  try clear hfz16_1
  try clear hfz16_2
  obtain ⟨kq, x35_5, rfl, HA, HJ5, BK218, HB⟩ := hcut
  cases kq with
  | zero => exact absurd HA.out (by simp [stowagelaw27_ResponseBack.j0])
  | succ kj5 =>
   have H := HA.out
   clear HA
   simp only [stowagelaw27_ResponseBack.j0] at H
   by_cases c18 : x35_5 = true
   ·subst c18
    have H1 : (some t219) = some r := by rw [if_pos rfl] at H; exact H
    clear H
    have H := H1
    clear H1
    obtain rfl := Option.some.inj H
    go_wp2
    go_ret
    exact ⟨by first|rfl|(simp [errW_none, errW_some] <;> rfl)|(simp [*, errW_none, errW_some] <;> rfl), by repeat (first|(with_reducible first|exact HB.out|apply below_alloc|apply pw_below_drewN|apply below_drew1|refine below_set ?_ GE218.out)|exact HB.out)⟩
   ·replace c18 := Bool.eq_false_iff.mpr c18
    subst c18
    have H1 : ((response_Bytes.f kj5 a0_0 l0_1 l0_2).bind fun bt221 => (if bt221.2 = 0 then ((stowagekit_CopyBytes.f bt221.1).bind fun t225 => (if t225.length + l1.length < 140737488355328 then ((response_Read.f (t225 ++ l1)).bind fun bt231 => (if bt231.2.2.2.2 = 0 then (if bt231.2.2.2.1 = (bt221.1.length : Int) then (if bt231.2.2.2.1 = 0 then (stowagelaw27_ResponseBack.j1 kj5 a2 l3 t219 bt221.1 true) else ((stowagekit_SameResponse.f kj5 bt231.1 bt231.2.1 bt231.2.2.1 a0_0 l0_1 l0_2).bind fun t241 => (stowagelaw27_ResponseBack.j1 kj5 a2 l3 t219 bt221.1 (!t241)))) else (stowagelaw27_ResponseBack.j1 kj5 a2 l3 t219 bt221.1 true)) else (stowagelaw27_ResponseBack.j1 kj5 a2 l3 t219 bt221.1 true))) else (none))) else (stowagelaw27_ResponseBack.j2 kj5 l3 t219))) = some r := by rw [if_neg (show ¬ (false = true) by decide)] at H; exact H
    clear H
    have H := H1
    clear H1
    replace H := Option.bind_eq_some_iff.mp H
    obtain ⟨⟨t221, t224⟩, A190, H⟩ := H
    replace H : (if t224 = 0 then ((stowagekit_CopyBytes.f t221).bind fun t225 => (if t225.length + l1.length < 140737488355328 then ((response_Read.f (t225 ++ l1)).bind fun bt231 => (if bt231.2.2.2.2 = 0 then (if bt231.2.2.2.1 = (t221.length : Int) then (if bt231.2.2.2.1 = 0 then (stowagelaw27_ResponseBack.j1 kj5 a2 l3 t219 t221 true) else ((stowagekit_SameResponse.f kj5 bt231.1 bt231.2.1 bt231.2.2.1 a0_0 l0_1 l0_2).bind fun t241 => (stowagelaw27_ResponseBack.j1 kj5 a2 l3 t219 t221 (!t241)))) else (stowagelaw27_ResponseBack.j1 kj5 a2 l3 t219 t221 true)) else (stowagelaw27_ResponseBack.j1 kj5 a2 l3 t219 t221 true))) else (none))) else (stowagelaw27_ResponseBack.j2 kj5 l3 t219)) = some r := H
    have A19 := Aside0.mk A190
    clear A190
    have HC20 := Aside0.mk H
    clear H
    have hcz21_0 : wc.cell? ⟨gb218, 0, none⟩ = some (.int .i64 a0_0) := (blk_cell BK218.out 0).trans rfl
    have hcz21_1 : wc.cell? ⟨gb218, 1, none⟩ = some (.slice A0_1 l0_1.length c0_1) := (blk_cell BK218.out 1).trans rfl
    have hcz21_2 : wc.cell? ⟨gb218, 2, none⟩ = some (.slice A0_2 l0_2.length c0_2) := (blk_cell BK218.out 2).trans rfl
    have hfz21_0 := blk_frozen BK218.out 0
    have hfz21_1 := blk_frozen BK218.out 1
    have hfz21_2 := blk_frozen BK218.out 2
    go_upto_if 43 with (first|((with_reducible refine gate_callee (f := 6) rfl ?_); refine goesL_ (some 39) rfl rfl Tryd.func6 (by kernel_rfl) rfl #[.agg #[.int .i64 a0_0, .slice A0_1 l0_1.length c0_1, .slice A0_2 l0_2.length c0_2]] rfl (by (try simp only [List.map_toArray, List.map_cons, List.map_nil]); first|done|rfl|(simp only [List.length_drop, List.length_take]; rfl)) ?_; (with_reducible refine (response_Bytes.calls kj5 a0_0 _ _ l0_1 _ _ l0_2 t221 t224 _ ?side1 ?side2 ?side3 ?side4 ?side5 A19.out).mono ?_); (case side1 => first|exact HG.out|exact GM.below (by repeat (first|(with_reducible first|exact HB.out|apply below_alloc|apply pw_below_drewN|apply below_drew1|refine below_set ?_ GE218.out)|exact HB.out)) HG.out|(repeat (first|exact HG.out|apply GM.drewN|apply GM.drew))); (case side2 => repeat (first|exact (Kd.C_below HR0_1.out HB.out)|(with_reducible refine Kd.C_alloc ?_ _)|(with_reducible refine Kd.C_drewN ?_ _)|(with_reducible refine Kd.C_drew ?_))); (case side3 => exact HC0_1.out); (case side4 => repeat (first|exact (Kd.C_below HR0_2.out HB.out)|(with_reducible refine Kd.C_alloc ?_ _)|(with_reducible refine Kd.C_drewN ?_ _)|(with_reducible refine Kd.C_drew ?_))); (case side5 => exact HC0_2.out); rintro e w22 ⟨v222, rfl, ho0, hb⟩; refine ⟨_, rfl, ?_⟩; have n0_ := Aside0.mk (Kd.R_lower ho0 (below_size (by repeat (first|(with_reducible first|exact HB.out|apply below_alloc|apply pw_below_drewN|apply below_drew1|refine below_set ?_ GE218.out)|exact HB.out)))); have n1_ := Aside0.mk (blk_below (g := gb218) (o := .cells #[.int .i64 a0_0, .slice A0_1 l0_1.length c0_1, .slice A0_2 l0_2.length c0_2] 30 (0, 0)) (by (with_reducible repeat (first|refine blk_drewN ?_ _|refine blk_drew ?_|refine blk_alloc ?_ _)); exact BK218.out) hb); have n2_ := Aside0.mk (below_step (by repeat (first|(with_reducible first|exact HB.out|apply below_alloc|apply pw_below_drewN|apply below_drew1|refine below_set ?_ GE218.out)|exact HB.out)) hb); clear BK218; clear HB; have HO223 := n0_; have BK218 := n1_; have HB := n2_; clear n0_ n1_ n2_; (try clear hb); (try clear hb2); (try clear hk); (try clear hi); (try clear ho0)))
    (try simp only [Act.put, List.setIfInBounds_toArray, List.set_cons_zero, List.set_cons_succ])
    go_cut [] (fun wc => ∃ (kq : Nat), Aside0 (stowagelaw27_ResponseBack.j2 kq l3 t219 = some r) ∧ Aside0 (kq ≤ kj5) ∧ Aside0 (wc.heap[gb218]? = some (.cells #[.int .i64 a0_0, (.slice A0_1 l0_1.length c0_1), (.slice A0_2 l0_2.length c0_2)] 30 (0, 0))) ∧ Aside0 (Below w.heap.size w wc))
    case first =>
     have H := HC20.out
     clear HC20
     by_cases c23 : t224 = 0
     ·rw [if_pos c23] at H
      have c23b0 : (t224 == 0) = true := beq_iff_eq.mpr c23
      have c23b1 : (t224 != 0) = false := bne_eq_false_iff_eq.mpr c23
      clear c23
      (first|rw [c23b0]|(simp only [i64_w, i32_w]; rw [c23b0])|skip)
      replace H := Option.bind_eq_some_iff.mp H
      obtain ⟨t225, A240, H⟩ := H
      replace H : (if t225.length + l1.length < 140737488355328 then ((response_Read.f (t225 ++ l1)).bind fun bt231 => (if bt231.2.2.2.2 = 0 then (if bt231.2.2.2.1 = (t221.length : Int) then (if bt231.2.2.2.1 = 0 then (stowagelaw27_ResponseBack.j1 kj5 a2 l3 t219 t221 true) else ((stowagekit_SameResponse.f kj5 bt231.1 bt231.2.1 bt231.2.2.1 a0_0 l0_1 l0_2).bind fun t241 => (stowagelaw27_ResponseBack.j1 kj5 a2 l3 t219 t221 (!t241)))) else (stowagelaw27_ResponseBack.j1 kj5 a2 l3 t219 t221 true)) else (stowagelaw27_ResponseBack.j1 kj5 a2 l3 t219 t221 true))) else (none)) = some r := H
      have A24 := Aside0.mk A240
      clear A240
      by_cases c25 : t225.length + l1.length < 140737488355328
      ·rw [if_pos c25] at H
       have LMc25 := Aside0.mk c25
       clear c25
       obtain ⟨y228, hy228⟩ : ∃ y_ : List Int, y_ = (t225 ++ l1) := ⟨_, rfl⟩
       replace H : ((response_Read.f y228).bind fun bt231 => (if bt231.2.2.2.2 = 0 then (if bt231.2.2.2.1 = (t221.length : Int) then (if bt231.2.2.2.1 = 0 then (stowagelaw27_ResponseBack.j1 kj5 a2 l3 t219 t221 true) else ((stowagekit_SameResponse.f kj5 bt231.1 bt231.2.1 bt231.2.2.1 a0_0 l0_1 l0_2).bind fun t241 => (stowagelaw27_ResponseBack.j1 kj5 a2 l3 t219 t221 (!t241)))) else (stowagelaw27_ResponseBack.j1 kj5 a2 l3 t219 t221 true)) else (stowagelaw27_ResponseBack.j1 kj5 a2 l3 t219 t221 true))) = some r := by first|(rw [hy228]; with_reducible exact H)|(have H2_ := (Option.bind_some _ _).symm.trans H; rw [hy228]; with_reducible exact H2_)|(have H2_ := (Option.bind_some _ _).symm.trans H; with_reducible exact H2_)|with_reducible exact H|(rw [hy228]; exact H)|exact H
       have Ny228 := Aside0.mk hy228
       clear hy228
       replace H := Option.bind_eq_some_iff.mp H
       obtain ⟨⟨t231, t232, t235, t238, t239⟩, A260, H⟩ := H
       replace H : (if t239 = 0 then (if t238 = (t221.length : Int) then (if t238 = 0 then (stowagelaw27_ResponseBack.j1 kj5 a2 l3 t219 t221 true) else ((stowagekit_SameResponse.f kj5 t231 t232 t235 a0_0 l0_1 l0_2).bind fun t241 => (stowagelaw27_ResponseBack.j1 kj5 a2 l3 t219 t221 (!t241)))) else (stowagelaw27_ResponseBack.j1 kj5 a2 l3 t219 t221 true)) else (stowagelaw27_ResponseBack.j1 kj5 a2 l3 t219 t221 true)) = some r := H
       have A26 := Aside0.mk A260
       clear A260
       have HC27 := Aside0.mk H
       clear H
       obtain ⟨Ao28, co28, eo28⟩ := Kd.R_slice HO223.out
       subst eo28
       go_upto_region 7 with (first|((with_reducible refine gate_callee (f := 11) rfl ?_); refine goesL_ (some 46) rfl rfl Tryd.func11 (by kernel_rfl) rfl #[.slice Ao28 t221.length co28] rfl (by (try simp only [List.map_toArray, List.map_cons, List.map_nil]); first|done|rfl|(simp only [List.length_drop, List.length_take]; rfl)) ?_; (with_reducible refine (stowagekit_CopyBytes.calls _ _ t221 t225 _ ?side1 ?side2 A24.out).mono ?_); (case side1 => repeat (first|exact (Kd.R_reads' HO223.out).2.2|(with_reducible refine Kd.C_alloc ?_ _)|(with_reducible refine Kd.C_drewN ?_ _)|(with_reducible refine Kd.C_drew ?_))); (case side2 => exact (Kd.R_reads' HO223.out).2.1); rintro e w29 ⟨v226, rfl, ho0, hb⟩; refine ⟨_, rfl, ?_⟩; have n0_ := Aside0.mk (Kd.R_elder' (by (with_reducible repeat (first|apply Kd.R_alloc|apply Kd.R_drewN|apply Kd.R_drew)); exact HO223.out) (Kd.R_base ho0) hb); have n1_ := Aside0.mk (Kd.R_lower (Kd.R_new' ho0 (Kd.R_lt (by (with_reducible repeat (first|apply Kd.R_alloc|apply Kd.R_drewN|apply Kd.R_drew)); exact HO223.out))) (below_size (by repeat (first|(with_reducible first|exact HB.out|apply below_alloc|apply pw_below_drewN|apply below_drew1|refine below_set ?_ GE218.out)|exact HB.out)))); have n2_ := Aside0.mk (blk_below (g := gb218) (o := .cells #[.int .i64 a0_0, .slice A0_1 l0_1.length c0_1, .slice A0_2 l0_2.length c0_2] 30 (0, 0)) (by (with_reducible repeat (first|refine blk_drewN ?_ _|refine blk_drew ?_|refine blk_alloc ?_ _)); exact BK218.out) hb); have n3_ := Aside0.mk (below_step (by repeat (first|(with_reducible first|exact HB.out|apply below_alloc|apply pw_below_drewN|apply below_drew1|refine below_set ?_ GE218.out)|exact HB.out)) hb); clear HO223; clear BK218; clear HB; have HO223 := n0_; have HO227 := n1_; have BK218 := n2_; have HB := n3_; clear n0_ n1_ n2_ n3_; (try clear hb); (try clear hb2); (try clear hk); (try clear hi); (try clear ho0))|((with_reducible refine gate_builtin (b := .append) (xs := #[.tmp 46, .tmp 47]) rfl ?_); (try (refine gate_guard (by rfl) ?_; dsimp only)); at_builtin; refine Kd.R_append_rows (Kd.int .u8) (w0 := w) w.heap.size rfl (.tmp 46) (.tmp 47) 25 5 (.int .u8 0) 1 rfl Tryd.underlying25 info5 rfl (by decide) (by omega) v226 t225 l1 _ _ _ (fun k_ => some k_ ≠ (.slice Ao28 t221.length co28 : Value).ownBlock) (fun _ => False) rfl rfl ?aO ?aR (fun _ _ h => h) (fun _ h => h.elim) ?aF ?aB ?aS ?aL ?_; (case aR => repeat (first|exact (Kd.C_below HR1.out HB.out)|(with_reducible refine Kd.C_alloc ?_ _)|(with_reducible refine Kd.C_drewN ?_ _)|(with_reducible refine Kd.C_drew ?_))); (case aB => exact (by repeat (first|(with_reducible first|exact HB.out|apply below_alloc|apply pw_below_drewN|apply below_drew1|refine below_set ?_ GE218.out)|exact HB.out))); (case aF => exact (fun k_ hk => Kd.fresh' (Kd.R_lt (by (with_reducible repeat (first|apply Kd.R_alloc|apply Kd.R_drewN|apply Kd.R_drew)); exact HO223.out)) k_ hk)); (case aO => exact (by (with_reducible repeat (first|apply Kd.R_alloc|apply Kd.R_drewN|apply Kd.R_drew)); exact Kd.R_mono HO227.out (fun _ hk => hk.2))); (case aS => exact (below_size (by repeat (first|(with_reducible first|exact HB.out|apply below_alloc|apply pw_below_drewN|apply below_drew1|refine below_set ?_ GE218.out)|exact HB.out)))); (case aL => have := LMc25.out; omega); intro v229 w30 ho hb hg hat; rw [← Ny228.out] at ho; have n0_ := Aside0.mk (blk_grown (g := gb218) (o := .cells #[.int .i64 a0_0, .slice A0_1 l0_1.length c0_1, .slice A0_2 l0_2.length c0_2] 30 (0, 0)) (by (with_reducible repeat (first|refine blk_drewN ?_ _|refine blk_drew ?_|refine blk_alloc ?_ _)); exact BK218.out) hg (Kd.R_ne HO227.out BK218.out (by decide))); have n1_ := Aside0.mk (Kd.R_after (ok := (fun _ => True)) (by (with_reducible repeat (first|apply Kd.R_alloc|apply Kd.R_drewN|apply Kd.R_drew)); exact HO223.out) hg hat); have n2_ := Aside0.mk (hb); have n3_ := Aside0.mk (ho); clear BK218; clear HO223; clear HB; clear HO227; have BK218 := n0_; have HO223 := n1_; have HB := n2_; have HO230 := n3_; clear n0_ n1_ n2_ n3_; clear ho hb hg hat; obtain ⟨Ao31, co31, eo31⟩ := Kd.R_slice HO230.out; subst eo31)|((with_reducible refine gate_callee (f := 10) rfl ?_); refine goesL_ (some 49) rfl rfl Tryd.func10 (by kernel_rfl) rfl #[.slice Ao31 y228.length co31] rfl (by (try simp only [List.map_toArray, List.map_cons, List.map_nil]); first|done|rfl|(simp only [List.length_drop, List.length_take]; rfl)) ?_; (with_reducible refine (response_Read.calls _ _ y228 t231 t232 t235 t238 t239 _ ?side1 ?side2 ?side3 A26.out).mono ?_); (case side1 => first|exact HG.out|exact GM.below (by repeat (first|(with_reducible first|exact HB.out|apply below_alloc|apply pw_below_drewN|apply below_drew1|refine below_set ?_ GE218.out)|exact HB.out)) HG.out|(repeat (first|exact HG.out|apply GM.drewN|apply GM.drew))); (case side2 => repeat (first|exact (Kd.R_reads' HO230.out).2.2|(with_reducible refine Kd.C_alloc ?_ _)|(with_reducible refine Kd.C_drewN ?_ _)|(with_reducible refine Kd.C_drew ?_))); (case side3 => exact (Kd.R_reads' HO230.out).2.1); rintro e w32 ⟨v233, v236, rfl, ho0, ho1, hb⟩; refine ⟨_, rfl, ?_⟩; have n0_ := Aside0.mk (Kd.R_elder' (by (with_reducible repeat (first|apply Kd.R_alloc|apply Kd.R_drewN|apply Kd.R_drew)); exact HO223.out) (Kd.R_base ho1) hb); have n1_ := Aside0.mk (Kd.R_elder' (by (with_reducible repeat (first|apply Kd.R_alloc|apply Kd.R_drewN|apply Kd.R_drew)); exact HO230.out) (Kd.R_base ho1) hb); have n2_ := Aside0.mk (Kd.R_lower ho0 (below_size (by repeat (first|(with_reducible first|exact HB.out|apply below_alloc|apply pw_below_drewN|apply below_drew1|refine below_set ?_ GE218.out)|exact HB.out)))); have n3_ := Aside0.mk (Kd.R_lower (Kd.R_new' (Kd.R_new' ho1 (Kd.R_lt (by (with_reducible repeat (first|apply Kd.R_alloc|apply Kd.R_drewN|apply Kd.R_drew)); exact HO223.out))) (Kd.R_lt (by (with_reducible repeat (first|apply Kd.R_alloc|apply Kd.R_drewN|apply Kd.R_drew)); exact HO230.out))) (below_size (by repeat (first|(with_reducible first|exact HB.out|apply below_alloc|apply pw_below_drewN|apply below_drew1|refine below_set ?_ GE218.out)|exact HB.out)))); have n4_ := Aside0.mk (blk_below (g := gb218) (o := .cells #[.int .i64 a0_0, .slice A0_1 l0_1.length c0_1, .slice A0_2 l0_2.length c0_2] 30 (0, 0)) (by (with_reducible repeat (first|refine blk_drewN ?_ _|refine blk_drew ?_|refine blk_alloc ?_ _)); exact BK218.out) hb); have n5_ := Aside0.mk (below_step (by repeat (first|(with_reducible first|exact HB.out|apply below_alloc|apply pw_below_drewN|apply below_drew1|refine below_set ?_ GE218.out)|exact HB.out)) hb); clear HO223; clear HO230; clear BK218; clear HB; have HO223 := n0_; have HO230 := n1_; have HO234 := n2_; have HO237 := n3_; have BK218 := n4_; have HB := n5_; clear n0_ n1_ n2_ n3_ n4_ n5_; (try clear hb); (try clear hb2); (try clear hk); (try clear hi); (try clear ho0); (try clear ho1))|((with_reducible refine gate_dst (N := 12) rfl ?_); (try (refine gate_guard (by rfl) ?_; dsimp only)); refine box_event ?hg (N := 12) ?hd (cs := #[.int .i64 0, .slice none 0 0, .slice none 0 0]) (t := 30) ?hr ?_; (case hd => rfl); (case hg => rfl); (case hr => first|(go_simp; done)|(go_simp; rfl)); intro gb240 hg w33 hbox hb; have n0_ := Aside0.mk (Kd.R_below (by (with_reducible repeat (first|apply Kd.R_alloc|apply Kd.R_drewN|apply Kd.R_drew)); exact HO223.out) hb); have n1_ := Aside0.mk (Kd.R_below (by (with_reducible repeat (first|apply Kd.R_alloc|apply Kd.R_drewN|apply Kd.R_drew)); exact HO230.out) hb); have n2_ := Aside0.mk (Kd.R_below (by (with_reducible repeat (first|apply Kd.R_alloc|apply Kd.R_drewN|apply Kd.R_drew)); exact HO234.out) hb); have n3_ := Aside0.mk (Kd.R_below (by (with_reducible repeat (first|apply Kd.R_alloc|apply Kd.R_drewN|apply Kd.R_drew)); exact HO237.out) hb); have n4_ := Aside0.mk (blk_below (g := gb218) (o := .cells #[.int .i64 a0_0, .slice A0_1 l0_1.length c0_1, .slice A0_2 l0_2.length c0_2] 30 (0, 0)) (by (with_reducible repeat (first|refine blk_drewN ?_ _|refine blk_drew ?_|refine blk_alloc ?_ _)); exact BK218.out) hb); have n5_ := Aside0.mk (below_step (by repeat (first|(with_reducible first|exact HB.out|apply below_alloc|apply pw_below_drewN|apply below_drew1|refine below_set ?_ GE218.out)|exact HB.out)) hb); have n6_ := Aside0.mk (hbox); have n7_ := Aside0.mk ((by rw [hg]; exact (below_size (by repeat (first|(with_reducible first|exact HB.out|apply below_alloc|apply pw_below_drewN|apply below_drew1|refine below_set ?_ GE218.out)|exact HB.out))) : w.heap.size ≤ gb240)); have n8_ := Aside0.mk ((by rw [hg]; exact (below_size (by repeat (first|(with_reducible first|exact HB.out|apply below_alloc|apply pw_below_drewN|apply below_drew1|refine below_set ?_ GE218.out)|exact HB.out))) : w.heap.size ≤ gb240)); have n9_ := Aside0.mk ((by rw [hg]; exact Nat.ne_of_lt (blk_lt (g := gb218) (o := .cells #[.int .i64 a0_0, .slice A0_1 l0_1.length c0_1, .slice A0_2 l0_2.length c0_2] 30 (0, 0)) (by (with_reducible repeat (first|refine blk_drewN ?_ _|refine blk_drew ?_|refine blk_alloc ?_ _)); exact BK218.out)) : gb218 ≠ gb240)); have n10_ := Aside0.mk ((by rw [hg]; exact Nat.ne_of_gt (blk_lt (g := gb218) (o := .cells #[.int .i64 a0_0, .slice A0_1 l0_1.length c0_1, .slice A0_2 l0_2.length c0_2] 30 (0, 0)) (by (with_reducible repeat (first|refine blk_drewN ?_ _|refine blk_drew ?_|refine blk_alloc ?_ _)); exact BK218.out)) : gb240 ≠ gb218)); clear HO223; clear HO230; clear HO234; clear HO237; clear BK218; clear HB; have HO223 := n0_; have HO230 := n1_; have HO234 := n2_; have HO237 := n3_; have BK218 := n4_; have HB := n5_; have BK240 := n6_; have GW240 := n7_; have GE240 := n8_; have NB218_240 := n9_; have NB240_218 := n10_; clear n0_ n1_ n2_ n3_ n4_ n5_ n6_ n7_ n8_ n9_ n10_; clear hb hbox hg; have hnb34 := NB240_218.out; have hnc34 := NB218_240.out; have hcz35_0 : w33.cell? ⟨gb240, 0, none⟩ = some (.int .i64 0) := (blk_cell BK240.out 0).trans rfl; have hcz35_1 : w33.cell? ⟨gb240, 1, none⟩ = some (.slice none 0 0) := (blk_cell BK240.out 1).trans rfl; have hcz35_2 : w33.cell? ⟨gb240, 2, none⟩ = some (.slice none 0 0) := (blk_cell BK240.out 2).trans rfl; have hfz35_0 := blk_frozen BK240.out 0; have hfz35_1 := blk_frozen BK240.out 1; have hfz35_2 := blk_frozen BK240.out 2; obtain ⟨Ao36, co36, eo36⟩ := Kd.R_slice HO234.out; subst eo36; obtain ⟨Ao37, co37, eo37⟩ := Kd.R_slice HO237.out; subst eo37))
       (try simp only [Act.put, List.setIfInBounds_toArray, List.set_cons_zero, List.set_cons_succ])
       go_cut [70] (fun v70 wc => ∃ (kq : Nat) (x70_26 : Bool), v70 = .bool x70_26 ∧ Aside0 (stowagelaw27_ResponseBack.j1 kq a2 l3 t219 t221 x70_26 = some r) ∧ Aside0 (kq ≤ kj5) ∧ Aside0 (Kd.R (Kd.int .u8) 5 wc w.heap.size (fun k_ => some k_ ≠ ((.slice Ao37 t235.length co37) : Value).ownBlock) (.slice Ao28 t221.length co28) t221) ∧ Aside0 (Kd.R k32 32 wc w.heap.size (fun _ => True) (.slice Ao36 t232.length co36) t232) ∧ Aside0 (Kd.R (Kd.int .u8) 5 wc w.heap.size (fun k_ => some k_ ≠ ((.slice Ao28 t221.length co28) : Value).ownBlock) (.slice Ao37 t235.length co37) t235) ∧ Aside0 (wc.heap[gb218]? = some (.cells #[.int .i64 a0_0, (.slice A0_1 l0_1.length c0_1), (.slice A0_2 l0_2.length c0_2)] 30 (0, 0))) ∧ Aside0 (wc.heap[gb240]? = some (.cells #[.int .i64 t231, (.slice Ao36 t232.length co36), (.slice Ao37 t235.length co37)] 30 (0, 0))) ∧ Aside0 (Below w.heap.size w wc))
       case first =>
        have H := HC27.out
        clear HC27
        by_cases c38 : t239 = 0
        ·rw [if_pos c38] at H
         have c38b0 : (t239 == 0) = true := beq_iff_eq.mpr c38
         have c38b1 : (t239 != 0) = false := bne_eq_false_iff_eq.mpr c38
         clear c38
         (first|rw [c38b0]|(simp only [i64_w, i32_w]; rw [c38b0])|skip)
         by_cases c39 : t238 = (t221.length : Int)
         ·rw [if_pos c39] at H
          have c39b0 : (t238 == (t221.length : Int)) = true := beq_iff_eq.mpr c39
          have c39b1 : (t238 != (t221.length : Int)) = false := bne_eq_false_iff_eq.mpr c39
          clear c39
          by_cases c40 : t238 = 0
          ·rw [if_pos c40] at H
           have c40b0 : (t238 == 0) = true := beq_iff_eq.mpr c40
           have c40b1 : (t238 != 0) = false := bne_eq_false_iff_eq.mpr c40
           clear c40
           have H' := Aside0.mk H
           clear H
           go_wp2
           go_meet
           case rel => exact ⟨_, (true), (by first|rfl|(simp; done)|(simp [*]; done)), H', ⟨by have := HJ5.out; first|omega|exact Nat.le_refl _⟩, ⟨by (with_reducible repeat (first|apply Kd.R_alloc|apply Kd.R_drewN|apply Kd.R_drew)); exact Kd.R_mono (Kd.R_far (p := ⟨gb240, 2, none⟩) (Kd.R_far (p := ⟨gb240, 1, none⟩) (Kd.R_far (p := ⟨gb240, 0, none⟩) (Kd.R_types HO223.out BK240.out (by decide)) (fun _ hk => hk.2) (.int .i64 t231)) (fun _ hk => hk.2) (.slice Ao36 t232.length co36)) (fun _ hk => hk.2) (.slice Ao37 t235.length co37)) (fun _ hk => hk.1.2)⟩, ⟨by (with_reducible repeat (first|apply Kd.R_alloc|apply Kd.R_drewN|apply Kd.R_drew)); exact Kd.R_mono (Kd.R_far (p := ⟨gb240, 2, none⟩) (Kd.R_far (p := ⟨gb240, 1, none⟩) (Kd.R_far (p := ⟨gb240, 0, none⟩) (Kd.R_types HO234.out BK240.out (by decide)) (fun _ hk => hk.2) (.int .i64 t231)) (fun _ hk => hk.2) (.slice Ao36 t232.length co36)) (fun _ hk => hk.2) (.slice Ao37 t235.length co37)) (fun _ hk => trivial)⟩, ⟨by (with_reducible repeat (first|apply Kd.R_alloc|apply Kd.R_drewN|apply Kd.R_drew)); exact Kd.R_mono (Kd.R_far (p := ⟨gb240, 2, none⟩) (Kd.R_far (p := ⟨gb240, 1, none⟩) (Kd.R_far (p := ⟨gb240, 0, none⟩) (Kd.R_types HO237.out BK240.out (by decide)) (fun _ hk => hk.2) (.int .i64 t231)) (fun _ hk => hk.2) (.slice Ao36 t232.length co36)) (fun _ hk => hk.2) (.slice Ao37 t235.length co37)) (fun _ hk => hk.1.1.2)⟩, ⟨by (with_reducible repeat (first|refine blk_drewN ?_ _|refine blk_drew ?_|refine blk_alloc ?_ _)); refine blk_far ?_ NB218_240.out _; (with_reducible repeat (first|refine blk_drewN ?_ _|refine blk_drew ?_|refine blk_alloc ?_ _)); refine blk_far ?_ NB218_240.out _; (with_reducible repeat (first|refine blk_drewN ?_ _|refine blk_drew ?_|refine blk_alloc ?_ _)); refine blk_far ?_ NB218_240.out _; (with_reducible repeat (first|refine blk_drewN ?_ _|refine blk_drew ?_|refine blk_alloc ?_ _)); exact BK218.out⟩, ⟨by (with_reducible repeat (first|refine blk_drewN ?_ _|refine blk_drew ?_|refine blk_alloc ?_ _)); refine blk_put (cs := #[.int .i64 t231, .slice Ao36 t232.length co36, .slice none 0 0]) ?_ 2 _ rfl; (with_reducible repeat (first|refine blk_drewN ?_ _|refine blk_drew ?_|refine blk_alloc ?_ _)); refine blk_put (cs := #[.int .i64 t231, .slice none 0 0, .slice none 0 0]) ?_ 1 _ rfl; (with_reducible repeat (first|refine blk_drewN ?_ _|refine blk_drew ?_|refine blk_alloc ?_ _)); refine blk_put (cs := #[.int .i64 0, .slice none 0 0, .slice none 0 0]) ?_ 0 _ rfl; (with_reducible repeat (first|refine blk_drewN ?_ _|refine blk_drew ?_|refine blk_alloc ?_ _)); exact BK240.out⟩, ⟨by repeat (first|(with_reducible first|exact HB.out|apply below_alloc|apply pw_below_drewN|apply below_drew1|refine below_set ?_ GE218.out|refine below_set ?_ GE240.out)|exact HB.out)⟩⟩
          ·rw [if_neg c40] at H
           have c40b0 : (t238 == 0) = false := beq_eq_false_iff_ne.mpr c40
           have c40b1 : (t238 != 0) = true := bne_iff_ne.mpr c40
           replace H := Option.bind_eq_some_iff.mp H
           obtain ⟨t241, A410, H⟩ := H
           replace H : (stowagelaw27_ResponseBack.j1 kj5 a2 l3 t219 t221 (!t241)) = some r := H
           have A41 := Aside0.mk A410
           clear A410
           have H' := Aside0.mk H
           clear H
           have hnb42 := NB240_218.out
           have hnc42 := NB218_240.out
           have hcz43_0 : w33.cell? ⟨gb240, 0, none⟩ = some (.int .i64 0) := (blk_cell BK240.out 0).trans rfl
           have hcz43_1 : w33.cell? ⟨gb240, 1, none⟩ = some (.slice none 0 0) := (blk_cell BK240.out 1).trans rfl
           have hcz43_2 : w33.cell? ⟨gb240, 2, none⟩ = some (.slice none 0 0) := (blk_cell BK240.out 2).trans rfl
           have hfz43_0 := blk_frozen BK240.out 0
           have hfz43_1 := blk_frozen BK240.out 1
           have hfz43_2 := blk_frozen BK240.out 2
           have hcz44_0 : w33.cell? ⟨gb218, 0, none⟩ = some (.int .i64 a0_0) := (blk_cell BK218.out 0).trans rfl
           have hcz44_1 : w33.cell? ⟨gb218, 1, none⟩ = some (.slice A0_1 l0_1.length c0_1) := (blk_cell BK218.out 1).trans rfl
           have hcz44_2 : w33.cell? ⟨gb218, 2, none⟩ = some (.slice A0_2 l0_2.length c0_2) := (blk_cell BK218.out 2).trans rfl
           have hfz44_0 := blk_frozen BK218.out 0
           have hfz44_1 := blk_frozen BK218.out 1
           have hfz44_2 := blk_frozen BK218.out 2
           go_wp2_with (first|(go_at_call 12; (with_reducible refine (stowagekit_SameResponse.calls kj5 t231 _ _ t232 _ _ t235 a0_0 _ _ l0_1 _ _ l0_2 t241 _ ?side1 ?side2 ?side3 ?side4 ?side5 ?side6 ?side7 ?side8 A41.out).mono ?_); (case side1 => refine (Kd.R_reads' (e := 32) (base := w.heap.size) (ok := fun k_ => True) (n := t232.length) (c := co36) ?_).2.2; exact (by (with_reducible repeat (first|apply Kd.R_alloc|apply Kd.R_drewN|apply Kd.R_drew)); exact (Kd.R_mono (Kd.R_far (p := ⟨gb240, 2, none⟩) (Kd.R_far (p := ⟨gb240, 1, none⟩) (Kd.R_far (p := ⟨gb240, 0, none⟩) (Kd.R_types HO234.out BK240.out (by decide)) (fun _ hk => hk.2) (.int .i64 t231)) (fun _ hk => hk.2) (.slice Ao36 t232.length co36)) (fun _ hk => hk.2) (.slice Ao37 t235.length co37)) (fun _ h_ => h_.1)))); (case side2 => exact (Kd.R_reads' HO234.out).2.1); (case side3 => refine (Kd.R_reads' (e := 5) (base := w.heap.size) (ok := fun k_ => ((True ∧ some k_ ≠ (.slice Ao28 t221.length co28 : Value).ownBlock) ∧ some k_ ≠ (.slice Ao31 y228.length co31 : Value).ownBlock)) (n := t235.length) (c := co37) ?_).2.2; exact (by (with_reducible repeat (first|apply Kd.R_alloc|apply Kd.R_drewN|apply Kd.R_drew)); exact (Kd.R_mono (Kd.R_far (p := ⟨gb240, 2, none⟩) (Kd.R_far (p := ⟨gb240, 1, none⟩) (Kd.R_far (p := ⟨gb240, 0, none⟩) (Kd.R_types HO237.out BK240.out (by decide)) (fun _ hk => hk.2) (.int .i64 t231)) (fun _ hk => hk.2) (.slice Ao36 t232.length co36)) (fun _ hk => hk.2) (.slice Ao37 t235.length co37)) (fun _ h_ => h_.1)))); (case side4 => exact (Kd.R_reads' HO237.out).2.1); (case side5 => exact Kd.C_below HR0_1.out (by repeat (first|(with_reducible first|exact HB.out|apply below_alloc|apply pw_below_drewN|apply below_drew1|refine below_set ?_ GE218.out|refine below_set ?_ GE240.out)|exact HB.out))); (case side6 => exact HC0_1.out); (case side7 => exact Kd.C_below HR0_2.out (by repeat (first|(with_reducible first|exact HB.out|apply below_alloc|apply pw_below_drewN|apply below_drew1|refine below_set ?_ GE218.out|refine below_set ?_ GE240.out)|exact HB.out))); (case side8 => exact HC0_2.out); rintro e w45 ⟨rfl, hb⟩; have n0_ := Aside0.mk (Kd.R_below (by (with_reducible repeat (first|apply Kd.R_alloc|apply Kd.R_drewN|apply Kd.R_drew)); exact (Kd.R_mono (Kd.R_far (p := ⟨gb240, 2, none⟩) (Kd.R_far (p := ⟨gb240, 1, none⟩) (Kd.R_far (p := ⟨gb240, 0, none⟩) (Kd.R_types HO223.out BK240.out (by decide)) (fun _ hk => hk.2) (.int .i64 t231)) (fun _ hk => hk.2) (.slice Ao36 t232.length co36)) (fun _ hk => hk.2) (.slice Ao37 t235.length co37)) (fun _ h_ => h_.1))) hb); have n1_ := Aside0.mk (Kd.R_below (by (with_reducible repeat (first|apply Kd.R_alloc|apply Kd.R_drewN|apply Kd.R_drew)); exact (Kd.R_mono (Kd.R_far (p := ⟨gb240, 2, none⟩) (Kd.R_far (p := ⟨gb240, 1, none⟩) (Kd.R_far (p := ⟨gb240, 0, none⟩) (Kd.R_types HO230.out BK240.out (by decide)) (fun _ hk => hk.2) (.int .i64 t231)) (fun _ hk => hk.2) (.slice Ao36 t232.length co36)) (fun _ hk => hk.2) (.slice Ao37 t235.length co37)) (fun _ h_ => h_.1))) hb); have n2_ := Aside0.mk (Kd.R_below (by (with_reducible repeat (first|apply Kd.R_alloc|apply Kd.R_drewN|apply Kd.R_drew)); exact (Kd.R_mono (Kd.R_far (p := ⟨gb240, 2, none⟩) (Kd.R_far (p := ⟨gb240, 1, none⟩) (Kd.R_far (p := ⟨gb240, 0, none⟩) (Kd.R_types HO234.out BK240.out (by decide)) (fun _ hk => hk.2) (.int .i64 t231)) (fun _ hk => hk.2) (.slice Ao36 t232.length co36)) (fun _ hk => hk.2) (.slice Ao37 t235.length co37)) (fun _ h_ => h_.1))) hb); have n3_ := Aside0.mk (Kd.R_below (by (with_reducible repeat (first|apply Kd.R_alloc|apply Kd.R_drewN|apply Kd.R_drew)); exact (Kd.R_mono (Kd.R_far (p := ⟨gb240, 2, none⟩) (Kd.R_far (p := ⟨gb240, 1, none⟩) (Kd.R_far (p := ⟨gb240, 0, none⟩) (Kd.R_types HO237.out BK240.out (by decide)) (fun _ hk => hk.2) (.int .i64 t231)) (fun _ hk => hk.2) (.slice Ao36 t232.length co36)) (fun _ hk => hk.2) (.slice Ao37 t235.length co37)) (fun _ h_ => h_.1))) hb); have n4_ := Aside0.mk (blk_below (g := gb218) (o := .cells #[.int .i64 a0_0, .slice A0_1 l0_1.length c0_1, .slice A0_2 l0_2.length c0_2] 30 (0, 0)) (by (with_reducible repeat (first|refine blk_drewN ?_ _|refine blk_drew ?_|refine blk_alloc ?_ _)); refine blk_far ?_ NB218_240.out _; (with_reducible repeat (first|refine blk_drewN ?_ _|refine blk_drew ?_|refine blk_alloc ?_ _)); refine blk_far ?_ NB218_240.out _; (with_reducible repeat (first|refine blk_drewN ?_ _|refine blk_drew ?_|refine blk_alloc ?_ _)); refine blk_far ?_ NB218_240.out _; (with_reducible repeat (first|refine blk_drewN ?_ _|refine blk_drew ?_|refine blk_alloc ?_ _)); exact BK218.out) hb); have n5_ := Aside0.mk (blk_below (g := gb240) (o := .cells #[.int .i64 t231, .slice Ao36 t232.length co36, .slice Ao37 t235.length co37] 30 (0, 0)) (by (with_reducible repeat (first|refine blk_drewN ?_ _|refine blk_drew ?_|refine blk_alloc ?_ _)); refine blk_put (cs := #[.int .i64 t231, .slice Ao36 t232.length co36, .slice none 0 0]) ?_ 2 _ rfl; (with_reducible repeat (first|refine blk_drewN ?_ _|refine blk_drew ?_|refine blk_alloc ?_ _)); refine blk_put (cs := #[.int .i64 t231, .slice none 0 0, .slice none 0 0]) ?_ 1 _ rfl; (with_reducible repeat (first|refine blk_drewN ?_ _|refine blk_drew ?_|refine blk_alloc ?_ _)); refine blk_put (cs := #[.int .i64 0, .slice none 0 0, .slice none 0 0]) ?_ 0 _ rfl; (with_reducible repeat (first|refine blk_drewN ?_ _|refine blk_drew ?_|refine blk_alloc ?_ _)); exact BK240.out) hb); have n6_ := Aside0.mk (below_step (by repeat (first|(with_reducible first|exact HB.out|apply below_alloc|apply pw_below_drewN|apply below_drew1|refine below_set ?_ GE218.out|refine below_set ?_ GE240.out)|exact HB.out)) hb); clear HO223; clear HO230; clear HO234; clear HO237; clear BK218; clear BK240; clear HB; have HO223 := n0_; have HO230 := n1_; have HO234 := n2_; have HO237 := n3_; have BK218 := n4_; have BK240 := n5_; have HB := n6_; clear n0_ n1_ n2_ n3_ n4_ n5_ n6_; (try clear hb); (try clear hb2); (try clear hk); (try clear hi)))
           go_meet
           case rel => exact ⟨_, (!t241), (by first|rfl|(simp; done)|(simp [*]; done)), H', ⟨by have := HJ5.out; first|omega|exact Nat.le_refl _⟩, ⟨by (with_reducible repeat (first|apply Kd.R_alloc|apply Kd.R_drewN|apply Kd.R_drew)); exact Kd.R_mono HO223.out (fun _ hk => hk.2)⟩, ⟨by (with_reducible repeat (first|apply Kd.R_alloc|apply Kd.R_drewN|apply Kd.R_drew)); exact HO234.out⟩, ⟨by (with_reducible repeat (first|apply Kd.R_alloc|apply Kd.R_drewN|apply Kd.R_drew)); exact Kd.R_mono HO237.out (fun _ hk => hk.1.2)⟩, ⟨by (with_reducible repeat (first|refine blk_drewN ?_ _|refine blk_drew ?_|refine blk_alloc ?_ _)); exact BK218.out⟩, ⟨by (with_reducible repeat (first|refine blk_drewN ?_ _|refine blk_drew ?_|refine blk_alloc ?_ _)); exact BK240.out⟩, ⟨by repeat (first|(with_reducible first|exact HB.out|apply below_alloc|apply pw_below_drewN|apply below_drew1|refine below_set ?_ GE218.out|refine below_set ?_ GE240.out)|exact HB.out)⟩⟩
         ·rw [if_neg c39] at H
          have c39b0 : (t238 == (t221.length : Int)) = false := beq_eq_false_iff_ne.mpr c39
          have c39b1 : (t238 != (t221.length : Int)) = true := bne_iff_ne.mpr c39
          have H' := Aside0.mk H
          clear H
          go_wp2
          go_meet
          case rel => exact ⟨_, (true), (by first|rfl|(simp; done)|(simp [*]; done)), H', ⟨by have := HJ5.out; first|omega|exact Nat.le_refl _⟩, ⟨by (with_reducible repeat (first|apply Kd.R_alloc|apply Kd.R_drewN|apply Kd.R_drew)); exact Kd.R_mono (Kd.R_far (p := ⟨gb240, 2, none⟩) (Kd.R_far (p := ⟨gb240, 1, none⟩) (Kd.R_far (p := ⟨gb240, 0, none⟩) (Kd.R_types HO223.out BK240.out (by decide)) (fun _ hk => hk.2) (.int .i64 t231)) (fun _ hk => hk.2) (.slice Ao36 t232.length co36)) (fun _ hk => hk.2) (.slice Ao37 t235.length co37)) (fun _ hk => hk.1.2)⟩, ⟨by (with_reducible repeat (first|apply Kd.R_alloc|apply Kd.R_drewN|apply Kd.R_drew)); exact Kd.R_mono (Kd.R_far (p := ⟨gb240, 2, none⟩) (Kd.R_far (p := ⟨gb240, 1, none⟩) (Kd.R_far (p := ⟨gb240, 0, none⟩) (Kd.R_types HO234.out BK240.out (by decide)) (fun _ hk => hk.2) (.int .i64 t231)) (fun _ hk => hk.2) (.slice Ao36 t232.length co36)) (fun _ hk => hk.2) (.slice Ao37 t235.length co37)) (fun _ hk => trivial)⟩, ⟨by (with_reducible repeat (first|apply Kd.R_alloc|apply Kd.R_drewN|apply Kd.R_drew)); exact Kd.R_mono (Kd.R_far (p := ⟨gb240, 2, none⟩) (Kd.R_far (p := ⟨gb240, 1, none⟩) (Kd.R_far (p := ⟨gb240, 0, none⟩) (Kd.R_types HO237.out BK240.out (by decide)) (fun _ hk => hk.2) (.int .i64 t231)) (fun _ hk => hk.2) (.slice Ao36 t232.length co36)) (fun _ hk => hk.2) (.slice Ao37 t235.length co37)) (fun _ hk => hk.1.1.2)⟩, ⟨by (with_reducible repeat (first|refine blk_drewN ?_ _|refine blk_drew ?_|refine blk_alloc ?_ _)); refine blk_far ?_ NB218_240.out _; (with_reducible repeat (first|refine blk_drewN ?_ _|refine blk_drew ?_|refine blk_alloc ?_ _)); refine blk_far ?_ NB218_240.out _; (with_reducible repeat (first|refine blk_drewN ?_ _|refine blk_drew ?_|refine blk_alloc ?_ _)); refine blk_far ?_ NB218_240.out _; (with_reducible repeat (first|refine blk_drewN ?_ _|refine blk_drew ?_|refine blk_alloc ?_ _)); exact BK218.out⟩, ⟨by (with_reducible repeat (first|refine blk_drewN ?_ _|refine blk_drew ?_|refine blk_alloc ?_ _)); refine blk_put (cs := #[.int .i64 t231, .slice Ao36 t232.length co36, .slice none 0 0]) ?_ 2 _ rfl; (with_reducible repeat (first|refine blk_drewN ?_ _|refine blk_drew ?_|refine blk_alloc ?_ _)); refine blk_put (cs := #[.int .i64 t231, .slice none 0 0, .slice none 0 0]) ?_ 1 _ rfl; (with_reducible repeat (first|refine blk_drewN ?_ _|refine blk_drew ?_|refine blk_alloc ?_ _)); refine blk_put (cs := #[.int .i64 0, .slice none 0 0, .slice none 0 0]) ?_ 0 _ rfl; (with_reducible repeat (first|refine blk_drewN ?_ _|refine blk_drew ?_|refine blk_alloc ?_ _)); exact BK240.out⟩, ⟨by repeat (first|(with_reducible first|exact HB.out|apply below_alloc|apply pw_below_drewN|apply below_drew1|refine below_set ?_ GE218.out|refine below_set ?_ GE240.out)|exact HB.out)⟩⟩
        ·rw [if_neg c38] at H
         have c38b0 : (t239 == 0) = false := beq_eq_false_iff_ne.mpr c38
         have c38b1 : (t239 != 0) = true := bne_iff_ne.mpr c38
         (first|rw [c38b0]|(simp only [i64_w, i32_w]; rw [c38b0])|skip)
         have H' := Aside0.mk H
         clear H
         go_wp2
         go_meet
         case rel => exact ⟨_, (true), (by first|rfl|(simp; done)|(simp [*]; done)), H', ⟨by have := HJ5.out; first|omega|exact Nat.le_refl _⟩, ⟨by (with_reducible repeat (first|apply Kd.R_alloc|apply Kd.R_drewN|apply Kd.R_drew)); exact Kd.R_mono (Kd.R_far (p := ⟨gb240, 2, none⟩) (Kd.R_far (p := ⟨gb240, 1, none⟩) (Kd.R_far (p := ⟨gb240, 0, none⟩) (Kd.R_types HO223.out BK240.out (by decide)) (fun _ hk => hk.2) (.int .i64 t231)) (fun _ hk => hk.2) (.slice Ao36 t232.length co36)) (fun _ hk => hk.2) (.slice Ao37 t235.length co37)) (fun _ hk => hk.1.2)⟩, ⟨by (with_reducible repeat (first|apply Kd.R_alloc|apply Kd.R_drewN|apply Kd.R_drew)); exact Kd.R_mono (Kd.R_far (p := ⟨gb240, 2, none⟩) (Kd.R_far (p := ⟨gb240, 1, none⟩) (Kd.R_far (p := ⟨gb240, 0, none⟩) (Kd.R_types HO234.out BK240.out (by decide)) (fun _ hk => hk.2) (.int .i64 t231)) (fun _ hk => hk.2) (.slice Ao36 t232.length co36)) (fun _ hk => hk.2) (.slice Ao37 t235.length co37)) (fun _ hk => trivial)⟩, ⟨by (with_reducible repeat (first|apply Kd.R_alloc|apply Kd.R_drewN|apply Kd.R_drew)); exact Kd.R_mono (Kd.R_far (p := ⟨gb240, 2, none⟩) (Kd.R_far (p := ⟨gb240, 1, none⟩) (Kd.R_far (p := ⟨gb240, 0, none⟩) (Kd.R_types HO237.out BK240.out (by decide)) (fun _ hk => hk.2) (.int .i64 t231)) (fun _ hk => hk.2) (.slice Ao36 t232.length co36)) (fun _ hk => hk.2) (.slice Ao37 t235.length co37)) (fun _ hk => hk.1.1.2)⟩, ⟨by (with_reducible repeat (first|refine blk_drewN ?_ _|refine blk_drew ?_|refine blk_alloc ?_ _)); refine blk_far ?_ NB218_240.out _; (with_reducible repeat (first|refine blk_drewN ?_ _|refine blk_drew ?_|refine blk_alloc ?_ _)); refine blk_far ?_ NB218_240.out _; (with_reducible repeat (first|refine blk_drewN ?_ _|refine blk_drew ?_|refine blk_alloc ?_ _)); refine blk_far ?_ NB218_240.out _; (with_reducible repeat (first|refine blk_drewN ?_ _|refine blk_drew ?_|refine blk_alloc ?_ _)); exact BK218.out⟩, ⟨by (with_reducible repeat (first|refine blk_drewN ?_ _|refine blk_drew ?_|refine blk_alloc ?_ _)); refine blk_put (cs := #[.int .i64 t231, .slice Ao36 t232.length co36, .slice none 0 0]) ?_ 2 _ rfl; (with_reducible repeat (first|refine blk_drewN ?_ _|refine blk_drew ?_|refine blk_alloc ?_ _)); refine blk_put (cs := #[.int .i64 t231, .slice none 0 0, .slice none 0 0]) ?_ 1 _ rfl; (with_reducible repeat (first|refine blk_drewN ?_ _|refine blk_drew ?_|refine blk_alloc ?_ _)); refine blk_put (cs := #[.int .i64 0, .slice none 0 0, .slice none 0 0]) ?_ 0 _ rfl; (with_reducible repeat (first|refine blk_drewN ?_ _|refine blk_drew ?_|refine blk_alloc ?_ _)); exact BK240.out⟩, ⟨by repeat (first|(with_reducible first|exact HB.out|apply below_alloc|apply pw_below_drewN|apply below_drew1|refine below_set ?_ GE218.out|refine below_set ?_ GE240.out)|exact HB.out)⟩⟩
       case rest =>
        clear HC27
        try clear c1
        try clear c2
        try clear p2
        try clear c3
        try clear c4
        try clear c6
        try clear c9
        try clear c10
        try clear c11
        try clear c13
        try clear c13b0
        try clear c13b1
        try clear c18
        try clear c23
        try clear c23b0
        try clear c23b1
        try clear c25
        try clear c34
        try clear c38
        try clear c38b0
        try clear c38b1
        try clear c39
        try clear c39b0
        try clear c39b1
        try clear c40
        try clear c40b0
        try clear c40b1
        try clear c42
        try clear hcz11_0
        try clear hcz11_1
        try clear hcz11_2
        try clear hcz14_0
        try clear hcz14_1
        try clear hcz14_2
        try clear hcz16_0
        try clear hcz16_1
        try clear hcz16_2
        try clear hcz21_0
        try clear hcz21_1
        try clear hcz21_2
        try clear hcz35_0
        try clear hcz35_1
        try clear hcz35_2
        try clear hcz43_0
        try clear hcz43_1
        try clear hcz43_2
        try clear hcz44_0
        try clear hcz44_1
        try clear hcz44_2
        try clear hfz11_0
        try clear hfz11_1
        try clear hfz11_2
        try clear hfz14_0
        try clear hfz14_1
        try clear hfz14_2
        try clear hfz16_0
        try clear hfz16_1
        try clear hfz16_2
        try clear hfz21_0
        try clear hfz21_1
        try clear hfz21_2
        try clear hfz35_0
        try clear hfz35_1
        try clear hfz35_2
        try clear hfz43_0
        try clear hfz43_1
        try clear hfz43_2
        try clear hfz44_0
        try clear hfz44_1
        try clear hfz44_2
        try clear p2
        obtain ⟨kq, x70_26, rfl, HA, HJ26, HO_10, HO_241001, HO_241002, BK218, BK240, HB⟩ := hcut
        cases kq with
        | zero => exact absurd HA.out (by simp [stowagelaw27_ResponseBack.j1])
        | succ kj26 =>
         have H := HA.out
         clear HA
         simp only [stowagelaw27_ResponseBack.j1] at H
         by_cases c46 : x70_26 = true
         ·subst c46
          have H1 : (some false) = some r := by rw [if_pos rfl] at H; exact H
          clear H
          have H := H1
          clear H1
          obtain rfl := Option.some.inj H
          go_wp2
          go_ret
          exact ⟨by first|rfl|(simp [errW_none, errW_some] <;> rfl)|(simp [*, errW_none, errW_some] <;> rfl), by repeat (first|(with_reducible first|exact HB.out|apply below_alloc|apply pw_below_drewN|apply below_drew1|refine below_set ?_ GE218.out|refine below_set ?_ GE240.out)|exact HB.out)⟩
         ·replace c46 := Bool.eq_false_iff.mpr c46
          subst c46
          have H1 : ((stowagekit_Pick.f a2 (t221.length : Int)).bind fun t242 => (if 0 ≤ t242 then (if t242 ≤ (t221.length : Int) then ((response_Read.f (t221.take (t242 : Int).toNat)).bind fun bt247 => (if bt247.2.2.2.2 = 9 then (if bt247.2.2.2.1 = 0 then (stowagelaw27_ResponseBack.j2 kj26 l3 t219) else (some false)) else (some false))) else (none)) else (none))) = some r := by rw [if_neg (show ¬ (false = true) by decide)] at H; exact H
          clear H
          have H := H1
          clear H1
          replace H := Option.bind_eq_some_iff.mp H
          obtain ⟨t242, A470, H⟩ := H
          replace H : (if 0 ≤ t242 then (if t242 ≤ (t221.length : Int) then ((response_Read.f (t221.take (t242 : Int).toNat)).bind fun bt247 => (if bt247.2.2.2.2 = 9 then (if bt247.2.2.2.1 = 0 then (stowagelaw27_ResponseBack.j2 kj26 l3 t219) else (some false)) else (some false))) else (none)) else (none)) = some r := H
          have A47 := Aside0.mk A470
          clear A470
          by_cases c48 : 0 ≤ t242
          ·rw [if_pos c48] at H
           have c48b0 := eq_true c48
           have c48b1 : decide (0 ≤ t242) = true := decide_eq_true c48
           clear c48
           by_cases c49 : t242 ≤ (t221.length : Int)
           ·rw [if_pos c49] at H
            have c49b0 := eq_true c49
            have c49b1 : decide (t242 ≤ (t221.length : Int)) = true := decide_eq_true c49
            clear c49
            obtain ⟨y243, hy243⟩ : ∃ y_ : List Int, y_ = (t221.take (t242 : Int).toNat) := ⟨_, rfl⟩
            replace H : ((response_Read.f y243).bind fun bt247 => (if bt247.2.2.2.2 = 9 then (if bt247.2.2.2.1 = 0 then (stowagelaw27_ResponseBack.j2 kj26 l3 t219) else (some false)) else (some false))) = some r := by first|(rw [hy243]; with_reducible exact H)|(have H2_ := (Option.bind_some _ _).symm.trans H; rw [hy243]; with_reducible exact H2_)|(have H2_ := (Option.bind_some _ _).symm.trans H; with_reducible exact H2_)|with_reducible exact H|(rw [hy243]; exact H)|exact H
            have Ny243 := Aside0.mk hy243
            clear hy243
            replace H := Option.bind_eq_some_iff.mp H
            obtain ⟨⟨t247, t248, t251, t254, t255⟩, A500, H⟩ := H
            replace H : (if t255 = 9 then (if t254 = 0 then (stowagelaw27_ResponseBack.j2 kj26 l3 t219) else (some false)) else (some false)) = some r := H
            have A50 := Aside0.mk A500
            clear A500
            by_cases c51 : t255 = 9
            ·rw [if_pos c51] at H
             have c51b0 : (t255 == 9) = true := beq_iff_eq.mpr c51
             have c51b1 : (t255 != 9) = false := bne_eq_false_iff_eq.mpr c51
             clear c51
             by_cases c52 : t254 = 0
             ·rw [if_pos c52] at H
              have c52b0 : (t254 == 0) = true := beq_iff_eq.mpr c52
              have c52b1 : (t254 != 0) = false := bne_eq_false_iff_eq.mpr c52
              clear c52
              have H' := Aside0.mk H
              clear H
              go_wp2_with (first|((with_reducible refine gate_callee (f := 13) rfl ?_); refine goesL_ (some 76) rfl rfl Tryd.func13 (by kernel_rfl) rfl #[.int .i64 a2, .int .i64 (t221.length : Int)] rfl (by (try simp only [List.map_toArray, List.map_cons, List.map_nil]); first|done|rfl|(simp only [List.length_drop, List.length_take]; rfl)) ?_; (with_reducible refine (stowagekit_Pick.calls a2 (t221.length : Int) t242 _ A47.out).mono ?_); rintro e w' ⟨rfl, ⟨nd, rfl⟩⟩; refine ⟨_, rfl, ?_⟩; (try (rw [drewN_self wc]; generalize hq_ : World.drewN wc _ = wc; have n0_ : Aside0 (Kd.R (Kd.int .u8) 5 wc w.heap.size (fun k_ => some k_ ≠ (.slice Ao37 t235.length co37 : Value).ownBlock) (.slice Ao28 t221.length co28) t221) := ⟨by rw [← hq_]; exact (by (with_reducible repeat (first|apply Kd.R_alloc|apply Kd.R_drewN|apply Kd.R_drew)); exact HO_10.out)⟩; have n1_ : Aside0 (Kd.R k32 32 wc w.heap.size (fun _ => True) (.slice Ao36 t232.length co36) t232) := ⟨by rw [← hq_]; exact (by (with_reducible repeat (first|apply Kd.R_alloc|apply Kd.R_drewN|apply Kd.R_drew)); exact HO_241001.out)⟩; have n2_ : Aside0 (Kd.R (Kd.int .u8) 5 wc w.heap.size (fun k_ => some k_ ≠ (.slice Ao28 t221.length co28 : Value).ownBlock) (.slice Ao37 t235.length co37) t235) := ⟨by rw [← hq_]; exact (by (with_reducible repeat (first|apply Kd.R_alloc|apply Kd.R_drewN|apply Kd.R_drew)); exact HO_241002.out)⟩; have n3_ : Aside0 (wc.heap[gb218]? = some (.cells #[.int .i64 a0_0, .slice A0_1 l0_1.length c0_1, .slice A0_2 l0_2.length c0_2] 30 (0, 0))) := ⟨by rw [← hq_]; exact (by (with_reducible repeat (first|refine blk_drewN ?_ _|refine blk_drew ?_|refine blk_alloc ?_ _)); exact BK218.out)⟩; have n4_ : Aside0 (wc.heap[gb240]? = some (.cells #[.int .i64 t231, .slice Ao36 t232.length co36, .slice Ao37 t235.length co37] 30 (0, 0))) := ⟨by rw [← hq_]; exact (by (with_reducible repeat (first|refine blk_drewN ?_ _|refine blk_drew ?_|refine blk_alloc ?_ _)); exact BK240.out)⟩; have n5_ : Aside0 (Below w.heap.size w wc) := ⟨by rw [← hq_]; exact (by repeat (first|(with_reducible first|exact HB.out|apply below_alloc|apply pw_below_drewN|apply below_drew1|refine below_set ?_ GE218.out|refine below_set ?_ GE240.out)|exact HB.out))⟩; clear HO_10 HO_241001 HO_241002 BK218 BK240 HB hq_; have HO_10 := n0_; have HO_241001 := n1_; have HO_241002 := n2_; have BK218 := n3_; have BK240 := n4_; have HB := n5_; clear n0_ n1_ n2_ n3_ n4_ n5_)); have q53 : (t242 : Int) ≤ ((t221.length : Int) : Int) := of_decide_eq_true (by first|(with_reducible assumption)|assumption); obtain ⟨i053, hi053, _, hsz53, _⟩ := info_parts info5; have hroom53 : t221.length ≤ co28 := (Kd.R_reads' HO_10.out).2.1; have hC53 : Kd.C (Kd.int .u8) _ Ao28 t221.length t221 := (Kd.R_reads' HO_10.out).2.2; have hcut53 := cut_to (P := Tryd.prog) 25 5 .i64 Tryd.underlying25 hi053 Ao28 t221.length co28 t242 (of_decide_eq_true (by first|(with_reducible assumption)|assumption)) q53 hroom53; have hr53 := Kd.C_take (m := (t242 : Int).toNat) hC53 (by omega); have hy53 : y243.length = (t242 : Int).toNat := (by rw [Ny243.out, List.length_take]; omega); rw [← Ny243.out] at hr53; rw [← hy53] at hcut53; have HR246 := Aside0.mk hr53; have HC246 := Aside0.mk (show y243.length ≤ co28 from by omega); clear hr53 hC53 hroom53 hi053 hsz53; have KY53 := Aside0.mk hy53; clear hy53; have KL53 := Aside0.mk (show (t242 : Int).toNat ≤ t221.length from by omega); replace q53 := eq_true q53)|((with_reducible refine gate_callee (f := 10) rfl ?_); refine goesL_ (some 78) rfl rfl Tryd.func10 (by kernel_rfl) rfl #[.slice Ao28 y243.length co28] rfl (by (try simp only [List.map_toArray, List.map_cons, List.map_nil]); first|done|rfl|(simp only [List.length_drop, List.length_take]; rfl)) ?_; (with_reducible refine (response_Read.calls _ _ y243 t247 t248 t251 t254 t255 _ ?side1 ?side2 ?side3 A50.out).mono ?_); (case side1 => first|exact HG.out|exact GM.below (by repeat (first|(with_reducible first|exact HB.out|apply below_alloc|apply pw_below_drewN|apply below_drew1|refine below_set ?_ GE218.out|refine below_set ?_ GE240.out)|exact HB.out)) HG.out|(repeat (first|exact HG.out|apply GM.drewN|apply GM.drew))); (case side2 => repeat (first|exact (by repeat (first|(with_reducible exact HR246.out)|(with_reducible refine Kd.C_alloc ?_ _)|(with_reducible refine Kd.C_drewN ?_ _)|(with_reducible refine Kd.C_drew ?_)|exact HR246.out))|(with_reducible refine Kd.C_alloc ?_ _)|(with_reducible refine Kd.C_drewN ?_ _)|(with_reducible refine Kd.C_drew ?_))); (case side3 => exact HC246.out); rintro e w54 ⟨v249, v252, rfl, ho0, ho1, hb⟩; refine ⟨_, rfl, ?_⟩; have n0_ := Aside0.mk (Kd.R_elder' (by (with_reducible repeat (first|apply Kd.R_alloc|apply Kd.R_drewN|apply Kd.R_drew)); exact HO_10.out) (Kd.R_base ho1) hb); have n1_ := Aside0.mk (Kd.R_elder' (by (with_reducible repeat (first|apply Kd.R_alloc|apply Kd.R_drewN|apply Kd.R_drew)); exact HO_241001.out) (Kd.R_base ho0) hb); have n2_ := Aside0.mk (Kd.R_elder' (by (with_reducible repeat (first|apply Kd.R_alloc|apply Kd.R_drewN|apply Kd.R_drew)); exact HO_241002.out) (Kd.R_base ho1) hb); have n3_ := Aside0.mk (Kd.R_lower (Kd.R_new' ho0 (Kd.R_lt (by (with_reducible repeat (first|apply Kd.R_alloc|apply Kd.R_drewN|apply Kd.R_drew)); exact HO_241001.out))) (below_size (by repeat (first|(with_reducible first|exact HB.out|apply below_alloc|apply pw_below_drewN|apply below_drew1|refine below_set ?_ GE218.out|refine below_set ?_ GE240.out)|exact HB.out)))); have n4_ := Aside0.mk (Kd.R_lower (Kd.R_new' (Kd.R_new' ho1 (Kd.R_lt (by (with_reducible repeat (first|apply Kd.R_alloc|apply Kd.R_drewN|apply Kd.R_drew)); exact HO_10.out))) (Kd.R_lt (by (with_reducible repeat (first|apply Kd.R_alloc|apply Kd.R_drewN|apply Kd.R_drew)); exact HO_241002.out))) (below_size (by repeat (first|(with_reducible first|exact HB.out|apply below_alloc|apply pw_below_drewN|apply below_drew1|refine below_set ?_ GE218.out|refine below_set ?_ GE240.out)|exact HB.out)))); have n5_ := Aside0.mk (blk_below (g := gb218) (o := .cells #[.int .i64 a0_0, .slice A0_1 l0_1.length c0_1, .slice A0_2 l0_2.length c0_2] 30 (0, 0)) (by (with_reducible repeat (first|refine blk_drewN ?_ _|refine blk_drew ?_|refine blk_alloc ?_ _)); exact BK218.out) hb); have n6_ := Aside0.mk (blk_below (g := gb240) (o := .cells #[.int .i64 t231, .slice Ao36 t232.length co36, .slice Ao37 t235.length co37] 30 (0, 0)) (by (with_reducible repeat (first|refine blk_drewN ?_ _|refine blk_drew ?_|refine blk_alloc ?_ _)); exact BK240.out) hb); have n7_ := Aside0.mk (Kd.C_below (by repeat (first|(with_reducible exact HR246.out)|(with_reducible refine Kd.C_alloc ?_ _)|(with_reducible refine Kd.C_drewN ?_ _)|(with_reducible refine Kd.C_drew ?_)|exact HR246.out)) hb); have n8_ := Aside0.mk (below_step (by repeat (first|(with_reducible first|exact HB.out|apply below_alloc|apply pw_below_drewN|apply below_drew1|refine below_set ?_ GE218.out|refine below_set ?_ GE240.out)|exact HB.out)) hb); clear HO_10; clear HO_241001; clear HO_241002; clear BK218; clear BK240; clear HR246; clear HB; have HO_10 := n0_; have HO_241001 := n1_; have HO_241002 := n2_; have HO250 := n3_; have HO253 := n4_; have BK218 := n5_; have BK240 := n6_; have HR246 := n7_; have HB := n8_; clear n0_ n1_ n2_ n3_ n4_ n5_ n6_ n7_ n8_; (try clear hb); (try clear hb2); (try clear hk); (try clear hi); (try clear ho0); (try clear ho1))|((with_reducible refine gate_dst (N := 15) rfl ?_); (try (refine gate_guard (by rfl) ?_; dsimp only)); refine box_event ?hg (N := 15) ?hd (cs := #[.int .i64 0, .slice none 0 0, .slice none 0 0]) (t := 30) ?hr ?_; (case hd => rfl); (case hg => rfl); (case hr => first|(go_simp; done)|(go_simp; rfl)); intro gb256 hg w55 hbox hb; have n0_ := Aside0.mk (Kd.R_below (by (with_reducible repeat (first|apply Kd.R_alloc|apply Kd.R_drewN|apply Kd.R_drew)); exact HO_10.out) hb); have n1_ := Aside0.mk (Kd.R_below (by (with_reducible repeat (first|apply Kd.R_alloc|apply Kd.R_drewN|apply Kd.R_drew)); exact HO_241001.out) hb); have n2_ := Aside0.mk (Kd.R_below (by (with_reducible repeat (first|apply Kd.R_alloc|apply Kd.R_drewN|apply Kd.R_drew)); exact HO_241002.out) hb); have n3_ := Aside0.mk (Kd.R_below (by (with_reducible repeat (first|apply Kd.R_alloc|apply Kd.R_drewN|apply Kd.R_drew)); exact HO250.out) hb); have n4_ := Aside0.mk (Kd.R_below (by (with_reducible repeat (first|apply Kd.R_alloc|apply Kd.R_drewN|apply Kd.R_drew)); exact HO253.out) hb); have n5_ := Aside0.mk (blk_below (g := gb218) (o := .cells #[.int .i64 a0_0, .slice A0_1 l0_1.length c0_1, .slice A0_2 l0_2.length c0_2] 30 (0, 0)) (by (with_reducible repeat (first|refine blk_drewN ?_ _|refine blk_drew ?_|refine blk_alloc ?_ _)); exact BK218.out) hb); have n6_ := Aside0.mk (blk_below (g := gb240) (o := .cells #[.int .i64 t231, .slice Ao36 t232.length co36, .slice Ao37 t235.length co37] 30 (0, 0)) (by (with_reducible repeat (first|refine blk_drewN ?_ _|refine blk_drew ?_|refine blk_alloc ?_ _)); exact BK240.out) hb); have n7_ := Aside0.mk (Kd.C_below (by repeat (first|(with_reducible exact HR246.out)|(with_reducible refine Kd.C_alloc ?_ _)|(with_reducible refine Kd.C_drewN ?_ _)|(with_reducible refine Kd.C_drew ?_)|exact HR246.out)) hb); have n8_ := Aside0.mk (below_step (by repeat (first|(with_reducible first|exact HB.out|apply below_alloc|apply pw_below_drewN|apply below_drew1|refine below_set ?_ GE218.out|refine below_set ?_ GE240.out)|exact HB.out)) hb); have n9_ := Aside0.mk (hbox); have n10_ := Aside0.mk ((by rw [hg]; exact (below_size (by repeat (first|(with_reducible first|exact HB.out|apply below_alloc|apply pw_below_drewN|apply below_drew1|refine below_set ?_ GE218.out|refine below_set ?_ GE240.out)|exact HB.out))) : w.heap.size ≤ gb256)); have n11_ := Aside0.mk ((by rw [hg]; exact (below_size (by repeat (first|(with_reducible first|exact HB.out|apply below_alloc|apply pw_below_drewN|apply below_drew1|refine below_set ?_ GE218.out|refine below_set ?_ GE240.out)|exact HB.out))) : w.heap.size ≤ gb256)); have n12_ := Aside0.mk ((by rw [hg]; exact Nat.ne_of_lt (blk_lt (g := gb218) (o := .cells #[.int .i64 a0_0, .slice A0_1 l0_1.length c0_1, .slice A0_2 l0_2.length c0_2] 30 (0, 0)) (by (with_reducible repeat (first|refine blk_drewN ?_ _|refine blk_drew ?_|refine blk_alloc ?_ _)); exact BK218.out)) : gb218 ≠ gb256)); have n13_ := Aside0.mk ((by rw [hg]; exact Nat.ne_of_gt (blk_lt (g := gb218) (o := .cells #[.int .i64 a0_0, .slice A0_1 l0_1.length c0_1, .slice A0_2 l0_2.length c0_2] 30 (0, 0)) (by (with_reducible repeat (first|refine blk_drewN ?_ _|refine blk_drew ?_|refine blk_alloc ?_ _)); exact BK218.out)) : gb256 ≠ gb218)); have n14_ := Aside0.mk ((by rw [hg]; exact Nat.ne_of_lt (blk_lt (g := gb240) (o := .cells #[.int .i64 t231, .slice Ao36 t232.length co36, .slice Ao37 t235.length co37] 30 (0, 0)) (by (with_reducible repeat (first|refine blk_drewN ?_ _|refine blk_drew ?_|refine blk_alloc ?_ _)); exact BK240.out)) : gb240 ≠ gb256)); have n15_ := Aside0.mk ((by rw [hg]; exact Nat.ne_of_gt (blk_lt (g := gb240) (o := .cells #[.int .i64 t231, .slice Ao36 t232.length co36, .slice Ao37 t235.length co37] 30 (0, 0)) (by (with_reducible repeat (first|refine blk_drewN ?_ _|refine blk_drew ?_|refine blk_alloc ?_ _)); exact BK240.out)) : gb256 ≠ gb240)); clear HO_10; clear HO_241001; clear HO_241002; clear HO250; clear HO253; clear BK218; clear BK240; clear HR246; clear HB; have HO_10 := n0_; have HO_241001 := n1_; have HO_241002 := n2_; have HO250 := n3_; have HO253 := n4_; have BK218 := n5_; have BK240 := n6_; have HR246 := n7_; have HB := n8_; have BK256 := n9_; have GW256 := n10_; have GE256 := n11_; have NB218_256 := n12_; have NB256_218 := n13_; have NB240_256 := n14_; have NB256_240 := n15_; clear n0_ n1_ n2_ n3_ n4_ n5_ n6_ n7_ n8_ n9_ n10_ n11_ n12_ n13_ n14_ n15_; clear hb hbox hg; have hnb56 := NB256_218.out; have hnc56 := NB218_256.out; have hnb57 := NB256_240.out; have hnc57 := NB240_256.out; have hcz58_0 : w55.cell? ⟨gb256, 0, none⟩ = some (.int .i64 0) := (blk_cell BK256.out 0).trans rfl; have hcz58_1 : w55.cell? ⟨gb256, 1, none⟩ = some (.slice none 0 0) := (blk_cell BK256.out 1).trans rfl; have hcz58_2 : w55.cell? ⟨gb256, 2, none⟩ = some (.slice none 0 0) := (blk_cell BK256.out 2).trans rfl; have hfz58_0 := blk_frozen BK256.out 0; have hfz58_1 := blk_frozen BK256.out 1; have hfz58_2 := blk_frozen BK256.out 2; obtain ⟨Ao59, co59, eo59⟩ := Kd.R_slice HO250.out; subst eo59; obtain ⟨Ao60, co60, eo60⟩ := Kd.R_slice HO253.out; subst eo60))
              go_meet
              case rel => exact ⟨_, H', ⟨by have := HJ5.out; have := HJ26.out; first|omega|exact Nat.le_refl _⟩, ⟨by (with_reducible repeat (first|refine blk_drewN ?_ _|refine blk_drew ?_|refine blk_alloc ?_ _)); refine blk_far ?_ NB218_256.out _; (with_reducible repeat (first|refine blk_drewN ?_ _|refine blk_drew ?_|refine blk_alloc ?_ _)); refine blk_far ?_ NB218_256.out _; (with_reducible repeat (first|refine blk_drewN ?_ _|refine blk_drew ?_|refine blk_alloc ?_ _)); refine blk_far ?_ NB218_256.out _; (with_reducible repeat (first|refine blk_drewN ?_ _|refine blk_drew ?_|refine blk_alloc ?_ _)); exact BK218.out⟩, ⟨by repeat (first|(with_reducible first|exact HB.out|apply below_alloc|apply pw_below_drewN|apply below_drew1|refine below_set ?_ GE218.out|refine below_set ?_ GE240.out|refine below_set ?_ GE256.out)|exact HB.out)⟩⟩
             ·rw [if_neg c52] at H
              have c52b0 : (t254 == 0) = false := beq_eq_false_iff_ne.mpr c52
              have c52b1 : (t254 != 0) = true := bne_iff_ne.mpr c52
              obtain rfl := Option.some.inj H
              go_wp2_with (first|((with_reducible refine gate_callee (f := 13) rfl ?_); refine goesL_ (some 76) rfl rfl Tryd.func13 (by kernel_rfl) rfl #[.int .i64 a2, .int .i64 (t221.length : Int)] rfl (by (try simp only [List.map_toArray, List.map_cons, List.map_nil]); first|done|rfl|(simp only [List.length_drop, List.length_take]; rfl)) ?_; (with_reducible refine (stowagekit_Pick.calls a2 (t221.length : Int) t242 _ A47.out).mono ?_); rintro e w' ⟨rfl, ⟨nd, rfl⟩⟩; refine ⟨_, rfl, ?_⟩; (try (rw [drewN_self wc]; generalize hq_ : World.drewN wc _ = wc; have n0_ : Aside0 (Kd.R (Kd.int .u8) 5 wc w.heap.size (fun k_ => some k_ ≠ (.slice Ao37 t235.length co37 : Value).ownBlock) (.slice Ao28 t221.length co28) t221) := ⟨by rw [← hq_]; exact (by (with_reducible repeat (first|apply Kd.R_alloc|apply Kd.R_drewN|apply Kd.R_drew)); exact HO_10.out)⟩; have n1_ : Aside0 (Kd.R k32 32 wc w.heap.size (fun _ => True) (.slice Ao36 t232.length co36) t232) := ⟨by rw [← hq_]; exact (by (with_reducible repeat (first|apply Kd.R_alloc|apply Kd.R_drewN|apply Kd.R_drew)); exact HO_241001.out)⟩; have n2_ : Aside0 (Kd.R (Kd.int .u8) 5 wc w.heap.size (fun k_ => some k_ ≠ (.slice Ao28 t221.length co28 : Value).ownBlock) (.slice Ao37 t235.length co37) t235) := ⟨by rw [← hq_]; exact (by (with_reducible repeat (first|apply Kd.R_alloc|apply Kd.R_drewN|apply Kd.R_drew)); exact HO_241002.out)⟩; have n3_ : Aside0 (wc.heap[gb218]? = some (.cells #[.int .i64 a0_0, .slice A0_1 l0_1.length c0_1, .slice A0_2 l0_2.length c0_2] 30 (0, 0))) := ⟨by rw [← hq_]; exact (by (with_reducible repeat (first|refine blk_drewN ?_ _|refine blk_drew ?_|refine blk_alloc ?_ _)); exact BK218.out)⟩; have n4_ : Aside0 (wc.heap[gb240]? = some (.cells #[.int .i64 t231, .slice Ao36 t232.length co36, .slice Ao37 t235.length co37] 30 (0, 0))) := ⟨by rw [← hq_]; exact (by (with_reducible repeat (first|refine blk_drewN ?_ _|refine blk_drew ?_|refine blk_alloc ?_ _)); exact BK240.out)⟩; have n5_ : Aside0 (Below w.heap.size w wc) := ⟨by rw [← hq_]; exact (by repeat (first|(with_reducible first|exact HB.out|apply below_alloc|apply pw_below_drewN|apply below_drew1|refine below_set ?_ GE218.out|refine below_set ?_ GE240.out)|exact HB.out))⟩; clear HO_10 HO_241001 HO_241002 BK218 BK240 HB hq_; have HO_10 := n0_; have HO_241001 := n1_; have HO_241002 := n2_; have BK218 := n3_; have BK240 := n4_; have HB := n5_; clear n0_ n1_ n2_ n3_ n4_ n5_)); have q61 : (t242 : Int) ≤ ((t221.length : Int) : Int) := of_decide_eq_true (by first|(with_reducible assumption)|assumption); obtain ⟨i061, hi061, _, hsz61, _⟩ := info_parts info5; have hroom61 : t221.length ≤ co28 := (Kd.R_reads' HO_10.out).2.1; have hC61 : Kd.C (Kd.int .u8) _ Ao28 t221.length t221 := (Kd.R_reads' HO_10.out).2.2; have hcut61 := cut_to (P := Tryd.prog) 25 5 .i64 Tryd.underlying25 hi061 Ao28 t221.length co28 t242 (of_decide_eq_true (by first|(with_reducible assumption)|assumption)) q61 hroom61; have hr61 := Kd.C_take (m := (t242 : Int).toNat) hC61 (by omega); have hy61 : y243.length = (t242 : Int).toNat := (by rw [Ny243.out, List.length_take]; omega); rw [← Ny243.out] at hr61; rw [← hy61] at hcut61; have HR246 := Aside0.mk hr61; have HC246 := Aside0.mk (show y243.length ≤ co28 from by omega); clear hr61 hC61 hroom61 hi061 hsz61; have KY61 := Aside0.mk hy61; clear hy61; have KL61 := Aside0.mk (show (t242 : Int).toNat ≤ t221.length from by omega); replace q61 := eq_true q61)|((with_reducible refine gate_callee (f := 10) rfl ?_); refine goesL_ (some 78) rfl rfl Tryd.func10 (by kernel_rfl) rfl #[.slice Ao28 y243.length co28] rfl (by (try simp only [List.map_toArray, List.map_cons, List.map_nil]); first|done|rfl|(simp only [List.length_drop, List.length_take]; rfl)) ?_; (with_reducible refine (response_Read.calls _ _ y243 t247 t248 t251 t254 t255 _ ?side1 ?side2 ?side3 A50.out).mono ?_); (case side1 => first|exact HG.out|exact GM.below (by repeat (first|(with_reducible first|exact HB.out|apply below_alloc|apply pw_below_drewN|apply below_drew1|refine below_set ?_ GE218.out|refine below_set ?_ GE240.out)|exact HB.out)) HG.out|(repeat (first|exact HG.out|apply GM.drewN|apply GM.drew))); (case side2 => repeat (first|exact (by repeat (first|(with_reducible exact HR246.out)|(with_reducible refine Kd.C_alloc ?_ _)|(with_reducible refine Kd.C_drewN ?_ _)|(with_reducible refine Kd.C_drew ?_)|exact HR246.out))|(with_reducible refine Kd.C_alloc ?_ _)|(with_reducible refine Kd.C_drewN ?_ _)|(with_reducible refine Kd.C_drew ?_))); (case side3 => exact HC246.out); rintro e w62 ⟨v249, v252, rfl, ho0, ho1, hb⟩; refine ⟨_, rfl, ?_⟩; have n0_ := Aside0.mk (Kd.R_elder' (by (with_reducible repeat (first|apply Kd.R_alloc|apply Kd.R_drewN|apply Kd.R_drew)); exact HO_10.out) (Kd.R_base ho1) hb); have n1_ := Aside0.mk (Kd.R_elder' (by (with_reducible repeat (first|apply Kd.R_alloc|apply Kd.R_drewN|apply Kd.R_drew)); exact HO_241001.out) (Kd.R_base ho0) hb); have n2_ := Aside0.mk (Kd.R_elder' (by (with_reducible repeat (first|apply Kd.R_alloc|apply Kd.R_drewN|apply Kd.R_drew)); exact HO_241002.out) (Kd.R_base ho1) hb); have n3_ := Aside0.mk (Kd.R_lower (Kd.R_new' ho0 (Kd.R_lt (by (with_reducible repeat (first|apply Kd.R_alloc|apply Kd.R_drewN|apply Kd.R_drew)); exact HO_241001.out))) (below_size (by repeat (first|(with_reducible first|exact HB.out|apply below_alloc|apply pw_below_drewN|apply below_drew1|refine below_set ?_ GE218.out|refine below_set ?_ GE240.out)|exact HB.out)))); have n4_ := Aside0.mk (Kd.R_lower (Kd.R_new' (Kd.R_new' ho1 (Kd.R_lt (by (with_reducible repeat (first|apply Kd.R_alloc|apply Kd.R_drewN|apply Kd.R_drew)); exact HO_10.out))) (Kd.R_lt (by (with_reducible repeat (first|apply Kd.R_alloc|apply Kd.R_drewN|apply Kd.R_drew)); exact HO_241002.out))) (below_size (by repeat (first|(with_reducible first|exact HB.out|apply below_alloc|apply pw_below_drewN|apply below_drew1|refine below_set ?_ GE218.out|refine below_set ?_ GE240.out)|exact HB.out)))); have n5_ := Aside0.mk (blk_below (g := gb218) (o := .cells #[.int .i64 a0_0, .slice A0_1 l0_1.length c0_1, .slice A0_2 l0_2.length c0_2] 30 (0, 0)) (by (with_reducible repeat (first|refine blk_drewN ?_ _|refine blk_drew ?_|refine blk_alloc ?_ _)); exact BK218.out) hb); have n6_ := Aside0.mk (blk_below (g := gb240) (o := .cells #[.int .i64 t231, .slice Ao36 t232.length co36, .slice Ao37 t235.length co37] 30 (0, 0)) (by (with_reducible repeat (first|refine blk_drewN ?_ _|refine blk_drew ?_|refine blk_alloc ?_ _)); exact BK240.out) hb); have n7_ := Aside0.mk (Kd.C_below (by repeat (first|(with_reducible exact HR246.out)|(with_reducible refine Kd.C_alloc ?_ _)|(with_reducible refine Kd.C_drewN ?_ _)|(with_reducible refine Kd.C_drew ?_)|exact HR246.out)) hb); have n8_ := Aside0.mk (below_step (by repeat (first|(with_reducible first|exact HB.out|apply below_alloc|apply pw_below_drewN|apply below_drew1|refine below_set ?_ GE218.out|refine below_set ?_ GE240.out)|exact HB.out)) hb); clear HO_10; clear HO_241001; clear HO_241002; clear BK218; clear BK240; clear HR246; clear HB; have HO_10 := n0_; have HO_241001 := n1_; have HO_241002 := n2_; have HO250 := n3_; have HO253 := n4_; have BK218 := n5_; have BK240 := n6_; have HR246 := n7_; have HB := n8_; clear n0_ n1_ n2_ n3_ n4_ n5_ n6_ n7_ n8_; (try clear hb); (try clear hb2); (try clear hk); (try clear hi); (try clear ho0); (try clear ho1))|((with_reducible refine gate_dst (N := 15) rfl ?_); (try (refine gate_guard (by rfl) ?_; dsimp only)); refine box_event ?hg (N := 15) ?hd (cs := #[.int .i64 0, .slice none 0 0, .slice none 0 0]) (t := 30) ?hr ?_; (case hd => rfl); (case hg => rfl); (case hr => first|(go_simp; done)|(go_simp; rfl)); intro gb256 hg w63 hbox hb; have n0_ := Aside0.mk (Kd.R_below (by (with_reducible repeat (first|apply Kd.R_alloc|apply Kd.R_drewN|apply Kd.R_drew)); exact HO_10.out) hb); have n1_ := Aside0.mk (Kd.R_below (by (with_reducible repeat (first|apply Kd.R_alloc|apply Kd.R_drewN|apply Kd.R_drew)); exact HO_241001.out) hb); have n2_ := Aside0.mk (Kd.R_below (by (with_reducible repeat (first|apply Kd.R_alloc|apply Kd.R_drewN|apply Kd.R_drew)); exact HO_241002.out) hb); have n3_ := Aside0.mk (Kd.R_below (by (with_reducible repeat (first|apply Kd.R_alloc|apply Kd.R_drewN|apply Kd.R_drew)); exact HO250.out) hb); have n4_ := Aside0.mk (Kd.R_below (by (with_reducible repeat (first|apply Kd.R_alloc|apply Kd.R_drewN|apply Kd.R_drew)); exact HO253.out) hb); have n5_ := Aside0.mk (blk_below (g := gb218) (o := .cells #[.int .i64 a0_0, .slice A0_1 l0_1.length c0_1, .slice A0_2 l0_2.length c0_2] 30 (0, 0)) (by (with_reducible repeat (first|refine blk_drewN ?_ _|refine blk_drew ?_|refine blk_alloc ?_ _)); exact BK218.out) hb); have n6_ := Aside0.mk (blk_below (g := gb240) (o := .cells #[.int .i64 t231, .slice Ao36 t232.length co36, .slice Ao37 t235.length co37] 30 (0, 0)) (by (with_reducible repeat (first|refine blk_drewN ?_ _|refine blk_drew ?_|refine blk_alloc ?_ _)); exact BK240.out) hb); have n7_ := Aside0.mk (Kd.C_below (by repeat (first|(with_reducible exact HR246.out)|(with_reducible refine Kd.C_alloc ?_ _)|(with_reducible refine Kd.C_drewN ?_ _)|(with_reducible refine Kd.C_drew ?_)|exact HR246.out)) hb); have n8_ := Aside0.mk (below_step (by repeat (first|(with_reducible first|exact HB.out|apply below_alloc|apply pw_below_drewN|apply below_drew1|refine below_set ?_ GE218.out|refine below_set ?_ GE240.out)|exact HB.out)) hb); have n9_ := Aside0.mk (hbox); have n10_ := Aside0.mk ((by rw [hg]; exact (below_size (by repeat (first|(with_reducible first|exact HB.out|apply below_alloc|apply pw_below_drewN|apply below_drew1|refine below_set ?_ GE218.out|refine below_set ?_ GE240.out)|exact HB.out))) : w.heap.size ≤ gb256)); have n11_ := Aside0.mk ((by rw [hg]; exact (below_size (by repeat (first|(with_reducible first|exact HB.out|apply below_alloc|apply pw_below_drewN|apply below_drew1|refine below_set ?_ GE218.out|refine below_set ?_ GE240.out)|exact HB.out))) : w.heap.size ≤ gb256)); have n12_ := Aside0.mk ((by rw [hg]; exact Nat.ne_of_lt (blk_lt (g := gb218) (o := .cells #[.int .i64 a0_0, .slice A0_1 l0_1.length c0_1, .slice A0_2 l0_2.length c0_2] 30 (0, 0)) (by (with_reducible repeat (first|refine blk_drewN ?_ _|refine blk_drew ?_|refine blk_alloc ?_ _)); exact BK218.out)) : gb218 ≠ gb256)); have n13_ := Aside0.mk ((by rw [hg]; exact Nat.ne_of_gt (blk_lt (g := gb218) (o := .cells #[.int .i64 a0_0, .slice A0_1 l0_1.length c0_1, .slice A0_2 l0_2.length c0_2] 30 (0, 0)) (by (with_reducible repeat (first|refine blk_drewN ?_ _|refine blk_drew ?_|refine blk_alloc ?_ _)); exact BK218.out)) : gb256 ≠ gb218)); have n14_ := Aside0.mk ((by rw [hg]; exact Nat.ne_of_lt (blk_lt (g := gb240) (o := .cells #[.int .i64 t231, .slice Ao36 t232.length co36, .slice Ao37 t235.length co37] 30 (0, 0)) (by (with_reducible repeat (first|refine blk_drewN ?_ _|refine blk_drew ?_|refine blk_alloc ?_ _)); exact BK240.out)) : gb240 ≠ gb256)); have n15_ := Aside0.mk ((by rw [hg]; exact Nat.ne_of_gt (blk_lt (g := gb240) (o := .cells #[.int .i64 t231, .slice Ao36 t232.length co36, .slice Ao37 t235.length co37] 30 (0, 0)) (by (with_reducible repeat (first|refine blk_drewN ?_ _|refine blk_drew ?_|refine blk_alloc ?_ _)); exact BK240.out)) : gb256 ≠ gb240)); clear HO_10; clear HO_241001; clear HO_241002; clear HO250; clear HO253; clear BK218; clear BK240; clear HR246; clear HB; have HO_10 := n0_; have HO_241001 := n1_; have HO_241002 := n2_; have HO250 := n3_; have HO253 := n4_; have BK218 := n5_; have BK240 := n6_; have HR246 := n7_; have HB := n8_; have BK256 := n9_; have GW256 := n10_; have GE256 := n11_; have NB218_256 := n12_; have NB256_218 := n13_; have NB240_256 := n14_; have NB256_240 := n15_; clear n0_ n1_ n2_ n3_ n4_ n5_ n6_ n7_ n8_ n9_ n10_ n11_ n12_ n13_ n14_ n15_; clear hb hbox hg; have hnb64 := NB256_218.out; have hnc64 := NB218_256.out; have hnb65 := NB256_240.out; have hnc65 := NB240_256.out; have hcz66_0 : w63.cell? ⟨gb256, 0, none⟩ = some (.int .i64 0) := (blk_cell BK256.out 0).trans rfl; have hcz66_1 : w63.cell? ⟨gb256, 1, none⟩ = some (.slice none 0 0) := (blk_cell BK256.out 1).trans rfl; have hcz66_2 : w63.cell? ⟨gb256, 2, none⟩ = some (.slice none 0 0) := (blk_cell BK256.out 2).trans rfl; have hfz66_0 := blk_frozen BK256.out 0; have hfz66_1 := blk_frozen BK256.out 1; have hfz66_2 := blk_frozen BK256.out 2; obtain ⟨Ao67, co67, eo67⟩ := Kd.R_slice HO250.out; subst eo67; obtain ⟨Ao68, co68, eo68⟩ := Kd.R_slice HO253.out; subst eo68))
              go_ret
              exact ⟨by first|rfl|(simp [errW_none, errW_some] <;> rfl)|(simp [*, errW_none, errW_some] <;> rfl), by repeat (first|(with_reducible first|exact HB.out|apply below_alloc|apply pw_below_drewN|apply below_drew1|refine below_set ?_ GE218.out|refine below_set ?_ GE240.out|refine below_set ?_ GE256.out)|exact HB.out)⟩
            ·rw [if_neg c51] at H
             have c51b0 : (t255 == 9) = false := beq_eq_false_iff_ne.mpr c51
             have c51b1 : (t255 != 9) = true := bne_iff_ne.mpr c51
             obtain rfl := Option.some.inj H
             go_wp2_with (first|((with_reducible refine gate_callee (f := 13) rfl ?_); refine goesL_ (some 76) rfl rfl Tryd.func13 (by kernel_rfl) rfl #[.int .i64 a2, .int .i64 (t221.length : Int)] rfl (by (try simp only [List.map_toArray, List.map_cons, List.map_nil]); first|done|rfl|(simp only [List.length_drop, List.length_take]; rfl)) ?_; (with_reducible refine (stowagekit_Pick.calls a2 (t221.length : Int) t242 _ A47.out).mono ?_); rintro e w' ⟨rfl, ⟨nd, rfl⟩⟩; refine ⟨_, rfl, ?_⟩; (try (rw [drewN_self wc]; generalize hq_ : World.drewN wc _ = wc; have n0_ : Aside0 (Kd.R (Kd.int .u8) 5 wc w.heap.size (fun k_ => some k_ ≠ (.slice Ao37 t235.length co37 : Value).ownBlock) (.slice Ao28 t221.length co28) t221) := ⟨by rw [← hq_]; exact (by (with_reducible repeat (first|apply Kd.R_alloc|apply Kd.R_drewN|apply Kd.R_drew)); exact HO_10.out)⟩; have n1_ : Aside0 (Kd.R k32 32 wc w.heap.size (fun _ => True) (.slice Ao36 t232.length co36) t232) := ⟨by rw [← hq_]; exact (by (with_reducible repeat (first|apply Kd.R_alloc|apply Kd.R_drewN|apply Kd.R_drew)); exact HO_241001.out)⟩; have n2_ : Aside0 (Kd.R (Kd.int .u8) 5 wc w.heap.size (fun k_ => some k_ ≠ (.slice Ao28 t221.length co28 : Value).ownBlock) (.slice Ao37 t235.length co37) t235) := ⟨by rw [← hq_]; exact (by (with_reducible repeat (first|apply Kd.R_alloc|apply Kd.R_drewN|apply Kd.R_drew)); exact HO_241002.out)⟩; have n3_ : Aside0 (wc.heap[gb218]? = some (.cells #[.int .i64 a0_0, .slice A0_1 l0_1.length c0_1, .slice A0_2 l0_2.length c0_2] 30 (0, 0))) := ⟨by rw [← hq_]; exact (by (with_reducible repeat (first|refine blk_drewN ?_ _|refine blk_drew ?_|refine blk_alloc ?_ _)); exact BK218.out)⟩; have n4_ : Aside0 (wc.heap[gb240]? = some (.cells #[.int .i64 t231, .slice Ao36 t232.length co36, .slice Ao37 t235.length co37] 30 (0, 0))) := ⟨by rw [← hq_]; exact (by (with_reducible repeat (first|refine blk_drewN ?_ _|refine blk_drew ?_|refine blk_alloc ?_ _)); exact BK240.out)⟩; have n5_ : Aside0 (Below w.heap.size w wc) := ⟨by rw [← hq_]; exact (by repeat (first|(with_reducible first|exact HB.out|apply below_alloc|apply pw_below_drewN|apply below_drew1|refine below_set ?_ GE218.out|refine below_set ?_ GE240.out)|exact HB.out))⟩; clear HO_10 HO_241001 HO_241002 BK218 BK240 HB hq_; have HO_10 := n0_; have HO_241001 := n1_; have HO_241002 := n2_; have BK218 := n3_; have BK240 := n4_; have HB := n5_; clear n0_ n1_ n2_ n3_ n4_ n5_)); have q69 : (t242 : Int) ≤ ((t221.length : Int) : Int) := of_decide_eq_true (by first|(with_reducible assumption)|assumption); obtain ⟨i069, hi069, _, hsz69, _⟩ := info_parts info5; have hroom69 : t221.length ≤ co28 := (Kd.R_reads' HO_10.out).2.1; have hC69 : Kd.C (Kd.int .u8) _ Ao28 t221.length t221 := (Kd.R_reads' HO_10.out).2.2; have hcut69 := cut_to (P := Tryd.prog) 25 5 .i64 Tryd.underlying25 hi069 Ao28 t221.length co28 t242 (of_decide_eq_true (by first|(with_reducible assumption)|assumption)) q69 hroom69; have hr69 := Kd.C_take (m := (t242 : Int).toNat) hC69 (by omega); have hy69 : y243.length = (t242 : Int).toNat := (by rw [Ny243.out, List.length_take]; omega); rw [← Ny243.out] at hr69; rw [← hy69] at hcut69; have HR246 := Aside0.mk hr69; have HC246 := Aside0.mk (show y243.length ≤ co28 from by omega); clear hr69 hC69 hroom69 hi069 hsz69; have KY69 := Aside0.mk hy69; clear hy69; have KL69 := Aside0.mk (show (t242 : Int).toNat ≤ t221.length from by omega); replace q69 := eq_true q69)|((with_reducible refine gate_callee (f := 10) rfl ?_); refine goesL_ (some 78) rfl rfl Tryd.func10 (by kernel_rfl) rfl #[.slice Ao28 y243.length co28] rfl (by (try simp only [List.map_toArray, List.map_cons, List.map_nil]); first|done|rfl|(simp only [List.length_drop, List.length_take]; rfl)) ?_; (with_reducible refine (response_Read.calls _ _ y243 t247 t248 t251 t254 t255 _ ?side1 ?side2 ?side3 A50.out).mono ?_); (case side1 => first|exact HG.out|exact GM.below (by repeat (first|(with_reducible first|exact HB.out|apply below_alloc|apply pw_below_drewN|apply below_drew1|refine below_set ?_ GE218.out|refine below_set ?_ GE240.out)|exact HB.out)) HG.out|(repeat (first|exact HG.out|apply GM.drewN|apply GM.drew))); (case side2 => repeat (first|exact (by repeat (first|(with_reducible exact HR246.out)|(with_reducible refine Kd.C_alloc ?_ _)|(with_reducible refine Kd.C_drewN ?_ _)|(with_reducible refine Kd.C_drew ?_)|exact HR246.out))|(with_reducible refine Kd.C_alloc ?_ _)|(with_reducible refine Kd.C_drewN ?_ _)|(with_reducible refine Kd.C_drew ?_))); (case side3 => exact HC246.out); rintro e w70 ⟨v249, v252, rfl, ho0, ho1, hb⟩; refine ⟨_, rfl, ?_⟩; have n0_ := Aside0.mk (Kd.R_elder' (by (with_reducible repeat (first|apply Kd.R_alloc|apply Kd.R_drewN|apply Kd.R_drew)); exact HO_10.out) (Kd.R_base ho1) hb); have n1_ := Aside0.mk (Kd.R_elder' (by (with_reducible repeat (first|apply Kd.R_alloc|apply Kd.R_drewN|apply Kd.R_drew)); exact HO_241001.out) (Kd.R_base ho0) hb); have n2_ := Aside0.mk (Kd.R_elder' (by (with_reducible repeat (first|apply Kd.R_alloc|apply Kd.R_drewN|apply Kd.R_drew)); exact HO_241002.out) (Kd.R_base ho1) hb); have n3_ := Aside0.mk (Kd.R_lower (Kd.R_new' ho0 (Kd.R_lt (by (with_reducible repeat (first|apply Kd.R_alloc|apply Kd.R_drewN|apply Kd.R_drew)); exact HO_241001.out))) (below_size (by repeat (first|(with_reducible first|exact HB.out|apply below_alloc|apply pw_below_drewN|apply below_drew1|refine below_set ?_ GE218.out|refine below_set ?_ GE240.out)|exact HB.out)))); have n4_ := Aside0.mk (Kd.R_lower (Kd.R_new' (Kd.R_new' ho1 (Kd.R_lt (by (with_reducible repeat (first|apply Kd.R_alloc|apply Kd.R_drewN|apply Kd.R_drew)); exact HO_10.out))) (Kd.R_lt (by (with_reducible repeat (first|apply Kd.R_alloc|apply Kd.R_drewN|apply Kd.R_drew)); exact HO_241002.out))) (below_size (by repeat (first|(with_reducible first|exact HB.out|apply below_alloc|apply pw_below_drewN|apply below_drew1|refine below_set ?_ GE218.out|refine below_set ?_ GE240.out)|exact HB.out)))); have n5_ := Aside0.mk (blk_below (g := gb218) (o := .cells #[.int .i64 a0_0, .slice A0_1 l0_1.length c0_1, .slice A0_2 l0_2.length c0_2] 30 (0, 0)) (by (with_reducible repeat (first|refine blk_drewN ?_ _|refine blk_drew ?_|refine blk_alloc ?_ _)); exact BK218.out) hb); have n6_ := Aside0.mk (blk_below (g := gb240) (o := .cells #[.int .i64 t231, .slice Ao36 t232.length co36, .slice Ao37 t235.length co37] 30 (0, 0)) (by (with_reducible repeat (first|refine blk_drewN ?_ _|refine blk_drew ?_|refine blk_alloc ?_ _)); exact BK240.out) hb); have n7_ := Aside0.mk (Kd.C_below (by repeat (first|(with_reducible exact HR246.out)|(with_reducible refine Kd.C_alloc ?_ _)|(with_reducible refine Kd.C_drewN ?_ _)|(with_reducible refine Kd.C_drew ?_)|exact HR246.out)) hb); have n8_ := Aside0.mk (below_step (by repeat (first|(with_reducible first|exact HB.out|apply below_alloc|apply pw_below_drewN|apply below_drew1|refine below_set ?_ GE218.out|refine below_set ?_ GE240.out)|exact HB.out)) hb); clear HO_10; clear HO_241001; clear HO_241002; clear BK218; clear BK240; clear HR246; clear HB; have HO_10 := n0_; have HO_241001 := n1_; have HO_241002 := n2_; have HO250 := n3_; have HO253 := n4_; have BK218 := n5_; have BK240 := n6_; have HR246 := n7_; have HB := n8_; clear n0_ n1_ n2_ n3_ n4_ n5_ n6_ n7_ n8_; (try clear hb); (try clear hb2); (try clear hk); (try clear hi); (try clear ho0); (try clear ho1))|((with_reducible refine gate_dst (N := 15) rfl ?_); (try (refine gate_guard (by rfl) ?_; dsimp only)); refine box_event ?hg (N := 15) ?hd (cs := #[.int .i64 0, .slice none 0 0, .slice none 0 0]) (t := 30) ?hr ?_; (case hd => rfl); (case hg => rfl); (case hr => first|(go_simp; done)|(go_simp; rfl)); intro gb256 hg w71 hbox hb; have n0_ := Aside0.mk (Kd.R_below (by (with_reducible repeat (first|apply Kd.R_alloc|apply Kd.R_drewN|apply Kd.R_drew)); exact HO_10.out) hb); have n1_ := Aside0.mk (Kd.R_below (by (with_reducible repeat (first|apply Kd.R_alloc|apply Kd.R_drewN|apply Kd.R_drew)); exact HO_241001.out) hb); have n2_ := Aside0.mk (Kd.R_below (by (with_reducible repeat (first|apply Kd.R_alloc|apply Kd.R_drewN|apply Kd.R_drew)); exact HO_241002.out) hb); have n3_ := Aside0.mk (Kd.R_below (by (with_reducible repeat (first|apply Kd.R_alloc|apply Kd.R_drewN|apply Kd.R_drew)); exact HO250.out) hb); have n4_ := Aside0.mk (Kd.R_below (by (with_reducible repeat (first|apply Kd.R_alloc|apply Kd.R_drewN|apply Kd.R_drew)); exact HO253.out) hb); have n5_ := Aside0.mk (blk_below (g := gb218) (o := .cells #[.int .i64 a0_0, .slice A0_1 l0_1.length c0_1, .slice A0_2 l0_2.length c0_2] 30 (0, 0)) (by (with_reducible repeat (first|refine blk_drewN ?_ _|refine blk_drew ?_|refine blk_alloc ?_ _)); exact BK218.out) hb); have n6_ := Aside0.mk (blk_below (g := gb240) (o := .cells #[.int .i64 t231, .slice Ao36 t232.length co36, .slice Ao37 t235.length co37] 30 (0, 0)) (by (with_reducible repeat (first|refine blk_drewN ?_ _|refine blk_drew ?_|refine blk_alloc ?_ _)); exact BK240.out) hb); have n7_ := Aside0.mk (Kd.C_below (by repeat (first|(with_reducible exact HR246.out)|(with_reducible refine Kd.C_alloc ?_ _)|(with_reducible refine Kd.C_drewN ?_ _)|(with_reducible refine Kd.C_drew ?_)|exact HR246.out)) hb); have n8_ := Aside0.mk (below_step (by repeat (first|(with_reducible first|exact HB.out|apply below_alloc|apply pw_below_drewN|apply below_drew1|refine below_set ?_ GE218.out|refine below_set ?_ GE240.out)|exact HB.out)) hb); have n9_ := Aside0.mk (hbox); have n10_ := Aside0.mk ((by rw [hg]; exact (below_size (by repeat (first|(with_reducible first|exact HB.out|apply below_alloc|apply pw_below_drewN|apply below_drew1|refine below_set ?_ GE218.out|refine below_set ?_ GE240.out)|exact HB.out))) : w.heap.size ≤ gb256)); have n11_ := Aside0.mk ((by rw [hg]; exact (below_size (by repeat (first|(with_reducible first|exact HB.out|apply below_alloc|apply pw_below_drewN|apply below_drew1|refine below_set ?_ GE218.out|refine below_set ?_ GE240.out)|exact HB.out))) : w.heap.size ≤ gb256)); have n12_ := Aside0.mk ((by rw [hg]; exact Nat.ne_of_lt (blk_lt (g := gb218) (o := .cells #[.int .i64 a0_0, .slice A0_1 l0_1.length c0_1, .slice A0_2 l0_2.length c0_2] 30 (0, 0)) (by (with_reducible repeat (first|refine blk_drewN ?_ _|refine blk_drew ?_|refine blk_alloc ?_ _)); exact BK218.out)) : gb218 ≠ gb256)); have n13_ := Aside0.mk ((by rw [hg]; exact Nat.ne_of_gt (blk_lt (g := gb218) (o := .cells #[.int .i64 a0_0, .slice A0_1 l0_1.length c0_1, .slice A0_2 l0_2.length c0_2] 30 (0, 0)) (by (with_reducible repeat (first|refine blk_drewN ?_ _|refine blk_drew ?_|refine blk_alloc ?_ _)); exact BK218.out)) : gb256 ≠ gb218)); have n14_ := Aside0.mk ((by rw [hg]; exact Nat.ne_of_lt (blk_lt (g := gb240) (o := .cells #[.int .i64 t231, .slice Ao36 t232.length co36, .slice Ao37 t235.length co37] 30 (0, 0)) (by (with_reducible repeat (first|refine blk_drewN ?_ _|refine blk_drew ?_|refine blk_alloc ?_ _)); exact BK240.out)) : gb240 ≠ gb256)); have n15_ := Aside0.mk ((by rw [hg]; exact Nat.ne_of_gt (blk_lt (g := gb240) (o := .cells #[.int .i64 t231, .slice Ao36 t232.length co36, .slice Ao37 t235.length co37] 30 (0, 0)) (by (with_reducible repeat (first|refine blk_drewN ?_ _|refine blk_drew ?_|refine blk_alloc ?_ _)); exact BK240.out)) : gb256 ≠ gb240)); clear HO_10; clear HO_241001; clear HO_241002; clear HO250; clear HO253; clear BK218; clear BK240; clear HR246; clear HB; have HO_10 := n0_; have HO_241001 := n1_; have HO_241002 := n2_; have HO250 := n3_; have HO253 := n4_; have BK218 := n5_; have BK240 := n6_; have HR246 := n7_; have HB := n8_; have BK256 := n9_; have GW256 := n10_; have GE256 := n11_; have NB218_256 := n12_; have NB256_218 := n13_; have NB240_256 := n14_; have NB256_240 := n15_; clear n0_ n1_ n2_ n3_ n4_ n5_ n6_ n7_ n8_ n9_ n10_ n11_ n12_ n13_ n14_ n15_; clear hb hbox hg; have hnb72 := NB256_218.out; have hnc72 := NB218_256.out; have hnb73 := NB256_240.out; have hnc73 := NB240_256.out; have hcz74_0 : w71.cell? ⟨gb256, 0, none⟩ = some (.int .i64 0) := (blk_cell BK256.out 0).trans rfl; have hcz74_1 : w71.cell? ⟨gb256, 1, none⟩ = some (.slice none 0 0) := (blk_cell BK256.out 1).trans rfl; have hcz74_2 : w71.cell? ⟨gb256, 2, none⟩ = some (.slice none 0 0) := (blk_cell BK256.out 2).trans rfl; have hfz74_0 := blk_frozen BK256.out 0; have hfz74_1 := blk_frozen BK256.out 1; have hfz74_2 := blk_frozen BK256.out 2; obtain ⟨Ao75, co75, eo75⟩ := Kd.R_slice HO250.out; subst eo75; obtain ⟨Ao76, co76, eo76⟩ := Kd.R_slice HO253.out; subst eo76))
             go_ret
             exact ⟨by first|rfl|(simp [errW_none, errW_some] <;> rfl)|(simp [*, errW_none, errW_some] <;> rfl), by repeat (first|(with_reducible first|exact HB.out|apply below_alloc|apply pw_below_drewN|apply below_drew1|refine below_set ?_ GE218.out|refine below_set ?_ GE240.out|refine below_set ?_ GE256.out)|exact HB.out)⟩
           ·rw [if_neg c49] at H
            exact absurd H (by simp)
          ·rw [if_neg c48] at H
           exact absurd H (by simp)
      ·rw [if_neg c25] at H
       exact absurd H (by simp)
     ·rw [if_neg c23] at H
      have c23b0 : (t224 == 0) = false := beq_eq_false_iff_ne.mpr c23
      have c23b1 : (t224 != 0) = true := bne_iff_ne.mpr c23
      (first|rw [c23b0]|(simp only [i64_w, i32_w]; rw [c23b0])|skip)
      have H' := Aside0.mk H
      clear H
      go_wp2
      go_meet
      case rel => exact ⟨_, H', ⟨by have := HJ5.out; first|omega|exact Nat.le_refl _⟩, ⟨by (with_reducible repeat (first|refine blk_drewN ?_ _|refine blk_drew ?_|refine blk_alloc ?_ _)); exact BK218.out⟩, ⟨by repeat (first|(with_reducible first|exact HB.out|apply below_alloc|apply pw_below_drewN|apply below_drew1|refine below_set ?_ GE218.out)|exact HB.out)⟩⟩
    case rest =>
     clear HC20
     try clear c1
     try clear c2
     try clear p2
     try clear c3
     try clear c4
     try clear c5
     try clear q5
     try clear c6
     try clear q6
     try clear c7
     try clear c9
     try clear c10
     try clear c11
     try clear c13
     try clear c13b0
     try clear c13b1
     try clear c18
     try clear c23
     try clear c23b0
     try clear c23b1
     try clear c25
     try clear c34
     try clear c38
     try clear c38b0
     try clear c38b1
     try clear c39
     try clear c39b0
     try clear c39b1
     try clear c40
     try clear c40b0
     try clear c40b1
     try clear c42
     try clear c46
     try clear c48
     try clear c48b0
     try clear c48b1
     try clear c49
     try clear c49b0
     try clear c49b1
     try clear c51
     try clear c51b0
     try clear c51b1
     try clear c52
     try clear c52b0
     try clear c52b1
     try clear q53
     try clear c56
     try clear c57
     try clear q61
     try clear c64
     try clear c65
     try clear q69
     try clear c72
     try clear c73
     try clear hcz11_0
     try clear hcz11_1
     try clear hcz11_2
     try clear hcz14_0
     try clear hcz14_1
     try clear hcz14_2
     try clear hcz16_0
     try clear hcz16_1
     try clear hcz16_2
     try clear hcz21_0
     try clear hcz21_1
     try clear hcz21_2
     try clear hcz35_0
     try clear hcz35_1
     try clear hcz35_2
     try clear hcz43_0
     try clear hcz43_1
     try clear hcz43_2
     try clear hcz44_0
     try clear hcz44_1
     try clear hcz44_2
     try clear hcz58_0
     try clear hcz58_1
     try clear hcz58_2
     try clear hcz66_0
     try clear hcz66_1
     try clear hcz66_2
     try clear hcz74_0
     try clear hcz74_1
     try clear hcz74_2
     try clear hfz11_0
     try clear hfz11_1
     try clear hfz11_2
     try clear hfz14_0
     try clear hfz14_1
     try clear hfz14_2
     try clear hfz16_0
     try clear hfz16_1
     try clear hfz16_2
     try clear hfz21_0
     try clear hfz21_1
     try clear hfz21_2
     try clear hfz35_0
     try clear hfz35_1
     try clear hfz35_2
     try clear hfz43_0
     try clear hfz43_1
     try clear hfz43_2
     try clear hfz44_0
     try clear hfz44_1
     try clear hfz44_2
     try clear hfz58_0
     try clear hfz58_1
     try clear hfz58_2
     try clear hfz66_0
     try clear hfz66_1
     try clear hfz66_2
     try clear hfz74_0
     try clear hfz74_1
     try clear hfz74_2
     try clear p2
     try clear q53
     try clear q61
     try clear q69
     obtain ⟨kq, HA, HJ19, BK218, HB⟩ := hcut
     cases kq with
     | zero => exact absurd HA.out (by simp [stowagelaw27_ResponseBack.j2])
     | succ kj19 =>
      have H := HA.out
      clear HA
      simp only [stowagelaw27_ResponseBack.j2] at H
      replace H := Option.bind_eq_some_iff.mp H
      obtain ⟨⟨t257, t258, t261, t264, t265⟩, A770, H⟩ := H
      replace H : (if t265 = 0 then ((response_Bytes.f kj19 t257 t258 t261).bind fun bt267 => (if t219 = true then (if bt267.2 = 0 then (if t264 ≥ 0 then (if t264 ≤ (l3.length : Int) then (if 0 ≤ t264 then ((stowagekit_SameBytes.f bt267.1 (l3.take (t264 : Int).toNat)).bind fun t272 => (some t272)) else (none)) else (some false)) else (some false)) else (some false)) else (some false))) else (some t219)) = some r := H
      have A77 := Aside0.mk A770
      clear A770
      by_cases c78 : t265 = 0
      ·rw [if_pos c78] at H
       have c78b0 : (t265 == 0) = true := beq_iff_eq.mpr c78
       have c78b1 : (t265 != 0) = false := bne_eq_false_iff_eq.mpr c78
       clear c78
       replace H := Option.bind_eq_some_iff.mp H
       obtain ⟨⟨t267, t270⟩, A790, H⟩ := H
       replace H : (if t219 = true then (if t270 = 0 then (if t264 ≥ 0 then (if t264 ≤ (l3.length : Int) then (if 0 ≤ t264 then ((stowagekit_SameBytes.f t267 (l3.take (t264 : Int).toNat)).bind fun t272 => (some t272)) else (none)) else (some false)) else (some false)) else (some false)) else (some false)) = some r := H
       have A79 := Aside0.mk A790
       clear A790
       by_cases c80 : t219 = true
       ·subst c80
        have H1 : (if t270 = 0 then (if t264 ≥ 0 then (if t264 ≤ (l3.length : Int) then (if 0 ≤ t264 then ((stowagekit_SameBytes.f t267 (l3.take (t264 : Int).toNat)).bind fun t272 => (some t272)) else (none)) else (some false)) else (some false)) else (some false)) = some r := by rw [if_pos rfl] at H; exact H
        clear H
        have H := H1
        clear H1
        by_cases c81 : t270 = 0
        ·rw [if_pos c81] at H
         have c81b0 : (t270 == 0) = true := beq_iff_eq.mpr c81
         have c81b1 : (t270 != 0) = false := bne_eq_false_iff_eq.mpr c81
         clear c81
         by_cases c82 : t264 ≥ 0
         ·rw [if_pos c82] at H
          have c82b0 : decide (0 ≤ t264) = true := decide_eq_true c82
          clear c82
          by_cases c83 : t264 ≤ (l3.length : Int)
          ·rw [if_pos c83] at H
           have c83b0 : decide (t264 ≤ (l3.length : Int)) = true := decide_eq_true c83
           clear c83
           by_cases c84 : 0 ≤ t264
           ·rw [if_pos c84] at H
            have c84b0 := eq_true c84
            have c84b1 : decide (0 ≤ t264) = true := decide_eq_true c84
            clear c84
            have c85b0 := eq_true (of_decide_eq_true (by first|(with_reducible assumption)|assumption) : t264 ≤ (l3.length : Int))
            replace H := Option.bind_eq_some_iff.mp H
            obtain ⟨t272, A860, H⟩ := H
            replace H : (some t272) = some r := H
            have A86 := Aside0.mk A860
            clear A860
            obtain rfl := Option.some.inj H
            go_wp2_with (first|((with_reducible refine gate_callee (f := 10) rfl ?_); refine goesL_ (some 90) rfl rfl Tryd.func10 (by kernel_rfl) rfl #[.slice A3 l3.length c3] rfl (by (try simp only [List.map_toArray, List.map_cons, List.map_nil]); first|done|rfl|(simp only [List.length_drop, List.length_take]; rfl)) ?_; (with_reducible refine (response_Read.calls _ _ l3 t257 t258 t261 t264 t265 _ ?side1 ?side2 ?side3 A77.out).mono ?_); (case side1 => first|exact HG.out|exact GM.below (by repeat (first|(with_reducible first|exact HB.out|apply below_alloc|apply pw_below_drewN|apply below_drew1|refine below_set ?_ GE218.out)|exact HB.out)) HG.out|(repeat (first|exact HG.out|apply GM.drewN|apply GM.drew))); (case side2 => repeat (first|exact (Kd.C_below HR3.out HB.out)|(with_reducible refine Kd.C_alloc ?_ _)|(with_reducible refine Kd.C_drewN ?_ _)|(with_reducible refine Kd.C_drew ?_))); (case side3 => exact HC3.out); rintro e w87 ⟨v259, v262, rfl, ho0, ho1, hb⟩; refine ⟨_, rfl, ?_⟩; have n0_ := Aside0.mk (Kd.R_lower ho0 (below_size (by repeat (first|(with_reducible first|exact HB.out|apply below_alloc|apply pw_below_drewN|apply below_drew1|refine below_set ?_ GE218.out)|exact HB.out)))); have n1_ := Aside0.mk (Kd.R_lower ho1 (below_size (by repeat (first|(with_reducible first|exact HB.out|apply below_alloc|apply pw_below_drewN|apply below_drew1|refine below_set ?_ GE218.out)|exact HB.out)))); have n2_ := Aside0.mk (blk_below (g := gb218) (o := .cells #[.int .i64 a0_0, .slice A0_1 l0_1.length c0_1, .slice A0_2 l0_2.length c0_2] 30 (0, 0)) (by (with_reducible repeat (first|refine blk_drewN ?_ _|refine blk_drew ?_|refine blk_alloc ?_ _)); exact BK218.out) hb); have n3_ := Aside0.mk (below_step (by repeat (first|(with_reducible first|exact HB.out|apply below_alloc|apply pw_below_drewN|apply below_drew1|refine below_set ?_ GE218.out)|exact HB.out)) hb); clear BK218; clear HB; have HO260 := n0_; have HO263 := n1_; have BK218 := n2_; have HB := n3_; clear n0_ n1_ n2_ n3_; (try clear hb); (try clear hb2); (try clear hk); (try clear hi); (try clear ho0); (try clear ho1))|((with_reducible refine gate_dst (N := 18) rfl ?_); (try (refine gate_guard (by rfl) ?_; dsimp only)); refine box_event ?hg (N := 18) ?hd (cs := #[.int .i64 0, .slice none 0 0, .slice none 0 0]) (t := 30) ?hr ?_; (case hd => rfl); (case hg => rfl); (case hr => first|(go_simp; done)|(go_simp; rfl)); intro gb266 hg w88 hbox hb; have n0_ := Aside0.mk (Kd.R_below (by (with_reducible repeat (first|apply Kd.R_alloc|apply Kd.R_drewN|apply Kd.R_drew)); exact HO260.out) hb); have n1_ := Aside0.mk (Kd.R_below (by (with_reducible repeat (first|apply Kd.R_alloc|apply Kd.R_drewN|apply Kd.R_drew)); exact HO263.out) hb); have n2_ := Aside0.mk (blk_below (g := gb218) (o := .cells #[.int .i64 a0_0, .slice A0_1 l0_1.length c0_1, .slice A0_2 l0_2.length c0_2] 30 (0, 0)) (by (with_reducible repeat (first|refine blk_drewN ?_ _|refine blk_drew ?_|refine blk_alloc ?_ _)); exact BK218.out) hb); have n3_ := Aside0.mk (below_step (by repeat (first|(with_reducible first|exact HB.out|apply below_alloc|apply pw_below_drewN|apply below_drew1|refine below_set ?_ GE218.out)|exact HB.out)) hb); have n4_ := Aside0.mk (hbox); have n5_ := Aside0.mk ((by rw [hg]; exact (below_size (by repeat (first|(with_reducible first|exact HB.out|apply below_alloc|apply pw_below_drewN|apply below_drew1|refine below_set ?_ GE218.out)|exact HB.out))) : w.heap.size ≤ gb266)); have n6_ := Aside0.mk ((by rw [hg]; exact (below_size (by repeat (first|(with_reducible first|exact HB.out|apply below_alloc|apply pw_below_drewN|apply below_drew1|refine below_set ?_ GE218.out)|exact HB.out))) : w.heap.size ≤ gb266)); have n7_ := Aside0.mk ((by rw [hg]; exact Nat.ne_of_lt (blk_lt (g := gb218) (o := .cells #[.int .i64 a0_0, .slice A0_1 l0_1.length c0_1, .slice A0_2 l0_2.length c0_2] 30 (0, 0)) (by (with_reducible repeat (first|refine blk_drewN ?_ _|refine blk_drew ?_|refine blk_alloc ?_ _)); exact BK218.out)) : gb218 ≠ gb266)); have n8_ := Aside0.mk ((by rw [hg]; exact Nat.ne_of_gt (blk_lt (g := gb218) (o := .cells #[.int .i64 a0_0, .slice A0_1 l0_1.length c0_1, .slice A0_2 l0_2.length c0_2] 30 (0, 0)) (by (with_reducible repeat (first|refine blk_drewN ?_ _|refine blk_drew ?_|refine blk_alloc ?_ _)); exact BK218.out)) : gb266 ≠ gb218)); clear HO260; clear HO263; clear BK218; clear HB; have HO260 := n0_; have HO263 := n1_; have BK218 := n2_; have HB := n3_; have BK266 := n4_; have GW266 := n5_; have GE266 := n6_; have NB218_266 := n7_; have NB266_218 := n8_; clear n0_ n1_ n2_ n3_ n4_ n5_ n6_ n7_ n8_; clear hb hbox hg; have hnb89 := NB266_218.out; have hnc89 := NB218_266.out; have hcz90_0 : w88.cell? ⟨gb266, 0, none⟩ = some (.int .i64 0) := (blk_cell BK266.out 0).trans rfl; have hcz90_1 : w88.cell? ⟨gb266, 1, none⟩ = some (.slice none 0 0) := (blk_cell BK266.out 1).trans rfl; have hcz90_2 : w88.cell? ⟨gb266, 2, none⟩ = some (.slice none 0 0) := (blk_cell BK266.out 2).trans rfl; have hfz90_0 := blk_frozen BK266.out 0; have hfz90_1 := blk_frozen BK266.out 1; have hfz90_2 := blk_frozen BK266.out 2; obtain ⟨Ao91, co91, eo91⟩ := Kd.R_slice HO260.out; subst eo91; obtain ⟨Ao92, co92, eo92⟩ := Kd.R_slice HO263.out; subst eo92)|((with_reducible refine gate_callee (f := 6) rfl ?_); refine goesL_ (some 99) rfl rfl Tryd.func6 (by kernel_rfl) rfl #[.agg #[.int .i64 t257, .slice Ao91 t258.length co91, .slice Ao92 t261.length co92]] rfl (by (try simp only [List.map_toArray, List.map_cons, List.map_nil]); first|done|rfl|(simp only [List.length_drop, List.length_take]; rfl)) ?_; (with_reducible refine (response_Bytes.calls kj19 t257 _ _ t258 _ _ t261 t267 t270 _ ?side1 ?side2 ?side3 ?side4 ?side5 A79.out).mono ?_); (case side1 => first|exact HG.out|exact GM.below (by repeat (first|(with_reducible first|exact HB.out|apply below_alloc|apply pw_below_drewN|apply below_drew1|refine below_set ?_ GE218.out|refine below_set ?_ GE266.out)|exact HB.out)) HG.out|(repeat (first|exact HG.out|apply GM.drewN|apply GM.drew))); (case side2 => refine (Kd.R_reads' (e := 32) (base := w.heap.size) (ok := fun k_ => True) (n := t258.length) (c := co91) ?_).2.2; exact (by (with_reducible repeat (first|apply Kd.R_alloc|apply Kd.R_drewN|apply Kd.R_drew)); exact (Kd.R_mono (Kd.R_far (p := ⟨gb266, 2, none⟩) (Kd.R_far (p := ⟨gb266, 1, none⟩) (Kd.R_far (p := ⟨gb266, 0, none⟩) (Kd.R_types HO260.out BK266.out (by decide)) (fun _ hk => hk.2) (.int .i64 t257)) (fun _ hk => hk.2) (.slice Ao91 t258.length co91)) (fun _ hk => hk.2) (.slice Ao92 t261.length co92)) (fun _ h_ => h_.1)))); (case side3 => exact (Kd.R_reads' HO260.out).2.1); (case side4 => refine (Kd.R_reads' (e := 5) (base := w.heap.size) (ok := fun k_ => True) (n := t261.length) (c := co92) ?_).2.2; exact (by (with_reducible repeat (first|apply Kd.R_alloc|apply Kd.R_drewN|apply Kd.R_drew)); exact (Kd.R_mono (Kd.R_far (p := ⟨gb266, 2, none⟩) (Kd.R_far (p := ⟨gb266, 1, none⟩) (Kd.R_far (p := ⟨gb266, 0, none⟩) (Kd.R_types HO263.out BK266.out (by decide)) (fun _ hk => hk.2) (.int .i64 t257)) (fun _ hk => hk.2) (.slice Ao91 t258.length co91)) (fun _ hk => hk.2) (.slice Ao92 t261.length co92)) (fun _ h_ => h_.1)))); (case side5 => exact (Kd.R_reads' HO263.out).2.1); rintro e w93 ⟨v268, rfl, ho0, hb⟩; refine ⟨_, rfl, ?_⟩; have n0_ := Aside0.mk (Kd.R_below (by (with_reducible repeat (first|apply Kd.R_alloc|apply Kd.R_drewN|apply Kd.R_drew)); exact (Kd.R_mono (Kd.R_far (p := ⟨gb266, 2, none⟩) (Kd.R_far (p := ⟨gb266, 1, none⟩) (Kd.R_far (p := ⟨gb266, 0, none⟩) (Kd.R_types HO260.out BK266.out (by decide)) (fun _ hk => hk.2) (.int .i64 t257)) (fun _ hk => hk.2) (.slice Ao91 t258.length co91)) (fun _ hk => hk.2) (.slice Ao92 t261.length co92)) (fun _ h_ => h_.1))) hb); have n1_ := Aside0.mk (Kd.R_elder' (by (with_reducible repeat (first|apply Kd.R_alloc|apply Kd.R_drewN|apply Kd.R_drew)); exact (Kd.R_mono (Kd.R_far (p := ⟨gb266, 2, none⟩) (Kd.R_far (p := ⟨gb266, 1, none⟩) (Kd.R_far (p := ⟨gb266, 0, none⟩) (Kd.R_types HO263.out BK266.out (by decide)) (fun _ hk => hk.2) (.int .i64 t257)) (fun _ hk => hk.2) (.slice Ao91 t258.length co91)) (fun _ hk => hk.2) (.slice Ao92 t261.length co92)) (fun _ h_ => h_.1))) (Kd.R_base ho0) hb); have n2_ := Aside0.mk (Kd.R_lower (Kd.R_new' ho0 (Kd.R_lt (by (with_reducible repeat (first|apply Kd.R_alloc|apply Kd.R_drewN|apply Kd.R_drew)); exact (Kd.R_mono (Kd.R_far (p := ⟨gb266, 2, none⟩) (Kd.R_far (p := ⟨gb266, 1, none⟩) (Kd.R_far (p := ⟨gb266, 0, none⟩) (Kd.R_types HO263.out BK266.out (by decide)) (fun _ hk => hk.2) (.int .i64 t257)) (fun _ hk => hk.2) (.slice Ao91 t258.length co91)) (fun _ hk => hk.2) (.slice Ao92 t261.length co92)) (fun _ h_ => h_.1))))) (below_size (by repeat (first|(with_reducible first|exact HB.out|apply below_alloc|apply pw_below_drewN|apply below_drew1|refine below_set ?_ GE218.out|refine below_set ?_ GE266.out)|exact HB.out)))); have n3_ := Aside0.mk (blk_below (g := gb218) (o := .cells #[.int .i64 a0_0, .slice A0_1 l0_1.length c0_1, .slice A0_2 l0_2.length c0_2] 30 (0, 0)) (by (with_reducible repeat (first|refine blk_drewN ?_ _|refine blk_drew ?_|refine blk_alloc ?_ _)); refine blk_far ?_ NB218_266.out _; (with_reducible repeat (first|refine blk_drewN ?_ _|refine blk_drew ?_|refine blk_alloc ?_ _)); refine blk_far ?_ NB218_266.out _; (with_reducible repeat (first|refine blk_drewN ?_ _|refine blk_drew ?_|refine blk_alloc ?_ _)); refine blk_far ?_ NB218_266.out _; (with_reducible repeat (first|refine blk_drewN ?_ _|refine blk_drew ?_|refine blk_alloc ?_ _)); exact BK218.out) hb); have n4_ := Aside0.mk (blk_below (g := gb266) (o := .cells #[.int .i64 t257, .slice Ao91 t258.length co91, .slice Ao92 t261.length co92] 30 (0, 0)) (by (with_reducible repeat (first|refine blk_drewN ?_ _|refine blk_drew ?_|refine blk_alloc ?_ _)); refine blk_put (cs := #[.int .i64 t257, .slice Ao91 t258.length co91, .slice none 0 0]) ?_ 2 _ rfl; (with_reducible repeat (first|refine blk_drewN ?_ _|refine blk_drew ?_|refine blk_alloc ?_ _)); refine blk_put (cs := #[.int .i64 t257, .slice none 0 0, .slice none 0 0]) ?_ 1 _ rfl; (with_reducible repeat (first|refine blk_drewN ?_ _|refine blk_drew ?_|refine blk_alloc ?_ _)); refine blk_put (cs := #[.int .i64 0, .slice none 0 0, .slice none 0 0]) ?_ 0 _ rfl; (with_reducible repeat (first|refine blk_drewN ?_ _|refine blk_drew ?_|refine blk_alloc ?_ _)); exact BK266.out) hb); have n5_ := Aside0.mk (below_step (by repeat (first|(with_reducible first|exact HB.out|apply below_alloc|apply pw_below_drewN|apply below_drew1|refine below_set ?_ GE218.out|refine below_set ?_ GE266.out)|exact HB.out)) hb); clear HO260; clear HO263; clear BK218; clear BK266; clear HB; have HO260 := n0_; have HO263 := n1_; have HO269 := n2_; have BK218 := n3_; have BK266 := n4_; have HB := n5_; clear n0_ n1_ n2_ n3_ n4_ n5_; (try clear hb); (try clear hb2); (try clear hk); (try clear hi); (try clear ho0); obtain ⟨i094, hi094, _, hsz94, _⟩ := info_parts info5; obtain ⟨hcut94, hA94, hC94⟩ := print_take_of (P := Tryd.prog) (Value.int .u8) 0 25 5 .i64 Tryd.underlying25 hi094 hsz94 A3 c3 l3 t264 (of_decide_eq_true (by first|(with_reducible assumption)|assumption)) (of_decide_eq_true (by first|(with_reducible assumption)|assumption)) HC3.out; have HR271 := Aside0.mk (Kd.C_of_reads (h1 := fun _ => rfl) (hA94 _ (Kd.reads_of_C HR3.out))); have HC271 := Aside0.mk hC94; clear hA94 hC94 hi094 hsz94; obtain ⟨Ao95, co95, eo95⟩ := Kd.R_slice HO269.out; subst eo95)|(go_at_call 14; rw [show (t264 : Int).toNat = (l3.take (t264 : Int).toNat).length from (by rw [List.length_take]; have hq_ : t264 ≤ (l3.length : Int) := of_decide_eq_true (by assumption); omega)]; (with_reducible refine (stowagekit_SameBytes.calls _ _ t267 _ _ (l3.take (t264 : Int).toNat) t272 _ ?side1 ?side2 ?side3 ?side4 A86.out).mono ?_); (case side1 => repeat (first|exact (Kd.R_reads' HO269.out).2.2|(with_reducible refine Kd.C_alloc ?_ _)|(with_reducible refine Kd.C_drewN ?_ _)|(with_reducible refine Kd.C_drew ?_))); (case side2 => exact (Kd.R_reads' HO269.out).2.1); (case side3 => repeat (first|exact (Kd.C_below HR271.out HB.out)|(with_reducible refine Kd.C_alloc ?_ _)|(with_reducible refine Kd.C_drewN ?_ _)|(with_reducible refine Kd.C_drew ?_))); (case side4 => exact HC271.out); rintro e w' ⟨rfl, ⟨nd, rfl⟩⟩))
            go_ret
            exact ⟨by first|rfl|(simp [errW_none, errW_some] <;> rfl)|(simp [*, errW_none, errW_some] <;> rfl), by repeat (first|(with_reducible first|exact HB.out|apply below_alloc|apply pw_below_drewN|apply below_drew1|refine below_set ?_ GE218.out|refine below_set ?_ GE266.out)|exact HB.out)⟩
           ·rw [if_neg c84] at H
            exact absurd H (by simp)
          ·rw [if_neg c83] at H
           have c83b0 : decide (t264 ≤ (l3.length : Int)) = false := decide_eq_false c83
           clear c83
           obtain rfl := Option.some.inj H
           go_wp2_with (first|((with_reducible refine gate_callee (f := 10) rfl ?_); refine goesL_ (some 90) rfl rfl Tryd.func10 (by kernel_rfl) rfl #[.slice A3 l3.length c3] rfl (by (try simp only [List.map_toArray, List.map_cons, List.map_nil]); first|done|rfl|(simp only [List.length_drop, List.length_take]; rfl)) ?_; (with_reducible refine (response_Read.calls _ _ l3 t257 t258 t261 t264 t265 _ ?side1 ?side2 ?side3 A77.out).mono ?_); (case side1 => first|exact HG.out|exact GM.below (by repeat (first|(with_reducible first|exact HB.out|apply below_alloc|apply pw_below_drewN|apply below_drew1|refine below_set ?_ GE218.out)|exact HB.out)) HG.out|(repeat (first|exact HG.out|apply GM.drewN|apply GM.drew))); (case side2 => repeat (first|exact (Kd.C_below HR3.out HB.out)|(with_reducible refine Kd.C_alloc ?_ _)|(with_reducible refine Kd.C_drewN ?_ _)|(with_reducible refine Kd.C_drew ?_))); (case side3 => exact HC3.out); rintro e w96 ⟨v259, v262, rfl, ho0, ho1, hb⟩; refine ⟨_, rfl, ?_⟩; have n0_ := Aside0.mk (Kd.R_lower ho0 (below_size (by repeat (first|(with_reducible first|exact HB.out|apply below_alloc|apply pw_below_drewN|apply below_drew1|refine below_set ?_ GE218.out)|exact HB.out)))); have n1_ := Aside0.mk (Kd.R_lower ho1 (below_size (by repeat (first|(with_reducible first|exact HB.out|apply below_alloc|apply pw_below_drewN|apply below_drew1|refine below_set ?_ GE218.out)|exact HB.out)))); have n2_ := Aside0.mk (blk_below (g := gb218) (o := .cells #[.int .i64 a0_0, .slice A0_1 l0_1.length c0_1, .slice A0_2 l0_2.length c0_2] 30 (0, 0)) (by (with_reducible repeat (first|refine blk_drewN ?_ _|refine blk_drew ?_|refine blk_alloc ?_ _)); exact BK218.out) hb); have n3_ := Aside0.mk (below_step (by repeat (first|(with_reducible first|exact HB.out|apply below_alloc|apply pw_below_drewN|apply below_drew1|refine below_set ?_ GE218.out)|exact HB.out)) hb); clear BK218; clear HB; have HO260 := n0_; have HO263 := n1_; have BK218 := n2_; have HB := n3_; clear n0_ n1_ n2_ n3_; (try clear hb); (try clear hb2); (try clear hk); (try clear hi); (try clear ho0); (try clear ho1))|((with_reducible refine gate_dst (N := 18) rfl ?_); (try (refine gate_guard (by rfl) ?_; dsimp only)); refine box_event ?hg (N := 18) ?hd (cs := #[.int .i64 0, .slice none 0 0, .slice none 0 0]) (t := 30) ?hr ?_; (case hd => rfl); (case hg => rfl); (case hr => first|(go_simp; done)|(go_simp; rfl)); intro gb266 hg w97 hbox hb; have n0_ := Aside0.mk (Kd.R_below (by (with_reducible repeat (first|apply Kd.R_alloc|apply Kd.R_drewN|apply Kd.R_drew)); exact HO260.out) hb); have n1_ := Aside0.mk (Kd.R_below (by (with_reducible repeat (first|apply Kd.R_alloc|apply Kd.R_drewN|apply Kd.R_drew)); exact HO263.out) hb); have n2_ := Aside0.mk (blk_below (g := gb218) (o := .cells #[.int .i64 a0_0, .slice A0_1 l0_1.length c0_1, .slice A0_2 l0_2.length c0_2] 30 (0, 0)) (by (with_reducible repeat (first|refine blk_drewN ?_ _|refine blk_drew ?_|refine blk_alloc ?_ _)); exact BK218.out) hb); have n3_ := Aside0.mk (below_step (by repeat (first|(with_reducible first|exact HB.out|apply below_alloc|apply pw_below_drewN|apply below_drew1|refine below_set ?_ GE218.out)|exact HB.out)) hb); have n4_ := Aside0.mk (hbox); have n5_ := Aside0.mk ((by rw [hg]; exact (below_size (by repeat (first|(with_reducible first|exact HB.out|apply below_alloc|apply pw_below_drewN|apply below_drew1|refine below_set ?_ GE218.out)|exact HB.out))) : w.heap.size ≤ gb266)); have n6_ := Aside0.mk ((by rw [hg]; exact (below_size (by repeat (first|(with_reducible first|exact HB.out|apply below_alloc|apply pw_below_drewN|apply below_drew1|refine below_set ?_ GE218.out)|exact HB.out))) : w.heap.size ≤ gb266)); have n7_ := Aside0.mk ((by rw [hg]; exact Nat.ne_of_lt (blk_lt (g := gb218) (o := .cells #[.int .i64 a0_0, .slice A0_1 l0_1.length c0_1, .slice A0_2 l0_2.length c0_2] 30 (0, 0)) (by (with_reducible repeat (first|refine blk_drewN ?_ _|refine blk_drew ?_|refine blk_alloc ?_ _)); exact BK218.out)) : gb218 ≠ gb266)); have n8_ := Aside0.mk ((by rw [hg]; exact Nat.ne_of_gt (blk_lt (g := gb218) (o := .cells #[.int .i64 a0_0, .slice A0_1 l0_1.length c0_1, .slice A0_2 l0_2.length c0_2] 30 (0, 0)) (by (with_reducible repeat (first|refine blk_drewN ?_ _|refine blk_drew ?_|refine blk_alloc ?_ _)); exact BK218.out)) : gb266 ≠ gb218)); clear HO260; clear HO263; clear BK218; clear HB; have HO260 := n0_; have HO263 := n1_; have BK218 := n2_; have HB := n3_; have BK266 := n4_; have GW266 := n5_; have GE266 := n6_; have NB218_266 := n7_; have NB266_218 := n8_; clear n0_ n1_ n2_ n3_ n4_ n5_ n6_ n7_ n8_; clear hb hbox hg; have hnb98 := NB266_218.out; have hnc98 := NB218_266.out; have hcz99_0 : w97.cell? ⟨gb266, 0, none⟩ = some (.int .i64 0) := (blk_cell BK266.out 0).trans rfl; have hcz99_1 : w97.cell? ⟨gb266, 1, none⟩ = some (.slice none 0 0) := (blk_cell BK266.out 1).trans rfl; have hcz99_2 : w97.cell? ⟨gb266, 2, none⟩ = some (.slice none 0 0) := (blk_cell BK266.out 2).trans rfl; have hfz99_0 := blk_frozen BK266.out 0; have hfz99_1 := blk_frozen BK266.out 1; have hfz99_2 := blk_frozen BK266.out 2; obtain ⟨Ao100, co100, eo100⟩ := Kd.R_slice HO260.out; subst eo100; obtain ⟨Ao101, co101, eo101⟩ := Kd.R_slice HO263.out; subst eo101)|((with_reducible refine gate_callee (f := 6) rfl ?_); refine goesL_ (some 99) rfl rfl Tryd.func6 (by kernel_rfl) rfl #[.agg #[.int .i64 t257, .slice Ao100 t258.length co100, .slice Ao101 t261.length co101]] rfl (by (try simp only [List.map_toArray, List.map_cons, List.map_nil]); first|done|rfl|(simp only [List.length_drop, List.length_take]; rfl)) ?_; (with_reducible refine (response_Bytes.calls kj19 t257 _ _ t258 _ _ t261 t267 t270 _ ?side1 ?side2 ?side3 ?side4 ?side5 A79.out).mono ?_); (case side1 => first|exact HG.out|exact GM.below (by repeat (first|(with_reducible first|exact HB.out|apply below_alloc|apply pw_below_drewN|apply below_drew1|refine below_set ?_ GE218.out|refine below_set ?_ GE266.out)|exact HB.out)) HG.out|(repeat (first|exact HG.out|apply GM.drewN|apply GM.drew))); (case side2 => refine (Kd.R_reads' (e := 32) (base := w.heap.size) (ok := fun k_ => True) (n := t258.length) (c := co100) ?_).2.2; exact (by (with_reducible repeat (first|apply Kd.R_alloc|apply Kd.R_drewN|apply Kd.R_drew)); exact (Kd.R_mono (Kd.R_far (p := ⟨gb266, 2, none⟩) (Kd.R_far (p := ⟨gb266, 1, none⟩) (Kd.R_far (p := ⟨gb266, 0, none⟩) (Kd.R_types HO260.out BK266.out (by decide)) (fun _ hk => hk.2) (.int .i64 t257)) (fun _ hk => hk.2) (.slice Ao100 t258.length co100)) (fun _ hk => hk.2) (.slice Ao101 t261.length co101)) (fun _ h_ => h_.1)))); (case side3 => exact (Kd.R_reads' HO260.out).2.1); (case side4 => refine (Kd.R_reads' (e := 5) (base := w.heap.size) (ok := fun k_ => True) (n := t261.length) (c := co101) ?_).2.2; exact (by (with_reducible repeat (first|apply Kd.R_alloc|apply Kd.R_drewN|apply Kd.R_drew)); exact (Kd.R_mono (Kd.R_far (p := ⟨gb266, 2, none⟩) (Kd.R_far (p := ⟨gb266, 1, none⟩) (Kd.R_far (p := ⟨gb266, 0, none⟩) (Kd.R_types HO263.out BK266.out (by decide)) (fun _ hk => hk.2) (.int .i64 t257)) (fun _ hk => hk.2) (.slice Ao100 t258.length co100)) (fun _ hk => hk.2) (.slice Ao101 t261.length co101)) (fun _ h_ => h_.1)))); (case side5 => exact (Kd.R_reads' HO263.out).2.1); rintro e w102 ⟨v268, rfl, ho0, hb⟩; refine ⟨_, rfl, ?_⟩; have n0_ := Aside0.mk (Kd.R_below (by (with_reducible repeat (first|apply Kd.R_alloc|apply Kd.R_drewN|apply Kd.R_drew)); exact (Kd.R_mono (Kd.R_far (p := ⟨gb266, 2, none⟩) (Kd.R_far (p := ⟨gb266, 1, none⟩) (Kd.R_far (p := ⟨gb266, 0, none⟩) (Kd.R_types HO260.out BK266.out (by decide)) (fun _ hk => hk.2) (.int .i64 t257)) (fun _ hk => hk.2) (.slice Ao100 t258.length co100)) (fun _ hk => hk.2) (.slice Ao101 t261.length co101)) (fun _ h_ => h_.1))) hb); have n1_ := Aside0.mk (Kd.R_elder' (by (with_reducible repeat (first|apply Kd.R_alloc|apply Kd.R_drewN|apply Kd.R_drew)); exact (Kd.R_mono (Kd.R_far (p := ⟨gb266, 2, none⟩) (Kd.R_far (p := ⟨gb266, 1, none⟩) (Kd.R_far (p := ⟨gb266, 0, none⟩) (Kd.R_types HO263.out BK266.out (by decide)) (fun _ hk => hk.2) (.int .i64 t257)) (fun _ hk => hk.2) (.slice Ao100 t258.length co100)) (fun _ hk => hk.2) (.slice Ao101 t261.length co101)) (fun _ h_ => h_.1))) (Kd.R_base ho0) hb); have n2_ := Aside0.mk (Kd.R_lower (Kd.R_new' ho0 (Kd.R_lt (by (with_reducible repeat (first|apply Kd.R_alloc|apply Kd.R_drewN|apply Kd.R_drew)); exact (Kd.R_mono (Kd.R_far (p := ⟨gb266, 2, none⟩) (Kd.R_far (p := ⟨gb266, 1, none⟩) (Kd.R_far (p := ⟨gb266, 0, none⟩) (Kd.R_types HO263.out BK266.out (by decide)) (fun _ hk => hk.2) (.int .i64 t257)) (fun _ hk => hk.2) (.slice Ao100 t258.length co100)) (fun _ hk => hk.2) (.slice Ao101 t261.length co101)) (fun _ h_ => h_.1))))) (below_size (by repeat (first|(with_reducible first|exact HB.out|apply below_alloc|apply pw_below_drewN|apply below_drew1|refine below_set ?_ GE218.out|refine below_set ?_ GE266.out)|exact HB.out)))); have n3_ := Aside0.mk (blk_below (g := gb218) (o := .cells #[.int .i64 a0_0, .slice A0_1 l0_1.length c0_1, .slice A0_2 l0_2.length c0_2] 30 (0, 0)) (by (with_reducible repeat (first|refine blk_drewN ?_ _|refine blk_drew ?_|refine blk_alloc ?_ _)); refine blk_far ?_ NB218_266.out _; (with_reducible repeat (first|refine blk_drewN ?_ _|refine blk_drew ?_|refine blk_alloc ?_ _)); refine blk_far ?_ NB218_266.out _; (with_reducible repeat (first|refine blk_drewN ?_ _|refine blk_drew ?_|refine blk_alloc ?_ _)); refine blk_far ?_ NB218_266.out _; (with_reducible repeat (first|refine blk_drewN ?_ _|refine blk_drew ?_|refine blk_alloc ?_ _)); exact BK218.out) hb); have n4_ := Aside0.mk (blk_below (g := gb266) (o := .cells #[.int .i64 t257, .slice Ao100 t258.length co100, .slice Ao101 t261.length co101] 30 (0, 0)) (by (with_reducible repeat (first|refine blk_drewN ?_ _|refine blk_drew ?_|refine blk_alloc ?_ _)); refine blk_put (cs := #[.int .i64 t257, .slice Ao100 t258.length co100, .slice none 0 0]) ?_ 2 _ rfl; (with_reducible repeat (first|refine blk_drewN ?_ _|refine blk_drew ?_|refine blk_alloc ?_ _)); refine blk_put (cs := #[.int .i64 t257, .slice none 0 0, .slice none 0 0]) ?_ 1 _ rfl; (with_reducible repeat (first|refine blk_drewN ?_ _|refine blk_drew ?_|refine blk_alloc ?_ _)); refine blk_put (cs := #[.int .i64 0, .slice none 0 0, .slice none 0 0]) ?_ 0 _ rfl; (with_reducible repeat (first|refine blk_drewN ?_ _|refine blk_drew ?_|refine blk_alloc ?_ _)); exact BK266.out) hb); have n5_ := Aside0.mk (below_step (by repeat (first|(with_reducible first|exact HB.out|apply below_alloc|apply pw_below_drewN|apply below_drew1|refine below_set ?_ GE218.out|refine below_set ?_ GE266.out)|exact HB.out)) hb); clear HO260; clear HO263; clear BK218; clear BK266; clear HB; have HO260 := n0_; have HO263 := n1_; have HO269 := n2_; have BK218 := n3_; have BK266 := n4_; have HB := n5_; clear n0_ n1_ n2_ n3_ n4_ n5_; (try clear hb); (try clear hb2); (try clear hk); (try clear hi); (try clear ho0)))
           go_ret
           exact ⟨by first|rfl|(simp [errW_none, errW_some] <;> rfl)|(simp [*, errW_none, errW_some] <;> rfl), by repeat (first|(with_reducible first|exact HB.out|apply below_alloc|apply pw_below_drewN|apply below_drew1|refine below_set ?_ GE218.out|refine below_set ?_ GE266.out)|exact HB.out)⟩
         ·rw [if_neg c82] at H
          have c82b0 : decide (0 ≤ t264) = false := decide_eq_false c82
          clear c82
          obtain rfl := Option.some.inj H
          go_wp2_with (first|((with_reducible refine gate_callee (f := 10) rfl ?_); refine goesL_ (some 90) rfl rfl Tryd.func10 (by kernel_rfl) rfl #[.slice A3 l3.length c3] rfl (by (try simp only [List.map_toArray, List.map_cons, List.map_nil]); first|done|rfl|(simp only [List.length_drop, List.length_take]; rfl)) ?_; (with_reducible refine (response_Read.calls _ _ l3 t257 t258 t261 t264 t265 _ ?side1 ?side2 ?side3 A77.out).mono ?_); (case side1 => first|exact HG.out|exact GM.below (by repeat (first|(with_reducible first|exact HB.out|apply below_alloc|apply pw_below_drewN|apply below_drew1|refine below_set ?_ GE218.out)|exact HB.out)) HG.out|(repeat (first|exact HG.out|apply GM.drewN|apply GM.drew))); (case side2 => repeat (first|exact (Kd.C_below HR3.out HB.out)|(with_reducible refine Kd.C_alloc ?_ _)|(with_reducible refine Kd.C_drewN ?_ _)|(with_reducible refine Kd.C_drew ?_))); (case side3 => exact HC3.out); rintro e w103 ⟨v259, v262, rfl, ho0, ho1, hb⟩; refine ⟨_, rfl, ?_⟩; have n0_ := Aside0.mk (Kd.R_lower ho0 (below_size (by repeat (first|(with_reducible first|exact HB.out|apply below_alloc|apply pw_below_drewN|apply below_drew1|refine below_set ?_ GE218.out)|exact HB.out)))); have n1_ := Aside0.mk (Kd.R_lower ho1 (below_size (by repeat (first|(with_reducible first|exact HB.out|apply below_alloc|apply pw_below_drewN|apply below_drew1|refine below_set ?_ GE218.out)|exact HB.out)))); have n2_ := Aside0.mk (blk_below (g := gb218) (o := .cells #[.int .i64 a0_0, .slice A0_1 l0_1.length c0_1, .slice A0_2 l0_2.length c0_2] 30 (0, 0)) (by (with_reducible repeat (first|refine blk_drewN ?_ _|refine blk_drew ?_|refine blk_alloc ?_ _)); exact BK218.out) hb); have n3_ := Aside0.mk (below_step (by repeat (first|(with_reducible first|exact HB.out|apply below_alloc|apply pw_below_drewN|apply below_drew1|refine below_set ?_ GE218.out)|exact HB.out)) hb); clear BK218; clear HB; have HO260 := n0_; have HO263 := n1_; have BK218 := n2_; have HB := n3_; clear n0_ n1_ n2_ n3_; (try clear hb); (try clear hb2); (try clear hk); (try clear hi); (try clear ho0); (try clear ho1))|((with_reducible refine gate_dst (N := 18) rfl ?_); (try (refine gate_guard (by rfl) ?_; dsimp only)); refine box_event ?hg (N := 18) ?hd (cs := #[.int .i64 0, .slice none 0 0, .slice none 0 0]) (t := 30) ?hr ?_; (case hd => rfl); (case hg => rfl); (case hr => first|(go_simp; done)|(go_simp; rfl)); intro gb266 hg w104 hbox hb; have n0_ := Aside0.mk (Kd.R_below (by (with_reducible repeat (first|apply Kd.R_alloc|apply Kd.R_drewN|apply Kd.R_drew)); exact HO260.out) hb); have n1_ := Aside0.mk (Kd.R_below (by (with_reducible repeat (first|apply Kd.R_alloc|apply Kd.R_drewN|apply Kd.R_drew)); exact HO263.out) hb); have n2_ := Aside0.mk (blk_below (g := gb218) (o := .cells #[.int .i64 a0_0, .slice A0_1 l0_1.length c0_1, .slice A0_2 l0_2.length c0_2] 30 (0, 0)) (by (with_reducible repeat (first|refine blk_drewN ?_ _|refine blk_drew ?_|refine blk_alloc ?_ _)); exact BK218.out) hb); have n3_ := Aside0.mk (below_step (by repeat (first|(with_reducible first|exact HB.out|apply below_alloc|apply pw_below_drewN|apply below_drew1|refine below_set ?_ GE218.out)|exact HB.out)) hb); have n4_ := Aside0.mk (hbox); have n5_ := Aside0.mk ((by rw [hg]; exact (below_size (by repeat (first|(with_reducible first|exact HB.out|apply below_alloc|apply pw_below_drewN|apply below_drew1|refine below_set ?_ GE218.out)|exact HB.out))) : w.heap.size ≤ gb266)); have n6_ := Aside0.mk ((by rw [hg]; exact (below_size (by repeat (first|(with_reducible first|exact HB.out|apply below_alloc|apply pw_below_drewN|apply below_drew1|refine below_set ?_ GE218.out)|exact HB.out))) : w.heap.size ≤ gb266)); have n7_ := Aside0.mk ((by rw [hg]; exact Nat.ne_of_lt (blk_lt (g := gb218) (o := .cells #[.int .i64 a0_0, .slice A0_1 l0_1.length c0_1, .slice A0_2 l0_2.length c0_2] 30 (0, 0)) (by (with_reducible repeat (first|refine blk_drewN ?_ _|refine blk_drew ?_|refine blk_alloc ?_ _)); exact BK218.out)) : gb218 ≠ gb266)); have n8_ := Aside0.mk ((by rw [hg]; exact Nat.ne_of_gt (blk_lt (g := gb218) (o := .cells #[.int .i64 a0_0, .slice A0_1 l0_1.length c0_1, .slice A0_2 l0_2.length c0_2] 30 (0, 0)) (by (with_reducible repeat (first|refine blk_drewN ?_ _|refine blk_drew ?_|refine blk_alloc ?_ _)); exact BK218.out)) : gb266 ≠ gb218)); clear HO260; clear HO263; clear BK218; clear HB; have HO260 := n0_; have HO263 := n1_; have BK218 := n2_; have HB := n3_; have BK266 := n4_; have GW266 := n5_; have GE266 := n6_; have NB218_266 := n7_; have NB266_218 := n8_; clear n0_ n1_ n2_ n3_ n4_ n5_ n6_ n7_ n8_; clear hb hbox hg; have hnb105 := NB266_218.out; have hnc105 := NB218_266.out; have hcz106_0 : w104.cell? ⟨gb266, 0, none⟩ = some (.int .i64 0) := (blk_cell BK266.out 0).trans rfl; have hcz106_1 : w104.cell? ⟨gb266, 1, none⟩ = some (.slice none 0 0) := (blk_cell BK266.out 1).trans rfl; have hcz106_2 : w104.cell? ⟨gb266, 2, none⟩ = some (.slice none 0 0) := (blk_cell BK266.out 2).trans rfl; have hfz106_0 := blk_frozen BK266.out 0; have hfz106_1 := blk_frozen BK266.out 1; have hfz106_2 := blk_frozen BK266.out 2; obtain ⟨Ao107, co107, eo107⟩ := Kd.R_slice HO260.out; subst eo107; obtain ⟨Ao108, co108, eo108⟩ := Kd.R_slice HO263.out; subst eo108)|((with_reducible refine gate_callee (f := 6) rfl ?_); refine goesL_ (some 99) rfl rfl Tryd.func6 (by kernel_rfl) rfl #[.agg #[.int .i64 t257, .slice Ao107 t258.length co107, .slice Ao108 t261.length co108]] rfl (by (try simp only [List.map_toArray, List.map_cons, List.map_nil]); first|done|rfl|(simp only [List.length_drop, List.length_take]; rfl)) ?_; (with_reducible refine (response_Bytes.calls kj19 t257 _ _ t258 _ _ t261 t267 t270 _ ?side1 ?side2 ?side3 ?side4 ?side5 A79.out).mono ?_); (case side1 => first|exact HG.out|exact GM.below (by repeat (first|(with_reducible first|exact HB.out|apply below_alloc|apply pw_below_drewN|apply below_drew1|refine below_set ?_ GE218.out|refine below_set ?_ GE266.out)|exact HB.out)) HG.out|(repeat (first|exact HG.out|apply GM.drewN|apply GM.drew))); (case side2 => refine (Kd.R_reads' (e := 32) (base := w.heap.size) (ok := fun k_ => True) (n := t258.length) (c := co107) ?_).2.2; exact (by (with_reducible repeat (first|apply Kd.R_alloc|apply Kd.R_drewN|apply Kd.R_drew)); exact (Kd.R_mono (Kd.R_far (p := ⟨gb266, 2, none⟩) (Kd.R_far (p := ⟨gb266, 1, none⟩) (Kd.R_far (p := ⟨gb266, 0, none⟩) (Kd.R_types HO260.out BK266.out (by decide)) (fun _ hk => hk.2) (.int .i64 t257)) (fun _ hk => hk.2) (.slice Ao107 t258.length co107)) (fun _ hk => hk.2) (.slice Ao108 t261.length co108)) (fun _ h_ => h_.1)))); (case side3 => exact (Kd.R_reads' HO260.out).2.1); (case side4 => refine (Kd.R_reads' (e := 5) (base := w.heap.size) (ok := fun k_ => True) (n := t261.length) (c := co108) ?_).2.2; exact (by (with_reducible repeat (first|apply Kd.R_alloc|apply Kd.R_drewN|apply Kd.R_drew)); exact (Kd.R_mono (Kd.R_far (p := ⟨gb266, 2, none⟩) (Kd.R_far (p := ⟨gb266, 1, none⟩) (Kd.R_far (p := ⟨gb266, 0, none⟩) (Kd.R_types HO263.out BK266.out (by decide)) (fun _ hk => hk.2) (.int .i64 t257)) (fun _ hk => hk.2) (.slice Ao107 t258.length co107)) (fun _ hk => hk.2) (.slice Ao108 t261.length co108)) (fun _ h_ => h_.1)))); (case side5 => exact (Kd.R_reads' HO263.out).2.1); rintro e w109 ⟨v268, rfl, ho0, hb⟩; refine ⟨_, rfl, ?_⟩; have n0_ := Aside0.mk (Kd.R_below (by (with_reducible repeat (first|apply Kd.R_alloc|apply Kd.R_drewN|apply Kd.R_drew)); exact (Kd.R_mono (Kd.R_far (p := ⟨gb266, 2, none⟩) (Kd.R_far (p := ⟨gb266, 1, none⟩) (Kd.R_far (p := ⟨gb266, 0, none⟩) (Kd.R_types HO260.out BK266.out (by decide)) (fun _ hk => hk.2) (.int .i64 t257)) (fun _ hk => hk.2) (.slice Ao107 t258.length co107)) (fun _ hk => hk.2) (.slice Ao108 t261.length co108)) (fun _ h_ => h_.1))) hb); have n1_ := Aside0.mk (Kd.R_elder' (by (with_reducible repeat (first|apply Kd.R_alloc|apply Kd.R_drewN|apply Kd.R_drew)); exact (Kd.R_mono (Kd.R_far (p := ⟨gb266, 2, none⟩) (Kd.R_far (p := ⟨gb266, 1, none⟩) (Kd.R_far (p := ⟨gb266, 0, none⟩) (Kd.R_types HO263.out BK266.out (by decide)) (fun _ hk => hk.2) (.int .i64 t257)) (fun _ hk => hk.2) (.slice Ao107 t258.length co107)) (fun _ hk => hk.2) (.slice Ao108 t261.length co108)) (fun _ h_ => h_.1))) (Kd.R_base ho0) hb); have n2_ := Aside0.mk (Kd.R_lower (Kd.R_new' ho0 (Kd.R_lt (by (with_reducible repeat (first|apply Kd.R_alloc|apply Kd.R_drewN|apply Kd.R_drew)); exact (Kd.R_mono (Kd.R_far (p := ⟨gb266, 2, none⟩) (Kd.R_far (p := ⟨gb266, 1, none⟩) (Kd.R_far (p := ⟨gb266, 0, none⟩) (Kd.R_types HO263.out BK266.out (by decide)) (fun _ hk => hk.2) (.int .i64 t257)) (fun _ hk => hk.2) (.slice Ao107 t258.length co107)) (fun _ hk => hk.2) (.slice Ao108 t261.length co108)) (fun _ h_ => h_.1))))) (below_size (by repeat (first|(with_reducible first|exact HB.out|apply below_alloc|apply pw_below_drewN|apply below_drew1|refine below_set ?_ GE218.out|refine below_set ?_ GE266.out)|exact HB.out)))); have n3_ := Aside0.mk (blk_below (g := gb218) (o := .cells #[.int .i64 a0_0, .slice A0_1 l0_1.length c0_1, .slice A0_2 l0_2.length c0_2] 30 (0, 0)) (by (with_reducible repeat (first|refine blk_drewN ?_ _|refine blk_drew ?_|refine blk_alloc ?_ _)); refine blk_far ?_ NB218_266.out _; (with_reducible repeat (first|refine blk_drewN ?_ _|refine blk_drew ?_|refine blk_alloc ?_ _)); refine blk_far ?_ NB218_266.out _; (with_reducible repeat (first|refine blk_drewN ?_ _|refine blk_drew ?_|refine blk_alloc ?_ _)); refine blk_far ?_ NB218_266.out _; (with_reducible repeat (first|refine blk_drewN ?_ _|refine blk_drew ?_|refine blk_alloc ?_ _)); exact BK218.out) hb); have n4_ := Aside0.mk (blk_below (g := gb266) (o := .cells #[.int .i64 t257, .slice Ao107 t258.length co107, .slice Ao108 t261.length co108] 30 (0, 0)) (by (with_reducible repeat (first|refine blk_drewN ?_ _|refine blk_drew ?_|refine blk_alloc ?_ _)); refine blk_put (cs := #[.int .i64 t257, .slice Ao107 t258.length co107, .slice none 0 0]) ?_ 2 _ rfl; (with_reducible repeat (first|refine blk_drewN ?_ _|refine blk_drew ?_|refine blk_alloc ?_ _)); refine blk_put (cs := #[.int .i64 t257, .slice none 0 0, .slice none 0 0]) ?_ 1 _ rfl; (with_reducible repeat (first|refine blk_drewN ?_ _|refine blk_drew ?_|refine blk_alloc ?_ _)); refine blk_put (cs := #[.int .i64 0, .slice none 0 0, .slice none 0 0]) ?_ 0 _ rfl; (with_reducible repeat (first|refine blk_drewN ?_ _|refine blk_drew ?_|refine blk_alloc ?_ _)); exact BK266.out) hb); have n5_ := Aside0.mk (below_step (by repeat (first|(with_reducible first|exact HB.out|apply below_alloc|apply pw_below_drewN|apply below_drew1|refine below_set ?_ GE218.out|refine below_set ?_ GE266.out)|exact HB.out)) hb); clear HO260; clear HO263; clear BK218; clear BK266; clear HB; have HO260 := n0_; have HO263 := n1_; have HO269 := n2_; have BK218 := n3_; have BK266 := n4_; have HB := n5_; clear n0_ n1_ n2_ n3_ n4_ n5_; (try clear hb); (try clear hb2); (try clear hk); (try clear hi); (try clear ho0)))
          go_ret
          exact ⟨by first|rfl|(simp [errW_none, errW_some] <;> rfl)|(simp [*, errW_none, errW_some] <;> rfl), by repeat (first|(with_reducible first|exact HB.out|apply below_alloc|apply pw_below_drewN|apply below_drew1|refine below_set ?_ GE218.out|refine below_set ?_ GE266.out)|exact HB.out)⟩
        ·rw [if_neg c81] at H
         have c81b0 : (t270 == 0) = false := beq_eq_false_iff_ne.mpr c81
         have c81b1 : (t270 != 0) = true := bne_iff_ne.mpr c81
         obtain rfl := Option.some.inj H
         go_wp2_with (first|((with_reducible refine gate_callee (f := 10) rfl ?_); refine goesL_ (some 90) rfl rfl Tryd.func10 (by kernel_rfl) rfl #[.slice A3 l3.length c3] rfl (by (try simp only [List.map_toArray, List.map_cons, List.map_nil]); first|done|rfl|(simp only [List.length_drop, List.length_take]; rfl)) ?_; (with_reducible refine (response_Read.calls _ _ l3 t257 t258 t261 t264 t265 _ ?side1 ?side2 ?side3 A77.out).mono ?_); (case side1 => first|exact HG.out|exact GM.below (by repeat (first|(with_reducible first|exact HB.out|apply below_alloc|apply pw_below_drewN|apply below_drew1|refine below_set ?_ GE218.out)|exact HB.out)) HG.out|(repeat (first|exact HG.out|apply GM.drewN|apply GM.drew))); (case side2 => repeat (first|exact (Kd.C_below HR3.out HB.out)|(with_reducible refine Kd.C_alloc ?_ _)|(with_reducible refine Kd.C_drewN ?_ _)|(with_reducible refine Kd.C_drew ?_))); (case side3 => exact HC3.out); rintro e w110 ⟨v259, v262, rfl, ho0, ho1, hb⟩; refine ⟨_, rfl, ?_⟩; have n0_ := Aside0.mk (Kd.R_lower ho0 (below_size (by repeat (first|(with_reducible first|exact HB.out|apply below_alloc|apply pw_below_drewN|apply below_drew1|refine below_set ?_ GE218.out)|exact HB.out)))); have n1_ := Aside0.mk (Kd.R_lower ho1 (below_size (by repeat (first|(with_reducible first|exact HB.out|apply below_alloc|apply pw_below_drewN|apply below_drew1|refine below_set ?_ GE218.out)|exact HB.out)))); have n2_ := Aside0.mk (blk_below (g := gb218) (o := .cells #[.int .i64 a0_0, .slice A0_1 l0_1.length c0_1, .slice A0_2 l0_2.length c0_2] 30 (0, 0)) (by (with_reducible repeat (first|refine blk_drewN ?_ _|refine blk_drew ?_|refine blk_alloc ?_ _)); exact BK218.out) hb); have n3_ := Aside0.mk (below_step (by repeat (first|(with_reducible first|exact HB.out|apply below_alloc|apply pw_below_drewN|apply below_drew1|refine below_set ?_ GE218.out)|exact HB.out)) hb); clear BK218; clear HB; have HO260 := n0_; have HO263 := n1_; have BK218 := n2_; have HB := n3_; clear n0_ n1_ n2_ n3_; (try clear hb); (try clear hb2); (try clear hk); (try clear hi); (try clear ho0); (try clear ho1))|((with_reducible refine gate_dst (N := 18) rfl ?_); (try (refine gate_guard (by rfl) ?_; dsimp only)); refine box_event ?hg (N := 18) ?hd (cs := #[.int .i64 0, .slice none 0 0, .slice none 0 0]) (t := 30) ?hr ?_; (case hd => rfl); (case hg => rfl); (case hr => first|(go_simp; done)|(go_simp; rfl)); intro gb266 hg w111 hbox hb; have n0_ := Aside0.mk (Kd.R_below (by (with_reducible repeat (first|apply Kd.R_alloc|apply Kd.R_drewN|apply Kd.R_drew)); exact HO260.out) hb); have n1_ := Aside0.mk (Kd.R_below (by (with_reducible repeat (first|apply Kd.R_alloc|apply Kd.R_drewN|apply Kd.R_drew)); exact HO263.out) hb); have n2_ := Aside0.mk (blk_below (g := gb218) (o := .cells #[.int .i64 a0_0, .slice A0_1 l0_1.length c0_1, .slice A0_2 l0_2.length c0_2] 30 (0, 0)) (by (with_reducible repeat (first|refine blk_drewN ?_ _|refine blk_drew ?_|refine blk_alloc ?_ _)); exact BK218.out) hb); have n3_ := Aside0.mk (below_step (by repeat (first|(with_reducible first|exact HB.out|apply below_alloc|apply pw_below_drewN|apply below_drew1|refine below_set ?_ GE218.out)|exact HB.out)) hb); have n4_ := Aside0.mk (hbox); have n5_ := Aside0.mk ((by rw [hg]; exact (below_size (by repeat (first|(with_reducible first|exact HB.out|apply below_alloc|apply pw_below_drewN|apply below_drew1|refine below_set ?_ GE218.out)|exact HB.out))) : w.heap.size ≤ gb266)); have n6_ := Aside0.mk ((by rw [hg]; exact (below_size (by repeat (first|(with_reducible first|exact HB.out|apply below_alloc|apply pw_below_drewN|apply below_drew1|refine below_set ?_ GE218.out)|exact HB.out))) : w.heap.size ≤ gb266)); have n7_ := Aside0.mk ((by rw [hg]; exact Nat.ne_of_lt (blk_lt (g := gb218) (o := .cells #[.int .i64 a0_0, .slice A0_1 l0_1.length c0_1, .slice A0_2 l0_2.length c0_2] 30 (0, 0)) (by (with_reducible repeat (first|refine blk_drewN ?_ _|refine blk_drew ?_|refine blk_alloc ?_ _)); exact BK218.out)) : gb218 ≠ gb266)); have n8_ := Aside0.mk ((by rw [hg]; exact Nat.ne_of_gt (blk_lt (g := gb218) (o := .cells #[.int .i64 a0_0, .slice A0_1 l0_1.length c0_1, .slice A0_2 l0_2.length c0_2] 30 (0, 0)) (by (with_reducible repeat (first|refine blk_drewN ?_ _|refine blk_drew ?_|refine blk_alloc ?_ _)); exact BK218.out)) : gb266 ≠ gb218)); clear HO260; clear HO263; clear BK218; clear HB; have HO260 := n0_; have HO263 := n1_; have BK218 := n2_; have HB := n3_; have BK266 := n4_; have GW266 := n5_; have GE266 := n6_; have NB218_266 := n7_; have NB266_218 := n8_; clear n0_ n1_ n2_ n3_ n4_ n5_ n6_ n7_ n8_; clear hb hbox hg; have hnb112 := NB266_218.out; have hnc112 := NB218_266.out; have hcz113_0 : w111.cell? ⟨gb266, 0, none⟩ = some (.int .i64 0) := (blk_cell BK266.out 0).trans rfl; have hcz113_1 : w111.cell? ⟨gb266, 1, none⟩ = some (.slice none 0 0) := (blk_cell BK266.out 1).trans rfl; have hcz113_2 : w111.cell? ⟨gb266, 2, none⟩ = some (.slice none 0 0) := (blk_cell BK266.out 2).trans rfl; have hfz113_0 := blk_frozen BK266.out 0; have hfz113_1 := blk_frozen BK266.out 1; have hfz113_2 := blk_frozen BK266.out 2; obtain ⟨Ao114, co114, eo114⟩ := Kd.R_slice HO260.out; subst eo114; obtain ⟨Ao115, co115, eo115⟩ := Kd.R_slice HO263.out; subst eo115)|((with_reducible refine gate_callee (f := 6) rfl ?_); refine goesL_ (some 99) rfl rfl Tryd.func6 (by kernel_rfl) rfl #[.agg #[.int .i64 t257, .slice Ao114 t258.length co114, .slice Ao115 t261.length co115]] rfl (by (try simp only [List.map_toArray, List.map_cons, List.map_nil]); first|done|rfl|(simp only [List.length_drop, List.length_take]; rfl)) ?_; (with_reducible refine (response_Bytes.calls kj19 t257 _ _ t258 _ _ t261 t267 t270 _ ?side1 ?side2 ?side3 ?side4 ?side5 A79.out).mono ?_); (case side1 => first|exact HG.out|exact GM.below (by repeat (first|(with_reducible first|exact HB.out|apply below_alloc|apply pw_below_drewN|apply below_drew1|refine below_set ?_ GE218.out|refine below_set ?_ GE266.out)|exact HB.out)) HG.out|(repeat (first|exact HG.out|apply GM.drewN|apply GM.drew))); (case side2 => refine (Kd.R_reads' (e := 32) (base := w.heap.size) (ok := fun k_ => True) (n := t258.length) (c := co114) ?_).2.2; exact (by (with_reducible repeat (first|apply Kd.R_alloc|apply Kd.R_drewN|apply Kd.R_drew)); exact (Kd.R_mono (Kd.R_far (p := ⟨gb266, 2, none⟩) (Kd.R_far (p := ⟨gb266, 1, none⟩) (Kd.R_far (p := ⟨gb266, 0, none⟩) (Kd.R_types HO260.out BK266.out (by decide)) (fun _ hk => hk.2) (.int .i64 t257)) (fun _ hk => hk.2) (.slice Ao114 t258.length co114)) (fun _ hk => hk.2) (.slice Ao115 t261.length co115)) (fun _ h_ => h_.1)))); (case side3 => exact (Kd.R_reads' HO260.out).2.1); (case side4 => refine (Kd.R_reads' (e := 5) (base := w.heap.size) (ok := fun k_ => True) (n := t261.length) (c := co115) ?_).2.2; exact (by (with_reducible repeat (first|apply Kd.R_alloc|apply Kd.R_drewN|apply Kd.R_drew)); exact (Kd.R_mono (Kd.R_far (p := ⟨gb266, 2, none⟩) (Kd.R_far (p := ⟨gb266, 1, none⟩) (Kd.R_far (p := ⟨gb266, 0, none⟩) (Kd.R_types HO263.out BK266.out (by decide)) (fun _ hk => hk.2) (.int .i64 t257)) (fun _ hk => hk.2) (.slice Ao114 t258.length co114)) (fun _ hk => hk.2) (.slice Ao115 t261.length co115)) (fun _ h_ => h_.1)))); (case side5 => exact (Kd.R_reads' HO263.out).2.1); rintro e w116 ⟨v268, rfl, ho0, hb⟩; refine ⟨_, rfl, ?_⟩; have n0_ := Aside0.mk (Kd.R_below (by (with_reducible repeat (first|apply Kd.R_alloc|apply Kd.R_drewN|apply Kd.R_drew)); exact (Kd.R_mono (Kd.R_far (p := ⟨gb266, 2, none⟩) (Kd.R_far (p := ⟨gb266, 1, none⟩) (Kd.R_far (p := ⟨gb266, 0, none⟩) (Kd.R_types HO260.out BK266.out (by decide)) (fun _ hk => hk.2) (.int .i64 t257)) (fun _ hk => hk.2) (.slice Ao114 t258.length co114)) (fun _ hk => hk.2) (.slice Ao115 t261.length co115)) (fun _ h_ => h_.1))) hb); have n1_ := Aside0.mk (Kd.R_elder' (by (with_reducible repeat (first|apply Kd.R_alloc|apply Kd.R_drewN|apply Kd.R_drew)); exact (Kd.R_mono (Kd.R_far (p := ⟨gb266, 2, none⟩) (Kd.R_far (p := ⟨gb266, 1, none⟩) (Kd.R_far (p := ⟨gb266, 0, none⟩) (Kd.R_types HO263.out BK266.out (by decide)) (fun _ hk => hk.2) (.int .i64 t257)) (fun _ hk => hk.2) (.slice Ao114 t258.length co114)) (fun _ hk => hk.2) (.slice Ao115 t261.length co115)) (fun _ h_ => h_.1))) (Kd.R_base ho0) hb); have n2_ := Aside0.mk (Kd.R_lower (Kd.R_new' ho0 (Kd.R_lt (by (with_reducible repeat (first|apply Kd.R_alloc|apply Kd.R_drewN|apply Kd.R_drew)); exact (Kd.R_mono (Kd.R_far (p := ⟨gb266, 2, none⟩) (Kd.R_far (p := ⟨gb266, 1, none⟩) (Kd.R_far (p := ⟨gb266, 0, none⟩) (Kd.R_types HO263.out BK266.out (by decide)) (fun _ hk => hk.2) (.int .i64 t257)) (fun _ hk => hk.2) (.slice Ao114 t258.length co114)) (fun _ hk => hk.2) (.slice Ao115 t261.length co115)) (fun _ h_ => h_.1))))) (below_size (by repeat (first|(with_reducible first|exact HB.out|apply below_alloc|apply pw_below_drewN|apply below_drew1|refine below_set ?_ GE218.out|refine below_set ?_ GE266.out)|exact HB.out)))); have n3_ := Aside0.mk (blk_below (g := gb218) (o := .cells #[.int .i64 a0_0, .slice A0_1 l0_1.length c0_1, .slice A0_2 l0_2.length c0_2] 30 (0, 0)) (by (with_reducible repeat (first|refine blk_drewN ?_ _|refine blk_drew ?_|refine blk_alloc ?_ _)); refine blk_far ?_ NB218_266.out _; (with_reducible repeat (first|refine blk_drewN ?_ _|refine blk_drew ?_|refine blk_alloc ?_ _)); refine blk_far ?_ NB218_266.out _; (with_reducible repeat (first|refine blk_drewN ?_ _|refine blk_drew ?_|refine blk_alloc ?_ _)); refine blk_far ?_ NB218_266.out _; (with_reducible repeat (first|refine blk_drewN ?_ _|refine blk_drew ?_|refine blk_alloc ?_ _)); exact BK218.out) hb); have n4_ := Aside0.mk (blk_below (g := gb266) (o := .cells #[.int .i64 t257, .slice Ao114 t258.length co114, .slice Ao115 t261.length co115] 30 (0, 0)) (by (with_reducible repeat (first|refine blk_drewN ?_ _|refine blk_drew ?_|refine blk_alloc ?_ _)); refine blk_put (cs := #[.int .i64 t257, .slice Ao114 t258.length co114, .slice none 0 0]) ?_ 2 _ rfl; (with_reducible repeat (first|refine blk_drewN ?_ _|refine blk_drew ?_|refine blk_alloc ?_ _)); refine blk_put (cs := #[.int .i64 t257, .slice none 0 0, .slice none 0 0]) ?_ 1 _ rfl; (with_reducible repeat (first|refine blk_drewN ?_ _|refine blk_drew ?_|refine blk_alloc ?_ _)); refine blk_put (cs := #[.int .i64 0, .slice none 0 0, .slice none 0 0]) ?_ 0 _ rfl; (with_reducible repeat (first|refine blk_drewN ?_ _|refine blk_drew ?_|refine blk_alloc ?_ _)); exact BK266.out) hb); have n5_ := Aside0.mk (below_step (by repeat (first|(with_reducible first|exact HB.out|apply below_alloc|apply pw_below_drewN|apply below_drew1|refine below_set ?_ GE218.out|refine below_set ?_ GE266.out)|exact HB.out)) hb); clear HO260; clear HO263; clear BK218; clear BK266; clear HB; have HO260 := n0_; have HO263 := n1_; have HO269 := n2_; have BK218 := n3_; have BK266 := n4_; have HB := n5_; clear n0_ n1_ n2_ n3_ n4_ n5_; (try clear hb); (try clear hb2); (try clear hk); (try clear hi); (try clear ho0)))
         go_ret
         exact ⟨by first|rfl|(simp [errW_none, errW_some] <;> rfl)|(simp [*, errW_none, errW_some] <;> rfl), by repeat (first|(with_reducible first|exact HB.out|apply below_alloc|apply pw_below_drewN|apply below_drew1|refine below_set ?_ GE218.out|refine below_set ?_ GE266.out)|exact HB.out)⟩
       ·replace c80 := Bool.eq_false_iff.mpr c80
        subst c80
        have H1 : (some false) = some r := by rw [if_neg (show ¬ (false = true) by decide)] at H; exact H
        clear H
        have H := H1
        clear H1
        obtain rfl := Option.some.inj H
        go_wp2_with (first|((with_reducible refine gate_callee (f := 10) rfl ?_); refine goesL_ (some 90) rfl rfl Tryd.func10 (by kernel_rfl) rfl #[.slice A3 l3.length c3] rfl (by (try simp only [List.map_toArray, List.map_cons, List.map_nil]); first|done|rfl|(simp only [List.length_drop, List.length_take]; rfl)) ?_; (with_reducible refine (response_Read.calls _ _ l3 t257 t258 t261 t264 t265 _ ?side1 ?side2 ?side3 A77.out).mono ?_); (case side1 => first|exact HG.out|exact GM.below (by repeat (first|(with_reducible first|exact HB.out|apply below_alloc|apply pw_below_drewN|apply below_drew1|refine below_set ?_ GE218.out)|exact HB.out)) HG.out|(repeat (first|exact HG.out|apply GM.drewN|apply GM.drew))); (case side2 => repeat (first|exact (Kd.C_below HR3.out HB.out)|(with_reducible refine Kd.C_alloc ?_ _)|(with_reducible refine Kd.C_drewN ?_ _)|(with_reducible refine Kd.C_drew ?_))); (case side3 => exact HC3.out); rintro e w117 ⟨v259, v262, rfl, ho0, ho1, hb⟩; refine ⟨_, rfl, ?_⟩; have n0_ := Aside0.mk (Kd.R_lower ho0 (below_size (by repeat (first|(with_reducible first|exact HB.out|apply below_alloc|apply pw_below_drewN|apply below_drew1|refine below_set ?_ GE218.out)|exact HB.out)))); have n1_ := Aside0.mk (Kd.R_lower ho1 (below_size (by repeat (first|(with_reducible first|exact HB.out|apply below_alloc|apply pw_below_drewN|apply below_drew1|refine below_set ?_ GE218.out)|exact HB.out)))); have n2_ := Aside0.mk (blk_below (g := gb218) (o := .cells #[.int .i64 a0_0, .slice A0_1 l0_1.length c0_1, .slice A0_2 l0_2.length c0_2] 30 (0, 0)) (by (with_reducible repeat (first|refine blk_drewN ?_ _|refine blk_drew ?_|refine blk_alloc ?_ _)); exact BK218.out) hb); have n3_ := Aside0.mk (below_step (by repeat (first|(with_reducible first|exact HB.out|apply below_alloc|apply pw_below_drewN|apply below_drew1|refine below_set ?_ GE218.out)|exact HB.out)) hb); clear BK218; clear HB; have HO260 := n0_; have HO263 := n1_; have BK218 := n2_; have HB := n3_; clear n0_ n1_ n2_ n3_; (try clear hb); (try clear hb2); (try clear hk); (try clear hi); (try clear ho0); (try clear ho1))|((with_reducible refine gate_dst (N := 18) rfl ?_); (try (refine gate_guard (by rfl) ?_; dsimp only)); refine box_event ?hg (N := 18) ?hd (cs := #[.int .i64 0, .slice none 0 0, .slice none 0 0]) (t := 30) ?hr ?_; (case hd => rfl); (case hg => rfl); (case hr => first|(go_simp; done)|(go_simp; rfl)); intro gb266 hg w118 hbox hb; have n0_ := Aside0.mk (Kd.R_below (by (with_reducible repeat (first|apply Kd.R_alloc|apply Kd.R_drewN|apply Kd.R_drew)); exact HO260.out) hb); have n1_ := Aside0.mk (Kd.R_below (by (with_reducible repeat (first|apply Kd.R_alloc|apply Kd.R_drewN|apply Kd.R_drew)); exact HO263.out) hb); have n2_ := Aside0.mk (blk_below (g := gb218) (o := .cells #[.int .i64 a0_0, .slice A0_1 l0_1.length c0_1, .slice A0_2 l0_2.length c0_2] 30 (0, 0)) (by (with_reducible repeat (first|refine blk_drewN ?_ _|refine blk_drew ?_|refine blk_alloc ?_ _)); exact BK218.out) hb); have n3_ := Aside0.mk (below_step (by repeat (first|(with_reducible first|exact HB.out|apply below_alloc|apply pw_below_drewN|apply below_drew1|refine below_set ?_ GE218.out)|exact HB.out)) hb); have n4_ := Aside0.mk (hbox); have n5_ := Aside0.mk ((by rw [hg]; exact (below_size (by repeat (first|(with_reducible first|exact HB.out|apply below_alloc|apply pw_below_drewN|apply below_drew1|refine below_set ?_ GE218.out)|exact HB.out))) : w.heap.size ≤ gb266)); have n6_ := Aside0.mk ((by rw [hg]; exact (below_size (by repeat (first|(with_reducible first|exact HB.out|apply below_alloc|apply pw_below_drewN|apply below_drew1|refine below_set ?_ GE218.out)|exact HB.out))) : w.heap.size ≤ gb266)); have n7_ := Aside0.mk ((by rw [hg]; exact Nat.ne_of_lt (blk_lt (g := gb218) (o := .cells #[.int .i64 a0_0, .slice A0_1 l0_1.length c0_1, .slice A0_2 l0_2.length c0_2] 30 (0, 0)) (by (with_reducible repeat (first|refine blk_drewN ?_ _|refine blk_drew ?_|refine blk_alloc ?_ _)); exact BK218.out)) : gb218 ≠ gb266)); have n8_ := Aside0.mk ((by rw [hg]; exact Nat.ne_of_gt (blk_lt (g := gb218) (o := .cells #[.int .i64 a0_0, .slice A0_1 l0_1.length c0_1, .slice A0_2 l0_2.length c0_2] 30 (0, 0)) (by (with_reducible repeat (first|refine blk_drewN ?_ _|refine blk_drew ?_|refine blk_alloc ?_ _)); exact BK218.out)) : gb266 ≠ gb218)); clear HO260; clear HO263; clear BK218; clear HB; have HO260 := n0_; have HO263 := n1_; have BK218 := n2_; have HB := n3_; have BK266 := n4_; have GW266 := n5_; have GE266 := n6_; have NB218_266 := n7_; have NB266_218 := n8_; clear n0_ n1_ n2_ n3_ n4_ n5_ n6_ n7_ n8_; clear hb hbox hg; have hnb119 := NB266_218.out; have hnc119 := NB218_266.out; have hcz120_0 : w118.cell? ⟨gb266, 0, none⟩ = some (.int .i64 0) := (blk_cell BK266.out 0).trans rfl; have hcz120_1 : w118.cell? ⟨gb266, 1, none⟩ = some (.slice none 0 0) := (blk_cell BK266.out 1).trans rfl; have hcz120_2 : w118.cell? ⟨gb266, 2, none⟩ = some (.slice none 0 0) := (blk_cell BK266.out 2).trans rfl; have hfz120_0 := blk_frozen BK266.out 0; have hfz120_1 := blk_frozen BK266.out 1; have hfz120_2 := blk_frozen BK266.out 2; obtain ⟨Ao121, co121, eo121⟩ := Kd.R_slice HO260.out; subst eo121; obtain ⟨Ao122, co122, eo122⟩ := Kd.R_slice HO263.out; subst eo122)|((with_reducible refine gate_callee (f := 6) rfl ?_); refine goesL_ (some 99) rfl rfl Tryd.func6 (by kernel_rfl) rfl #[.agg #[.int .i64 t257, .slice Ao121 t258.length co121, .slice Ao122 t261.length co122]] rfl (by (try simp only [List.map_toArray, List.map_cons, List.map_nil]); first|done|rfl|(simp only [List.length_drop, List.length_take]; rfl)) ?_; (with_reducible refine (response_Bytes.calls kj19 t257 _ _ t258 _ _ t261 t267 t270 _ ?side1 ?side2 ?side3 ?side4 ?side5 A79.out).mono ?_); (case side1 => first|exact HG.out|exact GM.below (by repeat (first|(with_reducible first|exact HB.out|apply below_alloc|apply pw_below_drewN|apply below_drew1|refine below_set ?_ GE218.out|refine below_set ?_ GE266.out)|exact HB.out)) HG.out|(repeat (first|exact HG.out|apply GM.drewN|apply GM.drew))); (case side2 => refine (Kd.R_reads' (e := 32) (base := w.heap.size) (ok := fun k_ => True) (n := t258.length) (c := co121) ?_).2.2; exact (by (with_reducible repeat (first|apply Kd.R_alloc|apply Kd.R_drewN|apply Kd.R_drew)); exact (Kd.R_mono (Kd.R_far (p := ⟨gb266, 2, none⟩) (Kd.R_far (p := ⟨gb266, 1, none⟩) (Kd.R_far (p := ⟨gb266, 0, none⟩) (Kd.R_types HO260.out BK266.out (by decide)) (fun _ hk => hk.2) (.int .i64 t257)) (fun _ hk => hk.2) (.slice Ao121 t258.length co121)) (fun _ hk => hk.2) (.slice Ao122 t261.length co122)) (fun _ h_ => h_.1)))); (case side3 => exact (Kd.R_reads' HO260.out).2.1); (case side4 => refine (Kd.R_reads' (e := 5) (base := w.heap.size) (ok := fun k_ => True) (n := t261.length) (c := co122) ?_).2.2; exact (by (with_reducible repeat (first|apply Kd.R_alloc|apply Kd.R_drewN|apply Kd.R_drew)); exact (Kd.R_mono (Kd.R_far (p := ⟨gb266, 2, none⟩) (Kd.R_far (p := ⟨gb266, 1, none⟩) (Kd.R_far (p := ⟨gb266, 0, none⟩) (Kd.R_types HO263.out BK266.out (by decide)) (fun _ hk => hk.2) (.int .i64 t257)) (fun _ hk => hk.2) (.slice Ao121 t258.length co121)) (fun _ hk => hk.2) (.slice Ao122 t261.length co122)) (fun _ h_ => h_.1)))); (case side5 => exact (Kd.R_reads' HO263.out).2.1); rintro e w123 ⟨v268, rfl, ho0, hb⟩; refine ⟨_, rfl, ?_⟩; have n0_ := Aside0.mk (Kd.R_below (by (with_reducible repeat (first|apply Kd.R_alloc|apply Kd.R_drewN|apply Kd.R_drew)); exact (Kd.R_mono (Kd.R_far (p := ⟨gb266, 2, none⟩) (Kd.R_far (p := ⟨gb266, 1, none⟩) (Kd.R_far (p := ⟨gb266, 0, none⟩) (Kd.R_types HO260.out BK266.out (by decide)) (fun _ hk => hk.2) (.int .i64 t257)) (fun _ hk => hk.2) (.slice Ao121 t258.length co121)) (fun _ hk => hk.2) (.slice Ao122 t261.length co122)) (fun _ h_ => h_.1))) hb); have n1_ := Aside0.mk (Kd.R_elder' (by (with_reducible repeat (first|apply Kd.R_alloc|apply Kd.R_drewN|apply Kd.R_drew)); exact (Kd.R_mono (Kd.R_far (p := ⟨gb266, 2, none⟩) (Kd.R_far (p := ⟨gb266, 1, none⟩) (Kd.R_far (p := ⟨gb266, 0, none⟩) (Kd.R_types HO263.out BK266.out (by decide)) (fun _ hk => hk.2) (.int .i64 t257)) (fun _ hk => hk.2) (.slice Ao121 t258.length co121)) (fun _ hk => hk.2) (.slice Ao122 t261.length co122)) (fun _ h_ => h_.1))) (Kd.R_base ho0) hb); have n2_ := Aside0.mk (Kd.R_lower (Kd.R_new' ho0 (Kd.R_lt (by (with_reducible repeat (first|apply Kd.R_alloc|apply Kd.R_drewN|apply Kd.R_drew)); exact (Kd.R_mono (Kd.R_far (p := ⟨gb266, 2, none⟩) (Kd.R_far (p := ⟨gb266, 1, none⟩) (Kd.R_far (p := ⟨gb266, 0, none⟩) (Kd.R_types HO263.out BK266.out (by decide)) (fun _ hk => hk.2) (.int .i64 t257)) (fun _ hk => hk.2) (.slice Ao121 t258.length co121)) (fun _ hk => hk.2) (.slice Ao122 t261.length co122)) (fun _ h_ => h_.1))))) (below_size (by repeat (first|(with_reducible first|exact HB.out|apply below_alloc|apply pw_below_drewN|apply below_drew1|refine below_set ?_ GE218.out|refine below_set ?_ GE266.out)|exact HB.out)))); have n3_ := Aside0.mk (blk_below (g := gb218) (o := .cells #[.int .i64 a0_0, .slice A0_1 l0_1.length c0_1, .slice A0_2 l0_2.length c0_2] 30 (0, 0)) (by (with_reducible repeat (first|refine blk_drewN ?_ _|refine blk_drew ?_|refine blk_alloc ?_ _)); refine blk_far ?_ NB218_266.out _; (with_reducible repeat (first|refine blk_drewN ?_ _|refine blk_drew ?_|refine blk_alloc ?_ _)); refine blk_far ?_ NB218_266.out _; (with_reducible repeat (first|refine blk_drewN ?_ _|refine blk_drew ?_|refine blk_alloc ?_ _)); refine blk_far ?_ NB218_266.out _; (with_reducible repeat (first|refine blk_drewN ?_ _|refine blk_drew ?_|refine blk_alloc ?_ _)); exact BK218.out) hb); have n4_ := Aside0.mk (blk_below (g := gb266) (o := .cells #[.int .i64 t257, .slice Ao121 t258.length co121, .slice Ao122 t261.length co122] 30 (0, 0)) (by (with_reducible repeat (first|refine blk_drewN ?_ _|refine blk_drew ?_|refine blk_alloc ?_ _)); refine blk_put (cs := #[.int .i64 t257, .slice Ao121 t258.length co121, .slice none 0 0]) ?_ 2 _ rfl; (with_reducible repeat (first|refine blk_drewN ?_ _|refine blk_drew ?_|refine blk_alloc ?_ _)); refine blk_put (cs := #[.int .i64 t257, .slice none 0 0, .slice none 0 0]) ?_ 1 _ rfl; (with_reducible repeat (first|refine blk_drewN ?_ _|refine blk_drew ?_|refine blk_alloc ?_ _)); refine blk_put (cs := #[.int .i64 0, .slice none 0 0, .slice none 0 0]) ?_ 0 _ rfl; (with_reducible repeat (first|refine blk_drewN ?_ _|refine blk_drew ?_|refine blk_alloc ?_ _)); exact BK266.out) hb); have n5_ := Aside0.mk (below_step (by repeat (first|(with_reducible first|exact HB.out|apply below_alloc|apply pw_below_drewN|apply below_drew1|refine below_set ?_ GE218.out|refine below_set ?_ GE266.out)|exact HB.out)) hb); clear HO260; clear HO263; clear BK218; clear BK266; clear HB; have HO260 := n0_; have HO263 := n1_; have HO269 := n2_; have BK218 := n3_; have BK266 := n4_; have HB := n5_; clear n0_ n1_ n2_ n3_ n4_ n5_; (try clear hb); (try clear hb2); (try clear hk); (try clear hi); (try clear ho0)))
        go_ret
        exact ⟨by first|rfl|(simp [errW_none, errW_some] <;> rfl)|(simp [*, errW_none, errW_some] <;> rfl), by repeat (first|(with_reducible first|exact HB.out|apply below_alloc|apply pw_below_drewN|apply below_drew1|refine below_set ?_ GE218.out|refine below_set ?_ GE266.out)|exact HB.out)⟩
      ·rw [if_neg c78] at H
       have c78b0 : (t265 == 0) = false := beq_eq_false_iff_ne.mpr c78
       have c78b1 : (t265 != 0) = true := bne_iff_ne.mpr c78
       obtain rfl := Option.some.inj H
       go_wp2_with (first|((with_reducible refine gate_callee (f := 10) rfl ?_); refine goesL_ (some 90) rfl rfl Tryd.func10 (by kernel_rfl) rfl #[.slice A3 l3.length c3] rfl (by (try simp only [List.map_toArray, List.map_cons, List.map_nil]); first|done|rfl|(simp only [List.length_drop, List.length_take]; rfl)) ?_; (with_reducible refine (response_Read.calls _ _ l3 t257 t258 t261 t264 t265 _ ?side1 ?side2 ?side3 A77.out).mono ?_); (case side1 => first|exact HG.out|exact GM.below (by repeat (first|(with_reducible first|exact HB.out|apply below_alloc|apply pw_below_drewN|apply below_drew1|refine below_set ?_ GE218.out)|exact HB.out)) HG.out|(repeat (first|exact HG.out|apply GM.drewN|apply GM.drew))); (case side2 => repeat (first|exact (Kd.C_below HR3.out HB.out)|(with_reducible refine Kd.C_alloc ?_ _)|(with_reducible refine Kd.C_drewN ?_ _)|(with_reducible refine Kd.C_drew ?_))); (case side3 => exact HC3.out); rintro e w124 ⟨v259, v262, rfl, ho0, ho1, hb⟩; refine ⟨_, rfl, ?_⟩; have n0_ := Aside0.mk (Kd.R_lower ho0 (below_size (by repeat (first|(with_reducible first|exact HB.out|apply below_alloc|apply pw_below_drewN|apply below_drew1|refine below_set ?_ GE218.out)|exact HB.out)))); have n1_ := Aside0.mk (Kd.R_lower ho1 (below_size (by repeat (first|(with_reducible first|exact HB.out|apply below_alloc|apply pw_below_drewN|apply below_drew1|refine below_set ?_ GE218.out)|exact HB.out)))); have n2_ := Aside0.mk (blk_below (g := gb218) (o := .cells #[.int .i64 a0_0, .slice A0_1 l0_1.length c0_1, .slice A0_2 l0_2.length c0_2] 30 (0, 0)) (by (with_reducible repeat (first|refine blk_drewN ?_ _|refine blk_drew ?_|refine blk_alloc ?_ _)); exact BK218.out) hb); have n3_ := Aside0.mk (below_step (by repeat (first|(with_reducible first|exact HB.out|apply below_alloc|apply pw_below_drewN|apply below_drew1|refine below_set ?_ GE218.out)|exact HB.out)) hb); clear BK218; clear HB; have HO260 := n0_; have HO263 := n1_; have BK218 := n2_; have HB := n3_; clear n0_ n1_ n2_ n3_; (try clear hb); (try clear hb2); (try clear hk); (try clear hi); (try clear ho0); (try clear ho1))|((with_reducible refine gate_dst (N := 18) rfl ?_); (try (refine gate_guard (by rfl) ?_; dsimp only)); refine box_event ?hg (N := 18) ?hd (cs := #[.int .i64 0, .slice none 0 0, .slice none 0 0]) (t := 30) ?hr ?_; (case hd => rfl); (case hg => rfl); (case hr => first|(go_simp; done)|(go_simp; rfl)); intro gb266 hg w125 hbox hb; have n0_ := Aside0.mk (Kd.R_below (by (with_reducible repeat (first|apply Kd.R_alloc|apply Kd.R_drewN|apply Kd.R_drew)); exact HO260.out) hb); have n1_ := Aside0.mk (Kd.R_below (by (with_reducible repeat (first|apply Kd.R_alloc|apply Kd.R_drewN|apply Kd.R_drew)); exact HO263.out) hb); have n2_ := Aside0.mk (blk_below (g := gb218) (o := .cells #[.int .i64 a0_0, .slice A0_1 l0_1.length c0_1, .slice A0_2 l0_2.length c0_2] 30 (0, 0)) (by (with_reducible repeat (first|refine blk_drewN ?_ _|refine blk_drew ?_|refine blk_alloc ?_ _)); exact BK218.out) hb); have n3_ := Aside0.mk (below_step (by repeat (first|(with_reducible first|exact HB.out|apply below_alloc|apply pw_below_drewN|apply below_drew1|refine below_set ?_ GE218.out)|exact HB.out)) hb); have n4_ := Aside0.mk (hbox); have n5_ := Aside0.mk ((by rw [hg]; exact (below_size (by repeat (first|(with_reducible first|exact HB.out|apply below_alloc|apply pw_below_drewN|apply below_drew1|refine below_set ?_ GE218.out)|exact HB.out))) : w.heap.size ≤ gb266)); have n6_ := Aside0.mk ((by rw [hg]; exact (below_size (by repeat (first|(with_reducible first|exact HB.out|apply below_alloc|apply pw_below_drewN|apply below_drew1|refine below_set ?_ GE218.out)|exact HB.out))) : w.heap.size ≤ gb266)); have n7_ := Aside0.mk ((by rw [hg]; exact Nat.ne_of_lt (blk_lt (g := gb218) (o := .cells #[.int .i64 a0_0, .slice A0_1 l0_1.length c0_1, .slice A0_2 l0_2.length c0_2] 30 (0, 0)) (by (with_reducible repeat (first|refine blk_drewN ?_ _|refine blk_drew ?_|refine blk_alloc ?_ _)); exact BK218.out)) : gb218 ≠ gb266)); have n8_ := Aside0.mk ((by rw [hg]; exact Nat.ne_of_gt (blk_lt (g := gb218) (o := .cells #[.int .i64 a0_0, .slice A0_1 l0_1.length c0_1, .slice A0_2 l0_2.length c0_2] 30 (0, 0)) (by (with_reducible repeat (first|refine blk_drewN ?_ _|refine blk_drew ?_|refine blk_alloc ?_ _)); exact BK218.out)) : gb266 ≠ gb218)); clear HO260; clear HO263; clear BK218; clear HB; have HO260 := n0_; have HO263 := n1_; have BK218 := n2_; have HB := n3_; have BK266 := n4_; have GW266 := n5_; have GE266 := n6_; have NB218_266 := n7_; have NB266_218 := n8_; clear n0_ n1_ n2_ n3_ n4_ n5_ n6_ n7_ n8_; clear hb hbox hg; have hnb126 := NB266_218.out; have hnc126 := NB218_266.out; have hcz127_0 : w125.cell? ⟨gb266, 0, none⟩ = some (.int .i64 0) := (blk_cell BK266.out 0).trans rfl; have hcz127_1 : w125.cell? ⟨gb266, 1, none⟩ = some (.slice none 0 0) := (blk_cell BK266.out 1).trans rfl; have hcz127_2 : w125.cell? ⟨gb266, 2, none⟩ = some (.slice none 0 0) := (blk_cell BK266.out 2).trans rfl; have hfz127_0 := blk_frozen BK266.out 0; have hfz127_1 := blk_frozen BK266.out 1; have hfz127_2 := blk_frozen BK266.out 2; obtain ⟨Ao128, co128, eo128⟩ := Kd.R_slice HO260.out; subst eo128; obtain ⟨Ao129, co129, eo129⟩ := Kd.R_slice HO263.out; subst eo129))
       go_ret
       exact ⟨by first|rfl|(simp [errW_none, errW_some] <;> rfl)|(simp [*, errW_none, errW_some] <;> rfl), by repeat (first|(with_reducible first|exact HB.out|apply below_alloc|apply pw_below_drewN|apply below_drew1|refine below_set ?_ GE218.out|refine below_set ?_ GE266.out)|exact HB.out)⟩

end Go.Proofs.YtmgpbcpggnlkkaaDoor.Pr
end
section
/- ResponseBack and ResponseKnown: their printed forms are true. -/
namespace Go.Proofs.YtmgpbcpggnlkkaaDoor
open Go.RowKit Go.Lib Go.Proofs.YtmgpbcpggnlkkaaDoorW.PrintWords Go.Proofs.YtmgpbcpggnlkkaaDoorW.PrintLast Go.Proofs.YtmgpbcpggnlkkaaDoorW.PrintMore
set_option linter.unusedVariables false
set_option linter.unusedSimpArgs false
theorem known27_f : Pr.stowagelaw27_ResponseKnown.f 6 = some true := by decide +kernel
theorem known27 (k : Nat) (hk : 6 ≤ k) : Pr.stowagelaw27_ResponseKnown.f k = some true := at_rounds (fun k => Pr.stowagelaw27_ResponseKnown.mono k) hk known27_f
theorem pairS_back (p : SPair) : pairS (pairL p) = p := by
  obtain ⟨⟨⟨a⟩⟩, ⟨⟨b⟩⟩⟩ := p
  rfl
theorem ba_size (l : Bs) : (BA l).size = l.length := by rw [bs_len, ba_list]
theorem large_l0 (st : Int) (l : List SPair) (b : List Int) (hl : l.length ≤ 1000000) : ∀ (d k j : Nat), j + d = l.length → d < k →
    ∃ r, Pr.stowagekit_LargeResponse.l0 k (j : Int) st l b = some r ∧ (r = false → ∀ p ∈ l.drop j, p.f0.size ≤ 1100 ∧ p.f1.size ≤ 1100) := by
  intro d
  induction d with
  | zero =>
    intro k j hj hk
    obtain ⟨k, rfl⟩ : ∃ n, k = n + 1 := ⟨k - 1, by omega⟩
    refine ⟨false, ?_, fun _ p hp => ?_⟩
    · simp only [Pr.stowagekit_LargeResponse.l0]
      rw [if_neg (by omega)]
    · rw [List.drop_of_length_le (by omega)] at hp
      cases hp
  | succ d ih =>
    intro k j hj hk
    obtain ⟨k, rfl⟩ : ∃ n, k = n + 1 := ⟨k - 1, by omega⟩
    have hjl : j < l.length := by omega
    obtain ⟨r, hr, h⟩ := ih k (j + 1) (by omega) (by omega)
    simp only [Pr.stowagekit_LargeResponse.l0]
    rw [if_pos (by omega), if_pos (by omega), rdP l j hjl, wrap_up j l.length hjl hl, hr]
    by_cases h1 : 1100 < l[j].f0.size
    · exact ⟨true, by rw [if_pos (by omega)], fun h => by cases h⟩
    · by_cases h2 : 1100 < l[j].f1.size
      · exact ⟨true, by rw [if_neg (by omega), if_pos (by omega)], fun h => by cases h⟩
      · refine ⟨r, by rw [if_neg (by omega), if_neg (by omega)], fun hf p hp => ?_⟩
        rw [List.drop_eq_getElem_cons hjl] at hp
        rcases List.mem_cons.1 hp with rfl | hp
        · exact ⟨by omega, by omega⟩
        · exact h hf p hp
theorem large_f (st : Int) (l : List SPair) (b : List Int) (k : Nat) (hk : 43 ≤ k) :
    ∃ r, Pr.stowagekit_LargeResponse.f k st l b = some r ∧ (r = false → l.length ≤ 40 ∧ b.length ≤ 3000 ∧ ∀ p ∈ l, p.f0.size ≤ 1100 ∧ p.f1.size ≤ 1100) := by
  obtain ⟨k, rfl⟩ : ∃ n, k = n + 1 := ⟨k - 1, by omega⟩
  simp only [Pr.stowagekit_LargeResponse.f]
  by_cases h1 : 40 < l.length
  · refine ⟨true, ?_, fun h => by cases h⟩
    rw [if_pos (by omega)]
    simp [Pr.stowagekit_LargeResponse.j0]
  · rw [if_neg (by omega)]
    by_cases h2 : 3000 < b.length
    · refine ⟨true, ?_, fun h => by cases h⟩
      rw [decide_eq_true (by omega)]
      simp [Pr.stowagekit_LargeResponse.j0]
    · rw [decide_eq_false (by omega)]
      simp only [Pr.stowagekit_LargeResponse.j0]
      rw [if_neg (by decide)]
      obtain ⟨r, hr, h⟩ := large_l0 st l b (by omega) l.length k 0 (by omega) (by omega)
      exact ⟨r, hr, fun hf => ⟨by omega, by omega, fun p hp => h hf p (by simpa using hp)⟩⟩
theorem bytes_f (st : Int) (hs : List SPair) (body : Bs) (hl : hs.length ≤ 100) (hsz : ∀ p ∈ hs, p.f0.size ≤ 2000 ∧ p.f1.size ≤ 2000) (hb : body.length ≤ 1000000) (hh : (headL st (hs.map pairL) body.length).length ≤ 1000000000) (k : Nat) (hk : 102 ≤ k) :
    Pr.response_Bytes.f k st hs (Pr.numsL body) = some (Pr.numsL (bytesP st (hs.map pairL) body).1, (bytesP st (hs.map pairL) body).2) := by
  unfold Pr.response_Bytes.f bytesP
  rw [wrong_f st hs _ (by omega) (fun p hp => by have := hsz p hp; omega) k (by omega), Option.bind_some, nums_len]
  by_cases hw : wrongL st (hs.map pairL) = 0
  · rw [if_pos hw, if_pos hw, if_neg (by omega), if_neg (by omega)]
    obtain ⟨hst, -, -⟩ := wrongL_zero hw
    have hsm : Pr.smallH hs = true := by
      unfold Pr.smallH
      simp only [Bool.and_eq_true, decide_eq_true_eq, List.all_eq_true]
      exact ⟨hl, fun p hp => hsz p hp⟩
    have e : Pr.response_head.f st hs (Pr.numsL body) (body.length : Int) = some (Pr.numsL (headL st (hs.map pairL) body.length)) := by
      unfold Pr.response_head.f
      rw [if_pos ⟨hst, hsm, by omega, by omega⟩]
      rfl
    rw [e, Option.bind_some, nums_len, if_pos (by omega)]
    unfold Pr.numsL
    rw [List.map_append]
  · rw [if_neg hw, if_neg hw]
    rfl
theorem dec20 (n : Nat) (h : n ≤ 1000000) : (decDigits n).length ≤ 20 := by
  rw [Lib.decDigits_length]
  rcases Nat.eq_zero_or_pos n with h0 | h0
  · subst h0; rw [Lib.nDigits_small (by omega)]; omega
  · have := Lib.numDigits_eq n (by omega) (by omega)
    split at this <;> omega
theorem hdrs_len : ∀ (hs : List SPair), (∀ p ∈ hs, p.f0.size ≤ 2000 ∧ p.f1.size ≤ 2000) → (hdrs hs).length ≤ 5000 * hs.length
  | [], _ => by simp [hdrs]
  | p :: r, h => by
    have ih := hdrs_len r (fun q hq => h q (List.mem_cons_of_mem _ hq))
    have hp := h p List.mem_cons_self
    have h0 := bs_len p.f0
    have h1 := bs_len p.f1
    unfold hdrs at ih ⊢
    rw [List.flatMap_cons, List.length_append, List.length_append, List.length_cons]
    have : (hdr (pairL p)).length ≤ 4002 := by unfold hdr pairL; simp only [List.length_append, List.length_cons, List.length_nil]; omega
    have hc : crlf.length = 2 := rfl
    omega
theorem head_len (st : Int) (hs : List SPair) (n : Nat) (hst : wordsL st ≠ []) (hsz : ∀ p ∈ hs, p.f0.size ≤ 2000 ∧ p.f1.size ≤ 2000) (hn : n ≤ 1000000) : (headL st (hs.map pairL) n).length ≤ 200 + 5000 * hs.length := by
  rw [head_form]
  have h1 := hdrs_len hs hsz
  have h2 := words_len st
  have h3 := (itoa_sts st (wordsL_mem hst)).2.2.1
  have h4 := dec20 n hn
  have h5 : (line0 st).length ≤ 50 := by unfold line0; simp only [List.length_append, List.length_cons, List.length_nil]; omega
  have h6 : (lineN n).length ≤ 40 := by unfold lineN cl14; simp only [List.length_append, List.length_cons, List.length_nil]; omega
  simp only [List.length_append]
  have h7 : crlf.length = 2 := rfl
  have h8 : four.length = 4 := rfl
  omega
theorem rread_f (b : Bs) (hb : b.length ≤ 400000) : Pr.response_Read.f (Pr.numsL b) = some ((readP b).1.1, (readP b).1.2.1.map pairS, Pr.numsL (readP b).1.2.2, (readP b).2.1, (readP b).2.2) := by
  have hi : Pr.isBytes (Pr.numsL b) = true := by
    unfold Pr.isBytes
    rw [List.all_eq_true]
    intro x hx
    have := nums_in b x hx
    simp
    omega
  unfold Pr.response_Read.f
  rw [if_pos ⟨hi, by rw [nums_len]; exact hb⟩]
  simp only [nums_of]
theorem spairs_l0 (l : List SPair) (hl : l.length ≤ 1000000) : ∀ (d k j : Nat), j + d = l.length → d < k → Pr.stowagekit_SamePairs.l0 k l l (j : Int) = some true
  | d, 0, j, _, h => by omega
  | 0, k + 1, j, hj, _ => by
    simp only [Pr.stowagekit_SamePairs.l0]
    rw [if_neg (by omega)]
  | d + 1, k + 1, j, hj, hk => by
    simp only [Pr.stowagekit_SamePairs.l0]
    rw [if_pos (by omega), if_pos (by omega), if_pos (by omega), if_neg (by simp), wrap_up j l.length (by omega) hl]
    exact spairs_l0 l hl d k (j + 1) (by omega) (by omega)
theorem sresp_f (st : Int) (l : List SPair) (b : List Int) (k : Nat) (hl : l.length ≤ 1000000) (hk : l.length < k) : Pr.stowagekit_SameResponse.f k st l b st l b = some true := by
  unfold Pr.stowagekit_SameResponse.f Pr.stowagekit_SamePairs.f Pr.stowagekit_SameBytes.f
  have h0 : Pr.stowagekit_SamePairs.l0 k l l 0 = some true := spairs_l0 l hl l.length k 0 (by omega) hk
  rw [if_pos rfl, if_pos rfl, h0, Option.bind_some, if_pos rfl, Option.bind_some]
  simp
theorem copy27_f (l : List Int) (h : l.length ≤ 1000000000) : Pr.stowagekit_CopyBytes.f l = some l := by
  unfold Pr.stowagekit_CopyBytes.f
  rw [Option.bind_some, if_pos (by simp; omega), List.nil_append]
theorem pick27_f (x n : Int) (h1 : 1 ≤ n) (h2 : n ≤ 1000000000) : ∃ r : Nat, Pr.stowagekit_Pick.f x n = some (r : Int) ∧ (r : Int) < n := by
  unfold Pr.stowagekit_Pick.f
  rw [if_neg (by omega), if_neg (by omega)]
  have h3 := Int.tmod_lt_of_pos x (show 0 < n by omega)
  have h4 := Int.lt_tmod_of_pos x (show 0 < n by omega)
  by_cases h : Int.tmod x n < 0
  · rw [if_pos h]
    refine ⟨(Int.tmod x n + n).toNat, ?_, by omega⟩
    rw [Int.toNat_of_nonneg (by omega)]
    unfold wrap64
    congr 1
    omega
  · rw [if_neg h]
    exact ⟨(Int.tmod x n).toNat, by rw [Int.toNat_of_nonneg (by omega)], by omega⟩
theorem take_nums (b : Bs) (n : Nat) : (Pr.numsL b).take n = Pr.numsL (b.take n) := by unfold Pr.numsL; rw [List.map_take]
theorem back_j2 (b : Bs) (hb : b.length ≤ 6000) (k : Nat) (hk : 200 ≤ k) : Pr.stowagelaw27_ResponseBack.j2 k (Pr.numsL b) true = some true := by
  obtain ⟨k, rfl⟩ : ∃ n, k = n + 1 := ⟨k - 1, by omega⟩
  simp only [Pr.stowagelaw27_ResponseBack.j2]
  rw [rread_f b (by omega), Option.bind_some]
  dsimp only
  obtain ⟨st, hs, body, n, e, he⟩ : ∃ st hs body n e, readP b = ((st, hs, body), n, e) := ⟨_, _, _, _, _, rfl⟩
  simp only [he]
  by_cases h0 : e = 0
  · subst h0
    obtain ⟨hv, hn0, hn1, hbk⟩ := bytes_read he
    have hmm : (hs.map pairS).map pairL = hs := by
      rw [List.map_map]
      conv => rhs; rw [← List.map_id hs]
      apply List.map_congr_left
      intro p _
      exact pair_back p
    have hszb : (headL st hs body.length ++ body).length ≤ 6000 := by rw [hbk, List.length_take]; omega
    rw [List.length_append] at hszb
    have hsz : ∀ p ∈ hs.map pairS, p.f0.size ≤ 2000 ∧ p.f1.size ≤ 2000 := by
      intro p hp
      obtain ⟨q, hq, rfl⟩ := List.mem_map.1 hp
      have hm := hv.may q hq
      unfold mayP at hm
      simp only [Bool.and_eq_true, decide_eq_true_eq] at hm
      show (BA q.1).size ≤ 2000 ∧ (BA q.2).size ≤ 2000
      rw [ba_size, ba_size]
      omega
    rw [if_pos rfl, bytes_f st (hs.map pairS) body (by rw [List.length_map]; have := hv.len; omega) hsz (by omega) (by rw [hmm]; omega) k (by omega), Option.bind_some]
    have hbp : bytesP st ((hs.map pairS).map pairL) body = (b.take n.toNat, 0) := by
      unfold bytesP
      rw [hmm, if_pos (wrongL_ok hv), if_neg (by omega), hbk]
    rw [hbp]
    dsimp only
    rw [if_pos trivial, if_pos rfl, if_pos (by omega), if_pos (by rw [nums_len]; omega), if_pos hn0, take_nums]
    unfold Pr.stowagekit_SameBytes.f
    simp
  · rw [if_neg h0]
theorem back_f (st : Int) (hs : List SPair) (body behind : Bs) (cut : Int) (b : Bs) : Pr.stowagelaw27_ResponseBack.f 1000 st hs (Pr.numsL body) (Pr.numsL behind) cut (Pr.numsL b) = some true := by
  unfold Pr.stowagelaw27_ResponseBack.f
  rw [known27 _ (by omega), Option.bind_some]
  obtain ⟨r, hr, hrf⟩ := large_f st hs (Pr.numsL body) 1000 (by omega)
  rw [hr, Option.bind_some]
  have hj0 : Pr.stowagelaw27_ResponseBack.j0 1000 (Pr.numsL behind) cut (Pr.numsL b) true true st hs (Pr.numsL body) = some true := by
    simp only [Pr.stowagelaw27_ResponseBack.j0]
    rw [if_pos trivial]
  cases r with
  | true => rw [if_pos rfl, hj0]
  | false =>
    obtain ⟨s1, s2, s3⟩ := hrf rfl
    rw [if_neg (by decide), nums_len, nums_len]
    by_cases hb1 : 1000 < behind.length
    · rw [if_pos (by omega), hj0]
    · rw [if_neg (by omega)]
      by_cases hb2 : 6000 < b.length
      · rw [decide_eq_true (by omega), hj0]
      · rw [decide_eq_false (by omega)]
        clear hj0
        rw [nums_len] at s2
        have hsz : ∀ p ∈ hs, p.f0.size ≤ 2000 ∧ p.f1.size ≤ 2000 := fun p hp => by have := s3 p hp; omega
        simp only [Pr.stowagelaw27_ResponseBack.j0]
        rw [if_neg (by decide)]
        by_cases hw : wrongL st (hs.map pairL) = 0
        case neg =>
          have hbp : Pr.response_Bytes.f 999 st hs (Pr.numsL body) = some ([], wrongL st (hs.map pairL)) := by
            unfold Pr.response_Bytes.f
            rw [wrong_f st hs _ (by omega) (fun p hp => by have := hsz p hp; omega) 999 (by omega), Option.bind_some, if_neg hw]
          rw [hbp, Option.bind_some]
          dsimp only
          rw [if_neg hw]
          exact back_j2 b (by omega) _ (by omega)
        case pos =>
          obtain ⟨hst, hl32, hmay⟩ := wrongL_zero hw
          have hlen := head_len st hs body.length hst hsz (by omega)
          have hv : ValidH st (hs.map pairL) body.length := ⟨hst, hl32, hmay, by omega⟩
          rw [bytes_f st hs body (by omega) hsz (by omega) (by omega) 999 (by omega), Option.bind_some]
          have hbp : bytesP st (hs.map pairL) body = (headL st (hs.map pairL) body.length ++ body, 0) := by
            unfold bytesP
            rw [if_pos hw, if_neg (by omega)]
          rw [hbp]
          dsimp only
          have hL4 := (idx_head hv []).2
          have hAll : (headL st (hs.map pairL) body.length ++ body).length ≤ 300000 := by rw [List.length_append]; omega
          rw [if_pos rfl, copy27_f _ (by rw [nums_len]; omega), Option.bind_some, nums_len, nums_len, if_pos (by omega)]
          have happ : Pr.numsL (headL st (hs.map pairL) body.length ++ body) ++ Pr.numsL behind = Pr.numsL (headL st (hs.map pairL) body.length ++ body ++ behind) := by unfold Pr.numsL; simp only [List.map_append]
          rw [happ, rread_f _ (by rw [List.length_append]; omega), Option.bind_some, read_bytes hv behind]
          dsimp only
          have hmm : (hs.map pairL).map pairS = hs := by
            rw [List.map_map]
            conv => rhs; rw [← List.map_id hs]
            apply List.map_congr_left
            intro p _
            exact pairS_back p
          rw [if_pos rfl, if_pos rfl, if_neg (by rw [List.length_append]; omega), hmm, sresp_f st hs _ 999 (by omega) (by omega), Option.bind_some]
          simp only [Pr.stowagelaw27_ResponseBack.j1]
          rw [if_neg (by decide), nums_len]
          obtain ⟨c, hc, hcl⟩ := pick27_f cut ((headL st (hs.map pairL) body.length ++ body).length : Int) (by rw [List.length_append]; omega) (by omega)
          rw [hc, Option.bind_some, if_pos (by omega), if_pos (by omega), Int.toNat_natCast, take_nums, rread_f _ (by rw [List.length_take]; omega), Option.bind_some, read_cut hv c (by omega)]
          dsimp only
          rw [if_pos rfl, if_pos rfl]
          exact back_j2 b (by omega) _ (by omega)
end Go.Proofs.YtmgpbcpggnlkkaaDoor
end
