/- Texts of this proof, put together: PrListingCheck, PrStowagelaw20Long, PrStowagelaw20V, PrStowagelaw20Four. -/
import Derived.Test.YtahkcfhiecfgeaaMListingTellse
section
namespace Go.Proofs.Ytahkcfhiecfgeaa.Pr
open Go.RowKit Go.Proofs.YtahkcfhiecfgeaaW.PrintWords Go.Proofs.YtahkcfhiecfgeaaW.PrintLast Go.Proofs.YtahkcfhiecfgeaaW.PrintMore
attribute [local go_sem] max2_int min2_int max_two min_two max_three min_three max_four min_four   -- for this text's walks alone
attribute [local go_sem high] gtr_as_less leq_as_less
set_option linter.unusedVariables false
set_option linter.unusedSimpArgs false

/-! ### listing_Check: function 16 -/
mutual
def listing_Check.l0 : Nat → List (S47) → List (S47) → Int → Int → Option (Int)
 | 0, _, _, _, _ => none
 | k + 1, x0, x5, x6, x7 => if x7 < x6 then (if 0 ≤ x7 then (if x7 < (x5.length : Int) then (if (((rd_T47 x5 x7).f1).length : Int) = 0 then (listing_Check.j1 k x0 x5 x6 x7 true) else (if x7 > 0 then (if 0 ≤ (wrap64 (x7 - 1)) then (if (wrap64 (x7 - 1)) < (x0.length : Int) then (listing_Check.j1 k x0 x5 x6 x7 (!(Op.bytesLess (((rd_T47 x0 (wrap64 (x7 - 1))).f0).toList) (((rd_T47 x5 x7).f0).toList)))) else (none)) else (none)) else (listing_Check.j1 k x0 x5 x6 x7 false))) else (none)) else (none)) else (some 0)
def listing_Check.j1 : Nat → List (S47) → List (S47) → Int → Int → Bool → Option (Int)
 | 0, _, _, _, _, _ => none
 | k + 1, x0, x5, x6, x7, x30 => if x30 = true then (some 2) else (listing_Check.l0 k x0 x5 x6 (wrap64 (x7 + 1)))
end
def listing_Check.f (k : Nat) (l0 : List (S47)) : Option (Int) := listing_Check.l0 k l0 l0 (l0.length : Int) 0
theorem listing_Check.mono_l : ∀ k, (∀ y0 y1 y2 y3, LeO (listing_Check.l0 k y0 y1 y2 y3) (listing_Check.l0 (k + 1) y0 y1 y2 y3)) ∧ (∀ y0 y1 y2 y3 y4, LeO (listing_Check.j1 k y0 y1 y2 y3 y4) (listing_Check.j1 (k + 1) y0 y1 y2 y3 y4))
 | 0 => ⟨fun _ _ _ _ r h => by simp [listing_Check.l0] at h, fun _ _ _ _ _ r h => by simp [listing_Check.j1] at h⟩
 | k + 1 => by
  obtain ⟨ih0, ih1⟩ := listing_Check.mono_l k
  refine ⟨?_, ?_⟩
  ·intro y0 y1 y2 y3
   unfold listing_Check.l0
   repeat' first
   | (with_reducible exact ih0 _ _ _ _)
   | (with_reducible exact ih1 _ _ _ _ _)
   | (with_reducible exact LeO.refl _)
   | (with_reducible exact LeO.none _)
   | (with_reducible refine LeO.ite ?_ ?_)
   | (with_reducible refine LeO.bind ?_ (fun _ => ?_))
   | exact ih0 _ _ _ _
   | exact ih1 _ _ _ _ _
   | exact LeO.none _
   | refine LeO.ite ?_ ?_
   | refine LeO.bind ?_ (fun _ => ?_)
  ·intro y0 y1 y2 y3 y4
   unfold listing_Check.j1
   repeat' first
   | (with_reducible exact ih0 _ _ _ _)
   | (with_reducible exact ih1 _ _ _ _ _)
   | (with_reducible exact LeO.refl _)
   | (with_reducible exact LeO.none _)
   | (with_reducible refine LeO.ite ?_ ?_)
   | (with_reducible refine LeO.bind ?_ (fun _ => ?_))
   | exact ih0 _ _ _ _
   | exact ih1 _ _ _ _ _
   | exact LeO.none _
   | refine LeO.ite ?_ ?_
   | refine LeO.bind ?_ (fun _ => ?_)
theorem listing_Check.mono : ∀ a0 k, LeO (listing_Check.f k a0) (listing_Check.f (k + 1) a0) := by
 intro a0 k
 obtain ⟨ih0, ih1⟩ := listing_Check.mono_l k
 unfold listing_Check.f
 repeat' first
   | (with_reducible exact ih0 _ _ _ _)
   | (with_reducible exact ih1 _ _ _ _ _)
   | (with_reducible exact LeO.refl _)
   | (with_reducible exact LeO.none _)
   | (with_reducible refine LeO.ite ?_ ?_)
   | (with_reducible refine LeO.bind ?_ (fun _ => ?_))
   | exact ih0 _ _ _ _
   | exact ih1 _ _ _ _ _
   | exact LeO.none _
   | refine LeO.ite ?_ ?_
   | refine LeO.bind ?_ (fun _ => ?_)
set_option maxHeartbeats 8000000 in
set_option maxRecDepth 100000 in
theorem listing_Check.calls (k : Nat) (A0 : Option Addr) (c0 : Nat) (l0 : List (S47)) (r : Int) (w : World) (hr0 : Kd.C k47 w A0 l0.length l0) (hc0 : l0.length ≤ c0) (h : listing_Check.f k l0 = some r) :
  Calls Try.prog 16 #[.slice A0 l0.length c0] w fun e w' => e = .returned (.int .i64 r) ∧ Below w.heap.size w w' := by
 have hu47 := Try.underlying47
 have HR0 := Aside0.mk hr0
 have HC0 := Aside0.mk hc0
 clear hr0 hc0
 have HB := Aside0.mk (Below.refl w.heap.size w)
 have H : (listing_Check.l0 k l0 l0 (l0.length : Int) 0) = some r := h
 clear h
 have H' := Aside0.mk H
 clear H
 go_enter Try.func16, Try.ntmps16
 go_wp2
 repeat (go_quiet (fail); try go_wp2)
 go_loopg [7] k (fun kq v7 w' => ∃ (x7_1 : Int), v7 = .int .i64 x7_1 ∧ Aside0 (listing_Check.l0 kq l0 l0 (l0.length : Int) x7_1 = some r) ∧ Aside0 (kq ≤ k) ∧ Aside0 (Below w.heap.size w w'))
 case atStart => exact ⟨(0), (by first|rfl|(simp; done)|(simp [*]; done)), H', ⟨Nat.le_refl _⟩, ⟨by repeat (first|(with_reducible first|exact HB.out|apply below_alloc|apply pw_below_drewN|apply below_drew1)|exact HB.out)⟩⟩
 case round =>
  clear H'
  try clear c1
  obtain ⟨x7_1, rfl, HA, HK1, HB⟩ := hrel
  cases gk with
  | zero => exact absurd HA.out (by simp [listing_Check.l0])
  | succ k1 =>
   have H := HA.out
   clear HA
   simp only [listing_Check.l0] at H
   by_cases c2 : x7_1 < (l0.length : Int)
   ·rw [if_pos c2] at H
    have c2b0 : decide (x7_1 < (l0.length : Int)) = true := decide_eq_true c2
    clear c2
    by_cases c3 : 0 ≤ x7_1
    ·rw [if_pos c3] at H
     have c3b0 : decide (0 ≤ x7_1) = true := decide_eq_true c3
     clear c3
     by_cases c4 : x7_1 < (l0.length : Int)
     ·rw [if_pos c4] at H
      have c4b0 : decide (x7_1 < (l0.length : Int)) = true := decide_eq_true c4
      clear c4
      have HC5 := Aside0.mk H
      clear H
      have p118 : 0 ≤ (x7_1 : Int) := of_decide_eq_true (by first|(with_reducible assumption)|assumption)
      have q118 : x7_1 < (l0.length : Int) := of_decide_eq_true (by first|(with_reducible assumption)|assumption)
      obtain ⟨ad118, A118_1, c118_1, e118, hx118_0, hx118_1, hl118_1, hi118_1⟩ := at_T47 HR0.out x7_1 p118 q118
      cases e118
      replace hx118_0 := (HB.out.cell (World.block_lt_of_cell? w _ hx118_0)).trans hx118_0
      replace hx118_1 := (HB.out.cell (World.block_lt_of_cell? w _ hx118_1)).trans hx118_1
      have HR118_1 := Aside0.mk hi118_1
      have HC118_1 := Aside0.mk hl118_1
      clear hi118_1 hl118_1
      replace p118 := eq_true p118
      replace q118 := eq_true q118
      go_upto_region 4 with (first|((with_reducible refine gate_dst (N := 4) rfl ?_); refine box_event ?hg (N := 4) ?hd (cs := #[.string (⟨#[]⟩ : ByteArray), .slice none 0 0]) (t := 47) ?hr ?_; (case hd => rfl); (case hg => rfl); (case hr => first|(go_simp; done)|(go_simp; rfl)); intro gb119 hg w6 hbox hb; have n0_ := Aside0.mk (below_step (by repeat (first|(with_reducible first|exact HB.out|apply below_alloc|apply pw_below_drewN|apply below_drew1)|exact HB.out)) hb); have n1_ := Aside0.mk (hbox); have n2_ := Aside0.mk ((by rw [hg]; exact (below_size (by repeat (first|(with_reducible first|exact HB.out|apply below_alloc|apply pw_below_drewN|apply below_drew1)|exact HB.out))) : w.heap.size ≤ gb119)); have n3_ := Aside0.mk ((by rw [hg]; exact (below_size (by repeat (first|(with_reducible first|exact HB.out|apply below_alloc|apply pw_below_drewN|apply below_drew1)|exact HB.out))) : w.heap.size ≤ gb119)); clear HB; have HB := n0_; have BK119 := n1_; have GW119 := n2_; have GE119 := n3_; clear n0_ n1_ n2_ n3_; clear hb hbox hg; have hcz7_0 : w6.cell? ⟨gb119, 0, none⟩ = some (.string (⟨#[]⟩ : ByteArray)) := (blk_cell BK119.out 0).trans rfl; have hcz7_1 : w6.cell? ⟨gb119, 1, none⟩ = some (.slice none 0 0) := (blk_cell BK119.out 1).trans rfl; have hfz7_0 := blk_frozen BK119.out 0; have hfz7_1 := blk_frozen BK119.out 1))
      repeat (go_quiet (first|((with_reducible refine gate_dst (N := 4) rfl ?_); refine box_event ?hg (N := 4) ?hd (cs := #[.string (⟨#[]⟩ : ByteArray), .slice none 0 0]) (t := 47) ?hr ?_; (case hd => rfl); (case hg => rfl); (case hr => first|(go_simp; done)|(go_simp; rfl)); intro gb119 hg w6 hbox hb; have n0_ := Aside0.mk (below_step (by repeat (first|(with_reducible first|exact HB.out|apply below_alloc|apply pw_below_drewN|apply below_drew1)|exact HB.out)) hb); have n1_ := Aside0.mk (hbox); have n2_ := Aside0.mk ((by rw [hg]; exact (below_size (by repeat (first|(with_reducible first|exact HB.out|apply below_alloc|apply pw_below_drewN|apply below_drew1)|exact HB.out))) : w.heap.size ≤ gb119)); have n3_ := Aside0.mk ((by rw [hg]; exact (below_size (by repeat (first|(with_reducible first|exact HB.out|apply below_alloc|apply pw_below_drewN|apply below_drew1)|exact HB.out))) : w.heap.size ≤ gb119)); clear HB; have HB := n0_; have BK119 := n1_; have GW119 := n2_; have GE119 := n3_; clear n0_ n1_ n2_ n3_; clear hb hbox hg; have hcz7_0 : w6.cell? ⟨gb119, 0, none⟩ = some (.string (⟨#[]⟩ : ByteArray)) := (blk_cell BK119.out 0).trans rfl; have hcz7_1 : w6.cell? ⟨gb119, 1, none⟩ = some (.slice none 0 0) := (blk_cell BK119.out 1).trans rfl; have hfz7_0 := blk_frozen BK119.out 0; have hfz7_1 := blk_frozen BK119.out 1)); go_upto_region 4 with (first|((with_reducible refine gate_dst (N := 4) rfl ?_); refine box_event ?hg (N := 4) ?hd (cs := #[.string (⟨#[]⟩ : ByteArray), .slice none 0 0]) (t := 47) ?hr ?_; (case hd => rfl); (case hg => rfl); (case hr => first|(go_simp; done)|(go_simp; rfl)); intro gb119 hg w6 hbox hb; have n0_ := Aside0.mk (below_step (by repeat (first|(with_reducible first|exact HB.out|apply below_alloc|apply pw_below_drewN|apply below_drew1)|exact HB.out)) hb); have n1_ := Aside0.mk (hbox); have n2_ := Aside0.mk ((by rw [hg]; exact (below_size (by repeat (first|(with_reducible first|exact HB.out|apply below_alloc|apply pw_below_drewN|apply below_drew1)|exact HB.out))) : w.heap.size ≤ gb119)); have n3_ := Aside0.mk ((by rw [hg]; exact (below_size (by repeat (first|(with_reducible first|exact HB.out|apply below_alloc|apply pw_below_drewN|apply below_drew1)|exact HB.out))) : w.heap.size ≤ gb119)); clear HB; have HB := n0_; have BK119 := n1_; have GW119 := n2_; have GE119 := n3_; clear n0_ n1_ n2_ n3_; clear hb hbox hg; have hcz7_0 : w6.cell? ⟨gb119, 0, none⟩ = some (.string (⟨#[]⟩ : ByteArray)) := (blk_cell BK119.out 0).trans rfl; have hcz7_1 : w6.cell? ⟨gb119, 1, none⟩ = some (.slice none 0 0) := (blk_cell BK119.out 1).trans rfl; have hfz7_0 := blk_frozen BK119.out 0; have hfz7_1 := blk_frozen BK119.out 1)))
      (try simp only [Act.put, List.setIfInBounds_toArray, List.set_cons_zero, List.set_cons_succ])
      go_cut [30] (fun v30 wc => ∃ (kq : Nat) (x30_4 : Bool), v30 = .bool x30_4 ∧ Aside0 (listing_Check.j1 kq l0 l0 (l0.length : Int) x7_1 x30_4 = some r) ∧ Aside0 (kq ≤ k1) ∧ Aside0 (wc.heap[gb119]? = some (.cells #[.string ((rd_T47 l0 x7_1).f0), (.slice A118_1 ((rd_T47 l0 x7_1).f1).length c118_1)] 47 (0, 0))) ∧ Aside0 (Below w.heap.size w wc))
      case first =>
       have H := HC5.out
       clear HC5
       by_cases c8 : (((rd_T47 l0 x7_1).f1).length : Int) = 0
       ·rw [if_pos c8] at H
        have c8b0 : ((((rd_T47 l0 x7_1).f1).length : Int) == 0) = true := beq_iff_eq.mpr c8
        have c8b1 : ((((rd_T47 l0 x7_1).f1).length : Int) != 0) = false := bne_eq_false_iff_eq.mpr c8
        clear c8
        (first|rw [c8b0]|(simp only [i64_w, i32_w]; rw [c8b0])|skip)
        have H' := Aside0.mk H
        clear H
        have hcz9_0 : w6.cell? ⟨gb119, 0, none⟩ = some (.string (⟨#[]⟩ : ByteArray)) := (blk_cell BK119.out 0).trans rfl
        have hcz9_1 : w6.cell? ⟨gb119, 1, none⟩ = some (.slice none 0 0) := (blk_cell BK119.out 1).trans rfl
        have hfz9_0 := blk_frozen BK119.out 0
        have hfz9_1 := blk_frozen BK119.out 1
        go_wp2
        repeat (go_quiet (fail); try go_wp2)
        go_meet
        case rel => exact ⟨_, (true), (by first|rfl|(simp; done)|(simp [*]; done)), H', ⟨by have := HK1.out; first|omega|exact Nat.le_refl _⟩, ⟨by (with_reducible repeat (first|refine blk_drewN ?_ _|refine blk_drew ?_|refine blk_alloc ?_ _)); refine blk_put (cs := #[.string ((rd_T47 l0 x7_1).f0), .slice none 0 0]) ?_ 1 _ rfl; (with_reducible repeat (first|refine blk_drewN ?_ _|refine blk_drew ?_|refine blk_alloc ?_ _)); refine blk_put (cs := #[.string (⟨#[]⟩ : ByteArray), .slice none 0 0]) ?_ 0 _ rfl; (with_reducible repeat (first|refine blk_drewN ?_ _|refine blk_drew ?_|refine blk_alloc ?_ _)); exact BK119.out⟩, ⟨by repeat (first|(with_reducible first|exact HB.out|apply below_alloc|apply pw_below_drewN|apply below_drew1|refine below_set ?_ GE119.out)|exact HB.out)⟩⟩
       ·rw [if_neg c8] at H
        have c8b0 : ((((rd_T47 l0 x7_1).f1).length : Int) == 0) = false := beq_eq_false_iff_ne.mpr c8
        have c8b1 : ((((rd_T47 l0 x7_1).f1).length : Int) != 0) = true := bne_iff_ne.mpr c8
        have c8b2 : ¬ (((rd_T47 l0 x7_1).f1) = []) := fun h_ => c8 (by rw [h_]; rfl)
        (first|rw [c8b0]|(simp only [i64_w, i32_w]; rw [c8b0])|skip)
        by_cases c10 : x7_1 > 0
        ·rw [if_pos c10] at H
         have c10b0 : decide (0 < x7_1) = true := decide_eq_true c10
         clear c10
         obtain ⟨ji11, hji11⟩ : ∃ j_ : Int, (wrap64 (x7_1 - 1)) = j_ := ⟨_, rfl⟩
         replace H : (if 0 ≤ (ji11) then (if (ji11) < (l0.length : Int) then (listing_Check.j1 k1 l0 l0 (l0.length : Int) x7_1 (!(Op.bytesLess (((rd_T47 l0 (ji11)).f0).toList) (((rd_T47 l0 x7_1).f0).toList)))) else (none)) else (none)) = some r := by first|(rw [hji11] at H; exact H)|(simp only [hji11] at H ⊢; exact H)
         have hji11w : (IntKind.i64.wrap (x7_1 - 1)) = ji11 := (i64_w _).trans hji11
         by_cases c12 : 0 ≤ (ji11)
         ·rw [if_pos c12] at H
          have c12b0 : decide (0 ≤ (ji11)) = true := decide_eq_true c12
          clear c12
          by_cases c13 : (ji11) < (l0.length : Int)
          ·rw [if_pos c13] at H
           have c13b0 : decide ((ji11) < (l0.length : Int)) = true := decide_eq_true c13
           clear c13
           have H' := Aside0.mk H
           clear H
           have hcz14_0 : w6.cell? ⟨gb119, 0, none⟩ = some (.string (⟨#[]⟩ : ByteArray)) := (blk_cell BK119.out 0).trans rfl
           have hcz14_1 : w6.cell? ⟨gb119, 1, none⟩ = some (.slice none 0 0) := (blk_cell BK119.out 1).trans rfl
           have hfz14_0 := blk_frozen BK119.out 0
           have hfz14_1 := blk_frozen BK119.out 1
           have p120 : 0 ≤ ((ji11) : Int) := of_decide_eq_true (by first|(with_reducible assumption)|assumption)
           have q120 : (ji11) < (l0.length : Int) := of_decide_eq_true (by first|(with_reducible assumption)|assumption)
           obtain ⟨ad120, A120_1, c120_1, e120, hx120_0, hx120_1, hl120_1, hi120_1⟩ := at_T47 HR0.out (ji11) p120 q120
           obtain rfl : ad118 = ad120 := (by injection e120)
           have hn120_0 : ad118.block ≠ gb119 := Nat.ne_of_lt (Nat.lt_of_lt_of_le (by have := World.block_lt_of_cell? _ _ hx120_0; first|rwa [add_block] at this|exact this) GW119.out)
           have hn120_1 : ad118.block ≠ gb119 := Nat.ne_of_lt (Nat.lt_of_lt_of_le (by have := World.block_lt_of_cell? _ _ hx120_0; first|rwa [add_block] at this|exact this) GW119.out)
           replace hx120_0 := (HB.out.cell (World.block_lt_of_cell? w _ hx120_0)).trans hx120_0
           replace hx120_1 := (HB.out.cell (World.block_lt_of_cell? w _ hx120_1)).trans hx120_1
           have HR120_1 := Aside0.mk hi120_1
           have HC120_1 := Aside0.mk hl120_1
           clear hi120_1 hl120_1
           replace hx120_0 := (cell_far (p := ⟨gb119, 0, none⟩) (by first|(rw [add_block]; exact hn120_0)|(show (Addr.add _ _).block ≠ _; rw [add_block]; exact hn120_0)|exact hn120_0) (.string ((rd_T47 l0 x7_1).f0))).trans hx120_0
           replace hx120_1 := (cell_far (p := ⟨gb119, 0, none⟩) (by first|(rw [add_block]; exact hn120_0)|(show (Addr.add _ _).block ≠ _; rw [add_block]; exact hn120_0)|exact hn120_0) (.string ((rd_T47 l0 x7_1).f0))).trans hx120_1
           replace hx120_0 := (cell_far (p := ⟨gb119, 1, none⟩) (by first|(rw [add_block]; exact hn120_1)|(show (Addr.add _ _).block ≠ _; rw [add_block]; exact hn120_1)|exact hn120_1) (.slice A118_1 ((rd_T47 l0 x7_1).f1).length c118_1)).trans hx120_0
           replace hx120_1 := (cell_far (p := ⟨gb119, 1, none⟩) (by first|(rw [add_block]; exact hn120_1)|(show (Addr.add _ _).block ≠ _; rw [add_block]; exact hn120_1)|exact hn120_1) (.slice A118_1 ((rd_T47 l0 x7_1).f1).length c118_1)).trans hx120_1
           (try have hy120_0 := fun (n_ : Nat) => (show ((((w6.drewN n_).setCell ⟨gb119, 0, none⟩ (.string ((rd_T47 l0 x7_1).f0))).setCell ⟨gb119, 1, none⟩ (.slice A118_1 ((rd_T47 l0 x7_1).f1).length c118_1))).cell? _ = some _ from hx120_0))
           (try have hy120_1 := fun (n_ : Nat) => (show ((((w6.drewN n_).setCell ⟨gb119, 0, none⟩ (.string ((rd_T47 l0 x7_1).f0))).setCell ⟨gb119, 1, none⟩ (.slice A118_1 ((rd_T47 l0 x7_1).f1).length c118_1))).cell? _ = some _ from hx120_1))
           clear hn120_0
           clear hn120_1
           replace p120 := eq_true p120
           replace q120 := eq_true q120
           go_wp2
           repeat (go_quiet (fail); try go_wp2)
           go_meet
           case rel => exact ⟨_, (!(Op.bytesLess (((rd_T47 l0 (ji11)).f0).toList) (((rd_T47 l0 x7_1).f0).toList))), (by first|rfl|(simp; done)|(simp only [← hji11] <;> (first|rfl|simp))|(simp [*]; done)), H', ⟨by have := HK1.out; first|omega|exact Nat.le_refl _⟩, ⟨by (with_reducible repeat (first|refine blk_drewN ?_ _|refine blk_drew ?_|refine blk_alloc ?_ _)); refine blk_put (cs := #[.string ((rd_T47 l0 x7_1).f0), .slice none 0 0]) ?_ 1 _ rfl; (with_reducible repeat (first|refine blk_drewN ?_ _|refine blk_drew ?_|refine blk_alloc ?_ _)); refine blk_put (cs := #[.string (⟨#[]⟩ : ByteArray), .slice none 0 0]) ?_ 0 _ rfl; (with_reducible repeat (first|refine blk_drewN ?_ _|refine blk_drew ?_|refine blk_alloc ?_ _)); exact BK119.out⟩, ⟨by repeat (first|(with_reducible first|exact HB.out|apply below_alloc|apply pw_below_drewN|apply below_drew1|refine below_set ?_ GE119.out)|exact HB.out)⟩⟩
          ·rw [if_neg c13] at H
           exact absurd H (by simp)
         ·rw [if_neg c12] at H
          exact absurd H (by simp)
        ·rw [if_neg c10] at H
         have c10b0 : decide (0 < x7_1) = false := decide_eq_false c10
         clear c10
         have H' := Aside0.mk H
         clear H
         have hcz15_0 : w6.cell? ⟨gb119, 0, none⟩ = some (.string (⟨#[]⟩ : ByteArray)) := (blk_cell BK119.out 0).trans rfl
         have hcz15_1 : w6.cell? ⟨gb119, 1, none⟩ = some (.slice none 0 0) := (blk_cell BK119.out 1).trans rfl
         have hfz15_0 := blk_frozen BK119.out 0
         have hfz15_1 := blk_frozen BK119.out 1
         go_wp2
         repeat (go_quiet (fail); try go_wp2)
         go_meet
         case rel => exact ⟨_, (false), (by first|rfl|(simp; done)|(simp [*]; done)), H', ⟨by have := HK1.out; first|omega|exact Nat.le_refl _⟩, ⟨by (with_reducible repeat (first|refine blk_drewN ?_ _|refine blk_drew ?_|refine blk_alloc ?_ _)); refine blk_put (cs := #[.string ((rd_T47 l0 x7_1).f0), .slice none 0 0]) ?_ 1 _ rfl; (with_reducible repeat (first|refine blk_drewN ?_ _|refine blk_drew ?_|refine blk_alloc ?_ _)); refine blk_put (cs := #[.string (⟨#[]⟩ : ByteArray), .slice none 0 0]) ?_ 0 _ rfl; (with_reducible repeat (first|refine blk_drewN ?_ _|refine blk_drew ?_|refine blk_alloc ?_ _)); exact BK119.out⟩, ⟨by repeat (first|(with_reducible first|exact HB.out|apply below_alloc|apply pw_below_drewN|apply below_drew1|refine below_set ?_ GE119.out)|exact HB.out)⟩⟩
      case rest =>
       clear HC5
       try clear c1
       try clear p1
       try clear q1
       try clear hx1
       try clear c2
       try clear c2b0
       try clear p2
       try clear c3
       try clear c3b0
       try clear c4
       try clear c4b0
       try clear p6
       try clear c8
       try clear c8b0
       try clear c8b1
       try clear c8b2
       try clear c10
       try clear c10b0
       try clear c11
       try clear p11
       try clear q11
       try clear hx11
       try clear c12
       try clear c12b0
       try clear p12
       try clear q12
       try clear hx12
       try clear c13
       try clear c13b0
       try clear hcz14_0
       try clear hcz14_1
       try clear hcz15_0
       try clear hcz15_1
       try clear hcz7_0
       try clear hcz7_1
       try clear hcz9_0
       try clear hcz9_1
       try clear hfz14_0
       try clear hfz14_1
       try clear hfz15_0
       try clear hfz15_1
       try clear hfz7_0
       try clear hfz7_1
       try clear hfz9_0
       try clear hfz9_1
       try clear hx118_0
       try clear hx118_1
       try clear hx120_0
       try clear hx120_1
       try clear p118
       try clear p120
       try clear q118
       try clear q120
       obtain ⟨kq, x30_4, rfl, HA, HJ4, BK119, HB⟩ := hcut
       cases kq with
       | zero => exact absurd HA.out (by simp [listing_Check.j1])
       | succ kj4 =>
        have H := HA.out
        clear HA
        simp only [listing_Check.j1] at H
        by_cases c16 : x30_4 = true
        ·subst c16
         have H1 : (some 2) = some r := by rw [if_pos rfl] at H; exact H
         clear H
         have H := H1
         clear H1
         obtain rfl := Option.some.inj H
         go_wp2
         repeat (go_quiet (fail); try go_wp2)
         go_ret
         exact ⟨by first|rfl|(simp [errW_none, errW_some] <;> rfl)|(simp [*, errW_none, errW_some] <;> rfl), by repeat (first|(with_reducible first|exact HB.out|apply below_alloc|apply pw_below_drewN|apply below_drew1|refine below_set ?_ GE119.out)|exact HB.out)⟩
        ·replace c16 := Bool.eq_false_iff.mpr c16
         subst c16
         have H1 : (listing_Check.l0 kj4 l0 l0 (l0.length : Int) (wrap64 (x7_1 + 1))) = some r := by rw [if_neg (show ¬ (false = true) by decide)] at H; exact H
         clear H
         have H := H1
         clear H1
         have H' := Aside0.mk H
         clear H
         go_wp2
         repeat (go_quiet (fail); try go_wp2)
         go_roundg kj4
         case measure => have := HK1.out; have := HJ4.out; omega
         case rel => exact ⟨(wrap64 (x7_1 + 1)), (by first|rfl|(simp; done)|(simp [*]; done)), H', ⟨by have := HK1.out; have := HJ4.out; omega⟩, ⟨by repeat (first|(with_reducible first|exact HB.out|apply below_alloc|apply pw_below_drewN|apply below_drew1|refine below_set ?_ GE119.out)|exact HB.out)⟩⟩
     ·rw [if_neg c4] at H
      exact absurd H (by simp)
    ·rw [if_neg c3] at H
     exact absurd H (by simp)
   ·rw [if_neg c2] at H
    have c2b0 : decide (x7_1 < (l0.length : Int)) = false := decide_eq_false c2
    clear c2
    obtain rfl := Option.some.inj H
    go_wp2
    repeat (go_quiet (fail); try go_wp2)
    go_ret
    exact ⟨by first|rfl|(simp [errW_none, errW_some] <;> rfl)|(simp [*, errW_none, errW_some] <;> rfl), by repeat (first|(with_reducible first|exact HB.out|apply below_alloc|apply pw_below_drewN|apply below_drew1)|exact HB.out)⟩

end Go.Proofs.Ytahkcfhiecfgeaa.Pr
end
section
namespace Go.Proofs.Ytahkcfhiecfgeaa.Pr
open Go.RowKit Go.Proofs.YtahkcfhiecfgeaaW.PrintWords Go.Proofs.YtahkcfhiecfgeaaW.PrintLast Go.Proofs.YtahkcfhiecfgeaaW.PrintMore
attribute [local go_sem] max2_int min2_int max_two min_two max_three min_three max_four min_four   -- for this text's walks alone
attribute [local go_sem high] gtr_as_less leq_as_less
set_option linter.unusedVariables false
set_option linter.unusedSimpArgs false

/-! ### stowagelaw20_long: function 9 -/
def stowagelaw20_long.l0 : Nat → List ByteArray → Int → Option (Bool)
 | 0, _, _ => none
 | k + 1, x0, x3 => if x3 < (x0.length : Int) then (if 0 ≤ x3 then (if ((rdOf ByteArray.empty x0 x3).size : Int) > 600 then (some true) else (stowagelaw20_long.l0 k x0 (wrap64 (x3 + 1)))) else (none)) else (some false)
def stowagelaw20_long.f (k : Nat) (l0 : List ByteArray) : Option (Bool) := stowagelaw20_long.l0 k l0 0
theorem stowagelaw20_long.mono_l : ∀ k, (∀ y0 y1, LeO (stowagelaw20_long.l0 k y0 y1) (stowagelaw20_long.l0 (k + 1) y0 y1))
 | 0 => fun _ _ r h => by simp [stowagelaw20_long.l0] at h
 | k + 1 => by
  have ih0 := stowagelaw20_long.mono_l k
  ·intro y0 y1
   unfold stowagelaw20_long.l0
   repeat' first
   | (with_reducible exact ih0 _ _)
   | (with_reducible exact LeO.refl _)
   | (with_reducible exact LeO.none _)
   | (with_reducible refine LeO.ite ?_ ?_)
   | (with_reducible refine LeO.bind ?_ (fun _ => ?_))
   | exact ih0 _ _
   | exact LeO.none _
   | refine LeO.ite ?_ ?_
   | refine LeO.bind ?_ (fun _ => ?_)
theorem stowagelaw20_long.mono : ∀ a0 k, LeO (stowagelaw20_long.f k a0) (stowagelaw20_long.f (k + 1) a0) := by
 intro a0 k
 have ih0 := stowagelaw20_long.mono_l k
 unfold stowagelaw20_long.f
 repeat' first
   | (with_reducible exact ih0 _ _)
   | (with_reducible exact LeO.refl _)
   | (with_reducible exact LeO.none _)
   | (with_reducible refine LeO.ite ?_ ?_)
   | (with_reducible refine LeO.bind ?_ (fun _ => ?_))
   | exact ih0 _ _
   | exact LeO.none _
   | refine LeO.ite ?_ ?_
   | refine LeO.bind ?_ (fun _ => ?_)
set_option maxHeartbeats 8000000 in
set_option maxRecDepth 100000 in
theorem stowagelaw20_long.calls (k : Nat) (A0 : Option Addr) (c0 : Nat) (l0 : List ByteArray) (r : Bool) (w : World) (hr0 : Kd.C Kd.string w A0 l0.length l0) (hc0 : l0.length ≤ c0) (h : stowagelaw20_long.f k l0 = some r) :
  Calls Try.prog 9 #[.slice A0 l0.length c0] w fun e w' => e = .returned (.bool r) ∧ Drawn0 w w' := by
 have HR0 := Aside0.mk hr0
 have HC0 := Aside0.mk hc0
 clear hr0 hc0
 have H : (stowagelaw20_long.l0 k l0 0) = some r := h
 clear h
 have H' := Aside0.mk H
 clear H
 go_enter Try.func9, Try.ntmps9
 go_wp2
 go_loopg [3] k (fun kq v3 w' => ∃ (x3_1 : Int), v3 = .int .i64 x3_1 ∧ Aside0 (stowagelaw20_long.l0 kq l0 x3_1 = some r) ∧ Aside0 (kq ≤ k) ∧ Drawn0 w w')
 case atStart => exact ⟨(0), (by first|rfl|(simp; done)|(simp [*]; done)), H', ⟨Nat.le_refl _⟩, by repeat (first|exact Drawn0.refl _|apply Drawn0.step)⟩
 case round =>
  clear H'
  obtain ⟨x3_1, rfl, HA, HK1, ⟨m1, rfl⟩⟩ := hrel
  cases gk with
  | zero => exact absurd HA.out (by simp [stowagelaw20_long.l0])
  | succ k1 =>
   have H := HA.out
   clear HA
   simp only [stowagelaw20_long.l0] at H
   by_cases c2 : x3_1 < (l0.length : Int)
   ·rw [if_pos c2] at H
    have c2b0 : decide (x3_1 < (l0.length : Int)) = true := decide_eq_true c2
    clear c2
    by_cases c3 : 0 ≤ x3_1
    ·rw [if_pos c3] at H
     have c3b0 : decide (0 ≤ x3_1) = true := decide_eq_true c3
     clear c3
     by_cases c4 : ((rdOf ByteArray.empty l0 x3_1).size : Int) > 600
     ·rw [if_pos c4] at H
      have c4b0 : decide (600 < ((rdOf ByteArray.empty l0 x3_1).size : Int)) = true := decide_eq_true c4
      have c4b1 : decide (600 < (rdOf ByteArray.empty l0 x3_1).size) = true := decide_eq_true (by omega)
      clear c4
      obtain rfl := Option.some.inj H
      have p106 : 0 ≤ (x3_1 : Int) := of_decide_eq_true (by first|(with_reducible assumption)|assumption)
      have q106 : x3_1 < (l0.length : Int) := of_decide_eq_true (by first|(with_reducible assumption)|assumption)
      obtain ⟨ad106, e106, hx106_0⟩ := Kd.at_string HR0.out x3_1 p106 q106
      cases e106
      replace p106 := eq_true p106
      replace q106 := eq_true q106
      go_wp2
      go_ret
      exact ⟨by first|rfl|(simp; done)|(simp [*]; done), by repeat (first|exact Drawn0.refl _|apply Drawn0.step)⟩
     ·rw [if_neg c4] at H
      have c4b0 : decide (600 < ((rdOf ByteArray.empty l0 x3_1).size : Int)) = false := decide_eq_false c4
      have c4b1 : decide (600 < (rdOf ByteArray.empty l0 x3_1).size) = false := decide_eq_false (by omega)
      clear c4
      have H' := Aside0.mk H
      clear H
      have p106 : 0 ≤ (x3_1 : Int) := of_decide_eq_true (by first|(with_reducible assumption)|assumption)
      have q106 : x3_1 < (l0.length : Int) := of_decide_eq_true (by first|(with_reducible assumption)|assumption)
      obtain ⟨ad106, e106, hx106_0⟩ := Kd.at_string HR0.out x3_1 p106 q106
      cases e106
      replace p106 := eq_true p106
      replace q106 := eq_true q106
      go_wp2
      go_roundg k1
      case measure => have := HK1.out; omega
      case rel => exact ⟨(wrap64 (x3_1 + 1)), (by first|rfl|(simp; done)|(simp [*]; done)), H', ⟨by have := HK1.out; omega⟩, by repeat (first|exact Drawn0.refl _|apply Drawn0.step)⟩
    ·rw [if_neg c3] at H
     exact absurd H (by simp)
   ·rw [if_neg c2] at H
    have c2b0 : decide (x3_1 < (l0.length : Int)) = false := decide_eq_false c2
    clear c2
    obtain rfl := Option.some.inj H
    go_wp2
    go_ret
    exact ⟨by first|rfl|(simp; done)|(simp [*]; done), by repeat (first|exact Drawn0.refl _|apply Drawn0.step)⟩

end Go.Proofs.Ytahkcfhiecfgeaa.Pr
end
section
namespace Go.Proofs.Ytahkcfhiecfgeaa.Pr
open Go.RowKit Go.Proofs.YtahkcfhiecfgeaaW.PrintWords Go.Proofs.YtahkcfhiecfgeaaW.PrintLast Go.Proofs.YtahkcfhiecfgeaaW.PrintMore
attribute [local go_sem] max2_int min2_int max_two min_two max_three min_three max_four min_four   -- for this text's walks alone
attribute [local go_sem high] gtr_as_less leq_as_less
set_option linter.unusedVariables false
set_option linter.unusedSimpArgs false

/-! ### stowagelaw20_v: function 21 -/
def stowagelaw20_v.f (a0 : ByteArray) : Option (ByteArray × Int × Bool × Int × ByteArray) := some (a0, 0, false, 0, (⟨#[]⟩ : ByteArray))
set_option maxHeartbeats 8000000 in
set_option maxRecDepth 100000 in
theorem stowagelaw20_v.calls (a0 : ByteArray) (r1 : ByteArray) (r2 : Int) (r3 : Bool) (r4 : Int) (r5 : ByteArray) (w : World) (h : stowagelaw20_v.f a0 = some (r1, r2, r3, r4, r5)) :
  Calls Try.prog 21 #[.string a0] w fun e w' => e = .returned (.agg #[.string r1, .int .i64 r2, .bool r3, .int .i64 r4, .string r5]) ∧ Below w.heap.size w w' := by
 have hu37 := Try.underlying37
 have HB := Aside0.mk (Below.refl w.heap.size w)
 have H : (some (a0, 0, false, 0, (⟨#[]⟩ : ByteArray))) = some (r1, r2, r3, r4, r5) := h
 clear h
 simp only [Option.some.injEq, Prod.mk.injEq] at H
 obtain ⟨rfl, rfl, rfl, rfl, rfl⟩ := H
 go_enter Try.func21, Try.ntmps21
 go_wp2_with (first|((with_reducible refine gate_dst (N := 2) rfl ?_); refine box_event ?hg (N := 2) ?hd (cs := #[.string (⟨#[]⟩ : ByteArray), .int .i64 0, .bool false, .int .i64 0, .string (⟨#[]⟩ : ByteArray)]) (t := 37) ?hr ?_; (case hd => rfl); (case hg => rfl); (case hr => first|(go_simp; done)|(go_simp; rfl)); intro gb174 hg w2 hbox hb; have n0_ := Aside0.mk (below_step (by repeat (first|(with_reducible first|exact HB.out|apply below_alloc|apply pw_below_drewN|apply below_drew1)|exact HB.out)) hb); have n1_ := Aside0.mk (hbox); have n2_ := Aside0.mk ((by rw [hg]; exact (below_size (by repeat (first|(with_reducible first|exact HB.out|apply below_alloc|apply pw_below_drewN|apply below_drew1)|exact HB.out))) : w.heap.size ≤ gb174)); have n3_ := Aside0.mk ((by rw [hg]; exact (below_size (by repeat (first|(with_reducible first|exact HB.out|apply below_alloc|apply pw_below_drewN|apply below_drew1)|exact HB.out))) : w.heap.size ≤ gb174)); clear HB; have HB := n0_; have BK174 := n1_; have GW174 := n2_; have GE174 := n3_; clear n0_ n1_ n2_ n3_; clear hb hbox hg; have hcz3_0 : w2.cell? ⟨gb174, 0, none⟩ = some (.string (⟨#[]⟩ : ByteArray)) := (blk_cell BK174.out 0).trans rfl; have hcz3_1 : w2.cell? ⟨gb174, 1, none⟩ = some (.int .i64 0) := (blk_cell BK174.out 1).trans rfl; have hcz3_2 : w2.cell? ⟨gb174, 2, none⟩ = some (.bool false) := (blk_cell BK174.out 2).trans rfl; have hcz3_3 : w2.cell? ⟨gb174, 3, none⟩ = some (.int .i64 0) := (blk_cell BK174.out 3).trans rfl; have hcz3_4 : w2.cell? ⟨gb174, 4, none⟩ = some (.string (⟨#[]⟩ : ByteArray)) := (blk_cell BK174.out 4).trans rfl; have hfz3_0 := blk_frozen BK174.out 0; have hfz3_1 := blk_frozen BK174.out 1; have hfz3_2 := blk_frozen BK174.out 2; have hfz3_3 := blk_frozen BK174.out 3; have hfz3_4 := blk_frozen BK174.out 4))
 refine bodyPost_ret (results_cell_row rfl _ _ gb174 37 #[.string a0, .int .i64 0, .bool false, .int .i64 0, .string (⟨#[]⟩ : ByteArray)] (0, 0) _ rfl (by (with_reducible repeat (first|refine blk_drewN ?_ _|refine blk_drew ?_|refine blk_alloc ?_ _)); refine blk_put (cs := #[.string a0, .int .i64 0, .bool false, .int .i64 0, .string (⟨#[]⟩ : ByteArray)]) ?_ 4 _ rfl; (with_reducible repeat (first|refine blk_drewN ?_ _|refine blk_drew ?_|refine blk_alloc ?_ _)); refine blk_put (cs := #[.string a0, .int .i64 0, .bool false, .int .i64 0, .string (⟨#[]⟩ : ByteArray)]) ?_ 3 _ rfl; (with_reducible repeat (first|refine blk_drewN ?_ _|refine blk_drew ?_|refine blk_alloc ?_ _)); refine blk_put (cs := #[.string a0, .int .i64 0, .bool false, .int .i64 0, .string (⟨#[]⟩ : ByteArray)]) ?_ 2 _ rfl; (with_reducible repeat (first|refine blk_drewN ?_ _|refine blk_drew ?_|refine blk_alloc ?_ _)); refine blk_put (cs := #[.string a0, .int .i64 0, .bool false, .int .i64 0, .string (⟨#[]⟩ : ByteArray)]) ?_ 1 _ rfl; (with_reducible repeat (first|refine blk_drewN ?_ _|refine blk_drew ?_|refine blk_alloc ?_ _)); refine blk_put (cs := #[.string (⟨#[]⟩ : ByteArray), .int .i64 0, .bool false, .int .i64 0, .string (⟨#[]⟩ : ByteArray)]) ?_ 0 _ rfl; (with_reducible repeat (first|refine blk_drewN ?_ _|refine blk_drew ?_|refine blk_alloc ?_ _)); exact BK174.out) Try.underlying37 rfl (by kernel_rfl)) rfl ?_
 exact ⟨by first|rfl|(simp [errW_none, errW_some] <;> rfl)|(simp [*, errW_none, errW_some] <;> rfl), by repeat (first|(with_reducible first|exact HB.out|apply below_alloc|apply pw_below_drewN|apply below_drew1|refine below_set ?_ GE174.out)|exact HB.out)⟩

end Go.Proofs.Ytahkcfhiecfgeaa.Pr
end
section
namespace Go.Proofs.Ytahkcfhiecfgeaa.Pr
open Go.RowKit Go.Proofs.YtahkcfhiecfgeaaW.PrintWords Go.Proofs.YtahkcfhiecfgeaaW.PrintLast Go.Proofs.YtahkcfhiecfgeaaW.PrintMore
attribute [local go_sem] max2_int min2_int max_two min_two max_three min_three max_four min_four   -- for this text's walks alone
attribute [local go_sem high] gtr_as_less leq_as_less
set_option linter.unusedVariables false
set_option linter.unusedSimpArgs false

/-! ### stowagelaw20_four: function 22 -/
def stowagelaw20_four.f  : Option ((List (S47))) := (stowagelaw20_v.f (⟨#[118, 49]⟩ : ByteArray)).bind fun bt175 => ((stowagelaw20_v.f (⟨#[118, 50]⟩ : ByteArray)).bind fun bt183 => ((stowagelaw20_v.f (⟨#[118, 51]⟩ : ByteArray)).bind fun bt191 => ((stowagelaw20_v.f (⟨#[118, 52]⟩ : ByteArray)).bind fun bt196 => ((stowagelaw20_v.f (⟨#[118, 54]⟩ : ByteArray)).bind fun bt204 => (some (([(⟨(⟨#[97]⟩ : ByteArray), (([(⟨bt175.1, bt175.2.1, bt175.2.2.1, bt175.2.2.2.1, bt175.2.2.2.2⟩ : S37)] : List (S37)))⟩ : S47), (⟨(⟨#[98, 47, 99]⟩ : ByteArray), (([(⟨bt183.1, bt183.2.1, bt183.2.2.1, bt183.2.2.2.1, bt183.2.2.2.2⟩ : S37)] : List (S37)))⟩ : S47), (⟨(⟨#[98, 47, 100]⟩ : ByteArray), (([(⟨bt191.1, bt191.2.1, bt191.2.2.1, bt191.2.2.2.1, bt191.2.2.2.2⟩ : S37), (⟨bt196.1, bt196.2.1, bt196.2.2.1, bt196.2.2.2.1, bt196.2.2.2.2⟩ : S37)] : List (S37)))⟩ : S47), (⟨(⟨#[101]⟩ : ByteArray), (([(⟨(⟨#[109, 53]⟩ : ByteArray), 0, true, 0, (⟨#[]⟩ : ByteArray)⟩ : S37), (⟨bt204.1, bt204.2.1, bt204.2.2.1, bt204.2.2.2.1, bt204.2.2.2.2⟩ : S37)] : List (S37)))⟩ : S47)] : List (S47))))))))
set_option maxHeartbeats 8000000 in
set_option maxRecDepth 100000 in
theorem stowagelaw20_four.calls  (r : List (S47)) (w : World) (h : stowagelaw20_four.f  = some r) :
  Calls Try.prog 22 #[] w fun e w' => ∃ v0_ : Value, e = .returned (v0_) ∧ Kd.N k47 47 w' w.heap.size (fun k_ => (w.heap.size ≤ k_)) v0_ r ∧ Below w.heap.size w w' := by
 have hu47 := Try.underlying47
 have hu37 := Try.underlying37
 have HB := Aside0.mk (Below.refl w.heap.size w)
 have H : ((stowagelaw20_v.f (⟨#[118, 49]⟩ : ByteArray)).bind fun bt175 => ((stowagelaw20_v.f (⟨#[118, 50]⟩ : ByteArray)).bind fun bt183 => ((stowagelaw20_v.f (⟨#[118, 51]⟩ : ByteArray)).bind fun bt191 => ((stowagelaw20_v.f (⟨#[118, 52]⟩ : ByteArray)).bind fun bt196 => ((stowagelaw20_v.f (⟨#[118, 54]⟩ : ByteArray)).bind fun bt204 => (some (([(⟨(⟨#[97]⟩ : ByteArray), (([(⟨bt175.1, bt175.2.1, bt175.2.2.1, bt175.2.2.2.1, bt175.2.2.2.2⟩ : S37)] : List (S37)))⟩ : S47), (⟨(⟨#[98, 47, 99]⟩ : ByteArray), (([(⟨bt183.1, bt183.2.1, bt183.2.2.1, bt183.2.2.2.1, bt183.2.2.2.2⟩ : S37)] : List (S37)))⟩ : S47), (⟨(⟨#[98, 47, 100]⟩ : ByteArray), (([(⟨bt191.1, bt191.2.1, bt191.2.2.1, bt191.2.2.2.1, bt191.2.2.2.2⟩ : S37), (⟨bt196.1, bt196.2.1, bt196.2.2.1, bt196.2.2.2.1, bt196.2.2.2.2⟩ : S37)] : List (S37)))⟩ : S47), (⟨(⟨#[101]⟩ : ByteArray), (([(⟨(⟨#[109, 53]⟩ : ByteArray), 0, true, 0, (⟨#[]⟩ : ByteArray)⟩ : S37), (⟨bt204.1, bt204.2.1, bt204.2.2.1, bt204.2.2.2.1, bt204.2.2.2.2⟩ : S37)] : List (S37)))⟩ : S47)] : List (S47))))))))) = some r := h
 clear h
 replace H := Option.bind_eq_some_iff.mp H
 obtain ⟨⟨t175, t176, t177, t178, t179⟩, A10, H⟩ := H
 replace H : ((stowagelaw20_v.f (⟨#[118, 50]⟩ : ByteArray)).bind fun bt183 => ((stowagelaw20_v.f (⟨#[118, 51]⟩ : ByteArray)).bind fun bt191 => ((stowagelaw20_v.f (⟨#[118, 52]⟩ : ByteArray)).bind fun bt196 => ((stowagelaw20_v.f (⟨#[118, 54]⟩ : ByteArray)).bind fun bt204 => (some (([(⟨(⟨#[97]⟩ : ByteArray), (([(⟨t175, t176, t177, t178, t179⟩ : S37)] : List (S37)))⟩ : S47), (⟨(⟨#[98, 47, 99]⟩ : ByteArray), (([(⟨bt183.1, bt183.2.1, bt183.2.2.1, bt183.2.2.2.1, bt183.2.2.2.2⟩ : S37)] : List (S37)))⟩ : S47), (⟨(⟨#[98, 47, 100]⟩ : ByteArray), (([(⟨bt191.1, bt191.2.1, bt191.2.2.1, bt191.2.2.2.1, bt191.2.2.2.2⟩ : S37), (⟨bt196.1, bt196.2.1, bt196.2.2.1, bt196.2.2.2.1, bt196.2.2.2.2⟩ : S37)] : List (S37)))⟩ : S47), (⟨(⟨#[101]⟩ : ByteArray), (([(⟨(⟨#[109, 53]⟩ : ByteArray), 0, true, 0, (⟨#[]⟩ : ByteArray)⟩ : S37), (⟨bt204.1, bt204.2.1, bt204.2.2.1, bt204.2.2.2.1, bt204.2.2.2.2⟩ : S37)] : List (S37)))⟩ : S47)] : List (S47)))))))) = some r := H
 have A1 := Aside0.mk A10
 clear A10
 obtain ⟨y180, hy180⟩ : ∃ y_ : List (S37), y_ = (([(⟨t175, t176, t177, t178, t179⟩ : S37)] : List (S37))) := ⟨_, rfl⟩
 replace H : ((stowagelaw20_v.f (⟨#[118, 50]⟩ : ByteArray)).bind fun bt183 => ((stowagelaw20_v.f (⟨#[118, 51]⟩ : ByteArray)).bind fun bt191 => ((stowagelaw20_v.f (⟨#[118, 52]⟩ : ByteArray)).bind fun bt196 => ((stowagelaw20_v.f (⟨#[118, 54]⟩ : ByteArray)).bind fun bt204 => (some (([(⟨(⟨#[97]⟩ : ByteArray), y180⟩ : S47), (⟨(⟨#[98, 47, 99]⟩ : ByteArray), (([(⟨bt183.1, bt183.2.1, bt183.2.2.1, bt183.2.2.2.1, bt183.2.2.2.2⟩ : S37)] : List (S37)))⟩ : S47), (⟨(⟨#[98, 47, 100]⟩ : ByteArray), (([(⟨bt191.1, bt191.2.1, bt191.2.2.1, bt191.2.2.2.1, bt191.2.2.2.2⟩ : S37), (⟨bt196.1, bt196.2.1, bt196.2.2.1, bt196.2.2.2.1, bt196.2.2.2.2⟩ : S37)] : List (S37)))⟩ : S47), (⟨(⟨#[101]⟩ : ByteArray), (([(⟨(⟨#[109, 53]⟩ : ByteArray), 0, true, 0, (⟨#[]⟩ : ByteArray)⟩ : S37), (⟨bt204.1, bt204.2.1, bt204.2.2.1, bt204.2.2.2.1, bt204.2.2.2.2⟩ : S37)] : List (S37)))⟩ : S47)] : List (S47)))))))) = some r := by first|(rw [hy180]; with_reducible exact H)|(have H2_ := (Option.bind_some _ _).symm.trans H; rw [hy180]; with_reducible exact H2_)|(have H2_ := (Option.bind_some _ _).symm.trans H; with_reducible exact H2_)|with_reducible exact H|(rw [hy180]; exact H)|exact H
 have Ny180 := Aside0.mk hy180
 clear hy180
 replace H := Option.bind_eq_some_iff.mp H
 obtain ⟨⟨t183, t184, t185, t186, t187⟩, A20, H⟩ := H
 replace H : ((stowagelaw20_v.f (⟨#[118, 51]⟩ : ByteArray)).bind fun bt191 => ((stowagelaw20_v.f (⟨#[118, 52]⟩ : ByteArray)).bind fun bt196 => ((stowagelaw20_v.f (⟨#[118, 54]⟩ : ByteArray)).bind fun bt204 => (some (([(⟨(⟨#[97]⟩ : ByteArray), y180⟩ : S47), (⟨(⟨#[98, 47, 99]⟩ : ByteArray), (([(⟨t183, t184, t185, t186, t187⟩ : S37)] : List (S37)))⟩ : S47), (⟨(⟨#[98, 47, 100]⟩ : ByteArray), (([(⟨bt191.1, bt191.2.1, bt191.2.2.1, bt191.2.2.2.1, bt191.2.2.2.2⟩ : S37), (⟨bt196.1, bt196.2.1, bt196.2.2.1, bt196.2.2.2.1, bt196.2.2.2.2⟩ : S37)] : List (S37)))⟩ : S47), (⟨(⟨#[101]⟩ : ByteArray), (([(⟨(⟨#[109, 53]⟩ : ByteArray), 0, true, 0, (⟨#[]⟩ : ByteArray)⟩ : S37), (⟨bt204.1, bt204.2.1, bt204.2.2.1, bt204.2.2.2.1, bt204.2.2.2.2⟩ : S37)] : List (S37)))⟩ : S47)] : List (S47))))))) = some r := H
 have A2 := Aside0.mk A20
 clear A20
 obtain ⟨y188, hy188⟩ : ∃ y_ : List (S37), y_ = (([(⟨t183, t184, t185, t186, t187⟩ : S37)] : List (S37))) := ⟨_, rfl⟩
 replace H : ((stowagelaw20_v.f (⟨#[118, 51]⟩ : ByteArray)).bind fun bt191 => ((stowagelaw20_v.f (⟨#[118, 52]⟩ : ByteArray)).bind fun bt196 => ((stowagelaw20_v.f (⟨#[118, 54]⟩ : ByteArray)).bind fun bt204 => (some (([(⟨(⟨#[97]⟩ : ByteArray), y180⟩ : S47), (⟨(⟨#[98, 47, 99]⟩ : ByteArray), y188⟩ : S47), (⟨(⟨#[98, 47, 100]⟩ : ByteArray), (([(⟨bt191.1, bt191.2.1, bt191.2.2.1, bt191.2.2.2.1, bt191.2.2.2.2⟩ : S37), (⟨bt196.1, bt196.2.1, bt196.2.2.1, bt196.2.2.2.1, bt196.2.2.2.2⟩ : S37)] : List (S37)))⟩ : S47), (⟨(⟨#[101]⟩ : ByteArray), (([(⟨(⟨#[109, 53]⟩ : ByteArray), 0, true, 0, (⟨#[]⟩ : ByteArray)⟩ : S37), (⟨bt204.1, bt204.2.1, bt204.2.2.1, bt204.2.2.2.1, bt204.2.2.2.2⟩ : S37)] : List (S37)))⟩ : S47)] : List (S47))))))) = some r := by first|(rw [hy188]; with_reducible exact H)|(have H2_ := (Option.bind_some _ _).symm.trans H; rw [hy188]; with_reducible exact H2_)|(have H2_ := (Option.bind_some _ _).symm.trans H; with_reducible exact H2_)|with_reducible exact H|(rw [hy188]; exact H)|exact H
 have Ny188 := Aside0.mk hy188
 clear hy188
 replace H := Option.bind_eq_some_iff.mp H
 obtain ⟨⟨t191, t192, t193, t194, t195⟩, A30, H⟩ := H
 replace H : ((stowagelaw20_v.f (⟨#[118, 52]⟩ : ByteArray)).bind fun bt196 => ((stowagelaw20_v.f (⟨#[118, 54]⟩ : ByteArray)).bind fun bt204 => (some (([(⟨(⟨#[97]⟩ : ByteArray), y180⟩ : S47), (⟨(⟨#[98, 47, 99]⟩ : ByteArray), y188⟩ : S47), (⟨(⟨#[98, 47, 100]⟩ : ByteArray), (([(⟨t191, t192, t193, t194, t195⟩ : S37), (⟨bt196.1, bt196.2.1, bt196.2.2.1, bt196.2.2.2.1, bt196.2.2.2.2⟩ : S37)] : List (S37)))⟩ : S47), (⟨(⟨#[101]⟩ : ByteArray), (([(⟨(⟨#[109, 53]⟩ : ByteArray), 0, true, 0, (⟨#[]⟩ : ByteArray)⟩ : S37), (⟨bt204.1, bt204.2.1, bt204.2.2.1, bt204.2.2.2.1, bt204.2.2.2.2⟩ : S37)] : List (S37)))⟩ : S47)] : List (S47)))))) = some r := H
 have A3 := Aside0.mk A30
 clear A30
 replace H := Option.bind_eq_some_iff.mp H
 obtain ⟨⟨t196, t197, t198, t199, t200⟩, A40, H⟩ := H
 replace H : ((stowagelaw20_v.f (⟨#[118, 54]⟩ : ByteArray)).bind fun bt204 => (some (([(⟨(⟨#[97]⟩ : ByteArray), y180⟩ : S47), (⟨(⟨#[98, 47, 99]⟩ : ByteArray), y188⟩ : S47), (⟨(⟨#[98, 47, 100]⟩ : ByteArray), (([(⟨t191, t192, t193, t194, t195⟩ : S37), (⟨t196, t197, t198, t199, t200⟩ : S37)] : List (S37)))⟩ : S47), (⟨(⟨#[101]⟩ : ByteArray), (([(⟨(⟨#[109, 53]⟩ : ByteArray), 0, true, 0, (⟨#[]⟩ : ByteArray)⟩ : S37), (⟨bt204.1, bt204.2.1, bt204.2.2.1, bt204.2.2.2.1, bt204.2.2.2.2⟩ : S37)] : List (S37)))⟩ : S47)] : List (S47))))) = some r := H
 have A4 := Aside0.mk A40
 clear A40
 obtain ⟨y201, hy201⟩ : ∃ y_ : List (S37), y_ = (([(⟨t191, t192, t193, t194, t195⟩ : S37), (⟨t196, t197, t198, t199, t200⟩ : S37)] : List (S37))) := ⟨_, rfl⟩
 replace H : ((stowagelaw20_v.f (⟨#[118, 54]⟩ : ByteArray)).bind fun bt204 => (some (([(⟨(⟨#[97]⟩ : ByteArray), y180⟩ : S47), (⟨(⟨#[98, 47, 99]⟩ : ByteArray), y188⟩ : S47), (⟨(⟨#[98, 47, 100]⟩ : ByteArray), y201⟩ : S47), (⟨(⟨#[101]⟩ : ByteArray), (([(⟨(⟨#[109, 53]⟩ : ByteArray), 0, true, 0, (⟨#[]⟩ : ByteArray)⟩ : S37), (⟨bt204.1, bt204.2.1, bt204.2.2.1, bt204.2.2.2.1, bt204.2.2.2.2⟩ : S37)] : List (S37)))⟩ : S47)] : List (S47))))) = some r := by first|(rw [hy201]; with_reducible exact H)|(have H2_ := (Option.bind_some _ _).symm.trans H; rw [hy201]; with_reducible exact H2_)|(have H2_ := (Option.bind_some _ _).symm.trans H; with_reducible exact H2_)|with_reducible exact H|(rw [hy201]; exact H)|exact H
 have Ny201 := Aside0.mk hy201
 clear hy201
 replace H := Option.bind_eq_some_iff.mp H
 obtain ⟨⟨t204, t205, t206, t207, t208⟩, A50, H⟩ := H
 replace H : (some (([(⟨(⟨#[97]⟩ : ByteArray), y180⟩ : S47), (⟨(⟨#[98, 47, 99]⟩ : ByteArray), y188⟩ : S47), (⟨(⟨#[98, 47, 100]⟩ : ByteArray), y201⟩ : S47), (⟨(⟨#[101]⟩ : ByteArray), (([(⟨(⟨#[109, 53]⟩ : ByteArray), 0, true, 0, (⟨#[]⟩ : ByteArray)⟩ : S37), (⟨t204, t205, t206, t207, t208⟩ : S37)] : List (S37)))⟩ : S47)] : List (S47)))) = some r := H
 have A5 := Aside0.mk A50
 clear A50
 obtain ⟨y209, hy209⟩ : ∃ y_ : List (S37), y_ = (([(⟨(⟨#[109, 53]⟩ : ByteArray), 0, true, 0, (⟨#[]⟩ : ByteArray)⟩ : S37), (⟨t204, t205, t206, t207, t208⟩ : S37)] : List (S37))) := ⟨_, rfl⟩
 replace H : (some (([(⟨(⟨#[97]⟩ : ByteArray), y180⟩ : S47), (⟨(⟨#[98, 47, 99]⟩ : ByteArray), y188⟩ : S47), (⟨(⟨#[98, 47, 100]⟩ : ByteArray), y201⟩ : S47), (⟨(⟨#[101]⟩ : ByteArray), y209⟩ : S47)] : List (S47)))) = some r := by first|(rw [hy209]; with_reducible exact H)|(have H2_ := (Option.bind_some _ _).symm.trans H; rw [hy209]; with_reducible exact H2_)|(have H2_ := (Option.bind_some _ _).symm.trans H; with_reducible exact H2_)|with_reducible exact H|(rw [hy209]; exact H)|exact H
 have Ny209 := Aside0.mk hy209
 clear hy209
 obtain ⟨y212, hy212⟩ : ∃ y_ : List (S47), y_ = (([(⟨(⟨#[97]⟩ : ByteArray), y180⟩ : S47), (⟨(⟨#[98, 47, 99]⟩ : ByteArray), y188⟩ : S47), (⟨(⟨#[98, 47, 100]⟩ : ByteArray), y201⟩ : S47), (⟨(⟨#[101]⟩ : ByteArray), y209⟩ : S47)] : List (S47))) := ⟨_, rfl⟩
 replace H : (some y212) = some r := by first|(rw [hy212]; with_reducible exact H)|(have H2_ := (Option.bind_some _ _).symm.trans H; rw [hy212]; with_reducible exact H2_)|(have H2_ := (Option.bind_some _ _).symm.trans H; with_reducible exact H2_)|with_reducible exact H|(rw [hy212]; exact H)|exact H
 have Ny212 := Aside0.mk hy212
 clear hy212
 obtain rfl := Option.some.inj H
 go_enter Try.func22, Try.ntmps22
 go_wp2_with (first|((with_reducible refine gate_callee (f := 21) rfl ?_); refine goesL_ (some 1) rfl rfl Try.func21 (by kernel_rfl) rfl #[.string (⟨#[118, 49]⟩ : ByteArray)] rfl (by (try simp only [List.map_toArray, List.map_cons, List.map_nil]); first|done|rfl|(simp only [List.length_drop, List.length_take]; rfl)) ?_; (with_reducible refine (stowagelaw20_v.calls (⟨#[118, 49]⟩ : ByteArray) t175 t176 t177 t178 t179 _ A1.out).mono ?_); rintro e w6 ⟨rfl, hb⟩; refine ⟨_, rfl, ?_⟩; have n0_ := Aside0.mk (below_step (by repeat (first|(with_reducible first|exact HB.out|apply below_alloc|apply pw_below_drewN|apply below_drew1)|exact HB.out)) hb); clear HB; have HB := n0_; clear n0_; (try clear hb); (try clear hb2); (try clear hk); (try clear hi))|((with_reducible refine gate_dst (N := 2) rfl ?_); refine Kd.R_lit k37 _ 37 ?hg (N := 2) ?hd (xs := ([(⟨t175, t176, t177, t178, t179⟩ : S37)] : List (S37))) (inner := [.string t175, .int .i64 t176, .bool t177, .int .i64 t178, .string t179]) (ok := fun _ => True) (okp := fun _ => True) ?hr ?hp (fun _ hk => hk) trivial (Below.refl _ _) (Nat.le_refl _) (by simp) ?_; (case hd => rfl); (case hg => rfl); (case hr => first|(go_simp; done)|(go_simp; rfl)); (case hp => exact (Reps.c5 (show Kd.M k37 _ _ _ (⟨t175, t176, t177, t178, t179⟩ : S37) [.string t175, .int .i64 t176, .bool t177, .int .i64 t178, .string t179] from (k37_mkM _ _ _ (⟨t175, t176, t177, t178, t179⟩ : S37) )) (Reps.none _ _))); intro v181 w7 ho8 hb hg_ hnew_; clear hg_ hnew_; (first|rw [← Ny180.out] at ho8|(simp only [Int.reduceToNat] at ho8; rw [← Ny180.out] at ho8)); have n0_ := Aside0.mk (Kd.R_lower (Kd.R_newM (M := fun k_ => (w.heap.size ≤ k_)) ho8 (below_size (by repeat (first|(with_reducible first|exact HB.out|apply below_alloc|apply pw_below_drewN|apply below_drew1)|exact HB.out))) (fun k_ h_ => h_)) (below_size (by repeat (first|(with_reducible first|exact HB.out|apply below_alloc|apply pw_below_drewN|apply below_drew1)|exact HB.out)))); have n1_ := Aside0.mk (below_step (by repeat (first|(with_reducible first|exact HB.out|apply below_alloc|apply pw_below_drewN|apply below_drew1)|exact HB.out)) hb); clear HB; have HO182 := n0_; have HB := n1_; clear n0_ n1_; clear hb ho8; obtain ⟨Ao9, co9, eo9⟩ := Kd.R_slice HO182.out; subst eo9)|((with_reducible refine gate_callee (f := 21) rfl ?_); refine goesL_ (some 4) rfl rfl Try.func21 (by kernel_rfl) rfl #[.string (⟨#[118, 50]⟩ : ByteArray)] rfl (by (try simp only [List.map_toArray, List.map_cons, List.map_nil]); first|done|rfl|(simp only [List.length_drop, List.length_take]; rfl)) ?_; (with_reducible refine (stowagelaw20_v.calls (⟨#[118, 50]⟩ : ByteArray) t183 t184 t185 t186 t187 _ A2.out).mono ?_); rintro e w10 ⟨rfl, hb⟩; refine ⟨_, rfl, ?_⟩; have n0_ := Aside0.mk (Kd.R_below (by (with_reducible repeat (first|apply Kd.R_alloc|apply Kd.R_drewN|apply Kd.R_drew)); exact HO182.out) hb); have n1_ := Aside0.mk (below_step (by repeat (first|(with_reducible first|exact HB.out|apply below_alloc|apply pw_below_drewN|apply below_drew1)|exact HB.out)) hb); clear HO182; clear HB; have HO182 := n0_; have HB := n1_; clear n0_ n1_; (try clear hb); (try clear hb2); (try clear hk); (try clear hi))|((with_reducible refine gate_dst (N := 5) rfl ?_); refine Kd.R_lit k37 _ 37 ?hg (N := 5) ?hd (xs := ([(⟨t183, t184, t185, t186, t187⟩ : S37)] : List (S37))) (inner := [.string t183, .int .i64 t184, .bool t185, .int .i64 t186, .string t187]) (ok := fun _ => True) (okp := fun _ => True) ?hr ?hp (fun _ hk => hk) trivial (Below.refl _ _) (Nat.le_refl _) (by simp) ?_; (case hd => rfl); (case hg => rfl); (case hr => first|(go_simp; done)|(go_simp; rfl)); (case hp => exact (Reps.c5 (show Kd.M k37 _ _ _ (⟨t183, t184, t185, t186, t187⟩ : S37) [.string t183, .int .i64 t184, .bool t185, .int .i64 t186, .string t187] from (k37_mkM _ _ _ (⟨t183, t184, t185, t186, t187⟩ : S37) )) (Reps.none _ _))); intro v189 w11 ho12 hb hg_ hnew_; clear hg_ hnew_; (first|rw [← Ny188.out] at ho12|(simp only [Int.reduceToNat] at ho12; rw [← Ny188.out] at ho12)); have n0_ := Aside0.mk (Kd.R_elder' (by (with_reducible repeat (first|apply Kd.R_alloc|apply Kd.R_drewN|apply Kd.R_drew)); exact HO182.out) (Kd.R_base ho12) hb); have n1_ := Aside0.mk (Kd.R_lower (Kd.R_new' (Kd.R_newM (M := fun k_ => (w.heap.size ≤ k_)) ho12 (below_size (by repeat (first|(with_reducible first|exact HB.out|apply below_alloc|apply pw_below_drewN|apply below_drew1)|exact HB.out))) (fun k_ h_ => h_)) (Kd.R_lt (by (with_reducible repeat (first|apply Kd.R_alloc|apply Kd.R_drewN|apply Kd.R_drew)); exact HO182.out))) (below_size (by repeat (first|(with_reducible first|exact HB.out|apply below_alloc|apply pw_below_drewN|apply below_drew1)|exact HB.out)))); have n2_ := Aside0.mk (below_step (by repeat (first|(with_reducible first|exact HB.out|apply below_alloc|apply pw_below_drewN|apply below_drew1)|exact HB.out)) hb); clear HO182; clear HB; have HO182 := n0_; have HO190 := n1_; have HB := n2_; clear n0_ n1_ n2_; clear hb ho12; obtain ⟨Ao13, co13, eo13⟩ := Kd.R_slice HO190.out; subst eo13)|((with_reducible refine gate_callee (f := 21) rfl ?_); refine goesL_ (some 7) rfl rfl Try.func21 (by kernel_rfl) rfl #[.string (⟨#[118, 51]⟩ : ByteArray)] rfl (by (try simp only [List.map_toArray, List.map_cons, List.map_nil]); first|done|rfl|(simp only [List.length_drop, List.length_take]; rfl)) ?_; (with_reducible refine (stowagelaw20_v.calls (⟨#[118, 51]⟩ : ByteArray) t191 t192 t193 t194 t195 _ A3.out).mono ?_); rintro e w14 ⟨rfl, hb⟩; refine ⟨_, rfl, ?_⟩; have n0_ := Aside0.mk (Kd.R_below (by (with_reducible repeat (first|apply Kd.R_alloc|apply Kd.R_drewN|apply Kd.R_drew)); exact HO182.out) hb); have n1_ := Aside0.mk (Kd.R_below (by (with_reducible repeat (first|apply Kd.R_alloc|apply Kd.R_drewN|apply Kd.R_drew)); exact HO190.out) hb); have n2_ := Aside0.mk (below_step (by repeat (first|(with_reducible first|exact HB.out|apply below_alloc|apply pw_below_drewN|apply below_drew1)|exact HB.out)) hb); clear HO182; clear HO190; clear HB; have HO182 := n0_; have HO190 := n1_; have HB := n2_; clear n0_ n1_ n2_; (try clear hb); (try clear hb2); (try clear hk); (try clear hi))|((with_reducible refine gate_callee (f := 21) rfl ?_); refine goesL_ (some 8) rfl rfl Try.func21 (by kernel_rfl) rfl #[.string (⟨#[118, 52]⟩ : ByteArray)] rfl (by (try simp only [List.map_toArray, List.map_cons, List.map_nil]); first|done|rfl|(simp only [List.length_drop, List.length_take]; rfl)) ?_; (with_reducible refine (stowagelaw20_v.calls (⟨#[118, 52]⟩ : ByteArray) t196 t197 t198 t199 t200 _ A4.out).mono ?_); rintro e w15 ⟨rfl, hb⟩; refine ⟨_, rfl, ?_⟩; have n0_ := Aside0.mk (Kd.R_below (by (with_reducible repeat (first|apply Kd.R_alloc|apply Kd.R_drewN|apply Kd.R_drew)); exact HO182.out) hb); have n1_ := Aside0.mk (Kd.R_below (by (with_reducible repeat (first|apply Kd.R_alloc|apply Kd.R_drewN|apply Kd.R_drew)); exact HO190.out) hb); have n2_ := Aside0.mk (below_step (by repeat (first|(with_reducible first|exact HB.out|apply below_alloc|apply pw_below_drewN|apply below_drew1)|exact HB.out)) hb); clear HO182; clear HO190; clear HB; have HO182 := n0_; have HO190 := n1_; have HB := n2_; clear n0_ n1_ n2_; (try clear hb); (try clear hb2); (try clear hk); (try clear hi))|((with_reducible refine gate_dst (N := 9) rfl ?_); refine Kd.R_lit k37 _ 37 ?hg (N := 9) ?hd (xs := ([(⟨t191, t192, t193, t194, t195⟩ : S37), (⟨t196, t197, t198, t199, t200⟩ : S37)] : List (S37))) (inner := [.string t191, .int .i64 t192, .bool t193, .int .i64 t194, .string t195, .string t196, .int .i64 t197, .bool t198, .int .i64 t199, .string t200]) (ok := fun _ => True) (okp := fun _ => True) ?hr ?hp (fun _ hk => hk) trivial (Below.refl _ _) (Nat.le_refl _) (by simp) ?_; (case hd => rfl); (case hg => rfl); (case hr => first|(go_simp; done)|(go_simp; rfl)); (case hp => exact (Reps.c5 (show Kd.M k37 _ _ _ (⟨t191, t192, t193, t194, t195⟩ : S37) [.string t191, .int .i64 t192, .bool t193, .int .i64 t194, .string t195] from (k37_mkM _ _ _ (⟨t191, t192, t193, t194, t195⟩ : S37) )) (Reps.c5 (show Kd.M k37 _ _ _ (⟨t196, t197, t198, t199, t200⟩ : S37) [.string t196, .int .i64 t197, .bool t198, .int .i64 t199, .string t200] from (k37_mkM _ _ _ (⟨t196, t197, t198, t199, t200⟩ : S37) )) (Reps.none _ _)))); intro v202 w16 ho17 hb hg_ hnew_; clear hg_ hnew_; (first|rw [← Ny201.out] at ho17|(simp only [Int.reduceToNat] at ho17; rw [← Ny201.out] at ho17)); have n0_ := Aside0.mk (Kd.R_elder' (by (with_reducible repeat (first|apply Kd.R_alloc|apply Kd.R_drewN|apply Kd.R_drew)); exact HO182.out) (Kd.R_base ho17) hb); have n1_ := Aside0.mk (Kd.R_elder' (by (with_reducible repeat (first|apply Kd.R_alloc|apply Kd.R_drewN|apply Kd.R_drew)); exact HO190.out) (Kd.R_base ho17) hb); have n2_ := Aside0.mk (Kd.R_lower (Kd.R_new' (Kd.R_new' (Kd.R_newM (M := fun k_ => (w.heap.size ≤ k_)) ho17 (below_size (by repeat (first|(with_reducible first|exact HB.out|apply below_alloc|apply pw_below_drewN|apply below_drew1)|exact HB.out))) (fun k_ h_ => h_)) (Kd.R_lt (by (with_reducible repeat (first|apply Kd.R_alloc|apply Kd.R_drewN|apply Kd.R_drew)); exact HO182.out))) (Kd.R_lt (by (with_reducible repeat (first|apply Kd.R_alloc|apply Kd.R_drewN|apply Kd.R_drew)); exact HO190.out))) (below_size (by repeat (first|(with_reducible first|exact HB.out|apply below_alloc|apply pw_below_drewN|apply below_drew1)|exact HB.out)))); have n3_ := Aside0.mk (below_step (by repeat (first|(with_reducible first|exact HB.out|apply below_alloc|apply pw_below_drewN|apply below_drew1)|exact HB.out)) hb); clear HO182; clear HO190; clear HB; have HO182 := n0_; have HO190 := n1_; have HO203 := n2_; have HB := n3_; clear n0_ n1_ n2_ n3_; clear hb ho17; obtain ⟨Ao18, co18, eo18⟩ := Kd.R_slice HO203.out; subst eo18)|((with_reducible refine gate_callee (f := 21) rfl ?_); refine goesL_ (some 12) rfl rfl Try.func21 (by kernel_rfl) rfl #[.string (⟨#[118, 54]⟩ : ByteArray)] rfl (by (try simp only [List.map_toArray, List.map_cons, List.map_nil]); first|done|rfl|(simp only [List.length_drop, List.length_take]; rfl)) ?_; (with_reducible refine (stowagelaw20_v.calls (⟨#[118, 54]⟩ : ByteArray) t204 t205 t206 t207 t208 _ A5.out).mono ?_); rintro e w19 ⟨rfl, hb⟩; refine ⟨_, rfl, ?_⟩; have n0_ := Aside0.mk (Kd.R_below (by (with_reducible repeat (first|apply Kd.R_alloc|apply Kd.R_drewN|apply Kd.R_drew)); exact HO182.out) hb); have n1_ := Aside0.mk (Kd.R_below (by (with_reducible repeat (first|apply Kd.R_alloc|apply Kd.R_drewN|apply Kd.R_drew)); exact HO190.out) hb); have n2_ := Aside0.mk (Kd.R_below (by (with_reducible repeat (first|apply Kd.R_alloc|apply Kd.R_drewN|apply Kd.R_drew)); exact HO203.out) hb); have n3_ := Aside0.mk (below_step (by repeat (first|(with_reducible first|exact HB.out|apply below_alloc|apply pw_below_drewN|apply below_drew1)|exact HB.out)) hb); clear HO182; clear HO190; clear HO203; clear HB; have HO182 := n0_; have HO190 := n1_; have HO203 := n2_; have HB := n3_; clear n0_ n1_ n2_ n3_; (try clear hb); (try clear hb2); (try clear hk); (try clear hi))|((with_reducible refine gate_dst (N := 13) rfl ?_); refine Kd.R_lit k37 _ 37 ?hg (N := 13) ?hd (xs := ([(⟨(⟨#[109, 53]⟩ : ByteArray), 0, true, 0, (⟨#[]⟩ : ByteArray)⟩ : S37), (⟨t204, t205, t206, t207, t208⟩ : S37)] : List (S37))) (inner := [.string (⟨#[109, 53]⟩ : ByteArray), .int .i64 0, .bool true, .int .i64 0, .string (⟨#[]⟩ : ByteArray), .string t204, .int .i64 t205, .bool t206, .int .i64 t207, .string t208]) (ok := fun _ => True) (okp := fun _ => True) ?hr ?hp (fun _ hk => hk) trivial (Below.refl _ _) (Nat.le_refl _) (by simp) ?_; (case hd => rfl); (case hg => rfl); (case hr => first|(go_simp; done)|(go_simp; rfl)); (case hp => exact (Reps.c5 (show Kd.M k37 _ _ _ (⟨(⟨#[109, 53]⟩ : ByteArray), 0, true, 0, (⟨#[]⟩ : ByteArray)⟩ : S37) [.string (⟨#[109, 53]⟩ : ByteArray), .int .i64 0, .bool true, .int .i64 0, .string (⟨#[]⟩ : ByteArray)] from (k37_mkM _ _ _ (⟨(⟨#[109, 53]⟩ : ByteArray), 0, true, 0, (⟨#[]⟩ : ByteArray)⟩ : S37) )) (Reps.c5 (show Kd.M k37 _ _ _ (⟨t204, t205, t206, t207, t208⟩ : S37) [.string t204, .int .i64 t205, .bool t206, .int .i64 t207, .string t208] from (k37_mkM _ _ _ (⟨t204, t205, t206, t207, t208⟩ : S37) )) (Reps.none _ _)))); intro v210 w20 ho21 hb hg_ hnew_; clear hg_ hnew_; (first|rw [← Ny209.out] at ho21|(simp only [Int.reduceToNat] at ho21; rw [← Ny209.out] at ho21)); have n0_ := Aside0.mk (Kd.R_elder' (by (with_reducible repeat (first|apply Kd.R_alloc|apply Kd.R_drewN|apply Kd.R_drew)); exact HO182.out) (Kd.R_base ho21) hb); have n1_ := Aside0.mk (Kd.R_elder' (by (with_reducible repeat (first|apply Kd.R_alloc|apply Kd.R_drewN|apply Kd.R_drew)); exact HO190.out) (Kd.R_base ho21) hb); have n2_ := Aside0.mk (Kd.R_elder' (by (with_reducible repeat (first|apply Kd.R_alloc|apply Kd.R_drewN|apply Kd.R_drew)); exact HO203.out) (Kd.R_base ho21) hb); have n3_ := Aside0.mk (Kd.R_lower (Kd.R_new' (Kd.R_new' (Kd.R_new' (Kd.R_newM (M := fun k_ => (w.heap.size ≤ k_)) ho21 (below_size (by repeat (first|(with_reducible first|exact HB.out|apply below_alloc|apply pw_below_drewN|apply below_drew1)|exact HB.out))) (fun k_ h_ => h_)) (Kd.R_lt (by (with_reducible repeat (first|apply Kd.R_alloc|apply Kd.R_drewN|apply Kd.R_drew)); exact HO182.out))) (Kd.R_lt (by (with_reducible repeat (first|apply Kd.R_alloc|apply Kd.R_drewN|apply Kd.R_drew)); exact HO190.out))) (Kd.R_lt (by (with_reducible repeat (first|apply Kd.R_alloc|apply Kd.R_drewN|apply Kd.R_drew)); exact HO203.out))) (below_size (by repeat (first|(with_reducible first|exact HB.out|apply below_alloc|apply pw_below_drewN|apply below_drew1)|exact HB.out)))); have n4_ := Aside0.mk (below_step (by repeat (first|(with_reducible first|exact HB.out|apply below_alloc|apply pw_below_drewN|apply below_drew1)|exact HB.out)) hb); clear HO182; clear HO190; clear HO203; clear HB; have HO182 := n0_; have HO190 := n1_; have HO203 := n2_; have HO211 := n3_; have HB := n4_; clear n0_ n1_ n2_ n3_ n4_; clear hb ho21; obtain ⟨Ao22, co22, eo22⟩ := Kd.R_slice HO211.out; subst eo22)|((with_reducible refine gate_dst (N := 15) rfl ?_); refine Kd.N_lit k47 _ 47 ?hg (N' := 15) ?hd (xs := ([(⟨(⟨#[97]⟩ : ByteArray), y180⟩ : S47), (⟨(⟨#[98, 47, 99]⟩ : ByteArray), y188⟩ : S47), (⟨(⟨#[98, 47, 100]⟩ : ByteArray), y201⟩ : S47), (⟨(⟨#[101]⟩ : ByteArray), y209⟩ : S47)] : List (S47))) (inner := [.string (⟨#[97]⟩ : ByteArray), .slice Ao9 y180.length co9, .string (⟨#[98, 47, 99]⟩ : ByteArray), .slice Ao13 y188.length co13, .string (⟨#[98, 47, 100]⟩ : ByteArray), .slice Ao18 y201.length co18, .string (⟨#[101]⟩ : ByteArray), .slice Ao22 y209.length co22]) (ok := (fun k_ => (w.heap.size ≤ k_))) (okp := (fun k_ => (w.heap.size ≤ k_))) ?hr ?hp (fun _ hk => hk) ((show ∀ k_, w20.heap.size ≤ k_ → (fun k_ => (w.heap.size ≤ k_)) k_ from fun k_ hk => (Nat.le_trans (below_size (by repeat (first|(with_reducible first|exact HB.out|apply below_alloc|apply pw_below_drewN|apply below_drew1)|exact HB.out))) hk)) _ (Nat.le_refl _)) (Below.refl _ _) (Nat.le_refl _) (by simp) ?_; (case hd => rfl); (case hg => rfl); (case hr => first|(go_simp; done)|(go_simp; rfl)); (case hp => exact (Reps.c2 (show Kd.FK k47 _ _ (⟨(⟨#[97]⟩ : ByteArray), y180⟩ : S47) [.string (⟨#[97]⟩ : ByteArray), .slice Ao9 y180.length co9] from (k47_mkF _ _ (⟨(⟨#[97]⟩ : ByteArray), y180⟩ : S47) (Kd.R_reads' (Kd.R_mono (ok' := (fun k_ => (w.heap.size ≤ k_))) (HO182.out) (fun k_ hk => hk.1.1.1.1))).2.1 (Kd.R_F (Kd.R_mono (ok' := (fun k_ => (w.heap.size ≤ k_))) (HO182.out) (fun k_ hk => hk.1.1.1.1))))) (Reps.c2 (show Kd.FK k47 _ _ (⟨(⟨#[98, 47, 99]⟩ : ByteArray), y188⟩ : S47) [.string (⟨#[98, 47, 99]⟩ : ByteArray), .slice Ao13 y188.length co13] from (k47_mkF _ _ (⟨(⟨#[98, 47, 99]⟩ : ByteArray), y188⟩ : S47) (Kd.R_reads' (Kd.R_mono (ok' := (fun k_ => (w.heap.size ≤ k_))) (HO190.out) (fun k_ hk => hk.1.1.1.1))).2.1 (Kd.R_F (Kd.R_mono (ok' := (fun k_ => (w.heap.size ≤ k_))) (HO190.out) (fun k_ hk => hk.1.1.1.1))))) (Reps.c2 (show Kd.FK k47 _ _ (⟨(⟨#[98, 47, 100]⟩ : ByteArray), y201⟩ : S47) [.string (⟨#[98, 47, 100]⟩ : ByteArray), .slice Ao18 y201.length co18] from (k47_mkF _ _ (⟨(⟨#[98, 47, 100]⟩ : ByteArray), y201⟩ : S47) (Kd.R_reads' (Kd.R_mono (ok' := (fun k_ => (w.heap.size ≤ k_))) (HO203.out) (fun k_ hk => hk.1.1.1.1))).2.1 (Kd.R_F (Kd.R_mono (ok' := (fun k_ => (w.heap.size ≤ k_))) (HO203.out) (fun k_ hk => hk.1.1.1.1))))) (Reps.c2 (show Kd.FK k47 _ _ (⟨(⟨#[101]⟩ : ByteArray), y209⟩ : S47) [.string (⟨#[101]⟩ : ByteArray), .slice Ao22 y209.length co22] from (k47_mkF _ _ (⟨(⟨#[101]⟩ : ByteArray), y209⟩ : S47) (Kd.R_reads' (Kd.R_mono (ok' := (fun k_ => (w.heap.size ≤ k_))) (HO211.out) (fun k_ hk => hk.1.1.1.1))).2.1 (Kd.R_F (Kd.R_mono (ok' := (fun k_ => (w.heap.size ≤ k_))) (HO211.out) (fun k_ hk => hk.1.1.1.1))))) (Reps.none _ _)))))); intro v213 w23 ho24 hb hg_ hnew_; clear hg_ hnew_; (first|rw [← Ny212.out] at ho24|(simp only [Int.reduceToNat] at ho24; rw [← Ny212.out] at ho24)); have n0_ := Aside0.mk (Kd.N_lower ho24 (below_size (by repeat (first|(with_reducible first|exact HB.out|apply below_alloc|apply pw_below_drewN|apply below_drew1)|exact HB.out)))); have n1_ := Aside0.mk (below_step (by repeat (first|(with_reducible first|exact HB.out|apply below_alloc|apply pw_below_drewN|apply below_drew1)|exact HB.out)) hb); clear HB; clear HO182; clear HO190; clear HO203; clear HO211; have HO214 := n0_; have HB := n1_; clear n0_ n1_; clear hb ho24))
 go_ret
 exact ⟨_, by first|rfl|(simp [errW_none, errW_some] <;> rfl)|(simp [*, errW_none, errW_some] <;> rfl), by (with_reducible repeat (first|apply Kd.N_alloc|apply Kd.N_drewN|apply Kd.N_drew)); exact HO214.out, by repeat (first|(with_reducible first|exact HB.out|apply below_alloc|apply pw_below_drewN|apply below_drew1)|exact HB.out)⟩

end Go.Proofs.Ytahkcfhiecfgeaa.Pr
end
