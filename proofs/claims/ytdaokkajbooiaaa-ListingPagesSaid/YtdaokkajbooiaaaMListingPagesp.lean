/- Texts of this proof, put together: PrStowagelaw20ListingPages. -/
import Derived.Test.YtdaokkajbooiaaaMListingPageso
import Derived.Test.YtdaokkajbooiaaaMListingPagese
section
namespace Go.Proofs.Ytdaokkajbooiaaa.Pr
open Go.RowKit Go.Proofs.YtdaokkajbooiaaaW.PrintWords Go.Proofs.YtdaokkajbooiaaaW.PrintLast Go.Proofs.YtdaokkajbooiaaaW.PrintMore
attribute [local go_sem] max2_int min2_int max_two min_two max_three min_three max_four min_four -- for this text's walks alone
attribute [local go_sem high] leq_as_less
set_option linter.unusedVariables false
set_option linter.unusedSimpArgs false

set_option maxHeartbeats 8000000 in
set_option maxRecDepth 100000 in
theorem stowagelaw20_ListingPages.calls (k : Nat) (A0 : Option Addr) (c0 : Nat) (l0 : List (S47)) (a1 : ByteArray) (a2 : ByteArray) (a3 : Int) (r : Bool) (w : World) (hG : GM w) (hr0 : Kd.C k47 w A0 l0.length l0) (hc0 : l0.length ≤ c0) (h : stowagelaw20_ListingPages.f k l0 a1 a2 a3 = some r) :
  Calls Try.prog 5 #[.slice A0 l0.length c0, .string a1, .string a2, .int .i64 a3] w fun e w' => e = .returned (.bool r) ∧ Below w.heap.size w w' := by
 have hu28 := Try.underlying28
 have HR0 := Aside0.mk hr0
 have HC0 := Aside0.mk hc0
 clear hr0 hc0
 have HB := Aside0.mk (Below.refl w.heap.size w)
 have HG := Aside0.mk hG
 clear hG
 have H : ((stowagelaw20_ListingKnown.f).bind fun t297 => ((stowagekit_LargeEntries.f k l0).bind fun t298 => (if t298 = true then (stowagelaw20_ListingPages.j0 k l0 a1 a2 a3 t297 true) else ((listing_Check.f k l0).bind fun t299 => (if t299 = 0 then ((stowagelaw20_long.f k (([a1, a2] : List ByteArray))).bind fun t303 => (if t303 = true then (stowagelaw20_ListingPages.j0 k l0 a1 a2 a3 t297 true) else (if (a1.size : Int) > 400 then (stowagelaw20_ListingPages.j0 k l0 a1 a2 a3 t297 true) else (if (a2.size : Int) > 400 then (stowagelaw20_ListingPages.j0 k l0 a1 a2 a3 t297 true) else ((stowagelaw20_unlike.f k l0).bind fun t304 => (stowagelaw20_ListingPages.j0 k l0 a1 a2 a3 t297 (!t304))))))) else (stowagelaw20_ListingPages.j0 k l0 a1 a2 a3 t297 true)))))) = some r := h
 clear h
 replace H := Option.bind_eq_some_iff.mp H
 obtain ⟨t297, A50, H⟩ := H
 replace H : ((stowagekit_LargeEntries.f k l0).bind fun t298 => (if t298 = true then (stowagelaw20_ListingPages.j0 k l0 a1 a2 a3 t297 true) else ((listing_Check.f k l0).bind fun t299 => (if t299 = 0 then ((stowagelaw20_long.f k (([a1, a2] : List ByteArray))).bind fun t303 => (if t303 = true then (stowagelaw20_ListingPages.j0 k l0 a1 a2 a3 t297 true) else (if (a1.size : Int) > 400 then (stowagelaw20_ListingPages.j0 k l0 a1 a2 a3 t297 true) else (if (a2.size : Int) > 400 then (stowagelaw20_ListingPages.j0 k l0 a1 a2 a3 t297 true) else ((stowagelaw20_unlike.f k l0).bind fun t304 => (stowagelaw20_ListingPages.j0 k l0 a1 a2 a3 t297 (!t304))))))) else (stowagelaw20_ListingPages.j0 k l0 a1 a2 a3 t297 true))))) = some r := H
 have A5 := Aside0.mk A50
 clear A50
 have HC6 := Aside0.mk H
 clear H
 go_enter Try.func5, Try.ntmps5
 go_upto_region 2 with (first|(go_at_call 4; (with_reducible refine (stowagelaw20_ListingKnown.calls  t297 _ ?side1 A5.out).mono ?_); (case side1 => first|exact HG.out|exact GM.below (by repeat (first|(with_reducible first|exact HB.out|apply below_alloc|apply pw_below_drewN|apply below_drew1)|exact HB.out)) HG.out|(repeat (first|exact HG.out|apply GM.drewN|apply GM.drew))); rintro e w7 ⟨rfl, hb⟩; have n0_ := Aside0.mk (below_step (by repeat (first|(with_reducible first|exact HB.out|apply below_alloc|apply pw_below_drewN|apply below_drew1)|exact HB.out)) hb); clear HB; have HB := n0_; clear n0_; (try clear hb); (try clear hb2); (try clear hk); (try clear hi)))
 repeat (go_quiet (first|(go_at_call 4; (with_reducible refine (stowagelaw20_ListingKnown.calls  t297 _ ?side1 A5.out).mono ?_); (case side1 => first|exact HG.out|exact GM.below (by repeat (first|(with_reducible first|exact HB.out|apply below_alloc|apply pw_below_drewN|apply below_drew1)|exact HB.out)) HG.out|(repeat (first|exact HG.out|apply GM.drewN|apply GM.drew))); rintro e w7 ⟨rfl, hb⟩; have n0_ := Aside0.mk (below_step (by repeat (first|(with_reducible first|exact HB.out|apply below_alloc|apply pw_below_drewN|apply below_drew1)|exact HB.out)) hb); clear HB; have HB := n0_; clear n0_; (try clear hb); (try clear hb2); (try clear hk); (try clear hi))); go_upto_region 2 with (first|(go_at_call 4; (with_reducible refine (stowagelaw20_ListingKnown.calls  t297 _ ?side1 A5.out).mono ?_); (case side1 => first|exact HG.out|exact GM.below (by repeat (first|(with_reducible first|exact HB.out|apply below_alloc|apply pw_below_drewN|apply below_drew1)|exact HB.out)) HG.out|(repeat (first|exact HG.out|apply GM.drewN|apply GM.drew))); rintro e w7 ⟨rfl, hb⟩; have n0_ := Aside0.mk (below_step (by repeat (first|(with_reducible first|exact HB.out|apply below_alloc|apply pw_below_drewN|apply below_drew1)|exact HB.out)) hb); clear HB; have HB := n0_; clear n0_; (try clear hb); (try clear hb2); (try clear hk); (try clear hi))))
 (try simp only [Act.put, List.setIfInBounds_toArray, List.set_cons_zero, List.set_cons_succ])
 go_cut [50] (fun v50 wc => ∃ (kq : Nat) (x50_5 : Bool), v50 = .bool x50_5 ∧ Aside0 (stowagelaw20_ListingPages.j0 kq l0 a1 a2 a3 t297 x50_5 = some r) ∧ Aside0 (kq ≤ k) ∧ Aside0 (Below w.heap.size w wc))
 case first =>
  have H := HC6.out
  clear HC6
  replace H := Option.bind_eq_some_iff.mp H
  obtain ⟨t298, A80, H⟩ := H
  replace H : (if t298 = true then (stowagelaw20_ListingPages.j0 k l0 a1 a2 a3 t297 true) else ((listing_Check.f k l0).bind fun t299 => (if t299 = 0 then ((stowagelaw20_long.f k (([a1, a2] : List ByteArray))).bind fun t303 => (if t303 = true then (stowagelaw20_ListingPages.j0 k l0 a1 a2 a3 t297 true) else (if (a1.size : Int) > 400 then (stowagelaw20_ListingPages.j0 k l0 a1 a2 a3 t297 true) else (if (a2.size : Int) > 400 then (stowagelaw20_ListingPages.j0 k l0 a1 a2 a3 t297 true) else ((stowagelaw20_unlike.f k l0).bind fun t304 => (stowagelaw20_ListingPages.j0 k l0 a1 a2 a3 t297 (!t304))))))) else (stowagelaw20_ListingPages.j0 k l0 a1 a2 a3 t297 true)))) = some r := H
  have A8 := Aside0.mk A80
  clear A80
  by_cases c9 : t298 = true
  ·subst c9
   have H1 : (stowagelaw20_ListingPages.j0 k l0 a1 a2 a3 t297 true) = some r := by rw [if_pos rfl] at H; exact H
   clear H
   have H := H1
   clear H1
   as_aux_lemma =>
    have H' := Aside0.mk H
    clear H
    go_wp2_with (first|(go_at_call 9; (with_reducible refine (stowagekit_LargeEntries.calls k _ _ l0 true _ ?side1 ?side2 A8.out).mono ?_); (case side1 => repeat (first|exact (Kd.C_below HR0.out HB.out)|(with_reducible refine Kd.C_alloc ?_ _)|(with_reducible refine Kd.C_drewN ?_ _)|(with_reducible refine Kd.C_drew ?_))); (case side2 => exact HC0.out); rintro e w' ⟨rfl, ⟨nd, rfl⟩⟩; (try first|exact ⟨rfl, _, World.drewN_drewN _ _ _⟩|exact ⟨rfl, _, Eq.trans (World.drewN_drewN _ _ _) (congrArg (World.drewN _) (Nat.add_assoc _ _ _))⟩)))
    repeat (go_quiet (first|(go_at_call 9; (with_reducible refine (stowagekit_LargeEntries.calls k _ _ l0 true _ ?side1 ?side2 A8.out).mono ?_); (case side1 => repeat (first|exact (Kd.C_below HR0.out HB.out)|(with_reducible refine Kd.C_alloc ?_ _)|(with_reducible refine Kd.C_drewN ?_ _)|(with_reducible refine Kd.C_drew ?_))); (case side2 => exact HC0.out); rintro e w' ⟨rfl, ⟨nd, rfl⟩⟩; (try first|exact ⟨rfl, _, World.drewN_drewN _ _ _⟩|exact ⟨rfl, _, Eq.trans (World.drewN_drewN _ _ _) (congrArg (World.drewN _) (Nat.add_assoc _ _ _))⟩))); try go_wp2_with (first|(go_at_call 9; (with_reducible refine (stowagekit_LargeEntries.calls k _ _ l0 true _ ?side1 ?side2 A8.out).mono ?_); (case side1 => repeat (first|exact (Kd.C_below HR0.out HB.out)|(with_reducible refine Kd.C_alloc ?_ _)|(with_reducible refine Kd.C_drewN ?_ _)|(with_reducible refine Kd.C_drew ?_))); (case side2 => exact HC0.out); rintro e w' ⟨rfl, ⟨nd, rfl⟩⟩; (try first|exact ⟨rfl, _, World.drewN_drewN _ _ _⟩|exact ⟨rfl, _, Eq.trans (World.drewN_drewN _ _ _) (congrArg (World.drewN _) (Nat.add_assoc _ _ _))⟩))))
    go_meet
    case rel => exact ⟨_, (true), (by first|rfl|(simp; done)|(simp [*]; done)), H', ⟨by first|omega|exact Nat.le_refl _⟩, ⟨by repeat (first|(with_reducible first|exact HB.out|apply below_alloc|apply pw_below_drewN|apply below_drew1)|exact HB.out)⟩⟩
  ·replace c9 := Bool.eq_false_iff.mpr c9
   subst c9
   have H1 : ((listing_Check.f k l0).bind fun t299 => (if t299 = 0 then ((stowagelaw20_long.f k (([a1, a2] : List ByteArray))).bind fun t303 => (if t303 = true then (stowagelaw20_ListingPages.j0 k l0 a1 a2 a3 t297 true) else (if (a1.size : Int) > 400 then (stowagelaw20_ListingPages.j0 k l0 a1 a2 a3 t297 true) else (if (a2.size : Int) > 400 then (stowagelaw20_ListingPages.j0 k l0 a1 a2 a3 t297 true) else ((stowagelaw20_unlike.f k l0).bind fun t304 => (stowagelaw20_ListingPages.j0 k l0 a1 a2 a3 t297 (!t304))))))) else (stowagelaw20_ListingPages.j0 k l0 a1 a2 a3 t297 true))) = some r := by rw [if_neg (show ¬ (false = true) by decide)] at H; exact H
   clear H
   have H := H1
   clear H1
   replace H := Option.bind_eq_some_iff.mp H
   obtain ⟨t299, A100, H⟩ := H
   replace H : (if t299 = 0 then ((stowagelaw20_long.f k (([a1, a2] : List ByteArray))).bind fun t303 => (if t303 = true then (stowagelaw20_ListingPages.j0 k l0 a1 a2 a3 t297 true) else (if (a1.size : Int) > 400 then (stowagelaw20_ListingPages.j0 k l0 a1 a2 a3 t297 true) else (if (a2.size : Int) > 400 then (stowagelaw20_ListingPages.j0 k l0 a1 a2 a3 t297 true) else ((stowagelaw20_unlike.f k l0).bind fun t304 => (stowagelaw20_ListingPages.j0 k l0 a1 a2 a3 t297 (!t304))))))) else (stowagelaw20_ListingPages.j0 k l0 a1 a2 a3 t297 true)) = some r := H
   have A10 := Aside0.mk A100
   clear A100
   by_cases c11 : t299 = 0
   ·rw [if_pos c11] at H
    have c11b0 : (t299 == 0) = true := beq_iff_eq.mpr c11
    have c11b1 : (t299 != 0) = false := bne_eq_false_iff_eq.mpr c11
    clear c11
    (first|rw [c11b0]|(simp only [i64_w, i32_w]; rw [c11b0])|skip)
    obtain ⟨y300, hy300⟩ : ∃ y_ : List ByteArray, y_ = (([a1, a2] : List ByteArray)) := ⟨_, rfl⟩
    replace H : ((stowagelaw20_long.f k y300).bind fun t303 => (if t303 = true then (stowagelaw20_ListingPages.j0 k l0 a1 a2 a3 t297 true) else (if (a1.size : Int) > 400 then (stowagelaw20_ListingPages.j0 k l0 a1 a2 a3 t297 true) else (if (a2.size : Int) > 400 then (stowagelaw20_ListingPages.j0 k l0 a1 a2 a3 t297 true) else ((stowagelaw20_unlike.f k l0).bind fun t304 => (stowagelaw20_ListingPages.j0 k l0 a1 a2 a3 t297 (!t304))))))) = some r := by first|(rw [hy300]; with_reducible exact H)|(have H2_ := (Option.bind_some _ _).symm.trans H; rw [hy300]; with_reducible exact H2_)|(have H2_ := (Option.bind_some _ _).symm.trans H; with_reducible exact H2_)|with_reducible exact H|(rw [hy300]; exact H)|exact H
    have Ny300 := Aside0.mk hy300
    clear hy300
    replace H := Option.bind_eq_some_iff.mp H
    obtain ⟨t303, A120, H⟩ := H
    replace H : (if t303 = true then (stowagelaw20_ListingPages.j0 k l0 a1 a2 a3 t297 true) else (if (a1.size : Int) > 400 then (stowagelaw20_ListingPages.j0 k l0 a1 a2 a3 t297 true) else (if (a2.size : Int) > 400 then (stowagelaw20_ListingPages.j0 k l0 a1 a2 a3 t297 true) else ((stowagelaw20_unlike.f k l0).bind fun t304 => (stowagelaw20_ListingPages.j0 k l0 a1 a2 a3 t297 (!t304)))))) = some r := H
    have A12 := Aside0.mk A120
    clear A120
    by_cases c13 : t303 = true
    ·subst c13
     have H1 : (stowagelaw20_ListingPages.j0 k l0 a1 a2 a3 t297 true) = some r := by rw [if_pos rfl] at H; exact H
     clear H
     have H := H1
     clear H1
     as_aux_lemma =>
      have H' := Aside0.mk H
      clear H
      go_wp2_with (first|(go_at_call 9; (with_reducible refine (stowagekit_LargeEntries.calls k _ _ l0 false _ ?side1 ?side2 A8.out).mono ?_); (case side1 => repeat (first|exact (Kd.C_below HR0.out HB.out)|(with_reducible refine Kd.C_alloc ?_ _)|(with_reducible refine Kd.C_drewN ?_ _)|(with_reducible refine Kd.C_drew ?_))); (case side2 => exact HC0.out); rintro e w' ⟨rfl, ⟨nd, rfl⟩⟩; (try first|exact ⟨rfl, _, World.drewN_drewN _ _ _⟩|exact ⟨rfl, _, Eq.trans (World.drewN_drewN _ _ _) (congrArg (World.drewN _) (Nat.add_assoc _ _ _))⟩))|(go_at_call 17; (with_reducible refine (listing_Check.calls k _ _ l0 t299 _ ?side1 ?side2 A10.out).mono ?_); (case side1 => repeat (first|exact (Kd.C_below HR0.out (by repeat (first|(with_reducible first|exact HB.out|apply below_alloc|apply pw_below_drewN|apply below_drew1)|exact HB.out)))|(with_reducible refine Kd.C_alloc ?_ _)|(with_reducible refine Kd.C_drewN ?_ _)|(with_reducible refine Kd.C_drew ?_))); (case side2 => exact HC0.out); rintro e w14 ⟨rfl, hb⟩; have n0_ := Aside0.mk (below_step (by repeat (first|(with_reducible first|exact HB.out|apply below_alloc|apply pw_below_drewN|apply below_drew1)|exact HB.out)) hb); clear HB; have HB := n0_; clear n0_; (try clear hb); (try clear hb2); (try clear hk); (try clear hi))|((with_reducible refine gate_dst (N := 33) rfl ?_); (try (refine gate_guard (by rfl) ?_; dsimp only)); refine Kd.R_lit Kd.string _ 9 ?hg (N := 33) ?hd (xs := ([a1, a2] : List ByteArray)) (inner := [.string a1, .string a2]) (ok := fun _ => True) (okp := fun _ => True) ?hr ?hp (fun _ hk => hk) trivial (Below.refl _ _) (Nat.le_refl _) (by simp) ?_; (case hd => rfl); (case hg => rfl); (case hr => first|(go_simp; done)|(go_simp; rfl)); (case hp => exact (Reps.one (show Kd.M Kd.string _ _ _ a1 [.string a1] from rfl) (Reps.one (show Kd.M Kd.string _ _ _ a2 [.string a2] from rfl) (Reps.none _ _)))); intro v301 w15 ho16 hb hg_ hnew_; clear hg_ hnew_; (first|rw [← Ny300.out] at ho16|(simp only [Int.reduceToNat] at ho16; rw [← Ny300.out] at ho16)); have n0_ := Aside0.mk (Kd.R_lower ho16 (below_size (by repeat (first|(with_reducible first|exact HB.out|apply below_alloc|apply pw_below_drewN|apply below_drew1)|exact HB.out)))); have n1_ := Aside0.mk (below_step (by repeat (first|(with_reducible first|exact HB.out|apply below_alloc|apply pw_below_drewN|apply below_drew1)|exact HB.out)) hb); clear HB; have HO302 := n0_; have HB := n1_; clear n0_ n1_; clear hb ho16; obtain ⟨Ao17, co17, eo17⟩ := Kd.R_slice HO302.out; subst eo17)|(go_at_call 10; (with_reducible refine (stowagelaw20_long.calls k _ _ y300 true _ ?side1 ?side2 A12.out).mono ?_); (case side1 => repeat (first|exact (Kd.R_reads' HO302.out).2.2|(with_reducible refine Kd.C_alloc ?_ _)|(with_reducible refine Kd.C_drewN ?_ _)|(with_reducible refine Kd.C_drew ?_))); (case side2 => exact (Kd.R_reads' HO302.out).2.1); rintro e w' ⟨rfl, ⟨nd, rfl⟩⟩; (try first|exact ⟨rfl, _, World.drewN_drewN _ _ _⟩|exact ⟨rfl, _, Eq.trans (World.drewN_drewN _ _ _) (congrArg (World.drewN _) (Nat.add_assoc _ _ _))⟩)))
      repeat (go_quiet (first|(go_at_call 9; (with_reducible refine (stowagekit_LargeEntries.calls k _ _ l0 false _ ?side1 ?side2 A8.out).mono ?_); (case side1 => repeat (first|exact (Kd.C_below HR0.out HB.out)|(with_reducible refine Kd.C_alloc ?_ _)|(with_reducible refine Kd.C_drewN ?_ _)|(with_reducible refine Kd.C_drew ?_))); (case side2 => exact HC0.out); rintro e w' ⟨rfl, ⟨nd, rfl⟩⟩; (try first|exact ⟨rfl, _, World.drewN_drewN _ _ _⟩|exact ⟨rfl, _, Eq.trans (World.drewN_drewN _ _ _) (congrArg (World.drewN _) (Nat.add_assoc _ _ _))⟩))|(go_at_call 17; (with_reducible refine (listing_Check.calls k _ _ l0 t299 _ ?side1 ?side2 A10.out).mono ?_); (case side1 => repeat (first|exact (Kd.C_below HR0.out (by repeat (first|(with_reducible first|exact HB.out|apply below_alloc|apply pw_below_drewN|apply below_drew1)|exact HB.out)))|(with_reducible refine Kd.C_alloc ?_ _)|(with_reducible refine Kd.C_drewN ?_ _)|(with_reducible refine Kd.C_drew ?_))); (case side2 => exact HC0.out); rintro e w14 ⟨rfl, hb⟩; have n0_ := Aside0.mk (below_step (by repeat (first|(with_reducible first|exact HB.out|apply below_alloc|apply pw_below_drewN|apply below_drew1)|exact HB.out)) hb); clear HB; have HB := n0_; clear n0_; (try clear hb); (try clear hb2); (try clear hk); (try clear hi))|((with_reducible refine gate_dst (N := 33) rfl ?_); (try (refine gate_guard (by rfl) ?_; dsimp only)); refine Kd.R_lit Kd.string _ 9 ?hg (N := 33) ?hd (xs := ([a1, a2] : List ByteArray)) (inner := [.string a1, .string a2]) (ok := fun _ => True) (okp := fun _ => True) ?hr ?hp (fun _ hk => hk) trivial (Below.refl _ _) (Nat.le_refl _) (by simp) ?_; (case hd => rfl); (case hg => rfl); (case hr => first|(go_simp; done)|(go_simp; rfl)); (case hp => exact (Reps.one (show Kd.M Kd.string _ _ _ a1 [.string a1] from rfl) (Reps.one (show Kd.M Kd.string _ _ _ a2 [.string a2] from rfl) (Reps.none _ _)))); intro v301 w15 ho16 hb hg_ hnew_; clear hg_ hnew_; (first|rw [← Ny300.out] at ho16|(simp only [Int.reduceToNat] at ho16; rw [← Ny300.out] at ho16)); have n0_ := Aside0.mk (Kd.R_lower ho16 (below_size (by repeat (first|(with_reducible first|exact HB.out|apply below_alloc|apply pw_below_drewN|apply below_drew1)|exact HB.out)))); have n1_ := Aside0.mk (below_step (by repeat (first|(with_reducible first|exact HB.out|apply below_alloc|apply pw_below_drewN|apply below_drew1)|exact HB.out)) hb); clear HB; have HO302 := n0_; have HB := n1_; clear n0_ n1_; clear hb ho16; obtain ⟨Ao17, co17, eo17⟩ := Kd.R_slice HO302.out; subst eo17)|(go_at_call 10; (with_reducible refine (stowagelaw20_long.calls k _ _ y300 true _ ?side1 ?side2 A12.out).mono ?_); (case side1 => repeat (first|exact (Kd.R_reads' HO302.out).2.2|(with_reducible refine Kd.C_alloc ?_ _)|(with_reducible refine Kd.C_drewN ?_ _)|(with_reducible refine Kd.C_drew ?_))); (case side2 => exact (Kd.R_reads' HO302.out).2.1); rintro e w' ⟨rfl, ⟨nd, rfl⟩⟩; (try first|exact ⟨rfl, _, World.drewN_drewN _ _ _⟩|exact ⟨rfl, _, Eq.trans (World.drewN_drewN _ _ _) (congrArg (World.drewN _) (Nat.add_assoc _ _ _))⟩))); try go_wp2_with (first|(go_at_call 9; (with_reducible refine (stowagekit_LargeEntries.calls k _ _ l0 false _ ?side1 ?side2 A8.out).mono ?_); (case side1 => repeat (first|exact (Kd.C_below HR0.out HB.out)|(with_reducible refine Kd.C_alloc ?_ _)|(with_reducible refine Kd.C_drewN ?_ _)|(with_reducible refine Kd.C_drew ?_))); (case side2 => exact HC0.out); rintro e w' ⟨rfl, ⟨nd, rfl⟩⟩; (try first|exact ⟨rfl, _, World.drewN_drewN _ _ _⟩|exact ⟨rfl, _, Eq.trans (World.drewN_drewN _ _ _) (congrArg (World.drewN _) (Nat.add_assoc _ _ _))⟩))|(go_at_call 17; (with_reducible refine (listing_Check.calls k _ _ l0 t299 _ ?side1 ?side2 A10.out).mono ?_); (case side1 => repeat (first|exact (Kd.C_below HR0.out (by repeat (first|(with_reducible first|exact HB.out|apply below_alloc|apply pw_below_drewN|apply below_drew1)|exact HB.out)))|(with_reducible refine Kd.C_alloc ?_ _)|(with_reducible refine Kd.C_drewN ?_ _)|(with_reducible refine Kd.C_drew ?_))); (case side2 => exact HC0.out); rintro e w14 ⟨rfl, hb⟩; have n0_ := Aside0.mk (below_step (by repeat (first|(with_reducible first|exact HB.out|apply below_alloc|apply pw_below_drewN|apply below_drew1)|exact HB.out)) hb); clear HB; have HB := n0_; clear n0_; (try clear hb); (try clear hb2); (try clear hk); (try clear hi))|((with_reducible refine gate_dst (N := 33) rfl ?_); (try (refine gate_guard (by rfl) ?_; dsimp only)); refine Kd.R_lit Kd.string _ 9 ?hg (N := 33) ?hd (xs := ([a1, a2] : List ByteArray)) (inner := [.string a1, .string a2]) (ok := fun _ => True) (okp := fun _ => True) ?hr ?hp (fun _ hk => hk) trivial (Below.refl _ _) (Nat.le_refl _) (by simp) ?_; (case hd => rfl); (case hg => rfl); (case hr => first|(go_simp; done)|(go_simp; rfl)); (case hp => exact (Reps.one (show Kd.M Kd.string _ _ _ a1 [.string a1] from rfl) (Reps.one (show Kd.M Kd.string _ _ _ a2 [.string a2] from rfl) (Reps.none _ _)))); intro v301 w15 ho16 hb hg_ hnew_; clear hg_ hnew_; (first|rw [← Ny300.out] at ho16|(simp only [Int.reduceToNat] at ho16; rw [← Ny300.out] at ho16)); have n0_ := Aside0.mk (Kd.R_lower ho16 (below_size (by repeat (first|(with_reducible first|exact HB.out|apply below_alloc|apply pw_below_drewN|apply below_drew1)|exact HB.out)))); have n1_ := Aside0.mk (below_step (by repeat (first|(with_reducible first|exact HB.out|apply below_alloc|apply pw_below_drewN|apply below_drew1)|exact HB.out)) hb); clear HB; have HO302 := n0_; have HB := n1_; clear n0_ n1_; clear hb ho16; obtain ⟨Ao17, co17, eo17⟩ := Kd.R_slice HO302.out; subst eo17)|(go_at_call 10; (with_reducible refine (stowagelaw20_long.calls k _ _ y300 true _ ?side1 ?side2 A12.out).mono ?_); (case side1 => repeat (first|exact (Kd.R_reads' HO302.out).2.2|(with_reducible refine Kd.C_alloc ?_ _)|(with_reducible refine Kd.C_drewN ?_ _)|(with_reducible refine Kd.C_drew ?_))); (case side2 => exact (Kd.R_reads' HO302.out).2.1); rintro e w' ⟨rfl, ⟨nd, rfl⟩⟩; (try first|exact ⟨rfl, _, World.drewN_drewN _ _ _⟩|exact ⟨rfl, _, Eq.trans (World.drewN_drewN _ _ _) (congrArg (World.drewN _) (Nat.add_assoc _ _ _))⟩))))
      go_meet
      case rel => exact ⟨_, (true), (by first|rfl|(simp; done)|(simp [*]; done)), H', ⟨by first|omega|exact Nat.le_refl _⟩, ⟨by repeat (first|(with_reducible first|exact HB.out|apply below_alloc|apply pw_below_drewN|apply below_drew1)|exact HB.out)⟩⟩
    ·replace c13 := Bool.eq_false_iff.mpr c13
     subst c13
     have H1 : (if (a1.size : Int) > 400 then (stowagelaw20_ListingPages.j0 k l0 a1 a2 a3 t297 true) else (if (a2.size : Int) > 400 then (stowagelaw20_ListingPages.j0 k l0 a1 a2 a3 t297 true) else ((stowagelaw20_unlike.f k l0).bind fun t304 => (stowagelaw20_ListingPages.j0 k l0 a1 a2 a3 t297 (!t304))))) = some r := by rw [if_neg (show ¬ (false = true) by decide)] at H; exact H
     clear H
     have H := H1
     clear H1
     by_cases c18 : (a1.size : Int) > 400
     ·rw [if_pos c18] at H
      have c18b0 : decide (400 < (a1.size : Int)) = true := decide_eq_true c18
      have c18b1 : decide (400 < a1.size) = true := decide_eq_true (by omega)
      clear c18
      as_aux_lemma =>
       have H' := Aside0.mk H
       clear H
       go_wp2_with (first|(go_at_call 9; (with_reducible refine (stowagekit_LargeEntries.calls k _ _ l0 false _ ?side1 ?side2 A8.out).mono ?_); (case side1 => repeat (first|exact (Kd.C_below HR0.out HB.out)|(with_reducible refine Kd.C_alloc ?_ _)|(with_reducible refine Kd.C_drewN ?_ _)|(with_reducible refine Kd.C_drew ?_))); (case side2 => exact HC0.out); rintro e w' ⟨rfl, ⟨nd, rfl⟩⟩; (try first|exact ⟨rfl, _, World.drewN_drewN _ _ _⟩|exact ⟨rfl, _, Eq.trans (World.drewN_drewN _ _ _) (congrArg (World.drewN _) (Nat.add_assoc _ _ _))⟩))|(go_at_call 17; (with_reducible refine (listing_Check.calls k _ _ l0 t299 _ ?side1 ?side2 A10.out).mono ?_); (case side1 => repeat (first|exact (Kd.C_below HR0.out (by repeat (first|(with_reducible first|exact HB.out|apply below_alloc|apply pw_below_drewN|apply below_drew1)|exact HB.out)))|(with_reducible refine Kd.C_alloc ?_ _)|(with_reducible refine Kd.C_drewN ?_ _)|(with_reducible refine Kd.C_drew ?_))); (case side2 => exact HC0.out); rintro e w19 ⟨rfl, hb⟩; have n0_ := Aside0.mk (below_step (by repeat (first|(with_reducible first|exact HB.out|apply below_alloc|apply pw_below_drewN|apply below_drew1)|exact HB.out)) hb); clear HB; have HB := n0_; clear n0_; (try clear hb); (try clear hb2); (try clear hk); (try clear hi))|((with_reducible refine gate_dst (N := 33) rfl ?_); (try (refine gate_guard (by rfl) ?_; dsimp only)); refine Kd.R_lit Kd.string _ 9 ?hg (N := 33) ?hd (xs := ([a1, a2] : List ByteArray)) (inner := [.string a1, .string a2]) (ok := fun _ => True) (okp := fun _ => True) ?hr ?hp (fun _ hk => hk) trivial (Below.refl _ _) (Nat.le_refl _) (by simp) ?_; (case hd => rfl); (case hg => rfl); (case hr => first|(go_simp; done)|(go_simp; rfl)); (case hp => exact (Reps.one (show Kd.M Kd.string _ _ _ a1 [.string a1] from rfl) (Reps.one (show Kd.M Kd.string _ _ _ a2 [.string a2] from rfl) (Reps.none _ _)))); intro v301 w20 ho21 hb hg_ hnew_; clear hg_ hnew_; (first|rw [← Ny300.out] at ho21|(simp only [Int.reduceToNat] at ho21; rw [← Ny300.out] at ho21)); have n0_ := Aside0.mk (Kd.R_lower ho21 (below_size (by repeat (first|(with_reducible first|exact HB.out|apply below_alloc|apply pw_below_drewN|apply below_drew1)|exact HB.out)))); have n1_ := Aside0.mk (below_step (by repeat (first|(with_reducible first|exact HB.out|apply below_alloc|apply pw_below_drewN|apply below_drew1)|exact HB.out)) hb); clear HB; have HO302 := n0_; have HB := n1_; clear n0_ n1_; clear hb ho21; obtain ⟨Ao22, co22, eo22⟩ := Kd.R_slice HO302.out; subst eo22)|(go_at_call 10; (with_reducible refine (stowagelaw20_long.calls k _ _ y300 false _ ?side1 ?side2 A12.out).mono ?_); (case side1 => repeat (first|exact (Kd.R_reads' HO302.out).2.2|(with_reducible refine Kd.C_alloc ?_ _)|(with_reducible refine Kd.C_drewN ?_ _)|(with_reducible refine Kd.C_drew ?_))); (case side2 => exact (Kd.R_reads' HO302.out).2.1); rintro e w' ⟨rfl, ⟨nd, rfl⟩⟩; (try first|exact ⟨rfl, _, World.drewN_drewN _ _ _⟩|exact ⟨rfl, _, Eq.trans (World.drewN_drewN _ _ _) (congrArg (World.drewN _) (Nat.add_assoc _ _ _))⟩)))
       repeat (go_quiet (first|(go_at_call 9; (with_reducible refine (stowagekit_LargeEntries.calls k _ _ l0 false _ ?side1 ?side2 A8.out).mono ?_); (case side1 => repeat (first|exact (Kd.C_below HR0.out HB.out)|(with_reducible refine Kd.C_alloc ?_ _)|(with_reducible refine Kd.C_drewN ?_ _)|(with_reducible refine Kd.C_drew ?_))); (case side2 => exact HC0.out); rintro e w' ⟨rfl, ⟨nd, rfl⟩⟩; (try first|exact ⟨rfl, _, World.drewN_drewN _ _ _⟩|exact ⟨rfl, _, Eq.trans (World.drewN_drewN _ _ _) (congrArg (World.drewN _) (Nat.add_assoc _ _ _))⟩))|(go_at_call 17; (with_reducible refine (listing_Check.calls k _ _ l0 t299 _ ?side1 ?side2 A10.out).mono ?_); (case side1 => repeat (first|exact (Kd.C_below HR0.out (by repeat (first|(with_reducible first|exact HB.out|apply below_alloc|apply pw_below_drewN|apply below_drew1)|exact HB.out)))|(with_reducible refine Kd.C_alloc ?_ _)|(with_reducible refine Kd.C_drewN ?_ _)|(with_reducible refine Kd.C_drew ?_))); (case side2 => exact HC0.out); rintro e w19 ⟨rfl, hb⟩; have n0_ := Aside0.mk (below_step (by repeat (first|(with_reducible first|exact HB.out|apply below_alloc|apply pw_below_drewN|apply below_drew1)|exact HB.out)) hb); clear HB; have HB := n0_; clear n0_; (try clear hb); (try clear hb2); (try clear hk); (try clear hi))|((with_reducible refine gate_dst (N := 33) rfl ?_); (try (refine gate_guard (by rfl) ?_; dsimp only)); refine Kd.R_lit Kd.string _ 9 ?hg (N := 33) ?hd (xs := ([a1, a2] : List ByteArray)) (inner := [.string a1, .string a2]) (ok := fun _ => True) (okp := fun _ => True) ?hr ?hp (fun _ hk => hk) trivial (Below.refl _ _) (Nat.le_refl _) (by simp) ?_; (case hd => rfl); (case hg => rfl); (case hr => first|(go_simp; done)|(go_simp; rfl)); (case hp => exact (Reps.one (show Kd.M Kd.string _ _ _ a1 [.string a1] from rfl) (Reps.one (show Kd.M Kd.string _ _ _ a2 [.string a2] from rfl) (Reps.none _ _)))); intro v301 w20 ho21 hb hg_ hnew_; clear hg_ hnew_; (first|rw [← Ny300.out] at ho21|(simp only [Int.reduceToNat] at ho21; rw [← Ny300.out] at ho21)); have n0_ := Aside0.mk (Kd.R_lower ho21 (below_size (by repeat (first|(with_reducible first|exact HB.out|apply below_alloc|apply pw_below_drewN|apply below_drew1)|exact HB.out)))); have n1_ := Aside0.mk (below_step (by repeat (first|(with_reducible first|exact HB.out|apply below_alloc|apply pw_below_drewN|apply below_drew1)|exact HB.out)) hb); clear HB; have HO302 := n0_; have HB := n1_; clear n0_ n1_; clear hb ho21; obtain ⟨Ao22, co22, eo22⟩ := Kd.R_slice HO302.out; subst eo22)|(go_at_call 10; (with_reducible refine (stowagelaw20_long.calls k _ _ y300 false _ ?side1 ?side2 A12.out).mono ?_); (case side1 => repeat (first|exact (Kd.R_reads' HO302.out).2.2|(with_reducible refine Kd.C_alloc ?_ _)|(with_reducible refine Kd.C_drewN ?_ _)|(with_reducible refine Kd.C_drew ?_))); (case side2 => exact (Kd.R_reads' HO302.out).2.1); rintro e w' ⟨rfl, ⟨nd, rfl⟩⟩; (try first|exact ⟨rfl, _, World.drewN_drewN _ _ _⟩|exact ⟨rfl, _, Eq.trans (World.drewN_drewN _ _ _) (congrArg (World.drewN _) (Nat.add_assoc _ _ _))⟩))); try go_wp2_with (first|(go_at_call 9; (with_reducible refine (stowagekit_LargeEntries.calls k _ _ l0 false _ ?side1 ?side2 A8.out).mono ?_); (case side1 => repeat (first|exact (Kd.C_below HR0.out HB.out)|(with_reducible refine Kd.C_alloc ?_ _)|(with_reducible refine Kd.C_drewN ?_ _)|(with_reducible refine Kd.C_drew ?_))); (case side2 => exact HC0.out); rintro e w' ⟨rfl, ⟨nd, rfl⟩⟩; (try first|exact ⟨rfl, _, World.drewN_drewN _ _ _⟩|exact ⟨rfl, _, Eq.trans (World.drewN_drewN _ _ _) (congrArg (World.drewN _) (Nat.add_assoc _ _ _))⟩))|(go_at_call 17; (with_reducible refine (listing_Check.calls k _ _ l0 t299 _ ?side1 ?side2 A10.out).mono ?_); (case side1 => repeat (first|exact (Kd.C_below HR0.out (by repeat (first|(with_reducible first|exact HB.out|apply below_alloc|apply pw_below_drewN|apply below_drew1)|exact HB.out)))|(with_reducible refine Kd.C_alloc ?_ _)|(with_reducible refine Kd.C_drewN ?_ _)|(with_reducible refine Kd.C_drew ?_))); (case side2 => exact HC0.out); rintro e w19 ⟨rfl, hb⟩; have n0_ := Aside0.mk (below_step (by repeat (first|(with_reducible first|exact HB.out|apply below_alloc|apply pw_below_drewN|apply below_drew1)|exact HB.out)) hb); clear HB; have HB := n0_; clear n0_; (try clear hb); (try clear hb2); (try clear hk); (try clear hi))|((with_reducible refine gate_dst (N := 33) rfl ?_); (try (refine gate_guard (by rfl) ?_; dsimp only)); refine Kd.R_lit Kd.string _ 9 ?hg (N := 33) ?hd (xs := ([a1, a2] : List ByteArray)) (inner := [.string a1, .string a2]) (ok := fun _ => True) (okp := fun _ => True) ?hr ?hp (fun _ hk => hk) trivial (Below.refl _ _) (Nat.le_refl _) (by simp) ?_; (case hd => rfl); (case hg => rfl); (case hr => first|(go_simp; done)|(go_simp; rfl)); (case hp => exact (Reps.one (show Kd.M Kd.string _ _ _ a1 [.string a1] from rfl) (Reps.one (show Kd.M Kd.string _ _ _ a2 [.string a2] from rfl) (Reps.none _ _)))); intro v301 w20 ho21 hb hg_ hnew_; clear hg_ hnew_; (first|rw [← Ny300.out] at ho21|(simp only [Int.reduceToNat] at ho21; rw [← Ny300.out] at ho21)); have n0_ := Aside0.mk (Kd.R_lower ho21 (below_size (by repeat (first|(with_reducible first|exact HB.out|apply below_alloc|apply pw_below_drewN|apply below_drew1)|exact HB.out)))); have n1_ := Aside0.mk (below_step (by repeat (first|(with_reducible first|exact HB.out|apply below_alloc|apply pw_below_drewN|apply below_drew1)|exact HB.out)) hb); clear HB; have HO302 := n0_; have HB := n1_; clear n0_ n1_; clear hb ho21; obtain ⟨Ao22, co22, eo22⟩ := Kd.R_slice HO302.out; subst eo22)|(go_at_call 10; (with_reducible refine (stowagelaw20_long.calls k _ _ y300 false _ ?side1 ?side2 A12.out).mono ?_); (case side1 => repeat (first|exact (Kd.R_reads' HO302.out).2.2|(with_reducible refine Kd.C_alloc ?_ _)|(with_reducible refine Kd.C_drewN ?_ _)|(with_reducible refine Kd.C_drew ?_))); (case side2 => exact (Kd.R_reads' HO302.out).2.1); rintro e w' ⟨rfl, ⟨nd, rfl⟩⟩; (try first|exact ⟨rfl, _, World.drewN_drewN _ _ _⟩|exact ⟨rfl, _, Eq.trans (World.drewN_drewN _ _ _) (congrArg (World.drewN _) (Nat.add_assoc _ _ _))⟩))))
       go_meet
       case rel => exact ⟨_, (true), (by first|rfl|(simp; done)|(simp [*]; done)), H', ⟨by first|omega|exact Nat.le_refl _⟩, ⟨by repeat (first|(with_reducible first|exact HB.out|apply below_alloc|apply pw_below_drewN|apply below_drew1)|exact HB.out)⟩⟩
     ·rw [if_neg c18] at H
      have c18b0 : decide (400 < (a1.size : Int)) = false := decide_eq_false c18
      have c18b1 : decide (400 < a1.size) = false := decide_eq_false (by omega)
      clear c18
      by_cases c23 : (a2.size : Int) > 400
      ·rw [if_pos c23] at H
       have c23b0 : decide (400 < (a2.size : Int)) = true := decide_eq_true c23
       have c23b1 : decide (400 < a2.size) = true := decide_eq_true (by omega)
       clear c23
       as_aux_lemma =>
        have H' := Aside0.mk H
        clear H
        go_wp2_with (first|(go_at_call 9; (with_reducible refine (stowagekit_LargeEntries.calls k _ _ l0 false _ ?side1 ?side2 A8.out).mono ?_); (case side1 => repeat (first|exact (Kd.C_below HR0.out HB.out)|(with_reducible refine Kd.C_alloc ?_ _)|(with_reducible refine Kd.C_drewN ?_ _)|(with_reducible refine Kd.C_drew ?_))); (case side2 => exact HC0.out); rintro e w' ⟨rfl, ⟨nd, rfl⟩⟩; (try first|exact ⟨rfl, _, World.drewN_drewN _ _ _⟩|exact ⟨rfl, _, Eq.trans (World.drewN_drewN _ _ _) (congrArg (World.drewN _) (Nat.add_assoc _ _ _))⟩))|(go_at_call 17; (with_reducible refine (listing_Check.calls k _ _ l0 t299 _ ?side1 ?side2 A10.out).mono ?_); (case side1 => repeat (first|exact (Kd.C_below HR0.out (by repeat (first|(with_reducible first|exact HB.out|apply below_alloc|apply pw_below_drewN|apply below_drew1)|exact HB.out)))|(with_reducible refine Kd.C_alloc ?_ _)|(with_reducible refine Kd.C_drewN ?_ _)|(with_reducible refine Kd.C_drew ?_))); (case side2 => exact HC0.out); rintro e w24 ⟨rfl, hb⟩; have n0_ := Aside0.mk (below_step (by repeat (first|(with_reducible first|exact HB.out|apply below_alloc|apply pw_below_drewN|apply below_drew1)|exact HB.out)) hb); clear HB; have HB := n0_; clear n0_; (try clear hb); (try clear hb2); (try clear hk); (try clear hi))|((with_reducible refine gate_dst (N := 33) rfl ?_); (try (refine gate_guard (by rfl) ?_; dsimp only)); refine Kd.R_lit Kd.string _ 9 ?hg (N := 33) ?hd (xs := ([a1, a2] : List ByteArray)) (inner := [.string a1, .string a2]) (ok := fun _ => True) (okp := fun _ => True) ?hr ?hp (fun _ hk => hk) trivial (Below.refl _ _) (Nat.le_refl _) (by simp) ?_; (case hd => rfl); (case hg => rfl); (case hr => first|(go_simp; done)|(go_simp; rfl)); (case hp => exact (Reps.one (show Kd.M Kd.string _ _ _ a1 [.string a1] from rfl) (Reps.one (show Kd.M Kd.string _ _ _ a2 [.string a2] from rfl) (Reps.none _ _)))); intro v301 w25 ho26 hb hg_ hnew_; clear hg_ hnew_; (first|rw [← Ny300.out] at ho26|(simp only [Int.reduceToNat] at ho26; rw [← Ny300.out] at ho26)); have n0_ := Aside0.mk (Kd.R_lower ho26 (below_size (by repeat (first|(with_reducible first|exact HB.out|apply below_alloc|apply pw_below_drewN|apply below_drew1)|exact HB.out)))); have n1_ := Aside0.mk (below_step (by repeat (first|(with_reducible first|exact HB.out|apply below_alloc|apply pw_below_drewN|apply below_drew1)|exact HB.out)) hb); clear HB; have HO302 := n0_; have HB := n1_; clear n0_ n1_; clear hb ho26; obtain ⟨Ao27, co27, eo27⟩ := Kd.R_slice HO302.out; subst eo27)|(go_at_call 10; (with_reducible refine (stowagelaw20_long.calls k _ _ y300 false _ ?side1 ?side2 A12.out).mono ?_); (case side1 => repeat (first|exact (Kd.R_reads' HO302.out).2.2|(with_reducible refine Kd.C_alloc ?_ _)|(with_reducible refine Kd.C_drewN ?_ _)|(with_reducible refine Kd.C_drew ?_))); (case side2 => exact (Kd.R_reads' HO302.out).2.1); rintro e w' ⟨rfl, ⟨nd, rfl⟩⟩; (try first|exact ⟨rfl, _, World.drewN_drewN _ _ _⟩|exact ⟨rfl, _, Eq.trans (World.drewN_drewN _ _ _) (congrArg (World.drewN _) (Nat.add_assoc _ _ _))⟩)))
        repeat (go_quiet (first|(go_at_call 9; (with_reducible refine (stowagekit_LargeEntries.calls k _ _ l0 false _ ?side1 ?side2 A8.out).mono ?_); (case side1 => repeat (first|exact (Kd.C_below HR0.out HB.out)|(with_reducible refine Kd.C_alloc ?_ _)|(with_reducible refine Kd.C_drewN ?_ _)|(with_reducible refine Kd.C_drew ?_))); (case side2 => exact HC0.out); rintro e w' ⟨rfl, ⟨nd, rfl⟩⟩; (try first|exact ⟨rfl, _, World.drewN_drewN _ _ _⟩|exact ⟨rfl, _, Eq.trans (World.drewN_drewN _ _ _) (congrArg (World.drewN _) (Nat.add_assoc _ _ _))⟩))|(go_at_call 17; (with_reducible refine (listing_Check.calls k _ _ l0 t299 _ ?side1 ?side2 A10.out).mono ?_); (case side1 => repeat (first|exact (Kd.C_below HR0.out (by repeat (first|(with_reducible first|exact HB.out|apply below_alloc|apply pw_below_drewN|apply below_drew1)|exact HB.out)))|(with_reducible refine Kd.C_alloc ?_ _)|(with_reducible refine Kd.C_drewN ?_ _)|(with_reducible refine Kd.C_drew ?_))); (case side2 => exact HC0.out); rintro e w24 ⟨rfl, hb⟩; have n0_ := Aside0.mk (below_step (by repeat (first|(with_reducible first|exact HB.out|apply below_alloc|apply pw_below_drewN|apply below_drew1)|exact HB.out)) hb); clear HB; have HB := n0_; clear n0_; (try clear hb); (try clear hb2); (try clear hk); (try clear hi))|((with_reducible refine gate_dst (N := 33) rfl ?_); (try (refine gate_guard (by rfl) ?_; dsimp only)); refine Kd.R_lit Kd.string _ 9 ?hg (N := 33) ?hd (xs := ([a1, a2] : List ByteArray)) (inner := [.string a1, .string a2]) (ok := fun _ => True) (okp := fun _ => True) ?hr ?hp (fun _ hk => hk) trivial (Below.refl _ _) (Nat.le_refl _) (by simp) ?_; (case hd => rfl); (case hg => rfl); (case hr => first|(go_simp; done)|(go_simp; rfl)); (case hp => exact (Reps.one (show Kd.M Kd.string _ _ _ a1 [.string a1] from rfl) (Reps.one (show Kd.M Kd.string _ _ _ a2 [.string a2] from rfl) (Reps.none _ _)))); intro v301 w25 ho26 hb hg_ hnew_; clear hg_ hnew_; (first|rw [← Ny300.out] at ho26|(simp only [Int.reduceToNat] at ho26; rw [← Ny300.out] at ho26)); have n0_ := Aside0.mk (Kd.R_lower ho26 (below_size (by repeat (first|(with_reducible first|exact HB.out|apply below_alloc|apply pw_below_drewN|apply below_drew1)|exact HB.out)))); have n1_ := Aside0.mk (below_step (by repeat (first|(with_reducible first|exact HB.out|apply below_alloc|apply pw_below_drewN|apply below_drew1)|exact HB.out)) hb); clear HB; have HO302 := n0_; have HB := n1_; clear n0_ n1_; clear hb ho26; obtain ⟨Ao27, co27, eo27⟩ := Kd.R_slice HO302.out; subst eo27)|(go_at_call 10; (with_reducible refine (stowagelaw20_long.calls k _ _ y300 false _ ?side1 ?side2 A12.out).mono ?_); (case side1 => repeat (first|exact (Kd.R_reads' HO302.out).2.2|(with_reducible refine Kd.C_alloc ?_ _)|(with_reducible refine Kd.C_drewN ?_ _)|(with_reducible refine Kd.C_drew ?_))); (case side2 => exact (Kd.R_reads' HO302.out).2.1); rintro e w' ⟨rfl, ⟨nd, rfl⟩⟩; (try first|exact ⟨rfl, _, World.drewN_drewN _ _ _⟩|exact ⟨rfl, _, Eq.trans (World.drewN_drewN _ _ _) (congrArg (World.drewN _) (Nat.add_assoc _ _ _))⟩))); try go_wp2_with (first|(go_at_call 9; (with_reducible refine (stowagekit_LargeEntries.calls k _ _ l0 false _ ?side1 ?side2 A8.out).mono ?_); (case side1 => repeat (first|exact (Kd.C_below HR0.out HB.out)|(with_reducible refine Kd.C_alloc ?_ _)|(with_reducible refine Kd.C_drewN ?_ _)|(with_reducible refine Kd.C_drew ?_))); (case side2 => exact HC0.out); rintro e w' ⟨rfl, ⟨nd, rfl⟩⟩; (try first|exact ⟨rfl, _, World.drewN_drewN _ _ _⟩|exact ⟨rfl, _, Eq.trans (World.drewN_drewN _ _ _) (congrArg (World.drewN _) (Nat.add_assoc _ _ _))⟩))|(go_at_call 17; (with_reducible refine (listing_Check.calls k _ _ l0 t299 _ ?side1 ?side2 A10.out).mono ?_); (case side1 => repeat (first|exact (Kd.C_below HR0.out (by repeat (first|(with_reducible first|exact HB.out|apply below_alloc|apply pw_below_drewN|apply below_drew1)|exact HB.out)))|(with_reducible refine Kd.C_alloc ?_ _)|(with_reducible refine Kd.C_drewN ?_ _)|(with_reducible refine Kd.C_drew ?_))); (case side2 => exact HC0.out); rintro e w24 ⟨rfl, hb⟩; have n0_ := Aside0.mk (below_step (by repeat (first|(with_reducible first|exact HB.out|apply below_alloc|apply pw_below_drewN|apply below_drew1)|exact HB.out)) hb); clear HB; have HB := n0_; clear n0_; (try clear hb); (try clear hb2); (try clear hk); (try clear hi))|((with_reducible refine gate_dst (N := 33) rfl ?_); (try (refine gate_guard (by rfl) ?_; dsimp only)); refine Kd.R_lit Kd.string _ 9 ?hg (N := 33) ?hd (xs := ([a1, a2] : List ByteArray)) (inner := [.string a1, .string a2]) (ok := fun _ => True) (okp := fun _ => True) ?hr ?hp (fun _ hk => hk) trivial (Below.refl _ _) (Nat.le_refl _) (by simp) ?_; (case hd => rfl); (case hg => rfl); (case hr => first|(go_simp; done)|(go_simp; rfl)); (case hp => exact (Reps.one (show Kd.M Kd.string _ _ _ a1 [.string a1] from rfl) (Reps.one (show Kd.M Kd.string _ _ _ a2 [.string a2] from rfl) (Reps.none _ _)))); intro v301 w25 ho26 hb hg_ hnew_; clear hg_ hnew_; (first|rw [← Ny300.out] at ho26|(simp only [Int.reduceToNat] at ho26; rw [← Ny300.out] at ho26)); have n0_ := Aside0.mk (Kd.R_lower ho26 (below_size (by repeat (first|(with_reducible first|exact HB.out|apply below_alloc|apply pw_below_drewN|apply below_drew1)|exact HB.out)))); have n1_ := Aside0.mk (below_step (by repeat (first|(with_reducible first|exact HB.out|apply below_alloc|apply pw_below_drewN|apply below_drew1)|exact HB.out)) hb); clear HB; have HO302 := n0_; have HB := n1_; clear n0_ n1_; clear hb ho26; obtain ⟨Ao27, co27, eo27⟩ := Kd.R_slice HO302.out; subst eo27)|(go_at_call 10; (with_reducible refine (stowagelaw20_long.calls k _ _ y300 false _ ?side1 ?side2 A12.out).mono ?_); (case side1 => repeat (first|exact (Kd.R_reads' HO302.out).2.2|(with_reducible refine Kd.C_alloc ?_ _)|(with_reducible refine Kd.C_drewN ?_ _)|(with_reducible refine Kd.C_drew ?_))); (case side2 => exact (Kd.R_reads' HO302.out).2.1); rintro e w' ⟨rfl, ⟨nd, rfl⟩⟩; (try first|exact ⟨rfl, _, World.drewN_drewN _ _ _⟩|exact ⟨rfl, _, Eq.trans (World.drewN_drewN _ _ _) (congrArg (World.drewN _) (Nat.add_assoc _ _ _))⟩))))
        go_meet
        case rel => exact ⟨_, (true), (by first|rfl|(simp; done)|(simp [*]; done)), H', ⟨by first|omega|exact Nat.le_refl _⟩, ⟨by repeat (first|(with_reducible first|exact HB.out|apply below_alloc|apply pw_below_drewN|apply below_drew1)|exact HB.out)⟩⟩
      ·rw [if_neg c23] at H
       have c23b0 : decide (400 < (a2.size : Int)) = false := decide_eq_false c23
       have c23b1 : decide (400 < a2.size) = false := decide_eq_false (by omega)
       clear c23
       replace H := Option.bind_eq_some_iff.mp H
       obtain ⟨t304, A280, H⟩ := H
       replace H : (stowagelaw20_ListingPages.j0 k l0 a1 a2 a3 t297 (!t304)) = some r := H
       have A28 := Aside0.mk A280
       clear A280
       as_aux_lemma =>
        have H' := Aside0.mk H
        clear H
        go_wp2_with (first|(go_at_call 9; (with_reducible refine (stowagekit_LargeEntries.calls k _ _ l0 false _ ?side1 ?side2 A8.out).mono ?_); (case side1 => repeat (first|exact (Kd.C_below HR0.out HB.out)|(with_reducible refine Kd.C_alloc ?_ _)|(with_reducible refine Kd.C_drewN ?_ _)|(with_reducible refine Kd.C_drew ?_))); (case side2 => exact HC0.out); rintro e w' ⟨rfl, ⟨nd, rfl⟩⟩; (try first|exact ⟨rfl, _, World.drewN_drewN _ _ _⟩|exact ⟨rfl, _, Eq.trans (World.drewN_drewN _ _ _) (congrArg (World.drewN _) (Nat.add_assoc _ _ _))⟩))|(go_at_call 17; (with_reducible refine (listing_Check.calls k _ _ l0 t299 _ ?side1 ?side2 A10.out).mono ?_); (case side1 => repeat (first|exact (Kd.C_below HR0.out (by repeat (first|(with_reducible first|exact HB.out|apply below_alloc|apply pw_below_drewN|apply below_drew1)|exact HB.out)))|(with_reducible refine Kd.C_alloc ?_ _)|(with_reducible refine Kd.C_drewN ?_ _)|(with_reducible refine Kd.C_drew ?_))); (case side2 => exact HC0.out); rintro e w29 ⟨rfl, hb⟩; have n0_ := Aside0.mk (below_step (by repeat (first|(with_reducible first|exact HB.out|apply below_alloc|apply pw_below_drewN|apply below_drew1)|exact HB.out)) hb); clear HB; have HB := n0_; clear n0_; (try clear hb); (try clear hb2); (try clear hk); (try clear hi))|((with_reducible refine gate_dst (N := 33) rfl ?_); (try (refine gate_guard (by rfl) ?_; dsimp only)); refine Kd.R_lit Kd.string _ 9 ?hg (N := 33) ?hd (xs := ([a1, a2] : List ByteArray)) (inner := [.string a1, .string a2]) (ok := fun _ => True) (okp := fun _ => True) ?hr ?hp (fun _ hk => hk) trivial (Below.refl _ _) (Nat.le_refl _) (by simp) ?_; (case hd => rfl); (case hg => rfl); (case hr => first|(go_simp; done)|(go_simp; rfl)); (case hp => exact (Reps.one (show Kd.M Kd.string _ _ _ a1 [.string a1] from rfl) (Reps.one (show Kd.M Kd.string _ _ _ a2 [.string a2] from rfl) (Reps.none _ _)))); intro v301 w30 ho31 hb hg_ hnew_; clear hg_ hnew_; (first|rw [← Ny300.out] at ho31|(simp only [Int.reduceToNat] at ho31; rw [← Ny300.out] at ho31)); have n0_ := Aside0.mk (Kd.R_lower ho31 (below_size (by repeat (first|(with_reducible first|exact HB.out|apply below_alloc|apply pw_below_drewN|apply below_drew1)|exact HB.out)))); have n1_ := Aside0.mk (below_step (by repeat (first|(with_reducible first|exact HB.out|apply below_alloc|apply pw_below_drewN|apply below_drew1)|exact HB.out)) hb); clear HB; have HO302 := n0_; have HB := n1_; clear n0_ n1_; clear hb ho31; obtain ⟨Ao32, co32, eo32⟩ := Kd.R_slice HO302.out; subst eo32)|(go_at_call 10; (with_reducible refine (stowagelaw20_long.calls k _ _ y300 false _ ?side1 ?side2 A12.out).mono ?_); (case side1 => repeat (first|exact (Kd.R_reads' HO302.out).2.2|(with_reducible refine Kd.C_alloc ?_ _)|(with_reducible refine Kd.C_drewN ?_ _)|(with_reducible refine Kd.C_drew ?_))); (case side2 => exact (Kd.R_reads' HO302.out).2.1); rintro e w' ⟨rfl, ⟨nd, rfl⟩⟩; (try first|exact ⟨rfl, _, World.drewN_drewN _ _ _⟩|exact ⟨rfl, _, Eq.trans (World.drewN_drewN _ _ _) (congrArg (World.drewN _) (Nat.add_assoc _ _ _))⟩))|(go_at_call 24; (with_reducible refine (stowagelaw20_unlike.calls k _ _ l0 t304 _ ?side1 ?side2 A28.out).mono ?_); (case side1 => repeat (first|exact (Kd.C_below HR0.out (by repeat (first|(with_reducible first|exact HB.out|apply below_alloc|apply pw_below_drewN|apply below_drew1)|exact HB.out)))|(with_reducible refine Kd.C_alloc ?_ _)|(with_reducible refine Kd.C_drewN ?_ _)|(with_reducible refine Kd.C_drew ?_))); (case side2 => exact HC0.out); rintro e w' ⟨rfl, ⟨nd, rfl⟩⟩; (try first|exact ⟨rfl, _, World.drewN_drewN _ _ _⟩|exact ⟨rfl, _, Eq.trans (World.drewN_drewN _ _ _) (congrArg (World.drewN _) (Nat.add_assoc _ _ _))⟩)))
        repeat (go_quiet (first|(go_at_call 9; (with_reducible refine (stowagekit_LargeEntries.calls k _ _ l0 false _ ?side1 ?side2 A8.out).mono ?_); (case side1 => repeat (first|exact (Kd.C_below HR0.out HB.out)|(with_reducible refine Kd.C_alloc ?_ _)|(with_reducible refine Kd.C_drewN ?_ _)|(with_reducible refine Kd.C_drew ?_))); (case side2 => exact HC0.out); rintro e w' ⟨rfl, ⟨nd, rfl⟩⟩; (try first|exact ⟨rfl, _, World.drewN_drewN _ _ _⟩|exact ⟨rfl, _, Eq.trans (World.drewN_drewN _ _ _) (congrArg (World.drewN _) (Nat.add_assoc _ _ _))⟩))|(go_at_call 17; (with_reducible refine (listing_Check.calls k _ _ l0 t299 _ ?side1 ?side2 A10.out).mono ?_); (case side1 => repeat (first|exact (Kd.C_below HR0.out (by repeat (first|(with_reducible first|exact HB.out|apply below_alloc|apply pw_below_drewN|apply below_drew1)|exact HB.out)))|(with_reducible refine Kd.C_alloc ?_ _)|(with_reducible refine Kd.C_drewN ?_ _)|(with_reducible refine Kd.C_drew ?_))); (case side2 => exact HC0.out); rintro e w29 ⟨rfl, hb⟩; have n0_ := Aside0.mk (below_step (by repeat (first|(with_reducible first|exact HB.out|apply below_alloc|apply pw_below_drewN|apply below_drew1)|exact HB.out)) hb); clear HB; have HB := n0_; clear n0_; (try clear hb); (try clear hb2); (try clear hk); (try clear hi))|((with_reducible refine gate_dst (N := 33) rfl ?_); (try (refine gate_guard (by rfl) ?_; dsimp only)); refine Kd.R_lit Kd.string _ 9 ?hg (N := 33) ?hd (xs := ([a1, a2] : List ByteArray)) (inner := [.string a1, .string a2]) (ok := fun _ => True) (okp := fun _ => True) ?hr ?hp (fun _ hk => hk) trivial (Below.refl _ _) (Nat.le_refl _) (by simp) ?_; (case hd => rfl); (case hg => rfl); (case hr => first|(go_simp; done)|(go_simp; rfl)); (case hp => exact (Reps.one (show Kd.M Kd.string _ _ _ a1 [.string a1] from rfl) (Reps.one (show Kd.M Kd.string _ _ _ a2 [.string a2] from rfl) (Reps.none _ _)))); intro v301 w30 ho31 hb hg_ hnew_; clear hg_ hnew_; (first|rw [← Ny300.out] at ho31|(simp only [Int.reduceToNat] at ho31; rw [← Ny300.out] at ho31)); have n0_ := Aside0.mk (Kd.R_lower ho31 (below_size (by repeat (first|(with_reducible first|exact HB.out|apply below_alloc|apply pw_below_drewN|apply below_drew1)|exact HB.out)))); have n1_ := Aside0.mk (below_step (by repeat (first|(with_reducible first|exact HB.out|apply below_alloc|apply pw_below_drewN|apply below_drew1)|exact HB.out)) hb); clear HB; have HO302 := n0_; have HB := n1_; clear n0_ n1_; clear hb ho31; obtain ⟨Ao32, co32, eo32⟩ := Kd.R_slice HO302.out; subst eo32)|(go_at_call 10; (with_reducible refine (stowagelaw20_long.calls k _ _ y300 false _ ?side1 ?side2 A12.out).mono ?_); (case side1 => repeat (first|exact (Kd.R_reads' HO302.out).2.2|(with_reducible refine Kd.C_alloc ?_ _)|(with_reducible refine Kd.C_drewN ?_ _)|(with_reducible refine Kd.C_drew ?_))); (case side2 => exact (Kd.R_reads' HO302.out).2.1); rintro e w' ⟨rfl, ⟨nd, rfl⟩⟩; (try first|exact ⟨rfl, _, World.drewN_drewN _ _ _⟩|exact ⟨rfl, _, Eq.trans (World.drewN_drewN _ _ _) (congrArg (World.drewN _) (Nat.add_assoc _ _ _))⟩))|(go_at_call 24; (with_reducible refine (stowagelaw20_unlike.calls k _ _ l0 t304 _ ?side1 ?side2 A28.out).mono ?_); (case side1 => repeat (first|exact (Kd.C_below HR0.out (by repeat (first|(with_reducible first|exact HB.out|apply below_alloc|apply pw_below_drewN|apply below_drew1)|exact HB.out)))|(with_reducible refine Kd.C_alloc ?_ _)|(with_reducible refine Kd.C_drewN ?_ _)|(with_reducible refine Kd.C_drew ?_))); (case side2 => exact HC0.out); rintro e w' ⟨rfl, ⟨nd, rfl⟩⟩; (try first|exact ⟨rfl, _, World.drewN_drewN _ _ _⟩|exact ⟨rfl, _, Eq.trans (World.drewN_drewN _ _ _) (congrArg (World.drewN _) (Nat.add_assoc _ _ _))⟩))); try go_wp2_with (first|(go_at_call 9; (with_reducible refine (stowagekit_LargeEntries.calls k _ _ l0 false _ ?side1 ?side2 A8.out).mono ?_); (case side1 => repeat (first|exact (Kd.C_below HR0.out HB.out)|(with_reducible refine Kd.C_alloc ?_ _)|(with_reducible refine Kd.C_drewN ?_ _)|(with_reducible refine Kd.C_drew ?_))); (case side2 => exact HC0.out); rintro e w' ⟨rfl, ⟨nd, rfl⟩⟩; (try first|exact ⟨rfl, _, World.drewN_drewN _ _ _⟩|exact ⟨rfl, _, Eq.trans (World.drewN_drewN _ _ _) (congrArg (World.drewN _) (Nat.add_assoc _ _ _))⟩))|(go_at_call 17; (with_reducible refine (listing_Check.calls k _ _ l0 t299 _ ?side1 ?side2 A10.out).mono ?_); (case side1 => repeat (first|exact (Kd.C_below HR0.out (by repeat (first|(with_reducible first|exact HB.out|apply below_alloc|apply pw_below_drewN|apply below_drew1)|exact HB.out)))|(with_reducible refine Kd.C_alloc ?_ _)|(with_reducible refine Kd.C_drewN ?_ _)|(with_reducible refine Kd.C_drew ?_))); (case side2 => exact HC0.out); rintro e w29 ⟨rfl, hb⟩; have n0_ := Aside0.mk (below_step (by repeat (first|(with_reducible first|exact HB.out|apply below_alloc|apply pw_below_drewN|apply below_drew1)|exact HB.out)) hb); clear HB; have HB := n0_; clear n0_; (try clear hb); (try clear hb2); (try clear hk); (try clear hi))|((with_reducible refine gate_dst (N := 33) rfl ?_); (try (refine gate_guard (by rfl) ?_; dsimp only)); refine Kd.R_lit Kd.string _ 9 ?hg (N := 33) ?hd (xs := ([a1, a2] : List ByteArray)) (inner := [.string a1, .string a2]) (ok := fun _ => True) (okp := fun _ => True) ?hr ?hp (fun _ hk => hk) trivial (Below.refl _ _) (Nat.le_refl _) (by simp) ?_; (case hd => rfl); (case hg => rfl); (case hr => first|(go_simp; done)|(go_simp; rfl)); (case hp => exact (Reps.one (show Kd.M Kd.string _ _ _ a1 [.string a1] from rfl) (Reps.one (show Kd.M Kd.string _ _ _ a2 [.string a2] from rfl) (Reps.none _ _)))); intro v301 w30 ho31 hb hg_ hnew_; clear hg_ hnew_; (first|rw [← Ny300.out] at ho31|(simp only [Int.reduceToNat] at ho31; rw [← Ny300.out] at ho31)); have n0_ := Aside0.mk (Kd.R_lower ho31 (below_size (by repeat (first|(with_reducible first|exact HB.out|apply below_alloc|apply pw_below_drewN|apply below_drew1)|exact HB.out)))); have n1_ := Aside0.mk (below_step (by repeat (first|(with_reducible first|exact HB.out|apply below_alloc|apply pw_below_drewN|apply below_drew1)|exact HB.out)) hb); clear HB; have HO302 := n0_; have HB := n1_; clear n0_ n1_; clear hb ho31; obtain ⟨Ao32, co32, eo32⟩ := Kd.R_slice HO302.out; subst eo32)|(go_at_call 10; (with_reducible refine (stowagelaw20_long.calls k _ _ y300 false _ ?side1 ?side2 A12.out).mono ?_); (case side1 => repeat (first|exact (Kd.R_reads' HO302.out).2.2|(with_reducible refine Kd.C_alloc ?_ _)|(with_reducible refine Kd.C_drewN ?_ _)|(with_reducible refine Kd.C_drew ?_))); (case side2 => exact (Kd.R_reads' HO302.out).2.1); rintro e w' ⟨rfl, ⟨nd, rfl⟩⟩; (try first|exact ⟨rfl, _, World.drewN_drewN _ _ _⟩|exact ⟨rfl, _, Eq.trans (World.drewN_drewN _ _ _) (congrArg (World.drewN _) (Nat.add_assoc _ _ _))⟩))|(go_at_call 24; (with_reducible refine (stowagelaw20_unlike.calls k _ _ l0 t304 _ ?side1 ?side2 A28.out).mono ?_); (case side1 => repeat (first|exact (Kd.C_below HR0.out (by repeat (first|(with_reducible first|exact HB.out|apply below_alloc|apply pw_below_drewN|apply below_drew1)|exact HB.out)))|(with_reducible refine Kd.C_alloc ?_ _)|(with_reducible refine Kd.C_drewN ?_ _)|(with_reducible refine Kd.C_drew ?_))); (case side2 => exact HC0.out); rintro e w' ⟨rfl, ⟨nd, rfl⟩⟩; (try first|exact ⟨rfl, _, World.drewN_drewN _ _ _⟩|exact ⟨rfl, _, Eq.trans (World.drewN_drewN _ _ _) (congrArg (World.drewN _) (Nat.add_assoc _ _ _))⟩))))
        go_meet
        case rel => exact ⟨_, (!t304), (by first|rfl|(simp; done)|(simp [*]; done)), H', ⟨by first|omega|exact Nat.le_refl _⟩, ⟨by repeat (first|(with_reducible first|exact HB.out|apply below_alloc|apply pw_below_drewN|apply below_drew1)|exact HB.out)⟩⟩
   ·rw [if_neg c11] at H
    have c11b0 : (t299 == 0) = false := beq_eq_false_iff_ne.mpr c11
    have c11b1 : (t299 != 0) = true := bne_iff_ne.mpr c11
    (first|rw [c11b0]|(simp only [i64_w, i32_w]; rw [c11b0])|skip)
    as_aux_lemma =>
     have H' := Aside0.mk H
     clear H
     go_wp2_with (first|(go_at_call 9; (with_reducible refine (stowagekit_LargeEntries.calls k _ _ l0 false _ ?side1 ?side2 A8.out).mono ?_); (case side1 => repeat (first|exact (Kd.C_below HR0.out HB.out)|(with_reducible refine Kd.C_alloc ?_ _)|(with_reducible refine Kd.C_drewN ?_ _)|(with_reducible refine Kd.C_drew ?_))); (case side2 => exact HC0.out); rintro e w' ⟨rfl, ⟨nd, rfl⟩⟩; (try first|exact ⟨rfl, _, World.drewN_drewN _ _ _⟩|exact ⟨rfl, _, Eq.trans (World.drewN_drewN _ _ _) (congrArg (World.drewN _) (Nat.add_assoc _ _ _))⟩))|(go_at_call 17; (with_reducible refine (listing_Check.calls k _ _ l0 t299 _ ?side1 ?side2 A10.out).mono ?_); (case side1 => repeat (first|exact (Kd.C_below HR0.out (by repeat (first|(with_reducible first|exact HB.out|apply below_alloc|apply pw_below_drewN|apply below_drew1)|exact HB.out)))|(with_reducible refine Kd.C_alloc ?_ _)|(with_reducible refine Kd.C_drewN ?_ _)|(with_reducible refine Kd.C_drew ?_))); (case side2 => exact HC0.out); rintro e w33 ⟨rfl, hb⟩; have n0_ := Aside0.mk (below_step (by repeat (first|(with_reducible first|exact HB.out|apply below_alloc|apply pw_below_drewN|apply below_drew1)|exact HB.out)) hb); clear HB; have HB := n0_; clear n0_; (try clear hb); (try clear hb2); (try clear hk); (try clear hi)))
     repeat (go_quiet (first|(go_at_call 9; (with_reducible refine (stowagekit_LargeEntries.calls k _ _ l0 false _ ?side1 ?side2 A8.out).mono ?_); (case side1 => repeat (first|exact (Kd.C_below HR0.out HB.out)|(with_reducible refine Kd.C_alloc ?_ _)|(with_reducible refine Kd.C_drewN ?_ _)|(with_reducible refine Kd.C_drew ?_))); (case side2 => exact HC0.out); rintro e w' ⟨rfl, ⟨nd, rfl⟩⟩; (try first|exact ⟨rfl, _, World.drewN_drewN _ _ _⟩|exact ⟨rfl, _, Eq.trans (World.drewN_drewN _ _ _) (congrArg (World.drewN _) (Nat.add_assoc _ _ _))⟩))|(go_at_call 17; (with_reducible refine (listing_Check.calls k _ _ l0 t299 _ ?side1 ?side2 A10.out).mono ?_); (case side1 => repeat (first|exact (Kd.C_below HR0.out (by repeat (first|(with_reducible first|exact HB.out|apply below_alloc|apply pw_below_drewN|apply below_drew1)|exact HB.out)))|(with_reducible refine Kd.C_alloc ?_ _)|(with_reducible refine Kd.C_drewN ?_ _)|(with_reducible refine Kd.C_drew ?_))); (case side2 => exact HC0.out); rintro e w33 ⟨rfl, hb⟩; have n0_ := Aside0.mk (below_step (by repeat (first|(with_reducible first|exact HB.out|apply below_alloc|apply pw_below_drewN|apply below_drew1)|exact HB.out)) hb); clear HB; have HB := n0_; clear n0_; (try clear hb); (try clear hb2); (try clear hk); (try clear hi))); try go_wp2_with (first|(go_at_call 9; (with_reducible refine (stowagekit_LargeEntries.calls k _ _ l0 false _ ?side1 ?side2 A8.out).mono ?_); (case side1 => repeat (first|exact (Kd.C_below HR0.out HB.out)|(with_reducible refine Kd.C_alloc ?_ _)|(with_reducible refine Kd.C_drewN ?_ _)|(with_reducible refine Kd.C_drew ?_))); (case side2 => exact HC0.out); rintro e w' ⟨rfl, ⟨nd, rfl⟩⟩; (try first|exact ⟨rfl, _, World.drewN_drewN _ _ _⟩|exact ⟨rfl, _, Eq.trans (World.drewN_drewN _ _ _) (congrArg (World.drewN _) (Nat.add_assoc _ _ _))⟩))|(go_at_call 17; (with_reducible refine (listing_Check.calls k _ _ l0 t299 _ ?side1 ?side2 A10.out).mono ?_); (case side1 => repeat (first|exact (Kd.C_below HR0.out (by repeat (first|(with_reducible first|exact HB.out|apply below_alloc|apply pw_below_drewN|apply below_drew1)|exact HB.out)))|(with_reducible refine Kd.C_alloc ?_ _)|(with_reducible refine Kd.C_drewN ?_ _)|(with_reducible refine Kd.C_drew ?_))); (case side2 => exact HC0.out); rintro e w33 ⟨rfl, hb⟩; have n0_ := Aside0.mk (below_step (by repeat (first|(with_reducible first|exact HB.out|apply below_alloc|apply pw_below_drewN|apply below_drew1)|exact HB.out)) hb); clear HB; have HB := n0_; clear n0_; (try clear hb); (try clear hb2); (try clear hk); (try clear hi))))
     go_meet
     case rel => exact ⟨_, (true), (by first|rfl|(simp; done)|(simp [*]; done)), H', ⟨by first|omega|exact Nat.le_refl _⟩, ⟨by repeat (first|(with_reducible first|exact HB.out|apply below_alloc|apply pw_below_drewN|apply below_drew1)|exact HB.out)⟩⟩
 case rest =>
  clear HC6
  try clear c1
  try clear c2
  try clear p2
  try clear c5
  try clear c9
  try clear c11
  try clear c11b0
  try clear c11b1
  try clear c13
  try clear c18
  try clear c18b0
  try clear c18b1
  try clear c23
  try clear c23b0
  try clear c23b1
  obtain ⟨kq, x50_5, rfl, HA, HJ5, HB⟩ := hcut
  cases kq with
  | zero => exact absurd HA.out (by simp [stowagelaw20_ListingPages.j0])
  | succ kj5 =>
   have H := HA.out
   clear HA
   simp only [stowagelaw20_ListingPages.j0] at H
   by_cases c34 : x50_5 = true
   ·subst c34
    have H1 : (some t297) = some r := by rw [if_pos rfl] at H; exact H
    clear H
    have H := H1
    clear H1
    as_aux_lemma =>
     obtain rfl := Option.some.inj H
     go_wp2
     repeat (go_quiet (fail); try go_wp2)
     go_ret
     exact ⟨by first|rfl|(simp [errW_none, errW_some] <;> rfl)|(simp [*, errW_none, errW_some] <;> rfl), by repeat (first|(with_reducible first|exact HB.out|apply below_alloc|apply pw_below_drewN|apply below_drew1)|exact HB.out)⟩
   ·replace c34 := Bool.eq_false_iff.mpr c34
    subst c34
    have H1 : (stowagelaw20_ListingPages.l0 kj5 l0 a1 a2 a3 t297 0 0) = some r := by rw [if_neg (show ¬ (false = true) by decide)] at H; exact H
    clear H
    have H := H1
    clear H1
    have H' := Aside0.mk H
    clear H
    go_wp2
    repeat (go_quiet (fail); try go_wp2)
    go_loopg [10, 11] kj5 (fun kq v10 v11 w' => ∃ (x10_2 : Int) (x11_2 : Int), v10 = .int .i64 x10_2 ∧ v11 = .int .i64 x11_2 ∧ Aside0 (stowagelaw20_ListingPages.l0 kq l0 a1 a2 a3 t297 x10_2 x11_2 = some r) ∧ Aside0 (kq ≤ kj5) ∧ Aside0 (Below w.heap.size w w'))
    case atStart => exact ⟨(0), (0), (by first|rfl|(simp; done)|(simp [*]; done)), (by first|rfl|(simp; done)|(simp [*]; done)), H', ⟨Nat.le_refl _⟩, ⟨by repeat (first|(with_reducible first|exact HB.out|apply below_alloc|apply pw_below_drewN|apply below_drew1)|exact HB.out)⟩⟩
    case round =>
     clear H'
     try clear c1
     try clear c2
     try clear p2
     try clear c3
     try clear c5
     try clear c9
     try clear c11
     try clear c11b0
     try clear c11b1
     try clear c13
     try clear c18
     try clear c18b0
     try clear c18b1
     try clear c23
     try clear c23b0
     try clear c23b1
     try clear c34
     try clear p2
     obtain ⟨x10_2, x11_2, rfl, rfl, HA, HK2, HB⟩ := hrel
     cases gk with
     | zero => exact absurd HA.out (by simp [stowagelaw20_ListingPages.l0])
     | succ k2 =>
      have H := HA.out
      clear HA
      simp only [stowagelaw20_ListingPages.l0] at H
      by_cases c35 : x11_2 < (l0.length : Int)
      ·rw [if_pos c35] at H
       have c35b0 : decide (x11_2 < (l0.length : Int)) = true := decide_eq_true c35
       clear c35
       have HC36 := Aside0.mk H
       clear H
       go_upto_region 8 with (fail)
       repeat (go_quiet (fail); go_upto_region 8 with (fail))
       go_cut [73] (fun v73 wc => ∃ (kq : Nat) (x73_35 : Bool), v73 = .bool x73_35 ∧ Aside0 (stowagelaw20_ListingPages.j2 kq l0 a1 a2 a3 t297 x10_2 x11_2 x73_35 = some r) ∧ Aside0 (kq ≤ k2) ∧ Aside0 (Below w.heap.size w wc))
       case first =>
        have H := HC36.out
        clear HC36
        by_cases c37 : 0 ≤ x11_2
        ·rw [if_pos c37] at H
         have c37b0 : decide (0 ≤ x11_2) = true := decide_eq_true c37
         clear c37
         (first|rw [c37b0]|(simp only [i64_w, i32_w]; rw [c37b0])|skip)
         by_cases c38 : (((rd_T47 l0 x11_2).f0).size : Int) > 400
         ·rw [if_pos c38] at H
          have c38b0 : decide (400 < (((rd_T47 l0 x11_2).f0).size : Int)) = true := decide_eq_true c38
          have c38b1 : decide (400 < ((rd_T47 l0 x11_2).f0).size) = true := decide_eq_true (by omega)
          clear c38
          as_aux_lemma =>
           have H' := Aside0.mk H
           clear H
           have p305 : 0 ≤ (x11_2 : Int) := of_decide_eq_true (by first|(with_reducible assumption)|assumption)
           have q305 : x11_2 < (l0.length : Int) := of_decide_eq_true (by first|(with_reducible assumption)|assumption)
           obtain ⟨ad305, A305_1, c305_1, e305, hx305_0, hx305_1, hl305_1, hi305_1⟩ := at_T47 HR0.out x11_2 p305 q305
           cases e305
           replace hx305_0 := (HB.out.cell (World.block_lt_of_cell? w _ hx305_0)).trans hx305_0
           replace hx305_1 := (HB.out.cell (World.block_lt_of_cell? w _ hx305_1)).trans hx305_1
           have HR305_1 := Aside0.mk hi305_1
           have HC305_1 := Aside0.mk hl305_1
           clear hi305_1 hl305_1
           replace p305 := eq_true p305
           replace q305 := eq_true q305
           go_wp2
           repeat (go_quiet (fail); try go_wp2)
           go_meet
           case rel => exact ⟨_, (true), (by first|rfl|(simp; done)|(simp [*]; done)), H', ⟨by have := HJ5.out; have := HK2.out; first|omega|exact Nat.le_refl _⟩, ⟨by repeat (first|(with_reducible first|exact HB.out|apply below_alloc|apply pw_below_drewN|apply below_drew1)|exact HB.out)⟩⟩
         ·rw [if_neg c38] at H
          have c38b0 : decide (400 < (((rd_T47 l0 x11_2).f0).size : Int)) = false := decide_eq_false c38
          have c38b1 : decide (400 < ((rd_T47 l0 x11_2).f0).size) = false := decide_eq_false (by omega)
          clear c38
          as_aux_lemma =>
           have H' := Aside0.mk H
           clear H
           have p305 : 0 ≤ (x11_2 : Int) := of_decide_eq_true (by first|(with_reducible assumption)|assumption)
           have q305 : x11_2 < (l0.length : Int) := of_decide_eq_true (by first|(with_reducible assumption)|assumption)
           obtain ⟨ad305, A305_1, c305_1, e305, hx305_0, hx305_1, hl305_1, hi305_1⟩ := at_T47 HR0.out x11_2 p305 q305
           cases e305
           replace hx305_0 := (HB.out.cell (World.block_lt_of_cell? w _ hx305_0)).trans hx305_0
           replace hx305_1 := (HB.out.cell (World.block_lt_of_cell? w _ hx305_1)).trans hx305_1
           have HR305_1 := Aside0.mk hi305_1
           have HC305_1 := Aside0.mk hl305_1
           clear hi305_1 hl305_1
           replace p305 := eq_true p305
           replace q305 := eq_true q305
           have p306 : 0 ≤ (x11_2 : Int) := of_decide_eq_true (by first|(with_reducible assumption)|assumption)
           have q306 : x11_2 < (l0.length : Int) := of_decide_eq_true (by first|(with_reducible assumption)|assumption)
           obtain ⟨ad306, A306_1, c306_1, e306, hx306_0, hx306_1, hl306_1, hi306_1⟩ := at_T47 HR0.out x11_2 p306 q306
           obtain rfl : ad305 = ad306 := (by injection e306)
           replace hx306_0 := (HB.out.cell (World.block_lt_of_cell? w _ hx306_0)).trans hx306_0
           replace hx306_1 := (HB.out.cell (World.block_lt_of_cell? w _ hx306_1)).trans hx306_1
           have HR306_1 := Aside0.mk hi306_1
           have HC306_1 := Aside0.mk hl306_1
           clear hi306_1 hl306_1
           replace p306 := eq_true p306
           replace q306 := eq_true q306
           have ea_ := Option.some.inj (hx305_1.symm.trans hx306_1)
           injection ea_ with ea_ en_ ec_
           subst ea_
           subst ec_
           clear en_
           go_wp2
           repeat (go_quiet (fail); try go_wp2)
           go_meet
           case rel => exact ⟨_, (decide ((((rd_T47 l0 x11_2).f1).length : Int) > 16)), (by first|rfl|(simp; done)|(simp [*]; done)), H', ⟨by have := HJ5.out; have := HK2.out; first|omega|exact Nat.le_refl _⟩, ⟨by repeat (first|(with_reducible first|exact HB.out|apply below_alloc|apply pw_below_drewN|apply below_drew1)|exact HB.out)⟩⟩
        ·rw [if_neg c37] at H
         exact absurd H (by simp)
       case rest =>
        clear HC36
        try clear c1
        try clear c2
        try clear p2
        try clear c3
        try clear p3
        try clear q3
        try clear hx3
        try clear c5
        try clear c9
        try clear c11
        try clear c11b0
        try clear c11b1
        try clear c13
        try clear c18
        try clear c18b0
        try clear c18b1
        try clear c23
        try clear c23b0
        try clear c23b1
        try clear c30
        try clear p30
        try clear q30
        try clear hx30
        try clear c34
        try clear c35
        try clear c35b0
        try clear c37
        try clear c37b0
        try clear c38
        try clear c38b0
        try clear c38b1
        try clear hx305_0
        try clear hx305_1
        try clear hx306_0
        try clear hx306_1
        try clear p2
        try clear p305
        try clear p306
        try clear q305
        try clear q306
        obtain ⟨kq, x73_35, rfl, HA, HJ35, HB⟩ := hcut
        cases kq with
        | zero => exact absurd HA.out (by simp [stowagelaw20_ListingPages.j2])
        | succ kj35 =>
         have H := HA.out
         clear HA
         simp only [stowagelaw20_ListingPages.j2] at H
         by_cases c39 : x73_35 = true
         ·subst c39
          have H1 : (some t297) = some r := by rw [if_pos rfl] at H; exact H
          clear H
          have H := H1
          clear H1
          as_aux_lemma =>
           obtain rfl := Option.some.inj H
           go_wp2
           repeat (go_quiet (fail); try go_wp2)
           go_ret
           exact ⟨by first|rfl|(simp [errW_none, errW_some] <;> rfl)|(simp [*, errW_none, errW_some] <;> rfl), by repeat (first|(with_reducible first|exact HB.out|apply below_alloc|apply pw_below_drewN|apply below_drew1)|exact HB.out)⟩
         ·replace c39 := Bool.eq_false_iff.mpr c39
          subst c39
          have H1 : (stowagelaw20_ListingPages.l1 kj35 l0 a1 a2 a3 t297 x10_2 x11_2 0) = some r := by rw [if_neg (show ¬ (false = true) by decide)] at H; exact H
          clear H
          have H := H1
          clear H1
          have H' := Aside0.mk H
          clear H
          go_wp2
          repeat (go_quiet (fail); try go_wp2)
          go_loopg [12] kj35 (fun kq v12 w' => ∃ (x12_4 : Int), v12 = .int .i64 x12_4 ∧ Aside0 (stowagelaw20_ListingPages.l1 kq l0 a1 a2 a3 t297 x10_2 x11_2 x12_4 = some r) ∧ Aside0 (kq ≤ kj35) ∧ Aside0 (Below w.heap.size w w'))
          case atStart => exact ⟨(0), (by first|rfl|(simp; done)|(simp [*]; done)), H', ⟨Nat.le_refl _⟩, ⟨by repeat (first|(with_reducible first|exact HB.out|apply below_alloc|apply pw_below_drewN|apply below_drew1)|exact HB.out)⟩⟩
          case round =>
           clear H'
           try clear c1
           try clear c2
           try clear p2
           try clear c3
           try clear p3
           try clear q3
           try clear hx3
           try clear c5
           try clear c9
           try clear c11
           try clear c11b0
           try clear c11b1
           try clear c13
           try clear c18
           try clear c18b0
           try clear c18b1
           try clear c23
           try clear c23b0
           try clear c23b1
           try clear c30
           try clear p30
           try clear q30
           try clear hx30
           try clear c34
           try clear c35
           try clear c35b0
           try clear c37
           try clear c37b0
           try clear c38
           try clear c38b0
           try clear c38b1
           try clear c39
           try clear hx305_0
           try clear hx305_1
           try clear hx306_0
           try clear hx306_1
           try clear p2
           try clear p3
           try clear p30
           try clear p305
           try clear p306
           try clear q3
           try clear q30
           try clear q305
           try clear q306
           obtain ⟨x12_4, rfl, HA, HK4, HB⟩ := hrel
           cases gk with
           | zero => exact absurd HA.out (by simp [stowagelaw20_ListingPages.l1])
           | succ k4 =>
            have H := HA.out
            clear HA
            simp only [stowagelaw20_ListingPages.l1] at H
            by_cases c40 : 0 ≤ x11_2
            ·rw [if_pos c40] at H
             have c40b0 : decide (0 ≤ x11_2) = true := decide_eq_true c40
             clear c40
             by_cases c41 : x11_2 < (l0.length : Int)
             ·rw [if_pos c41] at H
              have c41b0 : decide (x11_2 < (l0.length : Int)) = true := decide_eq_true c41
              clear c41
              by_cases c42 : x12_4 < (((rd_T47 l0 x11_2).f1).length : Int)
              ·rw [if_pos c42] at H
               have c42b0 : decide (x12_4 < (((rd_T47 l0 x11_2).f1).length : Int)) = true := decide_eq_true c42
               clear c42
               by_cases c43 : 0 ≤ x12_4
               ·rw [if_pos c43] at H
                have c43b0 : decide (0 ≤ x12_4) = true := decide_eq_true c43
                clear c43
                by_cases c44 : (((rd_T37 ((rd_T47 l0 x11_2).f1) x12_4).f0).size : Int) > 400
                ·rw [if_pos c44] at H
                 have c44b0 : decide (400 < (((rd_T37 ((rd_T47 l0 x11_2).f1) x12_4).f0).size : Int)) = true := decide_eq_true c44
                 have c44b1 : decide (400 < ((rd_T37 ((rd_T47 l0 x11_2).f1) x12_4).f0).size) = true := decide_eq_true (by omega)
                 clear c44
                 as_aux_lemma =>
                  obtain rfl := Option.some.inj H
                  have p307 : 0 ≤ (x11_2 : Int) := of_decide_eq_true (by first|(with_reducible assumption)|assumption)
                  have q307 : x11_2 < (l0.length : Int) := of_decide_eq_true (by first|(with_reducible assumption)|assumption)
                  obtain ⟨ad307, A307_1, c307_1, e307, hx307_0, hx307_1, hl307_1, hi307_1⟩ := at_T47 HR0.out x11_2 p307 q307
                  cases e307
                  replace hx307_0 := (HB.out.cell (World.block_lt_of_cell? w _ hx307_0)).trans hx307_0
                  replace hx307_1 := (HB.out.cell (World.block_lt_of_cell? w _ hx307_1)).trans hx307_1
                  have HR307_1 := Aside0.mk hi307_1
                  have HC307_1 := Aside0.mk hl307_1
                  clear hi307_1 hl307_1
                  replace p307 := eq_true p307
                  replace q307 := eq_true q307
                  have p309 : 0 ≤ (x11_2 : Int) := of_decide_eq_true (by first|(with_reducible assumption)|assumption)
                  have q309 : x11_2 < (l0.length : Int) := of_decide_eq_true (by first|(with_reducible assumption)|assumption)
                  obtain ⟨ad309, A309_1, c309_1, e309, hx309_0, hx309_1, hl309_1, hi309_1⟩ := at_T47 HR0.out x11_2 p309 q309
                  obtain rfl : ad307 = ad309 := (by injection e309)
                  replace hx309_0 := (HB.out.cell (World.block_lt_of_cell? w _ hx309_0)).trans hx309_0
                  replace hx309_1 := (HB.out.cell (World.block_lt_of_cell? w _ hx309_1)).trans hx309_1
                  have HR309_1 := Aside0.mk hi309_1
                  have HC309_1 := Aside0.mk hl309_1
                  clear hi309_1 hl309_1
                  replace p309 := eq_true p309
                  replace q309 := eq_true q309
                  have ea_ := Option.some.inj (hx307_1.symm.trans hx309_1)
                  injection ea_ with ea_ en_ ec_
                  subst ea_
                  subst ec_
                  clear en_
                  have p310 : 0 ≤ (x12_4 : Int) := of_decide_eq_true (by first|(with_reducible assumption)|assumption)
                  have q310 : x12_4 < (((rd_T47 l0 x11_2).f1).length : Int) := of_decide_eq_true (by first|(with_reducible assumption)|assumption)
                  obtain ⟨ad310, e310, hx310_0, hx310_1, hx310_2, hx310_3, hx310_4⟩ := at_T37 HR309_1.out x12_4 p310 q310
                  cases e310
                  replace hx310_0 := (HB.out.cell (World.block_lt_of_cell? w _ hx310_0)).trans hx310_0
                  replace hx310_1 := (HB.out.cell (World.block_lt_of_cell? w _ hx310_1)).trans hx310_1
                  replace hx310_2 := (HB.out.cell (World.block_lt_of_cell? w _ hx310_2)).trans hx310_2
                  replace hx310_3 := (HB.out.cell (World.block_lt_of_cell? w _ hx310_3)).trans hx310_3
                  replace hx310_4 := (HB.out.cell (World.block_lt_of_cell? w _ hx310_4)).trans hx310_4
                  replace p310 := eq_true p310
                  replace q310 := eq_true q310
                  go_wp2
                  repeat (go_quiet (fail); try go_wp2)
                  go_ret
                  exact ⟨by first|rfl|(simp [errW_none, errW_some] <;> rfl)|(simp [*, errW_none, errW_some] <;> rfl), by repeat (first|(with_reducible first|exact HB.out|apply below_alloc|apply pw_below_drewN|apply below_drew1)|exact HB.out)⟩
                ·rw [if_neg c44] at H
                 have c44b0 : decide (400 < (((rd_T37 ((rd_T47 l0 x11_2).f1) x12_4).f0).size : Int)) = false := decide_eq_false c44
                 have c44b1 : decide (400 < ((rd_T37 ((rd_T47 l0 x11_2).f1) x12_4).f0).size) = false := decide_eq_false (by omega)
                 clear c44
                 as_aux_lemma =>
                  have H' := Aside0.mk H
                  clear H
                  have p307 : 0 ≤ (x11_2 : Int) := of_decide_eq_true (by first|(with_reducible assumption)|assumption)
                  have q307 : x11_2 < (l0.length : Int) := of_decide_eq_true (by first|(with_reducible assumption)|assumption)
                  obtain ⟨ad307, A307_1, c307_1, e307, hx307_0, hx307_1, hl307_1, hi307_1⟩ := at_T47 HR0.out x11_2 p307 q307
                  cases e307
                  replace hx307_0 := (HB.out.cell (World.block_lt_of_cell? w _ hx307_0)).trans hx307_0
                  replace hx307_1 := (HB.out.cell (World.block_lt_of_cell? w _ hx307_1)).trans hx307_1
                  have HR307_1 := Aside0.mk hi307_1
                  have HC307_1 := Aside0.mk hl307_1
                  clear hi307_1 hl307_1
                  replace p307 := eq_true p307
                  replace q307 := eq_true q307
                  have p309 : 0 ≤ (x11_2 : Int) := of_decide_eq_true (by first|(with_reducible assumption)|assumption)
                  have q309 : x11_2 < (l0.length : Int) := of_decide_eq_true (by first|(with_reducible assumption)|assumption)
                  obtain ⟨ad309, A309_1, c309_1, e309, hx309_0, hx309_1, hl309_1, hi309_1⟩ := at_T47 HR0.out x11_2 p309 q309
                  obtain rfl : ad307 = ad309 := (by injection e309)
                  replace hx309_0 := (HB.out.cell (World.block_lt_of_cell? w _ hx309_0)).trans hx309_0
                  replace hx309_1 := (HB.out.cell (World.block_lt_of_cell? w _ hx309_1)).trans hx309_1
                  have HR309_1 := Aside0.mk hi309_1
                  have HC309_1 := Aside0.mk hl309_1
                  clear hi309_1 hl309_1
                  replace p309 := eq_true p309
                  replace q309 := eq_true q309
                  have ea_ := Option.some.inj (hx307_1.symm.trans hx309_1)
                  injection ea_ with ea_ en_ ec_
                  subst ea_
                  subst ec_
                  clear en_
                  have p310 : 0 ≤ (x12_4 : Int) := of_decide_eq_true (by first|(with_reducible assumption)|assumption)
                  have q310 : x12_4 < (((rd_T47 l0 x11_2).f1).length : Int) := of_decide_eq_true (by first|(with_reducible assumption)|assumption)
                  obtain ⟨ad310, e310, hx310_0, hx310_1, hx310_2, hx310_3, hx310_4⟩ := at_T37 HR309_1.out x12_4 p310 q310
                  cases e310
                  replace hx310_0 := (HB.out.cell (World.block_lt_of_cell? w _ hx310_0)).trans hx310_0
                  replace hx310_1 := (HB.out.cell (World.block_lt_of_cell? w _ hx310_1)).trans hx310_1
                  replace hx310_2 := (HB.out.cell (World.block_lt_of_cell? w _ hx310_2)).trans hx310_2
                  replace hx310_3 := (HB.out.cell (World.block_lt_of_cell? w _ hx310_3)).trans hx310_3
                  replace hx310_4 := (HB.out.cell (World.block_lt_of_cell? w _ hx310_4)).trans hx310_4
                  replace p310 := eq_true p310
                  replace q310 := eq_true q310
                  go_wp2
                  repeat (go_quiet (fail); try go_wp2)
                  go_roundg k4
                  case measure => have := HJ5.out; have := HK2.out; have := HJ35.out; have := HK4.out; omega
                  case rel => exact ⟨(wrap64 (x12_4 + 1)), (by first|rfl|(simp; done)|(simp [*]; done)), H', ⟨by have := HJ5.out; have := HK2.out; have := HJ35.out; have := HK4.out; omega⟩, ⟨by repeat (first|(with_reducible first|exact HB.out|apply below_alloc|apply pw_below_drewN|apply below_drew1)|exact HB.out)⟩⟩
               ·rw [if_neg c43] at H
                exact absurd H (by simp)
              ·rw [if_neg c42] at H
               have c42b0 : decide (x12_4 < (((rd_T47 l0 x11_2).f1).length : Int)) = false := decide_eq_false c42
               clear c42
               as_aux_lemma =>
                have H' := Aside0.mk H
                clear H
                have p307 : 0 ≤ (x11_2 : Int) := of_decide_eq_true (by first|(with_reducible assumption)|assumption)
                have q307 : x11_2 < (l0.length : Int) := of_decide_eq_true (by first|(with_reducible assumption)|assumption)
                obtain ⟨ad307, A307_1, c307_1, e307, hx307_0, hx307_1, hl307_1, hi307_1⟩ := at_T47 HR0.out x11_2 p307 q307
                cases e307
                replace hx307_0 := (HB.out.cell (World.block_lt_of_cell? w _ hx307_0)).trans hx307_0
                replace hx307_1 := (HB.out.cell (World.block_lt_of_cell? w _ hx307_1)).trans hx307_1
                have HR307_1 := Aside0.mk hi307_1
                have HC307_1 := Aside0.mk hl307_1
                clear hi307_1 hl307_1
                replace p307 := eq_true p307
                replace q307 := eq_true q307
                have p308 : 0 ≤ (x11_2 : Int) := of_decide_eq_true (by first|(with_reducible assumption)|assumption)
                have q308 : x11_2 < (l0.length : Int) := of_decide_eq_true (by first|(with_reducible assumption)|assumption)
                obtain ⟨ad308, A308_1, c308_1, e308, hx308_0, hx308_1, hl308_1, hi308_1⟩ := at_T47 HR0.out x11_2 p308 q308
                obtain rfl : ad307 = ad308 := (by injection e308)
                replace hx308_0 := (HB.out.cell (World.block_lt_of_cell? w _ hx308_0)).trans hx308_0
                replace hx308_1 := (HB.out.cell (World.block_lt_of_cell? w _ hx308_1)).trans hx308_1
                have HR308_1 := Aside0.mk hi308_1
                have HC308_1 := Aside0.mk hl308_1
                clear hi308_1 hl308_1
                replace p308 := eq_true p308
                replace q308 := eq_true q308
                have ea_ := Option.some.inj (hx307_1.symm.trans hx308_1)
                injection ea_ with ea_ en_ ec_
                subst ea_
                subst ec_
                clear en_
                go_wp2
                repeat (go_quiet (fail); try go_wp2)
                go_roundg k4
                case measure => have := HJ5.out; have := HK2.out; have := HJ35.out; have := HK4.out; omega
                case rel => exact ⟨(wrap64 (x10_2 + (((rd_T47 l0 x11_2).f1).length : Int))), (wrap64 (x11_2 + 1)), (by first|rfl|(simp; done)|(simp [*]; done)), (by first|rfl|(simp; done)|(simp [*]; done)), H', ⟨by have := HJ5.out; have := HK2.out; have := HJ35.out; have := HK4.out; omega⟩, ⟨by repeat (first|(with_reducible first|exact HB.out|apply below_alloc|apply pw_below_drewN|apply below_drew1)|exact HB.out)⟩⟩
             ·rw [if_neg c41] at H
              exact absurd H (by simp)
            ·rw [if_neg c40] at H
             exact absurd H (by simp)
      ·rw [if_neg c35] at H
       have c35b0 : decide (x11_2 < (l0.length : Int)) = false := decide_eq_false c35
       clear c35
       replace H := Option.bind_eq_some_iff.mp H
       obtain ⟨t311, A450, H⟩ := H
       replace H : (stowagelaw20_ListingPages.l2 k2 l0 a1 a2 (wrap64 (1 + t311)) t297 x10_2 0) = some r := H
       have A45 := Aside0.mk A450
       clear A450
       have H' := Aside0.mk H
       clear H
       go_wp2_with (first|(go_at_call 25; (with_reducible refine (stowagekit_Pick.calls a3 1000 t311 _ A45.out).mono ?_); rintro e w' ⟨rfl, ⟨nd, rfl⟩⟩; (try first|exact ⟨rfl, _, World.drewN_drewN _ _ _⟩|exact ⟨rfl, _, Eq.trans (World.drewN_drewN _ _ _) (congrArg (World.drewN _) (Nat.add_assoc _ _ _))⟩)))
       repeat (go_quiet (first|(go_at_call 25; (with_reducible refine (stowagekit_Pick.calls a3 1000 t311 _ A45.out).mono ?_); rintro e w' ⟨rfl, ⟨nd, rfl⟩⟩; (try first|exact ⟨rfl, _, World.drewN_drewN _ _ _⟩|exact ⟨rfl, _, Eq.trans (World.drewN_drewN _ _ _) (congrArg (World.drewN _) (Nat.add_assoc _ _ _))⟩))); try go_wp2_with (first|(go_at_call 25; (with_reducible refine (stowagekit_Pick.calls a3 1000 t311 _ A45.out).mono ?_); rintro e w' ⟨rfl, ⟨nd, rfl⟩⟩; (try first|exact ⟨rfl, _, World.drewN_drewN _ _ _⟩|exact ⟨rfl, _, Eq.trans (World.drewN_drewN _ _ _) (congrArg (World.drewN _) (Nat.add_assoc _ _ _))⟩))))
       go_loopg [13] k2 (fun kq v13 w' => ∃ (x13_3 : Int), v13 = .int .i64 x13_3 ∧ Aside0 (stowagelaw20_ListingPages.l2 kq l0 a1 a2 (wrap64 (1 + t311)) t297 x10_2 x13_3 = some r) ∧ Aside0 (kq ≤ k2) ∧ Aside0 (Below w.heap.size w w'))
       case atStart => exact ⟨(0), (by first|rfl|(simp; done)|(simp [*]; done)), H', ⟨Nat.le_refl _⟩, ⟨by repeat (first|(with_reducible first|exact HB.out|apply below_alloc|apply pw_below_drewN|apply below_drew1)|exact HB.out)⟩⟩
       case round =>
        clear H'
        try clear c1
        try clear c2
        try clear p2
        try clear c3
        try clear p3
        try clear q3
        try clear hx3
        try clear c4
        try clear c5
        try clear p6
        try clear c9
        try clear c11
        try clear c11b0
        try clear c11b1
        try clear c13
        try clear c18
        try clear c18b0
        try clear c18b1
        try clear c23
        try clear c23b0
        try clear c23b1
        try clear c30
        try clear p30
        try clear q30
        try clear hx30
        try clear p31
        try clear q31
        try clear hx31
        try clear c34
        try clear c35
        try clear c35b0
        try clear c37
        try clear c37b0
        try clear c38
        try clear c38b0
        try clear c38b1
        try clear c39
        try clear c40
        try clear c40b0
        try clear c41
        try clear c41b0
        try clear c42
        try clear c42b0
        try clear c43
        try clear c43b0
        try clear c44
        try clear c44b0
        try clear c44b1
        try clear hx305_0
        try clear hx305_1
        try clear hx306_0
        try clear hx306_1
        try clear hx307_0
        try clear hx307_1
        try clear hx308_0
        try clear hx308_1
        try clear hx309_0
        try clear hx309_1
        try clear hx310_0
        try clear hx310_1
        try clear hx310_2
        try clear hx310_3
        try clear hx310_4
        try clear p2
        try clear p3
        try clear p30
        try clear p305
        try clear p306
        try clear p307
        try clear p308
        try clear p309
        try clear p310
        try clear q3
        try clear q30
        try clear q305
        try clear q306
        try clear q307
        try clear q308
        try clear q309
        try clear q310
        obtain ⟨x13_3, rfl, HA, HK3, HB⟩ := hrel
        cases gk with
        | zero => exact absurd HA.out (by simp [stowagelaw20_ListingPages.l2])
        | succ k3 =>
         have H := HA.out
         clear HA
         simp only [stowagelaw20_ListingPages.l2] at H
         by_cases c46 : x13_3 < 2
         ·rw [if_pos c46] at H
          have c46b0 : decide (x13_3 < 2) = true := decide_eq_true c46
          clear c46
          replace H := Option.bind_eq_some_iff.mp H
          obtain ⟨⟨t312, t315, t316, t317, t318⟩, A470, H⟩ := H
          replace H : (if x13_3 = 1 then ((listing_Versions.f l0 a1 a2 (⟨#[]⟩ : ByteArray) (⟨#[]⟩ : ByteArray) 1000).bind fun bt320 => (stowagelaw20_ListingPages.j5 k3 l0 a1 a2 (wrap64 (1 + t311)) t297 x10_2 x13_3 bt320.2.2.2.2 bt320.1 bt320.2.1 bt320.2.2.1 bt320.2.2.2.1)) else (stowagelaw20_ListingPages.j5 k3 l0 a1 a2 (wrap64 (1 + t311)) t297 x10_2 x13_3 t318 t312 t315 t316 t317)) = some r := H
          have A47 := Aside0.mk A470
          clear A470
          have HC48 := Aside0.mk H
          clear H
          go_upto_if 120 with (first|(go_at_call 12; (with_reducible refine (listing_Keys.calls _ _ l0 a1 a2 (⟨#[]⟩ : ByteArray) 1000 t312 t315 t316 t317 t318 _ ?side1 ?side2 ?side3 A47.out).mono ?_); (case side1 => first|exact HG.out|exact GM.below (by repeat (first|(with_reducible first|exact HB.out|apply below_alloc|apply pw_below_drewN|apply below_drew1)|exact HB.out)) HG.out|(repeat (first|exact HG.out|apply GM.drewN|apply GM.drew))); (case side2 => repeat (first|exact (Kd.C_below HR0.out HB.out)|(with_reducible refine Kd.C_alloc ?_ _)|(with_reducible refine Kd.C_drewN ?_ _)|(with_reducible refine Kd.C_drew ?_))); (case side3 => exact HC0.out); rintro e w49 ⟨v313, rfl, ho0, hb⟩; have n0_ := Aside0.mk (Kd.R_lower ho0 (below_size (by repeat (first|(with_reducible first|exact HB.out|apply below_alloc|apply pw_below_drewN|apply below_drew1)|exact HB.out)))); have n1_ := Aside0.mk (below_step (by repeat (first|(with_reducible first|exact HB.out|apply below_alloc|apply pw_below_drewN|apply below_drew1)|exact HB.out)) hb); clear HB; have HO314 := n0_; have HB := n1_; clear n0_ n1_; (try clear hb); (try clear hb2); (try clear hk); (try clear hi); (try clear ho0))|((with_reducible refine gate_dst (N := 14) rfl ?_); (try (refine gate_guard (by rfl) ?_; dsimp only)); refine box_event ?hg (N := 14) ?hd (cs := #[.slice none 0 0, .bool false, .string (⟨#[]⟩ : ByteArray), .string (⟨#[]⟩ : ByteArray)]) (t := 28) ?hr ?_; (case hd => rfl); (case hg => rfl); (case hr => first|(go_simp; done)|(go_simp; rfl)); intro gb319 hg w50 hbox hb; have n0_ := Aside0.mk (Kd.R_below (by (with_reducible repeat (first|apply Kd.R_alloc|apply Kd.R_drewN|apply Kd.R_drew)); exact HO314.out) hb); have n1_ := Aside0.mk (below_step (by repeat (first|(with_reducible first|exact HB.out|apply below_alloc|apply pw_below_drewN|apply below_drew1)|exact HB.out)) hb); have n2_ := Aside0.mk (hbox); have n3_ := Aside0.mk ((by rw [hg]; exact (below_size (by repeat (first|(with_reducible first|exact HB.out|apply below_alloc|apply pw_below_drewN|apply below_drew1)|exact HB.out))) : w.heap.size ≤ gb319)); have n4_ := Aside0.mk ((by rw [hg]; exact (below_size (by repeat (first|(with_reducible first|exact HB.out|apply below_alloc|apply pw_below_drewN|apply below_drew1)|exact HB.out))) : w.heap.size ≤ gb319)); clear HO314; clear HB; have HO314 := n0_; have HB := n1_; have BK319 := n2_; have GW319 := n3_; have GE319 := n4_; clear n0_ n1_ n2_ n3_ n4_; clear hb hbox hg; obtain ⟨Ao51, co51, eo51⟩ := Kd.R_slice HO314.out; subst eo51; have hcz52_0 : w50.cell? ⟨gb319, 0, none⟩ = some (.slice none 0 0) := (blk_cell BK319.out 0).trans rfl; have hcz52_1 : w50.cell? ⟨gb319, 1, none⟩ = some (.bool false) := (blk_cell BK319.out 1).trans rfl; have hcz52_2 : w50.cell? ⟨gb319, 2, none⟩ = some (.string (⟨#[]⟩ : ByteArray)) := (blk_cell BK319.out 2).trans rfl; have hcz52_3 : w50.cell? ⟨gb319, 3, none⟩ = some (.string (⟨#[]⟩ : ByteArray)) := (blk_cell BK319.out 3).trans rfl; have hfz52_0 := blk_frozen BK319.out 0; have hfz52_1 := blk_frozen BK319.out 1; have hfz52_2 := blk_frozen BK319.out 2; have hfz52_3 := blk_frozen BK319.out 3))
          repeat (go_quiet (first|(go_at_call 12; (with_reducible refine (listing_Keys.calls _ _ l0 a1 a2 (⟨#[]⟩ : ByteArray) 1000 t312 t315 t316 t317 t318 _ ?side1 ?side2 ?side3 A47.out).mono ?_); (case side1 => first|exact HG.out|exact GM.below (by repeat (first|(with_reducible first|exact HB.out|apply below_alloc|apply pw_below_drewN|apply below_drew1)|exact HB.out)) HG.out|(repeat (first|exact HG.out|apply GM.drewN|apply GM.drew))); (case side2 => repeat (first|exact (Kd.C_below HR0.out HB.out)|(with_reducible refine Kd.C_alloc ?_ _)|(with_reducible refine Kd.C_drewN ?_ _)|(with_reducible refine Kd.C_drew ?_))); (case side3 => exact HC0.out); rintro e w49 ⟨v313, rfl, ho0, hb⟩; have n0_ := Aside0.mk (Kd.R_lower ho0 (below_size (by repeat (first|(with_reducible first|exact HB.out|apply below_alloc|apply pw_below_drewN|apply below_drew1)|exact HB.out)))); have n1_ := Aside0.mk (below_step (by repeat (first|(with_reducible first|exact HB.out|apply below_alloc|apply pw_below_drewN|apply below_drew1)|exact HB.out)) hb); clear HB; have HO314 := n0_; have HB := n1_; clear n0_ n1_; (try clear hb); (try clear hb2); (try clear hk); (try clear hi); (try clear ho0))|((with_reducible refine gate_dst (N := 14) rfl ?_); (try (refine gate_guard (by rfl) ?_; dsimp only)); refine box_event ?hg (N := 14) ?hd (cs := #[.slice none 0 0, .bool false, .string (⟨#[]⟩ : ByteArray), .string (⟨#[]⟩ : ByteArray)]) (t := 28) ?hr ?_; (case hd => rfl); (case hg => rfl); (case hr => first|(go_simp; done)|(go_simp; rfl)); intro gb319 hg w50 hbox hb; have n0_ := Aside0.mk (Kd.R_below (by (with_reducible repeat (first|apply Kd.R_alloc|apply Kd.R_drewN|apply Kd.R_drew)); exact HO314.out) hb); have n1_ := Aside0.mk (below_step (by repeat (first|(with_reducible first|exact HB.out|apply below_alloc|apply pw_below_drewN|apply below_drew1)|exact HB.out)) hb); have n2_ := Aside0.mk (hbox); have n3_ := Aside0.mk ((by rw [hg]; exact (below_size (by repeat (first|(with_reducible first|exact HB.out|apply below_alloc|apply pw_below_drewN|apply below_drew1)|exact HB.out))) : w.heap.size ≤ gb319)); have n4_ := Aside0.mk ((by rw [hg]; exact (below_size (by repeat (first|(with_reducible first|exact HB.out|apply below_alloc|apply pw_below_drewN|apply below_drew1)|exact HB.out))) : w.heap.size ≤ gb319)); clear HO314; clear HB; have HO314 := n0_; have HB := n1_; have BK319 := n2_; have GW319 := n3_; have GE319 := n4_; clear n0_ n1_ n2_ n3_ n4_; clear hb hbox hg; obtain ⟨Ao51, co51, eo51⟩ := Kd.R_slice HO314.out; subst eo51; have hcz52_0 : w50.cell? ⟨gb319, 0, none⟩ = some (.slice none 0 0) := (blk_cell BK319.out 0).trans rfl; have hcz52_1 : w50.cell? ⟨gb319, 1, none⟩ = some (.bool false) := (blk_cell BK319.out 1).trans rfl; have hcz52_2 : w50.cell? ⟨gb319, 2, none⟩ = some (.string (⟨#[]⟩ : ByteArray)) := (blk_cell BK319.out 2).trans rfl; have hcz52_3 : w50.cell? ⟨gb319, 3, none⟩ = some (.string (⟨#[]⟩ : ByteArray)) := (blk_cell BK319.out 3).trans rfl; have hfz52_0 := blk_frozen BK319.out 0; have hfz52_1 := blk_frozen BK319.out 1; have hfz52_2 := blk_frozen BK319.out 2; have hfz52_3 := blk_frozen BK319.out 3)); go_upto_if 120 with (first|(go_at_call 12; (with_reducible refine (listing_Keys.calls _ _ l0 a1 a2 (⟨#[]⟩ : ByteArray) 1000 t312 t315 t316 t317 t318 _ ?side1 ?side2 ?side3 A47.out).mono ?_); (case side1 => first|exact HG.out|exact GM.below (by repeat (first|(with_reducible first|exact HB.out|apply below_alloc|apply pw_below_drewN|apply below_drew1)|exact HB.out)) HG.out|(repeat (first|exact HG.out|apply GM.drewN|apply GM.drew))); (case side2 => repeat (first|exact (Kd.C_below HR0.out HB.out)|(with_reducible refine Kd.C_alloc ?_ _)|(with_reducible refine Kd.C_drewN ?_ _)|(with_reducible refine Kd.C_drew ?_))); (case side3 => exact HC0.out); rintro e w49 ⟨v313, rfl, ho0, hb⟩; have n0_ := Aside0.mk (Kd.R_lower ho0 (below_size (by repeat (first|(with_reducible first|exact HB.out|apply below_alloc|apply pw_below_drewN|apply below_drew1)|exact HB.out)))); have n1_ := Aside0.mk (below_step (by repeat (first|(with_reducible first|exact HB.out|apply below_alloc|apply pw_below_drewN|apply below_drew1)|exact HB.out)) hb); clear HB; have HO314 := n0_; have HB := n1_; clear n0_ n1_; (try clear hb); (try clear hb2); (try clear hk); (try clear hi); (try clear ho0))|((with_reducible refine gate_dst (N := 14) rfl ?_); (try (refine gate_guard (by rfl) ?_; dsimp only)); refine box_event ?hg (N := 14) ?hd (cs := #[.slice none 0 0, .bool false, .string (⟨#[]⟩ : ByteArray), .string (⟨#[]⟩ : ByteArray)]) (t := 28) ?hr ?_; (case hd => rfl); (case hg => rfl); (case hr => first|(go_simp; done)|(go_simp; rfl)); intro gb319 hg w50 hbox hb; have n0_ := Aside0.mk (Kd.R_below (by (with_reducible repeat (first|apply Kd.R_alloc|apply Kd.R_drewN|apply Kd.R_drew)); exact HO314.out) hb); have n1_ := Aside0.mk (below_step (by repeat (first|(with_reducible first|exact HB.out|apply below_alloc|apply pw_below_drewN|apply below_drew1)|exact HB.out)) hb); have n2_ := Aside0.mk (hbox); have n3_ := Aside0.mk ((by rw [hg]; exact (below_size (by repeat (first|(with_reducible first|exact HB.out|apply below_alloc|apply pw_below_drewN|apply below_drew1)|exact HB.out))) : w.heap.size ≤ gb319)); have n4_ := Aside0.mk ((by rw [hg]; exact (below_size (by repeat (first|(with_reducible first|exact HB.out|apply below_alloc|apply pw_below_drewN|apply below_drew1)|exact HB.out))) : w.heap.size ≤ gb319)); clear HO314; clear HB; have HO314 := n0_; have HB := n1_; have BK319 := n2_; have GW319 := n3_; have GE319 := n4_; clear n0_ n1_ n2_ n3_ n4_; clear hb hbox hg; obtain ⟨Ao51, co51, eo51⟩ := Kd.R_slice HO314.out; subst eo51; have hcz52_0 : w50.cell? ⟨gb319, 0, none⟩ = some (.slice none 0 0) := (blk_cell BK319.out 0).trans rfl; have hcz52_1 : w50.cell? ⟨gb319, 1, none⟩ = some (.bool false) := (blk_cell BK319.out 1).trans rfl; have hcz52_2 : w50.cell? ⟨gb319, 2, none⟩ = some (.string (⟨#[]⟩ : ByteArray)) := (blk_cell BK319.out 2).trans rfl; have hcz52_3 : w50.cell? ⟨gb319, 3, none⟩ = some (.string (⟨#[]⟩ : ByteArray)) := (blk_cell BK319.out 3).trans rfl; have hfz52_0 := blk_frozen BK319.out 0; have hfz52_1 := blk_frozen BK319.out 1; have hfz52_2 := blk_frozen BK319.out 2; have hfz52_3 := blk_frozen BK319.out 3)))
          (try simp only [Act.put, List.setIfInBounds_toArray, List.set_cons_zero, List.set_cons_succ])
          go_cut [15] (fun v15 wc => ∃ (kq : Nat) (x15_47 : Int) (x320000_47 : List (S39)) (x320001_47 : Bool) (x320002_47 : ByteArray) (x320003_47 : ByteArray) (u320000 : Value), v15 = .int .i64 x15_47 ∧ Aside0 (stowagelaw20_ListingPages.j5 kq l0 a1 a2 (wrap64 (1 + t311)) t297 x10_2 x13_3 x15_47 x320000_47 x320001_47 x320002_47 x320003_47 = some r) ∧ Aside0 (kq ≤ k3) ∧ Aside0 (Kd.R k39 39 wc w.heap.size (fun _ => True) u320000 x320000_47) ∧ Aside0 (wc.heap[gb319]? = some (.cells #[u320000, .bool x320001_47, .string x320002_47, .string x320003_47] 28 (0, 0))) ∧ Aside0 (Below w.heap.size w wc))
          case first =>
           have H := HC48.out
           clear HC48
           by_cases c53 : x13_3 = 1
           ·rw [if_pos c53] at H
            have c53b0 : (x13_3 == 1) = true := beq_iff_eq.mpr c53
            have c53b1 : (x13_3 != 1) = false := bne_eq_false_iff_eq.mpr c53
            clear c53
            (first|rw [c53b0]|(simp only [i64_w, i32_w]; rw [c53b0])|skip)
            replace H := Option.bind_eq_some_iff.mp H
            obtain ⟨⟨t320, t323, t324, t325, t326⟩, A540, H⟩ := H
            replace H : (stowagelaw20_ListingPages.j5 k3 l0 a1 a2 (wrap64 (1 + t311)) t297 x10_2 x13_3 t326 t320 t323 t324 t325) = some r := H
            have A54 := Aside0.mk A540
            clear A540
            as_aux_lemma =>
             have H' := Aside0.mk H
             clear H
             go_wp2_with (first|(go_at_call 14; (with_reducible refine (listing_Versions.calls _ _ l0 a1 a2 (⟨#[]⟩ : ByteArray) (⟨#[]⟩ : ByteArray) 1000 t320 t323 t324 t325 t326 _ ?side1 ?side2 ?side3 A54.out).mono ?_); (case side1 => first|exact HG.out|exact GM.below (by repeat (first|(with_reducible first|exact HB.out|apply below_alloc|apply pw_below_drewN|apply below_drew1|refine below_set ?_ GE319.out)|exact HB.out)) HG.out|(repeat (first|exact HG.out|apply GM.drewN|apply GM.drew))); (case side2 => exact Kd.C_below HR0.out (by repeat (first|(with_reducible first|exact HB.out|apply below_alloc|apply pw_below_drewN|apply below_drew1|refine below_set ?_ GE319.out)|exact HB.out))); (case side3 => exact HC0.out); rintro e w55 ⟨v321, rfl, ho0, hb⟩; have n0_ := Aside0.mk (Kd.R_elder' (by (with_reducible repeat (first|apply Kd.R_alloc|apply Kd.R_drewN|apply Kd.R_drew)); exact (Kd.R_mono (Kd.R_far (p := ⟨gb319, 3, none⟩) (Kd.R_far (p := ⟨gb319, 2, none⟩) (Kd.R_far (p := ⟨gb319, 1, none⟩) (Kd.R_far (p := ⟨gb319, 0, none⟩) (Kd.R_types HO314.out BK319.out (by decide)) (fun _ hk => hk.2) (.slice Ao51 t312.length co51)) (fun _ hk => hk.2) (.bool t315)) (fun _ hk => hk.2) (.string t316)) (fun _ hk => hk.2) (.string t317)) (fun _ h_ => h_.1))) (Kd.R_base ho0) hb); have n1_ := Aside0.mk (Kd.R_lower (Kd.R_new' ho0 (Kd.R_lt (by (with_reducible repeat (first|apply Kd.R_alloc|apply Kd.R_drewN|apply Kd.R_drew)); exact (Kd.R_mono (Kd.R_far (p := ⟨gb319, 3, none⟩) (Kd.R_far (p := ⟨gb319, 2, none⟩) (Kd.R_far (p := ⟨gb319, 1, none⟩) (Kd.R_far (p := ⟨gb319, 0, none⟩) (Kd.R_types HO314.out BK319.out (by decide)) (fun _ hk => hk.2) (.slice Ao51 t312.length co51)) (fun _ hk => hk.2) (.bool t315)) (fun _ hk => hk.2) (.string t316)) (fun _ hk => hk.2) (.string t317)) (fun _ h_ => h_.1))))) (below_size (by repeat (first|(with_reducible first|exact HB.out|apply below_alloc|apply pw_below_drewN|apply below_drew1|refine below_set ?_ GE319.out)|exact HB.out)))); have n2_ := Aside0.mk (blk_below (g := gb319) (o := .cells #[.slice Ao51 t312.length co51, .bool t315, .string t316, .string t317] 28 (0, 0)) (by (with_reducible repeat (first|refine blk_drewN ?_ _|refine blk_drew ?_|refine blk_alloc ?_ _)); refine blk_put (cs := #[.slice Ao51 t312.length co51, .bool t315, .string t316, .string (⟨#[]⟩ : ByteArray)]) ?_ 3 _ rfl; (with_reducible repeat (first|refine blk_drewN ?_ _|refine blk_drew ?_|refine blk_alloc ?_ _)); refine blk_put (cs := #[.slice Ao51 t312.length co51, .bool t315, .string (⟨#[]⟩ : ByteArray), .string (⟨#[]⟩ : ByteArray)]) ?_ 2 _ rfl; (with_reducible repeat (first|refine blk_drewN ?_ _|refine blk_drew ?_|refine blk_alloc ?_ _)); refine blk_put (cs := #[.slice Ao51 t312.length co51, .bool false, .string (⟨#[]⟩ : ByteArray), .string (⟨#[]⟩ : ByteArray)]) ?_ 1 _ rfl; (with_reducible repeat (first|refine blk_drewN ?_ _|refine blk_drew ?_|refine blk_alloc ?_ _)); refine blk_put (cs := #[.slice none 0 0, .bool false, .string (⟨#[]⟩ : ByteArray), .string (⟨#[]⟩ : ByteArray)]) ?_ 0 _ rfl; (with_reducible repeat (first|refine blk_drewN ?_ _|refine blk_drew ?_|refine blk_alloc ?_ _)); exact BK319.out) hb); have n3_ := Aside0.mk (below_step (by repeat (first|(with_reducible first|exact HB.out|apply below_alloc|apply pw_below_drewN|apply below_drew1|refine below_set ?_ GE319.out)|exact HB.out)) hb); clear HO314; clear BK319; clear HB; have HO314 := n0_; have HO322 := n1_; have BK319 := n2_; have HB := n3_; clear n0_ n1_ n2_ n3_; (try clear hb); (try clear hb2); (try clear hk); (try clear hi); (try clear ho0); obtain ⟨Ao56, co56, eo56⟩ := Kd.R_slice HO322.out; subst eo56; have hcz57_0 : w55.cell? ⟨gb319, 0, none⟩ = some (.slice Ao51 t312.length co51) := (blk_cell BK319.out 0).trans rfl; have hcz57_1 : w55.cell? ⟨gb319, 1, none⟩ = some (.bool t315) := (blk_cell BK319.out 1).trans rfl; have hcz57_2 : w55.cell? ⟨gb319, 2, none⟩ = some (.string t316) := (blk_cell BK319.out 2).trans rfl; have hcz57_3 : w55.cell? ⟨gb319, 3, none⟩ = some (.string t317) := (blk_cell BK319.out 3).trans rfl; have hfz57_0 := blk_frozen BK319.out 0; have hfz57_1 := blk_frozen BK319.out 1; have hfz57_2 := blk_frozen BK319.out 2; have hfz57_3 := blk_frozen BK319.out 3))
             repeat (go_quiet (first|(go_at_call 14; (with_reducible refine (listing_Versions.calls _ _ l0 a1 a2 (⟨#[]⟩ : ByteArray) (⟨#[]⟩ : ByteArray) 1000 t320 t323 t324 t325 t326 _ ?side1 ?side2 ?side3 A54.out).mono ?_); (case side1 => first|exact HG.out|exact GM.below (by repeat (first|(with_reducible first|exact HB.out|apply below_alloc|apply pw_below_drewN|apply below_drew1|refine below_set ?_ GE319.out)|exact HB.out)) HG.out|(repeat (first|exact HG.out|apply GM.drewN|apply GM.drew))); (case side2 => exact Kd.C_below HR0.out (by repeat (first|(with_reducible first|exact HB.out|apply below_alloc|apply pw_below_drewN|apply below_drew1|refine below_set ?_ GE319.out)|exact HB.out))); (case side3 => exact HC0.out); rintro e w55 ⟨v321, rfl, ho0, hb⟩; have n0_ := Aside0.mk (Kd.R_elder' (by (with_reducible repeat (first|apply Kd.R_alloc|apply Kd.R_drewN|apply Kd.R_drew)); exact (Kd.R_mono (Kd.R_far (p := ⟨gb319, 3, none⟩) (Kd.R_far (p := ⟨gb319, 2, none⟩) (Kd.R_far (p := ⟨gb319, 1, none⟩) (Kd.R_far (p := ⟨gb319, 0, none⟩) (Kd.R_types HO314.out BK319.out (by decide)) (fun _ hk => hk.2) (.slice Ao51 t312.length co51)) (fun _ hk => hk.2) (.bool t315)) (fun _ hk => hk.2) (.string t316)) (fun _ hk => hk.2) (.string t317)) (fun _ h_ => h_.1))) (Kd.R_base ho0) hb); have n1_ := Aside0.mk (Kd.R_lower (Kd.R_new' ho0 (Kd.R_lt (by (with_reducible repeat (first|apply Kd.R_alloc|apply Kd.R_drewN|apply Kd.R_drew)); exact (Kd.R_mono (Kd.R_far (p := ⟨gb319, 3, none⟩) (Kd.R_far (p := ⟨gb319, 2, none⟩) (Kd.R_far (p := ⟨gb319, 1, none⟩) (Kd.R_far (p := ⟨gb319, 0, none⟩) (Kd.R_types HO314.out BK319.out (by decide)) (fun _ hk => hk.2) (.slice Ao51 t312.length co51)) (fun _ hk => hk.2) (.bool t315)) (fun _ hk => hk.2) (.string t316)) (fun _ hk => hk.2) (.string t317)) (fun _ h_ => h_.1))))) (below_size (by repeat (first|(with_reducible first|exact HB.out|apply below_alloc|apply pw_below_drewN|apply below_drew1|refine below_set ?_ GE319.out)|exact HB.out)))); have n2_ := Aside0.mk (blk_below (g := gb319) (o := .cells #[.slice Ao51 t312.length co51, .bool t315, .string t316, .string t317] 28 (0, 0)) (by (with_reducible repeat (first|refine blk_drewN ?_ _|refine blk_drew ?_|refine blk_alloc ?_ _)); refine blk_put (cs := #[.slice Ao51 t312.length co51, .bool t315, .string t316, .string (⟨#[]⟩ : ByteArray)]) ?_ 3 _ rfl; (with_reducible repeat (first|refine blk_drewN ?_ _|refine blk_drew ?_|refine blk_alloc ?_ _)); refine blk_put (cs := #[.slice Ao51 t312.length co51, .bool t315, .string (⟨#[]⟩ : ByteArray), .string (⟨#[]⟩ : ByteArray)]) ?_ 2 _ rfl; (with_reducible repeat (first|refine blk_drewN ?_ _|refine blk_drew ?_|refine blk_alloc ?_ _)); refine blk_put (cs := #[.slice Ao51 t312.length co51, .bool false, .string (⟨#[]⟩ : ByteArray), .string (⟨#[]⟩ : ByteArray)]) ?_ 1 _ rfl; (with_reducible repeat (first|refine blk_drewN ?_ _|refine blk_drew ?_|refine blk_alloc ?_ _)); refine blk_put (cs := #[.slice none 0 0, .bool false, .string (⟨#[]⟩ : ByteArray), .string (⟨#[]⟩ : ByteArray)]) ?_ 0 _ rfl; (with_reducible repeat (first|refine blk_drewN ?_ _|refine blk_drew ?_|refine blk_alloc ?_ _)); exact BK319.out) hb); have n3_ := Aside0.mk (below_step (by repeat (first|(with_reducible first|exact HB.out|apply below_alloc|apply pw_below_drewN|apply below_drew1|refine below_set ?_ GE319.out)|exact HB.out)) hb); clear HO314; clear BK319; clear HB; have HO314 := n0_; have HO322 := n1_; have BK319 := n2_; have HB := n3_; clear n0_ n1_ n2_ n3_; (try clear hb); (try clear hb2); (try clear hk); (try clear hi); (try clear ho0); obtain ⟨Ao56, co56, eo56⟩ := Kd.R_slice HO322.out; subst eo56; have hcz57_0 : w55.cell? ⟨gb319, 0, none⟩ = some (.slice Ao51 t312.length co51) := (blk_cell BK319.out 0).trans rfl; have hcz57_1 : w55.cell? ⟨gb319, 1, none⟩ = some (.bool t315) := (blk_cell BK319.out 1).trans rfl; have hcz57_2 : w55.cell? ⟨gb319, 2, none⟩ = some (.string t316) := (blk_cell BK319.out 2).trans rfl; have hcz57_3 : w55.cell? ⟨gb319, 3, none⟩ = some (.string t317) := (blk_cell BK319.out 3).trans rfl; have hfz57_0 := blk_frozen BK319.out 0; have hfz57_1 := blk_frozen BK319.out 1; have hfz57_2 := blk_frozen BK319.out 2; have hfz57_3 := blk_frozen BK319.out 3)); try go_wp2_with (first|(go_at_call 14; (with_reducible refine (listing_Versions.calls _ _ l0 a1 a2 (⟨#[]⟩ : ByteArray) (⟨#[]⟩ : ByteArray) 1000 t320 t323 t324 t325 t326 _ ?side1 ?side2 ?side3 A54.out).mono ?_); (case side1 => first|exact HG.out|exact GM.below (by repeat (first|(with_reducible first|exact HB.out|apply below_alloc|apply pw_below_drewN|apply below_drew1|refine below_set ?_ GE319.out)|exact HB.out)) HG.out|(repeat (first|exact HG.out|apply GM.drewN|apply GM.drew))); (case side2 => exact Kd.C_below HR0.out (by repeat (first|(with_reducible first|exact HB.out|apply below_alloc|apply pw_below_drewN|apply below_drew1|refine below_set ?_ GE319.out)|exact HB.out))); (case side3 => exact HC0.out); rintro e w55 ⟨v321, rfl, ho0, hb⟩; have n0_ := Aside0.mk (Kd.R_elder' (by (with_reducible repeat (first|apply Kd.R_alloc|apply Kd.R_drewN|apply Kd.R_drew)); exact (Kd.R_mono (Kd.R_far (p := ⟨gb319, 3, none⟩) (Kd.R_far (p := ⟨gb319, 2, none⟩) (Kd.R_far (p := ⟨gb319, 1, none⟩) (Kd.R_far (p := ⟨gb319, 0, none⟩) (Kd.R_types HO314.out BK319.out (by decide)) (fun _ hk => hk.2) (.slice Ao51 t312.length co51)) (fun _ hk => hk.2) (.bool t315)) (fun _ hk => hk.2) (.string t316)) (fun _ hk => hk.2) (.string t317)) (fun _ h_ => h_.1))) (Kd.R_base ho0) hb); have n1_ := Aside0.mk (Kd.R_lower (Kd.R_new' ho0 (Kd.R_lt (by (with_reducible repeat (first|apply Kd.R_alloc|apply Kd.R_drewN|apply Kd.R_drew)); exact (Kd.R_mono (Kd.R_far (p := ⟨gb319, 3, none⟩) (Kd.R_far (p := ⟨gb319, 2, none⟩) (Kd.R_far (p := ⟨gb319, 1, none⟩) (Kd.R_far (p := ⟨gb319, 0, none⟩) (Kd.R_types HO314.out BK319.out (by decide)) (fun _ hk => hk.2) (.slice Ao51 t312.length co51)) (fun _ hk => hk.2) (.bool t315)) (fun _ hk => hk.2) (.string t316)) (fun _ hk => hk.2) (.string t317)) (fun _ h_ => h_.1))))) (below_size (by repeat (first|(with_reducible first|exact HB.out|apply below_alloc|apply pw_below_drewN|apply below_drew1|refine below_set ?_ GE319.out)|exact HB.out)))); have n2_ := Aside0.mk (blk_below (g := gb319) (o := .cells #[.slice Ao51 t312.length co51, .bool t315, .string t316, .string t317] 28 (0, 0)) (by (with_reducible repeat (first|refine blk_drewN ?_ _|refine blk_drew ?_|refine blk_alloc ?_ _)); refine blk_put (cs := #[.slice Ao51 t312.length co51, .bool t315, .string t316, .string (⟨#[]⟩ : ByteArray)]) ?_ 3 _ rfl; (with_reducible repeat (first|refine blk_drewN ?_ _|refine blk_drew ?_|refine blk_alloc ?_ _)); refine blk_put (cs := #[.slice Ao51 t312.length co51, .bool t315, .string (⟨#[]⟩ : ByteArray), .string (⟨#[]⟩ : ByteArray)]) ?_ 2 _ rfl; (with_reducible repeat (first|refine blk_drewN ?_ _|refine blk_drew ?_|refine blk_alloc ?_ _)); refine blk_put (cs := #[.slice Ao51 t312.length co51, .bool false, .string (⟨#[]⟩ : ByteArray), .string (⟨#[]⟩ : ByteArray)]) ?_ 1 _ rfl; (with_reducible repeat (first|refine blk_drewN ?_ _|refine blk_drew ?_|refine blk_alloc ?_ _)); refine blk_put (cs := #[.slice none 0 0, .bool false, .string (⟨#[]⟩ : ByteArray), .string (⟨#[]⟩ : ByteArray)]) ?_ 0 _ rfl; (with_reducible repeat (first|refine blk_drewN ?_ _|refine blk_drew ?_|refine blk_alloc ?_ _)); exact BK319.out) hb); have n3_ := Aside0.mk (below_step (by repeat (first|(with_reducible first|exact HB.out|apply below_alloc|apply pw_below_drewN|apply below_drew1|refine below_set ?_ GE319.out)|exact HB.out)) hb); clear HO314; clear BK319; clear HB; have HO314 := n0_; have HO322 := n1_; have BK319 := n2_; have HB := n3_; clear n0_ n1_ n2_ n3_; (try clear hb); (try clear hb2); (try clear hk); (try clear hi); (try clear ho0); obtain ⟨Ao56, co56, eo56⟩ := Kd.R_slice HO322.out; subst eo56; have hcz57_0 : w55.cell? ⟨gb319, 0, none⟩ = some (.slice Ao51 t312.length co51) := (blk_cell BK319.out 0).trans rfl; have hcz57_1 : w55.cell? ⟨gb319, 1, none⟩ = some (.bool t315) := (blk_cell BK319.out 1).trans rfl; have hcz57_2 : w55.cell? ⟨gb319, 2, none⟩ = some (.string t316) := (blk_cell BK319.out 2).trans rfl; have hcz57_3 : w55.cell? ⟨gb319, 3, none⟩ = some (.string t317) := (blk_cell BK319.out 3).trans rfl; have hfz57_0 := blk_frozen BK319.out 0; have hfz57_1 := blk_frozen BK319.out 1; have hfz57_2 := blk_frozen BK319.out 2; have hfz57_3 := blk_frozen BK319.out 3)))
             go_meet
             case rel => exact ⟨_, (t326), (t320), (t323), (t324), (t325), (.slice Ao56 t320.length co56), (by first|rfl|(simp; done)|(simp [*]; done)), H', ⟨by have := HJ5.out; have := HK2.out; have := HK3.out; first|omega|exact Nat.le_refl _⟩, ⟨by (with_reducible repeat (first|apply Kd.R_alloc|apply Kd.R_drewN|apply Kd.R_drew)); exact Kd.R_mono (Kd.R_far (p := ⟨gb319, 3, none⟩) (Kd.R_far (p := ⟨gb319, 2, none⟩) (Kd.R_far (p := ⟨gb319, 1, none⟩) (Kd.R_far (p := ⟨gb319, 0, none⟩) (Kd.R_types HO322.out BK319.out (by decide)) (fun _ hk => hk.2) (.slice Ao56 t320.length co56)) (fun _ hk => hk.2) (.bool t323)) (fun _ hk => hk.2) (.string t324)) (fun _ hk => hk.2) (.string t325)) (fun _ hk => trivial)⟩, ⟨by (with_reducible repeat (first|refine blk_drewN ?_ _|refine blk_drew ?_|refine blk_alloc ?_ _)); refine blk_put (cs := #[.slice Ao56 t320.length co56, .bool t323, .string t324, .string t317]) ?_ 3 _ rfl; (with_reducible repeat (first|refine blk_drewN ?_ _|refine blk_drew ?_|refine blk_alloc ?_ _)); refine blk_put (cs := #[.slice Ao56 t320.length co56, .bool t323, .string t316, .string t317]) ?_ 2 _ rfl; (with_reducible repeat (first|refine blk_drewN ?_ _|refine blk_drew ?_|refine blk_alloc ?_ _)); refine blk_put (cs := #[.slice Ao56 t320.length co56, .bool t315, .string t316, .string t317]) ?_ 1 _ rfl; (with_reducible repeat (first|refine blk_drewN ?_ _|refine blk_drew ?_|refine blk_alloc ?_ _)); refine blk_put (cs := #[.slice Ao51 t312.length co51, .bool t315, .string t316, .string t317]) ?_ 0 _ rfl; (with_reducible repeat (first|refine blk_drewN ?_ _|refine blk_drew ?_|refine blk_alloc ?_ _)); exact BK319.out⟩, ⟨by repeat (first|(with_reducible first|exact HB.out|apply below_alloc|apply pw_below_drewN|apply below_drew1|refine below_set ?_ GE319.out)|exact HB.out)⟩⟩
           ·rw [if_neg c53] at H
            have c53b0 : (x13_3 == 1) = false := beq_eq_false_iff_ne.mpr c53
            have c53b1 : (x13_3 != 1) = true := bne_iff_ne.mpr c53
            (first|rw [c53b0]|(simp only [i64_w, i32_w]; rw [c53b0])|skip)
            as_aux_lemma =>
             have H' := Aside0.mk H
             clear H
             go_wp2
             repeat (go_quiet (fail); try go_wp2)
             go_meet
             case rel => exact ⟨_, (t318), (t312), (t315), (t316), (t317), (.slice Ao51 t312.length co51), (by first|rfl|(simp; done)|(simp [*]; done)), H', ⟨by have := HJ5.out; have := HK2.out; have := HK3.out; first|omega|exact Nat.le_refl _⟩, ⟨by (with_reducible repeat (first|apply Kd.R_alloc|apply Kd.R_drewN|apply Kd.R_drew)); exact Kd.R_mono (Kd.R_far (p := ⟨gb319, 3, none⟩) (Kd.R_far (p := ⟨gb319, 2, none⟩) (Kd.R_far (p := ⟨gb319, 1, none⟩) (Kd.R_far (p := ⟨gb319, 0, none⟩) (Kd.R_types HO314.out BK319.out (by decide)) (fun _ hk => hk.2) (.slice Ao51 t312.length co51)) (fun _ hk => hk.2) (.bool t315)) (fun _ hk => hk.2) (.string t316)) (fun _ hk => hk.2) (.string t317)) (fun _ hk => trivial)⟩, ⟨by (with_reducible repeat (first|refine blk_drewN ?_ _|refine blk_drew ?_|refine blk_alloc ?_ _)); refine blk_put (cs := #[.slice Ao51 t312.length co51, .bool t315, .string t316, .string (⟨#[]⟩ : ByteArray)]) ?_ 3 _ rfl; (with_reducible repeat (first|refine blk_drewN ?_ _|refine blk_drew ?_|refine blk_alloc ?_ _)); refine blk_put (cs := #[.slice Ao51 t312.length co51, .bool t315, .string (⟨#[]⟩ : ByteArray), .string (⟨#[]⟩ : ByteArray)]) ?_ 2 _ rfl; (with_reducible repeat (first|refine blk_drewN ?_ _|refine blk_drew ?_|refine blk_alloc ?_ _)); refine blk_put (cs := #[.slice Ao51 t312.length co51, .bool false, .string (⟨#[]⟩ : ByteArray), .string (⟨#[]⟩ : ByteArray)]) ?_ 1 _ rfl; (with_reducible repeat (first|refine blk_drewN ?_ _|refine blk_drew ?_|refine blk_alloc ?_ _)); refine blk_put (cs := #[.slice none 0 0, .bool false, .string (⟨#[]⟩ : ByteArray), .string (⟨#[]⟩ : ByteArray)]) ?_ 0 _ rfl; (with_reducible repeat (first|refine blk_drewN ?_ _|refine blk_drew ?_|refine blk_alloc ?_ _)); exact BK319.out⟩, ⟨by repeat (first|(with_reducible first|exact HB.out|apply below_alloc|apply pw_below_drewN|apply below_drew1|refine below_set ?_ GE319.out)|exact HB.out)⟩⟩
          case rest =>
           clear HC48
           try clear c1
           try clear c2
           try clear p2
           try clear c3
           try clear p3
           try clear q3
           try clear hx3
           try clear c4
           try clear c5
           try clear p6
           try clear c9
           try clear c11
           try clear c11b0
           try clear c11b1
           try clear c13
           try clear c18
           try clear c18b0
           try clear c18b1
           try clear c23
           try clear c23b0
           try clear c23b1
           try clear c30
           try clear p30
           try clear q30
           try clear hx30
           try clear p31
           try clear q31
           try clear hx31
           try clear c34
           try clear c35
           try clear c35b0
           try clear c37
           try clear c37b0
           try clear c38
           try clear c38b0
           try clear c38b1
           try clear c39
           try clear c40
           try clear c40b0
           try clear c41
           try clear c41b0
           try clear c42
           try clear c42b0
           try clear c43
           try clear c43b0
           try clear c44
           try clear c44b0
           try clear c44b1
           try clear c46
           try clear c46b0
           try clear c53
           try clear c53b0
           try clear c53b1
           try clear hcz52_0
           try clear hcz52_1
           try clear hcz52_2
           try clear hcz52_3
           try clear hcz57_0
           try clear hcz57_1
           try clear hcz57_2
           try clear hcz57_3
           try clear hfz52_0
           try clear hfz52_1
           try clear hfz52_2
           try clear hfz52_3
           try clear hfz57_0
           try clear hfz57_1
           try clear hfz57_2
           try clear hfz57_3
           try clear hx305_0
           try clear hx305_1
           try clear hx306_0
           try clear hx306_1
           try clear hx307_0
           try clear hx307_1
           try clear hx308_0
           try clear hx308_1
           try clear hx309_0
           try clear hx309_1
           try clear hx310_0
           try clear hx310_1
           try clear hx310_2
           try clear hx310_3
           try clear hx310_4
           try clear p2
           try clear p3
           try clear p30
           try clear p305
           try clear p306
           try clear p307
           try clear p308
           try clear p309
           try clear p31
           try clear p310
           try clear p6
           try clear q3
           try clear q30
           try clear q305
           try clear q306
           try clear q307
           try clear q308
           try clear q309
           try clear q31
           try clear q310
           obtain ⟨kq, x15_47, x320000_47, x320001_47, x320002_47, x320003_47, u320000, rfl, HA, HJ47, HO_320000, BK319, HB⟩ := hcut
           cases kq with
           | zero => exact absurd HA.out (by simp [stowagelaw20_ListingPages.j5])
           | succ kj47 =>
            have H := HA.out
            clear HA
            simp only [stowagelaw20_ListingPages.j5] at H
            have HC58 := Aside0.mk H
            clear H
            go_upto_region 23 with (fail)
            repeat (go_quiet (fail); go_upto_region 23 with (fail))
            go_cut [140] (fun v140 wc => ∃ (kq : Nat) (x140_57 : Bool), v140 = .bool x140_57 ∧ Aside0 (stowagelaw20_ListingPages.j6 kq l0 a1 a2 (wrap64 (1 + t311)) t297 x10_2 x13_3 x140_57 x320000_47 x320001_47 x320002_47 x320003_47 = some r) ∧ Aside0 (kq ≤ kj47) ∧ Aside0 (Kd.R k39 39 wc w.heap.size (fun _ => True) u320000 x320000_47) ∧ Aside0 (wc.heap[gb319]? = some (.cells #[u320000, .bool x320001_47, .string x320002_47, .string x320003_47] 28 (0, 0))) ∧ Aside0 (Below w.heap.size w wc))
            case first =>
             have H := HC58.out
             clear HC58
             by_cases c59 : x15_47 = 0
             ·rw [if_pos c59] at H
              have c59b0 : (x15_47 == 0) = true := beq_iff_eq.mpr c59
              have c59b1 : (x15_47 != 0) = false := bne_eq_false_iff_eq.mpr c59
              clear c59
              (first|rw [c59b0]|(simp only [i64_w, i32_w]; rw [c59b0])|skip)
              by_cases c60 : x320001_47 = true
              ·subst c60
               have H1 : (stowagelaw20_ListingPages.j6 kj47 l0 a1 a2 (wrap64 (1 + t311)) t297 x10_2 x13_3 true x320000_47 true x320002_47 x320003_47) = some r := by rw [if_pos rfl] at H; exact H
               clear H
               have H := H1
               clear H1
               as_aux_lemma =>
                have H' := Aside0.mk H
                clear H
                have hcz61_0 : wc.cell? ⟨gb319, 0, none⟩ = some (u320000) := (blk_cell BK319.out 0).trans rfl
                have hcz61_1 : wc.cell? ⟨gb319, 1, none⟩ = some (.bool true) := (blk_cell BK319.out 1).trans rfl
                have hcz61_2 : wc.cell? ⟨gb319, 2, none⟩ = some (.string x320002_47) := (blk_cell BK319.out 2).trans rfl
                have hcz61_3 : wc.cell? ⟨gb319, 3, none⟩ = some (.string x320003_47) := (blk_cell BK319.out 3).trans rfl
                have hfz61_0 := blk_frozen BK319.out 0
                have hfz61_1 := blk_frozen BK319.out 1
                have hfz61_2 := blk_frozen BK319.out 2
                have hfz61_3 := blk_frozen BK319.out 3
                go_wp2
                repeat (go_quiet (fail); try go_wp2)
                go_meet
                case rel => exact ⟨_, (true), (by first|rfl|(simp; done)|(simp [*]; done)), H', ⟨by have := HJ5.out; have := HK2.out; have := HK3.out; have := HJ47.out; first|omega|exact Nat.le_refl _⟩, ⟨by (with_reducible repeat (first|apply Kd.R_alloc|apply Kd.R_drewN|apply Kd.R_drew)); exact HO_320000.out⟩, ⟨by (with_reducible repeat (first|refine blk_drewN ?_ _|refine blk_drew ?_|refine blk_alloc ?_ _)); exact BK319.out⟩, ⟨by repeat (first|(with_reducible first|exact HB.out|apply below_alloc|apply pw_below_drewN|apply below_drew1|refine below_set ?_ GE319.out)|exact HB.out)⟩⟩
              ·replace c60 := Bool.eq_false_iff.mpr c60
               subst c60
               have H1 : (stowagelaw20_ListingPages.j6 kj47 l0 a1 a2 (wrap64 (1 + t311)) t297 x10_2 x13_3 (decide ((x320000_47.length : Int) > x10_2)) x320000_47 false x320002_47 x320003_47) = some r := by rw [if_neg (show ¬ (false = true) by decide)] at H; exact H
               clear H
               have H := H1
               clear H1
               as_aux_lemma =>
                have H' := Aside0.mk H
                clear H
                have hcz62_0 : wc.cell? ⟨gb319, 0, none⟩ = some (u320000) := (blk_cell BK319.out 0).trans rfl
                have hcz62_1 : wc.cell? ⟨gb319, 1, none⟩ = some (.bool false) := (blk_cell BK319.out 1).trans rfl
                have hcz62_2 : wc.cell? ⟨gb319, 2, none⟩ = some (.string x320002_47) := (blk_cell BK319.out 2).trans rfl
                have hcz62_3 : wc.cell? ⟨gb319, 3, none⟩ = some (.string x320003_47) := (blk_cell BK319.out 3).trans rfl
                have hfz62_0 := blk_frozen BK319.out 0
                have hfz62_1 := blk_frozen BK319.out 1
                have hfz62_2 := blk_frozen BK319.out 2
                have hfz62_3 := blk_frozen BK319.out 3
                obtain ⟨Ao63, co63, eo63⟩ := Kd.R_slice HO_320000.out
                subst eo63
                go_wp2
                repeat (go_quiet (fail); try go_wp2)
                go_meet
                case rel => exact ⟨_, (decide ((x320000_47.length : Int) > x10_2)), (by first|rfl|(simp; done)|(simp [*]; done)), H', ⟨by have := HJ5.out; have := HK2.out; have := HK3.out; have := HJ47.out; first|omega|exact Nat.le_refl _⟩, ⟨by (with_reducible repeat (first|apply Kd.R_alloc|apply Kd.R_drewN|apply Kd.R_drew)); exact HO_320000.out⟩, ⟨by (with_reducible repeat (first|refine blk_drewN ?_ _|refine blk_drew ?_|refine blk_alloc ?_ _)); exact BK319.out⟩, ⟨by repeat (first|(with_reducible first|exact HB.out|apply below_alloc|apply pw_below_drewN|apply below_drew1|refine below_set ?_ GE319.out)|exact HB.out)⟩⟩
             ·rw [if_neg c59] at H
              have c59b0 : (x15_47 == 0) = false := beq_eq_false_iff_ne.mpr c59
              have c59b1 : (x15_47 != 0) = true := bne_iff_ne.mpr c59
              (first|rw [c59b0]|(simp only [i64_w, i32_w]; rw [c59b0])|skip)
              as_aux_lemma =>
               have H' := Aside0.mk H
               clear H
               go_wp2
               repeat (go_quiet (fail); try go_wp2)
               go_meet
               case rel => exact ⟨_, (true), (by first|rfl|(simp; done)|(simp [*]; done)), H', ⟨by have := HJ5.out; have := HK2.out; have := HK3.out; have := HJ47.out; first|omega|exact Nat.le_refl _⟩, ⟨by (with_reducible repeat (first|apply Kd.R_alloc|apply Kd.R_drewN|apply Kd.R_drew)); exact HO_320000.out⟩, ⟨by (with_reducible repeat (first|refine blk_drewN ?_ _|refine blk_drew ?_|refine blk_alloc ?_ _)); exact BK319.out⟩, ⟨by repeat (first|(with_reducible first|exact HB.out|apply below_alloc|apply pw_below_drewN|apply below_drew1|refine below_set ?_ GE319.out)|exact HB.out)⟩⟩
            case rest =>
             clear HC58
             try clear c1
             try clear c2
             try clear p2
             try clear c3
             try clear p3
             try clear q3
             try clear hx3
             try clear c4
             try clear c5
             try clear c6
             try clear p6
             try clear c9
             try clear c11
             try clear c11b0
             try clear c11b1
             try clear c13
             try clear c18
             try clear c18b0
             try clear c18b1
             try clear c23
             try clear c23b0
             try clear c23b1
             try clear c30
             try clear p30
             try clear q30
             try clear hx30
             try clear p31
             try clear q31
             try clear hx31
             try clear c34
             try clear c35
             try clear c35b0
             try clear c37
             try clear c37b0
             try clear c38
             try clear c38b0
             try clear c38b1
             try clear c39
             try clear c40
             try clear c40b0
             try clear c41
             try clear c41b0
             try clear c42
             try clear c42b0
             try clear c43
             try clear c43b0
             try clear c44
             try clear c44b0
             try clear c44b1
             try clear c46
             try clear c46b0
             try clear c53
             try clear c53b0
             try clear c53b1
             try clear c59
             try clear c59b0
             try clear c59b1
             try clear c60
             try clear hcz52_0
             try clear hcz52_1
             try clear hcz52_2
             try clear hcz52_3
             try clear hcz57_0
             try clear hcz57_1
             try clear hcz57_2
             try clear hcz57_3
             try clear hcz61_0
             try clear hcz61_1
             try clear hcz61_2
             try clear hcz61_3
             try clear hcz62_0
             try clear hcz62_1
             try clear hcz62_2
             try clear hcz62_3
             try clear hfz52_0
             try clear hfz52_1
             try clear hfz52_2
             try clear hfz52_3
             try clear hfz57_0
             try clear hfz57_1
             try clear hfz57_2
             try clear hfz57_3
             try clear hfz61_0
             try clear hfz61_1
             try clear hfz61_2
             try clear hfz61_3
             try clear hfz62_0
             try clear hfz62_1
             try clear hfz62_2
             try clear hfz62_3
             try clear hx305_0
             try clear hx305_1
             try clear hx306_0
             try clear hx306_1
             try clear hx307_0
             try clear hx307_1
             try clear hx308_0
             try clear hx308_1
             try clear hx309_0
             try clear hx309_1
             try clear hx310_0
             try clear hx310_1
             try clear hx310_2
             try clear hx310_3
             try clear hx310_4
             try clear p2
             try clear p3
             try clear p30
             try clear p305
             try clear p306
             try clear p307
             try clear p308
             try clear p309
             try clear p31
             try clear p310
             try clear p6
             try clear q3
             try clear q30
             try clear q305
             try clear q306
             try clear q307
             try clear q308
             try clear q309
             try clear q31
             try clear q310
             obtain ⟨kq, x140_57, rfl, HA, HJ57, HO_320000, BK319, HB⟩ := hcut
             cases kq with
             | zero => exact absurd HA.out (by simp [stowagelaw20_ListingPages.j6])
             | succ kj57 =>
              have H := HA.out
              clear HA
              simp only [stowagelaw20_ListingPages.j6] at H
              by_cases c64 : x140_57 = true
              ·subst c64
               have H1 : (some false) = some r := by rw [if_pos rfl] at H; exact H
               clear H
               have H := H1
               clear H1
               as_aux_lemma =>
                obtain rfl := Option.some.inj H
                go_wp2
                repeat (go_quiet (fail); try go_wp2)
                go_ret
                exact ⟨by first|rfl|(simp [errW_none, errW_some] <;> rfl)|(simp [*, errW_none, errW_some] <;> rfl), by repeat (first|(with_reducible first|exact HB.out|apply below_alloc|apply pw_below_drewN|apply below_drew1|refine below_set ?_ GE319.out)|exact HB.out)⟩
              ·replace c64 := Bool.eq_false_iff.mpr c64
               subst c64
               have H1 : (stowagelaw20_ListingPages.l3 kj57 l0 a1 a2 (wrap64 (1 + t311)) t297 x10_2 x13_3 ([] : List (S39)) (⟨#[]⟩ : ByteArray) (⟨#[]⟩ : ByteArray) 0 x320000_47 x320001_47 x320002_47 x320003_47) = some r := by rw [if_neg (show ¬ (false = true) by decide)] at H; exact H
               clear H
               have H := H1
               clear H1
               have HC65 := Aside0.mk H
               clear H
               go_upto_block 6 with (fail)
               repeat (go_quiet (fail); go_upto_block 6 with (fail))
               go_cut [16] (fun v16 wc => ∃ (kq : Nat) (x16_64 : List (S39)), Aside0 (stowagelaw20_ListingPages.j10 kq l0 a1 a2 (wrap64 (1 + t311)) t297 x10_2 x13_3 x16_64 x320000_47 x320001_47 x320002_47 x320003_47 = some r) ∧ Aside0 (kq ≤ kj57) ∧ Aside0 (Kd.R k39 39 wc w.heap.size (fun k_ => some k_ ≠ (u320000 : Value).ownBlock) v16 x16_64) ∧ Aside0 (Kd.R k39 39 wc w.heap.size (fun k_ => some k_ ≠ (v16 : Value).ownBlock) u320000 x320000_47) ∧ Aside0 (wc.heap[gb319]? = some (.cells #[u320000, .bool x320001_47, .string x320002_47, .string x320003_47] 28 (0, 0))) ∧ Aside0 (Below w.heap.size w wc))
               case first =>
                have H := HC65.out
                clear HC65
                have H' := Aside0.mk H
                clear H
                go_wp2
                repeat (go_quiet (fail); try go_wp2)
                go_loopg [16, 17, 18, 19] kj57 (fun kq v16 v17 v18 v19 w' => ∃ (x16_6 : List (S39)) (x17_6 : ByteArray) (x18_6 : ByteArray) (x19_6 : Int), v17 = .string x17_6 ∧ v18 = .string x18_6 ∧ v19 = .int .i64 x19_6 ∧ Aside0 (stowagelaw20_ListingPages.l3 kq l0 a1 a2 (wrap64 (1 + t311)) t297 x10_2 x13_3 x16_6 x17_6 x18_6 x19_6 x320000_47 x320001_47 x320002_47 x320003_47 = some r) ∧ Aside0 (kq ≤ kj57) ∧ Aside0 (Kd.R k39 39 w' w.heap.size (fun k_ => some k_ ≠ (u320000 : Value).ownBlock) v16 x16_6) ∧ Aside0 (Kd.R k39 39 w' w.heap.size (fun k_ => some k_ ≠ (v16 : Value).ownBlock) u320000 x320000_47) ∧ Aside0 (w'.heap[gb319]? = some (.cells #[u320000, .bool x320001_47, .string x320002_47, .string x320003_47] 28 (0, 0))) ∧ Aside0 (Below w.heap.size w w'))
                case atStart => exact ⟨(([] : List (S39))), ((⟨#[]⟩ : ByteArray)), ((⟨#[]⟩ : ByteArray)), (0), (by first|rfl|(simp; done)|(simp [*]; done)), (by first|rfl|(simp; done)|(simp [*]; done)), (by first|rfl|(simp; done)|(simp [*]; done)), H', ⟨Nat.le_refl _⟩, ⟨by first|exact Kd.R_nil _ _ _ _ _|exact Kd.N_nil _ _ _ _ _|exact Kd.V_nil _ _ _ _ _|exact Kd.Q_nil _ _ _ _ _|exact Kd.S_nil _ _ _ _ _⟩, ⟨by (with_reducible repeat (first|apply Kd.R_alloc|apply Kd.R_drewN|apply Kd.R_drew)); exact Kd.R_mono HO_320000.out (fun _ hk => (by simp [Value.ownBlock]))⟩, ⟨by (with_reducible repeat (first|refine blk_drewN ?_ _|refine blk_drew ?_|refine blk_alloc ?_ _)); exact BK319.out⟩, ⟨by repeat (first|(with_reducible first|exact HB.out|apply below_alloc|apply pw_below_drewN|apply below_drew1|refine below_set ?_ GE319.out)|exact HB.out)⟩⟩
                case round =>
                 clear H'
                 try clear c1
                 try clear c2
                 try clear p2
                 try clear c3
                 try clear p3
                 try clear q3
                 try clear hx3
                 try clear c4
                 try clear c5
                 try clear c6
                 try clear p6
                 try clear c9
                 try clear c11
                 try clear c11b0
                 try clear c11b1
                 try clear c13
                 try clear c18
                 try clear c18b0
                 try clear c18b1
                 try clear c23
                 try clear c23b0
                 try clear c23b1
                 try clear c30
                 try clear p30
                 try clear q30
                 try clear hx30
                 try clear p31
                 try clear q31
                 try clear hx31
                 try clear c34
                 try clear c35
                 try clear c35b0
                 try clear c37
                 try clear c37b0
                 try clear c38
                 try clear c38b0
                 try clear c38b1
                 try clear c39
                 try clear c40
                 try clear c40b0
                 try clear c41
                 try clear c41b0
                 try clear c42
                 try clear c42b0
                 try clear c43
                 try clear c43b0
                 try clear c44
                 try clear c44b0
                 try clear c44b1
                 try clear c46
                 try clear c46b0
                 try clear c53
                 try clear c53b0
                 try clear c53b1
                 try clear c59
                 try clear c59b0
                 try clear c59b1
                 try clear c60
                 try clear c64
                 try clear p64
                 try clear hcz52_0
                 try clear hcz52_1
                 try clear hcz52_2
                 try clear hcz52_3
                 try clear hcz57_0
                 try clear hcz57_1
                 try clear hcz57_2
                 try clear hcz57_3
                 try clear hcz61_0
                 try clear hcz61_1
                 try clear hcz61_2
                 try clear hcz61_3
                 try clear hcz62_0
                 try clear hcz62_1
                 try clear hcz62_2
                 try clear hcz62_3
                 try clear hfz52_0
                 try clear hfz52_1
                 try clear hfz52_2
                 try clear hfz52_3
                 try clear hfz57_0
                 try clear hfz57_1
                 try clear hfz57_2
                 try clear hfz57_3
                 try clear hfz61_0
                 try clear hfz61_1
                 try clear hfz61_2
                 try clear hfz61_3
                 try clear hfz62_0
                 try clear hfz62_1
                 try clear hfz62_2
                 try clear hfz62_3
                 try clear hx305_0
                 try clear hx305_1
                 try clear hx306_0
                 try clear hx306_1
                 try clear hx307_0
                 try clear hx307_1
                 try clear hx308_0
                 try clear hx308_1
                 try clear hx309_0
                 try clear hx309_1
                 try clear hx310_0
                 try clear hx310_1
                 try clear hx310_2
                 try clear hx310_3
                 try clear hx310_4
                 try clear p2
                 try clear p3
                 try clear p30
                 try clear p305
                 try clear p306
                 try clear p307
                 try clear p308
                 try clear p309
                 try clear p31
                 try clear p310
                 try clear p6
                 try clear q3
                 try clear q30
                 try clear q305
                 try clear q306
                 try clear q307
                 try clear q308
                 try clear q309
                 try clear q31
                 try clear q310
                 obtain ⟨x16_6, x17_6, x18_6, x19_6, rfl, rfl, rfl, HA, HK6, HO_16, HO_320000, BK319, HB⟩ := hrel
                 cases gk with
                 | zero => exact absurd HA.out (by simp [stowagelaw20_ListingPages.l3])
                 | succ k6 =>
                  have H := HA.out
                  clear HA
                  simp only [stowagelaw20_ListingPages.l3] at H
                  by_cases c66 : x19_6 ≤ x10_2
                  ·rw [if_pos c66] at H
                   have c66b0 : decide (x19_6 ≤ x10_2) = true := decide_eq_true c66
                   clear c66
                   (first|rw [c66b0]|(simp only [i64_w, i32_w]; rw [c66b0])|skip)
                   replace H := Option.bind_eq_some_iff.mp H
                   obtain ⟨⟨t327, t330, t331, t332, t333⟩, A670, H⟩ := H
                   replace H : (if x13_3 = 1 then ((listing_Versions.f l0 a1 a2 x17_6 x18_6 (wrap64 (1 + t311))).bind fun bt335 => (stowagelaw20_ListingPages.j8 k6 l0 a1 a2 (wrap64 (1 + t311)) t297 x10_2 x13_3 x16_6 x19_6 bt335.2.2.2.2 x320000_47 x320001_47 x320002_47 x320003_47 bt335.1 bt335.2.1 bt335.2.2.1 bt335.2.2.2.1)) else (stowagelaw20_ListingPages.j8 k6 l0 a1 a2 (wrap64 (1 + t311)) t297 x10_2 x13_3 x16_6 x19_6 t333 x320000_47 x320001_47 x320002_47 x320003_47 t327 t330 t331 t332)) = some r := H
                   have A67 := Aside0.mk A670
                   clear A670
                   have HC68 := Aside0.mk H
                   clear H
                   go_upto_if 156 with (first|(go_at_call 12; (with_reducible refine (listing_Keys.calls _ _ l0 a1 a2 x17_6 (wrap64 (1 + t311)) t327 t330 t331 t332 t333 _ ?side1 ?side2 ?side3 A67.out).mono ?_); (case side1 => first|exact HG.out|exact GM.below (by repeat (first|(with_reducible first|exact HB.out|apply below_alloc|apply pw_below_drewN|apply below_drew1|refine below_set ?_ GE319.out)|exact HB.out)) HG.out|(repeat (first|exact HG.out|apply GM.drewN|apply GM.drew))); (case side2 => repeat (first|exact (Kd.C_below HR0.out HB.out)|(with_reducible refine Kd.C_alloc ?_ _)|(with_reducible refine Kd.C_drewN ?_ _)|(with_reducible refine Kd.C_drew ?_))); (case side3 => exact HC0.out); rintro e w69 ⟨v328, rfl, ho0, hb⟩; have n0_ := Aside0.mk (Kd.R_elder' (by (with_reducible repeat (first|apply Kd.R_alloc|apply Kd.R_drewN|apply Kd.R_drew)); exact HO_16.out) (Kd.R_base ho0) hb); have n1_ := Aside0.mk (Kd.R_elder' (by (with_reducible repeat (first|apply Kd.R_alloc|apply Kd.R_drewN|apply Kd.R_drew)); exact HO_320000.out) (Kd.R_base ho0) hb); have n2_ := Aside0.mk (Kd.R_lower (Kd.R_new' (Kd.R_new' ho0 (Kd.R_lt (by (with_reducible repeat (first|apply Kd.R_alloc|apply Kd.R_drewN|apply Kd.R_drew)); exact HO_16.out))) (Kd.R_lt (by (with_reducible repeat (first|apply Kd.R_alloc|apply Kd.R_drewN|apply Kd.R_drew)); exact HO_320000.out))) (below_size (by repeat (first|(with_reducible first|exact HB.out|apply below_alloc|apply pw_below_drewN|apply below_drew1|refine below_set ?_ GE319.out)|exact HB.out)))); have n3_ := Aside0.mk (blk_below (g := gb319) (o := .cells #[u320000, .bool x320001_47, .string x320002_47, .string x320003_47] 28 (0, 0)) (by (with_reducible repeat (first|refine blk_drewN ?_ _|refine blk_drew ?_|refine blk_alloc ?_ _)); exact BK319.out) hb); have n4_ := Aside0.mk (below_step (by repeat (first|(with_reducible first|exact HB.out|apply below_alloc|apply pw_below_drewN|apply below_drew1|refine below_set ?_ GE319.out)|exact HB.out)) hb); clear HO_16; clear HO_320000; clear BK319; clear HB; have HO_16 := n0_; have HO_320000 := n1_; have HO329 := n2_; have BK319 := n3_; have HB := n4_; clear n0_ n1_ n2_ n3_ n4_; (try clear hb); (try clear hb2); (try clear hk); (try clear hi); (try clear ho0))|((with_reducible refine gate_dst (N := 20) rfl ?_); (try (refine gate_guard (by rfl) ?_; dsimp only)); refine box_event ?hg (N := 20) ?hd (cs := #[.slice none 0 0, .bool false, .string (⟨#[]⟩ : ByteArray), .string (⟨#[]⟩ : ByteArray)]) (t := 28) ?hr ?_; (case hd => rfl); (case hg => rfl); (case hr => first|(go_simp; done)|(go_simp; rfl)); intro gb334 hg w70 hbox hb; have n0_ := Aside0.mk (Kd.R_below (by (with_reducible repeat (first|apply Kd.R_alloc|apply Kd.R_drewN|apply Kd.R_drew)); exact HO_16.out) hb); have n1_ := Aside0.mk (Kd.R_below (by (with_reducible repeat (first|apply Kd.R_alloc|apply Kd.R_drewN|apply Kd.R_drew)); exact HO_320000.out) hb); have n2_ := Aside0.mk (Kd.R_below (by (with_reducible repeat (first|apply Kd.R_alloc|apply Kd.R_drewN|apply Kd.R_drew)); exact HO329.out) hb); have n3_ := Aside0.mk (blk_below (g := gb319) (o := .cells #[u320000, .bool x320001_47, .string x320002_47, .string x320003_47] 28 (0, 0)) (by (with_reducible repeat (first|refine blk_drewN ?_ _|refine blk_drew ?_|refine blk_alloc ?_ _)); exact BK319.out) hb); have n4_ := Aside0.mk (below_step (by repeat (first|(with_reducible first|exact HB.out|apply below_alloc|apply pw_below_drewN|apply below_drew1|refine below_set ?_ GE319.out)|exact HB.out)) hb); have n5_ := Aside0.mk (hbox); have n6_ := Aside0.mk ((by rw [hg]; exact (below_size (by repeat (first|(with_reducible first|exact HB.out|apply below_alloc|apply pw_below_drewN|apply below_drew1|refine below_set ?_ GE319.out)|exact HB.out))) : w.heap.size ≤ gb334)); have n7_ := Aside0.mk ((by rw [hg]; exact (below_size (by repeat (first|(with_reducible first|exact HB.out|apply below_alloc|apply pw_below_drewN|apply below_drew1|refine below_set ?_ GE319.out)|exact HB.out))) : w.heap.size ≤ gb334)); have n8_ := Aside0.mk ((by rw [hg]; exact Nat.ne_of_lt (blk_lt (g := gb319) (o := .cells #[u320000, .bool x320001_47, .string x320002_47, .string x320003_47] 28 (0, 0)) (by (with_reducible repeat (first|refine blk_drewN ?_ _|refine blk_drew ?_|refine blk_alloc ?_ _)); exact BK319.out)) : gb319 ≠ gb334)); have n9_ := Aside0.mk ((by rw [hg]; exact Nat.ne_of_gt (blk_lt (g := gb319) (o := .cells #[u320000, .bool x320001_47, .string x320002_47, .string x320003_47] 28 (0, 0)) (by (with_reducible repeat (first|refine blk_drewN ?_ _|refine blk_drew ?_|refine blk_alloc ?_ _)); exact BK319.out)) : gb334 ≠ gb319)); clear HO_16; clear HO_320000; clear HO329; clear BK319; clear HB; have HO_16 := n0_; have HO_320000 := n1_; have HO329 := n2_; have BK319 := n3_; have HB := n4_; have BK334 := n5_; have GW334 := n6_; have GE334 := n7_; have NB319_334 := n8_; have NB334_319 := n9_; clear n0_ n1_ n2_ n3_ n4_ n5_ n6_ n7_ n8_ n9_; clear hb hbox hg; obtain ⟨Ao71, co71, eo71⟩ := Kd.R_slice HO329.out; subst eo71; have hnb72 := NB334_319.out; have hnc72 := NB319_334.out; have hcz73_0 : w70.cell? ⟨gb334, 0, none⟩ = some (.slice none 0 0) := (blk_cell BK334.out 0).trans rfl; have hcz73_1 : w70.cell? ⟨gb334, 1, none⟩ = some (.bool false) := (blk_cell BK334.out 1).trans rfl; have hcz73_2 : w70.cell? ⟨gb334, 2, none⟩ = some (.string (⟨#[]⟩ : ByteArray)) := (blk_cell BK334.out 2).trans rfl; have hcz73_3 : w70.cell? ⟨gb334, 3, none⟩ = some (.string (⟨#[]⟩ : ByteArray)) := (blk_cell BK334.out 3).trans rfl; have hfz73_0 := blk_frozen BK334.out 0; have hfz73_1 := blk_frozen BK334.out 1; have hfz73_2 := blk_frozen BK334.out 2; have hfz73_3 := blk_frozen BK334.out 3))
                   repeat (go_quiet (first|(go_at_call 12; (with_reducible refine (listing_Keys.calls _ _ l0 a1 a2 x17_6 (wrap64 (1 + t311)) t327 t330 t331 t332 t333 _ ?side1 ?side2 ?side3 A67.out).mono ?_); (case side1 => first|exact HG.out|exact GM.below (by repeat (first|(with_reducible first|exact HB.out|apply below_alloc|apply pw_below_drewN|apply below_drew1|refine below_set ?_ GE319.out)|exact HB.out)) HG.out|(repeat (first|exact HG.out|apply GM.drewN|apply GM.drew))); (case side2 => repeat (first|exact (Kd.C_below HR0.out HB.out)|(with_reducible refine Kd.C_alloc ?_ _)|(with_reducible refine Kd.C_drewN ?_ _)|(with_reducible refine Kd.C_drew ?_))); (case side3 => exact HC0.out); rintro e w69 ⟨v328, rfl, ho0, hb⟩; have n0_ := Aside0.mk (Kd.R_elder' (by (with_reducible repeat (first|apply Kd.R_alloc|apply Kd.R_drewN|apply Kd.R_drew)); exact HO_16.out) (Kd.R_base ho0) hb); have n1_ := Aside0.mk (Kd.R_elder' (by (with_reducible repeat (first|apply Kd.R_alloc|apply Kd.R_drewN|apply Kd.R_drew)); exact HO_320000.out) (Kd.R_base ho0) hb); have n2_ := Aside0.mk (Kd.R_lower (Kd.R_new' (Kd.R_new' ho0 (Kd.R_lt (by (with_reducible repeat (first|apply Kd.R_alloc|apply Kd.R_drewN|apply Kd.R_drew)); exact HO_16.out))) (Kd.R_lt (by (with_reducible repeat (first|apply Kd.R_alloc|apply Kd.R_drewN|apply Kd.R_drew)); exact HO_320000.out))) (below_size (by repeat (first|(with_reducible first|exact HB.out|apply below_alloc|apply pw_below_drewN|apply below_drew1|refine below_set ?_ GE319.out)|exact HB.out)))); have n3_ := Aside0.mk (blk_below (g := gb319) (o := .cells #[u320000, .bool x320001_47, .string x320002_47, .string x320003_47] 28 (0, 0)) (by (with_reducible repeat (first|refine blk_drewN ?_ _|refine blk_drew ?_|refine blk_alloc ?_ _)); exact BK319.out) hb); have n4_ := Aside0.mk (below_step (by repeat (first|(with_reducible first|exact HB.out|apply below_alloc|apply pw_below_drewN|apply below_drew1|refine below_set ?_ GE319.out)|exact HB.out)) hb); clear HO_16; clear HO_320000; clear BK319; clear HB; have HO_16 := n0_; have HO_320000 := n1_; have HO329 := n2_; have BK319 := n3_; have HB := n4_; clear n0_ n1_ n2_ n3_ n4_; (try clear hb); (try clear hb2); (try clear hk); (try clear hi); (try clear ho0))|((with_reducible refine gate_dst (N := 20) rfl ?_); (try (refine gate_guard (by rfl) ?_; dsimp only)); refine box_event ?hg (N := 20) ?hd (cs := #[.slice none 0 0, .bool false, .string (⟨#[]⟩ : ByteArray), .string (⟨#[]⟩ : ByteArray)]) (t := 28) ?hr ?_; (case hd => rfl); (case hg => rfl); (case hr => first|(go_simp; done)|(go_simp; rfl)); intro gb334 hg w70 hbox hb; have n0_ := Aside0.mk (Kd.R_below (by (with_reducible repeat (first|apply Kd.R_alloc|apply Kd.R_drewN|apply Kd.R_drew)); exact HO_16.out) hb); have n1_ := Aside0.mk (Kd.R_below (by (with_reducible repeat (first|apply Kd.R_alloc|apply Kd.R_drewN|apply Kd.R_drew)); exact HO_320000.out) hb); have n2_ := Aside0.mk (Kd.R_below (by (with_reducible repeat (first|apply Kd.R_alloc|apply Kd.R_drewN|apply Kd.R_drew)); exact HO329.out) hb); have n3_ := Aside0.mk (blk_below (g := gb319) (o := .cells #[u320000, .bool x320001_47, .string x320002_47, .string x320003_47] 28 (0, 0)) (by (with_reducible repeat (first|refine blk_drewN ?_ _|refine blk_drew ?_|refine blk_alloc ?_ _)); exact BK319.out) hb); have n4_ := Aside0.mk (below_step (by repeat (first|(with_reducible first|exact HB.out|apply below_alloc|apply pw_below_drewN|apply below_drew1|refine below_set ?_ GE319.out)|exact HB.out)) hb); have n5_ := Aside0.mk (hbox); have n6_ := Aside0.mk ((by rw [hg]; exact (below_size (by repeat (first|(with_reducible first|exact HB.out|apply below_alloc|apply pw_below_drewN|apply below_drew1|refine below_set ?_ GE319.out)|exact HB.out))) : w.heap.size ≤ gb334)); have n7_ := Aside0.mk ((by rw [hg]; exact (below_size (by repeat (first|(with_reducible first|exact HB.out|apply below_alloc|apply pw_below_drewN|apply below_drew1|refine below_set ?_ GE319.out)|exact HB.out))) : w.heap.size ≤ gb334)); have n8_ := Aside0.mk ((by rw [hg]; exact Nat.ne_of_lt (blk_lt (g := gb319) (o := .cells #[u320000, .bool x320001_47, .string x320002_47, .string x320003_47] 28 (0, 0)) (by (with_reducible repeat (first|refine blk_drewN ?_ _|refine blk_drew ?_|refine blk_alloc ?_ _)); exact BK319.out)) : gb319 ≠ gb334)); have n9_ := Aside0.mk ((by rw [hg]; exact Nat.ne_of_gt (blk_lt (g := gb319) (o := .cells #[u320000, .bool x320001_47, .string x320002_47, .string x320003_47] 28 (0, 0)) (by (with_reducible repeat (first|refine blk_drewN ?_ _|refine blk_drew ?_|refine blk_alloc ?_ _)); exact BK319.out)) : gb334 ≠ gb319)); clear HO_16; clear HO_320000; clear HO329; clear BK319; clear HB; have HO_16 := n0_; have HO_320000 := n1_; have HO329 := n2_; have BK319 := n3_; have HB := n4_; have BK334 := n5_; have GW334 := n6_; have GE334 := n7_; have NB319_334 := n8_; have NB334_319 := n9_; clear n0_ n1_ n2_ n3_ n4_ n5_ n6_ n7_ n8_ n9_; clear hb hbox hg; obtain ⟨Ao71, co71, eo71⟩ := Kd.R_slice HO329.out; subst eo71; have hnb72 := NB334_319.out; have hnc72 := NB319_334.out; have hcz73_0 : w70.cell? ⟨gb334, 0, none⟩ = some (.slice none 0 0) := (blk_cell BK334.out 0).trans rfl; have hcz73_1 : w70.cell? ⟨gb334, 1, none⟩ = some (.bool false) := (blk_cell BK334.out 1).trans rfl; have hcz73_2 : w70.cell? ⟨gb334, 2, none⟩ = some (.string (⟨#[]⟩ : ByteArray)) := (blk_cell BK334.out 2).trans rfl; have hcz73_3 : w70.cell? ⟨gb334, 3, none⟩ = some (.string (⟨#[]⟩ : ByteArray)) := (blk_cell BK334.out 3).trans rfl; have hfz73_0 := blk_frozen BK334.out 0; have hfz73_1 := blk_frozen BK334.out 1; have hfz73_2 := blk_frozen BK334.out 2; have hfz73_3 := blk_frozen BK334.out 3)); go_upto_if 156 with (first|(go_at_call 12; (with_reducible refine (listing_Keys.calls _ _ l0 a1 a2 x17_6 (wrap64 (1 + t311)) t327 t330 t331 t332 t333 _ ?side1 ?side2 ?side3 A67.out).mono ?_); (case side1 => first|exact HG.out|exact GM.below (by repeat (first|(with_reducible first|exact HB.out|apply below_alloc|apply pw_below_drewN|apply below_drew1|refine below_set ?_ GE319.out)|exact HB.out)) HG.out|(repeat (first|exact HG.out|apply GM.drewN|apply GM.drew))); (case side2 => repeat (first|exact (Kd.C_below HR0.out HB.out)|(with_reducible refine Kd.C_alloc ?_ _)|(with_reducible refine Kd.C_drewN ?_ _)|(with_reducible refine Kd.C_drew ?_))); (case side3 => exact HC0.out); rintro e w69 ⟨v328, rfl, ho0, hb⟩; have n0_ := Aside0.mk (Kd.R_elder' (by (with_reducible repeat (first|apply Kd.R_alloc|apply Kd.R_drewN|apply Kd.R_drew)); exact HO_16.out) (Kd.R_base ho0) hb); have n1_ := Aside0.mk (Kd.R_elder' (by (with_reducible repeat (first|apply Kd.R_alloc|apply Kd.R_drewN|apply Kd.R_drew)); exact HO_320000.out) (Kd.R_base ho0) hb); have n2_ := Aside0.mk (Kd.R_lower (Kd.R_new' (Kd.R_new' ho0 (Kd.R_lt (by (with_reducible repeat (first|apply Kd.R_alloc|apply Kd.R_drewN|apply Kd.R_drew)); exact HO_16.out))) (Kd.R_lt (by (with_reducible repeat (first|apply Kd.R_alloc|apply Kd.R_drewN|apply Kd.R_drew)); exact HO_320000.out))) (below_size (by repeat (first|(with_reducible first|exact HB.out|apply below_alloc|apply pw_below_drewN|apply below_drew1|refine below_set ?_ GE319.out)|exact HB.out)))); have n3_ := Aside0.mk (blk_below (g := gb319) (o := .cells #[u320000, .bool x320001_47, .string x320002_47, .string x320003_47] 28 (0, 0)) (by (with_reducible repeat (first|refine blk_drewN ?_ _|refine blk_drew ?_|refine blk_alloc ?_ _)); exact BK319.out) hb); have n4_ := Aside0.mk (below_step (by repeat (first|(with_reducible first|exact HB.out|apply below_alloc|apply pw_below_drewN|apply below_drew1|refine below_set ?_ GE319.out)|exact HB.out)) hb); clear HO_16; clear HO_320000; clear BK319; clear HB; have HO_16 := n0_; have HO_320000 := n1_; have HO329 := n2_; have BK319 := n3_; have HB := n4_; clear n0_ n1_ n2_ n3_ n4_; (try clear hb); (try clear hb2); (try clear hk); (try clear hi); (try clear ho0))|((with_reducible refine gate_dst (N := 20) rfl ?_); (try (refine gate_guard (by rfl) ?_; dsimp only)); refine box_event ?hg (N := 20) ?hd (cs := #[.slice none 0 0, .bool false, .string (⟨#[]⟩ : ByteArray), .string (⟨#[]⟩ : ByteArray)]) (t := 28) ?hr ?_; (case hd => rfl); (case hg => rfl); (case hr => first|(go_simp; done)|(go_simp; rfl)); intro gb334 hg w70 hbox hb; have n0_ := Aside0.mk (Kd.R_below (by (with_reducible repeat (first|apply Kd.R_alloc|apply Kd.R_drewN|apply Kd.R_drew)); exact HO_16.out) hb); have n1_ := Aside0.mk (Kd.R_below (by (with_reducible repeat (first|apply Kd.R_alloc|apply Kd.R_drewN|apply Kd.R_drew)); exact HO_320000.out) hb); have n2_ := Aside0.mk (Kd.R_below (by (with_reducible repeat (first|apply Kd.R_alloc|apply Kd.R_drewN|apply Kd.R_drew)); exact HO329.out) hb); have n3_ := Aside0.mk (blk_below (g := gb319) (o := .cells #[u320000, .bool x320001_47, .string x320002_47, .string x320003_47] 28 (0, 0)) (by (with_reducible repeat (first|refine blk_drewN ?_ _|refine blk_drew ?_|refine blk_alloc ?_ _)); exact BK319.out) hb); have n4_ := Aside0.mk (below_step (by repeat (first|(with_reducible first|exact HB.out|apply below_alloc|apply pw_below_drewN|apply below_drew1|refine below_set ?_ GE319.out)|exact HB.out)) hb); have n5_ := Aside0.mk (hbox); have n6_ := Aside0.mk ((by rw [hg]; exact (below_size (by repeat (first|(with_reducible first|exact HB.out|apply below_alloc|apply pw_below_drewN|apply below_drew1|refine below_set ?_ GE319.out)|exact HB.out))) : w.heap.size ≤ gb334)); have n7_ := Aside0.mk ((by rw [hg]; exact (below_size (by repeat (first|(with_reducible first|exact HB.out|apply below_alloc|apply pw_below_drewN|apply below_drew1|refine below_set ?_ GE319.out)|exact HB.out))) : w.heap.size ≤ gb334)); have n8_ := Aside0.mk ((by rw [hg]; exact Nat.ne_of_lt (blk_lt (g := gb319) (o := .cells #[u320000, .bool x320001_47, .string x320002_47, .string x320003_47] 28 (0, 0)) (by (with_reducible repeat (first|refine blk_drewN ?_ _|refine blk_drew ?_|refine blk_alloc ?_ _)); exact BK319.out)) : gb319 ≠ gb334)); have n9_ := Aside0.mk ((by rw [hg]; exact Nat.ne_of_gt (blk_lt (g := gb319) (o := .cells #[u320000, .bool x320001_47, .string x320002_47, .string x320003_47] 28 (0, 0)) (by (with_reducible repeat (first|refine blk_drewN ?_ _|refine blk_drew ?_|refine blk_alloc ?_ _)); exact BK319.out)) : gb334 ≠ gb319)); clear HO_16; clear HO_320000; clear HO329; clear BK319; clear HB; have HO_16 := n0_; have HO_320000 := n1_; have HO329 := n2_; have BK319 := n3_; have HB := n4_; have BK334 := n5_; have GW334 := n6_; have GE334 := n7_; have NB319_334 := n8_; have NB334_319 := n9_; clear n0_ n1_ n2_ n3_ n4_ n5_ n6_ n7_ n8_ n9_; clear hb hbox hg; obtain ⟨Ao71, co71, eo71⟩ := Kd.R_slice HO329.out; subst eo71; have hnb72 := NB334_319.out; have hnc72 := NB319_334.out; have hcz73_0 : w70.cell? ⟨gb334, 0, none⟩ = some (.slice none 0 0) := (blk_cell BK334.out 0).trans rfl; have hcz73_1 : w70.cell? ⟨gb334, 1, none⟩ = some (.bool false) := (blk_cell BK334.out 1).trans rfl; have hcz73_2 : w70.cell? ⟨gb334, 2, none⟩ = some (.string (⟨#[]⟩ : ByteArray)) := (blk_cell BK334.out 2).trans rfl; have hcz73_3 : w70.cell? ⟨gb334, 3, none⟩ = some (.string (⟨#[]⟩ : ByteArray)) := (blk_cell BK334.out 3).trans rfl; have hfz73_0 := blk_frozen BK334.out 0; have hfz73_1 := blk_frozen BK334.out 1; have hfz73_2 := blk_frozen BK334.out 2; have hfz73_3 := blk_frozen BK334.out 3)))
                   (try simp only [Act.put, List.setIfInBounds_toArray, List.set_cons_zero, List.set_cons_succ])
                   go_cut [21] (fun v21 wc => ∃ (kq : Nat) (x21_67 : Int) (x335000_67 : List (S39)) (x335001_67 : Bool) (x335002_67 : ByteArray) (x335003_67 : ByteArray) (u335000 : Value), v21 = .int .i64 x21_67 ∧ Aside0 (stowagelaw20_ListingPages.j8 kq l0 a1 a2 (wrap64 (1 + t311)) t297 x10_2 x13_3 x16_6 x19_6 x21_67 x320000_47 x320001_47 x320002_47 x320003_47 x335000_67 x335001_67 x335002_67 x335003_67 = some r) ∧ Aside0 (kq ≤ k6) ∧ Aside0 (Kd.R k39 39 wc w.heap.size (fun k_ => some k_ ≠ (u320000 : Value).ownBlock ∧ some k_ ≠ (u335000 : Value).ownBlock) u16 x16_6) ∧ Aside0 (Kd.R k39 39 wc w.heap.size (fun k_ => some k_ ≠ (u16 : Value).ownBlock ∧ some k_ ≠ (u335000 : Value).ownBlock) u320000 x320000_47) ∧ Aside0 (Kd.R k39 39 wc w.heap.size (fun k_ => some k_ ≠ (u16 : Value).ownBlock ∧ some k_ ≠ (u320000 : Value).ownBlock) u335000 x335000_67) ∧ Aside0 (wc.heap[gb319]? = some (.cells #[u320000, .bool x320001_47, .string x320002_47, .string x320003_47] 28 (0, 0))) ∧ Aside0 (wc.heap[gb334]? = some (.cells #[u335000, .bool x335001_67, .string x335002_67, .string x335003_67] 28 (0, 0))) ∧ Aside0 (Below w.heap.size w wc))
                   case first =>
                    have H := HC68.out
                    clear HC68
                    by_cases c74 : x13_3 = 1
                    ·rw [if_pos c74] at H
                     have c74b0 : (x13_3 == 1) = true := beq_iff_eq.mpr c74
                     have c74b1 : (x13_3 != 1) = false := bne_eq_false_iff_eq.mpr c74
                     clear c74
                     (first|rw [c74b0]|(simp only [i64_w, i32_w]; rw [c74b0])|skip)
                     replace H := Option.bind_eq_some_iff.mp H
                     obtain ⟨⟨t335, t338, t339, t340, t341⟩, A750, H⟩ := H
                     replace H : (stowagelaw20_ListingPages.j8 k6 l0 a1 a2 (wrap64 (1 + t311)) t297 x10_2 x13_3 x16_6 x19_6 t341 x320000_47 x320001_47 x320002_47 x320003_47 t335 t338 t339 t340) = some r := H
                     have A75 := Aside0.mk A750
                     clear A750
                     as_aux_lemma =>
                      have H' := Aside0.mk H
                      clear H
                      go_wp2_with (first|(go_at_call 14; (with_reducible refine (listing_Versions.calls _ _ l0 a1 a2 x17_6 x18_6 (wrap64 (1 + t311)) t335 t338 t339 t340 t341 _ ?side1 ?side2 ?side3 A75.out).mono ?_); (case side1 => first|exact HG.out|exact GM.below (by repeat (first|(with_reducible first|exact HB.out|apply below_alloc|apply pw_below_drewN|apply below_drew1|refine below_set ?_ GE319.out|refine below_set ?_ GE334.out)|exact HB.out)) HG.out|(repeat (first|exact HG.out|apply GM.drewN|apply GM.drew))); (case side2 => exact Kd.C_below HR0.out (by repeat (first|(with_reducible first|exact HB.out|apply below_alloc|apply pw_below_drewN|apply below_drew1|refine below_set ?_ GE319.out|refine below_set ?_ GE334.out)|exact HB.out))); (case side3 => exact HC0.out); rintro e w76 ⟨v336, rfl, ho0, hb⟩; have n0_ := Aside0.mk (Kd.R_elder' (by (with_reducible repeat (first|apply Kd.R_alloc|apply Kd.R_drewN|apply Kd.R_drew)); exact (Kd.R_mono (Kd.R_far (p := ⟨gb334, 3, none⟩) (Kd.R_far (p := ⟨gb334, 2, none⟩) (Kd.R_far (p := ⟨gb334, 1, none⟩) (Kd.R_far (p := ⟨gb334, 0, none⟩) (Kd.R_types HO_16.out BK334.out (by decide)) (fun _ hk => hk.2) (.slice Ao71 t327.length co71)) (fun _ hk => hk.2) (.bool t330)) (fun _ hk => hk.2) (.string t331)) (fun _ hk => hk.2) (.string t332)) (fun _ h_ => h_.1))) (Kd.R_base ho0) hb); have n1_ := Aside0.mk (Kd.R_elder' (by (with_reducible repeat (first|apply Kd.R_alloc|apply Kd.R_drewN|apply Kd.R_drew)); exact (Kd.R_mono (Kd.R_far (p := ⟨gb334, 3, none⟩) (Kd.R_far (p := ⟨gb334, 2, none⟩) (Kd.R_far (p := ⟨gb334, 1, none⟩) (Kd.R_far (p := ⟨gb334, 0, none⟩) (Kd.R_types HO_320000.out BK334.out (by decide)) (fun _ hk => hk.2) (.slice Ao71 t327.length co71)) (fun _ hk => hk.2) (.bool t330)) (fun _ hk => hk.2) (.string t331)) (fun _ hk => hk.2) (.string t332)) (fun _ h_ => h_.1))) (Kd.R_base ho0) hb); have n2_ := Aside0.mk (Kd.R_elder' (by (with_reducible repeat (first|apply Kd.R_alloc|apply Kd.R_drewN|apply Kd.R_drew)); exact (Kd.R_mono (Kd.R_far (p := ⟨gb334, 3, none⟩) (Kd.R_far (p := ⟨gb334, 2, none⟩) (Kd.R_far (p := ⟨gb334, 1, none⟩) (Kd.R_far (p := ⟨gb334, 0, none⟩) (Kd.R_types HO329.out BK334.out (by decide)) (fun _ hk => hk.2) (.slice Ao71 t327.length co71)) (fun _ hk => hk.2) (.bool t330)) (fun _ hk => hk.2) (.string t331)) (fun _ hk => hk.2) (.string t332)) (fun _ h_ => h_.1))) (Kd.R_base ho0) hb); have n3_ := Aside0.mk (Kd.R_lower (Kd.R_new' (Kd.R_new' (Kd.R_new' ho0 (Kd.R_lt (by (with_reducible repeat (first|apply Kd.R_alloc|apply Kd.R_drewN|apply Kd.R_drew)); exact (Kd.R_mono (Kd.R_far (p := ⟨gb334, 3, none⟩) (Kd.R_far (p := ⟨gb334, 2, none⟩) (Kd.R_far (p := ⟨gb334, 1, none⟩) (Kd.R_far (p := ⟨gb334, 0, none⟩) (Kd.R_types HO_16.out BK334.out (by decide)) (fun _ hk => hk.2) (.slice Ao71 t327.length co71)) (fun _ hk => hk.2) (.bool t330)) (fun _ hk => hk.2) (.string t331)) (fun _ hk => hk.2) (.string t332)) (fun _ h_ => h_.1))))) (Kd.R_lt (by (with_reducible repeat (first|apply Kd.R_alloc|apply Kd.R_drewN|apply Kd.R_drew)); exact (Kd.R_mono (Kd.R_far (p := ⟨gb334, 3, none⟩) (Kd.R_far (p := ⟨gb334, 2, none⟩) (Kd.R_far (p := ⟨gb334, 1, none⟩) (Kd.R_far (p := ⟨gb334, 0, none⟩) (Kd.R_types HO_320000.out BK334.out (by decide)) (fun _ hk => hk.2) (.slice Ao71 t327.length co71)) (fun _ hk => hk.2) (.bool t330)) (fun _ hk => hk.2) (.string t331)) (fun _ hk => hk.2) (.string t332)) (fun _ h_ => h_.1))))) (Kd.R_lt (by (with_reducible repeat (first|apply Kd.R_alloc|apply Kd.R_drewN|apply Kd.R_drew)); exact (Kd.R_mono (Kd.R_far (p := ⟨gb334, 3, none⟩) (Kd.R_far (p := ⟨gb334, 2, none⟩) (Kd.R_far (p := ⟨gb334, 1, none⟩) (Kd.R_far (p := ⟨gb334, 0, none⟩) (Kd.R_types HO329.out BK334.out (by decide)) (fun _ hk => hk.2) (.slice Ao71 t327.length co71)) (fun _ hk => hk.2) (.bool t330)) (fun _ hk => hk.2) (.string t331)) (fun _ hk => hk.2) (.string t332)) (fun _ h_ => h_.1))))) (below_size (by repeat (first|(with_reducible first|exact HB.out|apply below_alloc|apply pw_below_drewN|apply below_drew1|refine below_set ?_ GE319.out|refine below_set ?_ GE334.out)|exact HB.out)))); have n4_ := Aside0.mk (blk_below (g := gb319) (o := .cells #[u320000, .bool x320001_47, .string x320002_47, .string x320003_47] 28 (0, 0)) (by (with_reducible repeat (first|refine blk_drewN ?_ _|refine blk_drew ?_|refine blk_alloc ?_ _)); refine blk_far ?_ NB319_334.out _; (with_reducible repeat (first|refine blk_drewN ?_ _|refine blk_drew ?_|refine blk_alloc ?_ _)); refine blk_far ?_ NB319_334.out _; (with_reducible repeat (first|refine blk_drewN ?_ _|refine blk_drew ?_|refine blk_alloc ?_ _)); refine blk_far ?_ NB319_334.out _; (with_reducible repeat (first|refine blk_drewN ?_ _|refine blk_drew ?_|refine blk_alloc ?_ _)); refine blk_far ?_ NB319_334.out _; (with_reducible repeat (first|refine blk_drewN ?_ _|refine blk_drew ?_|refine blk_alloc ?_ _)); exact BK319.out) hb); have n5_ := Aside0.mk (blk_below (g := gb334) (o := .cells #[.slice Ao71 t327.length co71, .bool t330, .string t331, .string t332] 28 (0, 0)) (by (with_reducible repeat (first|refine blk_drewN ?_ _|refine blk_drew ?_|refine blk_alloc ?_ _)); refine blk_put (cs := #[.slice Ao71 t327.length co71, .bool t330, .string t331, .string (⟨#[]⟩ : ByteArray)]) ?_ 3 _ rfl; (with_reducible repeat (first|refine blk_drewN ?_ _|refine blk_drew ?_|refine blk_alloc ?_ _)); refine blk_put (cs := #[.slice Ao71 t327.length co71, .bool t330, .string (⟨#[]⟩ : ByteArray), .string (⟨#[]⟩ : ByteArray)]) ?_ 2 _ rfl; (with_reducible repeat (first|refine blk_drewN ?_ _|refine blk_drew ?_|refine blk_alloc ?_ _)); refine blk_put (cs := #[.slice Ao71 t327.length co71, .bool false, .string (⟨#[]⟩ : ByteArray), .string (⟨#[]⟩ : ByteArray)]) ?_ 1 _ rfl; (with_reducible repeat (first|refine blk_drewN ?_ _|refine blk_drew ?_|refine blk_alloc ?_ _)); refine blk_put (cs := #[.slice none 0 0, .bool false, .string (⟨#[]⟩ : ByteArray), .string (⟨#[]⟩ : ByteArray)]) ?_ 0 _ rfl; (with_reducible repeat (first|refine blk_drewN ?_ _|refine blk_drew ?_|refine blk_alloc ?_ _)); exact BK334.out) hb); have n6_ := Aside0.mk (below_step (by repeat (first|(with_reducible first|exact HB.out|apply below_alloc|apply pw_below_drewN|apply below_drew1|refine below_set ?_ GE319.out|refine below_set ?_ GE334.out)|exact HB.out)) hb); clear HO_16; clear HO_320000; clear HO329; clear BK319; clear BK334; clear HB; have HO_16 := n0_; have HO_320000 := n1_; have HO329 := n2_; have HO337 := n3_; have BK319 := n4_; have BK334 := n5_; have HB := n6_; clear n0_ n1_ n2_ n3_ n4_ n5_ n6_; (try clear hb); (try clear hb2); (try clear hk); (try clear hi); (try clear ho0); obtain ⟨Ao77, co77, eo77⟩ := Kd.R_slice HO337.out; subst eo77; have hnb78 := NB334_319.out; have hnc78 := NB319_334.out; have hcz79_0 : w76.cell? ⟨gb334, 0, none⟩ = some (.slice Ao71 t327.length co71) := (blk_cell BK334.out 0).trans rfl; have hcz79_1 : w76.cell? ⟨gb334, 1, none⟩ = some (.bool t330) := (blk_cell BK334.out 1).trans rfl; have hcz79_2 : w76.cell? ⟨gb334, 2, none⟩ = some (.string t331) := (blk_cell BK334.out 2).trans rfl; have hcz79_3 : w76.cell? ⟨gb334, 3, none⟩ = some (.string t332) := (blk_cell BK334.out 3).trans rfl; have hfz79_0 := blk_frozen BK334.out 0; have hfz79_1 := blk_frozen BK334.out 1; have hfz79_2 := blk_frozen BK334.out 2; have hfz79_3 := blk_frozen BK334.out 3))
                      repeat (go_quiet (first|(go_at_call 14; (with_reducible refine (listing_Versions.calls _ _ l0 a1 a2 x17_6 x18_6 (wrap64 (1 + t311)) t335 t338 t339 t340 t341 _ ?side1 ?side2 ?side3 A75.out).mono ?_); (case side1 => first|exact HG.out|exact GM.below (by repeat (first|(with_reducible first|exact HB.out|apply below_alloc|apply pw_below_drewN|apply below_drew1|refine below_set ?_ GE319.out|refine below_set ?_ GE334.out)|exact HB.out)) HG.out|(repeat (first|exact HG.out|apply GM.drewN|apply GM.drew))); (case side2 => exact Kd.C_below HR0.out (by repeat (first|(with_reducible first|exact HB.out|apply below_alloc|apply pw_below_drewN|apply below_drew1|refine below_set ?_ GE319.out|refine below_set ?_ GE334.out)|exact HB.out))); (case side3 => exact HC0.out); rintro e w76 ⟨v336, rfl, ho0, hb⟩; have n0_ := Aside0.mk (Kd.R_elder' (by (with_reducible repeat (first|apply Kd.R_alloc|apply Kd.R_drewN|apply Kd.R_drew)); exact (Kd.R_mono (Kd.R_far (p := ⟨gb334, 3, none⟩) (Kd.R_far (p := ⟨gb334, 2, none⟩) (Kd.R_far (p := ⟨gb334, 1, none⟩) (Kd.R_far (p := ⟨gb334, 0, none⟩) (Kd.R_types HO_16.out BK334.out (by decide)) (fun _ hk => hk.2) (.slice Ao71 t327.length co71)) (fun _ hk => hk.2) (.bool t330)) (fun _ hk => hk.2) (.string t331)) (fun _ hk => hk.2) (.string t332)) (fun _ h_ => h_.1))) (Kd.R_base ho0) hb); have n1_ := Aside0.mk (Kd.R_elder' (by (with_reducible repeat (first|apply Kd.R_alloc|apply Kd.R_drewN|apply Kd.R_drew)); exact (Kd.R_mono (Kd.R_far (p := ⟨gb334, 3, none⟩) (Kd.R_far (p := ⟨gb334, 2, none⟩) (Kd.R_far (p := ⟨gb334, 1, none⟩) (Kd.R_far (p := ⟨gb334, 0, none⟩) (Kd.R_types HO_320000.out BK334.out (by decide)) (fun _ hk => hk.2) (.slice Ao71 t327.length co71)) (fun _ hk => hk.2) (.bool t330)) (fun _ hk => hk.2) (.string t331)) (fun _ hk => hk.2) (.string t332)) (fun _ h_ => h_.1))) (Kd.R_base ho0) hb); have n2_ := Aside0.mk (Kd.R_elder' (by (with_reducible repeat (first|apply Kd.R_alloc|apply Kd.R_drewN|apply Kd.R_drew)); exact (Kd.R_mono (Kd.R_far (p := ⟨gb334, 3, none⟩) (Kd.R_far (p := ⟨gb334, 2, none⟩) (Kd.R_far (p := ⟨gb334, 1, none⟩) (Kd.R_far (p := ⟨gb334, 0, none⟩) (Kd.R_types HO329.out BK334.out (by decide)) (fun _ hk => hk.2) (.slice Ao71 t327.length co71)) (fun _ hk => hk.2) (.bool t330)) (fun _ hk => hk.2) (.string t331)) (fun _ hk => hk.2) (.string t332)) (fun _ h_ => h_.1))) (Kd.R_base ho0) hb); have n3_ := Aside0.mk (Kd.R_lower (Kd.R_new' (Kd.R_new' (Kd.R_new' ho0 (Kd.R_lt (by (with_reducible repeat (first|apply Kd.R_alloc|apply Kd.R_drewN|apply Kd.R_drew)); exact (Kd.R_mono (Kd.R_far (p := ⟨gb334, 3, none⟩) (Kd.R_far (p := ⟨gb334, 2, none⟩) (Kd.R_far (p := ⟨gb334, 1, none⟩) (Kd.R_far (p := ⟨gb334, 0, none⟩) (Kd.R_types HO_16.out BK334.out (by decide)) (fun _ hk => hk.2) (.slice Ao71 t327.length co71)) (fun _ hk => hk.2) (.bool t330)) (fun _ hk => hk.2) (.string t331)) (fun _ hk => hk.2) (.string t332)) (fun _ h_ => h_.1))))) (Kd.R_lt (by (with_reducible repeat (first|apply Kd.R_alloc|apply Kd.R_drewN|apply Kd.R_drew)); exact (Kd.R_mono (Kd.R_far (p := ⟨gb334, 3, none⟩) (Kd.R_far (p := ⟨gb334, 2, none⟩) (Kd.R_far (p := ⟨gb334, 1, none⟩) (Kd.R_far (p := ⟨gb334, 0, none⟩) (Kd.R_types HO_320000.out BK334.out (by decide)) (fun _ hk => hk.2) (.slice Ao71 t327.length co71)) (fun _ hk => hk.2) (.bool t330)) (fun _ hk => hk.2) (.string t331)) (fun _ hk => hk.2) (.string t332)) (fun _ h_ => h_.1))))) (Kd.R_lt (by (with_reducible repeat (first|apply Kd.R_alloc|apply Kd.R_drewN|apply Kd.R_drew)); exact (Kd.R_mono (Kd.R_far (p := ⟨gb334, 3, none⟩) (Kd.R_far (p := ⟨gb334, 2, none⟩) (Kd.R_far (p := ⟨gb334, 1, none⟩) (Kd.R_far (p := ⟨gb334, 0, none⟩) (Kd.R_types HO329.out BK334.out (by decide)) (fun _ hk => hk.2) (.slice Ao71 t327.length co71)) (fun _ hk => hk.2) (.bool t330)) (fun _ hk => hk.2) (.string t331)) (fun _ hk => hk.2) (.string t332)) (fun _ h_ => h_.1))))) (below_size (by repeat (first|(with_reducible first|exact HB.out|apply below_alloc|apply pw_below_drewN|apply below_drew1|refine below_set ?_ GE319.out|refine below_set ?_ GE334.out)|exact HB.out)))); have n4_ := Aside0.mk (blk_below (g := gb319) (o := .cells #[u320000, .bool x320001_47, .string x320002_47, .string x320003_47] 28 (0, 0)) (by (with_reducible repeat (first|refine blk_drewN ?_ _|refine blk_drew ?_|refine blk_alloc ?_ _)); refine blk_far ?_ NB319_334.out _; (with_reducible repeat (first|refine blk_drewN ?_ _|refine blk_drew ?_|refine blk_alloc ?_ _)); refine blk_far ?_ NB319_334.out _; (with_reducible repeat (first|refine blk_drewN ?_ _|refine blk_drew ?_|refine blk_alloc ?_ _)); refine blk_far ?_ NB319_334.out _; (with_reducible repeat (first|refine blk_drewN ?_ _|refine blk_drew ?_|refine blk_alloc ?_ _)); refine blk_far ?_ NB319_334.out _; (with_reducible repeat (first|refine blk_drewN ?_ _|refine blk_drew ?_|refine blk_alloc ?_ _)); exact BK319.out) hb); have n5_ := Aside0.mk (blk_below (g := gb334) (o := .cells #[.slice Ao71 t327.length co71, .bool t330, .string t331, .string t332] 28 (0, 0)) (by (with_reducible repeat (first|refine blk_drewN ?_ _|refine blk_drew ?_|refine blk_alloc ?_ _)); refine blk_put (cs := #[.slice Ao71 t327.length co71, .bool t330, .string t331, .string (⟨#[]⟩ : ByteArray)]) ?_ 3 _ rfl; (with_reducible repeat (first|refine blk_drewN ?_ _|refine blk_drew ?_|refine blk_alloc ?_ _)); refine blk_put (cs := #[.slice Ao71 t327.length co71, .bool t330, .string (⟨#[]⟩ : ByteArray), .string (⟨#[]⟩ : ByteArray)]) ?_ 2 _ rfl; (with_reducible repeat (first|refine blk_drewN ?_ _|refine blk_drew ?_|refine blk_alloc ?_ _)); refine blk_put (cs := #[.slice Ao71 t327.length co71, .bool false, .string (⟨#[]⟩ : ByteArray), .string (⟨#[]⟩ : ByteArray)]) ?_ 1 _ rfl; (with_reducible repeat (first|refine blk_drewN ?_ _|refine blk_drew ?_|refine blk_alloc ?_ _)); refine blk_put (cs := #[.slice none 0 0, .bool false, .string (⟨#[]⟩ : ByteArray), .string (⟨#[]⟩ : ByteArray)]) ?_ 0 _ rfl; (with_reducible repeat (first|refine blk_drewN ?_ _|refine blk_drew ?_|refine blk_alloc ?_ _)); exact BK334.out) hb); have n6_ := Aside0.mk (below_step (by repeat (first|(with_reducible first|exact HB.out|apply below_alloc|apply pw_below_drewN|apply below_drew1|refine below_set ?_ GE319.out|refine below_set ?_ GE334.out)|exact HB.out)) hb); clear HO_16; clear HO_320000; clear HO329; clear BK319; clear BK334; clear HB; have HO_16 := n0_; have HO_320000 := n1_; have HO329 := n2_; have HO337 := n3_; have BK319 := n4_; have BK334 := n5_; have HB := n6_; clear n0_ n1_ n2_ n3_ n4_ n5_ n6_; (try clear hb); (try clear hb2); (try clear hk); (try clear hi); (try clear ho0); obtain ⟨Ao77, co77, eo77⟩ := Kd.R_slice HO337.out; subst eo77; have hnb78 := NB334_319.out; have hnc78 := NB319_334.out; have hcz79_0 : w76.cell? ⟨gb334, 0, none⟩ = some (.slice Ao71 t327.length co71) := (blk_cell BK334.out 0).trans rfl; have hcz79_1 : w76.cell? ⟨gb334, 1, none⟩ = some (.bool t330) := (blk_cell BK334.out 1).trans rfl; have hcz79_2 : w76.cell? ⟨gb334, 2, none⟩ = some (.string t331) := (blk_cell BK334.out 2).trans rfl; have hcz79_3 : w76.cell? ⟨gb334, 3, none⟩ = some (.string t332) := (blk_cell BK334.out 3).trans rfl; have hfz79_0 := blk_frozen BK334.out 0; have hfz79_1 := blk_frozen BK334.out 1; have hfz79_2 := blk_frozen BK334.out 2; have hfz79_3 := blk_frozen BK334.out 3)); try go_wp2_with (first|(go_at_call 14; (with_reducible refine (listing_Versions.calls _ _ l0 a1 a2 x17_6 x18_6 (wrap64 (1 + t311)) t335 t338 t339 t340 t341 _ ?side1 ?side2 ?side3 A75.out).mono ?_); (case side1 => first|exact HG.out|exact GM.below (by repeat (first|(with_reducible first|exact HB.out|apply below_alloc|apply pw_below_drewN|apply below_drew1|refine below_set ?_ GE319.out|refine below_set ?_ GE334.out)|exact HB.out)) HG.out|(repeat (first|exact HG.out|apply GM.drewN|apply GM.drew))); (case side2 => exact Kd.C_below HR0.out (by repeat (first|(with_reducible first|exact HB.out|apply below_alloc|apply pw_below_drewN|apply below_drew1|refine below_set ?_ GE319.out|refine below_set ?_ GE334.out)|exact HB.out))); (case side3 => exact HC0.out); rintro e w76 ⟨v336, rfl, ho0, hb⟩; have n0_ := Aside0.mk (Kd.R_elder' (by (with_reducible repeat (first|apply Kd.R_alloc|apply Kd.R_drewN|apply Kd.R_drew)); exact (Kd.R_mono (Kd.R_far (p := ⟨gb334, 3, none⟩) (Kd.R_far (p := ⟨gb334, 2, none⟩) (Kd.R_far (p := ⟨gb334, 1, none⟩) (Kd.R_far (p := ⟨gb334, 0, none⟩) (Kd.R_types HO_16.out BK334.out (by decide)) (fun _ hk => hk.2) (.slice Ao71 t327.length co71)) (fun _ hk => hk.2) (.bool t330)) (fun _ hk => hk.2) (.string t331)) (fun _ hk => hk.2) (.string t332)) (fun _ h_ => h_.1))) (Kd.R_base ho0) hb); have n1_ := Aside0.mk (Kd.R_elder' (by (with_reducible repeat (first|apply Kd.R_alloc|apply Kd.R_drewN|apply Kd.R_drew)); exact (Kd.R_mono (Kd.R_far (p := ⟨gb334, 3, none⟩) (Kd.R_far (p := ⟨gb334, 2, none⟩) (Kd.R_far (p := ⟨gb334, 1, none⟩) (Kd.R_far (p := ⟨gb334, 0, none⟩) (Kd.R_types HO_320000.out BK334.out (by decide)) (fun _ hk => hk.2) (.slice Ao71 t327.length co71)) (fun _ hk => hk.2) (.bool t330)) (fun _ hk => hk.2) (.string t331)) (fun _ hk => hk.2) (.string t332)) (fun _ h_ => h_.1))) (Kd.R_base ho0) hb); have n2_ := Aside0.mk (Kd.R_elder' (by (with_reducible repeat (first|apply Kd.R_alloc|apply Kd.R_drewN|apply Kd.R_drew)); exact (Kd.R_mono (Kd.R_far (p := ⟨gb334, 3, none⟩) (Kd.R_far (p := ⟨gb334, 2, none⟩) (Kd.R_far (p := ⟨gb334, 1, none⟩) (Kd.R_far (p := ⟨gb334, 0, none⟩) (Kd.R_types HO329.out BK334.out (by decide)) (fun _ hk => hk.2) (.slice Ao71 t327.length co71)) (fun _ hk => hk.2) (.bool t330)) (fun _ hk => hk.2) (.string t331)) (fun _ hk => hk.2) (.string t332)) (fun _ h_ => h_.1))) (Kd.R_base ho0) hb); have n3_ := Aside0.mk (Kd.R_lower (Kd.R_new' (Kd.R_new' (Kd.R_new' ho0 (Kd.R_lt (by (with_reducible repeat (first|apply Kd.R_alloc|apply Kd.R_drewN|apply Kd.R_drew)); exact (Kd.R_mono (Kd.R_far (p := ⟨gb334, 3, none⟩) (Kd.R_far (p := ⟨gb334, 2, none⟩) (Kd.R_far (p := ⟨gb334, 1, none⟩) (Kd.R_far (p := ⟨gb334, 0, none⟩) (Kd.R_types HO_16.out BK334.out (by decide)) (fun _ hk => hk.2) (.slice Ao71 t327.length co71)) (fun _ hk => hk.2) (.bool t330)) (fun _ hk => hk.2) (.string t331)) (fun _ hk => hk.2) (.string t332)) (fun _ h_ => h_.1))))) (Kd.R_lt (by (with_reducible repeat (first|apply Kd.R_alloc|apply Kd.R_drewN|apply Kd.R_drew)); exact (Kd.R_mono (Kd.R_far (p := ⟨gb334, 3, none⟩) (Kd.R_far (p := ⟨gb334, 2, none⟩) (Kd.R_far (p := ⟨gb334, 1, none⟩) (Kd.R_far (p := ⟨gb334, 0, none⟩) (Kd.R_types HO_320000.out BK334.out (by decide)) (fun _ hk => hk.2) (.slice Ao71 t327.length co71)) (fun _ hk => hk.2) (.bool t330)) (fun _ hk => hk.2) (.string t331)) (fun _ hk => hk.2) (.string t332)) (fun _ h_ => h_.1))))) (Kd.R_lt (by (with_reducible repeat (first|apply Kd.R_alloc|apply Kd.R_drewN|apply Kd.R_drew)); exact (Kd.R_mono (Kd.R_far (p := ⟨gb334, 3, none⟩) (Kd.R_far (p := ⟨gb334, 2, none⟩) (Kd.R_far (p := ⟨gb334, 1, none⟩) (Kd.R_far (p := ⟨gb334, 0, none⟩) (Kd.R_types HO329.out BK334.out (by decide)) (fun _ hk => hk.2) (.slice Ao71 t327.length co71)) (fun _ hk => hk.2) (.bool t330)) (fun _ hk => hk.2) (.string t331)) (fun _ hk => hk.2) (.string t332)) (fun _ h_ => h_.1))))) (below_size (by repeat (first|(with_reducible first|exact HB.out|apply below_alloc|apply pw_below_drewN|apply below_drew1|refine below_set ?_ GE319.out|refine below_set ?_ GE334.out)|exact HB.out)))); have n4_ := Aside0.mk (blk_below (g := gb319) (o := .cells #[u320000, .bool x320001_47, .string x320002_47, .string x320003_47] 28 (0, 0)) (by (with_reducible repeat (first|refine blk_drewN ?_ _|refine blk_drew ?_|refine blk_alloc ?_ _)); refine blk_far ?_ NB319_334.out _; (with_reducible repeat (first|refine blk_drewN ?_ _|refine blk_drew ?_|refine blk_alloc ?_ _)); refine blk_far ?_ NB319_334.out _; (with_reducible repeat (first|refine blk_drewN ?_ _|refine blk_drew ?_|refine blk_alloc ?_ _)); refine blk_far ?_ NB319_334.out _; (with_reducible repeat (first|refine blk_drewN ?_ _|refine blk_drew ?_|refine blk_alloc ?_ _)); refine blk_far ?_ NB319_334.out _; (with_reducible repeat (first|refine blk_drewN ?_ _|refine blk_drew ?_|refine blk_alloc ?_ _)); exact BK319.out) hb); have n5_ := Aside0.mk (blk_below (g := gb334) (o := .cells #[.slice Ao71 t327.length co71, .bool t330, .string t331, .string t332] 28 (0, 0)) (by (with_reducible repeat (first|refine blk_drewN ?_ _|refine blk_drew ?_|refine blk_alloc ?_ _)); refine blk_put (cs := #[.slice Ao71 t327.length co71, .bool t330, .string t331, .string (⟨#[]⟩ : ByteArray)]) ?_ 3 _ rfl; (with_reducible repeat (first|refine blk_drewN ?_ _|refine blk_drew ?_|refine blk_alloc ?_ _)); refine blk_put (cs := #[.slice Ao71 t327.length co71, .bool t330, .string (⟨#[]⟩ : ByteArray), .string (⟨#[]⟩ : ByteArray)]) ?_ 2 _ rfl; (with_reducible repeat (first|refine blk_drewN ?_ _|refine blk_drew ?_|refine blk_alloc ?_ _)); refine blk_put (cs := #[.slice Ao71 t327.length co71, .bool false, .string (⟨#[]⟩ : ByteArray), .string (⟨#[]⟩ : ByteArray)]) ?_ 1 _ rfl; (with_reducible repeat (first|refine blk_drewN ?_ _|refine blk_drew ?_|refine blk_alloc ?_ _)); refine blk_put (cs := #[.slice none 0 0, .bool false, .string (⟨#[]⟩ : ByteArray), .string (⟨#[]⟩ : ByteArray)]) ?_ 0 _ rfl; (with_reducible repeat (first|refine blk_drewN ?_ _|refine blk_drew ?_|refine blk_alloc ?_ _)); exact BK334.out) hb); have n6_ := Aside0.mk (below_step (by repeat (first|(with_reducible first|exact HB.out|apply below_alloc|apply pw_below_drewN|apply below_drew1|refine below_set ?_ GE319.out|refine below_set ?_ GE334.out)|exact HB.out)) hb); clear HO_16; clear HO_320000; clear HO329; clear BK319; clear BK334; clear HB; have HO_16 := n0_; have HO_320000 := n1_; have HO329 := n2_; have HO337 := n3_; have BK319 := n4_; have BK334 := n5_; have HB := n6_; clear n0_ n1_ n2_ n3_ n4_ n5_ n6_; (try clear hb); (try clear hb2); (try clear hk); (try clear hi); (try clear ho0); obtain ⟨Ao77, co77, eo77⟩ := Kd.R_slice HO337.out; subst eo77; have hnb78 := NB334_319.out; have hnc78 := NB319_334.out; have hcz79_0 : w76.cell? ⟨gb334, 0, none⟩ = some (.slice Ao71 t327.length co71) := (blk_cell BK334.out 0).trans rfl; have hcz79_1 : w76.cell? ⟨gb334, 1, none⟩ = some (.bool t330) := (blk_cell BK334.out 1).trans rfl; have hcz79_2 : w76.cell? ⟨gb334, 2, none⟩ = some (.string t331) := (blk_cell BK334.out 2).trans rfl; have hcz79_3 : w76.cell? ⟨gb334, 3, none⟩ = some (.string t332) := (blk_cell BK334.out 3).trans rfl; have hfz79_0 := blk_frozen BK334.out 0; have hfz79_1 := blk_frozen BK334.out 1; have hfz79_2 := blk_frozen BK334.out 2; have hfz79_3 := blk_frozen BK334.out 3)))
                      go_meet
                      case rel => exact ⟨_, (t341), (t335), (t338), (t339), (t340), (.slice Ao77 t335.length co77), (by first|rfl|(simp; done)|(simp [*]; done)), H', ⟨by have := HJ5.out; have := HK2.out; have := HK3.out; have := HJ47.out; have := HJ57.out; have := HK6.out; first|omega|exact Nat.le_refl _⟩, ⟨by (with_reducible repeat (first|apply Kd.R_alloc|apply Kd.R_drewN|apply Kd.R_drew)); exact Kd.R_mono (Kd.R_far (p := ⟨gb334, 3, none⟩) (Kd.R_far (p := ⟨gb334, 2, none⟩) (Kd.R_far (p := ⟨gb334, 1, none⟩) (Kd.R_far (p := ⟨gb334, 0, none⟩) (Kd.R_types HO_16.out BK334.out (by decide)) (fun _ hk => hk.2) (.slice Ao77 t335.length co77)) (fun _ hk => hk.2) (.bool t338)) (fun _ hk => hk.2) (.string t339)) (fun _ hk => hk.2) (.string t340)) (fun _ hk => ⟨hk.1.1.1, hk.1.2⟩)⟩, ⟨by (with_reducible repeat (first|apply Kd.R_alloc|apply Kd.R_drewN|apply Kd.R_drew)); exact Kd.R_mono (Kd.R_far (p := ⟨gb334, 3, none⟩) (Kd.R_far (p := ⟨gb334, 2, none⟩) (Kd.R_far (p := ⟨gb334, 1, none⟩) (Kd.R_far (p := ⟨gb334, 0, none⟩) (Kd.R_types HO_320000.out BK334.out (by decide)) (fun _ hk => hk.2) (.slice Ao77 t335.length co77)) (fun _ hk => hk.2) (.bool t338)) (fun _ hk => hk.2) (.string t339)) (fun _ hk => hk.2) (.string t340)) (fun _ hk => ⟨hk.1.1.1, hk.1.2⟩)⟩, ⟨by (with_reducible repeat (first|apply Kd.R_alloc|apply Kd.R_drewN|apply Kd.R_drew)); exact Kd.R_mono (Kd.R_far (p := ⟨gb334, 3, none⟩) (Kd.R_far (p := ⟨gb334, 2, none⟩) (Kd.R_far (p := ⟨gb334, 1, none⟩) (Kd.R_far (p := ⟨gb334, 0, none⟩) (Kd.R_types HO337.out BK334.out (by decide)) (fun _ hk => hk.2) (.slice Ao77 t335.length co77)) (fun _ hk => hk.2) (.bool t338)) (fun _ hk => hk.2) (.string t339)) (fun _ hk => hk.2) (.string t340)) (fun _ hk => ⟨hk.1.1.1.2, hk.1.1.2⟩)⟩, ⟨by (with_reducible repeat (first|refine blk_drewN ?_ _|refine blk_drew ?_|refine blk_alloc ?_ _)); refine blk_far ?_ NB319_334.out _; (with_reducible repeat (first|refine blk_drewN ?_ _|refine blk_drew ?_|refine blk_alloc ?_ _)); refine blk_far ?_ NB319_334.out _; (with_reducible repeat (first|refine blk_drewN ?_ _|refine blk_drew ?_|refine blk_alloc ?_ _)); refine blk_far ?_ NB319_334.out _; (with_reducible repeat (first|refine blk_drewN ?_ _|refine blk_drew ?_|refine blk_alloc ?_ _)); refine blk_far ?_ NB319_334.out _; (with_reducible repeat (first|refine blk_drewN ?_ _|refine blk_drew ?_|refine blk_alloc ?_ _)); exact BK319.out⟩, ⟨by (with_reducible repeat (first|refine blk_drewN ?_ _|refine blk_drew ?_|refine blk_alloc ?_ _)); refine blk_put (cs := #[.slice Ao77 t335.length co77, .bool t338, .string t339, .string t332]) ?_ 3 _ rfl; (with_reducible repeat (first|refine blk_drewN ?_ _|refine blk_drew ?_|refine blk_alloc ?_ _)); refine blk_put (cs := #[.slice Ao77 t335.length co77, .bool t338, .string t331, .string t332]) ?_ 2 _ rfl; (with_reducible repeat (first|refine blk_drewN ?_ _|refine blk_drew ?_|refine blk_alloc ?_ _)); refine blk_put (cs := #[.slice Ao77 t335.length co77, .bool t330, .string t331, .string t332]) ?_ 1 _ rfl; (with_reducible repeat (first|refine blk_drewN ?_ _|refine blk_drew ?_|refine blk_alloc ?_ _)); refine blk_put (cs := #[.slice Ao71 t327.length co71, .bool t330, .string t331, .string t332]) ?_ 0 _ rfl; (with_reducible repeat (first|refine blk_drewN ?_ _|refine blk_drew ?_|refine blk_alloc ?_ _)); exact BK334.out⟩, ⟨by repeat (first|(with_reducible first|exact HB.out|apply below_alloc|apply pw_below_drewN|apply below_drew1|refine below_set ?_ GE319.out|refine below_set ?_ GE334.out)|exact HB.out)⟩⟩
                    ·rw [if_neg c74] at H
                     have c74b0 : (x13_3 == 1) = false := beq_eq_false_iff_ne.mpr c74
                     have c74b1 : (x13_3 != 1) = true := bne_iff_ne.mpr c74
                     (first|rw [c74b0]|(simp only [i64_w, i32_w]; rw [c74b0])|skip)
                     as_aux_lemma =>
                      have H' := Aside0.mk H
                      clear H
                      go_wp2
                      repeat (go_quiet (fail); try go_wp2)
                      go_meet
                      case rel => exact ⟨_, (t333), (t327), (t330), (t331), (t332), (.slice Ao71 t327.length co71), (by first|rfl|(simp; done)|(simp [*]; done)), H', ⟨by have := HJ5.out; have := HK2.out; have := HK3.out; have := HJ47.out; have := HJ57.out; have := HK6.out; first|omega|exact Nat.le_refl _⟩, ⟨by (with_reducible repeat (first|apply Kd.R_alloc|apply Kd.R_drewN|apply Kd.R_drew)); exact Kd.R_mono (Kd.R_far (p := ⟨gb334, 3, none⟩) (Kd.R_far (p := ⟨gb334, 2, none⟩) (Kd.R_far (p := ⟨gb334, 1, none⟩) (Kd.R_far (p := ⟨gb334, 0, none⟩) (Kd.R_types HO_16.out BK334.out (by decide)) (fun _ hk => hk.2) (.slice Ao71 t327.length co71)) (fun _ hk => hk.2) (.bool t330)) (fun _ hk => hk.2) (.string t331)) (fun _ hk => hk.2) (.string t332)) (fun _ hk => ⟨hk.1.1, hk.1.2⟩)⟩, ⟨by (with_reducible repeat (first|apply Kd.R_alloc|apply Kd.R_drewN|apply Kd.R_drew)); exact Kd.R_mono (Kd.R_far (p := ⟨gb334, 3, none⟩) (Kd.R_far (p := ⟨gb334, 2, none⟩) (Kd.R_far (p := ⟨gb334, 1, none⟩) (Kd.R_far (p := ⟨gb334, 0, none⟩) (Kd.R_types HO_320000.out BK334.out (by decide)) (fun _ hk => hk.2) (.slice Ao71 t327.length co71)) (fun _ hk => hk.2) (.bool t330)) (fun _ hk => hk.2) (.string t331)) (fun _ hk => hk.2) (.string t332)) (fun _ hk => ⟨hk.1.1, hk.1.2⟩)⟩, ⟨by (with_reducible repeat (first|apply Kd.R_alloc|apply Kd.R_drewN|apply Kd.R_drew)); exact Kd.R_mono (Kd.R_far (p := ⟨gb334, 3, none⟩) (Kd.R_far (p := ⟨gb334, 2, none⟩) (Kd.R_far (p := ⟨gb334, 1, none⟩) (Kd.R_far (p := ⟨gb334, 0, none⟩) (Kd.R_types HO329.out BK334.out (by decide)) (fun _ hk => hk.2) (.slice Ao71 t327.length co71)) (fun _ hk => hk.2) (.bool t330)) (fun _ hk => hk.2) (.string t331)) (fun _ hk => hk.2) (.string t332)) (fun _ hk => ⟨hk.1.1.2, hk.1.2⟩)⟩, ⟨by (with_reducible repeat (first|refine blk_drewN ?_ _|refine blk_drew ?_|refine blk_alloc ?_ _)); refine blk_far ?_ NB319_334.out _; (with_reducible repeat (first|refine blk_drewN ?_ _|refine blk_drew ?_|refine blk_alloc ?_ _)); refine blk_far ?_ NB319_334.out _; (with_reducible repeat (first|refine blk_drewN ?_ _|refine blk_drew ?_|refine blk_alloc ?_ _)); refine blk_far ?_ NB319_334.out _; (with_reducible repeat (first|refine blk_drewN ?_ _|refine blk_drew ?_|refine blk_alloc ?_ _)); refine blk_far ?_ NB319_334.out _; (with_reducible repeat (first|refine blk_drewN ?_ _|refine blk_drew ?_|refine blk_alloc ?_ _)); exact BK319.out⟩, ⟨by (with_reducible repeat (first|refine blk_drewN ?_ _|refine blk_drew ?_|refine blk_alloc ?_ _)); refine blk_put (cs := #[.slice Ao71 t327.length co71, .bool t330, .string t331, .string (⟨#[]⟩ : ByteArray)]) ?_ 3 _ rfl; (with_reducible repeat (first|refine blk_drewN ?_ _|refine blk_drew ?_|refine blk_alloc ?_ _)); refine blk_put (cs := #[.slice Ao71 t327.length co71, .bool t330, .string (⟨#[]⟩ : ByteArray), .string (⟨#[]⟩ : ByteArray)]) ?_ 2 _ rfl; (with_reducible repeat (first|refine blk_drewN ?_ _|refine blk_drew ?_|refine blk_alloc ?_ _)); refine blk_put (cs := #[.slice Ao71 t327.length co71, .bool false, .string (⟨#[]⟩ : ByteArray), .string (⟨#[]⟩ : ByteArray)]) ?_ 1 _ rfl; (with_reducible repeat (first|refine blk_drewN ?_ _|refine blk_drew ?_|refine blk_alloc ?_ _)); refine blk_put (cs := #[.slice none 0 0, .bool false, .string (⟨#[]⟩ : ByteArray), .string (⟨#[]⟩ : ByteArray)]) ?_ 0 _ rfl; (with_reducible repeat (first|refine blk_drewN ?_ _|refine blk_drew ?_|refine blk_alloc ?_ _)); exact BK334.out⟩, ⟨by repeat (first|(with_reducible first|exact HB.out|apply below_alloc|apply pw_below_drewN|apply below_drew1|refine below_set ?_ GE319.out|refine below_set ?_ GE334.out)|exact HB.out)⟩⟩
                   case rest =>
                    clear HC68
                    try clear c1
                    try clear c2
                    try clear p2
                    try clear c3
                    try clear p3
                    try clear q3
                    try clear hx3
                    try clear c4
                    try clear c5
                    try clear c6
                    try clear p6
                    try clear c7
                    try clear c9
                    try clear c11
                    try clear c11b0
                    try clear c11b1
                    try clear c13
                    try clear c18
                    try clear c18b0
                    try clear c18b1
                    try clear c23
                    try clear c23b0
                    try clear c23b1
                    try clear c30
                    try clear p30
                    try clear q30
                    try clear hx30
                    try clear p31
                    try clear q31
                    try clear hx31
                    try clear c34
                    try clear c35
                    try clear c35b0
                    try clear c37
                    try clear c37b0
                    try clear c38
                    try clear c38b0
                    try clear c38b1
                    try clear c39
                    try clear c40
                    try clear c40b0
                    try clear c41
                    try clear c41b0
                    try clear c42
                    try clear c42b0
                    try clear c43
                    try clear c43b0
                    try clear c44
                    try clear c44b0
                    try clear c44b1
                    try clear c46
                    try clear c46b0
                    try clear c53
                    try clear c53b0
                    try clear c53b1
                    try clear c59
                    try clear c59b0
                    try clear c59b1
                    try clear c60
                    try clear c64
                    try clear p64
                    try clear c66
                    try clear c66b0
                    try clear c72
                    try clear c74
                    try clear c74b0
                    try clear c74b1
                    try clear c78
                    try clear hcz52_0
                    try clear hcz52_1
                    try clear hcz52_2
                    try clear hcz52_3
                    try clear hcz57_0
                    try clear hcz57_1
                    try clear hcz57_2
                    try clear hcz57_3
                    try clear hcz61_0
                    try clear hcz61_1
                    try clear hcz61_2
                    try clear hcz61_3
                    try clear hcz62_0
                    try clear hcz62_1
                    try clear hcz62_2
                    try clear hcz62_3
                    try clear hcz73_0
                    try clear hcz73_1
                    try clear hcz73_2
                    try clear hcz73_3
                    try clear hcz79_0
                    try clear hcz79_1
                    try clear hcz79_2
                    try clear hcz79_3
                    try clear hfz52_0
                    try clear hfz52_1
                    try clear hfz52_2
                    try clear hfz52_3
                    try clear hfz57_0
                    try clear hfz57_1
                    try clear hfz57_2
                    try clear hfz57_3
                    try clear hfz61_0
                    try clear hfz61_1
                    try clear hfz61_2
                    try clear hfz61_3
                    try clear hfz62_0
                    try clear hfz62_1
                    try clear hfz62_2
                    try clear hfz62_3
                    try clear hfz73_0
                    try clear hfz73_1
                    try clear hfz73_2
                    try clear hfz73_3
                    try clear hfz79_0
                    try clear hfz79_1
                    try clear hfz79_2
                    try clear hfz79_3
                    try clear hx305_0
                    try clear hx305_1
                    try clear hx306_0
                    try clear hx306_1
                    try clear hx307_0
                    try clear hx307_1
                    try clear hx308_0
                    try clear hx308_1
                    try clear hx309_0
                    try clear hx309_1
                    try clear hx310_0
                    try clear hx310_1
                    try clear hx310_2
                    try clear hx310_3
                    try clear hx310_4
                    try clear p2
                    try clear p3
                    try clear p30
                    try clear p305
                    try clear p306
                    try clear p307
                    try clear p308
                    try clear p309
                    try clear p31
                    try clear p310
                    try clear p6
                    try clear p64
                    try clear q3
                    try clear q30
                    try clear q305
                    try clear q306
                    try clear q307
                    try clear q308
                    try clear q309
                    try clear q31
                    try clear q310
                    obtain ⟨kq, x21_67, x335000_67, x335001_67, x335002_67, x335003_67, u335000, rfl, HA, HJ67, HO_16, HO_320000, HO_335000, BK319, BK334, HB⟩ := hcut
                    cases kq with
                    | zero => exact absurd HA.out (by simp [stowagelaw20_ListingPages.j8])
                    | succ kj67 =>
                     have H := HA.out
                     clear HA
                     simp only [stowagelaw20_ListingPages.j8] at H
                     have HC80 := Aside0.mk H
                     clear H
                     go_upto_region 33 with (fail)
                     repeat (go_quiet (fail); go_upto_region 33 with (fail))
                     go_cut [186] (fun v186 wc => ∃ (kq : Nat) (x186_79 : Bool), v186 = .bool x186_79 ∧ Aside0 (stowagelaw20_ListingPages.j9 kq l0 a1 a2 (wrap64 (1 + t311)) t297 x10_2 x13_3 x16_6 x19_6 x186_79 x320000_47 x320001_47 x320002_47 x320003_47 x335000_67 x335001_67 x335002_67 x335003_67 = some r) ∧ Aside0 (kq ≤ kj67) ∧ Aside0 (Kd.R k39 39 wc w.heap.size (fun k_ => some k_ ≠ (u320000 : Value).ownBlock ∧ some k_ ≠ (u335000 : Value).ownBlock) u16 x16_6) ∧ Aside0 (Kd.R k39 39 wc w.heap.size (fun k_ => some k_ ≠ (u16 : Value).ownBlock ∧ some k_ ≠ (u335000 : Value).ownBlock) u320000 x320000_47) ∧ Aside0 (Kd.R k39 39 wc w.heap.size (fun k_ => some k_ ≠ (u16 : Value).ownBlock ∧ some k_ ≠ (u320000 : Value).ownBlock) u335000 x335000_67) ∧ Aside0 (wc.heap[gb319]? = some (.cells #[u320000, .bool x320001_47, .string x320002_47, .string x320003_47] 28 (0, 0))) ∧ Aside0 (wc.heap[gb334]? = some (.cells #[u335000, .bool x335001_67, .string x335002_67, .string x335003_67] 28 (0, 0))) ∧ Aside0 (Below w.heap.size w wc))
                     case first =>
                      have H := HC80.out
                      clear HC80
                      by_cases c81 : x21_67 = 0
                      ·rw [if_pos c81] at H
                       have c81b0 : (x21_67 == 0) = true := beq_iff_eq.mpr c81
                       have c81b1 : (x21_67 != 0) = false := bne_eq_false_iff_eq.mpr c81
                       clear c81
                       (first|rw [c81b0]|(simp only [i64_w, i32_w]; rw [c81b0])|skip)
                       by_cases c82 : (x335000_67.length : Int) > (wrap64 (1 + t311))
                       ·rw [if_pos c82] at H
                        have c82b0 : decide ((wrap64 (1 + t311)) < (x335000_67.length : Int)) = true := decide_eq_true c82
                        clear c82
                        as_aux_lemma =>
                         have H' := Aside0.mk H
                         clear H
                         have hnb83 := NB334_319.out
                         have hnc83 := NB319_334.out
                         have hcz84_0 : wc.cell? ⟨gb334, 0, none⟩ = some (u335000) := (blk_cell BK334.out 0).trans rfl
                         have hcz84_1 : wc.cell? ⟨gb334, 1, none⟩ = some (.bool x335001_67) := (blk_cell BK334.out 1).trans rfl
                         have hcz84_2 : wc.cell? ⟨gb334, 2, none⟩ = some (.string x335002_67) := (blk_cell BK334.out 2).trans rfl
                         have hcz84_3 : wc.cell? ⟨gb334, 3, none⟩ = some (.string x335003_67) := (blk_cell BK334.out 3).trans rfl
                         have hfz84_0 := blk_frozen BK334.out 0
                         have hfz84_1 := blk_frozen BK334.out 1
                         have hfz84_2 := blk_frozen BK334.out 2
                         have hfz84_3 := blk_frozen BK334.out 3
                         obtain ⟨Ao85, co85, eo85⟩ := Kd.R_slice HO_335000.out
                         subst eo85
                         go_wp2
                         repeat (go_quiet (fail); try go_wp2)
                         go_meet
                         case rel => exact ⟨_, (true), (by first|rfl|(simp; done)|(simp [*]; done)), H', ⟨by have := HJ5.out; have := HK2.out; have := HK3.out; have := HJ47.out; have := HJ57.out; have := HK6.out; have := HJ67.out; first|omega|exact Nat.le_refl _⟩, ⟨by (with_reducible repeat (first|apply Kd.R_alloc|apply Kd.R_drewN|apply Kd.R_drew)); exact HO_16.out⟩, ⟨by (with_reducible repeat (first|apply Kd.R_alloc|apply Kd.R_drewN|apply Kd.R_drew)); exact HO_320000.out⟩, ⟨by (with_reducible repeat (first|apply Kd.R_alloc|apply Kd.R_drewN|apply Kd.R_drew)); exact HO_335000.out⟩, ⟨by (with_reducible repeat (first|refine blk_drewN ?_ _|refine blk_drew ?_|refine blk_alloc ?_ _)); exact BK319.out⟩, ⟨by (with_reducible repeat (first|refine blk_drewN ?_ _|refine blk_drew ?_|refine blk_alloc ?_ _)); exact BK334.out⟩, ⟨by repeat (first|(with_reducible first|exact HB.out|apply below_alloc|apply pw_below_drewN|apply below_drew1|refine below_set ?_ GE319.out|refine below_set ?_ GE334.out)|exact HB.out)⟩⟩
                       ·rw [if_neg c82] at H
                        have c82b0 : decide ((wrap64 (1 + t311)) < (x335000_67.length : Int)) = false := decide_eq_false c82
                        clear c82
                        by_cases c86 : x335001_67 = true
                        ·subst c86
                         have H1 : (stowagelaw20_ListingPages.j9 kj67 l0 a1 a2 (wrap64 (1 + t311)) t297 x10_2 x13_3 x16_6 x19_6 ((x335000_67.length : Int) != (wrap64 (1 + t311))) x320000_47 x320001_47 x320002_47 x320003_47 x335000_67 true x335002_67 x335003_67) = some r := by rw [if_pos rfl] at H; exact H
                         clear H
                         have H := H1
                         clear H1
                         as_aux_lemma =>
                          have H' := Aside0.mk H
                          clear H
                          have hnb87 := NB334_319.out
                          have hnc87 := NB319_334.out
                          have hcz88_0 : wc.cell? ⟨gb334, 0, none⟩ = some (u335000) := (blk_cell BK334.out 0).trans rfl
                          have hcz88_1 : wc.cell? ⟨gb334, 1, none⟩ = some (.bool true) := (blk_cell BK334.out 1).trans rfl
                          have hcz88_2 : wc.cell? ⟨gb334, 2, none⟩ = some (.string x335002_67) := (blk_cell BK334.out 2).trans rfl
                          have hcz88_3 : wc.cell? ⟨gb334, 3, none⟩ = some (.string x335003_67) := (blk_cell BK334.out 3).trans rfl
                          have hfz88_0 := blk_frozen BK334.out 0
                          have hfz88_1 := blk_frozen BK334.out 1
                          have hfz88_2 := blk_frozen BK334.out 2
                          have hfz88_3 := blk_frozen BK334.out 3
                          obtain ⟨Ao89, co89, eo89⟩ := Kd.R_slice HO_335000.out
                          subst eo89
                          go_wp2
                          repeat (go_quiet (fail); try go_wp2)
                          go_meet
                          case rel => exact ⟨_, (((x335000_67.length : Int) != (wrap64 (1 + t311)))), (by first|rfl|(simp; done)|(simp [*]; done)), H', ⟨by have := HJ5.out; have := HK2.out; have := HK3.out; have := HJ47.out; have := HJ57.out; have := HK6.out; have := HJ67.out; first|omega|exact Nat.le_refl _⟩, ⟨by (with_reducible repeat (first|apply Kd.R_alloc|apply Kd.R_drewN|apply Kd.R_drew)); exact HO_16.out⟩, ⟨by (with_reducible repeat (first|apply Kd.R_alloc|apply Kd.R_drewN|apply Kd.R_drew)); exact HO_320000.out⟩, ⟨by (with_reducible repeat (first|apply Kd.R_alloc|apply Kd.R_drewN|apply Kd.R_drew)); exact HO_335000.out⟩, ⟨by (with_reducible repeat (first|refine blk_drewN ?_ _|refine blk_drew ?_|refine blk_alloc ?_ _)); exact BK319.out⟩, ⟨by (with_reducible repeat (first|refine blk_drewN ?_ _|refine blk_drew ?_|refine blk_alloc ?_ _)); exact BK334.out⟩, ⟨by repeat (first|(with_reducible first|exact HB.out|apply below_alloc|apply pw_below_drewN|apply below_drew1|refine below_set ?_ GE319.out|refine below_set ?_ GE334.out)|exact HB.out)⟩⟩
                        ·replace c86 := Bool.eq_false_iff.mpr c86
                         subst c86
                         have H1 : (stowagelaw20_ListingPages.j9 kj67 l0 a1 a2 (wrap64 (1 + t311)) t297 x10_2 x13_3 x16_6 x19_6 false x320000_47 x320001_47 x320002_47 x320003_47 x335000_67 false x335002_67 x335003_67) = some r := by rw [if_neg (show ¬ (false = true) by decide)] at H; exact H
                         clear H
                         have H := H1
                         clear H1
                         as_aux_lemma =>
                          have H' := Aside0.mk H
                          clear H
                          have hnb90 := NB334_319.out
                          have hnc90 := NB319_334.out
                          have hcz91_0 : wc.cell? ⟨gb334, 0, none⟩ = some (u335000) := (blk_cell BK334.out 0).trans rfl
                          have hcz91_1 : wc.cell? ⟨gb334, 1, none⟩ = some (.bool false) := (blk_cell BK334.out 1).trans rfl
                          have hcz91_2 : wc.cell? ⟨gb334, 2, none⟩ = some (.string x335002_67) := (blk_cell BK334.out 2).trans rfl
                          have hcz91_3 : wc.cell? ⟨gb334, 3, none⟩ = some (.string x335003_67) := (blk_cell BK334.out 3).trans rfl
                          have hfz91_0 := blk_frozen BK334.out 0
                          have hfz91_1 := blk_frozen BK334.out 1
                          have hfz91_2 := blk_frozen BK334.out 2
                          have hfz91_3 := blk_frozen BK334.out 3
                          obtain ⟨Ao92, co92, eo92⟩ := Kd.R_slice HO_335000.out
                          subst eo92
                          go_wp2
                          repeat (go_quiet (fail); try go_wp2)
                          go_meet
                          case rel => exact ⟨_, (false), (by first|rfl|(simp; done)|(simp [*]; done)), H', ⟨by have := HJ5.out; have := HK2.out; have := HK3.out; have := HJ47.out; have := HJ57.out; have := HK6.out; have := HJ67.out; first|omega|exact Nat.le_refl _⟩, ⟨by (with_reducible repeat (first|apply Kd.R_alloc|apply Kd.R_drewN|apply Kd.R_drew)); exact HO_16.out⟩, ⟨by (with_reducible repeat (first|apply Kd.R_alloc|apply Kd.R_drewN|apply Kd.R_drew)); exact HO_320000.out⟩, ⟨by (with_reducible repeat (first|apply Kd.R_alloc|apply Kd.R_drewN|apply Kd.R_drew)); exact HO_335000.out⟩, ⟨by (with_reducible repeat (first|refine blk_drewN ?_ _|refine blk_drew ?_|refine blk_alloc ?_ _)); exact BK319.out⟩, ⟨by (with_reducible repeat (first|refine blk_drewN ?_ _|refine blk_drew ?_|refine blk_alloc ?_ _)); exact BK334.out⟩, ⟨by repeat (first|(with_reducible first|exact HB.out|apply below_alloc|apply pw_below_drewN|apply below_drew1|refine below_set ?_ GE319.out|refine below_set ?_ GE334.out)|exact HB.out)⟩⟩
                      ·rw [if_neg c81] at H
                       have c81b0 : (x21_67 == 0) = false := beq_eq_false_iff_ne.mpr c81
                       have c81b1 : (x21_67 != 0) = true := bne_iff_ne.mpr c81
                       (first|rw [c81b0]|(simp only [i64_w, i32_w]; rw [c81b0])|skip)
                       as_aux_lemma =>
                        have H' := Aside0.mk H
                        clear H
                        go_wp2
                        repeat (go_quiet (fail); try go_wp2)
                        go_meet
                        case rel => exact ⟨_, (true), (by first|rfl|(simp; done)|(simp [*]; done)), H', ⟨by have := HJ5.out; have := HK2.out; have := HK3.out; have := HJ47.out; have := HJ57.out; have := HK6.out; have := HJ67.out; first|omega|exact Nat.le_refl _⟩, ⟨by (with_reducible repeat (first|apply Kd.R_alloc|apply Kd.R_drewN|apply Kd.R_drew)); exact HO_16.out⟩, ⟨by (with_reducible repeat (first|apply Kd.R_alloc|apply Kd.R_drewN|apply Kd.R_drew)); exact HO_320000.out⟩, ⟨by (with_reducible repeat (first|apply Kd.R_alloc|apply Kd.R_drewN|apply Kd.R_drew)); exact HO_335000.out⟩, ⟨by (with_reducible repeat (first|refine blk_drewN ?_ _|refine blk_drew ?_|refine blk_alloc ?_ _)); exact BK319.out⟩, ⟨by (with_reducible repeat (first|refine blk_drewN ?_ _|refine blk_drew ?_|refine blk_alloc ?_ _)); exact BK334.out⟩, ⟨by repeat (first|(with_reducible first|exact HB.out|apply below_alloc|apply pw_below_drewN|apply below_drew1|refine below_set ?_ GE319.out|refine below_set ?_ GE334.out)|exact HB.out)⟩⟩
                     case rest =>
                      clear HC80
                      try clear c1
                      try clear c2
                      try clear p2
                      try clear c3
                      try clear p3
                      try clear q3
                      try clear hx3
                      try clear c4
                      try clear c5
                      try clear c6
                      try clear p6
                      try clear c7
                      try clear c8
                      try clear c9
                      try clear c11
                      try clear c11b0
                      try clear c11b1
                      try clear c13
                      try clear c18
                      try clear c18b0
                      try clear c18b1
                      try clear c23
                      try clear c23b0
                      try clear c23b1
                      try clear c30
                      try clear p30
                      try clear q30
                      try clear hx30
                      try clear p31
                      try clear q31
                      try clear hx31
                      try clear c34
                      try clear c35
                      try clear c35b0
                      try clear c37
                      try clear c37b0
                      try clear c38
                      try clear c38b0
                      try clear c38b1
                      try clear c39
                      try clear c40
                      try clear c40b0
                      try clear c41
                      try clear c41b0
                      try clear c42
                      try clear c42b0
                      try clear c43
                      try clear c43b0
                      try clear c44
                      try clear c44b0
                      try clear c44b1
                      try clear c46
                      try clear c46b0
                      try clear c53
                      try clear c53b0
                      try clear c53b1
                      try clear c59
                      try clear c59b0
                      try clear c59b1
                      try clear c60
                      try clear c64
                      try clear p64
                      try clear c66
                      try clear c66b0
                      try clear c72
                      try clear c74
                      try clear c74b0
                      try clear c74b1
                      try clear c78
                      try clear c81
                      try clear c81b0
                      try clear c81b1
                      try clear c82
                      try clear c82b0
                      try clear c83
                      try clear c86
                      try clear c87
                      try clear c90
                      try clear hcz52_0
                      try clear hcz52_1
                      try clear hcz52_2
                      try clear hcz52_3
                      try clear hcz57_0
                      try clear hcz57_1
                      try clear hcz57_2
                      try clear hcz57_3
                      try clear hcz61_0
                      try clear hcz61_1
                      try clear hcz61_2
                      try clear hcz61_3
                      try clear hcz62_0
                      try clear hcz62_1
                      try clear hcz62_2
                      try clear hcz62_3
                      try clear hcz73_0
                      try clear hcz73_1
                      try clear hcz73_2
                      try clear hcz73_3
                      try clear hcz79_0
                      try clear hcz79_1
                      try clear hcz79_2
                      try clear hcz79_3
                      try clear hcz84_0
                      try clear hcz84_1
                      try clear hcz84_2
                      try clear hcz84_3
                      try clear hcz88_0
                      try clear hcz88_1
                      try clear hcz88_2
                      try clear hcz88_3
                      try clear hcz91_0
                      try clear hcz91_1
                      try clear hcz91_2
                      try clear hcz91_3
                      try clear hfz52_0
                      try clear hfz52_1
                      try clear hfz52_2
                      try clear hfz52_3
                      try clear hfz57_0
                      try clear hfz57_1
                      try clear hfz57_2
                      try clear hfz57_3
                      try clear hfz61_0
                      try clear hfz61_1
                      try clear hfz61_2
                      try clear hfz61_3
                      try clear hfz62_0
                      try clear hfz62_1
                      try clear hfz62_2
                      try clear hfz62_3
                      try clear hfz73_0
                      try clear hfz73_1
                      try clear hfz73_2
                      try clear hfz73_3
                      try clear hfz79_0
                      try clear hfz79_1
                      try clear hfz79_2
                      try clear hfz79_3
                      try clear hfz84_0
                      try clear hfz84_1
                      try clear hfz84_2
                      try clear hfz84_3
                      try clear hfz88_0
                      try clear hfz88_1
                      try clear hfz88_2
                      try clear hfz88_3
                      try clear hfz91_0
                      try clear hfz91_1
                      try clear hfz91_2
                      try clear hfz91_3
                      try clear hx305_0
                      try clear hx305_1
                      try clear hx306_0
                      try clear hx306_1
                      try clear hx307_0
                      try clear hx307_1
                      try clear hx308_0
                      try clear hx308_1
                      try clear hx309_0
                      try clear hx309_1
                      try clear hx310_0
                      try clear hx310_1
                      try clear hx310_2
                      try clear hx310_3
                      try clear hx310_4
                      try clear p2
                      try clear p3
                      try clear p30
                      try clear p305
                      try clear p306
                      try clear p307
                      try clear p308
                      try clear p309
                      try clear p31
                      try clear p310
                      try clear p6
                      try clear p64
                      try clear q3
                      try clear q30
                      try clear q305
                      try clear q306
                      try clear q307
                      try clear q308
                      try clear q309
                      try clear q31
                      try clear q310
                      obtain ⟨kq, x186_79, rfl, HA, HJ79, HO_16, HO_320000, HO_335000, BK319, BK334, HB⟩ := hcut
                      cases kq with
                      | zero => exact absurd HA.out (by simp [stowagelaw20_ListingPages.j9])
                      | succ kj79 =>
                       have H := HA.out
                       clear HA
                       simp only [stowagelaw20_ListingPages.j9] at H
                       by_cases c93 : x186_79 = true
                       ·subst c93
                        have H1 : (some false) = some r := by rw [if_pos rfl] at H; exact H
                        clear H
                        have H := H1
                        clear H1
                        as_aux_lemma =>
                         obtain rfl := Option.some.inj H
                         go_wp2
                         repeat (go_quiet (fail); try go_wp2)
                         go_ret
                         exact ⟨by first|rfl|(simp [errW_none, errW_some] <;> rfl)|(simp [*, errW_none, errW_some] <;> rfl), by repeat (first|(with_reducible first|exact HB.out|apply below_alloc|apply pw_below_drewN|apply below_drew1|refine below_set ?_ GE319.out|refine below_set ?_ GE334.out)|exact HB.out)⟩
                       ·replace c93 := Bool.eq_false_iff.mpr c93
                        subst c93
                        have H1 : (if x16_6.length + x335000_67.length < 1599289640401 then ((some (x16_6 ++ x335000_67 : List (S39))).bind fun y342 => (if x335001_67 = true then (stowagelaw20_ListingPages.l3 kj79 l0 a1 a2 (wrap64 (1 + t311)) t297 x10_2 x13_3 y342 x335002_67 x335003_67 (wrap64 (x19_6 + 1)) x320000_47 x320001_47 x320002_47 x320003_47) else (stowagelaw20_ListingPages.j10 kj79 l0 a1 a2 (wrap64 (1 + t311)) t297 x10_2 x13_3 y342 x320000_47 x320001_47 x320002_47 x320003_47))) else (none)) = some r := by rw [if_neg (show ¬ (false = true) by decide)] at H; exact H
                        clear H
                        have H := H1
                        clear H1
                        by_cases c94 : x16_6.length + x335000_67.length < 1599289640401
                        ·rw [if_pos c94] at H
                         have LMc94 := Aside0.mk c94
                         clear c94
                         obtain ⟨y342, hy342⟩ : ∃ y_ : List (S39), y_ = (x16_6 ++ x335000_67) := ⟨_, rfl⟩
                         replace H : (if x335001_67 = true then (stowagelaw20_ListingPages.l3 kj79 l0 a1 a2 (wrap64 (1 + t311)) t297 x10_2 x13_3 y342 x335002_67 x335003_67 (wrap64 (x19_6 + 1)) x320000_47 x320001_47 x320002_47 x320003_47) else (stowagelaw20_ListingPages.j10 kj79 l0 a1 a2 (wrap64 (1 + t311)) t297 x10_2 x13_3 y342 x320000_47 x320001_47 x320002_47 x320003_47)) = some r := by first|(rw [hy342]; with_reducible exact H)|(have H2_ := (Option.bind_some _ _).symm.trans H; rw [hy342]; with_reducible exact H2_)|(have H2_ := (Option.bind_some _ _).symm.trans H; with_reducible exact H2_)|with_reducible exact H|(rw [hy342]; exact H)|exact H
                         have Ny342 := Aside0.mk hy342
                         clear hy342
                         by_cases c95 : x335001_67 = true
                         ·subst c95
                          have H1 : (stowagelaw20_ListingPages.l3 kj79 l0 a1 a2 (wrap64 (1 + t311)) t297 x10_2 x13_3 y342 x335002_67 x335003_67 (wrap64 (x19_6 + 1)) x320000_47 x320001_47 x320002_47 x320003_47) = some r := by rw [if_pos rfl] at H; exact H
                          clear H
                          have H := H1
                          clear H1
                          as_aux_lemma =>
                           have H' := Aside0.mk H
                           clear H
                           have hnb96 := NB334_319.out
                           have hnc96 := NB319_334.out
                           have hcz97_0 : wc.cell? ⟨gb334, 0, none⟩ = some (u335000) := (blk_cell BK334.out 0).trans rfl
                           have hcz97_1 : wc.cell? ⟨gb334, 1, none⟩ = some (.bool true) := (blk_cell BK334.out 1).trans rfl
                           have hcz97_2 : wc.cell? ⟨gb334, 2, none⟩ = some (.string x335002_67) := (blk_cell BK334.out 2).trans rfl
                           have hcz97_3 : wc.cell? ⟨gb334, 3, none⟩ = some (.string x335003_67) := (blk_cell BK334.out 3).trans rfl
                           have hfz97_0 := blk_frozen BK334.out 0
                           have hfz97_1 := blk_frozen BK334.out 1
                           have hfz97_2 := blk_frozen BK334.out 2
                           have hfz97_3 := blk_frozen BK334.out 3
                           obtain ⟨Ao99, co99, eo99⟩ := Kd.R_slice HO_335000.out
                           subst eo99
                           go_wp2_with (first|((with_reducible refine gate_builtin (b := .append) (xs := #[.tmp 187, .tmp 189]) rfl ?_); (try (refine gate_guard (by rfl) ?_; dsimp only)); at_builtin; refine Kd.R_append_rows k39 (w0 := w) w.heap.size rfl (.tmp 187) (.tmp 189) 26 39 (.agg #[(.string ⟨#[]⟩), (.bool false), (.string ⟨#[]⟩), (.int .i64 0), (.bool false), (.int .i64 0), (.string ⟨#[]⟩), (.bool false)]) 88 rfl Try.underlying26 info39 rfl (by decide) (by omega) u16 x16_6 x335000_67 _ _ _ (fun k_ => some k_ ≠ (u320000 : Value).ownBlock ∧ some k_ ≠ (.slice Ao99 x335000_67.length co99 : Value).ownBlock) (fun _ => False) rfl rfl ?aO ?aR (fun _ _ h => h) (fun _ h => h.elim) ?aF ?aB ?aS ?aL ?_; (case aR => repeat (first|exact (Kd.R_reads' HO_335000.out).2.2|(with_reducible refine Kd.C_alloc ?_ _)|(with_reducible refine Kd.C_drewN ?_ _)|(with_reducible refine Kd.C_drew ?_))); (case aB => exact (by repeat (first|(with_reducible first|exact HB.out|apply below_alloc|apply pw_below_drewN|apply below_drew1|refine below_set ?_ GE319.out|refine below_set ?_ GE334.out)|exact HB.out))); (case aF => exact (fun k_ hk => ⟨Kd.fresh' (Kd.R_lt (by (with_reducible repeat (first|apply Kd.R_alloc|apply Kd.R_drewN|apply Kd.R_drew)); exact HO_320000.out)) k_ hk, Kd.fresh' (Kd.R_lt (by (with_reducible repeat (first|apply Kd.R_alloc|apply Kd.R_drewN|apply Kd.R_drew)); exact HO_335000.out)) k_ hk⟩)); (case aO => exact (by (with_reducible repeat (first|apply Kd.R_alloc|apply Kd.R_drewN|apply Kd.R_drew)); exact HO_16.out)); (case aS => exact (below_size (by repeat (first|(with_reducible first|exact HB.out|apply below_alloc|apply pw_below_drewN|apply below_drew1|refine below_set ?_ GE319.out|refine below_set ?_ GE334.out)|exact HB.out)))); (case aL => have := LMc94.out; omega); intro v343 w98 ho hb hg hat; rw [← Ny342.out] at ho; have n0_ := Aside0.mk (Kd.R_after (ok := (fun k_ => some k_ ≠ (.slice Ao99 x335000_67.length co99 : Value).ownBlock)) (by (with_reducible repeat (first|apply Kd.R_alloc|apply Kd.R_drewN|apply Kd.R_drew)); exact Kd.R_mono HO_320000.out (fun _ hk => ⟨hk.2, hk.1⟩)) hg hat); have n1_ := Aside0.mk (Kd.R_after (ok := (fun k_ => some k_ ≠ (u320000 : Value).ownBlock)) (by (with_reducible repeat (first|apply Kd.R_alloc|apply Kd.R_drewN|apply Kd.R_drew)); exact Kd.R_mono HO_335000.out (fun _ hk => ⟨hk.2, hk.1⟩)) hg hat); have n2_ := Aside0.mk (blk_grown (g := gb319) (o := .cells #[u320000, .bool x320001_47, .string x320002_47, .string x320003_47] 28 (0, 0)) (by (with_reducible repeat (first|refine blk_drewN ?_ _|refine blk_drew ?_|refine blk_alloc ?_ _)); exact BK319.out) hg (Kd.R_ne HO_16.out BK319.out (by decide))); have n3_ := Aside0.mk (blk_grown (g := gb334) (o := .cells #[.slice Ao99 x335000_67.length co99, .bool true, .string x335002_67, .string x335003_67] 28 (0, 0)) (by (with_reducible repeat (first|refine blk_drewN ?_ _|refine blk_drew ?_|refine blk_alloc ?_ _)); exact BK334.out) hg (Kd.R_ne HO_16.out BK334.out (by decide))); have n4_ := Aside0.mk (hb); have n5_ := Aside0.mk (ho); clear HO_320000; clear HO_335000; clear BK319; clear BK334; clear HB; clear HO_16; have HO_320000 := n0_; have HO_335000 := n1_; have BK319 := n2_; have BK334 := n3_; have HB := n4_; have HO344 := n5_; clear n0_ n1_ n2_ n3_ n4_ n5_; clear ho hb hg hat; have hcz100_0 : w98.cell? ⟨gb334, 0, none⟩ = some (.slice Ao99 x335000_67.length co99) := (blk_cell BK334.out 0).trans rfl; have hcz100_1 : w98.cell? ⟨gb334, 1, none⟩ = some (.bool true) := (blk_cell BK334.out 1).trans rfl; have hcz100_2 : w98.cell? ⟨gb334, 2, none⟩ = some (.string x335002_67) := (blk_cell BK334.out 2).trans rfl; have hcz100_3 : w98.cell? ⟨gb334, 3, none⟩ = some (.string x335003_67) := (blk_cell BK334.out 3).trans rfl; have hfz100_0 := blk_frozen BK334.out 0; have hfz100_1 := blk_frozen BK334.out 1; have hfz100_2 := blk_frozen BK334.out 2; have hfz100_3 := blk_frozen BK334.out 3))
                           repeat (go_quiet (first|((with_reducible refine gate_builtin (b := .append) (xs := #[.tmp 187, .tmp 189]) rfl ?_); (try (refine gate_guard (by rfl) ?_; dsimp only)); at_builtin; refine Kd.R_append_rows k39 (w0 := w) w.heap.size rfl (.tmp 187) (.tmp 189) 26 39 (.agg #[(.string ⟨#[]⟩), (.bool false), (.string ⟨#[]⟩), (.int .i64 0), (.bool false), (.int .i64 0), (.string ⟨#[]⟩), (.bool false)]) 88 rfl Try.underlying26 info39 rfl (by decide) (by omega) u16 x16_6 x335000_67 _ _ _ (fun k_ => some k_ ≠ (u320000 : Value).ownBlock ∧ some k_ ≠ (.slice Ao99 x335000_67.length co99 : Value).ownBlock) (fun _ => False) rfl rfl ?aO ?aR (fun _ _ h => h) (fun _ h => h.elim) ?aF ?aB ?aS ?aL ?_; (case aR => repeat (first|exact (Kd.R_reads' HO_335000.out).2.2|(with_reducible refine Kd.C_alloc ?_ _)|(with_reducible refine Kd.C_drewN ?_ _)|(with_reducible refine Kd.C_drew ?_))); (case aB => exact (by repeat (first|(with_reducible first|exact HB.out|apply below_alloc|apply pw_below_drewN|apply below_drew1|refine below_set ?_ GE319.out|refine below_set ?_ GE334.out)|exact HB.out))); (case aF => exact (fun k_ hk => ⟨Kd.fresh' (Kd.R_lt (by (with_reducible repeat (first|apply Kd.R_alloc|apply Kd.R_drewN|apply Kd.R_drew)); exact HO_320000.out)) k_ hk, Kd.fresh' (Kd.R_lt (by (with_reducible repeat (first|apply Kd.R_alloc|apply Kd.R_drewN|apply Kd.R_drew)); exact HO_335000.out)) k_ hk⟩)); (case aO => exact (by (with_reducible repeat (first|apply Kd.R_alloc|apply Kd.R_drewN|apply Kd.R_drew)); exact HO_16.out)); (case aS => exact (below_size (by repeat (first|(with_reducible first|exact HB.out|apply below_alloc|apply pw_below_drewN|apply below_drew1|refine below_set ?_ GE319.out|refine below_set ?_ GE334.out)|exact HB.out)))); (case aL => have := LMc94.out; omega); intro v343 w98 ho hb hg hat; rw [← Ny342.out] at ho; have n0_ := Aside0.mk (Kd.R_after (ok := (fun k_ => some k_ ≠ (.slice Ao99 x335000_67.length co99 : Value).ownBlock)) (by (with_reducible repeat (first|apply Kd.R_alloc|apply Kd.R_drewN|apply Kd.R_drew)); exact Kd.R_mono HO_320000.out (fun _ hk => ⟨hk.2, hk.1⟩)) hg hat); have n1_ := Aside0.mk (Kd.R_after (ok := (fun k_ => some k_ ≠ (u320000 : Value).ownBlock)) (by (with_reducible repeat (first|apply Kd.R_alloc|apply Kd.R_drewN|apply Kd.R_drew)); exact Kd.R_mono HO_335000.out (fun _ hk => ⟨hk.2, hk.1⟩)) hg hat); have n2_ := Aside0.mk (blk_grown (g := gb319) (o := .cells #[u320000, .bool x320001_47, .string x320002_47, .string x320003_47] 28 (0, 0)) (by (with_reducible repeat (first|refine blk_drewN ?_ _|refine blk_drew ?_|refine blk_alloc ?_ _)); exact BK319.out) hg (Kd.R_ne HO_16.out BK319.out (by decide))); have n3_ := Aside0.mk (blk_grown (g := gb334) (o := .cells #[.slice Ao99 x335000_67.length co99, .bool true, .string x335002_67, .string x335003_67] 28 (0, 0)) (by (with_reducible repeat (first|refine blk_drewN ?_ _|refine blk_drew ?_|refine blk_alloc ?_ _)); exact BK334.out) hg (Kd.R_ne HO_16.out BK334.out (by decide))); have n4_ := Aside0.mk (hb); have n5_ := Aside0.mk (ho); clear HO_320000; clear HO_335000; clear BK319; clear BK334; clear HB; clear HO_16; have HO_320000 := n0_; have HO_335000 := n1_; have BK319 := n2_; have BK334 := n3_; have HB := n4_; have HO344 := n5_; clear n0_ n1_ n2_ n3_ n4_ n5_; clear ho hb hg hat; have hcz100_0 : w98.cell? ⟨gb334, 0, none⟩ = some (.slice Ao99 x335000_67.length co99) := (blk_cell BK334.out 0).trans rfl; have hcz100_1 : w98.cell? ⟨gb334, 1, none⟩ = some (.bool true) := (blk_cell BK334.out 1).trans rfl; have hcz100_2 : w98.cell? ⟨gb334, 2, none⟩ = some (.string x335002_67) := (blk_cell BK334.out 2).trans rfl; have hcz100_3 : w98.cell? ⟨gb334, 3, none⟩ = some (.string x335003_67) := (blk_cell BK334.out 3).trans rfl; have hfz100_0 := blk_frozen BK334.out 0; have hfz100_1 := blk_frozen BK334.out 1; have hfz100_2 := blk_frozen BK334.out 2; have hfz100_3 := blk_frozen BK334.out 3)); try go_wp2_with (first|((with_reducible refine gate_builtin (b := .append) (xs := #[.tmp 187, .tmp 189]) rfl ?_); (try (refine gate_guard (by rfl) ?_; dsimp only)); at_builtin; refine Kd.R_append_rows k39 (w0 := w) w.heap.size rfl (.tmp 187) (.tmp 189) 26 39 (.agg #[(.string ⟨#[]⟩), (.bool false), (.string ⟨#[]⟩), (.int .i64 0), (.bool false), (.int .i64 0), (.string ⟨#[]⟩), (.bool false)]) 88 rfl Try.underlying26 info39 rfl (by decide) (by omega) u16 x16_6 x335000_67 _ _ _ (fun k_ => some k_ ≠ (u320000 : Value).ownBlock ∧ some k_ ≠ (.slice Ao99 x335000_67.length co99 : Value).ownBlock) (fun _ => False) rfl rfl ?aO ?aR (fun _ _ h => h) (fun _ h => h.elim) ?aF ?aB ?aS ?aL ?_; (case aR => repeat (first|exact (Kd.R_reads' HO_335000.out).2.2|(with_reducible refine Kd.C_alloc ?_ _)|(with_reducible refine Kd.C_drewN ?_ _)|(with_reducible refine Kd.C_drew ?_))); (case aB => exact (by repeat (first|(with_reducible first|exact HB.out|apply below_alloc|apply pw_below_drewN|apply below_drew1|refine below_set ?_ GE319.out|refine below_set ?_ GE334.out)|exact HB.out))); (case aF => exact (fun k_ hk => ⟨Kd.fresh' (Kd.R_lt (by (with_reducible repeat (first|apply Kd.R_alloc|apply Kd.R_drewN|apply Kd.R_drew)); exact HO_320000.out)) k_ hk, Kd.fresh' (Kd.R_lt (by (with_reducible repeat (first|apply Kd.R_alloc|apply Kd.R_drewN|apply Kd.R_drew)); exact HO_335000.out)) k_ hk⟩)); (case aO => exact (by (with_reducible repeat (first|apply Kd.R_alloc|apply Kd.R_drewN|apply Kd.R_drew)); exact HO_16.out)); (case aS => exact (below_size (by repeat (first|(with_reducible first|exact HB.out|apply below_alloc|apply pw_below_drewN|apply below_drew1|refine below_set ?_ GE319.out|refine below_set ?_ GE334.out)|exact HB.out)))); (case aL => have := LMc94.out; omega); intro v343 w98 ho hb hg hat; rw [← Ny342.out] at ho; have n0_ := Aside0.mk (Kd.R_after (ok := (fun k_ => some k_ ≠ (.slice Ao99 x335000_67.length co99 : Value).ownBlock)) (by (with_reducible repeat (first|apply Kd.R_alloc|apply Kd.R_drewN|apply Kd.R_drew)); exact Kd.R_mono HO_320000.out (fun _ hk => ⟨hk.2, hk.1⟩)) hg hat); have n1_ := Aside0.mk (Kd.R_after (ok := (fun k_ => some k_ ≠ (u320000 : Value).ownBlock)) (by (with_reducible repeat (first|apply Kd.R_alloc|apply Kd.R_drewN|apply Kd.R_drew)); exact Kd.R_mono HO_335000.out (fun _ hk => ⟨hk.2, hk.1⟩)) hg hat); have n2_ := Aside0.mk (blk_grown (g := gb319) (o := .cells #[u320000, .bool x320001_47, .string x320002_47, .string x320003_47] 28 (0, 0)) (by (with_reducible repeat (first|refine blk_drewN ?_ _|refine blk_drew ?_|refine blk_alloc ?_ _)); exact BK319.out) hg (Kd.R_ne HO_16.out BK319.out (by decide))); have n3_ := Aside0.mk (blk_grown (g := gb334) (o := .cells #[.slice Ao99 x335000_67.length co99, .bool true, .string x335002_67, .string x335003_67] 28 (0, 0)) (by (with_reducible repeat (first|refine blk_drewN ?_ _|refine blk_drew ?_|refine blk_alloc ?_ _)); exact BK334.out) hg (Kd.R_ne HO_16.out BK334.out (by decide))); have n4_ := Aside0.mk (hb); have n5_ := Aside0.mk (ho); clear HO_320000; clear HO_335000; clear BK319; clear BK334; clear HB; clear HO_16; have HO_320000 := n0_; have HO_335000 := n1_; have BK319 := n2_; have BK334 := n3_; have HB := n4_; have HO344 := n5_; clear n0_ n1_ n2_ n3_ n4_ n5_; clear ho hb hg hat; have hcz100_0 : w98.cell? ⟨gb334, 0, none⟩ = some (.slice Ao99 x335000_67.length co99) := (blk_cell BK334.out 0).trans rfl; have hcz100_1 : w98.cell? ⟨gb334, 1, none⟩ = some (.bool true) := (blk_cell BK334.out 1).trans rfl; have hcz100_2 : w98.cell? ⟨gb334, 2, none⟩ = some (.string x335002_67) := (blk_cell BK334.out 2).trans rfl; have hcz100_3 : w98.cell? ⟨gb334, 3, none⟩ = some (.string x335003_67) := (blk_cell BK334.out 3).trans rfl; have hfz100_0 := blk_frozen BK334.out 0; have hfz100_1 := blk_frozen BK334.out 1; have hfz100_2 := blk_frozen BK334.out 2; have hfz100_3 := blk_frozen BK334.out 3)))
                           go_roundg kj79
                           case measure => have := HJ5.out; have := HK2.out; have := HK3.out; have := HJ47.out; have := HJ57.out; have := HK6.out; have := HJ67.out; have := HJ79.out; omega
                           case rel => exact ⟨(y342), (x335002_67), (x335003_67), (wrap64 (x19_6 + 1)), (by first|rfl|(simp; done)|(simp [*]; done)), (by first|rfl|(simp; done)|(simp [*]; done)), (by first|rfl|(simp; done)|(simp [*]; done)), H', ⟨by have := HJ5.out; have := HK2.out; have := HK3.out; have := HJ47.out; have := HJ57.out; have := HK6.out; have := HJ67.out; have := HJ79.out; omega⟩, ⟨by (with_reducible repeat (first|apply Kd.R_alloc|apply Kd.R_drewN|apply Kd.R_drew)); exact Kd.R_mono HO344.out (fun _ hk => hk.1)⟩, ⟨by (with_reducible repeat (first|apply Kd.R_alloc|apply Kd.R_drewN|apply Kd.R_drew)); exact Kd.R_mono HO_320000.out (fun _ hk => hk.2)⟩, ⟨by (with_reducible repeat (first|refine blk_drewN ?_ _|refine blk_drew ?_|refine blk_alloc ?_ _)); exact BK319.out⟩, ⟨by repeat (first|(with_reducible first|exact HB.out|apply below_alloc|apply pw_below_drewN|apply below_drew1|refine below_set ?_ GE319.out|refine below_set ?_ GE334.out)|exact HB.out)⟩⟩
                         ·replace c95 := Bool.eq_false_iff.mpr c95
                          subst c95
                          have H1 : (stowagelaw20_ListingPages.j10 kj79 l0 a1 a2 (wrap64 (1 + t311)) t297 x10_2 x13_3 y342 x320000_47 x320001_47 x320002_47 x320003_47) = some r := by rw [if_neg (show ¬ (false = true) by decide)] at H; exact H
                          clear H
                          have H := H1
                          clear H1
                          as_aux_lemma =>
                           have H' := Aside0.mk H
                           clear H
                           have hnb101 := NB334_319.out
                           have hnc101 := NB319_334.out
                           have hcz102_0 : wc.cell? ⟨gb334, 0, none⟩ = some (u335000) := (blk_cell BK334.out 0).trans rfl
                           have hcz102_1 : wc.cell? ⟨gb334, 1, none⟩ = some (.bool false) := (blk_cell BK334.out 1).trans rfl
                           have hcz102_2 : wc.cell? ⟨gb334, 2, none⟩ = some (.string x335002_67) := (blk_cell BK334.out 2).trans rfl
                           have hcz102_3 : wc.cell? ⟨gb334, 3, none⟩ = some (.string x335003_67) := (blk_cell BK334.out 3).trans rfl
                           have hfz102_0 := blk_frozen BK334.out 0
                           have hfz102_1 := blk_frozen BK334.out 1
                           have hfz102_2 := blk_frozen BK334.out 2
                           have hfz102_3 := blk_frozen BK334.out 3
                           obtain ⟨Ao104, co104, eo104⟩ := Kd.R_slice HO_335000.out
                           subst eo104
                           go_wp2_with (first|((with_reducible refine gate_builtin (b := .append) (xs := #[.tmp 187, .tmp 189]) rfl ?_); (try (refine gate_guard (by rfl) ?_; dsimp only)); at_builtin; refine Kd.R_append_rows k39 (w0 := w) w.heap.size rfl (.tmp 187) (.tmp 189) 26 39 (.agg #[(.string ⟨#[]⟩), (.bool false), (.string ⟨#[]⟩), (.int .i64 0), (.bool false), (.int .i64 0), (.string ⟨#[]⟩), (.bool false)]) 88 rfl Try.underlying26 info39 rfl (by decide) (by omega) u16 x16_6 x335000_67 _ _ _ (fun k_ => some k_ ≠ (u320000 : Value).ownBlock ∧ some k_ ≠ (.slice Ao104 x335000_67.length co104 : Value).ownBlock) (fun _ => False) rfl rfl ?aO ?aR (fun _ _ h => h) (fun _ h => h.elim) ?aF ?aB ?aS ?aL ?_; (case aR => repeat (first|exact (Kd.R_reads' HO_335000.out).2.2|(with_reducible refine Kd.C_alloc ?_ _)|(with_reducible refine Kd.C_drewN ?_ _)|(with_reducible refine Kd.C_drew ?_))); (case aB => exact (by repeat (first|(with_reducible first|exact HB.out|apply below_alloc|apply pw_below_drewN|apply below_drew1|refine below_set ?_ GE319.out|refine below_set ?_ GE334.out)|exact HB.out))); (case aF => exact (fun k_ hk => ⟨Kd.fresh' (Kd.R_lt (by (with_reducible repeat (first|apply Kd.R_alloc|apply Kd.R_drewN|apply Kd.R_drew)); exact HO_320000.out)) k_ hk, Kd.fresh' (Kd.R_lt (by (with_reducible repeat (first|apply Kd.R_alloc|apply Kd.R_drewN|apply Kd.R_drew)); exact HO_335000.out)) k_ hk⟩)); (case aO => exact (by (with_reducible repeat (first|apply Kd.R_alloc|apply Kd.R_drewN|apply Kd.R_drew)); exact HO_16.out)); (case aS => exact (below_size (by repeat (first|(with_reducible first|exact HB.out|apply below_alloc|apply pw_below_drewN|apply below_drew1|refine below_set ?_ GE319.out|refine below_set ?_ GE334.out)|exact HB.out)))); (case aL => have := LMc94.out; omega); intro v343 w103 ho hb hg hat; rw [← Ny342.out] at ho; have n0_ := Aside0.mk (Kd.R_after (ok := (fun k_ => some k_ ≠ (.slice Ao104 x335000_67.length co104 : Value).ownBlock)) (by (with_reducible repeat (first|apply Kd.R_alloc|apply Kd.R_drewN|apply Kd.R_drew)); exact Kd.R_mono HO_320000.out (fun _ hk => ⟨hk.2, hk.1⟩)) hg hat); have n1_ := Aside0.mk (Kd.R_after (ok := (fun k_ => some k_ ≠ (u320000 : Value).ownBlock)) (by (with_reducible repeat (first|apply Kd.R_alloc|apply Kd.R_drewN|apply Kd.R_drew)); exact Kd.R_mono HO_335000.out (fun _ hk => ⟨hk.2, hk.1⟩)) hg hat); have n2_ := Aside0.mk (blk_grown (g := gb319) (o := .cells #[u320000, .bool x320001_47, .string x320002_47, .string x320003_47] 28 (0, 0)) (by (with_reducible repeat (first|refine blk_drewN ?_ _|refine blk_drew ?_|refine blk_alloc ?_ _)); exact BK319.out) hg (Kd.R_ne HO_16.out BK319.out (by decide))); have n3_ := Aside0.mk (blk_grown (g := gb334) (o := .cells #[.slice Ao104 x335000_67.length co104, .bool false, .string x335002_67, .string x335003_67] 28 (0, 0)) (by (with_reducible repeat (first|refine blk_drewN ?_ _|refine blk_drew ?_|refine blk_alloc ?_ _)); exact BK334.out) hg (Kd.R_ne HO_16.out BK334.out (by decide))); have n4_ := Aside0.mk (hb); have n5_ := Aside0.mk (ho); clear HO_320000; clear HO_335000; clear BK319; clear BK334; clear HB; clear HO_16; have HO_320000 := n0_; have HO_335000 := n1_; have BK319 := n2_; have BK334 := n3_; have HB := n4_; have HO344 := n5_; clear n0_ n1_ n2_ n3_ n4_ n5_; clear ho hb hg hat; have hcz105_0 : w103.cell? ⟨gb334, 0, none⟩ = some (.slice Ao104 x335000_67.length co104) := (blk_cell BK334.out 0).trans rfl; have hcz105_1 : w103.cell? ⟨gb334, 1, none⟩ = some (.bool false) := (blk_cell BK334.out 1).trans rfl; have hcz105_2 : w103.cell? ⟨gb334, 2, none⟩ = some (.string x335002_67) := (blk_cell BK334.out 2).trans rfl; have hcz105_3 : w103.cell? ⟨gb334, 3, none⟩ = some (.string x335003_67) := (blk_cell BK334.out 3).trans rfl; have hfz105_0 := blk_frozen BK334.out 0; have hfz105_1 := blk_frozen BK334.out 1; have hfz105_2 := blk_frozen BK334.out 2; have hfz105_3 := blk_frozen BK334.out 3))
                           repeat (go_quiet (first|((with_reducible refine gate_builtin (b := .append) (xs := #[.tmp 187, .tmp 189]) rfl ?_); (try (refine gate_guard (by rfl) ?_; dsimp only)); at_builtin; refine Kd.R_append_rows k39 (w0 := w) w.heap.size rfl (.tmp 187) (.tmp 189) 26 39 (.agg #[(.string ⟨#[]⟩), (.bool false), (.string ⟨#[]⟩), (.int .i64 0), (.bool false), (.int .i64 0), (.string ⟨#[]⟩), (.bool false)]) 88 rfl Try.underlying26 info39 rfl (by decide) (by omega) u16 x16_6 x335000_67 _ _ _ (fun k_ => some k_ ≠ (u320000 : Value).ownBlock ∧ some k_ ≠ (.slice Ao104 x335000_67.length co104 : Value).ownBlock) (fun _ => False) rfl rfl ?aO ?aR (fun _ _ h => h) (fun _ h => h.elim) ?aF ?aB ?aS ?aL ?_; (case aR => repeat (first|exact (Kd.R_reads' HO_335000.out).2.2|(with_reducible refine Kd.C_alloc ?_ _)|(with_reducible refine Kd.C_drewN ?_ _)|(with_reducible refine Kd.C_drew ?_))); (case aB => exact (by repeat (first|(with_reducible first|exact HB.out|apply below_alloc|apply pw_below_drewN|apply below_drew1|refine below_set ?_ GE319.out|refine below_set ?_ GE334.out)|exact HB.out))); (case aF => exact (fun k_ hk => ⟨Kd.fresh' (Kd.R_lt (by (with_reducible repeat (first|apply Kd.R_alloc|apply Kd.R_drewN|apply Kd.R_drew)); exact HO_320000.out)) k_ hk, Kd.fresh' (Kd.R_lt (by (with_reducible repeat (first|apply Kd.R_alloc|apply Kd.R_drewN|apply Kd.R_drew)); exact HO_335000.out)) k_ hk⟩)); (case aO => exact (by (with_reducible repeat (first|apply Kd.R_alloc|apply Kd.R_drewN|apply Kd.R_drew)); exact HO_16.out)); (case aS => exact (below_size (by repeat (first|(with_reducible first|exact HB.out|apply below_alloc|apply pw_below_drewN|apply below_drew1|refine below_set ?_ GE319.out|refine below_set ?_ GE334.out)|exact HB.out)))); (case aL => have := LMc94.out; omega); intro v343 w103 ho hb hg hat; rw [← Ny342.out] at ho; have n0_ := Aside0.mk (Kd.R_after (ok := (fun k_ => some k_ ≠ (.slice Ao104 x335000_67.length co104 : Value).ownBlock)) (by (with_reducible repeat (first|apply Kd.R_alloc|apply Kd.R_drewN|apply Kd.R_drew)); exact Kd.R_mono HO_320000.out (fun _ hk => ⟨hk.2, hk.1⟩)) hg hat); have n1_ := Aside0.mk (Kd.R_after (ok := (fun k_ => some k_ ≠ (u320000 : Value).ownBlock)) (by (with_reducible repeat (first|apply Kd.R_alloc|apply Kd.R_drewN|apply Kd.R_drew)); exact Kd.R_mono HO_335000.out (fun _ hk => ⟨hk.2, hk.1⟩)) hg hat); have n2_ := Aside0.mk (blk_grown (g := gb319) (o := .cells #[u320000, .bool x320001_47, .string x320002_47, .string x320003_47] 28 (0, 0)) (by (with_reducible repeat (first|refine blk_drewN ?_ _|refine blk_drew ?_|refine blk_alloc ?_ _)); exact BK319.out) hg (Kd.R_ne HO_16.out BK319.out (by decide))); have n3_ := Aside0.mk (blk_grown (g := gb334) (o := .cells #[.slice Ao104 x335000_67.length co104, .bool false, .string x335002_67, .string x335003_67] 28 (0, 0)) (by (with_reducible repeat (first|refine blk_drewN ?_ _|refine blk_drew ?_|refine blk_alloc ?_ _)); exact BK334.out) hg (Kd.R_ne HO_16.out BK334.out (by decide))); have n4_ := Aside0.mk (hb); have n5_ := Aside0.mk (ho); clear HO_320000; clear HO_335000; clear BK319; clear BK334; clear HB; clear HO_16; have HO_320000 := n0_; have HO_335000 := n1_; have BK319 := n2_; have BK334 := n3_; have HB := n4_; have HO344 := n5_; clear n0_ n1_ n2_ n3_ n4_ n5_; clear ho hb hg hat; have hcz105_0 : w103.cell? ⟨gb334, 0, none⟩ = some (.slice Ao104 x335000_67.length co104) := (blk_cell BK334.out 0).trans rfl; have hcz105_1 : w103.cell? ⟨gb334, 1, none⟩ = some (.bool false) := (blk_cell BK334.out 1).trans rfl; have hcz105_2 : w103.cell? ⟨gb334, 2, none⟩ = some (.string x335002_67) := (blk_cell BK334.out 2).trans rfl; have hcz105_3 : w103.cell? ⟨gb334, 3, none⟩ = some (.string x335003_67) := (blk_cell BK334.out 3).trans rfl; have hfz105_0 := blk_frozen BK334.out 0; have hfz105_1 := blk_frozen BK334.out 1; have hfz105_2 := blk_frozen BK334.out 2; have hfz105_3 := blk_frozen BK334.out 3)); try go_wp2_with (first|((with_reducible refine gate_builtin (b := .append) (xs := #[.tmp 187, .tmp 189]) rfl ?_); (try (refine gate_guard (by rfl) ?_; dsimp only)); at_builtin; refine Kd.R_append_rows k39 (w0 := w) w.heap.size rfl (.tmp 187) (.tmp 189) 26 39 (.agg #[(.string ⟨#[]⟩), (.bool false), (.string ⟨#[]⟩), (.int .i64 0), (.bool false), (.int .i64 0), (.string ⟨#[]⟩), (.bool false)]) 88 rfl Try.underlying26 info39 rfl (by decide) (by omega) u16 x16_6 x335000_67 _ _ _ (fun k_ => some k_ ≠ (u320000 : Value).ownBlock ∧ some k_ ≠ (.slice Ao104 x335000_67.length co104 : Value).ownBlock) (fun _ => False) rfl rfl ?aO ?aR (fun _ _ h => h) (fun _ h => h.elim) ?aF ?aB ?aS ?aL ?_; (case aR => repeat (first|exact (Kd.R_reads' HO_335000.out).2.2|(with_reducible refine Kd.C_alloc ?_ _)|(with_reducible refine Kd.C_drewN ?_ _)|(with_reducible refine Kd.C_drew ?_))); (case aB => exact (by repeat (first|(with_reducible first|exact HB.out|apply below_alloc|apply pw_below_drewN|apply below_drew1|refine below_set ?_ GE319.out|refine below_set ?_ GE334.out)|exact HB.out))); (case aF => exact (fun k_ hk => ⟨Kd.fresh' (Kd.R_lt (by (with_reducible repeat (first|apply Kd.R_alloc|apply Kd.R_drewN|apply Kd.R_drew)); exact HO_320000.out)) k_ hk, Kd.fresh' (Kd.R_lt (by (with_reducible repeat (first|apply Kd.R_alloc|apply Kd.R_drewN|apply Kd.R_drew)); exact HO_335000.out)) k_ hk⟩)); (case aO => exact (by (with_reducible repeat (first|apply Kd.R_alloc|apply Kd.R_drewN|apply Kd.R_drew)); exact HO_16.out)); (case aS => exact (below_size (by repeat (first|(with_reducible first|exact HB.out|apply below_alloc|apply pw_below_drewN|apply below_drew1|refine below_set ?_ GE319.out|refine below_set ?_ GE334.out)|exact HB.out)))); (case aL => have := LMc94.out; omega); intro v343 w103 ho hb hg hat; rw [← Ny342.out] at ho; have n0_ := Aside0.mk (Kd.R_after (ok := (fun k_ => some k_ ≠ (.slice Ao104 x335000_67.length co104 : Value).ownBlock)) (by (with_reducible repeat (first|apply Kd.R_alloc|apply Kd.R_drewN|apply Kd.R_drew)); exact Kd.R_mono HO_320000.out (fun _ hk => ⟨hk.2, hk.1⟩)) hg hat); have n1_ := Aside0.mk (Kd.R_after (ok := (fun k_ => some k_ ≠ (u320000 : Value).ownBlock)) (by (with_reducible repeat (first|apply Kd.R_alloc|apply Kd.R_drewN|apply Kd.R_drew)); exact Kd.R_mono HO_335000.out (fun _ hk => ⟨hk.2, hk.1⟩)) hg hat); have n2_ := Aside0.mk (blk_grown (g := gb319) (o := .cells #[u320000, .bool x320001_47, .string x320002_47, .string x320003_47] 28 (0, 0)) (by (with_reducible repeat (first|refine blk_drewN ?_ _|refine blk_drew ?_|refine blk_alloc ?_ _)); exact BK319.out) hg (Kd.R_ne HO_16.out BK319.out (by decide))); have n3_ := Aside0.mk (blk_grown (g := gb334) (o := .cells #[.slice Ao104 x335000_67.length co104, .bool false, .string x335002_67, .string x335003_67] 28 (0, 0)) (by (with_reducible repeat (first|refine blk_drewN ?_ _|refine blk_drew ?_|refine blk_alloc ?_ _)); exact BK334.out) hg (Kd.R_ne HO_16.out BK334.out (by decide))); have n4_ := Aside0.mk (hb); have n5_ := Aside0.mk (ho); clear HO_320000; clear HO_335000; clear BK319; clear BK334; clear HB; clear HO_16; have HO_320000 := n0_; have HO_335000 := n1_; have BK319 := n2_; have BK334 := n3_; have HB := n4_; have HO344 := n5_; clear n0_ n1_ n2_ n3_ n4_ n5_; clear ho hb hg hat; have hcz105_0 : w103.cell? ⟨gb334, 0, none⟩ = some (.slice Ao104 x335000_67.length co104) := (blk_cell BK334.out 0).trans rfl; have hcz105_1 : w103.cell? ⟨gb334, 1, none⟩ = some (.bool false) := (blk_cell BK334.out 1).trans rfl; have hcz105_2 : w103.cell? ⟨gb334, 2, none⟩ = some (.string x335002_67) := (blk_cell BK334.out 2).trans rfl; have hcz105_3 : w103.cell? ⟨gb334, 3, none⟩ = some (.string x335003_67) := (blk_cell BK334.out 3).trans rfl; have hfz105_0 := blk_frozen BK334.out 0; have hfz105_1 := blk_frozen BK334.out 1; have hfz105_2 := blk_frozen BK334.out 2; have hfz105_3 := blk_frozen BK334.out 3)))
                           go_meet
                           case rel => exact ⟨_, (y342), H', ⟨by have := HJ5.out; have := HK2.out; have := HK3.out; have := HJ47.out; have := HJ57.out; have := HK6.out; have := HJ67.out; have := HJ79.out; first|omega|exact Nat.le_refl _⟩, ⟨by (with_reducible repeat (first|apply Kd.R_alloc|apply Kd.R_drewN|apply Kd.R_drew)); exact Kd.R_mono HO344.out (fun _ hk => hk.1)⟩, ⟨by (with_reducible repeat (first|apply Kd.R_alloc|apply Kd.R_drewN|apply Kd.R_drew)); exact Kd.R_mono HO_320000.out (fun _ hk => hk.2)⟩, ⟨by (with_reducible repeat (first|refine blk_drewN ?_ _|refine blk_drew ?_|refine blk_alloc ?_ _)); exact BK319.out⟩, ⟨by repeat (first|(with_reducible first|exact HB.out|apply below_alloc|apply pw_below_drewN|apply below_drew1|refine below_set ?_ GE319.out|refine below_set ?_ GE334.out)|exact HB.out)⟩⟩
                        ·rw [if_neg c94] at H
                         exact absurd H (by simp)
                  ·rw [if_neg c66] at H
                   have c66b0 : decide (x19_6 ≤ x10_2) = false := decide_eq_false c66
                   clear c66
                   (first|rw [c66b0]|(simp only [i64_w, i32_w]; rw [c66b0])|skip)
                   as_aux_lemma =>
                    have H' := Aside0.mk H
                    clear H
                    go_wp2
                    repeat (go_quiet (fail); try go_wp2)
                    go_meet
                    case rel => exact ⟨_, (x16_6), H', ⟨by have := HJ5.out; have := HK2.out; have := HK3.out; have := HJ47.out; have := HJ57.out; have := HK6.out; first|omega|exact Nat.le_refl _⟩, ⟨by (with_reducible repeat (first|apply Kd.R_alloc|apply Kd.R_drewN|apply Kd.R_drew)); exact HO_16.out⟩, ⟨by (with_reducible repeat (first|apply Kd.R_alloc|apply Kd.R_drewN|apply Kd.R_drew)); exact HO_320000.out⟩, ⟨by (with_reducible repeat (first|refine blk_drewN ?_ _|refine blk_drew ?_|refine blk_alloc ?_ _)); exact BK319.out⟩, ⟨by repeat (first|(with_reducible first|exact HB.out|apply below_alloc|apply pw_below_drewN|apply below_drew1|refine below_set ?_ GE319.out)|exact HB.out)⟩⟩
               case rest =>
                clear HC65
                try clear c1
                try clear c2
                try clear p2
                try clear c3
                try clear p3
                try clear q3
                try clear hx3
                try clear c4
                try clear c5
                try clear c6
                try clear p6
                try clear c7
                try clear c8
                try clear c9
                try clear c10
                try clear c11
                try clear c11b0
                try clear c11b1
                try clear c13
                try clear c18
                try clear c18b0
                try clear c18b1
                try clear c23
                try clear c23b0
                try clear c23b1
                try clear c30
                try clear p30
                try clear q30
                try clear hx30
                try clear p31
                try clear q31
                try clear hx31
                try clear c34
                try clear c35
                try clear c35b0
                try clear c37
                try clear c37b0
                try clear c38
                try clear c38b0
                try clear c38b1
                try clear c39
                try clear c40
                try clear c40b0
                try clear c41
                try clear c41b0
                try clear c42
                try clear c42b0
                try clear c43
                try clear c43b0
                try clear c44
                try clear c44b0
                try clear c44b1
                try clear c46
                try clear c46b0
                try clear c53
                try clear c53b0
                try clear c53b1
                try clear c59
                try clear c59b0
                try clear c59b1
                try clear c60
                try clear c64
                try clear p64
                try clear c66
                try clear c66b0
                try clear c72
                try clear c74
                try clear c74b0
                try clear c74b1
                try clear c78
                try clear c81
                try clear c81b0
                try clear c81b1
                try clear c82
                try clear c82b0
                try clear c83
                try clear c86
                try clear c87
                try clear c90
                try clear c93
                try clear c94
                try clear c95
                try clear c96
                try clear c101
                try clear hcz100_0
                try clear hcz100_1
                try clear hcz100_2
                try clear hcz100_3
                try clear hcz102_0
                try clear hcz102_1
                try clear hcz102_2
                try clear hcz102_3
                try clear hcz105_0
                try clear hcz105_1
                try clear hcz105_2
                try clear hcz105_3
                try clear hcz52_0
                try clear hcz52_1
                try clear hcz52_2
                try clear hcz52_3
                try clear hcz57_0
                try clear hcz57_1
                try clear hcz57_2
                try clear hcz57_3
                try clear hcz61_0
                try clear hcz61_1
                try clear hcz61_2
                try clear hcz61_3
                try clear hcz62_0
                try clear hcz62_1
                try clear hcz62_2
                try clear hcz62_3
                try clear hcz73_0
                try clear hcz73_1
                try clear hcz73_2
                try clear hcz73_3
                try clear hcz79_0
                try clear hcz79_1
                try clear hcz79_2
                try clear hcz79_3
                try clear hcz84_0
                try clear hcz84_1
                try clear hcz84_2
                try clear hcz84_3
                try clear hcz88_0
                try clear hcz88_1
                try clear hcz88_2
                try clear hcz88_3
                try clear hcz91_0
                try clear hcz91_1
                try clear hcz91_2
                try clear hcz91_3
                try clear hcz97_0
                try clear hcz97_1
                try clear hcz97_2
                try clear hcz97_3
                try clear hfz100_0
                try clear hfz100_1
                try clear hfz100_2
                try clear hfz100_3
                try clear hfz102_0
                try clear hfz102_1
                try clear hfz102_2
                try clear hfz102_3
                try clear hfz105_0
                try clear hfz105_1
                try clear hfz105_2
                try clear hfz105_3
                try clear hfz52_0
                try clear hfz52_1
                try clear hfz52_2
                try clear hfz52_3
                try clear hfz57_0
                try clear hfz57_1
                try clear hfz57_2
                try clear hfz57_3
                try clear hfz61_0
                try clear hfz61_1
                try clear hfz61_2
                try clear hfz61_3
                try clear hfz62_0
                try clear hfz62_1
                try clear hfz62_2
                try clear hfz62_3
                try clear hfz73_0
                try clear hfz73_1
                try clear hfz73_2
                try clear hfz73_3
                try clear hfz79_0
                try clear hfz79_1
                try clear hfz79_2
                try clear hfz79_3
                try clear hfz84_0
                try clear hfz84_1
                try clear hfz84_2
                try clear hfz84_3
                try clear hfz88_0
                try clear hfz88_1
                try clear hfz88_2
                try clear hfz88_3
                try clear hfz91_0
                try clear hfz91_1
                try clear hfz91_2
                try clear hfz91_3
                try clear hfz97_0
                try clear hfz97_1
                try clear hfz97_2
                try clear hfz97_3
                try clear hx305_0
                try clear hx305_1
                try clear hx306_0
                try clear hx306_1
                try clear hx307_0
                try clear hx307_1
                try clear hx308_0
                try clear hx308_1
                try clear hx309_0
                try clear hx309_1
                try clear hx310_0
                try clear hx310_1
                try clear hx310_2
                try clear hx310_3
                try clear hx310_4
                try clear p2
                try clear p3
                try clear p30
                try clear p305
                try clear p306
                try clear p307
                try clear p308
                try clear p309
                try clear p31
                try clear p310
                try clear p6
                try clear p64
                try clear q3
                try clear q30
                try clear q305
                try clear q306
                try clear q307
                try clear q308
                try clear q309
                try clear q31
                try clear q310
                obtain ⟨kq, x16_64, HA, HJ64, HO_16, HO_320000, BK319, HB⟩ := hcut
                cases kq with
                | zero => exact absurd HA.out (by simp [stowagelaw20_ListingPages.j10])
                | succ kj64 =>
                 have H := HA.out
                 clear HA
                 simp only [stowagelaw20_ListingPages.j10] at H
                 replace H := Option.bind_eq_some_iff.mp H
                 obtain ⟨t345, A1060, H⟩ := H
                 replace H : (if t345 = true then (stowagelaw20_ListingPages.l2 kj64 l0 a1 a2 (wrap64 (1 + t311)) t297 x10_2 (wrap64 (x13_3 + 1))) else (some false)) = some r := H
                 have A106 := Aside0.mk A1060
                 clear A1060
                 by_cases c107 : t345 = true
                 ·subst c107
                  have H1 : (stowagelaw20_ListingPages.l2 kj64 l0 a1 a2 (wrap64 (1 + t311)) t297 x10_2 (wrap64 (x13_3 + 1))) = some r := by rw [if_pos rfl] at H; exact H
                  clear H
                  have H := H1
                  clear H1
                  as_aux_lemma =>
                   have H' := Aside0.mk H
                   clear H
                   obtain ⟨Ao108, co108, eo108⟩ := Kd.R_slice HO_16.out
                   subst eo108
                   have hcz109_0 : wc.cell? ⟨gb319, 0, none⟩ = some (u320000) := (blk_cell BK319.out 0).trans rfl
                   have hcz109_1 : wc.cell? ⟨gb319, 1, none⟩ = some (.bool x320001_47) := (blk_cell BK319.out 1).trans rfl
                   have hcz109_2 : wc.cell? ⟨gb319, 2, none⟩ = some (.string x320002_47) := (blk_cell BK319.out 2).trans rfl
                   have hcz109_3 : wc.cell? ⟨gb319, 3, none⟩ = some (.string x320003_47) := (blk_cell BK319.out 3).trans rfl
                   have hfz109_0 := blk_frozen BK319.out 0
                   have hfz109_1 := blk_frozen BK319.out 1
                   have hfz109_2 := blk_frozen BK319.out 2
                   have hfz109_3 := blk_frozen BK319.out 3
                   obtain ⟨Ao110, co110, eo110⟩ := Kd.R_slice HO_320000.out
                   subst eo110
                   go_wp2_with (first|(go_at_call 16; (with_reducible refine (stowagekit_SamePage.calls kj64 _ _ x16_64 false (⟨#[]⟩ : ByteArray) (⟨#[]⟩ : ByteArray) _ _ x320000_47 false (⟨#[]⟩ : ByteArray) (⟨#[]⟩ : ByteArray) true _ ?side1 ?side2 ?side3 ?side4 A106.out).mono ?_); (case side1 => repeat (first|exact (Kd.R_reads' HO_16.out).2.2|(with_reducible refine Kd.C_alloc ?_ _)|(with_reducible refine Kd.C_drewN ?_ _)|(with_reducible refine Kd.C_drew ?_))); (case side2 => exact (Kd.R_reads' HO_16.out).2.1); (case side3 => repeat (first|exact (Kd.R_reads' HO_320000.out).2.2|(with_reducible refine Kd.C_alloc ?_ _)|(with_reducible refine Kd.C_drewN ?_ _)|(with_reducible refine Kd.C_drew ?_))); (case side4 => exact (Kd.R_reads' HO_320000.out).2.1); rintro e w111 ⟨rfl, hb⟩; have n0_ := Aside0.mk (Kd.R_below (by (with_reducible repeat (first|apply Kd.R_alloc|apply Kd.R_drewN|apply Kd.R_drew)); exact HO_16.out) hb); have n1_ := Aside0.mk (Kd.R_below (by (with_reducible repeat (first|apply Kd.R_alloc|apply Kd.R_drewN|apply Kd.R_drew)); exact HO_320000.out) hb); have n2_ := Aside0.mk (blk_below (g := gb319) (o := .cells #[.slice Ao110 x320000_47.length co110, .bool x320001_47, .string x320002_47, .string x320003_47] 28 (0, 0)) (by (with_reducible repeat (first|refine blk_drewN ?_ _|refine blk_drew ?_|refine blk_alloc ?_ _)); exact BK319.out) hb); have n3_ := Aside0.mk (below_step (by repeat (first|(with_reducible first|exact HB.out|apply below_alloc|apply pw_below_drewN|apply below_drew1|refine below_set ?_ GE319.out)|exact HB.out)) hb); clear HO_16; clear HO_320000; clear BK319; clear HB; have HO_16 := n0_; have HO_320000 := n1_; have BK319 := n2_; have HB := n3_; clear n0_ n1_ n2_ n3_; (try clear hb); (try clear hb2); (try clear hk); (try clear hi)))
                   repeat (go_quiet (first|(go_at_call 16; (with_reducible refine (stowagekit_SamePage.calls kj64 _ _ x16_64 false (⟨#[]⟩ : ByteArray) (⟨#[]⟩ : ByteArray) _ _ x320000_47 false (⟨#[]⟩ : ByteArray) (⟨#[]⟩ : ByteArray) true _ ?side1 ?side2 ?side3 ?side4 A106.out).mono ?_); (case side1 => repeat (first|exact (Kd.R_reads' HO_16.out).2.2|(with_reducible refine Kd.C_alloc ?_ _)|(with_reducible refine Kd.C_drewN ?_ _)|(with_reducible refine Kd.C_drew ?_))); (case side2 => exact (Kd.R_reads' HO_16.out).2.1); (case side3 => repeat (first|exact (Kd.R_reads' HO_320000.out).2.2|(with_reducible refine Kd.C_alloc ?_ _)|(with_reducible refine Kd.C_drewN ?_ _)|(with_reducible refine Kd.C_drew ?_))); (case side4 => exact (Kd.R_reads' HO_320000.out).2.1); rintro e w111 ⟨rfl, hb⟩; have n0_ := Aside0.mk (Kd.R_below (by (with_reducible repeat (first|apply Kd.R_alloc|apply Kd.R_drewN|apply Kd.R_drew)); exact HO_16.out) hb); have n1_ := Aside0.mk (Kd.R_below (by (with_reducible repeat (first|apply Kd.R_alloc|apply Kd.R_drewN|apply Kd.R_drew)); exact HO_320000.out) hb); have n2_ := Aside0.mk (blk_below (g := gb319) (o := .cells #[.slice Ao110 x320000_47.length co110, .bool x320001_47, .string x320002_47, .string x320003_47] 28 (0, 0)) (by (with_reducible repeat (first|refine blk_drewN ?_ _|refine blk_drew ?_|refine blk_alloc ?_ _)); exact BK319.out) hb); have n3_ := Aside0.mk (below_step (by repeat (first|(with_reducible first|exact HB.out|apply below_alloc|apply pw_below_drewN|apply below_drew1|refine below_set ?_ GE319.out)|exact HB.out)) hb); clear HO_16; clear HO_320000; clear BK319; clear HB; have HO_16 := n0_; have HO_320000 := n1_; have BK319 := n2_; have HB := n3_; clear n0_ n1_ n2_ n3_; (try clear hb); (try clear hb2); (try clear hk); (try clear hi))); try go_wp2_with (first|(go_at_call 16; (with_reducible refine (stowagekit_SamePage.calls kj64 _ _ x16_64 false (⟨#[]⟩ : ByteArray) (⟨#[]⟩ : ByteArray) _ _ x320000_47 false (⟨#[]⟩ : ByteArray) (⟨#[]⟩ : ByteArray) true _ ?side1 ?side2 ?side3 ?side4 A106.out).mono ?_); (case side1 => repeat (first|exact (Kd.R_reads' HO_16.out).2.2|(with_reducible refine Kd.C_alloc ?_ _)|(with_reducible refine Kd.C_drewN ?_ _)|(with_reducible refine Kd.C_drew ?_))); (case side2 => exact (Kd.R_reads' HO_16.out).2.1); (case side3 => repeat (first|exact (Kd.R_reads' HO_320000.out).2.2|(with_reducible refine Kd.C_alloc ?_ _)|(with_reducible refine Kd.C_drewN ?_ _)|(with_reducible refine Kd.C_drew ?_))); (case side4 => exact (Kd.R_reads' HO_320000.out).2.1); rintro e w111 ⟨rfl, hb⟩; have n0_ := Aside0.mk (Kd.R_below (by (with_reducible repeat (first|apply Kd.R_alloc|apply Kd.R_drewN|apply Kd.R_drew)); exact HO_16.out) hb); have n1_ := Aside0.mk (Kd.R_below (by (with_reducible repeat (first|apply Kd.R_alloc|apply Kd.R_drewN|apply Kd.R_drew)); exact HO_320000.out) hb); have n2_ := Aside0.mk (blk_below (g := gb319) (o := .cells #[.slice Ao110 x320000_47.length co110, .bool x320001_47, .string x320002_47, .string x320003_47] 28 (0, 0)) (by (with_reducible repeat (first|refine blk_drewN ?_ _|refine blk_drew ?_|refine blk_alloc ?_ _)); exact BK319.out) hb); have n3_ := Aside0.mk (below_step (by repeat (first|(with_reducible first|exact HB.out|apply below_alloc|apply pw_below_drewN|apply below_drew1|refine below_set ?_ GE319.out)|exact HB.out)) hb); clear HO_16; clear HO_320000; clear BK319; clear HB; have HO_16 := n0_; have HO_320000 := n1_; have BK319 := n2_; have HB := n3_; clear n0_ n1_ n2_ n3_; (try clear hb); (try clear hb2); (try clear hk); (try clear hi))))
                   go_roundg kj64
                   case measure => have := HJ5.out; have := HK2.out; have := HK3.out; have := HJ47.out; have := HJ57.out; have := HJ64.out; omega
                   case rel => exact ⟨(wrap64 (x13_3 + 1)), (by first|rfl|(simp; done)|(simp [*]; done)), H', ⟨by have := HJ5.out; have := HK2.out; have := HK3.out; have := HJ47.out; have := HJ57.out; have := HJ64.out; omega⟩, ⟨by repeat (first|(with_reducible first|exact HB.out|apply below_alloc|apply pw_below_drewN|apply below_drew1|refine below_set ?_ GE319.out)|exact HB.out)⟩⟩
                 ·replace c107 := Bool.eq_false_iff.mpr c107
                  subst c107
                  have H1 : (some false) = some r := by rw [if_neg (show ¬ (false = true) by decide)] at H; exact H
                  clear H
                  have H := H1
                  clear H1
                  as_aux_lemma =>
                   obtain rfl := Option.some.inj H
                   obtain ⟨Ao112, co112, eo112⟩ := Kd.R_slice HO_16.out
                   subst eo112
                   have hcz113_0 : wc.cell? ⟨gb319, 0, none⟩ = some (u320000) := (blk_cell BK319.out 0).trans rfl
                   have hcz113_1 : wc.cell? ⟨gb319, 1, none⟩ = some (.bool x320001_47) := (blk_cell BK319.out 1).trans rfl
                   have hcz113_2 : wc.cell? ⟨gb319, 2, none⟩ = some (.string x320002_47) := (blk_cell BK319.out 2).trans rfl
                   have hcz113_3 : wc.cell? ⟨gb319, 3, none⟩ = some (.string x320003_47) := (blk_cell BK319.out 3).trans rfl
                   have hfz113_0 := blk_frozen BK319.out 0
                   have hfz113_1 := blk_frozen BK319.out 1
                   have hfz113_2 := blk_frozen BK319.out 2
                   have hfz113_3 := blk_frozen BK319.out 3
                   obtain ⟨Ao114, co114, eo114⟩ := Kd.R_slice HO_320000.out
                   subst eo114
                   go_wp2_with (first|(go_at_call 16; (with_reducible refine (stowagekit_SamePage.calls kj64 _ _ x16_64 false (⟨#[]⟩ : ByteArray) (⟨#[]⟩ : ByteArray) _ _ x320000_47 false (⟨#[]⟩ : ByteArray) (⟨#[]⟩ : ByteArray) false _ ?side1 ?side2 ?side3 ?side4 A106.out).mono ?_); (case side1 => repeat (first|exact (Kd.R_reads' HO_16.out).2.2|(with_reducible refine Kd.C_alloc ?_ _)|(with_reducible refine Kd.C_drewN ?_ _)|(with_reducible refine Kd.C_drew ?_))); (case side2 => exact (Kd.R_reads' HO_16.out).2.1); (case side3 => repeat (first|exact (Kd.R_reads' HO_320000.out).2.2|(with_reducible refine Kd.C_alloc ?_ _)|(with_reducible refine Kd.C_drewN ?_ _)|(with_reducible refine Kd.C_drew ?_))); (case side4 => exact (Kd.R_reads' HO_320000.out).2.1); rintro e w115 ⟨rfl, hb⟩; have n0_ := Aside0.mk (Kd.R_below (by (with_reducible repeat (first|apply Kd.R_alloc|apply Kd.R_drewN|apply Kd.R_drew)); exact HO_16.out) hb); have n1_ := Aside0.mk (Kd.R_below (by (with_reducible repeat (first|apply Kd.R_alloc|apply Kd.R_drewN|apply Kd.R_drew)); exact HO_320000.out) hb); have n2_ := Aside0.mk (blk_below (g := gb319) (o := .cells #[.slice Ao114 x320000_47.length co114, .bool x320001_47, .string x320002_47, .string x320003_47] 28 (0, 0)) (by (with_reducible repeat (first|refine blk_drewN ?_ _|refine blk_drew ?_|refine blk_alloc ?_ _)); exact BK319.out) hb); have n3_ := Aside0.mk (below_step (by repeat (first|(with_reducible first|exact HB.out|apply below_alloc|apply pw_below_drewN|apply below_drew1|refine below_set ?_ GE319.out)|exact HB.out)) hb); clear HO_16; clear HO_320000; clear BK319; clear HB; have HO_16 := n0_; have HO_320000 := n1_; have BK319 := n2_; have HB := n3_; clear n0_ n1_ n2_ n3_; (try clear hb); (try clear hb2); (try clear hk); (try clear hi)))
                   repeat (go_quiet (first|(go_at_call 16; (with_reducible refine (stowagekit_SamePage.calls kj64 _ _ x16_64 false (⟨#[]⟩ : ByteArray) (⟨#[]⟩ : ByteArray) _ _ x320000_47 false (⟨#[]⟩ : ByteArray) (⟨#[]⟩ : ByteArray) false _ ?side1 ?side2 ?side3 ?side4 A106.out).mono ?_); (case side1 => repeat (first|exact (Kd.R_reads' HO_16.out).2.2|(with_reducible refine Kd.C_alloc ?_ _)|(with_reducible refine Kd.C_drewN ?_ _)|(with_reducible refine Kd.C_drew ?_))); (case side2 => exact (Kd.R_reads' HO_16.out).2.1); (case side3 => repeat (first|exact (Kd.R_reads' HO_320000.out).2.2|(with_reducible refine Kd.C_alloc ?_ _)|(with_reducible refine Kd.C_drewN ?_ _)|(with_reducible refine Kd.C_drew ?_))); (case side4 => exact (Kd.R_reads' HO_320000.out).2.1); rintro e w115 ⟨rfl, hb⟩; have n0_ := Aside0.mk (Kd.R_below (by (with_reducible repeat (first|apply Kd.R_alloc|apply Kd.R_drewN|apply Kd.R_drew)); exact HO_16.out) hb); have n1_ := Aside0.mk (Kd.R_below (by (with_reducible repeat (first|apply Kd.R_alloc|apply Kd.R_drewN|apply Kd.R_drew)); exact HO_320000.out) hb); have n2_ := Aside0.mk (blk_below (g := gb319) (o := .cells #[.slice Ao114 x320000_47.length co114, .bool x320001_47, .string x320002_47, .string x320003_47] 28 (0, 0)) (by (with_reducible repeat (first|refine blk_drewN ?_ _|refine blk_drew ?_|refine blk_alloc ?_ _)); exact BK319.out) hb); have n3_ := Aside0.mk (below_step (by repeat (first|(with_reducible first|exact HB.out|apply below_alloc|apply pw_below_drewN|apply below_drew1|refine below_set ?_ GE319.out)|exact HB.out)) hb); clear HO_16; clear HO_320000; clear BK319; clear HB; have HO_16 := n0_; have HO_320000 := n1_; have BK319 := n2_; have HB := n3_; clear n0_ n1_ n2_ n3_; (try clear hb); (try clear hb2); (try clear hk); (try clear hi))); try go_wp2_with (first|(go_at_call 16; (with_reducible refine (stowagekit_SamePage.calls kj64 _ _ x16_64 false (⟨#[]⟩ : ByteArray) (⟨#[]⟩ : ByteArray) _ _ x320000_47 false (⟨#[]⟩ : ByteArray) (⟨#[]⟩ : ByteArray) false _ ?side1 ?side2 ?side3 ?side4 A106.out).mono ?_); (case side1 => repeat (first|exact (Kd.R_reads' HO_16.out).2.2|(with_reducible refine Kd.C_alloc ?_ _)|(with_reducible refine Kd.C_drewN ?_ _)|(with_reducible refine Kd.C_drew ?_))); (case side2 => exact (Kd.R_reads' HO_16.out).2.1); (case side3 => repeat (first|exact (Kd.R_reads' HO_320000.out).2.2|(with_reducible refine Kd.C_alloc ?_ _)|(with_reducible refine Kd.C_drewN ?_ _)|(with_reducible refine Kd.C_drew ?_))); (case side4 => exact (Kd.R_reads' HO_320000.out).2.1); rintro e w115 ⟨rfl, hb⟩; have n0_ := Aside0.mk (Kd.R_below (by (with_reducible repeat (first|apply Kd.R_alloc|apply Kd.R_drewN|apply Kd.R_drew)); exact HO_16.out) hb); have n1_ := Aside0.mk (Kd.R_below (by (with_reducible repeat (first|apply Kd.R_alloc|apply Kd.R_drewN|apply Kd.R_drew)); exact HO_320000.out) hb); have n2_ := Aside0.mk (blk_below (g := gb319) (o := .cells #[.slice Ao114 x320000_47.length co114, .bool x320001_47, .string x320002_47, .string x320003_47] 28 (0, 0)) (by (with_reducible repeat (first|refine blk_drewN ?_ _|refine blk_drew ?_|refine blk_alloc ?_ _)); exact BK319.out) hb); have n3_ := Aside0.mk (below_step (by repeat (first|(with_reducible first|exact HB.out|apply below_alloc|apply pw_below_drewN|apply below_drew1|refine below_set ?_ GE319.out)|exact HB.out)) hb); clear HO_16; clear HO_320000; clear BK319; clear HB; have HO_16 := n0_; have HO_320000 := n1_; have BK319 := n2_; have HB := n3_; clear n0_ n1_ n2_ n3_; (try clear hb); (try clear hb2); (try clear hk); (try clear hi))))
                   go_ret
                   exact ⟨by first|rfl|(simp [errW_none, errW_some] <;> rfl)|(simp [*, errW_none, errW_some] <;> rfl), by repeat (first|(with_reducible first|exact HB.out|apply below_alloc|apply pw_below_drewN|apply below_drew1|refine below_set ?_ GE319.out)|exact HB.out)⟩
         ·rw [if_neg c46] at H
          have c46b0 : decide (x13_3 < 2) = false := decide_eq_false c46
          clear c46
          as_aux_lemma =>
           obtain rfl := Option.some.inj H
           go_wp2
           repeat (go_quiet (fail); try go_wp2)
           go_ret
           exact ⟨by first|rfl|(simp [errW_none, errW_some] <;> rfl)|(simp [*, errW_none, errW_some] <;> rfl), by repeat (first|(with_reducible first|exact HB.out|apply below_alloc|apply pw_below_drewN|apply below_drew1)|exact HB.out)⟩

end Go.Proofs.Ytdaokkajbooiaaa.Pr
end
