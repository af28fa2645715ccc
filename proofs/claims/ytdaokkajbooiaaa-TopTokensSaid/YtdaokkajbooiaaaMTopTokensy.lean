/- Texts of this proof, put together: PrStowagetopTopTokens. -/
import Derived.Test.YtdaokkajbooiaaaMTopTokensp
import Derived.Test.YtdaokkajbooiaaaMTopTokensr
import Derived.Test.YtdaokkajbooiaaaMTopTokensx
section
namespace Go.Proofs.Ytdaokkajbooiaaa.Pr
open Go.RowKit Go.Proofs.YtdaokkajbooiaaaW.PrintWords Go.Proofs.YtdaokkajbooiaaaW.PrintLast Go.Proofs.YtdaokkajbooiaaaW.PrintMore
attribute [local go_sem] max2_int min2_int max_two min_two max_three min_three max_four min_four -- for this text's walks alone
attribute [local go_sem high] leq_as_less
set_option linter.unusedVariables false
set_option linter.unusedSimpArgs false

/-! ### stowagetop_TopTokens: function 8 -/
mutual
def stowagetop_TopTokens.j0 : Nat → List (S47) → ByteArray → ByteArray → Int → Bool → Option (Bool)
 | 0, _, _, _, _, _ => none
 | k + 1, x0, x1, x2, x3, x14 => (stowagekit_LargeEntries.f k x0).bind fun t390 => (if t390 = true then (stowagetop_TopTokens.j1 k x0 x1 x2 x3 x14 true) else ((listing_Check.f k x0).bind fun t391 => (if t391 = 0 then (if (x1.size : Int) > 400 then (stowagetop_TopTokens.j1 k x0 x1 x2 x3 x14 true) else (stowagetop_TopTokens.j1 k x0 x1 x2 x3 x14 (decide ((x2.size : Int) > 400)))) else (stowagetop_TopTokens.j1 k x0 x1 x2 x3 x14 true))))
def stowagetop_TopTokens.j1 : Nat → List (S47) → ByteArray → ByteArray → Int → Bool → Bool → Option (Bool)
 | 0, _, _, _, _, _, _ => none
 | k + 1, x0, x1, x2, x3, x14, x64 => if x64 = true then (some x14) else (stowagetop_TopTokens.l0 k x0 x1 x2 x3 x14 0)
def stowagetop_TopTokens.l0 : Nat → List (S47) → ByteArray → ByteArray → Int → Bool → Int → Option (Bool)
 | 0, _, _, _, _, _, _ => none
 | k + 1, x0, x1, x2, x3, x14, x15 => if x15 < (x0.length : Int) then (if 0 ≤ x15 then (if (((rd_T47 x0 x15).f0).size : Int) > 400 then (some x14) else (stowagetop_TopTokens.l0 k x0 x1 x2 x3 x14 (wrap64 (x15 + 1)))) else (none)) else ((stowagekit_Pick.f x3 20).bind fun t393 => ((listing_Keys.f x0 x1 x2 (⟨#[]⟩ : ByteArray) 1000).bind fun bt394 => (if bt394.2.2.2.2 = 0 then (stowagetop_TopTokens.l1 k x0 x1 x2 (wrap64 (1 + t393)) x14 ([] : List (S39)) (⟨#[]⟩ : ByteArray) 0 bt394.1 bt394.2.1 bt394.2.2.1 bt394.2.2.2.1) else (some false))))
def stowagetop_TopTokens.j5 : Nat → Bool → List (S39) → List (S39) → Bool → ByteArray → ByteArray → Option (Bool)
 | 0, _, _, _, _, _, _ => none
 | k + 1, x14, x18, x402000, x402001, x402002, x402003 => if x14 = true then ((stowagekit_SamePage.f k x18 false (⟨#[]⟩ : ByteArray) (⟨#[]⟩ : ByteArray) x402000 false (⟨#[]⟩ : ByteArray) (⟨#[]⟩ : ByteArray)).bind fun t418 => (some t418)) else (some false)
def stowagetop_TopTokens.l1 : Nat → List (S47) → ByteArray → ByteArray → Int → Bool → List (S39) → ByteArray → Int → List (S39) → Bool → ByteArray → ByteArray → Option (Bool)
 | 0, _, _, _, _, _, _, _, _, _, _, _, _ => none
 | k + 1, x0, x1, x2, x3, x14, x18, x19, x20, x402000, x402001, x402002, x402003 => if x20 ≤ (x0.length : Int) then ((listing_Keys.f x0 x1 x2 x19 x3).bind fun bt402 => (if bt402.2.2.2.2 = 0 then (if x18.length + bt402.1.length < 1599289640401 then ((some (x18 ++ bt402.1 : List (S39))).bind fun y410 => (if bt402.2.1 = true then ((token_Make.f bt402.2.2.1 bt402.2.2.2.1).bind fun bt413 => ((token_Read.f bt413.1).bind fun bt415 => (if bt413.2 = 0 then (if bt415.2.2 = 0 then (stowagetop_TopTokens.j4 k x0 x1 x2 x3 x14 y410 x20 bt415.1 (bt415.2.1.toList != ([] : List UInt8)) x402000 x402001 x402002 x402003) else (stowagetop_TopTokens.j4 k x0 x1 x2 x3 x14 y410 x20 bt415.1 true x402000 x402001 x402002 x402003)) else (stowagetop_TopTokens.j4 k x0 x1 x2 x3 x14 y410 x20 bt415.1 true x402000 x402001 x402002 x402003)))) else (stowagetop_TopTokens.j5 k x14 y410 x402000 x402001 x402002 x402003))) else (none)) else (some false))) else (stowagetop_TopTokens.j5 k x14 x18 x402000 x402001 x402002 x402003)
def stowagetop_TopTokens.j4 : Nat → List (S47) → ByteArray → ByteArray → Int → Bool → List (S39) → Int → ByteArray → Bool → List (S39) → Bool → ByteArray → ByteArray → Option (Bool)
 | 0, _, _, _, _, _, _, _, _, _, _, _, _, _ => none
 | k + 1, x0, x1, x2, x3, x14, x18, x20, x25, x139, x402000, x402001, x402002, x402003 => if x139 = true then (some false) else (stowagetop_TopTokens.l1 k x0 x1 x2 x3 x14 x18 x25 (wrap64 (x20 + 1)) x402000 x402001 x402002 x402003)
end
def stowagetop_TopTokens.f (k : Nat) (l0 : List (S47)) (a1 : ByteArray) (a2 : ByteArray) (a3 : Int) : Option (Bool) := (token_Make.f (⟨#[97]⟩ : ByteArray) (⟨#[]⟩ : ByteArray)).bind fun bt385 => ((token_Read.f bt385.1).bind fun bt387 => (if bt385.2 = 0 then (if bt387.2.2 = 0 then (stowagetop_TopTokens.j0 k l0 a1 a2 a3 (bt387.1.toList == ([97] : List UInt8))) else (stowagetop_TopTokens.j0 k l0 a1 a2 a3 false)) else (stowagetop_TopTokens.j0 k l0 a1 a2 a3 false)))
theorem stowagetop_TopTokens.mono_l : ∀ k, (∀ y0 y1 y2 y3 y4, LeO (stowagetop_TopTokens.j0 k y0 y1 y2 y3 y4) (stowagetop_TopTokens.j0 (k + 1) y0 y1 y2 y3 y4)) ∧ (∀ y0 y1 y2 y3 y4 y5, LeO (stowagetop_TopTokens.j1 k y0 y1 y2 y3 y4 y5) (stowagetop_TopTokens.j1 (k + 1) y0 y1 y2 y3 y4 y5)) ∧ (∀ y0 y1 y2 y3 y4 y5, LeO (stowagetop_TopTokens.l0 k y0 y1 y2 y3 y4 y5) (stowagetop_TopTokens.l0 (k + 1) y0 y1 y2 y3 y4 y5)) ∧ (∀ y0 y1 y2 y3 y4 y5, LeO (stowagetop_TopTokens.j5 k y0 y1 y2 y3 y4 y5) (stowagetop_TopTokens.j5 (k + 1) y0 y1 y2 y3 y4 y5)) ∧ (∀ y0 y1 y2 y3 y4 y5 y6 y7 y8 y9 y10 y11, LeO (stowagetop_TopTokens.l1 k y0 y1 y2 y3 y4 y5 y6 y7 y8 y9 y10 y11) (stowagetop_TopTokens.l1 (k + 1) y0 y1 y2 y3 y4 y5 y6 y7 y8 y9 y10 y11)) ∧ (∀ y0 y1 y2 y3 y4 y5 y6 y7 y8 y9 y10 y11 y12, LeO (stowagetop_TopTokens.j4 k y0 y1 y2 y3 y4 y5 y6 y7 y8 y9 y10 y11 y12) (stowagetop_TopTokens.j4 (k + 1) y0 y1 y2 y3 y4 y5 y6 y7 y8 y9 y10 y11 y12))
 | 0 => ⟨fun _ _ _ _ _ r h => by simp [stowagetop_TopTokens.j0] at h, fun _ _ _ _ _ _ r h => by simp [stowagetop_TopTokens.j1] at h, fun _ _ _ _ _ _ r h => by simp [stowagetop_TopTokens.l0] at h, fun _ _ _ _ _ _ r h => by simp [stowagetop_TopTokens.j5] at h, fun _ _ _ _ _ _ _ _ _ _ _ _ r h => by simp [stowagetop_TopTokens.l1] at h, fun _ _ _ _ _ _ _ _ _ _ _ _ _ r h => by simp [stowagetop_TopTokens.j4] at h⟩
 | k + 1 => by
  obtain ⟨ih0, ih1, ih2, ih3, ih4, ih5⟩ := stowagetop_TopTokens.mono_l k
  refine ⟨?_, ?_, ?_, ?_, ?_, ?_⟩
  ·intro y0 y1 y2 y3 y4
   unfold stowagetop_TopTokens.j0
   repeat' first
   | (with_reducible exact ih0 _ _ _ _ _)
   | (with_reducible exact ih1 _ _ _ _ _ _)
   | (with_reducible exact ih2 _ _ _ _ _ _)
   | (with_reducible exact ih3 _ _ _ _ _ _)
   | (with_reducible exact ih4 _ _ _ _ _ _ _ _ _ _ _ _)
   | (with_reducible exact ih5 _ _ _ _ _ _ _ _ _ _ _ _ _)
   | (with_reducible exact listing_Check.mono _ _)
   | (with_reducible exact stowagekit_LargeEntries.mono _ _)
   | (with_reducible exact stowagekit_SamePage.mono _ _ _ _ _ _ _ _ _)
   | (with_reducible exact LeO.refl _)
   | (with_reducible exact LeO.none _)
   | (with_reducible refine LeO.ite ?_ ?_)
   | (with_reducible refine LeO.bind ?_ (fun _ => ?_))
   | exact ih0 _ _ _ _ _
   | exact ih1 _ _ _ _ _ _
   | exact ih2 _ _ _ _ _ _
   | exact ih3 _ _ _ _ _ _
   | exact ih4 _ _ _ _ _ _ _ _ _ _ _ _
   | exact ih5 _ _ _ _ _ _ _ _ _ _ _ _ _
   | exact listing_Check.mono _ _
   | exact stowagekit_LargeEntries.mono _ _
   | exact stowagekit_SamePage.mono _ _ _ _ _ _ _ _ _
   | exact LeO.none _
   | refine LeO.ite ?_ ?_
   | refine LeO.bind ?_ (fun _ => ?_)
  ·intro y0 y1 y2 y3 y4 y5
   unfold stowagetop_TopTokens.j1
   repeat' first
   | (with_reducible exact ih0 _ _ _ _ _)
   | (with_reducible exact ih1 _ _ _ _ _ _)
   | (with_reducible exact ih2 _ _ _ _ _ _)
   | (with_reducible exact ih3 _ _ _ _ _ _)
   | (with_reducible exact ih4 _ _ _ _ _ _ _ _ _ _ _ _)
   | (with_reducible exact ih5 _ _ _ _ _ _ _ _ _ _ _ _ _)
   | (with_reducible exact listing_Check.mono _ _)
   | (with_reducible exact stowagekit_LargeEntries.mono _ _)
   | (with_reducible exact stowagekit_SamePage.mono _ _ _ _ _ _ _ _ _)
   | (with_reducible exact LeO.refl _)
   | (with_reducible exact LeO.none _)
   | (with_reducible refine LeO.ite ?_ ?_)
   | (with_reducible refine LeO.bind ?_ (fun _ => ?_))
   | exact ih0 _ _ _ _ _
   | exact ih1 _ _ _ _ _ _
   | exact ih2 _ _ _ _ _ _
   | exact ih3 _ _ _ _ _ _
   | exact ih4 _ _ _ _ _ _ _ _ _ _ _ _
   | exact ih5 _ _ _ _ _ _ _ _ _ _ _ _ _
   | exact listing_Check.mono _ _
   | exact stowagekit_LargeEntries.mono _ _
   | exact stowagekit_SamePage.mono _ _ _ _ _ _ _ _ _
   | exact LeO.none _
   | refine LeO.ite ?_ ?_
   | refine LeO.bind ?_ (fun _ => ?_)
  ·intro y0 y1 y2 y3 y4 y5
   unfold stowagetop_TopTokens.l0
   repeat' first
   | (with_reducible exact ih0 _ _ _ _ _)
   | (with_reducible exact ih1 _ _ _ _ _ _)
   | (with_reducible exact ih2 _ _ _ _ _ _)
   | (with_reducible exact ih3 _ _ _ _ _ _)
   | (with_reducible exact ih4 _ _ _ _ _ _ _ _ _ _ _ _)
   | (with_reducible exact ih5 _ _ _ _ _ _ _ _ _ _ _ _ _)
   | (with_reducible exact listing_Check.mono _ _)
   | (with_reducible exact stowagekit_LargeEntries.mono _ _)
   | (with_reducible exact stowagekit_SamePage.mono _ _ _ _ _ _ _ _ _)
   | (with_reducible exact LeO.refl _)
   | (with_reducible exact LeO.none _)
   | (with_reducible refine LeO.ite ?_ ?_)
   | (with_reducible refine LeO.bind ?_ (fun _ => ?_))
   | exact ih0 _ _ _ _ _
   | exact ih1 _ _ _ _ _ _
   | exact ih2 _ _ _ _ _ _
   | exact ih3 _ _ _ _ _ _
   | exact ih4 _ _ _ _ _ _ _ _ _ _ _ _
   | exact ih5 _ _ _ _ _ _ _ _ _ _ _ _ _
   | exact listing_Check.mono _ _
   | exact stowagekit_LargeEntries.mono _ _
   | exact stowagekit_SamePage.mono _ _ _ _ _ _ _ _ _
   | exact LeO.none _
   | refine LeO.ite ?_ ?_
   | refine LeO.bind ?_ (fun _ => ?_)
  ·intro y0 y1 y2 y3 y4 y5
   unfold stowagetop_TopTokens.j5
   repeat' first
   | (with_reducible exact ih0 _ _ _ _ _)
   | (with_reducible exact ih1 _ _ _ _ _ _)
   | (with_reducible exact ih2 _ _ _ _ _ _)
   | (with_reducible exact ih3 _ _ _ _ _ _)
   | (with_reducible exact ih4 _ _ _ _ _ _ _ _ _ _ _ _)
   | (with_reducible exact ih5 _ _ _ _ _ _ _ _ _ _ _ _ _)
   | (with_reducible exact listing_Check.mono _ _)
   | (with_reducible exact stowagekit_LargeEntries.mono _ _)
   | (with_reducible exact stowagekit_SamePage.mono _ _ _ _ _ _ _ _ _)
   | (with_reducible exact LeO.refl _)
   | (with_reducible exact LeO.none _)
   | (with_reducible refine LeO.ite ?_ ?_)
   | (with_reducible refine LeO.bind ?_ (fun _ => ?_))
   | exact ih0 _ _ _ _ _
   | exact ih1 _ _ _ _ _ _
   | exact ih2 _ _ _ _ _ _
   | exact ih3 _ _ _ _ _ _
   | exact ih4 _ _ _ _ _ _ _ _ _ _ _ _
   | exact ih5 _ _ _ _ _ _ _ _ _ _ _ _ _
   | exact listing_Check.mono _ _
   | exact stowagekit_LargeEntries.mono _ _
   | exact stowagekit_SamePage.mono _ _ _ _ _ _ _ _ _
   | exact LeO.none _
   | refine LeO.ite ?_ ?_
   | refine LeO.bind ?_ (fun _ => ?_)
  ·intro y0 y1 y2 y3 y4 y5 y6 y7 y8 y9 y10 y11
   unfold stowagetop_TopTokens.l1
   repeat' first
   | (with_reducible exact ih0 _ _ _ _ _)
   | (with_reducible exact ih1 _ _ _ _ _ _)
   | (with_reducible exact ih2 _ _ _ _ _ _)
   | (with_reducible exact ih3 _ _ _ _ _ _)
   | (with_reducible exact ih4 _ _ _ _ _ _ _ _ _ _ _ _)
   | (with_reducible exact ih5 _ _ _ _ _ _ _ _ _ _ _ _ _)
   | (with_reducible exact listing_Check.mono _ _)
   | (with_reducible exact stowagekit_LargeEntries.mono _ _)
   | (with_reducible exact stowagekit_SamePage.mono _ _ _ _ _ _ _ _ _)
   | (with_reducible exact LeO.refl _)
   | (with_reducible exact LeO.none _)
   | (with_reducible refine LeO.ite ?_ ?_)
   | (with_reducible refine LeO.bind ?_ (fun _ => ?_))
   | exact ih0 _ _ _ _ _
   | exact ih1 _ _ _ _ _ _
   | exact ih2 _ _ _ _ _ _
   | exact ih3 _ _ _ _ _ _
   | exact ih4 _ _ _ _ _ _ _ _ _ _ _ _
   | exact ih5 _ _ _ _ _ _ _ _ _ _ _ _ _
   | exact listing_Check.mono _ _
   | exact stowagekit_LargeEntries.mono _ _
   | exact stowagekit_SamePage.mono _ _ _ _ _ _ _ _ _
   | exact LeO.none _
   | refine LeO.ite ?_ ?_
   | refine LeO.bind ?_ (fun _ => ?_)
  ·intro y0 y1 y2 y3 y4 y5 y6 y7 y8 y9 y10 y11 y12
   unfold stowagetop_TopTokens.j4
   repeat' first
   | (with_reducible exact ih0 _ _ _ _ _)
   | (with_reducible exact ih1 _ _ _ _ _ _)
   | (with_reducible exact ih2 _ _ _ _ _ _)
   | (with_reducible exact ih3 _ _ _ _ _ _)
   | (with_reducible exact ih4 _ _ _ _ _ _ _ _ _ _ _ _)
   | (with_reducible exact ih5 _ _ _ _ _ _ _ _ _ _ _ _ _)
   | (with_reducible exact listing_Check.mono _ _)
   | (with_reducible exact stowagekit_LargeEntries.mono _ _)
   | (with_reducible exact stowagekit_SamePage.mono _ _ _ _ _ _ _ _ _)
   | (with_reducible exact LeO.refl _)
   | (with_reducible exact LeO.none _)
   | (with_reducible refine LeO.ite ?_ ?_)
   | (with_reducible refine LeO.bind ?_ (fun _ => ?_))
   | exact ih0 _ _ _ _ _
   | exact ih1 _ _ _ _ _ _
   | exact ih2 _ _ _ _ _ _
   | exact ih3 _ _ _ _ _ _
   | exact ih4 _ _ _ _ _ _ _ _ _ _ _ _
   | exact ih5 _ _ _ _ _ _ _ _ _ _ _ _ _
   | exact listing_Check.mono _ _
   | exact stowagekit_LargeEntries.mono _ _
   | exact stowagekit_SamePage.mono _ _ _ _ _ _ _ _ _
   | exact LeO.none _
   | refine LeO.ite ?_ ?_
   | refine LeO.bind ?_ (fun _ => ?_)
theorem stowagetop_TopTokens.mono : ∀ a0 a1 a2 a3 k, LeO (stowagetop_TopTokens.f k a0 a1 a2 a3) (stowagetop_TopTokens.f (k + 1) a0 a1 a2 a3) := by
 intro a0 a1 a2 a3 k
 obtain ⟨ih0, ih1, ih2, ih3, ih4, ih5⟩ := stowagetop_TopTokens.mono_l k
 unfold stowagetop_TopTokens.f
 repeat' first
   | (with_reducible exact ih0 _ _ _ _ _)
   | (with_reducible exact ih1 _ _ _ _ _ _)
   | (with_reducible exact ih2 _ _ _ _ _ _)
   | (with_reducible exact ih3 _ _ _ _ _ _)
   | (with_reducible exact ih4 _ _ _ _ _ _ _ _ _ _ _ _)
   | (with_reducible exact ih5 _ _ _ _ _ _ _ _ _ _ _ _ _)
   | (with_reducible exact listing_Check.mono _ _)
   | (with_reducible exact stowagekit_LargeEntries.mono _ _)
   | (with_reducible exact stowagekit_SamePage.mono _ _ _ _ _ _ _ _ _)
   | (with_reducible exact LeO.refl _)
   | (with_reducible exact LeO.none _)
   | (with_reducible refine LeO.ite ?_ ?_)
   | (with_reducible refine LeO.bind ?_ (fun _ => ?_))
   | exact ih0 _ _ _ _ _
   | exact ih1 _ _ _ _ _ _
   | exact ih2 _ _ _ _ _ _
   | exact ih3 _ _ _ _ _ _
   | exact ih4 _ _ _ _ _ _ _ _ _ _ _ _
   | exact ih5 _ _ _ _ _ _ _ _ _ _ _ _ _
   | exact listing_Check.mono _ _
   | exact stowagekit_LargeEntries.mono _ _
   | exact stowagekit_SamePage.mono _ _ _ _ _ _ _ _ _
   | exact LeO.none _
   | refine LeO.ite ?_ ?_
   | refine LeO.bind ?_ (fun _ => ?_)
set_option maxHeartbeats 8000000 in
set_option maxRecDepth 100000 in
theorem stowagetop_TopTokens.calls (k : Nat) (A0 : Option Addr) (c0 : Nat) (l0 : List (S47)) (a1 : ByteArray) (a2 : ByteArray) (a3 : Int) (r : Bool) (w : World) (hG : GM w) (hr0 : Kd.C k47 w A0 l0.length l0) (hc0 : l0.length ≤ c0) (h : stowagetop_TopTokens.f k l0 a1 a2 a3 = some r) :
  Calls Try.prog 8 #[.slice A0 l0.length c0, .string a1, .string a2, .int .i64 a3] w fun e w' => e = .returned (.bool r) ∧ Below w.heap.size w w' := by
 have hu28 := Try.underlying28
 have HR0 := Aside0.mk hr0
 have HC0 := Aside0.mk hc0
 clear hr0 hc0
 have HB := Aside0.mk (Below.refl w.heap.size w)
 have HG := Aside0.mk hG
 clear hG
 have H : ((token_Make.f (⟨#[97]⟩ : ByteArray) (⟨#[]⟩ : ByteArray)).bind fun bt385 => ((token_Read.f bt385.1).bind fun bt387 => (if bt385.2 = 0 then (if bt387.2.2 = 0 then (stowagetop_TopTokens.j0 k l0 a1 a2 a3 (bt387.1.toList == ([97] : List UInt8))) else (stowagetop_TopTokens.j0 k l0 a1 a2 a3 false)) else (stowagetop_TopTokens.j0 k l0 a1 a2 a3 false)))) = some r := h
 clear h
 replace H := Option.bind_eq_some_iff.mp H
 obtain ⟨⟨t385, t386⟩, A50, H⟩ := H
 replace H : ((token_Read.f t385).bind fun bt387 => (if t386 = 0 then (if bt387.2.2 = 0 then (stowagetop_TopTokens.j0 k l0 a1 a2 a3 (bt387.1.toList == ([97] : List UInt8))) else (stowagetop_TopTokens.j0 k l0 a1 a2 a3 false)) else (stowagetop_TopTokens.j0 k l0 a1 a2 a3 false))) = some r := H
 have A5 := Aside0.mk A50
 clear A50
 replace H := Option.bind_eq_some_iff.mp H
 obtain ⟨⟨t387, t388, t389⟩, A60, H⟩ := H
 replace H : (if t386 = 0 then (if t389 = 0 then (stowagetop_TopTokens.j0 k l0 a1 a2 a3 (t387.toList == ([97] : List UInt8))) else (stowagetop_TopTokens.j0 k l0 a1 a2 a3 false)) else (stowagetop_TopTokens.j0 k l0 a1 a2 a3 false)) = some r := H
 have A6 := Aside0.mk A60
 clear A60
 have HC7 := Aside0.mk H
 clear H
 go_enter Try.func8, Try.ntmps8
 go_upto_region 3 with (first|((with_reducible refine gate_callee (f := 27) rfl ?_); refine goesL_ (some 29) rfl rfl Try.func27 (by kernel_rfl) rfl #[.string (⟨#[97]⟩ : ByteArray), .string (⟨#[]⟩ : ByteArray)] rfl (by (try simp only [List.map_toArray, List.map_cons, List.map_nil]); first|done|rfl|(simp only [List.length_drop, List.length_take]; rfl)) ?_; (with_reducible refine (token_Make.calls (⟨#[97]⟩ : ByteArray) (⟨#[]⟩ : ByteArray) t385 t386 _ A5.out).mono ?_); rintro e w8 ⟨rfl, hb⟩; refine ⟨_, rfl, ?_⟩; have n0_ := Aside0.mk (below_step (by repeat (first|(with_reducible first|exact HB.out|apply below_alloc|apply pw_below_drewN|apply below_drew1)|exact HB.out)) hb); clear HB; have HB := n0_; clear n0_; (try clear hb); (try clear hb2); (try clear hk); (try clear hi))|((with_reducible refine gate_callee (f := 29) rfl ?_); refine goesL_ (some 34) rfl rfl Try.func29 (by kernel_rfl) rfl #[.string t385] rfl (by (try simp only [List.map_toArray, List.map_cons, List.map_nil]); first|done|rfl|(simp only [List.length_drop, List.length_take]; rfl)) ?_; (with_reducible refine (token_Read.calls t385 t387 t388 t389 _ A6.out).mono ?_); rintro e w9 ⟨rfl, hb⟩; refine ⟨_, rfl, ?_⟩; have n0_ := Aside0.mk (below_step (by repeat (first|(with_reducible first|exact HB.out|apply below_alloc|apply pw_below_drewN|apply below_drew1)|exact HB.out)) hb); clear HB; have HB := n0_; clear n0_; (try clear hb); (try clear hb2); (try clear hk); (try clear hi)))
 (try simp only [Act.put, List.setIfInBounds_toArray, List.set_cons_zero, List.set_cons_succ])
 go_cut [14] (fun v14 wc => ∃ (kq : Nat) (x14_6 : Bool), v14 = .bool x14_6 ∧ Aside0 (stowagetop_TopTokens.j0 kq l0 a1 a2 a3 x14_6 = some r) ∧ Aside0 (kq ≤ k) ∧ Aside0 (Below w.heap.size w wc))
 case first =>
  have H := HC7.out
  clear HC7
  by_cases c10 : t386 = 0
  ·rw [if_pos c10] at H
   have c10b0 : (t386 == 0) = true := beq_iff_eq.mpr c10
   have c10b1 : (t386 != 0) = false := bne_eq_false_iff_eq.mpr c10
   clear c10
   (first|rw [c10b0]|(simp only [i64_w, i32_w]; rw [c10b0])|skip)
   by_cases c11 : t389 = 0
   ·rw [if_pos c11] at H
    have c11b0 : (t389 == 0) = true := beq_iff_eq.mpr c11
    have c11b1 : (t389 != 0) = false := bne_eq_false_iff_eq.mpr c11
    clear c11
    as_aux_lemma =>
     have H' := Aside0.mk H
     clear H
     go_wp2
     go_meet
     case rel => exact ⟨_, ((t387.toList == ([97] : List UInt8))), (by first|rfl|(simp; done)|(simp [*]; done)), H', ⟨by first|omega|exact Nat.le_refl _⟩, ⟨by repeat (first|(with_reducible first|exact HB.out|apply below_alloc|apply pw_below_drewN|apply below_drew1)|exact HB.out)⟩⟩
   ·rw [if_neg c11] at H
    have c11b0 : (t389 == 0) = false := beq_eq_false_iff_ne.mpr c11
    have c11b1 : (t389 != 0) = true := bne_iff_ne.mpr c11
    as_aux_lemma =>
     have H' := Aside0.mk H
     clear H
     go_wp2
     go_meet
     case rel => exact ⟨_, (false), (by first|rfl|(simp; done)|(simp [*]; done)), H', ⟨by first|omega|exact Nat.le_refl _⟩, ⟨by repeat (first|(with_reducible first|exact HB.out|apply below_alloc|apply pw_below_drewN|apply below_drew1)|exact HB.out)⟩⟩
  ·rw [if_neg c10] at H
   have c10b0 : (t386 == 0) = false := beq_eq_false_iff_ne.mpr c10
   have c10b1 : (t386 != 0) = true := bne_iff_ne.mpr c10
   (first|rw [c10b0]|(simp only [i64_w, i32_w]; rw [c10b0])|skip)
   as_aux_lemma =>
    have H' := Aside0.mk H
    clear H
    go_wp2
    go_meet
    case rel => exact ⟨_, (false), (by first|rfl|(simp; done)|(simp [*]; done)), H', ⟨by first|omega|exact Nat.le_refl _⟩, ⟨by repeat (first|(with_reducible first|exact HB.out|apply below_alloc|apply pw_below_drewN|apply below_drew1)|exact HB.out)⟩⟩
 case rest =>
  clear HC7
  try clear c1
  try clear c2
  try clear p2
  try clear c8
  try clear c10
  try clear c10b0
  try clear c10b1
  try clear c11
  try clear c11b0
  try clear c11b1
  obtain ⟨kq, x14_6, rfl, HA, HJ6, HB⟩ := hcut
  cases kq with
  | zero => exact absurd HA.out (by simp [stowagetop_TopTokens.j0])
  | succ kj6 =>
   have H := HA.out
   clear HA
   simp only [stowagetop_TopTokens.j0] at H
   have HC12 := Aside0.mk H
   clear H
   go_upto_region 4 with (fail)
   go_cut [64] (fun v64 wc => ∃ (kq : Nat) (x64_11 : Bool), v64 = .bool x64_11 ∧ Aside0 (stowagetop_TopTokens.j1 kq l0 a1 a2 a3 x14_6 x64_11 = some r) ∧ Aside0 (kq ≤ kj6) ∧ Aside0 (Below w.heap.size w wc))
   case first =>
    have H := HC12.out
    clear HC12
    replace H := Option.bind_eq_some_iff.mp H
    obtain ⟨t390, A130, H⟩ := H
    replace H : (if t390 = true then (stowagetop_TopTokens.j1 kj6 l0 a1 a2 a3 x14_6 true) else ((listing_Check.f kj6 l0).bind fun t391 => (if t391 = 0 then (if (a1.size : Int) > 400 then (stowagetop_TopTokens.j1 kj6 l0 a1 a2 a3 x14_6 true) else (stowagetop_TopTokens.j1 kj6 l0 a1 a2 a3 x14_6 (decide ((a2.size : Int) > 400)))) else (stowagetop_TopTokens.j1 kj6 l0 a1 a2 a3 x14_6 true)))) = some r := H
    have A13 := Aside0.mk A130
    clear A130
    by_cases c14 : t390 = true
    ·subst c14
     have H1 : (stowagetop_TopTokens.j1 kj6 l0 a1 a2 a3 x14_6 true) = some r := by rw [if_pos rfl] at H; exact H
     clear H
     have H := H1
     clear H1
     as_aux_lemma =>
      have H' := Aside0.mk H
      clear H
      go_wp2_with (first|((with_reducible refine gate_callee (f := 9) rfl ?_); refine goesL_ (some 49) rfl rfl Try.func9 (by kernel_rfl) rfl #[.slice A0 l0.length c0] rfl (by (try simp only [List.map_toArray, List.map_cons, List.map_nil]); first|done|rfl|(simp only [List.length_drop, List.length_take]; rfl)) ?_; (with_reducible refine (stowagekit_LargeEntries.calls kj6 _ _ l0 true _ ?side1 ?side2 A13.out).mono ?_); (case side1 => repeat (first|exact (Kd.C_below HR0.out HB.out)|(with_reducible refine Kd.C_alloc ?_ _)|(with_reducible refine Kd.C_drewN ?_ _)|(with_reducible refine Kd.C_drew ?_))); (case side2 => exact HC0.out); rintro e w' ⟨rfl, ⟨nd, rfl⟩⟩; refine ⟨_, rfl, ?_⟩))
      go_meet
      case rel => exact ⟨_, (true), (by first|rfl|(simp; done)|(simp [*]; done)), H', ⟨by have := HJ6.out; first|omega|exact Nat.le_refl _⟩, ⟨by repeat (first|(with_reducible first|exact HB.out|apply below_alloc|apply pw_below_drewN|apply below_drew1)|exact HB.out)⟩⟩
    ·replace c14 := Bool.eq_false_iff.mpr c14
     subst c14
     have H1 : ((listing_Check.f kj6 l0).bind fun t391 => (if t391 = 0 then (if (a1.size : Int) > 400 then (stowagetop_TopTokens.j1 kj6 l0 a1 a2 a3 x14_6 true) else (stowagetop_TopTokens.j1 kj6 l0 a1 a2 a3 x14_6 (decide ((a2.size : Int) > 400)))) else (stowagetop_TopTokens.j1 kj6 l0 a1 a2 a3 x14_6 true))) = some r := by rw [if_neg (show ¬ (false = true) by decide)] at H; exact H
     clear H
     have H := H1
     clear H1
     replace H := Option.bind_eq_some_iff.mp H
     obtain ⟨t391, A150, H⟩ := H
     replace H : (if t391 = 0 then (if (a1.size : Int) > 400 then (stowagetop_TopTokens.j1 kj6 l0 a1 a2 a3 x14_6 true) else (stowagetop_TopTokens.j1 kj6 l0 a1 a2 a3 x14_6 (decide ((a2.size : Int) > 400)))) else (stowagetop_TopTokens.j1 kj6 l0 a1 a2 a3 x14_6 true)) = some r := H
     have A15 := Aside0.mk A150
     clear A150
     by_cases c16 : t391 = 0
     ·rw [if_pos c16] at H
      have c16b0 : (t391 == 0) = true := beq_iff_eq.mpr c16
      have c16b1 : (t391 != 0) = false := bne_eq_false_iff_eq.mpr c16
      clear c16
      (first|rw [c16b0]|(simp only [i64_w, i32_w]; rw [c16b0])|skip)
      by_cases c17 : (a1.size : Int) > 400
      ·rw [if_pos c17] at H
       have c17b0 : decide (400 < (a1.size : Int)) = true := decide_eq_true c17
       have c17b1 : decide (400 < a1.size) = true := decide_eq_true (by omega)
       clear c17
       as_aux_lemma =>
        have H' := Aside0.mk H
        clear H
        go_wp2_with (first|((with_reducible refine gate_callee (f := 9) rfl ?_); refine goesL_ (some 49) rfl rfl Try.func9 (by kernel_rfl) rfl #[.slice A0 l0.length c0] rfl (by (try simp only [List.map_toArray, List.map_cons, List.map_nil]); first|done|rfl|(simp only [List.length_drop, List.length_take]; rfl)) ?_; (with_reducible refine (stowagekit_LargeEntries.calls kj6 _ _ l0 false _ ?side1 ?side2 A13.out).mono ?_); (case side1 => repeat (first|exact (Kd.C_below HR0.out HB.out)|(with_reducible refine Kd.C_alloc ?_ _)|(with_reducible refine Kd.C_drewN ?_ _)|(with_reducible refine Kd.C_drew ?_))); (case side2 => exact HC0.out); rintro e w' ⟨rfl, ⟨nd, rfl⟩⟩; refine ⟨_, rfl, ?_⟩)|(go_at_call 17; (with_reducible refine (listing_Check.calls kj6 _ _ l0 t391 _ ?side1 ?side2 A15.out).mono ?_); (case side1 => repeat (first|exact (Kd.C_below HR0.out (by repeat (first|(with_reducible first|exact HB.out|apply below_alloc|apply pw_below_drewN|apply below_drew1)|exact HB.out)))|(with_reducible refine Kd.C_alloc ?_ _)|(with_reducible refine Kd.C_drewN ?_ _)|(with_reducible refine Kd.C_drew ?_))); (case side2 => exact HC0.out); rintro e w18 ⟨rfl, hb⟩; have n0_ := Aside0.mk (below_step (by repeat (first|(with_reducible first|exact HB.out|apply below_alloc|apply pw_below_drewN|apply below_drew1)|exact HB.out)) hb); clear HB; have HB := n0_; clear n0_; (try clear hb); (try clear hb2); (try clear hk); (try clear hi)))
        go_meet
        case rel => exact ⟨_, (true), (by first|rfl|(simp; done)|(simp [*]; done)), H', ⟨by have := HJ6.out; first|omega|exact Nat.le_refl _⟩, ⟨by repeat (first|(with_reducible first|exact HB.out|apply below_alloc|apply pw_below_drewN|apply below_drew1)|exact HB.out)⟩⟩
      ·rw [if_neg c17] at H
       have c17b0 : decide (400 < (a1.size : Int)) = false := decide_eq_false c17
       have c17b1 : decide (400 < a1.size) = false := decide_eq_false (by omega)
       clear c17
       as_aux_lemma =>
        have H' := Aside0.mk H
        clear H
        go_wp2_with (first|((with_reducible refine gate_callee (f := 9) rfl ?_); refine goesL_ (some 49) rfl rfl Try.func9 (by kernel_rfl) rfl #[.slice A0 l0.length c0] rfl (by (try simp only [List.map_toArray, List.map_cons, List.map_nil]); first|done|rfl|(simp only [List.length_drop, List.length_take]; rfl)) ?_; (with_reducible refine (stowagekit_LargeEntries.calls kj6 _ _ l0 false _ ?side1 ?side2 A13.out).mono ?_); (case side1 => repeat (first|exact (Kd.C_below HR0.out HB.out)|(with_reducible refine Kd.C_alloc ?_ _)|(with_reducible refine Kd.C_drewN ?_ _)|(with_reducible refine Kd.C_drew ?_))); (case side2 => exact HC0.out); rintro e w' ⟨rfl, ⟨nd, rfl⟩⟩; refine ⟨_, rfl, ?_⟩)|(go_at_call 17; (with_reducible refine (listing_Check.calls kj6 _ _ l0 t391 _ ?side1 ?side2 A15.out).mono ?_); (case side1 => repeat (first|exact (Kd.C_below HR0.out (by repeat (first|(with_reducible first|exact HB.out|apply below_alloc|apply pw_below_drewN|apply below_drew1)|exact HB.out)))|(with_reducible refine Kd.C_alloc ?_ _)|(with_reducible refine Kd.C_drewN ?_ _)|(with_reducible refine Kd.C_drew ?_))); (case side2 => exact HC0.out); rintro e w19 ⟨rfl, hb⟩; have n0_ := Aside0.mk (below_step (by repeat (first|(with_reducible first|exact HB.out|apply below_alloc|apply pw_below_drewN|apply below_drew1)|exact HB.out)) hb); clear HB; have HB := n0_; clear n0_; (try clear hb); (try clear hb2); (try clear hk); (try clear hi)))
        go_meet
        case rel => exact ⟨_, (decide ((a2.size : Int) > 400)), (by first|rfl|(simp; done)|(simp [*]; done)), H', ⟨by have := HJ6.out; first|omega|exact Nat.le_refl _⟩, ⟨by repeat (first|(with_reducible first|exact HB.out|apply below_alloc|apply pw_below_drewN|apply below_drew1)|exact HB.out)⟩⟩
     ·rw [if_neg c16] at H
      have c16b0 : (t391 == 0) = false := beq_eq_false_iff_ne.mpr c16
      have c16b1 : (t391 != 0) = true := bne_iff_ne.mpr c16
      (first|rw [c16b0]|(simp only [i64_w, i32_w]; rw [c16b0])|skip)
      as_aux_lemma =>
       have H' := Aside0.mk H
       clear H
       go_wp2_with (first|((with_reducible refine gate_callee (f := 9) rfl ?_); refine goesL_ (some 49) rfl rfl Try.func9 (by kernel_rfl) rfl #[.slice A0 l0.length c0] rfl (by (try simp only [List.map_toArray, List.map_cons, List.map_nil]); first|done|rfl|(simp only [List.length_drop, List.length_take]; rfl)) ?_; (with_reducible refine (stowagekit_LargeEntries.calls kj6 _ _ l0 false _ ?side1 ?side2 A13.out).mono ?_); (case side1 => repeat (first|exact (Kd.C_below HR0.out HB.out)|(with_reducible refine Kd.C_alloc ?_ _)|(with_reducible refine Kd.C_drewN ?_ _)|(with_reducible refine Kd.C_drew ?_))); (case side2 => exact HC0.out); rintro e w' ⟨rfl, ⟨nd, rfl⟩⟩; refine ⟨_, rfl, ?_⟩)|(go_at_call 17; (with_reducible refine (listing_Check.calls kj6 _ _ l0 t391 _ ?side1 ?side2 A15.out).mono ?_); (case side1 => repeat (first|exact (Kd.C_below HR0.out (by repeat (first|(with_reducible first|exact HB.out|apply below_alloc|apply pw_below_drewN|apply below_drew1)|exact HB.out)))|(with_reducible refine Kd.C_alloc ?_ _)|(with_reducible refine Kd.C_drewN ?_ _)|(with_reducible refine Kd.C_drew ?_))); (case side2 => exact HC0.out); rintro e w20 ⟨rfl, hb⟩; have n0_ := Aside0.mk (below_step (by repeat (first|(with_reducible first|exact HB.out|apply below_alloc|apply pw_below_drewN|apply below_drew1)|exact HB.out)) hb); clear HB; have HB := n0_; clear n0_; (try clear hb); (try clear hb2); (try clear hk); (try clear hi)))
       go_meet
       case rel => exact ⟨_, (true), (by first|rfl|(simp; done)|(simp [*]; done)), H', ⟨by have := HJ6.out; first|omega|exact Nat.le_refl _⟩, ⟨by repeat (first|(with_reducible first|exact HB.out|apply below_alloc|apply pw_below_drewN|apply below_drew1)|exact HB.out)⟩⟩
   case rest =>
    clear HC12
    try clear c1
    try clear c2
    try clear p2
    try clear c8
    try clear c9
    try clear c10
    try clear c10b0
    try clear c10b1
    try clear c11
    try clear c11b0
    try clear c11b1
    try clear c14
    try clear c16
    try clear c16b0
    try clear c16b1
    try clear c17
    try clear c17b0
    try clear c17b1
    try clear p2
    obtain ⟨kq, x64_11, rfl, HA, HJ11, HB⟩ := hcut
    cases kq with
    | zero => exact absurd HA.out (by simp [stowagetop_TopTokens.j1])
    | succ kj11 =>
     have H := HA.out
     clear HA
     simp only [stowagetop_TopTokens.j1] at H
     by_cases c21 : x64_11 = true
     ·subst c21
      have H1 : (some x14_6) = some r := by rw [if_pos rfl] at H; exact H
      clear H
      have H := H1
      clear H1
      as_aux_lemma =>
       obtain rfl := Option.some.inj H
       go_wp2
       go_ret
       exact ⟨by first|rfl|(simp [errW_none, errW_some] <;> rfl)|(simp [*, errW_none, errW_some] <;> rfl), by repeat (first|(with_reducible first|exact HB.out|apply below_alloc|apply pw_below_drewN|apply below_drew1)|exact HB.out)⟩
     ·replace c21 := Bool.eq_false_iff.mpr c21
      subst c21
      have H1 : (stowagetop_TopTokens.l0 kj11 l0 a1 a2 a3 x14_6 0) = some r := by rw [if_neg (show ¬ (false = true) by decide)] at H; exact H
      clear H
      have H := H1
      clear H1
      have H' := Aside0.mk H
      clear H
      go_wp2
      go_loopg [15] kj11 (fun kq v15 w' => ∃ (x15_3 : Int), v15 = .int .i64 x15_3 ∧ Aside0 (stowagetop_TopTokens.l0 kq l0 a1 a2 a3 x14_6 x15_3 = some r) ∧ Aside0 (kq ≤ kj11) ∧ Aside0 (Below w.heap.size w w'))
      case atStart => exact ⟨(0), (by first|rfl|(simp; done)|(simp [*]; done)), H', ⟨Nat.le_refl _⟩, ⟨by repeat (first|(with_reducible first|exact HB.out|apply below_alloc|apply pw_below_drewN|apply below_drew1)|exact HB.out)⟩⟩
      case round =>
       clear H'
       try clear c1
       try clear c2
       try clear p2
       try clear c8
       try clear c9
       try clear c10
       try clear c10b0
       try clear c10b1
       try clear c11
       try clear c11b0
       try clear c11b1
       try clear c14
       try clear c16
       try clear c16b0
       try clear c16b1
       try clear c17
       try clear c17b0
       try clear c17b1
       try clear c21
       try clear p2
       obtain ⟨x15_3, rfl, HA, HK3, HB⟩ := hrel
       cases gk with
       | zero => exact absurd HA.out (by simp [stowagetop_TopTokens.l0])
       | succ k3 =>
        have H := HA.out
        clear HA
        simp only [stowagetop_TopTokens.l0] at H
        by_cases c22 : x15_3 < (l0.length : Int)
        ·rw [if_pos c22] at H
         have c22b0 : decide (x15_3 < (l0.length : Int)) = true := decide_eq_true c22
         clear c22
         by_cases c23 : 0 ≤ x15_3
         ·rw [if_pos c23] at H
          have c23b0 : decide (0 ≤ x15_3) = true := decide_eq_true c23
          clear c23
          by_cases c24 : (((rd_T47 l0 x15_3).f0).size : Int) > 400
          ·rw [if_pos c24] at H
           have c24b0 : decide (400 < (((rd_T47 l0 x15_3).f0).size : Int)) = true := decide_eq_true c24
           have c24b1 : decide (400 < ((rd_T47 l0 x15_3).f0).size) = true := decide_eq_true (by omega)
           clear c24
           as_aux_lemma =>
            obtain rfl := Option.some.inj H
            have p392 : 0 ≤ (x15_3 : Int) := of_decide_eq_true (by first|(with_reducible assumption)|assumption)
            have q392 : x15_3 < (l0.length : Int) := of_decide_eq_true (by first|(with_reducible assumption)|assumption)
            obtain ⟨ad392, A392_1, c392_1, e392, hx392_0, hx392_1, hl392_1, hi392_1⟩ := at_T47 HR0.out x15_3 p392 q392
            cases e392
            replace hx392_0 := (HB.out.cell (World.block_lt_of_cell? w _ hx392_0)).trans hx392_0
            replace hx392_1 := (HB.out.cell (World.block_lt_of_cell? w _ hx392_1)).trans hx392_1
            have HR392_1 := Aside0.mk hi392_1
            have HC392_1 := Aside0.mk hl392_1
            clear hi392_1 hl392_1
            replace p392 := eq_true p392
            replace q392 := eq_true q392
            go_wp2
            go_ret
            exact ⟨by first|rfl|(simp [errW_none, errW_some] <;> rfl)|(simp [*, errW_none, errW_some] <;> rfl), by repeat (first|(with_reducible first|exact HB.out|apply below_alloc|apply pw_below_drewN|apply below_drew1)|exact HB.out)⟩
          ·rw [if_neg c24] at H
           have c24b0 : decide (400 < (((rd_T47 l0 x15_3).f0).size : Int)) = false := decide_eq_false c24
           have c24b1 : decide (400 < ((rd_T47 l0 x15_3).f0).size) = false := decide_eq_false (by omega)
           clear c24
           as_aux_lemma =>
            have H' := Aside0.mk H
            clear H
            have p392 : 0 ≤ (x15_3 : Int) := of_decide_eq_true (by first|(with_reducible assumption)|assumption)
            have q392 : x15_3 < (l0.length : Int) := of_decide_eq_true (by first|(with_reducible assumption)|assumption)
            obtain ⟨ad392, A392_1, c392_1, e392, hx392_0, hx392_1, hl392_1, hi392_1⟩ := at_T47 HR0.out x15_3 p392 q392
            cases e392
            replace hx392_0 := (HB.out.cell (World.block_lt_of_cell? w _ hx392_0)).trans hx392_0
            replace hx392_1 := (HB.out.cell (World.block_lt_of_cell? w _ hx392_1)).trans hx392_1
            have HR392_1 := Aside0.mk hi392_1
            have HC392_1 := Aside0.mk hl392_1
            clear hi392_1 hl392_1
            replace p392 := eq_true p392
            replace q392 := eq_true q392
            go_wp2
            go_roundg k3
            case measure => have := HJ6.out; have := HJ11.out; have := HK3.out; omega
            case rel => exact ⟨(wrap64 (x15_3 + 1)), (by first|rfl|(simp; done)|(simp [*]; done)), H', ⟨by have := HJ6.out; have := HJ11.out; have := HK3.out; omega⟩, ⟨by repeat (first|(with_reducible first|exact HB.out|apply below_alloc|apply pw_below_drewN|apply below_drew1)|exact HB.out)⟩⟩
         ·rw [if_neg c23] at H
          exact absurd H (by simp)
        ·rw [if_neg c22] at H
         have c22b0 : decide (x15_3 < (l0.length : Int)) = false := decide_eq_false c22
         clear c22
         replace H := Option.bind_eq_some_iff.mp H
         obtain ⟨t393, A250, H⟩ := H
         replace H : ((listing_Keys.f l0 a1 a2 (⟨#[]⟩ : ByteArray) 1000).bind fun bt394 => (if bt394.2.2.2.2 = 0 then (stowagetop_TopTokens.l1 k3 l0 a1 a2 (wrap64 (1 + t393)) x14_6 ([] : List (S39)) (⟨#[]⟩ : ByteArray) 0 bt394.1 bt394.2.1 bt394.2.2.1 bt394.2.2.2.1) else (some false))) = some r := H
         have A25 := Aside0.mk A250
         clear A250
         replace H := Option.bind_eq_some_iff.mp H
         obtain ⟨⟨t394, t397, t398, t399, t400⟩, A260, H⟩ := H
         replace H : (if t400 = 0 then (stowagetop_TopTokens.l1 k3 l0 a1 a2 (wrap64 (1 + t393)) x14_6 ([] : List (S39)) (⟨#[]⟩ : ByteArray) 0 t394 t397 t398 t399) else (some false)) = some r := H
         have A26 := Aside0.mk A260
         clear A260
         by_cases c27 : t400 = 0
         ·rw [if_pos c27] at H
          have c27b0 : (t400 == 0) = true := beq_iff_eq.mpr c27
          have c27b1 : (t400 != 0) = false := bne_eq_false_iff_eq.mpr c27
          clear c27
          have HC28 := Aside0.mk H
          clear H
          go_upto_block 2 with (first|((with_reducible refine gate_callee (f := 25) rfl ?_); refine goesL_ (some 81) rfl rfl Try.func25 (by kernel_rfl) rfl #[.int .i64 a3, .int .i64 20] rfl (by (try simp only [List.map_toArray, List.map_cons, List.map_nil]); first|done|rfl|(simp only [List.length_drop, List.length_take]; rfl)) ?_; (with_reducible refine (stowagekit_Pick.calls a3 20 t393 _ A25.out).mono ?_); rintro e w' ⟨rfl, ⟨nd, rfl⟩⟩; refine ⟨_, rfl, ?_⟩; (try (rw [drewN_self wr]; generalize hq_ : World.drewN wr _ = wr; have n0_ : Aside0 (Below w.heap.size w wr) := ⟨by rw [← hq_]; exact (by repeat (first|(with_reducible first|exact HB.out|apply below_alloc|apply pw_below_drewN|apply below_drew1)|exact HB.out))⟩; clear HB hq_; have HB := n0_; clear n0_)))|((with_reducible refine gate_callee (f := 12) rfl ?_); refine goesL_ (some 87) rfl rfl Try.func12 (by kernel_rfl) rfl #[.slice A0 l0.length c0, .string a1, .string a2, .string (⟨#[]⟩ : ByteArray), .int .i64 1000] rfl (by (try simp only [List.map_toArray, List.map_cons, List.map_nil]); first|done|rfl|(simp only [List.length_drop, List.length_take]; rfl)) ?_; (with_reducible refine (listing_Keys.calls _ _ l0 a1 a2 (⟨#[]⟩ : ByteArray) 1000 t394 t397 t398 t399 t400 _ ?side1 ?side2 ?side3 A26.out).mono ?_); (case side1 => first|exact HG.out|exact GM.below (by repeat (first|(with_reducible first|exact HB.out|apply below_alloc|apply pw_below_drewN|apply below_drew1)|exact HB.out)) HG.out|(repeat (first|exact HG.out|apply GM.drewN|apply GM.drew))); (case side2 => repeat (first|exact (Kd.C_below HR0.out HB.out)|(with_reducible refine Kd.C_alloc ?_ _)|(with_reducible refine Kd.C_drewN ?_ _)|(with_reducible refine Kd.C_drew ?_))); (case side3 => exact HC0.out); rintro e w29 ⟨v395, rfl, ho0, hb⟩; refine ⟨_, rfl, ?_⟩; have n0_ := Aside0.mk (Kd.R_lower ho0 (below_size (by repeat (first|(with_reducible first|exact HB.out|apply below_alloc|apply pw_below_drewN|apply below_drew1)|exact HB.out)))); have n1_ := Aside0.mk (below_step (by repeat (first|(with_reducible first|exact HB.out|apply below_alloc|apply pw_below_drewN|apply below_drew1)|exact HB.out)) hb); clear HB; have HO396 := n0_; have HB := n1_; clear n0_ n1_; (try clear hb); (try clear hb2); (try clear hk); (try clear hi); (try clear ho0))|((with_reducible refine gate_dst (N := 16) rfl ?_); (try (refine gate_guard (by rfl) ?_; dsimp only)); refine box_event ?hg (N := 16) ?hd (cs := #[.slice none 0 0, .bool false, .string (⟨#[]⟩ : ByteArray), .string (⟨#[]⟩ : ByteArray)]) (t := 28) ?hr ?_; (case hd => rfl); (case hg => rfl); (case hr => first|(go_simp; done)|(go_simp; rfl)); intro gb401 hg w30 hbox hb; have n0_ := Aside0.mk (Kd.R_below (by (with_reducible repeat (first|apply Kd.R_alloc|apply Kd.R_drewN|apply Kd.R_drew)); exact HO396.out) hb); have n1_ := Aside0.mk (below_step (by repeat (first|(with_reducible first|exact HB.out|apply below_alloc|apply pw_below_drewN|apply below_drew1)|exact HB.out)) hb); have n2_ := Aside0.mk (hbox); have n3_ := Aside0.mk ((by rw [hg]; exact (below_size (by repeat (first|(with_reducible first|exact HB.out|apply below_alloc|apply pw_below_drewN|apply below_drew1)|exact HB.out))) : w.heap.size ≤ gb401)); have n4_ := Aside0.mk ((by rw [hg]; exact (below_size (by repeat (first|(with_reducible first|exact HB.out|apply below_alloc|apply pw_below_drewN|apply below_drew1)|exact HB.out))) : w.heap.size ≤ gb401)); clear HO396; clear HB; have HO396 := n0_; have HB := n1_; have BK401 := n2_; have GW401 := n3_; have GE401 := n4_; clear n0_ n1_ n2_ n3_ n4_; clear hb hbox hg; obtain ⟨Ao31, co31, eo31⟩ := Kd.R_slice HO396.out; subst eo31; have hcz32_0 : w30.cell? ⟨gb401, 0, none⟩ = some (.slice none 0 0) := (blk_cell BK401.out 0).trans rfl; have hcz32_1 : w30.cell? ⟨gb401, 1, none⟩ = some (.bool false) := (blk_cell BK401.out 1).trans rfl; have hcz32_2 : w30.cell? ⟨gb401, 2, none⟩ = some (.string (⟨#[]⟩ : ByteArray)) := (blk_cell BK401.out 2).trans rfl; have hcz32_3 : w30.cell? ⟨gb401, 3, none⟩ = some (.string (⟨#[]⟩ : ByteArray)) := (blk_cell BK401.out 3).trans rfl; have hfz32_0 := blk_frozen BK401.out 0; have hfz32_1 := blk_frozen BK401.out 1; have hfz32_2 := blk_frozen BK401.out 2; have hfz32_3 := blk_frozen BK401.out 3))
          (try simp only [Act.put, List.setIfInBounds_toArray, List.set_cons_zero, List.set_cons_succ])
          go_cut [18] (fun v18 wc => ∃ (kq : Nat) (x18_27 : List (S39)), Aside0 (stowagetop_TopTokens.j5 kq x14_6 x18_27 t394 t397 t398 t399 = some r) ∧ Aside0 (kq ≤ k3) ∧ Aside0 (Kd.R k39 39 wc w.heap.size (fun k_ => some k_ ≠ ((.slice Ao31 t394.length co31) : Value).ownBlock) v18 x18_27) ∧ Aside0 (Kd.R k39 39 wc w.heap.size (fun k_ => some k_ ≠ (v18 : Value).ownBlock) (.slice Ao31 t394.length co31) t394) ∧ Aside0 (wc.heap[gb401]? = some (.cells #[(.slice Ao31 t394.length co31), .bool t397, .string t398, .string t399] 28 (0, 0))) ∧ Aside0 (Below w.heap.size w wc))
          case first =>
           have H := HC28.out
           clear HC28
           have H' := Aside0.mk H
           clear H
           go_wp2
           go_loopg [18, 19, 20] k3 (fun kq v18 v19 v20 w' => ∃ (x18_4 : List (S39)) (x19_4 : ByteArray) (x20_4 : Int), v19 = .string x19_4 ∧ v20 = .int .i64 x20_4 ∧ Aside0 (stowagetop_TopTokens.l1 kq l0 a1 a2 (wrap64 (1 + t393)) x14_6 x18_4 x19_4 x20_4 t394 t397 t398 t399 = some r) ∧ Aside0 (kq ≤ k3) ∧ Aside0 (Kd.R k39 39 w' w.heap.size (fun k_ => some k_ ≠ ((.slice Ao31 t394.length co31) : Value).ownBlock) v18 x18_4) ∧ Aside0 (Kd.R k39 39 w' w.heap.size (fun k_ => some k_ ≠ (v18 : Value).ownBlock) (.slice Ao31 t394.length co31) t394) ∧ Aside0 (w'.heap[gb401]? = some (.cells #[(.slice Ao31 t394.length co31), .bool t397, .string t398, .string t399] 28 (0, 0))) ∧ Aside0 (Below w.heap.size w w'))
           case atStart => exact ⟨(([] : List (S39))), ((⟨#[]⟩ : ByteArray)), (0), (by first|rfl|(simp; done)|(simp [*]; done)), (by first|rfl|(simp; done)|(simp [*]; done)), H', ⟨Nat.le_refl _⟩, ⟨by first|exact Kd.R_nil _ _ _ _ _|exact Kd.N_nil _ _ _ _ _|exact Kd.V_nil _ _ _ _ _|exact Kd.Q_nil _ _ _ _ _|exact Kd.S_nil _ _ _ _ _⟩, ⟨by (with_reducible repeat (first|apply Kd.R_alloc|apply Kd.R_drewN|apply Kd.R_drew)); exact Kd.R_mono (Kd.R_far (p := ⟨gb401, 3, none⟩) (Kd.R_far (p := ⟨gb401, 2, none⟩) (Kd.R_far (p := ⟨gb401, 1, none⟩) (Kd.R_far (p := ⟨gb401, 0, none⟩) (Kd.R_types HO396.out BK401.out (by decide)) (fun _ hk => hk.2) (.slice Ao31 t394.length co31)) (fun _ hk => hk.2) (.bool t397)) (fun _ hk => hk.2) (.string t398)) (fun _ hk => hk.2) (.string t399)) (fun _ hk => (by simp [Value.ownBlock]))⟩, ⟨by (with_reducible repeat (first|refine blk_drewN ?_ _|refine blk_drew ?_|refine blk_alloc ?_ _)); refine blk_put (cs := #[.slice Ao31 t394.length co31, .bool t397, .string t398, .string (⟨#[]⟩ : ByteArray)]) ?_ 3 _ rfl; (with_reducible repeat (first|refine blk_drewN ?_ _|refine blk_drew ?_|refine blk_alloc ?_ _)); refine blk_put (cs := #[.slice Ao31 t394.length co31, .bool t397, .string (⟨#[]⟩ : ByteArray), .string (⟨#[]⟩ : ByteArray)]) ?_ 2 _ rfl; (with_reducible repeat (first|refine blk_drewN ?_ _|refine blk_drew ?_|refine blk_alloc ?_ _)); refine blk_put (cs := #[.slice Ao31 t394.length co31, .bool false, .string (⟨#[]⟩ : ByteArray), .string (⟨#[]⟩ : ByteArray)]) ?_ 1 _ rfl; (with_reducible repeat (first|refine blk_drewN ?_ _|refine blk_drew ?_|refine blk_alloc ?_ _)); refine blk_put (cs := #[.slice none 0 0, .bool false, .string (⟨#[]⟩ : ByteArray), .string (⟨#[]⟩ : ByteArray)]) ?_ 0 _ rfl; (with_reducible repeat (first|refine blk_drewN ?_ _|refine blk_drew ?_|refine blk_alloc ?_ _)); exact BK401.out⟩, ⟨by repeat (first|(with_reducible first|exact HB.out|apply below_alloc|apply pw_below_drewN|apply below_drew1|refine below_set ?_ GE401.out)|exact HB.out)⟩⟩
           case round =>
            clear H'
            try clear c1
            try clear c2
            try clear p2
            try clear c3
            try clear p3
            try clear q3
            try clear hx3
            try clear p6
            try clear c8
            try clear c9
            try clear c10
            try clear c10b0
            try clear c10b1
            try clear c11
            try clear c11b0
            try clear c11b1
            try clear c12
            try clear c14
            try clear c16
            try clear c16b0
            try clear c16b1
            try clear c17
            try clear c17b0
            try clear c17b1
            try clear c21
            try clear c22
            try clear c22b0
            try clear c23
            try clear c23b0
            try clear c24
            try clear c24b0
            try clear c24b1
            try clear c25
            try clear c27
            try clear c27b0
            try clear c27b1
            try clear c29
            try clear hcz32_0
            try clear hcz32_1
            try clear hcz32_2
            try clear hcz32_3
            try clear hfz32_0
            try clear hfz32_1
            try clear hfz32_2
            try clear hfz32_3
            try clear hx392_0
            try clear hx392_1
            try clear p2
            try clear p392
            try clear q392
            obtain ⟨x18_4, x19_4, x20_4, rfl, rfl, HA, HK4, HO_18, HO_402000, BK401, HB⟩ := hrel
            cases gk with
            | zero => exact absurd HA.out (by simp [stowagetop_TopTokens.l1])
            | succ k4 =>
             have H := HA.out
             clear HA
             simp only [stowagetop_TopTokens.l1] at H
             by_cases c33 : x20_4 ≤ (l0.length : Int)
             ·rw [if_pos c33] at H
              have c33b0 : decide (x20_4 ≤ (l0.length : Int)) = true := decide_eq_true c33
              clear c33
              (first|rw [c33b0]|(simp only [i64_w, i32_w]; rw [c33b0])|skip)
              replace H := Option.bind_eq_some_iff.mp H
              obtain ⟨⟨t402, t405, t406, t407, t408⟩, A340, H⟩ := H
              replace H : (if t408 = 0 then (if x18_4.length + t402.length < 1599289640401 then ((some (x18_4 ++ t402 : List (S39))).bind fun y410 => (if t405 = true then ((token_Make.f t406 t407).bind fun bt413 => ((token_Read.f bt413.1).bind fun bt415 => (if bt413.2 = 0 then (if bt415.2.2 = 0 then (stowagetop_TopTokens.j4 k4 l0 a1 a2 (wrap64 (1 + t393)) x14_6 y410 x20_4 bt415.1 (bt415.2.1.toList != ([] : List UInt8)) t394 t397 t398 t399) else (stowagetop_TopTokens.j4 k4 l0 a1 a2 (wrap64 (1 + t393)) x14_6 y410 x20_4 bt415.1 true t394 t397 t398 t399)) else (stowagetop_TopTokens.j4 k4 l0 a1 a2 (wrap64 (1 + t393)) x14_6 y410 x20_4 bt415.1 true t394 t397 t398 t399)))) else (stowagetop_TopTokens.j5 k4 x14_6 y410 t394 t397 t398 t399))) else (none)) else (some false)) = some r := H
              have A34 := Aside0.mk A340
              clear A340
              by_cases c35 : t408 = 0
              ·rw [if_pos c35] at H
               have c35b0 : (t408 == 0) = true := beq_iff_eq.mpr c35
               have c35b1 : (t408 != 0) = false := bne_eq_false_iff_eq.mpr c35
               clear c35
               by_cases c36 : x18_4.length + t402.length < 1599289640401
               ·rw [if_pos c36] at H
                have LMc36 := Aside0.mk c36
                clear c36
                obtain ⟨y410, hy410⟩ : ∃ y_ : List (S39), y_ = (x18_4 ++ t402) := ⟨_, rfl⟩
                replace H : (if t405 = true then ((token_Make.f t406 t407).bind fun bt413 => ((token_Read.f bt413.1).bind fun bt415 => (if bt413.2 = 0 then (if bt415.2.2 = 0 then (stowagetop_TopTokens.j4 k4 l0 a1 a2 (wrap64 (1 + t393)) x14_6 y410 x20_4 bt415.1 (bt415.2.1.toList != ([] : List UInt8)) t394 t397 t398 t399) else (stowagetop_TopTokens.j4 k4 l0 a1 a2 (wrap64 (1 + t393)) x14_6 y410 x20_4 bt415.1 true t394 t397 t398 t399)) else (stowagetop_TopTokens.j4 k4 l0 a1 a2 (wrap64 (1 + t393)) x14_6 y410 x20_4 bt415.1 true t394 t397 t398 t399)))) else (stowagetop_TopTokens.j5 k4 x14_6 y410 t394 t397 t398 t399)) = some r := by first|(rw [hy410]; with_reducible exact H)|(have H2_ := (Option.bind_some _ _).symm.trans H; rw [hy410]; with_reducible exact H2_)|(have H2_ := (Option.bind_some _ _).symm.trans H; with_reducible exact H2_)|with_reducible exact H|(rw [hy410]; exact H)|exact H
                have Ny410 := Aside0.mk hy410
                clear hy410
                by_cases c37 : t405 = true
                ·subst c37
                 have H1 : ((token_Make.f t406 t407).bind fun bt413 => ((token_Read.f bt413.1).bind fun bt415 => (if bt413.2 = 0 then (if bt415.2.2 = 0 then (stowagetop_TopTokens.j4 k4 l0 a1 a2 (wrap64 (1 + t393)) x14_6 y410 x20_4 bt415.1 (bt415.2.1.toList != ([] : List UInt8)) t394 t397 t398 t399) else (stowagetop_TopTokens.j4 k4 l0 a1 a2 (wrap64 (1 + t393)) x14_6 y410 x20_4 bt415.1 true t394 t397 t398 t399)) else (stowagetop_TopTokens.j4 k4 l0 a1 a2 (wrap64 (1 + t393)) x14_6 y410 x20_4 bt415.1 true t394 t397 t398 t399)))) = some r := by rw [if_pos rfl] at H; exact H
                 clear H
                 have H := H1
                 clear H1
                 replace H := Option.bind_eq_some_iff.mp H
                 obtain ⟨⟨t413, t414⟩, A380, H⟩ := H
                 replace H : ((token_Read.f t413).bind fun bt415 => (if t414 = 0 then (if bt415.2.2 = 0 then (stowagetop_TopTokens.j4 k4 l0 a1 a2 (wrap64 (1 + t393)) x14_6 y410 x20_4 bt415.1 (bt415.2.1.toList != ([] : List UInt8)) t394 t397 t398 t399) else (stowagetop_TopTokens.j4 k4 l0 a1 a2 (wrap64 (1 + t393)) x14_6 y410 x20_4 bt415.1 true t394 t397 t398 t399)) else (stowagetop_TopTokens.j4 k4 l0 a1 a2 (wrap64 (1 + t393)) x14_6 y410 x20_4 bt415.1 true t394 t397 t398 t399))) = some r := H
                 have A38 := Aside0.mk A380
                 clear A380
                 replace H := Option.bind_eq_some_iff.mp H
                 obtain ⟨⟨t415, t416, t417⟩, A390, H⟩ := H
                 replace H : (if t414 = 0 then (if t417 = 0 then (stowagetop_TopTokens.j4 k4 l0 a1 a2 (wrap64 (1 + t393)) x14_6 y410 x20_4 t415 (t416.toList != ([] : List UInt8)) t394 t397 t398 t399) else (stowagetop_TopTokens.j4 k4 l0 a1 a2 (wrap64 (1 + t393)) x14_6 y410 x20_4 t415 true t394 t397 t398 t399)) else (stowagetop_TopTokens.j4 k4 l0 a1 a2 (wrap64 (1 + t393)) x14_6 y410 x20_4 t415 true t394 t397 t398 t399)) = some r := H
                 have A39 := Aside0.mk A390
                 clear A390
                 have HC40 := Aside0.mk H
                 clear H
                 go_upto_region 27 with (first|((with_reducible refine gate_callee (f := 12) rfl ?_); refine goesL_ (some 104) rfl rfl Try.func12 (by kernel_rfl) rfl #[.slice A0 l0.length c0, .string a1, .string a2, .string x19_4, .int .i64 (wrap64 (1 + t393))] rfl (by (try simp only [List.map_toArray, List.map_cons, List.map_nil]); first|done|rfl|(simp only [List.length_drop, List.length_take]; rfl)) ?_; (with_reducible refine (listing_Keys.calls _ _ l0 a1 a2 x19_4 (wrap64 (1 + t393)) t402 true t406 t407 t408 _ ?side1 ?side2 ?side3 A34.out).mono ?_); (case side1 => first|exact HG.out|exact GM.below (by repeat (first|(with_reducible first|exact HB.out|apply below_alloc|apply pw_below_drewN|apply below_drew1|refine below_set ?_ GE401.out)|exact HB.out)) HG.out|(repeat (first|exact HG.out|apply GM.drewN|apply GM.drew))); (case side2 => repeat (first|exact (Kd.C_below HR0.out HB.out)|(with_reducible refine Kd.C_alloc ?_ _)|(with_reducible refine Kd.C_drewN ?_ _)|(with_reducible refine Kd.C_drew ?_))); (case side3 => exact HC0.out); rintro e w41 ⟨v403, rfl, ho0, hb⟩; refine ⟨_, rfl, ?_⟩; have n0_ := Aside0.mk (Kd.R_elder' (by (with_reducible repeat (first|apply Kd.R_alloc|apply Kd.R_drewN|apply Kd.R_drew)); exact HO_18.out) (Kd.R_base ho0) hb); have n1_ := Aside0.mk (Kd.R_elder' (by (with_reducible repeat (first|apply Kd.R_alloc|apply Kd.R_drewN|apply Kd.R_drew)); exact HO_402000.out) (Kd.R_base ho0) hb); have n2_ := Aside0.mk (Kd.R_lower (Kd.R_new' (Kd.R_new' ho0 (Kd.R_lt (by (with_reducible repeat (first|apply Kd.R_alloc|apply Kd.R_drewN|apply Kd.R_drew)); exact HO_18.out))) (Kd.R_lt (by (with_reducible repeat (first|apply Kd.R_alloc|apply Kd.R_drewN|apply Kd.R_drew)); exact HO_402000.out))) (below_size (by repeat (first|(with_reducible first|exact HB.out|apply below_alloc|apply pw_below_drewN|apply below_drew1|refine below_set ?_ GE401.out)|exact HB.out)))); have n3_ := Aside0.mk (blk_below (g := gb401) (o := .cells #[.slice Ao31 t394.length co31, .bool t397, .string t398, .string t399] 28 (0, 0)) (by (with_reducible repeat (first|refine blk_drewN ?_ _|refine blk_drew ?_|refine blk_alloc ?_ _)); exact BK401.out) hb); have n4_ := Aside0.mk (below_step (by repeat (first|(with_reducible first|exact HB.out|apply below_alloc|apply pw_below_drewN|apply below_drew1|refine below_set ?_ GE401.out)|exact HB.out)) hb); clear HO_18; clear HO_402000; clear BK401; clear HB; have HO_18 := n0_; have HO_402000 := n1_; have HO404 := n2_; have BK401 := n3_; have HB := n4_; clear n0_ n1_ n2_ n3_ n4_; (try clear hb); (try clear hb2); (try clear hk); (try clear hi); (try clear ho0))|((with_reducible refine gate_dst (N := 21) rfl ?_); (try (refine gate_guard (by rfl) ?_; dsimp only)); refine box_event ?hg (N := 21) ?hd (cs := #[.slice none 0 0, .bool false, .string (⟨#[]⟩ : ByteArray), .string (⟨#[]⟩ : ByteArray)]) (t := 28) ?hr ?_; (case hd => rfl); (case hg => rfl); (case hr => first|(go_simp; done)|(go_simp; rfl)); intro gb409 hg w42 hbox hb; have n0_ := Aside0.mk (Kd.R_below (by (with_reducible repeat (first|apply Kd.R_alloc|apply Kd.R_drewN|apply Kd.R_drew)); exact HO_18.out) hb); have n1_ := Aside0.mk (Kd.R_below (by (with_reducible repeat (first|apply Kd.R_alloc|apply Kd.R_drewN|apply Kd.R_drew)); exact HO_402000.out) hb); have n2_ := Aside0.mk (Kd.R_below (by (with_reducible repeat (first|apply Kd.R_alloc|apply Kd.R_drewN|apply Kd.R_drew)); exact HO404.out) hb); have n3_ := Aside0.mk (blk_below (g := gb401) (o := .cells #[.slice Ao31 t394.length co31, .bool t397, .string t398, .string t399] 28 (0, 0)) (by (with_reducible repeat (first|refine blk_drewN ?_ _|refine blk_drew ?_|refine blk_alloc ?_ _)); exact BK401.out) hb); have n4_ := Aside0.mk (below_step (by repeat (first|(with_reducible first|exact HB.out|apply below_alloc|apply pw_below_drewN|apply below_drew1|refine below_set ?_ GE401.out)|exact HB.out)) hb); have n5_ := Aside0.mk (hbox); have n6_ := Aside0.mk ((by rw [hg]; exact (below_size (by repeat (first|(with_reducible first|exact HB.out|apply below_alloc|apply pw_below_drewN|apply below_drew1|refine below_set ?_ GE401.out)|exact HB.out))) : w.heap.size ≤ gb409)); have n7_ := Aside0.mk ((by rw [hg]; exact (below_size (by repeat (first|(with_reducible first|exact HB.out|apply below_alloc|apply pw_below_drewN|apply below_drew1|refine below_set ?_ GE401.out)|exact HB.out))) : w.heap.size ≤ gb409)); have n8_ := Aside0.mk ((by rw [hg]; exact Nat.ne_of_lt (blk_lt (g := gb401) (o := .cells #[.slice Ao31 t394.length co31, .bool t397, .string t398, .string t399] 28 (0, 0)) (by (with_reducible repeat (first|refine blk_drewN ?_ _|refine blk_drew ?_|refine blk_alloc ?_ _)); exact BK401.out)) : gb401 ≠ gb409)); have n9_ := Aside0.mk ((by rw [hg]; exact Nat.ne_of_gt (blk_lt (g := gb401) (o := .cells #[.slice Ao31 t394.length co31, .bool t397, .string t398, .string t399] 28 (0, 0)) (by (with_reducible repeat (first|refine blk_drewN ?_ _|refine blk_drew ?_|refine blk_alloc ?_ _)); exact BK401.out)) : gb409 ≠ gb401)); clear HO_18; clear HO_402000; clear HO404; clear BK401; clear HB; have HO_18 := n0_; have HO_402000 := n1_; have HO404 := n2_; have BK401 := n3_; have HB := n4_; have BK409 := n5_; have GW409 := n6_; have GE409 := n7_; have NB401_409 := n8_; have NB409_401 := n9_; clear n0_ n1_ n2_ n3_ n4_ n5_ n6_ n7_ n8_ n9_; clear hb hbox hg; obtain ⟨Ao43, co43, eo43⟩ := Kd.R_slice HO404.out; subst eo43; have hnb44 := NB409_401.out; have hnc44 := NB401_409.out; have hcz45_0 : w42.cell? ⟨gb409, 0, none⟩ = some (.slice none 0 0) := (blk_cell BK409.out 0).trans rfl; have hcz45_1 : w42.cell? ⟨gb409, 1, none⟩ = some (.bool false) := (blk_cell BK409.out 1).trans rfl; have hcz45_2 : w42.cell? ⟨gb409, 2, none⟩ = some (.string (⟨#[]⟩ : ByteArray)) := (blk_cell BK409.out 2).trans rfl; have hcz45_3 : w42.cell? ⟨gb409, 3, none⟩ = some (.string (⟨#[]⟩ : ByteArray)) := (blk_cell BK409.out 3).trans rfl; have hfz45_0 := blk_frozen BK409.out 0; have hfz45_1 := blk_frozen BK409.out 1; have hfz45_2 := blk_frozen BK409.out 2; have hfz45_3 := blk_frozen BK409.out 3)|((with_reducible refine gate_builtin (b := .append) (xs := #[.tmp 109, .tmp 111]) rfl ?_); (try (refine gate_guard (by rfl) ?_; dsimp only)); at_builtin; refine Kd.R_append_rows k39 (w0 := w) w.heap.size rfl (.tmp 109) (.tmp 111) 26 39 (.agg #[(.string ⟨#[]⟩), (.bool false), (.string ⟨#[]⟩), (.int .i64 0), (.bool false), (.int .i64 0), (.string ⟨#[]⟩), (.bool false)]) 88 rfl Try.underlying26 info39 rfl (by decide) (by omega) u18 x18_4 t402 _ _ _ (fun k_ => some k_ ≠ (.slice Ao31 t394.length co31 : Value).ownBlock ∧ some k_ ≠ (.slice Ao43 t402.length co43 : Value).ownBlock) (fun _ => False) rfl rfl ?aO ?aR (fun _ _ h => h) (fun _ h => h.elim) ?aF ?aB ?aS ?aL ?_; (case aR => refine (Kd.R_reads' (e := 39) (base := w.heap.size) (ok := fun k_ => ((True ∧ some k_ ≠ (u18 : Value).ownBlock) ∧ some k_ ≠ (.slice Ao31 t394.length co31 : Value).ownBlock)) (n := t402.length) (c := co43) ?_).2.2; exact (by (with_reducible repeat (first|apply Kd.R_alloc|apply Kd.R_drewN|apply Kd.R_drew)); exact (Kd.R_mono (Kd.R_far (p := ⟨gb409, 3, none⟩) (Kd.R_far (p := ⟨gb409, 2, none⟩) (Kd.R_far (p := ⟨gb409, 1, none⟩) (Kd.R_far (p := ⟨gb409, 0, none⟩) (Kd.R_types HO404.out BK409.out (by decide)) (fun _ hk => hk.2) (.slice Ao43 t402.length co43)) (fun _ hk => hk.2) (.bool true)) (fun _ hk => hk.2) (.string t406)) (fun _ hk => hk.2) (.string t407)) (fun _ h_ => h_.1)))); (case aB => exact (by repeat (first|(with_reducible first|exact HB.out|apply below_alloc|apply pw_below_drewN|apply below_drew1|refine below_set ?_ GE401.out|refine below_set ?_ GE409.out)|exact HB.out))); (case aF => exact (fun k_ hk => ⟨Kd.fresh' (Kd.R_lt (by (with_reducible repeat (first|apply Kd.R_alloc|apply Kd.R_drewN|apply Kd.R_drew)); exact (Kd.R_mono (Kd.R_far (p := ⟨gb409, 3, none⟩) (Kd.R_far (p := ⟨gb409, 2, none⟩) (Kd.R_far (p := ⟨gb409, 1, none⟩) (Kd.R_far (p := ⟨gb409, 0, none⟩) (Kd.R_types HO_402000.out BK409.out (by decide)) (fun _ hk => hk.2) (.slice Ao43 t402.length co43)) (fun _ hk => hk.2) (.bool true)) (fun _ hk => hk.2) (.string t406)) (fun _ hk => hk.2) (.string t407)) (fun _ h_ => h_.1)))) k_ hk, Kd.fresh' (Kd.R_lt (by (with_reducible repeat (first|apply Kd.R_alloc|apply Kd.R_drewN|apply Kd.R_drew)); exact (Kd.R_mono (Kd.R_far (p := ⟨gb409, 3, none⟩) (Kd.R_far (p := ⟨gb409, 2, none⟩) (Kd.R_far (p := ⟨gb409, 1, none⟩) (Kd.R_far (p := ⟨gb409, 0, none⟩) (Kd.R_types HO404.out BK409.out (by decide)) (fun _ hk => hk.2) (.slice Ao43 t402.length co43)) (fun _ hk => hk.2) (.bool true)) (fun _ hk => hk.2) (.string t406)) (fun _ hk => hk.2) (.string t407)) (fun _ h_ => h_.1)))) k_ hk⟩)); (case aO => exact (by (with_reducible repeat (first|apply Kd.R_alloc|apply Kd.R_drewN|apply Kd.R_drew)); exact Kd.R_mono (Kd.R_far (p := ⟨gb409, 3, none⟩) (Kd.R_far (p := ⟨gb409, 2, none⟩) (Kd.R_far (p := ⟨gb409, 1, none⟩) (Kd.R_far (p := ⟨gb409, 0, none⟩) (Kd.R_types HO_18.out BK409.out (by decide)) (fun _ hk => hk.2) (.slice Ao43 t402.length co43)) (fun _ hk => hk.2) (.bool true)) (fun _ hk => hk.2) (.string t406)) (fun _ hk => hk.2) (.string t407)) (fun _ hk => ⟨hk.1.1, hk.1.2⟩))); (case aS => exact (below_size (by repeat (first|(with_reducible first|exact HB.out|apply below_alloc|apply pw_below_drewN|apply below_drew1|refine below_set ?_ GE401.out|refine below_set ?_ GE409.out)|exact HB.out)))); (case aL => have := LMc36.out; omega); intro v411 w46 ho hb hg hat; rw [← Ny410.out] at ho; have n0_ := Aside0.mk (Kd.R_after (ok := (fun k_ => some k_ ≠ (.slice Ao43 t402.length co43 : Value).ownBlock)) (by (with_reducible repeat (first|apply Kd.R_alloc|apply Kd.R_drewN|apply Kd.R_drew)); exact Kd.R_mono (Kd.R_far (p := ⟨gb409, 3, none⟩) (Kd.R_far (p := ⟨gb409, 2, none⟩) (Kd.R_far (p := ⟨gb409, 1, none⟩) (Kd.R_far (p := ⟨gb409, 0, none⟩) (Kd.R_types HO_402000.out BK409.out (by decide)) (fun _ hk => hk.2) (.slice Ao43 t402.length co43)) (fun _ hk => hk.2) (.bool true)) (fun _ hk => hk.2) (.string t406)) (fun _ hk => hk.2) (.string t407)) (fun _ hk => ⟨hk.1.2, hk.1.1⟩)) hg hat); have n1_ := Aside0.mk (blk_grown (g := gb401) (o := .cells #[.slice Ao31 t394.length co31, .bool t397, .string t398, .string t399] 28 (0, 0)) (by (with_reducible repeat (first|refine blk_drewN ?_ _|refine blk_drew ?_|refine blk_alloc ?_ _)); refine blk_far ?_ NB401_409.out _; (with_reducible repeat (first|refine blk_drewN ?_ _|refine blk_drew ?_|refine blk_alloc ?_ _)); refine blk_far ?_ NB401_409.out _; (with_reducible repeat (first|refine blk_drewN ?_ _|refine blk_drew ?_|refine blk_alloc ?_ _)); refine blk_far ?_ NB401_409.out _; (with_reducible repeat (first|refine blk_drewN ?_ _|refine blk_drew ?_|refine blk_alloc ?_ _)); refine blk_far ?_ NB401_409.out _; (with_reducible repeat (first|refine blk_drewN ?_ _|refine blk_drew ?_|refine blk_alloc ?_ _)); exact BK401.out) hg (Kd.R_ne HO_18.out BK401.out (by decide))); have n2_ := Aside0.mk (Kd.R_after (ok := (fun k_ => some k_ ≠ (.slice Ao31 t394.length co31 : Value).ownBlock)) (by (with_reducible repeat (first|apply Kd.R_alloc|apply Kd.R_drewN|apply Kd.R_drew)); exact Kd.R_mono (Kd.R_far (p := ⟨gb409, 3, none⟩) (Kd.R_far (p := ⟨gb409, 2, none⟩) (Kd.R_far (p := ⟨gb409, 1, none⟩) (Kd.R_far (p := ⟨gb409, 0, none⟩) (Kd.R_types HO404.out BK409.out (by decide)) (fun _ hk => hk.2) (.slice Ao43 t402.length co43)) (fun _ hk => hk.2) (.bool true)) (fun _ hk => hk.2) (.string t406)) (fun _ hk => hk.2) (.string t407)) (fun _ hk => ⟨hk.1.2, hk.1.1.2⟩)) hg hat); have n3_ := Aside0.mk (blk_grown (g := gb409) (o := .cells #[.slice Ao43 t402.length co43, .bool true, .string t406, .string t407] 28 (0, 0)) (by (with_reducible repeat (first|refine blk_drewN ?_ _|refine blk_drew ?_|refine blk_alloc ?_ _)); refine blk_put (cs := #[.slice Ao43 t402.length co43, .bool true, .string t406, .string (⟨#[]⟩ : ByteArray)]) ?_ 3 _ rfl; (with_reducible repeat (first|refine blk_drewN ?_ _|refine blk_drew ?_|refine blk_alloc ?_ _)); refine blk_put (cs := #[.slice Ao43 t402.length co43, .bool true, .string (⟨#[]⟩ : ByteArray), .string (⟨#[]⟩ : ByteArray)]) ?_ 2 _ rfl; (with_reducible repeat (first|refine blk_drewN ?_ _|refine blk_drew ?_|refine blk_alloc ?_ _)); refine blk_put (cs := #[.slice Ao43 t402.length co43, .bool false, .string (⟨#[]⟩ : ByteArray), .string (⟨#[]⟩ : ByteArray)]) ?_ 1 _ rfl; (with_reducible repeat (first|refine blk_drewN ?_ _|refine blk_drew ?_|refine blk_alloc ?_ _)); refine blk_put (cs := #[.slice none 0 0, .bool false, .string (⟨#[]⟩ : ByteArray), .string (⟨#[]⟩ : ByteArray)]) ?_ 0 _ rfl; (with_reducible repeat (first|refine blk_drewN ?_ _|refine blk_drew ?_|refine blk_alloc ?_ _)); exact BK409.out) hg (Kd.R_ne HO_18.out BK409.out (by decide))); have n4_ := Aside0.mk (hb); have n5_ := Aside0.mk (ho); clear HO_402000; clear BK401; clear HO404; clear BK409; clear HB; clear HO_18; have HO_402000 := n0_; have BK401 := n1_; have HO404 := n2_; have BK409 := n3_; have HB := n4_; have HO412 := n5_; clear n0_ n1_ n2_ n3_ n4_ n5_; clear ho hb hg hat; have hcz47_0 : w46.cell? ⟨gb409, 0, none⟩ = some (.slice Ao43 t402.length co43) := (blk_cell BK409.out 0).trans rfl; have hcz47_1 : w46.cell? ⟨gb409, 1, none⟩ = some (.bool true) := (blk_cell BK409.out 1).trans rfl; have hcz47_2 : w46.cell? ⟨gb409, 2, none⟩ = some (.string t406) := (blk_cell BK409.out 2).trans rfl; have hcz47_3 : w46.cell? ⟨gb409, 3, none⟩ = some (.string t407) := (blk_cell BK409.out 3).trans rfl; have hfz47_0 := blk_frozen BK409.out 0; have hfz47_1 := blk_frozen BK409.out 1; have hfz47_2 := blk_frozen BK409.out 2; have hfz47_3 := blk_frozen BK409.out 3)|((with_reducible refine gate_callee (f := 27) rfl ?_); refine goesL_ (some 121) rfl rfl Try.func27 (by kernel_rfl) rfl #[.string t406, .string t407] rfl (by (try simp only [List.map_toArray, List.map_cons, List.map_nil]); first|done|rfl|(simp only [List.length_drop, List.length_take]; rfl)) ?_; (with_reducible refine (token_Make.calls t406 t407 t413 t414 _ A38.out).mono ?_); rintro e w48 ⟨rfl, hb⟩; refine ⟨_, rfl, ?_⟩; have n0_ := Aside0.mk (Kd.R_below (by (with_reducible repeat (first|apply Kd.R_alloc|apply Kd.R_drewN|apply Kd.R_drew)); exact HO_402000.out) hb); have n1_ := Aside0.mk (Kd.R_below (by (with_reducible repeat (first|apply Kd.R_alloc|apply Kd.R_drewN|apply Kd.R_drew)); exact HO404.out) hb); have n2_ := Aside0.mk (Kd.R_below (by (with_reducible repeat (first|apply Kd.R_alloc|apply Kd.R_drewN|apply Kd.R_drew)); exact HO412.out) hb); have n3_ := Aside0.mk (blk_below (g := gb401) (o := .cells #[.slice Ao31 t394.length co31, .bool t397, .string t398, .string t399] 28 (0, 0)) (by (with_reducible repeat (first|refine blk_drewN ?_ _|refine blk_drew ?_|refine blk_alloc ?_ _)); exact BK401.out) hb); have n4_ := Aside0.mk (blk_below (g := gb409) (o := .cells #[.slice Ao43 t402.length co43, .bool true, .string t406, .string t407] 28 (0, 0)) (by (with_reducible repeat (first|refine blk_drewN ?_ _|refine blk_drew ?_|refine blk_alloc ?_ _)); exact BK409.out) hb); have n5_ := Aside0.mk (below_step (by repeat (first|(with_reducible first|exact HB.out|apply below_alloc|apply pw_below_drewN|apply below_drew1|refine below_set ?_ GE401.out|refine below_set ?_ GE409.out)|exact HB.out)) hb); clear HO_402000; clear HO404; clear HO412; clear BK401; clear BK409; clear HB; have HO_402000 := n0_; have HO404 := n1_; have HO412 := n2_; have BK401 := n3_; have BK409 := n4_; have HB := n5_; clear n0_ n1_ n2_ n3_ n4_ n5_; (try clear hb); (try clear hb2); (try clear hk); (try clear hi))|((with_reducible refine gate_callee (f := 29) rfl ?_); refine goesL_ (some 126) rfl rfl Try.func29 (by kernel_rfl) rfl #[.string t413] rfl (by (try simp only [List.map_toArray, List.map_cons, List.map_nil]); first|done|rfl|(simp only [List.length_drop, List.length_take]; rfl)) ?_; (with_reducible refine (token_Read.calls t413 t415 t416 t417 _ A39.out).mono ?_); rintro e w49 ⟨rfl, hb⟩; refine ⟨_, rfl, ?_⟩; have n0_ := Aside0.mk (Kd.R_below (by (with_reducible repeat (first|apply Kd.R_alloc|apply Kd.R_drewN|apply Kd.R_drew)); exact HO_402000.out) hb); have n1_ := Aside0.mk (Kd.R_below (by (with_reducible repeat (first|apply Kd.R_alloc|apply Kd.R_drewN|apply Kd.R_drew)); exact HO404.out) hb); have n2_ := Aside0.mk (Kd.R_below (by (with_reducible repeat (first|apply Kd.R_alloc|apply Kd.R_drewN|apply Kd.R_drew)); exact HO412.out) hb); have n3_ := Aside0.mk (blk_below (g := gb401) (o := .cells #[.slice Ao31 t394.length co31, .bool t397, .string t398, .string t399] 28 (0, 0)) (by (with_reducible repeat (first|refine blk_drewN ?_ _|refine blk_drew ?_|refine blk_alloc ?_ _)); exact BK401.out) hb); have n4_ := Aside0.mk (blk_below (g := gb409) (o := .cells #[.slice Ao43 t402.length co43, .bool true, .string t406, .string t407] 28 (0, 0)) (by (with_reducible repeat (first|refine blk_drewN ?_ _|refine blk_drew ?_|refine blk_alloc ?_ _)); exact BK409.out) hb); have n5_ := Aside0.mk (below_step (by repeat (first|(with_reducible first|exact HB.out|apply below_alloc|apply pw_below_drewN|apply below_drew1|refine below_set ?_ GE401.out|refine below_set ?_ GE409.out)|exact HB.out)) hb); clear HO_402000; clear HO404; clear HO412; clear BK401; clear BK409; clear HB; have HO_402000 := n0_; have HO404 := n1_; have HO412 := n2_; have BK401 := n3_; have BK409 := n4_; have HB := n5_; clear n0_ n1_ n2_ n3_ n4_ n5_; (try clear hb); (try clear hb2); (try clear hk); (try clear hi)))
                 (try simp only [Act.put, List.setIfInBounds_toArray, List.set_cons_zero, List.set_cons_succ])
                 go_cut [139] (fun v139 wc => ∃ (kq : Nat) (x139_39 : Bool), v139 = .bool x139_39 ∧ Aside0 (stowagetop_TopTokens.j4 kq l0 a1 a2 (wrap64 (1 + t393)) x14_6 y410 x20_4 t415 x139_39 t394 t397 t398 t399 = some r) ∧ Aside0 (kq ≤ k4) ∧ Aside0 (Kd.R k39 39 wc w.heap.size (fun k_ => some k_ ≠ ((.slice Ao31 t394.length co31) : Value).ownBlock ∧ some k_ ≠ ((.slice Ao43 t402.length co43) : Value).ownBlock) v411 y410) ∧ Aside0 (Kd.R k39 39 wc w.heap.size (fun k_ => some k_ ≠ (v411 : Value).ownBlock ∧ some k_ ≠ ((.slice Ao43 t402.length co43) : Value).ownBlock) (.slice Ao31 t394.length co31) t394) ∧ Aside0 (Kd.R k39 39 wc w.heap.size (fun k_ => some k_ ≠ (v411 : Value).ownBlock ∧ some k_ ≠ ((.slice Ao31 t394.length co31) : Value).ownBlock) (.slice Ao43 t402.length co43) t402) ∧ Aside0 (wc.heap[gb401]? = some (.cells #[(.slice Ao31 t394.length co31), .bool t397, .string t398, .string t399] 28 (0, 0))) ∧ Aside0 (wc.heap[gb409]? = some (.cells #[(.slice Ao43 t402.length co43), .bool true, .string t406, .string t407] 28 (0, 0))) ∧ Aside0 (Below w.heap.size w wc))
                 case first =>
                  have H := HC40.out
                  clear HC40
                  by_cases c50 : t414 = 0
                  ·rw [if_pos c50] at H
                   have c50b0 : (t414 == 0) = true := beq_iff_eq.mpr c50
                   have c50b1 : (t414 != 0) = false := bne_eq_false_iff_eq.mpr c50
                   clear c50
                   (first|rw [c50b0]|(simp only [i64_w, i32_w]; rw [c50b0])|skip)
                   by_cases c51 : t417 = 0
                   ·rw [if_pos c51] at H
                    have c51b0 : (t417 == 0) = true := beq_iff_eq.mpr c51
                    have c51b1 : (t417 != 0) = false := bne_eq_false_iff_eq.mpr c51
                    clear c51
                    as_aux_lemma =>
                     have H' := Aside0.mk H
                     clear H
                     go_wp2
                     go_meet
                     case rel => exact ⟨_, ((t416.toList != ([] : List UInt8))), (by first|rfl|(simp; done)|(simp [*]; done)|(simp; cases t416.toList <;> rfl)), H', ⟨by have := HJ6.out; have := HJ11.out; have := HK3.out; have := HK4.out; first|omega|exact Nat.le_refl _⟩, ⟨by (with_reducible repeat (first|apply Kd.R_alloc|apply Kd.R_drewN|apply Kd.R_drew)); exact HO412.out⟩, ⟨by (with_reducible repeat (first|apply Kd.R_alloc|apply Kd.R_drewN|apply Kd.R_drew)); exact Kd.R_mono HO_402000.out (fun _ hk => ⟨hk.2, hk.1⟩)⟩, ⟨by (with_reducible repeat (first|apply Kd.R_alloc|apply Kd.R_drewN|apply Kd.R_drew)); exact Kd.R_mono HO404.out (fun _ hk => ⟨hk.2, hk.1⟩)⟩, ⟨by (with_reducible repeat (first|refine blk_drewN ?_ _|refine blk_drew ?_|refine blk_alloc ?_ _)); exact BK401.out⟩, ⟨by (with_reducible repeat (first|refine blk_drewN ?_ _|refine blk_drew ?_|refine blk_alloc ?_ _)); exact BK409.out⟩, ⟨by repeat (first|(with_reducible first|exact HB.out|apply below_alloc|apply pw_below_drewN|apply below_drew1|refine below_set ?_ GE401.out|refine below_set ?_ GE409.out)|exact HB.out)⟩⟩
                   ·rw [if_neg c51] at H
                    have c51b0 : (t417 == 0) = false := beq_eq_false_iff_ne.mpr c51
                    have c51b1 : (t417 != 0) = true := bne_iff_ne.mpr c51
                    as_aux_lemma =>
                     have H' := Aside0.mk H
                     clear H
                     go_wp2
                     go_meet
                     case rel => exact ⟨_, (true), (by first|rfl|(simp; done)|(simp [*]; done)), H', ⟨by have := HJ6.out; have := HJ11.out; have := HK3.out; have := HK4.out; first|omega|exact Nat.le_refl _⟩, ⟨by (with_reducible repeat (first|apply Kd.R_alloc|apply Kd.R_drewN|apply Kd.R_drew)); exact HO412.out⟩, ⟨by (with_reducible repeat (first|apply Kd.R_alloc|apply Kd.R_drewN|apply Kd.R_drew)); exact Kd.R_mono HO_402000.out (fun _ hk => ⟨hk.2, hk.1⟩)⟩, ⟨by (with_reducible repeat (first|apply Kd.R_alloc|apply Kd.R_drewN|apply Kd.R_drew)); exact Kd.R_mono HO404.out (fun _ hk => ⟨hk.2, hk.1⟩)⟩, ⟨by (with_reducible repeat (first|refine blk_drewN ?_ _|refine blk_drew ?_|refine blk_alloc ?_ _)); exact BK401.out⟩, ⟨by (with_reducible repeat (first|refine blk_drewN ?_ _|refine blk_drew ?_|refine blk_alloc ?_ _)); exact BK409.out⟩, ⟨by repeat (first|(with_reducible first|exact HB.out|apply below_alloc|apply pw_below_drewN|apply below_drew1|refine below_set ?_ GE401.out|refine below_set ?_ GE409.out)|exact HB.out)⟩⟩
                  ·rw [if_neg c50] at H
                   have c50b0 : (t414 == 0) = false := beq_eq_false_iff_ne.mpr c50
                   have c50b1 : (t414 != 0) = true := bne_iff_ne.mpr c50
                   (first|rw [c50b0]|(simp only [i64_w, i32_w]; rw [c50b0])|skip)
                   as_aux_lemma =>
                    have H' := Aside0.mk H
                    clear H
                    go_wp2
                    go_meet
                    case rel => exact ⟨_, (true), (by first|rfl|(simp; done)|(simp [*]; done)), H', ⟨by have := HJ6.out; have := HJ11.out; have := HK3.out; have := HK4.out; first|omega|exact Nat.le_refl _⟩, ⟨by (with_reducible repeat (first|apply Kd.R_alloc|apply Kd.R_drewN|apply Kd.R_drew)); exact HO412.out⟩, ⟨by (with_reducible repeat (first|apply Kd.R_alloc|apply Kd.R_drewN|apply Kd.R_drew)); exact Kd.R_mono HO_402000.out (fun _ hk => ⟨hk.2, hk.1⟩)⟩, ⟨by (with_reducible repeat (first|apply Kd.R_alloc|apply Kd.R_drewN|apply Kd.R_drew)); exact Kd.R_mono HO404.out (fun _ hk => ⟨hk.2, hk.1⟩)⟩, ⟨by (with_reducible repeat (first|refine blk_drewN ?_ _|refine blk_drew ?_|refine blk_alloc ?_ _)); exact BK401.out⟩, ⟨by (with_reducible repeat (first|refine blk_drewN ?_ _|refine blk_drew ?_|refine blk_alloc ?_ _)); exact BK409.out⟩, ⟨by repeat (first|(with_reducible first|exact HB.out|apply below_alloc|apply pw_below_drewN|apply below_drew1|refine below_set ?_ GE401.out|refine below_set ?_ GE409.out)|exact HB.out)⟩⟩
                 case rest =>
                  clear HC40
                  try clear c1
                  try clear c2
                  try clear p2
                  try clear c3
                  try clear p3
                  try clear q3
                  try clear hx3
                  try clear c4
                  try clear c5
                  try clear p6
                  try clear c8
                  try clear c9
                  try clear c10
                  try clear c10b0
                  try clear c10b1
                  try clear c11
                  try clear c11b0
                  try clear c11b1
                  try clear c12
                  try clear c14
                  try clear c16
                  try clear c16b0
                  try clear c16b1
                  try clear c17
                  try clear c17b0
                  try clear c17b1
                  try clear c21
                  try clear c22
                  try clear c22b0
                  try clear c23
                  try clear c23b0
                  try clear c24
                  try clear c24b0
                  try clear c24b1
                  try clear c25
                  try clear c27
                  try clear c27b0
                  try clear c27b1
                  try clear c29
                  try clear c33
                  try clear c33b0
                  try clear c35
                  try clear c35b0
                  try clear c35b1
                  try clear c36
                  try clear c37
                  try clear c39
                  try clear p39
                  try clear q39
                  try clear hx39
                  try clear c44
                  try clear c50
                  try clear c50b0
                  try clear c50b1
                  try clear c51
                  try clear c51b0
                  try clear c51b1
                  try clear hcz32_0
                  try clear hcz32_1
                  try clear hcz32_2
                  try clear hcz32_3
                  try clear hcz45_0
                  try clear hcz45_1
                  try clear hcz45_2
                  try clear hcz45_3
                  try clear hcz47_0
                  try clear hcz47_1
                  try clear hcz47_2
                  try clear hcz47_3
                  try clear hfz32_0
                  try clear hfz32_1
                  try clear hfz32_2
                  try clear hfz32_3
                  try clear hfz45_0
                  try clear hfz45_1
                  try clear hfz45_2
                  try clear hfz45_3
                  try clear hfz47_0
                  try clear hfz47_1
                  try clear hfz47_2
                  try clear hfz47_3
                  try clear hx392_0
                  try clear hx392_1
                  try clear p2
                  try clear p3
                  try clear p392
                  try clear p6
                  try clear q3
                  try clear q392
                  obtain ⟨kq, x139_39, rfl, HA, HJ39, HO_18, HO_402000, HO_410000, BK401, BK409, HB⟩ := hcut
                  cases kq with
                  | zero => exact absurd HA.out (by simp [stowagetop_TopTokens.j4])
                  | succ kj39 =>
                   have H := HA.out
                   clear HA
                   simp only [stowagetop_TopTokens.j4] at H
                   by_cases c52 : x139_39 = true
                   ·subst c52
                    have H1 : (some false) = some r := by rw [if_pos rfl] at H; exact H
                    clear H
                    have H := H1
                    clear H1
                    as_aux_lemma =>
                     obtain rfl := Option.some.inj H
                     go_wp2
                     go_ret
                     exact ⟨by first|rfl|(simp [errW_none, errW_some] <;> rfl)|(simp [*, errW_none, errW_some] <;> rfl), by repeat (first|(with_reducible first|exact HB.out|apply below_alloc|apply pw_below_drewN|apply below_drew1|refine below_set ?_ GE401.out|refine below_set ?_ GE409.out)|exact HB.out)⟩
                   ·replace c52 := Bool.eq_false_iff.mpr c52
                    subst c52
                    have H1 : (stowagetop_TopTokens.l1 kj39 l0 a1 a2 (wrap64 (1 + t393)) x14_6 y410 t415 (wrap64 (x20_4 + 1)) t394 t397 t398 t399) = some r := by rw [if_neg (show ¬ (false = true) by decide)] at H; exact H
                    clear H
                    have H := H1
                    clear H1
                    as_aux_lemma =>
                     have H' := Aside0.mk H
                     clear H
                     go_wp2
                     go_roundg kj39
                     case measure => have := HJ6.out; have := HJ11.out; have := HK3.out; have := HK4.out; have := HJ39.out; omega
                     case rel => exact ⟨(y410), (t415), (wrap64 (x20_4 + 1)), (by first|rfl|(simp; done)|(simp [*]; done)), (by first|rfl|(simp; done)|(simp [*]; done)), H', ⟨by have := HJ6.out; have := HJ11.out; have := HK3.out; have := HK4.out; have := HJ39.out; omega⟩, ⟨by (with_reducible repeat (first|apply Kd.R_alloc|apply Kd.R_drewN|apply Kd.R_drew)); exact Kd.R_mono HO_18.out (fun _ hk => hk.1)⟩, ⟨by (with_reducible repeat (first|apply Kd.R_alloc|apply Kd.R_drewN|apply Kd.R_drew)); exact Kd.R_mono HO_402000.out (fun _ hk => hk.1)⟩, ⟨by (with_reducible repeat (first|refine blk_drewN ?_ _|refine blk_drew ?_|refine blk_alloc ?_ _)); exact BK401.out⟩, ⟨by repeat (first|(with_reducible first|exact HB.out|apply below_alloc|apply pw_below_drewN|apply below_drew1|refine below_set ?_ GE401.out|refine below_set ?_ GE409.out)|exact HB.out)⟩⟩
                ·replace c37 := Bool.eq_false_iff.mpr c37
                 subst c37
                 have H1 : (stowagetop_TopTokens.j5 k4 x14_6 y410 t394 t397 t398 t399) = some r := by rw [if_neg (show ¬ (false = true) by decide)] at H; exact H
                 clear H
                 have H := H1
                 clear H1
                 as_aux_lemma =>
                  have H' := Aside0.mk H
                  clear H
                  go_wp2_with (first|((with_reducible refine gate_callee (f := 12) rfl ?_); refine goesL_ (some 104) rfl rfl Try.func12 (by kernel_rfl) rfl #[.slice A0 l0.length c0, .string a1, .string a2, .string x19_4, .int .i64 (wrap64 (1 + t393))] rfl (by (try simp only [List.map_toArray, List.map_cons, List.map_nil]); first|done|rfl|(simp only [List.length_drop, List.length_take]; rfl)) ?_; (with_reducible refine (listing_Keys.calls _ _ l0 a1 a2 x19_4 (wrap64 (1 + t393)) t402 false t406 t407 t408 _ ?side1 ?side2 ?side3 A34.out).mono ?_); (case side1 => first|exact HG.out|exact GM.below (by repeat (first|(with_reducible first|exact HB.out|apply below_alloc|apply pw_below_drewN|apply below_drew1|refine below_set ?_ GE401.out)|exact HB.out)) HG.out|(repeat (first|exact HG.out|apply GM.drewN|apply GM.drew))); (case side2 => repeat (first|exact (Kd.C_below HR0.out HB.out)|(with_reducible refine Kd.C_alloc ?_ _)|(with_reducible refine Kd.C_drewN ?_ _)|(with_reducible refine Kd.C_drew ?_))); (case side3 => exact HC0.out); rintro e w53 ⟨v403, rfl, ho0, hb⟩; refine ⟨_, rfl, ?_⟩; have n0_ := Aside0.mk (Kd.R_elder' (by (with_reducible repeat (first|apply Kd.R_alloc|apply Kd.R_drewN|apply Kd.R_drew)); exact HO_18.out) (Kd.R_base ho0) hb); have n1_ := Aside0.mk (Kd.R_elder' (by (with_reducible repeat (first|apply Kd.R_alloc|apply Kd.R_drewN|apply Kd.R_drew)); exact HO_402000.out) (Kd.R_base ho0) hb); have n2_ := Aside0.mk (Kd.R_lower (Kd.R_new' (Kd.R_new' ho0 (Kd.R_lt (by (with_reducible repeat (first|apply Kd.R_alloc|apply Kd.R_drewN|apply Kd.R_drew)); exact HO_18.out))) (Kd.R_lt (by (with_reducible repeat (first|apply Kd.R_alloc|apply Kd.R_drewN|apply Kd.R_drew)); exact HO_402000.out))) (below_size (by repeat (first|(with_reducible first|exact HB.out|apply below_alloc|apply pw_below_drewN|apply below_drew1|refine below_set ?_ GE401.out)|exact HB.out)))); have n3_ := Aside0.mk (blk_below (g := gb401) (o := .cells #[.slice Ao31 t394.length co31, .bool t397, .string t398, .string t399] 28 (0, 0)) (by (with_reducible repeat (first|refine blk_drewN ?_ _|refine blk_drew ?_|refine blk_alloc ?_ _)); exact BK401.out) hb); have n4_ := Aside0.mk (below_step (by repeat (first|(with_reducible first|exact HB.out|apply below_alloc|apply pw_below_drewN|apply below_drew1|refine below_set ?_ GE401.out)|exact HB.out)) hb); clear HO_18; clear HO_402000; clear BK401; clear HB; have HO_18 := n0_; have HO_402000 := n1_; have HO404 := n2_; have BK401 := n3_; have HB := n4_; clear n0_ n1_ n2_ n3_ n4_; (try clear hb); (try clear hb2); (try clear hk); (try clear hi); (try clear ho0))|((with_reducible refine gate_dst (N := 21) rfl ?_); (try (refine gate_guard (by rfl) ?_; dsimp only)); refine box_event ?hg (N := 21) ?hd (cs := #[.slice none 0 0, .bool false, .string (⟨#[]⟩ : ByteArray), .string (⟨#[]⟩ : ByteArray)]) (t := 28) ?hr ?_; (case hd => rfl); (case hg => rfl); (case hr => first|(go_simp; done)|(go_simp; rfl)); intro gb409 hg w54 hbox hb; have n0_ := Aside0.mk (Kd.R_below (by (with_reducible repeat (first|apply Kd.R_alloc|apply Kd.R_drewN|apply Kd.R_drew)); exact HO_18.out) hb); have n1_ := Aside0.mk (Kd.R_below (by (with_reducible repeat (first|apply Kd.R_alloc|apply Kd.R_drewN|apply Kd.R_drew)); exact HO_402000.out) hb); have n2_ := Aside0.mk (Kd.R_below (by (with_reducible repeat (first|apply Kd.R_alloc|apply Kd.R_drewN|apply Kd.R_drew)); exact HO404.out) hb); have n3_ := Aside0.mk (blk_below (g := gb401) (o := .cells #[.slice Ao31 t394.length co31, .bool t397, .string t398, .string t399] 28 (0, 0)) (by (with_reducible repeat (first|refine blk_drewN ?_ _|refine blk_drew ?_|refine blk_alloc ?_ _)); exact BK401.out) hb); have n4_ := Aside0.mk (below_step (by repeat (first|(with_reducible first|exact HB.out|apply below_alloc|apply pw_below_drewN|apply below_drew1|refine below_set ?_ GE401.out)|exact HB.out)) hb); have n5_ := Aside0.mk (hbox); have n6_ := Aside0.mk ((by rw [hg]; exact (below_size (by repeat (first|(with_reducible first|exact HB.out|apply below_alloc|apply pw_below_drewN|apply below_drew1|refine below_set ?_ GE401.out)|exact HB.out))) : w.heap.size ≤ gb409)); have n7_ := Aside0.mk ((by rw [hg]; exact (below_size (by repeat (first|(with_reducible first|exact HB.out|apply below_alloc|apply pw_below_drewN|apply below_drew1|refine below_set ?_ GE401.out)|exact HB.out))) : w.heap.size ≤ gb409)); have n8_ := Aside0.mk ((by rw [hg]; exact Nat.ne_of_lt (blk_lt (g := gb401) (o := .cells #[.slice Ao31 t394.length co31, .bool t397, .string t398, .string t399] 28 (0, 0)) (by (with_reducible repeat (first|refine blk_drewN ?_ _|refine blk_drew ?_|refine blk_alloc ?_ _)); exact BK401.out)) : gb401 ≠ gb409)); have n9_ := Aside0.mk ((by rw [hg]; exact Nat.ne_of_gt (blk_lt (g := gb401) (o := .cells #[.slice Ao31 t394.length co31, .bool t397, .string t398, .string t399] 28 (0, 0)) (by (with_reducible repeat (first|refine blk_drewN ?_ _|refine blk_drew ?_|refine blk_alloc ?_ _)); exact BK401.out)) : gb409 ≠ gb401)); clear HO_18; clear HO_402000; clear HO404; clear BK401; clear HB; have HO_18 := n0_; have HO_402000 := n1_; have HO404 := n2_; have BK401 := n3_; have HB := n4_; have BK409 := n5_; have GW409 := n6_; have GE409 := n7_; have NB401_409 := n8_; have NB409_401 := n9_; clear n0_ n1_ n2_ n3_ n4_ n5_ n6_ n7_ n8_ n9_; clear hb hbox hg; obtain ⟨Ao55, co55, eo55⟩ := Kd.R_slice HO404.out; subst eo55; have hnb56 := NB409_401.out; have hnc56 := NB401_409.out; have hcz57_0 : w54.cell? ⟨gb409, 0, none⟩ = some (.slice none 0 0) := (blk_cell BK409.out 0).trans rfl; have hcz57_1 : w54.cell? ⟨gb409, 1, none⟩ = some (.bool false) := (blk_cell BK409.out 1).trans rfl; have hcz57_2 : w54.cell? ⟨gb409, 2, none⟩ = some (.string (⟨#[]⟩ : ByteArray)) := (blk_cell BK409.out 2).trans rfl; have hcz57_3 : w54.cell? ⟨gb409, 3, none⟩ = some (.string (⟨#[]⟩ : ByteArray)) := (blk_cell BK409.out 3).trans rfl; have hfz57_0 := blk_frozen BK409.out 0; have hfz57_1 := blk_frozen BK409.out 1; have hfz57_2 := blk_frozen BK409.out 2; have hfz57_3 := blk_frozen BK409.out 3)|((with_reducible refine gate_builtin (b := .append) (xs := #[.tmp 109, .tmp 111]) rfl ?_); (try (refine gate_guard (by rfl) ?_; dsimp only)); at_builtin; refine Kd.R_append_rows k39 (w0 := w) w.heap.size rfl (.tmp 109) (.tmp 111) 26 39 (.agg #[(.string ⟨#[]⟩), (.bool false), (.string ⟨#[]⟩), (.int .i64 0), (.bool false), (.int .i64 0), (.string ⟨#[]⟩), (.bool false)]) 88 rfl Try.underlying26 info39 rfl (by decide) (by omega) u18 x18_4 t402 _ _ _ (fun k_ => some k_ ≠ (.slice Ao31 t394.length co31 : Value).ownBlock ∧ some k_ ≠ (.slice Ao55 t402.length co55 : Value).ownBlock) (fun _ => False) rfl rfl ?aO ?aR (fun _ _ h => h) (fun _ h => h.elim) ?aF ?aB ?aS ?aL ?_; (case aR => refine (Kd.R_reads' (e := 39) (base := w.heap.size) (ok := fun k_ => ((True ∧ some k_ ≠ (u18 : Value).ownBlock) ∧ some k_ ≠ (.slice Ao31 t394.length co31 : Value).ownBlock)) (n := t402.length) (c := co55) ?_).2.2; exact (by (with_reducible repeat (first|apply Kd.R_alloc|apply Kd.R_drewN|apply Kd.R_drew)); exact (Kd.R_mono (Kd.R_far (p := ⟨gb409, 3, none⟩) (Kd.R_far (p := ⟨gb409, 2, none⟩) (Kd.R_far (p := ⟨gb409, 1, none⟩) (Kd.R_far (p := ⟨gb409, 0, none⟩) (Kd.R_types HO404.out BK409.out (by decide)) (fun _ hk => hk.2) (.slice Ao55 t402.length co55)) (fun _ hk => hk.2) (.bool false)) (fun _ hk => hk.2) (.string t406)) (fun _ hk => hk.2) (.string t407)) (fun _ h_ => h_.1)))); (case aB => exact (by repeat (first|(with_reducible first|exact HB.out|apply below_alloc|apply pw_below_drewN|apply below_drew1|refine below_set ?_ GE401.out|refine below_set ?_ GE409.out)|exact HB.out))); (case aF => exact (fun k_ hk => ⟨Kd.fresh' (Kd.R_lt (by (with_reducible repeat (first|apply Kd.R_alloc|apply Kd.R_drewN|apply Kd.R_drew)); exact (Kd.R_mono (Kd.R_far (p := ⟨gb409, 3, none⟩) (Kd.R_far (p := ⟨gb409, 2, none⟩) (Kd.R_far (p := ⟨gb409, 1, none⟩) (Kd.R_far (p := ⟨gb409, 0, none⟩) (Kd.R_types HO_402000.out BK409.out (by decide)) (fun _ hk => hk.2) (.slice Ao55 t402.length co55)) (fun _ hk => hk.2) (.bool false)) (fun _ hk => hk.2) (.string t406)) (fun _ hk => hk.2) (.string t407)) (fun _ h_ => h_.1)))) k_ hk, Kd.fresh' (Kd.R_lt (by (with_reducible repeat (first|apply Kd.R_alloc|apply Kd.R_drewN|apply Kd.R_drew)); exact (Kd.R_mono (Kd.R_far (p := ⟨gb409, 3, none⟩) (Kd.R_far (p := ⟨gb409, 2, none⟩) (Kd.R_far (p := ⟨gb409, 1, none⟩) (Kd.R_far (p := ⟨gb409, 0, none⟩) (Kd.R_types HO404.out BK409.out (by decide)) (fun _ hk => hk.2) (.slice Ao55 t402.length co55)) (fun _ hk => hk.2) (.bool false)) (fun _ hk => hk.2) (.string t406)) (fun _ hk => hk.2) (.string t407)) (fun _ h_ => h_.1)))) k_ hk⟩)); (case aO => exact (by (with_reducible repeat (first|apply Kd.R_alloc|apply Kd.R_drewN|apply Kd.R_drew)); exact Kd.R_mono (Kd.R_far (p := ⟨gb409, 3, none⟩) (Kd.R_far (p := ⟨gb409, 2, none⟩) (Kd.R_far (p := ⟨gb409, 1, none⟩) (Kd.R_far (p := ⟨gb409, 0, none⟩) (Kd.R_types HO_18.out BK409.out (by decide)) (fun _ hk => hk.2) (.slice Ao55 t402.length co55)) (fun _ hk => hk.2) (.bool false)) (fun _ hk => hk.2) (.string t406)) (fun _ hk => hk.2) (.string t407)) (fun _ hk => ⟨hk.1.1, hk.1.2⟩))); (case aS => exact (below_size (by repeat (first|(with_reducible first|exact HB.out|apply below_alloc|apply pw_below_drewN|apply below_drew1|refine below_set ?_ GE401.out|refine below_set ?_ GE409.out)|exact HB.out)))); (case aL => have := LMc36.out; omega); intro v411 w58 ho hb hg hat; rw [← Ny410.out] at ho; have n0_ := Aside0.mk (Kd.R_after (ok := (fun k_ => some k_ ≠ (.slice Ao55 t402.length co55 : Value).ownBlock)) (by (with_reducible repeat (first|apply Kd.R_alloc|apply Kd.R_drewN|apply Kd.R_drew)); exact Kd.R_mono (Kd.R_far (p := ⟨gb409, 3, none⟩) (Kd.R_far (p := ⟨gb409, 2, none⟩) (Kd.R_far (p := ⟨gb409, 1, none⟩) (Kd.R_far (p := ⟨gb409, 0, none⟩) (Kd.R_types HO_402000.out BK409.out (by decide)) (fun _ hk => hk.2) (.slice Ao55 t402.length co55)) (fun _ hk => hk.2) (.bool false)) (fun _ hk => hk.2) (.string t406)) (fun _ hk => hk.2) (.string t407)) (fun _ hk => ⟨hk.1.2, hk.1.1⟩)) hg hat); have n1_ := Aside0.mk (blk_grown (g := gb401) (o := .cells #[.slice Ao31 t394.length co31, .bool t397, .string t398, .string t399] 28 (0, 0)) (by (with_reducible repeat (first|refine blk_drewN ?_ _|refine blk_drew ?_|refine blk_alloc ?_ _)); refine blk_far ?_ NB401_409.out _; (with_reducible repeat (first|refine blk_drewN ?_ _|refine blk_drew ?_|refine blk_alloc ?_ _)); refine blk_far ?_ NB401_409.out _; (with_reducible repeat (first|refine blk_drewN ?_ _|refine blk_drew ?_|refine blk_alloc ?_ _)); refine blk_far ?_ NB401_409.out _; (with_reducible repeat (first|refine blk_drewN ?_ _|refine blk_drew ?_|refine blk_alloc ?_ _)); refine blk_far ?_ NB401_409.out _; (with_reducible repeat (first|refine blk_drewN ?_ _|refine blk_drew ?_|refine blk_alloc ?_ _)); exact BK401.out) hg (Kd.R_ne HO_18.out BK401.out (by decide))); have n2_ := Aside0.mk (Kd.R_after (ok := (fun k_ => some k_ ≠ (.slice Ao31 t394.length co31 : Value).ownBlock)) (by (with_reducible repeat (first|apply Kd.R_alloc|apply Kd.R_drewN|apply Kd.R_drew)); exact Kd.R_mono (Kd.R_far (p := ⟨gb409, 3, none⟩) (Kd.R_far (p := ⟨gb409, 2, none⟩) (Kd.R_far (p := ⟨gb409, 1, none⟩) (Kd.R_far (p := ⟨gb409, 0, none⟩) (Kd.R_types HO404.out BK409.out (by decide)) (fun _ hk => hk.2) (.slice Ao55 t402.length co55)) (fun _ hk => hk.2) (.bool false)) (fun _ hk => hk.2) (.string t406)) (fun _ hk => hk.2) (.string t407)) (fun _ hk => ⟨hk.1.2, hk.1.1.2⟩)) hg hat); have n3_ := Aside0.mk (blk_grown (g := gb409) (o := .cells #[.slice Ao55 t402.length co55, .bool false, .string t406, .string t407] 28 (0, 0)) (by (with_reducible repeat (first|refine blk_drewN ?_ _|refine blk_drew ?_|refine blk_alloc ?_ _)); refine blk_put (cs := #[.slice Ao55 t402.length co55, .bool false, .string t406, .string (⟨#[]⟩ : ByteArray)]) ?_ 3 _ rfl; (with_reducible repeat (first|refine blk_drewN ?_ _|refine blk_drew ?_|refine blk_alloc ?_ _)); refine blk_put (cs := #[.slice Ao55 t402.length co55, .bool false, .string (⟨#[]⟩ : ByteArray), .string (⟨#[]⟩ : ByteArray)]) ?_ 2 _ rfl; (with_reducible repeat (first|refine blk_drewN ?_ _|refine blk_drew ?_|refine blk_alloc ?_ _)); refine blk_put (cs := #[.slice Ao55 t402.length co55, .bool false, .string (⟨#[]⟩ : ByteArray), .string (⟨#[]⟩ : ByteArray)]) ?_ 1 _ rfl; (with_reducible repeat (first|refine blk_drewN ?_ _|refine blk_drew ?_|refine blk_alloc ?_ _)); refine blk_put (cs := #[.slice none 0 0, .bool false, .string (⟨#[]⟩ : ByteArray), .string (⟨#[]⟩ : ByteArray)]) ?_ 0 _ rfl; (with_reducible repeat (first|refine blk_drewN ?_ _|refine blk_drew ?_|refine blk_alloc ?_ _)); exact BK409.out) hg (Kd.R_ne HO_18.out BK409.out (by decide))); have n4_ := Aside0.mk (hb); have n5_ := Aside0.mk (ho); clear HO_402000; clear BK401; clear HO404; clear BK409; clear HB; clear HO_18; have HO_402000 := n0_; have BK401 := n1_; have HO404 := n2_; have BK409 := n3_; have HB := n4_; have HO412 := n5_; clear n0_ n1_ n2_ n3_ n4_ n5_; clear ho hb hg hat; have hcz59_0 : w58.cell? ⟨gb409, 0, none⟩ = some (.slice Ao55 t402.length co55) := (blk_cell BK409.out 0).trans rfl; have hcz59_1 : w58.cell? ⟨gb409, 1, none⟩ = some (.bool false) := (blk_cell BK409.out 1).trans rfl; have hcz59_2 : w58.cell? ⟨gb409, 2, none⟩ = some (.string t406) := (blk_cell BK409.out 2).trans rfl; have hcz59_3 : w58.cell? ⟨gb409, 3, none⟩ = some (.string t407) := (blk_cell BK409.out 3).trans rfl; have hfz59_0 := blk_frozen BK409.out 0; have hfz59_1 := blk_frozen BK409.out 1; have hfz59_2 := blk_frozen BK409.out 2; have hfz59_3 := blk_frozen BK409.out 3))
                  go_meet
                  case rel => exact ⟨_, (y410), H', ⟨by have := HJ6.out; have := HJ11.out; have := HK3.out; have := HK4.out; first|omega|exact Nat.le_refl _⟩, ⟨by (with_reducible repeat (first|apply Kd.R_alloc|apply Kd.R_drewN|apply Kd.R_drew)); exact Kd.R_mono HO412.out (fun _ hk => hk.1)⟩, ⟨by (with_reducible repeat (first|apply Kd.R_alloc|apply Kd.R_drewN|apply Kd.R_drew)); exact Kd.R_mono HO_402000.out (fun _ hk => hk.2)⟩, ⟨by (with_reducible repeat (first|refine blk_drewN ?_ _|refine blk_drew ?_|refine blk_alloc ?_ _)); exact BK401.out⟩, ⟨by repeat (first|(with_reducible first|exact HB.out|apply below_alloc|apply pw_below_drewN|apply below_drew1|refine below_set ?_ GE401.out|refine below_set ?_ GE409.out)|exact HB.out)⟩⟩
               ·rw [if_neg c36] at H
                exact absurd H (by simp)
              ·rw [if_neg c35] at H
               have c35b0 : (t408 == 0) = false := beq_eq_false_iff_ne.mpr c35
               have c35b1 : (t408 != 0) = true := bne_iff_ne.mpr c35
               as_aux_lemma =>
                obtain rfl := Option.some.inj H
                go_wp2_with (first|((with_reducible refine gate_callee (f := 12) rfl ?_); refine goesL_ (some 104) rfl rfl Try.func12 (by kernel_rfl) rfl #[.slice A0 l0.length c0, .string a1, .string a2, .string x19_4, .int .i64 (wrap64 (1 + t393))] rfl (by (try simp only [List.map_toArray, List.map_cons, List.map_nil]); first|done|rfl|(simp only [List.length_drop, List.length_take]; rfl)) ?_; (with_reducible refine (listing_Keys.calls _ _ l0 a1 a2 x19_4 (wrap64 (1 + t393)) t402 t405 t406 t407 t408 _ ?side1 ?side2 ?side3 A34.out).mono ?_); (case side1 => first|exact HG.out|exact GM.below (by repeat (first|(with_reducible first|exact HB.out|apply below_alloc|apply pw_below_drewN|apply below_drew1|refine below_set ?_ GE401.out)|exact HB.out)) HG.out|(repeat (first|exact HG.out|apply GM.drewN|apply GM.drew))); (case side2 => repeat (first|exact (Kd.C_below HR0.out HB.out)|(with_reducible refine Kd.C_alloc ?_ _)|(with_reducible refine Kd.C_drewN ?_ _)|(with_reducible refine Kd.C_drew ?_))); (case side3 => exact HC0.out); rintro e w60 ⟨v403, rfl, ho0, hb⟩; refine ⟨_, rfl, ?_⟩; have n0_ := Aside0.mk (Kd.R_elder' (by (with_reducible repeat (first|apply Kd.R_alloc|apply Kd.R_drewN|apply Kd.R_drew)); exact HO_18.out) (Kd.R_base ho0) hb); have n1_ := Aside0.mk (Kd.R_elder' (by (with_reducible repeat (first|apply Kd.R_alloc|apply Kd.R_drewN|apply Kd.R_drew)); exact HO_402000.out) (Kd.R_base ho0) hb); have n2_ := Aside0.mk (Kd.R_lower (Kd.R_new' (Kd.R_new' ho0 (Kd.R_lt (by (with_reducible repeat (first|apply Kd.R_alloc|apply Kd.R_drewN|apply Kd.R_drew)); exact HO_18.out))) (Kd.R_lt (by (with_reducible repeat (first|apply Kd.R_alloc|apply Kd.R_drewN|apply Kd.R_drew)); exact HO_402000.out))) (below_size (by repeat (first|(with_reducible first|exact HB.out|apply below_alloc|apply pw_below_drewN|apply below_drew1|refine below_set ?_ GE401.out)|exact HB.out)))); have n3_ := Aside0.mk (blk_below (g := gb401) (o := .cells #[.slice Ao31 t394.length co31, .bool t397, .string t398, .string t399] 28 (0, 0)) (by (with_reducible repeat (first|refine blk_drewN ?_ _|refine blk_drew ?_|refine blk_alloc ?_ _)); exact BK401.out) hb); have n4_ := Aside0.mk (below_step (by repeat (first|(with_reducible first|exact HB.out|apply below_alloc|apply pw_below_drewN|apply below_drew1|refine below_set ?_ GE401.out)|exact HB.out)) hb); clear HO_18; clear HO_402000; clear BK401; clear HB; have HO_18 := n0_; have HO_402000 := n1_; have HO404 := n2_; have BK401 := n3_; have HB := n4_; clear n0_ n1_ n2_ n3_ n4_; (try clear hb); (try clear hb2); (try clear hk); (try clear hi); (try clear ho0))|((with_reducible refine gate_dst (N := 21) rfl ?_); (try (refine gate_guard (by rfl) ?_; dsimp only)); refine box_event ?hg (N := 21) ?hd (cs := #[.slice none 0 0, .bool false, .string (⟨#[]⟩ : ByteArray), .string (⟨#[]⟩ : ByteArray)]) (t := 28) ?hr ?_; (case hd => rfl); (case hg => rfl); (case hr => first|(go_simp; done)|(go_simp; rfl)); intro gb409 hg w61 hbox hb; have n0_ := Aside0.mk (Kd.R_below (by (with_reducible repeat (first|apply Kd.R_alloc|apply Kd.R_drewN|apply Kd.R_drew)); exact HO_18.out) hb); have n1_ := Aside0.mk (Kd.R_below (by (with_reducible repeat (first|apply Kd.R_alloc|apply Kd.R_drewN|apply Kd.R_drew)); exact HO_402000.out) hb); have n2_ := Aside0.mk (Kd.R_below (by (with_reducible repeat (first|apply Kd.R_alloc|apply Kd.R_drewN|apply Kd.R_drew)); exact HO404.out) hb); have n3_ := Aside0.mk (blk_below (g := gb401) (o := .cells #[.slice Ao31 t394.length co31, .bool t397, .string t398, .string t399] 28 (0, 0)) (by (with_reducible repeat (first|refine blk_drewN ?_ _|refine blk_drew ?_|refine blk_alloc ?_ _)); exact BK401.out) hb); have n4_ := Aside0.mk (below_step (by repeat (first|(with_reducible first|exact HB.out|apply below_alloc|apply pw_below_drewN|apply below_drew1|refine below_set ?_ GE401.out)|exact HB.out)) hb); have n5_ := Aside0.mk (hbox); have n6_ := Aside0.mk ((by rw [hg]; exact (below_size (by repeat (first|(with_reducible first|exact HB.out|apply below_alloc|apply pw_below_drewN|apply below_drew1|refine below_set ?_ GE401.out)|exact HB.out))) : w.heap.size ≤ gb409)); have n7_ := Aside0.mk ((by rw [hg]; exact (below_size (by repeat (first|(with_reducible first|exact HB.out|apply below_alloc|apply pw_below_drewN|apply below_drew1|refine below_set ?_ GE401.out)|exact HB.out))) : w.heap.size ≤ gb409)); have n8_ := Aside0.mk ((by rw [hg]; exact Nat.ne_of_lt (blk_lt (g := gb401) (o := .cells #[.slice Ao31 t394.length co31, .bool t397, .string t398, .string t399] 28 (0, 0)) (by (with_reducible repeat (first|refine blk_drewN ?_ _|refine blk_drew ?_|refine blk_alloc ?_ _)); exact BK401.out)) : gb401 ≠ gb409)); have n9_ := Aside0.mk ((by rw [hg]; exact Nat.ne_of_gt (blk_lt (g := gb401) (o := .cells #[.slice Ao31 t394.length co31, .bool t397, .string t398, .string t399] 28 (0, 0)) (by (with_reducible repeat (first|refine blk_drewN ?_ _|refine blk_drew ?_|refine blk_alloc ?_ _)); exact BK401.out)) : gb409 ≠ gb401)); clear HO_18; clear HO_402000; clear HO404; clear BK401; clear HB; have HO_18 := n0_; have HO_402000 := n1_; have HO404 := n2_; have BK401 := n3_; have HB := n4_; have BK409 := n5_; have GW409 := n6_; have GE409 := n7_; have NB401_409 := n8_; have NB409_401 := n9_; clear n0_ n1_ n2_ n3_ n4_ n5_ n6_ n7_ n8_ n9_; clear hb hbox hg; obtain ⟨Ao62, co62, eo62⟩ := Kd.R_slice HO404.out; subst eo62; have hnb63 := NB409_401.out; have hnc63 := NB401_409.out; have hcz64_0 : w61.cell? ⟨gb409, 0, none⟩ = some (.slice none 0 0) := (blk_cell BK409.out 0).trans rfl; have hcz64_1 : w61.cell? ⟨gb409, 1, none⟩ = some (.bool false) := (blk_cell BK409.out 1).trans rfl; have hcz64_2 : w61.cell? ⟨gb409, 2, none⟩ = some (.string (⟨#[]⟩ : ByteArray)) := (blk_cell BK409.out 2).trans rfl; have hcz64_3 : w61.cell? ⟨gb409, 3, none⟩ = some (.string (⟨#[]⟩ : ByteArray)) := (blk_cell BK409.out 3).trans rfl; have hfz64_0 := blk_frozen BK409.out 0; have hfz64_1 := blk_frozen BK409.out 1; have hfz64_2 := blk_frozen BK409.out 2; have hfz64_3 := blk_frozen BK409.out 3))
                go_ret
                exact ⟨by first|rfl|(simp [errW_none, errW_some] <;> rfl)|(simp [*, errW_none, errW_some] <;> rfl), by repeat (first|(with_reducible first|exact HB.out|apply below_alloc|apply pw_below_drewN|apply below_drew1|refine below_set ?_ GE401.out|refine below_set ?_ GE409.out)|exact HB.out)⟩
             ·rw [if_neg c33] at H
              have c33b0 : decide (x20_4 ≤ (l0.length : Int)) = false := decide_eq_false c33
              clear c33
              (first|rw [c33b0]|(simp only [i64_w, i32_w]; rw [c33b0])|skip)
              as_aux_lemma =>
               have H' := Aside0.mk H
               clear H
               go_wp2
               go_meet
               case rel => exact ⟨_, (x18_4), H', ⟨by have := HJ6.out; have := HJ11.out; have := HK3.out; have := HK4.out; first|omega|exact Nat.le_refl _⟩, ⟨by (with_reducible repeat (first|apply Kd.R_alloc|apply Kd.R_drewN|apply Kd.R_drew)); exact HO_18.out⟩, ⟨by (with_reducible repeat (first|apply Kd.R_alloc|apply Kd.R_drewN|apply Kd.R_drew)); exact HO_402000.out⟩, ⟨by (with_reducible repeat (first|refine blk_drewN ?_ _|refine blk_drew ?_|refine blk_alloc ?_ _)); exact BK401.out⟩, ⟨by repeat (first|(with_reducible first|exact HB.out|apply below_alloc|apply pw_below_drewN|apply below_drew1|refine below_set ?_ GE401.out)|exact HB.out)⟩⟩
          case rest =>
           clear HC28
           try clear c1
           try clear c2
           try clear p2
           try clear c3
           try clear p3
           try clear q3
           try clear hx3
           try clear c4
           try clear c5
           try clear c6
           try clear p6
           try clear c8
           try clear c9
           try clear c10
           try clear c10b0
           try clear c10b1
           try clear c11
           try clear c11b0
           try clear c11b1
           try clear c12
           try clear c14
           try clear c16
           try clear c16b0
           try clear c16b1
           try clear c17
           try clear c17b0
           try clear c17b1
           try clear c21
           try clear c22
           try clear c22b0
           try clear c23
           try clear c23b0
           try clear c24
           try clear c24b0
           try clear c24b1
           try clear c25
           try clear c27
           try clear c27b0
           try clear c27b1
           try clear c29
           try clear c33
           try clear c33b0
           try clear c35
           try clear c35b0
           try clear c35b1
           try clear c36
           try clear c37
           try clear c39
           try clear p39
           try clear q39
           try clear hx39
           try clear c44
           try clear c50
           try clear c50b0
           try clear c50b1
           try clear c51
           try clear c51b0
           try clear c51b1
           try clear c52
           try clear c56
           try clear c63
           try clear p64
           try clear hcz32_0
           try clear hcz32_1
           try clear hcz32_2
           try clear hcz32_3
           try clear hcz45_0
           try clear hcz45_1
           try clear hcz45_2
           try clear hcz45_3
           try clear hcz47_0
           try clear hcz47_1
           try clear hcz47_2
           try clear hcz47_3
           try clear hcz57_0
           try clear hcz57_1
           try clear hcz57_2
           try clear hcz57_3
           try clear hcz59_0
           try clear hcz59_1
           try clear hcz59_2
           try clear hcz59_3
           try clear hcz64_0
           try clear hcz64_1
           try clear hcz64_2
           try clear hcz64_3
           try clear hfz32_0
           try clear hfz32_1
           try clear hfz32_2
           try clear hfz32_3
           try clear hfz45_0
           try clear hfz45_1
           try clear hfz45_2
           try clear hfz45_3
           try clear hfz47_0
           try clear hfz47_1
           try clear hfz47_2
           try clear hfz47_3
           try clear hfz57_0
           try clear hfz57_1
           try clear hfz57_2
           try clear hfz57_3
           try clear hfz59_0
           try clear hfz59_1
           try clear hfz59_2
           try clear hfz59_3
           try clear hfz64_0
           try clear hfz64_1
           try clear hfz64_2
           try clear hfz64_3
           try clear hx392_0
           try clear hx392_1
           try clear p2
           try clear p3
           try clear p39
           try clear p392
           try clear p6
           try clear q3
           try clear q39
           try clear q392
           obtain ⟨kq, x18_27, HA, HJ27, HO_18, HO_402000, BK401, HB⟩ := hcut
           cases kq with
           | zero => exact absurd HA.out (by simp [stowagetop_TopTokens.j5])
           | succ kj27 =>
            have H := HA.out
            clear HA
            simp only [stowagetop_TopTokens.j5] at H
            by_cases c65 : x14_6 = true
            ·subst c65
             have H1 : ((stowagekit_SamePage.f kj27 x18_27 false (⟨#[]⟩ : ByteArray) (⟨#[]⟩ : ByteArray) t394 false (⟨#[]⟩ : ByteArray) (⟨#[]⟩ : ByteArray)).bind fun t418 => (some t418)) = some r := by rw [if_pos rfl] at H; exact H
             clear H
             have H := H1
             clear H1
             replace H := Option.bind_eq_some_iff.mp H
             obtain ⟨t418, A660, H⟩ := H
             replace H : (some t418) = some r := H
             have A66 := Aside0.mk A660
             clear A660
             as_aux_lemma =>
              obtain rfl := Option.some.inj H
              obtain ⟨Ao67, co67, eo67⟩ := Kd.R_slice HO_18.out
              subst eo67
              have hcz68_0 : wc.cell? ⟨gb401, 0, none⟩ = some (.slice Ao31 t394.length co31) := (blk_cell BK401.out 0).trans rfl
              have hcz68_1 : wc.cell? ⟨gb401, 1, none⟩ = some (.bool t397) := (blk_cell BK401.out 1).trans rfl
              have hcz68_2 : wc.cell? ⟨gb401, 2, none⟩ = some (.string t398) := (blk_cell BK401.out 2).trans rfl
              have hcz68_3 : wc.cell? ⟨gb401, 3, none⟩ = some (.string t399) := (blk_cell BK401.out 3).trans rfl
              have hfz68_0 := blk_frozen BK401.out 0
              have hfz68_1 := blk_frozen BK401.out 1
              have hfz68_2 := blk_frozen BK401.out 2
              have hfz68_3 := blk_frozen BK401.out 3
              go_wp2_with (first|(go_at_call 16; (with_reducible refine (stowagekit_SamePage.calls kj27 _ _ x18_27 false (⟨#[]⟩ : ByteArray) (⟨#[]⟩ : ByteArray) _ _ t394 false (⟨#[]⟩ : ByteArray) (⟨#[]⟩ : ByteArray) t418 _ ?side1 ?side2 ?side3 ?side4 A66.out).mono ?_); (case side1 => repeat (first|exact (Kd.R_reads' HO_18.out).2.2|(with_reducible refine Kd.C_alloc ?_ _)|(with_reducible refine Kd.C_drewN ?_ _)|(with_reducible refine Kd.C_drew ?_))); (case side2 => exact (Kd.R_reads' HO_18.out).2.1); (case side3 => repeat (first|exact (Kd.R_reads' HO_402000.out).2.2|(with_reducible refine Kd.C_alloc ?_ _)|(with_reducible refine Kd.C_drewN ?_ _)|(with_reducible refine Kd.C_drew ?_))); (case side4 => exact (Kd.R_reads' HO_402000.out).2.1); rintro e w69 ⟨rfl, hb⟩; have n0_ := Aside0.mk (Kd.R_below (by (with_reducible repeat (first|apply Kd.R_alloc|apply Kd.R_drewN|apply Kd.R_drew)); exact HO_18.out) hb); have n1_ := Aside0.mk (Kd.R_below (by (with_reducible repeat (first|apply Kd.R_alloc|apply Kd.R_drewN|apply Kd.R_drew)); exact HO_402000.out) hb); have n2_ := Aside0.mk (blk_below (g := gb401) (o := .cells #[.slice Ao31 t394.length co31, .bool t397, .string t398, .string t399] 28 (0, 0)) (by (with_reducible repeat (first|refine blk_drewN ?_ _|refine blk_drew ?_|refine blk_alloc ?_ _)); exact BK401.out) hb); have n3_ := Aside0.mk (below_step (by repeat (first|(with_reducible first|exact HB.out|apply below_alloc|apply pw_below_drewN|apply below_drew1|refine below_set ?_ GE401.out)|exact HB.out)) hb); clear HO_18; clear HO_402000; clear BK401; clear HB; have HO_18 := n0_; have HO_402000 := n1_; have BK401 := n2_; have HB := n3_; clear n0_ n1_ n2_ n3_; (try clear hb); (try clear hb2); (try clear hk); (try clear hi)))
              go_ret
              exact ⟨by first|rfl|(simp [errW_none, errW_some] <;> rfl)|(simp [*, errW_none, errW_some] <;> rfl), by repeat (first|(with_reducible first|exact HB.out|apply below_alloc|apply pw_below_drewN|apply below_drew1|refine below_set ?_ GE401.out)|exact HB.out)⟩
            ·replace c65 := Bool.eq_false_iff.mpr c65
             subst c65
             have H1 : (some false) = some r := by rw [if_neg (show ¬ (false = true) by decide)] at H; exact H
             clear H
             have H := H1
             clear H1
             as_aux_lemma =>
              obtain rfl := Option.some.inj H
              go_wp2
              go_ret
              exact ⟨by first|rfl|(simp [errW_none, errW_some] <;> rfl)|(simp [*, errW_none, errW_some] <;> rfl), by repeat (first|(with_reducible first|exact HB.out|apply below_alloc|apply pw_below_drewN|apply below_drew1|refine below_set ?_ GE401.out)|exact HB.out)⟩
         ·rw [if_neg c27] at H
          have c27b0 : (t400 == 0) = false := beq_eq_false_iff_ne.mpr c27
          have c27b1 : (t400 != 0) = true := bne_iff_ne.mpr c27
          as_aux_lemma =>
           obtain rfl := Option.some.inj H
           go_wp2_with (first|((with_reducible refine gate_callee (f := 25) rfl ?_); refine goesL_ (some 81) rfl rfl Try.func25 (by kernel_rfl) rfl #[.int .i64 a3, .int .i64 20] rfl (by (try simp only [List.map_toArray, List.map_cons, List.map_nil]); first|done|rfl|(simp only [List.length_drop, List.length_take]; rfl)) ?_; (with_reducible refine (stowagekit_Pick.calls a3 20 t393 _ A25.out).mono ?_); rintro e w' ⟨rfl, ⟨nd, rfl⟩⟩; refine ⟨_, rfl, ?_⟩; (try (rw [drewN_self wr]; generalize hq_ : World.drewN wr _ = wr; have n0_ : Aside0 (Below w.heap.size w wr) := ⟨by rw [← hq_]; exact (by repeat (first|(with_reducible first|exact HB.out|apply below_alloc|apply pw_below_drewN|apply below_drew1)|exact HB.out))⟩; clear HB hq_; have HB := n0_; clear n0_)))|((with_reducible refine gate_callee (f := 12) rfl ?_); refine goesL_ (some 87) rfl rfl Try.func12 (by kernel_rfl) rfl #[.slice A0 l0.length c0, .string a1, .string a2, .string (⟨#[]⟩ : ByteArray), .int .i64 1000] rfl (by (try simp only [List.map_toArray, List.map_cons, List.map_nil]); first|done|rfl|(simp only [List.length_drop, List.length_take]; rfl)) ?_; (with_reducible refine (listing_Keys.calls _ _ l0 a1 a2 (⟨#[]⟩ : ByteArray) 1000 t394 t397 t398 t399 t400 _ ?side1 ?side2 ?side3 A26.out).mono ?_); (case side1 => first|exact HG.out|exact GM.below (by repeat (first|(with_reducible first|exact HB.out|apply below_alloc|apply pw_below_drewN|apply below_drew1)|exact HB.out)) HG.out|(repeat (first|exact HG.out|apply GM.drewN|apply GM.drew))); (case side2 => repeat (first|exact (Kd.C_below HR0.out HB.out)|(with_reducible refine Kd.C_alloc ?_ _)|(with_reducible refine Kd.C_drewN ?_ _)|(with_reducible refine Kd.C_drew ?_))); (case side3 => exact HC0.out); rintro e w70 ⟨v395, rfl, ho0, hb⟩; refine ⟨_, rfl, ?_⟩; have n0_ := Aside0.mk (Kd.R_lower ho0 (below_size (by repeat (first|(with_reducible first|exact HB.out|apply below_alloc|apply pw_below_drewN|apply below_drew1)|exact HB.out)))); have n1_ := Aside0.mk (below_step (by repeat (first|(with_reducible first|exact HB.out|apply below_alloc|apply pw_below_drewN|apply below_drew1)|exact HB.out)) hb); clear HB; have HO396 := n0_; have HB := n1_; clear n0_ n1_; (try clear hb); (try clear hb2); (try clear hk); (try clear hi); (try clear ho0))|((with_reducible refine gate_dst (N := 16) rfl ?_); (try (refine gate_guard (by rfl) ?_; dsimp only)); refine box_event ?hg (N := 16) ?hd (cs := #[.slice none 0 0, .bool false, .string (⟨#[]⟩ : ByteArray), .string (⟨#[]⟩ : ByteArray)]) (t := 28) ?hr ?_; (case hd => rfl); (case hg => rfl); (case hr => first|(go_simp; done)|(go_simp; rfl)); intro gb401 hg w71 hbox hb; have n0_ := Aside0.mk (Kd.R_below (by (with_reducible repeat (first|apply Kd.R_alloc|apply Kd.R_drewN|apply Kd.R_drew)); exact HO396.out) hb); have n1_ := Aside0.mk (below_step (by repeat (first|(with_reducible first|exact HB.out|apply below_alloc|apply pw_below_drewN|apply below_drew1)|exact HB.out)) hb); have n2_ := Aside0.mk (hbox); have n3_ := Aside0.mk ((by rw [hg]; exact (below_size (by repeat (first|(with_reducible first|exact HB.out|apply below_alloc|apply pw_below_drewN|apply below_drew1)|exact HB.out))) : w.heap.size ≤ gb401)); have n4_ := Aside0.mk ((by rw [hg]; exact (below_size (by repeat (first|(with_reducible first|exact HB.out|apply below_alloc|apply pw_below_drewN|apply below_drew1)|exact HB.out))) : w.heap.size ≤ gb401)); clear HO396; clear HB; have HO396 := n0_; have HB := n1_; have BK401 := n2_; have GW401 := n3_; have GE401 := n4_; clear n0_ n1_ n2_ n3_ n4_; clear hb hbox hg; obtain ⟨Ao72, co72, eo72⟩ := Kd.R_slice HO396.out; subst eo72; have hcz73_0 : w71.cell? ⟨gb401, 0, none⟩ = some (.slice none 0 0) := (blk_cell BK401.out 0).trans rfl; have hcz73_1 : w71.cell? ⟨gb401, 1, none⟩ = some (.bool false) := (blk_cell BK401.out 1).trans rfl; have hcz73_2 : w71.cell? ⟨gb401, 2, none⟩ = some (.string (⟨#[]⟩ : ByteArray)) := (blk_cell BK401.out 2).trans rfl; have hcz73_3 : w71.cell? ⟨gb401, 3, none⟩ = some (.string (⟨#[]⟩ : ByteArray)) := (blk_cell BK401.out 3).trans rfl; have hfz73_0 := blk_frozen BK401.out 0; have hfz73_1 := blk_frozen BK401.out 1; have hfz73_2 := blk_frozen BK401.out 2; have hfz73_3 := blk_frozen BK401.out 3))
           go_ret
           exact ⟨by first|rfl|(simp [errW_none, errW_some] <;> rfl)|(simp [*, errW_none, errW_some] <;> rfl), by repeat (first|(with_reducible first|exact HB.out|apply below_alloc|apply pw_below_drewN|apply below_drew1|refine below_set ?_ GE401.out)|exact HB.out)⟩

end Go.Proofs.Ytdaokkajbooiaaa.Pr
end
