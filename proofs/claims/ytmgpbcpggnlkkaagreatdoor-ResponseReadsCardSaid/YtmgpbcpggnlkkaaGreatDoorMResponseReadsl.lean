/- Texts of this proof, put together: Pr0, PrStowageref27After, PrStowageref27Lines, PrResponseWords, Hw, PrStowageref27Number, PrStowageref27Words, PrStowageref27Dec, PrStowageref27Head, PrStowageref27May, PrStowageref27Wrong, PrStowagekitSameBytes, PrEqA51, PrStowagekitSamePairs, PrStowagekitSameResponse, PrStowageref27Read. -/
import Derived.Test.YtmgpbcpggnlkkaaGreatDoorProg
import Derived.Below
import Derived.Deep.Draws
import Derived.Deep.AppendLies
import Derived.Maps.AppendAt
import Derived.OwnWalk
import Derived.Laws.BytesArg
import Derived.Laws.MakeOwn
import Derived.Laws.OwnMore
import Derived.Deep.OwnRows
import Derived.Tactics
import Derived.Lib.ConvBytes
import Derived.Laws.Slices
import Derived.WalkKit
import Derived.KernelRfl
import Derived.RowKit3
import Derived.Deep.LoopGhost
import Derived.Deep.QuietTactic
import Derived.BigQuiet
import Derived.WideLaws
import Derived.Deep.DeepCutAuto
import Derived.Deep.CutBlock
import Derived.Deep.RegionHeld3
import Derived.Laws.Rows
import Derived.Lib.AppendStr
import Derived.ArgAppend
import Derived.Laws.IdiomCopy
import Derived.OrdersHeld
import Derived.Laws.BitsLemmas
import Derived.RowKit
import Derived.Test.YtmgpbcpggnlkkaaGreatDoorMResponseReadsk
import Derived.Test.YtmgpbcpggnlkkaaGreatDoorWWords
import Derived.Test.YtmgpbcpggnlkkaaGreatDoorWLast
import Derived.Test.YtmgpbcpggnlkkaaGreatDoorWTab
import Derived.Test.YtmgpbcpggnlkkaaGreatDoorWQPut
import Derived.Test.YtmgpbcpggnlkkaaGreatDoorWApart
import Derived.Test.YtmgpbcpggnlkkaaGreatDoorWArr
import Derived.Test.YtmgpbcpggnlkkaaGreatDoorWZeros
import Derived.Test.YtmgpbcpggnlkkaaGreatDoorWFoot
import Derived.Test.YtmgpbcpggnlkkaaGreatDoorWKept
import Derived.Test.YtmgpbcpggnlkkaaGreatDoorWShare
import Derived.Test.YtmgpbcpggnlkkaaGreatDoorWN
import Derived.Test.YtmgpbcpggnlkkaaGreatDoorWEqStruct
import Derived.Test.YtmgpbcpggnlkkaaGreatDoorWRepsOne
import Derived.Test.YtmgpbcpggnlkkaaGreatDoorWGuard
import Derived.Test.YtmgpbcpggnlkkaaGreatDoorWNEv
import Derived.Test.YtmgpbcpggnlkkaaGreatDoorWMore
section
namespace Go.Proofs.YtmgpbcpggnlkkaaGreatDoor.Pr
open Go.RowKit Go.Proofs.YtmgpbcpggnlkkaaGreatDoorW.PrintWords Go.Proofs.YtmgpbcpggnlkkaaGreatDoorW.PrintLast Go.Proofs.YtmgpbcpggnlkkaaGreatDoorW.PrintMore
attribute [local go_sem] max2_int min2_int max_two min_two max_three min_three max_four min_four -- for this text's walks alone
set_option linter.unusedVariables false
set_option linter.unusedSimpArgs false



def errW : Option Int → Value
 | none => .nilIface
 | some c => .iface 78 (.int .i64 c)
theorem errW_none : errW none = .nilIface := rfl
theorem errW_some (c : Int) : errW (some c) = .iface 78 (.int .i64 c) := rfl

theorem info5 : (Tryz.prog.info? 5).map (fun i => (i.zero, i.size, i.bytes)) = some (some (.int .u8 0), 1, 1) := by kernel_rfl
theorem info9 : (Tryz.prog.info? 9).map (fun i => (i.zero, i.size, i.bytes)) = some (some (.string ⟨#[]⟩), 1, 16) := by kernel_rfl
theorem info51 : (Tryz.prog.info? 51).map (fun i => (i.zero, i.size, i.bytes)) = some (some (.agg #[(.string ⟨#[]⟩), (.string ⟨#[]⟩)]), 2, 32) := by kernel_rfl
-- the values' own types
/-! #### struct type 51 -/
structure S51 where
 f0 : ByteArray
 f1 : ByteArray
def z51 : S51 := ⟨(⟨#[]⟩ : ByteArray), (⟨#[]⟩ : ByteArray)⟩
def k51 : Kd S51 := Kd.iso (Kd.pair Kd.string Kd.string) (fun x : S51 => (x.f0, x.f1))
theorem k51_open {w : World} {x : S51} {cs : List Value} (h : k51.K w x cs) : cs = [.string x.f0, .string x.f1] := by
 obtain ⟨_, _, rfl, rfl, rfl⟩ := h
 exact rfl
theorem k51_mkM (w : World) (base : Nat) (ok : Nat → Prop) (x : S51)  : k51.M w base ok x [.string x.f0, .string x.f1] := ⟨[.string x.f0], [.string x.f1], rfl, rfl, rfl⟩
def rd_T51 (xs : List S51) (i : Int) : S51 := xs.getD i.toNat z51
theorem at_T51 {w : World} {A : Option Addr} {n : Nat} {xs : List S51} (h : Kd.C k51 w A n xs) (i : Int) (h0 : 0 ≤ i) (h1 : i < n) : ∃ ad , A = some ad ∧ w.cell? (ad.add (i.toNat * 2)) = some (.string (rd_T51 xs i).f0) ∧ w.cell? ⟨(ad.add (i.toNat * 2)).block, (ad.add (i.toNat * 2)).off + 1, none⟩ = some (.string (rd_T51 xs i).f1) := by
 obtain ⟨ad, c, e, _, hK, hc0⟩ := Kd.C_get h z51 i h0 h1
 have hc : ∀ j u, c[j]? = some u → w.cell? (ad.add (i.toNat * 2 + j)) = some u := hc0
 obtain rfl := k51_open hK
 exact ⟨ad, e, hc 0 _ rfl, by rw [← add_field _ _ 1 (by omega)]; exact hc 1 _ rfl⟩

/-! #### struct type 26 -/
end Go.Proofs.YtmgpbcpggnlkkaaGreatDoor.Pr
end
section
namespace Go.Proofs.YtmgpbcpggnlkkaaGreatDoor.Pr
open Go.RowKit Go.Proofs.YtmgpbcpggnlkkaaGreatDoorW.PrintWords Go.Proofs.YtmgpbcpggnlkkaaGreatDoorW.PrintLast Go.Proofs.YtmgpbcpggnlkkaaGreatDoorW.PrintMore
attribute [local go_sem] max2_int min2_int max_two min_two max_three min_three max_four min_four -- for this text's walks alone
set_option linter.unusedVariables false
set_option linter.unusedSimpArgs false

/-! ### stowageref27_after: function 21 -/
def stowageref27_after.l0 : Nat → ByteArray → ByteArray → Int → Option (ByteArray × ByteArray × Bool)
 | 0, _, _, _ => none
 | k + 1, x0, x1, x7 => if (wrap64 (x7 + (x1.size : Int))) ≤ (x0.size : Int) then (if 0 ≤ x7 then (if x7 ≤ (wrap64 (x7 + (x1.size : Int))) then (if (x0.extract (x7 : Int).toNat ((wrap64 (x7 + (x1.size : Int))) : Int).toNat).toList = x1.toList then (if x7 ≤ (x0.size : Int) then (if 0 ≤ (wrap64 (x7 + (x1.size : Int))) then (some (x0.extract 0 (x7 : Int).toNat, x0.extract ((wrap64 (x7 + (x1.size : Int))) : Int).toNat x0.size, true)) else (none)) else (none)) else (stowageref27_after.l0 k x0 x1 (wrap64 (x7 + 1)))) else (none)) else (none)) else (some ((⟨#[]⟩ : ByteArray), (⟨#[]⟩ : ByteArray), false))
def stowageref27_after.f (k : Nat) (a0 : ByteArray) (a1 : ByteArray) : Option (ByteArray × ByteArray × Bool) := stowageref27_after.l0 k a0 a1 0
theorem stowageref27_after.mono_l : ∀ k, (∀ y0 y1 y2, LeO (stowageref27_after.l0 k y0 y1 y2) (stowageref27_after.l0 (k + 1) y0 y1 y2))
 | 0 => fun _ _ _ r h => by simp [stowageref27_after.l0] at h
 | k + 1 => by
  have ih0 := stowageref27_after.mono_l k
  ·intro y0 y1 y2
   unfold stowageref27_after.l0
   repeat' first
   | (with_reducible exact ih0 _ _ _)
   | (with_reducible exact LeO.refl _)
   | (with_reducible exact LeO.none _)
   | (with_reducible refine LeO.ite ?_ ?_)
   | (with_reducible refine LeO.bind ?_ (fun _ => ?_))
   | exact ih0 _ _ _
   | exact LeO.none _
   | refine LeO.ite ?_ ?_
   | refine LeO.bind ?_ (fun _ => ?_)
theorem stowageref27_after.mono : ∀ a0 a1 k, LeO (stowageref27_after.f k a0 a1) (stowageref27_after.f (k + 1) a0 a1) := by
 intro a0 a1 k
 have ih0 := stowageref27_after.mono_l k
 unfold stowageref27_after.f
 repeat' first
   | (with_reducible exact ih0 _ _ _)
   | (with_reducible exact LeO.refl _)
   | (with_reducible exact LeO.none _)
   | (with_reducible refine LeO.ite ?_ ?_)
   | (with_reducible refine LeO.bind ?_ (fun _ => ?_))
   | exact ih0 _ _ _
   | exact LeO.none _
   | refine LeO.ite ?_ ?_
   | refine LeO.bind ?_ (fun _ => ?_)
set_option maxHeartbeats 8000000 in
set_option maxRecDepth 100000 in
theorem stowageref27_after.calls (k : Nat) (a0 : ByteArray) (a1 : ByteArray) (r1 : ByteArray) (r2 : ByteArray) (r3 : Bool) (w : World) (h : stowageref27_after.f k a0 a1 = some (r1, r2, r3)) :
  Calls Tryz.prog 21 #[.string a0, .string a1] w fun e w' => e = .returned (.tuple #[.string r1, .string r2, .bool r3]) ∧ Drawn0 w w' := by
 have H : (stowageref27_after.l0 k a0 a1 0) = some (r1, r2, r3) := h
 clear h
 have H' := Aside0.mk H
 clear H
 go_enter Tryz.func21, Tryz.ntmps21
 go_wp2
 repeat (go_quiet (fail); try go_wp2)
 go_loopg [7] k (fun kq v7 w' => ∃ (x7_1 : Int), v7 = .int .i64 x7_1 ∧ Aside0 (stowageref27_after.l0 kq a0 a1 x7_1 = some (r1, r2, r3)) ∧ Aside0 (kq ≤ k) ∧ Drawn0 w w')
 case atStart => exact ⟨(0), (by first|rfl|(simp; done)|(simp [*]; done)), H', ⟨Nat.le_refl _⟩, by repeat (first|exact Drawn0.refl _|apply Drawn0.step)⟩
 case round =>
  clear H'
  try clear c2
  try clear p2
  obtain ⟨x7_1, rfl, HA, HK1, ⟨m1, rfl⟩⟩ := hrel
  cases gk with
  | zero => exact absurd HA.out (by simp [stowageref27_after.l0])
  | succ k1 =>
   have H := HA.out
   clear HA
   simp only [stowageref27_after.l0] at H
   by_cases c3 : (wrap64 (x7_1 + (a1.size : Int))) ≤ (a0.size : Int)
   ·rw [if_pos c3] at H
    have c3b0 : decide ((wrap64 (x7_1 + (a1.size : Int))) ≤ (a0.size : Int)) = true := decide_eq_true c3
    clear c3
    by_cases c4 : 0 ≤ x7_1
    ·rw [if_pos c4] at H
     have c4b0 := eq_true c4
     have c4b1 : decide (0 ≤ x7_1) = true := decide_eq_true c4
     clear c4
     by_cases c5 : x7_1 ≤ (wrap64 (x7_1 + (a1.size : Int)))
     ·rw [if_pos c5] at H
      have c5b0 := eq_true c5
      have c5b1 : decide (x7_1 ≤ (wrap64 (x7_1 + (a1.size : Int)))) = true := decide_eq_true c5
      have c6b0 := eq_true (of_decide_eq_true (by first|(with_reducible assumption)|assumption) : (wrap64 (x7_1 + (a1.size : Int))) ≤ (a0.size : Int))
      by_cases c7 : (a0.extract (x7_1 : Int).toNat ((wrap64 (x7_1 + (a1.size : Int))) : Int).toNat).toList = a1.toList
      ·rw [if_pos c7] at H
       have c7b0 : ((a0.extract (x7_1 : Int).toNat ((wrap64 (x7_1 + (a1.size : Int))) : Int).toNat).toList == a1.toList) = true := beq_iff_eq.mpr c7
       have c7b1 : ((a0.extract (x7_1 : Int).toNat ((wrap64 (x7_1 + (a1.size : Int))) : Int).toNat).toList != a1.toList) = false := bne_eq_false_iff_eq.mpr c7
       clear c7
       have c8b0 := eq_true (of_decide_eq_true (by first|(with_reducible assumption)|assumption) : 0 ≤ x7_1)
       by_cases c9 : x7_1 ≤ (a0.size : Int)
       ·rw [if_pos c9] at H
        have c9b0 := eq_true c9
        have c9b1 : decide (x7_1 ≤ (a0.size : Int)) = true := decide_eq_true c9
        clear c9
        obtain ⟨ji10, hji10⟩ : ∃ j_ : Int, (wrap64 (x7_1 + (a1.size : Int))) = j_ := ⟨_, rfl⟩
        replace H : (if 0 ≤ (ji10) then (some (a0.extract 0 (x7_1 : Int).toNat, a0.extract ((ji10) : Int).toNat a0.size, true)) else (none)) = some (r1, r2, r3) := by first|(rw [hji10] at H; exact H)|(simp only [hji10] at H ⊢; exact H)
        (try rw [hji10] at c3b0)
        (try rw [hji10] at c5b0)
        (try rw [hji10] at c5b1)
        (try rw [hji10] at c5)
        (try rw [hji10] at c7b0)
        (try rw [hji10] at c7b1)
        have hji10w : (IntKind.i64.wrap (x7_1 + (a1.size : Int))) = ji10 := (i64_w _).trans hji10
        by_cases c11 : 0 ≤ (ji10)
        ·rw [if_pos c11] at H
         have c11b0 := eq_true c11
         have c11b1 : decide (0 ≤ (ji10)) = true := decide_eq_true c11
         clear c11
         have c12b0 := eq_true (of_decide_eq_true (by first|(with_reducible assumption)|assumption) : (ji10) ≤ (a0.size : Int))
         simp only [Option.some.injEq, Prod.mk.injEq] at H
         obtain ⟨rfl, rfl, rfl⟩ := H
         go_wp2
         repeat (go_quiet (fail); try go_wp2)
         go_ret3
         exact ⟨by first|rfl|(simp; done)|(simp only [← hji10] <;> (first|rfl|simp))|(simp [*]; done), by repeat (first|exact Drawn0.refl _|apply Drawn0.step)⟩
        ·rw [if_neg c11] at H
         exact absurd H (by simp)
       ·rw [if_neg c9] at H
        exact absurd H (by simp)
      ·rw [if_neg c7] at H
       have c7b0 : ((a0.extract (x7_1 : Int).toNat ((wrap64 (x7_1 + (a1.size : Int))) : Int).toNat).toList == a1.toList) = false := beq_eq_false_iff_ne.mpr c7
       have c7b1 : ((a0.extract (x7_1 : Int).toNat ((wrap64 (x7_1 + (a1.size : Int))) : Int).toNat).toList != a1.toList) = true := bne_iff_ne.mpr c7
       have H' := Aside0.mk H
       clear H
       go_wp2
       repeat (go_quiet (fail); try go_wp2)
       go_roundg k1
       case measure => have := HK1.out; omega
       case rel => exact ⟨(wrap64 (x7_1 + 1)), (by first|rfl|(simp; done)|(simp [*]; done)), H', ⟨by have := HK1.out; omega⟩, by repeat (first|exact Drawn0.refl _|apply Drawn0.step)⟩
     ·rw [if_neg c5] at H
      exact absurd H (by simp)
    ·rw [if_neg c4] at H
     exact absurd H (by simp)
   ·rw [if_neg c3] at H
    have c3b0 : decide ((wrap64 (x7_1 + (a1.size : Int))) ≤ (a0.size : Int)) = false := decide_eq_false c3
    clear c3
    simp only [Option.some.injEq, Prod.mk.injEq] at H
    obtain ⟨rfl, rfl, rfl⟩ := H
    go_wp2
    repeat (go_quiet (fail); try go_wp2)
    go_ret3
    exact ⟨by first|rfl|(simp; done)|(simp [*]; done), by repeat (first|exact Drawn0.refl _|apply Drawn0.step)⟩

end Go.Proofs.YtmgpbcpggnlkkaaGreatDoor.Pr
end
section
namespace Go.Proofs.YtmgpbcpggnlkkaaGreatDoor.Pr
open Go.RowKit Go.Proofs.YtmgpbcpggnlkkaaGreatDoorW.PrintWords Go.Proofs.YtmgpbcpggnlkkaaGreatDoorW.PrintLast Go.Proofs.YtmgpbcpggnlkkaaGreatDoorW.PrintMore
attribute [local go_sem] max2_int min2_int max_two min_two max_three min_three max_four min_four -- for this text's walks alone
set_option linter.unusedVariables false
set_option linter.unusedSimpArgs false

/-! ### stowageref27_lines: function 22 -/
def stowageref27_lines.l0 : Nat → ByteArray → List ByteArray → Int → Int → Option (List ByteArray)
 | 0, _, _, _, _ => none
 | k + 1, x0, x3, x4, x5 => if x5 < (x0.size : Int) then (if 0 ≤ (wrap64 (x5 - 1)) then (if (wrap64 (x5 - 1)) < (x0.size : Int) then (if (bt x0 (wrap64 (x5 - 1))) = 13 then (if 0 ≤ x5 then (if (bt x0 x5) = 10 then (if 0 ≤ x4 then (if x4 ≤ (wrap64 (x5 - 1)) then (if (wrap64 (x5 - 1)) ≤ (x0.size : Int) then (if x3.length < 8796093022208 then (stowageref27_lines.l0 k x0 (x3 ++ [x0.extract (x4 : Int).toNat ((wrap64 (x5 - 1)) : Int).toNat]) (wrap64 (x5 + 1)) (wrap64 (x5 + 1))) else (none)) else (none)) else (none)) else (none)) else (stowageref27_lines.l0 k x0 x3 x4 (wrap64 (x5 + 1)))) else (none)) else (stowageref27_lines.l0 k x0 x3 x4 (wrap64 (x5 + 1)))) else (none)) else (none)) else (some x3)
def stowageref27_lines.f (k : Nat) (a0 : ByteArray) : Option (List ByteArray) := stowageref27_lines.l0 k a0 ([] : List ByteArray) 0 1
theorem stowageref27_lines.mono_l : ∀ k, (∀ y0 y1 y2 y3, LeO (stowageref27_lines.l0 k y0 y1 y2 y3) (stowageref27_lines.l0 (k + 1) y0 y1 y2 y3))
 | 0 => fun _ _ _ _ r h => by simp [stowageref27_lines.l0] at h
 | k + 1 => by
  have ih0 := stowageref27_lines.mono_l k
  ·intro y0 y1 y2 y3
   unfold stowageref27_lines.l0
   repeat' first
   | (with_reducible exact ih0 _ _ _ _)
   | (with_reducible exact LeO.refl _)
   | (with_reducible exact LeO.none _)
   | (with_reducible refine LeO.ite ?_ ?_)
   | (with_reducible refine LeO.bind ?_ (fun _ => ?_))
   | exact ih0 _ _ _ _
   | exact LeO.none _
   | refine LeO.ite ?_ ?_
   | refine LeO.bind ?_ (fun _ => ?_)
theorem stowageref27_lines.mono : ∀ a0 k, LeO (stowageref27_lines.f k a0) (stowageref27_lines.f (k + 1) a0) := by
 intro a0 k
 have ih0 := stowageref27_lines.mono_l k
 unfold stowageref27_lines.f
 repeat' first
   | (with_reducible exact ih0 _ _ _ _)
   | (with_reducible exact LeO.refl _)
   | (with_reducible exact LeO.none _)
   | (with_reducible refine LeO.ite ?_ ?_)
   | (with_reducible refine LeO.bind ?_ (fun _ => ?_))
   | exact ih0 _ _ _ _
   | exact LeO.none _
   | refine LeO.ite ?_ ?_
   | refine LeO.bind ?_ (fun _ => ?_)
set_option maxHeartbeats 8000000 in
set_option maxRecDepth 100000 in
theorem stowageref27_lines.calls (k : Nat) (a0 : ByteArray) (r : List ByteArray) (w : World) (h : stowageref27_lines.f k a0 = some r) :
  Calls Tryz.prog 22 #[.string a0] w fun e w' => ∃ v0_ : Value, e = .returned (v0_) ∧ Kd.R Kd.string 9 w' w.heap.size (fun _ => True) v0_ r ∧ Below w.heap.size w w' := by
 have HB := Aside0.mk (Below.refl w.heap.size w)
 have H : (stowageref27_lines.l0 k a0 ([] : List ByteArray) 0 1) = some r := h
 clear h
 have H' := Aside0.mk H
 clear H
 go_enter Tryz.func22, Tryz.ntmps22
 go_wp2
 go_loopg [3, 4, 5] k (fun kq v3 v4 v5 w' => ∃ (x3_1 : List ByteArray) (x4_1 : Int) (x5_1 : Int), v4 = .int .i64 x4_1 ∧ v5 = .int .i64 x5_1 ∧ Aside0 (stowageref27_lines.l0 kq a0 x3_1 x4_1 x5_1 = some r) ∧ Aside0 (kq ≤ k) ∧ Aside0 (Kd.R Kd.string 9 w' w.heap.size (fun _ => True) v3 x3_1) ∧ Aside0 (Below w.heap.size w w'))
 case atStart => exact ⟨(([] : List ByteArray)), (0), (1), (by first|rfl|(simp; done)|(simp [*]; done)), (by first|rfl|(simp; done)|(simp [*]; done)), H', ⟨Nat.le_refl _⟩, ⟨by first|exact Kd.R_nil _ _ _ _ _|exact Kd.N_nil _ _ _ _ _|exact Kd.V_nil _ _ _ _ _|exact Kd.Q_nil _ _ _ _ _|exact Kd.S_nil _ _ _ _ _⟩, ⟨by repeat (first|(with_reducible first|exact HB.out|apply below_alloc|apply pw_below_drewN|apply below_drew1)|exact HB.out)⟩⟩
 case round =>
  clear H'
  obtain ⟨x3_1, x4_1, x5_1, rfl, rfl, HA, HK1, HO_3, HB⟩ := hrel
  cases gk with
  | zero => exact absurd HA.out (by simp [stowageref27_lines.l0])
  | succ k1 =>
   have H := HA.out
   clear HA
   simp only [stowageref27_lines.l0] at H
   by_cases c2 : x5_1 < (a0.size : Int)
   ·rw [if_pos c2] at H
    have c2b0 : decide (x5_1 < (a0.size : Int)) = true := decide_eq_true c2
    clear c2
    obtain ⟨ji3, hji3⟩ : ∃ j_ : Int, (wrap64 (x5_1 - 1)) = j_ := ⟨_, rfl⟩
    replace H : (if 0 ≤ (ji3) then (if (ji3) < (a0.size : Int) then (if (bt a0 (ji3)) = 13 then (if 0 ≤ x5_1 then (if (bt a0 x5_1) = 10 then (if 0 ≤ x4_1 then (if x4_1 ≤ (ji3) then (if (ji3) ≤ (a0.size : Int) then (if x3_1.length < 8796093022208 then (stowageref27_lines.l0 k1 a0 (x3_1 ++ [a0.extract (x4_1 : Int).toNat ((ji3) : Int).toNat]) (wrap64 (x5_1 + 1)) (wrap64 (x5_1 + 1))) else (none)) else (none)) else (none)) else (none)) else (stowageref27_lines.l0 k1 a0 x3_1 x4_1 (wrap64 (x5_1 + 1)))) else (none)) else (stowageref27_lines.l0 k1 a0 x3_1 x4_1 (wrap64 (x5_1 + 1)))) else (none)) else (none)) = some r := by first|(rw [hji3] at H; exact H)|(simp only [hji3] at H ⊢; exact H)
    have hji3w : (IntKind.i64.wrap (x5_1 - 1)) = ji3 := (i64_w _).trans hji3
    by_cases c4 : 0 ≤ (ji3)
    ·rw [if_pos c4] at H
     have c4b0 : decide (0 ≤ (ji3)) = true := decide_eq_true c4
     clear c4
     by_cases c5 : (ji3) < (a0.size : Int)
     ·rw [if_pos c5] at H
      have c5b0 : decide ((ji3) < (a0.size : Int)) = true := decide_eq_true c5
      clear c5
      by_cases c7 : (bt a0 (ji3)) = 13
      ·rw [if_pos c7] at H
       have c7b0 : ((bt a0 (ji3)) == 13) = true := beq_iff_eq.mpr c7
       have c7b1 : ((bt a0 (ji3)) != 13) = false := bne_eq_false_iff_eq.mpr c7
       clear c7
       by_cases c8 : 0 ≤ x5_1
       ·rw [if_pos c8] at H
        have c8b0 : decide (0 ≤ x5_1) = true := decide_eq_true c8
        clear c8
        by_cases c10 : (bt a0 x5_1) = 10
        ·rw [if_pos c10] at H
         have c10b0 : ((bt a0 x5_1) == 10) = true := beq_iff_eq.mpr c10
         have c10b1 : ((bt a0 x5_1) != 10) = false := bne_eq_false_iff_eq.mpr c10
         clear c10
         by_cases c11 : 0 ≤ x4_1
         ·rw [if_pos c11] at H
          have c11b0 := eq_true c11
          have c11b1 : decide (0 ≤ x4_1) = true := decide_eq_true c11
          clear c11
          by_cases c12 : x4_1 ≤ (ji3)
          ·rw [if_pos c12] at H
           have c12b0 := eq_true c12
           have c12b1 : decide (x4_1 ≤ (ji3)) = true := decide_eq_true c12
           clear c12
           by_cases c13 : (ji3) ≤ (a0.size : Int)
           ·rw [if_pos c13] at H
            have c13b0 := eq_true c13
            have c13b1 : decide ((ji3) ≤ (a0.size : Int)) = true := decide_eq_true c13
            clear c13
            by_cases c14 : x3_1.length < 8796093022208
            ·rw [if_pos c14] at H
             have LMc14 := Aside0.mk c14
             clear c14
             obtain ⟨y167, hy167⟩ : ∃ y_ : List ByteArray, y_ = (x3_1 ++ [a0.extract (x4_1 : Int).toNat ((ji3) : Int).toNat]) := ⟨_, rfl⟩
             replace H : (stowageref27_lines.l0 k1 a0 y167 (wrap64 (x5_1 + 1)) (wrap64 (x5_1 + 1))) = some r := by first|(rw [hy167]; with_reducible exact H)|(have H2_ := (Option.bind_some _ _).symm.trans H; rw [hy167]; with_reducible exact H2_)|(have H2_ := (Option.bind_some _ _).symm.trans H; with_reducible exact H2_)|with_reducible exact H|(rw [hy167]; exact H)|exact H
             have Ny167 := Aside0.mk hy167
             clear hy167
             have H' := Aside0.mk H
             clear H
             have p6 : 0 ≤ ((ji3) : Int) := of_decide_eq_true (by first|(with_reducible assumption)|assumption)
             have q6 : (ji3) < (a0.size : Int) := of_decide_eq_true (by first|(with_reducible assumption)|assumption)
             have hx6 := bt_at a0 (ji3)
             replace p6 := eq_true p6
             replace q6 := eq_true q6
             have p9 : 0 ≤ (x5_1 : Int) := of_decide_eq_true (by first|(with_reducible assumption)|assumption)
             have q9 : x5_1 < (a0.size : Int) := of_decide_eq_true (by first|(with_reducible assumption)|assumption)
             have hx9 := bt_at a0 x5_1
             replace p9 := eq_true p9
             replace q9 := eq_true q9
             go_wp2_with (first|((with_reducible refine gate_builtin (b := .append) (xs := #[.tmp 23, .tmp 29]) rfl ?_); at_builtin; refine Kd.R_append Kd.string (w0 := w) w.heap.size rfl (.tmp 23) (.tmp 29) 47 9 (.string ⟨#[]⟩) 16 rfl Tryz.underlying47 info9 rfl (by decide) (by omega) u3 x3_1 (a0.extract (x4_1 : Int).toNat ((ji3) : Int).toNat) [.string (a0.extract (x4_1 : Int).toNat ((ji3) : Int).toNat)] (fun _ => True) (fun _ => False) rfl rfl ?aP (fun _ hk => hk.elim) ?aF ?aO ?aB ?aS ?aL ?_; (case aP => exact rfl); (case aB => exact (by repeat (first|(with_reducible first|exact HB.out|apply below_alloc|apply pw_below_drewN|apply below_drew1)|exact HB.out))); (case aF => exact (fun _ _ => trivial)); (case aO => exact (by (with_reducible repeat (first|apply Kd.R_alloc|apply Kd.R_drewN|apply Kd.R_drew)); exact HO_3.out)); (case aS => exact (below_size (by repeat (first|(with_reducible first|exact HB.out|apply below_alloc|apply pw_below_drewN|apply below_drew1)|exact HB.out)))); (case aL => have := LMc14.out; omega); intro v168 w15 ho hb hg hat; rw [← Ny167.out] at ho; have n0_ := Aside0.mk (hb); have n1_ := Aside0.mk (ho); clear HB; clear HO_3; have HB := n0_; have HO169 := n1_; clear n0_ n1_; clear ho hb hg hat))
             go_roundg k1
             case measure => have := HK1.out; omega
             case rel => exact ⟨(y167), (wrap64 (x5_1 + 1)), (wrap64 (x5_1 + 1)), (by first|rfl|(simp; done)|(simp [*]; done)), (by first|rfl|(simp; done)|(simp [*]; done)), H', ⟨by have := HK1.out; omega⟩, ⟨by (with_reducible repeat (first|apply Kd.R_alloc|apply Kd.R_drewN|apply Kd.R_drew)); exact HO169.out⟩, ⟨by repeat (first|(with_reducible first|exact HB.out|apply below_alloc|apply pw_below_drewN|apply below_drew1)|exact HB.out)⟩⟩
            ·rw [if_neg c14] at H
             exact absurd H (by simp)
           ·rw [if_neg c13] at H
            exact absurd H (by simp)
          ·rw [if_neg c12] at H
           exact absurd H (by simp)
         ·rw [if_neg c11] at H
          exact absurd H (by simp)
        ·rw [if_neg c10] at H
         have c10b0 : ((bt a0 x5_1) == 10) = false := beq_eq_false_iff_ne.mpr c10
         have c10b1 : ((bt a0 x5_1) != 10) = true := bne_iff_ne.mpr c10
         have H' := Aside0.mk H
         clear H
         have p6 : 0 ≤ ((ji3) : Int) := of_decide_eq_true (by first|(with_reducible assumption)|assumption)
         have q6 : (ji3) < (a0.size : Int) := of_decide_eq_true (by first|(with_reducible assumption)|assumption)
         have hx6 := bt_at a0 (ji3)
         replace p6 := eq_true p6
         replace q6 := eq_true q6
         have p9 : 0 ≤ (x5_1 : Int) := of_decide_eq_true (by first|(with_reducible assumption)|assumption)
         have q9 : x5_1 < (a0.size : Int) := of_decide_eq_true (by first|(with_reducible assumption)|assumption)
         have hx9 := bt_at a0 x5_1
         replace p9 := eq_true p9
         replace q9 := eq_true q9
         go_wp2
         go_roundg k1
         case measure => have := HK1.out; omega
         case rel => exact ⟨(x3_1), (x4_1), (wrap64 (x5_1 + 1)), (by first|rfl|(simp; done)|(simp [*]; done)), (by first|rfl|(simp; done)|(simp [*]; done)), H', ⟨by have := HK1.out; omega⟩, ⟨by (with_reducible repeat (first|apply Kd.R_alloc|apply Kd.R_drewN|apply Kd.R_drew)); exact HO_3.out⟩, ⟨by repeat (first|(with_reducible first|exact HB.out|apply below_alloc|apply pw_below_drewN|apply below_drew1)|exact HB.out)⟩⟩
       ·rw [if_neg c8] at H
        exact absurd H (by simp)
      ·rw [if_neg c7] at H
       have c7b0 : ((bt a0 (ji3)) == 13) = false := beq_eq_false_iff_ne.mpr c7
       have c7b1 : ((bt a0 (ji3)) != 13) = true := bne_iff_ne.mpr c7
       have H' := Aside0.mk H
       clear H
       have p6 : 0 ≤ ((ji3) : Int) := of_decide_eq_true (by first|(with_reducible assumption)|assumption)
       have q6 : (ji3) < (a0.size : Int) := of_decide_eq_true (by first|(with_reducible assumption)|assumption)
       have hx6 := bt_at a0 (ji3)
       replace p6 := eq_true p6
       replace q6 := eq_true q6
       go_wp2
       go_roundg k1
       case measure => have := HK1.out; omega
       case rel => exact ⟨(x3_1), (x4_1), (wrap64 (x5_1 + 1)), (by first|rfl|(simp; done)|(simp [*]; done)), (by first|rfl|(simp; done)|(simp [*]; done)), H', ⟨by have := HK1.out; omega⟩, ⟨by (with_reducible repeat (first|apply Kd.R_alloc|apply Kd.R_drewN|apply Kd.R_drew)); exact HO_3.out⟩, ⟨by repeat (first|(with_reducible first|exact HB.out|apply below_alloc|apply pw_below_drewN|apply below_drew1)|exact HB.out)⟩⟩
     ·rw [if_neg c5] at H
      exact absurd H (by simp)
    ·rw [if_neg c4] at H
     exact absurd H (by simp)
   ·rw [if_neg c2] at H
    have c2b0 : decide (x5_1 < (a0.size : Int)) = false := decide_eq_false c2
    clear c2
    obtain rfl := Option.some.inj H
    go_wp2
    go_ret
    exact ⟨_, by first|rfl|(simp [errW_none, errW_some] <;> rfl)|(simp [*, errW_none, errW_some] <;> rfl), by (with_reducible repeat (first|apply Kd.R_alloc|apply Kd.R_drewN|apply Kd.R_drew)); exact HO_3.out, by repeat (first|(with_reducible first|exact HB.out|apply below_alloc|apply pw_below_drewN|apply below_drew1)|exact HB.out)⟩

end Go.Proofs.YtmgpbcpggnlkkaaGreatDoor.Pr
end
section
namespace Go.Proofs.YtmgpbcpggnlkkaaGreatDoor.Pr
open Go.RowKit Go.Proofs.YtmgpbcpggnlkkaaGreatDoorW.PrintWords Go.Proofs.YtmgpbcpggnlkkaaGreatDoorW.PrintLast Go.Proofs.YtmgpbcpggnlkkaaGreatDoorW.PrintMore
attribute [local go_sem] max2_int min2_int max_two min_two max_three min_three max_four min_four -- for this text's walks alone
set_option linter.unusedVariables false
set_option linter.unusedSimpArgs false

/-! ### response_words: function 31 -/
def response_words.f (a0 : Int) : Option (ByteArray) := if a0 = 200 then (some (⟨#[79, 75]⟩ : ByteArray)) else (if a0 = 204 then (some (⟨#[78, 111, 32, 67, 111, 110, 116, 101, 110, 116]⟩ : ByteArray)) else (if a0 = 206 then (some (⟨#[80, 97, 114, 116, 105, 97, 108, 32, 67, 111, 110, 116, 101, 110, 116]⟩ : ByteArray)) else (if a0 = 400 then (some (⟨#[66, 97, 100, 32, 82, 101, 113, 117, 101, 115, 116]⟩ : ByteArray)) else (if a0 = 404 then (some (⟨#[78, 111, 116, 32, 70, 111, 117, 110, 100]⟩ : ByteArray)) else (if a0 = 405 then (some (⟨#[77, 101, 116, 104, 111, 100, 32, 78, 111, 116, 32, 65, 108, 108, 111, 119, 101, 100]⟩ : ByteArray)) else (if a0 = 409 then (some (⟨#[67, 111, 110, 102, 108, 105, 99, 116]⟩ : ByteArray)) else (if a0 = 413 then (some (⟨#[67, 111, 110, 116, 101, 110, 116, 32, 84, 111, 111, 32, 76, 97, 114, 103, 101]⟩ : ByteArray)) else (if a0 = 416 then (some (⟨#[82, 97, 110, 103, 101, 32, 78, 111, 116, 32, 83, 97, 116, 105, 115, 102, 105, 97, 98, 108, 101]⟩ : ByteArray)) else (if a0 = 503 then (some (⟨#[83, 101, 114, 118, 105, 99, 101, 32, 85, 110, 97, 118, 97, 105, 108, 97, 98, 108, 101]⟩ : ByteArray)) else (some (⟨#[]⟩ : ByteArray)))))))))))
set_option maxHeartbeats 8000000 in
set_option maxRecDepth 100000 in
theorem response_words.calls (a0 : Int) (r : ByteArray) (w : World) (h : response_words.f a0 = some r) :
  Calls Tryz.prog 31 #[.int .i64 a0] w fun e w' => e = .returned (.string r) ∧ Drawn0 w w' := by
 have H : (if a0 = 200 then (some (⟨#[79, 75]⟩ : ByteArray)) else (if a0 = 204 then (some (⟨#[78, 111, 32, 67, 111, 110, 116, 101, 110, 116]⟩ : ByteArray)) else (if a0 = 206 then (some (⟨#[80, 97, 114, 116, 105, 97, 108, 32, 67, 111, 110, 116, 101, 110, 116]⟩ : ByteArray)) else (if a0 = 400 then (some (⟨#[66, 97, 100, 32, 82, 101, 113, 117, 101, 115, 116]⟩ : ByteArray)) else (if a0 = 404 then (some (⟨#[78, 111, 116, 32, 70, 111, 117, 110, 100]⟩ : ByteArray)) else (if a0 = 405 then (some (⟨#[77, 101, 116, 104, 111, 100, 32, 78, 111, 116, 32, 65, 108, 108, 111, 119, 101, 100]⟩ : ByteArray)) else (if a0 = 409 then (some (⟨#[67, 111, 110, 102, 108, 105, 99, 116]⟩ : ByteArray)) else (if a0 = 413 then (some (⟨#[67, 111, 110, 116, 101, 110, 116, 32, 84, 111, 111, 32, 76, 97, 114, 103, 101]⟩ : ByteArray)) else (if a0 = 416 then (some (⟨#[82, 97, 110, 103, 101, 32, 78, 111, 116, 32, 83, 97, 116, 105, 115, 102, 105, 97, 98, 108, 101]⟩ : ByteArray)) else (if a0 = 503 then (some (⟨#[83, 101, 114, 118, 105, 99, 101, 32, 85, 110, 97, 118, 97, 105, 108, 97, 98, 108, 101]⟩ : ByteArray)) else (some (⟨#[]⟩ : ByteArray)))))))))))) = some r := h
 clear h
 by_cases c2 : a0 = 200
 ·rw [if_pos c2] at H
  have c2b0 : (a0 == 200) = true := beq_iff_eq.mpr c2
  have c2b1 : (a0 != 200) = false := bne_eq_false_iff_eq.mpr c2
  clear c2
  obtain rfl := Option.some.inj H
  go_enter Tryz.func31, Tryz.ntmps31
  go_wp2
  go_ret
  exact ⟨by first|rfl|(simp; done)|(simp [*]; done), by repeat (first|exact Drawn0.refl _|apply Drawn0.step)⟩
 ·rw [if_neg c2] at H
  have c2b0 : (a0 == 200) = false := beq_eq_false_iff_ne.mpr c2
  have c2b1 : (a0 != 200) = true := bne_iff_ne.mpr c2
  by_cases c3 : a0 = 204
  ·rw [if_pos c3] at H
   have c3b0 : (a0 == 204) = true := beq_iff_eq.mpr c3
   have c3b1 : (a0 != 204) = false := bne_eq_false_iff_eq.mpr c3
   clear c3
   obtain rfl := Option.some.inj H
   go_enter Tryz.func31, Tryz.ntmps31
   go_wp2
   go_ret
   exact ⟨by first|rfl|(simp; done)|(simp [*]; done), by repeat (first|exact Drawn0.refl _|apply Drawn0.step)⟩
  ·rw [if_neg c3] at H
   have c3b0 : (a0 == 204) = false := beq_eq_false_iff_ne.mpr c3
   have c3b1 : (a0 != 204) = true := bne_iff_ne.mpr c3
   by_cases c4 : a0 = 206
   ·rw [if_pos c4] at H
    have c4b0 : (a0 == 206) = true := beq_iff_eq.mpr c4
    have c4b1 : (a0 != 206) = false := bne_eq_false_iff_eq.mpr c4
    clear c4
    obtain rfl := Option.some.inj H
    go_enter Tryz.func31, Tryz.ntmps31
    go_wp2
    go_ret
    exact ⟨by first|rfl|(simp; done)|(simp [*]; done), by repeat (first|exact Drawn0.refl _|apply Drawn0.step)⟩
   ·rw [if_neg c4] at H
    have c4b0 : (a0 == 206) = false := beq_eq_false_iff_ne.mpr c4
    have c4b1 : (a0 != 206) = true := bne_iff_ne.mpr c4
    by_cases c5 : a0 = 400
    ·rw [if_pos c5] at H
     have c5b0 : (a0 == 400) = true := beq_iff_eq.mpr c5
     have c5b1 : (a0 != 400) = false := bne_eq_false_iff_eq.mpr c5
     clear c5
     obtain rfl := Option.some.inj H
     go_enter Tryz.func31, Tryz.ntmps31
     go_wp2
     go_ret
     exact ⟨by first|rfl|(simp; done)|(simp [*]; done), by repeat (first|exact Drawn0.refl _|apply Drawn0.step)⟩
    ·rw [if_neg c5] at H
     have c5b0 : (a0 == 400) = false := beq_eq_false_iff_ne.mpr c5
     have c5b1 : (a0 != 400) = true := bne_iff_ne.mpr c5
     by_cases c6 : a0 = 404
     ·rw [if_pos c6] at H
      have c6b0 : (a0 == 404) = true := beq_iff_eq.mpr c6
      have c6b1 : (a0 != 404) = false := bne_eq_false_iff_eq.mpr c6
      clear c6
      obtain rfl := Option.some.inj H
      go_enter Tryz.func31, Tryz.ntmps31
      go_wp2
      go_ret
      exact ⟨by first|rfl|(simp; done)|(simp [*]; done), by repeat (first|exact Drawn0.refl _|apply Drawn0.step)⟩
     ·rw [if_neg c6] at H
      have c6b0 : (a0 == 404) = false := beq_eq_false_iff_ne.mpr c6
      have c6b1 : (a0 != 404) = true := bne_iff_ne.mpr c6
      by_cases c7 : a0 = 405
      ·rw [if_pos c7] at H
       have c7b0 : (a0 == 405) = true := beq_iff_eq.mpr c7
       have c7b1 : (a0 != 405) = false := bne_eq_false_iff_eq.mpr c7
       clear c7
       obtain rfl := Option.some.inj H
       go_enter Tryz.func31, Tryz.ntmps31
       go_wp2
       go_ret
       exact ⟨by first|rfl|(simp; done)|(simp [*]; done), by repeat (first|exact Drawn0.refl _|apply Drawn0.step)⟩
      ·rw [if_neg c7] at H
       have c7b0 : (a0 == 405) = false := beq_eq_false_iff_ne.mpr c7
       have c7b1 : (a0 != 405) = true := bne_iff_ne.mpr c7
       by_cases c8 : a0 = 409
       ·rw [if_pos c8] at H
        have c8b0 : (a0 == 409) = true := beq_iff_eq.mpr c8
        have c8b1 : (a0 != 409) = false := bne_eq_false_iff_eq.mpr c8
        clear c8
        obtain rfl := Option.some.inj H
        go_enter Tryz.func31, Tryz.ntmps31
        go_wp2
        go_ret
        exact ⟨by first|rfl|(simp; done)|(simp [*]; done), by repeat (first|exact Drawn0.refl _|apply Drawn0.step)⟩
       ·rw [if_neg c8] at H
        have c8b0 : (a0 == 409) = false := beq_eq_false_iff_ne.mpr c8
        have c8b1 : (a0 != 409) = true := bne_iff_ne.mpr c8
        by_cases c9 : a0 = 413
        ·rw [if_pos c9] at H
         have c9b0 : (a0 == 413) = true := beq_iff_eq.mpr c9
         have c9b1 : (a0 != 413) = false := bne_eq_false_iff_eq.mpr c9
         clear c9
         obtain rfl := Option.some.inj H
         go_enter Tryz.func31, Tryz.ntmps31
         go_wp2
         go_ret
         exact ⟨by first|rfl|(simp; done)|(simp [*]; done), by repeat (first|exact Drawn0.refl _|apply Drawn0.step)⟩
        ·rw [if_neg c9] at H
         have c9b0 : (a0 == 413) = false := beq_eq_false_iff_ne.mpr c9
         have c9b1 : (a0 != 413) = true := bne_iff_ne.mpr c9
         by_cases c10 : a0 = 416
         ·rw [if_pos c10] at H
          have c10b0 : (a0 == 416) = true := beq_iff_eq.mpr c10
          have c10b1 : (a0 != 416) = false := bne_eq_false_iff_eq.mpr c10
          clear c10
          obtain rfl := Option.some.inj H
          go_enter Tryz.func31, Tryz.ntmps31
          go_wp2
          go_ret
          exact ⟨by first|rfl|(simp; done)|(simp [*]; done), by repeat (first|exact Drawn0.refl _|apply Drawn0.step)⟩
         ·rw [if_neg c10] at H
          have c10b0 : (a0 == 416) = false := beq_eq_false_iff_ne.mpr c10
          have c10b1 : (a0 != 416) = true := bne_iff_ne.mpr c10
          by_cases c11 : a0 = 503
          ·rw [if_pos c11] at H
           have c11b0 : (a0 == 503) = true := beq_iff_eq.mpr c11
           have c11b1 : (a0 != 503) = false := bne_eq_false_iff_eq.mpr c11
           clear c11
           obtain rfl := Option.some.inj H
           go_enter Tryz.func31, Tryz.ntmps31
           go_wp2
           go_ret
           exact ⟨by first|rfl|(simp; done)|(simp [*]; done), by repeat (first|exact Drawn0.refl _|apply Drawn0.step)⟩
          ·rw [if_neg c11] at H
           have c11b0 : (a0 == 503) = false := beq_eq_false_iff_ne.mpr c11
           have c11b1 : (a0 != 503) = true := bne_iff_ne.mpr c11
           obtain rfl := Option.some.inj H
           go_enter Tryz.func31, Tryz.ntmps31
           go_wp2
           go_ret
           exact ⟨by first|rfl|(simp; done)|(simp [*]; done), by repeat (first|exact Drawn0.refl _|apply Drawn0.step)⟩

end Go.Proofs.YtmgpbcpggnlkkaaGreatDoor.Pr
end
section
/- From rows of cells to the print's kinds: plain lemmas. -/
namespace Go.Proofs.YtmgpbcpggnlkkaaGreatDoor.Pr
open Go.RowKit Go.Proofs.YtmgpbcpggnlkkaaGreatDoorW.PrintWords Go.Proofs.YtmgpbcpggnlkkaaGreatDoorW.PrintLast Go.Proofs.YtmgpbcpggnlkkaaGreatDoorW.PrintMore
set_option linter.unusedVariables false
set_option linter.unusedSimpArgs false
theorem reps_flat {α β : Type} (R : α → List Value → Prop) (size : Nat) (f : β → α) (c : β → List Value) (hc : ∀ b, (c b).length = size) (hR : ∀ b, R (f b) (c b)) : ∀ l : List β, Reps R size (l.map f) (l.flatMap c)
  | [] => Reps.none _ _
  | b :: r => by
    obtain ⟨h1, h2⟩ := reps_flat R size f c hc hR r
    refine ⟨by rw [List.flatMap_cons, List.length_append, hc, h1]; simp [Nat.add_mul]; omega, fun j p hp => ?_⟩
    cases j with
    | zero =>
      simp only [List.map_cons, List.getElem?_cons_zero, Option.some.injEq] at hp
      subst hp
      rw [Nat.zero_mul, List.drop_zero, List.flatMap_cons, ← hc b, List.take_left]
      exact hR b
    | succ j =>
      simp only [List.map_cons, List.getElem?_cons_succ] at hp
      rw [List.flatMap_cons, Nat.succ_mul, Nat.add_comm, ← List.drop_drop, ← hc b, List.drop_left, hc b]
      exact h2 j p hp
theorem R_of_own {α β : Type} {d : Kd α} {e : Nat} {w : World} {base : Nat} {v : Value} (f : β → α) (c : β → List Value) (hc : ∀ b, (c b).length = d.sz) (l : List β) (hR : ∀ ok b, d.M w base ok (f b) (c b)) (h : w.ownsRow base e d.sz v l.length (l.flatMap c)) : Kd.R d e w base (fun _ => True) v (l.map f) :=
  ⟨fun _ _ => trivial, _, by rw [List.length_map]; exact h, reps_flat _ _ f c hc (fun b => hR _ b) l⟩
end Go.Proofs.YtmgpbcpggnlkkaaGreatDoor.Pr
end
section
namespace Go.Proofs.YtmgpbcpggnlkkaaGreatDoor.Pr
open Go.RowKit Go.Proofs.YtmgpbcpggnlkkaaGreatDoorW.PrintWords Go.Proofs.YtmgpbcpggnlkkaaGreatDoorW.PrintLast Go.Proofs.YtmgpbcpggnlkkaaGreatDoorW.PrintMore
attribute [local go_sem] max2_int min2_int max_two min_two max_three min_three max_four min_four -- for this text's walks alone
set_option linter.unusedVariables false
set_option linter.unusedSimpArgs false

/-! ### stowageref27_number: function 23 -/
mutual
def stowageref27_number.j0 : Nat → ByteArray → Bool → Option (Int)
 | 0, _, _ => none
 | k + 1, x0, x11 => if x11 = true then (some (-1)) else (stowageref27_number.l0 k x0 0 0)
def stowageref27_number.l0 : Nat → ByteArray → Int → Int → Option (Int)
 | 0, _, _, _ => none
 | k + 1, x0, x3, x4 => if x4 < (x0.size : Int) then (if 0 ≤ x4 then (if (bt x0 x4) < 48 then (some (-1)) else (if (bt x0 x4) > 57 then (some (-1)) else (stowageref27_number.l0 k x0 (wrap64 ((wrap64 (10 * x3)) + (((bt x0 x4) - 48) % 256))) (wrap64 (x4 + 1))))) else (none)) else (some x3)
end
def stowageref27_number.f (k : Nat) (a0 : ByteArray) : Option (Int) := if a0.toList = ([] : List UInt8) then (stowageref27_number.j0 k a0 true) else (stowageref27_number.j0 k a0 (decide ((a0.size : Int) > 7)))
theorem stowageref27_number.mono_l : ∀ k, (∀ y0 y1, LeO (stowageref27_number.j0 k y0 y1) (stowageref27_number.j0 (k + 1) y0 y1)) ∧ (∀ y0 y1 y2, LeO (stowageref27_number.l0 k y0 y1 y2) (stowageref27_number.l0 (k + 1) y0 y1 y2))
 | 0 => ⟨fun _ _ r h => by simp [stowageref27_number.j0] at h, fun _ _ _ r h => by simp [stowageref27_number.l0] at h⟩
 | k + 1 => by
  obtain ⟨ih0, ih1⟩ := stowageref27_number.mono_l k
  refine ⟨?_, ?_⟩
  ·intro y0 y1
   unfold stowageref27_number.j0
   repeat' first
   | (with_reducible exact ih0 _ _)
   | (with_reducible exact ih1 _ _ _)
   | (with_reducible exact LeO.refl _)
   | (with_reducible exact LeO.none _)
   | (with_reducible refine LeO.ite ?_ ?_)
   | (with_reducible refine LeO.bind ?_ (fun _ => ?_))
   | exact ih0 _ _
   | exact ih1 _ _ _
   | exact LeO.none _
   | refine LeO.ite ?_ ?_
   | refine LeO.bind ?_ (fun _ => ?_)
  ·intro y0 y1 y2
   unfold stowageref27_number.l0
   repeat' first
   | (with_reducible exact ih0 _ _)
   | (with_reducible exact ih1 _ _ _)
   | (with_reducible exact LeO.refl _)
   | (with_reducible exact LeO.none _)
   | (with_reducible refine LeO.ite ?_ ?_)
   | (with_reducible refine LeO.bind ?_ (fun _ => ?_))
   | exact ih0 _ _
   | exact ih1 _ _ _
   | exact LeO.none _
   | refine LeO.ite ?_ ?_
   | refine LeO.bind ?_ (fun _ => ?_)
theorem stowageref27_number.mono : ∀ a0 k, LeO (stowageref27_number.f k a0) (stowageref27_number.f (k + 1) a0) := by
 intro a0 k
 obtain ⟨ih0, ih1⟩ := stowageref27_number.mono_l k
 unfold stowageref27_number.f
 repeat' first
   | (with_reducible exact ih0 _ _)
   | (with_reducible exact ih1 _ _ _)
   | (with_reducible exact LeO.refl _)
   | (with_reducible exact LeO.none _)
   | (with_reducible refine LeO.ite ?_ ?_)
   | (with_reducible refine LeO.bind ?_ (fun _ => ?_))
   | exact ih0 _ _
   | exact ih1 _ _ _
   | exact LeO.none _
   | refine LeO.ite ?_ ?_
   | refine LeO.bind ?_ (fun _ => ?_)
set_option maxHeartbeats 8000000 in
set_option maxRecDepth 100000 in
theorem stowageref27_number.calls (k : Nat) (a0 : ByteArray) (r : Int) (w : World) (h : stowageref27_number.f k a0 = some r) :
  Calls Tryz.prog 23 #[.string a0] w fun e w' => e = .returned (.int .i64 r) ∧ Drawn0 w w' := by
 have H : (if a0.toList = ([] : List UInt8) then (stowageref27_number.j0 k a0 true) else (stowageref27_number.j0 k a0 (decide ((a0.size : Int) > 7)))) = some r := h
 clear h
 have HC2 := Aside0.mk H
 clear H
 go_enter Tryz.func23, Tryz.ntmps23
 go_upto_region 1 with (fail)
 go_cut [11] (fun v11 wc => ∃ (kq : Nat) (x11_1 : Bool), v11 = .bool x11_1 ∧ Aside0 (stowageref27_number.j0 kq a0 x11_1 = some r) ∧ Aside0 (kq ≤ k) ∧ Drawn0 w wc)
 case first =>
  have H := HC2.out
  clear HC2
  by_cases c3 : a0.toList = ([] : List UInt8)
  ·rw [if_pos c3] at H
   have c3b0 : (a0.toList == ([] : List UInt8)) = true := beq_iff_eq.mpr c3
   have c3b1 : (a0.toList != ([] : List UInt8)) = false := bne_eq_false_iff_eq.mpr c3
   clear c3
   (first|rw [c3b0]|(simp only [i64_w, i32_w]; rw [c3b0])|skip)
   have H' := Aside0.mk H
   clear H
   go_wp2
   go_meet
   case rel => exact ⟨_, (true), (by first|rfl|(simp; done)|(simp [*]; done)), H', ⟨by first|omega|exact Nat.le_refl _⟩, by repeat (first|exact Drawn0.refl _|apply Drawn0.step)⟩
  ·rw [if_neg c3] at H
   have c3b0 : (a0.toList == ([] : List UInt8)) = false := beq_eq_false_iff_ne.mpr c3
   have c3b1 : (a0.toList != ([] : List UInt8)) = true := bne_iff_ne.mpr c3
   (first|rw [c3b0]|(simp only [i64_w, i32_w]; rw [c3b0])|skip)
   have H' := Aside0.mk H
   clear H
   go_wp2
   go_meet
   case rel => exact ⟨_, (decide ((a0.size : Int) > 7)), (by first|rfl|(simp; done)|(simp [*]; done)), H', ⟨by first|omega|exact Nat.le_refl _⟩, by repeat (first|exact Drawn0.refl _|apply Drawn0.step)⟩
 case rest =>
  clear HC2
  try clear c2
  try clear p2
  try clear c3
  try clear c3b0
  try clear c3b1
  obtain ⟨kq, x11_1, rfl, HA, HJ1, ⟨mc1, rfl⟩⟩ := hcut
  cases kq with
  | zero => exact absurd HA.out (by simp [stowageref27_number.j0])
  | succ kj1 =>
   have H := HA.out
   clear HA
   simp only [stowageref27_number.j0] at H
   by_cases c4 : x11_1 = true
   ·subst c4
    have H1 : (some (-1)) = some r := by rw [if_pos rfl] at H; exact H
    clear H
    have H := H1
    clear H1
    obtain rfl := Option.some.inj H
    go_wp2
    go_ret
    exact ⟨by first|rfl|(simp; done)|(simp [*]; done), by repeat (first|exact Drawn0.refl _|apply Drawn0.step)⟩
   ·replace c4 := Bool.eq_false_iff.mpr c4
    subst c4
    have H1 : (stowageref27_number.l0 kj1 a0 0 0) = some r := by rw [if_neg (show ¬ (false = true) by decide)] at H; exact H
    clear H
    have H := H1
    clear H1
    have H' := Aside0.mk H
    clear H
    go_wp2
    go_loopg [3, 4] kj1 (fun kq v3 v4 w' => ∃ (x3_2 : Int) (x4_2 : Int), v3 = .int .i64 x3_2 ∧ v4 = .int .i64 x4_2 ∧ Aside0 (stowageref27_number.l0 kq a0 x3_2 x4_2 = some r) ∧ Aside0 (kq ≤ kj1) ∧ Drawn0 w w')
    case atStart => exact ⟨(0), (0), (by first|rfl|(simp; done)|(simp [*]; done)), (by first|rfl|(simp; done)|(simp [*]; done)), H', ⟨Nat.le_refl _⟩, by repeat (first|exact Drawn0.refl _|apply Drawn0.step)⟩
    case round =>
     clear H'
     try clear c1
     try clear c2
     try clear p2
     try clear c3
     try clear c3b0
     try clear c3b1
     try clear c4
     try clear p2
     obtain ⟨x3_2, x4_2, rfl, rfl, HA, HK2, ⟨m2, rfl⟩⟩ := hrel
     cases gk with
     | zero => exact absurd HA.out (by simp [stowageref27_number.l0])
     | succ k2 =>
      have H := HA.out
      clear HA
      simp only [stowageref27_number.l0] at H
      by_cases c5 : x4_2 < (a0.size : Int)
      ·rw [if_pos c5] at H
       have c5b0 : decide (x4_2 < (a0.size : Int)) = true := decide_eq_true c5
       clear c5
       by_cases c6 : 0 ≤ x4_2
       ·rw [if_pos c6] at H
        have c6b0 : decide (0 ≤ x4_2) = true := decide_eq_true c6
        clear c6
        by_cases c8 : (bt a0 x4_2) < 48
        ·rw [if_pos c8] at H
         have c8b0 : decide ((bt a0 x4_2) < 48) = true := decide_eq_true c8
         clear c8
         obtain rfl := Option.some.inj H
         have p7 : 0 ≤ (x4_2 : Int) := of_decide_eq_true (by first|(with_reducible assumption)|assumption)
         have q7 : x4_2 < (a0.size : Int) := of_decide_eq_true (by first|(with_reducible assumption)|assumption)
         have hx7 := bt_at a0 x4_2
         replace p7 := eq_true p7
         replace q7 := eq_true q7
         go_wp2
         go_ret
         exact ⟨by first|rfl|(simp; done)|(simp [*]; done), by repeat (first|exact Drawn0.refl _|apply Drawn0.step)⟩
        ·rw [if_neg c8] at H
         have c8b0 : decide ((bt a0 x4_2) < 48) = false := decide_eq_false c8
         clear c8
         by_cases c10 : (bt a0 x4_2) > 57
         ·rw [if_pos c10] at H
          have c10b0 : decide (57 < (bt a0 x4_2)) = true := decide_eq_true c10
          clear c10
          obtain rfl := Option.some.inj H
          have p7 : 0 ≤ (x4_2 : Int) := of_decide_eq_true (by first|(with_reducible assumption)|assumption)
          have q7 : x4_2 < (a0.size : Int) := of_decide_eq_true (by first|(with_reducible assumption)|assumption)
          have hx7 := bt_at a0 x4_2
          replace p7 := eq_true p7
          replace q7 := eq_true q7
          have p9 : 0 ≤ (x4_2 : Int) := of_decide_eq_true (by first|(with_reducible assumption)|assumption)
          have q9 : x4_2 < (a0.size : Int) := of_decide_eq_true (by first|(with_reducible assumption)|assumption)
          have hx9 := bt_at a0 x4_2
          replace p9 := eq_true p9
          replace q9 := eq_true q9
          go_wp2
          go_ret
          exact ⟨by first|rfl|(simp; done)|(simp [*]; done), by repeat (first|exact Drawn0.refl _|apply Drawn0.step)⟩
         ·rw [if_neg c10] at H
          have c10b0 : decide (57 < (bt a0 x4_2)) = false := decide_eq_false c10
          clear c10
          have H' := Aside0.mk H
          clear H
          have p7 : 0 ≤ (x4_2 : Int) := of_decide_eq_true (by first|(with_reducible assumption)|assumption)
          have q7 : x4_2 < (a0.size : Int) := of_decide_eq_true (by first|(with_reducible assumption)|assumption)
          have hx7 := bt_at a0 x4_2
          replace p7 := eq_true p7
          replace q7 := eq_true q7
          have p9 : 0 ≤ (x4_2 : Int) := of_decide_eq_true (by first|(with_reducible assumption)|assumption)
          have q9 : x4_2 < (a0.size : Int) := of_decide_eq_true (by first|(with_reducible assumption)|assumption)
          have hx9 := bt_at a0 x4_2
          replace p9 := eq_true p9
          replace q9 := eq_true q9
          have p11 : 0 ≤ (x4_2 : Int) := of_decide_eq_true (by first|(with_reducible assumption)|assumption)
          have q11 : x4_2 < (a0.size : Int) := of_decide_eq_true (by first|(with_reducible assumption)|assumption)
          have hx11 := bt_at a0 x4_2
          replace p11 := eq_true p11
          replace q11 := eq_true q11
          go_wp2
          go_roundg k2
          case measure => have := HJ1.out; have := HK2.out; omega
          case rel => exact ⟨(wrap64 ((wrap64 (10 * x3_2)) + (((bt a0 x4_2) - 48) % 256))), (wrap64 (x4_2 + 1)), (by first|rfl|(simp; done)|(simp [*]; done)), (by first|rfl|(simp; done)|(simp [*]; done)), H', ⟨by have := HJ1.out; have := HK2.out; omega⟩, by repeat (first|exact Drawn0.refl _|apply Drawn0.step)⟩
       ·rw [if_neg c6] at H
        exact absurd H (by simp)
      ·rw [if_neg c5] at H
       have c5b0 : decide (x4_2 < (a0.size : Int)) = false := decide_eq_false c5
       clear c5
       obtain rfl := Option.some.inj H
       go_wp2
       go_ret
       exact ⟨by first|rfl|(simp; done)|(simp [*]; done), by repeat (first|exact Drawn0.refl _|apply Drawn0.step)⟩

end Go.Proofs.YtmgpbcpggnlkkaaGreatDoor.Pr
end
section
namespace Go.Proofs.YtmgpbcpggnlkkaaGreatDoor.Pr
open Go.RowKit Go.Proofs.YtmgpbcpggnlkkaaGreatDoorW.PrintWords Go.Proofs.YtmgpbcpggnlkkaaGreatDoorW.PrintLast Go.Proofs.YtmgpbcpggnlkkaaGreatDoorW.PrintMore
attribute [local go_sem] max2_int min2_int max_two min_two max_three min_three max_four min_four -- for this text's walks alone
set_option linter.unusedVariables false
set_option linter.unusedSimpArgs false

/-! ### stowageref27_Words: function 17 -/
def stowageref27_Words.f (a0 : Int) : Option (ByteArray × Int) := if a0 = 200 then (some ((⟨#[79, 75]⟩ : ByteArray), 0)) else (if a0 = 204 then (some ((⟨#[78, 111, 32, 67, 111, 110, 116, 101, 110, 116]⟩ : ByteArray), 0)) else (if a0 = 206 then (some ((⟨#[80, 97, 114, 116, 105, 97, 108, 32, 67, 111, 110, 116, 101, 110, 116]⟩ : ByteArray), 0)) else (if a0 = 400 then (some ((⟨#[66, 97, 100, 32, 82, 101, 113, 117, 101, 115, 116]⟩ : ByteArray), 0)) else (if a0 = 404 then (some ((⟨#[78, 111, 116, 32, 70, 111, 117, 110, 100]⟩ : ByteArray), 0)) else (if a0 = 405 then (some ((⟨#[77, 101, 116, 104, 111, 100, 32, 78, 111, 116, 32, 65, 108, 108, 111, 119, 101, 100]⟩ : ByteArray), 0)) else (if a0 = 409 then (some ((⟨#[67, 111, 110, 102, 108, 105, 99, 116]⟩ : ByteArray), 0)) else (if a0 = 413 then (some ((⟨#[67, 111, 110, 116, 101, 110, 116, 32, 84, 111, 111, 32, 76, 97, 114, 103, 101]⟩ : ByteArray), 0)) else (if a0 = 416 then (some ((⟨#[82, 97, 110, 103, 101, 32, 78, 111, 116, 32, 83, 97, 116, 105, 115, 102, 105, 97, 98, 108, 101]⟩ : ByteArray), 0)) else (if a0 = 503 then (some ((⟨#[83, 101, 114, 118, 105, 99, 101, 32, 85, 110, 97, 118, 97, 105, 108, 97, 98, 108, 101]⟩ : ByteArray), 0)) else (some ((⟨#[]⟩ : ByteArray), 5)))))))))))
set_option maxHeartbeats 8000000 in
set_option maxRecDepth 100000 in
theorem stowageref27_Words.calls (a0 : Int) (r1 : ByteArray) (r2 : Int) (w : World) (h : stowageref27_Words.f a0 = some (r1, r2)) :
  Calls Tryz.prog 17 #[.int .i64 a0] w fun e w' => e = .returned (.tuple #[.string r1, .int .i64 r2]) ∧ Drawn0 w w' := by
 have H : (if a0 = 200 then (some ((⟨#[79, 75]⟩ : ByteArray), 0)) else (if a0 = 204 then (some ((⟨#[78, 111, 32, 67, 111, 110, 116, 101, 110, 116]⟩ : ByteArray), 0)) else (if a0 = 206 then (some ((⟨#[80, 97, 114, 116, 105, 97, 108, 32, 67, 111, 110, 116, 101, 110, 116]⟩ : ByteArray), 0)) else (if a0 = 400 then (some ((⟨#[66, 97, 100, 32, 82, 101, 113, 117, 101, 115, 116]⟩ : ByteArray), 0)) else (if a0 = 404 then (some ((⟨#[78, 111, 116, 32, 70, 111, 117, 110, 100]⟩ : ByteArray), 0)) else (if a0 = 405 then (some ((⟨#[77, 101, 116, 104, 111, 100, 32, 78, 111, 116, 32, 65, 108, 108, 111, 119, 101, 100]⟩ : ByteArray), 0)) else (if a0 = 409 then (some ((⟨#[67, 111, 110, 102, 108, 105, 99, 116]⟩ : ByteArray), 0)) else (if a0 = 413 then (some ((⟨#[67, 111, 110, 116, 101, 110, 116, 32, 84, 111, 111, 32, 76, 97, 114, 103, 101]⟩ : ByteArray), 0)) else (if a0 = 416 then (some ((⟨#[82, 97, 110, 103, 101, 32, 78, 111, 116, 32, 83, 97, 116, 105, 115, 102, 105, 97, 98, 108, 101]⟩ : ByteArray), 0)) else (if a0 = 503 then (some ((⟨#[83, 101, 114, 118, 105, 99, 101, 32, 85, 110, 97, 118, 97, 105, 108, 97, 98, 108, 101]⟩ : ByteArray), 0)) else (some ((⟨#[]⟩ : ByteArray), 5)))))))))))) = some (r1, r2) := h
 clear h
 by_cases c2 : a0 = 200
 ·rw [if_pos c2] at H
  have c2b0 : (a0 == 200) = true := beq_iff_eq.mpr c2
  have c2b1 : (a0 != 200) = false := bne_eq_false_iff_eq.mpr c2
  clear c2
  simp only [Option.some.injEq, Prod.mk.injEq] at H
  obtain ⟨rfl, rfl⟩ := H
  go_enter Tryz.func17, Tryz.ntmps17
  go_wp2
  go_ret2
  exact ⟨by first|rfl|(simp; done)|(simp [*]; done), by repeat (first|exact Drawn0.refl _|apply Drawn0.step)⟩
 ·rw [if_neg c2] at H
  have c2b0 : (a0 == 200) = false := beq_eq_false_iff_ne.mpr c2
  have c2b1 : (a0 != 200) = true := bne_iff_ne.mpr c2
  by_cases c3 : a0 = 204
  ·rw [if_pos c3] at H
   have c3b0 : (a0 == 204) = true := beq_iff_eq.mpr c3
   have c3b1 : (a0 != 204) = false := bne_eq_false_iff_eq.mpr c3
   clear c3
   simp only [Option.some.injEq, Prod.mk.injEq] at H
   obtain ⟨rfl, rfl⟩ := H
   go_enter Tryz.func17, Tryz.ntmps17
   go_wp2
   go_ret2
   exact ⟨by first|rfl|(simp; done)|(simp [*]; done), by repeat (first|exact Drawn0.refl _|apply Drawn0.step)⟩
  ·rw [if_neg c3] at H
   have c3b0 : (a0 == 204) = false := beq_eq_false_iff_ne.mpr c3
   have c3b1 : (a0 != 204) = true := bne_iff_ne.mpr c3
   by_cases c4 : a0 = 206
   ·rw [if_pos c4] at H
    have c4b0 : (a0 == 206) = true := beq_iff_eq.mpr c4
    have c4b1 : (a0 != 206) = false := bne_eq_false_iff_eq.mpr c4
    clear c4
    simp only [Option.some.injEq, Prod.mk.injEq] at H
    obtain ⟨rfl, rfl⟩ := H
    go_enter Tryz.func17, Tryz.ntmps17
    go_wp2
    go_ret2
    exact ⟨by first|rfl|(simp; done)|(simp [*]; done), by repeat (first|exact Drawn0.refl _|apply Drawn0.step)⟩
   ·rw [if_neg c4] at H
    have c4b0 : (a0 == 206) = false := beq_eq_false_iff_ne.mpr c4
    have c4b1 : (a0 != 206) = true := bne_iff_ne.mpr c4
    by_cases c5 : a0 = 400
    ·rw [if_pos c5] at H
     have c5b0 : (a0 == 400) = true := beq_iff_eq.mpr c5
     have c5b1 : (a0 != 400) = false := bne_eq_false_iff_eq.mpr c5
     clear c5
     simp only [Option.some.injEq, Prod.mk.injEq] at H
     obtain ⟨rfl, rfl⟩ := H
     go_enter Tryz.func17, Tryz.ntmps17
     go_wp2
     go_ret2
     exact ⟨by first|rfl|(simp; done)|(simp [*]; done), by repeat (first|exact Drawn0.refl _|apply Drawn0.step)⟩
    ·rw [if_neg c5] at H
     have c5b0 : (a0 == 400) = false := beq_eq_false_iff_ne.mpr c5
     have c5b1 : (a0 != 400) = true := bne_iff_ne.mpr c5
     by_cases c6 : a0 = 404
     ·rw [if_pos c6] at H
      have c6b0 : (a0 == 404) = true := beq_iff_eq.mpr c6
      have c6b1 : (a0 != 404) = false := bne_eq_false_iff_eq.mpr c6
      clear c6
      simp only [Option.some.injEq, Prod.mk.injEq] at H
      obtain ⟨rfl, rfl⟩ := H
      go_enter Tryz.func17, Tryz.ntmps17
      go_wp2
      go_ret2
      exact ⟨by first|rfl|(simp; done)|(simp [*]; done), by repeat (first|exact Drawn0.refl _|apply Drawn0.step)⟩
     ·rw [if_neg c6] at H
      have c6b0 : (a0 == 404) = false := beq_eq_false_iff_ne.mpr c6
      have c6b1 : (a0 != 404) = true := bne_iff_ne.mpr c6
      by_cases c7 : a0 = 405
      ·rw [if_pos c7] at H
       have c7b0 : (a0 == 405) = true := beq_iff_eq.mpr c7
       have c7b1 : (a0 != 405) = false := bne_eq_false_iff_eq.mpr c7
       clear c7
       simp only [Option.some.injEq, Prod.mk.injEq] at H
       obtain ⟨rfl, rfl⟩ := H
       go_enter Tryz.func17, Tryz.ntmps17
       go_wp2
       go_ret2
       exact ⟨by first|rfl|(simp; done)|(simp [*]; done), by repeat (first|exact Drawn0.refl _|apply Drawn0.step)⟩
      ·rw [if_neg c7] at H
       have c7b0 : (a0 == 405) = false := beq_eq_false_iff_ne.mpr c7
       have c7b1 : (a0 != 405) = true := bne_iff_ne.mpr c7
       by_cases c8 : a0 = 409
       ·rw [if_pos c8] at H
        have c8b0 : (a0 == 409) = true := beq_iff_eq.mpr c8
        have c8b1 : (a0 != 409) = false := bne_eq_false_iff_eq.mpr c8
        clear c8
        simp only [Option.some.injEq, Prod.mk.injEq] at H
        obtain ⟨rfl, rfl⟩ := H
        go_enter Tryz.func17, Tryz.ntmps17
        go_wp2
        go_ret2
        exact ⟨by first|rfl|(simp; done)|(simp [*]; done), by repeat (first|exact Drawn0.refl _|apply Drawn0.step)⟩
       ·rw [if_neg c8] at H
        have c8b0 : (a0 == 409) = false := beq_eq_false_iff_ne.mpr c8
        have c8b1 : (a0 != 409) = true := bne_iff_ne.mpr c8
        by_cases c9 : a0 = 413
        ·rw [if_pos c9] at H
         have c9b0 : (a0 == 413) = true := beq_iff_eq.mpr c9
         have c9b1 : (a0 != 413) = false := bne_eq_false_iff_eq.mpr c9
         clear c9
         simp only [Option.some.injEq, Prod.mk.injEq] at H
         obtain ⟨rfl, rfl⟩ := H
         go_enter Tryz.func17, Tryz.ntmps17
         go_wp2
         go_ret2
         exact ⟨by first|rfl|(simp; done)|(simp [*]; done), by repeat (first|exact Drawn0.refl _|apply Drawn0.step)⟩
        ·rw [if_neg c9] at H
         have c9b0 : (a0 == 413) = false := beq_eq_false_iff_ne.mpr c9
         have c9b1 : (a0 != 413) = true := bne_iff_ne.mpr c9
         by_cases c10 : a0 = 416
         ·rw [if_pos c10] at H
          have c10b0 : (a0 == 416) = true := beq_iff_eq.mpr c10
          have c10b1 : (a0 != 416) = false := bne_eq_false_iff_eq.mpr c10
          clear c10
          simp only [Option.some.injEq, Prod.mk.injEq] at H
          obtain ⟨rfl, rfl⟩ := H
          go_enter Tryz.func17, Tryz.ntmps17
          go_wp2
          go_ret2
          exact ⟨by first|rfl|(simp; done)|(simp [*]; done), by repeat (first|exact Drawn0.refl _|apply Drawn0.step)⟩
         ·rw [if_neg c10] at H
          have c10b0 : (a0 == 416) = false := beq_eq_false_iff_ne.mpr c10
          have c10b1 : (a0 != 416) = true := bne_iff_ne.mpr c10
          by_cases c11 : a0 = 503
          ·rw [if_pos c11] at H
           have c11b0 : (a0 == 503) = true := beq_iff_eq.mpr c11
           have c11b1 : (a0 != 503) = false := bne_eq_false_iff_eq.mpr c11
           clear c11
           simp only [Option.some.injEq, Prod.mk.injEq] at H
           obtain ⟨rfl, rfl⟩ := H
           go_enter Tryz.func17, Tryz.ntmps17
           go_wp2
           go_ret2
           exact ⟨by first|rfl|(simp; done)|(simp [*]; done), by repeat (first|exact Drawn0.refl _|apply Drawn0.step)⟩
          ·rw [if_neg c11] at H
           have c11b0 : (a0 == 503) = false := beq_eq_false_iff_ne.mpr c11
           have c11b1 : (a0 != 503) = true := bne_iff_ne.mpr c11
           simp only [Option.some.injEq, Prod.mk.injEq] at H
           obtain ⟨rfl, rfl⟩ := H
           go_enter Tryz.func17, Tryz.ntmps17
           go_wp2
           go_ret2
           exact ⟨by first|rfl|(simp; done)|(simp [*]; done), by repeat (first|exact Drawn0.refl _|apply Drawn0.step)⟩

end Go.Proofs.YtmgpbcpggnlkkaaGreatDoor.Pr
end
section
namespace Go.Proofs.YtmgpbcpggnlkkaaGreatDoor.Pr
open Go.RowKit Go.Proofs.YtmgpbcpggnlkkaaGreatDoorW.PrintWords Go.Proofs.YtmgpbcpggnlkkaaGreatDoorW.PrintLast Go.Proofs.YtmgpbcpggnlkkaaGreatDoorW.PrintMore
attribute [local go_sem] max2_int min2_int max_two min_two max_three min_three max_four min_four -- for this text's walks alone
set_option linter.unusedVariables false
set_option linter.unusedSimpArgs false

/-! ### stowageref27_Dec: function 42 -/
def stowageref27_Dec.f : Nat → Int → Option (ByteArray)
 | 0, _ => none
 | k + 1, a0 => if a0 < 10 then (if 0 ≤ a0 then (if a0 ≤ (wrap64 (a0 + 1)) then (if (wrap64 (a0 + 1)) ≤ 10 then (some ((⟨#[48, 49, 50, 51, 52, 53, 54, 55, 56, 57]⟩ : ByteArray).extract (a0 : Int).toNat ((wrap64 (a0 + 1)) : Int).toNat)) else (none)) else (none)) else (none)) else ((stowageref27_Dec.f k (wrap64 (Int.tdiv a0 10))).bind fun t176 => ((stowageref27_Dec.f k (Int.tmod a0 10)).bind fun t177 => (if t176.size + t177.size ≤ 9223372036854775807 then (some (t176 ++ t177)) else (none))))
theorem stowageref27_Dec.mono_l : ∀ k, (∀ y0, LeO (stowageref27_Dec.f k y0) (stowageref27_Dec.f (k + 1) y0))
 | 0 => fun _ r h => by simp [stowageref27_Dec.f] at h
 | k + 1 => by
  have ih0 := stowageref27_Dec.mono_l k
  ·intro y0
   unfold stowageref27_Dec.f
   repeat' first
   | (with_reducible exact ih0 _)
   | (with_reducible exact LeO.refl _)
   | (with_reducible exact LeO.none _)
   | (with_reducible refine LeO.ite ?_ ?_)
   | (with_reducible refine LeO.bind ?_ (fun _ => ?_))
   | exact ih0 _
   | exact LeO.none _
   | refine LeO.ite ?_ ?_
   | refine LeO.bind ?_ (fun _ => ?_)
theorem stowageref27_Dec.mono : ∀ a0 k, LeO (stowageref27_Dec.f k a0) (stowageref27_Dec.f (k + 1) a0) := by
 intro a0 k
 have ih0 := stowageref27_Dec.mono_l k
 exact ih0 a0
set_option maxHeartbeats 8000000 in
set_option maxRecDepth 100000 in
theorem stowageref27_Dec.calls (k : Nat) : ∀ (a0 : Int) (r : ByteArray) (w : World) (h : stowageref27_Dec.f k a0 = some r),
  Calls Tryz.prog 42 #[.int .i64 a0] w fun e w' => e = .returned (.string r) ∧ Drawn0 w w' := by
 induction k using Nat.strongRecOn with
 | _ k ih =>
 intro a0 r w h
 cases k with
 | zero => exact absurd h (by simp [stowageref27_Dec.f])
 | succ k =>
 simp only [stowageref27_Dec.f] at h
 have H : (if a0 < 10 then (if 0 ≤ a0 then (if a0 ≤ (wrap64 (a0 + 1)) then (if (wrap64 (a0 + 1)) ≤ 10 then (some ((⟨#[48, 49, 50, 51, 52, 53, 54, 55, 56, 57]⟩ : ByteArray).extract (a0 : Int).toNat ((wrap64 (a0 + 1)) : Int).toNat)) else (none)) else (none)) else (none)) else ((stowageref27_Dec.f k (wrap64 (Int.tdiv a0 10))).bind fun t176 => ((stowageref27_Dec.f k (Int.tmod a0 10)).bind fun t177 => (if t176.size + t177.size ≤ 9223372036854775807 then (some (t176 ++ t177)) else (none))))) = some r := h
 clear h
 by_cases c2 : a0 < 10
 ·rw [if_pos c2] at H
  have c2b0 : decide (a0 < 10) = true := decide_eq_true c2
  clear c2
  by_cases c3 : 0 ≤ a0
  ·rw [if_pos c3] at H
   have c3b0 := eq_true c3
   have c3b1 : decide (0 ≤ a0) = true := decide_eq_true c3
   clear c3
   by_cases c4 : a0 ≤ (wrap64 (a0 + 1))
   ·rw [if_pos c4] at H
    have c4b0 := eq_true c4
    have c4b1 : decide (a0 ≤ (wrap64 (a0 + 1))) = true := decide_eq_true c4
    by_cases c5 : (wrap64 (a0 + 1)) ≤ 10
    ·rw [if_pos c5] at H
     have c5b0 := eq_true c5
     have c5b1 : decide ((wrap64 (a0 + 1)) ≤ 10) = true := decide_eq_true c5
     obtain rfl := Option.some.inj H
     go_enter Tryz.func42, Tryz.ntmps42
     go_wp2
     go_ret
     exact ⟨by first|rfl|(simp; done)|(simp [*]; done), by repeat (first|exact Drawn0.refl _|apply Drawn0.step)⟩
    ·rw [if_neg c5] at H
     exact absurd H (by simp)
   ·rw [if_neg c4] at H
    exact absurd H (by simp)
  ·rw [if_neg c3] at H
   exact absurd H (by simp)
 ·rw [if_neg c2] at H
  have c2b0 : decide (a0 < 10) = false := decide_eq_false c2
  clear c2
  replace H := Option.bind_eq_some_iff.mp H
  obtain ⟨t176, A60, H⟩ := H
  replace H : ((stowageref27_Dec.f k (Int.tmod a0 10)).bind fun t177 => (if t176.size + t177.size ≤ 9223372036854775807 then (some (t176 ++ t177)) else (none))) = some r := H
  have A6 := Aside0.mk A60
  clear A60
  replace H := Option.bind_eq_some_iff.mp H
  obtain ⟨t177, A70, H⟩ := H
  replace H : (if t176.size + t177.size ≤ 9223372036854775807 then (some (t176 ++ t177)) else (none)) = some r := H
  have A7 := Aside0.mk A70
  clear A70
  by_cases c8 : t176.size + t177.size ≤ 9223372036854775807
  ·rw [if_pos c8] at H
   have c8b0 := eq_true c8
   have c8b1 : decide (t176.size + t177.size ≤ 9223372036854775807) = true := decide_eq_true c8
   try have c8b2 : (9223372036854775807 < t176.size + t177.size) = False := eq_false (Nat.not_lt.2 c8)
   obtain rfl := Option.some.inj H
   go_enter Tryz.func42, Tryz.ntmps42
   go_wp2_with (first|((with_reducible refine gate_callee (f := 42) rfl ?_); refine goesL_ (some 11) rfl rfl Tryz.func42 (by kernel_rfl) rfl #[.int .i64 (wrap64 (Int.tdiv a0 10))] rfl (by (try simp only [List.map_toArray, List.map_cons, List.map_nil]); first|done|rfl|(simp only [List.length_drop, List.length_take]; rfl)) ?_; (with_reducible refine (ih k (by omega) (wrap64 (Int.tdiv a0 10)) t176 _ A6.out).mono ?_); rintro e w' ⟨rfl, ⟨nd, rfl⟩⟩; refine ⟨_, rfl, ?_⟩)|((with_reducible refine gate_callee (f := 42) rfl ?_); refine goesL_ (some 14) rfl rfl Tryz.func42 (by kernel_rfl) rfl #[.int .i64 (Int.tmod a0 10)] rfl (by (try simp only [List.map_toArray, List.map_cons, List.map_nil]); first|done|rfl|(simp only [List.length_drop, List.length_take]; rfl)) ?_; (with_reducible refine (ih k (by omega) (Int.tmod a0 10) t177 _ A7.out).mono ?_); rintro e w' ⟨rfl, ⟨nd, rfl⟩⟩; refine ⟨_, rfl, ?_⟩))
   go_ret
   exact ⟨by first|rfl|(simp; done)|(simp [*]; done), by repeat (first|exact Drawn0.refl _|apply Drawn0.step)⟩
  ·rw [if_neg c8] at H
   exact absurd H (by simp)

end Go.Proofs.YtmgpbcpggnlkkaaGreatDoor.Pr
end
section
namespace Go.Proofs.YtmgpbcpggnlkkaaGreatDoor.Pr
open Go.RowKit Go.Proofs.YtmgpbcpggnlkkaaGreatDoorW.PrintWords Go.Proofs.YtmgpbcpggnlkkaaGreatDoorW.PrintLast Go.Proofs.YtmgpbcpggnlkkaaGreatDoorW.PrintMore
attribute [local go_sem] max2_int min2_int max_two min_two max_three min_three max_four min_four -- for this text's walks alone
set_option linter.unusedVariables false
set_option linter.unusedSimpArgs false

/-! ### stowageref27_head: function 25 -/
def stowageref27_head.l0 : Nat → Int → ByteArray → Int → Int → List (S51) → List Int → Option (ByteArray)
 | 0, _, _, _, _, _, _ => none
 | k + 1, x1, x7, x8, x179000, x179001, x179002 => if x8 < (x179001.length : Int) then (if 0 ≤ x8 then (if x7.size + ((rd_T51 x179001 x8).f0).size ≤ 9223372036854775807 then (if x7.size + ((rd_T51 x179001 x8).f0).size + 2 ≤ 9223372036854775807 then (if (x7.size + ((rd_T51 x179001 x8).f0).size) + 2 + ((rd_T51 x179001 x8).f1).size ≤ 9223372036854775807 then (if ((x7.size + ((rd_T51 x179001 x8).f0).size) + 2) + ((rd_T51 x179001 x8).f1).size + 2 ≤ 9223372036854775807 then (stowageref27_head.l0 k x1 ((((x7 ++ ((rd_T51 x179001 x8).f0)) ++ (⟨#[58, 32]⟩ : ByteArray)) ++ ((rd_T51 x179001 x8).f1)) ++ (⟨#[13, 10]⟩ : ByteArray)) (wrap64 (x8 + 1)) x179000 x179001 x179002) else (none)) else (none)) else (none)) else (none)) else (none)) else (if x7.size + 16 ≤ 9223372036854775807 then ((stowageref27_Dec.f k x1).bind fun t184 => (if x7.size + 16 + t184.size ≤ 9223372036854775807 then (if (x7.size + 16) + t184.size + 4 ≤ 9223372036854775807 then (some (((x7 ++ (⟨#[99, 111, 110, 116, 101, 110, 116, 45, 108, 101, 110, 103, 116, 104, 58, 32]⟩ : ByteArray)) ++ t184) ++ (⟨#[13, 10, 13, 10]⟩ : ByteArray))) else (none)) else (none))) else (none))
def stowageref27_head.f (k : Nat) (a0_0 : Int) (l0_1 : List (S51)) (l0_2 : List Int) (a1 : Int) : Option (ByteArray) := (stowageref27_Words.f a0_0).bind fun bt179 => ((stowageref27_Dec.f k a0_0).bind fun t181 => (if 9 + t181.size ≤ 9223372036854775807 then (if 9 + t181.size + 1 ≤ 9223372036854775807 then (if (9 + t181.size) + 1 + bt179.1.size ≤ 9223372036854775807 then (if ((9 + t181.size) + 1) + bt179.1.size + 2 ≤ 9223372036854775807 then (stowageref27_head.l0 k a1 (((((⟨#[72, 84, 84, 80, 47, 49, 46, 49, 32]⟩ : ByteArray) ++ t181) ++ (⟨#[32]⟩ : ByteArray)) ++ bt179.1) ++ (⟨#[13, 10]⟩ : ByteArray)) 0 a0_0 l0_1 l0_2) else (none)) else (none)) else (none)) else (none)))
theorem stowageref27_head.mono_l : ∀ k, (∀ y0 y1 y2 y3 y4 y5, LeO (stowageref27_head.l0 k y0 y1 y2 y3 y4 y5) (stowageref27_head.l0 (k + 1) y0 y1 y2 y3 y4 y5))
 | 0 => fun _ _ _ _ _ _ r h => by simp [stowageref27_head.l0] at h
 | k + 1 => by
  have ih0 := stowageref27_head.mono_l k
  ·intro y0 y1 y2 y3 y4 y5
   unfold stowageref27_head.l0
   repeat' first
   | (with_reducible exact ih0 _ _ _ _ _ _)
   | (with_reducible exact stowageref27_Dec.mono _ _)
   | (with_reducible exact LeO.refl _)
   | (with_reducible exact LeO.none _)
   | (with_reducible refine LeO.ite ?_ ?_)
   | (with_reducible refine LeO.bind ?_ (fun _ => ?_))
   | exact ih0 _ _ _ _ _ _
   | exact stowageref27_Dec.mono _ _
   | exact LeO.none _
   | refine LeO.ite ?_ ?_
   | refine LeO.bind ?_ (fun _ => ?_)
theorem stowageref27_head.mono : ∀ a0 a1 a2 a3 k, LeO (stowageref27_head.f k a0 a1 a2 a3) (stowageref27_head.f (k + 1) a0 a1 a2 a3) := by
 intro a0 a1 a2 a3 k
 have ih0 := stowageref27_head.mono_l k
 unfold stowageref27_head.f
 repeat' first
   | (with_reducible exact ih0 _ _ _ _ _ _)
   | (with_reducible exact stowageref27_Dec.mono _ _)
   | (with_reducible exact LeO.refl _)
   | (with_reducible exact LeO.none _)
   | (with_reducible refine LeO.ite ?_ ?_)
   | (with_reducible refine LeO.bind ?_ (fun _ => ?_))
   | exact ih0 _ _ _ _ _ _
   | exact stowageref27_Dec.mono _ _
   | exact LeO.none _
   | refine LeO.ite ?_ ?_
   | refine LeO.bind ?_ (fun _ => ?_)
set_option maxHeartbeats 8000000 in
set_option maxRecDepth 100000 in
theorem stowageref27_head.calls (k : Nat) (a0_0 : Int) (A0_1 : Option Addr) (c0_1 : Nat) (l0_1 : List (S51)) (A0_2 : Option Addr) (c0_2 : Nat) (l0_2 : List Int) (a1 : Int) (r : ByteArray) (w : World) (hr0_1 : Kd.C k51 w A0_1 l0_1.length l0_1) (hc0_1 : l0_1.length ≤ c0_1) (hr0_2 : Kd.C (Kd.int .u8) w A0_2 l0_2.length l0_2) (hc0_2 : l0_2.length ≤ c0_2) (h : stowageref27_head.f k a0_0 l0_1 l0_2 a1 = some r) :
  Calls Tryz.prog 25 #[.agg #[.int .i64 a0_0, .slice A0_1 l0_1.length c0_1, .slice A0_2 l0_2.length c0_2], .int .i64 a1] w fun e w' => e = .returned (.string r) ∧ Below w.heap.size w w' := by
 have hu26 := Tryz.underlying26
 have HR0_1 := Aside0.mk hr0_1
 have HC0_1 := Aside0.mk hc0_1
 clear hr0_1 hc0_1
 have HR0_2 := Aside0.mk hr0_2
 have HC0_2 := Aside0.mk hc0_2
 clear hr0_2 hc0_2
 have HB := Aside0.mk (Below.refl w.heap.size w)
 have H : ((stowageref27_Words.f a0_0).bind fun bt179 => ((stowageref27_Dec.f k a0_0).bind fun t181 => (if 9 + t181.size ≤ 9223372036854775807 then (if 9 + t181.size + 1 ≤ 9223372036854775807 then (if (9 + t181.size) + 1 + bt179.1.size ≤ 9223372036854775807 then (if ((9 + t181.size) + 1) + bt179.1.size + 2 ≤ 9223372036854775807 then (stowageref27_head.l0 k a1 (((((⟨#[72, 84, 84, 80, 47, 49, 46, 49, 32]⟩ : ByteArray) ++ t181) ++ (⟨#[32]⟩ : ByteArray)) ++ bt179.1) ++ (⟨#[13, 10]⟩ : ByteArray)) 0 a0_0 l0_1 l0_2) else (none)) else (none)) else (none)) else (none)))) = some r := h
 clear h
 replace H := Option.bind_eq_some_iff.mp H
 obtain ⟨⟨t179, t180⟩, A30, H⟩ := H
 replace H : ((stowageref27_Dec.f k a0_0).bind fun t181 => (if 9 + t181.size ≤ 9223372036854775807 then (if 9 + t181.size + 1 ≤ 9223372036854775807 then (if (9 + t181.size) + 1 + t179.size ≤ 9223372036854775807 then (if ((9 + t181.size) + 1) + t179.size + 2 ≤ 9223372036854775807 then (stowageref27_head.l0 k a1 (((((⟨#[72, 84, 84, 80, 47, 49, 46, 49, 32]⟩ : ByteArray) ++ t181) ++ (⟨#[32]⟩ : ByteArray)) ++ t179) ++ (⟨#[13, 10]⟩ : ByteArray)) 0 a0_0 l0_1 l0_2) else (none)) else (none)) else (none)) else (none))) = some r := H
 have A3 := Aside0.mk A30
 clear A30
 replace H := Option.bind_eq_some_iff.mp H
 obtain ⟨t181, A40, H⟩ := H
 replace H : (if 9 + t181.size ≤ 9223372036854775807 then (if 9 + t181.size + 1 ≤ 9223372036854775807 then (if (9 + t181.size) + 1 + t179.size ≤ 9223372036854775807 then (if ((9 + t181.size) + 1) + t179.size + 2 ≤ 9223372036854775807 then (stowageref27_head.l0 k a1 (((((⟨#[72, 84, 84, 80, 47, 49, 46, 49, 32]⟩ : ByteArray) ++ t181) ++ (⟨#[32]⟩ : ByteArray)) ++ t179) ++ (⟨#[13, 10]⟩ : ByteArray)) 0 a0_0 l0_1 l0_2) else (none)) else (none)) else (none)) else (none)) = some r := H
 have A4 := Aside0.mk A40
 clear A40
 by_cases c5 : 9 + t181.size ≤ 9223372036854775807
 ·rw [if_pos c5] at H
  have c5b0 := eq_true c5
  have c5b1 : decide (9 + t181.size ≤ 9223372036854775807) = true := decide_eq_true c5
  try have c5b2 : (9223372036854775807 < 9 + t181.size) = False := eq_false (Nat.not_lt.2 c5)
  by_cases c6 : 9 + t181.size + 1 ≤ 9223372036854775807
  ·rw [if_pos c6] at H
   have c6b0 := eq_true c6
   have c6b1 : decide (9 + t181.size + 1 ≤ 9223372036854775807) = true := decide_eq_true c6
   try have c6b2 : (9223372036854775807 < 9 + t181.size + 1) = False := eq_false (Nat.not_lt.2 c6)
   by_cases c7 : (9 + t181.size) + 1 + t179.size ≤ 9223372036854775807
   ·rw [if_pos c7] at H
    have c7b0 := eq_true c7
    have c7b1 : decide ((9 + t181.size) + 1 + t179.size ≤ 9223372036854775807) = true := decide_eq_true c7
    try have c7b2 : (9223372036854775807 < (9 + t181.size) + 1 + t179.size) = False := eq_false (Nat.not_lt.2 c7)
    by_cases c8 : ((9 + t181.size) + 1) + t179.size + 2 ≤ 9223372036854775807
    ·rw [if_pos c8] at H
     have c8b0 := eq_true c8
     have c8b1 : decide (((9 + t181.size) + 1) + t179.size + 2 ≤ 9223372036854775807) = true := decide_eq_true c8
     try have c8b2 : (9223372036854775807 < ((9 + t181.size) + 1) + t179.size + 2) = False := eq_false (Nat.not_lt.2 c8)
     have H' := Aside0.mk H
     clear H
     go_enter Tryz.func25, Tryz.ntmps25
     go_wp2_with (first|((with_reducible refine gate_dst (N := 2) rfl ?_); refine box_event ?hg (N := 2) ?hd (cs := #[.int .i64 a0_0, .slice A0_1 l0_1.length c0_1, .slice A0_2 l0_2.length c0_2]) (t := 26) ?hr ?_; (case hd => rfl); (case hg => rfl); (case hr => first|(go_simp; done)|(go_simp; rfl)); intro gb178 hg w9 hbox hb; have n0_ := Aside0.mk (below_step (by repeat (first|(with_reducible first|exact HB.out|apply below_alloc|apply pw_below_drewN|apply below_drew1)|exact HB.out)) hb); have n1_ := Aside0.mk (hbox); have n2_ := Aside0.mk ((by rw [hg]; exact (below_size (by repeat (first|(with_reducible first|exact HB.out|apply below_alloc|apply pw_below_drewN|apply below_drew1)|exact HB.out))) : w.heap.size ≤ gb178)); have n3_ := Aside0.mk ((by rw [hg]; exact (below_size (by repeat (first|(with_reducible first|exact HB.out|apply below_alloc|apply pw_below_drewN|apply below_drew1)|exact HB.out))) : w.heap.size ≤ gb178)); clear HB; have HB := n0_; have BK178 := n1_; have GW178 := n2_; have GE178 := n3_; clear n0_ n1_ n2_ n3_; clear hb hbox hg; have hcz10_0 : w9.cell? ⟨gb178, 0, none⟩ = some (.int .i64 a0_0) := (blk_cell BK178.out 0).trans rfl; have hcz10_1 : w9.cell? ⟨gb178, 1, none⟩ = some (.slice A0_1 l0_1.length c0_1) := (blk_cell BK178.out 1).trans rfl; have hcz10_2 : w9.cell? ⟨gb178, 2, none⟩ = some (.slice A0_2 l0_2.length c0_2) := (blk_cell BK178.out 2).trans rfl; have hfz10_0 := blk_frozen BK178.out 0; have hfz10_1 := blk_frozen BK178.out 1; have hfz10_2 := blk_frozen BK178.out 2)|(go_at_call 17; (with_reducible refine (stowageref27_Words.calls a0_0 t179 t180 _ A3.out).mono ?_); rintro e w' ⟨rfl, ⟨nd, rfl⟩⟩; (try first|exact ⟨rfl, _, World.drewN_drewN _ _ _⟩|exact ⟨rfl, _, Eq.trans (World.drewN_drewN _ _ _) (congrArg (World.drewN _) (Nat.add_assoc _ _ _))⟩))|(go_at_call 42; (with_reducible refine (stowageref27_Dec.calls k a0_0 t181 _ A4.out).mono ?_); rintro e w' ⟨rfl, ⟨nd, rfl⟩⟩; (try first|exact ⟨rfl, _, World.drewN_drewN _ _ _⟩|exact ⟨rfl, _, Eq.trans (World.drewN_drewN _ _ _) (congrArg (World.drewN _) (Nat.add_assoc _ _ _))⟩)))
     repeat (go_quiet (first|((with_reducible refine gate_dst (N := 2) rfl ?_); refine box_event ?hg (N := 2) ?hd (cs := #[.int .i64 a0_0, .slice A0_1 l0_1.length c0_1, .slice A0_2 l0_2.length c0_2]) (t := 26) ?hr ?_; (case hd => rfl); (case hg => rfl); (case hr => first|(go_simp; done)|(go_simp; rfl)); intro gb178 hg w9 hbox hb; have n0_ := Aside0.mk (below_step (by repeat (first|(with_reducible first|exact HB.out|apply below_alloc|apply pw_below_drewN|apply below_drew1)|exact HB.out)) hb); have n1_ := Aside0.mk (hbox); have n2_ := Aside0.mk ((by rw [hg]; exact (below_size (by repeat (first|(with_reducible first|exact HB.out|apply below_alloc|apply pw_below_drewN|apply below_drew1)|exact HB.out))) : w.heap.size ≤ gb178)); have n3_ := Aside0.mk ((by rw [hg]; exact (below_size (by repeat (first|(with_reducible first|exact HB.out|apply below_alloc|apply pw_below_drewN|apply below_drew1)|exact HB.out))) : w.heap.size ≤ gb178)); clear HB; have HB := n0_; have BK178 := n1_; have GW178 := n2_; have GE178 := n3_; clear n0_ n1_ n2_ n3_; clear hb hbox hg; have hcz10_0 : w9.cell? ⟨gb178, 0, none⟩ = some (.int .i64 a0_0) := (blk_cell BK178.out 0).trans rfl; have hcz10_1 : w9.cell? ⟨gb178, 1, none⟩ = some (.slice A0_1 l0_1.length c0_1) := (blk_cell BK178.out 1).trans rfl; have hcz10_2 : w9.cell? ⟨gb178, 2, none⟩ = some (.slice A0_2 l0_2.length c0_2) := (blk_cell BK178.out 2).trans rfl; have hfz10_0 := blk_frozen BK178.out 0; have hfz10_1 := blk_frozen BK178.out 1; have hfz10_2 := blk_frozen BK178.out 2)|(go_at_call 17; (with_reducible refine (stowageref27_Words.calls a0_0 t179 t180 _ A3.out).mono ?_); rintro e w' ⟨rfl, ⟨nd, rfl⟩⟩; (try first|exact ⟨rfl, _, World.drewN_drewN _ _ _⟩|exact ⟨rfl, _, Eq.trans (World.drewN_drewN _ _ _) (congrArg (World.drewN _) (Nat.add_assoc _ _ _))⟩))|(go_at_call 42; (with_reducible refine (stowageref27_Dec.calls k a0_0 t181 _ A4.out).mono ?_); rintro e w' ⟨rfl, ⟨nd, rfl⟩⟩; (try first|exact ⟨rfl, _, World.drewN_drewN _ _ _⟩|exact ⟨rfl, _, Eq.trans (World.drewN_drewN _ _ _) (congrArg (World.drewN _) (Nat.add_assoc _ _ _))⟩))); try go_wp2_with (first|((with_reducible refine gate_dst (N := 2) rfl ?_); refine box_event ?hg (N := 2) ?hd (cs := #[.int .i64 a0_0, .slice A0_1 l0_1.length c0_1, .slice A0_2 l0_2.length c0_2]) (t := 26) ?hr ?_; (case hd => rfl); (case hg => rfl); (case hr => first|(go_simp; done)|(go_simp; rfl)); intro gb178 hg w9 hbox hb; have n0_ := Aside0.mk (below_step (by repeat (first|(with_reducible first|exact HB.out|apply below_alloc|apply pw_below_drewN|apply below_drew1)|exact HB.out)) hb); have n1_ := Aside0.mk (hbox); have n2_ := Aside0.mk ((by rw [hg]; exact (below_size (by repeat (first|(with_reducible first|exact HB.out|apply below_alloc|apply pw_below_drewN|apply below_drew1)|exact HB.out))) : w.heap.size ≤ gb178)); have n3_ := Aside0.mk ((by rw [hg]; exact (below_size (by repeat (first|(with_reducible first|exact HB.out|apply below_alloc|apply pw_below_drewN|apply below_drew1)|exact HB.out))) : w.heap.size ≤ gb178)); clear HB; have HB := n0_; have BK178 := n1_; have GW178 := n2_; have GE178 := n3_; clear n0_ n1_ n2_ n3_; clear hb hbox hg; have hcz10_0 : w9.cell? ⟨gb178, 0, none⟩ = some (.int .i64 a0_0) := (blk_cell BK178.out 0).trans rfl; have hcz10_1 : w9.cell? ⟨gb178, 1, none⟩ = some (.slice A0_1 l0_1.length c0_1) := (blk_cell BK178.out 1).trans rfl; have hcz10_2 : w9.cell? ⟨gb178, 2, none⟩ = some (.slice A0_2 l0_2.length c0_2) := (blk_cell BK178.out 2).trans rfl; have hfz10_0 := blk_frozen BK178.out 0; have hfz10_1 := blk_frozen BK178.out 1; have hfz10_2 := blk_frozen BK178.out 2)|(go_at_call 17; (with_reducible refine (stowageref27_Words.calls a0_0 t179 t180 _ A3.out).mono ?_); rintro e w' ⟨rfl, ⟨nd, rfl⟩⟩; (try first|exact ⟨rfl, _, World.drewN_drewN _ _ _⟩|exact ⟨rfl, _, Eq.trans (World.drewN_drewN _ _ _) (congrArg (World.drewN _) (Nat.add_assoc _ _ _))⟩))|(go_at_call 42; (with_reducible refine (stowageref27_Dec.calls k a0_0 t181 _ A4.out).mono ?_); rintro e w' ⟨rfl, ⟨nd, rfl⟩⟩; (try first|exact ⟨rfl, _, World.drewN_drewN _ _ _⟩|exact ⟨rfl, _, Eq.trans (World.drewN_drewN _ _ _) (congrArg (World.drewN _) (Nat.add_assoc _ _ _))⟩))))
     go_loopg [7, 8] k (fun kq v7 v8 w' => ∃ (x7_1 : ByteArray) (x8_1 : Int), v7 = .string x7_1 ∧ v8 = .int .i64 x8_1 ∧ Aside0 (stowageref27_head.l0 kq a1 x7_1 x8_1 a0_0 l0_1 l0_2 = some r) ∧ Aside0 (kq ≤ k) ∧ Aside0 (w'.heap[gb178]? = some (.cells #[.int .i64 a0_0, (.slice A0_1 l0_1.length c0_1), (.slice A0_2 l0_2.length c0_2)] 26 (0, 0))) ∧ Aside0 (Below w.heap.size w w'))
     case atStart => exact ⟨(((((⟨#[72, 84, 84, 80, 47, 49, 46, 49, 32]⟩ : ByteArray) ++ t181) ++ (⟨#[32]⟩ : ByteArray)) ++ t179) ++ (⟨#[13, 10]⟩ : ByteArray)), (0), (by first|rfl|(simp; done)|(simp [*]; done)), (by first|rfl|(simp; done)|(simp [*]; done)), H', ⟨Nat.le_refl _⟩, ⟨by (with_reducible repeat (first|refine blk_drewN ?_ _|refine blk_drew ?_|refine blk_alloc ?_ _)); exact BK178.out⟩, ⟨by repeat (first|(with_reducible first|exact HB.out|apply below_alloc|apply pw_below_drewN|apply below_drew1|refine below_set ?_ GE178.out)|exact HB.out)⟩⟩
     case round =>
      clear H'
      try clear c2
      try clear p2
      try clear c5
      try clear c5b0
      try clear c5b1
      try clear c5b2
      try clear c6
      try clear c6b0
      try clear c6b1
      try clear c6b2
      try clear c7
      try clear c7b0
      try clear c7b1
      try clear c7b2
      try clear c8
      try clear c8b0
      try clear c8b1
      try clear c8b2
      try clear hcz10_0
      try clear hcz10_1
      try clear hcz10_2
      try clear hfz10_0
      try clear hfz10_1
      try clear hfz10_2
      obtain ⟨x7_1, x8_1, rfl, rfl, HA, HK1, BK178, HB⟩ := hrel
      cases gk with
      | zero => exact absurd HA.out (by simp [stowageref27_head.l0])
      | succ k1 =>
       have H := HA.out
       clear HA
       simp only [stowageref27_head.l0] at H
       by_cases c11 : x8_1 < (l0_1.length : Int)
       ·rw [if_pos c11] at H
        have c11b0 : decide (x8_1 < (l0_1.length : Int)) = true := decide_eq_true c11
        clear c11
        by_cases c12 : 0 ≤ x8_1
        ·rw [if_pos c12] at H
         have c12b0 : decide (0 ≤ x8_1) = true := decide_eq_true c12
         clear c12
         by_cases c13 : x7_1.size + ((rd_T51 l0_1 x8_1).f0).size ≤ 9223372036854775807
         ·rw [if_pos c13] at H
          have c13b0 := eq_true c13
          have c13b1 : decide (x7_1.size + ((rd_T51 l0_1 x8_1).f0).size ≤ 9223372036854775807) = true := decide_eq_true c13
          try have c13b2 : (9223372036854775807 < x7_1.size + ((rd_T51 l0_1 x8_1).f0).size) = False := eq_false (Nat.not_lt.2 c13)
          by_cases c14 : x7_1.size + ((rd_T51 l0_1 x8_1).f0).size + 2 ≤ 9223372036854775807
          ·rw [if_pos c14] at H
           have c14b0 := eq_true c14
           have c14b1 : decide (x7_1.size + ((rd_T51 l0_1 x8_1).f0).size + 2 ≤ 9223372036854775807) = true := decide_eq_true c14
           try have c14b2 : (9223372036854775807 < x7_1.size + ((rd_T51 l0_1 x8_1).f0).size + 2) = False := eq_false (Nat.not_lt.2 c14)
           by_cases c15 : (x7_1.size + ((rd_T51 l0_1 x8_1).f0).size) + 2 + ((rd_T51 l0_1 x8_1).f1).size ≤ 9223372036854775807
           ·rw [if_pos c15] at H
            have c15b0 := eq_true c15
            have c15b1 : decide ((x7_1.size + ((rd_T51 l0_1 x8_1).f0).size) + 2 + ((rd_T51 l0_1 x8_1).f1).size ≤ 9223372036854775807) = true := decide_eq_true c15
            try have c15b2 : (9223372036854775807 < (x7_1.size + ((rd_T51 l0_1 x8_1).f0).size) + 2 + ((rd_T51 l0_1 x8_1).f1).size) = False := eq_false (Nat.not_lt.2 c15)
            by_cases c16 : ((x7_1.size + ((rd_T51 l0_1 x8_1).f0).size) + 2) + ((rd_T51 l0_1 x8_1).f1).size + 2 ≤ 9223372036854775807
            ·rw [if_pos c16] at H
             have c16b0 := eq_true c16
             have c16b1 : decide (((x7_1.size + ((rd_T51 l0_1 x8_1).f0).size) + 2) + ((rd_T51 l0_1 x8_1).f1).size + 2 ≤ 9223372036854775807) = true := decide_eq_true c16
             try have c16b2 : (9223372036854775807 < ((x7_1.size + ((rd_T51 l0_1 x8_1).f0).size) + 2) + ((rd_T51 l0_1 x8_1).f1).size + 2) = False := eq_false (Nat.not_lt.2 c16)
             have H' := Aside0.mk H
             clear H
             have hcz17_0 : wr.cell? ⟨gb178, 0, none⟩ = some (.int .i64 a0_0) := (blk_cell BK178.out 0).trans rfl
             have hcz17_1 : wr.cell? ⟨gb178, 1, none⟩ = some (.slice A0_1 l0_1.length c0_1) := (blk_cell BK178.out 1).trans rfl
             have hcz17_2 : wr.cell? ⟨gb178, 2, none⟩ = some (.slice A0_2 l0_2.length c0_2) := (blk_cell BK178.out 2).trans rfl
             have hfz17_0 := blk_frozen BK178.out 0
             have hfz17_1 := blk_frozen BK178.out 1
             have hfz17_2 := blk_frozen BK178.out 2
             have p182 : 0 ≤ (x8_1 : Int) := of_decide_eq_true (by first|(with_reducible assumption)|assumption)
             have q182 : x8_1 < (l0_1.length : Int) := of_decide_eq_true (by first|(with_reducible assumption)|assumption)
             obtain ⟨ad182, e182, hx182_0, hx182_1⟩ := at_T51 HR0_1.out x8_1 p182 q182
             cases e182
             replace hx182_0 := (HB.out.cell (World.block_lt_of_cell? w _ hx182_0)).trans hx182_0
             replace hx182_1 := (HB.out.cell (World.block_lt_of_cell? w _ hx182_1)).trans hx182_1
             replace p182 := eq_true p182
             replace q182 := eq_true q182
             have p183 : 0 ≤ (x8_1 : Int) := of_decide_eq_true (by first|(with_reducible assumption)|assumption)
             have q183 : x8_1 < (l0_1.length : Int) := of_decide_eq_true (by first|(with_reducible assumption)|assumption)
             obtain ⟨ad183, e183, hx183_0, hx183_1⟩ := at_T51 HR0_1.out x8_1 p183 q183
             obtain rfl : ad182 = ad183 := (by injection e183)
             replace hx183_0 := (HB.out.cell (World.block_lt_of_cell? w _ hx183_0)).trans hx183_0
             replace hx183_1 := (HB.out.cell (World.block_lt_of_cell? w _ hx183_1)).trans hx183_1
             replace p183 := eq_true p183
             replace q183 := eq_true q183
             go_wp2
             repeat (go_quiet (fail); try go_wp2)
             go_roundg k1
             case measure => have := HK1.out; omega
             case rel => exact ⟨((((x7_1 ++ ((rd_T51 l0_1 x8_1).f0)) ++ (⟨#[58, 32]⟩ : ByteArray)) ++ ((rd_T51 l0_1 x8_1).f1)) ++ (⟨#[13, 10]⟩ : ByteArray)), (wrap64 (x8_1 + 1)), (by first|rfl|(simp; done)|(simp [*]; done)), (by first|rfl|(simp; done)|(simp [*]; done)), H', ⟨by have := HK1.out; omega⟩, ⟨by (with_reducible repeat (first|refine blk_drewN ?_ _|refine blk_drew ?_|refine blk_alloc ?_ _)); exact BK178.out⟩, ⟨by repeat (first|(with_reducible first|exact HB.out|apply below_alloc|apply pw_below_drewN|apply below_drew1|refine below_set ?_ GE178.out)|exact HB.out)⟩⟩
            ·rw [if_neg c16] at H
             exact absurd H (by simp)
           ·rw [if_neg c15] at H
            exact absurd H (by simp)
          ·rw [if_neg c14] at H
           exact absurd H (by simp)
         ·rw [if_neg c13] at H
          exact absurd H (by simp)
        ·rw [if_neg c12] at H
         exact absurd H (by simp)
       ·rw [if_neg c11] at H
        have c11b0 : decide (x8_1 < (l0_1.length : Int)) = false := decide_eq_false c11
        clear c11
        by_cases c18 : x7_1.size + 16 ≤ 9223372036854775807
        ·rw [if_pos c18] at H
         have c18b0 := eq_true c18
         have c18b1 : decide (x7_1.size + 16 ≤ 9223372036854775807) = true := decide_eq_true c18
         try have c18b2 : (9223372036854775807 < x7_1.size + 16) = False := eq_false (Nat.not_lt.2 c18)
         replace H := Option.bind_eq_some_iff.mp H
         obtain ⟨t184, A190, H⟩ := H
         replace H : (if x7_1.size + 16 + t184.size ≤ 9223372036854775807 then (if (x7_1.size + 16) + t184.size + 4 ≤ 9223372036854775807 then (some (((x7_1 ++ (⟨#[99, 111, 110, 116, 101, 110, 116, 45, 108, 101, 110, 103, 116, 104, 58, 32]⟩ : ByteArray)) ++ t184) ++ (⟨#[13, 10, 13, 10]⟩ : ByteArray))) else (none)) else (none)) = some r := H
         have A19 := Aside0.mk A190
         clear A190
         by_cases c20 : x7_1.size + 16 + t184.size ≤ 9223372036854775807
         ·rw [if_pos c20] at H
          have c20b0 := eq_true c20
          have c20b1 : decide (x7_1.size + 16 + t184.size ≤ 9223372036854775807) = true := decide_eq_true c20
          try have c20b2 : (9223372036854775807 < x7_1.size + 16 + t184.size) = False := eq_false (Nat.not_lt.2 c20)
          by_cases c21 : (x7_1.size + 16) + t184.size + 4 ≤ 9223372036854775807
          ·rw [if_pos c21] at H
           have c21b0 := eq_true c21
           have c21b1 : decide ((x7_1.size + 16) + t184.size + 4 ≤ 9223372036854775807) = true := decide_eq_true c21
           try have c21b2 : (9223372036854775807 < (x7_1.size + 16) + t184.size + 4) = False := eq_false (Nat.not_lt.2 c21)
           obtain rfl := Option.some.inj H
           have hcz22_0 : wr.cell? ⟨gb178, 0, none⟩ = some (.int .i64 a0_0) := (blk_cell BK178.out 0).trans rfl
           have hcz22_1 : wr.cell? ⟨gb178, 1, none⟩ = some (.slice A0_1 l0_1.length c0_1) := (blk_cell BK178.out 1).trans rfl
           have hcz22_2 : wr.cell? ⟨gb178, 2, none⟩ = some (.slice A0_2 l0_2.length c0_2) := (blk_cell BK178.out 2).trans rfl
           have hfz22_0 := blk_frozen BK178.out 0
           have hfz22_1 := blk_frozen BK178.out 1
           have hfz22_2 := blk_frozen BK178.out 2
           go_wp2_with (first|(go_at_call 42; (with_reducible refine (stowageref27_Dec.calls k1 a1 t184 _ A19.out).mono ?_); rintro e w' ⟨rfl, ⟨nd, rfl⟩⟩; (try first|exact ⟨rfl, _, World.drewN_drewN _ _ _⟩|exact ⟨rfl, _, Eq.trans (World.drewN_drewN _ _ _) (congrArg (World.drewN _) (Nat.add_assoc _ _ _))⟩)))
           repeat (go_quiet (first|(go_at_call 42; (with_reducible refine (stowageref27_Dec.calls k1 a1 t184 _ A19.out).mono ?_); rintro e w' ⟨rfl, ⟨nd, rfl⟩⟩; (try first|exact ⟨rfl, _, World.drewN_drewN _ _ _⟩|exact ⟨rfl, _, Eq.trans (World.drewN_drewN _ _ _) (congrArg (World.drewN _) (Nat.add_assoc _ _ _))⟩))); try go_wp2_with (first|(go_at_call 42; (with_reducible refine (stowageref27_Dec.calls k1 a1 t184 _ A19.out).mono ?_); rintro e w' ⟨rfl, ⟨nd, rfl⟩⟩; (try first|exact ⟨rfl, _, World.drewN_drewN _ _ _⟩|exact ⟨rfl, _, Eq.trans (World.drewN_drewN _ _ _) (congrArg (World.drewN _) (Nat.add_assoc _ _ _))⟩))))
           go_ret
           exact ⟨by first|rfl|(simp [errW_none, errW_some] <;> rfl)|(simp [*, errW_none, errW_some] <;> rfl), by repeat (first|(with_reducible first|exact HB.out|apply below_alloc|apply pw_below_drewN|apply below_drew1|refine below_set ?_ GE178.out)|exact HB.out)⟩
          ·rw [if_neg c21] at H
           exact absurd H (by simp)
         ·rw [if_neg c20] at H
          exact absurd H (by simp)
        ·rw [if_neg c18] at H
         exact absurd H (by simp)
    ·rw [if_neg c8] at H
     exact absurd H (by simp)
   ·rw [if_neg c7] at H
    exact absurd H (by simp)
  ·rw [if_neg c6] at H
   exact absurd H (by simp)
 ·rw [if_neg c5] at H
  exact absurd H (by simp)

end Go.Proofs.YtmgpbcpggnlkkaaGreatDoor.Pr
end
section
namespace Go.Proofs.YtmgpbcpggnlkkaaGreatDoor.Pr
open Go.RowKit Go.Proofs.YtmgpbcpggnlkkaaGreatDoorW.PrintWords Go.Proofs.YtmgpbcpggnlkkaaGreatDoorW.PrintLast Go.Proofs.YtmgpbcpggnlkkaaGreatDoorW.PrintMore
attribute [local go_sem] max2_int min2_int max_two min_two max_three min_three max_four min_four -- for this text's walks alone
set_option linter.unusedVariables false
set_option linter.unusedSimpArgs false

/-! ### stowageref27_may: function 41 -/
mutual
def stowageref27_may.l0 : Nat → Int → ByteArray → ByteArray → Option (Bool)
 | 0, _, _, _ => none
 | k + 1, x3, x171000, x171001 => if x3 < (x171000.size : Int) then (if 0 ≤ x3 then (if (bt x171000 x3) < 97 then (if (bt x171000 x3) < 48 then (stowageref27_may.j1 k x3 ((bt x171000 x3) != 45) x171000 x171001) else (if (bt x171000 x3) > 57 then (stowageref27_may.j1 k x3 ((bt x171000 x3) != 45) x171000 x171001) else (stowageref27_may.j1 k x3 false x171000 x171001))) else (if (bt x171000 x3) > 122 then (if (bt x171000 x3) < 48 then (stowageref27_may.j1 k x3 ((bt x171000 x3) != 45) x171000 x171001) else (if (bt x171000 x3) > 57 then (stowageref27_may.j1 k x3 ((bt x171000 x3) != 45) x171000 x171001) else (stowageref27_may.j1 k x3 false x171000 x171001))) else (stowageref27_may.j1 k x3 false x171000 x171001))) else (none)) else (stowageref27_may.l1 k 0 x171000 x171001)
def stowageref27_may.j1 : Nat → Int → Bool → ByteArray → ByteArray → Option (Bool)
 | 0, _, _, _, _ => none
 | k + 1, x3, x35, x171000, x171001 => if x35 = true then (some false) else (stowageref27_may.l0 k (wrap64 (x3 + 1)) x171000 x171001)
def stowageref27_may.l1 : Nat → Int → ByteArray → ByteArray → Option (Bool)
 | 0, _, _, _ => none
 | k + 1, x5, x171000, x171001 => if x5 < (x171001.size : Int) then (if 0 ≤ x5 then (if (bt x171001 x5) < 32 then (some false) else (if (bt x171001 x5) > 126 then (some false) else (stowageref27_may.l1 k (wrap64 (x5 + 1)) x171000 x171001))) else (none)) else (if (x171000.size : Int) ≥ 1 then (if (x171000.size : Int) ≤ 40 then (if x171000.toList = ([99, 111, 110, 116, 101, 110, 116, 45, 108, 101, 110, 103, 116, 104] : List UInt8) then (some false) else (if (x171001.size : Int) ≤ 1000 then (if (x171001.size : Int) = 0 then (some true) else (if 0 < (x171001.size : Int) then (if (bt x171001 0) = 32 then (some false) else (if 0 ≤ (wrap64 ((x171001.size : Int) - 1)) then (if (wrap64 ((x171001.size : Int) - 1)) < (x171001.size : Int) then (some ((bt x171001 (wrap64 ((x171001.size : Int) - 1))) != 32)) else (none)) else (none))) else (none))) else (some false))) else (some false)) else (some false))
end
def stowageref27_may.f (k : Nat) (a0_0 : ByteArray) (a0_1 : ByteArray) : Option (Bool) := stowageref27_may.l0 k 0 a0_0 a0_1
theorem stowageref27_may.mono_l : ∀ k, (∀ y0 y1 y2, LeO (stowageref27_may.l0 k y0 y1 y2) (stowageref27_may.l0 (k + 1) y0 y1 y2)) ∧ (∀ y0 y1 y2 y3, LeO (stowageref27_may.j1 k y0 y1 y2 y3) (stowageref27_may.j1 (k + 1) y0 y1 y2 y3)) ∧ (∀ y0 y1 y2, LeO (stowageref27_may.l1 k y0 y1 y2) (stowageref27_may.l1 (k + 1) y0 y1 y2))
 | 0 => ⟨fun _ _ _ r h => by simp [stowageref27_may.l0] at h, fun _ _ _ _ r h => by simp [stowageref27_may.j1] at h, fun _ _ _ r h => by simp [stowageref27_may.l1] at h⟩
 | k + 1 => by
  obtain ⟨ih0, ih1, ih2⟩ := stowageref27_may.mono_l k
  refine ⟨?_, ?_, ?_⟩
  ·intro y0 y1 y2
   unfold stowageref27_may.l0
   repeat' first
   | (with_reducible exact ih0 _ _ _)
   | (with_reducible exact ih1 _ _ _ _)
   | (with_reducible exact ih2 _ _ _)
   | (with_reducible exact LeO.refl _)
   | (with_reducible exact LeO.none _)
   | (with_reducible refine LeO.ite ?_ ?_)
   | (with_reducible refine LeO.bind ?_ (fun _ => ?_))
   | exact ih0 _ _ _
   | exact ih1 _ _ _ _
   | exact ih2 _ _ _
   | exact LeO.none _
   | refine LeO.ite ?_ ?_
   | refine LeO.bind ?_ (fun _ => ?_)
  ·intro y0 y1 y2 y3
   unfold stowageref27_may.j1
   repeat' first
   | (with_reducible exact ih0 _ _ _)
   | (with_reducible exact ih1 _ _ _ _)
   | (with_reducible exact ih2 _ _ _)
   | (with_reducible exact LeO.refl _)
   | (with_reducible exact LeO.none _)
   | (with_reducible refine LeO.ite ?_ ?_)
   | (with_reducible refine LeO.bind ?_ (fun _ => ?_))
   | exact ih0 _ _ _
   | exact ih1 _ _ _ _
   | exact ih2 _ _ _
   | exact LeO.none _
   | refine LeO.ite ?_ ?_
   | refine LeO.bind ?_ (fun _ => ?_)
  ·intro y0 y1 y2
   unfold stowageref27_may.l1
   repeat' first
   | (with_reducible exact ih0 _ _ _)
   | (with_reducible exact ih1 _ _ _ _)
   | (with_reducible exact ih2 _ _ _)
   | (with_reducible exact LeO.refl _)
   | (with_reducible exact LeO.none _)
   | (with_reducible refine LeO.ite ?_ ?_)
   | (with_reducible refine LeO.bind ?_ (fun _ => ?_))
   | exact ih0 _ _ _
   | exact ih1 _ _ _ _
   | exact ih2 _ _ _
   | exact LeO.none _
   | refine LeO.ite ?_ ?_
   | refine LeO.bind ?_ (fun _ => ?_)
theorem stowageref27_may.mono : ∀ a0 a1 k, LeO (stowageref27_may.f k a0 a1) (stowageref27_may.f (k + 1) a0 a1) := by
 intro a0 a1 k
 obtain ⟨ih0, ih1, ih2⟩ := stowageref27_may.mono_l k
 unfold stowageref27_may.f
 repeat' first
   | (with_reducible exact ih0 _ _ _)
   | (with_reducible exact ih1 _ _ _ _)
   | (with_reducible exact ih2 _ _ _)
   | (with_reducible exact LeO.refl _)
   | (with_reducible exact LeO.none _)
   | (with_reducible refine LeO.ite ?_ ?_)
   | (with_reducible refine LeO.bind ?_ (fun _ => ?_))
   | exact ih0 _ _ _
   | exact ih1 _ _ _ _
   | exact ih2 _ _ _
   | exact LeO.none _
   | refine LeO.ite ?_ ?_
   | refine LeO.bind ?_ (fun _ => ?_)
set_option maxHeartbeats 8000000 in
set_option maxRecDepth 100000 in
theorem stowageref27_may.calls (k : Nat) (a0_0 : ByteArray) (a0_1 : ByteArray) (r : Bool) (w : World) (h : stowageref27_may.f k a0_0 a0_1 = some r) :
  Calls Tryz.prog 41 #[.agg #[.string a0_0, .string a0_1]] w fun e w' => e = .returned (.bool r) ∧ Below w.heap.size w w' := by
 have hu51 := Tryz.underlying51
 have HB := Aside0.mk (Below.refl w.heap.size w)
 have H : (stowageref27_may.l0 k 0 a0_0 a0_1) = some r := h
 clear h
 have H' := Aside0.mk H
 clear H
 go_enter Tryz.func41, Tryz.ntmps41
 go_wp2_with (first|((with_reducible refine gate_dst (N := 1) rfl ?_); (try (refine gate_guard (by rfl) ?_; dsimp only)); refine box_event ?hg (N := 1) ?hd (cs := #[.string a0_0, .string a0_1]) (t := 51) ?hr ?_; (case hd => rfl); (case hg => rfl); (case hr => first|(go_simp; done)|(go_simp; rfl)); intro gb170 hg w2 hbox hb; have n0_ := Aside0.mk (below_step (by repeat (first|(with_reducible first|exact HB.out|apply below_alloc|apply pw_below_drewN|apply below_drew1)|exact HB.out)) hb); have n1_ := Aside0.mk (hbox); have n2_ := Aside0.mk ((by rw [hg]; exact (below_size (by repeat (first|(with_reducible first|exact HB.out|apply below_alloc|apply pw_below_drewN|apply below_drew1)|exact HB.out))) : w.heap.size ≤ gb170)); have n3_ := Aside0.mk ((by rw [hg]; exact (below_size (by repeat (first|(with_reducible first|exact HB.out|apply below_alloc|apply pw_below_drewN|apply below_drew1)|exact HB.out))) : w.heap.size ≤ gb170)); clear HB; have HB := n0_; have BK170 := n1_; have GW170 := n2_; have GE170 := n3_; clear n0_ n1_ n2_ n3_; clear hb hbox hg))
 go_loopg [3] k (fun kq v3 w' => ∃ (x3_1 : Int), v3 = .int .i64 x3_1 ∧ Aside0 (stowageref27_may.l0 kq x3_1 a0_0 a0_1 = some r) ∧ Aside0 (kq ≤ k) ∧ Aside0 (w'.heap[gb170]? = some (.cells #[.string a0_0, .string a0_1] 51 (0, 0))) ∧ Aside0 (Below w.heap.size w w'))
 case atStart => exact ⟨(0), (by first|rfl|(simp; done)|(simp [*]; done)), H', ⟨Nat.le_refl _⟩, ⟨by (with_reducible repeat (first|refine blk_drewN ?_ _|refine blk_drew ?_|refine blk_alloc ?_ _)); exact BK170.out⟩, ⟨by repeat (first|(with_reducible first|exact HB.out|apply below_alloc|apply pw_below_drewN|apply below_drew1|refine below_set ?_ GE170.out)|exact HB.out)⟩⟩
 case round =>
  clear H'
  try clear p2
  obtain ⟨x3_1, rfl, HA, HK1, BK170, HB⟩ := hrel
  cases gk with
  | zero => exact absurd HA.out (by simp [stowageref27_may.l0])
  | succ k1 =>
   have H := HA.out
   clear HA
   simp only [stowageref27_may.l0] at H
   by_cases c3 : x3_1 < (a0_0.size : Int)
   ·rw [if_pos c3] at H
    have c3b0 : decide (x3_1 < (a0_0.size : Int)) = true := decide_eq_true c3
    clear c3
    by_cases c4 : 0 ≤ x3_1
    ·rw [if_pos c4] at H
     have c4b0 : decide (0 ≤ x3_1) = true := decide_eq_true c4
     clear c4
     have HC6 := Aside0.mk H
     clear H
     have hcz7_0 : wr.cell? ⟨gb170, 0, none⟩ = some (.string a0_0) := (blk_cell BK170.out 0).trans rfl
     have hcz7_1 : wr.cell? ⟨gb170, 1, none⟩ = some (.string a0_1) := (blk_cell BK170.out 1).trans rfl
     have hfz7_0 := blk_frozen BK170.out 0
     have hfz7_1 := blk_frozen BK170.out 1
     have p5 : 0 ≤ (x3_1 : Int) := of_decide_eq_true (by first|(with_reducible assumption)|assumption)
     have q5 : x3_1 < (a0_0.size : Int) := of_decide_eq_true (by first|(with_reducible assumption)|assumption)
     have hx5 := bt_at a0_0 x3_1
     replace p5 := eq_true p5
     replace q5 := eq_true q5
     go_upto_region 5 with (fail)
     go_cut [35] (fun v35 wc => ∃ (kq : Nat) (x35_5 : Bool), v35 = .bool x35_5 ∧ Aside0 (stowageref27_may.j1 kq x3_1 x35_5 a0_0 a0_1 = some r) ∧ Aside0 (kq ≤ k1) ∧ Aside0 (wc.heap[gb170]? = some (.cells #[.string a0_0, .string a0_1] 51 (0, 0))) ∧ Aside0 (Below w.heap.size w wc))
     case first =>
      have H := HC6.out
      clear HC6
      by_cases c8 : (bt a0_0 x3_1) < 97
      ·rw [if_pos c8] at H
       have c8b0 : decide ((bt a0_0 x3_1) < 97) = true := decide_eq_true c8
       clear c8
       (first|rw [c8b0]|(simp only [i64_w, i32_w]; rw [c8b0])|skip)
       by_cases c9 : (bt a0_0 x3_1) < 48
       ·rw [if_pos c9] at H
        have c9b0 : decide ((bt a0_0 x3_1) < 48) = true := decide_eq_true c9
        clear c9
        have H' := Aside0.mk H
        clear H
        go_wp2
        go_meet
        case rel => exact ⟨_, (((bt a0_0 x3_1) != 45)), (by first|rfl|(simp; done)|(simp [*]; done)), H', ⟨by have := HK1.out; first|omega|exact Nat.le_refl _⟩, ⟨by (with_reducible repeat (first|refine blk_drewN ?_ _|refine blk_drew ?_|refine blk_alloc ?_ _)); exact BK170.out⟩, ⟨by repeat (first|(with_reducible first|exact HB.out|apply below_alloc|apply pw_below_drewN|apply below_drew1|refine below_set ?_ GE170.out)|exact HB.out)⟩⟩
       ·rw [if_neg c9] at H
        have c9b0 : decide ((bt a0_0 x3_1) < 48) = false := decide_eq_false c9
        clear c9
        by_cases c10 : (bt a0_0 x3_1) > 57
        ·rw [if_pos c10] at H
         have c10b0 : decide (57 < (bt a0_0 x3_1)) = true := decide_eq_true c10
         clear c10
         have H' := Aside0.mk H
         clear H
         go_wp2
         go_meet
         case rel => exact ⟨_, (((bt a0_0 x3_1) != 45)), (by first|rfl|(simp; done)|(simp [*]; done)), H', ⟨by have := HK1.out; first|omega|exact Nat.le_refl _⟩, ⟨by (with_reducible repeat (first|refine blk_drewN ?_ _|refine blk_drew ?_|refine blk_alloc ?_ _)); exact BK170.out⟩, ⟨by repeat (first|(with_reducible first|exact HB.out|apply below_alloc|apply pw_below_drewN|apply below_drew1|refine below_set ?_ GE170.out)|exact HB.out)⟩⟩
        ·rw [if_neg c10] at H
         have c10b0 : decide (57 < (bt a0_0 x3_1)) = false := decide_eq_false c10
         clear c10
         have H' := Aside0.mk H
         clear H
         go_wp2
         go_meet
         case rel => exact ⟨_, (false), (by first|rfl|(simp; done)|(simp [*]; done)), H', ⟨by have := HK1.out; first|omega|exact Nat.le_refl _⟩, ⟨by (with_reducible repeat (first|refine blk_drewN ?_ _|refine blk_drew ?_|refine blk_alloc ?_ _)); exact BK170.out⟩, ⟨by repeat (first|(with_reducible first|exact HB.out|apply below_alloc|apply pw_below_drewN|apply below_drew1|refine below_set ?_ GE170.out)|exact HB.out)⟩⟩
      ·rw [if_neg c8] at H
       have c8b0 : decide ((bt a0_0 x3_1) < 97) = false := decide_eq_false c8
       clear c8
       (first|rw [c8b0]|(simp only [i64_w, i32_w]; rw [c8b0])|skip)
       by_cases c11 : (bt a0_0 x3_1) > 122
       ·rw [if_pos c11] at H
        have c11b0 : decide (122 < (bt a0_0 x3_1)) = true := decide_eq_true c11
        clear c11
        by_cases c12 : (bt a0_0 x3_1) < 48
        ·rw [if_pos c12] at H
         have c12b0 : decide ((bt a0_0 x3_1) < 48) = true := decide_eq_true c12
         clear c12
         have H' := Aside0.mk H
         clear H
         go_wp2
         go_meet
         case rel => exact ⟨_, (((bt a0_0 x3_1) != 45)), (by first|rfl|(simp; done)|(simp [*]; done)), H', ⟨by have := HK1.out; first|omega|exact Nat.le_refl _⟩, ⟨by (with_reducible repeat (first|refine blk_drewN ?_ _|refine blk_drew ?_|refine blk_alloc ?_ _)); exact BK170.out⟩, ⟨by repeat (first|(with_reducible first|exact HB.out|apply below_alloc|apply pw_below_drewN|apply below_drew1|refine below_set ?_ GE170.out)|exact HB.out)⟩⟩
        ·rw [if_neg c12] at H
         have c12b0 : decide ((bt a0_0 x3_1) < 48) = false := decide_eq_false c12
         clear c12
         by_cases c13 : (bt a0_0 x3_1) > 57
         ·rw [if_pos c13] at H
          have c13b0 : decide (57 < (bt a0_0 x3_1)) = true := decide_eq_true c13
          clear c13
          have H' := Aside0.mk H
          clear H
          go_wp2
          go_meet
          case rel => exact ⟨_, (((bt a0_0 x3_1) != 45)), (by first|rfl|(simp; done)|(simp [*]; done)), H', ⟨by have := HK1.out; first|omega|exact Nat.le_refl _⟩, ⟨by (with_reducible repeat (first|refine blk_drewN ?_ _|refine blk_drew ?_|refine blk_alloc ?_ _)); exact BK170.out⟩, ⟨by repeat (first|(with_reducible first|exact HB.out|apply below_alloc|apply pw_below_drewN|apply below_drew1|refine below_set ?_ GE170.out)|exact HB.out)⟩⟩
         ·rw [if_neg c13] at H
          have c13b0 : decide (57 < (bt a0_0 x3_1)) = false := decide_eq_false c13
          clear c13
          have H' := Aside0.mk H
          clear H
          go_wp2
          go_meet
          case rel => exact ⟨_, (false), (by first|rfl|(simp; done)|(simp [*]; done)), H', ⟨by have := HK1.out; first|omega|exact Nat.le_refl _⟩, ⟨by (with_reducible repeat (first|refine blk_drewN ?_ _|refine blk_drew ?_|refine blk_alloc ?_ _)); exact BK170.out⟩, ⟨by repeat (first|(with_reducible first|exact HB.out|apply below_alloc|apply pw_below_drewN|apply below_drew1|refine below_set ?_ GE170.out)|exact HB.out)⟩⟩
       ·rw [if_neg c11] at H
        have c11b0 : decide (122 < (bt a0_0 x3_1)) = false := decide_eq_false c11
        clear c11
        have H' := Aside0.mk H
        clear H
        go_wp2
        go_meet
        case rel => exact ⟨_, (false), (by first|rfl|(simp; done)|(simp [*]; done)), H', ⟨by have := HK1.out; first|omega|exact Nat.le_refl _⟩, ⟨by (with_reducible repeat (first|refine blk_drewN ?_ _|refine blk_drew ?_|refine blk_alloc ?_ _)); exact BK170.out⟩, ⟨by repeat (first|(with_reducible first|exact HB.out|apply below_alloc|apply pw_below_drewN|apply below_drew1|refine below_set ?_ GE170.out)|exact HB.out)⟩⟩
     case rest =>
      clear HC6
      try clear c1
      try clear p2
      try clear c3
      try clear c3b0
      try clear c4
      try clear c4b0
      try clear p5
      try clear q5
      try clear hx5
      try clear c8
      try clear c8b0
      try clear c9
      try clear c9b0
      try clear c10
      try clear c10b0
      try clear c11
      try clear c11b0
      try clear c12
      try clear c12b0
      try clear c13
      try clear c13b0
      try clear hcz7_0
      try clear hcz7_1
      try clear hfz7_0
      try clear hfz7_1
      try clear p2
      try clear p5
      try clear q5
      obtain ⟨kq, x35_5, rfl, HA, HJ5, BK170, HB⟩ := hcut
      cases kq with
      | zero => exact absurd HA.out (by simp [stowageref27_may.j1])
      | succ kj5 =>
       have H := HA.out
       clear HA
       simp only [stowageref27_may.j1] at H
       by_cases c14 : x35_5 = true
       ·subst c14
        have H1 : (some false) = some r := by rw [if_pos rfl] at H; exact H
        clear H
        have H := H1
        clear H1
        obtain rfl := Option.some.inj H
        go_wp2
        go_ret
        exact ⟨by first|rfl|(simp [errW_none, errW_some] <;> rfl)|(simp [*, errW_none, errW_some] <;> rfl), by repeat (first|(with_reducible first|exact HB.out|apply below_alloc|apply pw_below_drewN|apply below_drew1|refine below_set ?_ GE170.out)|exact HB.out)⟩
       ·replace c14 := Bool.eq_false_iff.mpr c14
        subst c14
        have H1 : (stowageref27_may.l0 kj5 (wrap64 (x3_1 + 1)) a0_0 a0_1) = some r := by rw [if_neg (show ¬ (false = true) by decide)] at H; exact H
        clear H
        have H := H1
        clear H1
        have H' := Aside0.mk H
        clear H
        go_wp2
        go_roundg kj5
        case measure => have := HK1.out; have := HJ5.out; omega
        case rel => exact ⟨(wrap64 (x3_1 + 1)), (by first|rfl|(simp; done)|(simp [*]; done)), H', ⟨by have := HK1.out; have := HJ5.out; omega⟩, ⟨by (with_reducible repeat (first|refine blk_drewN ?_ _|refine blk_drew ?_|refine blk_alloc ?_ _)); exact BK170.out⟩, ⟨by repeat (first|(with_reducible first|exact HB.out|apply below_alloc|apply pw_below_drewN|apply below_drew1|refine below_set ?_ GE170.out)|exact HB.out)⟩⟩
    ·rw [if_neg c4] at H
     exact absurd H (by simp)
   ·rw [if_neg c3] at H
    have c3b0 : decide (x3_1 < (a0_0.size : Int)) = false := decide_eq_false c3
    clear c3
    have H' := Aside0.mk H
    clear H
    have hcz15_0 : wr.cell? ⟨gb170, 0, none⟩ = some (.string a0_0) := (blk_cell BK170.out 0).trans rfl
    have hcz15_1 : wr.cell? ⟨gb170, 1, none⟩ = some (.string a0_1) := (blk_cell BK170.out 1).trans rfl
    have hfz15_0 := blk_frozen BK170.out 0
    have hfz15_1 := blk_frozen BK170.out 1
    go_wp2
    go_loopg [5] k1 (fun kq v5 w' => ∃ (x5_2 : Int), v5 = .int .i64 x5_2 ∧ Aside0 (stowageref27_may.l1 kq x5_2 a0_0 a0_1 = some r) ∧ Aside0 (kq ≤ k1) ∧ Aside0 (w'.heap[gb170]? = some (.cells #[.string a0_0, .string a0_1] 51 (0, 0))) ∧ Aside0 (Below w.heap.size w w'))
    case atStart => exact ⟨(0), (by first|rfl|(simp; done)|(simp [*]; done)), H', ⟨Nat.le_refl _⟩, ⟨by (with_reducible repeat (first|refine blk_drewN ?_ _|refine blk_drew ?_|refine blk_alloc ?_ _)); exact BK170.out⟩, ⟨by repeat (first|(with_reducible first|exact HB.out|apply below_alloc|apply pw_below_drewN|apply below_drew1|refine below_set ?_ GE170.out)|exact HB.out)⟩⟩
    case round =>
     clear H'
     try clear c1
     try clear p2
     try clear c3
     try clear c3b0
     try clear c4
     try clear c4b0
     try clear p5
     try clear q5
     try clear hx5
     try clear p6
     try clear c8
     try clear c8b0
     try clear c9
     try clear c9b0
     try clear c10
     try clear c10b0
     try clear c11
     try clear c11b0
     try clear c12
     try clear c12b0
     try clear c13
     try clear c13b0
     try clear c14
     try clear hcz15_0
     try clear hcz15_1
     try clear hcz7_0
     try clear hcz7_1
     try clear hfz15_0
     try clear hfz15_1
     try clear hfz7_0
     try clear hfz7_1
     try clear p2
     try clear p5
     try clear q5
     obtain ⟨x5_2, rfl, HA, HK2, BK170, HB⟩ := hrel
     cases gk with
     | zero => exact absurd HA.out (by simp [stowageref27_may.l1])
     | succ k2 =>
      have H := HA.out
      clear HA
      simp only [stowageref27_may.l1] at H
      by_cases c16 : x5_2 < (a0_1.size : Int)
      ·rw [if_pos c16] at H
       have c16b0 : decide (x5_2 < (a0_1.size : Int)) = true := decide_eq_true c16
       clear c16
       by_cases c17 : 0 ≤ x5_2
       ·rw [if_pos c17] at H
        have c17b0 : decide (0 ≤ x5_2) = true := decide_eq_true c17
        clear c17
        by_cases c19 : (bt a0_1 x5_2) < 32
        ·rw [if_pos c19] at H
         have c19b0 : decide ((bt a0_1 x5_2) < 32) = true := decide_eq_true c19
         clear c19
         obtain rfl := Option.some.inj H
         have hcz20_0 : wr.cell? ⟨gb170, 0, none⟩ = some (.string a0_0) := (blk_cell BK170.out 0).trans rfl
         have hcz20_1 : wr.cell? ⟨gb170, 1, none⟩ = some (.string a0_1) := (blk_cell BK170.out 1).trans rfl
         have hfz20_0 := blk_frozen BK170.out 0
         have hfz20_1 := blk_frozen BK170.out 1
         have p18 : 0 ≤ (x5_2 : Int) := of_decide_eq_true (by first|(with_reducible assumption)|assumption)
         have q18 : x5_2 < (a0_1.size : Int) := of_decide_eq_true (by first|(with_reducible assumption)|assumption)
         have hx18 := bt_at a0_1 x5_2
         replace p18 := eq_true p18
         replace q18 := eq_true q18
         go_wp2
         go_ret
         exact ⟨by first|rfl|(simp [errW_none, errW_some] <;> rfl)|(simp [*, errW_none, errW_some] <;> rfl), by repeat (first|(with_reducible first|exact HB.out|apply below_alloc|apply pw_below_drewN|apply below_drew1|refine below_set ?_ GE170.out)|exact HB.out)⟩
        ·rw [if_neg c19] at H
         have c19b0 : decide ((bt a0_1 x5_2) < 32) = false := decide_eq_false c19
         clear c19
         by_cases c22 : (bt a0_1 x5_2) > 126
         ·rw [if_pos c22] at H
          have c22b0 : decide (126 < (bt a0_1 x5_2)) = true := decide_eq_true c22
          clear c22
          obtain rfl := Option.some.inj H
          have hcz23_0 : wr.cell? ⟨gb170, 0, none⟩ = some (.string a0_0) := (blk_cell BK170.out 0).trans rfl
          have hcz23_1 : wr.cell? ⟨gb170, 1, none⟩ = some (.string a0_1) := (blk_cell BK170.out 1).trans rfl
          have hfz23_0 := blk_frozen BK170.out 0
          have hfz23_1 := blk_frozen BK170.out 1
          have p18 : 0 ≤ (x5_2 : Int) := of_decide_eq_true (by first|(with_reducible assumption)|assumption)
          have q18 : x5_2 < (a0_1.size : Int) := of_decide_eq_true (by first|(with_reducible assumption)|assumption)
          have hx18 := bt_at a0_1 x5_2
          replace p18 := eq_true p18
          replace q18 := eq_true q18
          have p21 : 0 ≤ (x5_2 : Int) := of_decide_eq_true (by first|(with_reducible assumption)|assumption)
          have q21 : x5_2 < (a0_1.size : Int) := of_decide_eq_true (by first|(with_reducible assumption)|assumption)
          have hx21 := bt_at a0_1 x5_2
          replace p21 := eq_true p21
          replace q21 := eq_true q21
          go_wp2
          go_ret
          exact ⟨by first|rfl|(simp [errW_none, errW_some] <;> rfl)|(simp [*, errW_none, errW_some] <;> rfl), by repeat (first|(with_reducible first|exact HB.out|apply below_alloc|apply pw_below_drewN|apply below_drew1|refine below_set ?_ GE170.out)|exact HB.out)⟩
         ·rw [if_neg c22] at H
          have c22b0 : decide (126 < (bt a0_1 x5_2)) = false := decide_eq_false c22
          clear c22
          have H' := Aside0.mk H
          clear H
          have hcz24_0 : wr.cell? ⟨gb170, 0, none⟩ = some (.string a0_0) := (blk_cell BK170.out 0).trans rfl
          have hcz24_1 : wr.cell? ⟨gb170, 1, none⟩ = some (.string a0_1) := (blk_cell BK170.out 1).trans rfl
          have hfz24_0 := blk_frozen BK170.out 0
          have hfz24_1 := blk_frozen BK170.out 1
          have p18 : 0 ≤ (x5_2 : Int) := of_decide_eq_true (by first|(with_reducible assumption)|assumption)
          have q18 : x5_2 < (a0_1.size : Int) := of_decide_eq_true (by first|(with_reducible assumption)|assumption)
          have hx18 := bt_at a0_1 x5_2
          replace p18 := eq_true p18
          replace q18 := eq_true q18
          have p21 : 0 ≤ (x5_2 : Int) := of_decide_eq_true (by first|(with_reducible assumption)|assumption)
          have q21 : x5_2 < (a0_1.size : Int) := of_decide_eq_true (by first|(with_reducible assumption)|assumption)
          have hx21 := bt_at a0_1 x5_2
          replace p21 := eq_true p21
          replace q21 := eq_true q21
          go_wp2
          go_roundg k2
          case measure => have := HK1.out; have := HK2.out; omega
          case rel => exact ⟨(wrap64 (x5_2 + 1)), (by first|rfl|(simp; done)|(simp [*]; done)), H', ⟨by have := HK1.out; have := HK2.out; omega⟩, ⟨by (with_reducible repeat (first|refine blk_drewN ?_ _|refine blk_drew ?_|refine blk_alloc ?_ _)); exact BK170.out⟩, ⟨by repeat (first|(with_reducible first|exact HB.out|apply below_alloc|apply pw_below_drewN|apply below_drew1|refine below_set ?_ GE170.out)|exact HB.out)⟩⟩
       ·rw [if_neg c17] at H
        exact absurd H (by simp)
      ·rw [if_neg c16] at H
       have c16b0 : decide (x5_2 < (a0_1.size : Int)) = false := decide_eq_false c16
       clear c16
       by_cases c25 : (a0_0.size : Int) ≥ 1
       ·rw [if_pos c25] at H
        have c25b0 : decide (1 ≤ (a0_0.size : Int)) = true := decide_eq_true c25
        have c25b1 : decide (1 ≤ a0_0.size) = true := decide_eq_true (by omega)
        clear c25
        by_cases c26 : (a0_0.size : Int) ≤ 40
        ·rw [if_pos c26] at H
         have c26b0 : decide ((a0_0.size : Int) ≤ 40) = true := decide_eq_true c26
         have c26b1 : decide (a0_0.size ≤ 40) = true := decide_eq_true (by omega)
         clear c26
         by_cases c27 : a0_0.toList = ([99, 111, 110, 116, 101, 110, 116, 45, 108, 101, 110, 103, 116, 104] : List UInt8)
         ·rw [if_pos c27] at H
          have c27b0 : (a0_0.toList == ([99, 111, 110, 116, 101, 110, 116, 45, 108, 101, 110, 103, 116, 104] : List UInt8)) = true := beq_iff_eq.mpr c27
          have c27b1 : (a0_0.toList != ([99, 111, 110, 116, 101, 110, 116, 45, 108, 101, 110, 103, 116, 104] : List UInt8)) = false := bne_eq_false_iff_eq.mpr c27
          clear c27
          obtain rfl := Option.some.inj H
          have hcz28_0 : wr.cell? ⟨gb170, 0, none⟩ = some (.string a0_0) := (blk_cell BK170.out 0).trans rfl
          have hcz28_1 : wr.cell? ⟨gb170, 1, none⟩ = some (.string a0_1) := (blk_cell BK170.out 1).trans rfl
          have hfz28_0 := blk_frozen BK170.out 0
          have hfz28_1 := blk_frozen BK170.out 1
          go_wp2
          go_ret
          exact ⟨by first|rfl|(simp [errW_none, errW_some] <;> rfl)|(simp [*, errW_none, errW_some] <;> rfl), by repeat (first|(with_reducible first|exact HB.out|apply below_alloc|apply pw_below_drewN|apply below_drew1|refine below_set ?_ GE170.out)|exact HB.out)⟩
         ·rw [if_neg c27] at H
          have c27b0 : (a0_0.toList == ([99, 111, 110, 116, 101, 110, 116, 45, 108, 101, 110, 103, 116, 104] : List UInt8)) = false := beq_eq_false_iff_ne.mpr c27
          have c27b1 : (a0_0.toList != ([99, 111, 110, 116, 101, 110, 116, 45, 108, 101, 110, 103, 116, 104] : List UInt8)) = true := bne_iff_ne.mpr c27
          by_cases c29 : (a0_1.size : Int) ≤ 1000
          ·rw [if_pos c29] at H
           have c29b0 : decide ((a0_1.size : Int) ≤ 1000) = true := decide_eq_true c29
           have c29b1 : decide (a0_1.size ≤ 1000) = true := decide_eq_true (by omega)
           clear c29
           by_cases c30 : (a0_1.size : Int) = 0
           ·rw [if_pos c30] at H
            have c30b0 : ((a0_1.size : Int) == 0) = true := beq_iff_eq.mpr c30
            have c30b1 : ((a0_1.size : Int) != 0) = false := bne_eq_false_iff_eq.mpr c30
            clear c30
            obtain rfl := Option.some.inj H
            have hcz31_0 : wr.cell? ⟨gb170, 0, none⟩ = some (.string a0_0) := (blk_cell BK170.out 0).trans rfl
            have hcz31_1 : wr.cell? ⟨gb170, 1, none⟩ = some (.string a0_1) := (blk_cell BK170.out 1).trans rfl
            have hfz31_0 := blk_frozen BK170.out 0
            have hfz31_1 := blk_frozen BK170.out 1
            go_wp2
            go_ret
            exact ⟨by first|rfl|(simp [errW_none, errW_some] <;> rfl)|(simp [*, errW_none, errW_some] <;> rfl), by repeat (first|(with_reducible first|exact HB.out|apply below_alloc|apply pw_below_drewN|apply below_drew1|refine below_set ?_ GE170.out)|exact HB.out)⟩
           ·rw [if_neg c30] at H
            have c30b0 : ((a0_1.size : Int) == 0) = false := beq_eq_false_iff_ne.mpr c30
            have c30b1 : ((a0_1.size : Int) != 0) = true := bne_iff_ne.mpr c30
            by_cases c32 : 0 < (a0_1.size : Int)
            ·rw [if_pos c32] at H
             have c32b0 : decide (0 < (a0_1.size : Int)) = true := decide_eq_true c32
             have c32b1 : decide (0 < a0_1.size) = true := decide_eq_true (by omega)
             clear c32
             by_cases c34 : (bt a0_1 0) = 32
             ·rw [if_pos c34] at H
              have c34b0 : ((bt a0_1 0) == 32) = true := beq_iff_eq.mpr c34
              have c34b1 : ((bt a0_1 0) != 32) = false := bne_eq_false_iff_eq.mpr c34
              clear c34
              obtain rfl := Option.some.inj H
              have hcz35_0 : wr.cell? ⟨gb170, 0, none⟩ = some (.string a0_0) := (blk_cell BK170.out 0).trans rfl
              have hcz35_1 : wr.cell? ⟨gb170, 1, none⟩ = some (.string a0_1) := (blk_cell BK170.out 1).trans rfl
              have hfz35_0 := blk_frozen BK170.out 0
              have hfz35_1 := blk_frozen BK170.out 1
              have p33 : 0 ≤ (0 : Int) := (by omega)
              have q33 : 0 < a0_1.size := (by have : (0 : Int) < (a0_1.size : Int) := of_decide_eq_true (by first|(with_reducible assumption)|assumption); omega)
              have hx33 : ∀ h : 0 < a0_1.size, ((a0_1[0]'h).toNat : Int) = bt a0_1 0 := bt_at a0_1 0
              clear p33
              have qi33 : (0 < (a0_1.size : Int)) = True := eq_true (of_decide_eq_true (by first|(with_reducible assumption)|assumption))
              replace q33 := eq_true q33
              go_wp2
              go_ret
              exact ⟨by first|rfl|(simp [errW_none, errW_some] <;> rfl)|(simp [*, errW_none, errW_some] <;> rfl), by repeat (first|(with_reducible first|exact HB.out|apply below_alloc|apply pw_below_drewN|apply below_drew1|refine below_set ?_ GE170.out)|exact HB.out)⟩
             ·rw [if_neg c34] at H
              have c34b0 : ((bt a0_1 0) == 32) = false := beq_eq_false_iff_ne.mpr c34
              have c34b1 : ((bt a0_1 0) != 32) = true := bne_iff_ne.mpr c34
              obtain ⟨ji36, hji36⟩ : ∃ j_ : Int, (wrap64 ((a0_1.size : Int) - 1)) = j_ := ⟨_, rfl⟩
              replace H : (if 0 ≤ (ji36) then (if (ji36) < (a0_1.size : Int) then (some ((bt a0_1 (ji36)) != 32)) else (none)) else (none)) = some r := by first|(rw [hji36] at H; exact H)|(simp only [hji36] at H ⊢; exact H)
              have hji36w : (IntKind.i64.wrap ((a0_1.size : Int) - 1)) = ji36 := (i64_w _).trans hji36
              by_cases c37 : 0 ≤ (ji36)
              ·rw [if_pos c37] at H
               have c37b0 : decide (0 ≤ (ji36)) = true := decide_eq_true c37
               clear c37
               by_cases c38 : (ji36) < (a0_1.size : Int)
               ·rw [if_pos c38] at H
                have c38b0 : decide ((ji36) < (a0_1.size : Int)) = true := decide_eq_true c38
                clear c38
                obtain rfl := Option.some.inj H
                have hcz40_0 : wr.cell? ⟨gb170, 0, none⟩ = some (.string a0_0) := (blk_cell BK170.out 0).trans rfl
                have hcz40_1 : wr.cell? ⟨gb170, 1, none⟩ = some (.string a0_1) := (blk_cell BK170.out 1).trans rfl
                have hfz40_0 := blk_frozen BK170.out 0
                have hfz40_1 := blk_frozen BK170.out 1
                have p33 : 0 ≤ (0 : Int) := (by omega)
                have q33 : 0 < a0_1.size := (by have : (0 : Int) < (a0_1.size : Int) := of_decide_eq_true (by first|(with_reducible assumption)|assumption); omega)
                have hx33 : ∀ h : 0 < a0_1.size, ((a0_1[0]'h).toNat : Int) = bt a0_1 0 := bt_at a0_1 0
                clear p33
                have qi33 : (0 < (a0_1.size : Int)) = True := eq_true (of_decide_eq_true (by first|(with_reducible assumption)|assumption))
                replace q33 := eq_true q33
                have p39 : 0 ≤ ((ji36) : Int) := of_decide_eq_true (by first|(with_reducible assumption)|assumption)
                have q39 : (ji36) < (a0_1.size : Int) := of_decide_eq_true (by first|(with_reducible assumption)|assumption)
                have hx39 := bt_at a0_1 (ji36)
                replace p39 := eq_true p39
                replace q39 := eq_true q39
                go_wp2
                go_ret
                exact ⟨by first|rfl|(simp [errW_none, errW_some] <;> rfl)|(simp only [← hji36]; first|rfl|(simp [errW_none, errW_some] <;> rfl))|(simp [*, errW_none, errW_some] <;> rfl), by repeat (first|(with_reducible first|exact HB.out|apply below_alloc|apply pw_below_drewN|apply below_drew1|refine below_set ?_ GE170.out)|exact HB.out)⟩
               ·rw [if_neg c38] at H
                exact absurd H (by simp)
              ·rw [if_neg c37] at H
               exact absurd H (by simp)
            ·rw [if_neg c32] at H
             exact absurd H (by simp)
          ·rw [if_neg c29] at H
           have c29b0 : decide ((a0_1.size : Int) ≤ 1000) = false := decide_eq_false c29
           have c29b1 : decide (a0_1.size ≤ 1000) = false := decide_eq_false (by omega)
           clear c29
           obtain rfl := Option.some.inj H
           have hcz41_0 : wr.cell? ⟨gb170, 0, none⟩ = some (.string a0_0) := (blk_cell BK170.out 0).trans rfl
           have hcz41_1 : wr.cell? ⟨gb170, 1, none⟩ = some (.string a0_1) := (blk_cell BK170.out 1).trans rfl
           have hfz41_0 := blk_frozen BK170.out 0
           have hfz41_1 := blk_frozen BK170.out 1
           go_wp2
           go_ret
           exact ⟨by first|rfl|(simp [errW_none, errW_some] <;> rfl)|(simp [*, errW_none, errW_some] <;> rfl), by repeat (first|(with_reducible first|exact HB.out|apply below_alloc|apply pw_below_drewN|apply below_drew1|refine below_set ?_ GE170.out)|exact HB.out)⟩
        ·rw [if_neg c26] at H
         have c26b0 : decide ((a0_0.size : Int) ≤ 40) = false := decide_eq_false c26
         have c26b1 : decide (a0_0.size ≤ 40) = false := decide_eq_false (by omega)
         clear c26
         obtain rfl := Option.some.inj H
         have hcz42_0 : wr.cell? ⟨gb170, 0, none⟩ = some (.string a0_0) := (blk_cell BK170.out 0).trans rfl
         have hcz42_1 : wr.cell? ⟨gb170, 1, none⟩ = some (.string a0_1) := (blk_cell BK170.out 1).trans rfl
         have hfz42_0 := blk_frozen BK170.out 0
         have hfz42_1 := blk_frozen BK170.out 1
         go_wp2
         go_ret
         exact ⟨by first|rfl|(simp [errW_none, errW_some] <;> rfl)|(simp [*, errW_none, errW_some] <;> rfl), by repeat (first|(with_reducible first|exact HB.out|apply below_alloc|apply pw_below_drewN|apply below_drew1|refine below_set ?_ GE170.out)|exact HB.out)⟩
       ·rw [if_neg c25] at H
        have c25b0 : decide (1 ≤ (a0_0.size : Int)) = false := decide_eq_false c25
        have c25b1 : decide (1 ≤ a0_0.size) = false := decide_eq_false (by omega)
        clear c25
        obtain rfl := Option.some.inj H
        have hcz43_0 : wr.cell? ⟨gb170, 0, none⟩ = some (.string a0_0) := (blk_cell BK170.out 0).trans rfl
        have hcz43_1 : wr.cell? ⟨gb170, 1, none⟩ = some (.string a0_1) := (blk_cell BK170.out 1).trans rfl
        have hfz43_0 := blk_frozen BK170.out 0
        have hfz43_1 := blk_frozen BK170.out 1
        go_wp2
        go_ret
        exact ⟨by first|rfl|(simp [errW_none, errW_some] <;> rfl)|(simp [*, errW_none, errW_some] <;> rfl), by repeat (first|(with_reducible first|exact HB.out|apply below_alloc|apply pw_below_drewN|apply below_drew1|refine below_set ?_ GE170.out)|exact HB.out)⟩

end Go.Proofs.YtmgpbcpggnlkkaaGreatDoor.Pr
end
section
namespace Go.Proofs.YtmgpbcpggnlkkaaGreatDoor.Pr
open Go.RowKit Go.Proofs.YtmgpbcpggnlkkaaGreatDoorW.PrintWords Go.Proofs.YtmgpbcpggnlkkaaGreatDoorW.PrintLast Go.Proofs.YtmgpbcpggnlkkaaGreatDoorW.PrintMore
attribute [local go_sem] max2_int min2_int max_two min_two max_three min_three max_four min_four -- for this text's walks alone
set_option linter.unusedVariables false
set_option linter.unusedSimpArgs false

/-! ### stowageref27_wrong: function 24 -/
def stowageref27_wrong.l0 : Nat → Int → Int → Int → List (S51) → List Int → Option (Int)
 | 0, _, _, _, _, _ => none
 | k + 1, x1, x7, x172000, x172001, x172002 => if x7 < (x172001.length : Int) then (if 0 ≤ x7 then ((stowageref27_may.f k ((rd_T51 x172001 x7).f0) ((rd_T51 x172001 x7).f1)).bind fun t175 => (if t175 = true then (stowageref27_wrong.l0 k x1 (wrap64 (x7 + 1)) x172000 x172001 x172002) else (some 4))) else (none)) else (if x1 > 1048576 then (some 3) else (some 0))
def stowageref27_wrong.f (k : Nat) (a0_0 : Int) (l0_1 : List (S51)) (l0_2 : List Int) (a1 : Int) : Option (Int) := (stowageref27_Words.f a0_0).bind fun bt172 => (if bt172.2 = 0 then (if (l0_1.length : Int) > 32 then (some 8) else (stowageref27_wrong.l0 k a1 0 a0_0 l0_1 l0_2)) else (some 5))
theorem stowageref27_wrong.mono_l : ∀ k, (∀ y0 y1 y2 y3 y4, LeO (stowageref27_wrong.l0 k y0 y1 y2 y3 y4) (stowageref27_wrong.l0 (k + 1) y0 y1 y2 y3 y4))
 | 0 => fun _ _ _ _ _ r h => by simp [stowageref27_wrong.l0] at h
 | k + 1 => by
  have ih0 := stowageref27_wrong.mono_l k
  ·intro y0 y1 y2 y3 y4
   unfold stowageref27_wrong.l0
   repeat' first
   | (with_reducible exact ih0 _ _ _ _ _)
   | (with_reducible exact stowageref27_may.mono _ _ _)
   | (with_reducible exact LeO.refl _)
   | (with_reducible exact LeO.none _)
   | (with_reducible refine LeO.ite ?_ ?_)
   | (with_reducible refine LeO.bind ?_ (fun _ => ?_))
   | exact ih0 _ _ _ _ _
   | exact stowageref27_may.mono _ _ _
   | exact LeO.none _
   | refine LeO.ite ?_ ?_
   | refine LeO.bind ?_ (fun _ => ?_)
theorem stowageref27_wrong.mono : ∀ a0 a1 a2 a3 k, LeO (stowageref27_wrong.f k a0 a1 a2 a3) (stowageref27_wrong.f (k + 1) a0 a1 a2 a3) := by
 intro a0 a1 a2 a3 k
 have ih0 := stowageref27_wrong.mono_l k
 unfold stowageref27_wrong.f
 repeat' first
   | (with_reducible exact ih0 _ _ _ _ _)
   | (with_reducible exact stowageref27_may.mono _ _ _)
   | (with_reducible exact LeO.refl _)
   | (with_reducible exact LeO.none _)
   | (with_reducible refine LeO.ite ?_ ?_)
   | (with_reducible refine LeO.bind ?_ (fun _ => ?_))
   | exact ih0 _ _ _ _ _
   | exact stowageref27_may.mono _ _ _
   | exact LeO.none _
   | refine LeO.ite ?_ ?_
   | refine LeO.bind ?_ (fun _ => ?_)
set_option maxHeartbeats 8000000 in
set_option maxRecDepth 100000 in
theorem stowageref27_wrong.calls (k : Nat) (a0_0 : Int) (A0_1 : Option Addr) (c0_1 : Nat) (l0_1 : List (S51)) (A0_2 : Option Addr) (c0_2 : Nat) (l0_2 : List Int) (a1 : Int) (r : Int) (w : World) (hr0_1 : Kd.C k51 w A0_1 l0_1.length l0_1) (hc0_1 : l0_1.length ≤ c0_1) (hr0_2 : Kd.C (Kd.int .u8) w A0_2 l0_2.length l0_2) (hc0_2 : l0_2.length ≤ c0_2) (h : stowageref27_wrong.f k a0_0 l0_1 l0_2 a1 = some r) :
  Calls Tryz.prog 24 #[.agg #[.int .i64 a0_0, .slice A0_1 l0_1.length c0_1, .slice A0_2 l0_2.length c0_2], .int .i64 a1] w fun e w' => e = .returned (.int .i64 r) ∧ Below w.heap.size w w' := by
 have hu26 := Tryz.underlying26
 have hu51 := Tryz.underlying51
 have HR0_1 := Aside0.mk hr0_1
 have HC0_1 := Aside0.mk hc0_1
 clear hr0_1 hc0_1
 have HR0_2 := Aside0.mk hr0_2
 have HC0_2 := Aside0.mk hc0_2
 clear hr0_2 hc0_2
 have HB := Aside0.mk (Below.refl w.heap.size w)
 have H : ((stowageref27_Words.f a0_0).bind fun bt172 => (if bt172.2 = 0 then (if (l0_1.length : Int) > 32 then (some 8) else (stowageref27_wrong.l0 k a1 0 a0_0 l0_1 l0_2)) else (some 5))) = some r := h
 clear h
 replace H := Option.bind_eq_some_iff.mp H
 obtain ⟨⟨t172, t173⟩, A30, H⟩ := H
 replace H : (if t173 = 0 then (if (l0_1.length : Int) > 32 then (some 8) else (stowageref27_wrong.l0 k a1 0 a0_0 l0_1 l0_2)) else (some 5)) = some r := H
 have A3 := Aside0.mk A30
 clear A30
 by_cases c4 : t173 = 0
 ·rw [if_pos c4] at H
  have c4b0 : (t173 == 0) = true := beq_iff_eq.mpr c4
  have c4b1 : (t173 != 0) = false := bne_eq_false_iff_eq.mpr c4
  clear c4
  by_cases c5 : (l0_1.length : Int) > 32
  ·rw [if_pos c5] at H
   have c5b0 : decide (32 < (l0_1.length : Int)) = true := decide_eq_true c5
   have c5b1 : decide (32 < l0_1.length) = true := decide_eq_true (by omega)
   clear c5
   obtain rfl := Option.some.inj H
   go_enter Tryz.func24, Tryz.ntmps24
   go_wp2_with (first|((with_reducible refine gate_dst (N := 2) rfl ?_); refine box_event ?hg (N := 2) ?hd (cs := #[.int .i64 a0_0, .slice A0_1 l0_1.length c0_1, .slice A0_2 l0_2.length c0_2]) (t := 26) ?hr ?_; (case hd => rfl); (case hg => rfl); (case hr => first|(go_simp; done)|(go_simp; rfl)); intro gb171 hg w6 hbox hb; have n0_ := Aside0.mk (below_step (by repeat (first|(with_reducible first|exact HB.out|apply below_alloc|apply pw_below_drewN|apply below_drew1)|exact HB.out)) hb); have n1_ := Aside0.mk (hbox); have n2_ := Aside0.mk ((by rw [hg]; exact (below_size (by repeat (first|(with_reducible first|exact HB.out|apply below_alloc|apply pw_below_drewN|apply below_drew1)|exact HB.out))) : w.heap.size ≤ gb171)); have n3_ := Aside0.mk ((by rw [hg]; exact (below_size (by repeat (first|(with_reducible first|exact HB.out|apply below_alloc|apply pw_below_drewN|apply below_drew1)|exact HB.out))) : w.heap.size ≤ gb171)); clear HB; have HB := n0_; have BK171 := n1_; have GW171 := n2_; have GE171 := n3_; clear n0_ n1_ n2_ n3_; clear hb hbox hg; have hcz7_0 : w6.cell? ⟨gb171, 0, none⟩ = some (.int .i64 a0_0) := (blk_cell BK171.out 0).trans rfl; have hcz7_1 : w6.cell? ⟨gb171, 1, none⟩ = some (.slice A0_1 l0_1.length c0_1) := (blk_cell BK171.out 1).trans rfl; have hcz7_2 : w6.cell? ⟨gb171, 2, none⟩ = some (.slice A0_2 l0_2.length c0_2) := (blk_cell BK171.out 2).trans rfl; have hfz7_0 := blk_frozen BK171.out 0; have hfz7_1 := blk_frozen BK171.out 1; have hfz7_2 := blk_frozen BK171.out 2)|((with_reducible refine gate_callee (f := 17) rfl ?_); refine goesL_ (some 11) rfl rfl Tryz.func17 (by kernel_rfl) rfl #[.int .i64 a0_0] rfl (by (try simp only [List.map_toArray, List.map_cons, List.map_nil]); first|done|rfl|(simp only [List.length_drop, List.length_take]; rfl)) ?_; (with_reducible refine (stowageref27_Words.calls a0_0 t172 t173 _ A3.out).mono ?_); rintro e w' ⟨rfl, ⟨nd, rfl⟩⟩; refine ⟨_, rfl, ?_⟩))
   go_ret
   exact ⟨by first|rfl|(simp [errW_none, errW_some] <;> rfl)|(simp [*, errW_none, errW_some] <;> rfl), by repeat (first|(with_reducible first|exact HB.out|apply below_alloc|apply pw_below_drewN|apply below_drew1|refine below_set ?_ GE171.out)|exact HB.out)⟩
  ·rw [if_neg c5] at H
   have c5b0 : decide (32 < (l0_1.length : Int)) = false := decide_eq_false c5
   have c5b1 : decide (32 < l0_1.length) = false := decide_eq_false (by omega)
   clear c5
   have H' := Aside0.mk H
   clear H
   go_enter Tryz.func24, Tryz.ntmps24
   go_wp2_with (first|((with_reducible refine gate_dst (N := 2) rfl ?_); refine box_event ?hg (N := 2) ?hd (cs := #[.int .i64 a0_0, .slice A0_1 l0_1.length c0_1, .slice A0_2 l0_2.length c0_2]) (t := 26) ?hr ?_; (case hd => rfl); (case hg => rfl); (case hr => first|(go_simp; done)|(go_simp; rfl)); intro gb171 hg w8 hbox hb; have n0_ := Aside0.mk (below_step (by repeat (first|(with_reducible first|exact HB.out|apply below_alloc|apply pw_below_drewN|apply below_drew1)|exact HB.out)) hb); have n1_ := Aside0.mk (hbox); have n2_ := Aside0.mk ((by rw [hg]; exact (below_size (by repeat (first|(with_reducible first|exact HB.out|apply below_alloc|apply pw_below_drewN|apply below_drew1)|exact HB.out))) : w.heap.size ≤ gb171)); have n3_ := Aside0.mk ((by rw [hg]; exact (below_size (by repeat (first|(with_reducible first|exact HB.out|apply below_alloc|apply pw_below_drewN|apply below_drew1)|exact HB.out))) : w.heap.size ≤ gb171)); clear HB; have HB := n0_; have BK171 := n1_; have GW171 := n2_; have GE171 := n3_; clear n0_ n1_ n2_ n3_; clear hb hbox hg; have hcz9_0 : w8.cell? ⟨gb171, 0, none⟩ = some (.int .i64 a0_0) := (blk_cell BK171.out 0).trans rfl; have hcz9_1 : w8.cell? ⟨gb171, 1, none⟩ = some (.slice A0_1 l0_1.length c0_1) := (blk_cell BK171.out 1).trans rfl; have hcz9_2 : w8.cell? ⟨gb171, 2, none⟩ = some (.slice A0_2 l0_2.length c0_2) := (blk_cell BK171.out 2).trans rfl; have hfz9_0 := blk_frozen BK171.out 0; have hfz9_1 := blk_frozen BK171.out 1; have hfz9_2 := blk_frozen BK171.out 2)|((with_reducible refine gate_callee (f := 17) rfl ?_); refine goesL_ (some 11) rfl rfl Tryz.func17 (by kernel_rfl) rfl #[.int .i64 a0_0] rfl (by (try simp only [List.map_toArray, List.map_cons, List.map_nil]); first|done|rfl|(simp only [List.length_drop, List.length_take]; rfl)) ?_; (with_reducible refine (stowageref27_Words.calls a0_0 t172 t173 _ A3.out).mono ?_); rintro e w' ⟨rfl, ⟨nd, rfl⟩⟩; refine ⟨_, rfl, ?_⟩))
   go_loopg [7] k (fun kq v7 w' => ∃ (x7_1 : Int), v7 = .int .i64 x7_1 ∧ Aside0 (stowageref27_wrong.l0 kq a1 x7_1 a0_0 l0_1 l0_2 = some r) ∧ Aside0 (kq ≤ k) ∧ Aside0 (w'.heap[gb171]? = some (.cells #[.int .i64 a0_0, (.slice A0_1 l0_1.length c0_1), (.slice A0_2 l0_2.length c0_2)] 26 (0, 0))) ∧ Aside0 (Below w.heap.size w w'))
   case atStart => exact ⟨(0), (by first|rfl|(simp; done)|(simp [*]; done)), H', ⟨Nat.le_refl _⟩, ⟨by (with_reducible repeat (first|refine blk_drewN ?_ _|refine blk_drew ?_|refine blk_alloc ?_ _)); exact BK171.out⟩, ⟨by repeat (first|(with_reducible first|exact HB.out|apply below_alloc|apply pw_below_drewN|apply below_drew1|refine below_set ?_ GE171.out)|exact HB.out)⟩⟩
   case round =>
    clear H'
    try clear c1
    try clear c2
    try clear p2
    try clear c4
    try clear c4b0
    try clear c4b1
    try clear c5
    try clear c5b0
    try clear c5b1
    try clear hcz7_0
    try clear hcz7_1
    try clear hcz7_2
    try clear hcz9_0
    try clear hcz9_1
    try clear hcz9_2
    try clear hfz7_0
    try clear hfz7_1
    try clear hfz7_2
    try clear hfz9_0
    try clear hfz9_1
    try clear hfz9_2
    obtain ⟨x7_1, rfl, HA, HK1, BK171, HB⟩ := hrel
    cases gk with
    | zero => exact absurd HA.out (by simp [stowageref27_wrong.l0])
    | succ k1 =>
     have H := HA.out
     clear HA
     simp only [stowageref27_wrong.l0] at H
     by_cases c10 : x7_1 < (l0_1.length : Int)
     ·rw [if_pos c10] at H
      have c10b0 : decide (x7_1 < (l0_1.length : Int)) = true := decide_eq_true c10
      clear c10
      by_cases c11 : 0 ≤ x7_1
      ·rw [if_pos c11] at H
       have c11b0 : decide (0 ≤ x7_1) = true := decide_eq_true c11
       clear c11
       replace H := Option.bind_eq_some_iff.mp H
       obtain ⟨t175, A120, H⟩ := H
       replace H : (if t175 = true then (stowageref27_wrong.l0 k1 a1 (wrap64 (x7_1 + 1)) a0_0 l0_1 l0_2) else (some 4)) = some r := H
       have A12 := Aside0.mk A120
       clear A120
       by_cases c13 : t175 = true
       ·subst c13
        have H1 : (stowageref27_wrong.l0 k1 a1 (wrap64 (x7_1 + 1)) a0_0 l0_1 l0_2) = some r := by rw [if_pos rfl] at H; exact H
        clear H
        have H := H1
        clear H1
        have H' := Aside0.mk H
        clear H
        have hcz14_0 : wr.cell? ⟨gb171, 0, none⟩ = some (.int .i64 a0_0) := (blk_cell BK171.out 0).trans rfl
        have hcz14_1 : wr.cell? ⟨gb171, 1, none⟩ = some (.slice A0_1 l0_1.length c0_1) := (blk_cell BK171.out 1).trans rfl
        have hcz14_2 : wr.cell? ⟨gb171, 2, none⟩ = some (.slice A0_2 l0_2.length c0_2) := (blk_cell BK171.out 2).trans rfl
        have hfz14_0 := blk_frozen BK171.out 0
        have hfz14_1 := blk_frozen BK171.out 1
        have hfz14_2 := blk_frozen BK171.out 2
        have p174 : 0 ≤ (x7_1 : Int) := of_decide_eq_true (by first|(with_reducible assumption)|assumption)
        have q174 : x7_1 < (l0_1.length : Int) := of_decide_eq_true (by first|(with_reducible assumption)|assumption)
        obtain ⟨ad174, e174, hx174_0, hx174_1⟩ := at_T51 HR0_1.out x7_1 p174 q174
        cases e174
        replace hx174_0 := (HB.out.cell (World.block_lt_of_cell? w _ hx174_0)).trans hx174_0
        replace hx174_1 := (HB.out.cell (World.block_lt_of_cell? w _ hx174_1)).trans hx174_1
        replace p174 := eq_true p174
        replace q174 := eq_true q174
        go_wp2_with (first|((with_reducible refine gate_callee (f := 41) rfl ?_); refine goesL_ (some 32) rfl rfl Tryz.func41 (by kernel_rfl) rfl #[.agg #[.string ((rd_T51 l0_1 x7_1).f0), .string ((rd_T51 l0_1 x7_1).f1)]] rfl (by (try simp only [List.map_toArray, List.map_cons, List.map_nil]); first|done|rfl|(simp only [List.length_drop, List.length_take]; rfl)) ?_; (with_reducible refine (stowageref27_may.calls k1 ((rd_T51 l0_1 x7_1).f0) ((rd_T51 l0_1 x7_1).f1) true _ A12.out).mono ?_); rintro e w15 ⟨rfl, hb⟩; refine ⟨_, rfl, ?_⟩; have n0_ := Aside0.mk (blk_below (g := gb171) (o := .cells #[.int .i64 a0_0, .slice (some ad174) l0_1.length c0_1, .slice A0_2 l0_2.length c0_2] 26 (0, 0)) (by (with_reducible repeat (first|refine blk_drewN ?_ _|refine blk_drew ?_|refine blk_alloc ?_ _)); exact BK171.out) hb); have n1_ := Aside0.mk (below_step (by repeat (first|(with_reducible first|exact HB.out|apply below_alloc|apply pw_below_drewN|apply below_drew1|refine below_set ?_ GE171.out)|exact HB.out)) hb); clear BK171; clear HB; have BK171 := n0_; have HB := n1_; clear n0_ n1_; (try clear hb); (try clear hb2); (try clear hk); (try clear hi)))
        go_roundg k1
        case measure => have := HK1.out; omega
        case rel => exact ⟨(wrap64 (x7_1 + 1)), (by first|rfl|(simp; done)|(simp [*]; done)), H', ⟨by have := HK1.out; omega⟩, ⟨by (with_reducible repeat (first|refine blk_drewN ?_ _|refine blk_drew ?_|refine blk_alloc ?_ _)); exact BK171.out⟩, ⟨by repeat (first|(with_reducible first|exact HB.out|apply below_alloc|apply pw_below_drewN|apply below_drew1|refine below_set ?_ GE171.out)|exact HB.out)⟩⟩
       ·replace c13 := Bool.eq_false_iff.mpr c13
        subst c13
        have H1 : (some 4) = some r := by rw [if_neg (show ¬ (false = true) by decide)] at H; exact H
        clear H
        have H := H1
        clear H1
        obtain rfl := Option.some.inj H
        have hcz16_0 : wr.cell? ⟨gb171, 0, none⟩ = some (.int .i64 a0_0) := (blk_cell BK171.out 0).trans rfl
        have hcz16_1 : wr.cell? ⟨gb171, 1, none⟩ = some (.slice A0_1 l0_1.length c0_1) := (blk_cell BK171.out 1).trans rfl
        have hcz16_2 : wr.cell? ⟨gb171, 2, none⟩ = some (.slice A0_2 l0_2.length c0_2) := (blk_cell BK171.out 2).trans rfl
        have hfz16_0 := blk_frozen BK171.out 0
        have hfz16_1 := blk_frozen BK171.out 1
        have hfz16_2 := blk_frozen BK171.out 2
        have p174 : 0 ≤ (x7_1 : Int) := of_decide_eq_true (by first|(with_reducible assumption)|assumption)
        have q174 : x7_1 < (l0_1.length : Int) := of_decide_eq_true (by first|(with_reducible assumption)|assumption)
        obtain ⟨ad174, e174, hx174_0, hx174_1⟩ := at_T51 HR0_1.out x7_1 p174 q174
        cases e174
        replace hx174_0 := (HB.out.cell (World.block_lt_of_cell? w _ hx174_0)).trans hx174_0
        replace hx174_1 := (HB.out.cell (World.block_lt_of_cell? w _ hx174_1)).trans hx174_1
        replace p174 := eq_true p174
        replace q174 := eq_true q174
        go_wp2_with (first|((with_reducible refine gate_callee (f := 41) rfl ?_); refine goesL_ (some 32) rfl rfl Tryz.func41 (by kernel_rfl) rfl #[.agg #[.string ((rd_T51 l0_1 x7_1).f0), .string ((rd_T51 l0_1 x7_1).f1)]] rfl (by (try simp only [List.map_toArray, List.map_cons, List.map_nil]); first|done|rfl|(simp only [List.length_drop, List.length_take]; rfl)) ?_; (with_reducible refine (stowageref27_may.calls k1 ((rd_T51 l0_1 x7_1).f0) ((rd_T51 l0_1 x7_1).f1) false _ A12.out).mono ?_); rintro e w17 ⟨rfl, hb⟩; refine ⟨_, rfl, ?_⟩; have n0_ := Aside0.mk (blk_below (g := gb171) (o := .cells #[.int .i64 a0_0, .slice (some ad174) l0_1.length c0_1, .slice A0_2 l0_2.length c0_2] 26 (0, 0)) (by (with_reducible repeat (first|refine blk_drewN ?_ _|refine blk_drew ?_|refine blk_alloc ?_ _)); exact BK171.out) hb); have n1_ := Aside0.mk (below_step (by repeat (first|(with_reducible first|exact HB.out|apply below_alloc|apply pw_below_drewN|apply below_drew1|refine below_set ?_ GE171.out)|exact HB.out)) hb); clear BK171; clear HB; have BK171 := n0_; have HB := n1_; clear n0_ n1_; (try clear hb); (try clear hb2); (try clear hk); (try clear hi)))
        go_ret
        exact ⟨by first|rfl|(simp [errW_none, errW_some] <;> rfl)|(simp [*, errW_none, errW_some] <;> rfl), by repeat (first|(with_reducible first|exact HB.out|apply below_alloc|apply pw_below_drewN|apply below_drew1|refine below_set ?_ GE171.out)|exact HB.out)⟩
      ·rw [if_neg c11] at H
       exact absurd H (by simp)
     ·rw [if_neg c10] at H
      have c10b0 : decide (x7_1 < (l0_1.length : Int)) = false := decide_eq_false c10
      clear c10
      by_cases c18 : a1 > 1048576
      ·rw [if_pos c18] at H
       have c18b0 : decide (1048576 < a1) = true := decide_eq_true c18
       clear c18
       obtain rfl := Option.some.inj H
       have hcz19_0 : wr.cell? ⟨gb171, 0, none⟩ = some (.int .i64 a0_0) := (blk_cell BK171.out 0).trans rfl
       have hcz19_1 : wr.cell? ⟨gb171, 1, none⟩ = some (.slice A0_1 l0_1.length c0_1) := (blk_cell BK171.out 1).trans rfl
       have hcz19_2 : wr.cell? ⟨gb171, 2, none⟩ = some (.slice A0_2 l0_2.length c0_2) := (blk_cell BK171.out 2).trans rfl
       have hfz19_0 := blk_frozen BK171.out 0
       have hfz19_1 := blk_frozen BK171.out 1
       have hfz19_2 := blk_frozen BK171.out 2
       go_wp2
       go_ret
       exact ⟨by first|rfl|(simp [errW_none, errW_some] <;> rfl)|(simp [*, errW_none, errW_some] <;> rfl), by repeat (first|(with_reducible first|exact HB.out|apply below_alloc|apply pw_below_drewN|apply below_drew1|refine below_set ?_ GE171.out)|exact HB.out)⟩
      ·rw [if_neg c18] at H
       have c18b0 : decide (1048576 < a1) = false := decide_eq_false c18
       clear c18
       obtain rfl := Option.some.inj H
       have hcz20_0 : wr.cell? ⟨gb171, 0, none⟩ = some (.int .i64 a0_0) := (blk_cell BK171.out 0).trans rfl
       have hcz20_1 : wr.cell? ⟨gb171, 1, none⟩ = some (.slice A0_1 l0_1.length c0_1) := (blk_cell BK171.out 1).trans rfl
       have hcz20_2 : wr.cell? ⟨gb171, 2, none⟩ = some (.slice A0_2 l0_2.length c0_2) := (blk_cell BK171.out 2).trans rfl
       have hfz20_0 := blk_frozen BK171.out 0
       have hfz20_1 := blk_frozen BK171.out 1
       have hfz20_2 := blk_frozen BK171.out 2
       go_wp2
       go_ret
       exact ⟨by first|rfl|(simp [errW_none, errW_some] <;> rfl)|(simp [*, errW_none, errW_some] <;> rfl), by repeat (first|(with_reducible first|exact HB.out|apply below_alloc|apply pw_below_drewN|apply below_drew1|refine below_set ?_ GE171.out)|exact HB.out)⟩
 ·rw [if_neg c4] at H
  have c4b0 : (t173 == 0) = false := beq_eq_false_iff_ne.mpr c4
  have c4b1 : (t173 != 0) = true := bne_iff_ne.mpr c4
  obtain rfl := Option.some.inj H
  go_enter Tryz.func24, Tryz.ntmps24
  go_wp2_with (first|((with_reducible refine gate_dst (N := 2) rfl ?_); refine box_event ?hg (N := 2) ?hd (cs := #[.int .i64 a0_0, .slice A0_1 l0_1.length c0_1, .slice A0_2 l0_2.length c0_2]) (t := 26) ?hr ?_; (case hd => rfl); (case hg => rfl); (case hr => first|(go_simp; done)|(go_simp; rfl)); intro gb171 hg w21 hbox hb; have n0_ := Aside0.mk (below_step (by repeat (first|(with_reducible first|exact HB.out|apply below_alloc|apply pw_below_drewN|apply below_drew1)|exact HB.out)) hb); have n1_ := Aside0.mk (hbox); have n2_ := Aside0.mk ((by rw [hg]; exact (below_size (by repeat (first|(with_reducible first|exact HB.out|apply below_alloc|apply pw_below_drewN|apply below_drew1)|exact HB.out))) : w.heap.size ≤ gb171)); have n3_ := Aside0.mk ((by rw [hg]; exact (below_size (by repeat (first|(with_reducible first|exact HB.out|apply below_alloc|apply pw_below_drewN|apply below_drew1)|exact HB.out))) : w.heap.size ≤ gb171)); clear HB; have HB := n0_; have BK171 := n1_; have GW171 := n2_; have GE171 := n3_; clear n0_ n1_ n2_ n3_; clear hb hbox hg; have hcz22_0 : w21.cell? ⟨gb171, 0, none⟩ = some (.int .i64 a0_0) := (blk_cell BK171.out 0).trans rfl; have hcz22_1 : w21.cell? ⟨gb171, 1, none⟩ = some (.slice A0_1 l0_1.length c0_1) := (blk_cell BK171.out 1).trans rfl; have hcz22_2 : w21.cell? ⟨gb171, 2, none⟩ = some (.slice A0_2 l0_2.length c0_2) := (blk_cell BK171.out 2).trans rfl; have hfz22_0 := blk_frozen BK171.out 0; have hfz22_1 := blk_frozen BK171.out 1; have hfz22_2 := blk_frozen BK171.out 2)|((with_reducible refine gate_callee (f := 17) rfl ?_); refine goesL_ (some 11) rfl rfl Tryz.func17 (by kernel_rfl) rfl #[.int .i64 a0_0] rfl (by (try simp only [List.map_toArray, List.map_cons, List.map_nil]); first|done|rfl|(simp only [List.length_drop, List.length_take]; rfl)) ?_; (with_reducible refine (stowageref27_Words.calls a0_0 t172 t173 _ A3.out).mono ?_); rintro e w' ⟨rfl, ⟨nd, rfl⟩⟩; refine ⟨_, rfl, ?_⟩))
  go_ret
  exact ⟨by first|rfl|(simp [errW_none, errW_some] <;> rfl)|(simp [*, errW_none, errW_some] <;> rfl), by repeat (first|(with_reducible first|exact HB.out|apply below_alloc|apply pw_below_drewN|apply below_drew1|refine below_set ?_ GE171.out)|exact HB.out)⟩

end Go.Proofs.YtmgpbcpggnlkkaaGreatDoor.Pr
end
section
namespace Go.Proofs.YtmgpbcpggnlkkaaGreatDoor.Pr
open Go.RowKit Go.Proofs.YtmgpbcpggnlkkaaGreatDoorW.PrintWords Go.Proofs.YtmgpbcpggnlkkaaGreatDoorW.PrintLast Go.Proofs.YtmgpbcpggnlkkaaGreatDoorW.PrintMore
attribute [local go_sem] max2_int min2_int max_two min_two max_three min_three max_four min_four -- for this text's walks alone
set_option linter.unusedVariables false
set_option linter.unusedSimpArgs false

/-! ### stowagekit_SameBytes: function 18 -/
def stowagekit_SameBytes.f (l0 : List Int) (l1 : List Int) : Option (Bool) := some ((strOfNums l0).toList == (strOfNums l1).toList)
set_option maxHeartbeats 8000000 in
set_option maxRecDepth 100000 in
theorem stowagekit_SameBytes.calls (A0 : Option Addr) (c0 : Nat) (l0 : List Int) (A1 : Option Addr) (c1 : Nat) (l1 : List Int) (r : Bool) (w : World) (hr0 : Kd.C (Kd.int .u8) w A0 l0.length l0) (hc0 : l0.length ≤ c0) (hr1 : Kd.C (Kd.int .u8) w A1 l1.length l1) (hc1 : l1.length ≤ c1) (h : stowagekit_SameBytes.f l0 l1 = some r) :
  Calls Tryz.prog 18 #[.slice A0 l0.length c0, .slice A1 l1.length c1] w fun e w' => e = .returned (.bool r) ∧ Drawn0 w w' := by
 have HR0 := Aside0.mk hr0
 have HC0 := Aside0.mk hc0
 clear hr0 hc0
 have HR1 := Aside0.mk hr1
 have HC1 := Aside0.mk hc1
 clear hr1 hc1
 have H : (some ((strOfNums l0).toList == (strOfNums l1).toList)) = some r := h
 clear h
 obtain rfl := Option.some.inj H
 have hcv3 := Kd.C_string (P := Tryz.prog) (A := A0) (c := c0) Tryz.underlying22 Tryz.underlying5 Tryz.underlying9 HR0.out
 have hcv4 := Kd.C_string (P := Tryz.prog) (A := A1) (c := c1) Tryz.underlying22 Tryz.underlying5 Tryz.underlying9 HR1.out
 go_enter Tryz.func18, Tryz.ntmps18
 go_wp2
 go_ret
 exact ⟨by first|rfl|(simp; done)|(simp [*]; done), by repeat (first|exact Drawn0.refl _|apply Drawn0.step)⟩

end Go.Proofs.YtmgpbcpggnlkkaaGreatDoor.Pr
end
section
namespace Go.Proofs.YtmgpbcpggnlkkaaGreatDoor.Pr
open Go.RowKit Go.Proofs.YtmgpbcpggnlkkaaGreatDoorW.PrintWords Go.Proofs.YtmgpbcpggnlkkaaGreatDoorW.PrintLast Go.Proofs.YtmgpbcpggnlkkaaGreatDoorW.PrintMore
attribute [local go_sem] max2_int min2_int max_two min_two max_three min_three max_four min_four -- for this text's walks alone
set_option linter.unusedVariables false
set_option linter.unusedSimpArgs false

theorem eqA51 (d : Nat) (w : World) (x0 y0 : ByteArray) (x1 y1 : ByteArray) :
  (Op.equalIn (d + 2) 51 (.agg #[.string x0, .string x1]) (.agg #[.string y0, .string y1])).run Tryz.prog w = .ok (x0.toList == y0.toList && (x1.toList == y1.toList)) w := by
 refine eqA_of Tryz.underlying51 (by kernel_rfl) ?_
 refine eqf_cons (by rfl) (by go_simp; rfl) (by go_simp; rfl) (by go_simp) ?_
 exact eqf_last (by rfl) (by go_simp; rfl) (by go_simp; rfl) (by go_simp)
end Go.Proofs.YtmgpbcpggnlkkaaGreatDoor.Pr
end
section
namespace Go.Proofs.YtmgpbcpggnlkkaaGreatDoor.Pr
open Go.RowKit Go.Proofs.YtmgpbcpggnlkkaaGreatDoorW.PrintWords Go.Proofs.YtmgpbcpggnlkkaaGreatDoorW.PrintLast Go.Proofs.YtmgpbcpggnlkkaaGreatDoorW.PrintMore
attribute [local go_sem] max2_int min2_int max_two min_two max_three min_three max_four min_four -- for this text's walks alone
set_option linter.unusedVariables false
set_option linter.unusedSimpArgs false

attribute [local go_sem high] eqA51
/-! ### stowagekit_SamePairs: function 26 -/
def stowagekit_SamePairs.l0 : Nat → List (S51) → List (S51) → Int → Option (Bool)
 | 0, _, _, _ => none
 | k + 1, x0, x1, x5 => if x5 < (x0.length : Int) then (if 0 ≤ x5 then (if x5 < (x1.length : Int) then (if (!((((rd_T51 x0 x5).f0).toList) == (((rd_T51 x1 x5).f0).toList)) || (!((((rd_T51 x0 x5).f1).toList) == (((rd_T51 x1 x5).f1).toList)))) = true then (some false) else (stowagekit_SamePairs.l0 k x0 x1 (wrap64 (x5 + 1)))) else (none)) else (none)) else (some true)
def stowagekit_SamePairs.f (k : Nat) (l0 : List (S51)) (l1 : List (S51)) : Option (Bool) := if (l0.length : Int) = (l1.length : Int) then (stowagekit_SamePairs.l0 k l0 l1 0) else (some false)
theorem stowagekit_SamePairs.mono_l : ∀ k, (∀ y0 y1 y2, LeO (stowagekit_SamePairs.l0 k y0 y1 y2) (stowagekit_SamePairs.l0 (k + 1) y0 y1 y2))
 | 0 => fun _ _ _ r h => by simp [stowagekit_SamePairs.l0] at h
 | k + 1 => by
  have ih0 := stowagekit_SamePairs.mono_l k
  ·intro y0 y1 y2
   unfold stowagekit_SamePairs.l0
   repeat' first
   | (with_reducible exact ih0 _ _ _)
   | (with_reducible exact LeO.refl _)
   | (with_reducible exact LeO.none _)
   | (with_reducible refine LeO.ite ?_ ?_)
   | (with_reducible refine LeO.bind ?_ (fun _ => ?_))
   | exact ih0 _ _ _
   | exact LeO.none _
   | refine LeO.ite ?_ ?_
   | refine LeO.bind ?_ (fun _ => ?_)
theorem stowagekit_SamePairs.mono : ∀ a0 a1 k, LeO (stowagekit_SamePairs.f k a0 a1) (stowagekit_SamePairs.f (k + 1) a0 a1) := by
 intro a0 a1 k
 have ih0 := stowagekit_SamePairs.mono_l k
 unfold stowagekit_SamePairs.f
 repeat' first
   | (with_reducible exact ih0 _ _ _)
   | (with_reducible exact LeO.refl _)
   | (with_reducible exact LeO.none _)
   | (with_reducible refine LeO.ite ?_ ?_)
   | (with_reducible refine LeO.bind ?_ (fun _ => ?_))
   | exact ih0 _ _ _
   | exact LeO.none _
   | refine LeO.ite ?_ ?_
   | refine LeO.bind ?_ (fun _ => ?_)
set_option maxHeartbeats 8000000 in
set_option maxRecDepth 100000 in
theorem stowagekit_SamePairs.calls (k : Nat) (A0 : Option Addr) (c0 : Nat) (l0 : List (S51)) (A1 : Option Addr) (c1 : Nat) (l1 : List (S51)) (r : Bool) (w : World) (hr0 : Kd.C k51 w A0 l0.length l0) (hc0 : l0.length ≤ c0) (hr1 : Kd.C k51 w A1 l1.length l1) (hc1 : l1.length ≤ c1) (h : stowagekit_SamePairs.f k l0 l1 = some r) :
  Calls Tryz.prog 26 #[.slice A0 l0.length c0, .slice A1 l1.length c1] w fun e w' => e = .returned (.bool r) ∧ Drawn0 w w' := by
 have hu51 := Tryz.underlying51
 have HR0 := Aside0.mk hr0
 have HC0 := Aside0.mk hc0
 clear hr0 hc0
 have HR1 := Aside0.mk hr1
 have HC1 := Aside0.mk hc1
 clear hr1 hc1
 have H : (if (l0.length : Int) = (l1.length : Int) then (stowagekit_SamePairs.l0 k l0 l1 0) else (some false)) = some r := h
 clear h
 by_cases c3 : (l0.length : Int) = (l1.length : Int)
 ·rw [if_pos c3] at H
  have c3b0 : ((l0.length : Int) == (l1.length : Int)) = true := beq_iff_eq.mpr c3
  have c3b1 : ((l0.length : Int) != (l1.length : Int)) = false := bne_eq_false_iff_eq.mpr c3
  have c3b2 : (l0.length == l1.length) = true := by first|simpa using c3|(simp at c3 ⊢; omega)
  clear c3
  have H' := Aside0.mk H
  clear H
  go_enter Tryz.func26, Tryz.ntmps26
  go_wp2
  repeat (go_quiet (fail); try go_wp2)
  go_loopg [5] k (fun kq v5 w' => ∃ (x5_1 : Int), v5 = .int .i64 x5_1 ∧ Aside0 (stowagekit_SamePairs.l0 kq l0 l1 x5_1 = some r) ∧ Aside0 (kq ≤ k) ∧ Drawn0 w w')
  case atStart => exact ⟨(0), (by first|rfl|(simp; done)|(simp [*]; done)), H', ⟨Nat.le_refl _⟩, by repeat (first|exact Drawn0.refl _|apply Drawn0.step)⟩
  case round =>
   clear H'
   try clear c1
   try clear c2
   try clear p2
   try clear c3
   try clear c3b0
   try clear c3b1
   try clear c3b2
   obtain ⟨x5_1, rfl, HA, HK1, ⟨m1, rfl⟩⟩ := hrel
   cases gk with
   | zero => exact absurd HA.out (by simp [stowagekit_SamePairs.l0])
   | succ k1 =>
    have H := HA.out
    clear HA
    simp only [stowagekit_SamePairs.l0] at H
    by_cases c4 : x5_1 < (l0.length : Int)
    ·rw [if_pos c4] at H
     have c4b0 : decide (x5_1 < (l0.length : Int)) = true := decide_eq_true c4
     clear c4
     by_cases c5 : 0 ≤ x5_1
     ·rw [if_pos c5] at H
      have c5b0 : decide (0 ≤ x5_1) = true := decide_eq_true c5
      clear c5
      by_cases c6 : x5_1 < (l1.length : Int)
      ·rw [if_pos c6] at H
       have c6b0 : decide (x5_1 < (l1.length : Int)) = true := decide_eq_true c6
       clear c6
       by_cases c7 : (!((((rd_T51 l0 x5_1).f0).toList) == (((rd_T51 l1 x5_1).f0).toList)) || (!((((rd_T51 l0 x5_1).f1).toList) == (((rd_T51 l1 x5_1).f1).toList)))) = true
       ·rw [if_pos c7] at H
        have c7b0 : (!((((rd_T51 l0 x5_1).f0).toList) == (((rd_T51 l1 x5_1).f0).toList)) || (!((((rd_T51 l0 x5_1).f1).toList) == (((rd_T51 l1 x5_1).f1).toList)))) = true := c7
        clear c7
        obtain rfl := Option.some.inj H
        have p217 : 0 ≤ (x5_1 : Int) := of_decide_eq_true (by first|(with_reducible assumption)|assumption)
        have q217 : x5_1 < (l0.length : Int) := of_decide_eq_true (by first|(with_reducible assumption)|assumption)
        obtain ⟨ad217, e217, hx217_0, hx217_1⟩ := at_T51 HR0.out x5_1 p217 q217
        cases e217
        replace p217 := eq_true p217
        replace q217 := eq_true q217
        have p218 : 0 ≤ (x5_1 : Int) := of_decide_eq_true (by first|(with_reducible assumption)|assumption)
        have q218 : x5_1 < (l1.length : Int) := of_decide_eq_true (by first|(with_reducible assumption)|assumption)
        obtain ⟨ad218, e218, hx218_0, hx218_1⟩ := at_T51 HR1.out x5_1 p218 q218
        cases e218
        replace p218 := eq_true p218
        replace q218 := eq_true q218
        go_wp2
        repeat (go_quiet (fail); try go_wp2)
        go_ret
        exact ⟨by first|rfl|(simp; done)|(simp [*]; done), by repeat (first|exact Drawn0.refl _|apply Drawn0.step)⟩
       ·rw [if_neg c7] at H
        have c7b0 : (!((((rd_T51 l0 x5_1).f0).toList) == (((rd_T51 l1 x5_1).f0).toList)) || (!((((rd_T51 l0 x5_1).f1).toList) == (((rd_T51 l1 x5_1).f1).toList)))) = false := by simpa using c7
        clear c7
        have H' := Aside0.mk H
        clear H
        have p217 : 0 ≤ (x5_1 : Int) := of_decide_eq_true (by first|(with_reducible assumption)|assumption)
        have q217 : x5_1 < (l0.length : Int) := of_decide_eq_true (by first|(with_reducible assumption)|assumption)
        obtain ⟨ad217, e217, hx217_0, hx217_1⟩ := at_T51 HR0.out x5_1 p217 q217
        cases e217
        replace p217 := eq_true p217
        replace q217 := eq_true q217
        have p218 : 0 ≤ (x5_1 : Int) := of_decide_eq_true (by first|(with_reducible assumption)|assumption)
        have q218 : x5_1 < (l1.length : Int) := of_decide_eq_true (by first|(with_reducible assumption)|assumption)
        obtain ⟨ad218, e218, hx218_0, hx218_1⟩ := at_T51 HR1.out x5_1 p218 q218
        cases e218
        replace p218 := eq_true p218
        replace q218 := eq_true q218
        go_wp2
        repeat (go_quiet (fail); try go_wp2)
        go_roundg k1
        case measure => have := HK1.out; omega
        case rel => exact ⟨(wrap64 (x5_1 + 1)), (by first|rfl|(simp; done)|(simp [*]; done)), H', ⟨by have := HK1.out; omega⟩, by repeat (first|exact Drawn0.refl _|apply Drawn0.step)⟩
      ·rw [if_neg c6] at H
       exact absurd H (by simp)
     ·rw [if_neg c5] at H
      exact absurd H (by simp)
    ·rw [if_neg c4] at H
     have c4b0 : decide (x5_1 < (l0.length : Int)) = false := decide_eq_false c4
     clear c4
     obtain rfl := Option.some.inj H
     go_wp2
     repeat (go_quiet (fail); try go_wp2)
     go_ret
     exact ⟨by first|rfl|(simp; done)|(simp [*]; done), by repeat (first|exact Drawn0.refl _|apply Drawn0.step)⟩
 ·rw [if_neg c3] at H
  have c3b0 : ((l0.length : Int) == (l1.length : Int)) = false := beq_eq_false_iff_ne.mpr c3
  have c3b1 : ((l0.length : Int) != (l1.length : Int)) = true := bne_iff_ne.mpr c3
  have c3b2 : (l0.length == l1.length) = false := by first|simpa using c3|(simp at c3 ⊢; omega)
  obtain rfl := Option.some.inj H
  go_enter Tryz.func26, Tryz.ntmps26
  go_wp2
  repeat (go_quiet (fail); try go_wp2)
  go_ret
  exact ⟨by first|rfl|(simp; done)|(simp [*]; done), by repeat (first|exact Drawn0.refl _|apply Drawn0.step)⟩

end Go.Proofs.YtmgpbcpggnlkkaaGreatDoor.Pr
end
section
namespace Go.Proofs.YtmgpbcpggnlkkaaGreatDoor.Pr
open Go.RowKit Go.Proofs.YtmgpbcpggnlkkaaGreatDoorW.PrintWords Go.Proofs.YtmgpbcpggnlkkaaGreatDoorW.PrintLast Go.Proofs.YtmgpbcpggnlkkaaGreatDoorW.PrintMore
attribute [local go_sem] max2_int min2_int max_two min_two max_three min_three max_four min_four -- for this text's walks alone
set_option linter.unusedVariables false
set_option linter.unusedSimpArgs false

/-! ### stowagekit_SameResponse: function 8 -/
def stowagekit_SameResponse.f (k : Nat) (a0_0 : Int) (l0_1 : List (S51)) (l0_2 : List Int) (a1_0 : Int) (l1_1 : List (S51)) (l1_2 : List Int) : Option (Bool) := if a0_0 = a1_0 then ((stowagekit_SamePairs.f k l0_1 l1_1).bind fun t221 => (if t221 = true then ((stowagekit_SameBytes.f l0_2 l1_2).bind fun t222 => (some t222)) else (some false))) else (some false)
theorem stowagekit_SameResponse.mono : ∀ a0 a1 a2 a3 a4 a5 k, LeO (stowagekit_SameResponse.f k a0 a1 a2 a3 a4 a5) (stowagekit_SameResponse.f (k + 1) a0 a1 a2 a3 a4 a5) := by
 intro a0 a1 a2 a3 a4 a5 k
 unfold stowagekit_SameResponse.f
 repeat' first
   | (with_reducible exact stowagekit_SamePairs.mono _ _ _)
   | (with_reducible exact LeO.refl _)
   | (with_reducible exact LeO.none _)
   | (with_reducible refine LeO.ite ?_ ?_)
   | (with_reducible refine LeO.bind ?_ (fun _ => ?_))
   | exact stowagekit_SamePairs.mono _ _ _
   | exact LeO.none _
   | refine LeO.ite ?_ ?_
   | refine LeO.bind ?_ (fun _ => ?_)
set_option maxHeartbeats 8000000 in
set_option maxRecDepth 100000 in
theorem stowagekit_SameResponse.calls (k : Nat) (a0_0 : Int) (A0_1 : Option Addr) (c0_1 : Nat) (l0_1 : List (S51)) (A0_2 : Option Addr) (c0_2 : Nat) (l0_2 : List Int) (a1_0 : Int) (A1_1 : Option Addr) (c1_1 : Nat) (l1_1 : List (S51)) (A1_2 : Option Addr) (c1_2 : Nat) (l1_2 : List Int) (r : Bool) (w : World) (hr0_1 : Kd.C k51 w A0_1 l0_1.length l0_1) (hc0_1 : l0_1.length ≤ c0_1) (hr0_2 : Kd.C (Kd.int .u8) w A0_2 l0_2.length l0_2) (hc0_2 : l0_2.length ≤ c0_2) (hr1_1 : Kd.C k51 w A1_1 l1_1.length l1_1) (hc1_1 : l1_1.length ≤ c1_1) (hr1_2 : Kd.C (Kd.int .u8) w A1_2 l1_2.length l1_2) (hc1_2 : l1_2.length ≤ c1_2) (h : stowagekit_SameResponse.f k a0_0 l0_1 l0_2 a1_0 l1_1 l1_2 = some r) :
  Calls Tryz.prog 8 #[.agg #[.int .i64 a0_0, .slice A0_1 l0_1.length c0_1, .slice A0_2 l0_2.length c0_2], .agg #[.int .i64 a1_0, .slice A1_1 l1_1.length c1_1, .slice A1_2 l1_2.length c1_2]] w fun e w' => e = .returned (.bool r) ∧ Below w.heap.size w w' := by
 have hu26 := Tryz.underlying26
 have HR0_1 := Aside0.mk hr0_1
 have HC0_1 := Aside0.mk hc0_1
 clear hr0_1 hc0_1
 have HR0_2 := Aside0.mk hr0_2
 have HC0_2 := Aside0.mk hc0_2
 clear hr0_2 hc0_2
 have HR1_1 := Aside0.mk hr1_1
 have HC1_1 := Aside0.mk hc1_1
 clear hr1_1 hc1_1
 have HR1_2 := Aside0.mk hr1_2
 have HC1_2 := Aside0.mk hc1_2
 clear hr1_2 hc1_2
 have HB := Aside0.mk (Below.refl w.heap.size w)
 have H : (if a0_0 = a1_0 then ((stowagekit_SamePairs.f k l0_1 l1_1).bind fun t221 => (if t221 = true then ((stowagekit_SameBytes.f l0_2 l1_2).bind fun t222 => (some t222)) else (some false))) else (some false)) = some r := h
 clear h
 by_cases c3 : a0_0 = a1_0
 ·rw [if_pos c3] at H
  have c3b0 : (a0_0 == a1_0) = true := beq_iff_eq.mpr c3
  have c3b1 : (a0_0 != a1_0) = false := bne_eq_false_iff_eq.mpr c3
  clear c3
  replace H := Option.bind_eq_some_iff.mp H
  obtain ⟨t221, A40, H⟩ := H
  replace H : (if t221 = true then ((stowagekit_SameBytes.f l0_2 l1_2).bind fun t222 => (some t222)) else (some false)) = some r := H
  have A4 := Aside0.mk A40
  clear A40
  by_cases c5 : t221 = true
  ·subst c5
   have H1 : ((stowagekit_SameBytes.f l0_2 l1_2).bind fun t222 => (some t222)) = some r := by rw [if_pos rfl] at H; exact H
   clear H
   have H := H1
   clear H1
   replace H := Option.bind_eq_some_iff.mp H
   obtain ⟨t222, A60, H⟩ := H
   replace H : (some t222) = some r := H
   have A6 := Aside0.mk A60
   clear A60
   obtain rfl := Option.some.inj H
   go_enter Tryz.func8, Tryz.ntmps8
   go_wp2_with (first|((with_reducible refine gate_dst (N := 2) rfl ?_); refine box_event ?hg (N := 2) ?hd (cs := #[.int .i64 a0_0, .slice A0_1 l0_1.length c0_1, .slice A0_2 l0_2.length c0_2]) (t := 26) ?hr ?_; (case hd => rfl); (case hg => rfl); (case hr => first|(go_simp; done)|(go_simp; rfl)); intro gb219 hg w7 hbox hb; have n0_ := Aside0.mk (below_step (by repeat (first|(with_reducible first|exact HB.out|apply below_alloc|apply pw_below_drewN|apply below_drew1)|exact HB.out)) hb); have n1_ := Aside0.mk (hbox); have n2_ := Aside0.mk ((by rw [hg]; exact (below_size (by repeat (first|(with_reducible first|exact HB.out|apply below_alloc|apply pw_below_drewN|apply below_drew1)|exact HB.out))) : w.heap.size ≤ gb219)); have n3_ := Aside0.mk ((by rw [hg]; exact (below_size (by repeat (first|(with_reducible first|exact HB.out|apply below_alloc|apply pw_below_drewN|apply below_drew1)|exact HB.out))) : w.heap.size ≤ gb219)); clear HB; have HB := n0_; have BK219 := n1_; have GW219 := n2_; have GE219 := n3_; clear n0_ n1_ n2_ n3_; clear hb hbox hg)|((with_reducible refine gate_dst (N := 3) rfl ?_); refine box_event ?hg (N := 3) ?hd (cs := #[.int .i64 a1_0, .slice A1_1 l1_1.length c1_1, .slice A1_2 l1_2.length c1_2]) (t := 26) ?hr ?_; (case hd => rfl); (case hg => rfl); (case hr => first|(go_simp; done)|(go_simp; rfl)); intro gb220 hg w8 hbox hb; have n0_ := Aside0.mk (blk_below (g := gb219) (o := .cells #[.int .i64 a0_0, .slice A0_1 l0_1.length c0_1, .slice A0_2 l0_2.length c0_2] 26 (0, 0)) (by (with_reducible repeat (first|refine blk_drewN ?_ _|refine blk_drew ?_|refine blk_alloc ?_ _)); exact BK219.out) hb); have n1_ := Aside0.mk (below_step (by repeat (first|(with_reducible first|exact HB.out|apply below_alloc|apply pw_below_drewN|apply below_drew1|refine below_set ?_ GE219.out)|exact HB.out)) hb); have n2_ := Aside0.mk (hbox); have n3_ := Aside0.mk ((by rw [hg]; exact (below_size (by repeat (first|(with_reducible first|exact HB.out|apply below_alloc|apply pw_below_drewN|apply below_drew1|refine below_set ?_ GE219.out)|exact HB.out))) : w.heap.size ≤ gb220)); have n4_ := Aside0.mk ((by rw [hg]; exact (below_size (by repeat (first|(with_reducible first|exact HB.out|apply below_alloc|apply pw_below_drewN|apply below_drew1|refine below_set ?_ GE219.out)|exact HB.out))) : w.heap.size ≤ gb220)); have n5_ := Aside0.mk ((by rw [hg]; exact Nat.ne_of_lt (blk_lt (g := gb219) (o := .cells #[.int .i64 a0_0, .slice A0_1 l0_1.length c0_1, .slice A0_2 l0_2.length c0_2] 26 (0, 0)) (by (with_reducible repeat (first|refine blk_drewN ?_ _|refine blk_drew ?_|refine blk_alloc ?_ _)); exact BK219.out)) : gb219 ≠ gb220)); have n6_ := Aside0.mk ((by rw [hg]; exact Nat.ne_of_gt (blk_lt (g := gb219) (o := .cells #[.int .i64 a0_0, .slice A0_1 l0_1.length c0_1, .slice A0_2 l0_2.length c0_2] 26 (0, 0)) (by (with_reducible repeat (first|refine blk_drewN ?_ _|refine blk_drew ?_|refine blk_alloc ?_ _)); exact BK219.out)) : gb220 ≠ gb219)); clear BK219; clear HB; have BK219 := n0_; have HB := n1_; have BK220 := n2_; have GW220 := n3_; have GE220 := n4_; have NB219_220 := n5_; have NB220_219 := n6_; clear n0_ n1_ n2_ n3_ n4_ n5_ n6_; clear hb hbox hg; have hnb9 := NB219_220.out; have hnc9 := NB220_219.out; have hcz10_0 : w8.cell? ⟨gb219, 0, none⟩ = some (.int .i64 a0_0) := (blk_cell BK219.out 0).trans rfl; have hcz10_1 : w8.cell? ⟨gb219, 1, none⟩ = some (.slice A0_1 l0_1.length c0_1) := (blk_cell BK219.out 1).trans rfl; have hcz10_2 : w8.cell? ⟨gb219, 2, none⟩ = some (.slice A0_2 l0_2.length c0_2) := (blk_cell BK219.out 2).trans rfl; have hfz10_0 := blk_frozen BK219.out 0; have hfz10_1 := blk_frozen BK219.out 1; have hfz10_2 := blk_frozen BK219.out 2; have hcz11_0 : w8.cell? ⟨gb220, 0, none⟩ = some (.int .i64 a1_0) := (blk_cell BK220.out 0).trans rfl; have hcz11_1 : w8.cell? ⟨gb220, 1, none⟩ = some (.slice A1_1 l1_1.length c1_1) := (blk_cell BK220.out 1).trans rfl; have hcz11_2 : w8.cell? ⟨gb220, 2, none⟩ = some (.slice A1_2 l1_2.length c1_2) := (blk_cell BK220.out 2).trans rfl; have hfz11_0 := blk_frozen BK220.out 0; have hfz11_1 := blk_frozen BK220.out 1; have hfz11_2 := blk_frozen BK220.out 2)|(go_at_call 26; (with_reducible refine (stowagekit_SamePairs.calls k _ _ l0_1 _ _ l1_1 true _ ?side1 ?side2 ?side3 ?side4 A4.out).mono ?_); (case side1 => repeat (first|exact (Kd.C_below HR0_1.out HB.out)|(with_reducible refine Kd.C_alloc ?_ _)|(with_reducible refine Kd.C_drewN ?_ _)|(with_reducible refine Kd.C_drew ?_))); (case side2 => exact HC0_1.out); (case side3 => repeat (first|exact (Kd.C_below HR1_1.out HB.out)|(with_reducible refine Kd.C_alloc ?_ _)|(with_reducible refine Kd.C_drewN ?_ _)|(with_reducible refine Kd.C_drew ?_))); (case side4 => exact HC1_1.out); rintro e w' ⟨rfl, ⟨nd, rfl⟩⟩)|(go_at_call 18; (with_reducible refine (stowagekit_SameBytes.calls _ _ l0_2 _ _ l1_2 t222 _ ?side1 ?side2 ?side3 ?side4 A6.out).mono ?_); (case side1 => repeat (first|exact (Kd.C_below HR0_2.out (by repeat (first|(with_reducible first|exact HB.out|apply below_alloc|apply pw_below_drewN|apply below_drew1|refine below_set ?_ GE219.out|refine below_set ?_ GE220.out)|exact HB.out)))|(with_reducible refine Kd.C_alloc ?_ _)|(with_reducible refine Kd.C_drewN ?_ _)|(with_reducible refine Kd.C_drew ?_))); (case side2 => exact HC0_2.out); (case side3 => repeat (first|exact (Kd.C_below HR1_2.out (by repeat (first|(with_reducible first|exact HB.out|apply below_alloc|apply pw_below_drewN|apply below_drew1|refine below_set ?_ GE219.out|refine below_set ?_ GE220.out)|exact HB.out)))|(with_reducible refine Kd.C_alloc ?_ _)|(with_reducible refine Kd.C_drewN ?_ _)|(with_reducible refine Kd.C_drew ?_))); (case side4 => exact HC1_2.out); rintro e w' ⟨rfl, ⟨nd, rfl⟩⟩))
   go_ret
   exact ⟨by first|rfl|(simp [errW_none, errW_some] <;> rfl)|(simp [*, errW_none, errW_some] <;> rfl), by repeat (first|(with_reducible first|exact HB.out|apply below_alloc|apply pw_below_drewN|apply below_drew1|refine below_set ?_ GE219.out|refine below_set ?_ GE220.out)|exact HB.out)⟩
  ·replace c5 := Bool.eq_false_iff.mpr c5
   subst c5
   have H1 : (some false) = some r := by rw [if_neg (show ¬ (false = true) by decide)] at H; exact H
   clear H
   have H := H1
   clear H1
   obtain rfl := Option.some.inj H
   go_enter Tryz.func8, Tryz.ntmps8
   go_wp2_with (first|((with_reducible refine gate_dst (N := 2) rfl ?_); refine box_event ?hg (N := 2) ?hd (cs := #[.int .i64 a0_0, .slice A0_1 l0_1.length c0_1, .slice A0_2 l0_2.length c0_2]) (t := 26) ?hr ?_; (case hd => rfl); (case hg => rfl); (case hr => first|(go_simp; done)|(go_simp; rfl)); intro gb219 hg w12 hbox hb; have n0_ := Aside0.mk (below_step (by repeat (first|(with_reducible first|exact HB.out|apply below_alloc|apply pw_below_drewN|apply below_drew1)|exact HB.out)) hb); have n1_ := Aside0.mk (hbox); have n2_ := Aside0.mk ((by rw [hg]; exact (below_size (by repeat (first|(with_reducible first|exact HB.out|apply below_alloc|apply pw_below_drewN|apply below_drew1)|exact HB.out))) : w.heap.size ≤ gb219)); have n3_ := Aside0.mk ((by rw [hg]; exact (below_size (by repeat (first|(with_reducible first|exact HB.out|apply below_alloc|apply pw_below_drewN|apply below_drew1)|exact HB.out))) : w.heap.size ≤ gb219)); clear HB; have HB := n0_; have BK219 := n1_; have GW219 := n2_; have GE219 := n3_; clear n0_ n1_ n2_ n3_; clear hb hbox hg)|((with_reducible refine gate_dst (N := 3) rfl ?_); refine box_event ?hg (N := 3) ?hd (cs := #[.int .i64 a1_0, .slice A1_1 l1_1.length c1_1, .slice A1_2 l1_2.length c1_2]) (t := 26) ?hr ?_; (case hd => rfl); (case hg => rfl); (case hr => first|(go_simp; done)|(go_simp; rfl)); intro gb220 hg w13 hbox hb; have n0_ := Aside0.mk (blk_below (g := gb219) (o := .cells #[.int .i64 a0_0, .slice A0_1 l0_1.length c0_1, .slice A0_2 l0_2.length c0_2] 26 (0, 0)) (by (with_reducible repeat (first|refine blk_drewN ?_ _|refine blk_drew ?_|refine blk_alloc ?_ _)); exact BK219.out) hb); have n1_ := Aside0.mk (below_step (by repeat (first|(with_reducible first|exact HB.out|apply below_alloc|apply pw_below_drewN|apply below_drew1|refine below_set ?_ GE219.out)|exact HB.out)) hb); have n2_ := Aside0.mk (hbox); have n3_ := Aside0.mk ((by rw [hg]; exact (below_size (by repeat (first|(with_reducible first|exact HB.out|apply below_alloc|apply pw_below_drewN|apply below_drew1|refine below_set ?_ GE219.out)|exact HB.out))) : w.heap.size ≤ gb220)); have n4_ := Aside0.mk ((by rw [hg]; exact (below_size (by repeat (first|(with_reducible first|exact HB.out|apply below_alloc|apply pw_below_drewN|apply below_drew1|refine below_set ?_ GE219.out)|exact HB.out))) : w.heap.size ≤ gb220)); have n5_ := Aside0.mk ((by rw [hg]; exact Nat.ne_of_lt (blk_lt (g := gb219) (o := .cells #[.int .i64 a0_0, .slice A0_1 l0_1.length c0_1, .slice A0_2 l0_2.length c0_2] 26 (0, 0)) (by (with_reducible repeat (first|refine blk_drewN ?_ _|refine blk_drew ?_|refine blk_alloc ?_ _)); exact BK219.out)) : gb219 ≠ gb220)); have n6_ := Aside0.mk ((by rw [hg]; exact Nat.ne_of_gt (blk_lt (g := gb219) (o := .cells #[.int .i64 a0_0, .slice A0_1 l0_1.length c0_1, .slice A0_2 l0_2.length c0_2] 26 (0, 0)) (by (with_reducible repeat (first|refine blk_drewN ?_ _|refine blk_drew ?_|refine blk_alloc ?_ _)); exact BK219.out)) : gb220 ≠ gb219)); clear BK219; clear HB; have BK219 := n0_; have HB := n1_; have BK220 := n2_; have GW220 := n3_; have GE220 := n4_; have NB219_220 := n5_; have NB220_219 := n6_; clear n0_ n1_ n2_ n3_ n4_ n5_ n6_; clear hb hbox hg; have hnb14 := NB219_220.out; have hnc14 := NB220_219.out; have hcz15_0 : w13.cell? ⟨gb219, 0, none⟩ = some (.int .i64 a0_0) := (blk_cell BK219.out 0).trans rfl; have hcz15_1 : w13.cell? ⟨gb219, 1, none⟩ = some (.slice A0_1 l0_1.length c0_1) := (blk_cell BK219.out 1).trans rfl; have hcz15_2 : w13.cell? ⟨gb219, 2, none⟩ = some (.slice A0_2 l0_2.length c0_2) := (blk_cell BK219.out 2).trans rfl; have hfz15_0 := blk_frozen BK219.out 0; have hfz15_1 := blk_frozen BK219.out 1; have hfz15_2 := blk_frozen BK219.out 2; have hcz16_0 : w13.cell? ⟨gb220, 0, none⟩ = some (.int .i64 a1_0) := (blk_cell BK220.out 0).trans rfl; have hcz16_1 : w13.cell? ⟨gb220, 1, none⟩ = some (.slice A1_1 l1_1.length c1_1) := (blk_cell BK220.out 1).trans rfl; have hcz16_2 : w13.cell? ⟨gb220, 2, none⟩ = some (.slice A1_2 l1_2.length c1_2) := (blk_cell BK220.out 2).trans rfl; have hfz16_0 := blk_frozen BK220.out 0; have hfz16_1 := blk_frozen BK220.out 1; have hfz16_2 := blk_frozen BK220.out 2)|(go_at_call 26; (with_reducible refine (stowagekit_SamePairs.calls k _ _ l0_1 _ _ l1_1 false _ ?side1 ?side2 ?side3 ?side4 A4.out).mono ?_); (case side1 => repeat (first|exact (Kd.C_below HR0_1.out HB.out)|(with_reducible refine Kd.C_alloc ?_ _)|(with_reducible refine Kd.C_drewN ?_ _)|(with_reducible refine Kd.C_drew ?_))); (case side2 => exact HC0_1.out); (case side3 => repeat (first|exact (Kd.C_below HR1_1.out HB.out)|(with_reducible refine Kd.C_alloc ?_ _)|(with_reducible refine Kd.C_drewN ?_ _)|(with_reducible refine Kd.C_drew ?_))); (case side4 => exact HC1_1.out); rintro e w' ⟨rfl, ⟨nd, rfl⟩⟩))
   go_ret
   exact ⟨by first|rfl|(simp [errW_none, errW_some] <;> rfl)|(simp [*, errW_none, errW_some] <;> rfl), by repeat (first|(with_reducible first|exact HB.out|apply below_alloc|apply pw_below_drewN|apply below_drew1|refine below_set ?_ GE219.out|refine below_set ?_ GE220.out)|exact HB.out)⟩
 ·rw [if_neg c3] at H
  have c3b0 : (a0_0 == a1_0) = false := beq_eq_false_iff_ne.mpr c3
  have c3b1 : (a0_0 != a1_0) = true := bne_iff_ne.mpr c3
  obtain rfl := Option.some.inj H
  go_enter Tryz.func8, Tryz.ntmps8
  go_wp2_with (first|((with_reducible refine gate_dst (N := 2) rfl ?_); refine box_event ?hg (N := 2) ?hd (cs := #[.int .i64 a0_0, .slice A0_1 l0_1.length c0_1, .slice A0_2 l0_2.length c0_2]) (t := 26) ?hr ?_; (case hd => rfl); (case hg => rfl); (case hr => first|(go_simp; done)|(go_simp; rfl)); intro gb219 hg w17 hbox hb; have n0_ := Aside0.mk (below_step (by repeat (first|(with_reducible first|exact HB.out|apply below_alloc|apply pw_below_drewN|apply below_drew1)|exact HB.out)) hb); have n1_ := Aside0.mk (hbox); have n2_ := Aside0.mk ((by rw [hg]; exact (below_size (by repeat (first|(with_reducible first|exact HB.out|apply below_alloc|apply pw_below_drewN|apply below_drew1)|exact HB.out))) : w.heap.size ≤ gb219)); have n3_ := Aside0.mk ((by rw [hg]; exact (below_size (by repeat (first|(with_reducible first|exact HB.out|apply below_alloc|apply pw_below_drewN|apply below_drew1)|exact HB.out))) : w.heap.size ≤ gb219)); clear HB; have HB := n0_; have BK219 := n1_; have GW219 := n2_; have GE219 := n3_; clear n0_ n1_ n2_ n3_; clear hb hbox hg)|((with_reducible refine gate_dst (N := 3) rfl ?_); refine box_event ?hg (N := 3) ?hd (cs := #[.int .i64 a1_0, .slice A1_1 l1_1.length c1_1, .slice A1_2 l1_2.length c1_2]) (t := 26) ?hr ?_; (case hd => rfl); (case hg => rfl); (case hr => first|(go_simp; done)|(go_simp; rfl)); intro gb220 hg w18 hbox hb; have n0_ := Aside0.mk (blk_below (g := gb219) (o := .cells #[.int .i64 a0_0, .slice A0_1 l0_1.length c0_1, .slice A0_2 l0_2.length c0_2] 26 (0, 0)) (by (with_reducible repeat (first|refine blk_drewN ?_ _|refine blk_drew ?_|refine blk_alloc ?_ _)); exact BK219.out) hb); have n1_ := Aside0.mk (below_step (by repeat (first|(with_reducible first|exact HB.out|apply below_alloc|apply pw_below_drewN|apply below_drew1|refine below_set ?_ GE219.out)|exact HB.out)) hb); have n2_ := Aside0.mk (hbox); have n3_ := Aside0.mk ((by rw [hg]; exact (below_size (by repeat (first|(with_reducible first|exact HB.out|apply below_alloc|apply pw_below_drewN|apply below_drew1|refine below_set ?_ GE219.out)|exact HB.out))) : w.heap.size ≤ gb220)); have n4_ := Aside0.mk ((by rw [hg]; exact (below_size (by repeat (first|(with_reducible first|exact HB.out|apply below_alloc|apply pw_below_drewN|apply below_drew1|refine below_set ?_ GE219.out)|exact HB.out))) : w.heap.size ≤ gb220)); have n5_ := Aside0.mk ((by rw [hg]; exact Nat.ne_of_lt (blk_lt (g := gb219) (o := .cells #[.int .i64 a0_0, .slice A0_1 l0_1.length c0_1, .slice A0_2 l0_2.length c0_2] 26 (0, 0)) (by (with_reducible repeat (first|refine blk_drewN ?_ _|refine blk_drew ?_|refine blk_alloc ?_ _)); exact BK219.out)) : gb219 ≠ gb220)); have n6_ := Aside0.mk ((by rw [hg]; exact Nat.ne_of_gt (blk_lt (g := gb219) (o := .cells #[.int .i64 a0_0, .slice A0_1 l0_1.length c0_1, .slice A0_2 l0_2.length c0_2] 26 (0, 0)) (by (with_reducible repeat (first|refine blk_drewN ?_ _|refine blk_drew ?_|refine blk_alloc ?_ _)); exact BK219.out)) : gb220 ≠ gb219)); clear BK219; clear HB; have BK219 := n0_; have HB := n1_; have BK220 := n2_; have GW220 := n3_; have GE220 := n4_; have NB219_220 := n5_; have NB220_219 := n6_; clear n0_ n1_ n2_ n3_ n4_ n5_ n6_; clear hb hbox hg; have hnb19 := NB219_220.out; have hnc19 := NB220_219.out; have hcz20_0 : w18.cell? ⟨gb219, 0, none⟩ = some (.int .i64 a0_0) := (blk_cell BK219.out 0).trans rfl; have hcz20_1 : w18.cell? ⟨gb219, 1, none⟩ = some (.slice A0_1 l0_1.length c0_1) := (blk_cell BK219.out 1).trans rfl; have hcz20_2 : w18.cell? ⟨gb219, 2, none⟩ = some (.slice A0_2 l0_2.length c0_2) := (blk_cell BK219.out 2).trans rfl; have hfz20_0 := blk_frozen BK219.out 0; have hfz20_1 := blk_frozen BK219.out 1; have hfz20_2 := blk_frozen BK219.out 2; have hcz21_0 : w18.cell? ⟨gb220, 0, none⟩ = some (.int .i64 a1_0) := (blk_cell BK220.out 0).trans rfl; have hcz21_1 : w18.cell? ⟨gb220, 1, none⟩ = some (.slice A1_1 l1_1.length c1_1) := (blk_cell BK220.out 1).trans rfl; have hcz21_2 : w18.cell? ⟨gb220, 2, none⟩ = some (.slice A1_2 l1_2.length c1_2) := (blk_cell BK220.out 2).trans rfl; have hfz21_0 := blk_frozen BK220.out 0; have hfz21_1 := blk_frozen BK220.out 1; have hfz21_2 := blk_frozen BK220.out 2))
  go_ret
  exact ⟨by first|rfl|(simp [errW_none, errW_some] <;> rfl)|(simp [*, errW_none, errW_some] <;> rfl), by repeat (first|(with_reducible first|exact HB.out|apply below_alloc|apply pw_below_drewN|apply below_drew1|refine below_set ?_ GE219.out|refine below_set ?_ GE220.out)|exact HB.out)⟩

end Go.Proofs.YtmgpbcpggnlkkaaGreatDoor.Pr
end
section
namespace Go.Proofs.YtmgpbcpggnlkkaaGreatDoor.Pr
open Go.RowKit Go.Proofs.YtmgpbcpggnlkkaaGreatDoorW.PrintWords Go.Proofs.YtmgpbcpggnlkkaaGreatDoorW.PrintLast Go.Proofs.YtmgpbcpggnlkkaaGreatDoorW.PrintMore
attribute [local go_sem] max2_int min2_int max_two min_two max_three min_three max_four min_four -- for this text's walks alone
set_option linter.unusedVariables false
set_option linter.unusedSimpArgs false

/-! ### stowageref27_Read: function 7 -/
mutual
def stowageref27_Read.j0 : Nat → List Int → ByteArray → List ByteArray → Bool → Option (Int × (List (S51)) × List Int × Int × Int)
 | 0, _, _, _, _ => none
 | k + 1, x0, x8, x9, x43 => if x43 = true then (some (0, ([] : List (S51)), ([] : List Int), 0, 4)) else (if 0 < (x9.length : Int) then (if 9 ≤ 12 then (if 12 ≤ ((rdOf ByteArray.empty x9 0).size : Int) then ((stowageref27_number.f k ((rdOf ByteArray.empty x9 0).extract 9 12)).bind fun t194 => (stowageref27_Read.l0 k x0 x8 x9 1 t194 ([] : List (S51)))) else (none)) else (none)) else (none))
def stowageref27_Read.l0 : Nat → List Int → ByteArray → List ByteArray → Int → Int → List (S51) → Option (Int × (List (S51)) × List Int × Int × Int)
 | 0, _, _, _, _, _, _ => none
 | k + 1, x0, x8, x9, x11, x196000, x196001 => if (wrap64 (x11 + 1)) < (x9.length : Int) then (if 0 ≤ x11 then (if x11 < (x9.length : Int) then ((stowageref27_after.f k (rdOf ByteArray.empty x9 x11) (⟨#[58, 32]⟩ : ByteArray)).bind fun bt197 => (if bt197.2.2 = true then (if x196001.length < 4398046511104 then (stowageref27_Read.l0 k x0 x8 x9 (wrap64 (x11 + 1)) x196000 (x196001 ++ [(⟨bt197.1, bt197.2.1⟩ : S51)])) else (none)) else (some (0, ([] : List (S51)), ([] : List Int), 0, 4)))) else (none)) else (none)) else (if 0 ≤ (wrap64 ((x9.length : Int) - 1)) then (if (wrap64 ((x9.length : Int) - 1)) < (x9.length : Int) then ((stowageref27_after.f k (rdOf ByteArray.empty x9 (wrap64 ((x9.length : Int) - 1))) (⟨#[99, 111, 110, 116, 101, 110, 116, 45, 108, 101, 110, 103, 116, 104, 58, 32]⟩ : ByteArray)).bind fun bt204 => ((stowageref27_number.f k bt204.2.1).bind fun t207 => (if bt204.2.2 = true then (if t207 < 0 then (stowageref27_Read.j2 k x0 x8 t207 true x196000 x196001) else ((stowageref27_wrong.f k x196000 x196001 ([] : List Int) t207).bind fun t208 => (if t208 = 0 then ((stowageref27_head.f k x196000 x196001 ([] : List Int) t207).bind fun t209 => (stowageref27_Read.j2 k x0 x8 t207 (t209.toList != x8.toList) x196000 x196001)) else (stowageref27_Read.j2 k x0 x8 t207 true x196000 x196001)))) else (stowageref27_Read.j2 k x0 x8 t207 true x196000 x196001)))) else (none)) else (none))
def stowageref27_Read.j2 : Nat → List Int → ByteArray → Int → Bool → Int → List (S51) → Option (Int × (List (S51)) × List Int × Int × Int)
 | 0, _, _, _, _, _, _ => none
 | k + 1, x0, x8, x18, x109, x196000, x196001 => if x109 = true then (some (0, ([] : List (S51)), ([] : List Int), 0, 4)) else (if (wrap64 ((x0.length : Int) - (x8.size : Int))) < x18 then (some (0, ([] : List (S51)), ([] : List Int), 0, 9)) else ((some (([] : List Int) : List Int)).bind fun y210 => (if 0 ≤ (x8.size : Int) then (if (x8.size : Int) ≤ (wrap64 ((x8.size : Int) + x18)) then (if (wrap64 ((x8.size : Int) + x18)) ≤ (x0.length : Int) then (if y210.length + ((x0.take ((wrap64 ((x8.size : Int) + x18)) : Int).toNat).drop ((x8.size : Int) : Int).toNat).length < 140737488355328 then (some (x196000, x196001, (y210 ++ ((x0.take ((wrap64 ((x8.size : Int) + x18)) : Int).toNat).drop ((x8.size : Int) : Int).toNat)), wrap64 ((x8.size : Int) + x18), 0)) else (none)) else (none)) else (none)) else (none))))
end
def stowageref27_Read.f (k : Nat) (l0 : List Int) : Option (Int × (List (S51)) × List Int × Int × Int) := (stowageref27_after.f k (strOfNums l0) (⟨#[13, 10, 13, 10]⟩ : ByteArray)).bind fun bt186 => (if bt186.2.2 = true then (if bt186.1.size + 4 ≤ 9223372036854775807 then (if bt186.1.size + 2 ≤ 9223372036854775807 then ((stowageref27_lines.f k (bt186.1 ++ (⟨#[13, 10]⟩ : ByteArray))).bind fun t189 => (if (t189.length : Int) < 2 then (stowageref27_Read.j0 k l0 (bt186.1 ++ (⟨#[13, 10, 13, 10]⟩ : ByteArray)) t189 true) else (if 0 < (t189.length : Int) then (stowageref27_Read.j0 k l0 (bt186.1 ++ (⟨#[13, 10, 13, 10]⟩ : ByteArray)) t189 (decide (((rdOf ByteArray.empty t189 0).size : Int) < 13))) else (none)))) else (none)) else (none)) else (some (0, ([] : List (S51)), ([] : List Int), 0, 9)))
theorem stowageref27_Read.mono_l : ∀ k, (∀ y0 y1 y2 y3, LeO (stowageref27_Read.j0 k y0 y1 y2 y3) (stowageref27_Read.j0 (k + 1) y0 y1 y2 y3)) ∧ (∀ y0 y1 y2 y3 y4 y5, LeO (stowageref27_Read.l0 k y0 y1 y2 y3 y4 y5) (stowageref27_Read.l0 (k + 1) y0 y1 y2 y3 y4 y5)) ∧ (∀ y0 y1 y2 y3 y4 y5, LeO (stowageref27_Read.j2 k y0 y1 y2 y3 y4 y5) (stowageref27_Read.j2 (k + 1) y0 y1 y2 y3 y4 y5))
 | 0 => ⟨fun _ _ _ _ r h => by simp [stowageref27_Read.j0] at h, fun _ _ _ _ _ _ r h => by simp [stowageref27_Read.l0] at h, fun _ _ _ _ _ _ r h => by simp [stowageref27_Read.j2] at h⟩
 | k + 1 => by
  obtain ⟨ih0, ih1, ih2⟩ := stowageref27_Read.mono_l k
  refine ⟨?_, ?_, ?_⟩
  ·intro y0 y1 y2 y3
   unfold stowageref27_Read.j0
   repeat' first
   | (with_reducible exact ih0 _ _ _ _)
   | (with_reducible exact ih1 _ _ _ _ _ _)
   | (with_reducible exact ih2 _ _ _ _ _ _)
   | (with_reducible exact stowageref27_after.mono _ _ _)
   | (with_reducible exact stowageref27_head.mono _ _ _ _ _)
   | (with_reducible exact stowageref27_lines.mono _ _)
   | (with_reducible exact stowageref27_number.mono _ _)
   | (with_reducible exact stowageref27_wrong.mono _ _ _ _ _)
   | (with_reducible exact LeO.refl _)
   | (with_reducible exact LeO.none _)
   | (with_reducible refine LeO.ite ?_ ?_)
   | (with_reducible refine LeO.bind ?_ (fun _ => ?_))
   | exact ih0 _ _ _ _
   | exact ih1 _ _ _ _ _ _
   | exact ih2 _ _ _ _ _ _
   | exact stowageref27_after.mono _ _ _
   | exact stowageref27_head.mono _ _ _ _ _
   | exact stowageref27_lines.mono _ _
   | exact stowageref27_number.mono _ _
   | exact stowageref27_wrong.mono _ _ _ _ _
   | exact LeO.none _
   | refine LeO.ite ?_ ?_
   | refine LeO.bind ?_ (fun _ => ?_)
  ·intro y0 y1 y2 y3 y4 y5
   unfold stowageref27_Read.l0
   repeat' first
   | (with_reducible exact ih0 _ _ _ _)
   | (with_reducible exact ih1 _ _ _ _ _ _)
   | (with_reducible exact ih2 _ _ _ _ _ _)
   | (with_reducible exact stowageref27_after.mono _ _ _)
   | (with_reducible exact stowageref27_head.mono _ _ _ _ _)
   | (with_reducible exact stowageref27_lines.mono _ _)
   | (with_reducible exact stowageref27_number.mono _ _)
   | (with_reducible exact stowageref27_wrong.mono _ _ _ _ _)
   | (with_reducible exact LeO.refl _)
   | (with_reducible exact LeO.none _)
   | (with_reducible refine LeO.ite ?_ ?_)
   | (with_reducible refine LeO.bind ?_ (fun _ => ?_))
   | exact ih0 _ _ _ _
   | exact ih1 _ _ _ _ _ _
   | exact ih2 _ _ _ _ _ _
   | exact stowageref27_after.mono _ _ _
   | exact stowageref27_head.mono _ _ _ _ _
   | exact stowageref27_lines.mono _ _
   | exact stowageref27_number.mono _ _
   | exact stowageref27_wrong.mono _ _ _ _ _
   | exact LeO.none _
   | refine LeO.ite ?_ ?_
   | refine LeO.bind ?_ (fun _ => ?_)
  ·intro y0 y1 y2 y3 y4 y5
   unfold stowageref27_Read.j2
   repeat' first
   | (with_reducible exact ih0 _ _ _ _)
   | (with_reducible exact ih1 _ _ _ _ _ _)
   | (with_reducible exact ih2 _ _ _ _ _ _)
   | (with_reducible exact stowageref27_after.mono _ _ _)
   | (with_reducible exact stowageref27_head.mono _ _ _ _ _)
   | (with_reducible exact stowageref27_lines.mono _ _)
   | (with_reducible exact stowageref27_number.mono _ _)
   | (with_reducible exact stowageref27_wrong.mono _ _ _ _ _)
   | (with_reducible exact LeO.refl _)
   | (with_reducible exact LeO.none _)
   | (with_reducible refine LeO.ite ?_ ?_)
   | (with_reducible refine LeO.bind ?_ (fun _ => ?_))
   | exact ih0 _ _ _ _
   | exact ih1 _ _ _ _ _ _
   | exact ih2 _ _ _ _ _ _
   | exact stowageref27_after.mono _ _ _
   | exact stowageref27_head.mono _ _ _ _ _
   | exact stowageref27_lines.mono _ _
   | exact stowageref27_number.mono _ _
   | exact stowageref27_wrong.mono _ _ _ _ _
   | exact LeO.none _
   | refine LeO.ite ?_ ?_
   | refine LeO.bind ?_ (fun _ => ?_)
theorem stowageref27_Read.mono : ∀ a0 k, LeO (stowageref27_Read.f k a0) (stowageref27_Read.f (k + 1) a0) := by
 intro a0 k
 obtain ⟨ih0, ih1, ih2⟩ := stowageref27_Read.mono_l k
 unfold stowageref27_Read.f
 repeat' first
   | (with_reducible exact ih0 _ _ _ _)
   | (with_reducible exact ih1 _ _ _ _ _ _)
   | (with_reducible exact ih2 _ _ _ _ _ _)
   | (with_reducible exact stowageref27_after.mono _ _ _)
   | (with_reducible exact stowageref27_head.mono _ _ _ _ _)
   | (with_reducible exact stowageref27_lines.mono _ _)
   | (with_reducible exact stowageref27_number.mono _ _)
   | (with_reducible exact stowageref27_wrong.mono _ _ _ _ _)
   | (with_reducible exact LeO.refl _)
   | (with_reducible exact LeO.none _)
   | (with_reducible refine LeO.ite ?_ ?_)
   | (with_reducible refine LeO.bind ?_ (fun _ => ?_))
   | exact ih0 _ _ _ _
   | exact ih1 _ _ _ _ _ _
   | exact ih2 _ _ _ _ _ _
   | exact stowageref27_after.mono _ _ _
   | exact stowageref27_head.mono _ _ _ _ _
   | exact stowageref27_lines.mono _ _
   | exact stowageref27_number.mono _ _
   | exact stowageref27_wrong.mono _ _ _ _ _
   | exact LeO.none _
   | refine LeO.ite ?_ ?_
   | refine LeO.bind ?_ (fun _ => ?_)
set_option maxHeartbeats 8000000 in
set_option maxRecDepth 100000 in
theorem stowageref27_Read.calls (k : Nat) (A0 : Option Addr) (c0 : Nat) (l0 : List Int) (r1 : Int) (r2 : List (S51)) (r3 : List Int) (r4 : Int) (r5 : Int) (w : World) (hr0 : Kd.C (Kd.int .u8) w A0 l0.length l0) (hc0 : l0.length ≤ c0) (h : stowageref27_Read.f k l0 = some (r1, r2, r3, r4, r5)) :
  Calls Tryz.prog 7 #[.slice A0 l0.length c0] w fun e w' => ∃ v1_ v2_ : Value, e = .returned (.tuple #[.agg #[.int .i64 r1, v1_, v2_], .int .i64 r4, .int .i64 r5]) ∧ Kd.R k51 51 w' w.heap.size (fun _ => True) v1_ r2 ∧ Kd.R (Kd.int .u8) 5 w' w.heap.size (fun _ => True) v2_ r3 ∧ Below w.heap.size w w' := by
 have hu26 := Tryz.underlying26
 have hu51 := Tryz.underlying51
 have HR0 := Aside0.mk hr0
 have HC0 := Aside0.mk hc0
 clear hr0 hc0
 have HB := Aside0.mk (Below.refl w.heap.size w)
 have H : ((stowageref27_after.f k (strOfNums l0) (⟨#[13, 10, 13, 10]⟩ : ByteArray)).bind fun bt186 => (if bt186.2.2 = true then (if bt186.1.size + 4 ≤ 9223372036854775807 then (if bt186.1.size + 2 ≤ 9223372036854775807 then ((stowageref27_lines.f k (bt186.1 ++ (⟨#[13, 10]⟩ : ByteArray))).bind fun t189 => (if (t189.length : Int) < 2 then (stowageref27_Read.j0 k l0 (bt186.1 ++ (⟨#[13, 10, 13, 10]⟩ : ByteArray)) t189 true) else (if 0 < (t189.length : Int) then (stowageref27_Read.j0 k l0 (bt186.1 ++ (⟨#[13, 10, 13, 10]⟩ : ByteArray)) t189 (decide (((rdOf ByteArray.empty t189 0).size : Int) < 13))) else (none)))) else (none)) else (none)) else (some (0, ([] : List (S51)), ([] : List Int), 0, 9)))) = some (r1, r2, r3, r4, r5) := h
 clear h
 replace H := Option.bind_eq_some_iff.mp H
 obtain ⟨⟨t186, t187, t188⟩, A20, H⟩ := H
 replace H : (if t188 = true then (if t186.size + 4 ≤ 9223372036854775807 then (if t186.size + 2 ≤ 9223372036854775807 then ((stowageref27_lines.f k (t186 ++ (⟨#[13, 10]⟩ : ByteArray))).bind fun t189 => (if (t189.length : Int) < 2 then (stowageref27_Read.j0 k l0 (t186 ++ (⟨#[13, 10, 13, 10]⟩ : ByteArray)) t189 true) else (if 0 < (t189.length : Int) then (stowageref27_Read.j0 k l0 (t186 ++ (⟨#[13, 10, 13, 10]⟩ : ByteArray)) t189 (decide (((rdOf ByteArray.empty t189 0).size : Int) < 13))) else (none)))) else (none)) else (none)) else (some (0, ([] : List (S51)), ([] : List Int), 0, 9))) = some (r1, r2, r3, r4, r5) := H
 have A2 := Aside0.mk A20
 clear A20
 by_cases c3 : t188 = true
 ·subst c3
  have H1 : (if t186.size + 4 ≤ 9223372036854775807 then (if t186.size + 2 ≤ 9223372036854775807 then ((stowageref27_lines.f k (t186 ++ (⟨#[13, 10]⟩ : ByteArray))).bind fun t189 => (if (t189.length : Int) < 2 then (stowageref27_Read.j0 k l0 (t186 ++ (⟨#[13, 10, 13, 10]⟩ : ByteArray)) t189 true) else (if 0 < (t189.length : Int) then (stowageref27_Read.j0 k l0 (t186 ++ (⟨#[13, 10, 13, 10]⟩ : ByteArray)) t189 (decide (((rdOf ByteArray.empty t189 0).size : Int) < 13))) else (none)))) else (none)) else (none)) = some (r1, r2, r3, r4, r5) := by rw [if_pos rfl] at H; exact H
  clear H
  have H := H1
  clear H1
  by_cases c4 : t186.size + 4 ≤ 9223372036854775807
  ·rw [if_pos c4] at H
   have c4b0 := eq_true c4
   have c4b1 : decide (t186.size + 4 ≤ 9223372036854775807) = true := decide_eq_true c4
   try have c4b2 : (9223372036854775807 < t186.size + 4) = False := eq_false (Nat.not_lt.2 c4)
   by_cases c5 : t186.size + 2 ≤ 9223372036854775807
   ·rw [if_pos c5] at H
    have c5b0 := eq_true c5
    have c5b1 : decide (t186.size + 2 ≤ 9223372036854775807) = true := decide_eq_true c5
    try have c5b2 : (9223372036854775807 < t186.size + 2) = False := eq_false (Nat.not_lt.2 c5)
    replace H := Option.bind_eq_some_iff.mp H
    obtain ⟨t189, A60, H⟩ := H
    replace H : (if (t189.length : Int) < 2 then (stowageref27_Read.j0 k l0 (t186 ++ (⟨#[13, 10, 13, 10]⟩ : ByteArray)) t189 true) else (if 0 < (t189.length : Int) then (stowageref27_Read.j0 k l0 (t186 ++ (⟨#[13, 10, 13, 10]⟩ : ByteArray)) t189 (decide (((rdOf ByteArray.empty t189 0).size : Int) < 13))) else (none))) = some (r1, r2, r3, r4, r5) := H
    have A6 := Aside0.mk A60
    clear A60
    have HC7 := Aside0.mk H
    clear H
    go_enter Tryz.func7, Tryz.ntmps7
    go_upto_region 6 with (first|((with_reducible refine gate_dst (N := 2) rfl ?_); (try (refine gate_guard (by rfl) ?_; dsimp only)); refine box_event ?hg (N := 2) ?hd (cs := #[.int .i64 0, .slice none 0 0, .slice none 0 0]) (t := 26) ?hr ?_; (case hd => rfl); (case hg => rfl); (case hr => first|(go_simp; done)|(go_simp; rfl)); intro gb185 hg w8 hbox hb; have n0_ := Aside0.mk (below_step (by repeat (first|(with_reducible first|exact HB.out|apply below_alloc|apply pw_below_drewN|apply below_drew1)|exact HB.out)) hb); have n1_ := Aside0.mk (hbox); have n2_ := Aside0.mk ((by rw [hg]; exact (below_size (by repeat (first|(with_reducible first|exact HB.out|apply below_alloc|apply pw_below_drewN|apply below_drew1)|exact HB.out))) : w.heap.size ≤ gb185)); have n3_ := Aside0.mk ((by rw [hg]; exact (below_size (by repeat (first|(with_reducible first|exact HB.out|apply below_alloc|apply pw_below_drewN|apply below_drew1)|exact HB.out))) : w.heap.size ≤ gb185)); clear HB; have HB := n0_; have BK185 := n1_; have GW185 := n2_; have GE185 := n3_; clear n0_ n1_ n2_ n3_; clear hb hbox hg; have hcv9 := Kd.C_string (P := Tryz.prog) (A := A0) (c := c0) Tryz.underlying22 Tryz.underlying5 Tryz.underlying9 (Kd.C_below HR0.out HB.out))|((with_reducible refine gate_callee (f := 21) rfl ?_); refine goesL_ (some 22) rfl rfl Tryz.func21 (by kernel_rfl) rfl #[.string (strOfNums l0), .string (⟨#[13, 10, 13, 10]⟩ : ByteArray)] rfl (by (try simp only [List.map_toArray, List.map_cons, List.map_nil]); first|done|rfl|(simp only [List.length_drop, List.length_take]; rfl)) ?_; (with_reducible refine (stowageref27_after.calls k (strOfNums l0) (⟨#[13, 10, 13, 10]⟩ : ByteArray) t186 t187 true _ A2.out).mono ?_); rintro e w' ⟨rfl, ⟨nd, rfl⟩⟩; refine ⟨_, rfl, ?_⟩)|((with_reducible refine gate_callee (f := 22) rfl ?_); refine goesL_ (some 33) rfl rfl Tryz.func22 (by kernel_rfl) rfl #[.string (t186 ++ (⟨#[13, 10]⟩ : ByteArray))] rfl (by (try simp only [List.map_toArray, List.map_cons, List.map_nil]); first|done|rfl|(simp only [List.length_drop, List.length_take]; rfl)) ?_; (with_reducible refine (stowageref27_lines.calls k (t186 ++ (⟨#[13, 10]⟩ : ByteArray)) t189 _ A6.out).mono ?_); rintro e w10 ⟨v190, rfl, ho0, hb⟩; refine ⟨_, rfl, ?_⟩; have n0_ := Aside0.mk (Kd.R_lower ho0 (below_size (by repeat (first|(with_reducible first|exact HB.out|apply below_alloc|apply pw_below_drewN|apply below_drew1|refine below_set ?_ GE185.out)|exact HB.out)))); have n1_ := Aside0.mk (blk_below (g := gb185) (o := .cells #[.int .i64 0, .slice none 0 0, .slice none 0 0] 26 (0, 0)) (by (with_reducible repeat (first|refine blk_drewN ?_ _|refine blk_drew ?_|refine blk_alloc ?_ _)); exact BK185.out) hb); have n2_ := Aside0.mk (below_step (by repeat (first|(with_reducible first|exact HB.out|apply below_alloc|apply pw_below_drewN|apply below_drew1|refine below_set ?_ GE185.out)|exact HB.out)) hb); clear BK185; clear HB; have HO191 := n0_; have BK185 := n1_; have HB := n2_; clear n0_ n1_ n2_; (try clear hb); (try clear hb2); (try clear hk); (try clear hi); (try clear ho0)))
    (try simp only [Act.put, List.setIfInBounds_toArray, List.set_cons_zero, List.set_cons_succ])
    go_cut [43] (fun v43 wc => ∃ (kq : Nat) (x43_6 : Bool), v43 = .bool x43_6 ∧ Aside0 (stowageref27_Read.j0 kq l0 (t186 ++ (⟨#[13, 10, 13, 10]⟩ : ByteArray)) t189 x43_6 = some (r1, r2, r3, r4, r5)) ∧ Aside0 (kq ≤ k) ∧ Aside0 (Kd.R Kd.string 9 wc w.heap.size (fun _ => True) v190 t189) ∧ Aside0 (wc.heap[gb185]? = some (.cells #[.int .i64 0, (.slice none 0 0), (.slice none 0 0)] 26 (0, 0))) ∧ Aside0 (Below w.heap.size w wc))
    case first =>
     have H := HC7.out
     clear HC7
     by_cases c11 : (t189.length : Int) < 2
     ·rw [if_pos c11] at H
      have c11b0 : decide ((t189.length : Int) < 2) = true := decide_eq_true c11
      have c11b1 : decide (t189.length < 2) = true := decide_eq_true (by omega)
      clear c11
      (first|rw [c11b0]|(simp only [i64_w, i32_w]; rw [c11b0])|skip)
      as_aux_lemma =>
       have H' := Aside0.mk H
       clear H
       obtain ⟨Ao12, co12, eo12⟩ := Kd.R_slice HO191.out
       subst eo12
       go_wp2
       go_meet
       case rel => exact ⟨_, (true), (by first|rfl|(simp; done)|(simp [*]; done)), H', ⟨by first|omega|exact Nat.le_refl _⟩, ⟨by (with_reducible repeat (first|apply Kd.R_alloc|apply Kd.R_drewN|apply Kd.R_drew)); exact HO191.out⟩, ⟨by (with_reducible repeat (first|refine blk_drewN ?_ _|refine blk_drew ?_|refine blk_alloc ?_ _)); exact BK185.out⟩, ⟨by repeat (first|(with_reducible first|exact HB.out|apply below_alloc|apply pw_below_drewN|apply below_drew1|refine below_set ?_ GE185.out)|exact HB.out)⟩⟩
     ·rw [if_neg c11] at H
      have c11b0 : decide ((t189.length : Int) < 2) = false := decide_eq_false c11
      have c11b1 : decide (t189.length < 2) = false := decide_eq_false (by omega)
      clear c11
      (first|rw [c11b0]|(simp only [i64_w, i32_w]; rw [c11b0])|skip)
      by_cases c13 : 0 < (t189.length : Int)
      ·rw [if_pos c13] at H
       have c13b0 : decide (0 < (t189.length : Int)) = true := decide_eq_true c13
       have c13b1 : decide (0 < t189.length) = true := decide_eq_true (by omega)
       clear c13
       as_aux_lemma =>
        have H' := Aside0.mk H
        clear H
        obtain ⟨Ao14, co14, eo14⟩ := Kd.R_slice HO191.out
        subst eo14
        have p192 : 0 ≤ (0 : Int) := (by omega)
        have q192 : 0 < (t189.length : Int) := of_decide_eq_true (by first|(with_reducible assumption)|assumption)
        obtain ⟨ad192, e192, hx192_0⟩ := Kd.at_string (Kd.R_reads' HO191.out).2.2 0 p192 q192
        cases e192
        have qi192 : (0 < t189.length) = True := eq_true (by omega)
        (try rw [show ((0 : Int)).toNat = 0 from rfl] at hx192_0)
        (try rw [Addr.add_zero'] at hx192_0)
        replace p192 := eq_true p192
        replace q192 := eq_true q192
        go_wp2
        go_meet
        case rel => exact ⟨_, (decide (((rdOf ByteArray.empty t189 0).size : Int) < 13)), (by first|rfl|(simp; done)|(simp [*]; done)), H', ⟨by first|omega|exact Nat.le_refl _⟩, ⟨by (with_reducible repeat (first|apply Kd.R_alloc|apply Kd.R_drewN|apply Kd.R_drew)); exact HO191.out⟩, ⟨by (with_reducible repeat (first|refine blk_drewN ?_ _|refine blk_drew ?_|refine blk_alloc ?_ _)); exact BK185.out⟩, ⟨by repeat (first|(with_reducible first|exact HB.out|apply below_alloc|apply pw_below_drewN|apply below_drew1|refine below_set ?_ GE185.out)|exact HB.out)⟩⟩
      ·rw [if_neg c13] at H
       exact absurd H (by simp)
    case rest =>
     clear HC7
     try clear c1
     try clear p1
     try clear q1
     try clear hx1
     try clear qi1
     try clear c2
     try clear p2
     try clear c3
     try clear c4
     try clear c4b0
     try clear c4b1
     try clear c4b2
     try clear c5
     try clear c5b0
     try clear c5b1
     try clear c5b2
     try clear c7
     try clear hcv9
     try clear c11
     try clear c11b0
     try clear c11b1
     try clear c13
     try clear c13b0
     try clear c13b1
     try clear hx192_0
     try clear p192
     try clear q192
     obtain ⟨kq, x43_6, rfl, HA, HJ6, HO_9, BK185, HB⟩ := hcut
     cases kq with
     | zero => exact absurd HA.out (by simp [stowageref27_Read.j0])
     | succ kj6 =>
      have H := HA.out
      clear HA
      simp only [stowageref27_Read.j0] at H
      by_cases c15 : x43_6 = true
      ·subst c15
       have H1 : (some (0, ([] : List (S51)), ([] : List Int), 0, 4)) = some (r1, r2, r3, r4, r5) := by rw [if_pos rfl] at H; exact H
       clear H
       have H := H1
       clear H1
       as_aux_lemma =>
        simp only [Option.some.injEq, Prod.mk.injEq] at H
        obtain ⟨rfl, rfl, rfl, rfl, rfl⟩ := H
        have hcz16_0 : wc.cell? ⟨gb185, 0, none⟩ = some (.int .i64 0) := (blk_cell BK185.out 0).trans rfl
        have hcz16_1 : wc.cell? ⟨gb185, 1, none⟩ = some (.slice none 0 0) := (blk_cell BK185.out 1).trans rfl
        have hcz16_2 : wc.cell? ⟨gb185, 2, none⟩ = some (.slice none 0 0) := (blk_cell BK185.out 2).trans rfl
        have hfz16_0 := blk_frozen BK185.out 0
        have hfz16_1 := blk_frozen BK185.out 1
        have hfz16_2 := blk_frozen BK185.out 2
        go_wp2
        refine bodyPost_ret (results_ctt rfl _ _ gb185 26 #[.int .i64 0, .slice none 0 0, .slice none 0 0] (0, 0) _ rfl (by (with_reducible repeat (first|refine blk_drewN ?_ _|refine blk_drew ?_|refine blk_alloc ?_ _)); refine blk_put (cs := #[.int .i64 0, .slice none 0 0, .slice none 0 0]) ?_ 2 _ rfl; (with_reducible repeat (first|refine blk_drewN ?_ _|refine blk_drew ?_|refine blk_alloc ?_ _)); refine blk_put (cs := #[.int .i64 0, .slice none 0 0, .slice none 0 0]) ?_ 1 _ rfl; (with_reducible repeat (first|refine blk_drewN ?_ _|refine blk_drew ?_|refine blk_alloc ?_ _)); refine blk_put (cs := #[.int .i64 0, .slice none 0 0, .slice none 0 0]) ?_ 0 _ rfl; (with_reducible repeat (first|refine blk_drewN ?_ _|refine blk_drew ?_|refine blk_alloc ?_ _)); exact BK185.out) Tryz.underlying26 rfl (by kernel_rfl)) rfl ?_
        exact ⟨_, _, by first|rfl|(simp [errW_none, errW_some] <;> rfl)|(simp [*, errW_none, errW_some] <;> rfl), by first|exact Kd.R_nil _ _ _ _ _|exact Kd.N_nil _ _ _ _ _|exact Kd.V_nil _ _ _ _ _|exact Kd.Q_nil _ _ _ _ _|exact Kd.S_nil _ _ _ _ _, by first|exact Kd.R_nil _ _ _ _ _|exact Kd.N_nil _ _ _ _ _|exact Kd.V_nil _ _ _ _ _|exact Kd.Q_nil _ _ _ _ _|exact Kd.S_nil _ _ _ _ _, by repeat (first|(with_reducible first|exact HB.out|apply below_alloc|apply pw_below_drewN|apply below_drew1|refine below_set ?_ GE185.out)|exact HB.out)⟩
      ·replace c15 := Bool.eq_false_iff.mpr c15
       subst c15
       have H1 : (if 0 < (t189.length : Int) then (if 9 ≤ 12 then (if 12 ≤ ((rdOf ByteArray.empty t189 0).size : Int) then ((stowageref27_number.f kj6 ((rdOf ByteArray.empty t189 0).extract 9 12)).bind fun t194 => (stowageref27_Read.l0 kj6 l0 (t186 ++ (⟨#[13, 10, 13, 10]⟩ : ByteArray)) t189 1 t194 ([] : List (S51)))) else (none)) else (none)) else (none)) = some (r1, r2, r3, r4, r5) := by rw [if_neg (show ¬ (false = true) by decide)] at H; exact H
       clear H
       have H := H1
       clear H1
       by_cases c17 : 0 < (t189.length : Int)
       ·rw [if_pos c17] at H
        have c17b0 : decide (0 < (t189.length : Int)) = true := decide_eq_true c17
        have c17b1 : decide (0 < t189.length) = true := decide_eq_true (by omega)
        clear c17
        by_cases c18 : 9 ≤ 12
        ·rw [if_pos c18] at H
         have c18b0 := eq_true c18
         have c18b1 : decide (9 ≤ 12) = true := decide_eq_true c18
         clear c18
         by_cases c19 : 12 ≤ ((rdOf ByteArray.empty t189 0).size : Int)
         ·rw [if_pos c19] at H
          have c19b0 := eq_true c19
          have c19b1 : decide (12 ≤ ((rdOf ByteArray.empty t189 0).size : Int)) = true := decide_eq_true c19
          clear c19
          replace H := Option.bind_eq_some_iff.mp H
          obtain ⟨t194, A200, H⟩ := H
          replace H : (stowageref27_Read.l0 kj6 l0 (t186 ++ (⟨#[13, 10, 13, 10]⟩ : ByteArray)) t189 1 t194 ([] : List (S51))) = some (r1, r2, r3, r4, r5) := H
          have A20 := Aside0.mk A200
          clear A200
          have H' := Aside0.mk H
          clear H
          obtain ⟨Ao21, co21, eo21⟩ := Kd.R_slice HO_9.out
          subst eo21
          have p193 : 0 ≤ (0 : Int) := (by omega)
          have q193 : 0 < (t189.length : Int) := of_decide_eq_true (by first|(with_reducible assumption)|assumption)
          obtain ⟨ad193, e193, hx193_0⟩ := Kd.at_string (Kd.R_reads' HO_9.out).2.2 0 p193 q193
          cases e193
          have qi193 : (0 < t189.length) = True := eq_true (by omega)
          (try rw [show ((0 : Int)).toNat = 0 from rfl] at hx193_0)
          (try rw [Addr.add_zero'] at hx193_0)
          replace p193 := eq_true p193
          replace q193 := eq_true q193
          go_wp2_with (first|((with_reducible refine gate_callee (f := 23) rfl ?_); refine goesL_ (some 49) rfl rfl Tryz.func23 (by kernel_rfl) rfl #[.string ((rdOf ByteArray.empty t189 0).extract 9 12)] rfl (by (try simp only [List.map_toArray, List.map_cons, List.map_nil]); first|done|rfl|(simp only [List.length_drop, List.length_take]; rfl)) ?_; (with_reducible refine (stowageref27_number.calls kj6 ((rdOf ByteArray.empty t189 0).extract 9 12) t194 _ A20.out).mono ?_); rintro e w' ⟨rfl, ⟨nd, rfl⟩⟩; refine ⟨_, rfl, ?_⟩; (try (rw [drewN_self wc]; generalize hq_ : World.drewN wc _ = wc; have n0_ : Aside0 (Kd.R Kd.string 9 wc w.heap.size (fun _ => True) (.slice (some ad193) t189.length co21) t189) := ⟨by rw [← hq_]; exact (by (with_reducible repeat (first|apply Kd.R_alloc|apply Kd.R_drewN|apply Kd.R_drew)); exact HO_9.out)⟩; have n1_ : Aside0 (wc.heap[gb185]? = some (.cells #[.int .i64 0, .slice none 0 0, .slice none 0 0] 26 (0, 0))) := ⟨by rw [← hq_]; exact (by (with_reducible repeat (first|refine blk_drewN ?_ _|refine blk_drew ?_|refine blk_alloc ?_ _)); exact BK185.out)⟩; have n2_ : Aside0 (Below w.heap.size w wc) := ⟨by rw [← hq_]; exact (by repeat (first|(with_reducible first|exact HB.out|apply below_alloc|apply pw_below_drewN|apply below_drew1|refine below_set ?_ GE185.out)|exact HB.out))⟩; clear HO_9 BK185 HB hq_; have HO_9 := n0_; have BK185 := n1_; have HB := n2_; clear n0_ n1_ n2_)))|((with_reducible refine gate_dst (N := 10) rfl ?_); (try (refine gate_guard (by rfl) ?_; dsimp only)); refine box_event ?hg (N := 10) ?hd (cs := #[.int .i64 0, .slice none 0 0, .slice none 0 0]) (t := 26) ?hr ?_; (case hd => rfl); (case hg => rfl); (case hr => first|(go_simp; done)|(go_simp; rfl)); intro gb195 hg w22 hbox hb; have n0_ := Aside0.mk (Kd.R_below (by (with_reducible repeat (first|apply Kd.R_alloc|apply Kd.R_drewN|apply Kd.R_drew)); exact HO_9.out) hb); have n1_ := Aside0.mk (blk_below (g := gb185) (o := .cells #[.int .i64 0, .slice none 0 0, .slice none 0 0] 26 (0, 0)) (by (with_reducible repeat (first|refine blk_drewN ?_ _|refine blk_drew ?_|refine blk_alloc ?_ _)); exact BK185.out) hb); have n2_ := Aside0.mk (below_step (by repeat (first|(with_reducible first|exact HB.out|apply below_alloc|apply pw_below_drewN|apply below_drew1|refine below_set ?_ GE185.out)|exact HB.out)) hb); have n3_ := Aside0.mk (hbox); have n4_ := Aside0.mk ((by rw [hg]; exact (below_size (by repeat (first|(with_reducible first|exact HB.out|apply below_alloc|apply pw_below_drewN|apply below_drew1|refine below_set ?_ GE185.out)|exact HB.out))) : w.heap.size ≤ gb195)); have n5_ := Aside0.mk ((by rw [hg]; exact (below_size (by repeat (first|(with_reducible first|exact HB.out|apply below_alloc|apply pw_below_drewN|apply below_drew1|refine below_set ?_ GE185.out)|exact HB.out))) : w.heap.size ≤ gb195)); have n6_ := Aside0.mk ((by rw [hg]; exact Nat.ne_of_lt (blk_lt (g := gb185) (o := .cells #[.int .i64 0, .slice none 0 0, .slice none 0 0] 26 (0, 0)) (by (with_reducible repeat (first|refine blk_drewN ?_ _|refine blk_drew ?_|refine blk_alloc ?_ _)); exact BK185.out)) : gb185 ≠ gb195)); have n7_ := Aside0.mk ((by rw [hg]; exact Nat.ne_of_gt (blk_lt (g := gb185) (o := .cells #[.int .i64 0, .slice none 0 0, .slice none 0 0] 26 (0, 0)) (by (with_reducible repeat (first|refine blk_drewN ?_ _|refine blk_drew ?_|refine blk_alloc ?_ _)); exact BK185.out)) : gb195 ≠ gb185)); clear HO_9; clear BK185; clear HB; have HO_9 := n0_; have BK185 := n1_; have HB := n2_; have BK195 := n3_; have GW195 := n4_; have GE195 := n5_; have NB185_195 := n6_; have NB195_185 := n7_; clear n0_ n1_ n2_ n3_ n4_ n5_ n6_ n7_; clear hb hbox hg; have hnb23 := NB195_185.out; have hnc23 := NB185_195.out; have hcz24_0 : w22.cell? ⟨gb195, 0, none⟩ = some (.int .i64 0) := (blk_cell BK195.out 0).trans rfl; have hcz24_1 : w22.cell? ⟨gb195, 1, none⟩ = some (.slice none 0 0) := (blk_cell BK195.out 1).trans rfl; have hcz24_2 : w22.cell? ⟨gb195, 2, none⟩ = some (.slice none 0 0) := (blk_cell BK195.out 2).trans rfl; have hfz24_0 := blk_frozen BK195.out 0; have hfz24_1 := blk_frozen BK195.out 1; have hfz24_2 := blk_frozen BK195.out 2))
          go_loopg [11] kj6 (fun kq v11 w' => ∃ (x11_2 : Int) (x186000_2 : Int) (x196001_2 : List (S51)) (u196001 : Value), v11 = .int .i64 x11_2 ∧ Aside0 (stowageref27_Read.l0 kq l0 (t186 ++ (⟨#[13, 10, 13, 10]⟩ : ByteArray)) t189 x11_2 t194 x196001_2 = some (r1, r2, r3, r4, r5)) ∧ Aside0 (kq ≤ kj6) ∧ Aside0 (Kd.R Kd.string 9 w' w.heap.size (fun _ => True) (.slice (some ad193) t189.length co21) t189) ∧ Aside0 (Kd.R k51 51 w' w.heap.size (fun _ => True) u196001 x196001_2) ∧ Aside0 (w'.heap[gb185]? = some (.cells #[.int .i64 x186000_2, (.slice none 0 0), (.slice none 0 0)] 26 (0, 0))) ∧ Aside0 (w'.heap[gb195]? = some (.cells #[.int .i64 t194, u196001, (.slice none 0 0)] 26 (0, 0))) ∧ Aside0 (Below w.heap.size w w'))
          case atStart => exact ⟨(1), (0), (([] : List (S51))), (.slice none 0 0), (by first|rfl|(simp; done)|(simp [*]; done)), H', ⟨Nat.le_refl _⟩, ⟨by (with_reducible repeat (first|apply Kd.R_alloc|apply Kd.R_drewN|apply Kd.R_drew)); exact Kd.R_mono (Kd.R_far (p := ⟨gb195, 2, none⟩) (Kd.R_far (p := ⟨gb195, 1, none⟩) (Kd.R_far (p := ⟨gb195, 0, none⟩) (Kd.R_types HO_9.out BK195.out (by decide)) (fun _ hk => hk.2) (.int .i64 t194)) (fun _ hk => hk.2) (.slice none 0 0)) (fun _ hk => hk.2) (.slice none 0 0)) (fun _ hk => trivial)⟩, ⟨by first|exact Kd.R_nil _ _ _ _ _|exact Kd.N_nil _ _ _ _ _|exact Kd.V_nil _ _ _ _ _|exact Kd.Q_nil _ _ _ _ _|exact Kd.S_nil _ _ _ _ _⟩, ⟨by (with_reducible repeat (first|refine blk_drewN ?_ _|refine blk_drew ?_|refine blk_alloc ?_ _)); refine blk_far ?_ NB185_195.out _; (with_reducible repeat (first|refine blk_drewN ?_ _|refine blk_drew ?_|refine blk_alloc ?_ _)); refine blk_far ?_ NB185_195.out _; (with_reducible repeat (first|refine blk_drewN ?_ _|refine blk_drew ?_|refine blk_alloc ?_ _)); refine blk_far ?_ NB185_195.out _; (with_reducible repeat (first|refine blk_drewN ?_ _|refine blk_drew ?_|refine blk_alloc ?_ _)); exact BK185.out⟩, ⟨by (with_reducible repeat (first|refine blk_drewN ?_ _|refine blk_drew ?_|refine blk_alloc ?_ _)); refine blk_put (cs := #[.int .i64 t194, .slice none 0 0, .slice none 0 0]) ?_ 2 _ rfl; (with_reducible repeat (first|refine blk_drewN ?_ _|refine blk_drew ?_|refine blk_alloc ?_ _)); refine blk_put (cs := #[.int .i64 t194, .slice none 0 0, .slice none 0 0]) ?_ 1 _ rfl; (with_reducible repeat (first|refine blk_drewN ?_ _|refine blk_drew ?_|refine blk_alloc ?_ _)); refine blk_put (cs := #[.int .i64 0, .slice none 0 0, .slice none 0 0]) ?_ 0 _ rfl; (with_reducible repeat (first|refine blk_drewN ?_ _|refine blk_drew ?_|refine blk_alloc ?_ _)); exact BK195.out⟩, ⟨by repeat (first|(with_reducible first|exact HB.out|apply below_alloc|apply pw_below_drewN|apply below_drew1|refine below_set ?_ GE185.out|refine below_set ?_ GE195.out)|exact HB.out)⟩⟩
          case round =>
           clear H'
           try clear c1
           try clear p1
           try clear q1
           try clear hx1
           try clear qi1
           try clear c2
           try clear p2
           try clear c3
           try clear c4
           try clear c4b0
           try clear c4b1
           try clear c4b2
           try clear c5
           try clear c5b0
           try clear c5b1
           try clear c5b2
           try clear c7
           try clear hcv9
           try clear c11
           try clear c11b0
           try clear c11b1
           try clear c13
           try clear c13b0
           try clear c13b1
           try clear c15
           try clear c17
           try clear c17b0
           try clear c17b1
           try clear c18
           try clear c18b0
           try clear c18b1
           try clear c19
           try clear c19b0
           try clear c19b1
           try clear p19
           try clear q19
           try clear hx19
           try clear qi19
           try clear c21
           try clear c22
           try clear c23
           try clear hcz16_0
           try clear hcz16_1
           try clear hcz16_2
           try clear hcz24_0
           try clear hcz24_1
           try clear hcz24_2
           try clear hfz16_0
           try clear hfz16_1
           try clear hfz16_2
           try clear hfz24_0
           try clear hfz24_1
           try clear hfz24_2
           try clear hx192_0
           try clear hx193_0
           try clear p1
           try clear p192
           try clear p193
           try clear p2
           try clear q1
           try clear q192
           try clear q193
           obtain ⟨x11_2, x186000_2, x196001_2, u196001, rfl, HA, HK2, HO_9, HO_196001, BK185, BK195, HB⟩ := hrel
           cases gk with
           | zero => exact absurd HA.out (by simp [stowageref27_Read.l0])
           | succ k2 =>
            have H := HA.out
            clear HA
            simp only [stowageref27_Read.l0] at H
            by_cases c25 : (wrap64 (x11_2 + 1)) < (t189.length : Int)
            ·rw [if_pos c25] at H
             have c25b0 : decide ((wrap64 (x11_2 + 1)) < (t189.length : Int)) = true := decide_eq_true c25
             clear c25
             by_cases c26 : 0 ≤ x11_2
             ·rw [if_pos c26] at H
              have c26b0 : decide (0 ≤ x11_2) = true := decide_eq_true c26
              clear c26
              by_cases c27 : x11_2 < (t189.length : Int)
              ·rw [if_pos c27] at H
               have c27b0 : decide (x11_2 < (t189.length : Int)) = true := decide_eq_true c27
               clear c27
               replace H := Option.bind_eq_some_iff.mp H
               obtain ⟨⟨t197, t198, t199⟩, A280, H⟩ := H
               replace H : (if t199 = true then (if x196001_2.length < 4398046511104 then (stowageref27_Read.l0 k2 l0 (t186 ++ (⟨#[13, 10, 13, 10]⟩ : ByteArray)) t189 (wrap64 (x11_2 + 1)) t194 (x196001_2 ++ [(⟨t197, t198⟩ : S51)])) else (none)) else (some (0, ([] : List (S51)), ([] : List Int), 0, 4))) = some (r1, r2, r3, r4, r5) := H
               have A28 := Aside0.mk A280
               clear A280
               by_cases c29 : t199 = true
               ·subst c29
                have H1 : (if x196001_2.length < 4398046511104 then (stowageref27_Read.l0 k2 l0 (t186 ++ (⟨#[13, 10, 13, 10]⟩ : ByteArray)) t189 (wrap64 (x11_2 + 1)) t194 (x196001_2 ++ [(⟨t197, t198⟩ : S51)])) else (none)) = some (r1, r2, r3, r4, r5) := by rw [if_pos rfl] at H; exact H
                clear H
                have H := H1
                clear H1
                by_cases c30 : x196001_2.length < 4398046511104
                ·rw [if_pos c30] at H
                 have LMc30 := Aside0.mk c30
                 clear c30
                 obtain ⟨y200, hy200⟩ : ∃ y_ : List (S51), y_ = (x196001_2 ++ [(⟨t197, t198⟩ : S51)]) := ⟨_, rfl⟩
                 replace H : (stowageref27_Read.l0 k2 l0 (t186 ++ (⟨#[13, 10, 13, 10]⟩ : ByteArray)) t189 (wrap64 (x11_2 + 1)) t194 y200) = some (r1, r2, r3, r4, r5) := by first|(rw [hy200]; with_reducible exact H)|(have H2_ := (Option.bind_some _ _).symm.trans H; rw [hy200]; with_reducible exact H2_)|(have H2_ := (Option.bind_some _ _).symm.trans H; with_reducible exact H2_)|with_reducible exact H|(rw [hy200]; exact H)|exact H
                 have Ny200 := Aside0.mk hy200
                 clear hy200
                 as_aux_lemma =>
                  have H' := Aside0.mk H
                  clear H
                  have p196 : 0 ≤ (x11_2 : Int) := of_decide_eq_true (by first|(with_reducible assumption)|assumption)
                  have q196 : x11_2 < (t189.length : Int) := of_decide_eq_true (by first|(with_reducible assumption)|assumption)
                  obtain ⟨ad196, e196, hx196_0⟩ := Kd.at_string (Kd.R_reads' HO_9.out).2.2 x11_2 p196 q196
                  obtain rfl : ad193 = ad196 := (by injection e196)
                  replace p196 := eq_true p196
                  replace q196 := eq_true q196
                  go_wp2_with (first|((with_reducible refine gate_callee (f := 21) rfl ?_); refine goesL_ (some 63) rfl rfl Tryz.func21 (by kernel_rfl) rfl #[.string (rdOf ByteArray.empty t189 x11_2), .string (⟨#[58, 32]⟩ : ByteArray)] rfl (by (try simp only [List.map_toArray, List.map_cons, List.map_nil]); first|done|rfl|(simp only [List.length_drop, List.length_take]; rfl)) ?_; (with_reducible refine (stowageref27_after.calls k2 (rdOf ByteArray.empty t189 x11_2) (⟨#[58, 32]⟩ : ByteArray) t197 t198 true _ A28.out).mono ?_); rintro e w' ⟨rfl, ⟨nd, rfl⟩⟩; refine ⟨_, rfl, ?_⟩; (try (rw [drewN_self wr]; generalize hq_ : World.drewN wr _ = wr; have n0_ : Aside0 (Kd.R k51 51 wr w.heap.size (fun _ => True) u196001 x196001_2) := ⟨by rw [← hq_]; exact (by (with_reducible repeat (first|apply Kd.R_alloc|apply Kd.R_drewN|apply Kd.R_drew)); exact HO_196001.out)⟩; have n1_ : Aside0 (Kd.R Kd.string 9 wr w.heap.size (fun _ => True) (.slice (some ad193) t189.length co21) t189) := ⟨by rw [← hq_]; exact (by (with_reducible repeat (first|apply Kd.R_alloc|apply Kd.R_drewN|apply Kd.R_drew)); exact HO_9.out)⟩; have n2_ : Aside0 (wr.heap[gb185]? = some (.cells #[.int .i64 x186000_2, .slice none 0 0, .slice none 0 0] 26 (0, 0))) := ⟨by rw [← hq_]; exact (by (with_reducible repeat (first|refine blk_drewN ?_ _|refine blk_drew ?_|refine blk_alloc ?_ _)); exact BK185.out)⟩; have n3_ : Aside0 (wr.heap[gb195]? = some (.cells #[.int .i64 t194, u196001, .slice none 0 0] 26 (0, 0))) := ⟨by rw [← hq_]; exact (by (with_reducible repeat (first|refine blk_drewN ?_ _|refine blk_drew ?_|refine blk_alloc ?_ _)); exact BK195.out)⟩; have n4_ : Aside0 (Below w.heap.size w wr) := ⟨by rw [← hq_]; exact (by repeat (first|(with_reducible first|exact HB.out|apply below_alloc|apply pw_below_drewN|apply below_drew1|refine below_set ?_ GE185.out|refine below_set ?_ GE195.out)|exact HB.out))⟩; clear HO_196001 HO_9 BK185 BK195 HB hq_; have HO_196001 := n0_; have HO_9 := n1_; have BK185 := n2_; have BK195 := n3_; have HB := n4_; clear n0_ n1_ n2_ n3_ n4_)); have hnb31 := NB195_185.out; have hnc31 := NB185_195.out; have hcz32_0 : wr.cell? ⟨gb195, 0, none⟩ = some (.int .i64 t194) := (blk_cell BK195.out 0).trans rfl; have hcz32_1 : wr.cell? ⟨gb195, 1, none⟩ = some (u196001) := (blk_cell BK195.out 1).trans rfl; have hcz32_2 : wr.cell? ⟨gb195, 2, none⟩ = some (.slice none 0 0) := (blk_cell BK195.out 2).trans rfl; have hfz32_0 := blk_frozen BK195.out 0; have hfz32_1 := blk_frozen BK195.out 1; have hfz32_2 := blk_frozen BK195.out 2)|((with_reducible refine gate_builtin (b := .append) (xs := #[.tmp 71, .tmp 75]) rfl ?_); (try (refine gate_guard (by rfl) ?_; dsimp only)); at_builtin; refine Kd.R_append k51 (w0 := w) w.heap.size rfl (.tmp 71) (.tmp 75) 24 51 (.agg #[(.string ⟨#[]⟩), (.string ⟨#[]⟩)]) 32 rfl Tryz.underlying24 info51 rfl (by decide) (by omega) u196001 x196001_2 (⟨t197, t198⟩ : S51) [.string t197, .string t198] (fun _ => True) (fun _ => False) rfl rfl ?aP (fun _ hk => hk.elim) ?aF ?aO ?aB ?aS ?aL ?_; (case aP => exact k51_mkM _ _ _ (⟨t197, t198⟩ : S51)); (case aB => exact (by repeat (first|(with_reducible first|exact HB.out|apply below_alloc|apply pw_below_drewN|apply below_drew1|refine below_set ?_ GE185.out|refine below_set ?_ GE195.out)|exact HB.out))); (case aF => exact (fun _ _ => trivial)); (case aO => exact (by (with_reducible repeat (first|apply Kd.R_alloc|apply Kd.R_drewN|apply Kd.R_drew)); exact HO_196001.out)); (case aS => exact (below_size (by repeat (first|(with_reducible first|exact HB.out|apply below_alloc|apply pw_below_drewN|apply below_drew1|refine below_set ?_ GE185.out|refine below_set ?_ GE195.out)|exact HB.out)))); (case aL => have := LMc30.out; omega); intro v201 w33 ho hb hg hat; rw [← Ny200.out] at ho; have n0_ := Aside0.mk (Kd.R_over' (by (with_reducible repeat (first|apply Kd.R_alloc|apply Kd.R_drewN|apply Kd.R_drew)); exact HO_9.out) (Kd.R_typed (by (with_reducible repeat (first|apply Kd.R_alloc|apply Kd.R_drewN|apply Kd.R_drew)); exact HO_196001.out)) (by decide) hg); have n1_ := Aside0.mk (blk_grown (g := gb185) (o := .cells #[.int .i64 x186000_2, .slice none 0 0, .slice none 0 0] 26 (0, 0)) (by (with_reducible repeat (first|refine blk_drewN ?_ _|refine blk_drew ?_|refine blk_alloc ?_ _)); exact BK185.out) hg (Kd.R_ne HO_196001.out BK185.out (by decide))); have n2_ := Aside0.mk (blk_grown (g := gb195) (o := .cells #[.int .i64 t194, u196001, .slice none 0 0] 26 (0, 0)) (by (with_reducible repeat (first|refine blk_drewN ?_ _|refine blk_drew ?_|refine blk_alloc ?_ _)); exact BK195.out) hg (Kd.R_ne HO_196001.out BK195.out (by decide))); have n3_ := Aside0.mk (hb); have n4_ := Aside0.mk (ho); clear HO_9; clear BK185; clear BK195; clear HB; clear HO_196001; have HO_9 := n0_; have BK185 := n1_; have BK195 := n2_; have HB := n3_; have HO202 := n4_; clear n0_ n1_ n2_ n3_ n4_; clear ho hb hg hat; obtain ⟨Ao34, co34, eo34⟩ := Kd.R_slice HO202.out; subst eo34; have hcz35_0 : w33.cell? ⟨gb195, 0, none⟩ = some (.int .i64 t194) := (blk_cell BK195.out 0).trans rfl; have hcz35_1 : w33.cell? ⟨gb195, 1, none⟩ = some (u196001) := (blk_cell BK195.out 1).trans rfl; have hcz35_2 : w33.cell? ⟨gb195, 2, none⟩ = some (.slice none 0 0) := (blk_cell BK195.out 2).trans rfl; have hfz35_0 := blk_frozen BK195.out 0; have hfz35_1 := blk_frozen BK195.out 1; have hfz35_2 := blk_frozen BK195.out 2))
                  go_roundg k2
                  case measure => have := HJ6.out; have := HK2.out; omega
                  case rel => exact ⟨(wrap64 (x11_2 + 1)), (x186000_2), (y200), (.slice Ao34 y200.length co34), (by first|rfl|(simp; done)|(simp [*]; done)), H', ⟨by have := HJ6.out; have := HK2.out; omega⟩, ⟨by (with_reducible repeat (first|apply Kd.R_alloc|apply Kd.R_drewN|apply Kd.R_drew)); exact Kd.R_mono (Kd.R_far (p := ⟨gb195, 1, none⟩) (Kd.R_types HO_9.out BK195.out (by decide)) (fun _ hk => hk.2) (.slice Ao34 y200.length co34)) (fun _ hk => trivial)⟩, ⟨by (with_reducible repeat (first|apply Kd.R_alloc|apply Kd.R_drewN|apply Kd.R_drew)); exact Kd.R_mono (Kd.R_far (p := ⟨gb195, 1, none⟩) (Kd.R_types HO202.out BK195.out (by decide)) (fun _ hk => hk.2) (.slice Ao34 y200.length co34)) (fun _ hk => trivial)⟩, ⟨by (with_reducible repeat (first|refine blk_drewN ?_ _|refine blk_drew ?_|refine blk_alloc ?_ _)); refine blk_far ?_ NB185_195.out _; (with_reducible repeat (first|refine blk_drewN ?_ _|refine blk_drew ?_|refine blk_alloc ?_ _)); exact BK185.out⟩, ⟨by (with_reducible repeat (first|refine blk_drewN ?_ _|refine blk_drew ?_|refine blk_alloc ?_ _)); refine blk_put (cs := #[.int .i64 t194, u196001, .slice none 0 0]) ?_ 1 _ rfl; (with_reducible repeat (first|refine blk_drewN ?_ _|refine blk_drew ?_|refine blk_alloc ?_ _)); exact BK195.out⟩, ⟨by repeat (first|(with_reducible first|exact HB.out|apply below_alloc|apply pw_below_drewN|apply below_drew1|refine below_set ?_ GE185.out|refine below_set ?_ GE195.out)|exact HB.out)⟩⟩
                ·rw [if_neg c30] at H
                 exact absurd H (by simp)
               ·replace c29 := Bool.eq_false_iff.mpr c29
                subst c29
                have H1 : (some (0, ([] : List (S51)), ([] : List Int), 0, 4)) = some (r1, r2, r3, r4, r5) := by rw [if_neg (show ¬ (false = true) by decide)] at H; exact H
                clear H
                have H := H1
                clear H1
                as_aux_lemma =>
                 simp only [Option.some.injEq, Prod.mk.injEq] at H
                 obtain ⟨rfl, rfl, rfl, rfl, rfl⟩ := H
                 have p196 : 0 ≤ (x11_2 : Int) := of_decide_eq_true (by first|(with_reducible assumption)|assumption)
                 have q196 : x11_2 < (t189.length : Int) := of_decide_eq_true (by first|(with_reducible assumption)|assumption)
                 obtain ⟨ad196, e196, hx196_0⟩ := Kd.at_string (Kd.R_reads' HO_9.out).2.2 x11_2 p196 q196
                 obtain rfl : ad193 = ad196 := (by injection e196)
                 replace p196 := eq_true p196
                 replace q196 := eq_true q196
                 go_wp2_with (first|((with_reducible refine gate_callee (f := 21) rfl ?_); refine goesL_ (some 63) rfl rfl Tryz.func21 (by kernel_rfl) rfl #[.string (rdOf ByteArray.empty t189 x11_2), .string (⟨#[58, 32]⟩ : ByteArray)] rfl (by (try simp only [List.map_toArray, List.map_cons, List.map_nil]); first|done|rfl|(simp only [List.length_drop, List.length_take]; rfl)) ?_; (with_reducible refine (stowageref27_after.calls k2 (rdOf ByteArray.empty t189 x11_2) (⟨#[58, 32]⟩ : ByteArray) t197 t198 false _ A28.out).mono ?_); rintro e w' ⟨rfl, ⟨nd, rfl⟩⟩; refine ⟨_, rfl, ?_⟩; (try (rw [drewN_self wr]; generalize hq_ : World.drewN wr _ = wr; have n0_ : Aside0 (Kd.R k51 51 wr w.heap.size (fun _ => True) u196001 x196001_2) := ⟨by rw [← hq_]; exact (by (with_reducible repeat (first|apply Kd.R_alloc|apply Kd.R_drewN|apply Kd.R_drew)); exact HO_196001.out)⟩; have n1_ : Aside0 (Kd.R Kd.string 9 wr w.heap.size (fun _ => True) (.slice (some ad193) t189.length co21) t189) := ⟨by rw [← hq_]; exact (by (with_reducible repeat (first|apply Kd.R_alloc|apply Kd.R_drewN|apply Kd.R_drew)); exact HO_9.out)⟩; have n2_ : Aside0 (wr.heap[gb185]? = some (.cells #[.int .i64 x186000_2, .slice none 0 0, .slice none 0 0] 26 (0, 0))) := ⟨by rw [← hq_]; exact (by (with_reducible repeat (first|refine blk_drewN ?_ _|refine blk_drew ?_|refine blk_alloc ?_ _)); exact BK185.out)⟩; have n3_ : Aside0 (wr.heap[gb195]? = some (.cells #[.int .i64 t194, u196001, .slice none 0 0] 26 (0, 0))) := ⟨by rw [← hq_]; exact (by (with_reducible repeat (first|refine blk_drewN ?_ _|refine blk_drew ?_|refine blk_alloc ?_ _)); exact BK195.out)⟩; have n4_ : Aside0 (Below w.heap.size w wr) := ⟨by rw [← hq_]; exact (by repeat (first|(with_reducible first|exact HB.out|apply below_alloc|apply pw_below_drewN|apply below_drew1|refine below_set ?_ GE185.out|refine below_set ?_ GE195.out)|exact HB.out))⟩; clear HO_196001 HO_9 BK185 BK195 HB hq_; have HO_196001 := n0_; have HO_9 := n1_; have BK185 := n2_; have BK195 := n3_; have HB := n4_; clear n0_ n1_ n2_ n3_ n4_)); have hnb36 := NB185_195.out; have hnc36 := NB195_185.out; have hcz37_0 : wr.cell? ⟨gb185, 0, none⟩ = some (.int .i64 x186000_2) := (blk_cell BK185.out 0).trans rfl; have hcz37_1 : wr.cell? ⟨gb185, 1, none⟩ = some (.slice none 0 0) := (blk_cell BK185.out 1).trans rfl; have hcz37_2 : wr.cell? ⟨gb185, 2, none⟩ = some (.slice none 0 0) := (blk_cell BK185.out 2).trans rfl; have hfz37_0 := blk_frozen BK185.out 0; have hfz37_1 := blk_frozen BK185.out 1; have hfz37_2 := blk_frozen BK185.out 2))
                 refine bodyPost_ret (results_ctt rfl _ _ gb185 26 #[.int .i64 0, .slice none 0 0, .slice none 0 0] (0, 0) _ rfl (by (with_reducible repeat (first|refine blk_drewN ?_ _|refine blk_drew ?_|refine blk_alloc ?_ _)); refine blk_put (cs := #[.int .i64 0, .slice none 0 0, .slice none 0 0]) ?_ 2 _ rfl; (with_reducible repeat (first|refine blk_drewN ?_ _|refine blk_drew ?_|refine blk_alloc ?_ _)); refine blk_put (cs := #[.int .i64 0, .slice none 0 0, .slice none 0 0]) ?_ 1 _ rfl; (with_reducible repeat (first|refine blk_drewN ?_ _|refine blk_drew ?_|refine blk_alloc ?_ _)); refine blk_put (cs := #[.int .i64 x186000_2, .slice none 0 0, .slice none 0 0]) ?_ 0 _ rfl; (with_reducible repeat (first|refine blk_drewN ?_ _|refine blk_drew ?_|refine blk_alloc ?_ _)); exact BK185.out) Tryz.underlying26 rfl (by kernel_rfl)) rfl ?_
                 exact ⟨_, _, by first|rfl|(simp [errW_none, errW_some] <;> rfl)|(simp [*, errW_none, errW_some] <;> rfl), by first|exact Kd.R_nil _ _ _ _ _|exact Kd.N_nil _ _ _ _ _|exact Kd.V_nil _ _ _ _ _|exact Kd.Q_nil _ _ _ _ _|exact Kd.S_nil _ _ _ _ _, by first|exact Kd.R_nil _ _ _ _ _|exact Kd.N_nil _ _ _ _ _|exact Kd.V_nil _ _ _ _ _|exact Kd.Q_nil _ _ _ _ _|exact Kd.S_nil _ _ _ _ _, by repeat (first|(with_reducible first|exact HB.out|apply below_alloc|apply pw_below_drewN|apply below_drew1|refine below_set ?_ GE185.out|refine below_set ?_ GE195.out)|exact HB.out)⟩
              ·rw [if_neg c27] at H
               exact absurd H (by simp)
             ·rw [if_neg c26] at H
              exact absurd H (by simp)
            ·rw [if_neg c25] at H
             have c25b0 : decide ((wrap64 (x11_2 + 1)) < (t189.length : Int)) = false := decide_eq_false c25
             clear c25
             obtain ⟨ji38, hji38⟩ : ∃ j_ : Int, (wrap64 ((t189.length : Int) - 1)) = j_ := ⟨_, rfl⟩
             replace H : (if 0 ≤ (ji38) then (if (ji38) < (t189.length : Int) then ((stowageref27_after.f k2 (rdOf ByteArray.empty t189 (ji38)) (⟨#[99, 111, 110, 116, 101, 110, 116, 45, 108, 101, 110, 103, 116, 104, 58, 32]⟩ : ByteArray)).bind fun bt204 => ((stowageref27_number.f k2 bt204.2.1).bind fun t207 => (if bt204.2.2 = true then (if t207 < 0 then (stowageref27_Read.j2 k2 l0 (t186 ++ (⟨#[13, 10, 13, 10]⟩ : ByteArray)) t207 true t194 x196001_2) else ((stowageref27_wrong.f k2 t194 x196001_2 ([] : List Int) t207).bind fun t208 => (if t208 = 0 then ((stowageref27_head.f k2 t194 x196001_2 ([] : List Int) t207).bind fun t209 => (stowageref27_Read.j2 k2 l0 (t186 ++ (⟨#[13, 10, 13, 10]⟩ : ByteArray)) t207 (t209.toList != (t186 ++ (⟨#[13, 10, 13, 10]⟩ : ByteArray)).toList) t194 x196001_2)) else (stowageref27_Read.j2 k2 l0 (t186 ++ (⟨#[13, 10, 13, 10]⟩ : ByteArray)) t207 true t194 x196001_2)))) else (stowageref27_Read.j2 k2 l0 (t186 ++ (⟨#[13, 10, 13, 10]⟩ : ByteArray)) t207 true t194 x196001_2)))) else (none)) else (none)) = some (r1, r2, r3, r4, r5) := by first|(rw [hji38] at H; exact H)|(simp only [hji38] at H ⊢; exact H)
             have hji38w : (IntKind.i64.wrap ((t189.length : Int) - 1)) = ji38 := (i64_w _).trans hji38
             by_cases c39 : 0 ≤ (ji38)
             ·rw [if_pos c39] at H
              have c39b0 : decide (0 ≤ (ji38)) = true := decide_eq_true c39
              clear c39
              by_cases c40 : (ji38) < (t189.length : Int)
              ·rw [if_pos c40] at H
               have c40b0 : decide ((ji38) < (t189.length : Int)) = true := decide_eq_true c40
               clear c40
               replace H := Option.bind_eq_some_iff.mp H
               obtain ⟨⟨t204, t205, t206⟩, A410, H⟩ := H
               replace H : ((stowageref27_number.f k2 t205).bind fun t207 => (if t206 = true then (if t207 < 0 then (stowageref27_Read.j2 k2 l0 (t186 ++ (⟨#[13, 10, 13, 10]⟩ : ByteArray)) t207 true t194 x196001_2) else ((stowageref27_wrong.f k2 t194 x196001_2 ([] : List Int) t207).bind fun t208 => (if t208 = 0 then ((stowageref27_head.f k2 t194 x196001_2 ([] : List Int) t207).bind fun t209 => (stowageref27_Read.j2 k2 l0 (t186 ++ (⟨#[13, 10, 13, 10]⟩ : ByteArray)) t207 (t209.toList != (t186 ++ (⟨#[13, 10, 13, 10]⟩ : ByteArray)).toList) t194 x196001_2)) else (stowageref27_Read.j2 k2 l0 (t186 ++ (⟨#[13, 10, 13, 10]⟩ : ByteArray)) t207 true t194 x196001_2)))) else (stowageref27_Read.j2 k2 l0 (t186 ++ (⟨#[13, 10, 13, 10]⟩ : ByteArray)) t207 true t194 x196001_2))) = some (r1, r2, r3, r4, r5) := H
               have A41 := Aside0.mk A410
               clear A410
               replace H := Option.bind_eq_some_iff.mp H
               obtain ⟨t207, A420, H⟩ := H
               replace H : (if t206 = true then (if t207 < 0 then (stowageref27_Read.j2 k2 l0 (t186 ++ (⟨#[13, 10, 13, 10]⟩ : ByteArray)) t207 true t194 x196001_2) else ((stowageref27_wrong.f k2 t194 x196001_2 ([] : List Int) t207).bind fun t208 => (if t208 = 0 then ((stowageref27_head.f k2 t194 x196001_2 ([] : List Int) t207).bind fun t209 => (stowageref27_Read.j2 k2 l0 (t186 ++ (⟨#[13, 10, 13, 10]⟩ : ByteArray)) t207 (t209.toList != (t186 ++ (⟨#[13, 10, 13, 10]⟩ : ByteArray)).toList) t194 x196001_2)) else (stowageref27_Read.j2 k2 l0 (t186 ++ (⟨#[13, 10, 13, 10]⟩ : ByteArray)) t207 true t194 x196001_2)))) else (stowageref27_Read.j2 k2 l0 (t186 ++ (⟨#[13, 10, 13, 10]⟩ : ByteArray)) t207 true t194 x196001_2)) = some (r1, r2, r3, r4, r5) := H
               have A42 := Aside0.mk A420
               clear A420
               have HC43 := Aside0.mk H
               clear H
               have p203 : 0 ≤ ((ji38) : Int) := of_decide_eq_true (by first|(with_reducible assumption)|assumption)
               have q203 : (ji38) < (t189.length : Int) := of_decide_eq_true (by first|(with_reducible assumption)|assumption)
               obtain ⟨ad203, e203, hx203_0⟩ := Kd.at_string (Kd.R_reads' HO_9.out).2.2 (ji38) p203 q203
               obtain rfl : ad193 = ad203 := (by injection e203)
               replace p203 := eq_true p203
               replace q203 := eq_true q203
               go_upto_region 18 with (first|((with_reducible refine gate_callee (f := 21) rfl ?_); refine goesL_ (some 85) rfl rfl Tryz.func21 (by kernel_rfl) rfl #[.string (rdOf ByteArray.empty t189 (ji38)), .string (⟨#[99, 111, 110, 116, 101, 110, 116, 45, 108, 101, 110, 103, 116, 104, 58, 32]⟩ : ByteArray)] rfl (by (try simp only [List.map_toArray, List.map_cons, List.map_nil]); first|done|(simp only [hji38]; rfl)|rfl|(simp only [List.length_drop, List.length_take]; rfl)) ?_; (with_reducible refine (stowageref27_after.calls k2 (rdOf ByteArray.empty t189 (ji38)) (⟨#[99, 111, 110, 116, 101, 110, 116, 45, 108, 101, 110, 103, 116, 104, 58, 32]⟩ : ByteArray) t204 t205 t206 _ A41.out).mono ?_); rintro e w' ⟨rfl, ⟨nd, rfl⟩⟩; refine ⟨_, rfl, ?_⟩)|((with_reducible refine gate_callee (f := 23) rfl ?_); refine goesL_ (some 90) rfl rfl Tryz.func23 (by kernel_rfl) rfl #[.string t205] rfl (by (try simp only [List.map_toArray, List.map_cons, List.map_nil]); first|done|rfl|(simp only [List.length_drop, List.length_take]; rfl)) ?_; (with_reducible refine (stowageref27_number.calls k2 t205 t207 _ A42.out).mono ?_); rintro e w' ⟨rfl, ⟨nd, rfl⟩⟩; refine ⟨_, rfl, ?_⟩))
               (try simp only [Act.put, List.setIfInBounds_toArray, List.set_cons_zero, List.set_cons_succ])
               go_cut [109] (fun v109 wc => ∃ (kq : Nat) (x109_42 : Bool), v109 = .bool x109_42 ∧ Aside0 (stowageref27_Read.j2 kq l0 (t186 ++ (⟨#[13, 10, 13, 10]⟩ : ByteArray)) t207 x109_42 t194 x196001_2 = some (r1, r2, r3, r4, r5)) ∧ Aside0 (kq ≤ k2) ∧ Aside0 (Kd.R k51 51 wc w.heap.size (fun _ => True) u196001 x196001_2) ∧ Aside0 (wc.heap[gb185]? = some (.cells #[.int .i64 x186000_2, (.slice none 0 0), (.slice none 0 0)] 26 (0, 0))) ∧ Aside0 (wc.heap[gb195]? = some (.cells #[.int .i64 t194, u196001, (.slice none 0 0)] 26 (0, 0))) ∧ Aside0 (Below w.heap.size w wc))
               case first =>
                have H := HC43.out
                clear HC43
                by_cases c44 : t206 = true
                ·subst c44
                 have H1 : (if t207 < 0 then (stowageref27_Read.j2 k2 l0 (t186 ++ (⟨#[13, 10, 13, 10]⟩ : ByteArray)) t207 true t194 x196001_2) else ((stowageref27_wrong.f k2 t194 x196001_2 ([] : List Int) t207).bind fun t208 => (if t208 = 0 then ((stowageref27_head.f k2 t194 x196001_2 ([] : List Int) t207).bind fun t209 => (stowageref27_Read.j2 k2 l0 (t186 ++ (⟨#[13, 10, 13, 10]⟩ : ByteArray)) t207 (t209.toList != (t186 ++ (⟨#[13, 10, 13, 10]⟩ : ByteArray)).toList) t194 x196001_2)) else (stowageref27_Read.j2 k2 l0 (t186 ++ (⟨#[13, 10, 13, 10]⟩ : ByteArray)) t207 true t194 x196001_2)))) = some (r1, r2, r3, r4, r5) := by rw [if_pos rfl] at H; exact H
                 clear H
                 have H := H1
                 clear H1
                 by_cases c45 : t207 < 0
                 ·rw [if_pos c45] at H
                  have c45b0 : decide (t207 < 0) = true := decide_eq_true c45
                  clear c45
                  (first|rw [c45b0]|(simp only [i64_w, i32_w]; rw [c45b0])|skip)
                  as_aux_lemma =>
                   have H' := Aside0.mk H
                   clear H
                   go_wp2
                   go_meet
                   case rel => exact ⟨_, (true), (by first|rfl|(simp; done)|(simp [*]; done)), H', ⟨by have := HJ6.out; have := HK2.out; first|omega|exact Nat.le_refl _⟩, ⟨by (with_reducible repeat (first|apply Kd.R_alloc|apply Kd.R_drewN|apply Kd.R_drew)); exact HO_196001.out⟩, ⟨by (with_reducible repeat (first|refine blk_drewN ?_ _|refine blk_drew ?_|refine blk_alloc ?_ _)); exact BK185.out⟩, ⟨by (with_reducible repeat (first|refine blk_drewN ?_ _|refine blk_drew ?_|refine blk_alloc ?_ _)); exact BK195.out⟩, ⟨by repeat (first|(with_reducible first|exact HB.out|apply below_alloc|apply pw_below_drewN|apply below_drew1|refine below_set ?_ GE185.out|refine below_set ?_ GE195.out)|exact HB.out)⟩⟩
                 ·rw [if_neg c45] at H
                  have c45b0 : decide (t207 < 0) = false := decide_eq_false c45
                  clear c45
                  (first|rw [c45b0]|(simp only [i64_w, i32_w]; rw [c45b0])|skip)
                  replace H := Option.bind_eq_some_iff.mp H
                  obtain ⟨t208, A460, H⟩ := H
                  replace H : (if t208 = 0 then ((stowageref27_head.f k2 t194 x196001_2 ([] : List Int) t207).bind fun t209 => (stowageref27_Read.j2 k2 l0 (t186 ++ (⟨#[13, 10, 13, 10]⟩ : ByteArray)) t207 (t209.toList != (t186 ++ (⟨#[13, 10, 13, 10]⟩ : ByteArray)).toList) t194 x196001_2)) else (stowageref27_Read.j2 k2 l0 (t186 ++ (⟨#[13, 10, 13, 10]⟩ : ByteArray)) t207 true t194 x196001_2)) = some (r1, r2, r3, r4, r5) := H
                  have A46 := Aside0.mk A460
                  clear A460
                  by_cases c47 : t208 = 0
                  ·rw [if_pos c47] at H
                   have c47b0 : (t208 == 0) = true := beq_iff_eq.mpr c47
                   have c47b1 : (t208 != 0) = false := bne_eq_false_iff_eq.mpr c47
                   clear c47
                   replace H := Option.bind_eq_some_iff.mp H
                   obtain ⟨t209, A480, H⟩ := H
                   replace H : (stowageref27_Read.j2 k2 l0 (t186 ++ (⟨#[13, 10, 13, 10]⟩ : ByteArray)) t207 (t209.toList != (t186 ++ (⟨#[13, 10, 13, 10]⟩ : ByteArray)).toList) t194 x196001_2) = some (r1, r2, r3, r4, r5) := H
                   have A48 := Aside0.mk A480
                   clear A480
                   as_aux_lemma =>
                    have H' := Aside0.mk H
                    clear H
                    have hnb49 := NB195_185.out
                    have hnc49 := NB185_195.out
                    have hcz50_0 : wr.cell? ⟨gb195, 0, none⟩ = some (.int .i64 t194) := (blk_cell BK195.out 0).trans rfl
                    have hcz50_1 : wr.cell? ⟨gb195, 1, none⟩ = some (u196001) := (blk_cell BK195.out 1).trans rfl
                    have hcz50_2 : wr.cell? ⟨gb195, 2, none⟩ = some (.slice none 0 0) := (blk_cell BK195.out 2).trans rfl
                    have hfz50_0 := blk_frozen BK195.out 0
                    have hfz50_1 := blk_frozen BK195.out 1
                    have hfz50_2 := blk_frozen BK195.out 2
                    obtain ⟨Ao51, co51, eo51⟩ := Kd.R_slice HO_196001.out
                    subst eo51
                    go_wp2_with (first|(go_at_call 24; (refine (stowageref27_wrong.calls k2 t194 _ _ x196001_2 _ _ ([] : List Int) t207 t208 _ ?side1 ?side2 ?side3 ?side4 A46.out).mono ?_); (case side1 => repeat (first|exact (Kd.R_reads' HO_196001.out).2.2|(with_reducible refine Kd.C_alloc ?_ _)|(with_reducible refine Kd.C_drewN ?_ _)|(with_reducible refine Kd.C_drew ?_))); (case side2 => exact (Kd.R_reads' HO_196001.out).2.1); (case side3 => exact Kd.C_nil _ _); (case side4 => exact Nat.le_refl _); rintro e w52 ⟨rfl, hb⟩; have n0_ := Aside0.mk (Kd.R_below (by (with_reducible repeat (first|apply Kd.R_alloc|apply Kd.R_drewN|apply Kd.R_drew)); exact HO_9.out) hb); have n1_ := Aside0.mk (Kd.R_below (by (with_reducible repeat (first|apply Kd.R_alloc|apply Kd.R_drewN|apply Kd.R_drew)); exact HO_196001.out) hb); have n2_ := Aside0.mk (blk_below (g := gb185) (o := .cells #[.int .i64 x186000_2, .slice none 0 0, .slice none 0 0] 26 (0, 0)) (by (with_reducible repeat (first|refine blk_drewN ?_ _|refine blk_drew ?_|refine blk_alloc ?_ _)); exact BK185.out) hb); have n3_ := Aside0.mk (blk_below (g := gb195) (o := .cells #[.int .i64 t194, .slice Ao51 x196001_2.length co51, .slice none 0 0] 26 (0, 0)) (by (with_reducible repeat (first|refine blk_drewN ?_ _|refine blk_drew ?_|refine blk_alloc ?_ _)); exact BK195.out) hb); have n4_ := Aside0.mk (below_step (by repeat (first|(with_reducible first|exact HB.out|apply below_alloc|apply pw_below_drewN|apply below_drew1|refine below_set ?_ GE185.out|refine below_set ?_ GE195.out)|exact HB.out)) hb); clear HO_9; clear HO_196001; clear BK185; clear BK195; clear HB; have HO_9 := n0_; have HO_196001 := n1_; have BK185 := n2_; have BK195 := n3_; have HB := n4_; clear n0_ n1_ n2_ n3_ n4_; (try clear hb); (try clear hb2); (try clear hk); (try clear hi); have hcz53_0 : w52.cell? ⟨gb195, 0, none⟩ = some (.int .i64 t194) := (blk_cell BK195.out 0).trans rfl; have hcz53_1 : w52.cell? ⟨gb195, 1, none⟩ = some (.slice Ao51 x196001_2.length co51) := (blk_cell BK195.out 1).trans rfl; have hcz53_2 : w52.cell? ⟨gb195, 2, none⟩ = some (.slice none 0 0) := (blk_cell BK195.out 2).trans rfl; have hfz53_0 := blk_frozen BK195.out 0; have hfz53_1 := blk_frozen BK195.out 1; have hfz53_2 := blk_frozen BK195.out 2)|(go_at_call 25; (refine (stowageref27_head.calls k2 t194 _ _ x196001_2 _ _ ([] : List Int) t207 t209 _ ?side1 ?side2 ?side3 ?side4 A48.out).mono ?_); (case side1 => repeat (first|exact (Kd.R_reads' HO_196001.out).2.2|(with_reducible refine Kd.C_alloc ?_ _)|(with_reducible refine Kd.C_drewN ?_ _)|(with_reducible refine Kd.C_drew ?_))); (case side2 => exact (Kd.R_reads' HO_196001.out).2.1); (case side3 => exact Kd.C_nil _ _); (case side4 => exact Nat.le_refl _); rintro e w54 ⟨rfl, hb⟩; have n0_ := Aside0.mk (Kd.R_below (by (with_reducible repeat (first|apply Kd.R_alloc|apply Kd.R_drewN|apply Kd.R_drew)); exact HO_9.out) hb); have n1_ := Aside0.mk (Kd.R_below (by (with_reducible repeat (first|apply Kd.R_alloc|apply Kd.R_drewN|apply Kd.R_drew)); exact HO_196001.out) hb); have n2_ := Aside0.mk (blk_below (g := gb185) (o := .cells #[.int .i64 x186000_2, .slice none 0 0, .slice none 0 0] 26 (0, 0)) (by (with_reducible repeat (first|refine blk_drewN ?_ _|refine blk_drew ?_|refine blk_alloc ?_ _)); exact BK185.out) hb); have n3_ := Aside0.mk (blk_below (g := gb195) (o := .cells #[.int .i64 t194, .slice Ao51 x196001_2.length co51, .slice none 0 0] 26 (0, 0)) (by (with_reducible repeat (first|refine blk_drewN ?_ _|refine blk_drew ?_|refine blk_alloc ?_ _)); exact BK195.out) hb); have n4_ := Aside0.mk (below_step (by repeat (first|(with_reducible first|exact HB.out|apply below_alloc|apply pw_below_drewN|apply below_drew1|refine below_set ?_ GE185.out|refine below_set ?_ GE195.out)|exact HB.out)) hb); clear HO_9; clear HO_196001; clear BK185; clear BK195; clear HB; have HO_9 := n0_; have HO_196001 := n1_; have BK185 := n2_; have BK195 := n3_; have HB := n4_; clear n0_ n1_ n2_ n3_ n4_; (try clear hb); (try clear hb2); (try clear hk); (try clear hi)))
                    go_meet
                    case rel => exact ⟨_, ((t209.toList != (t186 ++ (⟨#[13, 10, 13, 10]⟩ : ByteArray)).toList)), (by first|rfl|(simp; done)|(simp [*]; done)), H', ⟨by have := HJ6.out; have := HK2.out; first|omega|exact Nat.le_refl _⟩, ⟨by (with_reducible repeat (first|apply Kd.R_alloc|apply Kd.R_drewN|apply Kd.R_drew)); exact HO_196001.out⟩, ⟨by (with_reducible repeat (first|refine blk_drewN ?_ _|refine blk_drew ?_|refine blk_alloc ?_ _)); exact BK185.out⟩, ⟨by (with_reducible repeat (first|refine blk_drewN ?_ _|refine blk_drew ?_|refine blk_alloc ?_ _)); exact BK195.out⟩, ⟨by repeat (first|(with_reducible first|exact HB.out|apply below_alloc|apply pw_below_drewN|apply below_drew1|refine below_set ?_ GE185.out|refine below_set ?_ GE195.out)|exact HB.out)⟩⟩
                  ·rw [if_neg c47] at H
                   have c47b0 : (t208 == 0) = false := beq_eq_false_iff_ne.mpr c47
                   have c47b1 : (t208 != 0) = true := bne_iff_ne.mpr c47
                   as_aux_lemma =>
                    have H' := Aside0.mk H
                    clear H
                    have hnb55 := NB195_185.out
                    have hnc55 := NB185_195.out
                    have hcz56_0 : wr.cell? ⟨gb195, 0, none⟩ = some (.int .i64 t194) := (blk_cell BK195.out 0).trans rfl
                    have hcz56_1 : wr.cell? ⟨gb195, 1, none⟩ = some (u196001) := (blk_cell BK195.out 1).trans rfl
                    have hcz56_2 : wr.cell? ⟨gb195, 2, none⟩ = some (.slice none 0 0) := (blk_cell BK195.out 2).trans rfl
                    have hfz56_0 := blk_frozen BK195.out 0
                    have hfz56_1 := blk_frozen BK195.out 1
                    have hfz56_2 := blk_frozen BK195.out 2
                    obtain ⟨Ao57, co57, eo57⟩ := Kd.R_slice HO_196001.out
                    subst eo57
                    go_wp2_with (first|(go_at_call 24; (refine (stowageref27_wrong.calls k2 t194 _ _ x196001_2 _ _ ([] : List Int) t207 t208 _ ?side1 ?side2 ?side3 ?side4 A46.out).mono ?_); (case side1 => repeat (first|exact (Kd.R_reads' HO_196001.out).2.2|(with_reducible refine Kd.C_alloc ?_ _)|(with_reducible refine Kd.C_drewN ?_ _)|(with_reducible refine Kd.C_drew ?_))); (case side2 => exact (Kd.R_reads' HO_196001.out).2.1); (case side3 => exact Kd.C_nil _ _); (case side4 => exact Nat.le_refl _); rintro e w58 ⟨rfl, hb⟩; have n0_ := Aside0.mk (Kd.R_below (by (with_reducible repeat (first|apply Kd.R_alloc|apply Kd.R_drewN|apply Kd.R_drew)); exact HO_9.out) hb); have n1_ := Aside0.mk (Kd.R_below (by (with_reducible repeat (first|apply Kd.R_alloc|apply Kd.R_drewN|apply Kd.R_drew)); exact HO_196001.out) hb); have n2_ := Aside0.mk (blk_below (g := gb185) (o := .cells #[.int .i64 x186000_2, .slice none 0 0, .slice none 0 0] 26 (0, 0)) (by (with_reducible repeat (first|refine blk_drewN ?_ _|refine blk_drew ?_|refine blk_alloc ?_ _)); exact BK185.out) hb); have n3_ := Aside0.mk (blk_below (g := gb195) (o := .cells #[.int .i64 t194, .slice Ao57 x196001_2.length co57, .slice none 0 0] 26 (0, 0)) (by (with_reducible repeat (first|refine blk_drewN ?_ _|refine blk_drew ?_|refine blk_alloc ?_ _)); exact BK195.out) hb); have n4_ := Aside0.mk (below_step (by repeat (first|(with_reducible first|exact HB.out|apply below_alloc|apply pw_below_drewN|apply below_drew1|refine below_set ?_ GE185.out|refine below_set ?_ GE195.out)|exact HB.out)) hb); clear HO_9; clear HO_196001; clear BK185; clear BK195; clear HB; have HO_9 := n0_; have HO_196001 := n1_; have BK185 := n2_; have BK195 := n3_; have HB := n4_; clear n0_ n1_ n2_ n3_ n4_; (try clear hb); (try clear hb2); (try clear hk); (try clear hi)))
                    go_meet
                    case rel => exact ⟨_, (true), (by first|rfl|(simp; done)|(simp [*]; done)), H', ⟨by have := HJ6.out; have := HK2.out; first|omega|exact Nat.le_refl _⟩, ⟨by (with_reducible repeat (first|apply Kd.R_alloc|apply Kd.R_drewN|apply Kd.R_drew)); exact HO_196001.out⟩, ⟨by (with_reducible repeat (first|refine blk_drewN ?_ _|refine blk_drew ?_|refine blk_alloc ?_ _)); exact BK185.out⟩, ⟨by (with_reducible repeat (first|refine blk_drewN ?_ _|refine blk_drew ?_|refine blk_alloc ?_ _)); exact BK195.out⟩, ⟨by repeat (first|(with_reducible first|exact HB.out|apply below_alloc|apply pw_below_drewN|apply below_drew1|refine below_set ?_ GE185.out|refine below_set ?_ GE195.out)|exact HB.out)⟩⟩
                ·replace c44 := Bool.eq_false_iff.mpr c44
                 subst c44
                 have H1 : (stowageref27_Read.j2 k2 l0 (t186 ++ (⟨#[13, 10, 13, 10]⟩ : ByteArray)) t207 true t194 x196001_2) = some (r1, r2, r3, r4, r5) := by rw [if_neg (show ¬ (false = true) by decide)] at H; exact H
                 clear H
                 have H := H1
                 clear H1
                 as_aux_lemma =>
                  have H' := Aside0.mk H
                  clear H
                  go_wp2
                  go_meet
                  case rel => exact ⟨_, (true), (by first|rfl|(simp; done)|(simp [*]; done)), H', ⟨by have := HJ6.out; have := HK2.out; first|omega|exact Nat.le_refl _⟩, ⟨by (with_reducible repeat (first|apply Kd.R_alloc|apply Kd.R_drewN|apply Kd.R_drew)); exact HO_196001.out⟩, ⟨by (with_reducible repeat (first|refine blk_drewN ?_ _|refine blk_drew ?_|refine blk_alloc ?_ _)); exact BK185.out⟩, ⟨by (with_reducible repeat (first|refine blk_drewN ?_ _|refine blk_drew ?_|refine blk_alloc ?_ _)); exact BK195.out⟩, ⟨by repeat (first|(with_reducible first|exact HB.out|apply below_alloc|apply pw_below_drewN|apply below_drew1|refine below_set ?_ GE185.out|refine below_set ?_ GE195.out)|exact HB.out)⟩⟩
               case rest =>
                clear HC43
                try clear c1
                try clear p1
                try clear q1
                try clear hx1
                try clear qi1
                try clear c2
                try clear p2
                try clear q2
                try clear hx2
                try clear c3
                try clear c4
                try clear c4b0
                try clear c4b1
                try clear c4b2
                try clear c5
                try clear c5b0
                try clear c5b1
                try clear c5b2
                try clear p6
                try clear c7
                try clear hcv9
                try clear c11
                try clear c11b0
                try clear c11b1
                try clear c13
                try clear c13b0
                try clear c13b1
                try clear c15
                try clear c17
                try clear c17b0
                try clear c17b1
                try clear c18
                try clear c18b0
                try clear c18b1
                try clear c19
                try clear c19b0
                try clear c19b1
                try clear p19
                try clear q19
                try clear hx19
                try clear qi19
                try clear p20
                try clear q20
                try clear hx20
                try clear c21
                try clear c22
                try clear c23
                try clear c25
                try clear c25b0
                try clear c26
                try clear c26b0
                try clear c27
                try clear c27b0
                try clear c29
                try clear c30
                try clear c31
                try clear c36
                try clear c39
                try clear c39b0
                try clear c40
                try clear c40b0
                try clear c44
                try clear c45
                try clear c45b0
                try clear c47
                try clear c47b0
                try clear c47b1
                try clear c49
                try clear c55
                try clear hcz16_0
                try clear hcz16_1
                try clear hcz16_2
                try clear hcz24_0
                try clear hcz24_1
                try clear hcz24_2
                try clear hcz32_0
                try clear hcz32_1
                try clear hcz32_2
                try clear hcz35_0
                try clear hcz35_1
                try clear hcz35_2
                try clear hcz37_0
                try clear hcz37_1
                try clear hcz37_2
                try clear hcz50_0
                try clear hcz50_1
                try clear hcz50_2
                try clear hcz53_0
                try clear hcz53_1
                try clear hcz53_2
                try clear hcz56_0
                try clear hcz56_1
                try clear hcz56_2
                try clear hfz16_0
                try clear hfz16_1
                try clear hfz16_2
                try clear hfz24_0
                try clear hfz24_1
                try clear hfz24_2
                try clear hfz32_0
                try clear hfz32_1
                try clear hfz32_2
                try clear hfz35_0
                try clear hfz35_1
                try clear hfz35_2
                try clear hfz37_0
                try clear hfz37_1
                try clear hfz37_2
                try clear hfz50_0
                try clear hfz50_1
                try clear hfz50_2
                try clear hfz53_0
                try clear hfz53_1
                try clear hfz53_2
                try clear hfz56_0
                try clear hfz56_1
                try clear hfz56_2
                try clear hx192_0
                try clear hx193_0
                try clear hx196_0
                try clear hx203_0
                try clear p1
                try clear p19
                try clear p192
                try clear p193
                try clear p196
                try clear p2
                try clear p203
                try clear q1
                try clear q19
                try clear q192
                try clear q193
                try clear q196
                try clear q203
                obtain ⟨kq, x109_42, rfl, HA, HJ42, HO_196001, BK185, BK195, HB⟩ := hcut
                cases kq with
                | zero => exact absurd HA.out (by simp [stowageref27_Read.j2])
                | succ kj42 =>
                 have H := HA.out
                 clear HA
                 simp only [stowageref27_Read.j2] at H
                 by_cases c59 : x109_42 = true
                 ·subst c59
                  have H1 : (some (0, ([] : List (S51)), ([] : List Int), 0, 4)) = some (r1, r2, r3, r4, r5) := by rw [if_pos rfl] at H; exact H
                  clear H
                  have H := H1
                  clear H1
                  as_aux_lemma =>
                   simp only [Option.some.injEq, Prod.mk.injEq] at H
                   obtain ⟨rfl, rfl, rfl, rfl, rfl⟩ := H
                   have hnb60 := NB185_195.out
                   have hnc60 := NB195_185.out
                   have hcz61_0 : wc.cell? ⟨gb185, 0, none⟩ = some (.int .i64 x186000_2) := (blk_cell BK185.out 0).trans rfl
                   have hcz61_1 : wc.cell? ⟨gb185, 1, none⟩ = some (.slice none 0 0) := (blk_cell BK185.out 1).trans rfl
                   have hcz61_2 : wc.cell? ⟨gb185, 2, none⟩ = some (.slice none 0 0) := (blk_cell BK185.out 2).trans rfl
                   have hfz61_0 := blk_frozen BK185.out 0
                   have hfz61_1 := blk_frozen BK185.out 1
                   have hfz61_2 := blk_frozen BK185.out 2
                   go_wp2
                   refine bodyPost_ret (results_ctt rfl _ _ gb185 26 #[.int .i64 0, .slice none 0 0, .slice none 0 0] (0, 0) _ rfl (by (with_reducible repeat (first|refine blk_drewN ?_ _|refine blk_drew ?_|refine blk_alloc ?_ _)); refine blk_put (cs := #[.int .i64 0, .slice none 0 0, .slice none 0 0]) ?_ 2 _ rfl; (with_reducible repeat (first|refine blk_drewN ?_ _|refine blk_drew ?_|refine blk_alloc ?_ _)); refine blk_put (cs := #[.int .i64 0, .slice none 0 0, .slice none 0 0]) ?_ 1 _ rfl; (with_reducible repeat (first|refine blk_drewN ?_ _|refine blk_drew ?_|refine blk_alloc ?_ _)); refine blk_put (cs := #[.int .i64 x186000_2, .slice none 0 0, .slice none 0 0]) ?_ 0 _ rfl; (with_reducible repeat (first|refine blk_drewN ?_ _|refine blk_drew ?_|refine blk_alloc ?_ _)); exact BK185.out) Tryz.underlying26 rfl (by kernel_rfl)) rfl ?_
                   exact ⟨_, _, by first|rfl|(simp [errW_none, errW_some] <;> rfl)|(simp only [← hji38]; first|rfl|(simp [errW_none, errW_some] <;> rfl))|(simp [*, errW_none, errW_some] <;> rfl), by first|exact Kd.R_nil _ _ _ _ _|exact Kd.N_nil _ _ _ _ _|exact Kd.V_nil _ _ _ _ _|exact Kd.Q_nil _ _ _ _ _|exact Kd.S_nil _ _ _ _ _, by first|exact Kd.R_nil _ _ _ _ _|exact Kd.N_nil _ _ _ _ _|exact Kd.V_nil _ _ _ _ _|exact Kd.Q_nil _ _ _ _ _|exact Kd.S_nil _ _ _ _ _, by repeat (first|(with_reducible first|exact HB.out|apply below_alloc|apply pw_below_drewN|apply below_drew1|refine below_set ?_ GE185.out|refine below_set ?_ GE195.out)|exact HB.out)⟩
                 ·replace c59 := Bool.eq_false_iff.mpr c59
                  subst c59
                  have H1 : (if (wrap64 ((l0.length : Int) - ((t186 ++ (⟨#[13, 10, 13, 10]⟩ : ByteArray)).size : Int))) < t207 then (some (0, ([] : List (S51)), ([] : List Int), 0, 9)) else ((some (([] : List Int) : List Int)).bind fun y210 => (if 0 ≤ ((t186 ++ (⟨#[13, 10, 13, 10]⟩ : ByteArray)).size : Int) then (if ((t186 ++ (⟨#[13, 10, 13, 10]⟩ : ByteArray)).size : Int) ≤ (wrap64 (((t186 ++ (⟨#[13, 10, 13, 10]⟩ : ByteArray)).size : Int) + t207)) then (if (wrap64 (((t186 ++ (⟨#[13, 10, 13, 10]⟩ : ByteArray)).size : Int) + t207)) ≤ (l0.length : Int) then (if y210.length + ((l0.take ((wrap64 (((t186 ++ (⟨#[13, 10, 13, 10]⟩ : ByteArray)).size : Int) + t207)) : Int).toNat).drop (((t186 ++ (⟨#[13, 10, 13, 10]⟩ : ByteArray)).size : Int) : Int).toNat).length < 140737488355328 then (some (t194, x196001_2, (y210 ++ ((l0.take ((wrap64 (((t186 ++ (⟨#[13, 10, 13, 10]⟩ : ByteArray)).size : Int) + t207)) : Int).toNat).drop (((t186 ++ (⟨#[13, 10, 13, 10]⟩ : ByteArray)).size : Int) : Int).toNat)), wrap64 (((t186 ++ (⟨#[13, 10, 13, 10]⟩ : ByteArray)).size : Int) + t207), 0)) else (none)) else (none)) else (none)) else (none)))) = some (r1, r2, r3, r4, r5) := by rw [if_neg (show ¬ (false = true) by decide)] at H; exact H
                  clear H
                  have H := H1
                  clear H1
                  by_cases c62 : (wrap64 ((l0.length : Int) - ((t186 ++ (⟨#[13, 10, 13, 10]⟩ : ByteArray)).size : Int))) < t207
                  ·rw [if_pos c62] at H
                   have c62b0 : decide ((wrap64 ((l0.length : Int) - ((t186 ++ (⟨#[13, 10, 13, 10]⟩ : ByteArray)).size : Int))) < t207) = true := decide_eq_true c62
                   have c62b0s := c62b0
                   rw [show ((((t186 ++ (⟨#[13, 10, 13, 10]⟩ : ByteArray)).size : Nat) : Int)) = ((t186.size : Int) + 4) from by rw [ByteArray.size_append]; rfl] at c62b0s
                   clear c62
                   as_aux_lemma =>
                    simp only [Option.some.injEq, Prod.mk.injEq] at H
                    obtain ⟨rfl, rfl, rfl, rfl, rfl⟩ := H
                    have hnb63 := NB185_195.out
                    have hnc63 := NB195_185.out
                    have hcz64_0 : wc.cell? ⟨gb185, 0, none⟩ = some (.int .i64 x186000_2) := (blk_cell BK185.out 0).trans rfl
                    have hcz64_1 : wc.cell? ⟨gb185, 1, none⟩ = some (.slice none 0 0) := (blk_cell BK185.out 1).trans rfl
                    have hcz64_2 : wc.cell? ⟨gb185, 2, none⟩ = some (.slice none 0 0) := (blk_cell BK185.out 2).trans rfl
                    have hfz64_0 := blk_frozen BK185.out 0
                    have hfz64_1 := blk_frozen BK185.out 1
                    have hfz64_2 := blk_frozen BK185.out 2
                    go_wp2
                    refine bodyPost_ret (results_ctt rfl _ _ gb185 26 #[.int .i64 0, .slice none 0 0, .slice none 0 0] (0, 0) _ rfl (by (with_reducible repeat (first|refine blk_drewN ?_ _|refine blk_drew ?_|refine blk_alloc ?_ _)); refine blk_put (cs := #[.int .i64 0, .slice none 0 0, .slice none 0 0]) ?_ 2 _ rfl; (with_reducible repeat (first|refine blk_drewN ?_ _|refine blk_drew ?_|refine blk_alloc ?_ _)); refine blk_put (cs := #[.int .i64 0, .slice none 0 0, .slice none 0 0]) ?_ 1 _ rfl; (with_reducible repeat (first|refine blk_drewN ?_ _|refine blk_drew ?_|refine blk_alloc ?_ _)); refine blk_put (cs := #[.int .i64 x186000_2, .slice none 0 0, .slice none 0 0]) ?_ 0 _ rfl; (with_reducible repeat (first|refine blk_drewN ?_ _|refine blk_drew ?_|refine blk_alloc ?_ _)); exact BK185.out) Tryz.underlying26 rfl (by kernel_rfl)) rfl ?_
                    exact ⟨_, _, by first|rfl|(simp [errW_none, errW_some] <;> rfl)|(simp only [← hji38]; first|rfl|(simp [errW_none, errW_some] <;> rfl))|(simp [*, errW_none, errW_some] <;> rfl), by first|exact Kd.R_nil _ _ _ _ _|exact Kd.N_nil _ _ _ _ _|exact Kd.V_nil _ _ _ _ _|exact Kd.Q_nil _ _ _ _ _|exact Kd.S_nil _ _ _ _ _, by first|exact Kd.R_nil _ _ _ _ _|exact Kd.N_nil _ _ _ _ _|exact Kd.V_nil _ _ _ _ _|exact Kd.Q_nil _ _ _ _ _|exact Kd.S_nil _ _ _ _ _, by repeat (first|(with_reducible first|exact HB.out|apply below_alloc|apply pw_below_drewN|apply below_drew1|refine below_set ?_ GE185.out|refine below_set ?_ GE195.out)|exact HB.out)⟩
                  ·rw [if_neg c62] at H
                   have c62b0 : decide ((wrap64 ((l0.length : Int) - ((t186 ++ (⟨#[13, 10, 13, 10]⟩ : ByteArray)).size : Int))) < t207) = false := decide_eq_false c62
                   have c62b0s := c62b0
                   rw [show ((((t186 ++ (⟨#[13, 10, 13, 10]⟩ : ByteArray)).size : Nat) : Int)) = ((t186.size : Int) + 4) from by rw [ByteArray.size_append]; rfl] at c62b0s
                   clear c62
                   obtain ⟨y210, hy210⟩ : ∃ y_ : List Int, y_ = (([] : List Int)) := ⟨_, rfl⟩
                   replace H : (if 0 ≤ ((t186 ++ (⟨#[13, 10, 13, 10]⟩ : ByteArray)).size : Int) then (if ((t186 ++ (⟨#[13, 10, 13, 10]⟩ : ByteArray)).size : Int) ≤ (wrap64 (((t186 ++ (⟨#[13, 10, 13, 10]⟩ : ByteArray)).size : Int) + t207)) then (if (wrap64 (((t186 ++ (⟨#[13, 10, 13, 10]⟩ : ByteArray)).size : Int) + t207)) ≤ (l0.length : Int) then (if y210.length + ((l0.take ((wrap64 (((t186 ++ (⟨#[13, 10, 13, 10]⟩ : ByteArray)).size : Int) + t207)) : Int).toNat).drop (((t186 ++ (⟨#[13, 10, 13, 10]⟩ : ByteArray)).size : Int) : Int).toNat).length < 140737488355328 then (some (t194, x196001_2, (y210 ++ ((l0.take ((wrap64 (((t186 ++ (⟨#[13, 10, 13, 10]⟩ : ByteArray)).size : Int) + t207)) : Int).toNat).drop (((t186 ++ (⟨#[13, 10, 13, 10]⟩ : ByteArray)).size : Int) : Int).toNat)), wrap64 (((t186 ++ (⟨#[13, 10, 13, 10]⟩ : ByteArray)).size : Int) + t207), 0)) else (none)) else (none)) else (none)) else (none)) = some (r1, r2, r3, r4, r5) := by first|(rw [hy210]; with_reducible exact H)|(have H2_ := (Option.bind_some _ _).symm.trans H; rw [hy210]; with_reducible exact H2_)|(have H2_ := (Option.bind_some _ _).symm.trans H; with_reducible exact H2_)|with_reducible exact H|(rw [hy210]; exact H)|exact H
                   have Ny210 := Aside0.mk hy210
                   clear hy210
                   by_cases c65 : 0 ≤ ((t186 ++ (⟨#[13, 10, 13, 10]⟩ : ByteArray)).size : Int)
                   ·rw [if_pos c65] at H
                    have c65b0 := eq_true c65
                    have c65b1 : decide (0 ≤ ((t186 ++ (⟨#[13, 10, 13, 10]⟩ : ByteArray)).size : Int)) = true := decide_eq_true c65
                    have c65b1s := c65b1
                    rw [show ((((t186 ++ (⟨#[13, 10, 13, 10]⟩ : ByteArray)).size : Nat) : Int)) = ((t186.size : Int) + 4) from by rw [ByteArray.size_append]; rfl] at c65b1s
                    by_cases c66 : ((t186 ++ (⟨#[13, 10, 13, 10]⟩ : ByteArray)).size : Int) ≤ (wrap64 (((t186 ++ (⟨#[13, 10, 13, 10]⟩ : ByteArray)).size : Int) + t207))
                    ·rw [if_pos c66] at H
                     have c66b0 := eq_true c66
                     have c66b1 : decide (((t186 ++ (⟨#[13, 10, 13, 10]⟩ : ByteArray)).size : Int) ≤ (wrap64 (((t186 ++ (⟨#[13, 10, 13, 10]⟩ : ByteArray)).size : Int) + t207))) = true := decide_eq_true c66
                     have c66b1s := c66b1
                     rw [show ((((t186 ++ (⟨#[13, 10, 13, 10]⟩ : ByteArray)).size : Nat) : Int)) = ((t186.size : Int) + 4) from by rw [ByteArray.size_append]; rfl] at c66b1s
                     by_cases c67 : (wrap64 (((t186 ++ (⟨#[13, 10, 13, 10]⟩ : ByteArray)).size : Int) + t207)) ≤ (l0.length : Int)
                     ·rw [if_pos c67] at H
                      have c67b0 := eq_true c67
                      have c67b1 : decide ((wrap64 (((t186 ++ (⟨#[13, 10, 13, 10]⟩ : ByteArray)).size : Int) + t207)) ≤ (l0.length : Int)) = true := decide_eq_true c67
                      have c67b1s := c67b1
                      rw [show ((((t186 ++ (⟨#[13, 10, 13, 10]⟩ : ByteArray)).size : Nat) : Int)) = ((t186.size : Int) + 4) from by rw [ByteArray.size_append]; rfl] at c67b1s
                      by_cases c68 : y210.length + ((l0.take ((wrap64 (((t186 ++ (⟨#[13, 10, 13, 10]⟩ : ByteArray)).size : Int) + t207)) : Int).toNat).drop (((t186 ++ (⟨#[13, 10, 13, 10]⟩ : ByteArray)).size : Int) : Int).toNat).length < 140737488355328
                      ·rw [if_pos c68] at H
                       have LMc68 := Aside0.mk c68
                       clear c68
                       obtain ⟨y214, hy214⟩ : ∃ y_ : List Int, y_ = (y210 ++ ((l0.take ((wrap64 (((t186 ++ (⟨#[13, 10, 13, 10]⟩ : ByteArray)).size : Int) + t207)) : Int).toNat).drop (((t186 ++ (⟨#[13, 10, 13, 10]⟩ : ByteArray)).size : Int) : Int).toNat)) := ⟨_, rfl⟩
                       replace H : (some (t194, x196001_2, y214, wrap64 (((t186 ++ (⟨#[13, 10, 13, 10]⟩ : ByteArray)).size : Int) + t207), 0)) = some (r1, r2, r3, r4, r5) := by first|(rw [hy214]; with_reducible exact H)|(have H2_ := (Option.bind_some _ _).symm.trans H; rw [hy214]; with_reducible exact H2_)|(have H2_ := (Option.bind_some _ _).symm.trans H; with_reducible exact H2_)|with_reducible exact H|(rw [hy214]; exact H)|exact H
                       have Ny214 := Aside0.mk hy214
                       clear hy214
                       as_aux_lemma =>
                        simp only [Option.some.injEq, Prod.mk.injEq] at H
                        obtain ⟨rfl, rfl, rfl, rfl, rfl⟩ := H
                        obtain ⟨ymZ, hymZ⟩ : ∃ y_ : List Int, y_ = ((l0.take ((wrap64 (((t186 ++ (⟨#[13, 10, 13, 10]⟩ : ByteArray)).size : Int) + t207)) : Int).toNat).drop (((t186 ++ (⟨#[13, 10, 13, 10]⟩ : ByteArray)).size : Int) : Int).toNat) := ⟨_, rfl⟩
                        have NymZ := Aside0.mk hymZ
                        clear hymZ
                        rw [← NymZ.out] at Ny214 LMc68
                        go_wp2_with (first|((with_reducible refine gate_dst (N := 119) rfl ?_); (try (refine gate_guard (by rfl) ?_; dsimp only)); refine Kd.R_lit (Kd.int .u8) _ 5 ?hg (N := 119) ?hd (xs := ([] : List Int)) (inner := []) (ok := fun _ => True) (okp := fun _ => True) ?hr ?hp (fun _ hk => hk) trivial (Below.refl _ _) (Nat.le_refl _) (by simp) ?_; (case hd => rfl); (case hg => rfl); (case hr => first|(go_simp; done)|(go_simp; rfl)); (case hp => exact (Reps.none _ _)); intro v211 w69 ho70 hb hg_ hnew_; clear hg_ hnew_; (first|rw [← Ny210.out] at ho70|(simp only [Int.reduceToNat] at ho70; rw [← Ny210.out] at ho70)); have n0_ := Aside0.mk (Kd.R_below (by (with_reducible repeat (first|apply Kd.R_alloc|apply Kd.R_drewN|apply Kd.R_drew)); exact HO_196001.out) hb); have n1_ := Aside0.mk (Kd.R_lower ho70 (below_size (by repeat (first|(with_reducible first|exact HB.out|apply below_alloc|apply pw_below_drewN|apply below_drew1|refine below_set ?_ GE185.out|refine below_set ?_ GE195.out)|exact HB.out)))); have n2_ := Aside0.mk (blk_below (g := gb185) (o := .cells #[.int .i64 x186000_2, .slice none 0 0, .slice none 0 0] 26 (0, 0)) (by (with_reducible repeat (first|refine blk_drewN ?_ _|refine blk_drew ?_|refine blk_alloc ?_ _)); exact BK185.out) hb); have n3_ := Aside0.mk (blk_below (g := gb195) (o := .cells #[.int .i64 t194, u196001, .slice none 0 0] 26 (0, 0)) (by (with_reducible repeat (first|refine blk_drewN ?_ _|refine blk_drew ?_|refine blk_alloc ?_ _)); exact BK195.out) hb); have n4_ := Aside0.mk (below_step (by repeat (first|(with_reducible first|exact HB.out|apply below_alloc|apply pw_below_drewN|apply below_drew1|refine below_set ?_ GE185.out|refine below_set ?_ GE195.out)|exact HB.out)) hb); clear HO_196001; clear BK185; clear BK195; clear HB; have HO_196001 := n0_; have HO212 := n1_; have BK185 := n2_; have BK195 := n3_; have HB := n4_; clear n0_ n1_ n2_ n3_ n4_; clear hb ho70; obtain ⟨i071, hi071, _, hsz71, _⟩ := info_parts info5; obtain ⟨A71, hcut71, hA71, hC71⟩ := print_mid_of (P := Tryz.prog) (Value.int .u8) 0 22 5 .i64 .i64 Tryz.underlying22 hi071 hsz71 A0 c0 l0 ((t186 ++ (⟨#[13, 10, 13, 10]⟩ : ByteArray)).size : Int) (wrap64 (((t186 ++ (⟨#[13, 10, 13, 10]⟩ : ByteArray)).size : Int) + t207)) (of_decide_eq_true (by first|(with_reducible assumption)|assumption)) (by first|omega|exact of_decide_eq_true (by first|(with_reducible assumption)|assumption)) (of_decide_eq_true (by first|(with_reducible assumption)|assumption)) HC0.out; have hcut71q := hcut71; (conv at hcut71q => ext W; lhs; rw [show ((((t186 ++ (⟨#[13, 10, 13, 10]⟩ : ByteArray)).size : Nat) : Int)) = ((t186.size : Int) + 4) from by rw [ByteArray.size_append]; rfl]); rw [← NymZ.out] at hcut71q hA71 hC71; have HR213 := Aside0.mk (Kd.C_of_reads (h1 := fun _ => rfl) (hA71 _ (Kd.reads_of_C HR0.out))); have HC213 := Aside0.mk hC71; clear hA71 hC71 hi071 hsz71)|((with_reducible refine gate_builtin (b := .append) (xs := #[.tmp 119, .tmp 127]) rfl ?_); (try (refine gate_guard (by rfl) ?_; dsimp only)); at_builtin; refine Kd.R_append_rows (Kd.int .u8) (w0 := w) w.heap.size rfl (.tmp 119) (.tmp 127) 22 5 (.int .u8 0) 1 rfl Tryz.underlying22 info5 rfl (by decide) (by omega) v211 y210 ymZ _ _ _ (fun _ => True) (fun _ => False) rfl rfl ?aO ?aR (fun _ _ h => h) (fun _ h => h.elim) ?aF ?aB ?aS ?aL ?_; (case aR => first|(rw [← show ((l0.take ((wrap64 (((t186 ++ (⟨#[13, 10, 13, 10]⟩ : ByteArray)).size : Int) + t207)) : Int).toNat).drop (((t186 ++ (⟨#[13, 10, 13, 10]⟩ : ByteArray)).size : Int) : Int).toNat).length = ((wrap64 (((t186 ++ (⟨#[13, 10, 13, 10]⟩ : ByteArray)).size : Int) + t207)).toNat - ((t186 ++ (⟨#[13, 10, 13, 10]⟩ : ByteArray)).size : Int).toNat) from (by rw [List.length_drop, List.length_take]; have h_ : ((wrap64 (((t186 ++ (⟨#[13, 10, 13, 10]⟩ : ByteArray)).size : Int) + t207)) : Int) ≤ (l0.length : Int) := of_decide_eq_true (by first|(with_reducible assumption)|assumption); omega)]; repeat (first|exact (Kd.C_below HR213.out HB.out)|(with_reducible refine Kd.C_alloc ?_ _)|(with_reducible refine Kd.C_drewN ?_ _)|(with_reducible refine Kd.C_drew ?_)))|(repeat (first|exact (Kd.C_below HR213.out HB.out)|(with_reducible refine Kd.C_alloc ?_ _)|(with_reducible refine Kd.C_drewN ?_ _)|(with_reducible refine Kd.C_drew ?_)))); (case aB => exact (by repeat (first|(with_reducible first|exact HB.out|apply below_alloc|apply pw_below_drewN|apply below_drew1|refine below_set ?_ GE185.out|refine below_set ?_ GE195.out)|exact HB.out))); (case aF => exact (fun _ _ => trivial)); (case aO => exact (by (with_reducible repeat (first|apply Kd.R_alloc|apply Kd.R_drewN|apply Kd.R_drew)); exact HO212.out)); (case aS => exact (below_size (by repeat (first|(with_reducible first|exact HB.out|apply below_alloc|apply pw_below_drewN|apply below_drew1|refine below_set ?_ GE185.out|refine below_set ?_ GE195.out)|exact HB.out)))); (case aL => have := LMc68.out; have hlx_ := (show ((l0.take ((wrap64 (((t186 ++ (⟨#[13, 10, 13, 10]⟩ : ByteArray)).size : Int) + t207)) : Int).toNat).drop (((t186 ++ (⟨#[13, 10, 13, 10]⟩ : ByteArray)).size : Int) : Int).toNat).length = ((wrap64 (((t186 ++ (⟨#[13, 10, 13, 10]⟩ : ByteArray)).size : Int) + t207)).toNat - ((t186 ++ (⟨#[13, 10, 13, 10]⟩ : ByteArray)).size : Int).toNat) from (by rw [List.length_drop, List.length_take]; have h_ : ((wrap64 (((t186 ++ (⟨#[13, 10, 13, 10]⟩ : ByteArray)).size : Int) + t207)) : Int) ≤ (l0.length : Int) := of_decide_eq_true (by first|(with_reducible assumption)|assumption); omega)); omega); intro v215 w72 ho hb hg hat; rw [← Ny214.out] at ho; have n0_ := Aside0.mk (Kd.R_over' (by (with_reducible repeat (first|apply Kd.R_alloc|apply Kd.R_drewN|apply Kd.R_drew)); exact HO_196001.out) (Kd.R_typed (by (with_reducible repeat (first|apply Kd.R_alloc|apply Kd.R_drewN|apply Kd.R_drew)); exact HO212.out)) (by decide) hg); have n1_ := Aside0.mk (blk_grown (g := gb185) (o := .cells #[.int .i64 x186000_2, .slice none 0 0, .slice none 0 0] 26 (0, 0)) (by (with_reducible repeat (first|refine blk_drewN ?_ _|refine blk_drew ?_|refine blk_alloc ?_ _)); exact BK185.out) hg (Kd.R_ne HO212.out BK185.out (by decide))); have n2_ := Aside0.mk (blk_grown (g := gb195) (o := .cells #[.int .i64 t194, u196001, .slice none 0 0] 26 (0, 0)) (by (with_reducible repeat (first|refine blk_drewN ?_ _|refine blk_drew ?_|refine blk_alloc ?_ _)); exact BK195.out) hg (Kd.R_ne HO212.out BK195.out (by decide))); have n3_ := Aside0.mk (hb); have n4_ := Aside0.mk (ho); clear HO_196001; clear BK185; clear BK195; clear HB; clear HO212; have HO_196001 := n0_; have BK185 := n1_; have BK195 := n2_; have HB := n3_; have HO216 := n4_; clear n0_ n1_ n2_ n3_ n4_; clear ho hb hg hat; obtain ⟨Ao73, co73, eo73⟩ := Kd.R_slice HO216.out; subst eo73; have hnb74 := NB195_185.out; have hnc74 := NB185_195.out; have hcz75_0 : w72.cell? ⟨gb195, 0, none⟩ = some (.int .i64 t194) := (blk_cell BK195.out 0).trans rfl; have hcz75_1 : w72.cell? ⟨gb195, 1, none⟩ = some (u196001) := (blk_cell BK195.out 1).trans rfl; have hcz75_2 : w72.cell? ⟨gb195, 2, none⟩ = some (.slice none 0 0) := (blk_cell BK195.out 2).trans rfl; have hfz75_0 := blk_frozen BK195.out 0; have hfz75_1 := blk_frozen BK195.out 1; have hfz75_2 := blk_frozen BK195.out 2; have hcz76_0 : w72.cell? ⟨gb185, 0, none⟩ = some (.int .i64 x186000_2) := (blk_cell BK185.out 0).trans rfl; have hcz76_1 : w72.cell? ⟨gb185, 1, none⟩ = some (.slice none 0 0) := (blk_cell BK185.out 1).trans rfl; have hcz76_2 : w72.cell? ⟨gb185, 2, none⟩ = some (.slice none 0 0) := (blk_cell BK185.out 2).trans rfl; have hfz76_0 := blk_frozen BK185.out 0; have hfz76_1 := blk_frozen BK185.out 1; have hfz76_2 := blk_frozen BK185.out 2; obtain ⟨Ao77, co77, eo77⟩ := Kd.R_slice HO_196001.out; subst eo77))
                        refine bodyPost_ret (results_ctt rfl _ _ gb185 26 #[.int .i64 t194, .slice Ao77 x196001_2.length co77, .slice Ao73 y214.length co73] (0, 0) _ rfl (by (with_reducible repeat (first|refine blk_drewN ?_ _|refine blk_drew ?_|refine blk_alloc ?_ _)); refine blk_put (cs := #[.int .i64 t194, .slice Ao77 x196001_2.length co77, .slice none 0 0]) ?_ 2 _ rfl; (with_reducible repeat (first|refine blk_drewN ?_ _|refine blk_drew ?_|refine blk_alloc ?_ _)); refine blk_put (cs := #[.int .i64 t194, .slice none 0 0, .slice none 0 0]) ?_ 1 _ rfl; (with_reducible repeat (first|refine blk_drewN ?_ _|refine blk_drew ?_|refine blk_alloc ?_ _)); refine blk_put (cs := #[.int .i64 x186000_2, .slice none 0 0, .slice none 0 0]) ?_ 0 _ rfl; (with_reducible repeat (first|refine blk_drewN ?_ _|refine blk_drew ?_|refine blk_alloc ?_ _)); refine blk_far ?_ NB185_195.out _; (with_reducible repeat (first|refine blk_drewN ?_ _|refine blk_drew ?_|refine blk_alloc ?_ _)); exact BK185.out) Tryz.underlying26 rfl (by kernel_rfl)) rfl ?_
                        exact ⟨_, _, by first|rfl|(simp [errW_none, errW_some] <;> rfl)|(simp only [← hji38]; first|rfl|(simp [errW_none, errW_some] <;> rfl))|(simp [*, errW_none, errW_some] <;> rfl), by (with_reducible repeat (first|apply Kd.R_alloc|apply Kd.R_drewN|apply Kd.R_drew)); exact Kd.R_mono (Kd.R_far (p := ⟨gb185, 2, none⟩) (Kd.R_far (p := ⟨gb185, 1, none⟩) (Kd.R_far (p := ⟨gb185, 0, none⟩) (Kd.R_far (p := ⟨gb195, 2, none⟩) (Kd.R_types (Kd.R_types HO_196001.out BK195.out (by decide)) BK185.out (by decide)) (fun _ hk => hk.1.2) (.slice Ao73 y214.length co73)) (fun _ hk => hk.2) (.int .i64 t194)) (fun _ hk => hk.2) (.slice Ao77 x196001_2.length co77)) (fun _ hk => hk.2) (.slice Ao73 y214.length co73)) (fun _ hk => trivial), by (with_reducible repeat (first|apply Kd.R_alloc|apply Kd.R_drewN|apply Kd.R_drew)); exact Kd.R_mono (Kd.R_far (p := ⟨gb185, 2, none⟩) (Kd.R_far (p := ⟨gb185, 1, none⟩) (Kd.R_far (p := ⟨gb185, 0, none⟩) (Kd.R_far (p := ⟨gb195, 2, none⟩) (Kd.R_types (Kd.R_types HO216.out BK195.out (by decide)) BK185.out (by decide)) (fun _ hk => hk.1.2) (.slice Ao73 y214.length co73)) (fun _ hk => hk.2) (.int .i64 t194)) (fun _ hk => hk.2) (.slice Ao77 x196001_2.length co77)) (fun _ hk => hk.2) (.slice Ao73 y214.length co73)) (fun _ hk => trivial), by repeat (first|(with_reducible first|exact HB.out|apply below_alloc|apply pw_below_drewN|apply below_drew1|refine below_set ?_ GE185.out|refine below_set ?_ GE195.out)|exact HB.out)⟩
                      ·rw [if_neg c68] at H
                       exact absurd H (by simp)
                     ·rw [if_neg c67] at H
                      exact absurd H (by simp)
                    ·rw [if_neg c66] at H
                     exact absurd H (by simp)
                   ·rw [if_neg c65] at H
                    exact absurd H (by simp)
              ·rw [if_neg c40] at H
               exact absurd H (by simp)
             ·rw [if_neg c39] at H
              exact absurd H (by simp)
         ·rw [if_neg c19] at H
          exact absurd H (by simp)
        ·rw [if_neg c18] at H
         exact absurd H (by simp)
       ·rw [if_neg c17] at H
        exact absurd H (by simp)
   ·rw [if_neg c5] at H
    exact absurd H (by simp)
  ·rw [if_neg c4] at H
   exact absurd H (by simp)
 ·replace c3 := Bool.eq_false_iff.mpr c3
  subst c3
  have H1 : (some (0, ([] : List (S51)), ([] : List Int), 0, 9)) = some (r1, r2, r3, r4, r5) := by rw [if_neg (show ¬ (false = true) by decide)] at H; exact H
  clear H
  have H := H1
  clear H1
  as_aux_lemma =>
   simp only [Option.some.injEq, Prod.mk.injEq] at H
   obtain ⟨rfl, rfl, rfl, rfl, rfl⟩ := H
   go_enter Tryz.func7, Tryz.ntmps7
   go_wp2_with (first|((with_reducible refine gate_dst (N := 2) rfl ?_); (try (refine gate_guard (by rfl) ?_; dsimp only)); refine box_event ?hg (N := 2) ?hd (cs := #[.int .i64 0, .slice none 0 0, .slice none 0 0]) (t := 26) ?hr ?_; (case hd => rfl); (case hg => rfl); (case hr => first|(go_simp; done)|(go_simp; rfl)); intro gb185 hg w78 hbox hb; have n0_ := Aside0.mk (below_step (by repeat (first|(with_reducible first|exact HB.out|apply below_alloc|apply pw_below_drewN|apply below_drew1)|exact HB.out)) hb); have n1_ := Aside0.mk (hbox); have n2_ := Aside0.mk ((by rw [hg]; exact (below_size (by repeat (first|(with_reducible first|exact HB.out|apply below_alloc|apply pw_below_drewN|apply below_drew1)|exact HB.out))) : w.heap.size ≤ gb185)); have n3_ := Aside0.mk ((by rw [hg]; exact (below_size (by repeat (first|(with_reducible first|exact HB.out|apply below_alloc|apply pw_below_drewN|apply below_drew1)|exact HB.out))) : w.heap.size ≤ gb185)); clear HB; have HB := n0_; have BK185 := n1_; have GW185 := n2_; have GE185 := n3_; clear n0_ n1_ n2_ n3_; clear hb hbox hg; have hcv79 := Kd.C_string (P := Tryz.prog) (A := A0) (c := c0) Tryz.underlying22 Tryz.underlying5 Tryz.underlying9 (Kd.C_below HR0.out HB.out))|((with_reducible refine gate_callee (f := 21) rfl ?_); refine goesL_ (some 22) rfl rfl Tryz.func21 (by kernel_rfl) rfl #[.string (strOfNums l0), .string (⟨#[13, 10, 13, 10]⟩ : ByteArray)] rfl (by (try simp only [List.map_toArray, List.map_cons, List.map_nil]); first|done|rfl|(simp only [List.length_drop, List.length_take]; rfl)) ?_; (with_reducible refine (stowageref27_after.calls k (strOfNums l0) (⟨#[13, 10, 13, 10]⟩ : ByteArray) t186 t187 false _ A2.out).mono ?_); rintro e w' ⟨rfl, ⟨nd, rfl⟩⟩; refine ⟨_, rfl, ?_⟩; (try (rw [drewN_self w78]; generalize hq_ : World.drewN w78 _ = w78; have n0_ : Aside0 (w78.heap[gb185]? = some (.cells #[.int .i64 0, .slice none 0 0, .slice none 0 0] 26 (0, 0))) := ⟨by rw [← hq_]; exact (by (with_reducible repeat (first|refine blk_drewN ?_ _|refine blk_drew ?_|refine blk_alloc ?_ _)); exact BK185.out)⟩; have n1_ : Aside0 (Below w.heap.size w w78) := ⟨by rw [← hq_]; exact (by repeat (first|(with_reducible first|exact HB.out|apply below_alloc|apply pw_below_drewN|apply below_drew1|refine below_set ?_ GE185.out)|exact HB.out))⟩; clear BK185 HB hq_; have BK185 := n0_; have HB := n1_; clear n0_ n1_)); have hcz80_0 : w78.cell? ⟨gb185, 0, none⟩ = some (.int .i64 0) := (blk_cell BK185.out 0).trans rfl; have hcz80_1 : w78.cell? ⟨gb185, 1, none⟩ = some (.slice none 0 0) := (blk_cell BK185.out 1).trans rfl; have hcz80_2 : w78.cell? ⟨gb185, 2, none⟩ = some (.slice none 0 0) := (blk_cell BK185.out 2).trans rfl; have hfz80_0 := blk_frozen BK185.out 0; have hfz80_1 := blk_frozen BK185.out 1; have hfz80_2 := blk_frozen BK185.out 2))
   refine bodyPost_ret (results_ctt rfl _ _ gb185 26 #[.int .i64 0, .slice none 0 0, .slice none 0 0] (0, 0) _ rfl (by (with_reducible repeat (first|refine blk_drewN ?_ _|refine blk_drew ?_|refine blk_alloc ?_ _)); refine blk_put (cs := #[.int .i64 0, .slice none 0 0, .slice none 0 0]) ?_ 2 _ rfl; (with_reducible repeat (first|refine blk_drewN ?_ _|refine blk_drew ?_|refine blk_alloc ?_ _)); refine blk_put (cs := #[.int .i64 0, .slice none 0 0, .slice none 0 0]) ?_ 1 _ rfl; (with_reducible repeat (first|refine blk_drewN ?_ _|refine blk_drew ?_|refine blk_alloc ?_ _)); refine blk_put (cs := #[.int .i64 0, .slice none 0 0, .slice none 0 0]) ?_ 0 _ rfl; (with_reducible repeat (first|refine blk_drewN ?_ _|refine blk_drew ?_|refine blk_alloc ?_ _)); exact BK185.out) Tryz.underlying26 rfl (by kernel_rfl)) rfl ?_
   exact ⟨_, _, by first|rfl|(simp [errW_none, errW_some] <;> rfl)|(simp [*, errW_none, errW_some] <;> rfl), by first|exact Kd.R_nil _ _ _ _ _|exact Kd.N_nil _ _ _ _ _|exact Kd.V_nil _ _ _ _ _|exact Kd.Q_nil _ _ _ _ _|exact Kd.S_nil _ _ _ _ _, by first|exact Kd.R_nil _ _ _ _ _|exact Kd.N_nil _ _ _ _ _|exact Kd.V_nil _ _ _ _ _|exact Kd.Q_nil _ _ _ _ _|exact Kd.S_nil _ _ _ _ _, by repeat (first|(with_reducible first|exact HB.out|apply below_alloc|apply pw_below_drewN|apply below_drew1|refine below_set ?_ GE185.out)|exact HB.out)⟩

end Go.Proofs.YtmgpbcpggnlkkaaGreatDoor.Pr
end
