/- Texts of this proof, put together: Over. -/
import Derived.Test.YtmgpbcpggnlkkaaGreatDoorProg
import Derived.Test.YtmgpbcpggnlkkaaGreatDoorMResponseReadsg
import Derived.Test.YtmgpbcpggnlkkaaGreatDoorMResponseReadsh
import Derived.Lib.BufferRead
section
/- stowagekit: lists compared, lists written over. -/
namespace Go.Proofs.YtmgpbcpggnlkkaaGreatDoor
open Go.RowKit
set_option linter.unusedVariables false
set_option linter.unusedSimpArgs false
theorem u8_xor (x y : UInt8) : bits .xor .u8 (x.toNat : Int) (y.toNat : Int) = ((x ^^^ y).toNat : Int) := by
  have hx := x.toNat_lt
  have hy := y.toNat_lt
  simp only [bits, BitVec.ofInt_natCast, BitVec.toNat_xor, BitVec.toNat_ofNat, UInt8.toNat_xor]
  rw [Nat.mod_eq_of_lt (show x.toNat < 2 ^ IntKind.u8.bits from hx), Nat.mod_eq_of_lt (show y.toNat < 2 ^ IntKind.u8.bits from hy), IntKind.wrap_u8]
  have := Nat.xor_lt_two_pow (n := 8) hx hy
  omega
set_option maxHeartbeats 400000 in
theorem over_any (B g n c : Nat) (f : Nat → UInt8) (w : World) (hB : B ≤ g) (hA : ArrB w g f c) (hn : n ≤ c) (hc : c ≤ 9223372036854775807) :
    Calls Tryz.prog 9 #[.slice (some ⟨g, 0, none⟩) n c] w fun e w' => e = .returned (.tuple #[]) ∧ Below B w w' := by
  have hxr := fun x : UInt8 => u8_xor x 90
  have e90 : (((90 : UInt8).toNat : Nat) : Int) = 90 := rfl
  simp only [e90] at hxr
  clear e90
  go_enter Tryz.func9, Tryz.ntmps9
  go_wp2_with fail
  go_loopw [3] (fun v wr => ∃ (k : Nat) (f' : Nat → UInt8), k ≤ c ∧ v = .int .i64 k ∧ ArrB wr g f' c ∧ Below B w wr) (fun v _ => c - (intOf v).toNat)
  case atStart => exact ⟨0, f, by omega, rfl, hA, Below.refl _ _⟩
  case round =>
    clear hA
    obtain ⟨k, f', hk, rfl, hA, hb⟩ := hrel
    by_cases hlt : k < c
    · have hcl := hA.cell hlt
      have hfz := hA.froz hlt
      obtain ⟨y, hy⟩ : ∃ y, f' k ^^^ 90 = y := ⟨_, rfl⟩
      have hx := hxr (f' k)
      rw [hy] at hx
      have hst := hA.set hlt y
      have hb2 := hb.setCell (p := ⟨g, k, none⟩) hB (.int .u8 (y.toNat : Int))
      clear hxr hy hA
      go_wp2
      go_roundw
      case rel => exact ⟨k + 1, _, by omega, by go_num, hst, hb2⟩
      case measure => simp [intOf]; omega
    · go_wp2
      go_end0
      exact ⟨rfl, hb⟩
theorem over_nil (B : Nat) (w : World) :
    Calls Tryz.prog 9 #[.slice none 0 0] w fun e w' => e = .returned (.tuple #[]) ∧ Below B w w' := by
  go_enter Tryz.func9, Tryz.ntmps9
  go_wp2_with fail
  go_loopw [3] (fun v wr => v = .int .i64 0 ∧ Below B w wr) (fun v _ => 0)
  case atStart => exact ⟨rfl, Below.refl _ _⟩
  case round =>
    obtain ⟨rfl, hb⟩ := hrel
    go_wp2
    go_end0
    exact ⟨rfl, hb⟩
theorem over_own (B : Nat) (v : Value) (l : List UInt8) (w : World) (h : OwnB w B 5 v l) : Calls Tryz.prog 9 #[v] w fun e w' => e = .returned (.tuple #[]) ∧ Below B w w' := by
  rcases h with ⟨rfl, rfl⟩ | ⟨g, room, rfl, hg, hh, hm⟩
  · exact over_nil B w
  · have hA := arrB_row hh
    rw [List.length_append] at hA
    exact over_any B g _ _ _ w hg hA (by omega) (by unfold maxLen at hm; omega)
end Go.Proofs.YtmgpbcpggnlkkaaGreatDoor
end
