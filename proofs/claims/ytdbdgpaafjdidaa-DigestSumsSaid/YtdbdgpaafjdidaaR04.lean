/- The walks of the reference's digits (stowageref04). -/
import Derived.Test.YtdbdgpaafjdidaaProg
import Derived.Test.YtdbdgpaafjdidaaBase
import Derived.Test.YtdbdgpaafjdidaaInf
namespace Go.Proofs.Ytdbdgpaafjdidaa
open Go.RowKit
set_option linter.unusedVariables false
set_option linter.unusedSimpArgs false
def hexs : List UInt8 → List UInt8
  | [] => []
  | c :: r => hexD (c.toNat / 16) :: hexD (c.toNat % 16) :: hexs r
theorem hexs_append (a b : List UInt8) : hexs (a ++ b) = hexs a ++ hexs b := by
  induction a with
  | nil => rfl
  | cons c r ih => simp [hexs, ih]
set_option maxHeartbeats 400000 in
theorem digits_any (A : Option Addr) (c : Nat) (l : List UInt8) (w : World) (hl : l.length ≤ 1000000) (hr : Rd w A (Lib.byteCells l)) :
    Calls Try.prog 25 #[.slice A l.length c] w fun e w' => e = .returned (.string ⟨(hexs l).toArray⟩) ∧ Below w.heap.size w w' := by
  go_enter Try.func25, Try.ntmps25
  go_wp2
  go_loopw [3, 4] (fun t i wr => ∃ (k : Nat) (s : ByteArray), k ≤ l.length ∧ i = .int .i64 k ∧ t = .string s ∧ s.size ≤ 2 * k ∧ Below w.heap.size w wr ∧ Hid (s.data.toList ++ hexs (l.drop k) = hexs l)) (fun _ i _ => l.length - (intOf i).toNat)
  case atStart => exact ⟨0, _, Nat.zero_le _, rfl, rfl, by simp [ByteArray.size_mk'], Below.refl _ _, Lib.hid (by simp)⟩
  case round =>
    obtain ⟨k, s, hk, rfl, rfl, hs, hb, H⟩ := hrel
    by_cases hlt : k < l.length
    · obtain ⟨x, hx, hdr⟩ := next_elem l k hlt
      rw [hdr] at H
      obtain ⟨b, off, rfl, hcell⟩ := hr (by intro e; simp [Lib.byteCells] at e; simp [e] at hlt)
      have hc := below_cell hb (hcell k (.int .u8 x.toNat) (by simp [Lib.byteCells, hx]))
      have h256 : x.toNat < 256 := x.toNat_lt
      clear hdr hcell hr hx
      go_wp2
      have q1 : IntKind.u8.wrap (↑x.toNat / 16) = ↑x.toNat / 16 := IntWalk.u8_in _ (by omega)
      have q2 : IntKind.u8.wrap (↑x.toNat / 16 + 1) = ↑x.toNat / 16 + 1 := IntWalk.u8_in _ (by omega)
      have q3 : IntKind.u8.wrap (↑x.toNat % 16) = ↑x.toNat % 16 := IntWalk.u8_in _ (by omega)
      have q4 : IntKind.u8.wrap (↑x.toNat % 16 + 1) = ↑x.toNat % 16 + 1 := IntWalk.u8_in _ (by omega)
      have q5 := slice_hex (P := Try.prog) 9 Try.underlying9 .u8 .u8 (↑x.toNat / 16) (↑x.toNat / 16 + 1) (x.toNat / 16) (by omega) (by omega) (by omega)
      have q6 := slice_hex (P := Try.prog) 9 Try.underlying9 .u8 .u8 (↑x.toNat % 16) (↑x.toNat % 16 + 1) (x.toNat % 16) (by omega) (by omega) (by omega)
      have q7 := fun W => run_string_add_sum (P := Try.prog) W s ⟨#[hexD (x.toNat / 16)]⟩ (by simp [ByteArray.size_mk']; omega)
      have q8 := fun W => run_string_add_sum (P := Try.prog) W (s ++ ⟨#[hexD (x.toNat / 16)]⟩) ⟨#[hexD (x.toNat % 16)]⟩ (by simp [ByteArray.size_mk', ByteArray.size_append']; omega)
      go_quiet (fail)
      clear q1 q2 q3 q4 q5 q6 q7 q8
      go_wp2
      go_roundw
      case rel => exact ⟨k + 1, _, by omega, by go_num, rfl, by simp [ByteArray.size_mk', ByteArray.size_append']; omega, Keeps.below ((Keeps.ofBelow (fun _ => False) hb).drewN _) (Nat.le_refl _) (by simp), Lib.hid (by have h := H.out; simpa [hexs, bs_app] using h)⟩
      case measure => simp [intOf]; omega
    · rw [List.drop_of_length_le (by omega)] at H
      go_wp2
      go_ret
      refine ⟨ret_str ?_, hb⟩
      have h := H.out
      simp [hexs] at h
      exact bs_mk h
def undig : List UInt8 → Option (List UInt8)
  | [] => some []
  | [_] => none
  | a :: b :: r => if hexN a.toNat < 0 then none else if hexN b.toNat < 0 then none else (undig r).map (hexByte a b :: ·)
theorem undig_odd : ∀ (l : List UInt8), l.length % 2 = 1 → undig l = none
  | [], h => by simp at h
  | [_], _ => rfl
  | a :: b :: r, h => by
    have := undig_odd r (by simp at h; omega)
    simp [undig, this]
theorem undig_len : ∀ (l m : List UInt8), undig l = some m → l.length = 2 * m.length
  | [], m, h => by simp [undig] at h; simp [h]
  | [_], m, h => by simp [undig] at h
  | a :: b :: r, m, h => by
    simp only [undig] at h
    split at h
    · cases h
    split at h
    · cases h
    cases hh : undig r with
    | none => simp [hh] at h
    | some x =>
      simp [hh] at h
      have := undig_len r x hh
      simp [← h]
      omega
end Go.Proofs.Ytdbdgpaafjdidaa
