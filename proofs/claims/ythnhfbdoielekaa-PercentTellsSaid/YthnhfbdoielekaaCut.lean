/- Contracts of Go's library at this seat's translation: strings.IndexByte at the digits, strings.Cut at a separator of one byte. -/
import Derived.Test.YthnhfbdoielekaaProg
import Derived.Test.YthnhfbdoielekaaBase
import Derived.Test.YthnhfbdoielekaaShelf
namespace Go.Proofs.Ythnhfbdoielekaa
open Go.RowKit
set_option linter.unusedVariables false
set_option linter.unusedSimpArgs false
theorem idx_any (c : UInt8) (w : World) : Calls Try.prog 18 #[.string (⟨#[48, 49, 50, 51, 52, 53, 54, 55, 56, 57, 97, 98, 99, 100, 101, 102]⟩ : ByteArray), .int .u8 c.toNat] w fun e w' => e = .returned (.int .i64 (hexN c.toNat)) ∧ w' = w := by
  have h := Try.strings_IndexByte (⟨#[48, 49, 50, 51, 52, 53, 54, 55, 56, 57, 97, 98, 99, 100, 101, 102]⟩ : ByteArray) c.toNat w
  rw [show ((c.toNat : Int)).toNat.toUInt8 = c by simp] at h
  rw [show ((⟨#[48, 49, 50, 51, 52, 53, 54, 55, 56, 57, 97, 98, 99, 100, 101, 102]⟩ : ByteArray)).data.toList = ([48, 49, 50, 51, 52, 53, 54, 55, 56, 57, 97, 98, 99, 100, 101, 102] : List UInt8) from rfl, hexN_index] at h
  exact h
/-- A text parted at the first c. -/
def cutAt (c : UInt8) : List UInt8 → Option (List UInt8 × List UInt8)
  | [] => none
  | x :: r => if x = c then some ([], r) else (cutAt c r).map fun p => (x :: p.1, p.2)
theorem cutAt_none (c : UInt8) : ∀ l, cutAt c l = none → Lib.indexByte l c = -1
  | [], _ => rfl
  | x :: r, h => by
    unfold cutAt at h
    split at h
    · cases h
    · rename_i hx
      have := cutAt_none c r (by cases hh : cutAt c r <;> simp_all)
      simp [Lib.indexByte, hx, this]
theorem cutAt_some (c : UInt8) : ∀ l a b, cutAt c l = some (a, b) → Lib.indexByte l c = a.length ∧ l = a ++ c :: b
  | [], _, _, h => by cases h
  | x :: r, a, b, h => by
    unfold cutAt at h
    split at h
    · rename_i hx
      simp only [Option.some.injEq, Prod.mk.injEq] at h
      obtain ⟨rfl, rfl⟩ := h
      simp [Lib.indexByte, hx]
    · rename_i hx
      cases hh : cutAt c r with
      | none => simp [hh] at h
      | some p =>
        obtain ⟨a', b'⟩ := p
        simp only [hh, Option.map_some, Option.some.injEq, Prod.mk.injEq] at h
        obtain ⟨rfl, rfl⟩ := h
        obtain ⟨h1, h2⟩ := cutAt_some c r a' b' hh
        refine ⟨?_, by rw [h2]; rfl⟩
        simp only [Lib.indexByte]
        rw [if_neg (by simpa using hx), h1, if_neg (by simp)]
        simp
end Go.Proofs.Ythnhfbdoielekaa
