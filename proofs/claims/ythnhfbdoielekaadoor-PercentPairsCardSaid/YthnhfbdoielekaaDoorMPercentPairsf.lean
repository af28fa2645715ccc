/- Texts of this proof, put together: Inf, R04. -/
import Derived.Test.YthnhfbdoielekaaDoorProg
import Derived.Test.YthnhfbdoielekaaDoorMPercentPairsb
section
/- Rows of this seat's type table. -/
namespace Go.Proofs.YthnhfbdoielekaaDoor
theorem infoU8 : (Tryd.prog.info? 5).map (fun i => (i.zero, i.size, i.bytes)) = some (some (.int .u8 0), 1, 1) := by kernel_rfl
end Go.Proofs.YthnhfbdoielekaaDoor
end
section
/- The walks of the reference's digits (stowageref04). -/
namespace Go.Proofs.YthnhfbdoielekaaDoor
open Go.RowKit
set_option linter.unusedVariables false
set_option linter.unusedSimpArgs false
def hexs : List UInt8 → List UInt8
  | [] => []
  | c :: r => hexD (c.toNat / 16) :: hexD (c.toNat % 16) :: hexs r
theorem hexs_append (a b : List UInt8) : hexs (a ++ b) = hexs a ++ hexs b := by
  induction a with
  | nil => rfl
  | cons c r ih => simp [hexs, ih]
def undig : List UInt8 → Option (List UInt8)
  | [] => some []
  | [_] => none
  | a :: b :: r => if hexN a.toNat < 0 then none else if hexN b.toNat < 0 then none else (undig r).map (hexByte a b :: ·)
theorem undig_odd : ∀ (l : List UInt8), l.length % 2 = 1 → undig l = none
  | [], h => by simp at h
  | [_], _ => rfl
  | a :: b :: r, h => by
    have := undig_odd r (by simp at h; omega)
    simp [undig, this]
theorem undig_len : ∀ (l m : List UInt8), undig l = some m → l.length = 2 * m.length
  | [], m, h => by simp [undig] at h; simp [h]
  | [_], m, h => by simp [undig] at h
  | a :: b :: r, m, h => by
    simp only [undig] at h
    split at h
    · cases h
    split at h
    · cases h
    cases hh : undig r with
    | none => simp [hh] at h
    | some x =>
      simp [hh] at h
      have := undig_len r x hh
      simp [← h]
      omega
end Go.Proofs.YthnhfbdoielekaaDoor
end
