/- Texts of this proof, put together: Tk21. -/
import Derived.Test.YtdaokkajbooiaaaMTopTokensp
import Derived.Test.YtdaokkajbooiaaaMTopTokensw
section
/- token.Make, token.Read, by their contracts, in the print's form. -/
namespace Go.Proofs.Ytdaokkajbooiaaa.Pr
open Go.RowKit Go.Proofs.YtdaokkajbooiaaaW.PrintWords Go.Proofs.YtdaokkajbooiaaaW.PrintLast Go.Proofs.YtdaokkajbooiaaaW.PrintMore
set_option linter.unusedVariables false
set_option linter.unusedSimpArgs false
def makeR (a b : ByteArray) : ByteArray × Int := if 400 < a.size ∨ 400 < b.size then (⟨#[]⟩, 3) else (⟨(madeS a.data.toList b.data.toList).toArray⟩, 0)
theorem makeR_V (a b : ByteArray) : makeV a b = .tuple #[.string (makeR a b).1, .int .i64 (makeR a b).2] := by
  unfold makeV makeR
  split <;> rfl
def readR (s : ByteArray) : ByteArray × ByteArray × Int := if 1610 < s.size then (⟨#[]⟩, ⟨#[]⟩, 3) else match readO s.data.toList with
  | none => (⟨#[]⟩, ⟨#[]⟩, 4)
  | some (x, y) => (⟨x.toArray⟩, ⟨y.toArray⟩, 0)
theorem readR_V (s : ByteArray) : readV s = .tuple #[.string (readR s).1, .string (readR s).2.1, .int .i64 (readR s).2.2] := by
  unfold readV readR
  split
  · rfl
  · cases h : readO s.data.toList with
    | none => rfl
    | some q => rfl
def token_Make.f (a b : ByteArray) : Option (ByteArray × Int) := if a.size ≤ 1000000 ∧ b.size ≤ 1000000 then some (makeR a b) else none
theorem token_Make.calls (a0 a1 : ByteArray) (r1 : ByteArray) (r2 : Int) (w : World) (h : token_Make.f a0 a1 = some (r1, r2)) :
    Calls Try.prog 27 #[.string a0, .string a1] w fun e w' => e = .returned (.tuple #[.string r1, .int .i64 r2]) ∧ Below w.heap.size w w' := by
  unfold token_Make.f at h
  split at h
  · rename_i hs
    have hr : makeR a0 a1 = (r1, r2) := Option.some.inj h
    have := pMake_any a0 a1 w hs.1 hs.2
    rw [makeR_V, hr] at this
    exact this
  · cases h
def token_Read.f (s : ByteArray) : Option (ByteArray × ByteArray × Int) := if s.size ≤ 1000000 then some (readR s) else none
theorem token_Read.calls (a0 : ByteArray) (r1 r2 : ByteArray) (r3 : Int) (w : World) (h : token_Read.f a0 = some (r1, r2, r3)) :
    Calls Try.prog 29 #[.string a0] w fun e w' => e = .returned (.tuple #[.string r1, .string r2, .int .i64 r3]) ∧ Below w.heap.size w w' := by
  unfold token_Read.f at h
  split at h
  · rename_i hs
    have hr : readR a0 = (r1, r2, r3) := Option.some.inj h
    have := pRead_any a0 w hs
    rw [readR_V, hr] at this
    exact this
  · cases h
theorem make_ok (a b : ByteArray) (ha : a.size ≤ 400) (hb : b.size ≤ 400) : token_Make.f a b = some (⟨(madeS a.data.toList b.data.toList).toArray⟩, 0) := by
  unfold token_Make.f makeR
  rw [if_pos (by omega), if_neg (by omega)]
theorem read_ok (a b : ByteArray) (ha : a.size ≤ 400) (hb : b.size ≤ 400) : token_Read.f ⟨(madeS a.data.toList b.data.toList).toArray⟩ = some (a, b, 0) := by
  have hla : a.data.toList.length ≤ 400 := by rw [← bs_len]; exact ha
  have hlb : b.data.toList.length ≤ 400 := by rw [← bs_len]; exact hb
  have hl := madeS_len a.data.toList b.data.toList
  unfold token_Read.f readR
  rw [if_pos (by simp only [ByteArray.size_mk', List.size_toArray]; omega), if_neg (by simp only [ByteArray.size_mk', List.size_toArray]; omega)]
  have h := readO_made a.data.toList b.data.toList hla hlb
  rw [show (⟨(madeS a.data.toList b.data.toList).toArray⟩ : ByteArray).data.toList = madeS a.data.toList b.data.toList by simp, h]
end Go.Proofs.Ytdaokkajbooiaaa.Pr
end
