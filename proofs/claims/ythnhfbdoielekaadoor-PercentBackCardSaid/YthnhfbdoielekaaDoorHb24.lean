/- What the print does not take of percent: strings.Cut at one byte, decoded, Encode, Query; by their contracts, in the print's form. -/
import Derived.Test.YthnhfbdoielekaaDoorHw
import Derived.Test.YthnhfbdoielekaaDoorQz24
namespace Go.Proofs.YthnhfbdoielekaaDoor.Pr
open Go.RowKit Go.Proofs.YthnhfbdoielekaaDoorW.PrintWords Go.Proofs.YthnhfbdoielekaaDoorW.PrintLast Go.Proofs.YthnhfbdoielekaaDoorW.PrintMore
set_option linter.unusedVariables false
set_option linter.unusedSimpArgs false
def strings_Cut.f (s sep : ByteArray) : Option (ByteArray × ByteArray × Bool) :=
  match sep.data.toList with
  | [c] => if s.size ≤ 1000000 then some (⟨(cutF c s.data.toList).1.toArray⟩, ⟨(cutF c s.data.toList).2.toArray⟩, (cutAt c s.data.toList).isSome) else none
  | _ => none
theorem strings_Cut.calls (a0 a1 : ByteArray) (r1 r2 : ByteArray) (r3 : Bool) (w : World) (h : strings_Cut.f a0 a1 = some (r1, r2, r3)) :
    Calls Tryd.prog 18 #[.string a0, .string a1] w fun e w' => e = .returned (.tuple #[.string r1, .string r2, .bool r3]) ∧ Drawn0 w w' := by
  unfold strings_Cut.f at h
  split at h
  · rename_i c hc
    split at h
    · rename_i hs
      simp only [Option.some.injEq, Prod.mk.injEq] at h
      obtain ⟨rfl, rfl, rfl⟩ := h
      obtain rfl : a1 = ⟨#[c]⟩ := bs_mk hc
      exact (cut_both a0 c w hs).mono fun e w' h => ⟨h.1, drawn_of h.2⟩
    · cases h
  · cases h
def percent_decoded.f (s : ByteArray) (bl : Bool) : Option (ByteArray × Bool) := if s.size ≤ 1000000 then some (⟨((pdec bl s.data.toList).getD []).toArray⟩, (pdec bl s.data.toList).isSome) else none
theorem percent_decoded.calls (a0 : ByteArray) (a1 : Bool) (r1 : ByteArray) (r2 : Bool) (w : World) (h : percent_decoded.f a0 a1 = some (r1, r2)) :
    Calls Tryd.prog 19 #[.string a0, .bool a1] w fun e w' => e = .returned (.tuple #[.string r1, .bool r2]) ∧ Below w.heap.size w w' := by
  unfold percent_decoded.f at h
  split at h
  · rename_i hs
    simp only [Option.some.injEq, Prod.mk.injEq] at h
    obtain ⟨rfl, rfl⟩ := h
    exact dec_any a0 a1 w hs
  · cases h
def percent_Encode.f (s : ByteArray) (sl : Bool) : Option ByteArray := if s.size ≤ 1000000 then some ⟨(pencGo sl s.data.toList).toArray⟩ else none
theorem percent_Encode.calls (a0 : ByteArray) (a1 : Bool) (r : ByteArray) (w : World) (h : percent_Encode.f a0 a1 = some r) :
    Calls Tryd.prog 16 #[.string a0, .bool a1] w fun e w' => e = .returned (.string r) ∧ Below w.heap.size w w' := by
  unfold percent_Encode.f at h
  split at h
  · rename_i hs
    cases h
    exact pEncode_any a0 a1 w hs
  · cases h
def pairS (p : PairP) : S32 := ⟨⟨p.1.toArray⟩, ⟨p.2.toArray⟩⟩
def percent_Query.f (s : ByteArray) : Option (List (S32) × Int) := if s.size ≤ 1000000 then some ((queryV s.data.toList).1.map pairS, (queryV s.data.toList).2) else none
theorem percent_Query.calls (a0 : ByteArray) (r1 : List (S32)) (r2 : Int) (w : World) (h : percent_Query.f a0 = some (r1, r2)) :
    Calls Tryd.prog 7 #[.string a0] w fun e w' => ∃ v0_ : Value, e = .returned (.tuple #[v0_, .int .i64 r2]) ∧ Kd.R k32 32 w' w.heap.size (fun _ => True) v0_ r1 ∧ Below w.heap.size w w' := by
  unfold percent_Query.f at h
  split at h
  · rename_i hs
    simp only [Option.some.injEq, Prod.mk.injEq] at h
    obtain ⟨rfl, rfl⟩ := h
    refine (query_any a0 w hs).mono ?_
    rintro e w' ⟨v, rfl, ho, hb⟩
    exact ⟨v, rfl, R_of_own (d := k32) pairS pairC (fun _ => rfl) _ (fun ok p => k32_mkM _ _ _ (pairS p)) ho, hb⟩
  · cases h
end Go.Proofs.YthnhfbdoielekaaDoor.Pr
