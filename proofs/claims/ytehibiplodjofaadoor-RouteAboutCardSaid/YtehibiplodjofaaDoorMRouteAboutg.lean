/- Texts of this proof, put together: Cut. -/
import Derived.Test.YtehibiplodjofaaDoorProg
import Derived.Test.YtehibiplodjofaaDoorMRouteAbouta
import Derived.Test.YtehibiplodjofaaDoorMRouteAboutd
section
/- Contracts of Go's library at this seat's translation: strings.IndexByte at the digits, strings.Cut at a separator of one byte. -/
namespace Go.Proofs.YtehibiplodjofaaDoor
open Go.RowKit
set_option linter.unusedVariables false
set_option linter.unusedSimpArgs false
theorem idx_any (c : UInt8) (w : World) : Calls Tryd.prog 38 #[.string (⟨#[48, 49, 50, 51, 52, 53, 54, 55, 56, 57, 97, 98, 99, 100, 101, 102]⟩ : ByteArray), .int .u8 c.toNat] w fun e w' => e = .returned (.int .i64 (hexN c.toNat)) ∧ w' = w := by
  have h := Tryd.strings_IndexByte (⟨#[48, 49, 50, 51, 52, 53, 54, 55, 56, 57, 97, 98, 99, 100, 101, 102]⟩ : ByteArray) c.toNat w
  rw [show ((c.toNat : Int)).toNat.toUInt8 = c by simp] at h
  rw [show ((⟨#[48, 49, 50, 51, 52, 53, 54, 55, 56, 57, 97, 98, 99, 100, 101, 102]⟩ : ByteArray)).data.toList = ([48, 49, 50, 51, 52, 53, 54, 55, 56, 57, 97, 98, 99, 100, 101, 102] : List UInt8) from rfl, hexN_index] at h
  exact h
/-- A text parted at the first c. -/
def cutAt (c : UInt8) : List UInt8 → Option (List UInt8 × List UInt8)
  | [] => none
  | x :: r => if x = c then some ([], r) else (cutAt c r).map fun p => (x :: p.1, p.2)
theorem cutAt_none (c : UInt8) : ∀ l, cutAt c l = none → Lib.indexByte l c = -1
  | [], _ => rfl
  | x :: r, h => by
    unfold cutAt at h
    split at h
    · cases h
    · rename_i hx
      have := cutAt_none c r (by cases hh : cutAt c r <;> simp_all)
      simp [Lib.indexByte, hx, this]
theorem cutAt_some (c : UInt8) : ∀ l a b, cutAt c l = some (a, b) → Lib.indexByte l c = a.length ∧ l = a ++ c :: b
  | [], _, _, h => by cases h
  | x :: r, a, b, h => by
    unfold cutAt at h
    split at h
    · rename_i hx
      simp only [Option.some.injEq, Prod.mk.injEq] at h
      obtain ⟨rfl, rfl⟩ := h
      simp [Lib.indexByte, hx]
    · rename_i hx
      cases hh : cutAt c r with
      | none => simp [hh] at h
      | some p =>
        obtain ⟨a', b'⟩ := p
        simp only [hh, Option.map_some, Option.some.injEq, Prod.mk.injEq] at h
        obtain ⟨rfl, rfl⟩ := h
        obtain ⟨h1, h2⟩ := cutAt_some c r a' b' hh
        refine ⟨?_, by rw [h2]; rfl⟩
        simp only [Lib.indexByte]
        rw [if_neg (by simpa using hx), h1, if_neg (by simp)]
        simp
theorem cut_none0 (s : ByteArray) (c : UInt8) (w : World) (h : cutAt c s.data.toList = none) :
    Calls Tryd.prog 40 #[.string s, .string ⟨#[c]⟩] w fun e w' => e = .returned (.tuple #[.string s, .string ⟨#[]⟩, .bool false]) ∧ w' = w := by
  have hi := cutAt_none c _ h
  have HI := Lib.hid hi
  clear hi h
  go_enter Tryd.func40, Tryd.ntmps40
  go_wp2_with fail
  refine (Tryd.stringslite_Index_one s c _).mono ?_
  rintro e w' ⟨rfl, rfl⟩
  rw [HI.out]
  go_wp2
  go_ret3
  exact ⟨rfl, rfl⟩
theorem cut_none (s : ByteArray) (c : UInt8) (w : World) (h : cutAt c s.data.toList = none) :
    Calls Tryd.prog 27 #[.string s, .string ⟨#[c]⟩] w fun e w' => e = .returned (.tuple #[.string s, .string ⟨#[]⟩, .bool false]) ∧ w' = w := by
  go_enter Tryd.func27, Tryd.ntmps27
  go_wp2_with fail
  refine (cut_none0 s c _ h).mono ?_
  rintro e w' ⟨rfl, rfl⟩
  go_wp2
  go_ret3
  exact ⟨rfl, rfl⟩
theorem cut_some0 (s : ByteArray) (c : UInt8) (a b : List UInt8) (w : World) (hs : s.size ≤ 1000000) (h : cutAt c s.data.toList = some (a, b)) :
    Calls Tryd.prog 40 #[.string s, .string ⟨#[c]⟩] w fun e w' => e = .returned (.tuple #[.string ⟨a.toArray⟩, .string ⟨b.toArray⟩, .bool true]) ∧ ∃ n, w' = w.drewN n := by
  obtain ⟨hi, hl⟩ := cutAt_some c _ a b h
  have hlen : s.size = a.length + (b.length + 1) := by rw [bs_len, hl]; simp
  have e1 : s.extract 0 a.length = ⟨a.toArray⟩ := bs_mk (by simp [ByteArray.data_extract, List.extract_eq_take_drop, hl])
  have e2 : s.extract (a.length + 1) s.size = ⟨b.toArray⟩ := bs_mk (by
    simp only [ByteArray.data_extract, Array.toList_extract, List.extract_eq_take_drop, hl]
    rw [show a ++ c :: b = (a ++ [c]) ++ b by simp, List.drop_left' (by simp)]
    exact List.take_of_length_le (by omega))
  have HI := Lib.hid hi
  have g1 := fun W => run_slice_string_h (P := Tryd.prog) (w := W) 9 s Tryd.underlying9 .i64 (a.length : Int) (by omega) (by omega)
  have g2 := fun W => run_slice_string_l (P := Tryd.prog) (w := W) 9 s Tryd.underlying9 .i64 ((a.length : Int) + 1) (by omega) (by omega)
  simp only [Int.toNat_natCast, show ((a.length : Int) + 1).toNat = a.length + 1 by omega, e1, e2] at g1 g2
  have ha : (a.length : Int) ≤ 1000000 := by omega
  have q1 : IntKind.i64.wrap ((a.length : Int) + 1) = (a.length : Int) + 1 := IntWalk.i64_in _ (by omega)
  clear hi hl h e1 e2 hlen
  go_enter Tryd.func40, Tryd.ntmps40
  go_wp2_with fail
  refine (Tryd.stringslite_Index_one s c _).mono ?_
  rintro e w' ⟨rfl, rfl⟩
  rw [HI.out]
  go_wp2
  go_quiet (fail)
  go_wp2
  go_ret3
  exact ⟨rfl, _, rfl⟩
theorem cut_some (s : ByteArray) (c : UInt8) (a b : List UInt8) (w : World) (hs : s.size ≤ 1000000) (h : cutAt c s.data.toList = some (a, b)) :
    Calls Tryd.prog 27 #[.string s, .string ⟨#[c]⟩] w fun e w' => e = .returned (.tuple #[.string ⟨a.toArray⟩, .string ⟨b.toArray⟩, .bool true]) ∧ ∃ n, w' = w.drewN n := by
  go_enter Tryd.func27, Tryd.ntmps27
  go_wp2_with fail
  refine (cut_some0 s c a b _ hs h).mono ?_
  rintro e w' ⟨rfl, n, rfl⟩
  go_wp2
  go_ret3
  exact ⟨rfl, n, rfl⟩
theorem cut_someB (s : ByteArray) (c : UInt8) (a b : ByteArray) (w : World) (hs : s.size ≤ 1000000) (h : cutAt c s.data.toList = some (a.data.toList, b.data.toList)) :
    Calls Tryd.prog 27 #[.string s, .string ⟨#[c]⟩] w fun e w' => e = .returned (.tuple #[.string a, .string b, .bool true]) ∧ ∃ n, w' = w.drewN n := by
  have hh := cut_some s c _ _ w hs h
  rw [← bs_mk (a := a) rfl, ← bs_mk (a := b) rfl] at hh
  exact hh
end Go.Proofs.YtehibiplodjofaaDoor
end
