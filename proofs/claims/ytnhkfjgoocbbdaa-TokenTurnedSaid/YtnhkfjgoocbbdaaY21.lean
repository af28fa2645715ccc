/- Plain laws on tokens: what is made is read as it was; a turned token. -/
import Derived.Test.YtnhkfjgoocbbdaaProg
import Derived.Test.YtnhkfjgoocbbdaaX21
namespace Go.Proofs.Ytnhkfjgoocbbdaa
open Go.RowKit
set_option linter.unusedVariables false
set_option linter.unusedSimpArgs false
theorem hexN_hexD (n : Nat) (h : n < 16) : hexN (hexD n).toNat = n := by
  have hh : ∀ i : Fin 16, hexN (hexD i.1).toNat = i.1 := by decide
  exact hh ⟨n, h⟩
theorem hexD_ne45 (n : Nat) (h : n < 16) : hexD n ≠ 45 := by
  have hh : ∀ i : Fin 16, hexD i.1 ≠ 45 := by decide
  exact hh ⟨n, h⟩
theorem hexByte_hexD (c : UInt8) : hexByte (hexD (c.toNat / 16)) (hexD (c.toNat % 16)) = c := by
  have h256 := c.toNat_lt
  unfold hexByte
  rw [hexN_hexD _ (by omega), hexN_hexD _ (by omega)]
  apply UInt8.toNat_inj.1
  simp
  omega
theorem undig_hexs : ∀ l : List UInt8, undig (hexs l) = some l
  | [] => rfl
  | c :: r => by
    have h256 := c.toNat_lt
    simp only [hexs, undig]
    rw [hexN_hexD _ (by omega), hexN_hexD _ (by omega), if_neg (by omega), if_neg (by omega), undig_hexs r, hexByte_hexD]
    rfl
theorem cutAt_hexs (r : List UInt8) : ∀ l : List UInt8, cutAt 45 (hexs l ++ 45 :: r) = some (hexs l, r)
  | [] => rfl
  | c :: l => by
    have h256 := c.toNat_lt
    simp only [hexs, List.cons_append, cutAt]
    rw [if_neg (hexD_ne45 _ (by omega)), if_neg (hexD_ne45 _ (by omega)), cutAt_hexs r l]
    rfl
theorem readO_made (a b : List UInt8) (ha : a.length ≤ 400) (hb : b.length ≤ 400) : readO (madeS a b) = some (a, b) := by
  have e : madeS a b = hexs a ++ 45 :: (hexs b ++ 45 :: (hexs (dig (madeL a b))).take 8) := by simp [madeS, madeL]
  unfold readO
  rw [e, cutAt_hexs]
  simp only
  rw [cutAt_hexs]
  simp only [undig_hexs]
  rw [if_pos ⟨ha, hb, e⟩]
theorem madeS_len (a b : List UInt8) : (madeS a b).length = 2 * a.length + 2 * b.length + 10 := by
  unfold madeS
  rw [List.length_append, madeL_len, List.length_take, hexs_len, dig_len]
  omega
theorem readO_some (s x y : List UInt8) (h : readO s = some (x, y)) : x.length ≤ 400 ∧ y.length ≤ 400 ∧ madeS x y = s := by
  unfold readO at h
  split at h
  · cases h
  · split at h
    · cases h
    · split at h
      · split at h
        · rename_i hh
          cases h
          exact hh
        · cases h
      · cases h
theorem read_made (a b : ByteArray) (ha : a.size ≤ 400) (hb : b.size ≤ 400) : readV ⟨(madeS a.data.toList b.data.toList).toArray⟩ = .tuple #[.string a, .string b, .int .i64 0] := by
  have hla : a.data.toList.length ≤ 400 := by rw [← bs_len]; exact ha
  have hlb : b.data.toList.length ≤ 400 := by rw [← bs_len]; exact hb
  refine readV_some _ a b ?_ ?_
  · have := madeS_len a.data.toList b.data.toList
    simp only [ByteArray.size_mk', List.size_toArray]
    omega
  · exact readO_made _ _ hla hlb
set_option maxHeartbeats 400000 in
theorem refused_any (s : ByteArray) (w : World) (hs : s.size ≤ 1000000) (h : readV s = .tuple #[.string ⟨#[]⟩, .string ⟨#[]⟩, .int .i64 4]) : Calls Try.prog 14 #[.string s] w fun e w' => e = .returned (.bool true) ∧ Below w.heap.size w w' := by
  have h2 := fun W => pRead_any s W hs
  rw [h] at h2
  clear h
  go_enter Try.func14, Try.ntmps14
  go_wp2_with fail
  refine (h2 _).mono ?_
  rintro e w2 ⟨rfl, hb2⟩
  go_wp2
  go_ret
  exact ⟨rfl, hb2⟩
theorem rv1 : readV (⟨#[54, 49, 45, 45, 53, 52, 100, 55, 57, 57, 48, 99]⟩ : ByteArray) = .tuple #[.string ⟨#[]⟩, .string ⟨#[]⟩, .int .i64 4] := by kernel_rfl
theorem rv2 : readV (⟨#[54, 49, 45]⟩ : ByteArray) = .tuple #[.string ⟨#[]⟩, .string ⟨#[]⟩, .int .i64 4] := by kernel_rfl
theorem rv3 : readV (⟨#[]⟩ : ByteArray) = .tuple #[.string ⟨#[]⟩, .string ⟨#[]⟩, .int .i64 4] := by kernel_rfl
end Go.Proofs.Ytnhkfjgoocbbdaa
