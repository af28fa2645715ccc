/- Texts of this proof, put together: Nr29, Hn29. -/
import Derived.Test.YtehibiplodjofaaDoorMRouteAbouta
import Derived.Test.YtehibiplodjofaaDoorMRouteAbouth
import Derived.Test.YtehibiplodjofaaDoorMRouteAbouti
import Derived.Test.YtehibiplodjofaaDoorMRouteAboutu
section
/- route.number, by its walk. -/
namespace Go.Proofs.YtehibiplodjofaaDoor
open Go.RowKit
set_option linter.unusedVariables false
set_option linter.unusedSimpArgs false
def numG : Int → List UInt8 → Option Int
  | acc, [] => some acc
  | acc, c :: r => if (c.toNat : Int) < 48 then none else if 57 < (c.toNat : Int) then none else numG (10 * acc + ((c.toNat : Int) - 48)) r
def numR (l : List UInt8) : Int × Bool := if l.length < 1 ∨ 6 < l.length ∨ (1 < l.length ∧ l.head? = some 48) then (0, false) else match numG 0 l with
  | some n => (n, true)
  | none => (0, false)
theorem pow6 (i : Nat) (h : i ≤ 6) : (10 : Int) ^ i ≤ 1000000 := by
  have : i = 0 ∨ i = 1 ∨ i = 2 ∨ i = 3 ∨ i = 4 ∨ i = 5 ∨ i = 6 := by omega
  rcases this with rfl | rfl | rfl | rfl | rfl | rfl | rfl <;> decide
set_option maxHeartbeats 1000000 in
set_option maxRecDepth 100000 in
theorem number_any (s : ByteArray) (w : World) : Calls Tryd.prog 34 #[.string s] w fun e w' => e = .returned (.tuple #[.int .i64 (numR s.data.toList).1, .bool (numR s.data.toList).2]) ∧ Below w.heap.size w w' := by
  have hsl := bs_len s
  by_cases hbad : s.size < 1 ∨ 6 < s.size
  · have hR : numR s.data.toList = (0, false) := by
      unfold numR
      rw [if_pos (by omega)]
    have HF := Lib.hid (show (Ending.returned (.tuple #[.int .i64 0, .bool false]) = Ending.returned (.tuple #[.int .i64 (numR s.data.toList).1, .bool (numR s.data.toList).2])) by rw [hR])
    clear hR hsl
    rcases hbad with h | h
    · have h' : (s.size : Int) < 1 := by omega
      go_enter Tryd.func34, Tryd.ntmps34
      go_wp2
      go_ret2
      exact ⟨HF.out, Below.refl _ _⟩
    · have h' : ¬ (s.size : Int) < 1 := by omega
      have h'' : 6 < (s.size : Int) := by omega
      go_enter Tryd.func34, Tryd.ntmps34
      go_wp2
      go_ret2
      exact ⟨HF.out, Below.refl _ _⟩
  · have h1 : ¬ (s.size : Int) < 1 := by omega
    have h2 : ¬ 6 < (s.size : Int) := by omega
    have hpos : 0 < s.size := by omega
    obtain ⟨c0, hc0, hd0⟩ := next_at s 0 hpos
    rw [List.drop_zero] at hd0
    have HD0 := Lib.hid hd0
    have HC0 := Lib.hid hc0
    have HSL := Lib.hid hsl
    clear hd0 hc0 hsl
    have hi0 : ∀ W : World, (Instr.index 9 (.string s) (.int .i64 0)).run Tryd.prog W = .ok (.int .u8 (c0.toNat : Int)) W := fun W => by
      have h := HC0.out
      go_simp
    have hlt1 : (s.size : Int) ≤ 6 := by omega
    have hge1 : 1 ≤ (s.size : Int) := by omega
    have hd1 : decide ((s.size : Int) < 1) = false := decide_eq_false (by omega)
    have hd6 : decide (6 < (s.size : Int)) = false := decide_eq_false (by omega)
    clear h1 h2 hbad
    by_cases h48 : 1 < (s.size : Int) ∧ (c0.toNat : Int) = 48
    · obtain ⟨g1, g2⟩ := h48
      have hR : numR s.data.toList = (0, false) := by
        unfold numR
        rw [if_pos (.inr (.inr ⟨by rw [← HSL.out]; omega, by rw [HD0.out]; show some c0 = some 48; congr 1; apply UInt8.toNat_inj.1; show c0.toNat = 48; omega⟩))]
      have HF := Lib.hid (show (Ending.returned (.tuple #[.int .i64 0, .bool false]) = Ending.returned (.tuple #[.int .i64 (numR s.data.toList).1, .bool (numR s.data.toList).2])) by rw [hR])
      have g3 : ((c0.toNat : Int) == 48) = true := beq_iff_eq.2 g2
      clear hR g2
      go_enter Tryd.func34, Tryd.ntmps34
      go_wp2
      go_ret2
      exact ⟨HF.out, Below.refl _ _⟩
    · have hRm : numR s.data.toList = (match numG 0 s.data.toList with | some n => (n, true) | none => (0, false)) := by
        unfold numR
        rw [if_neg]
        rintro (h | h | ⟨h, h'⟩)
        · have := HSL.out; omega
        · have := HSL.out; omega
        · rw [HD0.out] at h'
          have : c0 = 48 := Option.some.inj h'
          exact h48 ⟨by have := HSL.out; omega, by rw [this]; rfl⟩
      have HRM := Lib.hid hRm
      clear hRm
      have hways : ¬ 1 < (s.size : Int) ∨ (1 < (s.size : Int) ∧ ((c0.toNat : Int) == 48) = false) := by
        by_cases h : 1 < (s.size : Int)
        · exact .inr ⟨h, beq_eq_false_iff_ne.2 fun e => h48 ⟨h, e⟩⟩
        · exact .inl h
      clear h48
      obtain ⟨w1, c1, hcv, hcc, hb, hsz, hcell⟩ := conv_bytes (P := Tryd.prog) w 9 24 5 s Tryd.underlying9 Tryd.underlying24 Tryd.underlying5
      have HCC := Lib.hid hcell
      rcases hways with g1 | ⟨g1, g2⟩
      all_goals (
        go_enter Tryd.func34, Tryd.ntmps34
        go_wp2
        go_loop [4, 28] (fun n i => ∃ (k : Nat) (acc : Int), k ≤ s.size ∧ i = .int .i64 k ∧ n = .int .i64 acc ∧ 0 ≤ acc ∧ acc + 1 ≤ 10 ^ k ∧ Hid (numG acc (s.data.toList.drop k) = numG 0 s.data.toList)) (fun _ i => s.size - (intOf i).toNat)
        case atStart => exact ⟨0, 0, Nat.zero_le _, rfl, rfl, by omega, by decide, Lib.hid (by simp)⟩
        case round =>
          obtain ⟨k, acc, hk, rfl, rfl, ha0, ha1, H⟩ := hrel
          have hp := pow6 k (by omega)
          have hps : (10 : Int) ^ (k + 1) = 10 ^ k * 10 := Int.pow_succ 10 k
          have hacc : acc + 1 ≤ 1000000 := by omega
          have hnx : 0 ≤ 10 * acc ∧ ∀ d : Int, d ≤ 9 → 10 * acc + d + 1 ≤ 10 ^ (k + 1) := ⟨by omega, fun d hd => by omega⟩
          have HNX := Lib.hid hnx
          clear hp hps ha1 hnx
          by_cases hlt : k < s.size
          · have hc := HCC.out k hlt
            obtain ⟨c, hcd, hdr⟩ := next_byte s k hlt
            rw [hcd] at hc
            rw [hdr] at H
            have hcl := c.toNat_lt
            clear hcd hdr hcell hcv
            go_wp2
            all_goals first
              | (go_ret2
                 refine ⟨?_, hb⟩
                 have h := H.out
                 rw [HRM.out]
                 simp only [numG] at h
                 first
                   | (rw [if_pos (by omega)] at h; rw [← h]; rfl)
                   | (rw [if_neg (by omega), if_pos (by omega)] at h; rw [← h]; rfl))
              | (go_round
                 case rel => exact ⟨k + 1, 10 * acc + ((c.toNat : Int) - 48), by omega, by go_num, by go_num, by omega, HNX.out.2 _ (by omega), Lib.hid (by have h := H.out; rw [← h]; simp only [numG]; rw [if_neg (by omega), if_neg (by omega)])⟩
                 case measure => simp [intOf]; omega)
          · rw [List.drop_of_length_le (by have := HSL.out; omega)] at H
            go_wp2
            all_goals (
              go_ret2
              refine ⟨?_, hb⟩
              rw [HRM.out, ← H.out]
              rfl))
end Go.Proofs.YtehibiplodjofaaDoor
namespace Go.Proofs.YtehibiplodjofaaDoor.Pr
open Go.RowKit Go.Proofs.YtehibiplodjofaaDoorW.PrintWords Go.Proofs.YtehibiplodjofaaDoorW.PrintLast Go.Proofs.YtehibiplodjofaaDoorW.PrintMore
set_option linter.unusedVariables false
def route_number.f (s : ByteArray) : Option (Int × Bool) := some (numR s.data.toList)
end Go.Proofs.YtehibiplodjofaaDoor.Pr
end
section
/- name.Bucket, name.Key, by their contracts, in the print's form. -/
namespace Go.Proofs.YtehibiplodjofaaDoor.Pr
open Go.RowKit Go.Proofs.YtehibiplodjofaaDoorW.PrintWords Go.Proofs.YtehibiplodjofaaDoorW.PrintLast Go.Proofs.YtehibiplodjofaaDoorW.PrintMore
set_option linter.unusedVariables false
set_option linter.unusedSimpArgs false
def name_Bucket.f (s : ByteArray) : Option Bool := some (bucketB s)
def name_Key.f (s : ByteArray) : Option Bool := if s.size ≤ 1000000 then some (keyB s) else none
end Go.Proofs.YtehibiplodjofaaDoor.Pr
end
