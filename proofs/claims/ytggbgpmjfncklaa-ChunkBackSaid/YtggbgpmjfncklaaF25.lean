/- stowageref25: Digit, head, number. -/
import Derived.Test.YtggbgpmjfncklaaProg
import Derived.Test.YtggbgpmjfncklaaE25
namespace Go.Proofs.Ytggbgpmjfncklaa
open Go.RowKit
set_option linter.unusedVariables false
set_option linter.unusedSimpArgs false
theorem rdigit25_any (c : UInt8) (w : World) : Calls Try.prog 31 #[.int .u8 (c.toNat : Int)] w fun e w' => e = .returned (.int .i64 (digN c)) ∧ w' = w := by
  have h256 := c.toNat_lt
  go_enter Try.func31, Try.ntmps31
  go_wp2
  all_goals (go_ret; refine ⟨ret_int ?_, rfl⟩; unfold digN hexN; repeat' split; all_goals (first | omega | (exfalso; omega)))
def headGo : List UInt8 → Nat → Int
  | [], _ => 0
  | c :: r, i => if c.toNat = 59 ∧ 0 < i then 0 else if digN c < 0 then 4 else if 6 ≤ i then 3 else headGo r (i + 1)
def numGo : List UInt8 → Nat → Nat
  | [], a => a
  | c :: r, a => if c.toNat = 59 then a else numGo r (16 * a + (digN c).toNat)
/-- The cells of a slice of bytes, one by one. -/
theorem src_cells {w : World} {A : Option Addr} {n cp : Nat} {l : List UInt8} (h : Src w (.slice A n cp) (Lib.byteCells l)) (hn : n = l.length) :
    ∀ k, k < l.length → ∃ c : UInt8, ∃ b off, A = some ⟨b, off, none⟩ ∧ l[k]? = some c ∧ w.cell? ⟨b, off + k, none⟩ = some (.int .u8 (c.toNat : Int)) ∧ l.drop k = c :: l.drop (k + 1) := fun k hk => by
  obtain ⟨c, hc, hdr⟩ := next_elem l k hk
  obtain ⟨b, off, hA, hcell⟩ := h.rd.1 (by intro e; simp [Lib.byteCells] at e; simp [e] at hk)
  exact ⟨c, b, off, hA, hc, hcell k _ (by simp [Lib.byteCells, hc]), hdr⟩
set_option maxHeartbeats 1000000 in
theorem rhead_any (A : Option Addr) (cp : Nat) (p : List UInt8) (w : World) (hp : p.length ≤ 1000000) (hs : Src w (.slice A p.length cp) (Lib.byteCells p)) :
    Calls Try.prog 30 #[.slice A p.length cp] w fun e w' => e = .returned (.int .i64 (headGo p 0)) ∧ w' = w := by
  have HCL := Lib.hid (src_cells hs rfl)
  clear hs
  go_enter Try.func30, Try.ntmps30
  go_wp2
  go_loop [3] (fun i => ∃ k : Nat, k ≤ p.length ∧ i = .int .i64 k ∧ Hid (headGo (p.drop k) k = headGo p 0)) (fun i => p.length - (intOf i).toNat)
  case atStart => exact ⟨0, Nat.zero_le _, rfl, Lib.hid rfl⟩
  case round =>
    obtain ⟨k, hk, rfl, H⟩ := hrel
    by_cases hlt : k < p.length
    · obtain ⟨c, b, off, rfl, -, hcell, hdr⟩ := HCL.out k hlt
      rw [hdr] at H
      clear hdr
      by_cases e59 : c = 59
      · subst e59
        by_cases h0 : 0 < k
        · have hr : headGo (59 :: p.drop (k + 1)) k = 0 := by unfold headGo; rw [if_pos ⟨rfl, h0⟩]
          have HR := Lib.hid (H.out.symm.trans hr)
          have k2 : (0 : Int) < (k : Int) := by omega
          clear hr
          go_wp2
          go_ret
          exact ⟨ret_int (by rw [HR.out]), rfl⟩
        · obtain rfl : k = 0 := by omega
          rw [Nat.add_zero] at hcell
          have hd : digN 59 = -1 := by decide
          have hr : headGo (59 :: p.drop (0 + 1)) 0 = 4 := by unfold headGo; rw [if_neg (by omega), if_pos (by rw [hd]; decide)]
          have HR := Lib.hid (H.out.symm.trans hr)
          have hdi := rdigit25_any 59
          rw [hd] at hdi
          clear hr
          go_wp2_with fail
          refine (hdi _).mono ?_
          rintro e w' ⟨rfl, rfl⟩
          go_wp2
          go_ret
          exact ⟨ret_int (by rw [HR.out]), rfl⟩
      · have n59 : ¬ c.toNat = 59 := fun e => e59 (UInt8.toNat_inj.1 e)
        have k1 : ¬ (c.toNat : Int) = 59 := by omega
        clear e59
        have hdi := rdigit25_any c
        by_cases hd : digN c < 0
        · have hr : headGo (c :: p.drop (k + 1)) k = 4 := by unfold headGo; rw [if_neg (by omega), if_pos hd]
          have HR := Lib.hid (H.out.symm.trans hr)
          clear hr
          go_wp2_with fail
          refine (hdi _).mono ?_
          rintro e w' ⟨rfl, rfl⟩
          go_wp2
          go_ret
          exact ⟨ret_int (by rw [HR.out]), rfl⟩
        · by_cases h6 : 6 ≤ k
          · have hr : headGo (c :: p.drop (k + 1)) k = 3 := by unfold headGo; rw [if_neg (by omega), if_neg hd, if_pos h6]
            have HR := Lib.hid (H.out.symm.trans hr)
            have k6 : (6 : Int) ≤ (k : Int) := by omega
            clear hr
            go_wp2_with fail
            refine (hdi _).mono ?_
            rintro e w' ⟨rfl, rfl⟩
            go_wp2
            go_ret
            exact ⟨ret_int (by rw [HR.out]), rfl⟩
          · have hr : headGo (c :: p.drop (k + 1)) k = headGo (p.drop (k + 1)) (k + 1) := by
              conv => lhs; unfold headGo
              rw [if_neg (by omega), if_neg hd, if_neg h6]
            have HR := Lib.hid (hr.symm.trans H.out)
            have k6 : ¬ (6 : Int) ≤ (k : Int) := by omega
            clear hr
            go_wp2_with fail
            refine (hdi _).mono ?_
            rintro e w' ⟨rfl, rfl⟩
            go_wp2
            go_round
            case rel => exact ⟨k + 1, by omega, by go_num, HR⟩
            case measure => simp [intOf]; omega
    · rw [List.drop_of_length_le (by omega)] at H
      go_wp2
      go_ret
      exact ⟨ret_int (by have h := H.out; simpa [headGo] using h), rfl⟩
set_option maxHeartbeats 1000000 in
theorem rnumber_any (A : Option Addr) (cp : Nat) (p : List UInt8) (w : World) (hp : p.length ≤ 1000000) (hs : Src w (.slice A p.length cp) (Lib.byteCells p)) (hh : headGo p 0 = 0) :
    Calls Try.prog 23 #[.slice A p.length cp] w fun e w' => e = .returned (.int .i64 (numGo p 0 : Int)) ∧ w' = w := by
  have HCL := Lib.hid (src_cells hs rfl)
  clear hs
  go_enter Try.func23, Try.ntmps23
  go_wp2
  go_loop [3, 4] (fun a i => ∃ k m : Nat, k ≤ p.length ∧ i = .int .i64 k ∧ a = .int .i64 m ∧ Hid (m < 16 ^ k ∧ headGo (p.drop k) k = 0) ∧ Hid (numGo (p.drop k) m = numGo p 0)) (fun _ i => p.length - (intOf i).toNat)
  case atStart => exact ⟨0, 0, Nat.zero_le _, rfl, rfl, Lib.hid ⟨by decide, hh⟩, Lib.hid rfl⟩
  case round =>
    clear hh
    obtain ⟨k, m, hk, rfl, rfl, HM, H⟩ := hrel
    by_cases hlt : k < p.length
    · obtain ⟨c, b, off, rfl, -, hcell, hdr⟩ := HCL.out k hlt
      rw [hdr] at H HM
      clear hdr
      by_cases h59 : c.toNat = 59
      · have hr : numGo (c :: p.drop (k + 1)) m = m := by unfold numGo; rw [if_pos h59]
        have HR := Lib.hid (H.out.symm.trans hr)
        have k1 : (c.toNat : Int) = 59 := by omega
        clear hr h59
        go_wp2
        go_ret
        exact ⟨ret_int (by rw [HR.out]), rfl⟩
      · have hr : numGo (c :: p.drop (k + 1)) m = numGo (p.drop (k + 1)) (16 * m + (digN c).toNat) := by conv => lhs; unfold numGo; rw [if_neg h59]
        have HR := Lib.hid (hr.symm.trans H.out)
        have k1 : ¬ (c.toNat : Int) = 59 := by omega
        have hh := HM.out.2
        have hm := HM.out.1
        unfold headGo at hh
        rw [if_neg (by omega)] at hh
        by_cases hd : digN c < 0
        · rw [if_pos hd] at hh; cases hh
        · rw [if_neg hd] at hh
          by_cases h6 : 6 ≤ k
          · rw [if_pos h6] at hh; cases hh
          · rw [if_neg h6] at hh
            have hhi := digN_hi c
            have hm2 : m < 16777216 := Nat.lt_of_lt_of_le hm (pow16 k (by omega))
            have hm3 : 16 * m + (digN c).toNat < 16 ^ (k + 1) := by rw [Nat.pow_succ]; omega
            have HM2 := Lib.hid (show 16 * m + (digN c).toNat < 16 ^ (k + 1) ∧ headGo (p.drop (k + 1)) (k + 1) = 0 from ⟨hm3, hh⟩)
            have hdi := rdigit25_any c
            obtain ⟨x, hx⟩ : ∃ x : Nat, digN c = x := ⟨(digN c).toNat, by omega⟩
            rw [hx] at hdi HR HM2 hhi
            simp only [Int.toNat_natCast] at HR HM2
            clear hr h59 hh hm hm3 hd hx
            go_wp2_with fail
            refine (hdi _).mono ?_
            rintro e w' ⟨rfl, rfl⟩
            go_wp2
            go_round
            case rel => exact ⟨k + 1, 16 * m + x, by omega, by go_num, by first | rfl | (congr 1), HM2, HR⟩
            case measure => simp [intOf]; omega
    · rw [List.drop_of_length_le (by omega)] at H
      go_wp2
      go_ret
      exact ⟨ret_int (by have h := H.out; simp [numGo] at h; omega), rfl⟩
end Go.Proofs.Ytggbgpmjfncklaa
