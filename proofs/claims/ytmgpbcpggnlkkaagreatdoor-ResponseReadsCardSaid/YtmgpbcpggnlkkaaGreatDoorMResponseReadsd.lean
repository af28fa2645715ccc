/- Texts of this proof, put together: Hm27. -/
import Derived.Test.YtmgpbcpggnlkkaaGreatDoorProg
import Derived.Test.YtmgpbcpggnlkkaaGreatDoorMResponseReadsc
import Derived.Test.YtmgpbcpggnlkkaaGreatDoorMResponseReadsa
import Derived.Test.YtmgpbcpggnlkkaaGreatDoorMResponseReadsb
import Derived.Deep.QuietTactic
import Derived.BigQuiet
section
/- response.may, by its walk, in the print's form. -/
namespace Go.Proofs.YtmgpbcpggnlkkaaGreatDoor
open Go.RowKit
set_option linter.unusedVariables false
set_option linter.unusedSimpArgs false
theorem nameC_int (c : UInt8) : nameC c = ((decide (97 ≤ (c.toNat : Int)) && decide ((c.toNat : Int) ≤ 122)) || ((decide (48 ≤ (c.toNat : Int)) && decide ((c.toNat : Int) ≤ 57)) || decide ((c.toNat : Int) = 45))) := by
  unfold nameC
  rw [Bool.eq_iff_iff]
  simp only [Bool.or_eq_true, Bool.and_eq_true, decide_eq_true_eq, UInt8.le_iff_toNat_le, ← UInt8.toNat_inj]
  simp
  omega
theorem valC_int (c : UInt8) : valC c = (decide (32 ≤ (c.toNat : Int)) && decide ((c.toNat : Int) ≤ 126)) := by
  unfold valC
  rw [Bool.eq_iff_iff]
  simp only [Bool.and_eq_true, decide_eq_true_eq, UInt8.le_iff_toNat_le]
  simp
  omega
theorem mayP_name {n v : Bs} (h : n.all nameC = false) : mayP (n, v) = false := by unfold mayP; simp only [h, Bool.false_and]
theorem mayP_val {n v : Bs} (h : v.all valC = false) : mayP (n, v) = false := by unfold mayP; simp only [h, Bool.false_and, Bool.and_false]
set_option maxHeartbeats 2000000 in
theorem may_any (n v : ByteArray) (w : World) (hn : n.size ≤ 1000000) (hv : v.size ≤ 1000000) : Calls Tryz.prog 43 #[.agg #[.string n, .string v]] w fun e w' => e = .returned (.bool (mayP (n.data.toList, v.data.toList))) ∧ Below w.heap.size w w' := by
  obtain ⟨w1, c1, hcv1, hc1, hb1, hsz1, hcell1⟩ := conv_bytes (P := Tryz.prog) (w.alloc (.cells #[.string n, .string v] 51)) 9 22 5 n Tryz.underlying9 Tryz.underlying22 Tryz.underlying5
  obtain ⟨w2, c2, hcv2, hc2, hb2, hsz2, hcell2⟩ := conv_bytes (P := Tryz.prog) w1 9 22 5 v Tryz.underlying9 Tryz.underlying22 Tryz.underlying5
  simp only [World.size_alloc] at hcv1 hb1 hsz1 hcell1
  have hbw1 : Below w.heap.size w w1 := ((Below.refl _ w).alloc (Nat.le_refl _) _).trans (hb1.mono (by omega))
  have hbw2 : Below w.heap.size w w2 := hbw1.trans (hb2.mono (by omega))
  have hq1 : w1.cell? ⟨w.heap.size, 0, none⟩ = some (.string n) := (hb1.cell (p := ⟨w.heap.size, 0, none⟩) (by show w.heap.size < w.heap.size + 1; omega)).trans (by first | rfl | simp)
  have hq2 : w1.cell? ⟨w.heap.size, 1, none⟩ = some (.string v) := (hb1.cell (p := ⟨w.heap.size, 1, none⟩) (by show w.heap.size < w.heap.size + 1; omega)).trans (by first | rfl | simp)
  have hq3 : w2.cell? ⟨w.heap.size, 0, none⟩ = some (.string n) := (hb2.cell (p := ⟨w.heap.size, 0, none⟩) (by show w.heap.size < w1.heap.size; omega)).trans hq1
  have hq4 : w2.cell? ⟨w.heap.size, 1, none⟩ = some (.string v) := (hb2.cell (p := ⟨w.heap.size, 1, none⟩) (by show w.heap.size < w1.heap.size; omega)).trans hq2
  go_enter Tryz.func43, Tryz.ntmps43
  go_wp2
  go_loop [11] (fun i => ∃ k : Nat, k ≤ n.size ∧ i = .int .i64 k ∧ Hid ((n.data.toList.drop k).all nameC = n.data.toList.all nameC)) (fun i => n.size - (intOf i).toNat)
  case atStart => exact ⟨0, Nat.zero_le _, rfl, Lib.hid rfl⟩
  case round =>
    obtain ⟨k, hk, rfl, H⟩ := hrel
    by_cases hlt : k < n.size
    · have hc := hcell1 k hlt
      obtain ⟨c, hcd, hdr⟩ := next_byte n k hlt
      have h256 : c.toNat < 256 := c.toNat_lt
      rw [hcd] at hc
      rw [hdr, List.all_cons] at H
      clear hcd hdr hcell1 hcell2 hcv1 hcv2
      have hni := nameC_int c
      by_cases hp : nameC c = true
      · have H2 : Hid ((n.data.toList.drop (k + 1)).all nameC = n.data.toList.all nameC) := Lib.hid (by have h := H.out; rw [hp, Bool.true_and] at h; exact h)
        rw [hp] at hni
        have hh : (97 ≤ (c.toNat : Int) ∧ (c.toNat : Int) ≤ 122) ∨ (48 ≤ (c.toNat : Int) ∧ (c.toNat : Int) ≤ 57) ∨ (c.toNat : Int) = 45 := by
          have := hni.symm
          simp only [Bool.or_eq_true, Bool.and_eq_true, decide_eq_true_eq] at this
          exact this
        clear hni hp H
        rcases hh with ⟨g1, g2⟩ | ⟨g1, g2⟩ | g1
        · go_wp2
          all_goals try (exfalso; omega)
          go_round
          case rel => exact ⟨k + 1, by omega, by go_num, H2⟩
          case measure => simp [intOf]; omega
        · have g3 : (c.toNat : Int) < 97 := by omega
          go_wp2
          all_goals try (exfalso; omega)
          go_round
          case rel => exact ⟨k + 1, by omega, by go_num, H2⟩
          case measure => simp [intOf]; omega
        · have g3 : (c.toNat : Int) < 97 := by omega
          have g4 : (c.toNat : Int) < 48 := by omega
          have g5 : ((c.toNat : Int) == 45) = true := by rw [g1]; rfl
          clear g1
          go_wp2
          all_goals try (exfalso; omega)
          go_round
          case rel => exact ⟨k + 1, by omega, by go_num, H2⟩
          case measure => simp [intOf]; omega
      · have hall : n.data.toList.all nameC = false := by
          have h := H.out
          rw [show nameC c = false by simpa using hp, Bool.false_and] at h
          exact h.symm
        have hfin := mayP_name (v := v.data.toList) hall
        rw [show nameC c = false by simpa using hp] at hni
        have hh : ((c.toNat : Int) < 48 ∧ (c.toNat : Int) ≠ 45) ∨ (57 < (c.toNat : Int) ∧ (c.toNat : Int) < 97) ∨ 122 < (c.toNat : Int) := by
          have := hni.symm
          simp only [Bool.or_eq_false_iff, Bool.and_eq_false_iff, decide_eq_false_iff_not] at this
          omega
        have HFIN := Lib.hid hfin
        clear hni hp H hall hfin
        rcases hh with ⟨g1, g2⟩ | ⟨g1, g2⟩ | g1
        · have g3 : (c.toNat : Int) < 97 := by omega
          have g5 : ((c.toNat : Int) == 45) = false := by simpa using g2
          go_wp2
          all_goals try (exfalso; omega)
          go_ret
          exact ⟨by rw [HFIN.out]; rfl, hbw1⟩
        · have g5 : ((c.toNat : Int) == 45) = false := by simp; omega
          have g4 : 48 ≤ (c.toNat : Int) := by omega
          go_wp2
          all_goals try (exfalso; omega)
          go_ret
          exact ⟨by rw [HFIN.out]; rfl, hbw1⟩
        · have g5 : ((c.toNat : Int) == 45) = false := by simp; omega
          have g6 : 57 < (c.toNat : Int) := by omega
          have g4 : 48 ≤ (c.toNat : Int) := by omega
          have g7 : 97 ≤ (c.toNat : Int) := by omega
          go_wp2
          all_goals try (exfalso; omega)
          go_ret
          exact ⟨by rw [HFIN.out]; rfl, hbw1⟩
    · have HN : Hid (n.data.toList.all nameC = true) := Lib.hid (by
        have h := H.out
        rw [List.drop_of_length_le (by rw [← bs_len]; omega)] at h
        exact h.symm)
      clear H hcell1 hcv1
      go_wp2
      go_loop [39] (fun i => ∃ k : Nat, k ≤ v.size ∧ i = .int .i64 k ∧ Hid ((v.data.toList.drop k).all valC = v.data.toList.all valC)) (fun i => v.size - (intOf i).toNat)
      case atStart => exact ⟨0, Nat.zero_le _, rfl, Lib.hid rfl⟩
      case round =>
        obtain ⟨k, hk, rfl, H⟩ := hrel
        by_cases hlt : k < v.size
        · have hc := hcell2 k hlt
          obtain ⟨c, hcd, hdr⟩ := next_byte v k hlt
          have h256 : c.toNat < 256 := c.toNat_lt
          rw [hcd] at hc
          rw [hdr, List.all_cons] at H
          clear hcd hdr hcell2 hcv2
          have hni := valC_int c
          by_cases hp : valC c = true
          · have H2 : Hid ((v.data.toList.drop (k + 1)).all valC = v.data.toList.all valC) := Lib.hid (by have h := H.out; rw [hp, Bool.true_and] at h; exact h)
            rw [hp] at hni
            have hh : 32 ≤ (c.toNat : Int) ∧ (c.toNat : Int) ≤ 126 := by
              have := hni.symm
              simp only [Bool.and_eq_true, decide_eq_true_eq] at this
              exact this
            clear hni hp H
            obtain ⟨g1, g2⟩ := hh
            go_wp2
            all_goals try (exfalso; omega)
            go_round
            case rel => exact ⟨k + 1, by omega, by go_num, H2⟩
            case measure => simp [intOf]; omega
          · have hall : v.data.toList.all valC = false := by
              have h := H.out
              rw [show valC c = false by simpa using hp, Bool.false_and] at h
              exact h.symm
            have hfin := mayP_val (n := n.data.toList) hall
            rw [show valC c = false by simpa using hp] at hni
            have hh : (c.toNat : Int) < 32 ∨ 126 < (c.toNat : Int) := by
              have := hni.symm
              simp only [Bool.and_eq_false_iff, decide_eq_false_iff_not] at this
              omega
            have HFIN := Lib.hid hfin
            clear hni hp H hall hfin
            rcases hh with g1 | g1
            · go_wp2
              all_goals try (exfalso; omega)
              go_ret
              exact ⟨by rw [HFIN.out]; rfl, hbw2⟩
            · have g2 : 32 ≤ (c.toNat : Int) := by omega
              go_wp2
              all_goals try (exfalso; omega)
              go_ret
              exact ⟨by rw [HFIN.out]; rfl, hbw2⟩
        · have HV : Hid (v.data.toList.all valC = true) := Lib.hid (by
            have h := H.out
            rw [List.drop_of_length_le (by rw [← bs_len]; omega)] at h
            exact h.symm)
          clear H hcell2 hcv2
          have fin : ∀ b : Bool, (decide (1 ≤ n.data.toList.length) && (decide (n.data.toList.length ≤ 40) && (!(n.data.toList == cl14) && (decide (v.data.toList.length ≤ 1000) && (Go.Lib.trimS v.data.toList [32] == v.data.toList))))) = b → mayP (n.data.toList, v.data.toList) = b := fun b hb => by
            unfold mayP
            simp only [HN.out, HV.out, Bool.true_and]
            exact hb
          have hnl : n.data.toList.length = n.size := (bs_len n).symm
          have hvl : v.data.toList.length = v.size := (bs_len v).symm
          rw [hnl, hvl] at fin
          have HFIN := Lib.hid fin
          clear fin hnl hvl
          have hfin := below_drewN hbw2
          by_cases hA : 1 ≤ n.size
          case neg =>
            have hf := HFIN.out false (by rw [decide_eq_false hA]; rfl)
            have HF := Lib.hid hf
            clear hf HFIN
            have hA1 : decide ((1 : Int) ≤ (n.size : Int)) = false := decide_eq_false (by omega)
            go_wp2
            go_quiet (fail)
            go_wp2
            go_ret
            exact ⟨by rw [HF.out]; rfl, hfin _⟩
          have eA : decide (1 ≤ n.size) = true := decide_eq_true hA
          have hA1 : (1 : Int) ≤ (n.size : Int) := by omega
          by_cases hB : n.size ≤ 40
          case neg =>
            have hf := HFIN.out false (by rw [eA, decide_eq_false hB]; rfl)
            have HF := Lib.hid hf
            clear hf HFIN eA
            have hB1 : decide ((n.size : Int) ≤ 40) = false := decide_eq_false (by omega)
            go_wp2
            go_quiet (fail)
            go_wp2
            go_ret
            exact ⟨by rw [HF.out]; rfl, hfin _⟩
          have eB : decide (n.size ≤ 40) = true := decide_eq_true hB
          have hB1 : (n.size : Int) ≤ 40 := by omega
          by_cases hC : n.data.toList = cl14
          case pos =>
            have hf := HFIN.out false (by rw [eA, eB, hC]; simp)
            have HF := Lib.hid hf
            have c1 : (n.toList == ([99, 111, 110, 116, 101, 110, 116, 45, 108, 101, 110, 103, 116, 104] : List UInt8)) = true := by rw [bs_toList, hC]; rfl
            clear hf HFIN eA eB hC
            go_wp2
            go_quiet (fail)
            go_wp2
            go_ret
            exact ⟨by rw [HF.out]; rfl, hfin _⟩
          have eC : (n.data.toList == cl14) = false := by simpa using hC
          have c1 : (n.toList == ([99, 111, 110, 116, 101, 110, 116, 45, 108, 101, 110, 103, 116, 104] : List UInt8)) = false := by rw [bs_toList]; exact eC
          by_cases hD : v.size ≤ 1000
          case neg =>
            have hf := HFIN.out false (by rw [eA, eB, eC, decide_eq_false hD]; rfl)
            have HF := Lib.hid hf
            clear hf HFIN eA eB eC hC
            have hD1 : decide ((v.size : Int) ≤ 1000) = false := decide_eq_false (by omega)
            go_wp2
            go_quiet (fail)
            go_wp2
            go_ret
            exact ⟨by rw [HF.out]; rfl, hfin _⟩
          have hD1 : (v.size : Int) ≤ 1000 := by omega
          have hf := HFIN.out (Go.Lib.trimS v.data.toList [32] == v.data.toList) (by rw [eA, eB, eC, decide_eq_true hD]; simp only [Bool.not_false, Bool.true_and])
          have HF := Lib.hid hf
          clear hf HFIN eA eB eC hC
          have htr : ∀ W, Calls Tryz.prog 52 #[.string v, .string (⟨#[32]⟩ : ByteArray)] W fun e w' => e = .returned (.string ⟨(Go.Lib.trimS v.data.toList [32]).toArray⟩) ∧ ∃ m, w' = W.drewN m := fun W => by
            have h := Tryz.strings_Trim_one v 32 (by decide) W (by omega)
            rw [← Go.Lib.trimS_one] at h
            refine h.mono ?_
            rintro e w' ⟨he, hw⟩
            refine ⟨he, ?_⟩
            rcases hw with rfl | rfl
            · exact ⟨0, rfl⟩
            · exact ⟨1, rfl⟩
          go_wp2
          go_quiet ((go_at_call 52; exact Calls.quiet_of (htr _)))
          go_wp2
          go_ret
          exact ⟨by rw [HF.out]; simp [bs_toList], hfin _⟩
end Go.Proofs.YtmgpbcpggnlkkaaGreatDoor
namespace Go.Proofs.YtmgpbcpggnlkkaaGreatDoor.Pr
open Go.RowKit
def response_may.f (n v : ByteArray) : Option Bool := if n.size ≤ 1000000 ∧ v.size ≤ 1000000 then some (mayP (n.data.toList, v.data.toList)) else none
theorem response_may.calls (a0_0 a0_1 : ByteArray) (r : Bool) (w : World) (h : response_may.f a0_0 a0_1 = some r) :
    Calls Tryz.prog 43 #[.agg #[.string a0_0, .string a0_1]] w fun e w' => e = .returned (.bool r) ∧ Below w.heap.size w w' := by
  unfold response_may.f at h
  split at h
  · rename_i hs
    cases h
    exact may_any a0_0 a0_1 w hs.1 hs.2
  · cases h
end Go.Proofs.YtmgpbcpggnlkkaaGreatDoor.Pr
end
