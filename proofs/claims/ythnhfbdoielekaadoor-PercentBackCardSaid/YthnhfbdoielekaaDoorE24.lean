/- The walks of package percent: Decode, Encode. -/
import Derived.Test.YthnhfbdoielekaaDoorProg
import Derived.Test.YthnhfbdoielekaaDoorP24
namespace Go.Proofs.YthnhfbdoielekaaDoor
open Go.RowKit
set_option linter.unusedVariables false
set_option linter.unusedSimpArgs false
def pDecR (bl : Bool) (s : ByteArray) : List UInt8 := if 2048 < s.size then [] else (pdec bl s.data.toList).getD []
def pDecE (bl : Bool) (s : ByteArray) : Int := if 2048 < s.size then 3 else if (pdec bl s.data.toList).isSome then 0 else 4
set_option maxHeartbeats 400000 in
theorem pDecode_any (s : ByteArray) (bl : Bool) (w : World) (hs : s.size ≤ 1000000) :
    Calls Tryd.prog 15 #[.string s, .bool bl] w fun e w' => e = .returned (.tuple #[.string ⟨(pDecR bl s).toArray⟩, .int .i64 (pDecE bl s)]) ∧ Below w.heap.size w w' := by
  by_cases hl : 2048 < s.size
  · go_enter Tryd.func15, Tryd.ntmps15
    go_wp2
    all_goals (go_ret2; exact ⟨ret_se (by simp [pDecR, hl]) (by simp [pDecE, hl]), Below.refl _ _⟩)
  · have hl' : (s.size : Int) ≤ 2048 := by omega
    cases hd : pdec bl s.data.toList with
    | none =>
      have HD := Lib.hid hd
      clear hd
      go_enter Tryd.func15, Tryd.ntmps15
      go_wp2_with fail
      refine (pdecoded_any _ _ _ hs).mono ?_
      rintro e w1 ⟨h1, -, hb⟩
      obtain rfl := h1 HD.out
      clear h1
      go_wp2
      go_ret2
      exact ⟨ret_se (by simp [pDecR, hl, HD.out]) (by simp [pDecE, hl, HD.out]), hb⟩
    | some l =>
      have HD := Lib.hid hd
      clear hd
      go_enter Tryd.func15, Tryd.ntmps15
      go_wp2_with fail
      refine (pdecoded_any _ _ _ hs).mono ?_
      rintro e w1 ⟨-, h1, hb⟩
      obtain rfl := h1 _ HD.out
      clear h1
      go_wp2
      go_ret2
      exact ⟨ret_se (by simp [pDecR, hl, HD.out]) (by simp [pDecE, hl, HD.out]), hb⟩
def plainP (c : Int) : Bool := decide (97 ≤ c ∧ c ≤ 122) || decide (65 ≤ c ∧ c ≤ 90) || decide (48 ≤ c ∧ c ≤ 57) || decide (c = 45) || decide (c = 46) || decide (c = 95) || decide (c = 126)
def pidx (n : Nat) : Int := if n = 45 then 0 else if n = 46 then 1 else if n = 95 then 2 else if n = 126 then 3 else -1
theorem pidx_index (c : UInt8) : Lib.indexByte [45, 46, 95, 126] c = pidx c.toNat := by
  have h : ∀ i : Fin 256, Lib.indexByte [45, 46, 95, 126] (UInt8.ofNat i.1) = pidx (UInt8.ofNat i.1).toNat := by decide +kernel
  have := h ⟨c.toNat, c.toNat_lt⟩
  simpa using this
theorem pidx_any (c : UInt8) (w : World) : Calls Tryd.prog 32 #[.string (⟨#[45, 46, 95, 126]⟩ : ByteArray), .int .u8 c.toNat] w fun e w' => e = .returned (.int .i64 (pidx c.toNat)) ∧ w = w' := by
  have h := Tryd.strings_IndexByte (⟨#[45, 46, 95, 126]⟩ : ByteArray) c.toNat w
  rw [show ((c.toNat : Int)).toNat.toUInt8 = c by simp] at h
  rw [show ((⟨#[45, 46, 95, 126]⟩ : ByteArray)).data.toList = ([45, 46, 95, 126] : List UInt8) from rfl, pidx_index] at h
  exact h.mono fun _ _ h => ⟨h.1, h.2.symm⟩
theorem plainP_any (c : UInt8) (w : World) : Calls Tryd.prog 24 #[.int .u8 c.toNat] w fun e w' => e = .returned (.bool (plainP c.toNat)) ∧ w = w' := by
  have h256 := c.toNat_lt
  have hp : (0 ≤ pidx c.toNat) ↔ (c.toNat : Int) = 45 ∨ (c.toNat : Int) = 46 ∨ (c.toNat : Int) = 95 ∨ (c.toNat : Int) = 126 := by
    unfold pidx
    repeat' split
    all_goals omega
  have HP := Lib.hid hp
  clear hp
  go_enter Tryd.func24, Tryd.ntmps24
  go_wp2_with (go_at_call 32; refine (pidx_any _ _).mono ?_; rintro e w' ⟨rfl, rfl⟩)
  all_goals (go_ret; refine ⟨ret_bool ?_, rfl⟩; have hp := HP.out; rw [Bool.eq_iff_iff]; simp only [plainP, decide_eq_true_eq, Bool.or_eq_true, true_iff]; omega)
def pencGo (sl : Bool) : List UInt8 → List UInt8
  | [] => []
  | c :: r => (if plainP c.toNat || sl && decide ((c.toNat : Int) = 47) then [c] else [37, hexD (c.toNat / 16), hexD (c.toNat % 16)]) ++ pencGo sl r
set_option maxHeartbeats 1000000 in
theorem pEncode_any (s : ByteArray) (sl : Bool) (w : World) (h2 : s.size ≤ 1000000) : Calls Tryd.prog 16 #[.string s, .bool sl] w fun e w' => e = .returned (.string ⟨(pencGo sl s.data.toList).toArray⟩) ∧ Below w.heap.size w w' := by
  obtain ⟨w3, c3, hcv, hc3, hb3, hsz, hcell⟩ := conv_bytes (P := Tryd.prog) (w.alloc (.cells #[.pointer none, .slice none 0 0] 52)) 9 50 5 s Tryd.underlying9 Tryd.underlying50 Tryd.underlying5
  simp only [World.size_alloc] at hcv hb3 hsz hcell
  have hB3 := (BldAt.new w _ (Nat.le_refl _)).more (by simpa using hb3) (by simpa using hsz)
  have hbw : Below w.heap.size w w3 := ((Below.refl _ w).alloc (Nat.le_refl _) _).trans (hb3.mono (by omega))
  simp only [World.size_alloc] at hB3
  go_enter Tryd.func16, Tryd.ntmps16
  go_wp2
  go_loopw [11] (fun i wr => ∃ (k : Nat) (l : List UInt8), k ≤ s.size ∧ l.length ≤ 3 * k ∧ i = .int .i64 k ∧ BldAt w.heap.size w.heap.size [w.heap.size + 1] l wr ∧ Same w.heap.size [w.heap.size + 1] w3 wr ∧
      Hid (l ++ pencGo sl (s.data.toList.drop k) = pencGo sl s.data.toList)) (fun i _ => s.size - (intOf i).toNat)
  case atStart => exact ⟨0, _, Nat.zero_le _, by simp, rfl, hB3, Same.refl _ _ _, Lib.hid (by simp)⟩
  case round =>
    obtain ⟨k, l, hk, hl, rfl, hBr, hSr, H⟩ := hrel
    by_cases hlt : k < s.size
    · have hc := hSr.cell (by simp) (hcell k hlt)
      obtain ⟨c, hcd, hdr⟩ := next_byte s k hlt
      have h256 : c.toNat < 256 := c.toNat_lt
      rw [hcd] at hc
      rw [hdr] at H
      clear hcd hdr hcell hcv
      by_cases hp : (plainP c.toNat || sl && decide ((c.toNat : Int) = 47)) = true
      · have H2 : Hid (l ++ [c] ++ pencGo sl (s.data.toList.drop (k + 1)) = pencGo sl s.data.toList) := Lib.hid (by have h := H.out; simp only [pencGo, if_pos hp] at h; simpa using h)
        have HP := Lib.hid hp
        clear hp
        by_cases hp1 : plainP c.toNat = true
        · go_wp2_with fail
          refine (plainP_any _ _).mono ?_
          rintro e w' ⟨rfl, rfl⟩
          go_wp2_with fail
          refine (bld_int _ _ _ _ _ c _ hBr (by omega) rfl).mono ?_
          rintro e w4 ⟨rfl, hB4, hS4⟩
          go_wp2
          go_roundw
          case rel => exact ⟨k + 1, _, by omega, by simp; omega, by go_num, hB4, hSr.trans hS4, H2⟩
          case measure => simp [intOf]; omega
        · have h47 : sl = true ∧ (c.toNat : Int) = 47 := by have h := HP.out; simp [hp1] at h; exact ⟨h.1, by omega⟩
          obtain ⟨rfl, h47⟩ := h47
          have hp1' : plainP c.toNat = false := by simpa using hp1
          have hu : (c.toNat : Int) = 47 := h47
          have HU := Lib.hid hu
          have hbt : ((c.toNat : Int) == 47) = true := by rw [hu]; rfl
          clear hp1 hu h47
          go_wp2_with fail
          refine (plainP_any _ _).mono ?_
          rintro e w' ⟨rfl, rfl⟩
          go_wp2_with fail
          all_goals try (exfalso; omega)
          refine (bld_int _ _ _ _ _ c _ hBr (by omega) rfl).mono ?_
          rintro e w4 ⟨rfl, hB4, hS4⟩
          go_wp2
          go_roundw
          case rel => exact ⟨k + 1, _, by omega, by simp; omega, by go_num, hB4, hSr.trans hS4, H2⟩
          case measure => simp [intOf]; omega
      · have H2 : Hid (l ++ [37] ++ [hexD (c.toNat / 16)] ++ [hexD (c.toNat % 16)] ++ pencGo sl (s.data.toList.drop (k + 1)) = pencGo sl s.data.toList) := Lib.hid (by have h := H.out; simp only [pencGo, if_neg hp] at h; simpa using h)
        have hp1' : plainP c.toNat = false := by simp at hp; exact hp.1
        have hsl : sl = true → ¬ (c.toNat : Int) = 47 := by intro e; simp [e] at hp; omega
        clear hp
        cases sl
        all_goals
          try have h47 := hsl rfl
          clear hsl
          go_wp2_with fail
          refine (plainP_any _ _).mono ?_
          rintro e w' ⟨rfl, rfl⟩
          go_wp2_with fail
          refine (bld_int _ _ _ _ 37 37 _ hBr (by omega) rfl).mono ?_
          rintro e w4 ⟨rfl, hB4, hS4⟩
          go_wp2_with fail
          refine (bld_int _ _ _ _ _ (hexD (c.toNat / 16)) _ hB4 (by simp; omega) (hexIx _ _)).mono ?_
          rintro e w5 ⟨rfl, hB5, hS5⟩
          go_wp2_with fail
          refine (bld_int _ _ _ _ _ (hexD (c.toNat % 16)) _ hB5 (by simp; omega) (hexIx _ _)).mono ?_
          rintro e w6 ⟨rfl, hB6, hS6⟩
          go_wp2
          go_roundw
          case rel => exact ⟨k + 1, _, by omega, by simp; omega, by go_num, hB6, ((hSr.trans hS4).trans hS5).trans hS6, H2⟩
          case measure => simp [intOf]; omega
    · rw [List.drop_of_length_le (by simp; omega)] at H
      have hfin : l = pencGo sl s.data.toList := by have h := H.out; simpa [pencGo] using h
      have HF := Lib.hid hfin
      clear hfin hcell hcv
      go_wp2_with fail
      refine (bld_done _ _ _ _ _ hBr).mono ?_
      rintro e w4 ⟨rfl, -, hb4⟩
      go_wp2
      go_ret
      exact ⟨ret_str (by rw [HF.out]), (hbw.trans hSr.1).trans hb4⟩
end Go.Proofs.YthnhfbdoielekaaDoor
