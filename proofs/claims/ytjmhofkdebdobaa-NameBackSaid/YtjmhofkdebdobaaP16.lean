/- The walks of package name, and of the reference for it. -/
import Derived.Test.YtjmhofkdebdobaaProg
import Derived.Test.YtjmhofkdebdobaaBase
import Derived.Test.YtjmhofkdebdobaaShelf
import Derived.Test.YtjmhofkdebdobaaBld
namespace Go.Proofs.Ytjmhofkdebdobaa
open Go.RowKit
set_option linter.unusedVariables false
set_option linter.unusedSimpArgs false
def small (c : Int) : Bool := decide (97 ≤ c ∧ c ≤ 122) || decide (48 ≤ c ∧ c ≤ 57)
theorem small_any (c : Int) (w : World) : Calls Try.prog 20 #[.int .u8 c] w fun e w' => e = .returned (.bool (small c)) ∧ w = w' := by
  go_enter Try.func20, Try.ntmps20
  go_wp2
  all_goals (go_ret; refine ⟨ret_bool ?_, rfl⟩; rw [Bool.eq_iff_iff]; simp [small]; try omega)
def bktGo : List UInt8 → Bool → Bool → Bool
  | [], dot, dash => !dot && !dash
  | c :: r, dot, dash => if small c.toNat then bktGo r false false else if (c.toNat : Int) == 46 then (if dot || dash then false else bktGo r true dash)
    else if (c.toNat : Int) == 45 then (if dot then false else bktGo r dot true) else false
def bucketB (s : ByteArray) : Bool := if s.size < 3 ∨ 32 < s.size then false else bktGo s.data.toList true false
set_option maxHeartbeats 400000 in
theorem bucket_any (s : ByteArray) (w : World) : Calls Try.prog 9 #[.string s] w fun e w' => e = .returned (.bool (bucketB s)) ∧ Below w.heap.size w w' := by
  obtain ⟨w1, c1, hcv, hc1, hb, hsz, hcell⟩ := conv_bytes (P := Try.prog) w 9 34 5 s Try.underlying9 Try.underlying34 Try.underlying5
  go_enter Try.func9, Try.ntmps9
  go_wp2
  all_goals first
    | (go_ret; refine ⟨ret_bool ?_, Below.refl _ _⟩; rw [Bool.eq_iff_iff]; simp [bucketB]; intros; omega)
    | skip
  go_loop [3, 4, 18] (fun dot dash i => ∃ (k : Nat) (d e : Bool), k ≤ s.size ∧ i = .int .i64 k ∧ dot = .bool d ∧ dash = .bool e ∧ Hid (bktGo (s.data.toList.drop k) d e = bucketB s)) (fun _ _ i => s.size - (intOf i).toNat)
  case atStart => exact ⟨0, true, false, Nat.zero_le _, rfl, rfl, rfl, Lib.hid (by simp [bucketB]; intros; omega)⟩
  case round =>
    obtain ⟨k, d, e, hk, rfl, rfl, rfl, H⟩ := hrel
    by_cases hlt : k < s.size
    · have hc := hcell k hlt
      obtain ⟨c, hcd, hdr⟩ := next_byte s k hlt
      rw [hcd] at hc
      rw [hdr] at H
      clear hcd hdr hcell hcv
      go_wp2_with (go_at_call 20; refine (small_any _ _).mono ?_; rintro e w' ⟨rfl, rfl⟩)
      all_goals first
        | (go_ret; refine ⟨ret_bool ?_, hb⟩; have h := H.out; simp [bktGo, *] at h; first | exact h | exact h.symm | (simp [← h]; done))
        | (go_round
           case rel => exact ⟨k + 1, _, _, by omega, by go_num, rfl, rfl, Lib.hid (by have h := H.out; simpa [bktGo, *] using h)⟩
           case measure => simp [intOf]; omega)
    · rw [List.drop_of_length_le (by simp; omega)] at H
      go_wp2
      all_goals (go_ret; refine ⟨ret_bool ?_, hb⟩; have h := H.out; simp [bktGo, *] at h; first | exact h | exact h.symm | (simp [← h]; done))
def plainN (c : Int) : Bool := decide (65 ≤ c ∧ c ≤ 90) || decide (c = 45) || decide (c = 95) || small c
theorem plainN_any (c : Int) (w : World) : Calls Try.prog 30 #[.int .u8 c] w fun e w' => e = .returned (.bool (plainN c)) ∧ w = w' := by
  go_enter Try.func30, Try.ntmps30
  go_wp2_with (go_at_call 20; refine (small_any _ _).mono ?_; rintro e w' ⟨rfl, rfl⟩)
  all_goals (go_ret; refine ⟨ret_bool ?_, rfl⟩; rw [Bool.eq_iff_iff]; first | (simp [plainN]; omega) | (simp [plainN, *]; done) | (simp [plainN, *]; omega) | (simp_all [plainN]; done) | (simp_all [plainN]; omega))
def pathGo : List UInt8 → List UInt8
  | [] => []
  | c :: r => (if plainN c.toNat then [c] else [37, hexD (c.toNat / 16), hexD (c.toNat % 16)]) ++ pathGo r
set_option maxHeartbeats 400000 in
theorem path_any (b s : ByteArray) (w : World) (h1 : b.size ≤ 1000) (h2 : s.size ≤ 1000) : Calls Try.prog 18 #[.string b, .string s] w fun e w' => e = .returned (.string ⟨(b.data.toList ++ 47 :: pathGo s.data.toList).toArray⟩) ∧ Below w.heap.size w w' := by
  go_enter Try.func18, Try.ntmps18
  go_wp2_with fail
  refine (bld_string w.heap.size w.heap.size [] [] b _ (BldAt.new w _ (Nat.le_refl _)) (by simp; omega)).mono ?_
  rintro e w1 ⟨rfl, hB1, hb1, -⟩
  have hz1 := hb1.size
  simp only [World.size_alloc] at hz1
  go_wp2_with fail
  refine (bld_int _ _ _ _ 47 47 _ hB1 (by simp; omega) rfl).mono ?_
  rintro e w2 ⟨rfl, hB2, hb2, -⟩
  have hz2 := hb2.size
  obtain ⟨w3, c3, hcv, hc3, hb3, hsz, hcell⟩ := conv_bytes (P := Try.prog) w2 9 34 5 s Try.underlying9 Try.underlying34 Try.underlying5
  have hB3 := hB2.more hb3 hsz
  have hbw : Below w.heap.size w w3 := ((((Below.refl _ w).alloc (Nat.le_refl _) _).trans hb1).trans hb2).trans (hb3.mono (by omega))
  simp only [List.nil_append] at hB3
  go_wp2_with fail
  go_loopw [14] (fun i wr => ∃ (k : Nat) (l : List UInt8), k ≤ s.size ∧ l.length ≤ 1001 + 3 * k ∧ i = .int .i64 k ∧ BldAt w.heap.size w.heap.size [w2.heap.size] l wr ∧ Same w.heap.size [w2.heap.size] w3 wr ∧
      Hid (l ++ pathGo (s.data.toList.drop k) = b.data.toList ++ 47 :: pathGo s.data.toList)) (fun i _ => s.size - (intOf i).toNat)
  case atStart => exact ⟨0, _, Nat.zero_le _, by simp; omega, rfl, hB3, Same.refl _ _ _, Lib.hid (by simp)⟩
  case round =>
    obtain ⟨k, l, hk, hl, rfl, hBr, hSr, H⟩ := hrel
    by_cases hlt : k < s.size
    · have hc := hSr.cell (by simp) (hcell k hlt)
      obtain ⟨c, hcd, hdr⟩ := next_byte s k hlt
      have h256 : c.toNat < 256 := c.toNat_lt
      rw [hcd] at hc
      rw [hdr] at H
      clear hcd hdr hcell hcv
      by_cases hp : plainN c.toNat
      · go_wp2_with fail
        refine (plainN_any _ _).mono ?_
        rintro e w' ⟨rfl, rfl⟩
        go_wp2_with fail
        refine (bld_int _ _ _ _ _ c _ hBr (by omega) rfl).mono ?_
        rintro e w4 ⟨rfl, hB4, hS4⟩
        go_wp2
        go_roundw
        case rel => exact ⟨k + 1, _, by omega, by simp; omega, by go_num, hB4, hSr.trans hS4, Lib.hid (by have h := H.out; simpa [pathGo, hp] using h)⟩
        case measure => simp [intOf]; omega
      · go_wp2_with fail
        refine (plainN_any _ _).mono ?_
        rintro e w' ⟨rfl, rfl⟩
        go_wp2_with fail
        refine (bld_int _ _ _ _ 37 37 _ hBr (by omega) rfl).mono ?_
        rintro e w4 ⟨rfl, hB4, hS4⟩
        go_wp2_with fail
        refine (bld_int _ _ _ _ _ (hexD (c.toNat / 16)) _ hB4 (by simp; omega) (hexIx _ _)).mono ?_
        rintro e w5 ⟨rfl, hB5, hS5⟩
        go_wp2_with fail
        refine (bld_int _ _ _ _ _ (hexD (c.toNat % 16)) _ hB5 (by simp; omega) (hexIx _ _)).mono ?_
        rintro e w6 ⟨rfl, hB6, hS6⟩
        go_wp2
        go_roundw
        case rel => exact ⟨k + 1, _, by omega, by simp; omega, by go_num, hB6, ((hSr.trans hS4).trans hS5).trans hS6, Lib.hid (by have h := H.out; simpa [pathGo, hp] using h)⟩
        case measure => simp [intOf]; omega
    · rw [List.drop_of_length_le (by simp; omega)] at H
      have hfin : l = b.data.toList ++ 47 :: pathGo s.data.toList := by have h := H.out; simpa [pathGo] using h
      have HF := Lib.hid hfin
      clear hfin hcell hcv
      go_wp2_with fail
      refine (bld_done _ _ _ _ _ hBr).mono ?_
      rintro e w4 ⟨rfl, -, hb4⟩
      go_wp2
      go_ret
      exact ⟨ret_str (by rw [HF.out]), (hbw.trans hSr.1).trans hb4⟩
def keyGo : List UInt8 → Bool
  | [] => true
  | c :: r => if (c.toNat : Int) < 32 then false else if 126 < (c.toNat : Int) then false else keyGo r
def keyB (s : ByteArray) : Bool := keyGo s.data.toList && decide (1 ≤ s.size ∧ s.size ≤ 120)
set_option maxHeartbeats 400000 in
theorem key_any (s : ByteArray) (w : World) (hs : s.size ≤ 1000000) : Calls Try.prog 11 #[.string s] w fun e w' => e = .returned (.bool (keyB s)) ∧ Below w.heap.size w w' := by
  obtain ⟨w1, c1, hcv, hc1, hb, hsz, hcell⟩ := conv_bytes (P := Try.prog) w 9 34 5 s Try.underlying9 Try.underlying34 Try.underlying5
  go_enter Try.func11, Try.ntmps11
  go_wp2
  go_loop [8] (fun i => ∃ (k : Nat), k ≤ s.size ∧ i = .int .i64 k ∧ Hid (keyGo (s.data.toList.drop k) = keyGo s.data.toList)) (fun i => s.size - (intOf i).toNat)
  case atStart => exact ⟨0, Nat.zero_le _, rfl, Lib.hid (by simp)⟩
  case round =>
    obtain ⟨k, hk, rfl, H⟩ := hrel
    by_cases hlt : k < s.size
    · have hc := hcell k hlt
      obtain ⟨c, hcd, hdr⟩ := next_byte s k hlt
      rw [hcd] at hc
      rw [hdr] at H
      clear hcd hdr hcell hcv
      go_wp2
      all_goals first
        | (go_ret; refine ⟨ret_bool ?_, hb⟩; have h := H.out; simp [keyGo, *] at h; simp [keyB, h]; try omega)
        | (go_round
           case rel => exact ⟨k + 1, by omega, by go_num, Lib.hid (by have h := H.out; rw [← h]; simp only [keyGo]; rw [if_neg (by omega), if_neg (by omega)])⟩
           case measure => simp [intOf]; omega)
    · rw [List.drop_of_length_le (by simp; omega)] at H
      go_wp2
      all_goals (go_ret; refine ⟨ret_bool ?_, hb⟩; have h := H.out; rw [Bool.eq_iff_iff]; simp [keyGo] at h; simp [keyB, h]; try omega)
def pathR (b s : ByteArray) : List UInt8 := if bucketB b then (if keyB s then b.data.toList ++ 47 :: pathGo s.data.toList else []) else []
def pathE (b s : ByteArray) : Int := if bucketB b then (if keyB s then 0 else 4) else 13
set_option maxHeartbeats 400000 in
theorem Path_any (b s : ByteArray) (w : World) (h1 : b.size ≤ 1000) (h2 : s.size ≤ 1000) : Calls Try.prog 7 #[.string b, .string s] w fun e w' => e = .returned (.tuple #[.string ⟨(pathR b s).toArray⟩, .int .i64 (pathE b s)]) ∧ Below w.heap.size w w' := by
  by_cases hb : bucketB b = true <;> by_cases hk : keyB s = true
  all_goals
    go_enter Try.func7, Try.ntmps7
    go_wp2_with fail
    refine (bucket_any _ _).mono ?_
    rintro e w1 ⟨rfl, hb1⟩
    have hz1 := hb1.size
    go_wp2_with (first | (go_at_call 11; refine (key_any _ _ (by omega)).mono ?_; rintro e w2 ⟨rfl, hb2⟩; have hz2 := hb2.size) | (go_at_call 18; refine (path_any _ _ _ h1 h2).mono ?_; rintro e w3 ⟨rfl, hb3⟩))
    go_ret2
    refine ⟨ret_se ?_ ?_, ?_⟩
    · simp [pathR, *]
    · simp [pathE, *]
    · first | exact (hb1.trans (hb2.mono hz1)).trans (hb3.mono (Nat.le_trans hz1 hz2)) | exact hb1.trans (hb2.mono hz1) | exact hb1
/-- What a path's end says: the key. -/
def decGo : List UInt8 → Option (List UInt8)
  | [] => some []
  | c :: r => if c = 37 then
      (match r with
      | a :: b :: r' => if hexN a.toNat < 0 then none else if hexN b.toNat < 0 then none else (decGo r').map (hexByte a b :: ·)
      | _ => none)
    else (decGo r).map (c :: ·)
theorem decGo_plain (c : UInt8) (r : List UInt8) (h : c ≠ 37) : decGo (c :: r) = (decGo r).map (c :: ·) := by rw [decGo.eq_def]; simp [h]
theorem decGo_pct (a b : UInt8) (r : List UInt8) : decGo (37 :: a :: b :: r) = if hexN a.toNat < 0 then none else if hexN b.toNat < 0 then none else (decGo r).map (hexByte a b :: ·) := by rw [decGo.eq_def]; simp
theorem decGo_short (r : List UInt8) (h : r.length < 2) : decGo (37 :: r) = none := by
  rw [decGo.eq_def]
  match r, h with
  | [], _ => rfl
  | [a], _ => rfl
end Go.Proofs.Ytjmhofkdebdobaa
