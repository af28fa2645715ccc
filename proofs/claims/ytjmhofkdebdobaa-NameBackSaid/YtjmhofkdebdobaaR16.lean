/- The walks of the reference for package name (stowageref16). -/
import Derived.Test.YtjmhofkdebdobaaProg
import Derived.Test.YtjmhofkdebdobaaBase
import Derived.Test.YtjmhofkdebdobaaR04
import Derived.Test.YtjmhofkdebdobaaP16
namespace Go.Proofs.Ytjmhofkdebdobaa
open Go.RowKit
set_option linter.unusedVariables false
set_option linter.unusedSimpArgs false
theorem rsmall_any (c : Int) (w : World) : Calls Try.prog 21 #[.int .u8 c] w fun e w' => e = .returned (.bool (small c)) ∧ w = w' := by
  go_enter Try.func21, Try.ntmps21
  go_wp2
  all_goals (go_ret; refine ⟨ret_bool ?_, rfl⟩; rw [Bool.eq_iff_iff]; simp [small]; try omega)
theorem rplain_any (c : Int) (w : World) : Calls Try.prog 32 #[.int .u8 c] w fun e w' => e = .returned (.bool (plainN c)) ∧ w = w' := by
  by_cases hs : small c = true
  all_goals
    go_enter Try.func32, Try.ntmps32
    go_wp2_with (go_at_call 21; refine (rsmall_any _ _).mono ?_; rintro e w' ⟨rfl, rfl⟩)
    all_goals (go_ret; refine ⟨ret_bool ?_, rfl⟩; rw [Bool.eq_iff_iff]; first | (simp [plainN, hs]; done) | (simp [plainN, hs]; omega) | (simp_all [plainN]; done) | (simp_all [plainN]; omega))
set_option maxHeartbeats 400000 in
theorem rkey_any (s : ByteArray) (w : World) (hs : s.size ≤ 1000000) : Calls Try.prog 12 #[.string s] w fun e w' => e = .returned (.bool (keyB s)) ∧ w = w' := by
  go_enter Try.func12, Try.ntmps12
  go_wp2
  go_loop [3] (fun i => ∃ (k : Nat), k ≤ s.size ∧ i = .int .i64 k ∧ Hid (keyGo (s.data.toList.drop k) = keyGo s.data.toList)) (fun i => s.size - (intOf i).toNat)
  case atStart => exact ⟨0, Nat.zero_le _, rfl, Lib.hid (by simp)⟩
  case round =>
    obtain ⟨k, hk, rfl, H⟩ := hrel
    by_cases hlt : k < s.size
    · obtain ⟨c, hcd, hdr⟩ := next_at s k hlt
      rw [hdr] at H
      clear hdr
      go_wp2
      all_goals first
        | (go_ret; refine ⟨ret_bool ?_, rfl⟩; have h := H.out; simp [keyGo, *] at h; simp [keyB, h]; try omega)
        | (go_round
           case rel => exact ⟨k + 1, by omega, by go_num, Lib.hid (by have h := H.out; rw [← h]; simp only [keyGo]; rw [if_neg (by omega), if_neg (by omega)])⟩
           case measure => simp [intOf]; omega)
    · rw [List.drop_of_length_le (by simp; omega)] at H
      go_wp2
      all_goals (go_ret; refine ⟨ret_bool ?_, rfl⟩; have h := H.out; rw [Bool.eq_iff_iff]; simp [keyGo] at h; simp [keyB, h]; try omega)
theorem bkt_first (c : UInt8) (r : List UInt8) (h : small c.toNat = false) : bktGo (c :: r) true false = false := by
  simp [bktGo, h]
theorem bkt_last (c : UInt8) (h : small c.toNat = false) : ∀ (l : List UInt8) (d e : Bool), bktGo (l ++ [c]) d e = false
  | [], d, e => by
    simp only [List.nil_append, bktGo, h]
    split
    · contradiction
    split
    · split <;> simp
    split
    · split <;> simp
    · rfl
  | x :: r, d, e => by
    simp only [List.cons_append, bktGo, bkt_last c h r]
    repeat' split
    all_goals rfl
def bktSt (s : ByteArray) (k : Nat) (d e : Bool) : Prop :=
  (k = 0 → d = true ∧ e = false) ∧ (∀ j (h : j < s.size), k = j + 1 → (small (s[j]'h).toNat = true ∨ (s[j]'h).toNat = 46 ∨ (s[j]'h).toNat = 45) ∧ d = decide ((s[j]'h).toNat = 46) ∧ e = decide ((s[j]'h).toNat = 45))
theorem small_dot : small 46 = false := rfl
theorem small_dash : small 45 = false := rfl
theorem small_chars {c : UInt8} (h : small c.toNat = true) : ¬ (c.toNat : Int) = 46 ∧ ¬ (c.toNat : Int) = 45 := by
  refine ⟨fun e => ?_, fun e => ?_⟩ <;> rw [e] at h <;> exact absurd h (by decide)
theorem rb_no {c p : UInt8} {d e R : Bool} {r : List UInt8} (hst : (small p.toNat = true ∨ p.toNat = 46 ∨ p.toNat = 45) ∧ d = decide (p.toNat = 46) ∧ e = decide (p.toNat = 45)) (H : bktGo (c :: r) d e = R)
    (h : (small c.toNat = false ∧ ¬ (c.toNat : Int) = 45 ∧ ¬ (c.toNat : Int) = 46) ∨ ((c.toNat : Int) = 46 ∧ small p.toNat = false) ∨ ((c.toNat : Int) = 45 ∧ (p.toNat : Int) = 46)) : R = false := by
  obtain ⟨h1, rfl, rfl⟩ := hst
  subst H
  rcases h with ⟨a, b, c'⟩ | ⟨a, b⟩ | ⟨a, b⟩
  · simp [bktGo, a, b, c']
  · simp only [bktGo, a, small_dot]
    rw [b] at h1
    rcases h1 with h1 | h1 | h1 <;> simp_all
  · have b' : p.toNat = 46 := by omega
    simp [bktGo, a, small_dash, b']
theorem rb_go {c p : UInt8} {d e R : Bool} {r : List UInt8} {s : ByteArray} {j : Nat} (hl : j + 1 < s.size) (hc : s[j + 1] = c) (hst : (small p.toNat = true ∨ p.toNat = 46 ∨ p.toNat = 45) ∧ d = decide (p.toNat = 46) ∧ e = decide (p.toNat = 45)) (H : bktGo (c :: r) d e = R)
    (h : small c.toNat = true ∨ ((c.toNat : Int) = 46 ∧ small p.toNat = true) ∨ ((c.toNat : Int) = 45 ∧ ¬ (p.toNat : Int) = 46)) : ∃ d' e', bktSt s (j + 1 + 1) d' e' ∧ bktGo r d' e' = R := by
  obtain ⟨h1, rfl, rfl⟩ := hst
  refine ⟨decide (c.toNat = 46), decide (c.toNat = 45), ⟨by omega, fun i hi e => ?_⟩, ?_⟩
  · obtain rfl : i = j + 1 := by omega
    rw [hc]
    refine ⟨?_, rfl, rfl⟩
    rcases h with h | h | h
    · exact .inl h
    · exact .inr (.inl (by omega))
    · exact .inr (.inr (by omega))
  · subst H
    rcases h with h | ⟨a, b⟩ | ⟨a, b⟩
    · obtain ⟨g1, g2⟩ := small_chars h
      rw [bktGo, if_pos h, decide_eq_false (by omega), decide_eq_false (by omega)]
    · obtain ⟨g1, g2⟩ := small_chars b
      have a' : c.toNat = 46 := by omega
      rw [decide_eq_false (p := p.toNat = 46) (by omega), decide_eq_false (p := p.toNat = 45) (by omega)]
      simp [bktGo, a', small_dot]
    · have a' : c.toNat = 45 := by omega
      rw [decide_eq_false (p := p.toNat = 46) (by omega)]
      simp [bktGo, a', small_dash]
set_option maxHeartbeats 1000000 in
theorem rbucket_any (s : ByteArray) (w : World) (hs : s.size ≤ 1000000) : Calls Try.prog 10 #[.string s] w fun e w' => e = .returned (.bool (bucketB s)) ∧ w = w' := by
  by_cases hsz : s.size < 3 ∨ 32 < s.size
  · have hr : bucketB s = false := by simp [bucketB, hsz]
    have HR := Lib.hid hr
    clear hr
    rcases hsz with h | h
    all_goals
      go_enter Try.func10, Try.ntmps10
      go_wp2
      all_goals (go_ret; exact ⟨ret_bool HR.out.symm, rfl⟩)
  have h3 : 3 ≤ s.size := by omega
  have h32 : s.size ≤ 32 := by omega
  have HB : Hid (bucketB s = bktGo s.data.toList true false) := Lib.hid (by simp [bucketB]; omega)
  clear hsz
  obtain ⟨c0, hc0, hd0⟩ := next_at s 0 (by omega)
  obtain ⟨cl, hcl, hdl⟩ := next_at s (s.size - 1) (by omega)
  have hdl' : s.data.toList.drop (s.size - 1) = [cl] := by
    rw [hdl, List.drop_of_length_le (by simp; omega)]
  clear hdl
  have HDL := Lib.hid hdl'
  have HD0 := Lib.hid hd0
  clear hdl' hd0
  by_cases hf : small c0.toNat = true
  · by_cases hl : small cl.toNat = true
    · go_enter Try.func10, Try.ntmps10
      go_wp2_with (go_at_call 21; refine (rsmall_any _ _).mono ?_; rintro e w' ⟨rfl, rfl⟩)
      all_goals try (exfalso; omega)
      have HC0 := Lib.hid hc0
      have HCL := Lib.hid hcl
      clear hc0 hcl
      go_loop [3] (fun i => ∃ (k : Nat) (d e : Bool), k ≤ s.size ∧ i = .int .i64 k ∧ bktSt s k d e ∧ Hid (bktGo (s.data.toList.drop k) d e = bucketB s)) (fun i => s.size - (intOf i).toNat)
      case atStart => exact ⟨0, true, false, Nat.zero_le _, rfl, ⟨fun _ => ⟨rfl, rfl⟩, fun j h e => by omega⟩, Lib.hid (by simpa using HB.out.symm)⟩
      case round =>
        obtain ⟨k, d, e, hk, rfl, St, H⟩ := hrel
        by_cases hlt : k < s.size
        · obtain ⟨c, hc, hdr⟩ := next_at s k hlt
          rw [hdr] at H
          clear hdr
          rcases k with _ | j
          · have h1 := St.1 rfl
            obtain ⟨rfl, rfl⟩ := h1
            clear St
            have hcc : c = c0 := hc.symm.trans HC0.out
            subst hcc
            go_wp2_with (go_at_call 21; refine (rsmall_any _ _).mono ?_; rintro e w' ⟨rfl, rfl⟩)
            go_round
            case rel => exact ⟨0 + 1, false, false, by omega, by go_num, ⟨by omega, fun j hj e => by
              obtain rfl : j = 0 := by omega
              obtain ⟨g1, g2⟩ := small_chars hf
              rw [HC0.out]
              exact ⟨.inl hf, (decide_eq_false (by omega)).symm, (decide_eq_false (by omega)).symm⟩⟩, Lib.hid (by have h := H.out; simpa [bktGo, hf] using h)⟩
            case measure => simp [intOf]; omega
          · obtain ⟨p, hp, -⟩ := next_at s j (by omega)
            have h2 := St.2 j (by omega) rfl
            rw [hp] at h2
            have HS := Lib.hid h2
            have HC := Lib.hid hc
            clear h2 St
            have sd := small_dot
            have sh := small_dash
            by_cases h0 : small c.toNat = true
            · obtain ⟨g1, g2⟩ := small_chars h0
              go_wp2_with (go_at_call 21; refine (rsmall_any _ _).mono ?_; rintro e w' ⟨rfl, rfl⟩)
              all_goals
                obtain ⟨d', e', q1, q2⟩ := rb_go hlt HC.out HS.out H.out (.inl h0)
                go_round
                case rel => exact ⟨j + 1 + 1, d', e', by omega, by go_num, q1, Lib.hid q2⟩
                case measure => simp [intOf]; omega
            · have h0' : small c.toNat = false := by simpa using h0
              clear h0
              by_cases h46 : (c.toNat : Int) = 46
              · have h45 : ¬ (c.toNat : Int) = 45 := by omega
                by_cases hp1 : small p.toNat = true
                · obtain ⟨g1, g2⟩ := small_chars hp1
                  obtain ⟨d', e', q1, q2⟩ := rb_go hlt HC.out HS.out H.out (.inr (.inl ⟨h46, hp1⟩))
                  have HQ := Lib.hid q2
                  clear q2
                  go_wp2_with (go_at_call 21; refine (rsmall_any _ _).mono ?_; rintro e w' ⟨rfl, rfl⟩)
                  go_round
                  case rel => exact ⟨j + 1 + 1, d', e', by omega, by go_num, q1, HQ⟩
                  case measure => simp [intOf]; omega
                · have hp1' : small p.toNat = false := by simpa using hp1
                  clear hp1
                  have HR := Lib.hid (rb_no HS.out H.out (.inr (.inl ⟨h46, hp1'⟩)))
                  go_wp2_with (go_at_call 21; refine (rsmall_any _ _).mono ?_; rintro e w' ⟨rfl, rfl⟩)
                  go_ret
                  exact ⟨ret_bool HR.out.symm, rfl⟩
              · by_cases h45 : (c.toNat : Int) = 45
                · by_cases hp1 : (p.toNat : Int) = 46
                  · have HR := Lib.hid (rb_no HS.out H.out (.inr (.inr ⟨h45, hp1⟩)))
                    go_wp2_with (go_at_call 21; refine (rsmall_any _ _).mono ?_; rintro e w' ⟨rfl, rfl⟩)
                    go_ret
                    exact ⟨ret_bool HR.out.symm, rfl⟩
                  · obtain ⟨d', e', q1, q2⟩ := rb_go hlt HC.out HS.out H.out (.inr (.inr ⟨h45, hp1⟩))
                    have HQ := Lib.hid q2
                    clear q2
                    go_wp2_with (go_at_call 21; refine (rsmall_any _ _).mono ?_; rintro e w' ⟨rfl, rfl⟩)
                    go_round
                    case rel => exact ⟨j + 1 + 1, d', e', by omega, by go_num, q1, HQ⟩
                    case measure => simp [intOf]; omega
                · have HR := Lib.hid (rb_no HS.out H.out (.inl ⟨h0', h45, h46⟩))
                  go_wp2_with (go_at_call 21; refine (rsmall_any _ _).mono ?_; rintro e w' ⟨rfl, rfl⟩)
                  go_ret
                  exact ⟨ret_bool HR.out.symm, rfl⟩
        · have hd : d = false ∧ e = false := by
            obtain ⟨h1, h2, h3⟩ := St.2 (s.size - 1) (by omega) (by omega)
            rw [HCL.out] at h2 h3
            obtain ⟨g1, g2⟩ := small_chars hl
            exact ⟨by rw [h2]; exact decide_eq_false (by omega), by rw [h3]; exact decide_eq_false (by omega)⟩
          obtain ⟨rfl, rfl⟩ := hd
          rw [List.drop_of_length_le (by simp; omega)] at H
          clear St
          go_wp2
          all_goals (go_ret; refine ⟨ret_bool ?_, rfl⟩; have h := H.out; simpa [bktGo] using h)
    · have hl' : small cl.toNat = false := by simpa using hl
      clear hl
      have HR : Hid (bucketB s = false) := Lib.hid (by
        rw [HB.out, ← List.take_append_drop (s.size - 1) s.data.toList, HDL.out]
        exact bkt_last cl hl' _ _ _)
      go_enter Try.func10, Try.ntmps10
      go_wp2_with (go_at_call 21; refine (rsmall_any _ _).mono ?_; rintro e w' ⟨rfl, rfl⟩)
      all_goals (go_ret; exact ⟨ret_bool HR.out.symm, rfl⟩)
  · have hf' : small c0.toNat = false := by simpa using hf
    clear hf
    have HR : Hid (bucketB s = false) := Lib.hid (by
      have := HD0.out
      rw [List.drop_zero] at this
      rw [HB.out, this]
      exact bkt_first c0 _ hf')
    go_enter Try.func10, Try.ntmps10
    go_wp2_with (go_at_call 21; refine (rsmall_any _ _).mono ?_; rintro e w' ⟨rfl, rfl⟩)
    all_goals (go_ret; exact ⟨ret_bool HR.out.symm, rfl⟩)
set_option maxHeartbeats 400000 in
theorem encoded_any (s : ByteArray) (w : World) (hs : s.size ≤ 1000000) : Calls Try.prog 19 #[.string s] w fun e w' => e = .returned (.string ⟨(pathGo s.data.toList).toArray⟩) ∧ Below w.heap.size w w' := by
  go_enter Try.func19, Try.ntmps19
  go_wp2
  go_loopw [3, 4] (fun t i wr => ∃ (k : Nat) (a : ByteArray), k ≤ s.size ∧ i = .int .i64 k ∧ t = .string a ∧ a.size ≤ 3 * k ∧ Below w.heap.size w wr ∧ Hid (a.data.toList ++ pathGo (s.data.toList.drop k) = pathGo s.data.toList)) (fun _ i _ => s.size - (intOf i).toNat)
  case atStart => exact ⟨0, _, Nat.zero_le _, rfl, rfl, by simp [ByteArray.size_mk'], Below.refl _ _, Lib.hid (by simp)⟩
  case round =>
    obtain ⟨k, a, hk, rfl, rfl, ha, hb, H⟩ := hrel
    by_cases hlt : k < s.size
    · obtain ⟨c, hc, hdr⟩ := next_at s k hlt
      rw [hdr] at H
      have sl := slice_one (P := Try.prog) 9 Try.underlying9 .i64 .i64 s k hlt c hc
      clear hdr
      have h256 : c.toNat < 256 := c.toNat_lt
      have hsz := hb.size
      by_cases hp : plainN c.toNat = true
      · go_wp2_with (go_at_call 32; refine (rplain_any _ _).mono ?_; rintro e w' ⟨rfl, rfl⟩)
        go_roundw
        case rel => exact ⟨k + 1, _, by omega, by go_num, rfl, by simp [ByteArray.size_mk', ByteArray.size_append']; omega, hb, Lib.hid (by have h := H.out; simpa [pathGo, hp, bs_app] using h)⟩
        case measure => simp [intOf]; omega
      · go_wp2_with (go_at_call 32; refine (rplain_any _ _).mono ?_; rintro e w' ⟨rfl, rfl⟩)
        refine (digits_any _ _ [c] _ (by simp) (Rd.one (cell_new wr _ _))).mono ?_
        rintro e w2 ⟨rfl, hb2⟩
        simp only [hexs]
        go_wp2
        go_roundw
        case rel => exact ⟨k + 1, _, by omega, by go_num, rfl, by simp [ByteArray.size_mk', ByteArray.size_append']; omega, hb.trans (((Below.refl _ wr).alloc hsz _).trans (hb2.mono (by simp; omega))), Lib.hid (by have h := H.out; simpa [pathGo, hp, bs_app] using h)⟩
        case measure => simp [intOf]; omega
    · rw [List.drop_of_length_le (by simp; omega)] at H
      go_wp2
      go_ret
      refine ⟨ret_str ?_, hb⟩
      have h := H.out
      simp [pathGo] at h
      exact bs_mk h
set_option maxHeartbeats 400000 in
theorem rPath_any (b s : ByteArray) (w : World) (h1 : b.size ≤ 1000) (h2 : s.size ≤ 1000) : Calls Try.prog 8 #[.string b, .string s] w fun e w' => e = .returned (.tuple #[.string ⟨(pathR b s).toArray⟩, .int .i64 (pathE b s)]) ∧ Below w.heap.size w w' := by
  have hlen : (pathGo s.data.toList).length ≤ 3 * s.size := by
    have : ∀ l : List UInt8, (pathGo l).length ≤ 3 * l.length := by
      intro l
      induction l with
      | nil => simp [pathGo]
      | cons c r ih => simp only [pathGo, List.length_append, List.length_cons]; split <;> simp <;> omega
    simpa using this s.data.toList
  by_cases hb : bucketB b = true <;> by_cases hk : keyB s = true
  all_goals
    go_enter Try.func8, Try.ntmps8
    go_wp2_with (first | (go_at_call 10; refine (rbucket_any _ _ (by omega)).mono ?_; rintro e w1 ⟨rfl, rfl⟩) | (go_at_call 12; refine (rkey_any _ _ (by omega)).mono ?_; rintro e w2 ⟨rfl, rfl⟩) | (go_at_call 19; refine (encoded_any _ _ (by omega)).mono ?_; rintro e w3 ⟨rfl, hb3⟩))
    go_ret2
    refine ⟨ret_se ?_ ?_, ?_⟩
    · first | (simp [pathR, *]; done) | (refine bs_ext ?_; simp [pathR, bs_app, *])
    · simp [pathE, *]
    · first | exact hb3 | exact Below.refl _ _
end Go.Proofs.Ytjmhofkdebdobaa
