/- stowageref25.Encode. -/
import Derived.Test.YtggbgpmjfncklaaProg
import Derived.Test.YtggbgpmjfncklaaN25
namespace Go.Proofs.Ytggbgpmjfncklaa
open Go.RowKit
set_option linter.unusedVariables false
set_option linter.unusedSimpArgs false
set_option maxRecDepth 10000 in
set_option maxHeartbeats 2000000 in
theorem rEncode_any (b : Value) (l : List UInt8) (size : Int) (w : World) (hl : l.length ≤ 70000) (hb : Src w b (Lib.byteCells l)) (h1 : -9223372036854775808 ≤ size) (h2 : size ≤ 9223372036854775807) :
    Calls Try.prog 15 #[b, .int .i64 size] w (EQ w.heap.size (encV l size) w) := by
  obtain ⟨i0, hi, hz0, hz1, hz2⟩ := info_parts infoU8
  obtain ⟨A0, cp, rfl⟩ := src_form hb
  by_cases hsz : size < 1 ∨ 65536 < size
  · have hv : encV l size = ([], 5) := by unfold encV; rw [if_pos hsz]
    have HQ := Lib.hid (EQ.bad (B := w.heap.size) (w := w) hv (Below.refl _ w))
    clear hv
    rcases hsz with h | h
    all_goals (
      go_enter Try.func15, Try.ntmps15
      go_wp2
      all_goals (
        go_ret2
        exact HQ.out))
  · have hs1 : ¬ size < 1 := by omega
    have hs2 : ¬ 65536 < size := by omega
    by_cases hlong : 65536 < l.length
    · have hv : encV l size = ([], 3) := by unfold encV; rw [if_neg hsz, if_pos hlong]
      have HQ := Lib.hid (EQ.bad (B := w.heap.size) (w := w) hv (Below.refl _ w))
      have kl : 65536 < (l.length : Int) := by omega
      clear hv hsz
      go_enter Try.func15, Try.ntmps15
      go_wp2
      go_ret2
      exact HQ.out
    · have hv : encV l size = (encC size.toNat l ++ tailE, 0) := by unfold encV; rw [if_neg hsz, if_neg hlong]
      obtain ⟨N, rfl⟩ : ∃ N : Nat, size = N := ⟨size.toNat, by omega⟩
      rw [Int.toNat_natCast] at hv
      obtain ⟨R, hR⟩ : ∃ R, encV l (N : Int) = R := ⟨_, rfl⟩
      rw [hR] at hv ⊢
      have hN : N ≠ 0 := by omega
      have HEL := Lib.hid (encC_len l.length N l (Nat.le_refl _) (by omega))
      obtain ⟨E, hE⟩ : ∃ E, encC N l = E := ⟨_, rfl⟩
      have HE := Lib.hid hE
      have HV := Lib.hid hv
      have HB := Lib.hid hb
      have kl : ¬ 65536 < (l.length : Int) := by omega
      clear hv hR hE hb hsz
      go_enter Try.func15, Try.ntmps15
      go_wp2_with fail
      go_loopw [7, 6] (fun v o wr => ∃ (k : Nat) (done : List UInt8), k ≤ l.length + 65536 ∧ v = .int .i64 k ∧ OwnB wr w.heap.size 5 o done ∧ Below w.heap.size w wr ∧ Hid (done ++ encC N (l.drop k) = E)) (fun v _ _ => l.length - (intOf v).toNat)
      case atStart => exact ⟨0, [], by omega, rfl, ownB_nil _ _ _, Below.refl _ _, Lib.hid (by simpa using HE.out)⟩
      case round =>
        obtain ⟨k, done, hk, rfl, hown, hbw, H⟩ := hrel
        have hdl : done.length ≤ 770000 := by
          have h1 := HEL.out
          have h2 := congrArg List.length H.out
          rw [HE.out] at h1
          simp at h2
          omega
        obtain ⟨A6, c6, hform, -, -⟩ := hown.form
        subst hform
        by_cases hlt : k < l.length
        · obtain ⟨c0, b, off, rfl, -, -, -⟩ := src_cells HB.out rfl k hlt
          obtain ⟨r, hr⟩ : ∃ r, l.drop k = r := ⟨_, rfl⟩
          have hrl : r.length = l.length - k := by rw [← hr]; simp
          have hr0 : r ≠ [] := by intro e; rw [e] at hrl; simp at hrl; omega
          have hgo := encC_go (size := N) hr0 hN
          obtain ⟨M, hM⟩ : ∃ M, min N r.length = M := ⟨_, rfl⟩
          rw [hM] at hgo
          have hmin : min ((k : Int) + (N : Int)) (l.length : Int) = (k : Int) + (M : Int) := by omega
          have hM1 : k + M ≤ l.length := by omega
          have hM2 : 0 < M := by omega
          have hMb : M ≤ 65536 := by omega
          have hhex := rHexN_any M
          obtain ⟨hx, hhx⟩ : ∃ hx : ByteArray, (⟨(hexL M).toArray⟩ : ByteArray) = hx := ⟨_, rfl⟩
          rw [hhx] at hhex
          have hhl : hx.data.toList = hexL M := by rw [← hhx]
          have hxl : hx.data.toList.length ≤ 6 := by rw [hhl]; exact hexL_len 5 M (by simp; omega)
          obtain ⟨hcp, hcpk, hpart⟩ := src_part HB.out k (k + M) (by omega) hM1
          rw [hr] at hpart
          have HST := Lib.hid hpart
          have hnx : encC N (r.drop M) = encC N (l.drop (k + N)) := by
            rw [← hr, List.drop_drop]
            by_cases e : N ≤ r.length
            · rw [show M = N by omega]
            · rw [List.drop_of_length_le (show l.length ≤ k + M by omega), List.drop_of_length_le (show l.length ≤ k + N by omega)]
          rw [hr] at H
          have hTl : (r.take M).length = M := by simp; omega
          have hsub : k + M - k = M := by omega
          rw [hsub] at HST
          have HT2 : Hid (Src w (.slice (some ⟨b, off + k, none⟩) (k + M - k) (cp - k)) (Lib.byteCells (r.take M))) := Lib.hid (by rw [hsub]; exact HST.out)
          have hfin : Hid ((done ++ hx.data.toList ++ [13, 10] ++ List.take M r ++ [13, 10]) ++ encC N (l.drop (k + N)) = E) := Lib.hid (by
            have h := H.out
            rw [hgo] at h
            rw [hhl, ← h, hnx]
            simp)
          clear hhl hgo hhx hM hr0 hr hrl hnx hpart hsub HT2
          go_wp2_with fail
          trace_state
          refine (hhex _ (by omega)).mono ?_
          rintro e w2 ⟨rfl, rfl⟩
          go_wp2_with (at_builtin; (first
            | (refine wpList_appB rfl _ _ 22 9 rfl 5 i0 Try.underlying22 hi hz0 hz1 hz2 w.heap.size _ _ rfl hown _ _ rfl (srcG_str Try.underlying9 hx) (by omega) hbw.size ?_; intro v1 w1 hownN hg; (replace hbw := hbw.grown hg hbw.size (fun k hk => (hown.lt k hk).1)); (replace hown := hownN); clear hownN hg)
            | (refine wpList_appB rfl _ _ 22 22 rfl 5 i0 Try.underlying22 hi hz0 hz1 hz2 w.heap.size _ _ rfl hown _ _ rfl (srcG_of Try.underlying22 (HST.out.block hbw)) (by simp only [List.length_append, List.length_cons, List.length_nil, hTl]; omega) hbw.size ?_; intro v1 w1 hownN hg; (replace hbw := hbw.grown hg hbw.size (fun k hk => (hown.lt k hk).1)); (replace hown := hownN); clear hownN hg)
            | (refine wpList_appB rfl _ _ 22 22 rfl 5 i0 Try.underlying22 hi hz0 hz1 hz2 w.heap.size _ _ rfl (hown.alloc _) _ _ rfl (srcG_of Try.underlying22 (src_lit2 _ _ _)) (by simp only [List.length_append, List.length_cons, List.length_nil, hTl]; omega) (Nat.le_trans hbw.size (by simp)) ?_; intro v1 w1 hownN hg; (replace hbw := (hbw.alloc hbw.size _).grown hg (Nat.le_trans hbw.size (by simp)) (fun k hk => (hown.lt k hk).1)); (replace hown := hownN); clear hownN hg)))
          trace_state
          go_roundw
          case rel => exact ⟨k + N, _, by omega, by go_num, hown, hbw, hfin⟩
          case measure => simp [intOf]; omega
        · have hde : done = E := by have h := H.out; rw [List.drop_of_length_le (by omega), encC_nil, List.append_nil] at h; exact h
          have HD := Lib.hid hde
          clear hde
          go_wp2_with (at_builtin; (refine wpList_appB rfl _ _ 22 22 rfl 5 i0 Try.underlying22 hi hz0 hz1 hz2 w.heap.size _ _ rfl (hown.alloc _) _ _ rfl (srcG_of Try.underlying22 (src_lit5 _ _ _)) (by simp [tailE]; omega) (Nat.le_trans hbw.size (by simp)) ?_; intro v1 w1 hownN hg; (replace hbw := (hbw.alloc hbw.size _).grown hg (Nat.le_trans hbw.size (by simp)) (fun k hk => (hown.lt k hk).1)); (replace hown := hownN); clear hownN hg))
          trace_state
          go_ret2
          refine ⟨⟨_, by rw [HV.out]; rfl, ?_⟩, hbw⟩
          rw [HV.out]
          simp only
          rw [HE.out, ← HD.out]
          exact hown
end Go.Proofs.Ytggbgpmjfncklaa
