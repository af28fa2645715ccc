/- A body in chunks: the plain side; chunk.Encode. -/
import Derived.Test.YtggbgpmjfncklaaProg
import Derived.Test.YtggbgpmjfncklaaM25
import Derived.Test.YtggbgpmjfncklaaOwnB
import Derived.Test.YtggbgpmjfncklaaK25
namespace Go.Proofs.Ytggbgpmjfncklaa
open Go.RowKit
set_option linter.unusedVariables false
set_option linter.unusedSimpArgs false
def encC (size : Nat) (l : List UInt8) : List UInt8 :=
  if h : l = [] ∨ size = 0 then [] else hexL (min size l.length) ++ [13, 10] ++ l.take (min size l.length) ++ [13, 10] ++ encC size (l.drop (min size l.length))
termination_by l.length
decreasing_by
  have h1 : l.length ≠ 0 := fun e => h (.inl (List.eq_nil_of_length_eq_zero e))
  have h2 : size ≠ 0 := fun e => h (.inr e)
  rw [List.length_drop]
  omega
theorem encC_nil (size : Nat) : encC size [] = [] := by unfold encC; simp
theorem encC_go {size : Nat} {l : List UInt8} (hl : l ≠ []) (hs : size ≠ 0) : encC size l = hexL (min size l.length) ++ [13, 10] ++ l.take (min size l.length) ++ [13, 10] ++ encC size (l.drop (min size l.length)) := by
  conv => lhs; unfold encC
  rw [dif_neg (by intro h; rcases h with h | h; exact hl h; exact hs h)]
theorem encC_len : ∀ (k size : Nat) (l : List UInt8), l.length ≤ k → k ≤ 1000000 → (encC size l).length ≤ 11 * l.length
  | 0, size, l, hk, _ => by
    have : l = [] := List.eq_nil_of_length_eq_zero (by omega)
    subst this
    rw [encC_nil]
    simp
  | k + 1, size, l, hk, h1 => by
    by_cases h : l = [] ∨ size = 0
    · unfold encC
      rw [dif_pos h]
      simp
    · have hl : l ≠ [] := fun e => h (.inl e)
      have hs : size ≠ 0 := fun e => h (.inr e)
      have hl0 : l.length ≠ 0 := fun e => hl (List.eq_nil_of_length_eq_zero e)
      rw [encC_go hl hs]
      have ih := encC_len k size (l.drop (min size l.length)) (by rw [List.length_drop]; omega) (by omega)
      have hx := hexL_len 5 (min size l.length) (by simp; omega)
      simp only [List.length_append, List.length_take, List.length_cons, List.length_nil, List.length_drop] at ih ⊢
      omega
def tailE : List UInt8 := [48, 13, 10, 13, 10]
def encV (l : List UInt8) (size : Int) : List UInt8 × Int := if size < 1 ∨ 65536 < size then ([], 5) else if 65536 < l.length then ([], 3) else (encC size.toNat l ++ tailE, 0)
theorem src_lit2 (w : World) (t : TypeId) (fr : Nat × Nat) : Src (w.alloc (.cells #[.int .u8 13, .int .u8 10] t fr)) (.slice (some ⟨w.heap.size, 0, none⟩) 2 2) (Lib.byteCells [13, 10]) := by
  refine .inr ⟨w.heap.size, 0, 2, rfl, by decide, fun j x hj => ?_⟩
  rw [Nat.zero_add, cell_of_row _ _ j _ _ fr (heap_alloc_new w _)]
  rw [← hj]
  simp [Lib.byteCells]
theorem src_lit5 (w : World) (t : TypeId) (fr : Nat × Nat) : Src (w.alloc (.cells #[.int .u8 48, .int .u8 13, .int .u8 10, .int .u8 13, .int .u8 10] t fr)) (.slice (some ⟨w.heap.size, 0, none⟩) 5 5) (Lib.byteCells tailE) := by
  refine .inr ⟨w.heap.size, 0, 5, rfl, by decide, fun j x hj => ?_⟩
  rw [Nat.zero_add, cell_of_row _ _ j _ _ fr (heap_alloc_new w _)]
  rw [← hj]
  simp [Lib.byteCells, tailE]
def EQ (B : Nat) (R : List UInt8 × Int) (w : World) (e : Ending) (w' : World) : Prop :=
  (∃ x, e = .returned (.tuple #[x, .int .i64 R.2]) ∧ OwnB w' B 5 x R.1) ∧ Below B w w'
theorem EQ.bad {B : Nat} {R : List UInt8 × Int} {w w' : World} {err : Int} (h : R = ([], err)) (hb : Below B w w') : EQ B R w (.returned (.tuple #[.slice none 0 0, .int .i64 err])) w' := by
  subst h
  exact ⟨⟨_, rfl, ownB_nil _ _ _⟩, hb⟩
theorem src_form {w : World} {b : Value} {l : List UInt8} (hb : Src w b (Lib.byteCells l)) : ∃ A c, b = .slice A l.length c := by
  rcases hb with ⟨A, c, rfl, _, h⟩ | ⟨b, off, c, hu, _, _⟩
  · have hh := bc_len l
    rw [h] at hh
    exact ⟨A, c, by rw [← hh]; rfl⟩
  · rw [bc_len] at hu
    exact ⟨_, c, hu⟩
theorem src_take {w : World} {A : Option Addr} {n cp : Nat} {l : List UInt8} (h : Src w (.slice A n cp) (Lib.byteCells l)) (m : Nat) (hm : m ≤ n) : Src w (.slice A m cp) (Lib.byteCells (l.take m)) := by
  have := hs_take h m hm
  rwa [show (Lib.byteCells l).take m = Lib.byteCells (l.take m) by simp [Lib.byteCells, List.map_take]] at this
def slen : Value → Nat
  | .slice _ n _ => n
  | _ => 0
set_option maxRecDepth 10000 in
set_option maxHeartbeats 2000000 in
theorem pEncode_any (b : Value) (l : List UInt8) (size : Int) (w : World) (hl : l.length ≤ 70000) (hb : Src w b (Lib.byteCells l)) (h1 : -9223372036854775808 ≤ size) (h2 : size ≤ 9223372036854775807) :
    Calls Try.prog 14 #[b, .int .i64 size] w (EQ w.heap.size (encV l size) w) := by
  obtain ⟨i0, hi, hz0, hz1, hz2⟩ := info_parts infoU8
  obtain ⟨A0, cp, rfl⟩ := src_form hb
  by_cases hsz : size < 1 ∨ 65536 < size
  · have hv : encV l size = ([], 5) := by unfold encV; rw [if_pos hsz]
    have HQ := Lib.hid (EQ.bad (B := w.heap.size) (w := w) hv (Below.refl _ w))
    clear hv
    rcases hsz with h | h
    all_goals (
      go_enter Try.func14, Try.ntmps14
      go_wp2
      all_goals (
        go_ret2
        exact HQ.out))
  · have hs1 : ¬ size < 1 := by omega
    have hs2 : ¬ 65536 < size := by omega
    by_cases hlong : 65536 < l.length
    · have hv : encV l size = ([], 3) := by unfold encV; rw [if_neg hsz, if_pos hlong]
      have HQ := Lib.hid (EQ.bad (B := w.heap.size) (w := w) hv (Below.refl _ w))
      have kl : 65536 < (l.length : Int) := by omega
      clear hv hsz
      go_enter Try.func14, Try.ntmps14
      go_wp2
      go_ret2
      exact HQ.out
    · have hv : encV l size = (encC size.toNat l ++ tailE, 0) := by unfold encV; rw [if_neg hsz, if_neg hlong]
      obtain ⟨N, rfl⟩ : ∃ N : Nat, size = N := ⟨size.toNat, by omega⟩
      rw [Int.toNat_natCast] at hv
      obtain ⟨R, hR⟩ : ∃ R, encV l (N : Int) = R := ⟨_, rfl⟩
      rw [hR] at hv ⊢
      have hN : N ≠ 0 := by omega
      have HEL := Lib.hid (encC_len l.length N l (Nat.le_refl _) (by omega))
      obtain ⟨E, hE⟩ : ∃ E, encC N l = E := ⟨_, rfl⟩
      have HE := Lib.hid hE
      have HV := Lib.hid hv
      have HB := Lib.hid hb
      have kl : ¬ 65536 < (l.length : Int) := by omega
      clear hv hR hE hb hsz
      go_enter Try.func14, Try.ntmps14
      go_wp2_with fail
      go_loopw [0, 6] (fun v o wr => ∃ (A : Option Addr) (c : Nat) (r done : List UInt8), r.length ≤ l.length ∧ v = .slice A r.length c ∧ Hid (Src w (.slice A r.length c) (Lib.byteCells r)) ∧ OwnB wr w.heap.size 5 o done ∧ Below w.heap.size w wr ∧ Hid (done ++ encC N r = E)) (fun v _ _ => slen v)
      case atStart => exact ⟨A0, cp, l, [], by omega, rfl, HB, ownB_nil _ _ _, Below.refl _ _, Lib.hid (by simpa using HE.out)⟩
      case round =>
        obtain ⟨A, c, r, done, hr, rfl, HS, hown, hbw, H⟩ := hrel
        have hdl : done.length ≤ 770000 := by
          have h1 := HEL.out
          have h2 := congrArg List.length H.out
          rw [HE.out] at h1
          simp at h2
          omega
        obtain ⟨A6, c6, hform, -, -⟩ := hown.form
        subst hform
        by_cases hlt : 0 < r.length
        · obtain ⟨c0, b, off, rfl, -, -, -⟩ := src_cells HS.out rfl 0 hlt
          have hrc : r.length ≤ c := by
            rcases HS.out with ⟨_, _, h1, _, h2⟩ | ⟨_, _, _, h1, h2, _⟩
            · injection h1 with _ h3 _; omega
            · injection h1 with _ h3 h4; rw [bc_len] at h2; omega
          have hr0 : r ≠ [] := by intro e; rw [e] at hlt; simp at hlt
          have hgo := encC_go (size := N) hr0 hN
          obtain ⟨M, hM⟩ : ∃ M, min N r.length = M := ⟨_, rfl⟩
          rw [hM] at hgo
          have hmin : min (N : Int) (r.length : Int) = (M : Int) := by omega
          have hM1 : M ≤ r.length := by omega
          have hM2 : 0 < M := by omega
          have hMb : M ≤ 65536 := by omega
          have hhex := pHexN_any M
          obtain ⟨hx, hhx⟩ : ∃ hx : ByteArray, (⟨(hexL M).toArray⟩ : ByteArray) = hx := ⟨_, rfl⟩
          rw [hhx] at hhex
          have hhl : hx.data.toList = hexL M := by rw [← hhx]
          have hxl : hx.data.toList.length ≤ 6 := by rw [hhl]; exact hexL_len 5 M (by simp; omega)
          have HH := Lib.hid hhl
          have HG := Lib.hid hgo
          have HST := Lib.hid (src_take HS.out M hM1)
          have HSD := Lib.hid (HS.out.drop hM1)
          clear hhl hgo hhx hM hr0
          have hc0 : ¬ c = 0 := by omega
          have hTl : (r.take M).length = M := by simp; omega
          have hfin : Hid ((done ++ hx.data.toList ++ [13, 10] ++ List.take M r ++ [13, 10]) ++ encC N (r.drop M) = E) := Lib.hid (by
            have h := H.out
            rw [HG.out] at h
            rw [HH.out, ← h]
            simp)
          have hdb : (Lib.byteCells r).drop M = Lib.byteCells (r.drop M) := by simp [Lib.byteCells, List.map_drop]
          rw [hdb] at HSD
          have hdl2 : (r.drop M).length = r.length - M := by simp
          by_cases hcM : c = M
          · subst hcM
            have HS2 : Hid (Src w (.slice (some ⟨b, off, none⟩) (r.drop c).length 0) (Lib.byteCells (r.drop c))) := Lib.hid (by
              have h := HSD.out
              rw [if_pos rfl, Nat.sub_self] at h
              rw [hdl2]
              exact h)
            have HDL := Lib.hid hdl2
            clear HSD hdb hdl2 HS
            go_wp2_with fail
            refine (hhex _ (by omega)).mono ?_
            rintro e w2 ⟨rfl, rfl⟩
            go_wp2_with (at_builtin; (first
              | (refine wpList_appB rfl _ _ 22 9 rfl 5 i0 Try.underlying22 hi hz0 hz1 hz2 w.heap.size _ _ rfl hown _ _ rfl (srcG_str Try.underlying9 hx) (by omega) hbw.size ?_; intro v1 w1 hownN hg; (replace hbw := hbw.grown hg hbw.size (fun k hk => (hown.lt k hk).1)); (replace hown := hownN); clear hownN hg)
              | (refine wpList_appB rfl _ _ 22 22 rfl 5 i0 Try.underlying22 hi hz0 hz1 hz2 w.heap.size _ _ rfl hown _ _ rfl (srcG_of Try.underlying22 (HST.out.block hbw)) (by simp only [List.length_append, List.length_cons, List.length_nil, hTl]; omega) hbw.size ?_; intro v1 w1 hownN hg; (replace hbw := hbw.grown hg hbw.size (fun k hk => (hown.lt k hk).1)); (replace hown := hownN); clear hownN hg)
              | (refine wpList_appB rfl _ _ 22 22 rfl 5 i0 Try.underlying22 hi hz0 hz1 hz2 w.heap.size _ _ rfl (hown.alloc _) _ _ rfl (srcG_of Try.underlying22 (src_lit2 _ _ _)) (by simp only [List.length_append, List.length_cons, List.length_nil, hTl]; omega) (Nat.le_trans hbw.size (by simp)) ?_; intro v1 w1 hownN hg; (replace hbw := (hbw.alloc hbw.size _).grown hg (Nat.le_trans hbw.size (by simp)) (fun k hk => (hown.lt k hk).1)); (replace hown := hownN); clear hownN hg)))
            trace_state
            go_roundw
            case rel => exact ⟨_, _, r.drop c, _, by rw [HDL.out]; omega, by rw [HDL.out, show r.length - c = 0 by omega], HS2, hown, hbw, hfin⟩
            case measure => simp [slen]; omega
          · have HS2 : Hid (Src w (.slice (some ⟨b, off + M, none⟩) (r.drop M).length (c - M)) (Lib.byteCells (r.drop M))) := Lib.hid (by
              have h := HSD.out
              rw [if_neg hcM] at h
              rw [hdl2]
              exact h)
            have HDL := Lib.hid hdl2
            clear HSD hdb hdl2 HS
            go_wp2_with fail
            refine (hhex _ (by omega)).mono ?_
            rintro e w2 ⟨rfl, rfl⟩
            go_wp2_with (at_builtin; (first
              | (refine wpList_appB rfl _ _ 22 9 rfl 5 i0 Try.underlying22 hi hz0 hz1 hz2 w.heap.size _ _ rfl hown _ _ rfl (srcG_str Try.underlying9 hx) (by omega) hbw.size ?_; intro v1 w1 hownN hg; (replace hbw := hbw.grown hg hbw.size (fun k hk => (hown.lt k hk).1)); (replace hown := hownN); clear hownN hg)
              | (refine wpList_appB rfl _ _ 22 22 rfl 5 i0 Try.underlying22 hi hz0 hz1 hz2 w.heap.size _ _ rfl hown _ _ rfl (srcG_of Try.underlying22 (HST.out.block hbw)) (by simp only [List.length_append, List.length_cons, List.length_nil, hTl]; omega) hbw.size ?_; intro v1 w1 hownN hg; (replace hbw := hbw.grown hg hbw.size (fun k hk => (hown.lt k hk).1)); (replace hown := hownN); clear hownN hg)
              | (refine wpList_appB rfl _ _ 22 22 rfl 5 i0 Try.underlying22 hi hz0 hz1 hz2 w.heap.size _ _ rfl (hown.alloc _) _ _ rfl (srcG_of Try.underlying22 (src_lit2 _ _ _)) (by simp only [List.length_append, List.length_cons, List.length_nil, hTl]; omega) (Nat.le_trans hbw.size (by simp)) ?_; intro v1 w1 hownN hg; (replace hbw := (hbw.alloc hbw.size _).grown hg (Nat.le_trans hbw.size (by simp)) (fun k hk => (hown.lt k hk).1)); (replace hown := hownN); clear hownN hg)))
            go_roundw
            case rel => exact ⟨_, _, r.drop M, _, by rw [HDL.out]; omega, by rw [HDL.out], HS2, hown, hbw, hfin⟩
            case measure => simp [slen]; omega
        · obtain rfl : r = [] := List.eq_nil_of_length_eq_zero (by omega)
          have hde : done = E := by have h := H.out; rw [encC_nil, List.append_nil] at h; exact h
          have HD := Lib.hid hde
          have htl : (⟨#[48, 13, 10, 13, 10]⟩ : ByteArray).data.toList = tailE := rfl
          have HT := Lib.hid htl
          clear hde htl
          go_wp2_with (at_builtin; (refine wpList_appB rfl _ _ 22 9 rfl 5 i0 Try.underlying22 hi hz0 hz1 hz2 w.heap.size _ _ rfl hown _ _ rfl (srcG_str Try.underlying9 _) (by rw [HT.out]; simp [tailE]; omega) hbw.size ?_; intro v1 w1 hownN hg; (replace hbw := hbw.grown hg hbw.size (fun k hk => (hown.lt k hk).1)); (replace hown := hownN); clear hownN hg))
          trace_state
          go_ret2
          refine ⟨⟨_, by rw [HV.out]; rfl, ?_⟩, hbw⟩
          rw [HV.out]
          simp only
          rw [HE.out, ← HD.out, ← HT.out]
          exact hown
end Go.Proofs.Ytggbgpmjfncklaa
