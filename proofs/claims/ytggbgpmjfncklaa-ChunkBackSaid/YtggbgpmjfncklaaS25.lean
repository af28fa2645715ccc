/- The statements ChunkKnown, ChunkBack: their walks. -/
import Derived.Test.YtggbgpmjfncklaaProg
import Derived.Test.YtggbgpmjfncklaaQ25
import Derived.Test.YtggbgpmjfncklaaR25
import Derived.Test.YtggbgpmjfncklaaCopy
import Derived.Lib.SlBytesConst
namespace Go.Proofs.Ytggbgpmjfncklaa
open Go.RowKit
set_option linter.unusedVariables false
set_option linter.unusedSimpArgs false
theorem src_lit3 (w : World) (t : TypeId) (fr : Nat × Nat) : Src (w.alloc (.cells #[.int .u8 97, .int .u8 98, .int .u8 99] t fr)) (.slice (some ⟨w.heap.size, 0, none⟩) 3 3) (Lib.byteCells [97, 98, 99]) := by
  refine .inr ⟨w.heap.size, 0, 3, rfl, by decide, fun j x hj => ?_⟩
  rw [Nat.zero_add, cell_of_row _ _ j _ _ fr (heap_alloc_new w _)]
  rw [← hj]
  simp [Lib.byteCells]
set_option maxHeartbeats 1000000 in
theorem cknown_any (w : World) : Calls Try.prog 5 #[] w fun e w' => e = .returned (.bool true) ∧ Below w.heap.size w w' := by
  have d1 := fun W => decodes_any (⟨#[51, 13, 10, 97, 98, 99, 13, 10, 48, 13, 10, 13, 10, 120]⟩ : ByteArray) (⟨#[97, 98, 99]⟩ : ByteArray) 13 W (by decide) (by kernel_rfl)
  have d2 := fun W => decodes_any (⟨#[51, 59, 97, 61, 98, 13, 10, 97, 98, 99, 13, 10, 48, 13, 10, 116, 58, 32, 120, 13, 10, 13, 10]⟩ : ByteArray) (⟨#[97, 98, 99]⟩ : ByteArray) 23 W (by decide) (by kernel_rfl)
  have f1 := fun W => fails_any (⟨#[51, 13, 10, 97, 98]⟩ : ByteArray) 9 W (by decide) (by kernel_rfl)
  have f2 := fun W => fails_any (⟨#[48, 13, 10]⟩ : ByteArray) 9 W (by decide) (by kernel_rfl)
  have f3 := fun W => fails_any (⟨#[103]⟩ : ByteArray) 4 W (by decide) (by kernel_rfl)
  have f4 := fun W => fails_any (⟨#[51, 13, 10, 97, 98, 99, 100]⟩ : ByteArray) 4 W (by decide) (by kernel_rfl)
  have f5 := fun W => fails_any (⟨#[49, 50, 51, 52, 53, 54, 55, 13, 10]⟩ : ByteArray) 3 W (by decide) (by kernel_rfl)
  have f6 := fun W => fails_any (⟨#[49, 48, 48, 48, 49, 13, 10]⟩ : ByteArray) 3 W (by decide) (by kernel_rfl)
  have e1 := fun W => encodes_any (⟨#[]⟩ : ByteArray) (⟨#[48, 13, 10, 13, 10]⟩ : ByteArray) 1 W (by decide) (by decide) (by decide) (by
    have e1 : encV [] 1 = (([48, 13, 10, 13, 10] : List UInt8), 0) := by
      simp [encV, encC, tailE]
    exact e1)
  have hv : encV ([97, 98, 99] : List UInt8) 0 = ([], 5) := by simp [encV]
  have HV := Lib.hid hv
  have e0 := fun b W h => pEncode_any b ([97, 98, 99] : List UInt8) 0 W (by decide) h (by decide) (by decide)
  rw [hv] at e0
  clear hv
  have kc := fun (w : World) (C : Array Value) (n c : Nat) => Lib.run_convert_bytes_const (P := Try.prog) w 22 5 C n c Try.underlying22 Try.underlying5
  go_enter Try.func5, Try.ntmps5
  go_wp2_with fail
  refine (awake25_any _).mono ?_
  rintro e w1 ⟨rfl, hb1⟩
  have hB := Lib.hid hb1
  clear hb1
  go_wp2_with fail
  refine (d1 _).mono ?_
  rintro e w2 ⟨rfl, hb2⟩
  replace hB := Lib.hid (bstep hB.out hb2 (Nat.le_refl _))
  clear hb2
  go_wp2_with fail
  refine (d2 _).mono ?_
  rintro e w3 ⟨rfl, hb2⟩
  replace hB := Lib.hid (bstep hB.out hb2 (Nat.le_refl _))
  clear hb2
  go_wp2_with fail
  refine (f1 _).mono ?_
  rintro e w4 ⟨rfl, hb2⟩
  replace hB := Lib.hid (bstep hB.out hb2 (Nat.le_refl _))
  clear hb2
  go_wp2_with fail
  refine (f2 _).mono ?_
  rintro e w5 ⟨rfl, hb2⟩
  replace hB := Lib.hid (bstep hB.out hb2 (Nat.le_refl _))
  clear hb2
  have hb := (Below.refl w5.heap.size w5).alloc (Nat.le_refl _) (.cells #[.int .u8 97, .int .u8 98, .int .u8 99] 5 (3, 4))
  have hE := e0 _ _ (src_lit3 w5 5 (3, 4))
  clear e0
  go_wp2_with fail
  refine hE.mono ?_
  rintro e w7 ⟨⟨x, rfl, hx⟩, hb2⟩
  replace hB := Lib.hid (bstep (bstep hB.out hb (Nat.le_refl _)) hb2 (Nat.le_refl _))
  clear hb2 hb
  go_wp2_with fail
  refine (f3 _).mono ?_
  rintro e w8 ⟨rfl, hb2⟩
  replace hB := Lib.hid (bstep hB.out hb2 (Nat.le_refl _))
  clear hb2
  go_wp2_with fail
  refine (f4 _).mono ?_
  rintro e w9 ⟨rfl, hb2⟩
  replace hB := Lib.hid (bstep hB.out hb2 (Nat.le_refl _))
  clear hb2
  go_wp2_with fail
  refine (f5 _).mono ?_
  rintro e w10 ⟨rfl, hb2⟩
  replace hB := Lib.hid (bstep hB.out hb2 (Nat.le_refl _))
  clear hb2
  go_wp2_with fail
  refine (f6 _).mono ?_
  rintro e w11 ⟨rfl, hb2⟩
  replace hB := Lib.hid (bstep hB.out hb2 (Nat.le_refl _))
  clear hb2
  go_wp2_with fail
  refine (e1 _).mono ?_
  rintro e w12 ⟨rfl, hb2⟩
  replace hB := Lib.hid (bstep hB.out hb2 (Nat.le_refl _))
  clear hb2
  go_wp2
  go_ret
  exact ⟨rfl, hB.out⟩
theorem src_cap {w : World} {A : Option Addr} {n cp : Nat} {l : List UInt8} (h : Src w (.slice A n cp) (Lib.byteCells l)) : n = l.length ∧ (A = none → cp = 0) ∧ (A ≠ none → n ≤ cp ∨ n = 0) := by
  rcases h with ⟨A', c', h, h1, h2⟩ | ⟨b, off, c', hu, h1, _⟩
  · injection h with e1 e2 e3
    subst e1 e2 e3
    have := bc_len l
    rw [h2] at this
    exact ⟨by simpa using this, h1, fun _ => .inr rfl⟩
  · injection hu with e1 e2 e3
    subst e1 e3
    rw [bc_len] at e2 h1
    exact ⟨e2, fun h => (by cases h), fun _ => .inl (by omega)⟩
set_option maxRecDepth 10000 in
set_option maxHeartbeats 2000000 in
theorem cback_walk (b1 : Value) (l1 : List UInt8) (size : Int) (b2 : Value) (l2 : List UInt8) (cut : Int) (w : World) (hs1 : -9223372036854775808 ≤ size) (hs2 : size ≤ 9223372036854775807) (hc1 : -9223372036854775808 ≤ cut) (hc2 : cut ≤ 9223372036854775807) (h1 : Src w b1 (Lib.byteCells l1)) (h2 : Src w b2 (Lib.byteCells l2)) :
    Calls Try.prog 6 #[b1, .int .i64 size, b2, .int .i64 cut] w fun e w' => e = .returned (.bool true) ∧ Below w.heap.size w w' := by
  obtain ⟨i0, hi, hz0, hz1, hz2⟩ := info_parts infoU8
  obtain ⟨A1, c1, rfl⟩ := src_form h1
  obtain ⟨A2, c2, rfl⟩ := src_form h2
  have H1 := Lib.hid h1
  have H2 := Lib.hid h2
  clear h1 h2
  by_cases k1 : 1000 < (l1.length : Int)
  · go_enter Try.func6, Try.ntmps6
    go_wp2_with fail
    refine (cknown_any _).mono ?_
    rintro e w1 ⟨rfl, hb1⟩
    go_wp2
    all_goals (
      go_ret
      exact ⟨rfl, hb1⟩)
  by_cases k2 : 1000 < (l2.length : Int)
  · go_enter Try.func6, Try.ntmps6
    go_wp2_with fail
    refine (cknown_any _).mono ?_
    rintro e w1 ⟨rfl, hb1⟩
    go_wp2
    all_goals (
      go_ret
      exact ⟨rfl, hb1⟩)
  by_cases k3 : size < 1
  · go_enter Try.func6, Try.ntmps6
    go_wp2_with fail
    refine (cknown_any _).mono ?_
    rintro e w1 ⟨rfl, hb1⟩
    go_wp2
    all_goals (
      go_ret
      exact ⟨rfl, hb1⟩)
  by_cases k4 : 65536 < size
  · go_enter Try.func6, Try.ntmps6
    go_wp2_with fail
    refine (cknown_any _).mono ?_
    rintro e w1 ⟨rfl, hb1⟩
    go_wp2
    all_goals (
      go_ret
      exact ⟨rfl, hb1⟩)
  have hD0 : 0 ≤ (l1.length : Int) / size := Int.ediv_nonneg (by omega) (by omega)
  have hD1 : (l1.length : Int) / size ≤ 1000 := Int.le_trans (Int.ediv_le_self _ (by omega)) (by omega)
  by_cases k5 : 50 < (l1.length : Int) / size
  · go_enter Try.func6, Try.ntmps6
    go_wp2_with fail
    refine (cknown_any _).mono ?_
    rintro e w1 ⟨rfl, hb1⟩
    go_wp2
    all_goals (
      go_ret
      exact ⟨rfl, hb1⟩)
  obtain ⟨N, hNs⟩ : ∃ N : Nat, size.toNat = N := ⟨_, rfl⟩
  have hN : N ≠ 0 := by omega
  have hv : encV l1 size = (encC N l1 ++ tailE, 0) := by
    unfold encV
    rw [if_neg (by omega), if_neg (by omega), hNs]
  have hEl := encC_len l1.length N l1 (Nat.le_refl _) (by omega)
  have hw := back_whole N hN l1 l2 (by omega)
  have hp := back_part N hN l1 (by omega)
  have he0 := fun b W h => pEncode_any b l1 size W (by omega) h hs1 hs2
  rw [hv] at he0
  obtain ⟨E, hE⟩ : ∃ E, encC N l1 ++ tailE = E := ⟨_, rfl⟩
  have hE5 : 5 ≤ E.length := by rw [← hE]; simp [tailE]
  have hE9 : E.length ≤ 20000 := by rw [← hE]; simp [tailE]; omega
  rw [hE] at hw hp he0
  have hd1 := fun b W h => decode_any b (E ++ l2) W (by simp; omega) h
  rw [hw] at hd1
  have HP := Lib.hid hp
  clear hp hw hv hE hEl hNs
  go_enter Try.func6, Try.ntmps6
  go_wp2_with fail
  refine (cknown_any _).mono ?_
  rintro e w1 ⟨rfl, hb1⟩
  go_wp2_with fail
  all_goals try (exfalso; omega)
  refine (he0 _ _ (H1.out.block hb1)).mono ?_
  rintro e w2 ⟨⟨x, rfl, hx⟩, hb2⟩
  have hB2 := bstep hb1 hb2 (Nat.le_refl _)
  clear he0
  obtain ⟨Ax, cx, hform, hcx, -⟩ := hx.form
  simp only at hform hcx
  subst hform
  go_wp2_with fail
  refine (copyB_any _ E _ (by omega) hx.src).mono ?_
  rintro e w3 ⟨⟨y, rfl, hy⟩, hb3⟩
  have hB3 := bstep hB2 hb3 (Nat.le_refl _)
  go_wp2_with (at_builtin; (refine wpList_appB rfl _ _ 22 22 rfl 5 i0 Try.underlying22 hi hz0 hz1 hz2 w2.heap.size _ _ rfl hy _ l2 rfl (srcG_of Try.underlying22 (H2.out.block hB3)) (by omega) hb3.size ?_; intro v4 w4 hy4 hg4))
  have hb34 := hb3.grown hg4 hb3.size (fun k hk => (hy.lt k hk).1)
  have hB4 := bstep hB2 hb34 (Nat.le_refl _)
  clear hy hg4
  go_wp2_with fail
  refine (hd1 _ _ hy4.src).mono ?_
  rintro e w5 ⟨⟨z, rfl, hz⟩, hb5⟩
  have hB5 := bstep hB4 hb5 (Nat.le_refl _)
  have hb25 := hb34.trans (hb5.mono hb34.size)
  have hx5 := hx.below hb25
  clear hd1
  go_wp2_with fail
  refine (same_src z _ _ _ _ hz.src (H1.out.block hB5)).mono ?_
  rintro e w6 ⟨rfl, rfl⟩
  rw [show decide (l1 = l1) = true by simp]
  go_wp2_with fail
  refine (pick_any cut E.length _ (by omega) (by omega) hc1 hc2).mono ?_
  rintro e w7 ⟨⟨k, hk, rfl⟩, rfl⟩
  have hst := src_take hx5.src k (by omega)
  have hk2 : k ≤ cx := by omega
  have hq := decode_any _ _ w7 (by simp; omega) hst
  rw [HP.out k hk] at hq
  clear hst
  go_wp2_with fail
  refine hq.mono ?_
  rintro e w8 ⟨⟨u, rfl, hu⟩, hb8⟩
  have hB8 := bstep hB5 hb8 (Nat.le_refl _)
  obtain ⟨Au, cu, hform⟩ := src_form hu.src
  subst hform
  clear hu
  go_wp2
  go_ret
  exact ⟨rfl, hB8⟩
end Go.Proofs.Ytggbgpmjfncklaa
