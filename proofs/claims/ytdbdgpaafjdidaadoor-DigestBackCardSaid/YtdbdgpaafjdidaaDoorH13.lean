/- digest.digits, Hex and Tag of both. -/
import Derived.Test.YtdbdgpaafjdidaaDoorProg
import Derived.Test.YtdbdgpaafjdidaaDoorBase
import Derived.Test.YtdbdgpaafjdidaaDoorBld
import Derived.Test.YtdbdgpaafjdidaaDoorR04
import Derived.Test.YtdbdgpaafjdidaaDoorH12
namespace Go.Proofs.YtdbdgpaafjdidaaDoor
open Go.RowKit
set_option linter.unusedVariables false
set_option linter.unusedSimpArgs false
set_option maxHeartbeats 400000 in
theorem pdigits_any (A : Option Addr) (c : Nat) (l : List UInt8) (w : World) (hl : l.length ≤ 1000000) (hr : Rd w A (Lib.byteCells l)) :
    Calls Tryd.prog 29 #[.slice A l.length c] w fun e w' => e = .returned (.string ⟨(hexs l).toArray⟩) ∧ Below w.heap.size w w' := by
  go_enter Tryd.func29, Tryd.ntmps29
  go_wp2_with fail
  go_loopw [8] (fun i wr => ∃ (k : Nat) (t : List UInt8), k ≤ l.length ∧ t.length ≤ 2 * k ∧ i = .int .i64 k ∧ BldAt w.heap.size w.heap.size [] t wr ∧ Below w.heap.size w wr ∧ Hid (t ++ hexs (l.drop k) = hexs l)) (fun i _ => l.length - (intOf i).toNat)
  case atStart => exact ⟨0, _, Nat.zero_le _, by simp, rfl, BldAt.new w _ (Nat.le_refl _), (Below.refl _ w).alloc (Nat.le_refl _) _, Lib.hid (by simp)⟩
  case round =>
    obtain ⟨k, t, hk, hl2, rfl, hBr, hb, H⟩ := hrel
    by_cases hlt : k < l.length
    · obtain ⟨x, hx, hdr⟩ := next_elem l k hlt
      rw [hdr] at H
      obtain ⟨b, off, rfl, hcell⟩ := hr (by intro e; simp [Lib.byteCells] at e; simp [e] at hlt)
      have hc := below_cell hb (hcell k (.int .u8 x.toNat) (by simp [Lib.byteCells, hx]))
      have h256 : x.toNat < 256 := x.toNat_lt
      clear hdr hcell hr hx
      go_wp2_with fail
      refine (bld_int _ _ _ _ _ (hexD (x.toNat / 16)) _ hBr (by omega) (hexIx _ _)).mono ?_
      rintro e w4 ⟨rfl, hB4, hS4⟩
      go_wp2_with fail
      refine (bld_int _ _ _ _ _ (hexD (x.toNat % 16)) _ hB4 (by simp; omega) (hexIx _ _)).mono ?_
      rintro e w5 ⟨rfl, hB5, hS5⟩
      go_wp2
      go_roundw
      case rel => exact ⟨k + 1, _, by omega, by simp; omega, by go_num, hB5, (hb.trans hS4.1).trans hS5.1, Lib.hid (by have h := H.out; simpa [hexs] using h)⟩
      case measure => simp [intOf]; omega
    · rw [List.drop_of_length_le (by omega)] at H
      have hfin : t = hexs l := by have h := H.out; simpa [hexs] using h
      have HF := Lib.hid hfin
      clear hfin
      go_wp2_with fail
      refine (bld_done _ _ _ _ _ hBr).mono ?_
      rintro e w4 ⟨rfl, -, hb4⟩
      go_wp2
      go_ret
      exact ⟨ret_str (by rw [HF.out]), hb.trans hb4⟩
theorem agg_one (d : List UInt8) : (Lib.byteCells d).toArray.all (·.oneCell') = true := by simp [Lib.byteCells]; intro x hx; rfl
set_option maxHeartbeats 400000 in
theorem pHex_any (d : List UInt8) (hd : d.length = 32) (w : World) :
    Calls Tryd.prog 14 #[.agg (Lib.byteCells d).toArray] w fun e w' => e = .returned (.string ⟨(hexs d).toArray⟩) ∧ Below w.heap.size w w' := by
  have hone := agg_one d
  generalize hc : (Lib.byteCells d).toArray = cur at hone
  have hsz : cur.size = 32 := by rw [← hc]; simp [Lib.byteCells, hd]
  go_enter Tryd.func14, Tryd.ntmps14
  go_wp2_with fail
  have hr : Rd (w.alloc (.cells cur 24)) (some ⟨w.heap.size, 0, none⟩) (Lib.byteCells d) := Rd.of fun j u hj => by
    rw [Nat.zero_add, cell_of_row _ _ j cur _ (0, 0) (heap_alloc_new w _), ← hc, List.getElem?_toArray]
    exact hj
  have h := pdigits_any (some ⟨w.heap.size, 0, none⟩) 32 d _ (by omega) hr
  rw [hd] at h
  refine h.mono ?_
  rintro e w2 ⟨rfl, hb2⟩
  go_wp2
  go_ret
  exact ⟨rfl, ((Below.refl _ w).alloc (Nat.le_refl _) _).trans (hb2.mono (by simp))⟩
set_option maxHeartbeats 400000 in
theorem rHex_any (d : List UInt8) (hd : d.length = 32) (w : World) :
    Calls Tryd.prog 15 #[.agg (Lib.byteCells d).toArray] w fun e w' => e = .returned (.string ⟨(hexs d).toArray⟩) ∧ Below w.heap.size w w' := by
  have hone := agg_one d
  generalize hc : (Lib.byteCells d).toArray = cur at hone
  have hsz : cur.size = 32 := by rw [← hc]; simp [Lib.byteCells, hd]
  go_enter Tryd.func15, Tryd.ntmps15
  go_wp2_with fail
  have hr : Rd (w.alloc (.cells cur 24)) (some ⟨w.heap.size, 0, none⟩) (Lib.byteCells d) := Rd.of fun j u hj => by
    rw [Nat.zero_add, cell_of_row _ _ j cur _ (0, 0) (heap_alloc_new w _), ← hc, List.getElem?_toArray]
    exact hj
  have h := digits_any (some ⟨w.heap.size, 0, none⟩) 32 d _ (by omega) hr
  rw [hd] at h
  refine h.mono ?_
  rintro e w2 ⟨rfl, hb2⟩
  go_wp2
  go_ret
  exact ⟨rfl, ((Below.refl _ w).alloc (Nat.le_refl _) _).trans (hb2.mono (by simp))⟩
theorem dig_len (l : List UInt8) : (dig l).length = 32 := by simp [dig, s8bytes]
theorem hexs_len (l : List UInt8) : (hexs l).length = 2 * l.length := by
  induction l with
  | nil => rfl
  | cons c r ih => simp [hexs, ih]; omega
theorem hexs_take (l : List UInt8) : ∀ n, (hexs l).take (2 * n) = hexs (l.take n) := by
  induction l with
  | nil => intro n; simp [hexs]
  | cons c r ih =>
    intro n
    cases n with
    | zero => simp [hexs]
    | succ n => rw [show 2 * (n + 1) = (2 * n + 1) + 1 by omega]; simp [hexs, ih]
def tagS (l : List UInt8) : ByteArray := ⟨(hexs ((dig l).take 16)).toArray⟩
set_option maxHeartbeats 400000 in
theorem pTag_any (b : Value) (l : List UInt8) (w : World) (hl : l.length ≤ 400000) (hb : Src w b (Lib.byteCells l)) :
    Calls Tryd.prog 21 #[b] w fun e w' => e = .returned (.string (tagS l)) ∧ Below w.heap.size w w' := by
  have hd := dig_len l
  have hone := agg_one (dig l)
  go_enter Tryd.func21, Tryd.ntmps21
  go_wp2_with fail
  refine (pSum_any _ l _ hl hb).mono ?_
  rintro e w1 ⟨rfl, hb1⟩
  unfold digV
  generalize hc : (Lib.byteCells (dig l)).toArray = cur at hone
  have hsz : cur.size = 32 := by rw [← hc]; simp [Lib.byteCells, hd]
  go_wp2_with (first
    | fail
    | (refine wpList_store_row rfl 24 _ _ rfl w1.heap.size cur rfl rfl 24 _ (heap_alloc_new _ _) (by rw [hsz]; kernel_rfl) (by rw [hsz]; rfl) hone ?_; rw [World.setRow_alloc_new]))
  have hr : Rd (w1.alloc (.cells cur 24)) (some ⟨w1.heap.size, 0, none⟩) (Lib.byteCells ((dig l).take 16)) := Rd.of fun j u hj => by
    rw [Nat.zero_add, cell_of_row _ _ j cur _ (0, 0) (heap_alloc_new w1 _), ← hc, List.getElem?_toArray]
    simp only [Lib.byteCells, List.map_take, List.getElem?_take] at hj ⊢
    split at hj
    · exact hj
    · cases hj
  have h := pdigits_any (some ⟨w1.heap.size, 0, none⟩) 32 ((dig l).take 16) _ (by rw [List.length_take]; omega) hr
  rw [show ((dig l).take 16).length = 16 by simp [hd]] at h
  refine h.mono ?_
  rintro e w2 ⟨rfl, hb2⟩
  go_wp2
  go_ret
  exact ⟨rfl, (hb1.alloc hb1.size _).trans (hb2.mono (by simp; have := hb1.size; omega))⟩
set_option maxHeartbeats 400000 in
theorem rTag_any (b : Value) (l : List UInt8) (w : World) (hl : l.length ≤ 400000) (hb : Src w b (Lib.byteCells l)) :
    Calls Tryd.prog 27 #[b] w fun e w' => e = .returned (.string (tagS l)) ∧ Below w.heap.size w w' := by
  have hd := dig_len l
  have hq := fun W => slice_to (P := Tryd.prog) 9 Tryd.underlying9 .i64 (⟨(hexs (dig l)).toArray⟩ : ByteArray) 32 32 rfl (by simp [ByteArray.size_mk', hexs_len, hd]) W
  go_enter Tryd.func27, Tryd.ntmps27
  go_wp2_with fail
  refine (rSum_any _ l _ hl hb).mono ?_
  rintro e w1 ⟨rfl, hb1⟩
  unfold digV
  go_wp2_with fail
  refine (rHex_any _ hd _).mono ?_
  rintro e w2 ⟨rfl, hb2⟩
  go_wp2
  go_ret
  refine ⟨ret_str ?_, hb1.trans (hb2.mono hb1.size)⟩
  unfold tagS
  rw [← hexs_take]
end Go.Proofs.YtdbdgpaafjdidaaDoor
