/- Texts of this proof, put together: Kit. -/
import Derived.Test.YtmgpbcpggnlkkaaGreatDoorProg
import Derived.Test.YtmgpbcpggnlkkaaGreatDoorMResponseReadsc
import Derived.Test.YtmgpbcpggnlkkaaGreatDoorMResponseReadse
import Derived.Test.YtmgpbcpggnlkkaaGreatDoorMResponseReadsf
import Derived.Laws.CopyOwn
import Derived.Deep.RegionHeld3
import Derived.Deep.MidRow
import Derived.BigRegion
import Derived.BigQuiet
section
/- stowagekit: lists of bytes that are lent. -/
namespace Go.Proofs.YtmgpbcpggnlkkaaGreatDoor
open Go.RowKit
set_option linter.unusedVariables false
set_option linter.unusedSimpArgs false
def markB (k : Nat) : UInt8 := (160 + k % 90).toUInt8
theorem markB_nat (k : Nat) : ((markB k).toNat : Int) = 160 + (k : Int) % 90 := by
  unfold markB
  simp
  omega
def lentU (l : List UInt8) (i : Nat) : List UInt8 := l ++ (List.range 3).map fun j => if j < i then markB (l.length + j) else 0
def lentL (l : List UInt8) : List UInt8 := lentU l 3
theorem lentU_len (l : List UInt8) (i : Nat) : (lentU l i).length = l.length + 3 := by simp [lentU]
theorem lentU_zero (l : List UInt8) : lentU l 0 = l ++ [0, 0, 0] := by
  unfold lentU
  congr 1
theorem lentU_step (l : List UInt8) (i k : Nat) (hi : i < 3) (hk : k = l.length + i) : ∀ j, j < l.length + 3 → (if j = k then markB k else (lentU l i).getD j 0) = (lentU l (i + 1)).getD j 0 := by
  intro j hj
  subst hk
  by_cases h : j < l.length
  · rw [if_neg (by omega)]
    simp [lentU, List.getElem?_append_left h]
  · obtain ⟨d, rfl⟩ : ∃ d, j = l.length + d := ⟨j - l.length, by omega⟩
    have hd : d < 3 := by omega
    have e : ∀ i, (lentU l i).getD (l.length + d) 0 = if d < i then markB (l.length + d) else 0 := by
      intro i
      simp [lentU, List.getElem?_append_right, hd]
    rw [e, e]
    by_cases h2 : d = i
    · subst h2; simp
    · rw [if_neg (by omega)]
      by_cases h3 : d < i
      · rw [if_pos h3, if_pos (by omega)]
      · rw [if_neg h3, if_neg (by omega)]
theorem arrB_src {w : World} {B : Nat} {L : List UInt8} (h : ArrB w B (fun j => L.getD j 0) L.length) (n c : Nat) (hn : n ≤ L.length) (hc : n ≤ c) : Src w (.slice (some ⟨B, 0, none⟩) n c) (Lib.byteCells (L.take n)) := by
  have hl : (Lib.byteCells (L.take n)).length = n := by simp [Lib.byteCells]; omega
  refine .inr ⟨B, 0, c, by rw [hl], by omega, fun j x hj => ?_⟩
  have hj' : j < n := by have := (List.getElem?_eq_some_iff.1 hj).1; omega
  rw [Nat.zero_add, h.cell (by omega)]
  rw [← hj, Lib.byteCells, List.getElem?_map, List.getElem?_take, if_pos hj', List.getElem?_eq_getElem (by omega)]
  simp [List.getElem?_eq_getElem (show j < L.length by omega)]
theorem full_row {w : World} {B N g : Nat} {e : TypeId} {xs : List Value} (h : w.ownsRow B e 1 (.slice (some ⟨g, 0, none⟩) N N) N xs) : w.heap[g]? = some (.cells xs.toArray e (0, 0)) := by
  rcases h.2 with ⟨h, _⟩ | ⟨g', c, cur, hv, _, hg, _, _, hs, ht⟩
  · cases h
  · injection hv with h1 _ h3
    injection h1 with h1
    injection h1 with h1
    subst h1 h3
    rw [List.take_of_length_le (by simp; omega)] at ht
    rw [hg, ← ht]
theorem arrB_row {w : World} {B : Nat} {L : List UInt8} {t : TypeId} (h : w.heap[B]? = some (.cells (Lib.byteCells L).toArray t (0, 0))) : ArrB w B (fun j => L.getD j 0) L.length := fun j hj => by
  refine ⟨?_, by unfold World.frozen?; rw [h]; simp⟩
  rw [cell_of_row _ _ j _ _ (0, 0) h]
  simp [Lib.byteCells, hj, UB]
theorem src_string {P : Program} {w : World} {b o c : Nat} {l : List UInt8} (h : Src w (.slice (some ⟨b, o, none⟩) l.length c) (Lib.byteCells l)) (src dst e : TypeId) (hs : P.underlying src = some (.slice e)) (he : P.underlying e = some (.int .u8)) (hd : P.underlying dst = some .string) :
    (convert src dst (.slice (some ⟨b, o, none⟩) l.length c)).run P w = .ok (.string ⟨l.toArray⟩) w := by
  refine run_convert_bytes_back w src dst e ⟨b, o, none⟩ c l hs he hd fun j hj => ?_
  rcases h with ⟨_, _, _, _, h⟩ | ⟨b', o', c', hu, _, hc⟩
  · simp [Lib.byteCells] at h
    subst h
    simp at hj
  · injection hu with h1 _ _
    injection h1 with h1
    injection h1 with h1 h2
    subst h1 h2
    have hx := hc j (.int .u8 (l[j].toNat : Int)) (by simp [Lib.byteCells, hj])
    cases j <;> simpa [Addr.add] using hx
set_option maxHeartbeats 400000 in
theorem lent_any (b : Value) (l : List UInt8) (w : World) (hl : l.length ≤ 1000000) (hb : Src w b (Lib.byteCells l)) : Calls Tryz.prog 5 #[b] w fun e w' =>
    (∃ B, e = .returned (.slice (some ⟨B, 0, none⟩) l.length (l.length + 3)) ∧ w.heap.size ≤ B ∧ ArrB w' B (fun j => (lentL l).getD j 0) (l.length + 3)) ∧ Below w.heap.size w w' := by
  obtain ⟨i0, hi, hz0, hz1, hz2⟩ := info_parts infoU8
  have hblen : (Lib.byteCells l).length = l.length := by simp [Lib.byteCells]
  have hone : ∀ v ∈ Lib.byteCells l, v.oneCell' = true := by
    intro y hy
    simp [Lib.byteCells] at hy
    obtain ⟨c, _, rfl⟩ := hy
    rfl
  obtain ⟨A0, c0, hbv⟩ : ∃ A c, b = .slice A l.length c := by
    rcases hb with ⟨A, c, rfl, _, h⟩ | ⟨b, off, c, hu, _, _⟩
    · rw [h] at hblen
      exact ⟨A, c, by rw [← hblen]; rfl⟩
    · rw [hblen] at hu
      exact ⟨_, c, hu⟩
  subst hbv
  obtain ⟨N, hN⟩ : ∃ N, l.length + 3 = N := ⟨_, rfl⟩
  have hsz : (Tryz.prog.info? 5).map (·.size) = some 1 := by kernel_rfl
  go_enter Tryz.func5, Tryz.ntmps5
  go_wp2_with (at_make; refine wpList_make_full _ rfl _ _ 22 rfl w.heap.size 5 i0 (.int .u8 0) 1 Tryz.underlying22 hi hz0 hz1 .i64 .i64 _ _ N rfl rfl (by omega) (by omega) (by rw [hz2]; omega) (by unfold maxLen; omega) (Nat.le_refl _) ?_)
  intro w1 hown1 hgrow1
  have hg1 := full_row hown1
  have hb1 : Below w.heap.size w w1 := (Below.refl _ w).grown hgrow1 (Nat.le_refl _) (fun k hk => by cases hk)
  rw [toList_madeCells_one] at hg1
  clear hown1 hgrow1
  have hmin : (Lib.byteCells l).length = Nat.min l.length N := by rw [hblen]; exact (Nat.min_eq_left (by omega)).symm
  have hfit : 0 + (Lib.byteCells l).length ≤ (List.replicate N (Value.int .u8 0)).length := by rw [hblen, List.length_replicate]; omega
  go_wp2_with (refine wpList_copy_splice rfl _ _ 22 22 rfl 5 Tryz.underlying22 hsz _ _ _ _ _ _ rfl rfl w.heap.size 0 (List.replicate N (.int .u8 0)) 5 hg1 (Lib.byteCells l) hmin ?hpos hfit hone w.heap.size w hb1 (Nat.le_refl _) ?_)
  case hpos =>
    intro h0
    rcases hb.block hb1 with ⟨_, _, h, _, h2⟩ | ⟨b, off, c, hu, _, hc⟩
    · rw [h2] at hblen; simp at hblen; omega
    · injection hu with h1 _ _
      first | refine ⟨rfl, ⟨b, off, none⟩, h1, fun j v hv => ?_⟩ | refine ⟨⟨b, off, none⟩, h1, fun j v hv => ?_⟩
      have := hc j v hv
      cases j <;> simpa [Addr.add] using this
  intro w2 HG2 hb2
  have e0 : splice (List.replicate N (.int .u8 0)) 0 (Lib.byteCells l) = Lib.byteCells (lentU l 0) := by
    rw [lentU_zero]
    unfold splice
    rw [List.drop_replicate, hblen, show N - (0 + l.length) = 3 by omega]
    simp [Lib.byteCells, List.replicate]
  have hA := arrB_row (show w2.heap[w.heap.size]? = some (.cells (Lib.byteCells (lentU l 0)).toArray 5 (0, 0)) by rw [← e0]; exact HG2.out)
  rw [lentU_len, hN] at hA
  clear HG2 hg1 hb1 e0
  go_wp2_with fail
  go_loopw [4] (fun v wr => ∃ i k : Nat, i ≤ 3 ∧ Hid (k = l.length + i) ∧ k ≤ 1000003 ∧ v = .int .i64 k ∧ ArrB wr w.heap.size (fun j => (lentU l i).getD j 0) N ∧ Below w.heap.size w wr) (fun v _ => N - (intOf v).toNat)
  case atStart => exact ⟨0, l.length, by omega, Lib.hid (by omega), by omega, rfl, hA, hb2⟩
  case round =>
    clear hA hb2
    obtain ⟨i, k, hi3, HK, hk, rfl, hA, hb2⟩ := hrel
    by_cases hlt : k < N
    · have hc := hA.cell hlt
      have hf := hA.froz hlt
      have hst := hA.set hlt (markB k)
      replace hst := hst.congr fun j hj => lentU_step l i k (by have := HK.out; omega) HK.out j (by omega)
      have hm := markB_nat k
      rw [hm] at hst
      clear hm
      go_wp2
      go_roundw
      case rel => exact ⟨i + 1, k + 1, by have := HK.out; omega, Lib.hid (by have := HK.out; omega), by omega, by go_num, hst, hb2.setCell (Nat.le_refl _) _⟩
      case measure => simp [intOf]; omega
    · have hi : i = 3 := by have := HK.out; omega
      subst hi
      go_wp2
      go_ret
      refine ⟨⟨w.heap.size, by rw [hN]; rfl, Nat.le_refl _, by rw [hN]; exact hA⟩, hb2⟩
theorem same_any (b1 o1 n1 c1 b2 o2 n2 c2 : Nat) (l1 l2 : List UInt8) (w : World) (e1 : l1.length = n1) (e2 : l2.length = n2) (h1 : Src w (.slice (some ⟨b1, o1, none⟩) n1 c1) (Lib.byteCells l1)) (h2 : Src w (.slice (some ⟨b2, o2, none⟩) n2 c2) (Lib.byteCells l2)) :
    Calls Tryz.prog 18 #[.slice (some ⟨b1, o1, none⟩) n1 c1, .slice (some ⟨b2, o2, none⟩) n2 c2] w fun e w' => e = .returned (.bool (decide (l1 = l2))) ∧ w' = w := by
  subst e1 e2
  have q1 := src_string h1 22 9 5 Tryz.underlying22 Tryz.underlying5 Tryz.underlying9
  have q2 := src_string h2 22 9 5 Tryz.underlying22 Tryz.underlying5 Tryz.underlying9
  go_enter Tryz.func18, Tryz.ntmps18
  go_wp2
  go_ret
  exact ⟨ret_bool (by rw [Bool.eq_iff_iff]; simp), rfl⟩
theorem lentL_len (l : List UInt8) : (lentL l).length = l.length + 3 := lentU_len l 3
theorem lentL_take (l : List UInt8) : (lentL l).take l.length = l := by simp [lentL, lentU]
/-- What is lent reads as the list itself. -/
theorem lent_src {w : World} {B : Nat} {l : List UInt8} (h : ArrB w B (fun j => (lentL l).getD j 0) (l.length + 3)) : Src w (.slice (some ⟨B, 0, none⟩) l.length (l.length + 3)) (Lib.byteCells l) := by
  rw [← lentL_len] at h
  have h2 := arrB_src h l.length (l.length + 3) (by rw [lentL_len]; omega) (by omega)
  rw [lentL_take] at h2
  exact h2
theorem lent_srcAll {w : World} {B : Nat} {l : List UInt8} {N : Nat} (hN : l.length + 3 = N) (h : ArrB w B (fun j => (lentL l).getD j 0) N) : Src w (.slice (some ⟨B, 0, none⟩) N N) (Lib.byteCells (lentL l)) := by
  subst hN
  rw [← lentL_len] at h
  have h2 := arrB_src h (lentL l).length (lentL l).length (Nat.le_refl _) (Nat.le_refl _)
  rw [List.take_length, lentL_len] at h2
  exact h2
set_option maxHeartbeats 400000 in
theorem kept_any (B : Nat) (b : Value) (l : List UInt8) (w : World) (hl : l.length ≤ 1000000) (hA : ArrB w B (fun j => (lentL l).getD j 0) (l.length + 3)) (hb : Src w b (Lib.byteCells l)) :
    Calls Tryz.prog 10 #[.slice (some ⟨B, 0, none⟩) l.length (l.length + 3), b] w fun e w' => e = .returned (.bool true) ∧ Below w.heap.size w w' := by
  have hblen : (Lib.byteCells l).length = l.length := by simp [Lib.byteCells]
  obtain ⟨A0, c0, hbv⟩ : ∃ A c, b = .slice A l.length c := by
    rcases hb with ⟨A, c, rfl, _, h⟩ | ⟨b, off, c, hu, _, _⟩
    · rw [h] at hblen
      exact ⟨A, c, by rw [← hblen]; rfl⟩
    · rw [hblen] at hu
      exact ⟨_, c, hu⟩
  subst hbv
  have hBw : B < w.heap.size := cell_lt (hA.cell (j := 0) (by omega))
  obtain ⟨N, hN⟩ : ∃ N, l.length + 3 = N := ⟨_, rfl⟩
  rw [hN] at hA ⊢
  have hs1 : IntKind.i64.wrap ((l.length : Int) + 3) = (N : Int) := by rw [IntWalk.i64_in _ (by omega)]; omega
  have HN := Lib.hid hN
  have hle : l.length ≤ N := by omega
  clear hN
  go_enter Tryz.func10, Tryz.ntmps10
  go_wp2_with fail
  go_region_held3 (fun _ => True) (trivial) (first
    | (go_at_call 5; refine (lent_any _ l _ hl ?_).mono ?_; exact hb; rintro e w2 ⟨⟨B2, rfl, hB2, hA2⟩, hb2⟩; rw [HN.out] at hA2 ⊢; (have hA1 := hA.ofBlock (hb2.block B (by exact hBw))))
    | (go_at_call 18; refine (same_any B 0 N N _ 0 N N (lentL l) (lentL l) _ (by rw [lentL_len]; exact HN.out) (by rw [lentL_len]; exact HN.out) (lent_srcAll HN.out hA1) (lent_srcAll HN.out hA2)).mono ?_; rintro e w3 ⟨rfl, rfl⟩))
  go_wp2
  go_ret
  exact ⟨rfl, ⟨hb2.os, hb2.tape, hb2.output, hb2.size, hb2.block⟩⟩
end Go.Proofs.YtmgpbcpggnlkkaaGreatDoor
end
