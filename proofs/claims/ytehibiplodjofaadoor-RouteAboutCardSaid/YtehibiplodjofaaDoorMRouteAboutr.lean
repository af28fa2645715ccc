/- Texts of this proof, put together: H13, T21, V21. -/
import Derived.Test.YtehibiplodjofaaDoorProg
import Derived.Test.YtehibiplodjofaaDoorMRouteAbouta
import Derived.Test.YtehibiplodjofaaDoorMRouteAbouti
import Derived.Test.YtehibiplodjofaaDoorMRouteAbouth
import Derived.Test.YtehibiplodjofaaDoorMRouteAboutq
import Derived.Test.YtehibiplodjofaaDoorMRouteAboutg
import Derived.Deep.RegionHeld3
import Derived.Deep.MidRow
import Derived.Lib.OthersKept
section
/- digest.digits, Hex and Tag of both. -/
namespace Go.Proofs.YtehibiplodjofaaDoor
open Go.RowKit
set_option linter.unusedVariables false
set_option linter.unusedSimpArgs false
set_option maxHeartbeats 400000 in
theorem pdigits_any (A : Option Addr) (c : Nat) (l : List UInt8) (w : World) (hl : l.length ≤ 1000000) (hr : Rd w A (Lib.byteCells l)) :
    Calls Tryd.prog 64 #[.slice A l.length c] w fun e w' => e = .returned (.string ⟨(hexs l).toArray⟩) ∧ Below w.heap.size w w' := by
  go_enter Tryd.func64, Tryd.ntmps64
  go_wp2_with fail
  go_loopw [8] (fun i wr => ∃ (k : Nat) (t : List UInt8), k ≤ l.length ∧ t.length ≤ 2 * k ∧ i = .int .i64 k ∧ BldAt w.heap.size w.heap.size [] t wr ∧ Below w.heap.size w wr ∧ Hid (t ++ hexs (l.drop k) = hexs l)) (fun i _ => l.length - (intOf i).toNat)
  case atStart => exact ⟨0, _, Nat.zero_le _, by simp, rfl, BldAt.new w _ (Nat.le_refl _), (Below.refl _ w).alloc (Nat.le_refl _) _, Lib.hid (by simp)⟩
  case round =>
    obtain ⟨k, t, hk, hl2, rfl, hBr, hb, H⟩ := hrel
    by_cases hlt : k < l.length
    · obtain ⟨x, hx, hdr⟩ := next_elem l k hlt
      rw [hdr] at H
      obtain ⟨b, off, rfl, hcell⟩ := hr (by intro e; simp [Lib.byteCells] at e; simp [e] at hlt)
      have hc := below_cell hb (hcell k (.int .u8 x.toNat) (by simp [Lib.byteCells, hx]))
      have h256 : x.toNat < 256 := x.toNat_lt
      clear hdr hcell hr hx
      go_wp2_with fail
      refine (bld_int _ _ _ _ _ (hexD (x.toNat / 16)) _ hBr (by omega) (hexIx _ _)).mono ?_
      rintro e w4 ⟨rfl, hB4, hS4⟩
      go_wp2_with fail
      refine (bld_int _ _ _ _ _ (hexD (x.toNat % 16)) _ hB4 (by simp; omega) (hexIx _ _)).mono ?_
      rintro e w5 ⟨rfl, hB5, hS5⟩
      go_wp2
      go_roundw
      case rel => exact ⟨k + 1, _, by omega, by simp; omega, by go_num, hB5, (hb.trans hS4.1).trans hS5.1, Lib.hid (by have h := H.out; simpa [hexs] using h)⟩
      case measure => simp [intOf]; omega
    · rw [List.drop_of_length_le (by omega)] at H
      have hfin : t = hexs l := by have h := H.out; simpa [hexs] using h
      have HF := Lib.hid hfin
      clear hfin
      go_wp2_with fail
      refine (bld_done _ _ _ _ _ hBr).mono ?_
      rintro e w4 ⟨rfl, -, hb4⟩
      go_wp2
      go_ret
      exact ⟨ret_str (by rw [HF.out]), hb.trans hb4⟩
theorem agg_one (d : List UInt8) : (Lib.byteCells d).toArray.all (·.oneCell') = true := by simp [Lib.byteCells]; intro x hx; rfl
set_option maxHeartbeats 400000 in
theorem pHex_any (d : List UInt8) (hd : d.length = 32) (w : World) :
    Calls Tryd.prog 53 #[.agg (Lib.byteCells d).toArray] w fun e w' => e = .returned (.string ⟨(hexs d).toArray⟩) ∧ Below w.heap.size w w' := by
  have hone := agg_one d
  generalize hc : (Lib.byteCells d).toArray = cur at hone
  have hsz : cur.size = 32 := by rw [← hc]; simp [Lib.byteCells, hd]
  go_enter Tryd.func53, Tryd.ntmps53
  go_wp2_with fail
  have hr : Rd (w.alloc (.cells cur 97)) (some ⟨w.heap.size, 0, none⟩) (Lib.byteCells d) := Rd.of fun j u hj => by
    rw [Nat.zero_add, cell_of_row _ _ j cur _ (0, 0) (heap_alloc_new w _), ← hc, List.getElem?_toArray]
    exact hj
  have h := pdigits_any (some ⟨w.heap.size, 0, none⟩) 32 d _ (by omega) hr
  rw [hd] at h
  refine h.mono ?_
  rintro e w2 ⟨rfl, hb2⟩
  go_wp2
  go_ret
  exact ⟨rfl, ((Below.refl _ w).alloc (Nat.le_refl _) _).trans (hb2.mono (by simp))⟩
theorem dig_len (l : List UInt8) : (dig l).length = 32 := by simp [dig, s8bytes]
theorem hexs_len (l : List UInt8) : (hexs l).length = 2 * l.length := by
  induction l with
  | nil => rfl
  | cons c r ih => simp [hexs, ih]; omega
end Go.Proofs.YtehibiplodjofaaDoor
end
section
/- package token: made. -/
namespace Go.Proofs.YtehibiplodjofaaDoor
open Go.RowKit
set_option linter.unusedVariables false
set_option linter.unusedSimpArgs false
theorem isF_below {T e : TypeId} {B b : Nat} {bs : List Value} {w w' : World} (h : Lib.IsBuilderF T e B b bs w) (hb : Below w.heap.size w w') : Lib.IsBuilderF T e B b bs w' := by
  have key : ∀ p, Lib.BuilderAtF T e B b p bs w → Lib.BuilderAtF T e B b p bs w' := by
    rintro p ⟨hB, v, hg, hown, hne⟩
    have hlt : b < w.heap.size := (Array.getElem?_eq_some_iff.1 hg).1
    refine ⟨hB, v, (hb.block b hlt).trans hg, ⟨hown.1, ?_⟩, hne⟩
    rcases hown.2 with h | ⟨g, cap, cur, fz, hv, hbg, hgg, rest⟩
    · exact .inl h
    · exact .inr ⟨g, cap, cur, fz, hv, hbg, (hb.block g (Array.getElem?_eq_some_iff.1 hgg).1).trans hgg, rest⟩
  exact h.elim (fun x => .inl (key _ x)) (fun x => .inr (key _ x))
theorem isF_lt {T e : TypeId} {B b : Nat} {bs : List Value} {w : World} (h : Lib.IsBuilderF T e B b bs w) : b < w.heap.size := by
  rcases h with ⟨_, v, hg, _⟩ | ⟨_, v, hg, _⟩
  · exact (Array.getElem?_eq_some_iff.1 hg).1
  · exact (Array.getElem?_eq_some_iff.1 hg).1
theorem range_others {w5 w7 : World} {b : Nat} {cl : List Value} {t e : TypeId} (ho : Lib.OthersKept e (some b) (w5.alloc (.cells cl.toArray t)).drew w7) (hlt : b < w5.heap.size) (hne : t ≠ e) : w7.rangeAt w5.heap.size 0 cl := fun j v hv => by
  have hk := ho w5.heap.size (.cells cl.toArray t (0, 0)) (heap_alloc_new w5 _) (fun h => by have := Option.some.inj h; omega) (fun c fz h => by injection h with _ h2 _; exact hne h2)
  rw [cell_of_row _ _ (0 + j) _ _ (0, 0) hk, Nat.zero_add, List.getElem?_toArray]
  exact hv
theorem bldAt_less {B b r : Nat} {R : List Nat} {l : List UInt8} {w : World} (h : BldAt B b (r :: R) l w) : BldAt B b R l w := by
  obtain ⟨hB, hR, hBb, g, hg, hk⟩ := h
  exact ⟨hB, fun r hr => hR r (by simp [hr]), hBb, g, hg, fun k e => ⟨(hk k e).1, fun hm => (hk k e).2 (by simp [hm])⟩⟩
theorem str_isF (B b : Nat) (l : List UInt8) (w : World) (h : Lib.IsBuilderF 60 5 B b (Lib.byteCells l) w) (hB : B ≤ w.heap.size) :
    Calls Tryd.prog 26 #[.pointer (some ⟨b, 0, none⟩)] w fun e w' => e = .returned (.string ⟨l.toArray⟩) ∧ Lib.IsBuilderF 60 5 B b (Lib.byteCells l) w' ∧ Below B w w' ∧ Lib.OthersKept 5 (some b) w w' :=
  Any.Builder_String_any_k Tryd.lays169 Tryd.Builder_Extra_169 B b l w h hB
/-- '[]byte(s)' as a source. -/
theorem conv_src {s : ByteArray} {w1 : World} {B c : Nat} (hc : s.size ≤ c) (hcell : ∀ k, k < s.size → w1.cell? ⟨B, k, none⟩ = some (.int .u8 ((s.data.toList[k]?.getD 0).toNat : Int))) : Src w1 (.slice (some ⟨B, 0, none⟩) s.size c) (Lib.byteCells s.data.toList) := by
  have hl : (Lib.byteCells s.data.toList).length = s.size := by simp [Lib.byteCells]
  refine .inr ⟨B, 0, c, by rw [hl], by omega, fun j x hj => ?_⟩
  have hj' : j < s.size := by have := (List.getElem?_eq_some_iff.1 hj).1; omega
  rw [Nat.zero_add, hcell j hj', ← hj]
  simp [Lib.byteCells, hj']
def madeL (a b : List UInt8) : List UInt8 := hexs a ++ [45] ++ hexs b ++ [45]
def madeS (a b : List UInt8) : List UInt8 := madeL a b ++ (hexs (dig (madeL a b))).take 8
set_option maxHeartbeats 400000 in
theorem made1_any (B b : Nat) (l : List UInt8) (s : ByteArray) (w : World) (h : BldAt B b [] l w) (hl : l.length ≤ 3000000) (hs : s.size ≤ 1000000) :
    Calls Tryd.prog 51 #[.string s, .pointer (some ⟨b, 0, none⟩)] w fun e w' => (∃ v, e = .returned v) ∧ BldAt B b [] (l ++ hexs s.data.toList ++ [45]) w' ∧ Below B w w' := by
  obtain ⟨w1, c1, hcv, hc1, hb, hsz, hcell⟩ := conv_bytes (P := Tryd.prog) w 9 24 5 s Tryd.underlying9 Tryd.underlying24 Tryd.underlying5
  have hB1 := h.more hb hsz
  have hbB : Below B w w1 := hb.mono h.1
  go_enter Tryd.func51, Tryd.ntmps51
  go_wp2
  go_loopw [8] (fun i wr => ∃ (k : Nat) (t : List UInt8), k ≤ s.size ∧ t.length ≤ l.length + 2 * k ∧ i = .int .i64 k ∧ BldAt B b [w.heap.size] t wr ∧ Same B [w.heap.size] w1 wr ∧ Hid (t ++ hexs (s.data.toList.drop k) = l ++ hexs s.data.toList)) (fun i _ => s.size - (intOf i).toNat)
  case atStart => exact ⟨0, l, Nat.zero_le _, by simp, rfl, hB1, Same.refl _ _ _, Lib.hid (by simp)⟩
  case round =>
    obtain ⟨k, t, hk, hl2, rfl, hBr, hSr, H⟩ := hrel
    by_cases hlt : k < s.size
    · have hc := hSr.cell (by simp) (hcell k hlt)
      obtain ⟨x, hcd, hdr⟩ := next_byte s k hlt
      have h256 : x.toNat < 256 := x.toNat_lt
      rw [hcd] at hc
      rw [hdr] at H
      clear hcd hdr hcell hcv
      go_wp2_with fail
      refine (bld_int _ _ _ _ _ (hexD (x.toNat / 16)) _ hBr (by omega) (hexIx _ _)).mono ?_
      rintro e w4 ⟨rfl, hB4, hS4⟩
      go_wp2_with fail
      refine (bld_int _ _ _ _ _ (hexD (x.toNat % 16)) _ hB4 (by simp; omega) (hexIx _ _)).mono ?_
      rintro e w5 ⟨rfl, hB5, hS5⟩
      go_wp2
      go_roundw
      case rel => exact ⟨k + 1, _, by omega, by simp; omega, by go_num, hB5, (hSr.trans hS4).trans hS5, Lib.hid (by have h := H.out; simpa [hexs] using h)⟩
      case measure => simp [intOf]; omega
    · rw [List.drop_of_length_le (by simp; omega)] at H
      have hfin : t = l ++ hexs s.data.toList := by have h := H.out; simpa [hexs] using h
      have HF := Lib.hid hfin
      clear hfin hcell hcv
      go_wp2_with fail
      refine (bld_int _ _ _ _ 45 45 _ hBr (by omega) rfl).mono ?_
      rintro e w4 ⟨rfl, hB4, hS4⟩
      go_wp2
      go_end0
      refine ⟨⟨_, rfl⟩, ?_, (hbB.trans hSr.1).trans hS4.1⟩
      have h := bldAt_less hB4
      rw [HF.out] at h
      exact h
theorem madeL_len (a b : List UInt8) : (madeL a b).length = 2 * a.length + 2 * b.length + 2 := by simp [madeL, hexs_len]; omega
set_option maxRecDepth 10000 in
set_option maxHeartbeats 1000000 in
theorem made_any (a b : ByteArray) (w : World) (ha : a.size ≤ 10000) (hb : b.size ≤ 10000) :
    Calls Tryd.prog 45 #[.string a, .string b] w fun e w' => e = .returned (.string ⟨(madeS a.data.toList b.data.toList).toArray⟩) ∧ Below w.heap.size w w' := by
  go_enter Tryd.func45, Tryd.ntmps45
  go_wp2_with fail
  refine (made1_any w.heap.size w.heap.size [] a _ (BldAt.new w _ (Nat.le_refl _)) (by simp) (by omega)).mono ?_
  rintro e w1 ⟨⟨v1, rfl⟩, hB1, hb1⟩
  have hbw1 : Below w.heap.size w w1 := ((Below.refl _ w).alloc (Nat.le_refl _) _).trans hb1
  go_wp2_with fail
  refine (made1_any w.heap.size w.heap.size _ b _ hB1 (by simp [hexs_len]; omega) (by omega)).mono ?_
  rintro e w2 ⟨⟨v2, rfl⟩, hB2, hb2⟩
  have hbw2 := hbw1.trans hb2
  have hlen := madeL_len a.data.toList b.data.toList
  rw [show [] ++ hexs a.data.toList ++ [45] ++ hexs b.data.toList ++ [45] = madeL a.data.toList b.data.toList from rfl] at hB2
  obtain ⟨p, hp⟩ : ∃ p : ByteArray, madeL a.data.toList b.data.toList = p.data.toList := bs_of _
  have hps : p.size ≤ 100000 := by rw [bs_len, ← hp, hlen]; simp; omega
  rw [hp] at hB2
  have HPP := Lib.hid hp
  clear hp hlen
  go_wp2_with fail
  refine (str_isF _ _ _ _ hB2.isF hB2.1).mono ?_
  rintro e w3 ⟨rfl, hF3, hb3, -⟩
  have hbw3 := hbw2.trans hb3
  obtain ⟨w4, c4, hcv, hc4, hb4, hsz4, hcell⟩ := conv_bytes (P := Tryd.prog) w3 9 24 5 p Tryd.underlying9 Tryd.underlying24 Tryd.underlying5
  have hs4 := conv_src hc4 hcell
  have hF4 := isF_below hF3 hb4
  have hbw4 := bstep hbw3 hb4 (Nat.le_refl _)
  rw [← bs_mk (a := p) rfl]
  go_wp2_with fail
  refine (pSum_any _ p.data.toList _ (by simp; omega) hs4).mono ?_
  rintro e w5 ⟨rfl, hb5⟩
  have hF5 := isF_below hF4 hb5
  have hbw5 := bstep hbw4 hb5 (Nat.le_refl _)
  have hz5 := hbw5.size
  have hlt5 := isF_lt hF5
  unfold digV
  have hd := dig_len p.data.toList
  have hone := agg_one (dig p.data.toList)
  obtain ⟨cl, hcl⟩ : ∃ cl, Lib.byteCells (dig p.data.toList) = cl := ⟨_, rfl⟩
  obtain ⟨hx, hhx⟩ : ∃ hx : ByteArray, (⟨(hexs (dig p.data.toList)).toArray⟩ : ByteArray) = hx := ⟨_, rfl⟩
  obtain ⟨h8, hh8⟩ : ∃ h8 : ByteArray, (⟨(hx.data.toList.take 8).toArray⟩ : ByteArray) = h8 := ⟨_, rfl⟩
  have hHex := fun W => pHex_any (dig p.data.toList) hd W
  have hsz : cl.toArray.size = 32 := by rw [← hcl]; simp [Lib.byteCells, hd]
  have hxl : hx.size = 64 := by rw [← hhx]; simp [ByteArray.size_mk', hexs_len, hd]
  have h8l : h8.size = 8 := by rw [← hh8]; simp [ByteArray.size_mk']; rw [hxl]; rfl
  have q7 := fun W => slice_to (P := Tryd.prog) 9 Tryd.underlying9 .i64 hx 8 8 rfl (by omega) W
  rw [hh8] at q7
  have q8 := fun W => run_string_add_sum (P := Tryd.prog) W p h8 (by omega)
  have hfin : (⟨(madeS a.data.toList b.data.toList).toArray⟩ : ByteArray) = p ++ h8 := by
    symm
    refine bs_mk ?_
    unfold madeS
    rw [bs_app, HPP.out, ← hh8, ← hhx]
  have HFIN := Lib.hid hfin
  rw [hcl] at hHex hone
  rw [hhx] at hHex
  rw [hcl]
  clear hcl hhx hh8 hfin hcell hcv
  have hU72 := Tryd.underlying97
  have hI72 : (Tryd.prog.info? 97).map (·.size) = some cl.length := by
    have h : (Tryd.prog.info? 97).map (·.size) = some 32 := by kernel_rfl
    rw [h, ← hsz]
    rfl
  have hF6 := isF_below hF5 ((Below.refl _ w5).alloc (Nat.le_refl _) (.cells cl.toArray 97))
  have hR6 : (w5.alloc (.cells cl.toArray 97)).rangeAt w5.heap.size 0 cl := fun j v hv => by
    rw [cell_of_row _ _ (0 + j) _ _ (0, 0) (heap_alloc_new w5 _), Nat.zero_add, List.getElem?_toArray]
    exact hv
  have hR6d : (w5.alloc (.cells cl.toArray 97)).drew.rangeAt w5.heap.size 0 cl := hR6
  have hb6 := hbw5.alloc hz5 (.cells cl.toArray 97)
  go_wp2_with (refine wpList_store_row rfl 97 _ _ rfl w5.heap.size cl.toArray rfl rfl 97 _ (heap_alloc_new _ _) (by rw [hsz]; kernel_rfl) (by rw [hsz]; rfl) hone ?_; rw [World.setRow_alloc_new])
  go_region_held3 (fun w' => w'.rangeAt w5.heap.size 0 cl) (with_reducible assumption) (first
    | (go_at_call 26; refine (str_isF w.heap.size w.heap.size p.data.toList _ ?_ ?_).mono ?_; exact hF6; exact hb6.size; rintro e w7 ⟨rfl, hF7, hb7, ho7⟩; (have hR7 : w7.rangeAt w5.heap.size 0 cl := range_others ho7 hlt5 (by decide)))
    | (go_at_call 53; refine (hHex _).mono ?_; rintro e w8 ⟨rfl, hb8⟩; (have hR8 : w8.rangeAt w5.heap.size 0 cl := fun j v hv => below_cell hb8 (hR7 j v hv))))
  go_wp2
  go_ret
  have hbw7 : Below w.heap.size w w7 := hb6.trans ⟨hb7.os, hb7.tape, hb7.output, hb7.size, hb7.block⟩
  exact ⟨ret_str HFIN.out.symm, bstep hbw7 hb8 (Nat.le_refl _)⟩
end Go.Proofs.YtehibiplodjofaaDoor
end
section
/- stowageref21: Make, dash, Read. -/
namespace Go.Proofs.YtehibiplodjofaaDoor
open Go.RowKit
set_option linter.unusedVariables false
set_option linter.unusedSimpArgs false
end Go.Proofs.YtehibiplodjofaaDoor
end
