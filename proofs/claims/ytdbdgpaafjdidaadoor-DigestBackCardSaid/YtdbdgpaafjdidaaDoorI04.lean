/- digest.bytes, Read of both; strings.Repeat's use. -/
import Derived.Test.YtdbdgpaafjdidaaDoorProg
import Derived.Test.YtdbdgpaafjdidaaDoorR04
import Derived.Test.YtdbdgpaafjdidaaDoorOwnB
import Derived.Test.YtdbdgpaafjdidaaDoorKit
import Derived.Test.YtdbdgpaafjdidaaDoorShelf
import Derived.Lib.SmallJoins
namespace Go.Proofs.YtdbdgpaafjdidaaDoor
open Go.RowKit
set_option linter.unusedVariables false
set_option linter.unusedSimpArgs false
theorem idx_any (c : UInt8) (w : World) : Calls Tryd.prog 45 #[.string (⟨#[48, 49, 50, 51, 52, 53, 54, 55, 56, 57, 97, 98, 99, 100, 101, 102]⟩ : ByteArray), .int .u8 c.toNat] w fun e w' => e = .returned (.int .i64 (hexN c.toNat)) ∧ w' = w := by
  have h := Tryd.strings_IndexByte (⟨#[48, 49, 50, 51, 52, 53, 54, 55, 56, 57, 97, 98, 99, 100, 101, 102]⟩ : ByteArray) c.toNat w
  rw [show ((c.toNat : Int)).toNat.toUInt8 = c by simp] at h
  rw [show ((⟨#[48, 49, 50, 51, 52, 53, 54, 55, 56, 57, 97, 98, 99, 100, 101, 102]⟩ : ByteArray)).data.toList = ([48, 49, 50, 51, 52, 53, 54, 55, 56, 57, 97, 98, 99, 100, 101, 102] : List UInt8) from rfl, hexN_index] at h
  exact h
/-- What the loop of 'bytes' holds: the bytes so far (the last one half, behind an odd number of digits). -/
def Half (s : ByteArray) (k : Nat) (L : List UInt8) : Prop :=
  (2 * L.length = k ∧ (undig (s.data.toList.drop k)).map (L ++ ·) = undig s.data.toList) ∨
  ∃ acc a x, L = acc ++ [x] ∧ 2 * acc.length + 1 = k ∧ (x.toNat : Int) = hexN a.toNat ∧ (undig (a :: s.data.toList.drop k)).map (acc ++ ·) = undig s.data.toList
theorem half_bad {s : ByteArray} {k : Nat} {L : List UInt8} {c : UInt8} (h : Half s k L) (hd : s.data.toList.drop k = c :: s.data.toList.drop (k + 1)) (hc : hexN c.toNat < 0) : undig s.data.toList = none := by
  rcases h with ⟨_, h⟩ | ⟨acc, a, x, _, _, hx, h⟩
  · rw [hd] at h
    rw [← h]
    cases s.data.toList.drop (k + 1) with
    | nil => rfl
    | cons b r => simp [undig, hc]
  · rw [hd] at h
    rw [← h]
    simp [undig, hc]
theorem hexByte_half (a b x y : UInt8) (ha : 0 ≤ hexN a.toNat) (hb : 0 ≤ hexN b.toNat) (hx : (x.toNat : Int) = hexN a.toNat) (hy : (y.toNat : Int) = 16 * x.toNat + hexN b.toNat) : y = hexByte a b := by
  apply UInt8.toNat_inj.1
  have := hexByte_val a b ha hb
  omega
/-- A round: the cell that is written and what it held. -/
theorem half_good {s : ByteArray} {k : Nat} {L : List UInt8} {c : UInt8} (h : Half s k L) (hd : s.data.toList.drop k = c :: s.data.toList.drop (k + 1)) (hc : 0 ≤ hexN c.toNat) :
    ∃ (y : UInt8) (L' : List UInt8), ((L.getD (k / 2) 0).toNat : Int) ≤ 15 ∧ (y.toNat : Int) = 16 * (L.getD (k / 2) 0).toNat + hexN c.toNat ∧ Half s (k + 1) L' ∧ (∀ j, (if j = k / 2 then y else L.getD j 0) = L'.getD j 0) ∧ L'.length = k / 2 + 1 := by
  have hc15 := hexN_hi c.toNat
  rcases h with ⟨hk, h⟩ | ⟨acc, a, x, rfl, hk, hx, h⟩
  · have e0 : L.getD (k / 2) 0 = 0 := by simp [List.getElem?_eq_none (show L.length ≤ k / 2 by omega)]
    rw [e0]
    refine ⟨(hexN c.toNat).toNat.toUInt8, L ++ [(hexN c.toNat).toNat.toUInt8], by decide, by simp; omega, .inr ⟨L, c, _, rfl, by omega, by simp; omega, by rw [← hd]; exact h⟩, fun j => ?_, by simp; omega⟩
    by_cases hj : j = k / 2
    · rw [if_pos hj]
      subst hj
      simp [List.getElem?_append_right (show L.length ≤ k / 2 by omega), show k / 2 - L.length = 0 by omega]
    · rw [if_neg hj]
      by_cases hl : j < L.length
      · simp [List.getElem?_append_left hl]
      · simp [List.getElem?_eq_none (show L.length ≤ j by omega), List.getElem?_append_right (show L.length ≤ j by omega), List.getElem?_eq_none (show ([(hexN c.toNat).toNat.toUInt8] : List UInt8).length ≤ j - L.length by simp; omega)]
  · have e0 : (acc ++ [x]).getD (k / 2) 0 = x := by simp [List.getElem?_append_right (show acc.length ≤ k / 2 by omega), show k / 2 - acc.length = 0 by omega]
    rw [e0]
    have hx15 := hexN_hi a.toNat
    have hxp : 0 ≤ hexN a.toNat := by omega
    refine ⟨hexByte a c, acc ++ [hexByte a c], by omega, ?_, .inl ⟨by simp; omega, ?_⟩, fun j => ?_, by simp; omega⟩
    · have := hexByte_val a c hxp hc
      omega
    · rw [hd] at h
      rw [← h]
      simp only [undig, if_neg (show ¬ hexN a.toNat < 0 by omega), if_neg (show ¬ hexN c.toNat < 0 by omega)]
      cases undig (s.data.toList.drop (k + 1)) <;> simp
    · by_cases hj : j = k / 2
      · rw [if_pos hj]
        subst hj
        simp [List.getElem?_append_right (show acc.length ≤ k / 2 by omega), show k / 2 - acc.length = 0 by omega]
      · rw [if_neg hj]
        by_cases hl : j < acc.length
        · simp [List.getElem?_append_left hl]
        · simp [List.getElem?_append_right (show acc.length ≤ j by omega), List.getElem?_eq_none (show ([x] : List UInt8).length ≤ j - acc.length by simp; omega), List.getElem?_eq_none (show ([hexByte a c] : List UInt8).length ≤ j - acc.length by simp; omega)]
theorem half_done {s : ByteArray} {L : List UInt8} (h : Half s s.size L) (he : s.size % 2 = 0) : undig s.data.toList = some L ∧ 2 * L.length = s.size := by
  rcases h with ⟨hk, h⟩ | ⟨acc, a, x, _, hk, _⟩
  · rw [List.drop_of_length_le (by simp)] at h
    simp [undig] at h
    exact ⟨h.symm, hk⟩
  · omega
theorem or_half (x c : Int) (hx : 0 ≤ x) (hx2 : x ≤ 15) (hc : 0 ≤ c) (hc2 : c ≤ 15) : bits .or .u8 (x * 16) c = 16 * x + c := by
  obtain ⟨a, rfl⟩ : ∃ a : Nat, x = a := ⟨x.toNat, by omega⟩
  obtain ⟨b, rfl⟩ : ∃ b : Nat, c = b := ⟨c.toNat, by omega⟩
  have ha : a = 0 ∨ a = 1 ∨ a = 2 ∨ a = 3 ∨ a = 4 ∨ a = 5 ∨ a = 6 ∨ a = 7 ∨ a = 8 ∨ a = 9 ∨ a = 10 ∨ a = 11 ∨ a = 12 ∨ a = 13 ∨ a = 14 ∨ a = 15 := by omega
  have hb : b = 0 ∨ b = 1 ∨ b = 2 ∨ b = 3 ∨ b = 4 ∨ b = 5 ∨ b = 6 ∨ b = 7 ∨ b = 8 ∨ b = 9 ∨ b = 10 ∨ b = 11 ∨ b = 12 ∨ b = 13 ∨ b = 14 ∨ b = 15 := by omega
  rcases ha with rfl | rfl | rfl | rfl | rfl | rfl | rfl | rfl | rfl | rfl | rfl | rfl | rfl | rfl | rfl | rfl <;> rcases hb with rfl | rfl | rfl | rfl | rfl | rfl | rfl | rfl | rfl | rfl | rfl | rfl | rfl | rfl | rfl | rfl <;> decide
theorem arrB_heap {w : World} {g : Nat} {cs : Array Value} {t : TypeId} {fr : Nat × Nat} {L : List UInt8} (hg : w.heap[g]? = some (.cells cs t fr)) (hs : cs.size = L.length) (h : ArrB w g (fun j => L.getD j 0) L.length) : w.heap[g]? = some (.cells (Lib.byteCells L).toArray t fr) := by
  rw [hg]
  congr 2
  apply Array.ext
  · simp [Lib.byteCells, hs]
  · intro j h1 h2
    have hc := h.cell (j := j) (by omega)
    rw [cell_of_row _ _ j cs _ fr hg, Array.getElem?_eq_getElem h1] at hc
    injection hc with hc
    rw [hc]
    simp [Lib.byteCells, List.getElem?_eq_getElem (show j < L.length by omega)]
/-- What 'bytes' answers. -/
def BytesQ (s : ByteArray) (w : World) (e : Ending) (w' : World) : Prop :=
  ((undig s.data.toList = none ∧ e = .returned (.tuple #[.slice none 0 0, .bool false])) ∨
   ∃ l g, undig s.data.toList = some l ∧ e = .returned (.tuple #[.slice (some ⟨g, 0, none⟩) l.length l.length, .bool true]) ∧ w.heap.size ≤ g ∧ w'.heap[g]? = some (.cells (Lib.byteCells l).toArray 5 (0, 0))) ∧ Below w.heap.size w w'
set_option maxRecDepth 10000 in
set_option maxHeartbeats 1000000 in
theorem pbytes_any (s : ByteArray) (w : World) (hs : s.size ≤ 1000000) : Calls Tryd.prog 24 #[.string s] w (BytesQ s w) := by
  obtain ⟨i0, hi, hz0, hz1, hz2⟩ := info_parts infoU8
  by_cases ho : s.size % 2 = 1
  · have HN := Lib.hid (undig_odd s.data.toList (by simpa using ho))
    have ho' : (s.size : Int) % 2 = 1 := by omega
    clear ho
    go_enter Tryd.func24, Tryd.ntmps24
    go_wp2
    go_ret2
    exact ⟨.inl ⟨HN.out, rfl⟩, Below.refl _ _⟩
  · have ho' : (s.size : Int) % 2 = 0 := by omega
    obtain ⟨N, hN⟩ : ∃ N, s.size / 2 = N := ⟨_, rfl⟩
    have HE := Lib.hid (show s.size % 2 = 0 by omega)
    clear ho
    go_enter Tryd.func24, Tryd.ntmps24
    go_wp2_with (at_make; refine wpList_make_full _ rfl _ _ 26 rfl w.heap.size 5 i0 (.int .u8 0) 1 Tryd.underlying26 hi hz0 hz1 .i64 .i64 _ _ N rfl rfl (by omega) (by omega) (by rw [hz2]; omega) (by unfold maxLen; omega) (Nat.le_refl _) ?_)
    intro w1 hown1 hgrow1
    have hg1 := full_row hown1
    have hb1 : Below w.heap.size w w1 := (Below.refl _ w).grown hgrow1 (Nat.le_refl _) (fun k hk => by cases hk)
    rw [toList_madeCells_one] at hg1
    clear hown1 hgrow1
    have e0 : List.replicate N (Value.int .u8 0) = Lib.byteCells (List.replicate N 0) := by simp [Lib.byteCells]
    have hA := (arrB_row (L := List.replicate N (0 : UInt8)) (by rw [hg1, e0])).congr (g := fun j => ([] : List UInt8).getD j 0) (fun j hj => by simp at hj ⊢; simp [hj])
    rw [List.length_replicate] at hA
    have HG := Lib.hid (show ∃ cs, w1.heap[w.heap.size]? = some (.cells cs 5 (0, 0)) ∧ cs.size = N from ⟨_, hg1, by simp⟩)
    clear hg1 e0
    go_wp2_with fail
    go_loopw [17] (fun v wr => ∃ (k : Nat) (L : List UInt8), k ≤ s.size ∧ v = .int .i64 k ∧ L.length ≤ N ∧ ArrB wr w.heap.size (fun j => L.getD j 0) N ∧ Below w.heap.size w wr ∧ Hid (Half s k L) ∧ Hid (∃ cs, wr.heap[w.heap.size]? = some (.cells cs 5 (0, 0)) ∧ cs.size = N)) (fun v _ => s.size - (intOf v).toNat)
    case atStart => exact ⟨0, [], by omega, rfl, by simp, hA, hb1, Lib.hid (.inl ⟨rfl, by simp⟩), HG⟩
    case round =>
      clear hA hb1 HG
      obtain ⟨k, L, hk, rfl, hL, hA, hb, H, HG⟩ := hrel
      by_cases hlt : k < s.size
      · obtain ⟨c, hc, hd⟩ := next_at s k hlt
        have c1 := hexN_lo c.toNat
        have c2 := hexN_hi c.toNat
        by_cases hneg : hexN c.toNat < 0
        · have HB := Lib.hid (half_bad H.out hd hneg)
          clear hd
          go_wp2_with fail
          refine (idx_any _ _).mono ?_
          rintro e w2 ⟨rfl, rfl⟩
          go_wp2
          go_ret2
          exact ⟨.inl ⟨HB.out, rfl⟩, hb⟩
        · obtain ⟨y, L', h15, hy, hH, hj, hl'⟩ := half_good H.out hd (by omega)
          have hk2 : k / 2 < N := by omega
          have hcl := hA.cell hk2
          have hfz := hA.froz hk2
          have hst := (hA.set hk2 y).congr (fun j _ => hj j)
          obtain ⟨z, hz⟩ : ∃ z, (L.getD (k / 2) 0) = z := ⟨_, rfl⟩
          rw [hz] at h15 hy hcl
          rw [hy] at hst
          have hor := or_half z.toNat (hexN c.toNat) (by omega) h15 (by omega) c2
          have HH := Lib.hid hH
          have HG2 : ∀ x, Hid (∃ cs, (wr.setCell ⟨w.heap.size, k / 2, none⟩ x).heap[w.heap.size]? = some (.cells cs 5 (0, 0)) ∧ cs.size = N) := fun x => Lib.hid (by obtain ⟨cs, h1, h2⟩ := HG.out; exact ⟨_, Go.Joins.block_setCell h1 x, by simp [h2]⟩)
          have hl2 : L'.length ≤ N := by omega
          clear hd hj hy hH hz hl'
          go_wp2_with fail
          refine (idx_any _ _).mono ?_
          rintro e w2 ⟨rfl, rfl⟩
          go_wp2
          go_roundw
          case rel => exact ⟨k + 1, L', by omega, by go_num, hl2, hst, hb.setCell (Nat.le_refl _) _, HH, HG2 _⟩
          case measure => simp [intOf]; omega
      · obtain rfl : k = s.size := by omega
        obtain ⟨h1, h2⟩ := half_done H.out HE.out
        obtain rfl : N = L.length := by omega
        have H1 := Lib.hid h1
        clear h1
        go_wp2
        go_ret2
        obtain ⟨cs, hg, hcs⟩ := HG.out
        exact ⟨.inr ⟨L, w.heap.size, H1.out, rfl, Nat.le_refl _, arrB_heap hg hcs hA⟩, hb⟩
end Go.Proofs.YtdbdgpaafjdidaaDoor
