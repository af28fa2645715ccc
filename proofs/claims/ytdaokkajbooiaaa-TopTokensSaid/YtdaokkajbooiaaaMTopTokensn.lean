/- Texts of this proof, put together: H10, H11. -/
import Derived.Test.YtdaokkajbooiaaaProg
import Derived.Test.YtdaokkajbooiaaaMTopTokensh
import Derived.Test.YtdaokkajbooiaaaMTopTokense
import Derived.Test.YtdaokkajbooiaaaMTopTokensm
section
/- The sums: the message in blocks; stowageref04.Sum. -/
namespace Go.Proofs.Ytdaokkajbooiaaa
open Go.RowKit
set_option linter.unusedVariables false
set_option linter.unusedSimpArgs false
def zpad (n : Nat) : Nat := (119 - n % 64) % 64
/-- The message, filled up. -/
def msg (l : List UInt8) : List UInt8 := l ++ [128] ++ List.replicate (zpad l.length) 0 ++ eightL (8 * l.length) 8
def blocks (s : S8) (l : List UInt8) : Nat → S8
  | 0 => s
  | n + 1 => blockS shaK (blocks s l n) (l.drop (64 * n))
theorem blocks_succ (s : S8) (l : List UInt8) (n : Nat) : blocks s l (n + 1) = blockS shaK (blocks s l n) (l.drop (64 * n)) := rfl
def shaS (l : List UInt8) : S8 := blocks sha0 (msg l) ((msg l).length / 64)
def s8bytes (s : S8) : List UInt8 := (List.range 32).map fun i => (s.at (i / 4) >>> (24 - 8 * (i % 4)).toUInt32).toUInt8
def dig (l : List UInt8) : List UInt8 := s8bytes (shaS l)
def digV (l : List UInt8) : Value := .agg ((Lib.byteCells (dig l)).toArray)
theorem u8one (l : List UInt8) : ∀ y ∈ Lib.byteCells l, y.oneCell' = true := by
  intro y hy
  simp [Lib.byteCells] at hy
  obtain ⟨c, _, rfl⟩ := hy
  rfl
/-- A whole block of cells. -/
def Row (w : World) (B : Nat) (c : Array Value) (t : TypeId) : Prop := w.heap[B]? = some (.cells c t (0, 0))
theorem Row.lt {w : World} {B : Nat} {c : Array Value} {t : TypeId} (h : Row w B c t) : B < w.heap.size := by
  unfold Row at h
  exact (Array.getElem?_eq_some_iff.1 h).1
theorem Row.alloc {w : World} {B : Nat} {c : Array Value} {t : TypeId} (h : Row w B c t) (o : Obj) : Row (w.alloc o) B c t := (((Below.refl _ w).alloc (Nat.le_refl _) o).block B h.lt).trans h
theorem Row.grown {w w' : World} {B : Nat} {c : Array Value} {t : TypeId} {row : Option Nat} (h : Row w B c t) (hg : w.grownBy w' row) (hr : ∀ k, row = some k → B < k) : Row w' B c t :=
  (hg.block B h.lt (fun e => by have := hr B (by rw [← e]); omega)).trans h
theorem Row.below {w w' : World} {B n : Nat} {c : Array Value} {t : TypeId} (h : Row w B c t) (hb : Below n w w') (hB : B < n) : Row w' B c t := (hb.block B hB).trans h
theorem Src.form {w : World} {u : Value} {ys : List Value} (h : Src w u ys) : ∃ A c, u = .slice A ys.length c := by
  rcases h with ⟨A, c, rfl, _, rfl⟩ | ⟨b, off, c, hu, _, _⟩
  · exact ⟨A, c, rfl⟩
  · exact ⟨_, c, hu⟩
theorem setS_heap {w : World} {B C : Nat} (h : B ≠ C) (y : S8) : (setS w B y).heap[C]? = w.heap[C]? := by simp [setS, World.setCell, Array.getElem?_modify, h]
theorem ownsRow_heap {w w' : World} {base : Nat} {e : TypeId} {size : Nat} {v : Value} {n : Nat} {xs : List Value} (h : w.ownsRow base e size v n xs) (hh : ∀ g, v.ownBlock = some g → w'.heap[g]? = w.heap[g]?) : w'.ownsRow base e size v n xs := by
  rcases h with ⟨h1, h2 | ⟨g, cap, cur, hv, hb, hg, h3⟩⟩
  · exact ⟨h1, .inl h2⟩
  · exact ⟨h1, .inr ⟨g, cap, cur, hv, hb, (hh g (by rw [hv]; rfl)).trans hg, h3⟩⟩
def SumR (l : List UInt8) (w : World) (m g4 cap4 p4 p5 j : Nat) (wr : World) : Prop := Below w.heap.size w wr ∧ p5 < wr.heap.size ∧ wr.ownsRow (w.heap.size + 1) 5 1 (.slice (some ⟨g4, 0, none⟩) (m + 8) cap4) (m + 8) (Lib.byteCells (msg l)) ∧ Row wr w.heap.size (Array.replicate 32 (.int .u8 0)) 91 ∧ Arr wr p4 (blocks sha0 (msg l) j).at 8 ∧ Row wr p5 shaKc 102
def slLen : Value → Nat
  | .slice _ n _ => n
  | _ => 0
def PadR (l : List UInt8) (w : World) (z : Array Value) (v : Value) (wr : World) : Prop := ∃ k : Nat, k ≤ zpad l.length ∧ wr.ownsRow (w.heap.size + 1) 5 1 v (l.length + 1 + k) (Lib.byteCells (l ++ [128] ++ List.replicate k 0)) ∧ Below w.heap.size w wr ∧ w.heap.size + 1 ≤ wr.heap.size ∧ Row wr w.heap.size z 91
theorem pad_step (n k : Nat) (h : k ≤ zpad n) : ((n + 1 + k : Nat) : Int) % 64 = 56 ↔ k = zpad n := by unfold zpad at *; omega
theorem eight_mul (n : Nat) (w : World) (hn : n ≤ 400000) : Calls Try.prog 64 #[.int .u64 (8 * (n : Int))] w fun e w' => (∃ v, e = .returned v ∧ w'.ownsRow w.heap.size 5 1 v 8 (Lib.byteCells (eightL (8 * n) 8))) ∧ Below w.heap.size w w' := by
  have h := eight_any (8 * n) w (by omega)
  rw [show ((8 * n : Nat) : Int) = 8 * (n : Int) by omega] at h
  exact h
theorem Src.own {w : World} {base n : Nat} {v : Value} {e : TypeId} {ys : List Value} (h : w.ownsRow base e 1 v n ys) : Src w v ys := by
  have hl : ys.length = n := by have := h.1; omega
  rcases h with ⟨h1, ⟨rfl, h2⟩ | ⟨g, cap, cur, hv, hb, hg, hc, h3⟩⟩
  · exact .inl ⟨none, 0, rfl, fun _ => rfl, List.length_eq_zero_iff.1 (by omega)⟩
  · have hown : w.ownsRow base e 1 v n ys := ⟨h1, .inr ⟨g, cap, cur, hv, hb, hg, hc, h3⟩⟩
    subst hv
    refine .inr ⟨g, 0, cap, by rw [hl], by omega, fun j x hj => ?_⟩
    have hj' : j < ys.length := (List.getElem?_eq_some_iff.1 hj).1
    rw [Nat.zero_add, hown.cellAt j (by omega)]
    exact hj
def dByte (s : S8) (k : Nat) : UInt8 := (s.at (k / 4) >>> (24 - 8 * (k % 4)).toUInt32).toUInt8
def upB (s : S8) (k n : Nat) : UInt8 := if n < k then dByte s n else 0
theorem Row.setSelf {w : World} {B : Nat} {c : Array Value} {t : TypeId} (h : Row w B c t) (k : Nat) (v : Value) : ∃ c', Row (w.setCell ⟨B, k, none⟩ v) B c' t ∧ c'.size = c.size := by
  unfold Row at *
  refine ⟨c.setIfInBounds k v, ?_, by simp⟩
  simp [World.setCell, Array.getElem?_modify, h]
structure DigR (w wr : World) (s : S8) (p4 : Nat) (k : Nat) (wx : World) : Prop where
  below : Below w.heap.size w wx
  size : wr.heap.size < wx.heap.size
  row : Row wx w.heap.size (Array.replicate 32 (.int .u8 0)) 91
  arr : Arr wx p4 s.at 8
  d : ArrB wx wr.heap.size (upB s k) 32
  rd : ∃ cur, Row wx wr.heap.size cur 91 ∧ cur.size = 32
theorem DigR.step {w wr wx : World} {s : S8} {p4 k : Nat} (h : DigR w wr s p4 k wx) (hk : k < 32) (h1 : w.heap.size < wr.heap.size) (h2 : p4 < wr.heap.size) :
    DigR w wr s p4 (k + 1) (wx.setCell ⟨wr.heap.size, k, none⟩ (.int .u8 ((dByte s k).toNat : Int))) :=
  ⟨h.below.setCell (p := ⟨wr.heap.size, k, none⟩) (by show w.heap.size ≤ wr.heap.size; omega) _, by simp only [World.size_setCell]; exact h.size,
    (by have hb := ((Below.refl wr.heap.size wx).setCell (p := ⟨wr.heap.size, k, none⟩) (Nat.le_refl _) (.int .u8 ((dByte s k).toNat : Int))); exact (hb.block w.heap.size h1).trans h.row),
    h.arr.other (by show wr.heap.size ≠ p4; omega) _, (h.d.set hk (dByte s k)).congr fun j hj => by
      unfold upB
      by_cases e : j = k
      · rw [if_pos e, if_pos (by omega), e]
      · rw [if_neg e]
        by_cases e2 : j < k
        · rw [if_pos e2, if_pos (by omega)]
        · rw [if_neg e2, if_neg (by omega)], (by obtain ⟨cur, hc, hs⟩ := h.rd; obtain ⟨c', hc', hs'⟩ := hc.setSelf k (.int .u8 ((dByte s k).toNat : Int)); exact ⟨c', hc', hs'.trans hs⟩)⟩
theorem digR_end {w wr wx : World} {s : S8} {p4 : Nat} (h : DigR w wr s p4 32 wx) : Row wx wr.heap.size (Lib.byteCells (s8bytes s)).toArray 91 := by
  obtain ⟨cur, hc, hs⟩ := h.rd
  have e : cur = (Lib.byteCells (s8bytes s)).toArray := by
    apply Array.ext_getElem?
    intro j
    by_cases hj : j < 32
    · have h1 := h.d.cell (j := j) hj
      rw [cell_of_row _ _ j cur _ (0, 0) hc] at h1
      rw [h1]
      simp [Lib.byteCells, s8bytes, hj, upB, dByte]
    · rw [Array.getElem?_eq_none (by omega), Array.getElem?_eq_none (by simp [Lib.byteCells, s8bytes]; omega)]
  rw [← e]
  exact hc
theorem Row.setRow {w : World} {B : Nat} {c c' : Array Value} {t : TypeId} (h : Row w B c t) : Row (w.setRow B c') B c' t := by
  unfold Row at *
  simp [World.setRow, Array.getElem?_modify, h]
theorem below_setRow {w0 w : World} {n B : Nat} {c' : Array Value} (h : Below n w0 w) (hB : n ≤ B) : Below n w0 (w.setRow B c') :=
  ⟨h.os, h.tape, h.output, by simpa [World.setRow] using h.size, fun k hk => by
    rw [← h.block k hk]
    simp [World.setRow, Array.getElem?_modify, show ¬ B = k by omega]⟩
theorem dByte0 (s : S8) (k : Nat) (x : UInt32) (hx : s.at (k / 4) = x) (h : (k : Int) % 4 = 0) : (x.toNat : Int) / (16777216 : Int) % (256 : Int) = ((dByte s k).toNat : Int) := by
  unfold dByte
  rw [show k % 4 = 0 by omega, hx]
  simp [UInt32.toNat_shiftRight, Nat.shiftRight_eq_div_pow]
theorem dByte1 (s : S8) (k : Nat) (x : UInt32) (hx : s.at (k / 4) = x) (h : (k : Int) % 4 = 1) : (x.toNat : Int) / (65536 : Int) % (256 : Int) = ((dByte s k).toNat : Int) := by
  unfold dByte
  rw [show k % 4 = 1 by omega, hx]
  simp [UInt32.toNat_shiftRight, Nat.shiftRight_eq_div_pow]
theorem dByte2 (s : S8) (k : Nat) (x : UInt32) (hx : s.at (k / 4) = x) (h : (k : Int) % 4 = 2) : (x.toNat : Int) / (256 : Int) % (256 : Int) = ((dByte s k).toNat : Int) := by
  unfold dByte
  rw [show k % 4 = 2 by omega, hx]
  simp [UInt32.toNat_shiftRight, Nat.shiftRight_eq_div_pow]
theorem dByte3 (s : S8) (k : Nat) (x : UInt32) (hx : s.at (k / 4) = x) (h : (k : Int) % 4 = 3) : (x.toNat : Int) % (256 : Int) = ((dByte s k).toNat : Int) := by
  unfold dByte
  rw [show k % 4 = 3 by omega, hx]
  simp [UInt32.toNat_shiftRight, Nat.shiftRight_eq_div_pow]
set_option maxRecDepth 100000 in
set_option maxHeartbeats 1000000 in
theorem rSum_any (b : Value) (l : List UInt8) (w : World) (hl : l.length ≤ 400000) (hb : Src w b (Lib.byteCells l)) : Calls Try.prog 54 #[b] w fun e w' => e = .returned (digV l) ∧ Below w.heap.size w w' := by
  obtain ⟨i0, hi, hz0, hz1, hz2⟩ := info_parts infoU8
  have hblen : (Lib.byteCells l).length = l.length := by simp [Lib.byteCells]
  obtain ⟨A0, c0, hbv⟩ := hb.form
  rw [hblen] at hbv
  subst hbv
  have hown0 : ∀ W : World, W.heap.size = w.heap.size + 1 → (W.alloc (.cells #[] 5)).ownsRow (w.heap.size + 1) 5 1 (.slice (some ⟨w.heap.size + 1, 0, none⟩) 0 0) 0 [] := fun W hW => by
    have h := World.ownsRow_lit (base := w.heap.size + 1) (e := 5) (size := 1) W #[] 0 (by omega) (by decide) rfl
    rw [hW] at h
    simpa using h
  go_enter Try.func54, Try.ntmps54
  have hsz1 : (w.alloc (.cells (Array.replicate 32 (.int .u8 0)) 91)).heap.size = w.heap.size + 1 := World.size_alloc _ _
  have hsrc : Src ((w.alloc (.cells (Array.replicate 32 (.int .u8 0)) 91)).alloc (.cells #[] 5)) (.slice A0 l.length c0) (Lib.byteCells l) := ((hb.block ((Below.refl _ w).alloc (Nat.le_refl _) _)).block ((Below.refl _ _).alloc (Nat.le_refl _) _))
  have hown1 := hown0 _ hsz1
  have h8 := u8one l
  go_wp2_with (at_builtin; first
    | (refine wpList_pushL rfl _ _ 69 rfl (w.heap.size + 1) 5 i0 (.int .u8 0) 1 Try.underlying69 hi hz0 hz1 hz2 rfl _ 0 [] rfl hown1 _ (Lib.byteCells l) rfl hsrc h8 (by omega) (by omega) (by simp) ?_; clear hown1 hsrc; intro v1 w1 hownA hgrowA; have hzA := hgrowA.size; simp only [World.size_alloc] at hzA; rw [Nat.zero_add, hblen, List.nil_append] at hownA)
    | (go_must (refine wpList_push rfl _ _ 69 rfl (w.heap.size + 1) 5 i0 (.int .u8 0) 1 Try.underlying69 hi hz0 hz1 hz2 rfl _ l.length (Lib.byteCells l) rfl (World.ownsRow.alloc hownA _) ⟨w1.heap.size, 0, none⟩ _ rfl (cell_new _ _ _) rfl (by omega) (by omega) (by rw [World.size_alloc]; omega) ?_); intro v2 w2 hownB hgrowB hatB; skip))
  have hz0' : w.heap.size ≤ w.heap.size + 1 := by omega
  have hbA : Below w.heap.size w w1 := (((Below.refl _ w).alloc (Nat.le_refl _) _).alloc (by simp) _).grown hgrowA (by simp; omega) (fun k hk => by have hk' : some (w.heap.size + 1) = some k := hk; injection hk'; omega)
  have rowA : Row w1 w.heap.size _ 91 := ((show Row (w.alloc (.cells _ 91)) w.heap.size _ 91 from heap_alloc_new w _).alloc _).grown hgrowA (fun k hk => by have hk' : some (w.heap.size + 1) = some k := hk; injection hk'; omega)
  have hbB := below_push0 hbA (Nat.le_refl _) hgrowB (fun k hk => by have := (hownA.lt k hk).1; omega)
  have rowB := (rowA.alloc _).grown hgrowB (fun k hk => by have := (hownA.lt k hk).1; omega)
  have hzB := hgrowB.size
  simp only [World.size_alloc] at hzB
  have hP : PadR l w _ v2 w2 := ⟨0, Nat.zero_le _, by
    have h := ownsRow_snoc (l := l) hownB 128 rfl
    simpa using h, hbB, by omega, rowB⟩
  clear hgrowA hgrowB hownA hownB hatB hbA rowA hbB rowB hown0 hsz1 hzA hzB
  go_loopw [3] (fun v wr => PadR l w (Array.replicate 32 (.int .u8 0)) v wr) (fun v _ => zpad l.length + l.length + 1 - slLen v)
  case atStart => exact hP
  case round =>
    clear hP
    obtain ⟨k, hk, hown, hb', hz, hrow⟩ := hrel
    have hps := pad_step l.length k hk
    have hbl : (Lib.byteCells (l ++ [128] ++ List.replicate k 0)).length = l.length + 1 + k := by simp [Lib.byteCells]; omega
    obtain ⟨m, hm⟩ : ∃ m, l.length + 1 + k = m := ⟨_, rfl⟩
    rw [hm] at hps hown hbl
    have hzp : zpad l.length < 64 := by unfold zpad; omega
    have HM := Lib.hid hm
    have hm1 : m ≤ 400100 := by omega
    have hm0 : 0 < m := by omega
    clear hm
    obtain ⟨g, cap, rfl, hg1, hg2⟩ := hown.form hm0
    by_cases hd : (m : Int) % 64 = 56
    · have hkz := hps.1 hd
      have HD := Lib.hid hd
      go_wp2_with fail
      refine (eight_mul _ _ hl).mono ?_
      rintro e w3 ⟨⟨v3, rfl, hown3⟩, hb3⟩
      have hz3 := hb3.size
      have hownC := ownsRow_below hown hb3
      have hsrc3 := Src.own hown3
      have hl8 : (Lib.byteCells (eightL (8 * l.length) 8)).length = 8 := by simp [Lib.byteCells, eightL_len]
      have h88 := u8one (eightL (8 * l.length) 8)
      have hrow3 := hrow.below hb3 (by omega)
      have hbC := hb'.trans (hb3.mono (by omega))
      clear hd hps
      go_wp2_with (at_builtin; refine wpList_pushL rfl _ _ 69 rfl (w.heap.size + 1) 5 i0 (.int .u8 0) 1 Try.underlying69 hi hz0 hz1 hz2 rfl _ m _ rfl hownC _ _ rfl hsrc3 h88 (by omega) (by omega) (by omega) ?_; intro v4 w4 hown4 hgrow4)
      have hb4 := hbC.grown hgrow4 (by omega) (fun k hk => by have := (hownC.lt k hk).1; omega)
      have hrow4 := hrow3.grown hgrow4 (fun k hk => by have := (hownC.lt k hk).1; omega)
      have hz4 := hgrow4.size
      have hmsg : w4.ownsRow (w.heap.size + 1) 5 1 v4 (m + 8) (Lib.byteCells (msg l)) := by
        rw [hl8, hkz] at hown4
        have e : Lib.byteCells (msg l) = Lib.byteCells (l ++ [128] ++ List.replicate (zpad l.length) 0) ++ Lib.byteCells (eightL (8 * l.length) 8) := by simp [msg, Lib.byteCells]
        rw [e]
        exact hown4
      have hml : (msg l).length = m + 8 := by have := HM.out; simp [msg, eightL_len]; omega
      have HML := Lib.hid hml
      clear hml hown4 hgrow4 hownC hsrc3 hown3 hb3 hrow3 hbC hown hrow hb' hbl hl8 h88 h8
      go_wp2_with fail
      refine (begin_any _).mono ?_
      rintro e w5 ⟨rfl, hb5⟩
      have hz5 := hb5.size
      have hmsg5 := ownsRow_below hmsg hb5
      have hrow5 := hrow4.below hb5 (by omega)
      have hb5' := hb4.trans (hb5.mono (by omega))
      clear hmsg hb5 hrow4 hb4
      unfold S8.vals
      go_wp2_with fail
      refine (table_any _).mono ?_
      rintro e w6 ⟨rfl, hb6⟩
      have hz6 := hb6.size
      simp only [World.size_alloc] at hz6
      have harr5 : Arr (w5.alloc (.cells sha0.vals 100)) w5.heap.size sha0.at 8 := arr_new _ _ _ _ _ fun j hj => by
        rcases (by omega : j = 0 ∨ j = 1 ∨ j = 2 ∨ j = 3 ∨ j = 4 ∨ j = 5 ∨ j = 6 ∨ j = 7) with rfl | rfl | rfl | rfl | rfl | rfl | rfl | rfl <;> rfl
      obtain ⟨g4, cap4, rfl, hg4, hg5⟩ := hmsg5.form (by omega)
      have harr6 := harr5.below (by simp) hb6
      have hmsg6 := ownsRow_below (hmsg5.alloc _) hb6
      have hrow6 := (hrow5.alloc _).below hb6 (by simp; omega)
      have hb6' := (hb5'.alloc (by omega) _).trans (hb6.mono (by simp; omega))
      clear harr5 hmsg5 hrow5 hb5' hb6
      go_wp2_with (refine wpList_store_row rfl 102 _ _ rfl w6.heap.size shaKc rfl rfl 102 _ (heap_alloc_new _ _) (by kernel_rfl) (by kernel_rfl) (by kernel_rfl) ?_; rw [World.setRow_alloc_new])
      have hS : SumR l w m g4 cap4 w5.heap.size w6.heap.size 0 (w6.alloc (.cells shaKc 102)) := ⟨hb6'.alloc (by omega) _, by simp, hmsg6.alloc _, hrow6.alloc _, harr6.alloc (by omega) _, heap_alloc_new w6 _⟩
      clear harr6 hmsg6 hrow6 hb6'
      go_loopw [6] (fun a wr => ∃ j q : Nat, Hid (q = 64 * j) ∧ q ≤ m + 8 ∧ a = .int .i64 q ∧ SumR l w m g4 cap4 w5.heap.size w6.heap.size j wr) (fun a _ => m + 8 - (intOf a).toNat)
      case atStart => exact ⟨0, 0, Lib.hid rfl, by omega, rfl, hS⟩
      case round =>
        clear hS
        obtain ⟨j, q, HQ, hq, rfl, hbr, hp5, hmsg, hrow, harr, hrk⟩ := hrel
        by_cases hlt : q < m + 8
        · have hq64 : q + 64 ≤ m + 8 := by have h1 := HQ.out; have h2 := HD.out; omega
          generalize hs : blocks sha0 (msg l) j = s at harr
          have HS := Lib.hid hs
          clear hs
          have h0 := harr.cell (j := 0) (by omega)
          have h1 := harr.cell (j := 1) (by omega)
          have h2 := harr.cell (j := 2) (by omega)
          have h3 := harr.cell (j := 3) (by omega)
          have h4 := harr.cell (j := 4) (by omega)
          have h5 := harr.cell (j := 5) (by omega)
          have h6 := harr.cell (j := 6) (by omega)
          have h7 := harr.cell (j := 7) (by omega)
          simp only [S8.at] at h0 h1 h2 h3 h4 h5 h6 h7
          go_wp2_with (refine wpList_load_row rfl 102 _ rfl w6.heap.size rfl 102 shaKc (0, 0) _ hrk Try.underlying102 rfl (by kernel_rfl) ?_)
          have hkl : ((msg l).drop q).length = m + 8 - q := by rw [List.length_drop, HML.out]
          refine (rblock_any s shaK shaKc rfl rfl ((msg l).drop q) g4 0 (m + 8) cap4 q wr (by omega) (by omega) ?hl (by rw [hkl]; omega)).mono ?_
          case hl =>
            intro i u hu
            rw [List.getElem?_drop] at hu
            have hlt2 : q + i < (msg l).length := (List.getElem?_eq_some_iff.1 hu).1
            rw [Nat.zero_add, hmsg.cellAt (q + i) (by rw [HML.out] at hlt2; omega)]
            simp [Lib.byteCells, hu]
          rintro e w7 ⟨rfl, hb7⟩
          have hz7 := hb7.size
          have harr7 := harr.below (by omega) hb7
          have hmsg7 := ownsRow_below hmsg hb7
          have hrow7 := hrow.below hb7 (by have := hbr.size; omega)
          have hrk7 := hrk.below hb7 (by omega)
          have hbr7 := hbr.trans (hb7.mono (by have := hbr.size; omega))
          clear h0 h1 h2 h3 h4 h5 h6 h7 harr hmsg hrow hrk hb7
          have hn := blocks_succ sha0 (msg l) j
          rw [HS.out, show 64 * j = q from HQ.out.symm] at hn
          have HN := Lib.hid hn
          clear hn
          generalize blockS shaK s ((msg l).drop q) = y at HN ⊢
          have f0 := harr7.froz (j := 0) (by omega)
          have e0 := harr7.cell (j := 0) (by omega)
          have f1 := harr7.froz (j := 1) (by omega)
          have e1 := harr7.cell (j := 1) (by omega)
          have f2 := harr7.froz (j := 2) (by omega)
          have e2 := harr7.cell (j := 2) (by omega)
          have f3 := harr7.froz (j := 3) (by omega)
          have e3 := harr7.cell (j := 3) (by omega)
          have f4 := harr7.froz (j := 4) (by omega)
          have e4 := harr7.cell (j := 4) (by omega)
          have f5 := harr7.froz (j := 5) (by omega)
          have e5 := harr7.cell (j := 5) (by omega)
          have f6 := harr7.froz (j := 6) (by omega)
          have e6 := harr7.cell (j := 6) (by omega)
          have f7 := harr7.froz (j := 7) (by omega)
          have e7 := harr7.cell (j := 7) (by omega)
          simp only [S8.at] at e0 e1 e2 e3 e4 e5 e6 e7
          unfold S8.vals
          go_wp2
          go_roundw
          case rel =>
            have hw0 := hbr7.size
            refine ⟨j + 1, q + 64, Lib.hid (by have := HQ.out; omega), by omega, by go_num, ?_⟩
            have hR : SumR l w m g4 cap4 w5.heap.size w6.heap.size (j + 1) (setS w7 w5.heap.size y) := by
              refine ⟨setS_below hbr7 (by omega) y, by rw [setS_size]; omega, ownsRow_heap hmsg7 ?_, (setS_heap (by omega) y).trans hrow7, ?_, (setS_heap (by omega) y).trans hrk7⟩
              · intro g hg
                have hg' : g4 = g := Option.some.inj hg
                have hne : w5.heap.size ≠ g := by omega
                clear hg
                exact setS_heap hne y
              · have hA := setS_arr harr7 y
                have hE := HN.out
                clear HN
                rw [hE]
                exact hA
            exact hR
          case measure => simp [intOf]; omega
        · have hj : j = (msg l).length / 64 := by have h1 := HQ.out; have h2 := HML.out; omega
          have harrS : Arr wr w5.heap.size (shaS l).at 8 := by rw [hj] at harr; exact harr
          clear harr hmsg hrk HQ hj
          generalize hs : shaS l = s at harrS
          have HS := Lib.hid hs
          clear hs
          go_wp2
          have hw1 : w.heap.size < wr.heap.size := by omega
          have hw2 : w5.heap.size < wr.heap.size := by omega
          go_loopw [8] (fun i wx => ∃ k : Nat, k ≤ 32 ∧ i = .int .i64 k ∧ DigR w wr s w5.heap.size k wx) (fun i _ => 32 - (intOf i).toNat)
          case atStart =>
            exact ⟨0, by omega, rfl, hbr.alloc (by have := hbr.size; omega) _, by simp, hrow.alloc _, harrS.alloc (by omega) _, arrB_new wr (Array.replicate 32 (.int .u8 0)) _ _ _ (fun j hj => by simp [hj, UB, upB]), ⟨_, heap_alloc_new wr _, rfl⟩⟩
          case round =>
            obtain ⟨k, hk, rfl, hD⟩ := hrel
            by_cases hlt : k < 32
            · obtain ⟨x, hx⟩ : ∃ x, s.at (k / 4) = x := ⟨_, rfl⟩
              have hc := hD.arr.cell (j := k / 4) (Nat.div_lt_of_lt_mul hlt)
              rw [hx] at hc
              have hd := hD.d.cell (j := k) hlt
              have hf := hD.d.froz (j := k) hlt
              have HX := Lib.hid hx
              clear hx
              have hst := hD.step hlt hw1 hw2
              rcases (by omega : (k : Int) % 4 = 0 ∨ (k : Int) % 4 = 1 ∨ (k : Int) % 4 = 2 ∨ (k : Int) % 4 = 3) with hr | hr | hr | hr
              · have HB := Lib.hid (dByte0 s k x HX.out hr)
                go_wp2
                go_roundw
                case rel => exact ⟨k + 1, by omega, by go_num, by rw [HB.out]; exact hst⟩
                case measure => simp [intOf]; omega
              · have HB := Lib.hid (dByte1 s k x HX.out hr)
                go_wp2
                go_roundw
                case rel => exact ⟨k + 1, by omega, by go_num, by rw [HB.out]; exact hst⟩
                case measure => simp [intOf]; omega
              · have HB := Lib.hid (dByte2 s k x HX.out hr)
                go_wp2
                go_roundw
                case rel => exact ⟨k + 1, by omega, by go_num, by rw [HB.out]; exact hst⟩
                case measure => simp [intOf]; omega
              · have HB := Lib.hid (dByte3 s k x HX.out hr)
                go_wp2
                go_roundw
                case rel => exact ⟨k + 1, by omega, by go_num, by rw [HB.out]; exact hst⟩
                case measure => simp [intOf]; omega
            · obtain rfl : k = 32 := by omega
              have hE := digR_end hD
              have hrow := hD.row
              have hbl := hD.below
              clear hD
              generalize hc : (Lib.byteCells (s8bytes s)).toArray = cur at hE
              have hsz : cur.size = 32 := by rw [← hc]; simp [Lib.byteCells, s8bytes]
              have hone : cur.all (·.oneCell') = true := by rw [← hc]; simp [Lib.byteCells]; intro x hx; rfl
              have HC := Lib.hid hc
              clear hc
              go_wp2_with (first
                | (refine wpList_load_row rfl 91 _ rfl _ rfl 91 cur (0, 0) _ hE Try.underlying91 rfl (by rw [hsz]; kernel_rfl) ?_)
                | (refine wpList_store_row rfl 91 _ _ rfl w.heap.size cur rfl rfl 91 _ hrow (by rw [hsz]; kernel_rfl) (by rw [hsz]; rfl) hone ?_))
              refine bodyPost_ret (v := .agg cur) (results_cell_row (show Try.f54.results = #[.cell 2 91] from by kernel_rfl) _ _ w.heap.size 91 cur (0, 0) _ rfl hrow.setRow Try.underlying91 rfl (by rw [hsz]; kernel_rfl)) rfl ⟨?_, below_setRow hbl (Nat.le_refl _)⟩
              have e1 := HC.out
              have e2 := HS.out
              subst e1
              subst e2
              rfl
    · have hkz : ¬ k = zpad l.length := fun e => hd (hps.2 e)
      go_wp2_with (at_builtin; refine wpList_push rfl _ _ 69 rfl (w.heap.size + 1) 5 i0 (.int .u8 0) 1 Try.underlying69 hi hz0 hz1 hz2 rfl _ m (Lib.byteCells (l ++ [128] ++ List.replicate k 0)) rfl (World.ownsRow.alloc hown _) ⟨wr.heap.size, 0, none⟩ _ rfl (cell_new _ _ _) rfl (by omega) (by omega) (by rw [World.size_alloc]; omega) ?_; intro v2 w2 hownB hgrowB hatB)
      have hb2 := below_push0 hb' (Nat.le_refl _) hgrowB (fun k hk => by have := (hown.lt k hk).1; omega)
      have row2 := (hrow.alloc _).grown hgrowB (fun k hk => by have := (hown.lt k hk).1; omega)
      have hz2' := hgrowB.size
      simp only [World.size_alloc] at hz2'
      clear hgrowB hatB
      go_roundw
      case rel =>
        have HR : PadR l w (Array.replicate 32 (.int .u8 0)) v2 w2 := ⟨k + 1, by omega, by
          have hmm := HM.out
          have hlen : (l ++ [128] ++ List.replicate k 0).length = m := by simp; omega
          have h := ownsRow_snoc (w := w2) (base := w.heap.size + 1) (e := 5) (v := v2) (l := l ++ [128] ++ List.replicate k 0) (by rw [hlen]; exact hownB) 0 rfl
          have hlen2 : (l ++ [128] ++ List.replicate k 0 ++ [0]).length = m + 1 := by rw [List.length_append, hlen]; rfl
          rw [hlen2] at h
          rw [List.replicate_succ', ← List.append_assoc, show l.length + 1 + (k + 1) = m + 1 by omega]
          exact h, hb2, by omega, row2⟩
        first | exact HR | ((repeat apply Exists.intro); refine ⟨HR, ?_⟩; first | rfl | (repeat' (first | apply And.intro | rfl)))
      case measure =>
        have hmm := HM.out
        obtain ⟨g2, cap2, rfl, -, -⟩ := hownB.form (by omega)
        simp only [slLen]
        omega
end Go.Proofs.Ytdaokkajbooiaaa
end
section
/- Plain laws on blocks: a block looks at its first 64 bytes alone. -/
namespace Go.Proofs.Ytdaokkajbooiaaa
open Go.RowKit
set_option linter.unusedVariables false
set_option linter.unusedSimpArgs false
theorem wordAt_app (l r : List UInt8) (t : Nat) (h : 4 * t + 4 ≤ l.length) : wordAt (l ++ r) t = wordAt l t := by
  unfold wordAt wpart
  rw [List.drop_append_of_le_length (by omega), List.take_append_of_le_length (by simp; omega)]
theorem schedF_app (l r : List UInt8) (h : 64 ≤ l.length) : schedF (l ++ r) = schedF l := by
  funext j
  unfold schedF sched
  have e : (List.range 16).map (wordAt (l ++ r)) = (List.range 16).map (wordAt l) := by
    apply List.map_congr_left
    intro t ht
    have := List.mem_range.1 ht
    exact wordAt_app l r t (by omega)
  rw [e]
theorem blockS_app (K : List UInt32) (s : S8) (l r : List UInt8) (h : 64 ≤ l.length) : blockS K s (l ++ r) = blockS K s l := by
  unfold blockS rnds
  rw [schedF_app l r h]
end Go.Proofs.Ytdaokkajbooiaaa
end
