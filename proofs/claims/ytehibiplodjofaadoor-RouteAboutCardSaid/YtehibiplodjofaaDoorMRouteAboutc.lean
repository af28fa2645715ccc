/- Texts of this proof, put together: H06, H07. -/
import Derived.Test.YtehibiplodjofaaDoorProg
import Derived.Test.YtehibiplodjofaaDoorMRouteAboutb
import Derived.BigRegion
import Derived.BigQuiet
section
/- The walk of stowageref04.block. -/
namespace Go.Proofs.YtehibiplodjofaaDoor
open Go.RowKit
set_option linter.unusedVariables false
set_option linter.unusedSimpArgs false
/-- Words done up to t. -/
def upto (f : Nat → UInt32) (t j : Nat) : UInt32 := if j < t then f j else 0
def partW (f : Nat → UInt32) (t : Nat) (x : UInt32) (j : Nat) : UInt32 := if j = t then x else upto f t j
theorem wpart_succ (l : List UInt8) (i : Nat) (c : UInt8) (h : l[i]? = some c) : wpart l (i + 1) = (wpart l i <<< 8) ||| c.toUInt32 := by
  have hi : i < l.length := (List.getElem?_eq_some_iff.1 h).1
  have hc : l[i] = c := (List.getElem?_eq_some_iff.1 h).2
  unfold wpart
  rw [List.take_succ_eq_append_getElem hi, List.foldl_append, hc]
  rfl
theorem u8_u32 (c : UInt8) : ((c.toNat : Nat) : Int) = ((c.toUInt32).toNat : Int) := by simp
structure Blk (w wr : World) (s : S8) (K : List UInt32) (f : Nat → UInt32) : Prop where
  below : Below w.heap.size w wr
  size : wr.heap.size = w.heap.size + 4
  h : Arr wr w.heap.size s.at 8
  k : Arr wr (w.heap.size + 1) (fun j => K.getD j 0) 64
  r : Arr wr (w.heap.size + 2) (fun _ => 0) 8
  ws : Arr wr (w.heap.size + 3) f 64
theorem arr_new (w : World) (c : Array Value) (t : TypeId) (f : Nat → UInt32) (n : Nat) (h : ∀ j, j < n → c[j]? = some (U (f j))) : Arr (w.alloc (.cells c t)) w.heap.size f n := fun j hj => by
  have hb := heap_alloc_new w (.cells c t)
  exact ⟨by rw [cell_of_row _ _ j c t (0, 0) hb]; exact h j hj, by unfold World.frozen?; rw [hb]; simp⟩
theorem blk_start (w : World) (s : S8) (K : List UInt32) (kc z : Array Value) (t1 t2 t3 t4 : TypeId) (hk : K.length = 64) (hkc : kc = (K.map U).toArray) (hz : z = Array.replicate 64 (.int .u32 0)) :
    Blk w ((((w.alloc (.cells s.vals t1)).alloc (.cells kc t2)).alloc (.cells #[.int .u32 0, .int .u32 0, .int .u32 0, .int .u32 0, .int .u32 0, .int .u32 0, .int .u32 0, .int .u32 0] t3)).alloc (.cells z t4)) s K (fun _ => 0) := by
  have h1 : Arr (w.alloc (.cells s.vals t1)) w.heap.size s.at 8 := arr_new _ _ _ _ _ fun j hj => by
    rcases (by omega : j = 0 ∨ j = 1 ∨ j = 2 ∨ j = 3 ∨ j = 4 ∨ j = 5 ∨ j = 6 ∨ j = 7) with rfl | rfl | rfl | rfl | rfl | rfl | rfl | rfl <;> rfl
  have h2 := arr_new (w.alloc (.cells s.vals t1)) kc t2 (fun j => K.getD j 0) 64 fun j hj => by
    subst hkc
    simp [List.getD_eq_getElem?_getD, List.getElem?_eq_getElem (show j < K.length by omega)]
  have h3 := arr_new ((w.alloc (.cells s.vals t1)).alloc (.cells kc t2)) #[.int .u32 0, .int .u32 0, .int .u32 0, .int .u32 0, .int .u32 0, .int .u32 0, .int .u32 0, .int .u32 0] t3 (fun _ => 0) 8 fun j hj => by
    rcases (by omega : j = 0 ∨ j = 1 ∨ j = 2 ∨ j = 3 ∨ j = 4 ∨ j = 5 ∨ j = 6 ∨ j = 7) with rfl | rfl | rfl | rfl | rfl | rfl | rfl | rfl <;> rfl
  have h4 := arr_new (((w.alloc (.cells s.vals t1)).alloc (.cells kc t2)).alloc (.cells #[.int .u32 0, .int .u32 0, .int .u32 0, .int .u32 0, .int .u32 0, .int .u32 0, .int .u32 0, .int .u32 0] t3)) z t4 (fun _ => 0) 64 fun j hj => by
    subst hz
    simp [hj, U]
  simp only [World.size_alloc] at h2 h3 h4
  refine ⟨((((Below.refl _ w).alloc (Nat.le_refl _) _).alloc (by simp) _).alloc (by simp; omega) _).alloc (by simp; omega) _, by simp, ?_, ?_, ?_, h4⟩
  · exact ((h1.alloc (by simp) _).alloc (by simp; try omega) _).alloc (by simp; try omega) _
  · exact (h2.alloc (by simp) _).alloc (by simp; try omega) _
  · exact h3.alloc (by simp) _
section
variable {w wr : World} {s : S8} {K : List UInt32} {f g : Nat → UInt32}
theorem Blk.drewN (h : Blk w wr s K f) (n : Nat) : Blk w (wr.drewN n) s K f := ⟨below_drewN h.below n, h.size, h.h.drewN n, h.k.drewN n, h.r.drewN n, h.ws.drewN n⟩
theorem Blk.congr (h : Blk w wr s K f) (e : ∀ j, j < 64 → f j = g j) : Blk w wr s K g := ⟨h.below, h.size, h.h, h.k, h.r, h.ws.congr e⟩
theorem Blk.set (h : Blk w wr s K f) {k : Nat} (hk : k < 64) (x : UInt32) : Blk w (wr.setCell ⟨w.heap.size + 3, k, none⟩ (.int .u32 (x.toNat : Int))) s K (fun j => if j = k then x else f j) :=
  ⟨h.below.setCell (by simp; try omega) _, by simp [h.size], h.h.other (by simp) _, h.k.other (by simp) _, h.r.other (by simp) _, h.ws.set hk x⟩
end
structure BlkX (w wr : World) (s : S8) (K : List UInt32) (f : Nat → UInt32) (x : S8) : Prop where
  below : Below w.heap.size w wr
  size : wr.heap.size = w.heap.size + 5
  h : Arr wr w.heap.size s.at 8
  k : Arr wr (w.heap.size + 1) (fun j => K.getD j 0) 64
  r : Arr wr (w.heap.size + 2) (fun _ => 0) 8
  ws : Arr wr (w.heap.size + 3) f 64
  xs : Arr wr (w.heap.size + 4) x.at 8
theorem BlkX.drewN {w wr : World} {s : S8} {K : List UInt32} {f : Nat → UInt32} {x : S8} (h : BlkX w wr s K f x) (n : Nat) : BlkX w (wr.drewN n) s K f x := ⟨below_drewN h.below n, h.size, h.h.drewN n, h.k.drewN n, h.r.drewN n, h.ws.drewN n, h.xs.drewN n⟩
theorem Blk.toX {w wr : World} {s : S8} {K : List UInt32} {f : Nat → UInt32} (h : Blk w wr s K f) (t : TypeId) : BlkX w (wr.alloc (.cells s.vals t)) s K f s := by
  have hz := h.size
  have hn := arr_new wr s.vals t s.at 8 fun j hj => by
    rcases (by omega : j = 0 ∨ j = 1 ∨ j = 2 ∨ j = 3 ∨ j = 4 ∨ j = 5 ∨ j = 6 ∨ j = 7) with rfl | rfl | rfl | rfl | rfl | rfl | rfl | rfl <;> rfl
  rw [hz] at hn
  exact ⟨h.below.alloc (by omega) _, by simp; omega, h.h.alloc (by omega) _, h.k.alloc (by omega) _, h.r.alloc (by omega) _, h.ws.alloc (by omega) _, hn⟩
def setS (w : World) (B : Nat) (y : S8) : World := (((((((w.setCell ⟨B, 0, none⟩ (.int .u32 (y.a.toNat : Int))).setCell ⟨B, 1, none⟩ (.int .u32 (y.b.toNat : Int))).setCell ⟨B, 2, none⟩ (.int .u32 (y.c.toNat : Int))).setCell ⟨B, 3, none⟩ (.int .u32 (y.d.toNat : Int))).setCell ⟨B, 4, none⟩ (.int .u32 (y.e.toNat : Int))).setCell ⟨B, 5, none⟩ (.int .u32 (y.f.toNat : Int))).setCell ⟨B, 6, none⟩ (.int .u32 (y.g.toNat : Int))).setCell ⟨B, 7, none⟩ (.int .u32 (y.h.toNat : Int))
theorem setS_arr {w : World} {B : Nat} {f : Nat → UInt32} (h : Arr w B f 8) (y : S8) : Arr (setS w B y) B y.at 8 := by
  have := (((((((h.set (t := 0) (by omega) y.a).set (t := 1) (by omega) y.b).set (t := 2) (by omega) y.c).set (t := 3) (by omega) y.d).set (t := 4) (by omega) y.e).set (t := 5) (by omega) y.f).set (t := 6) (by omega) y.g).set (t := 7) (by omega) y.h
  exact this.congr fun j hj => by
    rcases (by omega : j = 0 ∨ j = 1 ∨ j = 2 ∨ j = 3 ∨ j = 4 ∨ j = 5 ∨ j = 6 ∨ j = 7) with rfl | rfl | rfl | rfl | rfl | rfl | rfl | rfl <;> rfl
theorem setS_other {w : World} {B C : Nat} {f : Nat → UInt32} {n : Nat} (h : Arr w C f n) (y : S8) (hn : B ≠ C) : Arr (setS w B y) C f n :=
  (((((((h.other (p := ⟨B, 0, none⟩) hn _).other (p := ⟨B, 1, none⟩) hn _).other (p := ⟨B, 2, none⟩) hn _).other (p := ⟨B, 3, none⟩) hn _).other (p := ⟨B, 4, none⟩) hn _).other (p := ⟨B, 5, none⟩) hn _).other (p := ⟨B, 6, none⟩) hn _).other (p := ⟨B, 7, none⟩) hn _
theorem setS_size (w : World) (B : Nat) (y : S8) : (setS w B y).heap.size = w.heap.size := by simp [setS]
theorem setS_below {w0 w : World} {n B : Nat} (h : Below n w0 w) (hB : n ≤ B) (y : S8) : Below n w0 (setS w B y) :=
  (((((((h.setCell (p := ⟨B, 0, none⟩) hB _).setCell (p := ⟨B, 1, none⟩) hB _).setCell (p := ⟨B, 2, none⟩) hB _).setCell (p := ⟨B, 3, none⟩) hB _).setCell (p := ⟨B, 4, none⟩) hB _).setCell (p := ⟨B, 5, none⟩) hB _).setCell (p := ⟨B, 6, none⟩) hB _).setCell (p := ⟨B, 7, none⟩) hB _
theorem BlkX.setX {w wr : World} {s : S8} {K : List UInt32} {f : Nat → UInt32} {x : S8} (h : BlkX w wr s K f x) (y : S8) : BlkX w (setS wr (w.heap.size + 4) y) s K f y :=
  ⟨setS_below h.below (by omega) y, by rw [setS_size]; exact h.size, setS_other h.h y (by omega), setS_other h.k y (by omega), setS_other h.r y (by omega), setS_other h.ws y (by omega), setS_arr h.xs y⟩
def sumTo (s x : S8) (k j : Nat) : UInt32 := if j < k then s.at j + x.at j else s.at j
structure BlkZ (w wr : World) (s : S8) (x : S8) (k : Nat) : Prop where
  below : Below w.heap.size w wr
  size : wr.heap.size = w.heap.size + 5
  h : Arr wr w.heap.size (sumTo s x k) 8
  r : Arr wr (w.heap.size + 2) (fun _ => 0) 8
  xs : Arr wr (w.heap.size + 4) x.at 8
theorem BlkX.toZ {w wr : World} {s : S8} {K : List UInt32} {f : Nat → UInt32} {x : S8} (h : BlkX w wr s K f x) : BlkZ w wr s x 0 := ⟨h.below, h.size, h.h.congr fun j hj => by simp [sumTo], h.r, h.xs⟩
theorem BlkZ.drewN {w wr : World} {s x : S8} {k : Nat} (h : BlkZ w wr s x k) (n : Nat) : BlkZ w (wr.drewN n) s x k := ⟨below_drewN h.below n, h.size, h.h.drewN n, h.r.drewN n, h.xs.drewN n⟩
theorem BlkZ.step {w wr : World} {s x : S8} {k : Nat} (h : BlkZ w wr s x k) (hk : k < 8) : BlkZ w (wr.setCell ⟨w.heap.size, k, none⟩ (.int .u32 ((s.at k + x.at k).toNat : Int))) s x (k + 1) :=
  ⟨h.below.setCell (p := ⟨w.heap.size, k, none⟩) (Nat.le_refl _) _, by simp [h.size], (h.h.set hk _).congr fun j hj => by
    unfold sumTo
    by_cases e : j = k
    · rw [if_pos e, if_pos (by omega), e]
    · rw [if_neg e]
      by_cases e2 : j < k
      · rw [if_pos e2, if_pos (by omega)]
      · rw [if_neg e2, if_neg (by omega)], h.r.other (by simp) _, h.xs.other (by simp) _⟩
theorem upto_start (f : Nat → UInt32) : ∀ j, j < 64 → (fun _ => 0) j = upto f 0 j := fun j hj => by simp [upto]
theorem part_end (f : Nat → UInt32) (t : Nat) (x : UInt32) (h : x = f t) : ∀ j, j < 64 → partW f t x j = upto f (t + 1) j := fun j hj => by
  unfold partW upto
  by_cases e : j = t
  · simp [e, h]
  · rw [if_neg e]
    by_cases e2 : j < t
    · rw [if_pos e2, if_pos (by omega)]
    · rw [if_neg e2, if_neg (by omega)]
theorem upto_set (f : Nat → UInt32) (t : Nat) (y : UInt32) (h : y = f t) : ∀ j, j < 64 → (if j = t then y else upto f t j) = upto f (t + 1) j := fun j hj => part_end f t y h j hj
end Go.Proofs.YtehibiplodjofaaDoor
end
section
/- The walk of digest's block. -/
namespace Go.Proofs.YtehibiplodjofaaDoor
open Go.RowKit
set_option linter.unusedVariables false
set_option linter.unusedSimpArgs false
theorem shl_or (a b n : UInt32) : (a ||| b) <<< n = (a <<< n) ||| (b <<< n) := by
  apply UInt32.toBitVec_inj.1
  simp [BitVec.shiftLeft_or_distrib]
theorem shl_shl8 (a : UInt32) : (a <<< 8) <<< 8 = a <<< 16 := by
  apply UInt32.toBitVec_inj.1
  simp [← BitVec.shiftLeft_add]
theorem shl_shl16 (a : UInt32) : (a <<< 16) <<< 8 = a <<< 24 := by
  apply UInt32.toBitVec_inj.1
  simp [← BitVec.shiftLeft_add]
theorem zero_shl (n : UInt32) : (0 : UInt32) <<< n = 0 := by
  apply UInt32.toBitVec_inj.1
  simp
theorem word4 (l : List UInt8) (t : Nat) (a b c d : UInt8) (ha : l[4 * t]? = some a) (hb : l[4 * t + 1]? = some b) (hc : l[4 * t + 2]? = some c) (hd : l[4 * t + 3]? = some d) :
    wordAt l t = (a.toUInt32 <<< 24 ||| b.toUInt32 <<< 16 ||| c.toUInt32 <<< 8 ||| d.toUInt32) := by
  unfold wordAt
  rw [wpart_succ _ 3 d (by rw [List.getElem?_drop]; exact hd), wpart_succ _ 2 c (by rw [List.getElem?_drop]; exact hc), wpart_succ _ 1 b (by rw [List.getElem?_drop]; exact hb), wpart_succ _ 0 a (by rw [List.getElem?_drop]; exact ha)]
  show ((((0 : UInt32) <<< 8 ||| a.toUInt32) <<< 8 ||| b.toUInt32) <<< 8 ||| c.toUInt32) <<< 8 ||| d.toUInt32 = _
  simp only [zero_shl, UInt32.zero_or, shl_or, shl_shl8, shl_shl16]
theorem b24 (u : UInt8) : (u.toNat : Int) * (16777216 : Int) = ((u.toUInt32 <<< 24).toNat : Int) := by
  have h := u.toNat_lt
  rw [UInt32.toNat_shiftLeft, UInt8.toNat_toUInt32, Nat.shiftLeft_eq]
  simp
  omega
theorem b16 (u : UInt8) : (u.toNat : Int) * (65536 : Int) = ((u.toUInt32 <<< 16).toNat : Int) := by
  have h := u.toNat_lt
  rw [UInt32.toNat_shiftLeft, UInt8.toNat_toUInt32, Nat.shiftLeft_eq]
  simp
  omega
theorem b8 (u : UInt8) : (u.toNat : Int) * (256 : Int) = ((u.toUInt32 <<< 8).toNat : Int) := by
  have h := u.toNat_lt
  rw [UInt32.toNat_shiftLeft, UInt8.toNat_toUInt32, Nat.shiftLeft_eq]
  simp
  omega
set_option maxRecDepth 100000 in
set_option maxHeartbeats 1000000 in
theorem pblock_any (s : S8) (K : List UInt32) (kc : Array Value) (hk : K.length = 64) (hkc : kc = (K.map U).toArray) (l : List UInt8) (b off n c : Nat) (w : World) (hn : n < 1000000) (ha : 64 ≤ n)
   (hl : ∀ j u, l[j]? = some u → w.cell? ⟨b, off + j, none⟩ = some (.int .u8 (u.toNat : Int))) (hl2 : 64 ≤ l.length) :
   Calls Tryd.prog 63 #[.agg s.vals, .slice (some ⟨b, off, none⟩) n c, .agg kc] w fun e w' => e = .returned (.agg (blockS K s l).vals) ∧ Below w.heap.size w w' := by
  have H0 := blk_start w s K kc _ 105 106 105 106 hk hkc rfl
  have hb : b < w.heap.size := by
    obtain ⟨u, hu⟩ : ∃ u, l[0]? = some u := ⟨_, List.getElem?_eq_getElem (by omega)⟩
    exact cell_lt (hl 0 u hu)
  clear hkc
  unfold S8.vals at H0 ⊢
  go_enter Tryd.func63, Tryd.ntmps63
  go_wp2
  go_loopw [8, 19] (fun v t wr => ∃ (k : Nat), k ≤ 16 ∧ t = .int .i64 k ∧ Blk w wr s K (upto (schedF l) k)) (fun _ t _ => 16 - (intOf t).toNat)
  case atStart => exact ⟨0, by omega, rfl, H0.congr (upto_start _)⟩
  case round =>
    clear H0
    obtain ⟨k, hk16, rfl, HB⟩ := hrel
    have hsz := HB.size
    by_cases h16 : k < 16
    · obtain ⟨u0, hu0⟩ : ∃ u, l[4 * k]? = some u := ⟨_, List.getElem?_eq_getElem (by omega)⟩
      obtain ⟨u1, hu1⟩ : ∃ u, l[4 * k + 1]? = some u := ⟨_, List.getElem?_eq_getElem (by omega)⟩
      obtain ⟨u2, hu2⟩ : ∃ u, l[4 * k + 2]? = some u := ⟨_, List.getElem?_eq_getElem (by omega)⟩
      obtain ⟨u3, hu3⟩ : ∃ u, l[4 * k + 3]? = some u := ⟨_, List.getElem?_eq_getElem (by omega)⟩
      have hw := word4 l k u0 u1 u2 u3 hu0 hu1 hu2 hu3
      have HW := Lib.hid hw
      have c0 := heap_cell (HB.below.block b hb) (hl _ _ hu0)
      have c1 := heap_cell (HB.below.block b hb) (hl _ _ hu1)
      have c2 := heap_cell (HB.below.block b hb) (hl _ _ hu2)
      have c3 := heap_cell (HB.below.block b hb) (hl _ _ hu3)
      have rk := HB.ws.cell (j := k) (by omega)
      have fk := HB.ws.froz (j := k) (by omega)
      have g0 := u0.toNat_lt
      have g1 := u1.toNat_lt
      have g2 := u2.toNat_lt
      have g3 := u3.toNat_lt
      clear hw hu0 hu1 hu2 hu3
      go_wp2
      go_region
      go_wp2
      go_roundw
      case rel =>
        refine ⟨k + 1, by omega, by go_num, ?_⟩
        rw [b24, b16, b8, u8_u32 u3, u32_or, u32_or, u32_or, ← HW.out]
        exact ((HB.set (k := k) (by omega) (wordAt l k)).drewN 1).congr (upto_set _ _ _ (schedF_lo l k h16).symm)
      case measure => simp [intOf]; omega
    · obtain rfl : k = 16 := by omega
      go_wp2
      go_loopw [9, 10, 11] (fun t x y wr => ∃ (k : Nat), 16 ≤ k ∧ k ≤ 64 ∧ t = .int .i64 k ∧ Blk w wr s K (upto (schedF l) k)) (fun t _ _ _ => 64 - (intOf t).toNat)
      case atStart => exact ⟨16, by omega, by omega, rfl, HB⟩
      case round =>
        clear HB hsz
        obtain ⟨k, k16, hk64, rfl, HB⟩ := hrel
        have hsz := HB.size
        by_cases hlt : k < 64
        · go_wp2_with fail
          have e16 : ∀ d : Nat, d ≤ 16 → 1 ≤ d → upto (schedF l) k (k - d) = schedF l (k - d) := fun d h1 h2 => by unfold upto; rw [if_pos (by omega)]
          have E16 := Lib.hid e16
          have hs := schedF_hi l k (by omega) hlt
          have HS := Lib.hid hs
          clear hs e16
          have r15 := HB.ws.cell (j := k - 15) (by omega)
          rw [E16.out 15 (by omega) (by omega)] at r15
          go_quiet (exact Calls.quiet_of_same (turned_c _ _ _ (by simp [Cnt])))
          clear r15
          replace HB := HB.drewN nq
          generalize wr.drewN nq = wr at HB ⊢
          go_wp2_with fail
          have r2 := HB.ws.cell (j := k - 2) (by omega)
          rw [E16.out 2 (by omega) (by omega)] at r2
          go_quiet (exact Calls.quiet_of_same (turned_c _ _ _ (by simp [Cnt])))
          clear r2
          replace HB := HB.drewN nq
          generalize wr.drewN nq = wr at HB ⊢
          go_wp2_with fail
          have r7 := HB.ws.cell (j := k - 7) (by omega)
          have r16 := HB.ws.cell (j := k - 16) (by omega)
          have rk := HB.ws.cell (j := k) (by omega)
          have fk := HB.ws.froz (j := k) (by omega)
          rw [E16.out 7 (by omega) (by omega)] at r7
          rw [E16.out 16 (by omega) (by omega)] at r16
          go_region
          go_wp2
          go_roundw
          case rel =>
            refine ⟨k + 1, by omega, by omega, by go_num, ?_⟩
            simp only [shr_3, shr_10, u32_xor, u32_add, u32_add3, u32_add4, u32_add5, cnt_7, cnt_18, cnt_17, cnt_19, ← sg0_def, ← sg1_def, ← HS.out]
            exact ((HB.set hlt (schedF l k)).drewN 1).congr (upto_set _ _ _ rfl)
          case measure => simp [intOf]; omega
        · obtain rfl : k = 64 := by omega
          have HB2 : Blk w wr s K (schedF l) := HB.congr fun j hj => by unfold upto; rw [if_pos hj]
          clear HB
          have h0 := HB2.h.cell (j := 0) (by omega)
          have h1 := HB2.h.cell (j := 1) (by omega)
          have h2 := HB2.h.cell (j := 2) (by omega)
          have h3 := HB2.h.cell (j := 3) (by omega)
          have h4 := HB2.h.cell (j := 4) (by omega)
          have h5 := HB2.h.cell (j := 5) (by omega)
          have h6 := HB2.h.cell (j := 6) (by omega)
          have h7 := HB2.h.cell (j := 7) (by omega)
          simp only [S8.at] at h0 h1 h2 h3 h4 h5 h6 h7
          go_wp2
          go_loopw [13, 14, 15, 16, 17, 112] (fun _ _ _ _ _ t wr => ∃ (k : Nat), k ≤ 64 ∧ t = .int .i64 k ∧ BlkX w wr s K (schedF l) (rnds K l s k)) (fun _ _ _ _ _ t _ => 64 - (intOf t).toNat)
          case atStart =>
            exact ⟨0, by omega, rfl, HB2.toX 105⟩
          case round =>
            clear h0 h1 h2 h3 h4 h5 h6 h7 hsz HB2
            obtain ⟨k, hk64, rfl, HB⟩ := hrel
            by_cases hlt : k < 64
            · go_wp2_with fail
              have hs := rnds_succ K l s k
              have HS := Lib.hid hs
              clear hs
              generalize rnds K l s k = x at HB HS
              have h0 := HB.xs.cell (j := 0) (by omega)
              have h1 := HB.xs.cell (j := 1) (by omega)
              have h2 := HB.xs.cell (j := 2) (by omega)
              have h3 := HB.xs.cell (j := 3) (by omega)
              have h4 := HB.xs.cell (j := 4) (by omega)
              have h5 := HB.xs.cell (j := 5) (by omega)
              have h6 := HB.xs.cell (j := 6) (by omega)
              have h7 := HB.xs.cell (j := 7) (by omega)
              simp only [S8.at] at h0 h1 h2 h3 h4 h5 h6 h7
              go_quiet (fail)
              replace HB := HB.drewN nq
              clear h0 h1 h2 h3 h4 h5 h6 h7
              generalize wr.drewN nq = wr at HB ⊢
              go_wp2_with fail
              have h5 := HB.xs.cell (j := 5) (by omega)
              have h6 := HB.xs.cell (j := 6) (by omega)
              have h7 := HB.xs.cell (j := 7) (by omega)
              simp only [S8.at] at h5 h6 h7
              have hk0 := HB.k.cell (j := k) hlt
              obtain ⟨kk, hkq⟩ : ∃ kk, K.getD k 0 = kk := ⟨_, rfl⟩
              have hkk : wr.cell? ⟨w.heap.size + 1, k, none⟩ = some (.int .u32 (kk.toNat : Int)) := by rw [← hkq]; exact hk0
              clear hk0
              have HKK := Lib.hid hkq
              clear hkq
              have hkw := HB.ws.cell (j := k) hlt
              go_quiet (exact Calls.quiet_of_same (turned_c _ _ _ (by simp [Cnt])))
              replace HB := HB.drewN nq
              clear h5 h6 h7 hkk hkw
              generalize wr.drewN nq = wr at HB ⊢
              go_wp2_with fail
              have h0 := HB.xs.cell (j := 0) (by omega)
              have h1 := HB.xs.cell (j := 1) (by omega)
              have h2 := HB.xs.cell (j := 2) (by omega)
              simp only [S8.at] at h0 h1 h2
              go_quiet (exact Calls.quiet_of_same (turned_c _ _ _ (by simp [Cnt])))
              replace HB := HB.drewN nq
              clear h0 h1 h2
              generalize wr.drewN nq = wr at HB ⊢
              have h0 := HB.xs.cell (j := 0) (by omega)
              have h1 := HB.xs.cell (j := 1) (by omega)
              have h2 := HB.xs.cell (j := 2) (by omega)
              have h3 := HB.xs.cell (j := 3) (by omega)
              have h4 := HB.xs.cell (j := 4) (by omega)
              have h5 := HB.xs.cell (j := 5) (by omega)
              have h6 := HB.xs.cell (j := 6) (by omega)
              have h7 := HB.xs.cell (j := 7) (by omega)
              have f0 := HB.xs.froz (j := 0) (by omega)
              have f1 := HB.xs.froz (j := 1) (by omega)
              have f2 := HB.xs.froz (j := 2) (by omega)
              have f3 := HB.xs.froz (j := 3) (by omega)
              have f4 := HB.xs.froz (j := 4) (by omega)
              have f5 := HB.xs.froz (j := 5) (by omega)
              have f6 := HB.xs.froz (j := 6) (by omega)
              have f7 := HB.xs.froz (j := 7) (by omega)
              simp only [S8.at] at h0 h1 h2 h3 h4 h5 h6 h7
              go_wp2
              go_roundw
              case rel =>
                simp only [cnt_2, cnt_6, cnt_11, cnt_13, cnt_22, cnt_25, u32_xor, u32_and, u32_notx, ← bs0_def, ← bs1_def, u32_t12, u32_dt1]
                have HR : ∃ k' : Nat, k' ≤ 64 ∧ (Value.int .i64 ((k : Int) + 1)) = .int .i64 k' ∧ BlkX w (setS wr (w.heap.size + 4) ⟨x.h + bs1 x.e + ((x.e &&& x.f) ^^^ (~~~x.e &&& x.g)) + kk + schedF l k + (bs0 x.a + ((x.a &&& x.b) ^^^ (x.a &&& x.c) ^^^ (x.b &&& x.c))), x.a, x.b, x.c, x.d + (x.h + bs1 x.e + ((x.e &&& x.f) ^^^ (~~~x.e &&& x.g)) + kk + schedF l k), x.e, x.f, x.g⟩) s K (schedF l) (rnds K l s k') :=
                  ⟨k + 1, by omega, by go_num, by rw [HS.out, HKK.out]; exact HB.setX _⟩
                first | exact HR | ((repeat apply Exists.intro); refine ⟨HR, ?_⟩; first | rfl | (repeat' (first | apply And.intro | rfl)))
              case measure => simp [intOf]; omega
            · obtain rfl : k = 64 := by omega
              generalize hx : rnds K l s 64 = x at HB
              have HX := Lib.hid hx
              clear hx
              go_wp2
              go_loopw [18, 192] (fun _ i wr => ∃ (k : Nat), k ≤ 8 ∧ i = .int .i64 k ∧ BlkZ w wr s x k) (fun _ i _ => 8 - (intOf i).toNat)
              case atStart => exact ⟨0, by omega, rfl, HB.toZ⟩
              case round =>
                clear HB
                obtain ⟨k, hk8, rfl, HB⟩ := hrel
                by_cases hlt : k < 8
                · have hh := HB.h.cell (j := k) hlt
                  have fh := HB.h.froz (j := k) hlt
                  have hx := HB.xs.cell (j := k) hlt
                  simp only [sumTo, if_neg (show ¬ k < k by omega)] at hh
                  go_wp2
                  go_region
                  go_wp2
                  go_roundw
                  case rel =>
                    refine ⟨k + 1, by omega, by go_num, ?_⟩
                    simp only [u32_add]
                    exact (HB.step hlt).drewN 1
                  case measure => simp [intOf]; omega
                · obtain rfl : k = 8 := by omega
                  have HZ : Arr wr w.heap.size (addS s x).at 8 := HB.h.congr fun j hj => by
                    unfold sumTo
                    rw [if_pos hj]
                    rcases (by omega : j = 0 ∨ j = 1 ∨ j = 2 ∨ j = 3 ∨ j = 4 ∨ j = 5 ∨ j = 6 ∨ j = 7) with rfl | rfl | rfl | rfl | rfl | rfl | rfl | rfl <;> rfl
                  have h0 := HZ.cell (j := 0) (by omega)
                  have r0 := HB.r.cell (j := 0) (by omega)
                  have f0 := HB.r.froz (j := 0) (by omega)
                  have h1 := HZ.cell (j := 1) (by omega)
                  have r1 := HB.r.cell (j := 1) (by omega)
                  have f1 := HB.r.froz (j := 1) (by omega)
                  have h2 := HZ.cell (j := 2) (by omega)
                  have r2 := HB.r.cell (j := 2) (by omega)
                  have f2 := HB.r.froz (j := 2) (by omega)
                  have h3 := HZ.cell (j := 3) (by omega)
                  have r3 := HB.r.cell (j := 3) (by omega)
                  have f3 := HB.r.froz (j := 3) (by omega)
                  have h4 := HZ.cell (j := 4) (by omega)
                  have r4 := HB.r.cell (j := 4) (by omega)
                  have f4 := HB.r.froz (j := 4) (by omega)
                  have h5 := HZ.cell (j := 5) (by omega)
                  have r5 := HB.r.cell (j := 5) (by omega)
                  have f5 := HB.r.froz (j := 5) (by omega)
                  have h6 := HZ.cell (j := 6) (by omega)
                  have r6 := HB.r.cell (j := 6) (by omega)
                  have f6 := HB.r.froz (j := 6) (by omega)
                  have h7 := HZ.cell (j := 7) (by omega)
                  have r7 := HB.r.cell (j := 7) (by omega)
                  have f7 := HB.r.froz (j := 7) (by omega)
                  simp only [S8.at] at h0 h1 h2 h3 h4 h5 h6 h7
                  have hHB := HB
                  clear HB HZ
                  go_wp2
                  have HV := setS_arr hHB.r (addS s x)
                  have z0 := HV.cell (j := 0) (by omega)
                  have z1 := HV.cell (j := 1) (by omega)
                  have z2 := HV.cell (j := 2) (by omega)
                  have z3 := HV.cell (j := 3) (by omega)
                  have z4 := HV.cell (j := 4) (by omega)
                  have z5 := HV.cell (j := 5) (by omega)
                  have z6 := HV.cell (j := 6) (by omega)
                  have z7 := HV.cell (j := 7) (by omega)
                  simp only [setS, S8.at] at z0 z1 z2 z3 z4 z5 z6 z7
                  have hbl := setS_below hHB.below (show w.heap.size ≤ w.heap.size + 2 by omega) (addS s x)
                  clear h0 h1 h2 h3 h4 h5 h6 h7 r0 r1 r2 r3 r4 r5 r6 r7 f0 f1 f2 f3 f4 f5 f6 f7 HV hHB
                  refine bodyPost_ret (v := .agg (addS s x).vals) ?_ rfl ⟨?_, hbl⟩
                  · simp [results, Tryd.results63, go_sem, z0, z1, z2, z3, z4, z5, z6, z7, S8.vals]
                  · have hx := HX.out
                    subst hx
                    rfl
end Go.Proofs.YtehibiplodjofaaDoor
end
