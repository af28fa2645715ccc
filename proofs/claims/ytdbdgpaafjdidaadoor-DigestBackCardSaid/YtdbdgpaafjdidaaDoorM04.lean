/- The statements DigestKnown, DigestBack: their walks. -/
import Derived.Test.YtdbdgpaafjdidaaDoorProg
import Derived.Test.YtdbdgpaafjdidaaDoorL04
import Derived.Lib.SlBytesConst
import Derived.Deep.RegionHeld3
import Derived.Deep.MidRow
namespace Go.Proofs.YtdbdgpaafjdidaaDoor
open Go.RowKit
set_option linter.unusedVariables false
set_option linter.unusedSimpArgs false
theorem hexN_hexD (n : Nat) (h : n < 16) : hexN (hexD n).toNat = n := by
  have hh : ∀ i : Fin 16, hexN (hexD i.1).toNat = i.1 := by decide
  exact hh ⟨n, h⟩
theorem hexByte_hexD (c : UInt8) : hexByte (hexD (c.toNat / 16)) (hexD (c.toNat % 16)) = c := by
  have h256 := c.toNat_lt
  unfold hexByte
  rw [hexN_hexD _ (by omega), hexN_hexD _ (by omega)]
  apply UInt8.toNat_inj.1
  simp
  omega
theorem undig_hexs : ∀ l : List UInt8, undig (hexs l) = some l
  | [] => rfl
  | c :: r => by
    have h256 := c.toNat_lt
    simp only [hexs, undig]
    rw [hexN_hexD _ (by omega), hexN_hexD _ (by omega), if_neg (by omega), if_neg (by omega), undig_hexs r, hexByte_hexD]
    rfl
theorem hexD_hexN (a : UInt8) (h : 0 ≤ hexN a.toNat) : hexD (hexN a.toNat).toNat = a := by
  have hh : ∀ i : Fin 256, 0 ≤ hexN i.1 → hexD (hexN i.1).toNat = i.1.toUInt8 := by decide +kernel
  have := hh ⟨a.toNat, a.toNat_lt⟩ h
  rw [this]
  simp
theorem hexs_undig : ∀ l m : List UInt8, undig l = some m → hexs m = l
  | [], m, h => by simp [undig] at h; subst h; rfl
  | [_], m, h => by simp [undig] at h
  | a :: b :: r, m, h => by
    simp only [undig] at h
    split at h
    · cases h
    rename_i ha
    split at h
    · cases h
    rename_i hb
    cases hh : undig r with
    | none => simp [hh] at h
    | some x =>
      simp [hh] at h
      subst h
      have ih := hexs_undig r x hh
      have hv := hexByte_val a b (by omega) (by omega)
      have h2 := hexN_hi b.toNat
      have e1 : (hexByte a b).toNat / 16 = (hexN a.toNat).toNat := by omega
      have e2 : (hexByte a b).toNat % 16 = (hexN b.toNat).toNat := by omega
      simp only [hexs]
      rw [e1, e2, hexD_hexN a (by omega), hexD_hexN b (by omega), ih]
theorem eqD (a b : List UInt8) (ha : a.length = 32) (hb : b.length = 32) (W : World) : (Op.equalIn 10000 24 (.agg (Lib.byteCells a).toArray) (.agg (Lib.byteCells b).toArray)).run Tryd.prog W = .ok (decide (a = b)) W :=
  run_eq_bytes W 24 5 32 Tryd.underlying24 Tryd.underlying5 (fun w => by kernel_rfl) (by kernel_rfl) _ _ ha hb
def longB : List UInt8 := ([97, 98, 99, 100, 98, 99, 100, 101, 99, 100, 101, 102, 100, 101, 102, 103, 101, 102, 103, 104, 102, 103, 104, 105, 103, 104, 105, 106, 104, 105, 106, 107, 105, 106, 107, 108, 106, 107, 108, 109, 107, 108, 109, 110, 108, 109, 110, 111, 109, 110, 111, 112, 110, 111, 112, 113] : List UInt8)
theorem dig_long : hexs (dig longB) = ([50, 52, 56, 100, 54, 97, 54, 49, 100, 50, 48, 54, 51, 56, 98, 56, 101, 53, 99, 48, 50, 54, 57, 51, 48, 99, 51, 101, 54, 48, 51, 57, 97, 51, 51, 99, 101, 52, 53, 57, 54, 52, 102, 102, 50, 49, 54, 55, 102, 54, 101, 99, 101, 100, 100, 52, 49, 57, 100, 98, 48, 54, 99, 49] : List UInt8) := by kernel_rfl
theorem lit_src (w : World) (l : List UInt8) (fr : Nat × Nat) (c : Array Value) (n : Nat) (hn : n = l.length) (hc : c = (Lib.byteCells l).toArray) : Src (w.alloc (.cells c 5 fr)) (.slice (some ⟨w.heap.size, 0, none⟩) n n) (Lib.byteCells l) := by
  subst hn hc
  refine .inr ⟨w.heap.size, 0, l.length, by rw [bc_len], by rw [bc_len]; exact Nat.le_refl _, fun j x hj => ?_⟩
  rw [Nat.zero_add, cell_of_row _ _ j _ _ fr (heap_alloc_new w _), List.getElem?_toArray]
  exact hj
theorem pRead_at (s : ByteArray) (r : List UInt8 × Int) (w : World) (hs : s.size ≤ 1000000) (hr : readS s.data.toList = r) : Calls Tryd.prog 10 #[.string s] w fun e w' => e = .returned (.tuple #[.agg (Lib.byteCells r.1).toArray, .int .i64 r.2]) ∧ Below w.heap.size w w' := by
  subst hr
  exact pRead_any s w hs
theorem tags_nil : tagsV [] = (⟨(hexs ((dig []).take 16) ++ [45, 48]).toArray⟩, 0) := by
  unfold tagsV
  rw [if_neg (by simp)]
  simp only [tagsA, List.length_nil]
  rw [show decS 0 = ⟨#[48]⟩ by unfold decS; rw [Lib.decDigits_one (by omega)]; rfl]
  congr 1
theorem tags_x : tagsV [(⟨#[120]⟩ : ByteArray)] = (⟨#[]⟩, 4) := by
  unfold tagsV
  rw [if_neg (by simp)]
  rfl
def KB (w W : World) : Prop := Below w.heap.size w W
theorem KB.step {w W W2 : World} (h : KB w W) (hb : Below W.heap.size W W2) : KB w W2 := bstep h hb (Nat.le_refl _)
theorem KB.alloc {w W : World} (h : KB w W) (o : Obj) : KB w (W.alloc o) := Below.alloc h h.size o
theorem KB.drew {w W : World} (h : KB w W) : KB w W.drew := ⟨h.os, h.tape, h.output, h.size, h.block⟩
theorem rangeAt_below {W W2 : World} {b o : Nat} {cs : List Value} (h : W.rangeAt b o cs) (hb : Below W.heap.size W W2) : W2.rangeAt b o cs := fun j v hv => below_cell hb (h j v hv)
theorem below_lit {W W2 : World} {o : Obj} (hb : Below (W.alloc o).heap.size (W.alloc o) W2) : Below W.heap.size W W2 := ((Below.refl _ W).alloc (Nat.le_refl _) _).trans (hb.mono (by simp))
set_option maxRecDepth 10000 in
set_option maxHeartbeats 2000000 in
theorem dknown_any (w : World) : Calls Tryd.prog 4 #[] w fun e w' => e = .returned (.bool true) ∧ Below w.heap.size w w' := by
  have r64 := fun W => Tryd.strings_Repeat (⟨#[48]⟩ : ByteArray) 64 W (by omega) (by decide)
  have r63 := fun W => Tryd.strings_Repeat (⟨#[48]⟩ : ByteArray) 63 W (by omega) (by decide)
  have g64 := fun W => Tryd.strings_Repeat (⟨#[71]⟩ : ByteArray) 64 W (by omega) (by decide)
  obtain ⟨s1, h1⟩ : ∃ s : ByteArray, (⟨(Lib.repeatL ((⟨#[48]⟩ : ByteArray)).data.toList 64).toArray⟩ : ByteArray) = s := ⟨_, rfl⟩
  obtain ⟨s2, h2⟩ : ∃ s : ByteArray, (⟨(Lib.repeatL ((⟨#[48]⟩ : ByteArray)).data.toList 63).toArray⟩ : ByteArray) = s := ⟨_, rfl⟩
  obtain ⟨s3, h3⟩ : ∃ s : ByteArray, (⟨(Lib.repeatL ((⟨#[71]⟩ : ByteArray)).data.toList 64).toArray⟩ : ByteArray) = s := ⟨_, rfl⟩
  have d1 := fun W => pRead_at s1 (zero32, 0) W (by rw [← h1]; simp [ByteArray.size_mk', Lib.repeatL_length]) (by rw [← h1]; kernel_rfl)
  have d2 := fun W => pRead_at s2 (zero32, 4) W (by rw [← h2]; simp [ByteArray.size_mk', Lib.repeatL_length]) (by rw [← h2]; kernel_rfl)
  have d3 := fun W => pRead_at s3 (zero32, 4) W (by rw [← h3]; simp [ByteArray.size_mk', Lib.repeatL_length]) (by rw [← h3]; kernel_rfl)
  rw [h1] at r64
  rw [h2] at r63
  rw [h3] at g64
  clear h1 h2 h3
  have hq0 : ∀ W, (Op.equalIn 10000 24 (.agg (Lib.byteCells zero32).toArray) (.agg #[.int .u8 0, .int .u8 0, .int .u8 0, .int .u8 0, .int .u8 0, .int .u8 0, .int .u8 0, .int .u8 0, .int .u8 0, .int .u8 0, .int .u8 0, .int .u8 0, .int .u8 0, .int .u8 0, .int .u8 0, .int .u8 0, .int .u8 0, .int .u8 0, .int .u8 0, .int .u8 0, .int .u8 0, .int .u8 0, .int .u8 0, .int .u8 0, .int .u8 0, .int .u8 0, .int .u8 0, .int .u8 0, .int .u8 0, .int .u8 0, .int .u8 0, .int .u8 0])).run Tryd.prog W = .ok true W := fun W => by
    have h := eqD zero32 zero32 rfl rfl W
    rw [← z32_eq]
    rw [show decide (zero32 = zero32) = true by simp] at h
    exact h
  have t1 := fun W => pTags_any (.slice none 0 0) [] W (.inl ⟨none, 0, rfl, fun _ => rfl, rfl⟩) (by simp)
  rw [tags_nil] at t1
  have t2 := fun b W h => pTags_any b [(⟨#[120]⟩ : ByteArray)] W h (by intro s hs; simp at hs; subst hs; decide)
  rw [tags_x] at t2
  have kc := fun (w : World) (C : Array Value) (n c : Nat) => Lib.run_convert_bytes_const (P := Tryd.prog) w 26 5 C n c Tryd.underlying26 Tryd.underlying5
  go_enter Tryd.func4, Tryd.ntmps4
  go_wp2_with fail
  refine (r64 _).mono ?_
  rintro e w1 ⟨rfl, hb1⟩
  go_wp2_with fail
  refine (d1 _).mono ?_
  rintro e w2 ⟨rfl, hb2⟩
  replace hb1 := bstep hb1 hb2 (Nat.le_refl _)
  clear hb2
  replace hb1 := hb1.alloc hb1.size (.cells (Lib.byteCells zero32).toArray 24)
  go_wp2_with (refine store32 24 infoD zero32 rfl rfl _ _ rfl w2.heap.size rfl rfl 24 z32 (by rw [z32_eq]; exact heap_alloc_new w2 _) z32_size ?_; rw [World.setRow_alloc_new])
  obtain ⟨g, hg⟩ : ∃ g, w2.heap.size = g := ⟨_, rfl⟩
  have hrow := heap_alloc_new w2 (.cells (Lib.byteCells zero32).toArray 24)
  rw [hg] at hrow
  obtain ⟨W2, hW2⟩ : ∃ W2, w2.alloc (.cells (Lib.byteCells zero32).toArray 24) = W2 := ⟨_, rfl⟩
  rw [hW2] at hb1 hrow ⊢
  rw [hg]
  clear hW2 hg
  refine (r63 _).mono ?_
  rintro e w3 ⟨rfl, hb2⟩
  replace hb1 := bstep hb1 hb2 (Nat.le_refl _)
  replace hrow := (hb2.block g (Array.getElem?_eq_some_iff.1 hrow).1).trans hrow
  clear hb2
  go_wp2_with fail
  refine (d2 _).mono ?_
  rintro e w4 ⟨rfl, hb2⟩
  replace hb1 := bstep hb1 hb2 (Nat.le_refl _)
  replace hrow := (hb2.block g (Array.getElem?_eq_some_iff.1 hrow).1).trans hrow
  clear hb2
  replace hrow := (heap_alloc_old w4 (.cells (Lib.byteCells zero32).toArray 24) (Array.getElem?_eq_some_iff.1 hrow).1).trans hrow
  replace hb1 := hb1.alloc hb1.size (.cells (Lib.byteCells zero32).toArray 24)
  go_wp2_with (refine store32 24 infoD zero32 rfl rfl _ _ rfl w4.heap.size rfl rfl 24 z32 (by rw [z32_eq]; exact heap_alloc_new w4 _) z32_size ?_; rw [World.setRow_alloc_new])
  refine (g64 _).mono ?_
  rintro e w5 ⟨rfl, hb2⟩
  replace hb1 := bstep hb1 hb2 (Nat.le_refl _)
  replace hrow := (hb2.block g (Array.getElem?_eq_some_iff.1 hrow).1).trans hrow
  clear hb2
  go_wp2_with fail
  refine (d3 _).mono ?_
  rintro e w6 ⟨rfl, hb2⟩
  replace hb1 := bstep hb1 hb2 (Nat.le_refl _)
  replace hrow := (hb2.block g (Array.getElem?_eq_some_iff.1 hrow).1).trans hrow
  clear hb2
  replace hrow := (heap_alloc_old w6 (.cells (Lib.byteCells zero32).toArray 24) (Array.getElem?_eq_some_iff.1 hrow).1).trans hrow
  replace hb1 := hb1.alloc hb1.size (.cells (Lib.byteCells zero32).toArray 24)
  go_wp2_with (refine store32 24 infoD zero32 rfl rfl _ _ rfl w6.heap.size rfl rfl 24 z32 (by rw [z32_eq]; exact heap_alloc_new w6 _) z32_size ?_; rw [World.setRow_alloc_new])
  refine (t1 _).mono ?_
  rintro e w7 ⟨rfl, hb2⟩
  replace hb1 := bstep hb1 hb2 (Nat.le_refl _)
  replace hrow := (hb2.block g (Array.getElem?_eq_some_iff.1 hrow).1).trans hrow
  clear hb2
  have hx : Src (w7.alloc (.cells #[.string (⟨#[120]⟩ : ByteArray)] 9)) (.slice (some ⟨w7.heap.size, 0, none⟩) 1 1) ([(⟨#[120]⟩ : ByteArray)].map Value.string) := .inr ⟨w7.heap.size, 0, 1, rfl, Nat.le_refl _, fun j x hj => by
    rw [Nat.zero_add, cell_of_row _ _ j _ _ (0, 0) (heap_alloc_new w7 _)]
    rw [← hj]
    simp⟩
  go_wp2_with fail
  refine (t2 _ _ hx).mono ?_
  rintro e w8 ⟨rfl, hb2⟩
  replace hb2 := ((Below.refl _ w7).alloc (Nat.le_refl _) _).trans (hb2.mono (by simp))
  replace hb1 := bstep hb1 hb2 (Nat.le_refl _)
  replace hrow := (hb2.block g (Array.getElem?_eq_some_iff.1 hrow).1).trans hrow
  clear hb2 hx
  have hdL := dig_long
  have HDL := Lib.hid hdL
  clear hdL
  go_wp2_with fail
  refine (pSum_any _ longB _ (by decide) (lit_src w8 longB _ _ 56 rfl (by kernel_rfl))).mono ?_
  rintro e w9 ⟨rfl, hb2⟩
  replace hb2 := ((Below.refl _ w8).alloc (Nat.le_refl _) _).trans (hb2.mono (by simp))
  replace hb1 := bstep hb1 hb2 (Nat.le_refl _)
  replace hrow := (hb2.block g (Array.getElem?_eq_some_iff.1 hrow).1).trans hrow
  clear hb2
  unfold digV
  go_wp2_with fail
  refine (pHex_any _ (dig_len _) _).mono ?_
  rintro e w10 ⟨rfl, hb2⟩
  replace hb1 := bstep hb1 hb2 (Nat.le_refl _)
  replace hrow := (hb2.block g (Array.getElem?_eq_some_iff.1 hrow).1).trans hrow
  clear hb2
  rw [HDL.out]
  have hk1 : KB w w10 := hb1
  have hlt : g < w10.heap.size := (Array.getElem?_eq_some_iff.1 hrow).1
  have hr1 := World.rangeAt_of_block hrow 0 32
  rw [show ((Lib.byteCells zero32).toArray.extract 0 (0 + 32)).toList = Lib.byteCells zero32 by kernel_rfl] at hr1
  have hr0 : w10.drew.rangeAt g 0 (Lib.byteCells zero32) ∧ KB w w10.drew := ⟨hr1, hk1.drew⟩
  have hUD := Tryd.underlying24
  have hID : (Tryd.prog.info? 24).map (·.size) = some (Lib.byteCells zero32).length := by kernel_rfl
  have htg : tagS [97, 98, 99] = (⟨#[98, 97, 55, 56, 49, 54, 98, 102, 56, 102, 48, 49, 99, 102, 101, 97, 52, 49, 52, 49, 52, 48, 100, 101, 53, 100, 97, 101, 50, 50, 50, 51]⟩ : ByteArray) := by kernel_rfl
  have h0 : (⟨(hexs ((dig []).take 16) ++ [45, 48]).toArray⟩ : ByteArray) = (⟨#[101, 51, 98, 48, 99, 52, 52, 50, 57, 56, 102, 99, 49, 99, 49, 52, 57, 97, 102, 98, 102, 52, 99, 56, 57, 57, 54, 102, 98, 57, 50, 52, 45, 48]⟩ : ByteArray) := by kernel_rfl
  rw [h0]
  clear h0 hb1
  have hsl := fun W => slice_to (P := Tryd.prog) 9 Tryd.underlying9 .i64 (⟨#[98, 97, 55, 56, 49, 54, 98, 102, 56, 102, 48, 49, 99, 102, 101, 97, 52, 49, 52, 49, 52, 48, 100, 101, 53, 100, 97, 101, 50, 50, 50, 51, 98, 48, 48, 51, 54, 49, 97, 51, 57, 54, 49, 55, 55, 97, 57, 99, 98, 52, 49, 48, 102, 102, 54, 49, 102, 50, 48, 48, 49, 53, 97, 100]⟩ : ByteArray) 32 32 rfl (by decide) W
  have hs1 : (⟨(((⟨#[98, 97, 55, 56, 49, 54, 98, 102, 56, 102, 48, 49, 99, 102, 101, 97, 52, 49, 52, 49, 52, 48, 100, 101, 53, 100, 97, 101, 50, 50, 50, 51, 98, 48, 48, 51, 54, 49, 97, 51, 57, 54, 49, 55, 55, 97, 57, 99, 98, 52, 49, 48, 102, 102, 54, 49, 102, 50, 48, 48, 49, 53, 97, 100]⟩ : ByteArray)).data.toList.take 32).toArray⟩ : ByteArray) = (⟨#[98, 97, 55, 56, 49, 54, 98, 102, 56, 102, 48, 49, 99, 102, 101, 97, 52, 49, 52, 49, 52, 48, 100, 101, 53, 100, 97, 101, 50, 50, 50, 51]⟩ : ByteArray) := by kernel_rfl
  rw [hs1] at hsl
  have hsm := fun W => slice_to (P := Tryd.prog) 9 Tryd.underlying9 .i64 (⟨#[101, 51, 98, 48, 99, 52, 52, 50, 57, 56, 102, 99, 49, 99, 49, 52, 57, 97, 102, 98, 102, 52, 99, 56, 57, 57, 54, 102, 98, 57, 50, 52, 50, 55, 97, 101, 52, 49, 101, 52, 54, 52, 57, 98, 57, 51, 52, 99, 97, 52, 57, 53, 57, 57, 49, 98, 55, 56, 53, 50, 98, 56, 53, 53]⟩ : ByteArray) 32 32 rfl (by decide) W
  have hs2 : (⟨(((⟨#[101, 51, 98, 48, 99, 52, 52, 50, 57, 56, 102, 99, 49, 99, 49, 52, 57, 97, 102, 98, 102, 52, 99, 56, 57, 57, 54, 102, 98, 57, 50, 52, 50, 55, 97, 101, 52, 49, 101, 52, 54, 52, 57, 98, 57, 51, 52, 99, 97, 52, 57, 53, 57, 57, 49, 98, 55, 56, 53, 50, 98, 56, 53, 53]⟩ : ByteArray)).data.toList.take 32).toArray⟩ : ByteArray) = (⟨#[101, 51, 98, 48, 99, 52, 52, 50, 57, 56, 102, 99, 49, 99, 49, 52, 57, 97, 102, 98, 102, 52, 99, 56, 57, 57, 54, 102, 98, 57, 50, 52]⟩ : ByteArray) := by kernel_rfl
  rw [hs2] at hsm
  clear hs1 hs2
  have happ : ((⟨#[101, 51, 98, 48, 99, 52, 52, 50, 57, 56, 102, 99, 49, 99, 49, 52, 57, 97, 102, 98, 102, 52, 99, 56, 57, 57, 54, 102, 98, 57, 50, 52]⟩ : ByteArray) ++ (⟨#[45, 48]⟩ : ByteArray) : ByteArray) = (⟨#[101, 51, 98, 48, 99, 52, 52, 50, 57, 56, 102, 99, 49, 99, 49, 52, 57, 97, 102, 98, 102, 52, 99, 56, 57, 57, 54, 102, 98, 57, 50, 52, 45, 48]⟩ : ByteArray) := by kernel_rfl
  have haw := fun W => awake_any W
  have htag := fun b W h => pTag_any b [97, 98, 99] W (by decide) h
  rw [htg] at htag
  clear htg
  go_wp2_with fail
  refine wp_region_noPanic ?_
  refine wp_region_held_drew (S := fun W => W.rangeAt g 0 (Lib.byteCells zero32) ∧ KB w W) (by kernel_rfl) hr0 (fun hHeld => ?_)
  refine wpAnyH_ready (rs := [0]) (by kernel_rfl) (by simp) ?_
  refine AllReadyH.cons (o := _) rfl (fun K hK => ?_) AllReadyH.nil
  go_simp
  refine (haw _).mono ?_
  rintro e W2 ⟨rfl, hbx⟩
  have hr2 : W2.rangeAt g 0 (Lib.byteCells zero32) ∧ KB w W2 := ⟨rangeAt_below hr0.1 hbx, hr0.2.step hbx⟩
  clear hbx
  go_wp2_with fail
  refine hK.out _ _ hr2 (fun hHeld => ?_)
  clear hK K
  try simp only [List.getElem_toArray, List.getElem_cons_succ, List.getElem_cons_zero, Act.put, List.setIfInBounds_toArray, List.set_cons_zero, List.set_cons_succ]
  refine wpAnyH_take (i := 1) (oi := _) (v := ?_) rfl (by kernel_rfl) (by kernel_rfl) (by kernel_rfl) (fun _ _ _ h => h) (Or.inl ⟨by rfl, ?_⟩) hHeld ?_
  rotate_left
  · intro w hSw
    go_simp
    try with_reducible rfl
  try simp only [List.getElem_toArray, List.getElem_cons_succ, List.getElem_cons_zero, Act.put, List.setIfInBounds_toArray, List.set_cons_zero, List.set_cons_succ]
  refine wpAnyH_take (i := 2) (oi := _) (v := ?_) rfl (by kernel_rfl) (by kernel_rfl) (by kernel_rfl) (fun _ _ _ h => h) (Or.inl ⟨by rfl, ?_⟩) hHeld ?_
  rotate_left
  · intro w hSw
    go_simp
    try with_reducible rfl
  try simp only [List.getElem_toArray, List.getElem_cons_succ, List.getElem_cons_zero, Act.put, List.setIfInBounds_toArray, List.set_cons_zero, List.set_cons_succ]
  refine wpAnyH_take (i := 3) (oi := _) (v := ?_) rfl (by kernel_rfl) (by kernel_rfl) (by kernel_rfl) (fun _ _ _ h => h) (Or.inl ⟨by rfl, ?_⟩) hHeld ?_
  rotate_left
  · intro w hSw
    go_simp
    try with_reducible rfl
  try simp only [List.getElem_toArray, List.getElem_cons_succ, List.getElem_cons_zero, Act.put, List.setIfInBounds_toArray, List.set_cons_zero, List.set_cons_succ]
  refine wpAnyH_take (i := 4) (oi := _) (v := ?_) rfl (by kernel_rfl) (by kernel_rfl) (by kernel_rfl) (fun _ _ _ h => h) (Or.inl ⟨by rfl, ?_⟩) hHeld ?_
  rotate_left
  · intro w hSw
    go_simp
    try with_reducible rfl
  try simp only [List.getElem_toArray, List.getElem_cons_succ, List.getElem_cons_zero, Act.put, List.setIfInBounds_toArray, List.set_cons_zero, List.set_cons_succ]
  refine wpAnyH_take (i := 5) (oi := _) (v := ?_) rfl (by kernel_rfl) (by kernel_rfl) (by kernel_rfl) (fun _ _ _ h => h) (Or.inl ⟨by rfl, ?_⟩) hHeld ?_
  rotate_left
  · intro w hSw
    go_simp
    try with_reducible rfl
  try simp only [List.getElem_toArray, List.getElem_cons_succ, List.getElem_cons_zero, Act.put, List.setIfInBounds_toArray, List.set_cons_zero, List.set_cons_succ]
  refine wpAnyH_take (i := 9) (oi := _) (v := ?_) rfl (by kernel_rfl) (by kernel_rfl) (by kernel_rfl) (fun _ _ _ h => h) (Or.inl ⟨by rfl, ?_⟩) hHeld ?_
  rotate_left
  · intro w hSw
    go_simp
    try with_reducible rfl
  try simp only [List.getElem_toArray, List.getElem_cons_succ, List.getElem_cons_zero, Act.put, List.setIfInBounds_toArray, List.set_cons_zero, List.set_cons_succ]
  refine wpAnyH_ready (rs := [6]) (by kernel_rfl) (by simp) ?_
  refine AllReadyH.cons (o := _) rfl (fun K hK => ?_) AllReadyH.nil
  go_simp
  refine hK.out _ _ ⟨World.rangeAt_alloc hr2.1 _, hr2.2.alloc _⟩ (fun hHeld => ?_)
  clear hK K
  try simp only [List.getElem_toArray, List.getElem_cons_succ, List.getElem_cons_zero, Act.put, List.setIfInBounds_toArray, List.set_cons_zero, List.set_cons_succ]
  refine wpAnyH_ready (rs := [7]) (by kernel_rfl) (by simp) ?_
  refine AllReadyH.cons (o := _) rfl (fun K hK => ?_) AllReadyH.nil
  go_simp
  refine hK.out _ _ ⟨World.rangeAt_alloc hr2.1 _, hr2.2.alloc _⟩ (fun hHeld => ?_)
  clear hK K
  try simp only [List.getElem_toArray, List.getElem_cons_succ, List.getElem_cons_zero, Act.put, List.setIfInBounds_toArray, List.set_cons_zero, List.set_cons_succ]
  refine wpAnyH_ready (rs := [8]) (by kernel_rfl) (by simp) ?_
  refine AllReadyH.cons (o := _) rfl (fun K hK => ?_) AllReadyH.nil
  go_simp
  refine (htag _ _ (abc_src W2 _)).mono ?_
  rintro e W3 ⟨rfl, hbx⟩
  have hr3 : W3.rangeAt g 0 (Lib.byteCells zero32) ∧ KB w W3 := ⟨rangeAt_below hr2.1 (below_lit hbx), hr2.2.step (below_lit hbx)⟩
  clear hbx
  go_wp2_with fail
  refine hK.out _ _ hr3 (fun hHeld => ?_)
  clear hK K
  try simp only [List.getElem_toArray, List.getElem_cons_succ, List.getElem_cons_zero, Act.put, List.setIfInBounds_toArray, List.set_cons_zero, List.set_cons_succ]
  refine wpAnyH_take (i := 10) (oi := _) (v := ?_) rfl (by kernel_rfl) (by kernel_rfl) (by kernel_rfl) (fun _ _ _ h => h) (Or.inl ⟨by rfl, ?_⟩) hHeld ?_
  rotate_left
  · intro w hSw
    go_simp
    try with_reducible rfl
  try simp only [List.getElem_toArray, List.getElem_cons_succ, List.getElem_cons_zero, Act.put, List.setIfInBounds_toArray, List.set_cons_zero, List.set_cons_succ]
  refine wpAnyH_take (i := 11) (oi := _) (v := ?_) rfl (by kernel_rfl) (by kernel_rfl) (by kernel_rfl) (fun _ _ _ h => h) (Or.inl ⟨by rfl, ?_⟩) hHeld ?_
  rotate_left
  · intro w hSw
    go_simp
    try with_reducible rfl
  try simp only [List.getElem_toArray, List.getElem_cons_succ, List.getElem_cons_zero, Act.put, List.setIfInBounds_toArray, List.set_cons_zero, List.set_cons_succ]
  refine wpAnyH_take (i := 12) (oi := _) (v := ?_) rfl (by kernel_rfl) (by kernel_rfl) (by kernel_rfl) (fun _ _ _ h => h) (Or.inl ⟨by rfl, ?_⟩) hHeld ?_
  rotate_left
  · intro w hSw
    go_simp
    try with_reducible rfl
  try simp only [List.getElem_toArray, List.getElem_cons_succ, List.getElem_cons_zero, Act.put, List.setIfInBounds_toArray, List.set_cons_zero, List.set_cons_succ]
  refine' wpAnyH_take (i := 13) (oi := _) (v := _) rfl (by kernel_rfl) (by kernel_rfl) (by kernel_rfl) (fun _ _ _ h => h) (yieldsIf_load_mid (by rfl) _ _ rfl _ _ rfl _ _ (fun w hSw => hSw.1) hUD rfl hID) hHeld ?_
  try simp only [List.getElem_toArray, List.getElem_cons_succ, List.getElem_cons_zero, Act.put, List.setIfInBounds_toArray, List.set_cons_zero, List.set_cons_succ]
  refine wpAnyH_take (i := 14) (oi := _) (v := ?_) rfl (by kernel_rfl) (by kernel_rfl) (by kernel_rfl) (fun _ _ _ h => h) (Or.inl ⟨by rfl, ?_⟩) hHeld ?_
  rotate_left
  · intro w hSw
    go_simp
    try with_reducible rfl
  try simp only [List.getElem_toArray, List.getElem_cons_succ, List.getElem_cons_zero, Act.put, List.setIfInBounds_toArray, List.set_cons_zero, List.set_cons_succ]
  refine wpAnyH_take (i := 15) (oi := _) (v := ?_) rfl (by kernel_rfl) (by kernel_rfl) (by kernel_rfl) (fun _ _ _ h => h) (Or.inl ⟨by rfl, ?_⟩) hHeld ?_
  rotate_left
  · intro w hSw
    go_simp
    try with_reducible rfl
  try simp only [List.getElem_toArray, List.getElem_cons_succ, List.getElem_cons_zero, Act.put, List.setIfInBounds_toArray, List.set_cons_zero, List.set_cons_succ]
  refine wpAnyH_take (i := 16) (oi := _) (v := ?_) rfl (by kernel_rfl) (by kernel_rfl) (by kernel_rfl) (fun _ _ _ h => h) (Or.inl ⟨by rfl, ?_⟩) hHeld ?_
  rotate_left
  · intro w hSw
    go_simp
    try with_reducible rfl
  try simp only [List.getElem_toArray, List.getElem_cons_succ, List.getElem_cons_zero, Act.put, List.setIfInBounds_toArray, List.set_cons_zero, List.set_cons_succ]
  refine wpAnyH_take (i := 17) (oi := _) (v := ?_) rfl (by kernel_rfl) (by kernel_rfl) (by kernel_rfl) (fun _ _ _ h => h) (Or.inl ⟨by rfl, ?_⟩) hHeld ?_
  rotate_left
  · intro w hSw
    go_simp
    try with_reducible rfl
  try simp only [List.getElem_toArray, List.getElem_cons_succ, List.getElem_cons_zero, Act.put, List.setIfInBounds_toArray, List.set_cons_zero, List.set_cons_succ]
  refine wpAnyH_take (i := 18) (oi := _) (v := ?_) rfl (by kernel_rfl) (by kernel_rfl) (by kernel_rfl) (fun _ _ _ h => h) (Or.inl ⟨by rfl, ?_⟩) hHeld ?_
  rotate_left
  · intro w hSw
    go_simp
    try with_reducible rfl
  try simp only [List.getElem_toArray, List.getElem_cons_succ, List.getElem_cons_zero, Act.put, List.setIfInBounds_toArray, List.set_cons_zero, List.set_cons_succ]
  refine wpAnyH_take (i := 19) (oi := _) (v := ?_) rfl (by kernel_rfl) (by kernel_rfl) (by kernel_rfl) (fun _ _ _ h => h) (Or.inl ⟨by rfl, ?_⟩) hHeld ?_
  rotate_left
  · intro w hSw
    go_simp
    try with_reducible rfl
  try simp only [List.getElem_toArray, List.getElem_cons_succ, List.getElem_cons_zero, Act.put, List.setIfInBounds_toArray, List.set_cons_zero, List.set_cons_succ]
  refine wpAnyH_take (i := 20) (oi := _) (v := ?_) rfl (by kernel_rfl) (by kernel_rfl) (by kernel_rfl) (fun _ _ _ h => h) (Or.inl ⟨by rfl, ?_⟩) hHeld ?_
  rotate_left
  · intro w hSw
    go_simp
    try with_reducible rfl
  try simp only [List.getElem_toArray, List.getElem_cons_succ, List.getElem_cons_zero, Act.put, List.setIfInBounds_toArray, List.set_cons_zero, List.set_cons_succ]
  refine wpAnyH_take (i := 21) (oi := _) (v := ?_) rfl (by kernel_rfl) (by kernel_rfl) (by kernel_rfl) (fun _ _ _ h => h) (Or.inl ⟨by rfl, ?_⟩) hHeld ?_
  rotate_left
  · intro w hSw
    go_simp
    try with_reducible rfl
  try simp only [List.getElem_toArray, List.getElem_cons_succ, List.getElem_cons_zero, Act.put, List.setIfInBounds_toArray, List.set_cons_zero, List.set_cons_succ]
  refine wpAnyH_take (i := 22) (oi := _) (v := ?_) rfl (by kernel_rfl) (by kernel_rfl) (by kernel_rfl) (fun _ _ _ h => h) (Or.inl ⟨by rfl, ?_⟩) hHeld ?_
  rotate_left
  · intro w hSw
    go_simp
    try with_reducible rfl
  try simp only [List.getElem_toArray, List.getElem_cons_succ, List.getElem_cons_zero, Act.put, List.setIfInBounds_toArray, List.set_cons_zero, List.set_cons_succ]
  refine wpAnyH_take (i := 23) (oi := _) (v := ?_) rfl (by kernel_rfl) (by kernel_rfl) (by kernel_rfl) (fun _ _ _ h => h) (Or.inl ⟨by rfl, ?_⟩) hHeld ?_
  rotate_left
  · intro w hSw
    go_simp
    try with_reducible rfl
  try simp only [List.getElem_toArray, List.getElem_cons_succ, List.getElem_cons_zero, Act.put, List.setIfInBounds_toArray, List.set_cons_zero, List.set_cons_succ]
  refine wpAnyH_take (i := 24) (oi := _) (v := ?_) rfl (by kernel_rfl) (by kernel_rfl) (by kernel_rfl) (fun _ _ _ h => h) (Or.inl ⟨by rfl, ?_⟩) hHeld ?_
  rotate_left
  · intro w hSw
    go_simp
    try with_reducible rfl
  try simp only [List.getElem_toArray, List.getElem_cons_succ, List.getElem_cons_zero, Act.put, List.setIfInBounds_toArray, List.set_cons_zero, List.set_cons_succ]
  refine wpAnyH_take (i := 25) (oi := _) (v := ?_) rfl (by kernel_rfl) (by kernel_rfl) (by kernel_rfl) (fun _ _ _ h => h) (Or.inl ⟨by rfl, ?_⟩) hHeld ?_
  rotate_left
  · intro w hSw
    go_simp
    try with_reducible rfl
  try simp only [List.getElem_toArray, List.getElem_cons_succ, List.getElem_cons_zero, Act.put, List.setIfInBounds_toArray, List.set_cons_zero, List.set_cons_succ]
  refine wpAnyH_take (i := 26) (oi := _) (v := ?_) rfl (by kernel_rfl) (by kernel_rfl) (by kernel_rfl) (fun _ _ _ h => h) (Or.inl ⟨by rfl, ?_⟩) hHeld ?_
  rotate_left
  · intro w hSw
    go_simp
    try with_reducible rfl
  try simp only [List.getElem_toArray, List.getElem_cons_succ, List.getElem_cons_zero, Act.put, List.setIfInBounds_toArray, List.set_cons_zero, List.set_cons_succ]
  refine wpAnyH_take (i := 27) (oi := _) (v := ?_) rfl (by kernel_rfl) (by kernel_rfl) (by kernel_rfl) (fun _ _ _ h => h) (Or.inl ⟨by rfl, ?_⟩) hHeld ?_
  rotate_left
  · intro w hSw
    go_simp
    try with_reducible rfl
  try simp only [List.getElem_toArray, List.getElem_cons_succ, List.getElem_cons_zero, Act.put, List.setIfInBounds_toArray, List.set_cons_zero, List.set_cons_succ]
  refine wpAnyH_take (i := 28) (oi := _) (v := ?_) rfl (by kernel_rfl) (by kernel_rfl) (by kernel_rfl) (fun _ _ _ h => h) (Or.inl ⟨by rfl, ?_⟩) hHeld ?_
  rotate_left
  · intro w hSw
    go_simp
    try with_reducible rfl
  try simp only [List.getElem_toArray, List.getElem_cons_succ, List.getElem_cons_zero, Act.put, List.setIfInBounds_toArray, List.set_cons_zero, List.set_cons_succ]
  refine wpAnyH_take (i := 29) (oi := _) (v := ?_) rfl (by kernel_rfl) (by kernel_rfl) (by kernel_rfl) (fun _ _ _ h => h) (Or.inl ⟨by rfl, ?_⟩) hHeld ?_
  rotate_left
  · intro w hSw
    go_simp
    try with_reducible rfl
  try simp only [List.getElem_toArray, List.getElem_cons_succ, List.getElem_cons_zero, Act.put, List.setIfInBounds_toArray, List.set_cons_zero, List.set_cons_succ]
  refine wpAnyH_take (i := 30) (oi := _) (v := ?_) rfl (by kernel_rfl) (by kernel_rfl) (by kernel_rfl) (fun _ _ _ h => h) (Or.inl ⟨by rfl, ?_⟩) hHeld ?_
  rotate_left
  · intro w hSw
    go_simp
    try with_reducible rfl
  try simp only [List.getElem_toArray, List.getElem_cons_succ, List.getElem_cons_zero, Act.put, List.setIfInBounds_toArray, List.set_cons_zero, List.set_cons_succ]
  refine wpAnyH_take (i := 31) (oi := _) (v := ?_) rfl (by kernel_rfl) (by kernel_rfl) (by kernel_rfl) (fun _ _ _ h => h) (Or.inl ⟨by rfl, ?_⟩) hHeld ?_
  rotate_left
  · intro w hSw
    go_simp
    try with_reducible rfl
  try simp only [List.getElem_toArray, List.getElem_cons_succ, List.getElem_cons_zero, Act.put, List.setIfInBounds_toArray, List.set_cons_zero, List.set_cons_succ]
  refine wpAnyH_take (i := 32) (oi := _) (v := ?_) rfl (by kernel_rfl) (by kernel_rfl) (by kernel_rfl) (fun _ _ _ h => h) (Or.inl ⟨by rfl, ?_⟩) hHeld ?_
  rotate_left
  · intro w hSw
    go_simp
    try with_reducible rfl
  try simp only [List.getElem_toArray, List.getElem_cons_succ, List.getElem_cons_zero, Act.put, List.setIfInBounds_toArray, List.set_cons_zero, List.set_cons_succ]
  refine wpAnyH_take (i := 33) (oi := _) (v := ?_) rfl (by kernel_rfl) (by kernel_rfl) (by kernel_rfl) (fun _ _ _ h => h) (Or.inl ⟨by rfl, ?_⟩) hHeld ?_
  rotate_left
  · intro w hSw
    go_simp
    try with_reducible rfl
  try simp only [List.getElem_toArray, List.getElem_cons_succ, List.getElem_cons_zero, Act.put, List.setIfInBounds_toArray, List.set_cons_zero, List.set_cons_succ]
  refine wpAnyH_take (i := 34) (oi := _) (v := ?_) rfl (by kernel_rfl) (by kernel_rfl) (by kernel_rfl) (fun _ _ _ h => h) (Or.inl ⟨by rfl, ?_⟩) hHeld ?_
  rotate_left
  · intro w hSw
    go_simp
    try with_reducible rfl
  try simp only [List.getElem_toArray, List.getElem_cons_succ, List.getElem_cons_zero, Act.put, List.setIfInBounds_toArray, List.set_cons_zero, List.set_cons_succ]
  refine wpAnyH_take (i := 35) (oi := _) (v := ?_) rfl (by kernel_rfl) (by kernel_rfl) (by kernel_rfl) (fun _ _ _ h => h) (Or.inl ⟨by rfl, ?_⟩) hHeld ?_
  rotate_left
  · intro w hSw
    go_simp
    try with_reducible rfl
  try simp only [List.getElem_toArray, List.getElem_cons_succ, List.getElem_cons_zero, Act.put, List.setIfInBounds_toArray, List.set_cons_zero, List.set_cons_succ]
  refine wpAnyH_take (i := 36) (oi := _) (v := ?_) rfl (by kernel_rfl) (by kernel_rfl) (by kernel_rfl) (fun _ _ _ h => h) (Or.inl ⟨by rfl, ?_⟩) hHeld ?_
  rotate_left
  · intro w hSw
    go_simp
    try with_reducible rfl
  try simp only [List.getElem_toArray, List.getElem_cons_succ, List.getElem_cons_zero, Act.put, List.setIfInBounds_toArray, List.set_cons_zero, List.set_cons_succ]
  refine wpAnyH_take (i := 37) (oi := _) (v := ?_) rfl (by kernel_rfl) (by kernel_rfl) (by kernel_rfl) (fun _ _ _ h => h) (Or.inl ⟨by rfl, ?_⟩) hHeld ?_
  rotate_left
  · intro w hSw
    go_simp
    try with_reducible rfl
  try simp only [List.getElem_toArray, List.getElem_cons_succ, List.getElem_cons_zero, Act.put, List.setIfInBounds_toArray, List.set_cons_zero, List.set_cons_succ]
  refine wpAnyH_take (i := 38) (oi := _) (v := ?_) rfl (by kernel_rfl) (by kernel_rfl) (by kernel_rfl) (fun _ _ _ h => h) (Or.inl ⟨by rfl, ?_⟩) hHeld ?_
  rotate_left
  · intro w hSw
    go_simp
    try with_reducible rfl
  try simp only [List.getElem_toArray, List.getElem_cons_succ, List.getElem_cons_zero, Act.put, List.setIfInBounds_toArray, List.set_cons_zero, List.set_cons_succ]
  refine wpAnyH_take (i := 39) (oi := _) (v := ?_) rfl (by kernel_rfl) (by kernel_rfl) (by kernel_rfl) (fun _ _ _ h => h) (Or.inl ⟨by rfl, ?_⟩) hHeld ?_
  rotate_left
  · intro w hSw
    go_simp
    try with_reducible rfl
  try simp only [List.getElem_toArray, List.getElem_cons_succ, List.getElem_cons_zero, Act.put, List.setIfInBounds_toArray, List.set_cons_zero, List.set_cons_succ]
  refine wpAnyH_take (i := 40) (oi := _) (v := ?_) rfl (by kernel_rfl) (by kernel_rfl) (by kernel_rfl) (fun _ _ _ h => h) (Or.inl ⟨by rfl, ?_⟩) hHeld ?_
  rotate_left
  · intro w hSw
    go_simp
    try with_reducible rfl
  try simp only [List.getElem_toArray, List.getElem_cons_succ, List.getElem_cons_zero, Act.put, List.setIfInBounds_toArray, List.set_cons_zero, List.set_cons_succ]
  refine wpAnyH_take (i := 41) (oi := _) (v := ?_) rfl (by kernel_rfl) (by kernel_rfl) (by kernel_rfl) (fun _ _ _ h => h) (Or.inl ⟨by rfl, ?_⟩) hHeld ?_
  rotate_left
  · intro w hSw
    go_simp
    try with_reducible rfl
  try simp only [List.getElem_toArray, List.getElem_cons_succ, List.getElem_cons_zero, Act.put, List.setIfInBounds_toArray, List.set_cons_zero, List.set_cons_succ]
  refine wpAnyH_take (i := 42) (oi := _) (v := ?_) rfl (by kernel_rfl) (by kernel_rfl) (by kernel_rfl) (fun _ _ _ h => h) (Or.inl ⟨by rfl, ?_⟩) hHeld ?_
  rotate_left
  · intro w hSw
    go_simp
    try with_reducible rfl
  try simp only [List.getElem_toArray, List.getElem_cons_succ, List.getElem_cons_zero, Act.put, List.setIfInBounds_toArray, List.set_cons_zero, List.set_cons_succ]
  refine wpAnyH_take (i := 43) (oi := _) (v := ?_) rfl (by kernel_rfl) (by kernel_rfl) (by kernel_rfl) (fun _ _ _ h => h) (Or.inl ⟨by rfl, ?_⟩) hHeld ?_
  rotate_left
  · intro w hSw
    go_simp
    try with_reducible rfl
  try simp only [List.getElem_toArray, List.getElem_cons_succ, List.getElem_cons_zero, Act.put, List.setIfInBounds_toArray, List.set_cons_zero, List.set_cons_succ]
  refine wpAnyH_done (by kernel_rfl) ?_ _
  refine NoPanic.normal ?_
  go_wp2
  go_ret
  exact ⟨rfl, hr3.2⟩
end Go.Proofs.YtdbdgpaafjdidaaDoor
