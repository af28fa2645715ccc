/- The statement DigestBack: its walk. -/
import Derived.Test.YtdbdgpaafjdidaaDoorProg
import Derived.Test.YtdbdgpaafjdidaaDoorM04
namespace Go.Proofs.YtdbdgpaafjdidaaDoor
open Go.RowKit
set_option linter.unusedVariables false
set_option linter.unusedSimpArgs false
/-- A load of a whole row, guarded or not. -/
theorem wpList_loadG {P : Program} {ops : Array Oper} {rest : List Oper} {o : Oper} {a : Act} {w : World} {Q : Exit → Act → World → Prop} (hw : Region.wanted o (yielded ops a.tmps) = true) (ty : TypeId) (x : Operand) (ho : o.op = .load ty x)
    (g : Nat) (hx : a.eval x = .pointer (some ⟨g, 0, none⟩)) (t : TypeId) (cs : Array Value) (fr : Nat × Nat) (d : TypeDesc) (hg : w.heap[g]? = some (.cells cs t fr))
    (hu : P.underlying ty = some d) (hd : (match d with | .struct _ | .array _ _ => true | _ => false) = true) (hi : (P.info? ty).map (·.size) = some cs.size)
    (h : wpList P ops Q rest (a.put o.dst (.agg cs)) w) : wpList P ops Q (o :: rest) a w :=
  wpList_step fun K hK => by
    rw [if_pos hw]
    exact wp_load_row ty x ho g hx t cs fr d hg hu hd hi (hK _ _ h)
theorem readS_cases (s : ByteArray) : (∃ m : List UInt8, m.length = 32 ∧ readS s.data.toList = (m, 0) ∧ (⟨(hexs m).toArray⟩ : ByteArray) = s) ∨ readS s.data.toList = (zero32, 4) := by
  unfold readS
  cases h : undig s.data.toList with
  | none => exact .inr rfl
  | some m =>
    by_cases h32 : m.length = 32
    · exact .inl ⟨m, h32, by simp [h32], (bs_mk (hexs_undig _ _ h).symm).symm⟩
    · exact .inr (by simp [h32])
theorem box_back {w W : World} {cur : Array Value} {t : TypeId} (hb : Below (w.alloc (.cells cur t)).heap.size (w.alloc (.cells cur t)) W) : W.heap[w.heap.size]? = some (.cells cur t (0, 0)) ∧ Below w.heap.size w W :=
  ⟨(hb.block w.heap.size (by simp)).trans (heap_alloc_new w _), ((Below.refl _ w).alloc (Nat.le_refl _) _).trans (hb.mono (by simp))⟩
theorem row_step {w W : World} {g : Nat} {o : Obj} (h : w.heap[g]? = some o) (hb : Below w.heap.size w W) : W.heap[g]? = some o := (hb.block g (Array.getElem?_eq_some_iff.1 h).1).trans h
theorem row_alloc {w : World} {g : Nat} {o o2 : Obj} (h : w.heap[g]? = some o) : (w.alloc o2).heap[g]? = some o := row_step h ((Below.refl _ w).alloc (Nat.le_refl _) _)
theorem zero_eq : ∀ W, (Op.equalIn 10000 24 (.agg (Lib.byteCells zero32).toArray) (.agg #[.int .u8 0, .int .u8 0, .int .u8 0, .int .u8 0, .int .u8 0, .int .u8 0, .int .u8 0, .int .u8 0, .int .u8 0, .int .u8 0, .int .u8 0, .int .u8 0, .int .u8 0, .int .u8 0, .int .u8 0, .int .u8 0, .int .u8 0, .int .u8 0, .int .u8 0, .int .u8 0, .int .u8 0, .int .u8 0, .int .u8 0, .int .u8 0, .int .u8 0, .int .u8 0, .int .u8 0, .int .u8 0, .int .u8 0, .int .u8 0, .int .u8 0, .int .u8 0])).run Tryd.prog W = .ok true W := fun W => by
  have h := eqD zero32 zero32 rfl rfl W
  rw [← z32_eq]
  rw [show decide (zero32 = zero32) = true by simp] at h
  exact h
set_option maxRecDepth 10000 in
set_option maxHeartbeats 2000000 in
theorem dback_walk (dl : List UInt8) (hd : dl.length = 32) (s : ByteArray) (w : World) (hs : s.size ≤ 9223372036854775807) :
    Calls Tryd.prog 5 #[.agg (Lib.byteCells dl).toArray, .string s] w fun e w' => e = .returned (.bool true) ∧ Below w.heap.size w w' := by
  have hone := agg_one dl
  generalize hc : (Lib.byteCells dl).toArray = cur at hone ⊢
  have hsz : cur.size = 32 := by rw [← hc]; simp [Lib.byteCells, hd]
  have hHex := fun W => pHex_any dl hd W
  have hRead := fun W => pRead_at (⟨(hexs dl).toArray⟩ : ByteArray) (dl, 0) W (by simp [ByteArray.size_mk', hexs_len, hd]) (by unfold readS; simp [undig_hexs, hd])
  have hEq := fun W => eqD dl dl hd hd W
  simp only [hc] at hHex hRead hEq
  simp only [decide_true] at hEq
  clear hc hd
  by_cases hl : 1000 < s.size
  · have hl' : 1000 < (s.size : Int) := by omega
    go_enter Tryd.func5, Tryd.ntmps5
    go_wp2_with fail
    refine (dknown_any _).mono ?_
    rintro e w1 ⟨rfl, hb1⟩
    go_wp2
    go_ret
    exact ⟨rfl, (box_back hb1).2⟩
  · have hl' : ¬ 1000 < (s.size : Int) := by omega
    have hcase := readS_cases s
    have hR := fun r W h => pRead_at s r W (by omega) h
    go_enter Tryd.func5, Tryd.ntmps5
    go_wp2_with fail
    refine (dknown_any _).mono ?_
    rintro e w1 ⟨rfl, hb1⟩
    obtain ⟨hrow0, hB⟩ := box_back hb1
    have HB := Lib.hid hB
    clear hb1 hB
    go_wp2_with (refine wpList_load_row rfl 24 _ rfl w.heap.size rfl 24 _ (0, 0) _ hrow0 Tryd.underlying24 rfl (by rw [hsz]; exact infoD) ?_)
    refine (hHex _).mono ?_
    rintro e w2 ⟨rfl, hb2⟩
    replace HB := Lib.hid (bstep HB.out hb2 (Nat.le_refl _))
    replace hrow0 := row_step hrow0 hb2
    clear hb2
    go_wp2_with fail
    refine (hRead _).mono ?_
    rintro e w3 ⟨rfl, hb2⟩
    replace HB := Lib.hid (bstep HB.out hb2 (Nat.le_refl _))
    replace hrow0 := row_step hrow0 hb2
    clear hb2
    go_wp2_with (refine wpList_store_row rfl 24 _ _ rfl w3.heap.size cur rfl rfl 24 z32 (by rw [z32_eq]; exact heap_alloc_new w3 _) (by rw [hsz]; exact infoD) (by rw [hsz]; exact z32_size) hone ?_; rw [World.setRow_alloc_new])
    have hrow6 := heap_alloc_new w3 (.cells cur 24)
    replace hrow0 := row_alloc (o2 := .cells cur 24) hrow0
    replace HB := Lib.hid (HB.out.alloc HB.out.size (.cells cur 24))
    rcases hcase with ⟨m, hm, hr, hx⟩ | hr
    · have honem := agg_one m
      generalize hcm : (Lib.byteCells m).toArray = cm at honem
      have hszm : cm.size = 32 := by rw [← hcm]; simp [Lib.byteCells, hm]
      have hRm := fun W => hR _ W hr
      have hHm := fun W => pHex_any m hm W
      simp only [hcm] at hRm hHm
      rw [hx] at hHm
      clear hcm hm hr hx hR hHex hRead
      refine (hRm _).mono ?_
      rintro e w4 ⟨rfl, hb2⟩
      replace HB := Lib.hid (bstep HB.out hb2 (Nat.le_refl _))
      replace hrow0 := row_step hrow0 hb2
      replace hrow6 := row_step hrow6 hb2
      clear hb2
      have hrow8 := heap_alloc_new w4 (.cells cm 24)
      replace hrow0 := row_alloc (o2 := .cells cm 24) hrow0
      replace hrow6 := row_alloc (o2 := .cells cm 24) hrow6
      replace HB := Lib.hid (HB.out.alloc HB.out.size (.cells cm 24))
      go_wp2_with (first
        | (refine wpList_store_row rfl 24 _ _ rfl w4.heap.size cm rfl rfl 24 z32 (by rw [z32_eq]; exact heap_alloc_new w4 _) (by rw [hszm]; exact infoD) (by rw [hszm]; exact z32_size) honem ?_; rw [World.setRow_alloc_new])
        | (refine wpList_loadG rfl 24 _ rfl w.heap.size rfl 24 _ (0, 0) _ hrow0 Tryd.underlying24 rfl (by rw [hsz]; exact infoD) ?_)
        | (refine wpList_loadG rfl 24 _ rfl w3.heap.size rfl 24 _ (0, 0) _ hrow6 Tryd.underlying24 rfl (by rw [hsz]; exact infoD) ?_)
        | (refine wpList_loadG rfl 24 _ rfl w4.heap.size rfl 24 _ (0, 0) _ hrow8 Tryd.underlying24 rfl (by rw [hszm]; exact infoD) ?_))
      refine (hHm _).mono ?_
      rintro e w5 ⟨rfl, hb2⟩
      replace HB := Lib.hid (bstep HB.out hb2 (Nat.le_refl _))
      go_wp2
      go_ret
      exact ⟨rfl, HB.out⟩
    · have honem := agg_one zero32
      have hq0 := zero_eq
      have hRm := fun W => hR _ W hr
      generalize hcm : (Lib.byteCells zero32).toArray = cm at honem hRm hq0
      have hszm : cm.size = 32 := by rw [← hcm]; rfl
      clear hcm hr hR hHex hRead
      refine (hRm _).mono ?_
      rintro e w4 ⟨rfl, hb2⟩
      replace HB := Lib.hid (bstep HB.out hb2 (Nat.le_refl _))
      replace hrow0 := row_step hrow0 hb2
      replace hrow6 := row_step hrow6 hb2
      clear hb2
      have hrow8 := heap_alloc_new w4 (.cells cm 24)
      replace hrow0 := row_alloc (o2 := .cells cm 24) hrow0
      replace hrow6 := row_alloc (o2 := .cells cm 24) hrow6
      replace HB := Lib.hid (HB.out.alloc HB.out.size (.cells cm 24))
      go_wp2_with (first
        | (refine wpList_store_row rfl 24 _ _ rfl w4.heap.size cm rfl rfl 24 z32 (by rw [z32_eq]; exact heap_alloc_new w4 _) (by rw [hszm]; exact infoD) (by rw [hszm]; exact z32_size) honem ?_; rw [World.setRow_alloc_new])
        | (refine wpList_loadG rfl 24 _ rfl w.heap.size rfl 24 _ (0, 0) _ hrow0 Tryd.underlying24 rfl (by rw [hsz]; exact infoD) ?_)
        | (refine wpList_loadG rfl 24 _ rfl w3.heap.size rfl 24 _ (0, 0) _ hrow6 Tryd.underlying24 rfl (by rw [hsz]; exact infoD) ?_)
        | (refine wpList_loadG rfl 24 _ rfl w4.heap.size rfl 24 _ (0, 0) _ hrow8 Tryd.underlying24 rfl (by rw [hszm]; exact infoD) ?_))
      go_ret
      exact ⟨rfl, HB.out⟩
end Go.Proofs.YtdbdgpaafjdidaaDoor
