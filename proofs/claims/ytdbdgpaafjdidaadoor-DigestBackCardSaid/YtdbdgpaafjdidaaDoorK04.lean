/- digest.Read, stowageref04.Read. -/
import Derived.Test.YtdbdgpaafjdidaaDoorProg
import Derived.Test.YtdbdgpaafjdidaaDoorI04
import Derived.Test.YtdbdgpaafjdidaaDoorH14
import Derived.Test.YtdbdgpaafjdidaaDoorIdx
import Derived.Laws.ResultCell
import Derived.Laws.Cover3
import Derived.Laws.Rows
namespace Go.Proofs.YtdbdgpaafjdidaaDoor
open Go.RowKit
set_option linter.unusedVariables false
set_option linter.unusedSimpArgs false
theorem results_row_tmp {P : Program} {fn : Func} {p u : Tmp} {ty : TypeId} (h : fn.results = #[.cell p ty, .tmp u]) (tmps : Array Value) (w : World) (g : Nat) (t : TypeId) (cs : Array Value) (fr : Nat × Nat) (d : TypeDesc) (v : Value)
    (hp : tmps.getD p undef = .pointer (some ⟨g, 0, none⟩)) (hq : tmps.getD u undef = v) (hg : w.heap[g]? = some (.cells cs t fr))
    (hu : P.underlying ty = some d) (hd : (match d with | .struct _ | .array _ _ => true | _ => false) = true) (hi : (P.info? ty).map (·.size) = some cs.size) :
    (results fn tmps).run P w = .ok (.tuple #[.agg cs, v]) w := by
  rw [results_cell_tmp h, hp, hq]
  simp [asAddr, run_loadVar_row w g t ty cs fr d hg hu hd hi]
def zero32 : List UInt8 := List.replicate 32 0
def readS (l : List UInt8) : List UInt8 × Int := match undig l with
  | some m => if m.length = 32 then (m, 0) else (zero32, 4)
  | none => (zero32, 4)
theorem readS_len (l : List UInt8) : (readS l).1.length = 32 := by
  unfold readS
  split
  · split
    · assumption
    · rfl
  · rfl
def digE (r : List UInt8 × Int) : Value := .tuple #[.agg (Lib.byteCells r.1).toArray, .int .i64 r.2]
def z32 : Array Value := (Lib.byteCells zero32).toArray
theorem z32_eq : z32 = #[.int .u8 0, .int .u8 0, .int .u8 0, .int .u8 0, .int .u8 0, .int .u8 0, .int .u8 0, .int .u8 0, .int .u8 0, .int .u8 0, .int .u8 0, .int .u8 0, .int .u8 0, .int .u8 0, .int .u8 0, .int .u8 0, .int .u8 0, .int .u8 0, .int .u8 0, .int .u8 0, .int .u8 0, .int .u8 0, .int .u8 0, .int .u8 0, .int .u8 0, .int .u8 0, .int .u8 0, .int .u8 0, .int .u8 0, .int .u8 0, .int .u8 0, .int .u8 0] := by kernel_rfl
theorem z32_one : z32.all (·.oneCell') = true := by kernel_rfl
theorem z32_size : z32.size = 32 := by kernel_rfl
theorem store32 {P : Program} {w : World} {ops : Array Oper} {rest : List Oper} {o : Oper} {a : Act} {Q : Exit → Act → World → Prop} (T : TypeId) (hT : (P.info? T).map (·.size) = some 32) (d : List UInt8) (hd : d.length = 32) (hgd : o.guard = none) (p x : Operand) (ho : o.op = .store T p x) (g : Nat)
    (hp : a.eval p = .pointer (some ⟨g, 0, none⟩)) (hx : a.eval x = .agg (Lib.byteCells d).toArray) (t : TypeId) (cs : Array Value) (hg : w.heap[g]? = some (.cells cs t (0, 0))) (hs : cs.size = 32) (h : wpList P ops Q rest (a.put o.dst undef) (w.setRow g (Lib.byteCells d).toArray)) : wpList P ops Q (o :: rest) a w := by
  have hsz : (Lib.byteCells d).toArray.size = 32 := by simp [Lib.byteCells, hd]
  exact wpList_store_row hgd T p x ho g _ hp hx t cs hg (by rw [hT, hsz]) (by rw [hs, hsz]) (agg_one d) h
theorem infoD : (Tryd.prog.info? 24).map (·.size) = some 32 := by kernel_rfl
set_option maxRecDepth 10000 in
set_option maxHeartbeats 1000000 in
theorem pRead_any (s : ByteArray) (w : World) (hs : s.size ≤ 1000000) : Calls Tryd.prog 10 #[.string s] w fun e w' => e = .returned (digE (readS s.data.toList)) ∧ Below w.heap.size w w' := by
  have h := fun W => pbytes_any s W hs
  go_enter Tryd.func10, Tryd.ntmps10
  go_wp2_with fail
  refine (h _).mono ?_
  rintro e w1 ⟨h1, hb⟩
  have hrow : w1.heap[w.heap.size]? = some (.cells z32 24 (0, 0)) := (hb.block w.heap.size (by simp)).trans (by rw [z32_eq]; exact heap_alloc_new w _)
  have hbw : Below w.heap.size w w1 := ((Below.refl _ w).alloc (Nat.le_refl _) _).trans (hb.mono (by simp))
  clear hb h
  rcases h1 with ⟨hu, rfl⟩ | ⟨l, g, hu, rfl, hg, hl⟩
  · have HR := Lib.hid (show readS s.data.toList = (zero32, 4) by unfold readS; rw [hu])
    clear hu
    go_wp2_with (refine store32 24 infoD zero32 rfl rfl _ _ rfl w.heap.size rfl (congrArg Value.agg z32_eq.symm) 24 z32 hrow z32_size ?_)
    refine bodyPost_ret (v := digE (zero32, 4)) (results_row_tmp (show Tryd.f10.results = #[.cell 2 24, .tmp 3] from by kernel_rfl) _ _ w.heap.size 24 z32 (0, 0) _ (.int .i64 4) rfl rfl (setRow_heap _ _ _ _ _ _ hrow) Tryd.underlying24 rfl (by rw [infoD]; rfl)) rfl ⟨by rw [HR.out], below_setRow hbw (Nat.le_refl _)⟩
  · by_cases h32 : l.length = 32
    · have HR := Lib.hid (show readS s.data.toList = (l, 0) by unfold readS; rw [hu]; simp [h32])
      have harr := fun W => run_arrayAt (P := Tryd.prog) (w := W) 24 5 32 (some ⟨g, 0, none⟩) 32 32 Tryd.underlying24 (Nat.le_refl _)
      have hsz : (Lib.byteCells l).toArray.size = 32 := by simp [Lib.byteCells, h32]
      have H32 := Lib.hid h32
      rw [h32]
      clear hu h32
      go_wp2_with (first
        | (refine wpList_load_row rfl 24 _ rfl g rfl 5 _ (0, 0) _ hl Tryd.underlying24 rfl (by rw [hsz]; exact infoD) ?_)
        | (refine store32 24 infoD l H32.out rfl _ _ rfl w.heap.size rfl rfl 24 z32 hrow z32_size ?_))
      refine bodyPost_ret (v := digE (l, 0)) (results_row_tmp (show Tryd.f10.results = #[.cell 2 24, .tmp 3] from by kernel_rfl) _ _ w.heap.size 24 _ (0, 0) _ (.int .i64 0) rfl rfl (setRow_heap _ _ _ _ _ _ hrow) Tryd.underlying24 rfl (by rw [hsz]; exact infoD)) rfl ⟨by rw [HR.out], below_setRow hbw (Nat.le_refl _)⟩
    · have HR := Lib.hid (show readS s.data.toList = (zero32, 4) by unfold readS; rw [hu]; simp [h32])
      have h32' : ((l.length : Int) == 32) = false := by simp; omega
      have h33' : ((l.length : Int) != 32) = true := by simp; omega
      clear hu
      go_wp2_with (refine store32 24 infoD zero32 rfl rfl _ _ rfl w.heap.size rfl (congrArg Value.agg z32_eq.symm) 24 z32 hrow z32_size ?_)
      refine bodyPost_ret (v := digE (zero32, 4)) (results_row_tmp (show Tryd.f10.results = #[.cell 2 24, .tmp 3] from by kernel_rfl) _ _ w.heap.size 24 z32 (0, 0) _ (.int .i64 4) rfl rfl (setRow_heap _ _ _ _ _ _ hrow) Tryd.underlying24 rfl (by rw [infoD]; rfl)) rfl ⟨by rw [HR.out], below_setRow hbw (Nat.le_refl _)⟩
end Go.Proofs.YtdbdgpaafjdidaaDoor
