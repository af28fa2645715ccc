/- Reading one cell of an array that is a value. -/
import Derived.Test.YtdbdgpaafjdidaaDoorProg
import Derived.Test.YtdbdgpaafjdidaaDoorBase
import Derived.Test.YtdbdgpaafjdidaaDoorInf
import Derived.ChangeKeysEq
namespace Go.Proofs.YtdbdgpaafjdidaaDoor
open Go.RowKit
set_option linter.unusedVariables false
set_option linter.unusedSimpArgs false
theorem run_index_one {P : Program} (w : World) (t e : TypeId) (n k : Nat) (cs : Array Value) (v : Value) (hu : P.underlying t = some (.array n e)) (hk : k < n)
    (hagg : (isAgg e).run P w = .ok false w) (hsz : (sizeOf e).run P w = .ok 1 w) (hv : cs[k]? = some v) : (Instr.index t (.agg cs) (.int .i64 (k : Int))).run P w = .ok v w := by
  have h1 : (0 : Int) ≤ k ∧ (k : Int) < (n : Int) := ⟨by omega, by omega⟩
  unfold Instr.index part
  simp [asIntOf, run_underlying hu, h1.2, Sem.run_bind, hagg, hsz, hv, hk]
theorem wpList_index_one {P : Program} {ops : Array Oper} {rest : List Oper} {op : Oper} {a : Act} {w : World} {Q : Exit → Act → World → Prop} (hgd : op.guard = none) (t : TypeId) (x ix : Operand) (ho : op.op = .index t x ix)
    (cs : Array Value) (hx : a.eval x = .agg cs) (k : Nat) (hi : a.eval ix = .int .i64 (k : Int)) (e : TypeId) (n : Nat) (hu : P.underlying t = some (.array n e)) (hk : k < n)
    (hagg : (isAgg e).run P w = .ok false w) (hsz : (sizeOf e).run P w = .ok 1 w) (v : Value) (hv : cs[k]? = some v) (h : wpList P ops Q rest (a.put op.dst v) w) : wpList P ops Q (op :: rest) a w :=
  wpList_plain hgd fun _ hK => by
    unfold Oper.wp execOp
    simp only [ho, hx, hi]
    rw [Sem.run_bind, run_index_one w t e n k cs v hu hk hagg hsz hv]
    exact hK _ _ h
theorem run_part_byte {P : Program} (w : World) (e : TypeId) (a : List UInt8) (i : Nat) (u : UInt8) (hagg : ∀ w, (isAgg e).run P w = .ok false w) (hi : a[i]? = some u) : (part e (Lib.byteCells a).toArray (i * 1)).run P w = .ok (.int .u8 (u.toNat : Int)) w := by
  unfold part
  simp [Sem.run_bind, hagg, Lib.byteCells, hi]
theorem run_eqItems_bytes {P : Program} (w : World) (d : Nat) (e : TypeId) (he : P.underlying e = some (.int .u8)) (hagg : ∀ w, (isAgg e).run P w = .ok false w) (a b : List UInt8) :
    ∀ is : List Nat, (∀ i ∈ is, i < a.length ∧ i < b.length) → (Op.eqItems (d + 1) e 1 (Lib.byteCells a).toArray (Lib.byteCells b).toArray is).run P w = .ok (is.all fun i => a[i]? == b[i]?) w
  | [], _ => by simp [Op.eqItems]
  | i :: is, h => by
    obtain ⟨h1, h2⟩ := h i (by simp)
    have ih := run_eqItems_bytes w d e he hagg a b is (fun j hj => h j (by simp [hj]))
    have ha : a[i]? = some a[i] := List.getElem?_eq_getElem h1
    have hb : b[i]? = some b[i] := List.getElem?_eq_getElem h2
    have hq : ((a[i].toNat : Int) == (b[i].toNat : Int)) = (a[i]? == b[i]?) := by
      rw [ha, hb, Bool.eq_iff_iff]
      simp
      exact ⟨fun h => UInt8.toNat_inj.1 (by omega), fun h => by rw [h]⟩
    unfold Op.eqItems
    simp only [Sem.run_bind, run_part_byte w e a i _ hagg ha, run_part_byte w e b i _ hagg hb, Result.andThen_ok, run_equalIn_int w d e .u8 .u8 _ _ he, hq]
    cases hh : (a[i]? == b[i]?) with
    | false => simp [hh]
    | true => simp [hh, ih]
theorem run_eq_bytes {P : Program} (w : World) (t e : TypeId) (n : Nat) (hu : P.underlying t = some (.array n e)) (he : P.underlying e = some (.int .u8)) (hagg : ∀ w, (isAgg e).run P w = .ok false w) (hc : P.cellsOf e = 1) (a b : List UInt8) (ha : a.length = n) (hb : b.length = n) :
    (Op.equalIn 10000 t (.agg (Lib.byteCells a).toArray) (.agg (Lib.byteCells b).toArray)).run P w = .ok (decide (a = b)) w := by
  obtain ⟨i, hi⟩ := info_of_underlying hu
  obtain ⟨ie, hie⟩ := info_of_underlying he
  rw [run_equalIn_array w 9999 _ _ hu hie, hc, run_eqItems_bytes w 9998 e he hagg a b _ (fun j hj => by have := List.mem_range.1 hj; omega)]
  congr 1
  rw [Bool.eq_iff_iff, List.all_eq_true, decide_eq_true_iff]
  constructor
  · intro h
    apply List.ext_getElem?
    intro j
    by_cases hj : j < n
    · exact eq_of_beq (h j (List.mem_range.2 hj))
    · rw [List.getElem?_eq_none (by omega), List.getElem?_eq_none (by omega)]
  · rintro rfl j hj
    simp
end Go.Proofs.YtdbdgpaafjdidaaDoor
