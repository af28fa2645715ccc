/- Texts of this proof, put together: Ai27. -/
import Derived.Test.YtmgpbcpggnlkkaaGreatDoorProg
import Derived.Test.YtmgpbcpggnlkkaaGreatDoorMResponseReadsc
import Derived.Test.YtmgpbcpggnlkkaaGreatDoorMResponseReadse
import Derived.Test.YtmgpbcpggnlkkaaGreatDoorMResponseReadsa
import Derived.Test.YtmgpbcpggnlkkaaGreatDoorMResponseReadsg
import Derived.Lib.ItoaWalk
import Derived.Lib.ItoaMem
import Derived.Lib.AppendIntMem
import Derived.Lib.BufferKept
import Derived.Lib.OwnKind
import Derived.OwnWalk
import Derived.BigCall
section
/- strconv.AppendInt onto a slice of bytes that is full (a constant's): a row of its own. -/
namespace Go.Proofs.YtmgpbcpggnlkkaaGreatDoor
open Go.RowKit Go.Lib Go.Sort Go.Shelf
set_option linter.unusedVariables false
set_option linter.unusedSimpArgs false
/-- What append gives, where there is no room. -/
theorem run_append_full {P : Program} (w : World) (t tx ty e : TypeId) (i : TypeInfo) (ht : P.underlying t = some (.slice e)) (hi : P.info? e = some i) (hz : i.zero = some (.int .u8 0)) (hsize : i.size = 1) (hby : i.bytes = 1)
    (g : Nat) (l : List UInt8) (hc : ∀ j x, (Lib.byteCells l)[j]? = some x → w.cell? ⟨g, j, none⟩ = some x) (x : Value) (ys : List UInt8) (hs : Go.Src P 1 tx x ys.length (Lib.byteCells ys) w) (hy : 0 < ys.length) (hl : l.length + ys.length ≤ 1000000000) (B : Nat) (hB : B ≤ w.heap.size) :
    ∃ v' w', (Builtin.append_ #[t, tx] ty #[.slice (some ⟨g, 0, none⟩) l.length l.length, x]).run P w = .ok v' w' ∧ OwnB w' B e v' (l ++ ys) ∧ w.grownBy w' none := by
  have holds : ∀ j u, (Lib.byteCells l)[j]? = some u → w.cell? ((⟨g, 0, none⟩ : Addr).add j) = some u := fun j u hu => by
    have hadd : (⟨g, 0, none⟩ : Addr).add j = ⟨g, j, none⟩ := by unfold Addr.add; split <;> simp_all
    rw [hadd]
    exact hc j u hu
  have hold := run_firstCells_some (P := P) w.drew i.size l.length ⟨g, 0, none⟩ l.length l.length (Lib.byteCells l) (by rw [hsize, bc_len, Nat.mul_one]) (by simpa using holds)
  have hr := run_append_grow_src (P := P) w t tx ty e i (.int .u8 0) ht hi hz (some ⟨g, 0, none⟩) l.length l.length (Lib.byteCells l) hold x ys.length (Lib.byteCells ys) (by rw [hsize]; exact hs) (by omega) (by omega) (by rw [hby]; exact growslice_fits (by omega) (by omega))
  have hge := grownCap_ge w (l.length + ys.length) l.length e
  have hcm : grownCap w (l.length + ys.length) l.length e ≤ maxLen := grownCap_le_maxLen w (l.length + ys.length) l.length e (by unfold maxLen; omega)
  refine ⟨_, _, hr, .inr ⟨w.heap.size, List.replicate (grownCap w (l.length + ys.length) l.length e - (l.length + ys.length)) 0, ?_, hB, ?_, ?_⟩, ⟨rfl, rfl, rfl, by simp, fun k hk _ => heap_alloc_old w.drew _ hk⟩⟩
  · rw [List.length_append, List.length_replicate]
    congr 1
    omega
  · rw [show w.heap.size = w.drew.heap.size from rfl, heap_alloc_new w.drew]
    congr 2
    apply Array.toList_inj.1
    simp only [Array.toList_append, zeroCells_u8, bc_app]
  · rw [List.length_append, List.length_replicate]
    omega
theorem wpList_append_full {P : Program} {w : World} {ops : Array Oper} {rest : List Oper} {o : Oper} {a : Act} {Q : Exit → Act → World → Prop} (hgd : o.guard = none) (sl x : Operand) (t tx : TypeId)
    (ho : o.op = .call { callee := .builtin .append, args := #[sl, x], argTypes := #[t, tx] })
    (e : TypeId) (i : TypeInfo) (ht : P.underlying t = some (.slice e)) (hi : P.info? e = some i) (hz : i.zero = some (.int .u8 0)) (hsize : i.size = 1) (hby : i.bytes = 1)
    (B g : Nat) (l : List UInt8) (hv : a.eval sl = .slice (some ⟨g, 0, none⟩) l.length l.length) (hc : ∀ j x, (Lib.byteCells l)[j]? = some x → w.cell? ⟨g, j, none⟩ = some x) (u : Value) (ys : List UInt8) (hu : a.eval x = u) (hs : Go.Src P 1 tx u ys.length (Lib.byteCells ys) w) (hy : 0 < ys.length) (hl : l.length + ys.length ≤ 1000000000) (hB : B ≤ w.heap.size)
    (h : ∀ v' w', OwnB w' B e v' (l ++ ys) → w.grownBy w' none → wpList P ops Q rest (a.put o.dst v') w') : wpList P ops Q (o :: rest) a w := by
  refine wpList_plain hgd fun K hK => ?_
  obtain ⟨v', w', hr, h2, h3⟩ := run_append_full (P := P) w t tx o.type e i ht hi hz hsize hby g l hc u ys hs hy hl B hB
  unfold Oper.wp execOp
  simp only [ho, resolve, invoke, builtin, Sem.run_bind, Sem.run_pure, Result.andThen_ok, List.map_toArray, List.map_cons, List.map_nil, hv, hu, hr]
  exact hK _ _ (h v' w' h2 h3)
set_option maxHeartbeats 12800000 in
set_option maxRecDepth 100000 in
theorem appUint_full (u : Nat) (hu : 100 ≤ u) (hu64 : u < 18446744073709551616) (g : Nat) (l : List UInt8) (w : World) (hg : g < w.heap.size) (hc : ∀ j x, (Lib.byteCells l)[j]? = some x → w.cell? ⟨g, j, none⟩ = some x) (hl : l.length ≤ 1000000) (htab : Lib.TabIs Tryz.prog w "internal/strconv.uint64pow10" .u64 Lib.pow10Tab) :
    Calls Tryz.prog 71 #[.slice (some ⟨g, 0, none⟩) l.length l.length, .int .u64 u, .int .i64 10] w fun e w' => ∃ v', e = .returned v' ∧ OwnB w' w.heap.size 5 v' (l ++ Lib.decDigits u) ∧ Below w.heap.size w w' := by
  obtain ⟨i0, hi, hz0, hz1, hz2⟩ := info_parts infoU8
  have hu1 : 1 ≤ u := by omega
  have hnd20 : Lib.nDigits u ≤ 20 := by have := Lib.numDigits_eq u hu1 hu64; split at this <;> omega
  have hnd1 := Lib.nDigits_pos u
  have hal : Tryz.prog.arrayLen 104 = 24 := by simp [Program.arrayLen, Tryz.underlying104]
  have hsl : ∀ W, (Instr.sliceAt 104 (.pointer (some ⟨w.heap.size, 0, none⟩)) none (some (.int .i64 (Lib.nDigits u : Int))) none).run Tryz.prog W = .ok (.slice (some ⟨w.heap.size, 0, none⟩) (Lib.nDigits u) 24) W := fun W => by
    rw [run_sliceAt_array_h W 104 ⟨w.heap.size, 0, none⟩ (by simp [Program.arrayLen, Program.elem, Tryz.underlying104]) .i64 (Lib.nDigits u : Int) (by omega) (by rw [hal]; omega)]
    go_simp
  have hH0 := Lib.holds_zero0 w 104 (Lib.nDigits u) (by omega)
  have hfmt := Tryz.internal_strconv_formatBase10 w.heap.size 0 24 u (Array.replicate (Lib.nDigits u) 0) (w.alloc (.cells Lib.zeros24 104)) hH0 (by rw [Array.size_replicate]; exact Lib.lt_pow_nDigits u) hu64 (by rw [Array.size_replicate]; omega)
  rw [Array.size_replicate] at hfmt
  have HH0 := Lib.hid hH0
  have iu : (100 : Int) ≤ (u : Int) := by omega
  clear hH0 hal
  go_enter Tryz.func71, Tryz.ntmps71
  go_wp2_with (first
    | (go_at_call 86; refine (Tryz.internal_strconv_numDigits u hu1 hu64 _ (Lib.tabIs_alloc htab _)).mono ?_; rintro e w' ⟨rfl, rfl⟩))
  go_at_call 87
  refine hfmt.mono ?_
  rintro e w' ⟨rfl, k, v', dk, rfl, hF⟩
  have hcells : ∀ j u', (Lib.byteCells (Lib.decDigits u))[j]? = some u' → ((putRow (fun (b : UInt8) => Value.int .u8 (b.toNat : Int)) (w.alloc (.cells Lib.zeros24 104)) w.heap.size 0 dk).drewN k).cell? ((⟨w.heap.size, 0, none⟩ : Addr).add j) = some u' := by
    intro j u' hj
    have hjl : j < (Lib.decDigits u).length := by
      have h5 := (List.getElem?_eq_some_iff.1 hj).1
      rwa [Lib.byteCells_length] at h5
    have e5 : (Lib.byteCells (Lib.decDigits u))[j]? = some (Value.int .u8 ((Lib.decDigits u)[j].toNat : Int)) := by simp [Lib.byteCells, hjl]
    rw [e5] at hj
    cases hj
    rw [Lib.row_is_numeral hF j hjl, Lib.add_plain, World.cell?_drewN]
    exact cell?_putRow (fun (b : UInt8) => Value.int .u8 (b.toNat : Int)) _ w.heap.size 0 _ dk HH0.out (by rw [hF.size, Array.size_replicate]) j (by rw [hF.size]; rw [Lib.decDigits_length] at hjl; exact hjl)
  obtain ⟨os, eo⟩ := Lib.fin_at w (.cells Lib.zeros24 104) dk k 0
  have hnx2 : Below w.heap.size w ((putRow (fun (b : UInt8) => Value.int .u8 (b.toNat : Int)) (w.alloc (.cells Lib.zeros24 104)) w.heap.size 0 dk).drewN k) := by rw [eo]; exact Lib.below_grow w.heap.size w (Nat.le_refl _) k os
  generalize (putRow (fun (b : UInt8) => Value.int .u8 (b.toNat : Int)) (w.alloc (.cells Lib.zeros24 104)) w.heap.size 0 dk).drewN k = W2 at hcells hnx2 ⊢
  clear eo HH0 hfmt
  have hc2 : ∀ j x, (Lib.byteCells l)[j]? = some x → W2.cell? ⟨g, j, none⟩ = some x := fun j x hj => (hnx2.cell (p := ⟨g, j, none⟩) hg).trans (hc j x hj)
  have hdl := Lib.decDigits_length u
  have hsrc : Go.Src Tryz.prog 1 22 (.slice (some ⟨w.heap.size, 0, none⟩) (Lib.nDigits u) 24) (Lib.decDigits u).length (Lib.byteCells (Lib.decDigits u)) W2 := by
    have := Go.Src.ofSlice (P := Tryz.prog) (w := W2) (size := 1) (tx := 22) Tryz.underlying22 ⟨w.heap.size, 0, none⟩ (Lib.decDigits u).length 24 (Lib.byteCells (Lib.decDigits u)) (by rw [Lib.byteCells_length, Nat.mul_one]) hcells (bc_one _)
    rw [hdl] at this ⊢
    exact this
  go_wp2_with (at_builtin; refine wpList_append_full rfl _ _ 22 22 rfl 5 i0 Tryz.underlying22 hi hz0 hz1 hz2 w.heap.size g l rfl hc2 _ (Lib.decDigits u) rfl hsrc (by omega) (by omega) hnx2.size ?_)
  intro v2 w3 hown' hgrow
  go_wp2
  go_ret
  exact ⟨v2, rfl, hown', hnx2.grown hgrow hnx2.size (fun k hk => by cases hk)⟩
set_option maxHeartbeats 1000000 in
theorem appInt_full (st : Nat) (hu : 100 ≤ st) (hu64 : st < 9223372036854775807) (g : Nat) (l : List UInt8) (w : World) (hg : g < w.heap.size) (hc : ∀ j x, (Lib.byteCells l)[j]? = some x → w.cell? ⟨g, j, none⟩ = some x) (hl : l.length ≤ 1000000) (htab : Lib.TabIs Tryz.prog w "internal/strconv.uint64pow10" .u64 Lib.pow10Tab) :
    Calls Tryz.prog 44 #[.slice (some ⟨g, 0, none⟩) l.length l.length, .int .i64 st, .int .i64 10] w fun e w' => ∃ v', e = .returned v' ∧ OwnB w' w.heap.size 5 v' (l ++ Lib.decDigits st) ∧ Below w.heap.size w w' := by
  go_enter Tryz.func44, Tryz.ntmps44
  go_wp2_with (first
    | (go_at_call 71; refine (appUint_full st hu (by omega) g l w hg hc hl htab).mono ?_; rintro e w2 ⟨v2, rfl, hown2, hb2⟩)
    | go_in)
  go_wp2
  go_ret
  exact ⟨v2, rfl, hown2, hb2⟩
end Go.Proofs.YtmgpbcpggnlkkaaGreatDoor
end
