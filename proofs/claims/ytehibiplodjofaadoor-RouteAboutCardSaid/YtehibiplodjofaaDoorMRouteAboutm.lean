/- Texts of this proof, put together: OwnB. -/
import Derived.Test.YtehibiplodjofaaDoorProg
import Derived.Test.YtehibiplodjofaaDoorMRouteAboutl
import Derived.Test.YtehibiplodjofaaDoorMRouteAbouth
import Derived.Deep.AppendSrc
import Derived.Laws.CopyRow
section
/- Rows of bytes of the call's own, with their room: append keeps all of it bytes. -/
namespace Go.Proofs.YtehibiplodjofaaDoor
open Go.RowKit
set_option linter.unusedVariables false
set_option linter.unusedSimpArgs false
/-- A list of bytes of the call's own: nil, or a row that holds it and bytes behind it. -/
def OwnB (w : World) (B : Nat) (e : TypeId) (v : Value) (l : List UInt8) : Prop :=
  (v = .slice none 0 0 ∧ l = []) ∨ ∃ g room, v = .slice (some ⟨g, 0, none⟩) l.length (l.length + room.length) ∧ B ≤ g ∧ w.heap[g]? = some (.cells (Lib.byteCells (l ++ room)).toArray e (0, 0)) ∧ l.length + room.length ≤ maxLen
section
variable {w w' : World} {B : Nat} {e : TypeId} {v : Value} {l : List UInt8}
theorem ownB_nil (w : World) (B : Nat) (e : TypeId) : OwnB w B e (.slice none 0 0) [] := .inl ⟨rfl, rfl⟩
theorem bc_len (l : List UInt8) : (Lib.byteCells l).length = l.length := by simp [Lib.byteCells]
theorem bc_app (l r : List UInt8) : Lib.byteCells (l ++ r) = Lib.byteCells l ++ Lib.byteCells r := by simp [Lib.byteCells]
theorem bc_one (l : List UInt8) : ∀ u ∈ Lib.byteCells l, u.oneCell' = true := by
  intro y hy
  simp [Lib.byteCells] at hy
  obtain ⟨c, _, rfl⟩ := hy
  rfl
theorem OwnB.row (h : OwnB w B e v l) : w.ownsRow B e 1 v l.length (Lib.byteCells l) := by
  refine ⟨by rw [bc_len, Nat.mul_one], ?_⟩
  rcases h with ⟨rfl, rfl⟩ | ⟨g, room, rfl, hg, hh, hm⟩
  · exact .inl ⟨rfl, rfl⟩
  · refine .inr ⟨g, _, _, rfl, hg, hh, Nat.le_add_right _ _, hm, ?_, ?_⟩
    · simp [bc_len]
    · rw [bc_app, Nat.mul_one]
      have := List.take_left (l₁ := Lib.byteCells l) (l₂ := Lib.byteCells room)
      rw [bc_len] at this
      simpa using this
theorem OwnB.src (h : OwnB w B e v l) : Src w v (Lib.byteCells l) := by
  rcases h with ⟨rfl, rfl⟩ | ⟨g, room, rfl, hg, hh, hm⟩
  · exact .inl ⟨none, 0, rfl, fun _ => rfl, rfl⟩
  · refine .inr ⟨g, 0, _, by rw [bc_len], by rw [bc_len]; omega, fun j x hj => ?_⟩
    rw [Nat.zero_add, cell_of_row _ _ j _ _ (0, 0) hh, bc_app]
    have hj' := (List.getElem?_eq_some_iff.1 hj).1
    simp only [List.getElem?_toArray, List.getElem?_append_left hj', hj]
theorem OwnB.lt (h : OwnB w B e v l) : ∀ k, v.ownBlock = some k → B ≤ k ∧ k < w.heap.size := by
  intro k hk
  rcases h with ⟨rfl, rfl⟩ | ⟨g, room, rfl, hg, hh, hm⟩
  · cases hk
  · have hk' : some g = some k := hk
    injection hk' with hk'
    subst hk'
    exact ⟨hg, (Array.getElem?_eq_some_iff.1 hh).1⟩
theorem OwnB.keep (h : OwnB w B e v l) (hk : ∀ k, v.ownBlock = some k → w'.heap[k]? = w.heap[k]?) : OwnB w' B e v l := by
  rcases h with ⟨rfl, rfl⟩ | ⟨g, room, rfl, hg, hh, hm⟩
  · exact .inl ⟨rfl, rfl⟩
  · exact .inr ⟨g, room, rfl, hg, by rw [hk g rfl]; exact hh, hm⟩
theorem OwnB.below (h : OwnB w B e v l) (hb : Below w.heap.size w w') : OwnB w' B e v l := h.keep fun k hk => hb.block k (h.lt k hk).2
theorem OwnB.alloc (h : OwnB w B e v l) (o : Obj) : OwnB (w.alloc o) B e v l := h.below ((Below.refl _ w).alloc (Nat.le_refl _) o)
theorem OwnB.drewN (h : OwnB w B e v l) (n : Nat) : OwnB (w.drewN n) B e v l := h.keep fun _ _ => rfl
theorem OwnB.le {B' : Nat} (h : OwnB w B e v l) (hb : B' ≤ B) : OwnB w B' e v l := by
  rcases h with ⟨rfl, rfl⟩ | ⟨g, room, rfl, hg, hh, hm⟩
  · exact .inl ⟨rfl, rfl⟩
  · exact .inr ⟨g, room, rfl, by omega, hh, hm⟩
theorem OwnB.form (h : OwnB w B e v l) : ∃ A c, v = .slice A l.length c ∧ l.length ≤ c ∧ c ≤ maxLen := by
  rcases h with ⟨rfl, rfl⟩ | ⟨g, room, rfl, hg, hh, hm⟩
  · exact ⟨none, 0, rfl, Nat.le_refl _, Nat.zero_le _⟩
  · exact ⟨_, _, rfl, by omega, hm⟩
end
theorem zeroCells_u8 (k : Nat) : (Builtin.zeroCells (Value.int .u8 0).cells k).toList = Lib.byteCells (List.replicate k 0) := by
  have h : (Value.int .u8 0).cells = #[.int .u8 0] := rfl
  rw [h]
  apply List.ext_getElem?
  intro j
  simp [Builtin.zeroCells, Lib.byteCells, List.getElem?_replicate, Nat.mod_one]
  by_cases hj : j < k
  · simp [hj]
  · simp [hj]
/-- What append gives: again a row of bytes. -/
theorem run_append_B {P : Program} (w : World) (t tx ty e : TypeId) (i : TypeInfo) (ht : P.underlying t = some (.slice e)) (hi : P.info? e = some i) (hz : i.zero = some (.int .u8 0)) (hsize : i.size = 1) (hby : i.bytes = 1)
    (B : Nat) (v : Value) (l : List UInt8) (hown : OwnB w B e v l) (x : Value) (ys : List UInt8) (hs : Go.Src P 1 tx x ys.length (Lib.byteCells ys) w) (hl : l.length + ys.length ≤ 1000000000) (hB : B ≤ w.heap.size) :
    ∃ v' w', (Builtin.append_ #[t, tx] ty #[v, x]).run P w = .ok v' w' ∧ OwnB w' B e v' (l ++ ys) ∧ w.grownBy w' v.ownBlock ∧ (v'.ownBlock = v.ownBlock ∨ v'.ownBlock = some w.heap.size) := by
  have grown : ∀ (old : Nat), old < l.length + ys.length → ∀ (row : Option Nat),
      OwnB (w.drew.alloc (.cells ((Lib.byteCells l ++ Lib.byteCells ys).toArray ++ Builtin.zeroCells (Value.int .u8 0).cells (grownCap w (l.length + ys.length) old e - (l.length + ys.length))) e)) B e (.slice (some ⟨w.heap.size, 0, none⟩) (l.length + ys.length) (grownCap w (l.length + ys.length) old e)) (l ++ ys) ∧
      w.grownBy (w.drew.alloc (.cells ((Lib.byteCells l ++ Lib.byteCells ys).toArray ++ Builtin.zeroCells (Value.int .u8 0).cells (grownCap w (l.length + ys.length) old e - (l.length + ys.length))) e)) row := by
    intro old ho row
    have hge := grownCap_ge w (l.length + ys.length) old e
    have hcm : grownCap w (l.length + ys.length) old e ≤ maxLen := grownCap_le_maxLen w (l.length + ys.length) old e (by unfold maxLen; omega)
    refine ⟨.inr ⟨w.heap.size, List.replicate (grownCap w (l.length + ys.length) old e - (l.length + ys.length)) 0, ?_, hB, ?_, ?_⟩, ⟨rfl, rfl, rfl, by simp, fun k hk _ => heap_alloc_old w.drew _ hk⟩⟩
    · rw [List.length_append, List.length_replicate]
      congr 1
      omega
    · rw [show w.heap.size = w.drew.heap.size from rfl, heap_alloc_new w.drew]
      congr 2
      apply Array.toList_inj.1
      simp only [Array.toList_append, zeroCells_u8, bc_app]
    · rw [List.length_append, List.length_replicate]
      omega
  rcases hown with ⟨rfl, rfl⟩ | ⟨g, room, rfl, hg, hh, hm⟩
  · by_cases h0 : ys.length = 0
    · have hy : ys = [] := List.eq_nil_of_length_eq_zero h0
      subst hy
      refine ⟨.slice none 0 0, w, ?_, .inl ⟨rfl, rfl⟩, ⟨rfl, rfl, rfl, Nat.le_refl _, fun _ _ _ => rfl⟩, .inl rfl⟩
      have hcl := hs.cells
      have hln := hs.len
      simp only [List.length_nil] at hcl hln
      rcases hs.kind with ⟨e', hk⟩ | hk <;> simp [Builtin.append_, run_underlying ht, run_underlying hk, sizeOf, typeInfo, hi, hsize, hln, hcl, Lib.byteCells, storeCells]
    · have hr := run_append_grow_src (P := P) w t tx ty e i (.int .u8 0) ht hi hz none 0 0 [] (run_firstCells_none (P := P) w.drew i.size 0 0 0) x ys.length (Lib.byteCells ys) (by rw [hsize]; exact hs) (by omega) (by omega) (by rw [hby]; exact growslice_fits (by omega) (by omega))
      have hgr := grown 0 (by simp; omega) (Value.ownBlock (.slice none 0 0))
      simp only [List.length_nil, Nat.zero_add, List.nil_append] at hgr hr
      exact ⟨_, _, hr, hgr.1, hgr.2, .inr rfl⟩
  · by_cases hroom : l.length + ys.length ≤ l.length + room.length
    · have hcs : (Lib.byteCells (l ++ room)).toArray.size = l.length + room.length := by simp [bc_len]
      have hst := run_storeCells_at P g l.length e (Lib.byteCells ys) 0 (Lib.byteCells (l ++ room)).toArray w hh (by rw [hcs, bc_len]; omega) (bc_one ys)
      simp only [Nat.add_zero] at hst
      have hcl := hs.cells
      have hln := hs.len
      have hroom' : ys.length ≤ room.length := by omega
      have hr : (Builtin.append_ #[t, tx] ty #[.slice (some ⟨g, 0, none⟩) l.length (l.length + room.length), x]).run P w = .ok (.slice (some ⟨g, 0, none⟩) (l.length + ys.length) (l.length + room.length)) (w.setRow g ((Lib.byteCells (l ++ room)).toArray.toList.take l.length ++ Lib.byteCells ys ++ (Lib.byteCells (l ++ room)).toArray.toList.drop (l.length + (Lib.byteCells ys).length)).toArray) := by
        rcases hs.kind with ⟨e', hk⟩ | hk <;> simp [Builtin.append_, run_underlying ht, run_underlying hk, sizeOf, typeInfo, hi, hsize, hln, hroom, hroom', hcl, Addr.add_lit, hst]
      refine ⟨_, _, hr, .inr ⟨g, room.drop ys.length, ?_, hg, ?_, ?_⟩, ⟨rfl, rfl, rfl, by simp, fun k _ hk => setRow_other w g k _ (fun e => hk (by simp [Value.ownBlock, e]))⟩, .inl rfl⟩
      · rw [List.length_append, List.length_drop]
        congr 1
        omega
      · rw [setRow_heap w g _ _ e _ hh]
        congr 3
        simp only [bc_app, bc_len]
        have e1 : (Lib.byteCells l ++ Lib.byteCells room).take l.length = Lib.byteCells l := by rw [← bc_len l]; exact List.take_left
        have e2 : (Lib.byteCells l ++ Lib.byteCells room).drop (l.length + ys.length) = Lib.byteCells (room.drop ys.length) := by
          rw [← List.drop_drop, ← bc_len l, List.drop_left]
          simp [Lib.byteCells, List.map_drop]
        rw [e1, e2]
      · rw [List.length_append, List.length_drop]
        omega
    · have holds : ∀ j u, (Lib.byteCells l)[j]? = some u → w.cell? ((⟨g, 0, none⟩ : Addr).add j) = some u := fun j u hu => by
        have hj' := (List.getElem?_eq_some_iff.1 hu).1
        have hadd : (⟨g, 0, none⟩ : Addr).add j = ⟨g, j, none⟩ := by unfold Addr.add; split <;> simp_all
        rw [hadd, cell_of_row _ _ j _ _ (0, 0) hh, bc_app]
        simp only [List.getElem?_toArray, List.getElem?_append_left hj', hu]
      have hold := run_firstCells_some (P := P) w.drew i.size l.length ⟨g, 0, none⟩ l.length (l.length + room.length) (Lib.byteCells l) (by rw [hsize, bc_len, Nat.mul_one]) (by simpa using holds)
      have hr := run_append_grow_src (P := P) w t tx ty e i (.int .u8 0) ht hi hz (some ⟨g, 0, none⟩) l.length (l.length + room.length) (Lib.byteCells l) hold x ys.length (Lib.byteCells ys) (by rw [hsize]; exact hs) (by omega) (by omega) (by rw [hby]; exact growslice_fits (by omega) (by omega))
      have hgr := grown (l.length + room.length) (by omega) (Value.ownBlock (.slice (some ⟨g, 0, none⟩) l.length (l.length + room.length)))
      exact ⟨_, _, hr, hgr.1, hgr.2, .inr rfl⟩
theorem srcG_of {P : Program} {w : World} {u : Value} {ys : List UInt8} {tx e' : TypeId} (hk : P.underlying tx = some (.slice e')) (h : Src w u (Lib.byteCells ys)) : Go.Src P 1 tx u ys.length (Lib.byteCells ys) w := by
  rcases h with ⟨A, c, rfl, hA, hy⟩ | ⟨b, off, c, rfl, -, hc⟩
  · have h0 : ys = [] := List.eq_nil_of_length_eq_zero (by rw [← bc_len, hy]; rfl)
    subst h0
    cases A with
    | none => exact Src.ofNil w hk c
    | some a => exact Src.ofSlice w hk a 0 c [] rfl (by intro j u hj; simp at hj) (by intro u hu; cases hu)
  · rw [bc_len]
    exact Src.ofSlice w hk ⟨b, off, none⟩ ys.length c (Lib.byteCells ys) (by rw [bc_len, Nat.mul_one]) (by
      intro j u hu
      have := hc j u hu
      cases j <;> simpa [Addr.add] using this) (bc_one ys)
/-- At the operation. -/
theorem wpList_appB {P : Program} {w : World} {ops : Array Oper} {rest : List Oper} {o : Oper} {a : Act} {Q : Exit → Act → World → Prop} (hgd : o.guard = none) (sl x : Operand) (t tx : TypeId)
    (ho : o.op = .call { callee := .builtin .append, args := #[sl, x], argTypes := #[t, tx] })
    (e : TypeId) (i : TypeInfo) (ht : P.underlying t = some (.slice e)) (hi : P.info? e = some i) (hz : i.zero = some (.int .u8 0)) (hsize : i.size = 1) (hby : i.bytes = 1)
    (B : Nat) (v : Value) (l : List UInt8) (hv : a.eval sl = v) (hown : OwnB w B e v l) (u : Value) (ys : List UInt8) (hu : a.eval x = u) (hs : Go.Src P 1 tx u ys.length (Lib.byteCells ys) w) (hl : l.length + ys.length ≤ 1000000000) (hB : B ≤ w.heap.size)
    (h : ∀ v' w', OwnB w' B e v' (l ++ ys) → w.grownBy w' v.ownBlock → wpList P ops Q rest (a.put o.dst v') w') : wpList P ops Q (o :: rest) a w := by
  refine wpList_plain hgd fun K hK => ?_
  obtain ⟨v', w', hr, h2, h3, h4⟩ := run_append_B (P := P) w t tx o.type e i ht hi hz hsize hby B v l hown u ys hs hl hB
  unfold Oper.wp execOp
  simp only [ho, resolve, invoke, builtin, Sem.run_bind, Sem.run_pure, Result.andThen_ok, List.map_toArray, List.map_cons, List.map_nil, hv, hu, hr]
  exact hK _ _ (h v' w' h2 h3)
end Go.Proofs.YtehibiplodjofaaDoor
end
