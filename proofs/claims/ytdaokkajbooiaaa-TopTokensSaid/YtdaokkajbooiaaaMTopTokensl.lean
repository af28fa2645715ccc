/- Texts of this proof, put together: Pw20, Kv20. -/
import Derived.Test.YtdaokkajbooiaaaProg
import Derived.Test.YtdaokkajbooiaaaMTopTokensk
import Derived.WalkMore
import Derived.Laws.Tables
import Derived.Laws.Rows
import Derived.Laws.CopyOwn
section
/- Listing: a page: its walk. -/
namespace Go.Proofs.Ytdaokkajbooiaaa
open Go.RowKit Go.Shelf
set_option linter.unusedVariables false
set_option linter.unusedSimpArgs false
attribute [local go_sem] Oper.semAt_some
def PageAt (n₀ : Nat) (W : World) (pv : Value) (g : Pg) : Prop := ∃ sl, pv = .agg #[sl, .bool g.more, .string (BA g.next), .string (BA g.version)] ∧ W.ownsRow n₀ 39 8 sl g.items.length (g.items.flatMap itmC)
theorem wideIn_scope {n : Nat} {P : Program} {c : Code} {Q : Exit → Act → World → Prop} {a : Act} {w : World} (h : c.wpIn Fence.wide n P (Exit.noGoto Q) a w) : (Code.scope c).wpIn Fence.wide n P Q a w := (wpIn_wide (n := n)).2 (wp_scope_straight ((wpIn_wide (n := n)).1 h))
theorem run_index_one {P : Program} (w : World) (t e : TypeId) (n k : Nat) (cs : Array Value) (v : Value) (hu : P.underlying t = some (.array n e)) (hk : k < n)
    (hagg : (isAgg e).run P w = .ok false w) (hsz : (sizeOf e).run P w = .ok 1 w) (hv : cs[k]? = some v) : (Instr.index t (.agg cs) (.int .i64 (k : Int))).run P w = .ok v w := by
  have h1 : (0 : Int) ≤ k ∧ (k : Int) < (n : Int) := ⟨by omega, by omega⟩
  unfold Instr.index part
  simp [asIntOf, run_underlying hu, h1.2, Sem.run_bind, hagg, hsz, hv, hk]
theorem wpListIn_index_one {F : Fence} {nf : Nat} {P : Program} {ops : Array Oper} {rest : List Oper} {op : Oper} {a : Act} {w : World} {Q : Exit → Act → World → Prop} (hgd : op.guard = none) (t : TypeId) (x ix : Operand) (ho : op.op = .index t x ix)
    (cs : Array Value) (hx : a.eval x = .agg cs) (k : Nat) (hi : a.eval ix = .int .i64 (k : Int)) (e : TypeId) (n : Nat) (hu : P.underlying t = some (.array n e)) (hk : k < n)
    (hagg : (isAgg e).run P w = .ok false w) (hsz : (sizeOf e).run P w = .ok 1 w) (v : Value) (hv : cs[k]? = some v) (h : wpListIn F nf P ops Q rest (a.put op.dst v) w) : wpListIn F nf P ops Q (op :: rest) a w := by
  refine wpListIn_plain hgd fun K hK => ?_
  unfold Oper.wpIn
  refine ⟨?_, ?_⟩
  · simp [Oper.about, ho, resolve, Target.leads, Sem.run_pure]
  · rw [Oper.semAt_plain F _ _ (by rw [ho]; intro c hc; cases hc)]
    unfold execOp
    simp only [ho, hx, hi]
    rw [Sem.run_bind, run_index_one w t e n k cs v hu hk hagg hsz hv]
    exact hK _ _ h
theorem wpListIn_store_row {F : Fence} {nf : Nat} {P : Program} {ops : Array Oper} {rest : List Oper} {o : Oper} {a : Act} {w : World} {Q : Exit → Act → World → Prop} (hgd : o.guard = none) (ty : TypeId) (x y : Operand) (ho : o.op = .store ty x y)
    (g : Nat) (cells : Array Value) (hx : a.eval x = .pointer (some ⟨g, 0, none⟩)) (hy : a.eval y = .agg cells)
    (t : TypeId) (old : Array Value) (hg : w.heap[g]? = some (.cells old t (0, 0))) (hi : (P.info? ty).map (·.size) = some cells.size)
    (hold : old.size = cells.size) (h1 : cells.all (·.oneCell') = true)
    (h : wpListIn F nf P ops Q rest (a.put o.dst undef) (w.setRow g cells)) : wpListIn F nf P ops Q (o :: rest) a w := by
  refine wpListIn_plain hgd fun K hK => ?_
  unfold Oper.wpIn
  refine ⟨?_, ?_⟩
  · simp [Oper.about, ho, resolve, Target.leads, Sem.run_pure]
  · rw [Oper.semAt_plain F _ _ (by rw [ho]; intro c hc; cases hc)]
    unfold execOp
    simp only [ho, hx, hy, Instr.storeAt, Instr.sureAddr, Sem.run_bind, Sem.run_pure, Result.andThen_ok, run_storeVar_row w g t ty old cells hg hi hold h1]
    exact hK _ _ h
theorem wpListIn_load_row {F : Fence} {nf : Nat} {P : Program} {ops : Array Oper} {rest : List Oper} {o : Oper} {a : Act} {w : World} {Q : Exit → Act → World → Prop} (hgd : o.guard = none) (ty : TypeId) (x : Operand) (ho : o.op = .load ty x)
    (g : Nat) (hx : a.eval x = .pointer (some ⟨g, 0, none⟩)) (t : TypeId) (cs : Array Value) (fr : Nat × Nat) (d : TypeDesc) (hg : w.heap[g]? = some (.cells cs t fr))
    (hu : P.underlying ty = some d) (hd : (match d with | .struct _ | .array _ _ => true | _ => false) = true) (hi : (P.info? ty).map (·.size) = some cs.size)
    (h : wpListIn F nf P ops Q rest (a.put o.dst (.agg cs)) w) : wpListIn F nf P ops Q (o :: rest) a w := by
  refine wpListIn_plain hgd fun K hK => ?_
  unfold Oper.wpIn
  refine ⟨?_, ?_⟩
  · simp [Oper.about, ho, resolve, Target.leads, Sem.run_pure]
  · rw [Oper.semAt_plain F _ _ (by rw [ho]; intro c hc; cases hc)]
    unfold execOp
    simp only [ho, hx, Instr.loadAt, Instr.sureAddr, Sem.run_bind, Sem.run_pure, Result.andThen_ok, run_loadVar_row w g t ty cs fr d hg hu hd hi]
    exact hK _ _ h
theorem box5_at (w : World) (o0 o1 o2 o3 o4 : Obj) (W : World) (h : ((((w.alloc o0).alloc o1).alloc o2).alloc o3).alloc o4 = W) : W.heap[w.heap.size]? = some o0 ∧ W.heap[w.heap.size + 1]? = some o1 ∧ W.heap[w.heap.size + 1 + 1]? = some o2 ∧ W.heap[w.heap.size + 1 + 1 + 1]? = some o3 ∧ W.heap[w.heap.size + 1 + 1 + 1 + 1]? = some o4 ∧ W.heap.size = w.heap.size + 5 ∧ Below w.heap.size w W := by
  subst h
  have e1 := heap_alloc_new w o0
  have e2 := heap_alloc_new (w.alloc o0) o1
  have e3 := heap_alloc_new ((w.alloc o0).alloc o1) o2
  have e4 := heap_alloc_new (((w.alloc o0).alloc o1).alloc o2) o3
  have e5 := heap_alloc_new ((((w.alloc o0).alloc o1).alloc o2).alloc o3) o4
  simp only [World.size_alloc] at e2 e3 e4 e5
  refine ⟨?_, ?_, ?_, ?_, e5, by simp, ?_⟩
  · rw [heap_alloc_old _ _ _ (by simp only [World.size_alloc]; omega), heap_alloc_old _ _ _ (by simp only [World.size_alloc]; omega), heap_alloc_old _ _ _ (by simp only [World.size_alloc]; omega), heap_alloc_old _ _ _ (by simp only [World.size_alloc]; omega)]; exact e1
  · rw [heap_alloc_old _ _ _ (by simp only [World.size_alloc]; omega), heap_alloc_old _ _ _ (by simp only [World.size_alloc]; omega), heap_alloc_old _ _ _ (by simp only [World.size_alloc]; omega)]; exact e2
  · rw [heap_alloc_old _ _ _ (by simp only [World.size_alloc]; omega), heap_alloc_old _ _ _ (by simp only [World.size_alloc]; omega)]; exact e3
  · rw [heap_alloc_old _ _ _ (by simp)]; exact e4
  · exact (((((Below.refl _ w).alloc (Nat.le_refl _) _).alloc (by simp) _).alloc (by simp; omega) _).alloc (by simp; omega) _).alloc (by simp; omega) _
theorem box2_at (w : World) (o0 o1 : Obj) (W : World) (h : (w.alloc o0).alloc o1 = W) : W.heap[w.heap.size]? = some o0 ∧ W.heap[w.heap.size + 1]? = some o1 ∧ W.heap.size = w.heap.size + 2 ∧ Below w.heap.size w W := by
  subst h
  have e2 := heap_alloc_new (w.alloc o0) o1
  simp only [World.size_alloc] at e2
  exact ⟨by rw [heap_alloc_old _ _ _ (by simp only [World.size_alloc]; omega)]; exact heap_alloc_new w o0, e2, by simp, ((Below.refl _ w).alloc (Nat.le_refl _) _).alloc (by simp) _⟩
theorem fin_early {n : Nat} {R : Ending → World → Prop} {tmps : Array Value} {w : World} {B10 : Nat} {cs : Array Value} {v : Value} (hp : tmps.getD 10 undef = .pointer (some ⟨B10, 0, none⟩)) (hq : tmps.getD 11 undef = v) (hg : w.heap[B10]? = some (.cells cs 28 (0, 0))) (hc : cs.size = 4) (hR : R (.returned (.tuple #[.agg cs, v])) w) :
    Exit.noGoto (bodyPostM Fence.wide n Try.prog Try.f32 R) .ret { tmps := tmps, defers := [] } w :=
  ⟨_, results_row_tmp (show Try.f32.results = #[.cell 10 28, .tmp 11] from by kernel_rfl) _ _ B10 28 cs (0, 0) _ _ hp hq hg Try.underlying28 rfl (by rw [hc]; exact infoP), hR⟩
theorem fin_late {n : Nat} {R : Ending → World → Prop} {tmps : Array Value} {w : World} {B10 D : Nat} {cs : Array Value} {v : Value} (hK : w.heap[D]? = some (.deferred (some []))) (hp : tmps.getD 10 undef = .pointer (some ⟨B10, 0, none⟩)) (hq : tmps.getD 11 undef = v) (hg : w.heap[B10]? = some (.cells cs 28 (0, 0))) (hc : cs.size = 4) (hR : R (.returned (.tuple #[.agg cs, v])) (w.putObj D (.deferred none))) :
    Exit.noGoto (bodyPostM Fence.wide n Try.prog Try.f32 R) .ret { tmps := tmps, defers := [{ target := .collected D, args := #[] }] } w :=
  ⟨by simp, .inl ⟨_, _, rfl, run_takeDeferred hK, ⟨_, results_row_tmp (show Try.f32.results = #[.cell 10 28, .tmp 11] from by kernel_rfl) _ _ B10 28 cs (0, 0) _ _ hp hq ((World.putObj_heap_other (fun e => by subst e; rw [hg] at hK; cases hK)).trans hg) Try.underlying28 rfl (by rw [hc]; exact infoP), hR⟩⟩⟩
theorem pageV_long {vers : Bool} {es : List Ent} {p d after version : ByteArray} {most : Int} (h : 400 < p.size ∨ 400 < d.size ∨ 400 < after.size ∨ 400 < version.size) : pageV vers es p.data.toList d.data.toList after.data.toList version.data.toList most = (pg0, 3) := by
  unfold pageV
  rw [if_pos (by simpa using h)]
theorem pageV_bad {vers : Bool} {es : List Ent} {p d after version : ByteArray} {most : Int} (h : p.size ≤ 400 ∧ d.size ≤ 400 ∧ after.size ≤ 400 ∧ version.size ≤ 400) (h2 : okFrom none es = false) : pageV vers es p.data.toList d.data.toList after.data.toList version.data.toList most = (pg0, 2) := by
  unfold pageV
  rw [if_neg (by simp; omega), if_pos h2]
theorem pageV_range {vers : Bool} {es : List Ent} {p d after version : ByteArray} {most : Int} (h : p.size ≤ 400 ∧ d.size ≤ 400 ∧ after.size ≤ 400 ∧ version.size ≤ 400) (h2 : okFrom none es = true) (h3 : most < 1 ∨ 1000 < most) : pageV vers es p.data.toList d.data.toList after.data.toList version.data.toList most = (pg0, 5) := by
  unfold pageV
  rw [if_neg (by simp; omega), if_neg (by simp [h2]), if_pos h3]
theorem pageV_good {vers : Bool} {es : List Ent} {p d after version : ByteArray} {most : Int} (h : p.size ≤ 400 ∧ d.size ≤ 400 ∧ after.size ≤ 400 ∧ version.size ≤ 400) (h2 : okFrom none es = true) (h3 : 1 ≤ most ∧ most ≤ 1000) : pageV vers es p.data.toList d.data.toList after.data.toList version.data.toList most = (mkPg vers most.toNat (runP after.data.toList version.data.toList most.toNat false [] (listP p.data.toList d.data.toList vers none es)), 0) := by
  unfold pageV
  rw [if_neg (by simp; omega), if_neg (by simp [h2]), if_neg (by omega)]
theorem pg0_at (n₀ : Nat) (W : World) : PageAt n₀ W (.agg #[.slice none 0 0, .bool false, .string ⟨#[]⟩, .string ⟨#[]⟩]) pg0 := ⟨_, rfl, World.ownsRow_nil _ _ _ _⟩
theorem okFrom_all {q : Option Bs} : ∀ {es : List Ent}, okFrom q es = true → ∀ e ∈ es, e.vs ≠ []
  | [], _ => by simp
  | e :: r, h => fun x hx => by
    rcases List.mem_cons.1 hx with rfl | hx
    · exact okFrom_vs h
    · exact okFrom_all (okFrom_tail h) x hx
set_option maxRecDepth 100000 in
set_option maxHeartbeats 4000000 in
theorem page_in (n : Nat) (hn : 6 ≤ n) (p d after version : ByteArray) (vers : Bool) (most : Int) (es : List Ent) (v : Value) (w : World) (hE : EntsAt w v es) (hel : es.length ≤ 1000000) (hkey : ∀ e ∈ es, e.key.length ≤ 1000000 ∧ e.vs.length ≤ 1000000) (hMax : ∃ m, w.cell? ⟨0, 0, none⟩ = some (.int .i64 m)) (hps : p.size ≤ 1000000) (hds : d.size ≤ 1000000) (has : after.size ≤ 1000000) (hvs : version.size ≤ 1000000) :
    CallsIn Fence.wide n Try.prog 32 #[.agg #[.string p, .string d, .bool vers], v, .string after, .string version, .int .i64 most] w fun e W' => ∃ pv, e = .returned (.tuple #[pv, .int .i64 (pageV vers es p.data.toList d.data.toList after.data.toList version.data.toList most).2]) ∧ PageAt w.heap.size W' pv (pageV vers es p.data.toList d.data.toList after.data.toList version.data.toList most).1 ∧ Below w.heap.size w W' := by
  have h1 : 1 ≤ n := by omega
  obtain ⟨A0, c0, rfl⟩ := hE.form
  have HE := Lib.hid hE
  clear hE
  refine callsIn_of_wp_marks Try.func32 rfl trivial ?_ rfl
  simp only [Try.ntmps32, List.size_toArray, List.length_cons, List.length_nil, Nat.reduceAdd, Nat.reduceSub, Array.replicate_succ, Array.replicate_zero, List.push_toArray, List.append_toArray, List.nil_append, List.cons_append]
  gi_wp2
  obtain ⟨w1, hw1⟩ : ∃ w1, ((((w.alloc (.cells #[.string p, .string d, .bool vers] 60)).alloc (.cells #[.string after] 9)).alloc (.cells #[.string version] 9)).alloc (.cells #[.int .i64 most] 3)).alloc (.cells #[.slice none 0 0, .bool false, .string ⟨#[]⟩, .string ⟨#[]⟩] 28) = w1 := ⟨_, rfl⟩
  obtain ⟨r5, r7, r8, r9, r10, hs1, hb1⟩ := box5_at _ _ _ _ _ _ w1 hw1
  rw [hw1]
  clear hw1
  obtain ⟨B5, h5⟩ : ∃ B, w.heap.size = B := ⟨_, rfl⟩
  obtain ⟨B7, h7⟩ : ∃ B, B5 + 1 = B := ⟨_, rfl⟩
  obtain ⟨B8, h8⟩ : ∃ B, B7 + 1 = B := ⟨_, rfl⟩
  obtain ⟨B9, h9⟩ : ∃ B, B8 + 1 = B := ⟨_, rfl⟩
  obtain ⟨B10, h10⟩ : ∃ B, B9 + 1 = B := ⟨_, rfl⟩
  rw [h5, h7, h8, h9, h10] at r10 ⊢
  rw [h5, h7, h8, h9] at r9
  rw [h5, h7, h8] at r8
  rw [h5, h7] at r7
  rw [h5] at r5
  have HB := Lib.hid (And.intro h5 (And.intro h7 (And.intro h8 (And.intro h9 h10))))
  have HB10 := Lib.hid (show w.heap.size ≤ B10 by omega)
  clear h5 h7 h8 h9 h10
  have c50 : w1.cell? ⟨B5, 0, none⟩ = some (.string p) := by rw [cell_of_row _ _ 0 _ _ (0, 0) r5]; rfl
  have c51 : w1.cell? ⟨B5, 1, none⟩ = some (.string d) := by rw [cell_of_row _ _ 1 _ _ (0, 0) r5]; rfl
  have c7 : w1.cell? ⟨B7, 0, none⟩ = some (.string after) := by rw [cell_of_row _ _ 0 _ _ (0, 0) r7]; rfl
  have c8 : w1.cell? ⟨B8, 0, none⟩ = some (.string version) := by rw [cell_of_row _ _ 0 _ _ (0, 0) r8]; rfl
  have c9 : w1.cell? ⟨B9, 0, none⟩ = some (.int .i64 most) := by rw [cell_of_row _ _ 0 _ _ (0, 0) r9]; rfl
  refine wideIn_scope ?_
  gi_wp2
  gi_loopw [27] (fun i wr => (i = .int .i64 0 ∧ wr = w1 ∧ True) ∨ (i = .int .i64 1 ∧ wr = w1 ∧ p.size ≤ 400) ∨ (i = .int .i64 2 ∧ wr = w1 ∧ p.size ≤ 400 ∧ d.size ≤ 400) ∨ (i = .int .i64 3 ∧ wr = w1 ∧ p.size ≤ 400 ∧ d.size ≤ 400 ∧ after.size ≤ 400) ∨ (i = .int .i64 4 ∧ wr = w1 ∧ p.size ≤ 400 ∧ d.size ≤ 400 ∧ after.size ≤ 400 ∧ version.size ≤ 400)) (fun i _ => 4 - (intOf i).toNat)
  case atStart => exact .inl ⟨rfl, rfl, trivial⟩
  case round =>
    rcases hrel with ⟨rfl, rfl, H⟩ | ⟨rfl, rfl, H⟩ | ⟨rfl, rfl, H⟩ | ⟨rfl, rfl, H⟩ | ⟨rfl, rfl, H⟩
    · by_cases hlong : 400 < p.size
      · have HV := Lib.hid (pageV_long (vers := vers) (es := es) (p := p) (d := d) (after := after) (version := version) (most := most) (.inl hlong))
        gi_wp2_with first | (refine wpListIn_index_one rfl 77 _ _ rfl _ rfl 0 rfl 9 4 Try.underlying77 (by omega) (by kernel_rfl) (by kernel_rfl) _ rfl ?_) | (refine wpListIn_store_row rfl 28 _ _ rfl B10 #[.slice none 0 0, .bool false, .string ⟨#[]⟩, .string ⟨#[]⟩] rfl rfl 28 _ r10 infoP rfl (by simp [Value.oneCell']) ?_)
        exact fin_early (v := .int .i64 3) rfl rfl (setRow_heap _ _ _ _ _ _ r10) rfl ⟨_, by rw [HV.out], by rw [HV.out]; exact pg0_at _ _, below_setRow hb1 HB10.out _⟩
      · gi_wp2_with (refine wpListIn_index_one rfl 77 _ _ rfl _ rfl 0 rfl 9 4 Try.underlying77 (by omega) (by kernel_rfl) (by kernel_rfl) _ rfl ?_)
        go_roundw
        case rel => first | omega | (simp; omega)
        case measure => decide
    · by_cases hlong : 400 < d.size
      · have HV := Lib.hid (pageV_long (vers := vers) (es := es) (p := p) (d := d) (after := after) (version := version) (most := most) (.inr (.inl hlong)))
        gi_wp2_with first | (refine wpListIn_index_one rfl 77 _ _ rfl _ rfl 1 rfl 9 4 Try.underlying77 (by omega) (by kernel_rfl) (by kernel_rfl) _ rfl ?_) | (refine wpListIn_store_row rfl 28 _ _ rfl B10 #[.slice none 0 0, .bool false, .string ⟨#[]⟩, .string ⟨#[]⟩] rfl rfl 28 _ r10 infoP rfl (by simp [Value.oneCell']) ?_)
        exact fin_early (v := .int .i64 3) rfl rfl (setRow_heap _ _ _ _ _ _ r10) rfl ⟨_, by rw [HV.out], by rw [HV.out]; exact pg0_at _ _, below_setRow hb1 HB10.out _⟩
      · gi_wp2_with (refine wpListIn_index_one rfl 77 _ _ rfl _ rfl 1 rfl 9 4 Try.underlying77 (by omega) (by kernel_rfl) (by kernel_rfl) _ rfl ?_)
        go_roundw
        case rel => first | omega | (simp; omega)
        case measure => decide
    · by_cases hlong : 400 < after.size
      · have HV := Lib.hid (pageV_long (vers := vers) (es := es) (p := p) (d := d) (after := after) (version := version) (most := most) (.inr (.inr (.inl hlong))))
        gi_wp2_with first | (refine wpListIn_index_one rfl 77 _ _ rfl _ rfl 2 rfl 9 4 Try.underlying77 (by omega) (by kernel_rfl) (by kernel_rfl) _ rfl ?_) | (refine wpListIn_store_row rfl 28 _ _ rfl B10 #[.slice none 0 0, .bool false, .string ⟨#[]⟩, .string ⟨#[]⟩] rfl rfl 28 _ r10 infoP rfl (by simp [Value.oneCell']) ?_)
        exact fin_early (v := .int .i64 3) rfl rfl (setRow_heap _ _ _ _ _ _ r10) rfl ⟨_, by rw [HV.out], by rw [HV.out]; exact pg0_at _ _, below_setRow hb1 HB10.out _⟩
      · gi_wp2_with (refine wpListIn_index_one rfl 77 _ _ rfl _ rfl 2 rfl 9 4 Try.underlying77 (by omega) (by kernel_rfl) (by kernel_rfl) _ rfl ?_)
        go_roundw
        case rel => first | omega | (simp; omega)
        case measure => decide
    · by_cases hlong : 400 < version.size
      · have HV := Lib.hid (pageV_long (vers := vers) (es := es) (p := p) (d := d) (after := after) (version := version) (most := most) (.inr (.inr (.inr hlong))))
        gi_wp2_with first | (refine wpListIn_index_one rfl 77 _ _ rfl _ rfl 3 rfl 9 4 Try.underlying77 (by omega) (by kernel_rfl) (by kernel_rfl) _ rfl ?_) | (refine wpListIn_store_row rfl 28 _ _ rfl B10 #[.slice none 0 0, .bool false, .string ⟨#[]⟩, .string ⟨#[]⟩] rfl rfl 28 _ r10 infoP rfl (by simp [Value.oneCell']) ?_)
        exact fin_early (v := .int .i64 3) rfl rfl (setRow_heap _ _ _ _ _ _ r10) rfl ⟨_, by rw [HV.out], by rw [HV.out]; exact pg0_at _ _, below_setRow hb1 HB10.out _⟩
      · gi_wp2_with (refine wpListIn_index_one rfl 77 _ _ rfl _ rfl 3 rfl 9 4 Try.underlying77 (by omega) (by kernel_rfl) (by kernel_rfl) _ rfl ?_)
        go_roundw
        case rel => first | omega | (simp; omega)
        case measure => decide
    · cases hok : okFrom none es with
      | false =>
        have HV := Lib.hid (pageV_bad (vers := vers) (most := most) H hok)
        have hC : ∀ W, Below wr.heap.size wr W → Calls Try.prog 17 #[.slice A0 es.length c0] W fun e w' => e = .returned (.int .i64 2) ∧ Below W.heap.size W w' := fun W hW => by
          have := check_any _ es W hel (HE.out.block (hb1.trans (hW.mono hb1.size)))
          rwa [show checkV es = 2 by unfold checkV; rw [hok]; rfl] at this
        clear hok
        gi_wp2_with first | (refine ⟨trivial, ?_⟩; gi_at_call 17; refine (callsIn_wide.2 (hC _ (Below.refl _ _))).mono ?_; rintro e w2 ⟨rfl, hb2⟩; have r10b := (hb2.block _ (Array.getElem?_eq_some_iff.1 r10).1).trans r10) | (refine wpListIn_store_row rfl 28 _ _ rfl B10 #[.slice none 0 0, .bool false, .string ⟨#[]⟩, .string ⟨#[]⟩] rfl rfl 28 _ r10b infoP rfl (by simp [Value.oneCell']) ?_)
        exact fin_early (v := .int .i64 2) rfl rfl (setRow_heap _ _ _ _ _ _ r10b) rfl ⟨_, by rw [HV.out], by rw [HV.out]; exact pg0_at _ _, below_setRow (hb1.trans (hb2.mono hb1.size)) HB10.out _⟩
      | true =>
        have hC : ∀ W, Below wr.heap.size wr W → Calls Try.prog 17 #[.slice A0 es.length c0] W fun e w' => e = .returned (.int .i64 0) ∧ Below W.heap.size W w' := fun W hW => by
          have := check_any _ es W hel (HE.out.block (hb1.trans (hW.mono hb1.size)))
          rwa [show checkV es = 0 by unfold checkV; rw [hok]; rfl] at this
        by_cases hm1 : most < 1
        · have HV := Lib.hid (pageV_range (vers := vers) (most := most) H hok (.inl hm1))
          clear hok
          gi_wp2_with first | (refine ⟨trivial, ?_⟩; gi_at_call 17; refine (callsIn_wide.2 (hC _ (Below.refl _ _))).mono ?_; rintro e w2 ⟨rfl, hb2⟩; have r10b := (hb2.block _ (Array.getElem?_eq_some_iff.1 r10).1).trans r10; have c9b : w2.cell? ⟨B9, 0, none⟩ = some (.int .i64 most) := by rw [cell_of_row _ _ 0 _ _ (0, 0) ((hb2.block _ (Array.getElem?_eq_some_iff.1 r9).1).trans r9)]; rfl) | (refine wpListIn_store_row rfl 28 _ _ rfl B10 #[.slice none 0 0, .bool false, .string ⟨#[]⟩, .string ⟨#[]⟩] rfl rfl 28 _ r10b infoP rfl (by simp [Value.oneCell']) ?_)
          exact fin_early (v := .int .i64 5) rfl rfl (setRow_heap _ _ _ _ _ _ r10b) rfl ⟨_, by rw [HV.out], by rw [HV.out]; exact pg0_at _ _, below_setRow (hb1.trans (hb2.mono hb1.size)) HB10.out _⟩
        · by_cases hm2 : 1000 < most
          · have HV := Lib.hid (pageV_range (vers := vers) (most := most) H hok (.inr hm2))
            clear hok
            gi_wp2_with first | (refine ⟨trivial, ?_⟩; gi_at_call 17; refine (callsIn_wide.2 (hC _ (Below.refl _ _))).mono ?_; rintro e w2 ⟨rfl, hb2⟩; have r10b := (hb2.block _ (Array.getElem?_eq_some_iff.1 r10).1).trans r10; have c9b : w2.cell? ⟨B9, 0, none⟩ = some (.int .i64 most) := by rw [cell_of_row _ _ 0 _ _ (0, 0) ((hb2.block _ (Array.getElem?_eq_some_iff.1 r9).1).trans r9)]; rfl) | (refine wpListIn_store_row rfl 28 _ _ rfl B10 #[.slice none 0 0, .bool false, .string ⟨#[]⟩, .string ⟨#[]⟩] rfl rfl 28 _ r10b infoP rfl (by simp [Value.oneCell']) ?_)
            exact fin_early (v := .int .i64 5) rfl rfl (setRow_heap _ _ _ _ _ _ r10b) rfl ⟨_, by rw [HV.out], by rw [HV.out]; exact pg0_at _ _, below_setRow (hb1.trans (hb2.mono hb1.size)) HB10.out _⟩
          · have HV := Lib.hid (pageV_good (vers := vers) (most := most) H hok (by omega))
            have HOK := Lib.hid (okFrom_all hok)
            clear hok
            gi_wp2_with (refine ⟨trivial, ?_⟩; gi_at_call 17; refine (callsIn_wide.2 (hC _ (Below.refl _ _))).mono ?_; rintro e w2 ⟨rfl, hb2⟩; have r10b := (hb2.block _ (Array.getElem?_eq_some_iff.1 r10).1).trans r10; have c9b : w2.cell? ⟨B9, 0, none⟩ = some (.int .i64 most) := by rw [cell_of_row _ _ 0 _ _ (0, 0) ((hb2.block _ (Array.getElem?_eq_some_iff.1 r9).1).trans r9)]; rfl)
            obtain ⟨w3, hw3⟩ : ∃ w3, (w2.alloc (.cells #[.slice none 0 0, .bool false, .string ⟨#[]⟩, .string ⟨#[]⟩] 28)).alloc (.cells #[.bool false] 4) = w3 := ⟨_, rfl⟩
            obtain ⟨r15, r16, hs3, hb3⟩ := box2_at _ _ _ w3 hw3
            rw [hw3]
            clear hw3
            obtain ⟨B15, h15⟩ : ∃ B, w2.heap.size = B := ⟨_, rfl⟩
            obtain ⟨B16, h16⟩ : ∃ B, B15 + 1 = B := ⟨_, rfl⟩
            rw [h15, h16] at r16 ⊢
            rw [h15] at r15
            have r5c := (hb3.block _ (Array.getElem?_eq_some_iff.1 ((hb2.block _ (Array.getElem?_eq_some_iff.1 r5).1).trans r5)).1).trans ((hb2.block _ (Array.getElem?_eq_some_iff.1 r5).1).trans r5)
            refine wpIn_label ?_
            clear c50 c51 c7 c8 c9 c9b
            gi_wp2_with first | (refine wpListIn_load_row rfl 60 _ rfl B5 rfl 60 _ (0, 0) _ r5c Try.underlying60 rfl (by kernel_rfl) ?_) | (refine ⟨trivial, ?_⟩; gi_at_call 45; refine (listed_in (n - 1) (by omega) p d vers _ _ _ _).mono ?_; rintro e w4 ⟨rfl, rfl⟩)
            obtain ⟨af, rfl⟩ : ∃ af, after = BA af := ⟨after.data.toList, (ba_data after).symm⟩
            obtain ⟨ve, rfl⟩ : ∃ ve, version = BA ve := ⟨version.data.toList, (ba_data version).symm⟩
            obtain ⟨W0, hW0⟩ : ∃ W0, (w3.alloc (.cells #[.string p, .string d, .bool vers] 60)).alloc (.cells #[.slice A0 es.length c0] 22) = W0 := ⟨_, rfl⟩
            obtain ⟨ra, rl, hs0, hb0⟩ := box2_at _ _ _ W0 hW0
            rw [hW0]
            clear hW0
            have h3 : w3.heap.size = B15 + 2 := by omega
            rw [h3] at ra rl hs0
            obtain ⟨q5, q7, q8, q9, q10⟩ := HB.out
            have hz2 := hb2.size
            have up : ∀ {b : Nat} {C : Array Value} {t : TypeId} {fr : Nat × Nat}, wr.heap[b]? = some (.cells C t fr) → W0.heap[b]? = some (.cells C t fr) := fun {b C t fr} h => by
              have e2 := (hb2.block _ (Array.getElem?_eq_some_iff.1 h).1).trans h
              have e3 := (hb3.block _ (Array.getElem?_eq_some_iff.1 e2).1).trans e2
              exact (hb0.block _ (Array.getElem?_eq_some_iff.1 e3).1).trans e3
            have s7 := up r7
            have s8 := up r8
            have s9 := up r9
            have s5 := up r5
            have s10 := up r10
            have s15 := (hb0.block _ (Array.getElem?_eq_some_iff.1 r15).1).trans r15
            have s16 := (hb0.block _ (Array.getElem?_eq_some_iff.1 r16).1).trans r16
            have HB0 : Below w.heap.size w W0 := hb1.trans ((hb2.trans ((hb3.mono hz2).trans (hb0.mono (Nat.le_trans hz2 hb3.size)))).mono hb1.size)
            have hn0 : w.heap.size ≤ W0.heap.size := HB0.size
            have hI : ItAt w.heap.size (B15 + 2 + 1) (B15 + 2) (.slice A0 es.length c0) es p d vers W0 := ⟨by omega, by omega, rl, ra⟩
            have g5 : w.heap.size ≤ B5 := by omega
            have g7 : w.heap.size ≤ B7 := by omega
            have g8 : w.heap.size ≤ B8 := by omega
            have g9 : w.heap.size ≤ B9 := by omega
            have g15 : w.heap.size ≤ B15 := by omega
            have g16 : w.heap.size ≤ B16 := by omega
            have g10 : B10 ≠ B15 := by omega
            clear up r5 r7 r8 r9 r10 r10b r15 r16 hC ra rl r5c hb0 hb3 hb2 q5 q7 q8 q9 q10 h15 h16 h3 hz2 hs3 hs1 HB
            refine wpIn_rangeFunc_ownH rfl h1 (gf := 58) (lb := #[.pointer (some ⟨B15 + 2 + 1, 0, none⟩), .pointer (some ⟨B15 + 2, 0, none⟩)]) rfl trivial (enters_of Try.func58 (by kernel_rfl) rfl)
              (listed_stops (n - 1) (by omega) (B15 + 2 + 1) (B15 + 2) w W0 _ es p d vers HE.out hel HOK.out hkey hMax hps hds HB0 hI) KpL.trans (KpL.b hn0) (Below.refl _ _) (fun _ => rfl)
              (fun pre W => PgI w.heap.size W0 B10 B15 B16 (runS af ve pre).1 (runS af ve pre).2 false W ∧ (runS af ve pre).1.length ≤ most.toNat)
              (fun c pre W => c = .exit 2 ∧ ∃ pre' x, pre = pre' ++ [x] ∧ (runS af ve pre').1.length = most.toNat ∧ takesP af ve (runS af ve pre').2 x.2 = true ∧ PgI w.heap.size W0 B10 B15 B16 (runS af ve pre').1 (runS af ve pre').2 true W)
              (OwnFrom.and (PgI.own B10 B15 B16 (fun pre => (runS af ve pre).1) (fun pre => (runS af ve pre).2) false hn0 hn0) (ownFrom_pure _ (fun pre => (runS af ve pre).1.length ≤ most.toNat)))
              (fun c s X Y row hs hg hr => by
                obtain ⟨hc, pre', x, e1, e2, e3, e4⟩ := hs
                exact ⟨hc, pre', x, e1, e2, e3, PgI.own (β := Unit) B10 B15 B16 (fun _ => _) (fun _ => _) true hn0 hn0 () X Y row e4 hg hr⟩)
              ⟨⟨⟨Below.refl _ _, fun _ _ _ _ _ h _ _ _ => h⟩, ⟨_, s15, World.ownsRow_nil _ _ _ _⟩, s16, s10⟩, Nat.zero_le _⟩
              (fun x a' W => ∃ Bx, W.heap[Bx]? = some (.cells (itmC x.2).toArray 39 (0, 0)) ∧ a' = { tmps := #[.agg #[.string p, .string d, .bool vers], .slice A0 es.length c0, .string (BA af), .string (BA ve), .int .i64 most, .pointer (some ⟨B5, 0, none⟩), undef,
                .pointer (some ⟨B7, 0, none⟩), .pointer (some ⟨B8, 0, none⟩), .pointer (some ⟨B9, 0, none⟩), .pointer (some ⟨B10, 0, none⟩), u11, undef, u13, .int .i64 0, .pointer (some ⟨B15, 0, none⟩), .pointer (some ⟨B16, 0, none⟩), undef, .pointer (some ⟨Bx, 0, none⟩), undef,
                .pointer (some ⟨B5, 0, none⟩), .string p, .pointer (some ⟨B5, 1, none⟩), .string d, .string (BA af), .string (BA ve), .agg #[.string p, .string d, .string (BA af), .string (BA ve)], .int .i64 4, .bool false, u29, u30, u31, u32, u33, u34, .slice A0 es.length c0,
                .int .i64 0, .int .i64 0, .bool false, undef, undef, .int .i64 most, .bool (decide (most < 1)), .bool (decide (most < 1)), .int .i64 most, .bool (decide (1000 < most)), .bool (decide (most < 1) || decide (1000 < most)), undef,
                .agg #[.string p, .string d, .bool vers], .slice A0 es.length c0, .func (.func 58) #[] #[.pointer (some ⟨B15 + 2 + 1, 0, none⟩), .pointer (some ⟨B15 + 2, 0, none⟩)], .int .i64 x.1, .agg (itmC x.2).toArray, undef, undef, undef, undef, undef, undef, undef, undef, undef, undef, undef, undef, undef, undef, undef, undef, undef, undef, undef, undef, undef, undef, undef, undef, undef, undef, undef, undef, undef, undef, undef, undef, undef, undef, undef, undef, undef, undef, undef, undef, undef, undef, undef, undef, undef, undef, undef, undef, undef, undef, undef, undef, undef, undef, undef, undef, undef, undef, undef, undef, undef, undef, undef, undef, undef, undef, undef, undef, undef, undef, undef, undef, undef, undef, undef, undef, undef, undef], defers := [] })
              (fun x a' _ X Y row hs hg hr => by
                obtain ⟨Bx, e1, e2⟩ := hs
                refine ⟨Bx, (hg.block Bx (Array.getElem?_eq_some_iff.1 e1).1 (fun e => ?_)).trans e1, e2⟩
                obtain ⟨_, o, ho, hc⟩ := hr Bx e.symm
                rw [e1] at ho
                cases ho
                cases hc)
              ?assign ?body ?done ?stop
            case assign =>
              rintro l pre ⟨ix, nm, com, ⟨vid, vt, vm, vz, vet⟩, lat⟩ W K ⟨hP, hle⟩ hK
              simp only [encI, itmC]
              gi_wp2
              exact hK _ _ ((KeepsOthers.alloc _ _).from _) (KpL.ofBelow (Nat.le_trans hn0 hP.k.1.size) ((Below.refl _ W).alloc (Nat.le_refl _) _)) ⟨hP.alloc hn0 _, hle⟩ ⟨W.heap.size, heap_alloc_new W _, rfl⟩
            case body =>
              rintro l pre ⟨ix, nm, com, ⟨vid, vt, vm, vz, vet⟩, lat⟩ a' W hl - ⟨hP, hle⟩ ⟨Bx, hx, rfl⟩ -
              have hsn := runS_snoc af ve pre (ix, ⟨nm, com, ⟨vid, vt, vm, vz, vet⟩, lat⟩)
              obtain ⟨⟨acc, beh⟩, hst⟩ : ∃ s, runS af ve pre = s := ⟨_, rfl⟩
              rw [hst] at hP hle hsn
              simp only at hP hle hsn
              have HS := Lib.hid hsn
              have HST := Lib.hid hst
              clear hsn hst
              obtain ⟨sl, hp, hr⟩ := hP.p
              obtain ⟨As, cs, rfl⟩ : ∃ A c, sl = .slice A acc.length c := by
                rcases hr.2 with ⟨rfl, h0⟩ | ⟨g, cap, cur, rfl, _⟩
                · exact ⟨_, _, by rw [h0]⟩
                · exact ⟨_, _, rfl⟩
              have hnW : w.heap.size ≤ W.heap.size := Nat.le_trans hn0 hP.k.1.size
              have cx0 : W.cell? ⟨Bx, 0, none⟩ = some (.string (BA nm)) := by rw [cell_of_row _ _ 0 _ _ (0, 0) hx]; rfl
              have cx1 : W.cell? ⟨Bx, 1, none⟩ = some (.bool com) := by rw [cell_of_row _ _ 1 _ _ (0, 0) hx]; rfl
              have cx2 : W.cell? ⟨Bx, 2, none⟩ = some (.string (BA vid)) := by rw [cell_of_row _ _ 2 _ _ (0, 0) hx]; rfl
              have c7 : W.cell? ⟨B7, 0, none⟩ = some (.string (BA af)) := by rw [cell_of_row _ _ 0 _ _ (0, 0) (hP.k.2 _ _ _ _ (by omega) s7 (by decide) (by decide) (by decide))]; rfl
              have c8 : W.cell? ⟨B8, 0, none⟩ = some (.string (BA ve)) := by rw [cell_of_row _ _ 0 _ _ (0, 0) (hP.k.2 _ _ _ _ (by omega) s8 (by decide) (by decide) (by decide))]; rfl
              have c9 : W.cell? ⟨B9, 0, none⟩ = some (.int .i64 most) := by rw [cell_of_row _ _ 0 _ _ (0, 0) (hP.k.2 _ _ _ _ (by omega) s9 (by decide) (by decide) (by decide))]; rfl
              have cb : W.cell? ⟨B16, 0, none⟩ = some (.bool beh) := by rw [cell_of_row _ _ 0 _ _ (0, 0) hP.b]; rfl
              have cp0 : W.cell? ⟨B15, 0, none⟩ = some (.slice As acc.length cs) := by rw [cell_of_row _ _ 0 _ _ (0, 0) hp]; rfl
              have cp1 : W.cell? ⟨B15, 1, none⟩ = some (.bool false) := by rw [cell_of_row _ _ 1 _ _ (0, 0) hp]; rfl
              have fb := frozen_of_row W B16 0 _ _ hP.b
              have fp1 := frozen_of_row W B15 1 _ _ hp
              clear s5 s7 s8 s9 s10 s15 s16
              replace hx : W.heap[Bx]? = some (.cells #[.string (BA nm), .bool com, .string (BA vid), .int .i64 vt, .bool vm, .int .i64 vz, .string (BA vet), .bool lat] 39 (0, 0)) := hx
              obtain ⟨i0, hi, hz0, hz1, hz2⟩ := info_parts infoI
              have hbnd1 : acc.length + 1 ≤ maxLen := by unfold maxLen; omega
              have hbnd2 : (acc.length + 1) * 88 ≤ 140737488355328 := by omega
              rcases lt_tri af nm with hA | hA | hA
              · have hL : Op.bytesLess nm af = false := by rw [bytesLess_eq]; simp [lt_asy hA]
                have hE : (nm == af) = false := by simp [(lt_ne hA).symm]
                have hEp : ¬ nm = af := (lt_ne hA).symm
                have hT : takesP af ve beh ⟨nm, com, ⟨vid, vt, vm, vz, vet⟩, lat⟩ = true := by simp [takesP, hA]
                have hS2 : runS af ve (pre ++ [(ix, ⟨nm, com, ⟨vid, vt, vm, vz, vet⟩, lat⟩)]) = (acc ++ [⟨nm, com, ⟨vid, vt, vm, vz, vet⟩, lat⟩], beh) := by rw [HS.out]; unfold stepS; rw [if_pos hT]
                have HS2 := Lib.hid hS2
                have HT := Lib.hid hT
                clear hS2 hT hA
                by_cases hfull : (acc.length : Int) = most
                · have hq : ((acc.length : Int) == most) = true := by simp [hfull]
                  gi_wp2
                  have hm := hP.more hnW g15 g10
                  exact (show KeepsFrom _ _ _ ∧ _ from ⟨(KeepsOthers.setCell _ _ _).from _, rfl, pre, _, _, rfl, by rw [HST.out]; simp; omega, by rw [HST.out]; exact HT.out, by rw [HST.out]; exact hm.1⟩)
                · have hq : ((acc.length : Int) == most) = false := by simp [hfull]
                  gi_wp2_with first | (refine wpListIn_load_row rfl 39 _ rfl Bx rfl 39 _ (0, 0) _ hx Try.underlying39 rfl (by kernel_rfl) ?_) | (gi_at_builtin; go_must (refine wpListIn_append_own _ rfl _ _ 26 rfl w.heap.size 39 i0 _ 8 88 Try.underlying26 hi hz0 hz1 hz2 rfl (by decide) _ _ _ rfl (hr.alloc _) ⟨W.heap.size, 0, none⟩ 1 1 [.string (BA nm), .bool com, .string (BA vid), .int .i64 vt, .bool vm, .int .i64 vz, .string (BA vet), .bool lat] rfl rfl (cells_new W [.string (BA nm), .bool com, .string (BA vid), .int .i64 vt, .bool vm, .int .i64 vz, .string (BA vet), .bool lat] _) (itmC_one ⟨nm, com, ⟨vid, vt, vm, vz, vet⟩, lat⟩) hbnd1 hbnd2 (by simp; omega) ?_); intro v' w1 hown' hgrow _; obtain ⟨g', cap', rfl⟩ := ownsRow_succ hown'; obtain ⟨hp1, hP2, hK2, hO2⟩ := hP.push hnW g15 g10 hp hr ⟨nm, com, ⟨vid, vt, vm, vz, vet⟩, lat⟩ hown' hgrow; have hc1 : w1.cell? ⟨B15, 0, none⟩ = some (.slice As acc.length cs) := (by rw [cell_of_row _ _ 0 _ _ (0, 0) hp1]; rfl); have hf1 := frozen_of_row w1 B15 0 _ _ hp1)
                  exact (show KeepsFrom _ _ _ ∧ _ ∧ _ from ⟨hO2.from _, hK2, by rw [HS2.out]; exact hP2, by rw [HS2.out]; simp; omega⟩)
              · subst hA
                have hL : Op.bytesLess af af = false := by rw [bytesLess_eq]; simp [lt_irr]
                have hI : ¬ af < af := lt_irr af
                cases com with
                | true =>
                  have hT : takesP af ve beh ⟨af, true, ⟨vid, vt, vm, vz, vet⟩, lat⟩ = false := by simp [takesP, hI]
                  have hM : marksP af ve ⟨af, true, ⟨vid, vt, vm, vz, vet⟩, lat⟩ = false := by simp [marksP, hI]
                  have hS2 : runS af ve (pre ++ [(ix, ⟨af, true, ⟨vid, vt, vm, vz, vet⟩, lat⟩)]) = (acc, beh) := by rw [HS.out]; unfold stepS; rw [if_neg (by rw [hT]; simp)]; simp only [hM]; simp
                  have HS2 := Lib.hid hS2
                  clear hS2 hT hM hI
                  gi_wp2
                  exact (show KeepsFrom _ _ _ ∧ _ ∧ _ from ⟨KeepsFrom.refl _ _, ⟨Below.refl _ _, fun _ _ _ _ _ h _ _ _ => h⟩, by rw [HS2.out]; exact hP, by rw [HS2.out]; exact hle⟩)
                | false =>
                  by_cases hve : ve = []
                  · subst hve
                    have hT : takesP af [] beh ⟨af, false, ⟨vid, vt, vm, vz, vet⟩, lat⟩ = false := by simp [takesP, hI]
                    have hM : marksP af [] ⟨af, false, ⟨vid, vt, vm, vz, vet⟩, lat⟩ = false := by simp [marksP, hI]
                    have hS2 : runS af [] (pre ++ [(ix, ⟨af, false, ⟨vid, vt, vm, vz, vet⟩, lat⟩)]) = (acc, beh) := by rw [HS.out]; unfold stepS; rw [if_neg (by rw [hT]; simp)]; simp only [hM]; simp
                    have HS2 := Lib.hid hS2
                    clear hS2 hT hM hI
                    gi_wp2
                    exact (show KeepsFrom _ _ _ ∧ _ ∧ _ from ⟨KeepsFrom.refl _ _, ⟨Below.refl _ _, fun _ _ _ _ _ h _ _ _ => h⟩, by rw [HS2.out]; exact hP, by rw [HS2.out]; exact hle⟩)
                  · have hv : List.isEmpty ve = false := by simpa using hve
                    cases beh with
                    | true =>
                      have hT : takesP af ve true ⟨af, false, ⟨vid, vt, vm, vz, vet⟩, lat⟩ = true := by simp [takesP, hve]
                      have hS2 : runS af ve (pre ++ [(ix, ⟨af, false, ⟨vid, vt, vm, vz, vet⟩, lat⟩)]) = (acc ++ [⟨af, false, ⟨vid, vt, vm, vz, vet⟩, lat⟩], true) := by rw [HS.out]; unfold stepS; rw [if_pos hT]
                      have HS2 := Lib.hid hS2
                      have HT := Lib.hid hT
                      clear hS2 hT hI
                      by_cases hfull : (acc.length : Int) = most
                      · have hq : ((acc.length : Int) == most) = true := by simp [hfull]
                        gi_wp2
                        have hm := hP.more hnW g15 g10
                        exact (show KeepsFrom _ _ _ ∧ _ from ⟨(KeepsOthers.setCell _ _ _).from _, rfl, pre, _, _, rfl, by rw [HST.out]; simp; omega, by rw [HST.out]; exact HT.out, by rw [HST.out]; exact hm.1⟩)
                      · have hq : ((acc.length : Int) == most) = false := by simp [hfull]
                        gi_wp2_with first | (refine wpListIn_load_row rfl 39 _ rfl Bx rfl 39 _ (0, 0) _ hx Try.underlying39 rfl (by kernel_rfl) ?_) | (gi_at_builtin; go_must (refine wpListIn_append_own _ rfl _ _ 26 rfl w.heap.size 39 i0 _ 8 88 Try.underlying26 hi hz0 hz1 hz2 rfl (by decide) _ _ _ rfl (hr.alloc _) ⟨W.heap.size, 0, none⟩ 1 1 [.string (BA af), .bool false, .string (BA vid), .int .i64 vt, .bool vm, .int .i64 vz, .string (BA vet), .bool lat] rfl rfl (cells_new W [.string (BA af), .bool false, .string (BA vid), .int .i64 vt, .bool vm, .int .i64 vz, .string (BA vet), .bool lat] _) (itmC_one ⟨af, false, ⟨vid, vt, vm, vz, vet⟩, lat⟩) hbnd1 hbnd2 (by simp; omega) ?_); intro v' w1 hown' hgrow _; obtain ⟨g', cap', rfl⟩ := ownsRow_succ hown'; obtain ⟨hp1, hP2, hK2, hO2⟩ := hP.push hnW g15 g10 hp hr ⟨af, false, ⟨vid, vt, vm, vz, vet⟩, lat⟩ hown' hgrow; have hc1 : w1.cell? ⟨B15, 0, none⟩ = some (.slice As acc.length cs) := (by rw [cell_of_row _ _ 0 _ _ (0, 0) hp1]; rfl); have hf1 := frozen_of_row w1 B15 0 _ _ hp1)
                        exact (show KeepsFrom _ _ _ ∧ _ ∧ _ from ⟨hO2.from _, hK2, by rw [HS2.out]; exact hP2, by rw [HS2.out]; simp; omega⟩)
                    | false =>
                      by_cases hid : vid = ve
                      · subst hid
                        have hT : takesP af vid false ⟨af, false, ⟨vid, vt, vm, vz, vet⟩, lat⟩ = false := by simp [takesP, hI, hve]
                        have hM : marksP af vid ⟨af, false, ⟨vid, vt, vm, vz, vet⟩, lat⟩ = true := by simp [marksP, hI, hve]
                        have hS2 : runS af vid (pre ++ [(ix, ⟨af, false, ⟨vid, vt, vm, vz, vet⟩, lat⟩)]) = (acc, true) := by rw [HS.out]; unfold stepS; rw [if_neg (by rw [hT]; simp)]; simp only [hM]; simp
                        have HS2 := Lib.hid hS2
                        clear hS2 hT hM hI
                        gi_wp2
                        exact (show KeepsFrom _ _ _ ∧ _ ∧ _ from ⟨(KeepsOthers.setCell _ _ _).from _, (hP.behind hnW g16).2, by rw [HS2.out]; exact (hP.behind hnW g16).1, by rw [HS2.out]; exact hle⟩)
                      · have hid2 : (vid == ve) = false := by simp [hid]
                        have hT : takesP af ve false ⟨af, false, ⟨vid, vt, vm, vz, vet⟩, lat⟩ = false := by simp [takesP, hI, hid]
                        have hM : marksP af ve ⟨af, false, ⟨vid, vt, vm, vz, vet⟩, lat⟩ = false := by simp [marksP, hI, hid]
                        have hS2 : runS af ve (pre ++ [(ix, ⟨af, false, ⟨vid, vt, vm, vz, vet⟩, lat⟩)]) = (acc, false) := by rw [HS.out]; unfold stepS; rw [if_neg (by rw [hT]; simp)]; simp only [hM]; simp
                        have HS2 := Lib.hid hS2
                        clear hS2 hT hM hI
                        gi_wp2
                        exact (show KeepsFrom _ _ _ ∧ _ ∧ _ from ⟨KeepsFrom.refl _ _, ⟨Below.refl _ _, fun _ _ _ _ _ h _ _ _ => h⟩, by rw [HS2.out]; exact hP, by rw [HS2.out]; exact hle⟩)
              · have hL : Op.bytesLess nm af = true := by rw [bytesLess_eq]; simp [hA]
                have hE : (nm == af) = false := by simp [lt_ne hA]
                have hEp : ¬ nm = af := lt_ne hA
                have hI : ¬ af < nm := by have := lt_asy hA; simpa using this
                have hT : takesP af ve beh ⟨nm, com, ⟨vid, vt, vm, vz, vet⟩, lat⟩ = false := by simp [takesP, hI, hEp]
                have hM : marksP af ve ⟨nm, com, ⟨vid, vt, vm, vz, vet⟩, lat⟩ = false := by simp [marksP, hI, hEp]
                have hS2 : runS af ve (pre ++ [(ix, ⟨nm, com, ⟨vid, vt, vm, vz, vet⟩, lat⟩)]) = (acc, beh) := by rw [HS.out]; unfold stepS; rw [if_neg (by rw [hT]; simp)]; simp only [hM]; simp
                have HS2 := Lib.hid hS2
                clear hS2 hT hM hI hA
                gi_wp2
                exact (show KeepsFrom _ _ _ ∧ _ ∧ _ from ⟨KeepsFrom.refl _ _, ⟨Below.refl _ _, fun _ _ _ _ _ h _ _ _ => h⟩, by rw [HS2.out]; exact hP, by rw [HS2.out]; exact hle⟩)
            case done =>
              rintro D xs W hD rfl ⟨hP, hle⟩ hK
              obtain ⟨sl, hp, hr⟩ := hP.p
              have HV2 := Lib.hid (page_done p.data.toList d.data.toList af ve vers most.toNat es hle)
              have HLE := Lib.hid hle
              clear hle
              obtain ⟨acc, hacc⟩ : ∃ acc, (runS af ve (listQ p.data.toList d.data.toList vers none es)).1 = acc := ⟨_, rfl⟩
              rw [hacc] at hP hr HV2
              clear hacc HLE
              obtain ⟨As, cs, rfl⟩ : ∃ A c, sl = .slice A acc.length c := by
                rcases hr.2 with ⟨rfl, h0⟩ | ⟨g, cap, cur, rfl, _⟩
                · exact ⟨_, _, by rw [h0]⟩
                · exact ⟨_, _, rfl⟩
              have cp1 : W.cell? ⟨B15, 1, none⟩ = some (.bool false) := by rw [cell_of_row _ _ 1 _ _ (0, 0) hp]; rfl
              have hrr := hP.r
              gi_wp2_with first | (refine wpListIn_load_row rfl 28 _ rfl B15 rfl 28 _ (0, 0) _ hp Try.underlying28 rfl infoP ?_) | (refine wpListIn_store_row rfl 28 _ _ rfl B10 #[.slice As acc.length cs, .bool false, .string ⟨#[]⟩, .string ⟨#[]⟩] rfl rfl 28 _ hrr infoP rfl (by simp [Value.oneCell']) ?_)
              have hne : D ≠ B10 := fun e => by subst e; rw [hrr] at hK; cases hK
              have hK' : (W.setRow B10 #[.slice As acc.length cs, .bool false, .string ⟨#[]⟩, .string ⟨#[]⟩]).heap[D]? = some (.deferred (some [])) := (setRow_other W B10 D _ hne).trans hK
              have hB1 := below_setRow (HB0.trans hP.k.1) HB10.out #[.slice As acc.length cs, .bool false, .string ⟨#[]⟩, .string ⟨#[]⟩]
              exact fin_late (v := .int .i64 0) hK' rfl rfl (setRow_heap _ _ _ _ _ _ hrr) rfl ⟨_, by rw [HV.out], by rw [HV.out, HV2.out]; exact ⟨_, rfl, ownsRow_putObj (hr.kept (grownBy_setRow W B10 _) (.inr (row_not_row hrr (by decide) hr).symm)) _ hK' rfl⟩, hB1.trans (belowK_b (w := w) (Nat.le_refl _) _ D _ _ (by omega) hK' rfl rfl)⟩
            case stop =>
              rintro D c pre W hD hSp ⟨rfl, pre', x, rfl, hl, ht, hP⟩ hK
              have HV2 := Lib.hid (page_stop p.data.toList d.data.toList af ve vers most.toNat es pre' x hSp hl ht)
              clear hSp ht
              obtain ⟨acc, hacc⟩ : ∃ acc, (runS af ve pre').1 = acc := ⟨_, rfl⟩
              obtain ⟨beh, hbeh⟩ : ∃ beh, (runS af ve pre').2 = beh := ⟨_, rfl⟩
              rw [hacc] at hP hl HV2
              rw [hbeh] at hP
              clear hacc hbeh
              obtain ⟨sl, hp, hr⟩ := hP.p
              obtain ⟨m, hm⟩ : ∃ m : Nat, most = (m : Int) + 1 := ⟨most.toNat - 1, by omega⟩
              obtain ⟨⟨nm, com, ⟨vid, vt, vm, vz, vet⟩, lat⟩, hy⟩ : ∃ y, acc[m]? = some y := by
                rw [List.getElem?_eq_getElem (by omega)]
                exact ⟨_, rfl⟩
              have hyd : acc.getD (most.toNat - 1) itm0 = ⟨nm, com, ⟨vid, vt, vm, vz, vet⟩, lat⟩ := by rw [List.getD_eq_getElem?_getD, show most.toNat - 1 = m by omega, hy]; rfl
              obtain ⟨As, cs, rfl⟩ : ∃ A c, sl = .slice A acc.length c := by
                rcases hr.2 with ⟨rfl, h0⟩ | ⟨g, cap, cur, rfl, _⟩
                · exact ⟨_, _, by rw [h0]⟩
                · exact ⟨_, _, rfl⟩
              obtain ⟨b, off, rfl, hcap, hcell⟩ := (own_src hr).at (i := m) (row := itmC ⟨nm, com, ⟨vid, vt, vm, vz, vet⟩, lat⟩) (by simp [hy])
              have d0 := hcell 0 _ rfl
              have d1 := hcell 1 _ rfl
              have d2 := hcell 2 _ rfl
              have d3 := hcell 3 _ rfl
              have d4 := hcell 4 _ rfl
              have d5 := hcell 5 _ rfl
              have d6 := hcell 6 _ rfl
              have d7 := hcell 7 _ rfl
              simp only [Nat.add_zero] at d0
              have hal : acc.length = m + 1 := by omega
              have hq1 : IntKind.i64.wrap (most - 1) = (m : Int) := by rw [IntWalk.i64_in _ (by omega)]; omega
              have hq2 : (0 : Int) ≤ (m : Int) ∧ (m : Int) < (acc.length : Int) := by omega
              have hrr := hP.r
              have c9 : W.cell? ⟨B9, 0, none⟩ = some (.int .i64 most) := by rw [cell_of_row _ _ 0 _ _ (0, 0) (hP.k.2 _ _ _ _ g9 s9 (by decide) (by decide) (by decide))]; rfl
              have cp0 : W.cell? ⟨B15, 0, none⟩ = some (.slice (some ⟨b, off, none⟩) acc.length cs) := by rw [cell_of_row _ _ 0 _ _ (0, 0) hp]; rfl
              have cp1 : W.cell? ⟨B15, 1, none⟩ = some (.bool true) := by rw [cell_of_row _ _ 1 _ _ (0, 0) hp]; rfl
              have HYD := Lib.hid hyd
              have HAL := Lib.hid hal
              have HM := Lib.hid hm
              clear hyd hal hcell hy hm hl
              have hsr := hP.k.1.size
              have s5w := hP.k.2 _ _ _ _ g5 s5 (by decide) (by decide) (by decide)
              obtain ⟨X, hX⟩ : ∃ X : Obj, .cells #[.string (BA nm), .bool com, .string (BA vid), .int .i64 vt, .bool vm, .int .i64 vz, .string (BA vet), .bool lat] 39 (0, 0) = X := ⟨_, rfl⟩
              have hltp := (Array.getElem?_eq_some_iff.1 hp).1
              have hltr := (Array.getElem?_eq_some_iff.1 hrr).1
              have hlt5 := (Array.getElem?_eq_some_iff.1 s5w).1
              have n5 : B5 ≠ B15 := fun e => by subst e; have := s5w.symm.trans hp; simp at this
              have x4 : (W.alloc X).heap[W.heap.size]? = some X := heap_alloc_new W X
              have p4 := (heap_alloc_old W X _ hltp).trans hp
              have r4 := (heap_alloc_old W X _ hltr).trans hrr
              have a4 := (heap_alloc_old W X _ hlt5).trans s5w
              have p5 := heap_setCell_same (W.alloc X) B15 2 _ _ (.string (BA nm)) p4
              have r5 := (heap_setCell_other (W.alloc X) ⟨B15, 2, none⟩ B10 (.string (BA nm)) g10).trans r4
              have a5 := (heap_setCell_other (W.alloc X) ⟨B15, 2, none⟩ B5 (.string (BA nm)) n5).trans a4
              have x5 := (heap_setCell_other (W.alloc X) ⟨B15, 2, none⟩ W.heap.size (.string (BA nm)) (by show W.heap.size ≠ B15; omega)).trans x4
              have p6 := heap_setCell_same _ B15 3 _ _ (.string (BA vid)) p5
              have r6 := (heap_setCell_other _ ⟨B15, 3, none⟩ B10 (.string (BA vid)) g10).trans r5
              have o4 := hr.alloc X
              have o5 := o4.kept (grownBy_setCellX (W.alloc X) ⟨B15, 2, none⟩ (.string (BA nm))) (.inr (row_not_row p4 (by decide) o4).symm)
              have o6 := o5.kept (grownBy_setCellX _ ⟨B15, 3, none⟩ (.string (BA vid))) (.inr (row_not_row p5 (by decide) o5).symm)
              have hDlt := (Array.getElem?_eq_some_iff.1 hK).1
              have nD1 : D ≠ B15 := fun e => by subst e; rw [hp] at hK; cases hK
              have nD2 : D ≠ B10 := fun e => by subst e; rw [hrr] at hK; cases hK
              have k4 := (heap_alloc_old W X _ hDlt).trans hK
              have k5 := (heap_setCell_other (W.alloc X) ⟨B15, 2, none⟩ D (.string (BA nm)) nD1).trans k4
              have k6 := (heap_setCell_other _ ⟨B15, 3, none⟩ D (.string (BA vid)) nD1).trans k5
              have b4 := (HB0.trans hP.k.1).alloc (Nat.le_trans hn0 hsr) X
              have b5 := b4.setCell (p := ⟨B15, 2, none⟩) g15 (.string (BA nm))
              have b6 := b5.setCell (p := ⟨B15, 3, none⟩) g15 (.string (BA vid))
              subst hX
              replace p5 : ((W.alloc (.cells #[.string (BA nm), .bool com, .string (BA vid), .int .i64 vt, .bool vm, .int .i64 vz, .string (BA vet), .bool lat] 39)).setCell ⟨B15, 2, none⟩ (.string (BA nm))).heap[B15]? = some (.cells #[.slice (some ⟨b, off, none⟩) acc.length cs, .bool true, .string (BA nm), .string ⟨#[]⟩] 28 (0, 0)) := p5
              replace p6 : (((W.alloc (.cells #[.string (BA nm), .bool com, .string (BA vid), .int .i64 vt, .bool vm, .int .i64 vz, .string (BA vet), .bool lat] 39)).setCell ⟨B15, 2, none⟩ (.string (BA nm))).setCell ⟨B15, 3, none⟩ (.string (BA vid))).heap[B15]? = some (.cells #[.slice (some ⟨b, off, none⟩) acc.length cs, .bool true, .string (BA nm), .string (BA vid)] 28 (0, 0)) := p6
              have e2 : (W.alloc (.cells #[.string (BA nm), .bool com, .string (BA vid), .int .i64 vt, .bool vm, .int .i64 vz, .string (BA vet), .bool lat] 39)).cell? ⟨B15, 2, none⟩ = some (.string ⟨#[]⟩) := by rw [cell_of_row _ _ 2 _ _ (0, 0) p4]; rfl
              have f2 := frozen_of_row _ B15 2 _ _ p4
              have e3 : ((W.alloc (.cells #[.string (BA nm), .bool com, .string (BA vid), .int .i64 vt, .bool vm, .int .i64 vz, .string (BA vet), .bool lat] 39)).setCell ⟨B15, 2, none⟩ (.string (BA nm))).cell? ⟨B15, 3, none⟩ = some (.string ⟨#[]⟩) := by rw [cell_of_row _ _ 3 _ _ (0, 0) p5]; rfl
              have f3 := frozen_of_row _ B15 3 _ _ p5
              have ev : ((W.alloc (.cells #[.string (BA nm), .bool com, .string (BA vid), .int .i64 vt, .bool vm, .int .i64 vz, .string (BA vet), .bool lat] 39)).setCell ⟨B15, 2, none⟩ (.string (BA nm))).cell? ⟨B5, 2, none⟩ = some (.bool vers) := by rw [cell_of_row _ _ 2 _ _ (0, 0) a5]; rfl
              have ec : ((W.alloc (.cells #[.string (BA nm), .bool com, .string (BA vid), .int .i64 vt, .bool vm, .int .i64 vz, .string (BA vet), .bool lat] 39)).setCell ⟨B15, 2, none⟩ (.string (BA nm))).cell? ⟨W.heap.size, 1, none⟩ = some (.bool com) := by rw [cell_of_row _ _ 1 _ _ (0, 0) x5]; rfl
              have ei : ((W.alloc (.cells #[.string (BA nm), .bool com, .string (BA vid), .int .i64 vt, .bool vm, .int .i64 vz, .string (BA vet), .bool lat] 39)).setCell ⟨B15, 2, none⟩ (.string (BA nm))).cell? ⟨W.heap.size, 2, none⟩ = some (.string (BA vid)) := by rw [cell_of_row _ _ 2 _ _ (0, 0) x5]; rfl
              have en : (W.alloc (.cells #[.string (BA nm), .bool com, .string (BA vid), .int .i64 vt, .bool vm, .int .i64 vz, .string (BA vet), .bool lat] 39)).cell? ⟨W.heap.size, 0, none⟩ = some (.string (BA nm)) := by rw [cell_of_row _ _ 0 _ _ (0, 0) x4]; rfl
              clear s5 s7 s8 s9 s10 s15 s16 hsr hltp hltr hlt5 a4 a5 x4 x5 p4 r4 hp hrr
              have HMK := Lib.hid (show mkPg vers most.toNat (acc, true) = ⟨acc, true, nm, if vers && !com then vid else []⟩ by unfold mkPg; simp only [HYD.out]; rfl)
              cases vers with
              | false =>
                gi_wp2_with first | (refine wpListIn_load_row rfl 28 _ rfl B15 rfl 28 _ (0, 0) _ p5 Try.underlying28 rfl infoP ?_) | (refine wpListIn_store_row rfl 28 _ _ rfl B10 #[.slice (some ⟨b, off, none⟩) acc.length cs, .bool true, .string (BA nm), .string ⟨#[]⟩] rfl rfl 28 _ r5 infoP rfl (by simp [Value.oneCell']) ?_)
                have hK' := (setRow_other _ B10 D #[.slice (some ⟨b, off, none⟩) acc.length cs, .bool true, .string (BA nm), .string ⟨#[]⟩] nD2).trans k5
                exact fin_late (v := .int .i64 0) hK' rfl rfl (setRow_heap _ _ _ _ _ _ r5) rfl ⟨_, by rw [HV.out], by rw [HV.out, HV2.out, HMK.out]; exact ⟨_, rfl, ownsRow_putObj (o5.kept (grownBy_setRow _ B10 _) (.inr (row_not_row r5 (by decide) o5).symm)) _ hK' rfl⟩, (below_setRow b5 HB10.out _).trans (belowK_b (w := w) (Nat.le_refl _) _ D _ _ (by omega) hK' rfl rfl)⟩
              | true =>
                cases com with
                | true =>
                  gi_wp2_with first | (refine wpListIn_load_row rfl 28 _ rfl B15 rfl 28 _ (0, 0) _ p5 Try.underlying28 rfl infoP ?_) | (refine wpListIn_store_row rfl 28 _ _ rfl B10 #[.slice (some ⟨b, off, none⟩) acc.length cs, .bool true, .string (BA nm), .string ⟨#[]⟩] rfl rfl 28 _ r5 infoP rfl (by simp [Value.oneCell']) ?_)
                  have hK' := (setRow_other _ B10 D #[.slice (some ⟨b, off, none⟩) acc.length cs, .bool true, .string (BA nm), .string ⟨#[]⟩] nD2).trans k5
                  exact fin_late (v := .int .i64 0) hK' rfl rfl (setRow_heap _ _ _ _ _ _ r5) rfl ⟨_, by rw [HV.out], by rw [HV.out, HV2.out, HMK.out]; exact ⟨_, rfl, ownsRow_putObj (o5.kept (grownBy_setRow _ B10 _) (.inr (row_not_row r5 (by decide) o5).symm)) _ hK' rfl⟩, (below_setRow b5 HB10.out _).trans (belowK_b (w := w) (Nat.le_refl _) _ D _ _ (by omega) hK' rfl rfl)⟩
                | false =>
                  gi_wp2_with first | (refine wpListIn_load_row rfl 28 _ rfl B15 rfl 28 _ (0, 0) _ p6 Try.underlying28 rfl infoP ?_) | (refine wpListIn_store_row rfl 28 _ _ rfl B10 #[.slice (some ⟨b, off, none⟩) acc.length cs, .bool true, .string (BA nm), .string (BA vid)] rfl rfl 28 _ r6 infoP rfl (by simp [Value.oneCell']) ?_)
                  have hK' := (setRow_other _ B10 D #[.slice (some ⟨b, off, none⟩) acc.length cs, .bool true, .string (BA nm), .string (BA vid)] nD2).trans k6
                  exact fin_late (v := .int .i64 0) hK' rfl rfl (setRow_heap _ _ _ _ _ _ r6) rfl ⟨_, by rw [HV.out], by rw [HV.out, HV2.out, HMK.out]; exact ⟨_, rfl, ownsRow_putObj (o6.kept (grownBy_setRow _ B10 _) (.inr (row_not_row r6 (by decide) o6).symm)) _ hK' rfl⟩, (below_setRow b6 HB10.out _).trans (belowK_b (w := w) (Nat.le_refl _) _ D _ _ (by omega) hK' rfl rfl)⟩
end Go.Proofs.Ytdaokkajbooiaaa
end
section
/- Listing: Keys and Versions. -/
namespace Go.Proofs.Ytdaokkajbooiaaa
open Go.RowKit
set_option linter.unusedVariables false
set_option linter.unusedSimpArgs false
theorem PageAt.mono {n m : Nat} {W : World} {pv : Value} {g : Pg} (h : PageAt m W pv g) (hn : n ≤ m) : PageAt n W pv g := by
  obtain ⟨sl, h1, h2, h3⟩ := h
  refine ⟨sl, h1, h2, ?_⟩
  rcases h3 with h3 | ⟨a, b, c, d, e, f⟩
  · exact .inl h3
  · exact .inr ⟨a, b, c, d, Nat.le_trans hn e, f⟩
theorem PageAt.block {n : Nat} {W W' : World} {pv : Value} {g : Pg} (h : PageAt n W pv g) (hb : Below W.heap.size W W') : PageAt n W' pv g := by
  obtain ⟨sl, h1, h2, h3⟩ := h
  refine ⟨sl, h1, h2, ?_⟩
  rcases h3 with h3 | ⟨a, b, c, d, e, f, k⟩
  · exact .inl h3
  · exact .inr ⟨a, b, c, d, e, (hb.block _ (Array.getElem?_eq_some_iff.1 f).1).trans f, k⟩
theorem own_form {W : World} {n₀ : Nat} {t : TypeId} {k : Nat} {sl : Value} {m : Nat} {xs : List Value} (h : W.ownsRow n₀ t k sl m xs) : ∃ A c, sl = .slice A m c := by
  rcases h.2 with ⟨rfl, h0⟩ | ⟨g, cap, cur, rfl, _⟩
  · exact ⟨_, _, by rw [h0]⟩
  · exact ⟨_, _, rfl⟩
set_option maxRecDepth 10000 in
set_option maxHeartbeats 1000000 in
theorem keys_any (p d after : ByteArray) (most : Int) (es : List Ent) (v : Value) (w : World) (hE : EntsAt w v es) (hel : es.length ≤ 1000000) (hkey : ∀ e ∈ es, e.key.length ≤ 1000000 ∧ e.vs.length ≤ 1000000) (hMax : ∃ m, w.cell? ⟨0, 0, none⟩ = some (.int .i64 m)) (hps : p.size ≤ 1000000) (hds : d.size ≤ 1000000) (has : after.size ≤ 1000000) :
    Calls Try.prog 12 #[v, .string p, .string d, .string after, .int .i64 most] w fun e w' => ∃ pv, e = .returned (.tuple #[pv, .int .i64 (pageV false es p.data.toList d.data.toList after.data.toList [] most).2]) ∧ PageAt w.heap.size w' pv (pageV false es p.data.toList d.data.toList after.data.toList [] most).1 ∧ Below w.heap.size w w' := by
  obtain ⟨A0, c0, rfl⟩ := hE.form
  obtain ⟨m0, hm0⟩ := hMax
  have hblk : Below w.heap.size w (w.alloc (.cells #[.slice none 0 0, .bool false, .string ⟨#[]⟩, .string ⟨#[]⟩] 28)) := (Below.refl _ w).alloc (Nat.le_refl _) _
  have hrow := heap_alloc_new w (.cells #[.slice none 0 0, .bool false, .string ⟨#[]⟩, .string ⟨#[]⟩] 28)
  have hC := (callsIn_wide (n := 6)).1 (page_in 6 (by omega) p d after ⟨#[]⟩ false most es _ _ (hE.block hblk) hel hkey ⟨m0, (hblk.cell (p := ⟨0, 0, none⟩) (cell_lt hm0)).trans hm0⟩ hps hds has (show (⟨#[]⟩ : ByteArray).size ≤ 1000000 by decide))
  obtain ⟨R, hR⟩ : ∃ R, pageV false es p.data.toList d.data.toList after.data.toList [] most = R := ⟨_, rfl⟩
  have hR' : pageV false es p.data.toList d.data.toList after.data.toList (⟨#[]⟩ : ByteArray).data.toList most = R := hR
  rw [hR'] at hC
  clear hR'
  rw [hR]
  obtain ⟨⟨items, more, next, ver⟩, en⟩ := R
  clear hE hR hm0
  go_enter Try.func12, Try.ntmps12
  go_wp2_with first | (go_at_call 32; refine hC.mono ?_; clear hC; rintro e w2 ⟨pv, rfl, ⟨sl, rfl, ho⟩, hb⟩; obtain ⟨As, cs, rfl⟩ := own_form ho; have hr2 := (hb.block _ (Array.getElem?_eq_some_iff.1 hrow).1).trans hrow) | (refine wpList_store_row rfl 28 _ _ rfl w.heap.size #[.slice As items.length cs, .bool more, .string (BA next), .string (BA ver)] rfl rfl 28 _ hr2 infoP rfl (by simp [Value.oneCell']) ?_)
  have hbw := hblk.trans (hb.mono hblk.size)
  refine bodyPost_ret (v := .tuple #[.agg #[.slice As items.length cs, .bool more, .string (BA next), .string (BA ver)], .int .i64 en]) (results_row_tmp (show Try.f12.results = #[.cell 10 28, .tmp 11] from by kernel_rfl) _ _ w.heap.size 28 #[.slice As items.length cs, .bool more, .string (BA next), .string (BA ver)] (0, 0) _ (.int .i64 en) rfl rfl (setRow_heap _ _ _ _ _ _ hr2) Try.underlying28 rfl infoP) rfl ?_
  refine ⟨_, rfl, ⟨_, rfl, ?_⟩, below_setRow hbw (Nat.le_refl _) _⟩
  have h1 : PageAt w.heap.size w2 (.agg #[.slice As items.length cs, .bool more, .string (BA next), .string (BA ver)]) ⟨items, more, next, ver⟩ := PageAt.mono ⟨_, rfl, ho⟩ (by simp)
  obtain ⟨sl, h2, h3⟩ := h1
  cases h2
  exact h3.kept (grownBy_setRow w2 w.heap.size _) (.inr (row_not_row hr2 (by decide) h3).symm)
end Go.Proofs.Ytdaokkajbooiaaa
end
