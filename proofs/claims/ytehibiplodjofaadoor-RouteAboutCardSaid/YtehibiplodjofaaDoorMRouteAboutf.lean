/- Texts of this proof, put together: Sl. -/
import Derived.Test.YtehibiplodjofaaDoorMRouteAboute
import Derived.RangeFuncBox
section
/- A loop over strings.SplitSeq: the law for the caller. The iterator keeps its text in a cell that lay there before the loop: what the loop holds must abide a store into that cell. -/
namespace Go.Proofs.YtehibiplodjofaaDoor
open Go.RowKit Go.Shelf
set_option linter.unusedVariables false
set_option linter.unusedSimpArgs false
attribute [local go_sem] Oper.semAt_some
abbrev Parts := List (List UInt8)
def partA (x : List UInt8) : Array Value := #[.string ⟨x.toArray⟩]
/-- What a loop over the parts L asks of its iterator (its text in block Bs): the contract, for whatever abides a store there. -/
def PartsOf (n : Nat) (P : Program) (g : Nat) (lb : Array Value) (T : TypeId → Prop) (n₀ : Nat) (L : Parts) (Bs : Nat) (w : World) : Prop :=
  ∀ (l : Nat) (J Jx : Parts → World → Prop) (W : World), Below w.heap.size w W → AbidesFrom W.heap.size J → (∀ pre W1 v, J pre W1 → J pre (W1.setCell ⟨Bs, 0, none⟩ v)) →
    (∀ pre x W1, J pre W1 → pre ++ [x] <+: L → YieldAt Fence.wide (n - 1) P l (partA x) W1 fun e W' =>
      (e = .returned (.bool true) ∧ J (pre ++ [x]) W' ∧ KpT T n₀ W1 W') ∨ (e = .returned (.bool false) ∧ Jx (pre ++ [x]) W')) →
    J [] W →
    CallsIn Fence.wide n P g (#[.func (.yield l) #[] #[]] ++ lb) W fun e W' => (∃ v, e = .returned v) ∧ ((∃ ys, ys = L ∧ J ys W') ∨ (∃ pre, pre <+: L ∧ Jx pre W'))
theorem KpT.put {T : TypeId → Prop} {n₀ : Nat} {w : World} (hn : n₀ ≤ w.heap.size) (W : World) (l : Nat) (o o' : Obj) (hl : w.heap.size ≤ l) (h : W.heap[l]? = some o) (hc : o.isCells = false) (hw : o.isWalk = false) : KpT T n₀ W (W.putObj l o') := by
  refine ⟨belowK_b hn W l o o' hl h hc hw, fun b C t fr hb hh _ => ?_⟩
  rw [World.putObj_heap_other (fun e => ?_)]
  · exact hh
  · subst e
    rw [h] at hh
    cases hh
    cases hc
set_option maxHeartbeats 1000000 in
theorem loop_parts {P : Program} {n : Nat} {g : Operand} {p : Tmp} {assign body : Code} {Q : Exit → Act → World → Prop} {a : Act} {w : World} (h1 : 1 ≤ n) {gf : Nat} {lb : Array Value}
    (hg : a.eval g = .func (.func gf) #[] lb) (eg : ∀ args w, (callFunc gf args).run P w = .ok (.enter gf args) w)
    {T : TypeId → Prop} {n₀ : Nat} {L : Parts} {Bs : Nat} (hseq : PartsOf (n - 1) P gf lb T n₀ L Bs w) (hBs : Bs < w.heap.size) (hn₀ : n₀ ≤ w.heap.size)
    (I : Parts → World → Prop) (Ix : Code → Parts → World → Prop) (hI : OwnFrom w.heap.size I) (hIx : ∀ c, OwnFrom w.heap.size (Ix c)) (hIs : ∀ pre W v, I pre W → I pre (W.setCell ⟨Bs, 0, none⟩ v)) (h0 : I [] w) (a₁ : List UInt8 → Act)
    (hassign : ∀ (l : Nat) (x : List UInt8) (W : World) (K : Act → World → Prop), K (a₁ x) W →
      assign.wpIn (Fence.wide.inRound l) (n - 1 - 1) P (Exit.then K (fun _ _ _ => False)) { tmps := a.tmps.setIfInBounds p (.string ⟨x.toArray⟩), defers := [] } W)
    (hbody : ∀ (l : Nat) (pre : Parts) (x : List UInt8) (W : World), I pre W → pre ++ [x] <+: L → body.wpIn (Fence.wide.inRound l) (n - 1 - 1) P (ownPostG w.heap.size (KpT T n₀) I Ix (pre ++ [x]) W) (a₁ x) W)
    (hdone : ∀ (D : Nat) (W : World), w.heap.size ≤ D → I L W → W.heap[D]? = some (.deferred (some [])) → Q .normal { a with defers := { target := .collected D, args := #[] } :: a.defers } W)
    (hstop : ∀ (D : Nat) (c : Code) (pre : Parts) (W : World), w.heap.size ≤ D → pre <+: L → Ix c pre W → W.heap[D]? = some (.deferred (some [])) → c.wpIn Fence.wide n P Q { a with defers := { target := .collected D, args := #[] } :: a.defers } W) :
    (Code.rangeFunc g #[p] assign body).wpIn Fence.wide n P Q a w := by
  refine wpIn_rangeFunc fun fn _ => ?_
  rw [show Fence.wide.round = none from rfl]
  obtain ⟨m, hm⟩ : ∃ m, w.heap.size = m := ⟨_, rfl⟩
  rw [hm] at hBs hn₀ hI hIx hbody hdone hstop
  let rec0 : LoopState → Option Code → Loop := fun st pe => { state := st, pending := pe, fn, tmps := a.tmps, params := #[p], assign, body, defers := m }
  obtain ⟨rec, hrec⟩ : ∃ rec, rec = rec0 := ⟨_, rfl⟩
  obtain ⟨W1, hW1⟩ : ∃ W1, (w.alloc (.deferred (some []))).alloc (.loop (rec .ready none)) = W1 := ⟨_, rfl⟩
  have hz1 : W1.heap.size = m + 2 := by rw [← hW1]; simp [hm]
  have hL1 : W1.heap[m + 1]? = some (.loop (rec .ready none)) := by
    rw [← hW1]
    have h := World.alloc_heap_new (w.alloc (.deferred (some []))) (.loop (rec .ready none))
    rwa [World.size_alloc, hm] at h
  have hD1 : W1.heap[m]? = some (.deferred (some [])) := by
    rw [← hW1, ← hm]
    exact (Below.heap_alloc _ _ _ (by simp)).trans (World.alloc_heap_new w _)
  have hb1 : Below w.heap.size w W1 := by rw [← hW1]; exact ((Below.refl _ w).alloc (Nat.le_refl _) _).alloc (by simp) _
  have hI1 : I [] W1 := by rw [← hW1]; exact hI.alloc _ (hI.alloc _ h0)
  -- what is turned by the iterator's walk, or stored into its text's cell, is none of the two blocks of book-keeping
  have far : ∀ {X Y : World} {row : Option Nat} {b : Nat} {o : Obj}, X.grownBy Y row → (∀ r, row = some r → W1.heap.size ≤ r ∧ ∃ o : Obj, X.heap[r]? = some o ∧ o.isWalk = true) → X.heap[b]? = some o → o.isWalk = false → Y.heap[b]? = some o := by
    intro X Y row b o hg' hr hb ho
    exact (grownBy_keeps hg' (fun r e => (hr r e).2) hb ho).trans hb
  refine ⟨m + 1, [{ target := .collected m, args := #[] }], W1, { target := .fn (.func gf) lb, args := #[.func (.yield (m + 1)) #[] #[]] }, W1, gf, #[.func (.yield (m + 1)) #[] #[]] ++ lb, W1, ?_, ?_, fun _ _ => trivial, ?_, fun _ => h1, ?_⟩
  · have h := run_enterLoop_outer (P := P) (w := w) fn a.tmps #[p] assign body
    rw [hm] at h
    rw [← hW1, hrec]
    exact h
  · simp only [resolve, hg]
    simp [go_sem]
  · simp [invoke, go_sem, eg]
  · refine (hseq (m + 1)
      (fun pre W => I pre W ∧ W.heap[m + 1]? = some (.loop (rec .ready none)) ∧ W.heap[m]? = some (.deferred (some [])))
      (fun pre W => ∃ c, Ix c pre W ∧ W.heap[m + 1]? = some (.loop (rec .done (some c))) ∧ W.heap[m]? = some (.deferred (some [])))
      W1 hb1 ?_ ?_ ?_ ⟨hI1, hL1, hD1⟩).mono ?_
    · rintro s X Y row ⟨hs, hl, hd⟩ hg' hr
      exact ⟨hI s X Y row hs hg' (fun r e => by obtain ⟨h2, o, ho, hw⟩ := hr r e; exact ⟨by omega, o, ho, Obj.not_cells_of_walk hw⟩), far hg' hr hl rfl, far hg' hr hd rfl⟩
    · rintro s X v ⟨hs, hl, hd⟩
      exact ⟨hIs _ _ _ hs, (Below.heap_setCell X ⟨Bs, 0, none⟩ v (m + 1) (show m + 1 ≠ Bs by omega)).trans hl, (Below.heap_setCell X ⟨Bs, 0, none⟩ v m (show m ≠ Bs by omega)).trans hd⟩
    · -- a round
      rintro pre x W ⟨hi, hl, hd⟩ hlen
      have hlt : m + 1 < W.heap.size := (Array.getElem?_eq_some_iff.1 hl).1
      have hy : (Instr.yield (m + 1) (partA x)).run P W = .ok (.round (m + 1) fn (a.tmps.setIfInBounds p (.string ⟨x.toArray⟩)) assign body) W := by
        have h := run_yield (P := P) (args := partA x) hl (by rw [hrec]; rfl)
        rw [hrec] at h
        simpa [rec0, partA] using h
      refine ⟨fn, _, assign, body, hy, roundIn_of_wpIn trivial (hassign _ x W _ ?_)⟩
      clear hy
      refine ⟨_, run_beginRound hl (by rw [hrec]), ?_⟩
      have hl2 : (W.putObj (m + 1) (.loop { rec .ready none with state := .busy })).heap[m + 1]? = some (.loop { rec .ready none with state := .busy }) := World.putObj_heap_same hlt
      have hd2 : (W.putObj (m + 1) (.loop { rec .ready none with state := .busy })).heap[m]? = some (.deferred (some [])) := (World.putObj_heap_other (by omega)).trans hd
      have hk2 : KpT T n₀ W (W.putObj (m + 1) (.loop { rec .ready none with state := .busy })) := KpT.put (w := w) (by omega) W (m + 1) _ _ (by omega) hl rfl rfl
      have hbd := hbody (m + 1) pre x (W.putObj (m + 1) (.loop { rec .ready none with state := .busy })) (hI.putObj _ hi (by omega) hl rfl) hlen
      refine wpIn_mono hbd ?_
      have fin : ∀ (jump : Option Code) (W3 : World), KeepsFrom m (W.putObj (m + 1) (.loop { rec .ready none with state := .busy })) W3 →
          (Instr.endRound (m + 1) jump).run P W3 = .ok (.bool jump.isNone) (W3.putObj (m + 1) (.loop (rec (if jump.isNone then .ready else .done) jump))) ∧ W3.heap[m + 1]? = some (.loop { rec .ready none with state := .busy }) ∧
          (W3.putObj (m + 1) (.loop (rec (if jump.isNone then .ready else .done) jump))).heap[m + 1]? = some (.loop (rec (if jump.isNone then .ready else .done) jump)) ∧
          (W3.putObj (m + 1) (.loop (rec (if jump.isNone then .ready else .done) jump))).heap[m]? = some (.deferred (some [])) := by
        intro jump W3 hk3
        have hl3 := hk3.same _ _ (by omega) hl2 rfl
        have hr := run_endRound (P := P) jump hl3
        rw [hrec] at hr ⊢
        exact ⟨hr, by rw [hrec] at hl3; exact hl3, World.putObj_heap_same (Array.getElem?_eq_some_iff.1 hl3).1, (World.putObj_heap_other (by omega)).trans (hk3.same _ _ (by omega) hd2 rfl)⟩
      have stop : ∀ (c : Code) (W3 : World), KeepsFrom m (W.putObj (m + 1) (.loop { rec .ready none with state := .busy })) W3 → Ix c (pre ++ [x]) W3 →
          (Instr.endRound (m + 1) (some c)).run P W3 = .ok (.bool false) (W3.putObj (m + 1) (.loop (rec .done (some c)))) ∧
          ∃ c', Ix c' (pre ++ [x]) (W3.putObj (m + 1) (.loop (rec .done (some c)))) ∧ (W3.putObj (m + 1) (.loop (rec .done (some c)))).heap[m + 1]? = some (.loop (rec .done (some c'))) ∧ (W3.putObj (m + 1) (.loop (rec .done (some c)))).heap[m]? = some (.deferred (some [])) := by
        intro c W3 hk3 hi3
        obtain ⟨hr, hl3, hl4, hd4⟩ := fin (some c) W3 hk3
        exact ⟨hr, c, (hIx c).putObj _ hi3 (by omega) hl3 rfl, hl4, hd4⟩
      rintro e a3 W3 hp
      cases e with
      | normal =>
        obtain ⟨hk3, hkp3, hi3⟩ := hp
        obtain ⟨hr, hl3, hl4, hd4⟩ := fin none W3 hk3
        exact ⟨_, _, hr, .inl ⟨rfl, ⟨hI.putObj _ hi3 (by omega) hl3 rfl, hl4, hd4⟩, (hk2.trans hkp3).trans (KpT.put (w := w) (by omega) W3 (m + 1) _ _ (by omega) hl3 rfl rfl)⟩⟩
      | ret => obtain ⟨hk3, hi3⟩ := hp; obtain ⟨hr, h⟩ := stop _ W3 hk3 hi3; exact ⟨_, _, hr, .inr ⟨rfl, h⟩⟩
      | exit id => obtain ⟨hk3, hi3⟩ := hp; obtain ⟨hr, h⟩ := stop _ W3 hk3 hi3; exact ⟨_, _, hr, .inr ⟨rfl, h⟩⟩
      | goto t => obtain ⟨hk3, hi3⟩ := hp; obtain ⟨hr, h⟩ := stop _ W3 hk3 hi3; exact ⟨_, _, hr, .inr ⟨rfl, h⟩⟩
      | panic ch => exact hp.elim
      | outgrown => exact hp.elim
    · -- behind the iterator
      rintro e W2 ⟨⟨v, rfl⟩, (⟨ys, rfl, hi, hl, hd⟩ | ⟨pre, hp, c, hi, hl, hd⟩)⟩
      · have hr := run_endLoop (P := P) hl (by rw [hrec]; simp [rec0])
        rw [hrec] at hr
        exact ⟨none, _, hr, hdone m _ (Nat.le_refl _) (hI.putObj _ hi (by omega) hl rfl) ((World.putObj_heap_other (by omega)).trans hd)⟩
      · have hr := run_endLoop (P := P) hl (by rw [hrec]; simp [rec0])
        rw [hrec] at hr
        exact ⟨some c, _, hr, hstop m c pre _ (Nat.le_refl _) hp ((hIx c).putObj _ hi (by omega) hl rfl) ((World.putObj_heap_other (by omega)).trans hd)⟩
theorem row_apart {W : World} {B : Nat} {C : Array Value} {t : TypeId} {fr : Nat × Nat} (h : W.heap[B]? = some (.cells C t fr)) {e : TypeId} (hte : t ≠ e) {base size k : Nat} {v : Value} {xs : List Value} (hr : W.ownsRow base e size v k xs) : some B ≠ v.ownBlock := by
  rcases hr.2 with ⟨rfl, _⟩ | ⟨g, cap, cur, rfl, _, hgb, _⟩
  · simp [Value.ownBlock]
  · intro e'
    obtain rfl : B = g := by simpa [Value.ownBlock] using e'
    have := h.symm.trans hgb
    simp at this
    exact hte this.2.1
/-- An append to the slice in a box of one's own. -/
theorem KpT.appended {T : TypeId → Prop} {W w1 : World} {n₀ B : Nat} {t e : TypeId} {size : Nat} {v v' : Value} {k m : Nat} {xs ys : List Value} {tmp : Obj} (hv : Boxed W B t v) (hT : T t) (hTe : T e) (hte : t ≠ e) (hrow : W.ownsRow n₀ e size v k xs) (hn₀ : n₀ ≤ W.heap.size) (hB : n₀ ≤ B)
    (hown' : w1.ownsRow n₀ e size v' m ys) (hgrow : (W.alloc tmp).grownBy w1 v.ownBlock) : KpT T n₀ W (w1.setCell ⟨B, 0, none⟩ v') := by
  refine ⟨(Boxed.appended hv hte hrow hn₀ hB hown' hgrow).2.2.2.2, fun b C t' fr hb hh ht => ?_⟩
  have h1 : (W.alloc tmp).heap[b]? = some (.cells C t' fr) := (Below.heap_alloc W tmp b (Array.getElem?_eq_some_iff.1 hh).1).trans hh
  have h2 : w1.heap[b]? = some (.cells C t' fr) := (hgrow.block b (Array.getElem?_eq_some_iff.1 h1).1 (row_apart hh (fun e => ht (e ▸ hTe)) hrow)).trans h1
  have hne : b ≠ B := fun e => by
    subst e
    have := hh.symm.trans (show W.heap[b]? = _ from hv)
    simp at this
    exact ht (this.2.1 ▸ hT)
  exact (Below.heap_setCell w1 ⟨B, 0, none⟩ v' b hne).trans h2
theorem keepsFrom_below {B : Nat} {W W' : World} (h : Below W.heap.size W W') : KeepsFrom B W W' := ⟨h.size, fun k o _ hk _ => (h.block k (Array.getElem?_eq_some_iff.1 hk).1).trans hk⟩
theorem boxed_below {W W' : World} {B : Nat} {t : TypeId} {v : Value} (h : Boxed W B t v) (hb : Below W.heap.size W W') : Boxed W' B t v := (hb.block _ h.lt).trans h
theorem own_belowW {W W' : World} {base : Nat} {e : TypeId} {size k : Nat} {v : Value} {xs : List Value} (h : W.ownsRow base e size v k xs) (hb : Below W.heap.size W W') : W'.ownsRow base e size v k xs := by
  refine h.kept (row := none) ⟨hb.os, hb.tape, hb.output, hb.size, fun j hj _ => hb.block j hj⟩ ?_
  rcases h.2 with ⟨rfl, _⟩ | ⟨g, cap, cur, rfl, _⟩
  · exact .inl rfl
  · exact .inr (by simp [Value.ownBlock])
theorem cells_newL (W : World) (L : List Value) (t : TypeId) (j : Nat) (u : Value) (h : L[j]? = some u) : (W.alloc (.cells L.toArray t)).cell? ((⟨W.heap.size, 0, none⟩ : Addr).add j) = some u := by
  have hr : (W.alloc (.cells L.toArray t)).heap[W.heap.size]? = some (.cells L.toArray t (0, 0)) := heap_alloc_new W _
  have hadd : (⟨W.heap.size, 0, none⟩ : Addr).add j = ⟨W.heap.size, j, none⟩ := by unfold Addr.add; split <;> simp_all
  rw [hadd, cell_of_row _ _ j _ _ (0, 0) hr]
  simpa using h
theorem slice_form {W : World} {base : Nat} {e : TypeId} {size k : Nat} {v : Value} {xs : List Value} (h : W.ownsRow base e size v k xs) : ∃ A c, v = .slice A k c := by
  rcases h.2 with ⟨rfl, h0⟩ | ⟨g, cap, cur, rfl, _⟩
  · exact ⟨_, _, by rw [h0]⟩
  · exact ⟨_, _, rfl⟩
end Go.Proofs.YtehibiplodjofaaDoor
end
