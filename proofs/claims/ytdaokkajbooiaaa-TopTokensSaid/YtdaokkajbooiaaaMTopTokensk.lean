/- Texts of this proof, put together: Pg20. -/
import Derived.Test.YtdaokkajbooiaaaProg
import Derived.Test.YtdaokkajbooiaaaMTopTokensj
import Derived.Laws.ResultCell
import Derived.Laws.Tables
import Derived.RangeFuncBox
section
/- Listing: a page: the iterator's contract; what the loop over it holds. -/
namespace Go.Proofs.Ytdaokkajbooiaaa
open Go.RowKit Go.Shelf
set_option linter.unusedVariables false
set_option linter.unusedSimpArgs false
attribute [local go_sem] Oper.semAt_some
theorem results_row_tmp {P : Program} {fn : Func} {p u : Tmp} {ty : TypeId} (h : fn.results = #[.cell p ty, .tmp u]) (tmps : Array Value) (w : World) (g : Nat) (t : TypeId) (cs : Array Value) (fr : Nat × Nat) (d : TypeDesc) (v : Value)
    (hp : tmps.getD p undef = .pointer (some ⟨g, 0, none⟩)) (hq : tmps.getD u undef = v) (hg : w.heap[g]? = some (.cells cs t fr))
    (hu : P.underlying ty = some d) (hd : (match d with | .struct _ | .array _ _ => true | _ => false) = true) (hi : (P.info? ty).map (·.size) = some cs.size) :
    (results fn tmps).run P w = .ok (.tuple #[.agg cs, v]) w := by
  rw [results_cell_tmp h, hp, hq]
  simp [asAddr, run_loadVar_row w g t ty cs fr d hg hu hd hi]
theorem infoI : (Try.prog.info? 39).map (fun i => (i.zero, i.size, i.bytes)) = some (some (.agg #[.string ⟨#[]⟩, .bool false, .string ⟨#[]⟩, .int .i64 0, .bool false, .int .i64 0, .string ⟨#[]⟩, .bool false]), 8, 88) := by kernel_rfl
theorem infoP : (Try.prog.info? 28).map (·.size) = some 4 := by kernel_rfl
set_option maxHeartbeats 1000000 in
theorem listed_in (n : Nat) (hn : 1 ≤ n) (p d : ByteArray) (vers : Bool) (A0 : Option Addr) (k c : Nat) (w : World) :
    CallsIn Fence.wide n Try.prog 45 #[.agg #[.string p, .string d, .bool vers], .slice A0 k c] w fun e w' => e = .returned (.func (.func 58) #[] #[.pointer (some ⟨w.heap.size + 1, 0, none⟩), .pointer (some ⟨w.heap.size, 0, none⟩)]) ∧ w' = (w.alloc (.cells #[.string p, .string d, .bool vers] 60)).alloc (.cells #[.slice A0 k c] 22) := by
  refine callsIn_of_wp Try.func45 rfl trivial ?_ rfl
  simp only [Try.ntmps45, List.size_toArray, List.length_cons, List.length_nil, Nat.reduceAdd, Nat.reduceSub, Array.replicate_succ, Array.replicate_zero, List.push_toArray, List.append_toArray, List.nil_append, List.cons_append]
  gi_wp2
  go_ret
  exact ⟨rfl, rfl⟩
theorem KpL.b {n₀ : Nat} {w : World} (hn : n₀ ≤ w.heap.size) (W : World) (l : Nat) (o o' : Obj) (hl : w.heap.size ≤ l) (h : W.heap[l]? = some o) (hc : o.isCells = false) (hw : o.isWalk = false) : KpL n₀ W (W.putObj l o') := by
  refine ⟨belowK_b hn W l o o' hl h hc hw, fun b C t fr hb hh h1 h2 h3 => ?_⟩
  by_cases e : b = l
  · subst e
    rw [hh] at h
    cases h
    cases hc
  · exact (World.putObj_heap_other e).trans hh
theorem KpL.own {β : Type} {n₀ B : Nat} {w₀ : World} (hn : n₀ ≤ w₀.heap.size) (hB : n₀ ≤ B) : OwnFrom B (fun (_ : β) W => KpL n₀ w₀ W) := fun s X Y row hs hg hr =>
  ⟨ownFrom_below (β := β) hn hB s X Y row hs.1 hg hr, fun b C t fr hb hh h1 h2 h3 => by
    have hX := hs.2 b C t fr hb hh h1 h2 h3
    refine (hg.block b (Array.getElem?_eq_some_iff.1 hX).1 (fun e => ?_)).trans hX
    obtain ⟨_, o, ho, hc⟩ := hr b e.symm
    rw [hX] at ho
    cases ho
    cases hc⟩
/-- A step of a round's: a block of a page, of a bool or of items turns. -/
theorem KpL.grown {n₀ : Nat} {A B : World} {row : Option Nat} (hn : n₀ ≤ A.heap.size) (hg : A.grownBy B row) (hr : ∀ b, row = some b → n₀ ≤ b ∧ ∃ C t fr, A.heap[b]? = some (.cells C t fr) ∧ (t = 28 ∨ t = 4 ∨ t = 39)) : KpL n₀ A B :=
  ⟨(Below.refl n₀ A).grown hg hn (fun k e => (hr k e).1), fun b C t fr hb hh h1 h2 h3 => by
    refine (hg.block b (Array.getElem?_eq_some_iff.1 hh).1 (fun e => ?_)).trans hh
    obtain ⟨_, C', t', fr', h', ht⟩ := hr b e.symm
    rw [hh] at h'
    cases h'
    rcases ht with h | h | h
    · exact h1 h
    · exact h2 h
    · exact h3 h⟩
theorem grownBy_setCellX (W : World) (p : Addr) (v : Value) : W.grownBy (W.setCell p v) (some p.block) :=
  ⟨rfl, rfl, rfl, (KeepsWalks.setCell W _ v).size, fun k _ hk => Below.heap_setCell _ _ _ k (fun e => hk (by rw [e]))⟩
theorem ItAt.block {n₀ Bl Ba : Nat} {v : Value} {es : List Ent} {p d : ByteArray} {vers : Bool} {W W' : World} (h : ItAt n₀ Bl Ba v es p d vers W) (hk : Below W.heap.size W W') : ItAt n₀ Bl Ba v es p d vers W' :=
  ⟨h.nl, h.na, (hk.block _ (Array.getElem?_eq_some_iff.1 h.l).1).trans h.l, (hk.block _ (Array.getElem?_eq_some_iff.1 h.a).1).trans h.a⟩
theorem listed_stops (n : Nat) (hn : 2 ≤ n) (Bl Ba : Nat) (w0 w : World) (v : Value) (es : List Ent) (p d : ByteArray) (vers : Bool) (hE : EntsAt w0 v es) (hel : es.length ≤ 1000000) (hok : ∀ e ∈ es, e.vs ≠ []) (hkey : ∀ e ∈ es, e.key.length ≤ 1000000 ∧ e.vs.length ≤ 1000000) (hMax : ∃ m, w0.cell? ⟨0, 0, none⟩ = some (.int .i64 m)) (hps : p.size ≤ 1000000) (hds : d.size ≤ 1000000)
    (hb : Below w0.heap.size w0 w) (hI : ItAt w0.heap.size Bl Ba v es p d vers w) :
    SeqStopsK Fence.wide n Try.prog 58 #[.pointer (some ⟨Bl, 0, none⟩), .pointer (some ⟨Ba, 0, none⟩)] encI (KpL w0.heap.size) (fun ys => ys = listQ p.data.toList d.data.toList vers none es) (fun pre => pre <+: listQ p.data.toList d.data.toList vers none es) (listQ p.data.toList d.data.toList vers none es).length w := fun l J Jx W hW hJ hJx hY h0 => by
  have hb2 := hb.trans (hW.mono hb.size)
  have hI2 := hI.block hW
  cases vers with
  | true => exact listedT_in n hn l Bl Ba w0 v es p d hE hel hok hkey hMax hps hds J Jx W hJ hY hb2 hI2 h0
  | false => exact listedF_in n hn l Bl Ba w0 v es p d hE hel hok hkey hMax hps hds J Jx W hJ hY hb2 hI2 h0
/-! What has been taken -/
def stepS (after version : Bs) (s : List Itm × Bool) (x : Itm) : List Itm × Bool := if takesP after version s.2 x then (s.1 ++ [x], s.2) else (s.1, s.2 || marksP after version x)
def runS (after version : Bs) (pre : List IxItm) : List Itm × Bool := (pre.map (·.2)).foldl (stepS after version) ([], false)
theorem runS_snoc (after version : Bs) (pre : List IxItm) (x : IxItm) : runS after version (pre ++ [x]) = stepS after version (runS after version pre) x.2 := by simp [runS]
theorem stepS_len (after version : Bs) (s : List Itm × Bool) (x : Itm) : s.1.length ≤ (stepS after version s x).1.length := by
  unfold stepS
  split
  · simp
  · simp
theorem foldS_len (after version : Bs) : ∀ (l : List Itm) (s : List Itm × Bool), s.1.length ≤ (l.foldl (stepS after version) s).1.length
  | [], s => Nat.le_refl _
  | x :: r, s => Nat.le_trans (stepS_len after version s x) (foldS_len after version r _)
theorem runP_fold (after version : Bs) (most : Nat) : ∀ (l r : List Itm) (s : List Itm × Bool), (l.foldl (stepS after version) s).1.length ≤ most → runP after version most s.2 s.1 (l ++ r) = runP after version most (l.foldl (stepS after version) s).2 (l.foldl (stepS after version) s).1 r
  | [], r, s, _ => rfl
  | x :: l, r, s, h => by
    have hl := foldS_len after version l (stepS after version s x)
    rw [List.foldl_cons] at h ⊢
    rw [← runP_fold after version most l r _ h]
    show runP after version most s.2 s.1 (x :: (l ++ r)) = _
    conv => lhs; unfold runP
    have hst : stepS after version s x = if takesP after version s.2 x then (s.1 ++ [x], s.2) else (s.1, s.2 || marksP after version x) := rfl
    by_cases ht : takesP after version s.2 x = true
    · rw [if_pos ht] at hst ⊢
      rw [hst] at hl h ⊢
      have : ¬ s.1.length = most := by simp only [List.length_append, List.length_cons, List.length_nil] at hl; omega
      rw [if_neg this]
    · rw [if_neg ht] at hst ⊢
      rw [hst]
theorem runP_all (after version : Bs) (most : Nat) (pre : List IxItm) (h : (runS after version pre).1.length ≤ most) : runP after version most false [] (pre.map (·.2)) = ((runS after version pre).1, false) := by
  have := runP_fold after version most (pre.map (fun y : IxItm => y.2)) [] ([], false) h
  rw [List.append_nil] at this
  rw [this]
  rfl
theorem runP_full (after version : Bs) (most : Nat) (pre : List IxItm) (x : IxItm) (r : List Itm) (h : (runS after version pre).1.length = most) (ht : takesP after version (runS after version pre).2 x.2 = true) : runP after version most false [] (pre.map (·.2) ++ x.2 :: r) = ((runS after version pre).1, true) := by
  have := runP_fold after version most (pre.map (fun y : IxItm => y.2)) (x.2 :: r) ([], false) (Nat.le_of_eq h)
  rw [this]
  show runP after version most (runS after version pre).2 (runS after version pre).1 _ = _
  unfold runP
  rw [if_pos ht, if_pos h]
theorem row_not_row {W : World} {B : Nat} {C : Array Value} {t : TypeId} {fr : Nat × Nat} (h : W.heap[B]? = some (.cells C t fr)) {e : TypeId} (hte : t ≠ e) {base size k : Nat} {v : Value} {xs : List Value} (hr : W.ownsRow base e size v k xs) : some B ≠ v.ownBlock := by
  rcases hr.2 with ⟨rfl, _⟩ | ⟨g, cap, cur, rfl, _, hgb, _⟩
  · simp [Value.ownBlock]
  · intro e'
    obtain rfl : B = g := by simpa [Value.ownBlock] using e'
    have := h.symm.trans hgb
    simp at this
    exact hte this.2.1
theorem cells_new (W : World) (L : List Value) (t : TypeId) (j : Nat) (u : Value) (h : L[j]? = some u) : (W.alloc (.cells L.toArray t)).cell? ((⟨W.heap.size, 0, none⟩ : Addr).add j) = some u := by
  have hr : (W.alloc (.cells L.toArray t)).heap[W.heap.size]? = some (.cells L.toArray t (0, 0)) := heap_alloc_new W _
  have hadd : (⟨W.heap.size, 0, none⟩ : Addr).add j = ⟨W.heap.size, j, none⟩ := by unfold Addr.add; split <;> simp_all
  rw [hadd, cell_of_row _ _ j _ _ (0, 0) hr]
  simpa using h
theorem itmC_one (x : Itm) : ∀ u ∈ itmC x, u.oneCell' = true := by
  intro u hu
  simp [itmC] at hu
  rcases hu with h | h | h | h | h | h | h | h <;> subst h <;> rfl
/-- What the loop holds: the page's cells, the word 'behind', the result's cells. -/
structure PgI (n₀ : Nat) (W0 : World) (Br Bp Bb : Nat) (acc : List Itm) (beh more : Bool) (W : World) : Prop where
  k : KpL n₀ W0 W
  p : ∃ sl, W.heap[Bp]? = some (.cells #[sl, .bool more, .string ⟨#[]⟩, .string ⟨#[]⟩] 28 (0, 0)) ∧ W.ownsRow n₀ 39 8 sl acc.length (acc.flatMap itmC)
  b : W.heap[Bb]? = some (.cells #[.bool beh] 4 (0, 0))
  r : W.heap[Br]? = some (.cells #[.slice none 0 0, .bool false, .string ⟨#[]⟩, .string ⟨#[]⟩] 28 (0, 0))
theorem PgI.own {β : Type} {n₀ B : Nat} {W0 : World} (Br Bp Bb : Nat) (acc : β → List Itm) (beh : β → Bool) (more : Bool) (hn : n₀ ≤ W0.heap.size) (hB : n₀ ≤ B) : OwnFrom B (fun s W => PgI n₀ W0 Br Bp Bb (acc s) (beh s) more W) := fun s X Y row hs hg hr => by
  have hne : ∀ {b : Nat} {C t fr}, X.heap[b]? = some (.cells C t fr) → some b ≠ row := fun {b C t fr} h e => by
    obtain ⟨_, o, ho, hc⟩ := hr b e.symm
    rw [h] at ho
    cases ho
    cases hc
  have hkeep : ∀ {b : Nat} {C t fr}, X.heap[b]? = some (.cells C t fr) → Y.heap[b]? = some (.cells C t fr) := fun {b C t fr} h => (hg.block b (Array.getElem?_eq_some_iff.1 h).1 (hne h)).trans h
  obtain ⟨sl, h1, h2⟩ := hs.p
  refine ⟨KpL.own (β := β) hn hB s X Y row hs.k hg hr, ⟨sl, hkeep h1, h2.kept hg ?_⟩, hkeep hs.b, hkeep hs.r⟩
  rcases h2.2 with ⟨rfl, _⟩ | ⟨g, cap, cur, rfl, _, hgb, _⟩
  · exact .inl rfl
  · refine .inr fun e' => hne hgb (by simpa [Value.ownBlock] using e')
theorem PgI.alloc {n₀ : Nat} {W0 W : World} {Br Bp Bb : Nat} {acc : List Itm} {beh more : Bool} (h : PgI n₀ W0 Br Bp Bb acc beh more W) (hn : n₀ ≤ W0.heap.size) (o : Obj) : PgI n₀ W0 Br Bp Bb acc beh more (W.alloc o) :=
  PgI.own (β := Unit) (B := n₀) Br Bp Bb (fun _ => acc) (fun _ => beh) more hn (Nat.le_refl _) () W _ none h (World.grownBy_alloc W o none) (fun r e => by cases e)
theorem ba_data (b : ByteArray) : BA b.data.toList = b := by cases b; simp
theorem KpL.setCell {n₀ : Nat} {W : World} {b i : Nat} {v : Value} {C : Array Value} {t : TypeId} {fr : Nat × Nat} (hn : n₀ ≤ W.heap.size) (hb : n₀ ≤ b) (h : W.heap[b]? = some (.cells C t fr)) (ht : t = 28 ∨ t = 4 ∨ t = 39) : KpL n₀ W (W.setCell ⟨b, i, none⟩ v) :=
  KpL.grown hn (grownBy_setCellX W ⟨b, i, none⟩ v) (fun c e => by cases e; exact ⟨hb, _, _, _, h, ht⟩)
theorem PgI.behind {n₀ : Nat} {W0 W : World} {Br Bp Bb : Nat} {acc : List Itm} {beh more : Bool} (h : PgI n₀ W0 Br Bp Bb acc beh more W) (hn : n₀ ≤ W.heap.size) (hB : n₀ ≤ Bb) : PgI n₀ W0 Br Bp Bb acc true more (W.setCell ⟨Bb, 0, none⟩ (.bool true)) ∧ KpL n₀ W (W.setCell ⟨Bb, 0, none⟩ (.bool true)) := by
  obtain ⟨sl, h1, h2⟩ := h.p
  have hk := KpL.setCell (i := 0) (v := .bool true) hn hB h.b (.inr (.inl rfl))
  have e1 : Bp ≠ Bb := fun e => by subst e; have := h1.symm.trans h.b; simp at this
  have e2 : Br ≠ Bb := fun e => by subst e; have := h.r.symm.trans h.b; simp at this
  exact ⟨⟨h.k.trans hk, ⟨sl, (heap_setCell_other W ⟨Bb, 0, none⟩ Bp _ e1).trans h1, h2.kept (grownBy_setCellX W ⟨Bb, 0, none⟩ _) (.inr (row_not_row h.b (by decide) h2).symm)⟩, heap_setCell_same W Bb 0 _ _ _ h.b, (heap_setCell_other W ⟨Bb, 0, none⟩ Br _ e2).trans h.r⟩, hk⟩
theorem PgI.more {n₀ : Nat} {W0 W : World} {Br Bp Bb : Nat} {acc : List Itm} {beh more : Bool} (h : PgI n₀ W0 Br Bp Bb acc beh more W) (hn : n₀ ≤ W.heap.size) (hB : n₀ ≤ Bp) (hne : Br ≠ Bp) : PgI n₀ W0 Br Bp Bb acc beh true (W.setCell ⟨Bp, 1, none⟩ (.bool true)) ∧ KpL n₀ W (W.setCell ⟨Bp, 1, none⟩ (.bool true)) := by
  obtain ⟨sl, h1, h2⟩ := h.p
  have hk := KpL.setCell (i := 1) (v := .bool true) hn hB h1 (.inl rfl)
  have e1 : Bb ≠ Bp := fun e => by subst e; have := h1.symm.trans h.b; simp at this
  exact ⟨⟨h.k.trans hk, ⟨sl, heap_setCell_same W Bp 1 _ _ _ h1, h2.kept (grownBy_setCellX W ⟨Bp, 1, none⟩ _) (.inr (row_not_row h1 (by decide) h2).symm)⟩, (heap_setCell_other W ⟨Bp, 1, none⟩ Bb _ e1).trans h.b, (heap_setCell_other W ⟨Bp, 1, none⟩ Br _ hne).trans h.r⟩, hk⟩
theorem PgI.push {n₀ : Nat} {W0 W w1 : World} {Br Bp Bb : Nat} {acc : List Itm} {beh : Bool} (h : PgI n₀ W0 Br Bp Bb acc beh false W) (hn : n₀ ≤ W.heap.size) (hB : n₀ ≤ Bp) (hne : Br ≠ Bp) {sl v' : Value} (h1 : W.heap[Bp]? = some (.cells #[sl, .bool false, .string ⟨#[]⟩, .string ⟨#[]⟩] 28 (0, 0))) (h2 : W.ownsRow n₀ 39 8 sl acc.length (acc.flatMap itmC)) {tmp : Obj} (x : Itm)
    (hown' : w1.ownsRow n₀ 39 8 v' (acc.length + 1) (acc.flatMap itmC ++ itmC x)) (hg : (W.alloc tmp).grownBy w1 sl.ownBlock) :
    w1.heap[Bp]? = some (.cells #[sl, .bool false, .string ⟨#[]⟩, .string ⟨#[]⟩] 28 (0, 0)) ∧ PgI n₀ W0 Br Bp Bb (acc ++ [x]) beh false (w1.setCell ⟨Bp, 0, none⟩ v') ∧ KpL n₀ W (w1.setCell ⟨Bp, 0, none⟩ v') ∧ KeepsOthers W (w1.setCell ⟨Bp, 0, none⟩ v') := by
  have hkeep : ∀ {b : Nat} {C t fr}, t ≠ 39 → W.heap[b]? = some (.cells C t fr) → w1.heap[b]? = some (.cells C t fr) := fun {b C t fr} ht hb => by
    have hb1 : (W.alloc tmp).heap[b]? = some (.cells C t fr) := (heap_alloc_old W tmp b (Array.getElem?_eq_some_iff.1 hb).1).trans hb
    exact (hg.block b (Array.getElem?_eq_some_iff.1 hb1).1 (row_not_row hb ht h2)).trans hb1
  have p1 := hkeep (by decide) h1
  have b1 := hkeep (by decide) h.b
  have r1 := hkeep (by decide) h.r
  have k1 : KpL n₀ W (W.alloc tmp) := KpL.ofBelow hn ((Below.refl _ W).alloc (Nat.le_refl _) tmp)
  have k2 : KpL n₀ (W.alloc tmp) w1 := KpL.grown (by simp; omega) hg (fun c e => by
    rcases (h2.alloc tmp).2 with ⟨rfl, _⟩ | ⟨g, cap, cur, rfl, hgb, hgr, _⟩
    · simp [Value.ownBlock] at e
    · obtain rfl : g = c := by simpa [Value.ownBlock] using e
      exact ⟨hgb, _, _, _, hgr, .inr (.inr rfl)⟩)
  have hn1 : n₀ ≤ w1.heap.size := Nat.le_trans hn (Nat.le_trans (by simp) hg.size)
  have k3 := KpL.setCell (i := 0) (v := v') hn1 hB p1 (.inl rfl)
  have e1 : Bb ≠ Bp := fun e => by subst e; have := h1.symm.trans h.b; simp at this
  refine ⟨p1, ⟨h.k.trans ((k1.trans k2).trans k3), ⟨v', heap_setCell_same w1 Bp 0 _ _ _ p1, ?_⟩, (heap_setCell_other w1 ⟨Bp, 0, none⟩ Bb _ e1).trans b1, (heap_setCell_other w1 ⟨Bp, 0, none⟩ Br _ hne).trans r1⟩, (k1.trans k2).trans k3, ?_⟩
  · have := hown'.kept (grownBy_setCellX w1 ⟨Bp, 0, none⟩ v') (.inr (row_not_row p1 (by decide) hown').symm)
    simpa using this
  · refine ((KeepsOthers.alloc W tmp).trans (KeepsOthers.of_grownBy hg fun j o ej hj => ?_)).trans (KeepsOthers.setCell _ _ _)
    rcases (h2.alloc tmp).2 with ⟨rfl, _⟩ | ⟨g, cap, cur, rfl, _, hgr, _⟩
    · simp [Value.ownBlock] at ej
    · obtain rfl : g = j := by simpa [Value.ownBlock] using ej
      rw [hgr] at hj
      cases hj
      rfl
theorem itmC_len (x : Itm) : (itmC x).length = 8 := rfl
theorem flat_at : ∀ (acc : List Itm) (i j : Nat) (x : Itm) (u : Value), acc[i]? = some x → (itmC x)[j]? = some u → (acc.flatMap itmC)[i * 8 + j]? = some u
  | [], i, j, x, u, h, _ => by simp at h
  | y :: r, 0, j, x, u, h, hu => by
    simp only [List.getElem?_cons_zero, Option.some.injEq] at h
    subst h
    have hj : j < (itmC y).length := (List.getElem?_eq_some_iff.1 hu).1
    rw [List.flatMap_cons, List.getElem?_append_left (by omega)]
    simpa using hu
  | y :: r, i + 1, j, x, u, h, hu => by
    rw [List.flatMap_cons, List.getElem?_append_right (by rw [itmC_len]; omega), itmC_len, show (i + 1) * 8 + j - 8 = i * 8 + j by omega]
    exact flat_at r i j x u (by simpa using h) hu
theorem own_src {W : World} {n₀ : Nat} {sl : Value} {acc : List Itm} {t : TypeId} (h : W.ownsRow n₀ t 8 sl acc.length (acc.flatMap itmC)) : SrcR W sl 8 (acc.map itmC) := by
  rcases h.2 with ⟨rfl, h0⟩ | ⟨g, cap, cur, rfl, hb, hg, hc, hm, hs, ht⟩
  · have : acc = [] := List.eq_nil_of_length_eq_zero h0
    subst this
    exact .inl ⟨none, 0, rfl, rfl⟩
  · refine .inr ⟨g, 0, cap, by simp, by simpa using hc, fun i row hi j x hj => ?_⟩
    rw [List.getElem?_map] at hi
    cases hx : acc[i]? with
    | none => rw [hx] at hi; cases hi
    | some y =>
      rw [hx] at hi
      cases hi
      have h1 := flat_at acc i j y x hx hj
      rw [← ht] at h1
      rw [List.getElem?_take] at h1
      split at h1
      · rw [Nat.zero_add, cell_of_row _ _ _ _ _ (0, 0) hg]
        simpa using h1
      · cases h1
theorem grownBy_setRow (W : World) (g : Nat) (cs : Array Value) : W.grownBy (W.setRow g cs) (some g) :=
  ⟨rfl, rfl, rfl, by simp, fun k _ hk => setRow_other W g k cs (fun e => hk (by rw [e]))⟩
theorem page_done (p d af ve : Bs) (vers : Bool) (most : Nat) (es : List Ent) (h : (runS af ve (listQ p d vers none es)).1.length ≤ most) : mkPg vers most (runP af ve most false [] (listP p d vers none es)) = ⟨(runS af ve (listQ p d vers none es)).1, false, [], []⟩ := by
  rw [← listQ_snd, runP_all af ve most _ h]
  rfl
theorem page_stop (p d af ve : Bs) (vers : Bool) (most : Nat) (es : List Ent) (pre : List IxItm) (x : IxItm) (hp : pre ++ [x] <+: listQ p d vers none es) (h : (runS af ve pre).1.length = most) (ht : takesP af ve (runS af ve pre).2 x.2 = true) : mkPg vers most (runP af ve most false [] (listP p d vers none es)) = mkPg vers most ((runS af ve pre).1, true) := by
  obtain ⟨r, hr⟩ := hp
  rw [← listQ_snd, ← hr, show (pre ++ [x] ++ r).map (·.2) = pre.map (·.2) ++ x.2 :: r.map (·.2) by simp, runP_full af ve most pre x _ h ht]
end Go.Proofs.Ytdaokkajbooiaaa
end
