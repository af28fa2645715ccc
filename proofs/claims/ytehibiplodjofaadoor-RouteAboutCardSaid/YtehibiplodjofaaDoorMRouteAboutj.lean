/- Texts of this proof, put together: Qy24, Qz24. -/
import Derived.Test.YtehibiplodjofaaDoorProg
import Derived.Test.YtehibiplodjofaaDoorMRouteAbouti
import Derived.Test.YtehibiplodjofaaDoorMRouteAboutf
import Derived.Laws.ResultCell
import Derived.Laws.Tables
import Derived.RangeFuncBox
section
/- The walk of percent.Query: the pairs of a query. -/
namespace Go.Proofs.YtehibiplodjofaaDoor
open Go.RowKit Go.Shelf
set_option linter.unusedVariables false
set_option linter.unusedSimpArgs false
attribute [local go_sem] Oper.semAt_some
/-- A text parted at the first c, as strings.Cut tells it. -/
def cutF (c : UInt8) (l : List UInt8) : List UInt8 × List UInt8 := (cutAt c l).getD (l, [])
theorem cut_both (s : ByteArray) (c : UInt8) (w : World) (hs : s.size ≤ 1000000) :
    Calls Tryd.prog 27 #[.string s, .string ⟨#[c]⟩] w fun e w' => e = .returned (.tuple #[.string ⟨(cutF c s.data.toList).1.toArray⟩, .string ⟨(cutF c s.data.toList).2.toArray⟩, .bool (cutAt c s.data.toList).isSome]) ∧ ∃ n, w' = w.drewN n := by
  cases h : cutAt c s.data.toList with
  | none =>
    refine (cut_none s c w h).mono ?_
    rintro e w' ⟨rfl, rfl⟩
    exact ⟨by simp [cutF, h, ← bs_mk (a := s) rfl], 0, rfl⟩
  | some p =>
    refine (cut_some s c p.1 p.2 w hs h).mono ?_
    rintro e w' ⟨rfl, n, rfl⟩
    exact ⟨by simp [cutF, h], n, rfl⟩
theorem dec_any (s : ByteArray) (bl : Bool) (w : World) (hs : s.size ≤ 1000000) :
    Calls Tryd.prog 28 #[.string s, .bool bl] w fun e w' => e = .returned (.tuple #[.string ⟨((pdec bl s.data.toList).getD []).toArray⟩, .bool (pdec bl s.data.toList).isSome]) ∧ Below w.heap.size w w' := by
  refine (pdecoded_any s bl w hs).mono ?_
  rintro e w' ⟨h1, h2, hb⟩
  cases h : pdec bl s.data.toList with
  | none => exact ⟨h1 h, hb⟩
  | some l => exact ⟨h2 l h, hb⟩
theorem cutAt_len (c : UInt8) : ∀ (l a b : List UInt8), cutAt c l = some (a, b) → a.length ≤ l.length ∧ b.length ≤ l.length := fun l a b h => by
  obtain ⟨_, hl⟩ := cutAt_some c l a b h
  rw [hl]
  simp
  omega
theorem cutF_len (c : UInt8) (l : List UInt8) : (cutF c l).1.length ≤ l.length ∧ (cutF c l).2.length ≤ l.length := by
  unfold cutF
  cases h : cutAt c l with
  | none => simp
  | some p => exact cutAt_len c l p.1 p.2 h
abbrev PairP := List UInt8 × List UInt8
def pairC (p : PairP) : List Value := [.string ⟨p.1.toArray⟩, .string ⟨p.2.toArray⟩]
/-- The pair of a part; none: it is none; no pair, where the part is empty. -/
def partQ (x : List UInt8) : Option (List PairP) :=
  if x = [] then some [] else match pdec true (cutF 61 x).1, pdec true (cutF 61 x).2 with
    | some a, some b => some [(a, b)]
    | _, _ => none
def stepQ (o : Option (List PairP)) (x : List UInt8) : Option (List PairP) := match o, partQ x with
  | some l, some m => some (l ++ m)
  | _, _ => none
def partsQ (pre : Parts) : Option (List PairP) := pre.foldl stepQ (some [])
theorem partsQ_snoc (pre : Parts) (x : List UInt8) : partsQ (pre ++ [x]) = stepQ (partsQ pre) x := by simp [partsQ]
theorem stepQ_none : ∀ (r : Parts), r.foldl stepQ none = none
  | [] => rfl
  | x :: r => by rw [List.foldl_cons]; exact stepQ_none r
theorem partsQ_pre {pre L : Parts} (h : pre <+: L) (hn : partsQ pre = none) : partsQ L = none := by
  obtain ⟨r, rfl⟩ := h
  unfold partsQ at hn ⊢
  rw [List.foldl_append, hn, stepQ_none]
def queryV (l : List UInt8) : List PairP × Int :=
  if 2048 < l.length then ([], 3) else match partsQ (splitN [38] l.length l) with
    | none => ([], 4)
    | some o => if 32 < o.length then ([], 8) else (o, 0)
theorem splitN_len (sep : List UInt8) : ∀ (n : Nat) (l : List UInt8), (splitN sep n l).length ≤ n + 1
  | 0, l => by simp [splitN]
  | n + 1, l => by
    unfold splitN
    split
    · simp
    · have := splitN_len sep n (l.drop ((Lib.index l sep).toNat + sep.length))
      simp
      omega
theorem splitN_mem (sep : List UInt8) : ∀ (n : Nat) (l x : List UInt8), x ∈ splitN sep n l → x.length ≤ l.length
  | 0, l, x, h => by simp [splitN] at h; simp [h]
  | n + 1, l, x, h => by
    unfold splitN at h
    split at h
    · simp at h; simp [h]
    · rcases List.mem_cons.1 h with rfl | h
      · simp; omega
      · have := splitN_mem sep n _ x h
        simp at this
        omega
theorem stepQ_len (o : Option (List PairP)) (x : List UInt8) (l m : List PairP) (h : o = some l) (hm : stepQ o x = some m) : m.length ≤ l.length + 1 := by
  subst h
  unfold stepQ partQ at hm
  split at hm
  · rename_i h1 h2
    cases h1
    cases hm
    split at h2
    · cases h2; simp
    · split at h2
      · cases h2; simp
      · cases h2
  · cases hm
theorem foldQ_len : ∀ (pre : Parts) (o : Option (List PairP)) (l m : List PairP), o = some l → pre.foldl stepQ o = some m → m.length ≤ l.length + pre.length
  | [], o, l, m, h, hm => by subst h; cases hm; simp
  | x :: r, o, l, m, h, hm => by
    rw [List.foldl_cons] at hm
    cases hs : stepQ o x with
    | none => rw [hs, stepQ_none] at hm; cases hm
    | some q =>
      have h1 := stepQ_len o x l q h hs
      have h2 := foldQ_len r _ q m hs hm
      simp
      omega
theorem partsQ_len {pre : Parts} {m : List PairP} (h : partsQ pre = some m) : m.length ≤ pre.length := by
  have := foldQ_len pre (some []) [] m rfl h
  simpa using this
/-! The iterator, made and met -/
set_option maxHeartbeats 400000 in
theorem splitSeq_in (n : Nat) (hn : 1 ≤ n) (s sep : ByteArray) (w : World) :
    CallsIn Fence.wide n Tryd.prog 50 #[.string s, .string sep, .int .i64 0] w fun e w' => e = .returned (.func (.func 59) #[] #[.pointer (some ⟨w.heap.size + 1, 0, none⟩), .pointer (some ⟨w.heap.size, 0, none⟩), .pointer (some ⟨w.heap.size + 2, 0, none⟩)]) ∧
      w' = ((w.alloc (.cells #[.string s] 9)).alloc (.cells #[.string sep] 9)).alloc (.cells #[.int .i64 0] 3) := by
  refine callsIn_of_wp Tryd.func50 rfl trivial ?_ rfl
  simp only [Tryd.ntmps50, List.size_toArray, List.length_cons, List.length_nil, Nat.reduceAdd, Nat.reduceSub, Array.replicate_succ, Array.replicate_zero, List.push_toArray, List.append_toArray, List.nil_append, List.cons_append]
  gi_wp2
  go_ret
  exact ⟨rfl, rfl⟩
set_option maxHeartbeats 400000 in
theorem SplitSeq_in (n : Nat) (hn : 2 ≤ n) (s sep : ByteArray) (w : World) :
    CallsIn Fence.wide n Tryd.prog 43 #[.string s, .string sep] w fun e w' => e = .returned (.func (.func 59) #[] #[.pointer (some ⟨w.heap.size + 1, 0, none⟩), .pointer (some ⟨w.heap.size, 0, none⟩), .pointer (some ⟨w.heap.size + 2, 0, none⟩)]) ∧
      w' = ((w.alloc (.cells #[.string s] 9)).alloc (.cells #[.string sep] 9)).alloc (.cells #[.int .i64 0] 3) := by
  have h1 : 1 ≤ n := by omega
  refine callsIn_of_wp Tryd.func43 rfl trivial ?_ rfl
  simp only [Tryd.ntmps43, List.size_toArray, List.length_cons, List.length_nil, Nat.reduceAdd, Nat.reduceSub, Array.replicate_succ, Array.replicate_zero, List.push_toArray, List.append_toArray, List.nil_append, List.cons_append]
  gi_wp2_with (refine ⟨trivial, ?_⟩; gi_at_call 50; refine (splitSeq_in (n - 1) (by omega) _ _ _).mono ?_; rintro e w' ⟨rfl, rfl⟩)
  go_ret
  exact ⟨rfl, rfl⟩
theorem parts_of (T : TypeId → Prop) (hTs : ¬ T 9) (hTi : ¬ T 3) (n : Nat) (hn : 2 ≤ n) (Bs Bp Bi : Nat) (hne : Bp ≠ Bs) (w0 w : World) (s0 : List UInt8) (sep : ByteArray) (hsep : 0 < sep.size) (hss : sep.size ≤ 1000) (hs0 : s0.length ≤ 1000000)
    (hIx : ∀ (s : ByteArray) (W : World), s.size ≤ 1000000 → Below w0.heap.size w0 W → Calls Tryd.prog 61 #[.string s, .string sep] W fun e w' => e = .returned (.int .i64 (Lib.index s.data.toList sep.data.toList)) ∧ w' = W)
    (hb : Below w0.heap.size w0 w) (hI : SqAt w0.heap.size Bs Bp Bi s0 sep w) :
    PartsOf n Tryd.prog 59 #[.pointer (some ⟨Bp, 0, none⟩), .pointer (some ⟨Bs, 0, none⟩), .pointer (some ⟨Bi, 0, none⟩)] T w0.heap.size (splitN sep.data.toList s0.length s0) Bs w := fun l J Jx W hW hJ hJs hY h0 =>
  split_in T hTs hTi n hn l Bs Bp Bi hne w0 s0 sep hsep hss hs0 hIx s0.length (Nat.le_refl _) J Jx W hJ hJs hY (hb.trans (hW.mono hb.size))
    ⟨hI.ns, hI.np, hI.ni, (hW.block _ (Array.getElem?_eq_some_iff.1 hI.s).1).trans hI.s, (hW.block _ (Array.getElem?_eq_some_iff.1 hI.p).1).trans hI.p, (hW.block _ (Array.getElem?_eq_some_iff.1 hI.i).1).trans hI.i⟩ h0
theorem index_one (c : UInt8) : ∀ l, Lib.index l [c] = Lib.indexByte l c
  | [] => rfl
  | x :: r => by
    unfold Lib.index Lib.indexByte
    rw [index_one c r]
    by_cases h : x = c
    · simp [h]
    · have h' : ¬ c = x := fun e => h e.symm
      simp [h, h', List.isPrefixOf]
end Go.Proofs.YtehibiplodjofaaDoor
end
section
/- The walk of percent.Query, whole: the loop over the parts. -/
namespace Go.Proofs.YtehibiplodjofaaDoor
open Go.RowKit Go.Shelf
set_option linter.unusedVariables false
set_option linter.unusedSimpArgs false
attribute [local go_sem] Oper.semAt_some
/-- What a round may write: the pairs' variable, the results' cells, the rows of pairs. -/
def QT (t : TypeId) : Prop := t = 29 ∨ t = 28 ∨ t = 41
theorem infoPr : (Tryd.prog.info? 41).map (fun i => (i.zero, i.size, i.bytes)) = some (some (.agg #[.string ⟨#[]⟩, .string ⟨#[]⟩]), 2, 32) := by kernel_rfl
/-- What the loop holds. -/
structure QI (w : World) (Br Be Bo Bs : Nat) (acc : List PairP) (W : World) : Prop where
  b : Below w.heap.size w W
  o : ∃ v, Boxed W Bo 29 v ∧ W.ownsRow w.heap.size 41 2 v acc.length (acc.flatMap pairC)
  r : Boxed W Br 29 (.slice none 0 0)
  e : Boxed W Be 28 (.int .i64 0)
  s : ∃ u, Boxed W Bs 9 u
section
variable {w X Y : World} {Br Be Bo Bs : Nat} {acc : List PairP}
theorem QI.turn (h : QI w Br Be Bo Bs acc X) {row : Option Nat} (hg : X.grownBy Y row) (hr : ∀ r, row = some r → w.heap.size ≤ r ∧ ∃ o : Obj, X.heap[r]? = some o ∧ o.isCells = false) : QI w Br Be Bo Bs acc Y := by
  have hne : ∀ {b t u}, Boxed X b t u → some b ≠ row := fun {b t u} hb e => by
    obtain ⟨_, o, ho, hc⟩ := hr b e.symm
    rw [show X.heap[b]? = _ from hb] at ho
    cases ho
    cases hc
  obtain ⟨v, h1, h2⟩ := h.o
  obtain ⟨u, h3⟩ := h.s
  refine ⟨h.b.grown hg h.b.size (fun k e => (hr k e).1), ⟨v, h1.kept hg (hne h1), h2.kept hg ?_⟩, h.r.kept hg (hne h.r), h.e.kept hg (hne h.e), ⟨u, h3.kept hg (hne h3)⟩⟩
  rcases h2.2 with ⟨rfl, _⟩ | ⟨g, cap, cur, rfl, _, hgb, _⟩
  · exact .inl rfl
  · refine .inr fun e' => ?_
    obtain ⟨_, o, ho, hc⟩ := hr g (by simpa [Value.ownBlock] using e'.symm)
    rw [hgb] at ho
    cases ho
    cases hc
theorem QI.below (h : QI w Br Be Bo Bs acc X) (hb : Below X.heap.size X Y) : QI w Br Be Bo Bs acc Y := by
  obtain ⟨v, h1, h2⟩ := h.o
  obtain ⟨u, h3⟩ := h.s
  exact ⟨h.b.trans (hb.mono h.b.size), ⟨v, boxed_below h1 hb, own_belowW h2 hb⟩, boxed_below h.r hb, boxed_below h.e hb, ⟨u, boxed_below h3 hb⟩⟩
theorem QI.set (h : QI w Br Be Bo Bs acc X) (ls : w.heap.size ≤ Bs) (nr : Br ≠ Bs) (ne : Be ≠ Bs) (no : Bo ≠ Bs) (u : Value) : QI w Br Be Bo Bs acc (X.setCell ⟨Bs, 0, none⟩ u) := by
  obtain ⟨v, h1, h2⟩ := h.o
  obtain ⟨u0, h3⟩ := h.s
  exact ⟨h.b.setCell (p := ⟨Bs, 0, none⟩) ls u, ⟨v, h1.other no u, h2.kept (grownBy_setCell' X Bs u) (.inr (h3.not_row (by decide) h2).symm)⟩, h.r.other nr u, h.e.other ne u, ⟨_, Boxed.set u h3⟩⟩
end
theorem fin_q {n : Nat} {R : Ending → World → Prop} {tmps : Array Value} {w : World} {Br Be : Nat} {v : Value} {x : Int} (hp : tmps.getD 2 undef = .pointer (some ⟨Br, 0, none⟩)) (hq : tmps.getD 3 undef = .pointer (some ⟨Be, 0, none⟩)) (hr : Boxed w Br 29 v) (he : Boxed w Be 28 (.int .i64 x)) (hR : R (.returned (.tuple #[v, .int .i64 x])) w) :
    bodyPostM Fence.wide n Tryd.prog Tryd.f30 R .ret { tmps := tmps, defers := [] } w := by
  have c1 := hr.cell
  have c2 := he.cell
  rw [Array.getD_eq_getD_getElem?] at hp hq
  refine ⟨.tuple #[v, .int .i64 x], ?_, hR⟩
  simp only [results, Tryd.results30]
  simp [go_sem, hp, hq, c1, c2]
theorem fin_qd {n : Nat} {R : Ending → World → Prop} {tmps : Array Value} {w : World} {Br Be D : Nat} {v : Value} {x : Int} (hK : w.heap[D]? = some (.deferred (some []))) (hp : tmps.getD 2 undef = .pointer (some ⟨Br, 0, none⟩)) (hq : tmps.getD 3 undef = .pointer (some ⟨Be, 0, none⟩)) (hr : Boxed w Br 29 v) (he : Boxed w Be 28 (.int .i64 x)) (hR : R (.returned (.tuple #[v, .int .i64 x])) (w.putObj D (.deferred none))) :
    bodyPostM Fence.wide n Tryd.prog Tryd.f30 R .ret { tmps := tmps, defers := [{ target := .collected D, args := #[] }] } w := by
  have far : ∀ {b t u}, Boxed w b t u → Boxed (w.putObj D (.deferred none)) b t u := fun {b t u} h => (World.putObj_heap_other (fun e => by subst e; rw [show w.heap[b]? = _ from h] at hK; cases hK)).trans h
  have c1 := (far hr).cell
  have c2 := (far he).cell
  rw [Array.getD_eq_getD_getElem?] at hp hq
  refine ⟨by simp, .inl ⟨_, _, rfl, run_takeDeferred hK, .tuple #[v, .int .i64 x], ?_, hR⟩⟩
  simp only [results, Tryd.results30]
  simp [go_sem, hp, hq, c1, c2]
theorem box6_at (w : World) (o0 o1 o2 o3 o4 o5 : Obj) (W : World) (h : (((((w.alloc o0).alloc o1).alloc o2).alloc o3).alloc o4).alloc o5 = W) : W.heap[w.heap.size]? = some o0 ∧ W.heap[w.heap.size + 1]? = some o1 ∧ W.heap[w.heap.size + 2]? = some o2 ∧ W.heap[w.heap.size + 3]? = some o3 ∧ W.heap[w.heap.size + 4]? = some o4 ∧ W.heap[w.heap.size + 5]? = some o5 ∧ W.heap.size = w.heap.size + 6 ∧ Below w.heap.size w W := by
  subst h
  have key : ∀ (X : World) (o : Obj) (k : Nat) (x : Obj), X.heap[k]? = some x → (X.alloc o).heap[k]? = some x := fun X o k x hx => (Below.heap_alloc X o k (Array.getElem?_eq_some_iff.1 hx).1).trans hx
  have e0 := heap_alloc_new w o0
  have e1 := heap_alloc_new (w.alloc o0) o1
  have e2 := heap_alloc_new ((w.alloc o0).alloc o1) o2
  have e3 := heap_alloc_new (((w.alloc o0).alloc o1).alloc o2) o3
  have e4 := heap_alloc_new ((((w.alloc o0).alloc o1).alloc o2).alloc o3) o4
  have e5 := heap_alloc_new (((((w.alloc o0).alloc o1).alloc o2).alloc o3).alloc o4) o5
  simp only [World.size_alloc, Nat.add_assoc, Nat.reduceAdd] at e1 e2 e3 e4 e5
  refine ⟨key _ _ _ _ (key _ _ _ _ (key _ _ _ _ (key _ _ _ _ (key _ _ _ _ e0)))), key _ _ _ _ (key _ _ _ _ (key _ _ _ _ (key _ _ _ _ e1))), key _ _ _ _ (key _ _ _ _ (key _ _ _ _ e2)), key _ _ _ _ (key _ _ _ _ e3), key _ _ _ _ e4, e5, by simp, ?_⟩
  exact ((((((Below.refl _ w).alloc (Nat.le_refl _) _).alloc (by simp) _).alloc (by simp; omega) _).alloc (by simp; omega) _).alloc (by simp; omega) _).alloc (by simp; omega) _
set_option maxRecDepth 100000 in
set_option maxHeartbeats 4000000 in
theorem query_in (n : Nat) (hn : 6 ≤ n) (s : ByteArray) (w : World) (hs : s.size ≤ 1000000) :
    CallsIn Fence.wide n Tryd.prog 30 #[.string s] w fun e w' => ∃ v, e = .returned (.tuple #[v, .int .i64 (queryV s.data.toList).2]) ∧ w'.ownsRow w.heap.size 41 2 v (queryV s.data.toList).1.length ((queryV s.data.toList).1.flatMap pairC) ∧ Below w.heap.size w w' := by
  have h1 : 1 ≤ n := by omega
  refine callsIn_of_wp_marks Tryd.func30 rfl trivial ?_ rfl
  simp only [Tryd.ntmps30, List.size_toArray, List.length_cons, List.length_nil, Nat.reduceAdd, Nat.reduceSub, Array.replicate_succ, Array.replicate_zero, List.push_toArray, List.append_toArray, List.nil_append, List.cons_append]
  by_cases hlong : 2048 < s.size
  · have HV := Lib.hid (show queryV s.data.toList = ([], 3) by unfold queryV; rw [if_pos (by rw [← bs_len]; exact hlong)])
    gi_wp2
    have e0 := heap_alloc_new w (.cells #[.slice none 0 0] 29)
    have e1 := heap_alloc_new (w.alloc (.cells #[.slice none 0 0] 29)) (.cells #[.int .i64 3] 28)
    rw [World.size_alloc] at e1
    exact fin_q rfl rfl ((Below.heap_alloc _ _ _ (by simp)).trans e0) e1 ⟨_, by rw [HV.out], by rw [HV.out]; exact World.ownsRow_nil _ _ _ _, ((Below.refl _ w).alloc (Nat.le_refl _) _).alloc (by simp) _⟩
  · have hl2 : (s.size : Int) ≤ 2048 := by omega
    gi_wp2_with (refine ⟨trivial, ?_⟩; gi_at_call 43; refine (SplitSeq_in (n - 1) (by omega) _ _ _).mono ?_; rintro e w4 ⟨rfl, rfl⟩)
    obtain ⟨W0, hW0⟩ : ∃ W0, (((((w.alloc (.cells #[.slice none 0 0] 29)).alloc (.cells #[.int .i64 0] 28)).alloc (.cells #[.slice none 0 0] 29)).alloc (.cells #[.string s] 9)).alloc (.cells #[.string ⟨#[38]⟩] 9)).alloc (.cells #[.int .i64 0] 3) = W0 := ⟨_, rfl⟩
    obtain ⟨rr, re, ro, rs, rp, ri, hsz, hb0⟩ := box6_at _ _ _ _ _ _ _ W0 hW0
    rw [hW0]
    clear hW0
    rw [show w.heap.size + 1 + 1 + 1 + 2 = w.heap.size + 5 from rfl, show w.heap.size + 1 + 1 + 1 + 1 = w.heap.size + 4 from rfl, show w.heap.size + 1 + 1 + 1 = w.heap.size + 3 from rfl, show w.heap.size + 1 + 1 = w.heap.size + 2 from rfl]
    obtain ⟨Br, hBr⟩ : ∃ b, w.heap.size = b := ⟨_, rfl⟩
    obtain ⟨Be, hBe⟩ : ∃ b, w.heap.size + 1 = b := ⟨_, rfl⟩
    obtain ⟨Bo, hBo⟩ : ∃ b, w.heap.size + 2 = b := ⟨_, rfl⟩
    obtain ⟨Bs, hBs⟩ : ∃ b, w.heap.size + 3 = b := ⟨_, rfl⟩
    obtain ⟨Bp, hBp⟩ : ∃ b, w.heap.size + 4 = b := ⟨_, rfl⟩
    obtain ⟨Bi, hBi⟩ : ∃ b, w.heap.size + 5 = b := ⟨_, rfl⟩
    rw [hBe] at re
    rw [hBo] at ro
    rw [hBs] at rs
    rw [hBp] at rp
    rw [hBi] at ri
    rw [hBe, hBo, hBs, hBp, hBi]
    have lr : w.heap.size ≤ Br := by omega
    have le : w.heap.size ≤ Be := by omega
    have lo : w.heap.size ≤ Bo := by omega
    have ls : w.heap.size ≤ Bs := by omega
    have lp : w.heap.size ≤ Bp := by omega
    have li : w.heap.size ≤ Bi := by omega
    have nre : Br ≠ Be := by omega
    have nro : Br ≠ Bo := by omega
    have nrs : Br ≠ Bs := by omega
    have neo : Be ≠ Bo := by omega
    have nes : Be ≠ Bs := by omega
    have nos : Bo ≠ Bs := by omega
    have nps : Bp ≠ Bs := by omega
    have hBs' : Bs < W0.heap.size := by omega
    rw [hBr] at rr
    have hq : (Value.pointer (some ⟨w.heap.size, 0, none⟩)) = .pointer (some ⟨Br, 0, none⟩) := by rw [hBr]
    rw [hq]
    have hn0 : w.heap.size ≤ W0.heap.size := hb0.size
    have HB := Lib.hid hBr
    clear hBr hBe hBo hBs hBp hBi hq hsz
    have hIx : ∀ (s : ByteArray) (W : World), s.size ≤ 1000000 → Below w.heap.size w W → Calls Tryd.prog 61 #[.string s, .string ⟨#[38]⟩] W fun e w' => e = .returned (.int .i64 (Lib.index s.data.toList (⟨#[38]⟩ : ByteArray).data.toList)) ∧ w' = W := fun s W _ _ => by
      have h := Tryd.strings_Index_one s 38 W
      rw [show (⟨#[38]⟩ : ByteArray).data.toList = [38] from rfl, index_one]
      exact h
    have hsl : s.data.toList.length ≤ 2048 := by rw [← bs_len]; omega
    have hseq := parts_of QT (by unfold QT; decide) (by unfold QT; decide) (n - 1) (by omega) Bs Bp Bi nps w W0 s.data.toList ⟨#[38]⟩ (by decide) (by decide) (by omega) hIx hb0 ⟨ls, lp, li, by rw [← bs_mk (a := s) rfl]; exact rs, rp, ri⟩
    rw [show (⟨#[38]⟩ : ByteArray).data.toList = [38] from rfl] at hseq
    obtain ⟨L, hL⟩ : ∃ L, splitN [38] s.data.toList.length s.data.toList = L := ⟨_, rfl⟩
    rw [hL] at hseq
    have hLl : L.length ≤ 2049 := by rw [← hL]; have := splitN_len [38] s.data.toList.length s.data.toList; omega
    have HLm := Lib.hid (show ∀ x ∈ L, x.length ≤ 2048 from fun x hx => by rw [← hL] at hx; have := splitN_mem _ _ _ _ hx; omega)
    have HL := Lib.hid hL
    have RS := rs
    clear hL hIx rs rp ri
    refine loop_parts h1 (gf := 59) (lb := #[.pointer (some ⟨Bp, 0, none⟩), .pointer (some ⟨Bs, 0, none⟩), .pointer (some ⟨Bi, 0, none⟩)]) rfl (enters_of Tryd.func59 (by kernel_rfl) rfl) hseq hBs' hn0
      (fun pre W => ∃ acc, QI w Br Be Bo Bs acc W ∧ partsQ pre = some acc)
      (fun c pre W => c = .ret ∧ partsQ pre = none ∧ Below w.heap.size w W ∧ Boxed W Br 29 (.slice none 0 0) ∧ Boxed W Be 28 (.int .i64 4))
      ?own ?ownx ?set ?start
      (fun x => { tmps := #[.string s, undef, .pointer (some ⟨Br, 0, none⟩), .pointer (some ⟨Be, 0, none⟩), .pointer (some ⟨Bo, 0, none⟩), .string ⟨x.toArray⟩, undef, undef, undef, undef, undef, undef, undef, .string s, .int .i64 s.size, .bool (decide (2048 < (s.size : Int))), .string s,
        .func (.func 59) #[] #[.pointer (some ⟨Bp, 0, none⟩), .pointer (some ⟨Bs, 0, none⟩), .pointer (some ⟨Bi, 0, none⟩)], .string ⟨x.toArray⟩, undef, undef, undef, undef, undef, undef, undef, undef, undef, undef, undef, undef, undef, undef, undef, undef, undef, undef, undef, undef, undef, undef, undef, undef, undef, undef, undef, undef, undef, undef, undef, undef, undef, undef], defers := [] })
      ?assign ?body ?done ?stop
    case own =>
      rintro pre X Y row ⟨acc, hQ, hp⟩ hg hr
      exact ⟨acc, hQ.turn hg (fun r e => ⟨Nat.le_trans hn0 (hr r e).1, (hr r e).2⟩), hp⟩
    case ownx =>
      rintro c pre X Y row ⟨hc, hp, hb, h1, h2⟩ hg hr
      have hne : ∀ {b t u}, Boxed X b t u → some b ≠ row := fun {b t u} hb e => by
        obtain ⟨_, o, ho, hc⟩ := hr b e.symm
        rw [show X.heap[b]? = _ from hb] at ho
        cases ho
        cases hc
      exact ⟨hc, hp, hb.grown hg hb.size (fun k e => Nat.le_trans hn0 (hr k e).1), h1.kept hg (hne h1), h2.kept hg (hne h2)⟩
    case set =>
      rintro pre W v ⟨acc, hQ, hp⟩
      exact ⟨acc, hQ.set ls nrs nes nos v, hp⟩
    case start => exact ⟨[], ⟨hb0, ⟨_, ro, World.ownsRow_nil _ _ _ _⟩, rr, re, ⟨_, RS⟩⟩, rfl⟩
    case assign =>
      intro l x W K hK
      gi_wp2
      exact hK
    case body =>
      rintro l pre x W ⟨acc, hQ, hp⟩ hlen
      have hsn := partsQ_snoc pre x
      rw [hp] at hsn
      have hxl : x.length ≤ 2048 := HLm.out x (hlen.subset (by simp))
      have hal : acc.length ≤ pre.length := partsQ_len hp
      have hpl := hlen.length_le
      simp only [List.length_append, List.length_cons, List.length_nil] at hpl
      have hac : acc.length ≤ 100000 := by omega
      by_cases hx : x = []
      · subst hx
        have HS := Lib.hid (show partsQ (pre ++ [[]]) = some acc by rw [hsn]; simp [stepQ, partQ])
        clear hsn hp
        gi_wp2
        exact (show KeepsFrom _ _ _ ∧ _ ∧ _ from ⟨KeepsFrom.refl _ _, KpT.refl _ _ _, acc, hQ, HS.out⟩)
      · have hdl : (⟨x.toArray⟩ : ByteArray).data.toList = x := by simp
        have htl : (⟨x.toArray⟩ : ByteArray).toList = x := by rw [bs_toList]
        have q1 : ((⟨x.toArray⟩ : ByteArray).toList == []) = false := by rw [htl]; simpa using hx
        have q2 : (⟨x.toArray⟩ : ByteArray).toList.isEmpty = false := by rw [htl]; simpa using hx
        have q3 : x.isEmpty = false := by simpa using hx
        have hxs : (⟨x.toArray⟩ : ByteArray).size ≤ 1000000 := by rw [bs_len]; simp; omega
        obtain ⟨fb, hfb⟩ : ∃ fb, (cutAt 61 x).isSome = fb := ⟨_, rfl⟩
        obtain ⟨⟨a, b⟩, hab⟩ : ∃ p, cutF 61 x = p := ⟨_, rfl⟩
        have hcl := cutF_len 61 x
        have hcut := fun V => cut_both ⟨x.toArray⟩ 61 V hxs
        rw [hab] at hcl
        simp only [hdl, hab, hfb] at hcut
        simp only at hcl
        have hA := fun V => dec_any ⟨a.toArray⟩ true V (by rw [bs_len]; simp; omega)
        have hB := fun V => dec_any ⟨b.toArray⟩ true V (by rw [bs_len]; simp; omega)
        simp only [show (⟨a.toArray⟩ : ByteArray).data.toList = a by simp, show (⟨b.toArray⟩ : ByteArray).data.toList = b by simp] at hA hB
        have hpq : partQ x = match pdec true a, pdec true b with | some a, some b => some [(a, b)] | _, _ => none := by unfold partQ; rw [if_neg hx, hab] <;> rfl
        have h1n : 1 ≤ n - 1 - 1 := by omega
        have hnW : w.heap.size ≤ W.heap.size := hQ.b.size
        have HQ := Lib.hid hQ
        clear hfb hab hdl htl hx hQ hp hcl hxs
        cases ha : pdec true a with
        | none =>
          obtain ⟨vb, hvb⟩ : ∃ vb, ((pdec true b).getD []).toArray = vb := ⟨_, rfl⟩
          obtain ⟨ob, hob⟩ : ∃ ob, (pdec true b).isSome = ob := ⟨_, rfl⟩
          rw [hvb, hob] at hB
          rw [ha] at hA hpq
          simp only [Option.getD_none, Option.isSome_none] at hA
          have HS := Lib.hid (show partsQ (pre ++ [x]) = none by rw [hsn]; unfold stepQ; rw [hpq])
          clear hvb hob ha hpq hsn
          gi_wp2_with first
            | (refine ⟨trivial, ?_⟩; gi_at_call 27; refine (CallsIn.inRound l (callsIn_wide.2 (hcut _))).mono ?_; rintro e w1 ⟨rfl, nd, rfl⟩)
            | (refine ⟨trivial, ?_⟩; gi_at_call 28; refine (CallsIn.inRound l (callsIn_wide.2 (hA _))).mono ?_; clear hA; rintro e w2 ⟨rfl, hb2⟩)
            | (refine ⟨trivial, ?_⟩; gi_at_call 28; refine (CallsIn.inRound l (callsIn_wide.2 (hB _))).mono ?_; clear hB; rintro e w3 ⟨rfl, hb3⟩; have hbx : Below W.heap.size W w3 := (below_drewN (Below.refl _ _) nd |>.trans hb2).trans (hb3.mono hb2.size); have hQ3 := HQ.out.below hbx; have cr := hQ3.r.cell; have fr := hQ3.r.frozen; have ce := hQ3.e.cell; have fe := hQ3.e.frozen)
          exact (show KeepsFrom _ _ _ ∧ _ from ⟨(keepsFrom_below hbx).trans (((KeepsOthers.setCell _ _ _).trans (KeepsOthers.setCell _ _ _)).from _), rfl, HS.out, (hQ3.b.setCell (p := ⟨Br, 0, none⟩) lr _).setCell (p := ⟨Be, 0, none⟩) le _, (Boxed.set _ hQ3.r).other nre _, Boxed.set _ (hQ3.e.other nre.symm _)⟩)
        | some a' =>
          rw [ha] at hA hpq
          simp only [Option.getD_some, Option.isSome_some] at hA
          clear ha
          cases hb : pdec true b with
          | none =>
            rw [hb] at hB hpq
            simp only [Option.getD_none, Option.isSome_none] at hB
            have HS := Lib.hid (show partsQ (pre ++ [x]) = none by rw [hsn]; unfold stepQ; rw [hpq])
            clear hb hpq hsn
            gi_wp2_with first
              | (refine ⟨trivial, ?_⟩; gi_at_call 27; refine (CallsIn.inRound l (callsIn_wide.2 (hcut _))).mono ?_; rintro e w1 ⟨rfl, nd, rfl⟩)
              | (refine ⟨trivial, ?_⟩; gi_at_call 28; refine (CallsIn.inRound l (callsIn_wide.2 (hA _))).mono ?_; clear hA; rintro e w2 ⟨rfl, hb2⟩)
              | (refine ⟨trivial, ?_⟩; gi_at_call 28; refine (CallsIn.inRound l (callsIn_wide.2 (hB _))).mono ?_; clear hB; rintro e w3 ⟨rfl, hb3⟩; have hbx : Below W.heap.size W w3 := (below_drewN (Below.refl _ _) nd |>.trans hb2).trans (hb3.mono hb2.size); have hQ3 := HQ.out.below hbx; have cr := hQ3.r.cell; have fr := hQ3.r.frozen; have ce := hQ3.e.cell; have fe := hQ3.e.frozen)
            exact (show KeepsFrom _ _ _ ∧ _ from ⟨(keepsFrom_below hbx).trans (((KeepsOthers.setCell _ _ _).trans (KeepsOthers.setCell _ _ _)).from _), rfl, HS.out, (hQ3.b.setCell (p := ⟨Br, 0, none⟩) lr _).setCell (p := ⟨Be, 0, none⟩) le _, (Boxed.set _ hQ3.r).other nre _, Boxed.set _ (hQ3.e.other nre.symm _)⟩)
          | some b' =>
            rw [hb] at hB hpq
            simp only [Option.getD_some, Option.isSome_some] at hB
            have HS := Lib.hid (show partsQ (pre ++ [x]) = some (acc ++ [(a', b')]) by rw [hsn]; unfold stepQ; rw [hpq])
            clear hb hpq hsn
            obtain ⟨i0, hi, hz0, hz1, hz2⟩ := info_parts infoPr
            have hbnd1 : acc.length + 1 ≤ maxLen := by unfold maxLen; omega
            have hbnd2 : (acc.length + 1) * 32 ≤ 140737488355328 := by omega
            gi_wp2_with first
              | (refine ⟨trivial, ?_⟩; gi_at_call 27; refine (CallsIn.inRound l (callsIn_wide.2 (hcut _))).mono ?_; rintro e w1 ⟨rfl, nd, rfl⟩)
              | (refine ⟨trivial, ?_⟩; gi_at_call 28; refine (CallsIn.inRound l (callsIn_wide.2 (hA _))).mono ?_; clear hA; rintro e w2 ⟨rfl, hb2⟩)
              | (refine ⟨trivial, ?_⟩; gi_at_call 28; refine (CallsIn.inRound l (callsIn_wide.2 (hB _))).mono ?_; clear hB; rintro e w3 ⟨rfl, hb3⟩; have hbx : Below W.heap.size W w3 := (below_drewN (Below.refl _ _) nd |>.trans hb2).trans (hb3.mono hb2.size); have hQ3 := HQ.out.below hbx; obtain ⟨v, hv, hrow⟩ := hQ3.o; have hv' := hv.cell; obtain ⟨Av, cv, rfl⟩ := slice_form hrow; have cv0 := fun o => (hv.alloc o).cell; have hn3 : w.heap.size ≤ w3.heap.size := hQ3.b.size)
              | (gi_at_builtin; go_must (refine wpListIn_append_own _ rfl _ _ 29 rfl w.heap.size 41 i0 _ 2 32 Tryd.underlying29 hi hz0 hz1 hz2 rfl (by decide) _ _ _ rfl (hrow.alloc _) ⟨w3.heap.size, 0, none⟩ 1 1 [.string ⟨a'.toArray⟩, .string ⟨b'.toArray⟩] rfl rfl (cells_newL w3 [.string ⟨a'.toArray⟩, .string ⟨b'.toArray⟩] _) (by simp [Value.oneCell']) hbnd1 hbnd2 (by simp; omega) ?_); intro v' w4 hown' hgrow _; have hk := KpT.appended (T := QT) hv (by unfold QT; decide) (by unfold QT; decide) (by decide) hrow hn3 lo hown' hgrow; obtain ⟨hw1, hw2, hr2, hk2, hb4⟩ := Boxed.appended hv (by decide) hrow hn3 lo hown' hgrow; obtain ⟨g', cap', rfl⟩ := ownsRow_succ hown'; have hc1 := hw1.cell; have hf1 := hw1.frozen)
            have far : ∀ {b : Nat} {t : TypeId} {u : Value}, Boxed w3 b t u → t ≠ 41 → b ≠ Bo → Boxed (w4.setCell ⟨Bo, 0, none⟩ (.slice (some ⟨g', 0, none⟩) (acc.length + 1) cap')) b t u := fun {b t u} h ht hb => ((h.alloc _).kept hgrow (h.not_row ht hrow)).other hb _
            obtain ⟨u3, hs3⟩ := hQ3.s
            exact (show KeepsFrom _ _ _ ∧ _ ∧ _ from ⟨(keepsFrom_below hbx).trans (hk2.from _), (KpT.ofBelow hnW hbx).trans hk, _, ⟨hQ3.b.trans hb4, ⟨_, hw2, by simpa [pairC] using hr2⟩, far hQ3.r (by decide) nro, far hQ3.e (by decide) neo, ⟨_, far hs3 (by decide) nos.symm⟩⟩, HS.out⟩)
    case done =>
      rintro D W hD ⟨acc, hQ, hp⟩ hK
      obtain ⟨v, hv, hrow⟩ := hQ.o
      obtain ⟨Av, cv, rfl⟩ := slice_form hrow
      have cv0 := hv.cell
      have cr := hQ.r.cell
      have fr := hQ.r.frozen
      have ce := hQ.e.cell
      have fe := hQ.e.frozen
      have nD : ∀ {b : Nat} {t : TypeId} {u : Value}, Boxed W b t u → D ≠ b := fun {b t u} h e => by subst e; rw [show W.heap[D]? = _ from h] at hK; cases hK
      have hK1 := (Below.heap_setCell W ⟨Br, 0, none⟩ (.slice none 0 0) D (nD hQ.r)).trans hK
      have hK2 := (Below.heap_setCell _ ⟨Be, 0, none⟩ (.int .i64 8) D (nD hQ.e)).trans hK1
      have hK3 := (Below.heap_setCell W ⟨Br, 0, none⟩ (.slice Av acc.length cv) D (nD hQ.r)).trans hK
      have hK4 := (Below.heap_setCell _ ⟨Be, 0, none⟩ (.int .i64 0) D (nD hQ.e)).trans hK3
      have hbD : Below w.heap.size w W := hQ.b
      have hlD : w.heap.size ≤ D := Nat.le_trans hn0 hD
      have HV := Lib.hid (show queryV s.data.toList = if 32 < acc.length then ([], 8) else (acc, 0) by unfold queryV; rw [if_neg (by omega), HL.out, hp])
      have HK2 := Lib.hid hK2
      have HK4 := Lib.hid hK4
      clear hp hK1 hK2 hK3 hK4
      by_cases h32 : 32 < acc.length
      · have h32' : (32 : Int) < (acc.length : Int) := by omega
        gi_wp2
        refine fin_qd HK2.out rfl rfl ((Boxed.set _ hQ.r).other nre _) (Boxed.set _ (hQ.e.other nre.symm _)) ⟨_, by rw [HV.out, if_pos h32], by rw [HV.out, if_pos h32]; exact World.ownsRow_nil _ _ _ _, ?_⟩
        exact ((hbD.setCell (p := ⟨Br, 0, none⟩) lr _).setCell (p := ⟨Be, 0, none⟩) le _).trans (belowK_b (w := w) (Nat.le_refl _) _ D _ _ hlD HK2.out rfl rfl)
      · have h32' : ¬ (32 : Int) < (acc.length : Int) := by omega
        have o1 := hrow.kept (grownBy_setCell' W Br (.slice Av acc.length cv)) (.inr (hQ.r.not_row (by decide) hrow).symm)
        have e1 := hQ.e.other nre.symm (.slice Av acc.length cv)
        have o2 := o1.kept (grownBy_setCell' _ Be (.int .i64 0)) (.inr (e1.not_row (by decide) o1).symm)
        gi_wp2
        refine fin_qd HK4.out rfl rfl ((Boxed.set _ hQ.r).other nre _) (Boxed.set _ e1) ⟨_, by rw [HV.out, if_neg h32], by rw [HV.out, if_neg h32]; exact ownsRow_putObj o2 _ HK4.out rfl, ?_⟩
        exact ((hbD.setCell (p := ⟨Br, 0, none⟩) lr _).setCell (p := ⟨Be, 0, none⟩) le _).trans (belowK_b (w := w) (Nat.le_refl _) _ D _ _ hlD HK4.out rfl rfl)
    case stop =>
      rintro D c pre W hD hpre ⟨rfl, hpn, hb, hr, he⟩ hK
      have HV := Lib.hid (show queryV s.data.toList = ([], 4) by unfold queryV; rw [if_neg (by omega), HL.out, partsQ_pre hpre hpn])
      gi_wp2
      exact fin_qd hK rfl rfl hr he ⟨_, by rw [HV.out], by rw [HV.out]; exact World.ownsRow_nil _ _ _ _, hb.trans (belowK_b (w := w) (Nat.le_refl _) _ D _ _ (Nat.le_trans hn0 hD) hK rfl rfl)⟩
theorem query_any (s : ByteArray) (w : World) (hs : s.size ≤ 1000000) :
    Calls Tryd.prog 30 #[.string s] w fun e w' => ∃ v, e = .returned (.tuple #[v, .int .i64 (queryV s.data.toList).2]) ∧ w'.ownsRow w.heap.size 41 2 v (queryV s.data.toList).1.length ((queryV s.data.toList).1.flatMap pairC) ∧ Below w.heap.size w w' := callsIn_wide.1 (query_in 6 (Nat.le_refl _) s w hs)
end Go.Proofs.YtehibiplodjofaaDoor
end
