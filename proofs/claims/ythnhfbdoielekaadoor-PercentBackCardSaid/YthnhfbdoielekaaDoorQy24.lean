/- The walk of percent.Query: the pairs of a query. -/
import Derived.Test.YthnhfbdoielekaaDoorProg
import Derived.Test.YthnhfbdoielekaaDoorE24
import Derived.Test.YthnhfbdoielekaaDoorSl
import Derived.Laws.ResultCell
import Derived.Laws.Tables
import Derived.RangeFuncBox
namespace Go.Proofs.YthnhfbdoielekaaDoor
open Go.RowKit Go.Shelf
set_option linter.unusedVariables false
set_option linter.unusedSimpArgs false
attribute [local go_sem] Oper.semAt_some
/-- A text parted at the first c, as strings.Cut tells it. -/
def cutF (c : UInt8) (l : List UInt8) : List UInt8 × List UInt8 := (cutAt c l).getD (l, [])
theorem cut_both (s : ByteArray) (c : UInt8) (w : World) (hs : s.size ≤ 1000000) :
    Calls Tryd.prog 18 #[.string s, .string ⟨#[c]⟩] w fun e w' => e = .returned (.tuple #[.string ⟨(cutF c s.data.toList).1.toArray⟩, .string ⟨(cutF c s.data.toList).2.toArray⟩, .bool (cutAt c s.data.toList).isSome]) ∧ ∃ n, w' = w.drewN n := by
  cases h : cutAt c s.data.toList with
  | none =>
    refine (cut_none s c w h).mono ?_
    rintro e w' ⟨rfl, rfl⟩
    exact ⟨by simp [cutF, h, ← bs_mk (a := s) rfl], 0, rfl⟩
  | some p =>
    refine (cut_some s c p.1 p.2 w hs h).mono ?_
    rintro e w' ⟨rfl, n, rfl⟩
    exact ⟨by simp [cutF, h], n, rfl⟩
theorem dec_any (s : ByteArray) (bl : Bool) (w : World) (hs : s.size ≤ 1000000) :
    Calls Tryd.prog 19 #[.string s, .bool bl] w fun e w' => e = .returned (.tuple #[.string ⟨((pdec bl s.data.toList).getD []).toArray⟩, .bool (pdec bl s.data.toList).isSome]) ∧ Below w.heap.size w w' := by
  refine (pdecoded_any s bl w hs).mono ?_
  rintro e w' ⟨h1, h2, hb⟩
  cases h : pdec bl s.data.toList with
  | none => exact ⟨h1 h, hb⟩
  | some l => exact ⟨h2 l h, hb⟩
theorem cutAt_len (c : UInt8) : ∀ (l a b : List UInt8), cutAt c l = some (a, b) → a.length ≤ l.length ∧ b.length ≤ l.length := fun l a b h => by
  obtain ⟨_, hl⟩ := cutAt_some c l a b h
  rw [hl]
  simp
  omega
theorem cutF_len (c : UInt8) (l : List UInt8) : (cutF c l).1.length ≤ l.length ∧ (cutF c l).2.length ≤ l.length := by
  unfold cutF
  cases h : cutAt c l with
  | none => simp
  | some p => exact cutAt_len c l p.1 p.2 h
abbrev PairP := List UInt8 × List UInt8
def pairC (p : PairP) : List Value := [.string ⟨p.1.toArray⟩, .string ⟨p.2.toArray⟩]
/-- The pair of a part; none: it is none; no pair, where the part is empty. -/
def partQ (x : List UInt8) : Option (List PairP) :=
  if x = [] then some [] else match pdec true (cutF 61 x).1, pdec true (cutF 61 x).2 with
    | some a, some b => some [(a, b)]
    | _, _ => none
def stepQ (o : Option (List PairP)) (x : List UInt8) : Option (List PairP) := match o, partQ x with
  | some l, some m => some (l ++ m)
  | _, _ => none
def partsQ (pre : Parts) : Option (List PairP) := pre.foldl stepQ (some [])
theorem partsQ_snoc (pre : Parts) (x : List UInt8) : partsQ (pre ++ [x]) = stepQ (partsQ pre) x := by simp [partsQ]
theorem stepQ_none : ∀ (r : Parts), r.foldl stepQ none = none
  | [] => rfl
  | x :: r => by rw [List.foldl_cons]; exact stepQ_none r
theorem partsQ_pre {pre L : Parts} (h : pre <+: L) (hn : partsQ pre = none) : partsQ L = none := by
  obtain ⟨r, rfl⟩ := h
  unfold partsQ at hn ⊢
  rw [List.foldl_append, hn, stepQ_none]
def queryV (l : List UInt8) : List PairP × Int :=
  if 2048 < l.length then ([], 3) else match partsQ (splitN [38] l.length l) with
    | none => ([], 4)
    | some o => if 32 < o.length then ([], 8) else (o, 0)
theorem splitN_len (sep : List UInt8) : ∀ (n : Nat) (l : List UInt8), (splitN sep n l).length ≤ n + 1
  | 0, l => by simp [splitN]
  | n + 1, l => by
    unfold splitN
    split
    · simp
    · have := splitN_len sep n (l.drop ((Lib.index l sep).toNat + sep.length))
      simp
      omega
theorem splitN_mem (sep : List UInt8) : ∀ (n : Nat) (l x : List UInt8), x ∈ splitN sep n l → x.length ≤ l.length
  | 0, l, x, h => by simp [splitN] at h; simp [h]
  | n + 1, l, x, h => by
    unfold splitN at h
    split at h
    · simp at h; simp [h]
    · rcases List.mem_cons.1 h with rfl | h
      · simp; omega
      · have := splitN_mem sep n _ x h
        simp at this
        omega
theorem stepQ_len (o : Option (List PairP)) (x : List UInt8) (l m : List PairP) (h : o = some l) (hm : stepQ o x = some m) : m.length ≤ l.length + 1 := by
  subst h
  unfold stepQ partQ at hm
  split at hm
  · rename_i h1 h2
    cases h1
    cases hm
    split at h2
    · cases h2; simp
    · split at h2
      · cases h2; simp
      · cases h2
  · cases hm
theorem foldQ_len : ∀ (pre : Parts) (o : Option (List PairP)) (l m : List PairP), o = some l → pre.foldl stepQ o = some m → m.length ≤ l.length + pre.length
  | [], o, l, m, h, hm => by subst h; cases hm; simp
  | x :: r, o, l, m, h, hm => by
    rw [List.foldl_cons] at hm
    cases hs : stepQ o x with
    | none => rw [hs, stepQ_none] at hm; cases hm
    | some q =>
      have h1 := stepQ_len o x l q h hs
      have h2 := foldQ_len r _ q m hs hm
      simp
      omega
theorem partsQ_len {pre : Parts} {m : List PairP} (h : partsQ pre = some m) : m.length ≤ pre.length := by
  have := foldQ_len pre (some []) [] m rfl h
  simpa using this
/-! The iterator, made and met -/
set_option maxHeartbeats 400000 in
theorem splitSeq_in (n : Nat) (hn : 1 ≤ n) (s sep : ByteArray) (w : World) :
    CallsIn Fence.wide n Tryd.prog 27 #[.string s, .string sep, .int .i64 0] w fun e w' => e = .returned (.func (.func 34) #[] #[.pointer (some ⟨w.heap.size + 1, 0, none⟩), .pointer (some ⟨w.heap.size, 0, none⟩), .pointer (some ⟨w.heap.size + 2, 0, none⟩)]) ∧
      w' = ((w.alloc (.cells #[.string s] 9)).alloc (.cells #[.string sep] 9)).alloc (.cells #[.int .i64 0] 3) := by
  refine callsIn_of_wp Tryd.func27 rfl trivial ?_ rfl
  simp only [Tryd.ntmps27, List.size_toArray, List.length_cons, List.length_nil, Nat.reduceAdd, Nat.reduceSub, Array.replicate_succ, Array.replicate_zero, List.push_toArray, List.append_toArray, List.nil_append, List.cons_append]
  gi_wp2
  go_ret
  exact ⟨rfl, rfl⟩
set_option maxHeartbeats 400000 in
theorem SplitSeq_in (n : Nat) (hn : 2 ≤ n) (s sep : ByteArray) (w : World) :
    CallsIn Fence.wide n Tryd.prog 17 #[.string s, .string sep] w fun e w' => e = .returned (.func (.func 34) #[] #[.pointer (some ⟨w.heap.size + 1, 0, none⟩), .pointer (some ⟨w.heap.size, 0, none⟩), .pointer (some ⟨w.heap.size + 2, 0, none⟩)]) ∧
      w' = ((w.alloc (.cells #[.string s] 9)).alloc (.cells #[.string sep] 9)).alloc (.cells #[.int .i64 0] 3) := by
  have h1 : 1 ≤ n := by omega
  refine callsIn_of_wp Tryd.func17 rfl trivial ?_ rfl
  simp only [Tryd.ntmps17, List.size_toArray, List.length_cons, List.length_nil, Nat.reduceAdd, Nat.reduceSub, Array.replicate_succ, Array.replicate_zero, List.push_toArray, List.append_toArray, List.nil_append, List.cons_append]
  gi_wp2_with (refine ⟨trivial, ?_⟩; gi_at_call 27; refine (splitSeq_in (n - 1) (by omega) _ _ _).mono ?_; rintro e w' ⟨rfl, rfl⟩)
  go_ret
  exact ⟨rfl, rfl⟩
theorem parts_of (T : TypeId → Prop) (hTs : ¬ T 9) (hTi : ¬ T 3) (n : Nat) (hn : 2 ≤ n) (Bs Bp Bi : Nat) (hne : Bp ≠ Bs) (w0 w : World) (s0 : List UInt8) (sep : ByteArray) (hsep : 0 < sep.size) (hss : sep.size ≤ 1000) (hs0 : s0.length ≤ 1000000)
    (hIx : ∀ (s : ByteArray) (W : World), s.size ≤ 1000000 → Below w0.heap.size w0 W → Calls Tryd.prog 36 #[.string s, .string sep] W fun e w' => e = .returned (.int .i64 (Lib.index s.data.toList sep.data.toList)) ∧ w' = W)
    (hb : Below w0.heap.size w0 w) (hI : SqAt w0.heap.size Bs Bp Bi s0 sep w) :
    PartsOf n Tryd.prog 34 #[.pointer (some ⟨Bp, 0, none⟩), .pointer (some ⟨Bs, 0, none⟩), .pointer (some ⟨Bi, 0, none⟩)] T w0.heap.size (splitN sep.data.toList s0.length s0) Bs w := fun l J Jx W hW hJ hJs hY h0 =>
  split_in T hTs hTi n hn l Bs Bp Bi hne w0 s0 sep hsep hss hs0 hIx s0.length (Nat.le_refl _) J Jx W hJ hJs hY (hb.trans (hW.mono hb.size))
    ⟨hI.ns, hI.np, hI.ni, (hW.block _ (Array.getElem?_eq_some_iff.1 hI.s).1).trans hI.s, (hW.block _ (Array.getElem?_eq_some_iff.1 hI.p).1).trans hI.p, (hW.block _ (Array.getElem?_eq_some_iff.1 hI.i).1).trans hI.i⟩ h0
theorem index_one (c : UInt8) : ∀ l, Lib.index l [c] = Lib.indexByte l c
  | [] => rfl
  | x :: r => by
    unfold Lib.index Lib.indexByte
    rw [index_one c r]
    by_cases h : x = c
    · simp [h]
    · have h' : ¬ c = x := fun e => h e.symm
      simp [h, h', List.isPrefixOf]
end Go.Proofs.YthnhfbdoielekaaDoor
