/- Listing: the iterator that walks through what is listed. -/
import Derived.RangeFuncNested
import Derived.RangeFuncBound
import Derived.RangeFuncCalls
import Derived.RangeFuncLeaves
import Derived.Shelf.Abstract
import Derived.Shelf.RegionOpen
import Derived.WalkKit
import Derived.OwnWalkIn
import Derived.TacticsInMore
import Derived.LoopNIn
import Derived.LoopIn
import Derived.Sort.BigQuietIn
import Derived.Sort.QuietTacIn
import Derived.Lib.IndexMore
import Derived.Test.YtahkcfhiecfgeaaProg
import Derived.Test.YtahkcfhiecfgeaaCk20
import Derived.Test.YtahkcfhiecfgeaaShelf
namespace Go.Proofs.Ytahkcfhiecfgeaa
open Go.RowKit Go.Shelf
set_option linter.unusedVariables false
set_option linter.unusedSimpArgs false
attribute [local go_sem] Oper.semAt_some
theorem headL_index (d : Bs) (hd : d ≠ []) : ∀ l : Bs, (headL d l = none ∧ Lib.index l d = -1) ∨ ∃ h : Bs, headL d l = some h ∧ Lib.index l d = h.length
  | [] => by
    left
    unfold headL
    rw [if_neg hd]
    refine ⟨rfl, ?_⟩
    unfold Lib.index
    simp [hd]
  | x :: r => by
    unfold headL Lib.index
    by_cases hp : d <+: (x :: r)
    · right
      refine ⟨[], by rw [if_pos hp], ?_⟩
      have : d.isPrefixOf (x :: r) = true := List.isPrefixOf_iff_prefix.2 hp
      simp [this]
    · have : d.isPrefixOf (x :: r) = false := by
        cases h : d.isPrefixOf (x :: r) with
        | false => rfl
        | true => exact absurd (List.isPrefixOf_iff_prefix.1 h) hp
      rw [if_neg hp]
      rcases headL_index d hd r with ⟨h1, h2⟩ | ⟨h, h1, h2⟩
      · left
        simp [this, h1, h2]
      · right
        refine ⟨x :: h, by simp [h1], ?_⟩
        simp [this, h2]
theorem cut_head (d : Bs) (hd : d ≠ []) (l : Bs) : (headL d l = none ∧ Lib.cut l d = (l, [], false)) ∨ ∃ h t : Bs, headL d l = some h ∧ Lib.cut l d = (h, t, true) := by
  rcases headL_index d hd l with ⟨h1, h2⟩ | ⟨h, h1, h2⟩
  · exact .inl ⟨h1, by unfold Lib.cut; rw [h2]; simp⟩
  · refine .inr ⟨h, l.drop (h.length + d.length), h1, ?_⟩
    unfold Lib.cut
    rw [h2, if_pos (by omega)]
    obtain ⟨r, hr⟩ := headL_some d l h h1
    rw [show ((h.length : Int)).toNat = h.length by omega]
    conv => lhs; lhs; rw [hr]
    rw [show (h ++ d ++ r).take h.length = h by simp]
theorem quiet_drew {P : Program} {f : FuncId} {args : Array Value} {w : World} {n r : Nat} {v : Value} {m0 : Int} (h : ∀ W : World, W.cell? ⟨0, 0, none⟩ = some (.int .i64 m0) → Calls P f args W fun e w' => e = .returned v ∧ ∃ n, w' = W.drewN n)
    (hm : w.cell? ⟨0, 0, none⟩ = some (.int .i64 m0)) : CallsIn Fence.wide r P f args (w.drewN n) fun e w'' => e = .returned v ∧ ∃ m, w'' = w.drewN m :=
  (callsIn_wide.2 (h (w.drewN n) (by simpa using hm))).mono fun e w' ⟨h1, m, h2⟩ => ⟨h1, n + m, by rw [h2]; simp⟩
abbrev IxItm := Nat × Itm
def ixItms : Nat → List Itm → List IxItm
  | _, [] => []
  | k, x :: r => (k, x) :: ixItms (k + 1) r
/-- What is listed, each item with its place among its key's versions. -/
def listQ (p d : Bs) (versions : Bool) : Option Bs → List Ent → List IxItm
  | _, [] => []
  | last, e :: r =>
    if skips p versions e then listQ p d versions last r
    else match commonL p d e.key with
      | some c => if last = some c then listQ p d versions last r else (0, comItm c) :: listQ p d versions (some c) r
      | none => ixItms 0 (itemsOf versions e) ++ listQ p d versions last r
theorem ixItms_snd : ∀ (k : Nat) (l : List Itm), (ixItms k l).map (·.2) = l
  | _, [] => rfl
  | k, x :: r => by simp [ixItms, ixItms_snd (k + 1) r]
theorem listQ_snd (p d : Bs) (versions : Bool) : ∀ (l : List Ent) (last : Option Bs), (listQ p d versions last l).map (·.2) = listP p d versions last l
  | [], _ => rfl
  | e :: r, last => by
    unfold listQ listP
    split
    · exact listQ_snd p d versions r last
    · cases commonL p d e.key with
      | some c =>
        simp only
        split
        · exact listQ_snd p d versions r last
        · simp [listQ_snd p d versions r]
      | none => simp [ixItms_snd, listQ_snd p d versions r]
theorem versItms_len (key : Bs) : ∀ (b : Bool) (vs : List Ver), (versItms key b vs).length = vs.length
  | _, [] => rfl
  | b, v :: r => by simp [versItms, versItms_len key false r]
theorem ixItms_len : ∀ (k : Nat) (l : List Itm), (ixItms k l).length = l.length
  | _, [] => rfl
  | k, x :: r => by simp [ixItms, ixItms_len (k + 1) r]
theorem versItms_at (key : Bs) : ∀ (b : Bool) (vs : List Ver) (j : Nat) (v : Ver), vs[j]? = some v → (versItms key b vs)[j]? = some ⟨key, false, v, b && decide (j = 0)⟩
  | b, [], j, v, h => by simp at h
  | b, v0 :: r, 0, v, h => by simp at h; subst h; simp [versItms]
  | b, v0 :: r, j + 1, v, h => by
    have := versItms_at key false r j v (by simpa using h)
    simp [versItms, this]
theorem ixItms_at : ∀ (k : Nat) (l : List Itm) (j : Nat) (x : Itm), l[j]? = some x → (ixItms k l)[j]? = some (k + j, x)
  | k, [], j, x, h => by simp at h
  | k, y :: r, 0, x, h => by simp at h; subst h; simp [ixItms]
  | k, y :: r, j + 1, x, h => by
    have := ixItms_at (k + 1) r j x (by simpa using h)
    simp [ixItms, this]
    omega
theorem take_next {α : Type} (l : List α) (j : Nat) (x : α) (h : l[j]? = some x) : l.take (j + 1) = l.take j ++ [x] := by
  rw [List.take_add_one, h]
  rfl
def encI (x : IxItm) : Array Value := #[.int .i64 x.1, .agg (itmC x.2).toArray]
/-- What a round keeps: what lay below n₀; of what lies beyond, all cells but those of a page, of a bool, of items. -/
def KpL (n₀ : Nat) (W W' : World) : Prop := Below n₀ W W' ∧ ∀ b C t fr, n₀ ≤ b → W.heap[b]? = some (.cells C t fr) → t ≠ 28 → t ≠ 4 → t ≠ 39 → W'.heap[b]? = some (.cells C t fr)
theorem KpL.trans {n₀ : Nat} {A B C : World} (h : KpL n₀ A B) (k : KpL n₀ B C) : KpL n₀ A C := ⟨h.1.trans k.1, fun b c t fr hb hh h1 h2 h3 => k.2 b c t fr hb (h.2 b c t fr hb hh h1 h2 h3) h1 h2 h3⟩
/-- A step of the iterator's own: new blocks. -/
theorem KpL.ofBelow {n₀ : Nat} {A B : World} (hn : n₀ ≤ A.heap.size) (h : Below A.heap.size A B) : KpL n₀ A B := ⟨h.mono hn, fun b c t fr _ hh _ _ _ => (h.block b (Array.getElem?_eq_some_iff.1 hh).1).trans hh⟩
theorem abides_below {J : List IxItm → World → Prop} {B : Nat} (hJ : AbidesFrom B J) {pre : List IxItm} {W : World} (h : J pre W) (o : Obj) : J pre (W.alloc o) :=
  hJ pre W _ none h ⟨rfl, rfl, rfl, by simp, fun k hk _ => heap_alloc_old W o k hk⟩ (fun r e => by cases e)
theorem abides_drewN {J : List IxItm → World → Prop} {B : Nat} (hJ : AbidesFrom B J) {pre : List IxItm} {W : World} (h : J pre W) (n : Nat) : J pre (W.drewN n) :=
  hJ pre W _ none h ⟨rfl, rfl, rfl, Nat.le_refl _, fun k hk _ => rfl⟩ (fun r e => by cases e)
def LastAt (n₀ : Nat) (wr : World) (v : Value) (last : Option Bs) : Prop := (v = .pointer none ∧ last = none) ∨ ∃ b c, v = .pointer (some ⟨b, 0, none⟩) ∧ last = some c ∧ n₀ ≤ b ∧ wr.heap[b]? = some (.cells #[.string (BA c)] 9 (0, 0))
theorem LastAt.keep {n₀ : Nat} {W W' : World} {v : Value} {last : Option Bs} (h : LastAt n₀ W v last) (hk : KpL n₀ W W') : LastAt n₀ W' v last := by
  rcases h with h | ⟨b, c, h1, h2, h3, h4⟩
  · exact .inl h
  · exact .inr ⟨b, c, h1, h2, h3, hk.2 b _ _ _ h3 h4 (by decide) (by decide) (by decide)⟩
/-- What the iterator finds in memory. -/
structure ItAt (n₀ Bl Ba : Nat) (v : Value) (es : List Ent) (p d : ByteArray) (vers : Bool) (wr : World) : Prop where
  nl : n₀ ≤ Bl
  na : n₀ ≤ Ba
  l : wr.heap[Bl]? = some (.cells #[v] 22 (0, 0))
  a : wr.heap[Ba]? = some (.cells #[.string p, .string d, .bool vers] 58 (0, 0))
theorem ItAt.keep {n₀ Bl Ba : Nat} {v : Value} {es : List Ent} {p d : ByteArray} {vers : Bool} {W W' : World} (h : ItAt n₀ Bl Ba v es p d vers W) (hk : KpL n₀ W W') : ItAt n₀ Bl Ba v es p d vers W' :=
  ⟨h.nl, h.na, hk.2 _ _ _ _ h.nl h.l (by decide) (by decide) (by decide), hk.2 _ _ _ _ h.na h.a (by decide) (by decide) (by decide)⟩
end Go.Proofs.Ytahkcfhiecfgeaa
