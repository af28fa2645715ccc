/- Texts of this proof, put together: Ss. -/
import Derived.RangeFuncNested
import Derived.RangeFuncBound
import Derived.RangeFuncCalls
import Derived.RangeFuncLeaves
import Derived.Shelf.Abstract
import Derived.Shelf.RegionOpen
import Derived.WalkKit
import Derived.OwnWalkIn
import Derived.TacticsInMore
import Derived.LoopNIn
import Derived.LoopIn
import Derived.Sort.BigQuietIn
import Derived.Sort.QuietTacIn
import Derived.Lib.IndexMore
import Derived.Test.YtehibiplodjofaaDoorProg
import Derived.Test.YtehibiplodjofaaDoorMRouteAbouta
import Derived.Test.YtehibiplodjofaaDoorMRouteAboutd
section
/- strings.SplitSeq: the iterator of a text's parts, at a separator that is not empty; what a round of a loop over it must keep. -/
namespace Go.Proofs.YtehibiplodjofaaDoor
open Go.RowKit Go.Shelf
set_option linter.unusedVariables false
set_option linter.unusedSimpArgs false
attribute [local go_sem] Oper.semAt_some
/-- The parts of a text at a separator; n: at most so many cuts. -/
def splitN (sep : List UInt8) : Nat → List UInt8 → List (List UInt8)
  | 0, l => [l]
  | n + 1, l => if Lib.index l sep < 0 then [l] else l.take (Lib.index l sep).toNat :: splitN sep n (l.drop ((Lib.index l sep).toNat + sep.length))
/-- What a round keeps: what lay below n₀; of what lies beyond, all cells but those of the types T. -/
def KpT (T : TypeId → Prop) (n₀ : Nat) (W W' : World) : Prop := Below n₀ W W' ∧ ∀ b C t fr, n₀ ≤ b → W.heap[b]? = some (.cells C t fr) → ¬ T t → W'.heap[b]? = some (.cells C t fr)
section
variable {T : TypeId → Prop} {n₀ : Nat}
theorem KpT.refl (T : TypeId → Prop) (n₀ : Nat) (W : World) : KpT T n₀ W W := ⟨Below.refl _ _, fun _ _ _ _ _ h _ => h⟩
theorem KpT.trans {A B C : World} (h : KpT T n₀ A B) (k : KpT T n₀ B C) : KpT T n₀ A C := ⟨h.1.trans k.1, fun b c t fr hb hh ht => k.2 b c t fr hb (h.2 b c t fr hb hh ht) ht⟩
theorem KpT.ofBelow {A B : World} (hn : n₀ ≤ A.heap.size) (h : Below A.heap.size A B) : KpT T n₀ A B := ⟨h.mono hn, fun b c t fr _ hh _ => (h.block b (Array.getElem?_eq_some_iff.1 hh).1).trans hh⟩
end
theorem index_le (sub : List UInt8) : ∀ l, 0 ≤ Lib.index l sub → (Lib.index l sub).toNat + sub.length ≤ l.length
  | [], h => by
    unfold Lib.index at h ⊢
    split
    · rename_i hs
      have : sub = [] := by simpa using hs
      simp [this]
    · rename_i hs
      simp [hs] at h
  | x :: r, h => by
    unfold Lib.index at h ⊢
    split
    · rename_i hp
      have := (List.isPrefixOf_iff_prefix.1 hp).length_le
      simpa using this
    · rename_i hp
      simp only [hp] at h
      by_cases hm : Lib.index r sub = -1
      · simp [hm] at h
      · have hm' : (Lib.index r sub == -1) = false := by simpa using hm
        simp only [hm'] at h ⊢
        have hi := Lib.index_ge r sub
        have := index_le sub r (by omega)
        simp
        omega
def lenAt (w : World) (b : Nat) : Nat := match w.cell? ⟨b, 0, none⟩ with | some (.string s) => s.size | _ => 0
theorem lenAt_eq {w : World} {b : Nat} {s : ByteArray} (h : w.cell? ⟨b, 0, none⟩ = some (.string s)) : lenAt w b = s.size := by unfold lenAt; rw [h]
/-- What the iterator finds in memory: the text that is left, the separator, nothing kept of it. -/
structure SqAt (n₀ Bs Bp Bi : Nat) (r : List UInt8) (sep : ByteArray) (wr : World) : Prop where
  ns : n₀ ≤ Bs
  np : n₀ ≤ Bp
  ni : n₀ ≤ Bi
  s : wr.heap[Bs]? = some (.cells #[.string ⟨r.toArray⟩] 9 (0, 0))
  p : wr.heap[Bp]? = some (.cells #[.string sep] 9 (0, 0))
  i : wr.heap[Bi]? = some (.cells #[.int .i64 0] 3 (0, 0))
section
variable {T : TypeId → Prop} {n₀ Bs Bp Bi : Nat} {r : List UInt8} {sep : ByteArray} {W W' : World}
theorem SqAt.keep (h : SqAt n₀ Bs Bp Bi r sep W) (hTs : ¬ T 9) (hTi : ¬ T 3) (hk : KpT T n₀ W W') : SqAt n₀ Bs Bp Bi r sep W' :=
  ⟨h.ns, h.np, h.ni, hk.2 _ _ _ _ h.ns h.s hTs, hk.2 _ _ _ _ h.np h.p hTs, hk.2 _ _ _ _ h.ni h.i hTi⟩
theorem SqAt.drewN (h : SqAt n₀ Bs Bp Bi r sep W) (n : Nat) : SqAt n₀ Bs Bp Bi r sep (W.drewN n) := ⟨h.ns, h.np, h.ni, h.s, h.p, h.i⟩
theorem SqAt.cs (h : SqAt n₀ Bs Bp Bi r sep W) : W.cell? ⟨Bs, 0, none⟩ = some (.string ⟨r.toArray⟩) := by rw [cell_of_row _ _ 0 _ _ (0, 0) h.s]; rfl
theorem SqAt.cp (h : SqAt n₀ Bs Bp Bi r sep W) : W.cell? ⟨Bp, 0, none⟩ = some (.string sep) := by rw [cell_of_row _ _ 0 _ _ (0, 0) h.p]; rfl
theorem SqAt.ci (h : SqAt n₀ Bs Bp Bi r sep W) : W.cell? ⟨Bi, 0, none⟩ = some (.int .i64 0) := by rw [cell_of_row _ _ 0 _ _ (0, 0) h.i]; rfl
theorem SqAt.set (h : SqAt n₀ Bs Bp Bi r sep W) (hne : Bp ≠ Bs) (q : List UInt8) : SqAt n₀ Bs Bp Bi q sep (W.setCell ⟨Bs, 0, none⟩ (.string ⟨q.toArray⟩)) :=
  ⟨h.ns, h.np, h.ni, heap_setCell_same W Bs 0 _ _ _ h.s, (heap_setCell_other W ⟨Bs, 0, none⟩ Bp _ hne).trans h.p,
    (heap_setCell_other W ⟨Bs, 0, none⟩ Bi _ (fun e => by have := h.s; rw [← show Bi = Bs from e, h.i] at this; simp at this)).trans h.i⟩
end
set_option maxRecDepth 100000 in
set_option maxHeartbeats 4000000 in
theorem split_in (T : TypeId → Prop) (hTs : ¬ T 9) (hTi : ¬ T 3) (n : Nat) (hn : 2 ≤ n) (l Bs Bp Bi : Nat) (hne : Bp ≠ Bs) (w0 : World) (s0 : List UInt8) (sep : ByteArray) (hsep : 0 < sep.size) (hss : sep.size ≤ 1000) (hs0 : s0.length ≤ 1000000)
    (hIx : ∀ (s : ByteArray) (W : World), s.size ≤ 1000000 → Below w0.heap.size w0 W → Calls Tryd.prog 61 #[.string s, .string sep] W fun e w' => e = .returned (.int .i64 (Lib.index s.data.toList sep.data.toList)) ∧ w' = W)
    (N : Nat) (hN : s0.length ≤ N) (J Jx : List (List UInt8) → World → Prop) (W : World) (hJ : AbidesFrom W.heap.size J) (hJs : ∀ pre W1 v, J pre W1 → J pre (W1.setCell ⟨Bs, 0, none⟩ v))
    (hY : ∀ pre x W1, J pre W1 → pre ++ [x] <+: splitN sep.data.toList N s0 → YieldAt Fence.wide (n - 1) Tryd.prog l #[.string ⟨x.toArray⟩] W1 fun e W' =>
      (e = .returned (.bool true) ∧ J (pre ++ [x]) W' ∧ KpT T w0.heap.size W1 W') ∨ (e = .returned (.bool false) ∧ Jx (pre ++ [x]) W'))
    (hb : Below w0.heap.size w0 W) (hI : SqAt w0.heap.size Bs Bp Bi s0 sep W) (h0 : J [] W) :
    CallsIn Fence.wide n Tryd.prog 59 #[.func (.yield l) #[] #[], .pointer (some ⟨Bp, 0, none⟩), .pointer (some ⟨Bs, 0, none⟩), .pointer (some ⟨Bi, 0, none⟩)] W fun e W' => (∃ v, e = .returned v) ∧
      ((∃ ys, ys = splitN sep.data.toList N s0 ∧ J ys W') ∨ (∃ pre, pre <+: splitN sep.data.toList N s0 ∧ Jx pre W')) := by
  have h1n : 1 ≤ n := by omega
  have h2n : 1 ≤ n - 1 := by omega
  have hcp := hI.cp
  have hz1 : ((sep.size : Int) == 0) = false := beq_eq_false_iff_ne.2 (by omega)
  have hz2 : (sep.size == 0) = false := beq_eq_false_iff_ne.2 (by omega)
  refine callsIn_of_wp Tryd.func59 rfl trivial ?_ rfl
  simp only [Tryd.ntmps59, List.size_toArray, List.length_cons, List.length_nil, Nat.reduceAdd, Nat.reduceSub, Array.replicate_succ, Array.replicate_zero, List.push_toArray, List.append_toArray, List.nil_append, List.cons_append]
  obtain ⟨LQ, hLQ⟩ : ∃ LQ, splitN sep.data.toList N s0 = LQ := ⟨_, rfl⟩
  rw [hLQ] at hY ⊢
  have HLQ := Lib.hid hLQ
  have HI := Lib.hid hI
  clear hLQ hI
  gi_wp2
  gi_loopw [7] (fun _ wr => ∃ (r : List UInt8) (m : Nat) (pre : List (List UInt8)), r.length ≤ m ∧ r.length ≤ 1000000 ∧ J pre wr ∧ Below w0.heap.size w0 wr ∧ Hid (SqAt w0.heap.size Bs Bp Bi r sep wr) ∧ Hid (pre ++ splitN sep.data.toList m r = LQ)) (fun _ wr => lenAt wr Bs)
  case atStart => exact ⟨s0, N, [], hN, hs0, h0, hb, HI, Lib.hid (by simpa using HLQ.out)⟩
  case round =>
    obtain ⟨r, m, pre, hrm, hr6, hJp, hbw, HS, H⟩ := hrel
    have cs := HS.out.cs
    have cp := HS.out.cp
    have ci := HS.out.ci
    have hlen := lenAt_eq cs
    have hix := hIx ⟨r.toArray⟩ wr (by simpa [ByteArray.size_mk'] using hr6) hbw
    rw [show (⟨r.toArray⟩ : ByteArray).data.toList = r by simp] at hix
    have hlr : (⟨r.toArray⟩ : ByteArray).size = r.length := by rw [bs_len]
    by_cases hneg : Lib.index r sep.data.toList < 0
    · have hm1 : Lib.index r sep.data.toList = -1 := by have := Lib.index_ge r sep.data.toList; omega
      have hfin : splitN sep.data.toList m r = [r] := by cases m <;> simp [splitN, hneg]
      have h := H.out
      rw [hfin] at h
      rw [hm1] at hix
      obtain ⟨fn, tmps, assign, body, hy, hR⟩ := hY pre r wr hJp (by rw [← h]; exact List.prefix_rfl)
      have HE := Lib.hid h
      clear hfin hm1 hneg h hlen
      gi_wp2_with (refine ⟨trivial, ?_⟩; gi_at_call 61; refine (callsIn_wide.2 hix).mono ?_; rintro e w' ⟨rfl, rfl⟩)
      refine hR.mono ?_
      rintro e W' (⟨rfl, hJ', hk⟩ | ⟨rfl, hJx'⟩)
      · gi_wp2
        go_end0
        exact ⟨⟨_, rfl⟩, .inl ⟨pre ++ [r], HE.out, hJ'⟩⟩
      · gi_wp2
        go_end0
        exact ⟨⟨_, rfl⟩, .inr ⟨pre ++ [r], by rw [← HE.out]; exact List.prefix_rfl, hJx'⟩⟩
    · obtain ⟨k, hk⟩ := Int.eq_ofNat_of_zero_le (show 0 ≤ Lib.index r sep.data.toList by omega)
      have hle := index_le sep.data.toList r (by omega)
      rw [hk, Int.toNat_natCast] at hle
      have hsz : sep.data.toList.length = sep.size := by rw [bs_len]
      rw [hsz] at hle
      obtain ⟨m1, rfl⟩ : ∃ m1, m = m1 + 1 := ⟨m - 1, by omega⟩
      have h := H.out
      have hst : splitN sep.data.toList (m1 + 1) r = r.take k :: splitN sep.data.toList m1 (r.drop (k + sep.size)) := by rw [splitN, if_neg hneg, hk, Int.toNat_natCast, hsz]
      rw [hst] at h
      obtain ⟨fn, tmps, assign, body, hy, hR⟩ := hY pre (r.take k) wr hJp ⟨splitN sep.data.toList m1 (r.drop (k + sep.size)), by rw [← h]; simp⟩
      have HN := Lib.hid (show (pre ++ [r.take k]) ++ splitN sep.data.toList m1 (r.drop (k + sep.size)) = LQ by rw [← h]; simp)
      have HP := Lib.hid (show pre ++ [r.take k] <+: LQ from ⟨_, HN.out⟩)
      rw [hk] at hix
      have e1 : (⟨r.toArray⟩ : ByteArray).extract 0 k = ⟨(r.take k).toArray⟩ := bs_mk (by simp [ByteArray.data_extract, List.extract_eq_take_drop])
      have e2 : (⟨r.toArray⟩ : ByteArray).extract (k + sep.size) (⟨r.toArray⟩ : ByteArray).size = ⟨(r.drop (k + sep.size)).toArray⟩ := bs_mk (by
        simp only [ByteArray.data_extract, Array.toList_extract, List.extract_eq_take_drop, hlr]
        exact List.take_of_length_le (by simp))
      have g1 := fun W => run_slice_string_h (P := Tryd.prog) (w := W) 9 (⟨r.toArray⟩ : ByteArray) Tryd.underlying9 .i64 (k : Int) (by omega) (by omega)
      have g2 := fun W => run_slice_string_l (P := Tryd.prog) (w := W) 9 (⟨r.toArray⟩ : ByteArray) Tryd.underlying9 .i64 ((k : Int) + (sep.size : Int)) (by omega) (by omega)
      simp only [Int.toNat_natCast, show ((k : Int) + (sep.size : Int)).toNat = k + sep.size by omega, e1, e2] at g1 g2
      have hk6 : (k : Int) ≤ 1000000 := by omega
      have hd6 : (r.drop (k + sep.size)).length ≤ 1000000 ∧ (r.drop (k + sep.size)).length ≤ m1 ∧ (r.drop (k + sep.size)).length < r.length := by simp; omega
      have HK := Lib.hid hk
      have HL := Lib.hid hlen
      have HR := Lib.hid hlr
      obtain ⟨q, hq⟩ : ∃ q, r.take k = q := ⟨_, rfl⟩
      obtain ⟨d, hd⟩ : ∃ d, r.drop (k + sep.size) = d := ⟨_, rfl⟩
      rw [hq] at hR hy g1 HN HP
      rw [hd] at hd6 g2 HN
      clear hk h hst hneg e1 e2 hlen hlr hq hd hle hsz H
      gi_wp2_with (refine ⟨trivial, ?_⟩; gi_at_call 61; refine (callsIn_wide.2 hix).mono ?_; rintro e w' ⟨rfl, rfl⟩)
      refine hR.mono ?_
      rintro e W' (⟨rfl, hJ', hk⟩ | ⟨rfl, hJx'⟩)
      · have HS2 := HS.out.keep hTs hTi hk
        have cs2 := HS2.cs
        have cp2 := HS2.cp
        have ns := HS2.ns
        have hfz : W'.frozen? ⟨Bs, 0, none⟩ = false := by simp [World.frozen?, HS2.s]
        have hbw2 := (hbw.trans hk.1).setCell (p := ⟨Bs, 0, none⟩) ns (.string ⟨d.toArray⟩)
        have HS3 := Lib.hid (HS2.set hne d)
        have hJ3 := hJs _ _ (.string ⟨d.toArray⟩) hJ'
        have hmeas : lenAt (W'.setCell ⟨Bs, 0, none⟩ (.string ⟨d.toArray⟩)) Bs < r.length := by
          rw [lenAt_eq HS3.out.cs, bs_len]
          simp
          omega
        have HM := Lib.hid hmeas
        clear cs cp ci hmeas hk HS2
        gi_wp2
        go_roundw
        case rel => exact ⟨d, m1, pre ++ [q], hd6.2.1, hd6.1, hJ3, hbw2, HS3, HN⟩
        case measure => rw [HL.out, HR.out]; exact HM.out
      · gi_wp2
        refine bodyPost_ret (results_none rfl _ _ _) rfl ?_
        exact ⟨⟨_, rfl⟩, .inr ⟨pre ++ [q], HP.out, hJx'⟩⟩
end Go.Proofs.YtehibiplodjofaaDoor
end
