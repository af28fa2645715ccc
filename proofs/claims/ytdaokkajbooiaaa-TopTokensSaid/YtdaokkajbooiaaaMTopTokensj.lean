/- Texts of this proof, put together: It20, ItF20, ItT20. -/
import Derived.RangeFuncNested
import Derived.RangeFuncBound
import Derived.RangeFuncCalls
import Derived.RangeFuncLeaves
import Derived.Shelf.Abstract
import Derived.Shelf.RegionOpen
import Derived.WalkKit
import Derived.OwnWalkIn
import Derived.TacticsInMore
import Derived.LoopNIn
import Derived.LoopIn
import Derived.Sort.BigQuietIn
import Derived.Sort.QuietTacIn
import Derived.Lib.IndexMore
import Derived.Test.YtdaokkajbooiaaaProg
import Derived.Test.YtdaokkajbooiaaaMTopTokensi
import Derived.Test.YtdaokkajbooiaaaMTopTokensf
section
/- Listing: the iterator that walks through what is listed. -/
namespace Go.Proofs.Ytdaokkajbooiaaa
open Go.RowKit Go.Shelf
set_option linter.unusedVariables false
set_option linter.unusedSimpArgs false
attribute [local go_sem] Oper.semAt_some
theorem headL_index (d : Bs) (hd : d ≠ []) : ∀ l : Bs, (headL d l = none ∧ Lib.index l d = -1) ∨ ∃ h : Bs, headL d l = some h ∧ Lib.index l d = h.length
  | [] => by
    left
    unfold headL
    rw [if_neg hd]
    refine ⟨rfl, ?_⟩
    unfold Lib.index
    simp [hd]
  | x :: r => by
    unfold headL Lib.index
    by_cases hp : d <+: (x :: r)
    · right
      refine ⟨[], by rw [if_pos hp], ?_⟩
      have : d.isPrefixOf (x :: r) = true := List.isPrefixOf_iff_prefix.2 hp
      simp [this]
    · have : d.isPrefixOf (x :: r) = false := by
        cases h : d.isPrefixOf (x :: r) with
        | false => rfl
        | true => exact absurd (List.isPrefixOf_iff_prefix.1 h) hp
      rw [if_neg hp]
      rcases headL_index d hd r with ⟨h1, h2⟩ | ⟨h, h1, h2⟩
      · left
        simp [this, h1, h2]
      · right
        refine ⟨x :: h, by simp [h1], ?_⟩
        simp [this, h2]
theorem cut_head (d : Bs) (hd : d ≠ []) (l : Bs) : (headL d l = none ∧ Lib.cut l d = (l, [], false)) ∨ ∃ h t : Bs, headL d l = some h ∧ Lib.cut l d = (h, t, true) := by
  rcases headL_index d hd l with ⟨h1, h2⟩ | ⟨h, h1, h2⟩
  · exact .inl ⟨h1, by unfold Lib.cut; rw [h2]; simp⟩
  · refine .inr ⟨h, l.drop (h.length + d.length), h1, ?_⟩
    unfold Lib.cut
    rw [h2, if_pos (by omega)]
    obtain ⟨r, hr⟩ := headL_some d l h h1
    rw [show ((h.length : Int)).toNat = h.length by omega]
    conv => lhs; lhs; rw [hr]
    rw [show (h ++ d ++ r).take h.length = h by simp]
theorem quiet_drew {P : Program} {f : FuncId} {args : Array Value} {w : World} {n r : Nat} {v : Value} {m0 : Int} (h : ∀ W : World, W.cell? ⟨0, 0, none⟩ = some (.int .i64 m0) → Calls P f args W fun e w' => e = .returned v ∧ ∃ n, w' = W.drewN n)
    (hm : w.cell? ⟨0, 0, none⟩ = some (.int .i64 m0)) : CallsIn Fence.wide r P f args (w.drewN n) fun e w'' => e = .returned v ∧ ∃ m, w'' = w.drewN m :=
  (callsIn_wide.2 (h (w.drewN n) (by simpa using hm))).mono fun e w' ⟨h1, m, h2⟩ => ⟨h1, n + m, by rw [h2]; simp⟩
abbrev IxItm := Nat × Itm
def ixItms : Nat → List Itm → List IxItm
  | _, [] => []
  | k, x :: r => (k, x) :: ixItms (k + 1) r
/-- What is listed, each item with its place among its key's versions. -/
def listQ (p d : Bs) (versions : Bool) : Option Bs → List Ent → List IxItm
  | _, [] => []
  | last, e :: r =>
    if skips p versions e then listQ p d versions last r
    else match commonL p d e.key with
      | some c => if last = some c then listQ p d versions last r else (0, comItm c) :: listQ p d versions (some c) r
      | none => ixItms 0 (itemsOf versions e) ++ listQ p d versions last r
theorem ixItms_snd : ∀ (k : Nat) (l : List Itm), (ixItms k l).map (·.2) = l
  | _, [] => rfl
  | k, x :: r => by simp [ixItms, ixItms_snd (k + 1) r]
theorem listQ_snd (p d : Bs) (versions : Bool) : ∀ (l : List Ent) (last : Option Bs), (listQ p d versions last l).map (·.2) = listP p d versions last l
  | [], _ => rfl
  | e :: r, last => by
    unfold listQ listP
    split
    · exact listQ_snd p d versions r last
    · cases commonL p d e.key with
      | some c =>
        simp only
        split
        · exact listQ_snd p d versions r last
        · simp [listQ_snd p d versions r]
      | none => simp [ixItms_snd, listQ_snd p d versions r]
theorem versItms_len (key : Bs) : ∀ (b : Bool) (vs : List Ver), (versItms key b vs).length = vs.length
  | _, [] => rfl
  | b, v :: r => by simp [versItms, versItms_len key false r]
theorem ixItms_len : ∀ (k : Nat) (l : List Itm), (ixItms k l).length = l.length
  | _, [] => rfl
  | k, x :: r => by simp [ixItms, ixItms_len (k + 1) r]
theorem versItms_at (key : Bs) : ∀ (b : Bool) (vs : List Ver) (j : Nat) (v : Ver), vs[j]? = some v → (versItms key b vs)[j]? = some ⟨key, false, v, b && decide (j = 0)⟩
  | b, [], j, v, h => by simp at h
  | b, v0 :: r, 0, v, h => by simp at h; subst h; simp [versItms]
  | b, v0 :: r, j + 1, v, h => by
    have := versItms_at key false r j v (by simpa using h)
    simp [versItms, this]
theorem ixItms_at : ∀ (k : Nat) (l : List Itm) (j : Nat) (x : Itm), l[j]? = some x → (ixItms k l)[j]? = some (k + j, x)
  | k, [], j, x, h => by simp at h
  | k, y :: r, 0, x, h => by simp at h; subst h; simp [ixItms]
  | k, y :: r, j + 1, x, h => by
    have := ixItms_at (k + 1) r j x (by simpa using h)
    simp [ixItms, this]
    omega
theorem take_next {α : Type} (l : List α) (j : Nat) (x : α) (h : l[j]? = some x) : l.take (j + 1) = l.take j ++ [x] := by
  rw [List.take_add_one, h]
  rfl
def encI (x : IxItm) : Array Value := #[.int .i64 x.1, .agg (itmC x.2).toArray]
/-- What a round keeps: what lay below n₀; of what lies beyond, all cells but those of a page, of a bool, of items. -/
def KpL (n₀ : Nat) (W W' : World) : Prop := Below n₀ W W' ∧ ∀ b C t fr, n₀ ≤ b → W.heap[b]? = some (.cells C t fr) → t ≠ 28 → t ≠ 4 → t ≠ 39 → W'.heap[b]? = some (.cells C t fr)
theorem KpL.trans {n₀ : Nat} {A B C : World} (h : KpL n₀ A B) (k : KpL n₀ B C) : KpL n₀ A C := ⟨h.1.trans k.1, fun b c t fr hb hh h1 h2 h3 => k.2 b c t fr hb (h.2 b c t fr hb hh h1 h2 h3) h1 h2 h3⟩
/-- A step of the iterator's own: new blocks. -/
theorem KpL.ofBelow {n₀ : Nat} {A B : World} (hn : n₀ ≤ A.heap.size) (h : Below A.heap.size A B) : KpL n₀ A B := ⟨h.mono hn, fun b c t fr _ hh _ _ _ => (h.block b (Array.getElem?_eq_some_iff.1 hh).1).trans hh⟩
theorem abides_below {J : List IxItm → World → Prop} {B : Nat} (hJ : AbidesFrom B J) {pre : List IxItm} {W : World} (h : J pre W) (o : Obj) : J pre (W.alloc o) :=
  hJ pre W _ none h ⟨rfl, rfl, rfl, by simp, fun k hk _ => heap_alloc_old W o k hk⟩ (fun r e => by cases e)
theorem abides_drewN {J : List IxItm → World → Prop} {B : Nat} (hJ : AbidesFrom B J) {pre : List IxItm} {W : World} (h : J pre W) (n : Nat) : J pre (W.drewN n) :=
  hJ pre W _ none h ⟨rfl, rfl, rfl, Nat.le_refl _, fun k hk _ => rfl⟩ (fun r e => by cases e)
def LastAt (n₀ : Nat) (wr : World) (v : Value) (last : Option Bs) : Prop := (v = .pointer none ∧ last = none) ∨ ∃ b c, v = .pointer (some ⟨b, 0, none⟩) ∧ last = some c ∧ n₀ ≤ b ∧ wr.heap[b]? = some (.cells #[.string (BA c)] 9 (0, 0))
theorem LastAt.keep {n₀ : Nat} {W W' : World} {v : Value} {last : Option Bs} (h : LastAt n₀ W v last) (hk : KpL n₀ W W') : LastAt n₀ W' v last := by
  rcases h with h | ⟨b, c, h1, h2, h3, h4⟩
  · exact .inl h
  · exact .inr ⟨b, c, h1, h2, h3, hk.2 b _ _ _ h3 h4 (by decide) (by decide) (by decide)⟩
/-- What the iterator finds in memory. -/
structure ItAt (n₀ Bl Ba : Nat) (v : Value) (es : List Ent) (p d : ByteArray) (vers : Bool) (wr : World) : Prop where
  nl : n₀ ≤ Bl
  na : n₀ ≤ Ba
  l : wr.heap[Bl]? = some (.cells #[v] 22 (0, 0))
  a : wr.heap[Ba]? = some (.cells #[.string p, .string d, .bool vers] 60 (0, 0))
theorem ItAt.keep {n₀ Bl Ba : Nat} {v : Value} {es : List Ent} {p d : ByteArray} {vers : Bool} {W W' : World} (h : ItAt n₀ Bl Ba v es p d vers W) (hk : KpL n₀ W W') : ItAt n₀ Bl Ba v es p d vers W' :=
  ⟨h.nl, h.na, hk.2 _ _ _ _ h.nl h.l (by decide) (by decide) (by decide), hk.2 _ _ _ _ h.na h.a (by decide) (by decide) (by decide)⟩
end Go.Proofs.Ytdaokkajbooiaaa
end
section
/- Listing: the iterator's walk (of versions: true; of keys: false). Printed by wip/gen_it20.py. -/
namespace Go.Proofs.Ytdaokkajbooiaaa
open Go.RowKit Go.Shelf
set_option linter.unusedVariables false
set_option linter.unusedSimpArgs false
attribute [local go_sem] Oper.semAt_some
set_option maxRecDepth 100000 in
set_option maxHeartbeats 16000000 in
theorem listedF_in (n : Nat) (hn : 2 ≤ n) (l Bl Ba : Nat) (w0 : World) (v : Value) (es : List Ent) (p d : ByteArray) (hE : EntsAt w0 v es) (hel : es.length ≤ 1000000) (hok : ∀ e ∈ es, e.vs ≠ []) (hkey : ∀ e ∈ es, e.key.length ≤ 1000000 ∧ e.vs.length ≤ 1000000) (hMax : ∃ m, w0.cell? ⟨0, 0, none⟩ = some (.int .i64 m)) (hps : p.size ≤ 1000000) (hds : d.size ≤ 1000000) (J Jx : List IxItm → World → Prop) (W : World)
    (hJ : AbidesFrom W.heap.size J)
    (hY : ∀ pre x W1, J pre W1 → pre.length < (listQ p.data.toList d.data.toList false none es).length → YieldAt Fence.wide (n - 1) Try.prog l (encI x) W1 fun e W' =>
      (e = .returned (.bool true) ∧ J (pre ++ [x]) W' ∧ KpL w0.heap.size W1 W') ∨ (e = .returned (.bool false) ∧ Jx (pre ++ [x]) W'))
    (hb : Below w0.heap.size w0 W) (hI : ItAt w0.heap.size Bl Ba v es p d false W) (h0 : J [] W) :
    CallsIn Fence.wide n Try.prog 58 #[.func (.yield l) #[] #[], .pointer (some ⟨Bl, 0, none⟩), .pointer (some ⟨Ba, 0, none⟩)] W fun e W' => (∃ v, e = .returned v) ∧
      ((∃ ys, ys = listQ p.data.toList d.data.toList false none es ∧ J ys W') ∨ (∃ pre, pre <+: listQ p.data.toList d.data.toList false none es ∧ Jx pre W')) := by
  have h1n : 1 ≤ n := by omega
  have h2n : 1 ≤ n - 1 := by omega
  obtain ⟨A0, c0, rfl⟩ := hE.form
  have hcl : W.cell? ⟨Bl, 0, none⟩ = some (.slice A0 es.length c0) := by rw [cell_of_row _ _ 0 _ _ (0, 0) hI.l]; rfl
  refine callsIn_of_wp Try.func58 rfl trivial ?_ rfl
  simp only [Try.ntmps58, List.size_toArray, List.length_cons, List.length_nil, Nat.reduceAdd, Nat.reduceSub, Array.replicate_succ, Array.replicate_zero, List.push_toArray, List.append_toArray, List.nil_append, List.cons_append]
  obtain ⟨LQ, hLQ⟩ : ∃ LQ, listQ p.data.toList d.data.toList false none es = LQ := ⟨_, rfl⟩
  rw [hLQ] at hY ⊢
  have HLQ := Lib.hid hLQ
  have HE := Lib.hid hE
  have HI := Lib.hid hI
  clear hLQ hE hI
  gi_wp2
  gi_loopw [4, 15] (fun lp i wr => ∃ (k : Nat) (last : Option Bs) (pre : List IxItm), k ≤ es.length ∧ i = .int .i64 k ∧ LastAt w0.heap.size wr lp last ∧ J pre wr ∧ Below w0.heap.size w0 wr ∧ Hid (KpL w0.heap.size W wr) ∧ Hid (pre ++ listQ p.data.toList d.data.toList false last (es.drop k) = LQ)) (fun _ i _ => es.length - (intOf i).toNat)
  case atStart => exact ⟨0, none, [], Nat.zero_le _, rfl, .inl ⟨rfl, rfl⟩, h0, hb, Lib.hid (KpL.ofBelow hb.size (Below.refl _ _)), Lib.hid (by simpa using HLQ.out)⟩
  case round =>
    obtain ⟨k, last, pre, hk, rfl, hlast, hJs, hbw, HK, H⟩ := hrel
    by_cases hlt : k < es.length
    · obtain ⟨b, off, e, x, rfl, he, hd, hc00, hc10, hvs0⟩ := HE.out.at hlt
      have hc0 := below_cell hbw hc00
      have hc1 := below_cell hbw hc10
      have hvs := hvs0.block hbw
      clear hc00 hc10
      obtain ⟨Ax, cx, rfl⟩ := hvs.form
      rw [List.length_map] at hc1 hvs hvs0
      have HVS := Lib.hid hvs0
      clear hvs0
      have hIk := HI.out.keep HK.out
      have ca0 : ∀ o, (wr.alloc o).cell? ⟨Ba, 0, none⟩ = some (.string p) := fun o => below_cell ((Below.refl _ wr).alloc (Nat.le_refl _) o) (by rw [cell_of_row _ _ 0 _ _ (0, 0) hIk.a]; rfl)
      have ca1 : ∀ o, (wr.alloc o).cell? ⟨Ba, 1, none⟩ = some (.string d) := fun o => below_cell ((Below.refl _ wr).alloc (Nat.le_refl _) o) (by rw [cell_of_row _ _ 1 _ _ (0, 0) hIk.a]; rfl)
      have ca2 : ∀ o, (wr.alloc o).cell? ⟨Ba, 2, none⟩ = some (.bool false) := fun o => below_cell ((Below.refl _ wr).alloc (Nat.le_refl _) o) (by rw [cell_of_row _ _ 2 _ _ (0, 0) hIk.a]; rfl)
      have hstep := H.out
      rw [hd] at hstep
      have hsz := hbw.size
      have hn0 : w0.heap.size ≤ wr.heap.size := hsz
      have HADV := Lib.hid (show ∀ W2, Below wr.heap.size wr W2 → LastAt w0.heap.size W2 u4 last ∧ Below w0.heap.size w0 W2 ∧ KpL w0.heap.size W W2 from fun W2 h2 =>
        have hk2 := KpL.ofBelow hn0 h2
        ⟨hlast.keep hk2, hbw.trans (h2.mono hn0), HK.out.trans hk2⟩)
      clear hIk
      by_cases hpre : Lib.hasPrefix (BA e.key).data.toList p.data.toList = true
      · have hHP := Try.strings_HasPrefix (BA e.key) p
        rw [hpre] at hHP
        have hpk : p.data.toList <+: e.key := List.isPrefixOf_iff_prefix.1 (by simpa [Lib.hasPrefix] using hpre)
        obtain ⟨v1, vr, hvv⟩ : ∃ v1 vr, e.vs = v1 :: vr := by
          cases hv : e.vs with
          | nil => exact absurd hv (hok e (List.mem_of_getElem? he))
          | cons a r => exact ⟨a, r, rfl⟩
        obtain ⟨b2, off2, rfl, hcap, hcv⟩ := hvs.at (i := 0) (row := verC v1) (by rw [hvv]; rfl)
        have hmk : ∀ o, (wr.alloc o).cell? ⟨b2, off2 + 2, none⟩ = some (.bool v1.mark) := fun o => below_cell ((Below.refl _ wr).alloc (Nat.le_refl _) o) (by have h := hcv 2 (.bool v1.mark) rfl; simpa using h)
        have hlen0 : 0 < (e.vs.length : Int) := by rw [hvv]; simp
        by_cases hm : v1.mark = true
        · rw [hm] at hmk
          have hsk : skips p.data.toList false e = true := by simp [skips, firstV, hvv, hm]
          have HS := Lib.hid (show pre ++ listQ p.data.toList d.data.toList false last (es.drop (k + 1)) = LQ by rw [← hstep]; conv => rhs; unfold listQ; rw [if_pos hsk])
          have hJ2 := fun o => abides_below hJ (W := wr) hJs o
          clear hstep hd he hvs hpre hsk H hpk hvv hcv hm
          gi_wp2_with (refine ⟨trivial, ?_⟩; gi_at_call 59; refine (callsIn_wide.2 (hHP _)).mono ?_; rintro e w' ⟨rfl, rfl⟩)
          have hadv := HADV.out _ ((Below.refl _ wr).alloc (Nat.le_refl _) (.cells #[.string (BA e.key), .slice (some ⟨b2, off2, none⟩) e.vs.length cx] 47))
          go_roundw
          case rel => exact ⟨k + 1, last, pre, by omega, by go_num, hadv.1, hJ2 _, hadv.2.1, Lib.hid hadv.2.2, HS⟩
          case measure => simp [intOf]; omega
        · have hm' : v1.mark = false := by simpa using hm
          have hsk : skips p.data.toList false e = false := by
            unfold skips firstV
            rw [hvv]
            have h1 : p.data.toList.isPrefixOf e.key = true := List.isPrefixOf_iff_prefix.2 hpk
            simp [h1, hm']
          rw [hm'] at hmk
          clear hm hm'
          have hrest := hstep
          unfold listQ at hrest
          rw [if_neg (by rw [hsk]; simp)] at hrest
          clear hstep H hsk
          by_cases hd0 : d.data.toList = []
          · have hcm : commonL p.data.toList d.data.toList e.key = none := by unfold commonL; rw [if_pos hd0]
            rw [hcm] at hrest
            simp only at hrest
            replace hrest := Lib.hid hrest
            obtain rfl : d = ⟨#[]⟩ := bs_ext hd0
            have HVV := Lib.hid hvv
            have HHE := Lib.hid he
            clear hcm hd0 hvv hcv hvs hpk he hd
            gi_wp2_with (refine ⟨trivial, ?_⟩; gi_at_call 59; refine (callsIn_wide.2 (hHP _)).mono ?_; rintro e w' ⟨rfl, rfl⟩)
            obtain ⟨W1, hW1⟩ : ∃ W1, wr.alloc (.cells #[.string (BA e.key), .slice (some ⟨b2, off2, none⟩) e.vs.length cx] 47) = W1 := ⟨_, rfl⟩
            have hbx : Below wr.heap.size wr W1 := by rw [← hW1]; exact (Below.refl _ wr).alloc (Nat.le_refl _) _
            have hJ1 : J pre W1 := by rw [← hW1]; exact abides_below hJ hJs _
            have hrE0 : W1.heap[wr.heap.size]? = some (.cells #[.string (BA e.key), .slice (some ⟨b2, off2, none⟩) e.vs.length cx] 47 (0, 0)) := by rw [← hW1]; exact heap_alloc_new wr _
            rw [hW1]
            obtain ⟨hl1, hb1, hk1⟩ := HADV.out _ hbx
            have HK1 := Lib.hid hk1
            clear hW1 hbx hk1 ca0 ca1 ca2 hc0 hc1 HADV hlast hJs
            obtain ⟨wo, rfl⟩ : ∃ wo : World, wo = wr := ⟨_, rfl⟩
            have hce1 : W1.cell? ⟨wo.heap.size, 1, none⟩ = some (.slice (some ⟨b2, off2, none⟩) e.vs.length cx) := by rw [cell_of_row _ _ 1 _ _ (0, 0) hrE0]; rfl
            have hvl : e.vs.length ≤ 1000000 := (hkey e (List.mem_of_getElem? HHE.out)).2
            have HRE := Lib.hid hrE0
            have HR := hrest
            clear hrE0 hrest
            have hx0 : ixItms 0 (itemsOf false e) = [(0, ⟨e.key, false, v1, false⟩)] := by simp [itemsOf, firstV, HVV.out, ixItms]
            have HS := Lib.hid (show pre ++ (0, ⟨e.key, false, v1, false⟩) :: listQ _ _ false last (es.drop (k + 1)) = LQ by rw [← HR.out, hx0]; rfl)
            have hlen : pre.length < LQ.length := by rw [← HS.out]; simp
            have hck : W1.cell? ⟨wo.heap.size, 0, none⟩ = some (.string (BA e.key)) := by rw [cell_of_row _ _ 0 _ _ (0, 0) HRE.out]; rfl
            have hI2 := HI.out.keep HK1.out
            have hcv : W1.cell? ⟨Ba, 2, none⟩ = some (.bool false) := by rw [cell_of_row _ _ 2 _ _ (0, 0) hI2.a]; rfl
            have HCK := Lib.hid hck
            have HCV := Lib.hid hcv
            clear hx0 HR hck hI2 hcv
            gi_wp2
            gi_loopw [78] (fun i wq => i = .int .i64 0 ∧ wq = W1) (fun _ _ => 0)
            case atStart => exact ⟨rfl, rfl⟩
            case round =>
              obtain ⟨rfl, rfl⟩ := hrel
              obtain ⟨b3, off3, hA3, -, hcv3⟩ := (HVS.out.block hb1).at (i := 0) (row := verC v1) (by simp [HVV.out])
              injection hA3 with hA3
              injection hA3 with hA3 hB3 _
              subst hA3 hB3
              have d0 := hcv3 0 _ rfl
              have d1 := hcv3 1 _ rfl
              have d2 := hcv3 2 _ rfl
              have d3 := hcv3 3 _ rfl
              have d4 := hcv3 4 _ rfl
              simp only [Nat.zero_mul, Nat.add_zero] at d0 d1 d2 d3 d4
              have ck : ∀ o, (wr.alloc o).cell? ⟨wo.heap.size, 0, none⟩ = some (.string (BA e.key)) := fun o => below_cell ((Below.refl _ wr).alloc (Nat.le_refl _) o) HCK.out
              have cv : ∀ o, (wr.alloc o).cell? ⟨Ba, 2, none⟩ = some (.bool false) := fun o => below_cell ((Below.refl _ wr).alloc (Nat.le_refl _) o) HCV.out
              obtain ⟨VB, hVB⟩ : ∃ VB, Obj.cells #[.string (BA v1.id), .int .i64 v1.time, .bool v1.mark, .int .i64 v1.size, .string (BA v1.etag)] 37 (0, 0) = VB := ⟨_, rfl⟩
              have hJv := abides_below hJ hJ1 VB
              have HKv := Lib.hid (KpL.ofBelow (n₀ := w0.heap.size) hb1.size ((Below.refl _ wr).alloc (Nat.le_refl _) VB))
              have hbv := hb1.alloc hb1.size VB
              obtain ⟨fn, tmps, assign, body, hy, hR⟩ := hY pre (0, ⟨e.key, false, v1, false⟩) _ hJv hlen
              have hy2 : (Instr.yield l #[.int .i64 0, .agg #[.string (BA e.key), .bool false, .string (BA v1.id), .int .i64 v1.time, .bool v1.mark, .int .i64 v1.size, .string (BA v1.etag), .bool false]]).run Try.prog (wr.alloc VB) = .ok (.round l fn tmps assign body) (wr.alloc VB) := hy
              subst hVB
              clear hcv3 hy hJv
              gi_wp2
              refine hR.mono ?_
              rintro e2 W3 (⟨rfl, hJ4, hk4⟩ | ⟨rfl, hJx⟩)
              · have hk5 := HK1.out.trans (HKv.out.trans hk4)
                have hI3 := HI.out.keep hk5
                have cv3 : W3.cell? ⟨Ba, 2, none⟩ = some (.bool false) := by rw [cell_of_row _ _ 2 _ _ (0, 0) hI3.a]; rfl
                have HK5 := Lib.hid hk5
                have HL := Lib.hid ((hl1.keep HKv.out).keep hk4)
                have hb5 := hbv.trans hk4.1
                clear hI3 hk5 hk4 ck cv d0 d1 d2 d3 d4 hl1
                gi_wp2
                go_roundw
                case rel => exact ⟨k + 1, last, _, by omega, by go_num, HL.out, hJ4, hb5, HK5, Lib.hid (by rw [← HS.out]; simp)⟩
                case measure => simp [intOf]; omega
              · gi_wp2
                refine bodyPost_ret (results_none rfl _ _ _) rfl ?_
                exact ⟨⟨_, rfl⟩, .inr ⟨_, (by rw [← HS.out]; exact ⟨_, List.append_assoc _ [_] _⟩), hJx⟩⟩
          · have hd1 : d.toList.isEmpty = false := by rw [bs_toList]; cases h : d.data.toList with
              | nil => exact absurd h hd0
              | cons a r => rfl
            obtain ⟨m0, hm0⟩ := hMax
            have hmx : ∀ o, (wr.alloc o).cell? ⟨0, 0, none⟩ = some (.int .i64 m0) := fun o => below_cell ((Below.refl _ wr).alloc (Nat.le_refl _) o) ((hbw.cell (p := ⟨0, 0, none⟩) (cell_lt hm0)).trans hm0)
            obtain ⟨q, hq⟩ := hpk
            have hkl : p.data.toList.length ≤ e.key.length := by rw [← hq]; simp
            have hsl := fun W => slice_from (P := Try.prog) 9 Try.underlying9 .i64 (BA e.key) (p.size : Int) p.size rfl (by rw [bs_len]; simpa [ByteArray.size_mk'] using hkl) W
            obtain ⟨rest, hr1⟩ : ∃ rest : ByteArray, (⟨((BA e.key).data.toList.drop p.size).toArray⟩ : ByteArray) = rest := ⟨_, rfl⟩
            have hr2 : rest.data.toList = e.key.drop p.data.toList.length := by rw [← hr1, bs_len]
            rw [hr1] at hsl
            have hkb : rest.size < 4294967281 := by rw [bs_len, hr2, List.length_drop]; have := (hkey e (List.mem_of_getElem? he)).1; omega
            have hcut := fun W h => Try.strings_Cut rest d m0 W hkb h
            rw [hr2] at hcut
            rcases cut_head d.data.toList hd0 (e.key.drop p.data.toList.length) with ⟨hh, hc⟩ | ⟨hx, tx, hh, hc⟩
            · rw [hc] at hcut
              have hcm : commonL p.data.toList d.data.toList e.key = none := by unfold commonL; rw [if_neg hd0, hh]; rfl
              rw [hcm] at hrest
              simp only at hrest
              replace hrest := Lib.hid hrest
              have HVV := Lib.hid hvv
              have HHE := Lib.hid he
              clear hcm hc hh hr2 hr1 hq hvv hcv hvs he hd
              gi_wp2_with (refine ⟨trivial, ?_⟩; gi_at_call 59; refine (callsIn_wide.2 (hHP _)).mono ?_; rintro e w' ⟨rfl, rfl⟩)
              have hFw : ∀ f, Fence.wide.fn f := fun _ => trivial
              gi_quiet_th ((exact quiet_drew hcut (hmx _)))
              obtain ⟨W1, hW1⟩ : ∃ W1, (wr.alloc (.cells #[.string (BA e.key), .slice (some ⟨b2, off2, none⟩) e.vs.length cx] 47)).drewN nq = W1 := ⟨_, rfl⟩
              have hbx : Below wr.heap.size wr W1 := by rw [← hW1]; exact below_drewN ((Below.refl _ wr).alloc (Nat.le_refl _) _) _
              have hJ1 : J pre W1 := by rw [← hW1]; exact abides_drewN hJ (abides_below hJ hJs _) _
              have hrE0 : W1.heap[wr.heap.size]? = some (.cells #[.string (BA e.key), .slice (some ⟨b2, off2, none⟩) e.vs.length cx] 47 (0, 0)) := by rw [← hW1]; exact heap_alloc_new wr _
              rw [hW1]
              obtain ⟨hl1, hb1, hk1⟩ := HADV.out _ hbx
              have HK1 := Lib.hid hk1
              have hI1 := HI.out.keep hk1
              have ca0' : W1.cell? ⟨Ba, 0, none⟩ = some (.string p) := by rw [cell_of_row _ _ 0 _ _ (0, 0) hI1.a]; rfl
              have ca1' : W1.cell? ⟨Ba, 1, none⟩ = some (.string d) := by rw [cell_of_row _ _ 1 _ _ (0, 0) hI1.a]; rfl
              clear hW1 hbx hk1 ca0 ca1 ca2 hcut hmx hc0 hc1 hI1 HADV hlast hJs
              obtain ⟨wo, rfl⟩ : ∃ wo : World, wo = wr := ⟨_, rfl⟩
              have hce1 : W1.cell? ⟨wo.heap.size, 1, none⟩ = some (.slice (some ⟨b2, off2, none⟩) e.vs.length cx) := by rw [cell_of_row _ _ 1 _ _ (0, 0) hrE0]; rfl
              have hvl : e.vs.length ≤ 1000000 := (hkey e (List.mem_of_getElem? HHE.out)).2
              have HRE := Lib.hid hrE0
              have HR := hrest
              clear hrE0 hrest
              have hx0 : ixItms 0 (itemsOf false e) = [(0, ⟨e.key, false, v1, false⟩)] := by simp [itemsOf, firstV, HVV.out, ixItms]
              have HS := Lib.hid (show pre ++ (0, ⟨e.key, false, v1, false⟩) :: listQ _ _ false last (es.drop (k + 1)) = LQ by rw [← HR.out, hx0]; rfl)
              have hlen : pre.length < LQ.length := by rw [← HS.out]; simp
              have hck : W1.cell? ⟨wo.heap.size, 0, none⟩ = some (.string (BA e.key)) := by rw [cell_of_row _ _ 0 _ _ (0, 0) HRE.out]; rfl
              have hI2 := HI.out.keep HK1.out
              have hcv : W1.cell? ⟨Ba, 2, none⟩ = some (.bool false) := by rw [cell_of_row _ _ 2 _ _ (0, 0) hI2.a]; rfl
              have HCK := Lib.hid hck
              have HCV := Lib.hid hcv
              clear hx0 HR hck hI2 hcv
              gi_wp2
              gi_loopw [78] (fun i wq => i = .int .i64 0 ∧ wq = W1) (fun _ _ => 0)
              case atStart => exact ⟨rfl, rfl⟩
              case round =>
                obtain ⟨rfl, rfl⟩ := hrel
                obtain ⟨b3, off3, hA3, -, hcv3⟩ := (HVS.out.block hb1).at (i := 0) (row := verC v1) (by simp [HVV.out])
                injection hA3 with hA3
                injection hA3 with hA3 hB3 _
                subst hA3 hB3
                have d0 := hcv3 0 _ rfl
                have d1 := hcv3 1 _ rfl
                have d2 := hcv3 2 _ rfl
                have d3 := hcv3 3 _ rfl
                have d4 := hcv3 4 _ rfl
                simp only [Nat.zero_mul, Nat.add_zero] at d0 d1 d2 d3 d4
                have ck : ∀ o, (wr.alloc o).cell? ⟨wo.heap.size, 0, none⟩ = some (.string (BA e.key)) := fun o => below_cell ((Below.refl _ wr).alloc (Nat.le_refl _) o) HCK.out
                have cv : ∀ o, (wr.alloc o).cell? ⟨Ba, 2, none⟩ = some (.bool false) := fun o => below_cell ((Below.refl _ wr).alloc (Nat.le_refl _) o) HCV.out
                obtain ⟨VB, hVB⟩ : ∃ VB, Obj.cells #[.string (BA v1.id), .int .i64 v1.time, .bool v1.mark, .int .i64 v1.size, .string (BA v1.etag)] 37 (0, 0) = VB := ⟨_, rfl⟩
                have hJv := abides_below hJ hJ1 VB
                have HKv := Lib.hid (KpL.ofBelow (n₀ := w0.heap.size) hb1.size ((Below.refl _ wr).alloc (Nat.le_refl _) VB))
                have hbv := hb1.alloc hb1.size VB
                obtain ⟨fn, tmps, assign, body, hy, hR⟩ := hY pre (0, ⟨e.key, false, v1, false⟩) _ hJv hlen
                have hy2 : (Instr.yield l #[.int .i64 0, .agg #[.string (BA e.key), .bool false, .string (BA v1.id), .int .i64 v1.time, .bool v1.mark, .int .i64 v1.size, .string (BA v1.etag), .bool false]]).run Try.prog (wr.alloc VB) = .ok (.round l fn tmps assign body) (wr.alloc VB) := hy
                subst hVB
                clear hcv3 hy hJv
                gi_wp2
                refine hR.mono ?_
                rintro e2 W3 (⟨rfl, hJ4, hk4⟩ | ⟨rfl, hJx⟩)
                · have hk5 := HK1.out.trans (HKv.out.trans hk4)
                  have hI3 := HI.out.keep hk5
                  have cv3 : W3.cell? ⟨Ba, 2, none⟩ = some (.bool false) := by rw [cell_of_row _ _ 2 _ _ (0, 0) hI3.a]; rfl
                  have HK5 := Lib.hid hk5
                  have HL := Lib.hid ((hl1.keep HKv.out).keep hk4)
                  have hb5 := hbv.trans hk4.1
                  clear hI3 hk5 hk4 ck cv d0 d1 d2 d3 d4 hl1
                  gi_wp2
                  go_roundw
                  case rel => exact ⟨k + 1, last, _, by omega, by go_num, HL.out, hJ4, hb5, HK5, Lib.hid (by rw [← HS.out]; simp)⟩
                  case measure => simp [intOf]; omega
                · gi_wp2
                  refine bodyPost_ret (results_none rfl _ _ _) rfl ?_
                  exact ⟨⟨_, rfl⟩, .inr ⟨_, (by rw [← HS.out]; exact ⟨_, List.append_assoc _ [_] _⟩), hJx⟩⟩
            · rw [hc] at hcut
              obtain ⟨c, hcd⟩ : ∃ c, p.data.toList ++ hx ++ d.data.toList = c := ⟨_, rfl⟩
              have hcm : commonL p.data.toList d.data.toList e.key = some c := by unfold commonL; rw [if_neg hd0, hh, ← hcd]; rfl
              have hcb : (p ++ BA hx ++ d : ByteArray) = BA c := bs_ext (by rw [bs_app, bs_app]; exact hcd)
              have hxl : hx.length ≤ 1000000 := by
                obtain ⟨r, hr⟩ := headL_some _ _ _ hh
                have h1 := congrArg List.length hr
                have h2 := (hkey e (List.mem_of_getElem? he)).1
                rw [List.length_drop, List.length_append, List.length_append] at h1
                omega
              clear hcd
              rw [hcm] at hrest
              simp only at hrest
              have HR := Lib.hid hrest
              clear hcm hrest hc hh hr2 hr1 hd he hq hvv hcv hvs
              gi_wp2_with (refine ⟨trivial, ?_⟩; gi_at_call 59; refine (callsIn_wide.2 (hHP _)).mono ?_; rintro e w' ⟨rfl, rfl⟩)
              have hFw : ∀ f, Fence.wide.fn f := fun _ => trivial
              gi_quiet_th ((exact quiet_drew hcut (hmx _)))
              obtain ⟨W1, hW1⟩ : ∃ W1, (wr.alloc (.cells #[.string (BA e.key), .slice (some ⟨b2, off2, none⟩) e.vs.length cx] 47)).drewN nq = W1 := ⟨_, rfl⟩
              have hbx : Below wr.heap.size wr W1 := by rw [← hW1]; exact below_drewN ((Below.refl _ wr).alloc (Nat.le_refl _) _) _
              have hJ1 : J pre W1 := by rw [← hW1]; exact abides_drewN hJ (abides_below hJ hJs _) _
              have hrE0 : W1.heap[wr.heap.size]? = some (.cells #[.string (BA e.key), .slice (some ⟨b2, off2, none⟩) e.vs.length cx] 47 (0, 0)) := by rw [← hW1]; exact heap_alloc_new wr _
              rw [hW1]
              obtain ⟨hl1, hb1, hk1⟩ := HADV.out _ hbx
              have HK1 := Lib.hid hk1
              have hI1 := HI.out.keep hk1
              have ca0' : W1.cell? ⟨Ba, 0, none⟩ = some (.string p) := by rw [cell_of_row _ _ 0 _ _ (0, 0) hI1.a]; rfl
              have ca1' : W1.cell? ⟨Ba, 1, none⟩ = some (.string d) := by rw [cell_of_row _ _ 1 _ _ (0, 0) hI1.a]; rfl
              clear hW1 hbx hk1 ca0 ca1 ca2 hcut hmx hc0 hc1 hI1 HADV hlast hJs
              clear hrE0
              have hxb : (BA hx).size ≤ 1000000 := by rw [ByteArray.size_mk']; simpa using hxl
              rcases hl1 with ⟨rfl, rfl⟩ | ⟨bl, cl, rfl, rfl, hnb, hlrow⟩
              · have HS := Lib.hid (show pre ++ (0, comItm c) :: listQ p.data.toList d.data.toList false (some c) (es.drop (k + 1)) = LQ by have h := HR.out; rw [if_neg (by first | (simp; done) | (simp; exact hcc))] at h; exact h)
                have hlen : pre.length < LQ.length := by rw [← HS.out]; simp
                have hJ2 := fun o m => abides_drewN hJ (abides_below hJ (W := W1) hJ1 o) m
                have HJ2 := Lib.hid hJ2
                have hK2 := fun (o : Obj) (m : Nat) => KpL.ofBelow hb1.size (below_drewN ((Below.refl _ W1).alloc (Nat.le_refl _) o) m)
                have HK2 := Lib.hid hK2
                clear hJ2 hK2 HR
                gi_wp2
                gi_quiet_th ((fail))
                obtain ⟨W2, hW2⟩ : ∃ W2, (W1.alloc (.cells #[.string (BA c)] 9)).drewN nq = W2 := ⟨_, rfl⟩
                rw [hW2]
                have hJ3 : J pre W2 := by rw [← hW2]; exact HJ2.out _ _
                have hK3 : KpL w0.heap.size W1 W2 := by rw [← hW2]; exact HK2.out _ _
                have hr3 : W2.heap[W1.heap.size]? = some (.cells #[.string (BA c)] 9 (0, 0)) := by rw [← hW2]; exact heap_alloc_new W1 _
                obtain ⟨gB, hgB⟩ : ∃ gB, W1.heap.size = gB := ⟨_, rfl⟩
                have hgn : w0.heap.size ≤ gB := by rw [← hgB]; exact hb1.size
                rw [hgB] at hr3 ⊢
                have hcx : W2.cell? ⟨gB, 0, none⟩ = some (.string (BA c)) := by rw [cell_of_row _ _ 0 _ _ (0, 0) hr3]; rfl
                have HK3 := Lib.hid hK3
                have HR3 := Lib.hid hr3
                obtain ⟨fn, tmps, assign, body, hy, hR⟩ := hY pre (0, comItm c) W2 hJ3 hlen
                have hy2 : (Instr.yield l #[.int .i64 0, .agg #[.string (BA c), .bool true, .string ⟨#[]⟩, .int .i64 0, .bool false, .int .i64 0, .string ⟨#[]⟩, .bool false]]).run Try.prog W2 = .ok (.round l fn tmps assign body) W2 := hy
                clear hW2 hgB hK3 hr3 HK2 HJ2 hy
                gi_wp2
                refine hR.mono ?_
                rintro e W3 (⟨rfl, hJ4, hk4⟩ | ⟨rfl, hJx⟩)
                · have hb4 := hk4.1
                  have hb3 := HK3.out.1
                  gi_wp2
                  go_roundw
                  case rel => exact ⟨k + 1, some c, pre ++ [(0, comItm c)], by omega, by go_num, LastAt.keep (.inr ⟨gB, c, rfl, rfl, hgn, HR3.out⟩) hk4, hJ4, (hb1.trans hb3).trans hb4, Lib.hid ((HK1.out.trans HK3.out).trans hk4), Lib.hid (by rw [← HS.out]; simp)⟩
                  case measure => simp [intOf]; omega
                · gi_wp2
                  refine bodyPost_ret (results_none rfl _ _ _) rfl ?_
                  exact ⟨⟨_, rfl⟩, .inr ⟨pre ++ [(0, comItm c)], ⟨listQ p.data.toList d.data.toList false (some c) (es.drop (k + 1)), by rw [← HS.out]; simp⟩, hJx⟩⟩
              · have hlc : ∀ o, (W1.alloc o).cell? ⟨bl, 0, none⟩ = some (.string (BA cl)) := fun o => below_cell ((Below.refl _ W1).alloc (Nat.le_refl _) o) (by rw [cell_of_row _ _ 0 _ _ (0, 0) hlrow]; rfl)
                by_cases hcc : cl = c
                · subst hcc
                  have HS := Lib.hid (show pre ++ listQ p.data.toList d.data.toList false (some cl) (es.drop (k + 1)) = LQ by have h := HR.out; rw [if_pos rfl] at h; exact h)
                  have hJ2 := fun o m => abides_drewN hJ (abides_below hJ (W := W1) hJ1 o) m
                  have hb2' := fun (o : Obj) (m : Nat) => below_drewN (hb1.alloc hb1.size o) m
                  have hK2 := fun (o : Obj) (m : Nat) => KpL.ofBelow hb1.size (below_drewN ((Below.refl _ W1).alloc (Nat.le_refl _) o) m)
                  have HK2 := Lib.hid hK2
                  clear hK2
                  gi_wp2
                  gi_quiet_th ((fail))
                  gi_wp2
                  go_roundw
                  case rel => exact ⟨k + 1, some cl, pre, by omega, by go_num, LastAt.keep (.inr ⟨bl, cl, rfl, rfl, hnb, hlrow⟩) (HK2.out _ _), hJ2 _ _, hb2' _ _, Lib.hid (HK1.out.trans (HK2.out _ _)), HS⟩
                  case measure => simp [intOf]; omega
                · have hne1 : ((BA cl).toList == (BA c).toList) = false := by rw [ba_toList, ba_toList]; simp [hcc]
                  have hne2 : (cl == c) = false := by simp [hcc]
                  have HS := Lib.hid (show pre ++ (0, comItm c) :: listQ p.data.toList d.data.toList false (some c) (es.drop (k + 1)) = LQ by have h := HR.out; rw [if_neg (by first | (simp; done) | (simp; exact hcc))] at h; exact h)
                  have hlen : pre.length < LQ.length := by rw [← HS.out]; simp
                  have hJ2 := fun o m => abides_drewN hJ (abides_below hJ (W := W1) hJ1 o) m
                  have HJ2 := Lib.hid hJ2
                  have hK2 := fun (o : Obj) (m : Nat) => KpL.ofBelow hb1.size (below_drewN ((Below.refl _ W1).alloc (Nat.le_refl _) o) m)
                  have HK2 := Lib.hid hK2
                  clear hJ2 hK2 HR
                  gi_wp2
                  gi_quiet_th ((fail))
                  obtain ⟨W2, hW2⟩ : ∃ W2, (W1.alloc (.cells #[.string (BA c)] 9)).drewN nq = W2 := ⟨_, rfl⟩
                  rw [hW2]
                  have hJ3 : J pre W2 := by rw [← hW2]; exact HJ2.out _ _
                  have hK3 : KpL w0.heap.size W1 W2 := by rw [← hW2]; exact HK2.out _ _
                  have hr3 : W2.heap[W1.heap.size]? = some (.cells #[.string (BA c)] 9 (0, 0)) := by rw [← hW2]; exact heap_alloc_new W1 _
                  obtain ⟨gB, hgB⟩ : ∃ gB, W1.heap.size = gB := ⟨_, rfl⟩
                  have hgn : w0.heap.size ≤ gB := by rw [← hgB]; exact hb1.size
                  rw [hgB] at hr3 ⊢
                  have hcx : W2.cell? ⟨gB, 0, none⟩ = some (.string (BA c)) := by rw [cell_of_row _ _ 0 _ _ (0, 0) hr3]; rfl
                  have HK3 := Lib.hid hK3
                  have HR3 := Lib.hid hr3
                  obtain ⟨fn, tmps, assign, body, hy, hR⟩ := hY pre (0, comItm c) W2 hJ3 hlen
                  have hy2 : (Instr.yield l #[.int .i64 0, .agg #[.string (BA c), .bool true, .string ⟨#[]⟩, .int .i64 0, .bool false, .int .i64 0, .string ⟨#[]⟩, .bool false]]).run Try.prog W2 = .ok (.round l fn tmps assign body) W2 := hy
                  clear hW2 hgB hK3 hr3 HK2 HJ2 hy
                  gi_wp2
                  refine hR.mono ?_
                  rintro e W3 (⟨rfl, hJ4, hk4⟩ | ⟨rfl, hJx⟩)
                  · have hb4 := hk4.1
                    have hb3 := HK3.out.1
                    gi_wp2
                    go_roundw
                    case rel => exact ⟨k + 1, some c, pre ++ [(0, comItm c)], by omega, by go_num, LastAt.keep (.inr ⟨gB, c, rfl, rfl, hgn, HR3.out⟩) hk4, hJ4, (hb1.trans hb3).trans hb4, Lib.hid ((HK1.out.trans HK3.out).trans hk4), Lib.hid (by rw [← HS.out]; simp)⟩
                    case measure => simp [intOf]; omega
                  · gi_wp2
                    refine bodyPost_ret (results_none rfl _ _ _) rfl ?_
                    exact ⟨⟨_, rfl⟩, .inr ⟨pre ++ [(0, comItm c)], ⟨listQ p.data.toList d.data.toList false (some c) (es.drop (k + 1)), by rw [← HS.out]; simp⟩, hJx⟩⟩
      · have hpre' : Lib.hasPrefix (BA e.key).data.toList p.data.toList = false := by simpa using hpre
        have hHP := Try.strings_HasPrefix (BA e.key) p
        rw [hpre'] at hHP
        have hsk : skips p.data.toList false e = true := by
          unfold skips
          simp only [Bool.or_eq_true, Bool.not_eq_true']
          left
          have h := hpre'
          simp [Lib.hasPrefix] at h
          simpa using h
        have HS := Lib.hid (show pre ++ listQ p.data.toList d.data.toList false last (es.drop (k + 1)) = LQ by rw [← hstep]; conv => rhs; unfold listQ; rw [if_pos hsk])
        have hJ2 := fun o => abides_below hJ (W := wr) hJs o
        clear hstep hd he hvs hpre hpre' hsk H
        gi_wp2_with (refine ⟨trivial, ?_⟩; gi_at_call 59; refine (callsIn_wide.2 (hHP _)).mono ?_; rintro e w' ⟨rfl, rfl⟩)
        have hadv := HADV.out _ ((Below.refl _ wr).alloc (Nat.le_refl _) (.cells #[.string (BA e.key), .slice Ax e.vs.length cx] 47))
        go_roundw
        case rel => exact ⟨k + 1, last, pre, by omega, by go_num, hadv.1, hJ2 _, hadv.2.1, Lib.hid hadv.2.2, HS⟩
        case measure => simp [intOf]; omega
    · obtain rfl : k = es.length := by omega
      have hfin : pre = LQ := by have h := H.out; rw [List.drop_of_length_le (Nat.le_refl _)] at h; simpa [listQ] using h
      have HF := Lib.hid hfin
      clear hfin
      gi_wp2
      go_end0
      exact ⟨⟨_, rfl⟩, .inl ⟨pre, HF.out, hJs⟩⟩
end Go.Proofs.Ytdaokkajbooiaaa
end
section
/- Listing: the iterator's walk (of versions: true; of keys: false). Printed by wip/gen_it20.py. -/
namespace Go.Proofs.Ytdaokkajbooiaaa
open Go.RowKit Go.Shelf
set_option linter.unusedVariables false
set_option linter.unusedSimpArgs false
attribute [local go_sem] Oper.semAt_some
set_option maxRecDepth 100000 in
set_option maxHeartbeats 16000000 in
theorem listedT_in (n : Nat) (hn : 2 ≤ n) (l Bl Ba : Nat) (w0 : World) (v : Value) (es : List Ent) (p d : ByteArray) (hE : EntsAt w0 v es) (hel : es.length ≤ 1000000) (hok : ∀ e ∈ es, e.vs ≠ []) (hkey : ∀ e ∈ es, e.key.length ≤ 1000000 ∧ e.vs.length ≤ 1000000) (hMax : ∃ m, w0.cell? ⟨0, 0, none⟩ = some (.int .i64 m)) (hps : p.size ≤ 1000000) (hds : d.size ≤ 1000000) (J Jx : List IxItm → World → Prop) (W : World)
    (hJ : AbidesFrom W.heap.size J)
    (hY : ∀ pre x W1, J pre W1 → pre.length < (listQ p.data.toList d.data.toList true none es).length → YieldAt Fence.wide (n - 1) Try.prog l (encI x) W1 fun e W' =>
      (e = .returned (.bool true) ∧ J (pre ++ [x]) W' ∧ KpL w0.heap.size W1 W') ∨ (e = .returned (.bool false) ∧ Jx (pre ++ [x]) W'))
    (hb : Below w0.heap.size w0 W) (hI : ItAt w0.heap.size Bl Ba v es p d true W) (h0 : J [] W) :
    CallsIn Fence.wide n Try.prog 58 #[.func (.yield l) #[] #[], .pointer (some ⟨Bl, 0, none⟩), .pointer (some ⟨Ba, 0, none⟩)] W fun e W' => (∃ v, e = .returned v) ∧
      ((∃ ys, ys = listQ p.data.toList d.data.toList true none es ∧ J ys W') ∨ (∃ pre, pre <+: listQ p.data.toList d.data.toList true none es ∧ Jx pre W')) := by
  have h1n : 1 ≤ n := by omega
  have h2n : 1 ≤ n - 1 := by omega
  obtain ⟨A0, c0, rfl⟩ := hE.form
  have hcl : W.cell? ⟨Bl, 0, none⟩ = some (.slice A0 es.length c0) := by rw [cell_of_row _ _ 0 _ _ (0, 0) hI.l]; rfl
  refine callsIn_of_wp Try.func58 rfl trivial ?_ rfl
  simp only [Try.ntmps58, List.size_toArray, List.length_cons, List.length_nil, Nat.reduceAdd, Nat.reduceSub, Array.replicate_succ, Array.replicate_zero, List.push_toArray, List.append_toArray, List.nil_append, List.cons_append]
  obtain ⟨LQ, hLQ⟩ : ∃ LQ, listQ p.data.toList d.data.toList true none es = LQ := ⟨_, rfl⟩
  rw [hLQ] at hY ⊢
  have HLQ := Lib.hid hLQ
  have HE := Lib.hid hE
  have HI := Lib.hid hI
  clear hLQ hE hI
  gi_wp2
  gi_loopw [4, 15] (fun lp i wr => ∃ (k : Nat) (last : Option Bs) (pre : List IxItm), k ≤ es.length ∧ i = .int .i64 k ∧ LastAt w0.heap.size wr lp last ∧ J pre wr ∧ Below w0.heap.size w0 wr ∧ Hid (KpL w0.heap.size W wr) ∧ Hid (pre ++ listQ p.data.toList d.data.toList true last (es.drop k) = LQ)) (fun _ i _ => es.length - (intOf i).toNat)
  case atStart => exact ⟨0, none, [], Nat.zero_le _, rfl, .inl ⟨rfl, rfl⟩, h0, hb, Lib.hid (KpL.ofBelow hb.size (Below.refl _ _)), Lib.hid (by simpa using HLQ.out)⟩
  case round =>
    obtain ⟨k, last, pre, hk, rfl, hlast, hJs, hbw, HK, H⟩ := hrel
    by_cases hlt : k < es.length
    · obtain ⟨b, off, e, x, rfl, he, hd, hc00, hc10, hvs0⟩ := HE.out.at hlt
      have hc0 := below_cell hbw hc00
      have hc1 := below_cell hbw hc10
      have hvs := hvs0.block hbw
      clear hc00 hc10
      obtain ⟨Ax, cx, rfl⟩ := hvs.form
      rw [List.length_map] at hc1 hvs hvs0
      have HVS := Lib.hid hvs0
      clear hvs0
      have hIk := HI.out.keep HK.out
      have ca0 : ∀ o, (wr.alloc o).cell? ⟨Ba, 0, none⟩ = some (.string p) := fun o => below_cell ((Below.refl _ wr).alloc (Nat.le_refl _) o) (by rw [cell_of_row _ _ 0 _ _ (0, 0) hIk.a]; rfl)
      have ca1 : ∀ o, (wr.alloc o).cell? ⟨Ba, 1, none⟩ = some (.string d) := fun o => below_cell ((Below.refl _ wr).alloc (Nat.le_refl _) o) (by rw [cell_of_row _ _ 1 _ _ (0, 0) hIk.a]; rfl)
      have ca2 : ∀ o, (wr.alloc o).cell? ⟨Ba, 2, none⟩ = some (.bool true) := fun o => below_cell ((Below.refl _ wr).alloc (Nat.le_refl _) o) (by rw [cell_of_row _ _ 2 _ _ (0, 0) hIk.a]; rfl)
      have hstep := H.out
      rw [hd] at hstep
      have hsz := hbw.size
      have hn0 : w0.heap.size ≤ wr.heap.size := hsz
      have HADV := Lib.hid (show ∀ W2, Below wr.heap.size wr W2 → LastAt w0.heap.size W2 u4 last ∧ Below w0.heap.size w0 W2 ∧ KpL w0.heap.size W W2 from fun W2 h2 =>
        have hk2 := KpL.ofBelow hn0 h2
        ⟨hlast.keep hk2, hbw.trans (h2.mono hn0), HK.out.trans hk2⟩)
      clear hIk
      by_cases hpre : Lib.hasPrefix (BA e.key).data.toList p.data.toList = true
      · have hHP := Try.strings_HasPrefix (BA e.key) p
        rw [hpre] at hHP
        have hpk : p.data.toList <+: e.key := List.isPrefixOf_iff_prefix.1 (by simpa [Lib.hasPrefix] using hpre)
        obtain ⟨v1, vr, hvv⟩ : ∃ v1 vr, e.vs = v1 :: vr := by
          cases hv : e.vs with
          | nil => exact absurd hv (hok e (List.mem_of_getElem? he))
          | cons a r => exact ⟨a, r, rfl⟩
        obtain ⟨b2, off2, rfl, hcap, hcv⟩ := hvs.at (i := 0) (row := verC v1) (by rw [hvv]; rfl)
        have hmk : ∀ o, (wr.alloc o).cell? ⟨b2, off2 + 2, none⟩ = some (.bool v1.mark) := fun o => below_cell ((Below.refl _ wr).alloc (Nat.le_refl _) o) (by have h := hcv 2 (.bool v1.mark) rfl; simpa using h)
        have hlen0 : 0 < (e.vs.length : Int) := by rw [hvv]; simp
        have hsk : skips p.data.toList true e = false := by
          unfold skips firstV
          rw [hvv]
          have h1 : p.data.toList.isPrefixOf e.key = true := List.isPrefixOf_iff_prefix.2 hpk
          simp [h1]
        clear hmk
        have hrest := hstep
        unfold listQ at hrest
        rw [if_neg (by rw [hsk]; simp)] at hrest
        clear hstep H hsk
        by_cases hd0 : d.data.toList = []
        · have hcm : commonL p.data.toList d.data.toList e.key = none := by unfold commonL; rw [if_pos hd0]
          rw [hcm] at hrest
          simp only at hrest
          replace hrest := Lib.hid hrest
          obtain rfl : d = ⟨#[]⟩ := bs_ext hd0
          have HVV := Lib.hid hvv
          have HHE := Lib.hid he
          clear hcm hd0 hvv hcv hvs hpk he hd
          gi_wp2_with (refine ⟨trivial, ?_⟩; gi_at_call 59; refine (callsIn_wide.2 (hHP _)).mono ?_; rintro e w' ⟨rfl, rfl⟩)
          obtain ⟨W1, hW1⟩ : ∃ W1, wr.alloc (.cells #[.string (BA e.key), .slice (some ⟨b2, off2, none⟩) e.vs.length cx] 47) = W1 := ⟨_, rfl⟩
          have hbx : Below wr.heap.size wr W1 := by rw [← hW1]; exact (Below.refl _ wr).alloc (Nat.le_refl _) _
          have hJ1 : J pre W1 := by rw [← hW1]; exact abides_below hJ hJs _
          have hrE0 : W1.heap[wr.heap.size]? = some (.cells #[.string (BA e.key), .slice (some ⟨b2, off2, none⟩) e.vs.length cx] 47 (0, 0)) := by rw [← hW1]; exact heap_alloc_new wr _
          rw [hW1]
          obtain ⟨hl1, hb1, hk1⟩ := HADV.out _ hbx
          have HK1 := Lib.hid hk1
          clear hW1 hbx hk1 ca0 ca1 ca2 hc0 hc1 HADV hlast hJs
          obtain ⟨wo, rfl⟩ : ∃ wo : World, wo = wr := ⟨_, rfl⟩
          have hce1 : W1.cell? ⟨wo.heap.size, 1, none⟩ = some (.slice (some ⟨b2, off2, none⟩) e.vs.length cx) := by rw [cell_of_row _ _ 1 _ _ (0, 0) hrE0]; rfl
          have hvl : e.vs.length ≤ 1000000 := (hkey e (List.mem_of_getElem? HHE.out)).2
          have HRE := Lib.hid hrE0
          have HR := hrest
          clear hrE0 hrest
          obtain ⟨IL, hIL⟩ : ∃ IL, ixItms 0 (itemsOf true e) = IL := ⟨_, rfl⟩
          have HIL := Lib.hid hIL
          have hill : IL.length = e.vs.length := by rw [← hIL, ixItms_len]; simp [itemsOf, versItms_len]
          have HILL := Lib.hid hill
          rw [hIL] at HR
          clear hIL hill
          gi_wp2
          gi_loopw [78] (fun i wq => ∃ j : Nat, j ≤ e.vs.length ∧ i = .int .i64 j ∧ J (pre ++ IL.take j) wq ∧ Hid (KpL w0.heap.size W1 wq)) (fun i _ => e.vs.length - (intOf i).toNat)
          case atStart => exact ⟨0, by omega, rfl, by simpa using hJ1, Lib.hid (KpL.ofBelow hb1.size (Below.refl _ _))⟩
          case round =>
            obtain ⟨j, hj, rfl, hJq, HKq⟩ := hrel
            have hbq := hb1.trans HKq.out.1
            have HADQ := Lib.hid (show LastAt w0.heap.size wr u4 last ∧ KpL w0.heap.size W wr from ⟨hl1.keep HKq.out, HK1.out.trans HKq.out⟩)
            by_cases hjl : j < e.vs.length
            · obtain ⟨vj, hvj, -⟩ := next_elem e.vs j hjl
              obtain ⟨b3, off3, hA3, -, hcv3⟩ := (HVS.out.block hbq).at (i := j) (row := verC vj) (by simp [hvj])
              injection hA3 with hA3
              injection hA3 with hA3 hB3 _
              subst hA3 hB3
              have d0 := hcv3 0 _ rfl
              have d1 := hcv3 1 _ rfl
              have d2 := hcv3 2 _ rfl
              have d3 := hcv3 3 _ rfl
              have d4 := hcv3 4 _ rfl
              simp only [Nat.add_zero] at d0
              have hE2 := HKq.out.2 _ _ _ _ hn0 HRE.out (by decide) (by decide) (by decide)
              have ck : ∀ o, (wr.alloc o).cell? ⟨wo.heap.size, 0, none⟩ = some (.string (BA e.key)) := fun o => below_cell ((Below.refl _ wr).alloc (Nat.le_refl _) o) (by rw [cell_of_row _ _ 0 _ _ (0, 0) hE2]; rfl)
              have hI2 := HI.out.keep HADQ.out.2
              have cv : ∀ o, (wr.alloc o).cell? ⟨Ba, 2, none⟩ = some (.bool true) := fun o => below_cell ((Below.refl _ wr).alloc (Nat.le_refl _) o) (by rw [cell_of_row _ _ 2 _ _ (0, 0) hI2.a]; rfl)
              obtain ⟨L, hL⟩ : ∃ L, decide (j = 0) = L := ⟨_, rfl⟩
              have hx : IL[j]? = some (j, ⟨e.key, false, vj, L⟩) := by
                rw [← HIL.out, ← hL]
                have h1 := versItms_at e.key true e.vs j vj hvj
                have h2 := ixItms_at 0 (itemsOf true e) j _ (by simpa [itemsOf] using h1)
                simpa using h2
              have hlen : (pre ++ IL.take j).length < LQ.length := by
                have h1 := (List.getElem?_eq_some_iff.1 hx).1
                rw [← HR.out]
                simp
                omega
              obtain ⟨VB, hVB⟩ : ∃ VB, Obj.cells #[.string (BA vj.id), .int .i64 vj.time, .bool vj.mark, .int .i64 vj.size, .string (BA vj.etag)] 37 (0, 0) = VB := ⟨_, rfl⟩
              have hJv := abides_below hJ hJq VB
              have HKv := Lib.hid (KpL.ofBelow (n₀ := w0.heap.size) hbq.size ((Below.refl _ wr).alloc (Nat.le_refl _) VB))
              have hbv := hbq.alloc hbq.size VB
              obtain ⟨fn, tmps, assign, body, hy, hR⟩ := hY (pre ++ IL.take j) (j, ⟨e.key, false, vj, L⟩) _ hJv hlen
              have hy2 : (Instr.yield l #[.int .i64 (j : Int), .agg #[.string (BA e.key), .bool false, .string (BA vj.id), .int .i64 vj.time, .bool vj.mark, .int .i64 vj.size, .string (BA vj.etag), .bool L]]).run Try.prog (wr.alloc VB) = .ok (.round l fn tmps assign body) (wr.alloc VB) := hy
              have HNX := Lib.hid (take_next IL j _ hx)
              subst hVB
              clear hcv3 hvj hE2 hI2 hJv hy hx
              have hjc : (((j : Int) == 0) = true ∧ decide ((j : Int) = 0) = true ∧ decide (j = 0) = true ∧ L = true) ∨ (((j : Int) == 0) = false ∧ decide ((j : Int) = 0) = false ∧ decide (j = 0) = false ∧ L = false) := by
                rw [← hL]
                by_cases h : j = 0
                · exact .inl ⟨by simp; omega, by simp; omega, by simp [h], by simp [h]⟩
                · exact .inr ⟨by simp; omega, by simp; omega, by simp [h], by simp [h]⟩
              clear hL
              rcases hjc with ⟨hj1, hj2, hj3, rfl⟩ | ⟨hj1, hj2, hj3, rfl⟩
              · gi_wp2
                refine hR.mono ?_
                rintro e2 W3 (⟨rfl, hJ4, hk4⟩ | ⟨rfl, hJx⟩)
                · have hk5 := HKq.out.trans (HKv.out.trans hk4)
                  have hI3 := HI.out.keep (HK1.out.trans hk5)
                  have cv3 : W3.cell? ⟨Ba, 2, none⟩ = some (.bool true) := by rw [cell_of_row _ _ 2 _ _ (0, 0) hI3.a]; rfl
                  have HK5 := Lib.hid hk5
                  clear hI3 hk5 hk4 ck cv d0 d1 d2 d3 d4
                  gi_wp2
                  go_roundw
                  case rel => exact ⟨j + 1, by omega, by go_num, by rw [HNX.out, ← List.append_assoc]; exact hJ4, HK5⟩
                  case measure => simp [intOf]; omega
                · gi_wp2
                  refine bodyPost_ret (results_none rfl _ _ _) rfl ?_
                  refine ⟨⟨_, rfl⟩, .inr ⟨_, ?_, hJx⟩⟩
                  rw [List.append_assoc, ← HNX.out, ← HR.out]
                  exact List.prefix_append_right_inj pre |>.2 ((List.take_prefix _ _).trans (List.prefix_append _ _))
              · gi_wp2
                refine hR.mono ?_
                rintro e2 W3 (⟨rfl, hJ4, hk4⟩ | ⟨rfl, hJx⟩)
                · have hk5 := HKq.out.trans (HKv.out.trans hk4)
                  have hI3 := HI.out.keep (HK1.out.trans hk5)
                  have cv3 : W3.cell? ⟨Ba, 2, none⟩ = some (.bool true) := by rw [cell_of_row _ _ 2 _ _ (0, 0) hI3.a]; rfl
                  have HK5 := Lib.hid hk5
                  clear hI3 hk5 hk4 ck cv d0 d1 d2 d3 d4
                  gi_wp2
                  go_roundw
                  case rel => exact ⟨j + 1, by omega, by go_num, by rw [HNX.out, ← List.append_assoc]; exact hJ4, HK5⟩
                  case measure => simp [intOf]; omega
                · gi_wp2
                  refine bodyPost_ret (results_none rfl _ _ _) rfl ?_
                  refine ⟨⟨_, rfl⟩, .inr ⟨_, ?_, hJx⟩⟩
                  rw [List.append_assoc, ← HNX.out, ← HR.out]
                  exact List.prefix_append_right_inj pre |>.2 ((List.take_prefix _ _).trans (List.prefix_append _ _))
            · obtain rfl : j = e.vs.length := by omega
              have htk : IL.take e.vs.length = IL := List.take_of_length_le (by rw [HILL.out]; exact Nat.le_refl _)
              rw [htk] at hJq
              clear htk
              gi_wp2
              go_roundw
              case rel => exact ⟨k + 1, last, _, by omega, by go_num, HADQ.out.1, hJq, hbq, Lib.hid HADQ.out.2, Lib.hid (by rw [← HR.out]; simp)⟩
              case measure => simp [intOf]; omega
        · have hd1 : d.toList.isEmpty = false := by rw [bs_toList]; cases h : d.data.toList with
            | nil => exact absurd h hd0
            | cons a r => rfl
          obtain ⟨m0, hm0⟩ := hMax
          have hmx : ∀ o, (wr.alloc o).cell? ⟨0, 0, none⟩ = some (.int .i64 m0) := fun o => below_cell ((Below.refl _ wr).alloc (Nat.le_refl _) o) ((hbw.cell (p := ⟨0, 0, none⟩) (cell_lt hm0)).trans hm0)
          obtain ⟨q, hq⟩ := hpk
          have hkl : p.data.toList.length ≤ e.key.length := by rw [← hq]; simp
          have hsl := fun W => slice_from (P := Try.prog) 9 Try.underlying9 .i64 (BA e.key) (p.size : Int) p.size rfl (by rw [bs_len]; simpa [ByteArray.size_mk'] using hkl) W
          obtain ⟨rest, hr1⟩ : ∃ rest : ByteArray, (⟨((BA e.key).data.toList.drop p.size).toArray⟩ : ByteArray) = rest := ⟨_, rfl⟩
          have hr2 : rest.data.toList = e.key.drop p.data.toList.length := by rw [← hr1, bs_len]
          rw [hr1] at hsl
          have hkb : rest.size < 4294967281 := by rw [bs_len, hr2, List.length_drop]; have := (hkey e (List.mem_of_getElem? he)).1; omega
          have hcut := fun W h => Try.strings_Cut rest d m0 W hkb h
          rw [hr2] at hcut
          rcases cut_head d.data.toList hd0 (e.key.drop p.data.toList.length) with ⟨hh, hc⟩ | ⟨hx, tx, hh, hc⟩
          · rw [hc] at hcut
            have hcm : commonL p.data.toList d.data.toList e.key = none := by unfold commonL; rw [if_neg hd0, hh]; rfl
            rw [hcm] at hrest
            simp only at hrest
            replace hrest := Lib.hid hrest
            have HVV := Lib.hid hvv
            have HHE := Lib.hid he
            clear hcm hc hh hr2 hr1 hq hvv hcv hvs he hd
            gi_wp2_with (refine ⟨trivial, ?_⟩; gi_at_call 59; refine (callsIn_wide.2 (hHP _)).mono ?_; rintro e w' ⟨rfl, rfl⟩)
            have hFw : ∀ f, Fence.wide.fn f := fun _ => trivial
            gi_quiet_th ((exact quiet_drew hcut (hmx _)))
            obtain ⟨W1, hW1⟩ : ∃ W1, (wr.alloc (.cells #[.string (BA e.key), .slice (some ⟨b2, off2, none⟩) e.vs.length cx] 47)).drewN nq = W1 := ⟨_, rfl⟩
            have hbx : Below wr.heap.size wr W1 := by rw [← hW1]; exact below_drewN ((Below.refl _ wr).alloc (Nat.le_refl _) _) _
            have hJ1 : J pre W1 := by rw [← hW1]; exact abides_drewN hJ (abides_below hJ hJs _) _
            have hrE0 : W1.heap[wr.heap.size]? = some (.cells #[.string (BA e.key), .slice (some ⟨b2, off2, none⟩) e.vs.length cx] 47 (0, 0)) := by rw [← hW1]; exact heap_alloc_new wr _
            rw [hW1]
            obtain ⟨hl1, hb1, hk1⟩ := HADV.out _ hbx
            have HK1 := Lib.hid hk1
            have hI1 := HI.out.keep hk1
            have ca0' : W1.cell? ⟨Ba, 0, none⟩ = some (.string p) := by rw [cell_of_row _ _ 0 _ _ (0, 0) hI1.a]; rfl
            have ca1' : W1.cell? ⟨Ba, 1, none⟩ = some (.string d) := by rw [cell_of_row _ _ 1 _ _ (0, 0) hI1.a]; rfl
            clear hW1 hbx hk1 ca0 ca1 ca2 hcut hmx hc0 hc1 hI1 HADV hlast hJs
            obtain ⟨wo, rfl⟩ : ∃ wo : World, wo = wr := ⟨_, rfl⟩
            have hce1 : W1.cell? ⟨wo.heap.size, 1, none⟩ = some (.slice (some ⟨b2, off2, none⟩) e.vs.length cx) := by rw [cell_of_row _ _ 1 _ _ (0, 0) hrE0]; rfl
            have hvl : e.vs.length ≤ 1000000 := (hkey e (List.mem_of_getElem? HHE.out)).2
            have HRE := Lib.hid hrE0
            have HR := hrest
            clear hrE0 hrest
            obtain ⟨IL, hIL⟩ : ∃ IL, ixItms 0 (itemsOf true e) = IL := ⟨_, rfl⟩
            have HIL := Lib.hid hIL
            have hill : IL.length = e.vs.length := by rw [← hIL, ixItms_len]; simp [itemsOf, versItms_len]
            have HILL := Lib.hid hill
            rw [hIL] at HR
            clear hIL hill
            gi_wp2
            gi_loopw [78] (fun i wq => ∃ j : Nat, j ≤ e.vs.length ∧ i = .int .i64 j ∧ J (pre ++ IL.take j) wq ∧ Hid (KpL w0.heap.size W1 wq)) (fun i _ => e.vs.length - (intOf i).toNat)
            case atStart => exact ⟨0, by omega, rfl, by simpa using hJ1, Lib.hid (KpL.ofBelow hb1.size (Below.refl _ _))⟩
            case round =>
              obtain ⟨j, hj, rfl, hJq, HKq⟩ := hrel
              have hbq := hb1.trans HKq.out.1
              have HADQ := Lib.hid (show LastAt w0.heap.size wr u4 last ∧ KpL w0.heap.size W wr from ⟨hl1.keep HKq.out, HK1.out.trans HKq.out⟩)
              by_cases hjl : j < e.vs.length
              · obtain ⟨vj, hvj, -⟩ := next_elem e.vs j hjl
                obtain ⟨b3, off3, hA3, -, hcv3⟩ := (HVS.out.block hbq).at (i := j) (row := verC vj) (by simp [hvj])
                injection hA3 with hA3
                injection hA3 with hA3 hB3 _
                subst hA3 hB3
                have d0 := hcv3 0 _ rfl
                have d1 := hcv3 1 _ rfl
                have d2 := hcv3 2 _ rfl
                have d3 := hcv3 3 _ rfl
                have d4 := hcv3 4 _ rfl
                simp only [Nat.add_zero] at d0
                have hE2 := HKq.out.2 _ _ _ _ hn0 HRE.out (by decide) (by decide) (by decide)
                have ck : ∀ o, (wr.alloc o).cell? ⟨wo.heap.size, 0, none⟩ = some (.string (BA e.key)) := fun o => below_cell ((Below.refl _ wr).alloc (Nat.le_refl _) o) (by rw [cell_of_row _ _ 0 _ _ (0, 0) hE2]; rfl)
                have hI2 := HI.out.keep HADQ.out.2
                have cv : ∀ o, (wr.alloc o).cell? ⟨Ba, 2, none⟩ = some (.bool true) := fun o => below_cell ((Below.refl _ wr).alloc (Nat.le_refl _) o) (by rw [cell_of_row _ _ 2 _ _ (0, 0) hI2.a]; rfl)
                obtain ⟨L, hL⟩ : ∃ L, decide (j = 0) = L := ⟨_, rfl⟩
                have hx : IL[j]? = some (j, ⟨e.key, false, vj, L⟩) := by
                  rw [← HIL.out, ← hL]
                  have h1 := versItms_at e.key true e.vs j vj hvj
                  have h2 := ixItms_at 0 (itemsOf true e) j _ (by simpa [itemsOf] using h1)
                  simpa using h2
                have hlen : (pre ++ IL.take j).length < LQ.length := by
                  have h1 := (List.getElem?_eq_some_iff.1 hx).1
                  rw [← HR.out]
                  simp
                  omega
                obtain ⟨VB, hVB⟩ : ∃ VB, Obj.cells #[.string (BA vj.id), .int .i64 vj.time, .bool vj.mark, .int .i64 vj.size, .string (BA vj.etag)] 37 (0, 0) = VB := ⟨_, rfl⟩
                have hJv := abides_below hJ hJq VB
                have HKv := Lib.hid (KpL.ofBelow (n₀ := w0.heap.size) hbq.size ((Below.refl _ wr).alloc (Nat.le_refl _) VB))
                have hbv := hbq.alloc hbq.size VB
                obtain ⟨fn, tmps, assign, body, hy, hR⟩ := hY (pre ++ IL.take j) (j, ⟨e.key, false, vj, L⟩) _ hJv hlen
                have hy2 : (Instr.yield l #[.int .i64 (j : Int), .agg #[.string (BA e.key), .bool false, .string (BA vj.id), .int .i64 vj.time, .bool vj.mark, .int .i64 vj.size, .string (BA vj.etag), .bool L]]).run Try.prog (wr.alloc VB) = .ok (.round l fn tmps assign body) (wr.alloc VB) := hy
                have HNX := Lib.hid (take_next IL j _ hx)
                subst hVB
                clear hcv3 hvj hE2 hI2 hJv hy hx
                have hjc : (((j : Int) == 0) = true ∧ decide ((j : Int) = 0) = true ∧ decide (j = 0) = true ∧ L = true) ∨ (((j : Int) == 0) = false ∧ decide ((j : Int) = 0) = false ∧ decide (j = 0) = false ∧ L = false) := by
                  rw [← hL]
                  by_cases h : j = 0
                  · exact .inl ⟨by simp; omega, by simp; omega, by simp [h], by simp [h]⟩
                  · exact .inr ⟨by simp; omega, by simp; omega, by simp [h], by simp [h]⟩
                clear hL
                rcases hjc with ⟨hj1, hj2, hj3, rfl⟩ | ⟨hj1, hj2, hj3, rfl⟩
                · gi_wp2
                  refine hR.mono ?_
                  rintro e2 W3 (⟨rfl, hJ4, hk4⟩ | ⟨rfl, hJx⟩)
                  · have hk5 := HKq.out.trans (HKv.out.trans hk4)
                    have hI3 := HI.out.keep (HK1.out.trans hk5)
                    have cv3 : W3.cell? ⟨Ba, 2, none⟩ = some (.bool true) := by rw [cell_of_row _ _ 2 _ _ (0, 0) hI3.a]; rfl
                    have HK5 := Lib.hid hk5
                    clear hI3 hk5 hk4 ck cv d0 d1 d2 d3 d4
                    gi_wp2
                    go_roundw
                    case rel => exact ⟨j + 1, by omega, by go_num, by rw [HNX.out, ← List.append_assoc]; exact hJ4, HK5⟩
                    case measure => simp [intOf]; omega
                  · gi_wp2
                    refine bodyPost_ret (results_none rfl _ _ _) rfl ?_
                    refine ⟨⟨_, rfl⟩, .inr ⟨_, ?_, hJx⟩⟩
                    rw [List.append_assoc, ← HNX.out, ← HR.out]
                    exact List.prefix_append_right_inj pre |>.2 ((List.take_prefix _ _).trans (List.prefix_append _ _))
                · gi_wp2
                  refine hR.mono ?_
                  rintro e2 W3 (⟨rfl, hJ4, hk4⟩ | ⟨rfl, hJx⟩)
                  · have hk5 := HKq.out.trans (HKv.out.trans hk4)
                    have hI3 := HI.out.keep (HK1.out.trans hk5)
                    have cv3 : W3.cell? ⟨Ba, 2, none⟩ = some (.bool true) := by rw [cell_of_row _ _ 2 _ _ (0, 0) hI3.a]; rfl
                    have HK5 := Lib.hid hk5
                    clear hI3 hk5 hk4 ck cv d0 d1 d2 d3 d4
                    gi_wp2
                    go_roundw
                    case rel => exact ⟨j + 1, by omega, by go_num, by rw [HNX.out, ← List.append_assoc]; exact hJ4, HK5⟩
                    case measure => simp [intOf]; omega
                  · gi_wp2
                    refine bodyPost_ret (results_none rfl _ _ _) rfl ?_
                    refine ⟨⟨_, rfl⟩, .inr ⟨_, ?_, hJx⟩⟩
                    rw [List.append_assoc, ← HNX.out, ← HR.out]
                    exact List.prefix_append_right_inj pre |>.2 ((List.take_prefix _ _).trans (List.prefix_append _ _))
              · obtain rfl : j = e.vs.length := by omega
                have htk : IL.take e.vs.length = IL := List.take_of_length_le (by rw [HILL.out]; exact Nat.le_refl _)
                rw [htk] at hJq
                clear htk
                gi_wp2
                go_roundw
                case rel => exact ⟨k + 1, last, _, by omega, by go_num, HADQ.out.1, hJq, hbq, Lib.hid HADQ.out.2, Lib.hid (by rw [← HR.out]; simp)⟩
                case measure => simp [intOf]; omega
          · rw [hc] at hcut
            obtain ⟨c, hcd⟩ : ∃ c, p.data.toList ++ hx ++ d.data.toList = c := ⟨_, rfl⟩
            have hcm : commonL p.data.toList d.data.toList e.key = some c := by unfold commonL; rw [if_neg hd0, hh, ← hcd]; rfl
            have hcb : (p ++ BA hx ++ d : ByteArray) = BA c := bs_ext (by rw [bs_app, bs_app]; exact hcd)
            have hxl : hx.length ≤ 1000000 := by
              obtain ⟨r, hr⟩ := headL_some _ _ _ hh
              have h1 := congrArg List.length hr
              have h2 := (hkey e (List.mem_of_getElem? he)).1
              rw [List.length_drop, List.length_append, List.length_append] at h1
              omega
            clear hcd
            rw [hcm] at hrest
            simp only at hrest
            have HR := Lib.hid hrest
            clear hcm hrest hc hh hr2 hr1 hd he hq hvv hcv hvs
            gi_wp2_with (refine ⟨trivial, ?_⟩; gi_at_call 59; refine (callsIn_wide.2 (hHP _)).mono ?_; rintro e w' ⟨rfl, rfl⟩)
            have hFw : ∀ f, Fence.wide.fn f := fun _ => trivial
            gi_quiet_th ((exact quiet_drew hcut (hmx _)))
            obtain ⟨W1, hW1⟩ : ∃ W1, (wr.alloc (.cells #[.string (BA e.key), .slice (some ⟨b2, off2, none⟩) e.vs.length cx] 47)).drewN nq = W1 := ⟨_, rfl⟩
            have hbx : Below wr.heap.size wr W1 := by rw [← hW1]; exact below_drewN ((Below.refl _ wr).alloc (Nat.le_refl _) _) _
            have hJ1 : J pre W1 := by rw [← hW1]; exact abides_drewN hJ (abides_below hJ hJs _) _
            have hrE0 : W1.heap[wr.heap.size]? = some (.cells #[.string (BA e.key), .slice (some ⟨b2, off2, none⟩) e.vs.length cx] 47 (0, 0)) := by rw [← hW1]; exact heap_alloc_new wr _
            rw [hW1]
            obtain ⟨hl1, hb1, hk1⟩ := HADV.out _ hbx
            have HK1 := Lib.hid hk1
            have hI1 := HI.out.keep hk1
            have ca0' : W1.cell? ⟨Ba, 0, none⟩ = some (.string p) := by rw [cell_of_row _ _ 0 _ _ (0, 0) hI1.a]; rfl
            have ca1' : W1.cell? ⟨Ba, 1, none⟩ = some (.string d) := by rw [cell_of_row _ _ 1 _ _ (0, 0) hI1.a]; rfl
            clear hW1 hbx hk1 ca0 ca1 ca2 hcut hmx hc0 hc1 hI1 HADV hlast hJs
            clear hrE0
            have hxb : (BA hx).size ≤ 1000000 := by rw [ByteArray.size_mk']; simpa using hxl
            rcases hl1 with ⟨rfl, rfl⟩ | ⟨bl, cl, rfl, rfl, hnb, hlrow⟩
            · have HS := Lib.hid (show pre ++ (0, comItm c) :: listQ p.data.toList d.data.toList true (some c) (es.drop (k + 1)) = LQ by have h := HR.out; rw [if_neg (by first | (simp; done) | (simp; exact hcc))] at h; exact h)
              have hlen : pre.length < LQ.length := by rw [← HS.out]; simp
              have hJ2 := fun o m => abides_drewN hJ (abides_below hJ (W := W1) hJ1 o) m
              have HJ2 := Lib.hid hJ2
              have hK2 := fun (o : Obj) (m : Nat) => KpL.ofBelow hb1.size (below_drewN ((Below.refl _ W1).alloc (Nat.le_refl _) o) m)
              have HK2 := Lib.hid hK2
              clear hJ2 hK2 HR
              gi_wp2
              gi_quiet_th ((fail))
              obtain ⟨W2, hW2⟩ : ∃ W2, (W1.alloc (.cells #[.string (BA c)] 9)).drewN nq = W2 := ⟨_, rfl⟩
              rw [hW2]
              have hJ3 : J pre W2 := by rw [← hW2]; exact HJ2.out _ _
              have hK3 : KpL w0.heap.size W1 W2 := by rw [← hW2]; exact HK2.out _ _
              have hr3 : W2.heap[W1.heap.size]? = some (.cells #[.string (BA c)] 9 (0, 0)) := by rw [← hW2]; exact heap_alloc_new W1 _
              obtain ⟨gB, hgB⟩ : ∃ gB, W1.heap.size = gB := ⟨_, rfl⟩
              have hgn : w0.heap.size ≤ gB := by rw [← hgB]; exact hb1.size
              rw [hgB] at hr3 ⊢
              have hcx : W2.cell? ⟨gB, 0, none⟩ = some (.string (BA c)) := by rw [cell_of_row _ _ 0 _ _ (0, 0) hr3]; rfl
              have HK3 := Lib.hid hK3
              have HR3 := Lib.hid hr3
              obtain ⟨fn, tmps, assign, body, hy, hR⟩ := hY pre (0, comItm c) W2 hJ3 hlen
              have hy2 : (Instr.yield l #[.int .i64 0, .agg #[.string (BA c), .bool true, .string ⟨#[]⟩, .int .i64 0, .bool false, .int .i64 0, .string ⟨#[]⟩, .bool false]]).run Try.prog W2 = .ok (.round l fn tmps assign body) W2 := hy
              clear hW2 hgB hK3 hr3 HK2 HJ2 hy
              gi_wp2
              refine hR.mono ?_
              rintro e W3 (⟨rfl, hJ4, hk4⟩ | ⟨rfl, hJx⟩)
              · have hb4 := hk4.1
                have hb3 := HK3.out.1
                gi_wp2
                go_roundw
                case rel => exact ⟨k + 1, some c, pre ++ [(0, comItm c)], by omega, by go_num, LastAt.keep (.inr ⟨gB, c, rfl, rfl, hgn, HR3.out⟩) hk4, hJ4, (hb1.trans hb3).trans hb4, Lib.hid ((HK1.out.trans HK3.out).trans hk4), Lib.hid (by rw [← HS.out]; simp)⟩
                case measure => simp [intOf]; omega
              · gi_wp2
                refine bodyPost_ret (results_none rfl _ _ _) rfl ?_
                exact ⟨⟨_, rfl⟩, .inr ⟨pre ++ [(0, comItm c)], ⟨listQ p.data.toList d.data.toList true (some c) (es.drop (k + 1)), by rw [← HS.out]; simp⟩, hJx⟩⟩
            · have hlc : ∀ o, (W1.alloc o).cell? ⟨bl, 0, none⟩ = some (.string (BA cl)) := fun o => below_cell ((Below.refl _ W1).alloc (Nat.le_refl _) o) (by rw [cell_of_row _ _ 0 _ _ (0, 0) hlrow]; rfl)
              by_cases hcc : cl = c
              · subst hcc
                have HS := Lib.hid (show pre ++ listQ p.data.toList d.data.toList true (some cl) (es.drop (k + 1)) = LQ by have h := HR.out; rw [if_pos rfl] at h; exact h)
                have hJ2 := fun o m => abides_drewN hJ (abides_below hJ (W := W1) hJ1 o) m
                have hb2' := fun (o : Obj) (m : Nat) => below_drewN (hb1.alloc hb1.size o) m
                have hK2 := fun (o : Obj) (m : Nat) => KpL.ofBelow hb1.size (below_drewN ((Below.refl _ W1).alloc (Nat.le_refl _) o) m)
                have HK2 := Lib.hid hK2
                clear hK2
                gi_wp2
                gi_quiet_th ((fail))
                gi_wp2
                go_roundw
                case rel => exact ⟨k + 1, some cl, pre, by omega, by go_num, LastAt.keep (.inr ⟨bl, cl, rfl, rfl, hnb, hlrow⟩) (HK2.out _ _), hJ2 _ _, hb2' _ _, Lib.hid (HK1.out.trans (HK2.out _ _)), HS⟩
                case measure => simp [intOf]; omega
              · have hne1 : ((BA cl).toList == (BA c).toList) = false := by rw [ba_toList, ba_toList]; simp [hcc]
                have hne2 : (cl == c) = false := by simp [hcc]
                have HS := Lib.hid (show pre ++ (0, comItm c) :: listQ p.data.toList d.data.toList true (some c) (es.drop (k + 1)) = LQ by have h := HR.out; rw [if_neg (by first | (simp; done) | (simp; exact hcc))] at h; exact h)
                have hlen : pre.length < LQ.length := by rw [← HS.out]; simp
                have hJ2 := fun o m => abides_drewN hJ (abides_below hJ (W := W1) hJ1 o) m
                have HJ2 := Lib.hid hJ2
                have hK2 := fun (o : Obj) (m : Nat) => KpL.ofBelow hb1.size (below_drewN ((Below.refl _ W1).alloc (Nat.le_refl _) o) m)
                have HK2 := Lib.hid hK2
                clear hJ2 hK2 HR
                gi_wp2
                gi_quiet_th ((fail))
                obtain ⟨W2, hW2⟩ : ∃ W2, (W1.alloc (.cells #[.string (BA c)] 9)).drewN nq = W2 := ⟨_, rfl⟩
                rw [hW2]
                have hJ3 : J pre W2 := by rw [← hW2]; exact HJ2.out _ _
                have hK3 : KpL w0.heap.size W1 W2 := by rw [← hW2]; exact HK2.out _ _
                have hr3 : W2.heap[W1.heap.size]? = some (.cells #[.string (BA c)] 9 (0, 0)) := by rw [← hW2]; exact heap_alloc_new W1 _
                obtain ⟨gB, hgB⟩ : ∃ gB, W1.heap.size = gB := ⟨_, rfl⟩
                have hgn : w0.heap.size ≤ gB := by rw [← hgB]; exact hb1.size
                rw [hgB] at hr3 ⊢
                have hcx : W2.cell? ⟨gB, 0, none⟩ = some (.string (BA c)) := by rw [cell_of_row _ _ 0 _ _ (0, 0) hr3]; rfl
                have HK3 := Lib.hid hK3
                have HR3 := Lib.hid hr3
                obtain ⟨fn, tmps, assign, body, hy, hR⟩ := hY pre (0, comItm c) W2 hJ3 hlen
                have hy2 : (Instr.yield l #[.int .i64 0, .agg #[.string (BA c), .bool true, .string ⟨#[]⟩, .int .i64 0, .bool false, .int .i64 0, .string ⟨#[]⟩, .bool false]]).run Try.prog W2 = .ok (.round l fn tmps assign body) W2 := hy
                clear hW2 hgB hK3 hr3 HK2 HJ2 hy
                gi_wp2
                refine hR.mono ?_
                rintro e W3 (⟨rfl, hJ4, hk4⟩ | ⟨rfl, hJx⟩)
                · have hb4 := hk4.1
                  have hb3 := HK3.out.1
                  gi_wp2
                  go_roundw
                  case rel => exact ⟨k + 1, some c, pre ++ [(0, comItm c)], by omega, by go_num, LastAt.keep (.inr ⟨gB, c, rfl, rfl, hgn, HR3.out⟩) hk4, hJ4, (hb1.trans hb3).trans hb4, Lib.hid ((HK1.out.trans HK3.out).trans hk4), Lib.hid (by rw [← HS.out]; simp)⟩
                  case measure => simp [intOf]; omega
                · gi_wp2
                  refine bodyPost_ret (results_none rfl _ _ _) rfl ?_
                  exact ⟨⟨_, rfl⟩, .inr ⟨pre ++ [(0, comItm c)], ⟨listQ p.data.toList d.data.toList true (some c) (es.drop (k + 1)), by rw [← HS.out]; simp⟩, hJx⟩⟩
      · have hpre' : Lib.hasPrefix (BA e.key).data.toList p.data.toList = false := by simpa using hpre
        have hHP := Try.strings_HasPrefix (BA e.key) p
        rw [hpre'] at hHP
        have hsk : skips p.data.toList true e = true := by
          unfold skips
          simp only [Bool.or_eq_true, Bool.not_eq_true']
          left
          have h := hpre'
          simp [Lib.hasPrefix] at h
          simpa using h
        have HS := Lib.hid (show pre ++ listQ p.data.toList d.data.toList true last (es.drop (k + 1)) = LQ by rw [← hstep]; conv => rhs; unfold listQ; rw [if_pos hsk])
        have hJ2 := fun o => abides_below hJ (W := wr) hJs o
        clear hstep hd he hvs hpre hpre' hsk H
        gi_wp2_with (refine ⟨trivial, ?_⟩; gi_at_call 59; refine (callsIn_wide.2 (hHP _)).mono ?_; rintro e w' ⟨rfl, rfl⟩)
        have hadv := HADV.out _ ((Below.refl _ wr).alloc (Nat.le_refl _) (.cells #[.string (BA e.key), .slice Ax e.vs.length cx] 47))
        go_roundw
        case rel => exact ⟨k + 1, last, pre, by omega, by go_num, hadv.1, hJ2 _, hadv.2.1, Lib.hid hadv.2.2, HS⟩
        case measure => simp [intOf]; omega
    · obtain rfl : k = es.length := by omega
      have hfin : pre = LQ := by have h := H.out; rw [List.drop_of_length_le (Nat.le_refl _)] at h; simpa [listQ] using h
      have HF := Lib.hid hfin
      clear hfin
      gi_wp2
      go_end0
      exact ⟨⟨_, rfl⟩, .inl ⟨pre, HF.out, hJs⟩⟩
end Go.Proofs.Ytdaokkajbooiaaa
end
