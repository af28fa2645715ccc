/- Texts of this proof, put together: Pr20, Hq20, PrStowagelaw20ListingTells. -/
import Derived.Test.YtahkcfhiecfgeaaProg
import Derived.Test.YtahkcfhiecfgeaaMListingTellsn
import Derived.RegionTactic
import Derived.Test.YtahkcfhiecfgeaaMListingTellse
import Derived.Test.YtahkcfhiecfgeaaMListingTellsf
section
/- Listing: the reference's 'page'. -/
namespace Go.Proofs.Ytahkcfhiecfgeaa
open Go.RowKit Go.Proofs.YtahkcfhiecfgeaaW.PrintWords
set_option linter.unusedVariables false
set_option linter.unusedSimpArgs false
def cutM (most : Nat) (li : List Itm) : Bool := decide (most < li.length)
def cutNext (most : Nat) (li : List Itm) : Bs := if cutM most li then (li.getD (most - 1) itm0).name else []
def cutVer (vers : Bool) (most : Nat) (li : List Itm) : Bs := if cutM most li && vers && !(li.getD (most - 1) itm0).common then (li.getD (most - 1) itm0).v.id else []
set_option maxRecDepth 10000 in
set_option maxHeartbeats 4000000 in
theorem refPage_any (A : Option Addr) (c : Nat) (li : List Itm) (m : Nat) (vers : Bool) (w : World) (hs : SrcR w (.slice A li.length c) 8 (li.map itmC)) (hl : li.length ≤ 1000000) (hc : li.length ≤ c) (hm : 1 ≤ m ∧ m ≤ 1000) :
    Calls Try.prog 30 #[.slice A li.length c, .int .i64 m, .bool vers] w fun e w' => e = .returned (.agg #[.slice A (min m li.length) c, .bool (cutM m li), .string (BA (cutNext m li)), .string (BA (cutVer vers m li))]) ∧ Below w.heap.size w w' := by
  obtain ⟨n1, hn1⟩ : ∃ n1, li.length = n1 := ⟨_, rfl⟩
  by_cases hle : n1 ≤ m
  · have q1 : cutM m li = false := by simp [cutM]; omega
    have q2 : cutNext m li = [] := by simp [cutNext, q1]
    have q3 : cutVer vers m li = [] := by simp [cutVer, q1]
    rw [q1, q2, q3, hn1]
    rw [show min m n1 = n1 by omega]
    have hi : (n1 : Int) ≤ (m : Int) := by omega
    clear q1 q2 q3 hs hn1 hl hc hm hle
    go_enter Try.func30, Try.ntmps30
    go_wp2
    refine bodyPost_ret (v := .agg #[.slice A n1 c, .bool false, .string ⟨#[]⟩, .string ⟨#[]⟩]) (results_cell_row rfl _ _ w.heap.size 28 _ (0, 0) _ rfl (by repeat (first | exact heap_alloc_new w _ | (with_reducible first | refine blk_drewN ?_ _ | refine blk_drew ?_ | refine blk_alloc ?_ _))) Try.underlying28 rfl (by kernel_rfl)) rfl ?_
    exact ⟨rfl, (Below.refl _ w).alloc (Nat.le_refl _) _⟩
  · obtain ⟨⟨nm, com, ⟨vid, vt, vm, vz, vet⟩, lat⟩, hx, hxd⟩ := next_elem li (m - 1) (by omega)
    have hgd : li.getD (m - 1) itm0 = ⟨nm, com, ⟨vid, vt, vm, vz, vet⟩, lat⟩ := by rw [List.getD_eq_getElem?_getD, hx]; rfl
    have q1 : cutM m li = true := by simp [cutM]; omega
    have q2 : cutNext m li = nm := by unfold cutNext; rw [if_pos q1, hgd]
    have q3 : cutVer vers m li = if vers && !com then vid else [] := by unfold cutVer; rw [hgd, q1]; simp
    rw [q1, q2, q3, hn1]
    rw [show min m n1 = m by omega]
    have hi : ¬ (n1 : Int) ≤ (m : Int) := by omega
    rw [hn1] at hs
    have hs := hs.block ((Below.refl _ w).alloc (Nat.le_refl _) (.cells #[.slice none 0 0, .bool false, .string ⟨#[]⟩, .string ⟨#[]⟩] 28))
    obtain ⟨b1, o1, rfl, _, hc1⟩ := hs.at (i := m - 1) (row := itmC ⟨nm, com, ⟨vid, vt, vm, vz, vet⟩, lat⟩) (by simp [hx])
    have d0 := hc1 0 _ rfl
    have d1 := hc1 1 _ rfl
    have d2 := hc1 2 _ rfl
    have d3 := hc1 3 _ rfl
    have d4 := hc1 4 _ rfl
    have d5 := hc1 5 _ rfl
    have d6 := hc1 6 _ rfl
    have d7 := hc1 7 _ rfl
    simp only [Nat.add_zero] at d0
    have hk2 : (0 : Int) ≤ ((m - 1 : Nat) : Int) ∧ ((m - 1 : Nat) : Int) < (n1 : Int) := by omega
    have hw1 : wrap64 ((m : Int) - 1) = ((m - 1 : Nat) : Int) := by unfold wrap64; omega
    clear q1 q2 q3 hc1 hx hxd hgd hs
    go_enter Try.func30, Try.ntmps30
    go_wp2
    go_region
    all_goals go_wp2
    all_goals (
      refine bodyPost_ret (v := .agg #[.slice (some ⟨b1, o1, none⟩) m c, .bool true, .string (BA nm), _]) (results_cell_row rfl _ _ w.heap.size 28 _ (0, 0) _ rfl (by repeat (first | exact heap_alloc_new w _ | (with_reducible first | refine blk_drewN ?_ _ | refine blk_drew ?_ | refine blk_alloc ?_ _))) Try.underlying28 rfl (by kernel_rfl)) rfl ?_
      refine ⟨by first | rfl | (simp; done), ?_⟩
      repeat (first | exact Below.refl _ _ | refine Below.alloc ?_ (by first | (simp; done) | (simp; omega)) _ | apply pw_below_drewN | apply below_drew1))
end Go.Proofs.Ytahkcfhiecfgeaa
end
section
/- stowageref20.Keys and Versions, by hand, in the print's form. -/
namespace Go.Proofs.Ytahkcfhiecfgeaa.Pr
open Go.RowKit Go.Proofs.YtahkcfhiecfgeaaW.PrintWords Go.Proofs.YtahkcfhiecfgeaaW.PrintLast Go.Proofs.YtahkcfhiecfgeaaW.PrintMore
set_option linter.unusedVariables false
set_option linter.unusedSimpArgs false
def itmL (x : SI) : Itm := ⟨x.f0.data.toList, x.f1, verL x.f2, x.f3⟩
theorem itmsAt_of_C {w : World} {A : Option Addr} {c : Nat} {xs : List SI} (h : k39.C w A xs.length xs) (hc : xs.length ≤ c) : SrcR w (.slice A xs.length c) 8 ((xs.map itmL).map itmC) := by
  obtain ⟨rows, hl, hs, hK⟩ := srcR_of_C (d := k39) (by decide) h hc
  have : rows = (xs.map itmL).map itmC := by
    apply List.ext_getElem?
    intro i
    cases hx : xs[i]? with
    | none =>
      have := List.getElem?_eq_none_iff.1 hx
      rw [List.getElem?_eq_none_iff.2 (by omega), List.getElem?_eq_none_iff.2 (by simpa using this)]
    | some x =>
      have hi : i < rows.length := by rw [hl]; exact (List.getElem?_eq_some_iff.1 hx).1
      have := k39_open (hK i x _ hx (List.getElem?_eq_getElem hi))
      rw [List.getElem?_eq_getElem hi, this]
      simp [hx, itmL, itmC, verL, ba_data]
  rw [← this]
  exact hs
theorem strs_C {W : World} {g : Nat} {l : List ByteArray} {t : TypeId} (h : W.heap[g]? = some (.cells (l.map Value.string).toArray t (0, 0))) (hl : l.length ≤ 1000) : Kd.C Kd.string W (some ⟨g, 0, none⟩) l.length l := by
  refine ⟨rfl, by omega, fun _ => ⟨_, rfl, fun j p hj => ⟨[.string p], rfl, rfl, fun i u hu => ?_⟩⟩⟩
  cases i with
  | zero =>
    simp only [List.getElem?_cons_zero, Option.some.injEq] at hu
    subst hu
    have e : (Addr.add ⟨g, 0, none⟩ (j * Kd.string.sz + 0)) = ⟨g, j, none⟩ := by
      rw [show j * Kd.string.sz + 0 = j from (by show j * 1 + 0 = j; omega)]
      unfold Addr.add
      split
      · rename_i h0
        rw [h0]
      · simp
    rw [e]
    rw [cell_of_row _ _ _ _ _ (0, 0) h]
    simp [hj]
  | succ i => simp at hu
theorem take_flat (q : List Itm) : ∀ m : Nat, (q.flatMap itmC).take (m * 8) = (q.take m).flatMap itmC := by
  induction q with
  | nil => simp
  | cons x r ih =>
    intro m
    cases m with
    | zero => simp
    | succ m =>
      rw [List.flatMap_cons, List.take_succ_cons, List.flatMap_cons, ← ih m, List.take_append, show (m + 1) * 8 = (itmC x).length + m * 8 by rw [itmC_len]; omega]
      simp [List.take_of_length_le]
def cutOut (vers : Bool) (m : Nat) (q : List Itm) : List SI × Bool × ByteArray × ByteArray × Int := ((q.take m).map itmS, cutM m q, BA (cutNext m q), BA (cutVer vers m q), 0)
def stowageref20_Keys.f (k : Nat) (l : List SE) (p d after : ByteArray) (most : Int) : Option (List SI × Bool × ByteArray × ByteArray × Int) :=
  (stowageref20_wrong.f k l [p, d, after] most).bind fun e => if e = 0 then (stowageref20_Listed.f k l p d false).bind fun li => (if li.length ≤ 1000000 ∧ 1 ≤ most ∧ most ≤ 1000 then some (cutOut false most.toNat (behindR after.data.toList (⟨#[]⟩ : ByteArray).data.toList false (li.map itmL))) else none) else some ([], false, ⟨#[]⟩, ⟨#[]⟩, e)
theorem stowageref20_Keys.mono : ∀ a0 a1 a2 a3 a4 k, LeO (stowageref20_Keys.f k a0 a1 a2 a3 a4) (stowageref20_Keys.f (k + 1) a0 a1 a2 a3 a4) := fun _ _ _ _ _ k =>
  LeO.bind (stowageref20_wrong.mono _ _ _ _) (fun _ => LeO.ite (LeO.bind (stowageref20_Listed.mono _ _ _ _ _) (fun _ => LeO.refl _)) (LeO.refl _))
def stowageref20_Versions.f (k : Nat) (l : List SE) (p d after version : ByteArray) (most : Int) : Option (List SI × Bool × ByteArray × ByteArray × Int) :=
  (stowageref20_wrong.f k l [p, d, after, version] most).bind fun e => if e = 0 then (stowageref20_Listed.f k l p d true).bind fun li => (if li.length ≤ 1000000 ∧ 1 ≤ most ∧ most ≤ 1000 then some (cutOut true most.toNat (behindR after.data.toList version.data.toList false (li.map itmL))) else none) else some ([], false, ⟨#[]⟩, ⟨#[]⟩, e)
theorem stowageref20_Versions.mono : ∀ a0 a1 a2 a3 a4 a5 k, LeO (stowageref20_Versions.f k a0 a1 a2 a3 a4 a5) (stowageref20_Versions.f (k + 1) a0 a1 a2 a3 a4 a5) := fun _ _ _ _ _ _ k =>
  LeO.bind (stowageref20_wrong.mono _ _ _ _) (fun _ => LeO.ite (LeO.bind (stowageref20_Listed.mono _ _ _ _ _) (fun _ => LeO.refl _)) (LeO.refl _))
/-- Behind, then the page, out of what was listed. -/
theorem cut_calls (A : Option Addr) (c : Nat) (li : List SI) (af ve : ByteArray) (w : World) (hR : k39.C w A li.length li) (hc : li.length ≤ c) (hl : li.length ≤ 1000000) :
    Calls Try.prog 31 #[.slice A li.length c, .string af, .string ve] w fun e w' => ∃ A1 c1, e = .returned (.slice A1 (behindR af.data.toList ve.data.toList false (li.map itmL)).length c1) ∧ w'.ownsRow w.heap.size 39 8 (.slice A1 (behindR af.data.toList ve.data.toList false (li.map itmL)).length c1) (behindR af.data.toList ve.data.toList false (li.map itmL)).length ((behindR af.data.toList ve.data.toList false (li.map itmL)).flatMap itmC) ∧ (behindR af.data.toList ve.data.toList false (li.map itmL)).length ≤ c1 ∧ Below w.heap.size w w' := by
  have h := behind_any _ (li.map itmL) af.data.toList ve.data.toList w (itmsAt_of_C hR hc) (by simpa using hl)
  rw [ba_data, ba_data] at h
  refine h.mono ?_
  rintro e w' ⟨sl, rfl, ho, hb⟩
  obtain ⟨A1, c1, rfl⟩ := Go.Proofs.Ytahkcfhiecfgeaa.own_form ho
  refine ⟨A1, c1, rfl, ho, ?_, hb⟩
  rcases ho.2 with ⟨h1, h2⟩ | ⟨g, cap, cur, h1, _, _, h4, _⟩
  · omega
  · injection h1 with _ _ h3
    omega
theorem cut_R {w : World} {base : Nat} {A : Option Addr} {c m : Nat} {q : List Itm} (h : w.ownsRow base 39 8 (.slice A q.length c) q.length (q.flatMap itmC)) : Kd.R k39 39 w base (fun _ => True) (.slice A (min m q.length) c) ((q.take m).map itmS) := by
  have h1 := own_take h (m := min m q.length) (by omega)
  rw [take_flat] at h1
  have e : (q.take (min m q.length)) = q.take m := by
    by_cases hm : m ≤ q.length
    · rw [Nat.min_eq_left hm]
    · rw [Nat.min_eq_right (by omega), List.take_of_length_le (Nat.le_refl _), List.take_of_length_le (by omega)]
  rw [e] at h1
  exact R_of_own (d := k39) itmS itmC (fun _ => rfl) _ (fun ok x => k39_mkM _ _ _ (itmS x)) (by rw [List.length_take]; exact h1)
theorem own_lower {w : World} {b b' : Nat} {e : TypeId} {size k : Nat} {v : Value} {xs : List Value} (h : w.ownsRow b' e size v k xs) (hb : b ≤ b') : w.ownsRow b e size v k xs := by
  obtain ⟨h1, h2⟩ := h
  refine ⟨h1, ?_⟩
  rcases h2 with h2 | ⟨g, cap, cur, a, b0, r⟩
  · exact .inl h2
  · exact .inr ⟨g, cap, cur, a, Nat.le_trans hb b0, r⟩
theorem behindR_len (a v : Bs) : ∀ (l : List Itm) (b : Bool), (behindR a v b l).length ≤ l.length
  | [], b => by simp [behindR]
  | x :: r, b => by
    rw [behindR_cons]
    have := behindR_len a v r (b || marksP a v x)
    rw [List.length_append]
    split
    · simp; omega
    · simp; omega
theorem own_keep {w w' : World} {b : Nat} {e : TypeId} {size k : Nat} {v : Value} {xs : List Value} (h : w.ownsRow b e size v k xs) (hb : Below w.heap.size w w') : w'.ownsRow b e size v k xs := by
  obtain ⟨h1, h2⟩ := h
  refine ⟨h1, ?_⟩
  rcases h2 with h2 | ⟨g, cap, cur, a, b0, c, r⟩
  · exact .inl h2
  · exact .inr ⟨g, cap, cur, a, b0, (hb.block _ (Array.getElem?_eq_some_iff.1 c).1).trans c, r⟩
set_option maxRecDepth 10000 in
set_option maxHeartbeats 1000000 in
theorem stowageref20_Keys.calls (k : Nat) (A0 : Option Addr) (c0 : Nat) (l0 : List SE) (a1 a2 a3 : ByteArray) (a4 : Int) (r1 : List SI) (r2 : Bool) (r3 r4 : ByteArray) (r5 : Int) (w : World) (hr0 : Kd.C k47 w A0 l0.length l0) (hc0 : l0.length ≤ c0) (h : stowageref20_Keys.f k l0 a1 a2 a3 a4 = some (r1, r2, r3, r4, r5)) :
    Calls Try.prog 12 #[.slice A0 l0.length c0, .string a1, .string a2, .string a3, .int .i64 a4] w fun e w' => ∃ v0_ : Value, e = .returned (.tuple #[.agg #[v0_, .bool r2, .string r3, .string r4], .int .i64 r5]) ∧ Kd.R k39 39 w' w.heap.size (fun _ => True) v0_ r1 ∧ Below w.heap.size w w' := by
  unfold stowageref20_Keys.f at h
  obtain ⟨ev, hev, h⟩ := Option.bind_eq_some_iff.1 h
  have hblk : Below w.heap.size w ((w.alloc (.cells #[.slice none 0 0, .bool false, .string ⟨#[]⟩, .string ⟨#[]⟩] 28)).alloc (.cells #[.string a1, .string a2, .string a3] 9)) := ((Below.refl _ w).alloc (Nat.le_refl _) _).alloc (by simp) _
  have hrow := blk_alloc (heap_alloc_new w (.cells #[.slice none 0 0, .bool false, .string ⟨#[]⟩, .string ⟨#[]⟩] 28)) (.cells #[.string a1, .string a2, .string a3] 9)
  have hW := stowageref20_wrong.calls k A0 c0 l0 (some ⟨w.heap.size + 1, 0, none⟩) 3 [a1, a2, a3] a4 ev _ (Kd.C_below hr0 hblk) hc0 (strs_C (t := 9) (by have := heap_alloc_new (w.alloc (.cells #[.slice none 0 0, .bool false, .string ⟨#[]⟩, .string ⟨#[]⟩] 28)) (.cells #[.string a1, .string a2, .string a3] 9); simpa using this) (by simp)) (by simp) hev
  by_cases he : ev = 0
  · subst he
    rw [if_pos rfl] at h
    obtain ⟨li, hli, h⟩ := Option.bind_eq_some_iff.1 h
    split at h
    · rename_i hg
      simp only [Option.some.injEq, cutOut, Prod.mk.injEq] at h
      obtain ⟨rfl, rfl, rfl, rfl, rfl⟩ := h
      have hL := fun nd => stowageref20_Listed.calls k A0 c0 l0 a1 a2 false li _ (Kd.C_below hr0 (show Below w.heap.size w (World.drewN _ nd) by apply pw_below_drewN; exact hblk)) hc0 hli
      clear hli hev hr0
      obtain ⟨m, rfl⟩ : ∃ m : Nat, a4 = m := ⟨a4.toNat, by omega⟩
      rw [Int.toNat_natCast]
      have hC := fun A c w' h1 h2 => cut_calls A c li a3 ⟨#[]⟩ w' h1 h2 hg.1
      have hql := behindR_len a3.data.toList (⟨#[]⟩ : ByteArray).data.toList (li.map itmL) false
      rw [List.length_map] at hql
      generalize behindR a3.data.toList (⟨#[]⟩ : ByteArray).data.toList false (li.map itmL) = q at hC hql ⊢
      have hql2 : q.length ≤ 1000000 := by omega
      have hm : 1 ≤ m ∧ m ≤ 1000 := by omega
      clear hql hg
      go_enter Try.func12, Try.ntmps12
      go_wp2_with first | (go_at_call 29; refine hW.mono ?_; clear hW; rintro e w2 ⟨rfl, ⟨nd, rfl⟩⟩) | (go_at_call 32; refine (hL nd).mono ?_; clear hL; rintro e w3 ⟨v0, rfl, hR, hb3⟩; obtain ⟨A1, c1, rfl⟩ := Kd.R_slice hR; obtain ⟨_, hR2, hR3⟩ := Kd.R_reads' hR; have hB := hC _ _ _ hR3 hR2; clear hC hR hR2 hR3; have hr3 := blk_below (blk_drewN hrow nd) hb3) | (go_at_call 31; refine hB.mono ?_; clear hB; rintro e w4 ⟨A2, c2, rfl, ho, hlc, hb4⟩; have hr4 := blk_below hr3 hb4; have hP := refPage_any A2 c2 q m false w4 (own_src ho) hql2 hlc hm; clear hr3) | (go_at_call 30; refine hP.mono ?_; clear hP; rintro e w5 ⟨rfl, hb5⟩; have hr5 := blk_below hr4 hb5; clear hr4) | (refine wpList_store_row rfl 28 _ _ rfl w.heap.size #[.slice A2 (min m q.length) c2, .bool (cutM m q), .string (BA (cutNext m q)), .string (BA (cutVer false m q))] rfl rfl 28 _ hr5 infoP rfl (by simp [Value.oneCell']) ?_)
      have hbD := pw_below_drewN hblk nd
      have hb35 := (hbD.trans (hb3.mono hbD.size)).trans (hb4.mono (Nat.le_trans hbD.size hb3.size))
      have hb55 := hb35.trans (hb5.mono hb35.size)
      refine bodyPost_ret (v := .tuple #[.agg #[.slice A2 (min m q.length) c2, .bool (cutM m q), .string (BA (cutNext m q)), .string (BA (cutVer false m q))], .int .i64 0]) (results_row_tmp (show Try.f12.results = #[.cell 10 28, .tmp 11] from by kernel_rfl) _ _ w.heap.size 28 #[.slice A2 (min m q.length) c2, .bool (cutM m q), .string (BA (cutNext m q)), .string (BA (cutVer false m q))] (0, 0) _ (.int .i64 0) rfl rfl (setRow_heap _ _ _ _ _ _ hr5) Try.underlying28 rfl infoP) rfl ?_
      have ho5 := own_keep ho hb5
      have ho6 := ho5.kept (grownBy_setRow w5 w.heap.size #[.slice A2 (min m q.length) c2, .bool (cutM m q), .string (BA (cutNext m q)), .string (BA (cutVer false m q))]) (.inr (row_not_row hr5 (by decide) ho5).symm)
      exact ⟨_, rfl, cut_R (own_lower ho6 (Nat.le_trans hbD.size hb3.size)), below_setRow hb55 (Nat.le_refl _) _⟩
    · cases h
  · rw [if_neg he] at h
    simp only [Option.some.injEq, Prod.mk.injEq] at h
    obtain ⟨rfl, rfl, rfl, rfl, rfl⟩ := h
    clear hev hr0
    go_enter Try.func12, Try.ntmps12
    go_wp2_with first | (go_at_call 29; refine hW.mono ?_; clear hW; rintro e w2 ⟨rfl, ⟨nd, rfl⟩⟩; have hr5 := blk_drewN hrow nd) | (refine wpList_store_row rfl 28 _ _ rfl w.heap.size #[.slice none 0 0, .bool false, .string ⟨#[]⟩, .string ⟨#[]⟩] rfl rfl 28 _ hr5 infoP rfl (by simp [Value.oneCell']) ?_)
    have hbD := pw_below_drewN hblk nd
    refine bodyPost_ret (v := .tuple #[.agg #[.slice none 0 0, .bool false, .string ⟨#[]⟩, .string ⟨#[]⟩], .int .i64 ev]) (results_row_tmp (show Try.f12.results = #[.cell 10 28, .tmp 11] from by kernel_rfl) _ _ w.heap.size 28 #[.slice none 0 0, .bool false, .string ⟨#[]⟩, .string ⟨#[]⟩] (0, 0) _ (.int .i64 ev) rfl rfl (setRow_heap _ _ _ _ _ _ hr5) Try.underlying28 rfl infoP) rfl ?_
    exact ⟨_, rfl, Kd.R_nil _ _ _ _ _, below_setRow hbD (Nat.le_refl _) _⟩
set_option maxRecDepth 10000 in
set_option maxHeartbeats 1000000 in
theorem stowageref20_Versions.calls (k : Nat) (A0 : Option Addr) (c0 : Nat) (l0 : List SE) (a1 a2 a3 ve : ByteArray) (a4 : Int) (r1 : List SI) (r2 : Bool) (r3 r4 : ByteArray) (r5 : Int) (w : World) (hr0 : Kd.C k47 w A0 l0.length l0) (hc0 : l0.length ≤ c0) (h : stowageref20_Versions.f k l0 a1 a2 a3 ve a4 = some (r1, r2, r3, r4, r5)) :
    Calls Try.prog 14 #[.slice A0 l0.length c0, .string a1, .string a2, .string a3, .string ve, .int .i64 a4] w fun e w' => ∃ v0_ : Value, e = .returned (.tuple #[.agg #[v0_, .bool r2, .string r3, .string r4], .int .i64 r5]) ∧ Kd.R k39 39 w' w.heap.size (fun _ => True) v0_ r1 ∧ Below w.heap.size w w' := by
  unfold stowageref20_Versions.f at h
  obtain ⟨ev, hev, h⟩ := Option.bind_eq_some_iff.1 h
  have hblk : Below w.heap.size w ((w.alloc (.cells #[.slice none 0 0, .bool false, .string ⟨#[]⟩, .string ⟨#[]⟩] 28)).alloc (.cells #[.string a1, .string a2, .string a3, .string ve] 9)) := ((Below.refl _ w).alloc (Nat.le_refl _) _).alloc (by simp) _
  have hrow := blk_alloc (heap_alloc_new w (.cells #[.slice none 0 0, .bool false, .string ⟨#[]⟩, .string ⟨#[]⟩] 28)) (.cells #[.string a1, .string a2, .string a3, .string ve] 9)
  have hW := stowageref20_wrong.calls k A0 c0 l0 (some ⟨w.heap.size + 1, 0, none⟩) 4 [a1, a2, a3, ve] a4 ev _ (Kd.C_below hr0 hblk) hc0 (strs_C (t := 9) (by have := heap_alloc_new (w.alloc (.cells #[.slice none 0 0, .bool false, .string ⟨#[]⟩, .string ⟨#[]⟩] 28)) (.cells #[.string a1, .string a2, .string a3, .string ve] 9); simpa using this) (by simp)) (by simp) hev
  by_cases he : ev = 0
  · subst he
    rw [if_pos rfl] at h
    obtain ⟨li, hli, h⟩ := Option.bind_eq_some_iff.1 h
    split at h
    · rename_i hg
      simp only [Option.some.injEq, cutOut, Prod.mk.injEq] at h
      obtain ⟨rfl, rfl, rfl, rfl, rfl⟩ := h
      have hL := fun nd => stowageref20_Listed.calls k A0 c0 l0 a1 a2 true li _ (Kd.C_below hr0 (show Below w.heap.size w (World.drewN _ nd) by apply pw_below_drewN; exact hblk)) hc0 hli
      clear hli hev hr0
      obtain ⟨m, rfl⟩ : ∃ m : Nat, a4 = m := ⟨a4.toNat, by omega⟩
      rw [Int.toNat_natCast]
      have hC := fun A c w' h1 h2 => cut_calls A c li a3 ve w' h1 h2 hg.1
      have hql := behindR_len a3.data.toList ve.data.toList (li.map itmL) false
      rw [List.length_map] at hql
      generalize behindR a3.data.toList ve.data.toList false (li.map itmL) = q at hC hql ⊢
      have hql2 : q.length ≤ 1000000 := by omega
      have hm : 1 ≤ m ∧ m ≤ 1000 := by omega
      clear hql hg
      go_enter Try.func14, Try.ntmps14
      go_wp2_with first | (go_at_call 29; refine hW.mono ?_; clear hW; rintro e w2 ⟨rfl, ⟨nd, rfl⟩⟩) | (go_at_call 32; refine (hL nd).mono ?_; clear hL; rintro e w3 ⟨v0, rfl, hR, hb3⟩; obtain ⟨A1, c1, rfl⟩ := Kd.R_slice hR; obtain ⟨_, hR2, hR3⟩ := Kd.R_reads' hR; have hB := hC _ _ _ hR3 hR2; clear hC hR hR2 hR3; have hr3 := blk_below (blk_drewN hrow nd) hb3) | (go_at_call 31; refine hB.mono ?_; clear hB; rintro e w4 ⟨A2, c2, rfl, ho, hlc, hb4⟩; have hr4 := blk_below hr3 hb4; have hP := refPage_any A2 c2 q m true w4 (own_src ho) hql2 hlc hm; clear hr3) | (go_at_call 30; refine hP.mono ?_; clear hP; rintro e w5 ⟨rfl, hb5⟩; have hr5 := blk_below hr4 hb5; clear hr4) | (refine wpList_store_row rfl 28 _ _ rfl w.heap.size #[.slice A2 (min m q.length) c2, .bool (cutM m q), .string (BA (cutNext m q)), .string (BA (cutVer true m q))] rfl rfl 28 _ hr5 infoP rfl (by simp [Value.oneCell']) ?_)
      have hbD := pw_below_drewN hblk nd
      have hb35 := (hbD.trans (hb3.mono hbD.size)).trans (hb4.mono (Nat.le_trans hbD.size hb3.size))
      have hb55 := hb35.trans (hb5.mono hb35.size)
      refine bodyPost_ret (v := .tuple #[.agg #[.slice A2 (min m q.length) c2, .bool (cutM m q), .string (BA (cutNext m q)), .string (BA (cutVer true m q))], .int .i64 0]) (results_row_tmp (show Try.f14.results = #[.cell 12 28, .tmp 13] from by kernel_rfl) _ _ w.heap.size 28 #[.slice A2 (min m q.length) c2, .bool (cutM m q), .string (BA (cutNext m q)), .string (BA (cutVer true m q))] (0, 0) _ (.int .i64 0) rfl rfl (setRow_heap _ _ _ _ _ _ hr5) Try.underlying28 rfl infoP) rfl ?_
      have ho5 := own_keep ho hb5
      have ho6 := ho5.kept (grownBy_setRow w5 w.heap.size #[.slice A2 (min m q.length) c2, .bool (cutM m q), .string (BA (cutNext m q)), .string (BA (cutVer true m q))]) (.inr (row_not_row hr5 (by decide) ho5).symm)
      exact ⟨_, rfl, cut_R (own_lower ho6 (Nat.le_trans hbD.size hb3.size)), below_setRow hb55 (Nat.le_refl _) _⟩
    · cases h
  · rw [if_neg he] at h
    simp only [Option.some.injEq, Prod.mk.injEq] at h
    obtain ⟨rfl, rfl, rfl, rfl, rfl⟩ := h
    clear hev hr0
    go_enter Try.func14, Try.ntmps14
    go_wp2_with first | (go_at_call 29; refine hW.mono ?_; clear hW; rintro e w2 ⟨rfl, ⟨nd, rfl⟩⟩; have hr5 := blk_drewN hrow nd) | (refine wpList_store_row rfl 28 _ _ rfl w.heap.size #[.slice none 0 0, .bool false, .string ⟨#[]⟩, .string ⟨#[]⟩] rfl rfl 28 _ hr5 infoP rfl (by simp [Value.oneCell']) ?_)
    have hbD := pw_below_drewN hblk nd
    refine bodyPost_ret (v := .tuple #[.agg #[.slice none 0 0, .bool false, .string ⟨#[]⟩, .string ⟨#[]⟩], .int .i64 ev]) (results_row_tmp (show Try.f14.results = #[.cell 12 28, .tmp 13] from by kernel_rfl) _ _ w.heap.size 28 #[.slice none 0 0, .bool false, .string ⟨#[]⟩, .string ⟨#[]⟩] (0, 0) _ (.int .i64 ev) rfl rfl (setRow_heap _ _ _ _ _ _ hr5) Try.underlying28 rfl infoP) rfl ?_
    exact ⟨_, rfl, Kd.R_nil _ _ _ _ _, below_setRow hbD (Nat.le_refl _) _⟩
end Go.Proofs.Ytahkcfhiecfgeaa.Pr
end
section
namespace Go.Proofs.Ytahkcfhiecfgeaa.Pr
open Go.RowKit Go.Proofs.YtahkcfhiecfgeaaW.PrintWords Go.Proofs.YtahkcfhiecfgeaaW.PrintLast Go.Proofs.YtahkcfhiecfgeaaW.PrintMore
attribute [local go_sem] max2_int min2_int max_two min_two max_three min_three max_four min_four   -- for this text's walks alone
attribute [local go_sem high] gtr_as_less leq_as_less
set_option linter.unusedVariables false
set_option linter.unusedSimpArgs false

/-! ### stowagelaw20_ListingTells: function 3 -/
mutual
def stowagelaw20_ListingTells.j0 : Nat → List (S47) → ByteArray → ByteArray → ByteArray → ByteArray → Int → Bool → Option (Bool)
 | 0, _, _, _, _, _, _, _ => none
 | k + 1, x0, x1, x2, x3, x4, x5, x32 => if x32 = true then (some true) else ((stowagekit_CopyEntries.f k x0).bind fun t246 => ((listing_Keys.f t246 x1 x2 x3 x5).bind fun bt249 => ((stowageref20_Keys.f k x0 x1 x2 x3 x5).bind fun bt257 => ((listing_Versions.f t246 x1 x2 x3 x4 x5).bind fun bt265 => ((stowageref20_Versions.f k x0 x1 x2 x3 x4 x5).bind fun bt273 => ((stowagekit_SamePage.f k bt249.1 bt249.2.1 bt249.2.2.1 bt249.2.2.2.1 bt257.1 bt257.2.1 bt257.2.2.1 bt257.2.2.2.1).bind fun t281 => (if t281 = true then (if bt249.2.2.2.2 = bt257.2.2.2.2 then ((stowagekit_SamePage.f k bt265.1 bt265.2.1 bt265.2.2.1 bt265.2.2.2.1 bt273.1 bt273.2.1 bt273.2.2.1 bt273.2.2.2.1).bind fun t282 => (if t282 = true then (if bt265.2.2.2.2 = bt273.2.2.2.2 then ((listing_Check.f k t246).bind fun t283 => ((stowageref20_Check.f k x0).bind fun t284 => (if t283 = t284 then ((stowagekit_SameEntries.f k t246 x0).bind fun t285 => (stowagelaw20_ListingTells.j1 k x0 t246 (!t285) bt249.1 bt249.2.1 bt249.2.2.1 bt249.2.2.2.1 bt265.1 bt265.2.1 bt265.2.2.1 bt265.2.2.2.1 bt273.1 bt273.2.1 bt273.2.2.1 bt273.2.2.2.1)) else (stowagelaw20_ListingTells.j1 k x0 t246 true bt249.1 bt249.2.1 bt249.2.2.1 bt249.2.2.2.1 bt265.1 bt265.2.1 bt265.2.2.1 bt265.2.2.2.1 bt273.1 bt273.2.1 bt273.2.2.1 bt273.2.2.2.1)))) else (stowagelaw20_ListingTells.j1 k x0 t246 true bt249.1 bt249.2.1 bt249.2.2.1 bt249.2.2.2.1 bt265.1 bt265.2.1 bt265.2.2.1 bt265.2.2.2.1 bt273.1 bt273.2.1 bt273.2.2.1 bt273.2.2.2.1)) else (stowagelaw20_ListingTells.j1 k x0 t246 true bt249.1 bt249.2.1 bt249.2.2.1 bt249.2.2.2.1 bt265.1 bt265.2.1 bt265.2.2.1 bt265.2.2.2.1 bt273.1 bt273.2.1 bt273.2.2.1 bt273.2.2.2.1))) else (stowagelaw20_ListingTells.j1 k x0 t246 true bt249.1 bt249.2.1 bt249.2.2.1 bt249.2.2.2.1 bt265.1 bt265.2.1 bt265.2.2.1 bt265.2.2.2.1 bt273.1 bt273.2.1 bt273.2.2.1 bt273.2.2.2.1)) else (stowagelaw20_ListingTells.j1 k x0 t246 true bt249.1 bt249.2.1 bt249.2.2.1 bt249.2.2.2.1 bt265.1 bt265.2.1 bt265.2.2.1 bt265.2.2.2.1 bt273.1 bt273.2.1 bt273.2.2.1 bt273.2.2.2.1))))))))
def stowagelaw20_ListingTells.j1 : Nat → List (S47) → List (S47) → Bool → List (S39) → Bool → ByteArray → ByteArray → List (S39) → Bool → ByteArray → ByteArray → List (S39) → Bool → ByteArray → ByteArray → Option (Bool)
 | 0, _, _, _, _, _, _, _, _, _, _, _, _, _, _, _ => none
 | k + 1, x0, x13, x105, x257000, x257001, x257002, x257003, x273000, x273001, x273002, x273003, x281000, x281001, x281002, x281003 => if x105 = true then (some false) else (stowagelaw20_ListingTells.l0 k x0 x13 0 x257000 x257001 x257002 x257003 x273000 x273001 x273002 x273003 x281000 x281001 x281002 x281003)
def stowagelaw20_ListingTells.l0 : Nat → List (S47) → List (S47) → Int → List (S39) → Bool → ByteArray → ByteArray → List (S39) → Bool → ByteArray → ByteArray → List (S39) → Bool → ByteArray → ByteArray → Option (Bool)
 | 0, _, _, _, _, _, _, _, _, _, _, _, _, _, _, _ => none
 | k + 1, x0, x13, x22, x257000, x257001, x257002, x257003, x273000, x273001, x273002, x273003, x281000, x281001, x281002, x281003 => if x22 < (x257000.length : Int) then (if 0 ≤ x22 then (stowagelaw20_ListingTells.l0 k x0 x13 (wrap64 (x22 + 1)) (x257000.set (x22 : Int).toNat (⟨(⟨#[111, 118, 101, 114]⟩ : ByteArray), (rd_T39 x257000 x22).f1, (⟨(rd_T39 x257000 x22).f2.f0, (rd_T39 x257000 x22).f2.f1, (rd_T39 x257000 x22).f2.f2, (rd_T39 x257000 x22).f2.f3, (rd_T39 x257000 x22).f2.f4⟩ : S37), (rd_T39 x257000 x22).f3⟩ : S39)) x257001 x257002 x257003 x273000 x273001 x273002 x273003 x281000 x281001 x281002 x281003) else (none)) else ((stowagekit_SamePage.f k x273000 x273001 x273002 x273003 x281000 x281001 x281002 x281003).bind fun t287 => (if t287 = true then ((stowagekit_SameEntries.f k x13 x0).bind fun t288 => (if t288 = true then ((stowagelaw20_awake.f k).bind fun t289 => (some t289)) else (some false))) else (some false)))
end
def stowagelaw20_ListingTells.f (k : Nat) (l0 : List (S47)) (a1 : ByteArray) (a2 : ByteArray) (a3 : ByteArray) (a4 : ByteArray) (a5 : Int) : Option (Bool) := (stowagekit_LargeEntries.f k l0).bind fun t241 => (if t241 = true then (stowagelaw20_ListingTells.j0 k l0 a1 a2 a3 a4 a5 true) else ((stowagelaw20_long.f k (([a1, a2, a3, a4] : List ByteArray))).bind fun t245 => (stowagelaw20_ListingTells.j0 k l0 a1 a2 a3 a4 a5 t245)))
theorem stowagelaw20_ListingTells.mono_l : ∀ k, (∀ y0 y1 y2 y3 y4 y5 y6, LeO (stowagelaw20_ListingTells.j0 k y0 y1 y2 y3 y4 y5 y6) (stowagelaw20_ListingTells.j0 (k + 1) y0 y1 y2 y3 y4 y5 y6)) ∧ (∀ y0 y1 y2 y3 y4 y5 y6 y7 y8 y9 y10 y11 y12 y13 y14, LeO (stowagelaw20_ListingTells.j1 k y0 y1 y2 y3 y4 y5 y6 y7 y8 y9 y10 y11 y12 y13 y14) (stowagelaw20_ListingTells.j1 (k + 1) y0 y1 y2 y3 y4 y5 y6 y7 y8 y9 y10 y11 y12 y13 y14)) ∧ (∀ y0 y1 y2 y3 y4 y5 y6 y7 y8 y9 y10 y11 y12 y13 y14, LeO (stowagelaw20_ListingTells.l0 k y0 y1 y2 y3 y4 y5 y6 y7 y8 y9 y10 y11 y12 y13 y14) (stowagelaw20_ListingTells.l0 (k + 1) y0 y1 y2 y3 y4 y5 y6 y7 y8 y9 y10 y11 y12 y13 y14))
 | 0 => ⟨fun _ _ _ _ _ _ _ r h => by simp [stowagelaw20_ListingTells.j0] at h, fun _ _ _ _ _ _ _ _ _ _ _ _ _ _ _ r h => by simp [stowagelaw20_ListingTells.j1] at h, fun _ _ _ _ _ _ _ _ _ _ _ _ _ _ _ r h => by simp [stowagelaw20_ListingTells.l0] at h⟩
 | k + 1 => by
  obtain ⟨ih0, ih1, ih2⟩ := stowagelaw20_ListingTells.mono_l k
  refine ⟨?_, ?_, ?_⟩
  ·intro y0 y1 y2 y3 y4 y5 y6
   unfold stowagelaw20_ListingTells.j0
   repeat' first
   | (with_reducible exact ih0 _ _ _ _ _ _ _)
   | (with_reducible exact ih1 _ _ _ _ _ _ _ _ _ _ _ _ _ _ _)
   | (with_reducible exact ih2 _ _ _ _ _ _ _ _ _ _ _ _ _ _ _)
   | (with_reducible exact listing_Check.mono _ _)
   | (with_reducible exact stowagekit_CopyEntries.mono _ _)
   | (with_reducible exact stowagekit_LargeEntries.mono _ _)
   | (with_reducible exact stowagekit_SameEntries.mono _ _ _)
   | (with_reducible exact stowagekit_SamePage.mono _ _ _ _ _ _ _ _ _)
   | (with_reducible exact stowagelaw20_awake.mono _)
   | (with_reducible exact stowagelaw20_long.mono _ _)
   | (with_reducible exact stowageref20_Check.mono _ _)
   | (with_reducible exact stowageref20_Keys.mono _ _ _ _ _ _)
   | (with_reducible exact stowageref20_Versions.mono _ _ _ _ _ _ _)
   | (with_reducible exact LeO.refl _)
   | (with_reducible exact LeO.none _)
   | (with_reducible refine LeO.ite ?_ ?_)
   | (with_reducible refine LeO.bind ?_ (fun _ => ?_))
   | exact ih0 _ _ _ _ _ _ _
   | exact ih1 _ _ _ _ _ _ _ _ _ _ _ _ _ _ _
   | exact ih2 _ _ _ _ _ _ _ _ _ _ _ _ _ _ _
   | exact listing_Check.mono _ _
   | exact stowagekit_CopyEntries.mono _ _
   | exact stowagekit_LargeEntries.mono _ _
   | exact stowagekit_SameEntries.mono _ _ _
   | exact stowagekit_SamePage.mono _ _ _ _ _ _ _ _ _
   | exact stowagelaw20_awake.mono _
   | exact stowagelaw20_long.mono _ _
   | exact stowageref20_Check.mono _ _
   | exact stowageref20_Keys.mono _ _ _ _ _ _
   | exact stowageref20_Versions.mono _ _ _ _ _ _ _
   | exact LeO.none _
   | refine LeO.ite ?_ ?_
   | refine LeO.bind ?_ (fun _ => ?_)
  ·intro y0 y1 y2 y3 y4 y5 y6 y7 y8 y9 y10 y11 y12 y13 y14
   unfold stowagelaw20_ListingTells.j1
   repeat' first
   | (with_reducible exact ih0 _ _ _ _ _ _ _)
   | (with_reducible exact ih1 _ _ _ _ _ _ _ _ _ _ _ _ _ _ _)
   | (with_reducible exact ih2 _ _ _ _ _ _ _ _ _ _ _ _ _ _ _)
   | (with_reducible exact listing_Check.mono _ _)
   | (with_reducible exact stowagekit_CopyEntries.mono _ _)
   | (with_reducible exact stowagekit_LargeEntries.mono _ _)
   | (with_reducible exact stowagekit_SameEntries.mono _ _ _)
   | (with_reducible exact stowagekit_SamePage.mono _ _ _ _ _ _ _ _ _)
   | (with_reducible exact stowagelaw20_awake.mono _)
   | (with_reducible exact stowagelaw20_long.mono _ _)
   | (with_reducible exact stowageref20_Check.mono _ _)
   | (with_reducible exact stowageref20_Keys.mono _ _ _ _ _ _)
   | (with_reducible exact stowageref20_Versions.mono _ _ _ _ _ _ _)
   | (with_reducible exact LeO.refl _)
   | (with_reducible exact LeO.none _)
   | (with_reducible refine LeO.ite ?_ ?_)
   | (with_reducible refine LeO.bind ?_ (fun _ => ?_))
   | exact ih0 _ _ _ _ _ _ _
   | exact ih1 _ _ _ _ _ _ _ _ _ _ _ _ _ _ _
   | exact ih2 _ _ _ _ _ _ _ _ _ _ _ _ _ _ _
   | exact listing_Check.mono _ _
   | exact stowagekit_CopyEntries.mono _ _
   | exact stowagekit_LargeEntries.mono _ _
   | exact stowagekit_SameEntries.mono _ _ _
   | exact stowagekit_SamePage.mono _ _ _ _ _ _ _ _ _
   | exact stowagelaw20_awake.mono _
   | exact stowagelaw20_long.mono _ _
   | exact stowageref20_Check.mono _ _
   | exact stowageref20_Keys.mono _ _ _ _ _ _
   | exact stowageref20_Versions.mono _ _ _ _ _ _ _
   | exact LeO.none _
   | refine LeO.ite ?_ ?_
   | refine LeO.bind ?_ (fun _ => ?_)
  ·intro y0 y1 y2 y3 y4 y5 y6 y7 y8 y9 y10 y11 y12 y13 y14
   unfold stowagelaw20_ListingTells.l0
   repeat' first
   | (with_reducible exact ih0 _ _ _ _ _ _ _)
   | (with_reducible exact ih1 _ _ _ _ _ _ _ _ _ _ _ _ _ _ _)
   | (with_reducible exact ih2 _ _ _ _ _ _ _ _ _ _ _ _ _ _ _)
   | (with_reducible exact listing_Check.mono _ _)
   | (with_reducible exact stowagekit_CopyEntries.mono _ _)
   | (with_reducible exact stowagekit_LargeEntries.mono _ _)
   | (with_reducible exact stowagekit_SameEntries.mono _ _ _)
   | (with_reducible exact stowagekit_SamePage.mono _ _ _ _ _ _ _ _ _)
   | (with_reducible exact stowagelaw20_awake.mono _)
   | (with_reducible exact stowagelaw20_long.mono _ _)
   | (with_reducible exact stowageref20_Check.mono _ _)
   | (with_reducible exact stowageref20_Keys.mono _ _ _ _ _ _)
   | (with_reducible exact stowageref20_Versions.mono _ _ _ _ _ _ _)
   | (with_reducible exact LeO.refl _)
   | (with_reducible exact LeO.none _)
   | (with_reducible refine LeO.ite ?_ ?_)
   | (with_reducible refine LeO.bind ?_ (fun _ => ?_))
   | exact ih0 _ _ _ _ _ _ _
   | exact ih1 _ _ _ _ _ _ _ _ _ _ _ _ _ _ _
   | exact ih2 _ _ _ _ _ _ _ _ _ _ _ _ _ _ _
   | exact listing_Check.mono _ _
   | exact stowagekit_CopyEntries.mono _ _
   | exact stowagekit_LargeEntries.mono _ _
   | exact stowagekit_SameEntries.mono _ _ _
   | exact stowagekit_SamePage.mono _ _ _ _ _ _ _ _ _
   | exact stowagelaw20_awake.mono _
   | exact stowagelaw20_long.mono _ _
   | exact stowageref20_Check.mono _ _
   | exact stowageref20_Keys.mono _ _ _ _ _ _
   | exact stowageref20_Versions.mono _ _ _ _ _ _ _
   | exact LeO.none _
   | refine LeO.ite ?_ ?_
   | refine LeO.bind ?_ (fun _ => ?_)
theorem stowagelaw20_ListingTells.mono : ∀ a0 a1 a2 a3 a4 a5 k, LeO (stowagelaw20_ListingTells.f k a0 a1 a2 a3 a4 a5) (stowagelaw20_ListingTells.f (k + 1) a0 a1 a2 a3 a4 a5) := by
 intro a0 a1 a2 a3 a4 a5 k
 obtain ⟨ih0, ih1, ih2⟩ := stowagelaw20_ListingTells.mono_l k
 unfold stowagelaw20_ListingTells.f
 repeat' first
   | (with_reducible exact ih0 _ _ _ _ _ _ _)
   | (with_reducible exact ih1 _ _ _ _ _ _ _ _ _ _ _ _ _ _ _)
   | (with_reducible exact ih2 _ _ _ _ _ _ _ _ _ _ _ _ _ _ _)
   | (with_reducible exact listing_Check.mono _ _)
   | (with_reducible exact stowagekit_CopyEntries.mono _ _)
   | (with_reducible exact stowagekit_LargeEntries.mono _ _)
   | (with_reducible exact stowagekit_SameEntries.mono _ _ _)
   | (with_reducible exact stowagekit_SamePage.mono _ _ _ _ _ _ _ _ _)
   | (with_reducible exact stowagelaw20_awake.mono _)
   | (with_reducible exact stowagelaw20_long.mono _ _)
   | (with_reducible exact stowageref20_Check.mono _ _)
   | (with_reducible exact stowageref20_Keys.mono _ _ _ _ _ _)
   | (with_reducible exact stowageref20_Versions.mono _ _ _ _ _ _ _)
   | (with_reducible exact LeO.refl _)
   | (with_reducible exact LeO.none _)
   | (with_reducible refine LeO.ite ?_ ?_)
   | (with_reducible refine LeO.bind ?_ (fun _ => ?_))
   | exact ih0 _ _ _ _ _ _ _
   | exact ih1 _ _ _ _ _ _ _ _ _ _ _ _ _ _ _
   | exact ih2 _ _ _ _ _ _ _ _ _ _ _ _ _ _ _
   | exact listing_Check.mono _ _
   | exact stowagekit_CopyEntries.mono _ _
   | exact stowagekit_LargeEntries.mono _ _
   | exact stowagekit_SameEntries.mono _ _ _
   | exact stowagekit_SamePage.mono _ _ _ _ _ _ _ _ _
   | exact stowagelaw20_awake.mono _
   | exact stowagelaw20_long.mono _ _
   | exact stowageref20_Check.mono _ _
   | exact stowageref20_Keys.mono _ _ _ _ _ _
   | exact stowageref20_Versions.mono _ _ _ _ _ _ _
   | exact LeO.none _
   | refine LeO.ite ?_ ?_
   | refine LeO.bind ?_ (fun _ => ?_)
set_option maxHeartbeats 8000000 in
set_option maxRecDepth 100000 in
theorem stowagelaw20_ListingTells.calls (k : Nat) (A0 : Option Addr) (c0 : Nat) (l0 : List (S47)) (a1 : ByteArray) (a2 : ByteArray) (a3 : ByteArray) (a4 : ByteArray) (a5 : Int) (r : Bool) (w : World) (hG : GM w) (hr0 : Kd.C k47 w A0 l0.length l0) (hc0 : l0.length ≤ c0) (h : stowagelaw20_ListingTells.f k l0 a1 a2 a3 a4 a5 = some r) :
  Calls Try.prog 3 #[.slice A0 l0.length c0, .string a1, .string a2, .string a3, .string a4, .int .i64 a5] w fun e w' => e = .returned (.bool r) ∧ Below w.heap.size w w' := by
 have hu28 := Try.underlying28
 have HR0 := Aside0.mk hr0
 have HC0 := Aside0.mk hc0
 clear hr0 hc0
 have HB := Aside0.mk (Below.refl w.heap.size w)
 have HG := Aside0.mk hG
 clear hG
 have H : ((stowagekit_LargeEntries.f k l0).bind fun t241 => (if t241 = true then (stowagelaw20_ListingTells.j0 k l0 a1 a2 a3 a4 a5 true) else ((stowagelaw20_long.f k (([a1, a2, a3, a4] : List ByteArray))).bind fun t245 => (stowagelaw20_ListingTells.j0 k l0 a1 a2 a3 a4 a5 t245)))) = some r := h
 clear h
 have HC7 := Aside0.mk H
 clear H
 go_enter Try.func3, Try.ntmps3
 go_upto_region 1 with (fail)
 go_cut [32] (fun v32 wc => ∃ (kq : Nat) (x32_6 : Bool), v32 = .bool x32_6 ∧ Aside0 (stowagelaw20_ListingTells.j0 kq l0 a1 a2 a3 a4 a5 x32_6 = some r) ∧ Aside0 (kq ≤ k) ∧ Aside0 (Below w.heap.size w wc))
 case first =>
  have H := HC7.out
  clear HC7
  replace H := Option.bind_eq_some_iff.mp H
  obtain ⟨t241, A80, H⟩ := H
  replace H : (if t241 = true then (stowagelaw20_ListingTells.j0 k l0 a1 a2 a3 a4 a5 true) else ((stowagelaw20_long.f k (([a1, a2, a3, a4] : List ByteArray))).bind fun t245 => (stowagelaw20_ListingTells.j0 k l0 a1 a2 a3 a4 a5 t245))) = some r := H
  have A8 := Aside0.mk A80
  clear A80
  by_cases c9 : t241 = true
  ·subst c9
   have H1 : (stowagelaw20_ListingTells.j0 k l0 a1 a2 a3 a4 a5 true) = some r := by rw [if_pos rfl] at H; exact H
   clear H
   have H := H1
   clear H1
   have H' := Aside0.mk H
   clear H
   go_wp2_with (first|((with_reducible refine gate_callee (f := 8) rfl ?_); refine goesL_ (some 24) rfl rfl Try.func8 (by kernel_rfl) rfl #[.slice A0 l0.length c0] rfl (by (try simp only [List.map_toArray, List.map_cons, List.map_nil]); first|done|rfl|(simp only [List.length_drop, List.length_take]; rfl)) ?_; (with_reducible refine (stowagekit_LargeEntries.calls k _ _ l0 true _ ?side1 ?side2 A8.out).mono ?_); (case side1 => repeat (first|exact (Kd.C_below HR0.out HB.out)|(with_reducible refine Kd.C_alloc ?_ _)|(with_reducible refine Kd.C_drewN ?_ _)|(with_reducible refine Kd.C_drew ?_))); (case side2 => exact HC0.out); rintro e w' ⟨rfl, ⟨nd, rfl⟩⟩; refine ⟨_, rfl, ?_⟩))
   go_meet
   case rel => exact ⟨_, (true), (by first|rfl|(simp; done)|(simp [*]; done)), H', ⟨by first|omega|exact Nat.le_refl _⟩, ⟨by repeat (first|(with_reducible first|exact HB.out|apply below_alloc|apply pw_below_drewN|apply below_drew1)|exact HB.out)⟩⟩
  ·replace c9 := Bool.eq_false_iff.mpr c9
   subst c9
   have H1 : ((stowagelaw20_long.f k (([a1, a2, a3, a4] : List ByteArray))).bind fun t245 => (stowagelaw20_ListingTells.j0 k l0 a1 a2 a3 a4 a5 t245)) = some r := by rw [if_neg (show ¬ (false = true) by decide)] at H; exact H
   clear H
   have H := H1
   clear H1
   obtain ⟨y242, hy242⟩ : ∃ y_ : List ByteArray, y_ = (([a1, a2, a3, a4] : List ByteArray)) := ⟨_, rfl⟩
   replace H : ((stowagelaw20_long.f k y242).bind fun t245 => (stowagelaw20_ListingTells.j0 k l0 a1 a2 a3 a4 a5 t245)) = some r := by first|(rw [hy242]; with_reducible exact H)|(have H2_ := (Option.bind_some _ _).symm.trans H; rw [hy242]; with_reducible exact H2_)|(have H2_ := (Option.bind_some _ _).symm.trans H; with_reducible exact H2_)|with_reducible exact H|(rw [hy242]; exact H)|exact H
   have Ny242 := Aside0.mk hy242
   clear hy242
   replace H := Option.bind_eq_some_iff.mp H
   obtain ⟨t245, A100, H⟩ := H
   replace H : (stowagelaw20_ListingTells.j0 k l0 a1 a2 a3 a4 a5 t245) = some r := H
   have A10 := Aside0.mk A100
   clear A100
   have H' := Aside0.mk H
   clear H
   go_wp2_with (first|((with_reducible refine gate_callee (f := 8) rfl ?_); refine goesL_ (some 24) rfl rfl Try.func8 (by kernel_rfl) rfl #[.slice A0 l0.length c0] rfl (by (try simp only [List.map_toArray, List.map_cons, List.map_nil]); first|done|rfl|(simp only [List.length_drop, List.length_take]; rfl)) ?_; (with_reducible refine (stowagekit_LargeEntries.calls k _ _ l0 false _ ?side1 ?side2 A8.out).mono ?_); (case side1 => repeat (first|exact (Kd.C_below HR0.out HB.out)|(with_reducible refine Kd.C_alloc ?_ _)|(with_reducible refine Kd.C_drewN ?_ _)|(with_reducible refine Kd.C_drew ?_))); (case side2 => exact HC0.out); rintro e w' ⟨rfl, ⟨nd, rfl⟩⟩; refine ⟨_, rfl, ?_⟩)|((with_reducible refine gate_dst (N := 30) rfl ?_); (try (refine gate_guard (by rfl) ?_; dsimp only)); refine Kd.R_lit Kd.string _ 9 ?hg (N := 30) ?hd (xs := ([a1, a2, a3, a4] : List ByteArray)) (inner := [.string a1, .string a2, .string a3, .string a4]) (ok := fun _ => True) (okp := fun _ => True) ?hr ?hp (fun _ hk => hk) trivial (Below.refl _ _) (Nat.le_refl _) (by simp) ?_; (case hd => rfl); (case hg => rfl); (case hr => first|(go_simp; done)|(go_simp; rfl)); (case hp => exact (Reps.one (show Kd.M Kd.string _ _ _ a1 [.string a1] from rfl) (Reps.one (show Kd.M Kd.string _ _ _ a2 [.string a2] from rfl) (Reps.one (show Kd.M Kd.string _ _ _ a3 [.string a3] from rfl) (Reps.one (show Kd.M Kd.string _ _ _ a4 [.string a4] from rfl) (Reps.none _ _)))))); intro v243 w11 ho12 hb hg_ hnew_; clear hg_ hnew_; (first|rw [← Ny242.out] at ho12|(simp only [Int.reduceToNat] at ho12; rw [← Ny242.out] at ho12)); have n0_ := Aside0.mk (Kd.R_lower ho12 (below_size (by repeat (first|(with_reducible first|exact HB.out|apply below_alloc|apply pw_below_drewN|apply below_drew1)|exact HB.out)))); have n1_ := Aside0.mk (below_step (by repeat (first|(with_reducible first|exact HB.out|apply below_alloc|apply pw_below_drewN|apply below_drew1)|exact HB.out)) hb); clear HB; have HO244 := n0_; have HB := n1_; clear n0_ n1_; clear hb ho12; obtain ⟨Ao13, co13, eo13⟩ := Kd.R_slice HO244.out; subst eo13)|(go_at_call 9; (with_reducible refine (stowagelaw20_long.calls k _ _ y242 t245 _ ?side1 ?side2 A10.out).mono ?_); (case side1 => repeat (first|exact (Kd.R_reads' HO244.out).2.2|(with_reducible refine Kd.C_alloc ?_ _)|(with_reducible refine Kd.C_drewN ?_ _)|(with_reducible refine Kd.C_drew ?_))); (case side2 => exact (Kd.R_reads' HO244.out).2.1); rintro e w' ⟨rfl, ⟨nd, rfl⟩⟩))
   go_meet
   case rel => exact ⟨_, (t245), (by first|rfl|(simp; done)|(simp [*]; done)), H', ⟨by first|omega|exact Nat.le_refl _⟩, ⟨by repeat (first|(with_reducible first|exact HB.out|apply below_alloc|apply pw_below_drewN|apply below_drew1)|exact HB.out)⟩⟩
 case rest =>
  clear HC7
  try clear p2
  try clear c3
  try clear c8
  try clear c9
  obtain ⟨kq, x32_6, rfl, HA, HJ6, HB⟩ := hcut
  cases kq with
  | zero => exact absurd HA.out (by simp [stowagelaw20_ListingTells.j0])
  | succ kj6 =>
   have H := HA.out
   clear HA
   simp only [stowagelaw20_ListingTells.j0] at H
   by_cases c14 : x32_6 = true
   ·subst c14
    have H1 : (some true) = some r := by rw [if_pos rfl] at H; exact H
    clear H
    have H := H1
    clear H1
    obtain rfl := Option.some.inj H
    go_wp2
    go_ret
    exact ⟨by first|rfl|(simp [errW_none, errW_some] <;> rfl)|(simp [*, errW_none, errW_some] <;> rfl), by repeat (first|(with_reducible first|exact HB.out|apply below_alloc|apply pw_below_drewN|apply below_drew1)|exact HB.out)⟩
   ·replace c14 := Bool.eq_false_iff.mpr c14
    subst c14
    have H1 : ((stowagekit_CopyEntries.f kj6 l0).bind fun t246 => ((listing_Keys.f t246 a1 a2 a3 a5).bind fun bt249 => ((stowageref20_Keys.f kj6 l0 a1 a2 a3 a5).bind fun bt257 => ((listing_Versions.f t246 a1 a2 a3 a4 a5).bind fun bt265 => ((stowageref20_Versions.f kj6 l0 a1 a2 a3 a4 a5).bind fun bt273 => ((stowagekit_SamePage.f kj6 bt249.1 bt249.2.1 bt249.2.2.1 bt249.2.2.2.1 bt257.1 bt257.2.1 bt257.2.2.1 bt257.2.2.2.1).bind fun t281 => (if t281 = true then (if bt249.2.2.2.2 = bt257.2.2.2.2 then ((stowagekit_SamePage.f kj6 bt265.1 bt265.2.1 bt265.2.2.1 bt265.2.2.2.1 bt273.1 bt273.2.1 bt273.2.2.1 bt273.2.2.2.1).bind fun t282 => (if t282 = true then (if bt265.2.2.2.2 = bt273.2.2.2.2 then ((listing_Check.f kj6 t246).bind fun t283 => ((stowageref20_Check.f kj6 l0).bind fun t284 => (if t283 = t284 then ((stowagekit_SameEntries.f kj6 t246 l0).bind fun t285 => (stowagelaw20_ListingTells.j1 kj6 l0 t246 (!t285) bt249.1 bt249.2.1 bt249.2.2.1 bt249.2.2.2.1 bt265.1 bt265.2.1 bt265.2.2.1 bt265.2.2.2.1 bt273.1 bt273.2.1 bt273.2.2.1 bt273.2.2.2.1)) else (stowagelaw20_ListingTells.j1 kj6 l0 t246 true bt249.1 bt249.2.1 bt249.2.2.1 bt249.2.2.2.1 bt265.1 bt265.2.1 bt265.2.2.1 bt265.2.2.2.1 bt273.1 bt273.2.1 bt273.2.2.1 bt273.2.2.2.1)))) else (stowagelaw20_ListingTells.j1 kj6 l0 t246 true bt249.1 bt249.2.1 bt249.2.2.1 bt249.2.2.2.1 bt265.1 bt265.2.1 bt265.2.2.1 bt265.2.2.2.1 bt273.1 bt273.2.1 bt273.2.2.1 bt273.2.2.2.1)) else (stowagelaw20_ListingTells.j1 kj6 l0 t246 true bt249.1 bt249.2.1 bt249.2.2.1 bt249.2.2.2.1 bt265.1 bt265.2.1 bt265.2.2.1 bt265.2.2.2.1 bt273.1 bt273.2.1 bt273.2.2.1 bt273.2.2.2.1))) else (stowagelaw20_ListingTells.j1 kj6 l0 t246 true bt249.1 bt249.2.1 bt249.2.2.1 bt249.2.2.2.1 bt265.1 bt265.2.1 bt265.2.2.1 bt265.2.2.2.1 bt273.1 bt273.2.1 bt273.2.2.1 bt273.2.2.2.1)) else (stowagelaw20_ListingTells.j1 kj6 l0 t246 true bt249.1 bt249.2.1 bt249.2.2.1 bt249.2.2.2.1 bt265.1 bt265.2.1 bt265.2.2.1 bt265.2.2.2.1 bt273.1 bt273.2.1 bt273.2.2.1 bt273.2.2.2.1)))))))) = some r := by rw [if_neg (show ¬ (false = true) by decide)] at H; exact H
    clear H
    have H := H1
    clear H1
    replace H := Option.bind_eq_some_iff.mp H
    obtain ⟨t246, A150, H⟩ := H
    replace H : ((listing_Keys.f t246 a1 a2 a3 a5).bind fun bt249 => ((stowageref20_Keys.f kj6 l0 a1 a2 a3 a5).bind fun bt257 => ((listing_Versions.f t246 a1 a2 a3 a4 a5).bind fun bt265 => ((stowageref20_Versions.f kj6 l0 a1 a2 a3 a4 a5).bind fun bt273 => ((stowagekit_SamePage.f kj6 bt249.1 bt249.2.1 bt249.2.2.1 bt249.2.2.2.1 bt257.1 bt257.2.1 bt257.2.2.1 bt257.2.2.2.1).bind fun t281 => (if t281 = true then (if bt249.2.2.2.2 = bt257.2.2.2.2 then ((stowagekit_SamePage.f kj6 bt265.1 bt265.2.1 bt265.2.2.1 bt265.2.2.2.1 bt273.1 bt273.2.1 bt273.2.2.1 bt273.2.2.2.1).bind fun t282 => (if t282 = true then (if bt265.2.2.2.2 = bt273.2.2.2.2 then ((listing_Check.f kj6 t246).bind fun t283 => ((stowageref20_Check.f kj6 l0).bind fun t284 => (if t283 = t284 then ((stowagekit_SameEntries.f kj6 t246 l0).bind fun t285 => (stowagelaw20_ListingTells.j1 kj6 l0 t246 (!t285) bt249.1 bt249.2.1 bt249.2.2.1 bt249.2.2.2.1 bt265.1 bt265.2.1 bt265.2.2.1 bt265.2.2.2.1 bt273.1 bt273.2.1 bt273.2.2.1 bt273.2.2.2.1)) else (stowagelaw20_ListingTells.j1 kj6 l0 t246 true bt249.1 bt249.2.1 bt249.2.2.1 bt249.2.2.2.1 bt265.1 bt265.2.1 bt265.2.2.1 bt265.2.2.2.1 bt273.1 bt273.2.1 bt273.2.2.1 bt273.2.2.2.1)))) else (stowagelaw20_ListingTells.j1 kj6 l0 t246 true bt249.1 bt249.2.1 bt249.2.2.1 bt249.2.2.2.1 bt265.1 bt265.2.1 bt265.2.2.1 bt265.2.2.2.1 bt273.1 bt273.2.1 bt273.2.2.1 bt273.2.2.2.1)) else (stowagelaw20_ListingTells.j1 kj6 l0 t246 true bt249.1 bt249.2.1 bt249.2.2.1 bt249.2.2.2.1 bt265.1 bt265.2.1 bt265.2.2.1 bt265.2.2.2.1 bt273.1 bt273.2.1 bt273.2.2.1 bt273.2.2.2.1))) else (stowagelaw20_ListingTells.j1 kj6 l0 t246 true bt249.1 bt249.2.1 bt249.2.2.1 bt249.2.2.2.1 bt265.1 bt265.2.1 bt265.2.2.1 bt265.2.2.2.1 bt273.1 bt273.2.1 bt273.2.2.1 bt273.2.2.2.1)) else (stowagelaw20_ListingTells.j1 kj6 l0 t246 true bt249.1 bt249.2.1 bt249.2.2.1 bt249.2.2.2.1 bt265.1 bt265.2.1 bt265.2.2.1 bt265.2.2.2.1 bt273.1 bt273.2.1 bt273.2.2.1 bt273.2.2.2.1))))))) = some r := H
    have A15 := Aside0.mk A150
    clear A150
    replace H := Option.bind_eq_some_iff.mp H
    obtain ⟨⟨t249, t252, t253, t254, t255⟩, A160, H⟩ := H
    replace H : ((stowageref20_Keys.f kj6 l0 a1 a2 a3 a5).bind fun bt257 => ((listing_Versions.f t246 a1 a2 a3 a4 a5).bind fun bt265 => ((stowageref20_Versions.f kj6 l0 a1 a2 a3 a4 a5).bind fun bt273 => ((stowagekit_SamePage.f kj6 t249 t252 t253 t254 bt257.1 bt257.2.1 bt257.2.2.1 bt257.2.2.2.1).bind fun t281 => (if t281 = true then (if t255 = bt257.2.2.2.2 then ((stowagekit_SamePage.f kj6 bt265.1 bt265.2.1 bt265.2.2.1 bt265.2.2.2.1 bt273.1 bt273.2.1 bt273.2.2.1 bt273.2.2.2.1).bind fun t282 => (if t282 = true then (if bt265.2.2.2.2 = bt273.2.2.2.2 then ((listing_Check.f kj6 t246).bind fun t283 => ((stowageref20_Check.f kj6 l0).bind fun t284 => (if t283 = t284 then ((stowagekit_SameEntries.f kj6 t246 l0).bind fun t285 => (stowagelaw20_ListingTells.j1 kj6 l0 t246 (!t285) t249 t252 t253 t254 bt265.1 bt265.2.1 bt265.2.2.1 bt265.2.2.2.1 bt273.1 bt273.2.1 bt273.2.2.1 bt273.2.2.2.1)) else (stowagelaw20_ListingTells.j1 kj6 l0 t246 true t249 t252 t253 t254 bt265.1 bt265.2.1 bt265.2.2.1 bt265.2.2.2.1 bt273.1 bt273.2.1 bt273.2.2.1 bt273.2.2.2.1)))) else (stowagelaw20_ListingTells.j1 kj6 l0 t246 true t249 t252 t253 t254 bt265.1 bt265.2.1 bt265.2.2.1 bt265.2.2.2.1 bt273.1 bt273.2.1 bt273.2.2.1 bt273.2.2.2.1)) else (stowagelaw20_ListingTells.j1 kj6 l0 t246 true t249 t252 t253 t254 bt265.1 bt265.2.1 bt265.2.2.1 bt265.2.2.2.1 bt273.1 bt273.2.1 bt273.2.2.1 bt273.2.2.2.1))) else (stowagelaw20_ListingTells.j1 kj6 l0 t246 true t249 t252 t253 t254 bt265.1 bt265.2.1 bt265.2.2.1 bt265.2.2.2.1 bt273.1 bt273.2.1 bt273.2.2.1 bt273.2.2.2.1)) else (stowagelaw20_ListingTells.j1 kj6 l0 t246 true t249 t252 t253 t254 bt265.1 bt265.2.1 bt265.2.2.1 bt265.2.2.2.1 bt273.1 bt273.2.1 bt273.2.2.1 bt273.2.2.2.1)))))) = some r := H
    have A16 := Aside0.mk A160
    clear A160
    replace H := Option.bind_eq_some_iff.mp H
    obtain ⟨⟨t257, t260, t261, t262, t263⟩, A170, H⟩ := H
    replace H : ((listing_Versions.f t246 a1 a2 a3 a4 a5).bind fun bt265 => ((stowageref20_Versions.f kj6 l0 a1 a2 a3 a4 a5).bind fun bt273 => ((stowagekit_SamePage.f kj6 t249 t252 t253 t254 t257 t260 t261 t262).bind fun t281 => (if t281 = true then (if t255 = t263 then ((stowagekit_SamePage.f kj6 bt265.1 bt265.2.1 bt265.2.2.1 bt265.2.2.2.1 bt273.1 bt273.2.1 bt273.2.2.1 bt273.2.2.2.1).bind fun t282 => (if t282 = true then (if bt265.2.2.2.2 = bt273.2.2.2.2 then ((listing_Check.f kj6 t246).bind fun t283 => ((stowageref20_Check.f kj6 l0).bind fun t284 => (if t283 = t284 then ((stowagekit_SameEntries.f kj6 t246 l0).bind fun t285 => (stowagelaw20_ListingTells.j1 kj6 l0 t246 (!t285) t249 t252 t253 t254 bt265.1 bt265.2.1 bt265.2.2.1 bt265.2.2.2.1 bt273.1 bt273.2.1 bt273.2.2.1 bt273.2.2.2.1)) else (stowagelaw20_ListingTells.j1 kj6 l0 t246 true t249 t252 t253 t254 bt265.1 bt265.2.1 bt265.2.2.1 bt265.2.2.2.1 bt273.1 bt273.2.1 bt273.2.2.1 bt273.2.2.2.1)))) else (stowagelaw20_ListingTells.j1 kj6 l0 t246 true t249 t252 t253 t254 bt265.1 bt265.2.1 bt265.2.2.1 bt265.2.2.2.1 bt273.1 bt273.2.1 bt273.2.2.1 bt273.2.2.2.1)) else (stowagelaw20_ListingTells.j1 kj6 l0 t246 true t249 t252 t253 t254 bt265.1 bt265.2.1 bt265.2.2.1 bt265.2.2.2.1 bt273.1 bt273.2.1 bt273.2.2.1 bt273.2.2.2.1))) else (stowagelaw20_ListingTells.j1 kj6 l0 t246 true t249 t252 t253 t254 bt265.1 bt265.2.1 bt265.2.2.1 bt265.2.2.2.1 bt273.1 bt273.2.1 bt273.2.2.1 bt273.2.2.2.1)) else (stowagelaw20_ListingTells.j1 kj6 l0 t246 true t249 t252 t253 t254 bt265.1 bt265.2.1 bt265.2.2.1 bt265.2.2.2.1 bt273.1 bt273.2.1 bt273.2.2.1 bt273.2.2.2.1))))) = some r := H
    have A17 := Aside0.mk A170
    clear A170
    replace H := Option.bind_eq_some_iff.mp H
    obtain ⟨⟨t265, t268, t269, t270, t271⟩, A180, H⟩ := H
    replace H : ((stowageref20_Versions.f kj6 l0 a1 a2 a3 a4 a5).bind fun bt273 => ((stowagekit_SamePage.f kj6 t249 t252 t253 t254 t257 t260 t261 t262).bind fun t281 => (if t281 = true then (if t255 = t263 then ((stowagekit_SamePage.f kj6 t265 t268 t269 t270 bt273.1 bt273.2.1 bt273.2.2.1 bt273.2.2.2.1).bind fun t282 => (if t282 = true then (if t271 = bt273.2.2.2.2 then ((listing_Check.f kj6 t246).bind fun t283 => ((stowageref20_Check.f kj6 l0).bind fun t284 => (if t283 = t284 then ((stowagekit_SameEntries.f kj6 t246 l0).bind fun t285 => (stowagelaw20_ListingTells.j1 kj6 l0 t246 (!t285) t249 t252 t253 t254 t265 t268 t269 t270 bt273.1 bt273.2.1 bt273.2.2.1 bt273.2.2.2.1)) else (stowagelaw20_ListingTells.j1 kj6 l0 t246 true t249 t252 t253 t254 t265 t268 t269 t270 bt273.1 bt273.2.1 bt273.2.2.1 bt273.2.2.2.1)))) else (stowagelaw20_ListingTells.j1 kj6 l0 t246 true t249 t252 t253 t254 t265 t268 t269 t270 bt273.1 bt273.2.1 bt273.2.2.1 bt273.2.2.2.1)) else (stowagelaw20_ListingTells.j1 kj6 l0 t246 true t249 t252 t253 t254 t265 t268 t269 t270 bt273.1 bt273.2.1 bt273.2.2.1 bt273.2.2.2.1))) else (stowagelaw20_ListingTells.j1 kj6 l0 t246 true t249 t252 t253 t254 t265 t268 t269 t270 bt273.1 bt273.2.1 bt273.2.2.1 bt273.2.2.2.1)) else (stowagelaw20_ListingTells.j1 kj6 l0 t246 true t249 t252 t253 t254 t265 t268 t269 t270 bt273.1 bt273.2.1 bt273.2.2.1 bt273.2.2.2.1)))) = some r := H
    have A18 := Aside0.mk A180
    clear A180
    replace H := Option.bind_eq_some_iff.mp H
    obtain ⟨⟨t273, t276, t277, t278, t279⟩, A190, H⟩ := H
    replace H : ((stowagekit_SamePage.f kj6 t249 t252 t253 t254 t257 t260 t261 t262).bind fun t281 => (if t281 = true then (if t255 = t263 then ((stowagekit_SamePage.f kj6 t265 t268 t269 t270 t273 t276 t277 t278).bind fun t282 => (if t282 = true then (if t271 = t279 then ((listing_Check.f kj6 t246).bind fun t283 => ((stowageref20_Check.f kj6 l0).bind fun t284 => (if t283 = t284 then ((stowagekit_SameEntries.f kj6 t246 l0).bind fun t285 => (stowagelaw20_ListingTells.j1 kj6 l0 t246 (!t285) t249 t252 t253 t254 t265 t268 t269 t270 t273 t276 t277 t278)) else (stowagelaw20_ListingTells.j1 kj6 l0 t246 true t249 t252 t253 t254 t265 t268 t269 t270 t273 t276 t277 t278)))) else (stowagelaw20_ListingTells.j1 kj6 l0 t246 true t249 t252 t253 t254 t265 t268 t269 t270 t273 t276 t277 t278)) else (stowagelaw20_ListingTells.j1 kj6 l0 t246 true t249 t252 t253 t254 t265 t268 t269 t270 t273 t276 t277 t278))) else (stowagelaw20_ListingTells.j1 kj6 l0 t246 true t249 t252 t253 t254 t265 t268 t269 t270 t273 t276 t277 t278)) else (stowagelaw20_ListingTells.j1 kj6 l0 t246 true t249 t252 t253 t254 t265 t268 t269 t270 t273 t276 t277 t278))) = some r := H
    have A19 := Aside0.mk A190
    clear A190
    have HC20 := Aside0.mk H
    clear H
    go_upto_region 8 with (first|((with_reducible refine gate_callee (f := 10) rfl ?_); refine goesL_ (some 34) rfl rfl Try.func10 (by kernel_rfl) rfl #[.slice A0 l0.length c0] rfl (by (try simp only [List.map_toArray, List.map_cons, List.map_nil]); first|done|rfl|(simp only [List.length_drop, List.length_take]; rfl)) ?_; (with_reducible refine (stowagekit_CopyEntries.calls kj6 _ _ l0 t246 _ ?side1 ?side2 A15.out).mono ?_); (case side1 => repeat (first|exact (Kd.C_below HR0.out HB.out)|(with_reducible refine Kd.C_alloc ?_ _)|(with_reducible refine Kd.C_drewN ?_ _)|(with_reducible refine Kd.C_drew ?_))); (case side2 => exact HC0.out); rintro e w21 ⟨v247, rfl, ho0, hb⟩; refine ⟨_, rfl, ?_⟩; have n0_ := Aside0.mk (Kd.S_lower ho0 (below_size (by repeat (first|(with_reducible first|exact HB.out|apply below_alloc|apply pw_below_drewN|apply below_drew1)|exact HB.out)))); have n1_ := Aside0.mk (below_step (by repeat (first|(with_reducible first|exact HB.out|apply below_alloc|apply pw_below_drewN|apply below_drew1)|exact HB.out)) hb); clear HB; have HO248 := n0_; have HB := n1_; clear n0_ n1_; (try clear hb); (try clear hb2); (try clear hk); (try clear hi); (try clear ho0); obtain ⟨Ao22, co22, eo22⟩ := Kd.S_slice HO248.out; subst eo22)|((with_reducible refine gate_callee (f := 11) rfl ?_); refine goesL_ (some 41) rfl rfl Try.func11 (by kernel_rfl) rfl #[.slice Ao22 t246.length co22, .string a1, .string a2, .string a3, .int .i64 a5] rfl (by (try simp only [List.map_toArray, List.map_cons, List.map_nil]); first|done|rfl|(simp only [List.length_drop, List.length_take]; rfl)) ?_; (with_reducible refine (listing_Keys.calls _ _ t246 a1 a2 a3 a5 t249 t252 t253 t254 t255 _ ?side1 ?side2 ?side3 A16.out).mono ?_); (case side1 => first|exact HG.out|exact GM.below (by repeat (first|(with_reducible first|exact HB.out|apply below_alloc|apply pw_below_drewN|apply below_drew1)|exact HB.out)) HG.out|(repeat (first|exact HG.out|apply GM.drewN|apply GM.drew))); (case side2 => repeat (first|exact (Kd.S_reads' HO248.out).2.2|(with_reducible refine Kd.C_alloc ?_ _)|(with_reducible refine Kd.C_drewN ?_ _)|(with_reducible refine Kd.C_drew ?_))); (case side3 => exact (Kd.S_reads' HO248.out).2.1); rintro e w23 ⟨v250, rfl, ho0, hb⟩; refine ⟨_, rfl, ?_⟩; have n0_ := Aside0.mk (Kd.S_below (by (with_reducible repeat (first|apply Kd.S_alloc|apply Kd.S_drewN|apply Kd.S_drew)); exact HO248.out) hb); have n1_ := Aside0.mk (Kd.R_lower ho0 (below_size (by repeat (first|(with_reducible first|exact HB.out|apply below_alloc|apply pw_below_drewN|apply below_drew1)|exact HB.out)))); have n2_ := Aside0.mk (below_step (by repeat (first|(with_reducible first|exact HB.out|apply below_alloc|apply pw_below_drewN|apply below_drew1)|exact HB.out)) hb); clear HO248; clear HB; have HO248 := n0_; have HO251 := n1_; have HB := n2_; clear n0_ n1_ n2_; (try clear hb); (try clear hb2); (try clear hk); (try clear hi); (try clear ho0))|((with_reducible refine gate_dst (N := 14) rfl ?_); (try (refine gate_guard (by rfl) ?_; dsimp only)); refine box_event ?hg (N := 14) ?hd (cs := #[.slice none 0 0, .bool false, .string (⟨#[]⟩ : ByteArray), .string (⟨#[]⟩ : ByteArray)]) (t := 28) ?hr ?_; (case hd => rfl); (case hg => rfl); (case hr => first|(go_simp; done)|(go_simp; rfl)); intro gb256 hg w24 hbox hb; have n0_ := Aside0.mk (Kd.S_below (by (with_reducible repeat (first|apply Kd.S_alloc|apply Kd.S_drewN|apply Kd.S_drew)); exact HO248.out) hb); have n1_ := Aside0.mk (Kd.R_below (by (with_reducible repeat (first|apply Kd.R_alloc|apply Kd.R_drewN|apply Kd.R_drew)); exact HO251.out) hb); have n2_ := Aside0.mk (below_step (by repeat (first|(with_reducible first|exact HB.out|apply below_alloc|apply pw_below_drewN|apply below_drew1)|exact HB.out)) hb); have n3_ := Aside0.mk (hbox); have n4_ := Aside0.mk ((by rw [hg]; exact (below_size (by repeat (first|(with_reducible first|exact HB.out|apply below_alloc|apply pw_below_drewN|apply below_drew1)|exact HB.out))) : w.heap.size ≤ gb256)); have n5_ := Aside0.mk ((by rw [hg]; exact (below_size (by repeat (first|(with_reducible first|exact HB.out|apply below_alloc|apply pw_below_drewN|apply below_drew1)|exact HB.out))) : w.heap.size ≤ gb256)); clear HO248; clear HO251; clear HB; have HO248 := n0_; have HO251 := n1_; have HB := n2_; have BK256 := n3_; have GW256 := n4_; have GE256 := n5_; clear n0_ n1_ n2_ n3_ n4_ n5_; clear hb hbox hg; obtain ⟨Ao25, co25, eo25⟩ := Kd.R_slice HO251.out; subst eo25; have hcz26_0 : w24.cell? ⟨gb256, 0, none⟩ = some (.slice none 0 0) := (blk_cell BK256.out 0).trans rfl; have hcz26_1 : w24.cell? ⟨gb256, 1, none⟩ = some (.bool false) := (blk_cell BK256.out 1).trans rfl; have hcz26_2 : w24.cell? ⟨gb256, 2, none⟩ = some (.string (⟨#[]⟩ : ByteArray)) := (blk_cell BK256.out 2).trans rfl; have hcz26_3 : w24.cell? ⟨gb256, 3, none⟩ = some (.string (⟨#[]⟩ : ByteArray)) := (blk_cell BK256.out 3).trans rfl; have hfz26_0 := blk_frozen BK256.out 0; have hfz26_1 := blk_frozen BK256.out 1; have hfz26_2 := blk_frozen BK256.out 2; have hfz26_3 := blk_frozen BK256.out 3)|((with_reducible refine gate_callee (f := 12) rfl ?_); refine goesL_ (some 50) rfl rfl Try.func12 (by kernel_rfl) rfl #[.slice A0 l0.length c0, .string a1, .string a2, .string a3, .int .i64 a5] rfl (by (try simp only [List.map_toArray, List.map_cons, List.map_nil]); first|done|rfl|(simp only [List.length_drop, List.length_take]; rfl)) ?_; (with_reducible refine (stowageref20_Keys.calls kj6 _ _ l0 a1 a2 a3 a5 t257 t260 t261 t262 t263 _ ?side1 ?side2 A17.out).mono ?_); (case side1 => exact Kd.C_below HR0.out (by repeat (first|(with_reducible first|exact HB.out|apply below_alloc|apply pw_below_drewN|apply below_drew1|refine below_set ?_ GE256.out)|exact HB.out))); (case side2 => exact HC0.out); rintro e w27 ⟨v258, rfl, ho0, hb⟩; refine ⟨_, rfl, ?_⟩; have n0_ := Aside0.mk (Kd.S_below (by (with_reducible repeat (first|apply Kd.S_alloc|apply Kd.S_drewN|apply Kd.S_drew)); exact (Kd.S_mono (Kd.S_far (p := ⟨gb256, 3, none⟩) (Kd.S_far (p := ⟨gb256, 2, none⟩) (Kd.S_far (p := ⟨gb256, 1, none⟩) (Kd.S_far (p := ⟨gb256, 0, none⟩) (Kd.S_types HO248.out BK256.out (by decide)) (fun _ hk => hk.2) (.slice Ao25 t249.length co25)) (fun _ hk => hk.2) (.bool t252)) (fun _ hk => hk.2) (.string t253)) (fun _ hk => hk.2) (.string t254)) (fun _ h_ => h_.1))) hb); have n1_ := Aside0.mk (Kd.R_elder' (by (with_reducible repeat (first|apply Kd.R_alloc|apply Kd.R_drewN|apply Kd.R_drew)); exact (Kd.R_mono (Kd.R_far (p := ⟨gb256, 3, none⟩) (Kd.R_far (p := ⟨gb256, 2, none⟩) (Kd.R_far (p := ⟨gb256, 1, none⟩) (Kd.R_far (p := ⟨gb256, 0, none⟩) (Kd.R_types HO251.out BK256.out (by decide)) (fun _ hk => hk.2) (.slice Ao25 t249.length co25)) (fun _ hk => hk.2) (.bool t252)) (fun _ hk => hk.2) (.string t253)) (fun _ hk => hk.2) (.string t254)) (fun _ h_ => h_.1))) (Kd.R_base ho0) hb); have n2_ := Aside0.mk (Kd.R_lower (Kd.R_new' ho0 (Kd.R_lt (by (with_reducible repeat (first|apply Kd.R_alloc|apply Kd.R_drewN|apply Kd.R_drew)); exact (Kd.R_mono (Kd.R_far (p := ⟨gb256, 3, none⟩) (Kd.R_far (p := ⟨gb256, 2, none⟩) (Kd.R_far (p := ⟨gb256, 1, none⟩) (Kd.R_far (p := ⟨gb256, 0, none⟩) (Kd.R_types HO251.out BK256.out (by decide)) (fun _ hk => hk.2) (.slice Ao25 t249.length co25)) (fun _ hk => hk.2) (.bool t252)) (fun _ hk => hk.2) (.string t253)) (fun _ hk => hk.2) (.string t254)) (fun _ h_ => h_.1))))) (below_size (by repeat (first|(with_reducible first|exact HB.out|apply below_alloc|apply pw_below_drewN|apply below_drew1|refine below_set ?_ GE256.out)|exact HB.out)))); have n3_ := Aside0.mk (blk_below (g := gb256) (o := .cells #[.slice Ao25 t249.length co25, .bool t252, .string t253, .string t254] 28 (0, 0)) (by (with_reducible repeat (first|refine blk_drewN ?_ _|refine blk_drew ?_|refine blk_alloc ?_ _)); refine blk_put (cs := #[.slice Ao25 t249.length co25, .bool t252, .string t253, .string (⟨#[]⟩ : ByteArray)]) ?_ 3 _ rfl; (with_reducible repeat (first|refine blk_drewN ?_ _|refine blk_drew ?_|refine blk_alloc ?_ _)); refine blk_put (cs := #[.slice Ao25 t249.length co25, .bool t252, .string (⟨#[]⟩ : ByteArray), .string (⟨#[]⟩ : ByteArray)]) ?_ 2 _ rfl; (with_reducible repeat (first|refine blk_drewN ?_ _|refine blk_drew ?_|refine blk_alloc ?_ _)); refine blk_put (cs := #[.slice Ao25 t249.length co25, .bool false, .string (⟨#[]⟩ : ByteArray), .string (⟨#[]⟩ : ByteArray)]) ?_ 1 _ rfl; (with_reducible repeat (first|refine blk_drewN ?_ _|refine blk_drew ?_|refine blk_alloc ?_ _)); refine blk_put (cs := #[.slice none 0 0, .bool false, .string (⟨#[]⟩ : ByteArray), .string (⟨#[]⟩ : ByteArray)]) ?_ 0 _ rfl; (with_reducible repeat (first|refine blk_drewN ?_ _|refine blk_drew ?_|refine blk_alloc ?_ _)); exact BK256.out) hb); have n4_ := Aside0.mk (below_step (by repeat (first|(with_reducible first|exact HB.out|apply below_alloc|apply pw_below_drewN|apply below_drew1|refine below_set ?_ GE256.out)|exact HB.out)) hb); clear HO248; clear HO251; clear BK256; clear HB; have HO248 := n0_; have HO251 := n1_; have HO259 := n2_; have BK256 := n3_; have HB := n4_; clear n0_ n1_ n2_ n3_ n4_; (try clear hb); (try clear hb2); (try clear hk); (try clear hi); (try clear ho0))|((with_reducible refine gate_dst (N := 16) rfl ?_); (try (refine gate_guard (by rfl) ?_; dsimp only)); refine box_event ?hg (N := 16) ?hd (cs := #[.slice none 0 0, .bool false, .string (⟨#[]⟩ : ByteArray), .string (⟨#[]⟩ : ByteArray)]) (t := 28) ?hr ?_; (case hd => rfl); (case hg => rfl); (case hr => first|(go_simp; done)|(go_simp; rfl)); intro gb264 hg w28 hbox hb; have n0_ := Aside0.mk (Kd.S_below (by (with_reducible repeat (first|apply Kd.S_alloc|apply Kd.S_drewN|apply Kd.S_drew)); exact HO248.out) hb); have n1_ := Aside0.mk (Kd.R_below (by (with_reducible repeat (first|apply Kd.R_alloc|apply Kd.R_drewN|apply Kd.R_drew)); exact HO251.out) hb); have n2_ := Aside0.mk (Kd.R_below (by (with_reducible repeat (first|apply Kd.R_alloc|apply Kd.R_drewN|apply Kd.R_drew)); exact HO259.out) hb); have n3_ := Aside0.mk (blk_below (g := gb256) (o := .cells #[.slice Ao25 t249.length co25, .bool t252, .string t253, .string t254] 28 (0, 0)) (by (with_reducible repeat (first|refine blk_drewN ?_ _|refine blk_drew ?_|refine blk_alloc ?_ _)); exact BK256.out) hb); have n4_ := Aside0.mk (below_step (by repeat (first|(with_reducible first|exact HB.out|apply below_alloc|apply pw_below_drewN|apply below_drew1|refine below_set ?_ GE256.out)|exact HB.out)) hb); have n5_ := Aside0.mk (hbox); have n6_ := Aside0.mk ((by rw [hg]; exact (below_size (by repeat (first|(with_reducible first|exact HB.out|apply below_alloc|apply pw_below_drewN|apply below_drew1|refine below_set ?_ GE256.out)|exact HB.out))) : w.heap.size ≤ gb264)); have n7_ := Aside0.mk ((by rw [hg]; exact (below_size (by repeat (first|(with_reducible first|exact HB.out|apply below_alloc|apply pw_below_drewN|apply below_drew1|refine below_set ?_ GE256.out)|exact HB.out))) : w.heap.size ≤ gb264)); have n8_ := Aside0.mk ((by rw [hg]; exact Nat.ne_of_lt (blk_lt (g := gb256) (o := .cells #[.slice Ao25 t249.length co25, .bool t252, .string t253, .string t254] 28 (0, 0)) (by (with_reducible repeat (first|refine blk_drewN ?_ _|refine blk_drew ?_|refine blk_alloc ?_ _)); exact BK256.out)) : gb256 ≠ gb264)); have n9_ := Aside0.mk ((by rw [hg]; exact Nat.ne_of_gt (blk_lt (g := gb256) (o := .cells #[.slice Ao25 t249.length co25, .bool t252, .string t253, .string t254] 28 (0, 0)) (by (with_reducible repeat (first|refine blk_drewN ?_ _|refine blk_drew ?_|refine blk_alloc ?_ _)); exact BK256.out)) : gb264 ≠ gb256)); clear HO248; clear HO251; clear HO259; clear BK256; clear HB; have HO248 := n0_; have HO251 := n1_; have HO259 := n2_; have BK256 := n3_; have HB := n4_; have BK264 := n5_; have GW264 := n6_; have GE264 := n7_; have NB256_264 := n8_; have NB264_256 := n9_; clear n0_ n1_ n2_ n3_ n4_ n5_ n6_ n7_ n8_ n9_; clear hb hbox hg; obtain ⟨Ao29, co29, eo29⟩ := Kd.R_slice HO259.out; subst eo29; have hnb30 := NB264_256.out; have hnc30 := NB256_264.out; have hcz31_0 : w28.cell? ⟨gb264, 0, none⟩ = some (.slice none 0 0) := (blk_cell BK264.out 0).trans rfl; have hcz31_1 : w28.cell? ⟨gb264, 1, none⟩ = some (.bool false) := (blk_cell BK264.out 1).trans rfl; have hcz31_2 : w28.cell? ⟨gb264, 2, none⟩ = some (.string (⟨#[]⟩ : ByteArray)) := (blk_cell BK264.out 2).trans rfl; have hcz31_3 : w28.cell? ⟨gb264, 3, none⟩ = some (.string (⟨#[]⟩ : ByteArray)) := (blk_cell BK264.out 3).trans rfl; have hfz31_0 := blk_frozen BK264.out 0; have hfz31_1 := blk_frozen BK264.out 1; have hfz31_2 := blk_frozen BK264.out 2; have hfz31_3 := blk_frozen BK264.out 3)|((with_reducible refine gate_callee (f := 13) rfl ?_); refine goesL_ (some 60) rfl rfl Try.func13 (by kernel_rfl) rfl #[.slice Ao22 t246.length co22, .string a1, .string a2, .string a3, .string a4, .int .i64 a5] rfl (by (try simp only [List.map_toArray, List.map_cons, List.map_nil]); first|done|rfl|(simp only [List.length_drop, List.length_take]; rfl)) ?_; (with_reducible refine (listing_Versions.calls _ _ t246 a1 a2 a3 a4 a5 t265 t268 t269 t270 t271 _ ?side1 ?side2 ?side3 A18.out).mono ?_); (case side1 => first|exact HG.out|exact GM.below (by repeat (first|(with_reducible first|exact HB.out|apply below_alloc|apply pw_below_drewN|apply below_drew1|refine below_set ?_ GE256.out|refine below_set ?_ GE264.out)|exact HB.out)) HG.out|(repeat (first|exact HG.out|apply GM.drewN|apply GM.drew))); (case side2 => refine (Kd.S_reads' (e := 47) (base := w.heap.size) (ok := fun k_ => True) (n := t246.length) (c := co22) ?_).2.2; exact (by (with_reducible repeat (first|apply Kd.S_alloc|apply Kd.S_drewN|apply Kd.S_drew)); exact (Kd.S_mono (Kd.S_far (p := ⟨gb264, 3, none⟩) (Kd.S_far (p := ⟨gb264, 2, none⟩) (Kd.S_far (p := ⟨gb264, 1, none⟩) (Kd.S_far (p := ⟨gb264, 0, none⟩) (Kd.S_types HO248.out BK264.out (by decide)) (fun _ hk => hk.2) (.slice Ao29 t257.length co29)) (fun _ hk => hk.2) (.bool t260)) (fun _ hk => hk.2) (.string t261)) (fun _ hk => hk.2) (.string t262)) (fun _ h_ => h_.1)))); (case side3 => exact (Kd.S_reads' HO248.out).2.1); rintro e w32 ⟨v266, rfl, ho0, hb⟩; refine ⟨_, rfl, ?_⟩; have n0_ := Aside0.mk (Kd.S_below (by (with_reducible repeat (first|apply Kd.S_alloc|apply Kd.S_drewN|apply Kd.S_drew)); exact (Kd.S_mono (Kd.S_far (p := ⟨gb264, 3, none⟩) (Kd.S_far (p := ⟨gb264, 2, none⟩) (Kd.S_far (p := ⟨gb264, 1, none⟩) (Kd.S_far (p := ⟨gb264, 0, none⟩) (Kd.S_types HO248.out BK264.out (by decide)) (fun _ hk => hk.2) (.slice Ao29 t257.length co29)) (fun _ hk => hk.2) (.bool t260)) (fun _ hk => hk.2) (.string t261)) (fun _ hk => hk.2) (.string t262)) (fun _ h_ => h_.1))) hb); have n1_ := Aside0.mk (Kd.R_elder' (by (with_reducible repeat (first|apply Kd.R_alloc|apply Kd.R_drewN|apply Kd.R_drew)); exact (Kd.R_mono (Kd.R_far (p := ⟨gb264, 3, none⟩) (Kd.R_far (p := ⟨gb264, 2, none⟩) (Kd.R_far (p := ⟨gb264, 1, none⟩) (Kd.R_far (p := ⟨gb264, 0, none⟩) (Kd.R_types HO251.out BK264.out (by decide)) (fun _ hk => hk.2) (.slice Ao29 t257.length co29)) (fun _ hk => hk.2) (.bool t260)) (fun _ hk => hk.2) (.string t261)) (fun _ hk => hk.2) (.string t262)) (fun _ h_ => h_.1))) (Kd.R_base ho0) hb); have n2_ := Aside0.mk (Kd.R_elder' (by (with_reducible repeat (first|apply Kd.R_alloc|apply Kd.R_drewN|apply Kd.R_drew)); exact (Kd.R_mono (Kd.R_far (p := ⟨gb264, 3, none⟩) (Kd.R_far (p := ⟨gb264, 2, none⟩) (Kd.R_far (p := ⟨gb264, 1, none⟩) (Kd.R_far (p := ⟨gb264, 0, none⟩) (Kd.R_types HO259.out BK264.out (by decide)) (fun _ hk => hk.2) (.slice Ao29 t257.length co29)) (fun _ hk => hk.2) (.bool t260)) (fun _ hk => hk.2) (.string t261)) (fun _ hk => hk.2) (.string t262)) (fun _ h_ => h_.1))) (Kd.R_base ho0) hb); have n3_ := Aside0.mk (Kd.R_lower (Kd.R_new' (Kd.R_new' ho0 (Kd.R_lt (by (with_reducible repeat (first|apply Kd.R_alloc|apply Kd.R_drewN|apply Kd.R_drew)); exact (Kd.R_mono (Kd.R_far (p := ⟨gb264, 3, none⟩) (Kd.R_far (p := ⟨gb264, 2, none⟩) (Kd.R_far (p := ⟨gb264, 1, none⟩) (Kd.R_far (p := ⟨gb264, 0, none⟩) (Kd.R_types HO251.out BK264.out (by decide)) (fun _ hk => hk.2) (.slice Ao29 t257.length co29)) (fun _ hk => hk.2) (.bool t260)) (fun _ hk => hk.2) (.string t261)) (fun _ hk => hk.2) (.string t262)) (fun _ h_ => h_.1))))) (Kd.R_lt (by (with_reducible repeat (first|apply Kd.R_alloc|apply Kd.R_drewN|apply Kd.R_drew)); exact (Kd.R_mono (Kd.R_far (p := ⟨gb264, 3, none⟩) (Kd.R_far (p := ⟨gb264, 2, none⟩) (Kd.R_far (p := ⟨gb264, 1, none⟩) (Kd.R_far (p := ⟨gb264, 0, none⟩) (Kd.R_types HO259.out BK264.out (by decide)) (fun _ hk => hk.2) (.slice Ao29 t257.length co29)) (fun _ hk => hk.2) (.bool t260)) (fun _ hk => hk.2) (.string t261)) (fun _ hk => hk.2) (.string t262)) (fun _ h_ => h_.1))))) (below_size (by repeat (first|(with_reducible first|exact HB.out|apply below_alloc|apply pw_below_drewN|apply below_drew1|refine below_set ?_ GE256.out|refine below_set ?_ GE264.out)|exact HB.out)))); have n4_ := Aside0.mk (blk_below (g := gb256) (o := .cells #[.slice Ao25 t249.length co25, .bool t252, .string t253, .string t254] 28 (0, 0)) (by (with_reducible repeat (first|refine blk_drewN ?_ _|refine blk_drew ?_|refine blk_alloc ?_ _)); refine blk_far ?_ NB256_264.out _; (with_reducible repeat (first|refine blk_drewN ?_ _|refine blk_drew ?_|refine blk_alloc ?_ _)); refine blk_far ?_ NB256_264.out _; (with_reducible repeat (first|refine blk_drewN ?_ _|refine blk_drew ?_|refine blk_alloc ?_ _)); refine blk_far ?_ NB256_264.out _; (with_reducible repeat (first|refine blk_drewN ?_ _|refine blk_drew ?_|refine blk_alloc ?_ _)); refine blk_far ?_ NB256_264.out _; (with_reducible repeat (first|refine blk_drewN ?_ _|refine blk_drew ?_|refine blk_alloc ?_ _)); exact BK256.out) hb); have n5_ := Aside0.mk (blk_below (g := gb264) (o := .cells #[.slice Ao29 t257.length co29, .bool t260, .string t261, .string t262] 28 (0, 0)) (by (with_reducible repeat (first|refine blk_drewN ?_ _|refine blk_drew ?_|refine blk_alloc ?_ _)); refine blk_put (cs := #[.slice Ao29 t257.length co29, .bool t260, .string t261, .string (⟨#[]⟩ : ByteArray)]) ?_ 3 _ rfl; (with_reducible repeat (first|refine blk_drewN ?_ _|refine blk_drew ?_|refine blk_alloc ?_ _)); refine blk_put (cs := #[.slice Ao29 t257.length co29, .bool t260, .string (⟨#[]⟩ : ByteArray), .string (⟨#[]⟩ : ByteArray)]) ?_ 2 _ rfl; (with_reducible repeat (first|refine blk_drewN ?_ _|refine blk_drew ?_|refine blk_alloc ?_ _)); refine blk_put (cs := #[.slice Ao29 t257.length co29, .bool false, .string (⟨#[]⟩ : ByteArray), .string (⟨#[]⟩ : ByteArray)]) ?_ 1 _ rfl; (with_reducible repeat (first|refine blk_drewN ?_ _|refine blk_drew ?_|refine blk_alloc ?_ _)); refine blk_put (cs := #[.slice none 0 0, .bool false, .string (⟨#[]⟩ : ByteArray), .string (⟨#[]⟩ : ByteArray)]) ?_ 0 _ rfl; (with_reducible repeat (first|refine blk_drewN ?_ _|refine blk_drew ?_|refine blk_alloc ?_ _)); exact BK264.out) hb); have n6_ := Aside0.mk (below_step (by repeat (first|(with_reducible first|exact HB.out|apply below_alloc|apply pw_below_drewN|apply below_drew1|refine below_set ?_ GE256.out|refine below_set ?_ GE264.out)|exact HB.out)) hb); clear HO248; clear HO251; clear HO259; clear BK256; clear BK264; clear HB; have HO248 := n0_; have HO251 := n1_; have HO259 := n2_; have HO267 := n3_; have BK256 := n4_; have BK264 := n5_; have HB := n6_; clear n0_ n1_ n2_ n3_ n4_ n5_ n6_; (try clear hb); (try clear hb2); (try clear hk); (try clear hi); (try clear ho0))|((with_reducible refine gate_dst (N := 18) rfl ?_); (try (refine gate_guard (by rfl) ?_; dsimp only)); refine box_event ?hg (N := 18) ?hd (cs := #[.slice none 0 0, .bool false, .string (⟨#[]⟩ : ByteArray), .string (⟨#[]⟩ : ByteArray)]) (t := 28) ?hr ?_; (case hd => rfl); (case hg => rfl); (case hr => first|(go_simp; done)|(go_simp; rfl)); intro gb272 hg w33 hbox hb; have n0_ := Aside0.mk (Kd.S_below (by (with_reducible repeat (first|apply Kd.S_alloc|apply Kd.S_drewN|apply Kd.S_drew)); exact HO248.out) hb); have n1_ := Aside0.mk (Kd.R_below (by (with_reducible repeat (first|apply Kd.R_alloc|apply Kd.R_drewN|apply Kd.R_drew)); exact HO251.out) hb); have n2_ := Aside0.mk (Kd.R_below (by (with_reducible repeat (first|apply Kd.R_alloc|apply Kd.R_drewN|apply Kd.R_drew)); exact HO259.out) hb); have n3_ := Aside0.mk (Kd.R_below (by (with_reducible repeat (first|apply Kd.R_alloc|apply Kd.R_drewN|apply Kd.R_drew)); exact HO267.out) hb); have n4_ := Aside0.mk (blk_below (g := gb256) (o := .cells #[.slice Ao25 t249.length co25, .bool t252, .string t253, .string t254] 28 (0, 0)) (by (with_reducible repeat (first|refine blk_drewN ?_ _|refine blk_drew ?_|refine blk_alloc ?_ _)); exact BK256.out) hb); have n5_ := Aside0.mk (blk_below (g := gb264) (o := .cells #[.slice Ao29 t257.length co29, .bool t260, .string t261, .string t262] 28 (0, 0)) (by (with_reducible repeat (first|refine blk_drewN ?_ _|refine blk_drew ?_|refine blk_alloc ?_ _)); exact BK264.out) hb); have n6_ := Aside0.mk (below_step (by repeat (first|(with_reducible first|exact HB.out|apply below_alloc|apply pw_below_drewN|apply below_drew1|refine below_set ?_ GE256.out|refine below_set ?_ GE264.out)|exact HB.out)) hb); have n7_ := Aside0.mk (hbox); have n8_ := Aside0.mk ((by rw [hg]; exact (below_size (by repeat (first|(with_reducible first|exact HB.out|apply below_alloc|apply pw_below_drewN|apply below_drew1|refine below_set ?_ GE256.out|refine below_set ?_ GE264.out)|exact HB.out))) : w.heap.size ≤ gb272)); have n9_ := Aside0.mk ((by rw [hg]; exact (below_size (by repeat (first|(with_reducible first|exact HB.out|apply below_alloc|apply pw_below_drewN|apply below_drew1|refine below_set ?_ GE256.out|refine below_set ?_ GE264.out)|exact HB.out))) : w.heap.size ≤ gb272)); have n10_ := Aside0.mk ((by rw [hg]; exact Nat.ne_of_lt (blk_lt (g := gb256) (o := .cells #[.slice Ao25 t249.length co25, .bool t252, .string t253, .string t254] 28 (0, 0)) (by (with_reducible repeat (first|refine blk_drewN ?_ _|refine blk_drew ?_|refine blk_alloc ?_ _)); exact BK256.out)) : gb256 ≠ gb272)); have n11_ := Aside0.mk ((by rw [hg]; exact Nat.ne_of_gt (blk_lt (g := gb256) (o := .cells #[.slice Ao25 t249.length co25, .bool t252, .string t253, .string t254] 28 (0, 0)) (by (with_reducible repeat (first|refine blk_drewN ?_ _|refine blk_drew ?_|refine blk_alloc ?_ _)); exact BK256.out)) : gb272 ≠ gb256)); have n12_ := Aside0.mk ((by rw [hg]; exact Nat.ne_of_lt (blk_lt (g := gb264) (o := .cells #[.slice Ao29 t257.length co29, .bool t260, .string t261, .string t262] 28 (0, 0)) (by (with_reducible repeat (first|refine blk_drewN ?_ _|refine blk_drew ?_|refine blk_alloc ?_ _)); exact BK264.out)) : gb264 ≠ gb272)); have n13_ := Aside0.mk ((by rw [hg]; exact Nat.ne_of_gt (blk_lt (g := gb264) (o := .cells #[.slice Ao29 t257.length co29, .bool t260, .string t261, .string t262] 28 (0, 0)) (by (with_reducible repeat (first|refine blk_drewN ?_ _|refine blk_drew ?_|refine blk_alloc ?_ _)); exact BK264.out)) : gb272 ≠ gb264)); clear HO248; clear HO251; clear HO259; clear HO267; clear BK256; clear BK264; clear HB; have HO248 := n0_; have HO251 := n1_; have HO259 := n2_; have HO267 := n3_; have BK256 := n4_; have BK264 := n5_; have HB := n6_; have BK272 := n7_; have GW272 := n8_; have GE272 := n9_; have NB256_272 := n10_; have NB272_256 := n11_; have NB264_272 := n12_; have NB272_264 := n13_; clear n0_ n1_ n2_ n3_ n4_ n5_ n6_ n7_ n8_ n9_ n10_ n11_ n12_ n13_; clear hb hbox hg; obtain ⟨Ao34, co34, eo34⟩ := Kd.R_slice HO267.out; subst eo34; have hnb35 := NB272_256.out; have hnc35 := NB256_272.out; have hnb36 := NB272_264.out; have hnc36 := NB264_272.out; have hcz37_0 : w33.cell? ⟨gb272, 0, none⟩ = some (.slice none 0 0) := (blk_cell BK272.out 0).trans rfl; have hcz37_1 : w33.cell? ⟨gb272, 1, none⟩ = some (.bool false) := (blk_cell BK272.out 1).trans rfl; have hcz37_2 : w33.cell? ⟨gb272, 2, none⟩ = some (.string (⟨#[]⟩ : ByteArray)) := (blk_cell BK272.out 2).trans rfl; have hcz37_3 : w33.cell? ⟨gb272, 3, none⟩ = some (.string (⟨#[]⟩ : ByteArray)) := (blk_cell BK272.out 3).trans rfl; have hfz37_0 := blk_frozen BK272.out 0; have hfz37_1 := blk_frozen BK272.out 1; have hfz37_2 := blk_frozen BK272.out 2; have hfz37_3 := blk_frozen BK272.out 3)|((with_reducible refine gate_callee (f := 14) rfl ?_); refine goesL_ (some 70) rfl rfl Try.func14 (by kernel_rfl) rfl #[.slice A0 l0.length c0, .string a1, .string a2, .string a3, .string a4, .int .i64 a5] rfl (by (try simp only [List.map_toArray, List.map_cons, List.map_nil]); first|done|rfl|(simp only [List.length_drop, List.length_take]; rfl)) ?_; (with_reducible refine (stowageref20_Versions.calls kj6 _ _ l0 a1 a2 a3 a4 a5 t273 t276 t277 t278 t279 _ ?side1 ?side2 A19.out).mono ?_); (case side1 => exact Kd.C_below HR0.out (by repeat (first|(with_reducible first|exact HB.out|apply below_alloc|apply pw_below_drewN|apply below_drew1|refine below_set ?_ GE256.out|refine below_set ?_ GE264.out|refine below_set ?_ GE272.out)|exact HB.out))); (case side2 => exact HC0.out); rintro e w38 ⟨v274, rfl, ho0, hb⟩; refine ⟨_, rfl, ?_⟩; have n0_ := Aside0.mk (Kd.S_below (by (with_reducible repeat (first|apply Kd.S_alloc|apply Kd.S_drewN|apply Kd.S_drew)); exact (Kd.S_mono (Kd.S_far (p := ⟨gb272, 3, none⟩) (Kd.S_far (p := ⟨gb272, 2, none⟩) (Kd.S_far (p := ⟨gb272, 1, none⟩) (Kd.S_far (p := ⟨gb272, 0, none⟩) (Kd.S_types HO248.out BK272.out (by decide)) (fun _ hk => hk.2) (.slice Ao34 t265.length co34)) (fun _ hk => hk.2) (.bool t268)) (fun _ hk => hk.2) (.string t269)) (fun _ hk => hk.2) (.string t270)) (fun _ h_ => h_.1))) hb); have n1_ := Aside0.mk (Kd.R_elder' (by (with_reducible repeat (first|apply Kd.R_alloc|apply Kd.R_drewN|apply Kd.R_drew)); exact (Kd.R_mono (Kd.R_far (p := ⟨gb272, 3, none⟩) (Kd.R_far (p := ⟨gb272, 2, none⟩) (Kd.R_far (p := ⟨gb272, 1, none⟩) (Kd.R_far (p := ⟨gb272, 0, none⟩) (Kd.R_types HO251.out BK272.out (by decide)) (fun _ hk => hk.2) (.slice Ao34 t265.length co34)) (fun _ hk => hk.2) (.bool t268)) (fun _ hk => hk.2) (.string t269)) (fun _ hk => hk.2) (.string t270)) (fun _ h_ => h_.1))) (Kd.R_base ho0) hb); have n2_ := Aside0.mk (Kd.R_elder' (by (with_reducible repeat (first|apply Kd.R_alloc|apply Kd.R_drewN|apply Kd.R_drew)); exact (Kd.R_mono (Kd.R_far (p := ⟨gb272, 3, none⟩) (Kd.R_far (p := ⟨gb272, 2, none⟩) (Kd.R_far (p := ⟨gb272, 1, none⟩) (Kd.R_far (p := ⟨gb272, 0, none⟩) (Kd.R_types HO259.out BK272.out (by decide)) (fun _ hk => hk.2) (.slice Ao34 t265.length co34)) (fun _ hk => hk.2) (.bool t268)) (fun _ hk => hk.2) (.string t269)) (fun _ hk => hk.2) (.string t270)) (fun _ h_ => h_.1))) (Kd.R_base ho0) hb); have n3_ := Aside0.mk (Kd.R_elder' (by (with_reducible repeat (first|apply Kd.R_alloc|apply Kd.R_drewN|apply Kd.R_drew)); exact (Kd.R_mono (Kd.R_far (p := ⟨gb272, 3, none⟩) (Kd.R_far (p := ⟨gb272, 2, none⟩) (Kd.R_far (p := ⟨gb272, 1, none⟩) (Kd.R_far (p := ⟨gb272, 0, none⟩) (Kd.R_types HO267.out BK272.out (by decide)) (fun _ hk => hk.2) (.slice Ao34 t265.length co34)) (fun _ hk => hk.2) (.bool t268)) (fun _ hk => hk.2) (.string t269)) (fun _ hk => hk.2) (.string t270)) (fun _ h_ => h_.1))) (Kd.R_base ho0) hb); have n4_ := Aside0.mk (Kd.R_lower (Kd.R_new' (Kd.R_new' (Kd.R_new' ho0 (Kd.R_lt (by (with_reducible repeat (first|apply Kd.R_alloc|apply Kd.R_drewN|apply Kd.R_drew)); exact (Kd.R_mono (Kd.R_far (p := ⟨gb272, 3, none⟩) (Kd.R_far (p := ⟨gb272, 2, none⟩) (Kd.R_far (p := ⟨gb272, 1, none⟩) (Kd.R_far (p := ⟨gb272, 0, none⟩) (Kd.R_types HO251.out BK272.out (by decide)) (fun _ hk => hk.2) (.slice Ao34 t265.length co34)) (fun _ hk => hk.2) (.bool t268)) (fun _ hk => hk.2) (.string t269)) (fun _ hk => hk.2) (.string t270)) (fun _ h_ => h_.1))))) (Kd.R_lt (by (with_reducible repeat (first|apply Kd.R_alloc|apply Kd.R_drewN|apply Kd.R_drew)); exact (Kd.R_mono (Kd.R_far (p := ⟨gb272, 3, none⟩) (Kd.R_far (p := ⟨gb272, 2, none⟩) (Kd.R_far (p := ⟨gb272, 1, none⟩) (Kd.R_far (p := ⟨gb272, 0, none⟩) (Kd.R_types HO259.out BK272.out (by decide)) (fun _ hk => hk.2) (.slice Ao34 t265.length co34)) (fun _ hk => hk.2) (.bool t268)) (fun _ hk => hk.2) (.string t269)) (fun _ hk => hk.2) (.string t270)) (fun _ h_ => h_.1))))) (Kd.R_lt (by (with_reducible repeat (first|apply Kd.R_alloc|apply Kd.R_drewN|apply Kd.R_drew)); exact (Kd.R_mono (Kd.R_far (p := ⟨gb272, 3, none⟩) (Kd.R_far (p := ⟨gb272, 2, none⟩) (Kd.R_far (p := ⟨gb272, 1, none⟩) (Kd.R_far (p := ⟨gb272, 0, none⟩) (Kd.R_types HO267.out BK272.out (by decide)) (fun _ hk => hk.2) (.slice Ao34 t265.length co34)) (fun _ hk => hk.2) (.bool t268)) (fun _ hk => hk.2) (.string t269)) (fun _ hk => hk.2) (.string t270)) (fun _ h_ => h_.1))))) (below_size (by repeat (first|(with_reducible first|exact HB.out|apply below_alloc|apply pw_below_drewN|apply below_drew1|refine below_set ?_ GE256.out|refine below_set ?_ GE264.out|refine below_set ?_ GE272.out)|exact HB.out)))); have n5_ := Aside0.mk (blk_below (g := gb256) (o := .cells #[.slice Ao25 t249.length co25, .bool t252, .string t253, .string t254] 28 (0, 0)) (by (with_reducible repeat (first|refine blk_drewN ?_ _|refine blk_drew ?_|refine blk_alloc ?_ _)); refine blk_far ?_ NB256_272.out _; (with_reducible repeat (first|refine blk_drewN ?_ _|refine blk_drew ?_|refine blk_alloc ?_ _)); refine blk_far ?_ NB256_272.out _; (with_reducible repeat (first|refine blk_drewN ?_ _|refine blk_drew ?_|refine blk_alloc ?_ _)); refine blk_far ?_ NB256_272.out _; (with_reducible repeat (first|refine blk_drewN ?_ _|refine blk_drew ?_|refine blk_alloc ?_ _)); refine blk_far ?_ NB256_272.out _; (with_reducible repeat (first|refine blk_drewN ?_ _|refine blk_drew ?_|refine blk_alloc ?_ _)); exact BK256.out) hb); have n6_ := Aside0.mk (blk_below (g := gb264) (o := .cells #[.slice Ao29 t257.length co29, .bool t260, .string t261, .string t262] 28 (0, 0)) (by (with_reducible repeat (first|refine blk_drewN ?_ _|refine blk_drew ?_|refine blk_alloc ?_ _)); refine blk_far ?_ NB264_272.out _; (with_reducible repeat (first|refine blk_drewN ?_ _|refine blk_drew ?_|refine blk_alloc ?_ _)); refine blk_far ?_ NB264_272.out _; (with_reducible repeat (first|refine blk_drewN ?_ _|refine blk_drew ?_|refine blk_alloc ?_ _)); refine blk_far ?_ NB264_272.out _; (with_reducible repeat (first|refine blk_drewN ?_ _|refine blk_drew ?_|refine blk_alloc ?_ _)); refine blk_far ?_ NB264_272.out _; (with_reducible repeat (first|refine blk_drewN ?_ _|refine blk_drew ?_|refine blk_alloc ?_ _)); exact BK264.out) hb); have n7_ := Aside0.mk (blk_below (g := gb272) (o := .cells #[.slice Ao34 t265.length co34, .bool t268, .string t269, .string t270] 28 (0, 0)) (by (with_reducible repeat (first|refine blk_drewN ?_ _|refine blk_drew ?_|refine blk_alloc ?_ _)); refine blk_put (cs := #[.slice Ao34 t265.length co34, .bool t268, .string t269, .string (⟨#[]⟩ : ByteArray)]) ?_ 3 _ rfl; (with_reducible repeat (first|refine blk_drewN ?_ _|refine blk_drew ?_|refine blk_alloc ?_ _)); refine blk_put (cs := #[.slice Ao34 t265.length co34, .bool t268, .string (⟨#[]⟩ : ByteArray), .string (⟨#[]⟩ : ByteArray)]) ?_ 2 _ rfl; (with_reducible repeat (first|refine blk_drewN ?_ _|refine blk_drew ?_|refine blk_alloc ?_ _)); refine blk_put (cs := #[.slice Ao34 t265.length co34, .bool false, .string (⟨#[]⟩ : ByteArray), .string (⟨#[]⟩ : ByteArray)]) ?_ 1 _ rfl; (with_reducible repeat (first|refine blk_drewN ?_ _|refine blk_drew ?_|refine blk_alloc ?_ _)); refine blk_put (cs := #[.slice none 0 0, .bool false, .string (⟨#[]⟩ : ByteArray), .string (⟨#[]⟩ : ByteArray)]) ?_ 0 _ rfl; (with_reducible repeat (first|refine blk_drewN ?_ _|refine blk_drew ?_|refine blk_alloc ?_ _)); exact BK272.out) hb); have n8_ := Aside0.mk (below_step (by repeat (first|(with_reducible first|exact HB.out|apply below_alloc|apply pw_below_drewN|apply below_drew1|refine below_set ?_ GE256.out|refine below_set ?_ GE264.out|refine below_set ?_ GE272.out)|exact HB.out)) hb); clear HO248; clear HO251; clear HO259; clear HO267; clear BK256; clear BK264; clear BK272; clear HB; have HO248 := n0_; have HO251 := n1_; have HO259 := n2_; have HO267 := n3_; have HO275 := n4_; have BK256 := n5_; have BK264 := n6_; have BK272 := n7_; have HB := n8_; clear n0_ n1_ n2_ n3_ n4_ n5_ n6_ n7_ n8_; (try clear hb); (try clear hb2); (try clear hk); (try clear hi); (try clear ho0))|((with_reducible refine gate_dst (N := 20) rfl ?_); (try (refine gate_guard (by rfl) ?_; dsimp only)); refine box_event ?hg (N := 20) ?hd (cs := #[.slice none 0 0, .bool false, .string (⟨#[]⟩ : ByteArray), .string (⟨#[]⟩ : ByteArray)]) (t := 28) ?hr ?_; (case hd => rfl); (case hg => rfl); (case hr => first|(go_simp; done)|(go_simp; rfl)); intro gb280 hg w39 hbox hb; have n0_ := Aside0.mk (Kd.S_below (by (with_reducible repeat (first|apply Kd.S_alloc|apply Kd.S_drewN|apply Kd.S_drew)); exact HO248.out) hb); have n1_ := Aside0.mk (Kd.R_below (by (with_reducible repeat (first|apply Kd.R_alloc|apply Kd.R_drewN|apply Kd.R_drew)); exact HO251.out) hb); have n2_ := Aside0.mk (Kd.R_below (by (with_reducible repeat (first|apply Kd.R_alloc|apply Kd.R_drewN|apply Kd.R_drew)); exact HO259.out) hb); have n3_ := Aside0.mk (Kd.R_below (by (with_reducible repeat (first|apply Kd.R_alloc|apply Kd.R_drewN|apply Kd.R_drew)); exact HO267.out) hb); have n4_ := Aside0.mk (Kd.R_below (by (with_reducible repeat (first|apply Kd.R_alloc|apply Kd.R_drewN|apply Kd.R_drew)); exact HO275.out) hb); have n5_ := Aside0.mk (blk_below (g := gb256) (o := .cells #[.slice Ao25 t249.length co25, .bool t252, .string t253, .string t254] 28 (0, 0)) (by (with_reducible repeat (first|refine blk_drewN ?_ _|refine blk_drew ?_|refine blk_alloc ?_ _)); exact BK256.out) hb); have n6_ := Aside0.mk (blk_below (g := gb264) (o := .cells #[.slice Ao29 t257.length co29, .bool t260, .string t261, .string t262] 28 (0, 0)) (by (with_reducible repeat (first|refine blk_drewN ?_ _|refine blk_drew ?_|refine blk_alloc ?_ _)); exact BK264.out) hb); have n7_ := Aside0.mk (blk_below (g := gb272) (o := .cells #[.slice Ao34 t265.length co34, .bool t268, .string t269, .string t270] 28 (0, 0)) (by (with_reducible repeat (first|refine blk_drewN ?_ _|refine blk_drew ?_|refine blk_alloc ?_ _)); exact BK272.out) hb); have n8_ := Aside0.mk (below_step (by repeat (first|(with_reducible first|exact HB.out|apply below_alloc|apply pw_below_drewN|apply below_drew1|refine below_set ?_ GE256.out|refine below_set ?_ GE264.out|refine below_set ?_ GE272.out)|exact HB.out)) hb); have n9_ := Aside0.mk (hbox); have n10_ := Aside0.mk ((by rw [hg]; exact (below_size (by repeat (first|(with_reducible first|exact HB.out|apply below_alloc|apply pw_below_drewN|apply below_drew1|refine below_set ?_ GE256.out|refine below_set ?_ GE264.out|refine below_set ?_ GE272.out)|exact HB.out))) : w.heap.size ≤ gb280)); have n11_ := Aside0.mk ((by rw [hg]; exact (below_size (by repeat (first|(with_reducible first|exact HB.out|apply below_alloc|apply pw_below_drewN|apply below_drew1|refine below_set ?_ GE256.out|refine below_set ?_ GE264.out|refine below_set ?_ GE272.out)|exact HB.out))) : w.heap.size ≤ gb280)); have n12_ := Aside0.mk ((by rw [hg]; exact Nat.ne_of_lt (blk_lt (g := gb256) (o := .cells #[.slice Ao25 t249.length co25, .bool t252, .string t253, .string t254] 28 (0, 0)) (by (with_reducible repeat (first|refine blk_drewN ?_ _|refine blk_drew ?_|refine blk_alloc ?_ _)); exact BK256.out)) : gb256 ≠ gb280)); have n13_ := Aside0.mk ((by rw [hg]; exact Nat.ne_of_gt (blk_lt (g := gb256) (o := .cells #[.slice Ao25 t249.length co25, .bool t252, .string t253, .string t254] 28 (0, 0)) (by (with_reducible repeat (first|refine blk_drewN ?_ _|refine blk_drew ?_|refine blk_alloc ?_ _)); exact BK256.out)) : gb280 ≠ gb256)); have n14_ := Aside0.mk ((by rw [hg]; exact Nat.ne_of_lt (blk_lt (g := gb264) (o := .cells #[.slice Ao29 t257.length co29, .bool t260, .string t261, .string t262] 28 (0, 0)) (by (with_reducible repeat (first|refine blk_drewN ?_ _|refine blk_drew ?_|refine blk_alloc ?_ _)); exact BK264.out)) : gb264 ≠ gb280)); have n15_ := Aside0.mk ((by rw [hg]; exact Nat.ne_of_gt (blk_lt (g := gb264) (o := .cells #[.slice Ao29 t257.length co29, .bool t260, .string t261, .string t262] 28 (0, 0)) (by (with_reducible repeat (first|refine blk_drewN ?_ _|refine blk_drew ?_|refine blk_alloc ?_ _)); exact BK264.out)) : gb280 ≠ gb264)); have n16_ := Aside0.mk ((by rw [hg]; exact Nat.ne_of_lt (blk_lt (g := gb272) (o := .cells #[.slice Ao34 t265.length co34, .bool t268, .string t269, .string t270] 28 (0, 0)) (by (with_reducible repeat (first|refine blk_drewN ?_ _|refine blk_drew ?_|refine blk_alloc ?_ _)); exact BK272.out)) : gb272 ≠ gb280)); have n17_ := Aside0.mk ((by rw [hg]; exact Nat.ne_of_gt (blk_lt (g := gb272) (o := .cells #[.slice Ao34 t265.length co34, .bool t268, .string t269, .string t270] 28 (0, 0)) (by (with_reducible repeat (first|refine blk_drewN ?_ _|refine blk_drew ?_|refine blk_alloc ?_ _)); exact BK272.out)) : gb280 ≠ gb272)); clear HO248; clear HO251; clear HO259; clear HO267; clear HO275; clear BK256; clear BK264; clear BK272; clear HB; have HO248 := n0_; have HO251 := n1_; have HO259 := n2_; have HO267 := n3_; have HO275 := n4_; have BK256 := n5_; have BK264 := n6_; have BK272 := n7_; have HB := n8_; have BK280 := n9_; have GW280 := n10_; have GE280 := n11_; have NB256_280 := n12_; have NB280_256 := n13_; have NB264_280 := n14_; have NB280_264 := n15_; have NB272_280 := n16_; have NB280_272 := n17_; clear n0_ n1_ n2_ n3_ n4_ n5_ n6_ n7_ n8_ n9_ n10_ n11_ n12_ n13_ n14_ n15_ n16_ n17_; clear hb hbox hg; obtain ⟨Ao40, co40, eo40⟩ := Kd.R_slice HO275.out; subst eo40; have hnb41 := NB280_256.out; have hnc41 := NB256_280.out; have hnb42 := NB280_264.out; have hnc42 := NB264_280.out; have hnb43 := NB280_272.out; have hnc43 := NB272_280.out; have hcz44_0 : w39.cell? ⟨gb280, 0, none⟩ = some (.slice none 0 0) := (blk_cell BK280.out 0).trans rfl; have hcz44_1 : w39.cell? ⟨gb280, 1, none⟩ = some (.bool false) := (blk_cell BK280.out 1).trans rfl; have hcz44_2 : w39.cell? ⟨gb280, 2, none⟩ = some (.string (⟨#[]⟩ : ByteArray)) := (blk_cell BK280.out 2).trans rfl; have hcz44_3 : w39.cell? ⟨gb280, 3, none⟩ = some (.string (⟨#[]⟩ : ByteArray)) := (blk_cell BK280.out 3).trans rfl; have hfz44_0 := blk_frozen BK280.out 0; have hfz44_1 := blk_frozen BK280.out 1; have hfz44_2 := blk_frozen BK280.out 2; have hfz44_3 := blk_frozen BK280.out 3))
    (try simp only [Act.put, List.setIfInBounds_toArray, List.set_cons_zero, List.set_cons_succ])
    go_cut [105] (fun v105 wc => ∃ (kq : Nat) (x105_19 : Bool), v105 = .bool x105_19 ∧ Aside0 (stowagelaw20_ListingTells.j1 kq l0 t246 x105_19 t249 t252 t253 t254 t265 t268 t269 t270 t273 t276 t277 t278 = some r) ∧ Aside0 (kq ≤ kj6) ∧ Aside0 (Kd.S k47 47 wc w.heap.size (fun _ => True) (.slice Ao22 t246.length co22) t246) ∧ Aside0 (Kd.R k39 39 wc w.heap.size (fun k_ => some k_ ≠ ((.slice Ao29 t257.length co29) : Value).ownBlock ∧ some k_ ≠ ((.slice Ao34 t265.length co34) : Value).ownBlock ∧ some k_ ≠ ((.slice Ao40 t273.length co40) : Value).ownBlock) (.slice Ao25 t249.length co25) t249) ∧ Aside0 (Kd.R k39 39 wc w.heap.size (fun k_ => some k_ ≠ ((.slice Ao25 t249.length co25) : Value).ownBlock ∧ some k_ ≠ ((.slice Ao34 t265.length co34) : Value).ownBlock ∧ some k_ ≠ ((.slice Ao40 t273.length co40) : Value).ownBlock) (.slice Ao29 t257.length co29) t257) ∧ Aside0 (Kd.R k39 39 wc w.heap.size (fun k_ => some k_ ≠ ((.slice Ao25 t249.length co25) : Value).ownBlock ∧ some k_ ≠ ((.slice Ao29 t257.length co29) : Value).ownBlock ∧ some k_ ≠ ((.slice Ao40 t273.length co40) : Value).ownBlock) (.slice Ao34 t265.length co34) t265) ∧ Aside0 (Kd.R k39 39 wc w.heap.size (fun k_ => some k_ ≠ ((.slice Ao25 t249.length co25) : Value).ownBlock ∧ some k_ ≠ ((.slice Ao29 t257.length co29) : Value).ownBlock ∧ some k_ ≠ ((.slice Ao34 t265.length co34) : Value).ownBlock) (.slice Ao40 t273.length co40) t273) ∧ Aside0 (wc.heap[gb256]? = some (.cells #[(.slice Ao25 t249.length co25), .bool t252, .string t253, .string t254] 28 (0, 0))) ∧ Aside0 (wc.heap[gb264]? = some (.cells #[(.slice Ao29 t257.length co29), .bool t260, .string t261, .string t262] 28 (0, 0))) ∧ Aside0 (wc.heap[gb272]? = some (.cells #[(.slice Ao34 t265.length co34), .bool t268, .string t269, .string t270] 28 (0, 0))) ∧ Aside0 (wc.heap[gb280]? = some (.cells #[(.slice Ao40 t273.length co40), .bool t276, .string t277, .string t278] 28 (0, 0))) ∧ Aside0 (Below w.heap.size w wc))
    case first =>
     have H := HC20.out
     clear HC20
     replace H := Option.bind_eq_some_iff.mp H
     obtain ⟨t281, A450, H⟩ := H
     replace H : (if t281 = true then (if t255 = t263 then ((stowagekit_SamePage.f kj6 t265 t268 t269 t270 t273 t276 t277 t278).bind fun t282 => (if t282 = true then (if t271 = t279 then ((listing_Check.f kj6 t246).bind fun t283 => ((stowageref20_Check.f kj6 l0).bind fun t284 => (if t283 = t284 then ((stowagekit_SameEntries.f kj6 t246 l0).bind fun t285 => (stowagelaw20_ListingTells.j1 kj6 l0 t246 (!t285) t249 t252 t253 t254 t265 t268 t269 t270 t273 t276 t277 t278)) else (stowagelaw20_ListingTells.j1 kj6 l0 t246 true t249 t252 t253 t254 t265 t268 t269 t270 t273 t276 t277 t278)))) else (stowagelaw20_ListingTells.j1 kj6 l0 t246 true t249 t252 t253 t254 t265 t268 t269 t270 t273 t276 t277 t278)) else (stowagelaw20_ListingTells.j1 kj6 l0 t246 true t249 t252 t253 t254 t265 t268 t269 t270 t273 t276 t277 t278))) else (stowagelaw20_ListingTells.j1 kj6 l0 t246 true t249 t252 t253 t254 t265 t268 t269 t270 t273 t276 t277 t278)) else (stowagelaw20_ListingTells.j1 kj6 l0 t246 true t249 t252 t253 t254 t265 t268 t269 t270 t273 t276 t277 t278)) = some r := H
     have A45 := Aside0.mk A450
     clear A450
     by_cases c46 : t281 = true
     ·subst c46
      have H1 : (if t255 = t263 then ((stowagekit_SamePage.f kj6 t265 t268 t269 t270 t273 t276 t277 t278).bind fun t282 => (if t282 = true then (if t271 = t279 then ((listing_Check.f kj6 t246).bind fun t283 => ((stowageref20_Check.f kj6 l0).bind fun t284 => (if t283 = t284 then ((stowagekit_SameEntries.f kj6 t246 l0).bind fun t285 => (stowagelaw20_ListingTells.j1 kj6 l0 t246 (!t285) t249 t252 t253 t254 t265 t268 t269 t270 t273 t276 t277 t278)) else (stowagelaw20_ListingTells.j1 kj6 l0 t246 true t249 t252 t253 t254 t265 t268 t269 t270 t273 t276 t277 t278)))) else (stowagelaw20_ListingTells.j1 kj6 l0 t246 true t249 t252 t253 t254 t265 t268 t269 t270 t273 t276 t277 t278)) else (stowagelaw20_ListingTells.j1 kj6 l0 t246 true t249 t252 t253 t254 t265 t268 t269 t270 t273 t276 t277 t278))) else (stowagelaw20_ListingTells.j1 kj6 l0 t246 true t249 t252 t253 t254 t265 t268 t269 t270 t273 t276 t277 t278)) = some r := by rw [if_pos rfl] at H; exact H
      clear H
      have H := H1
      clear H1
      by_cases c47 : t255 = t263
      ·rw [if_pos c47] at H
       have c47b0 : (t255 == t263) = true := beq_iff_eq.mpr c47
       have c47b1 : (t255 != t263) = false := bne_eq_false_iff_eq.mpr c47
       clear c47
       (first|rw [c47b0]|(simp only [i64_w, i32_w]; rw [c47b0])|skip)
       replace H := Option.bind_eq_some_iff.mp H
       obtain ⟨t282, A480, H⟩ := H
       replace H : (if t282 = true then (if t271 = t279 then ((listing_Check.f kj6 t246).bind fun t283 => ((stowageref20_Check.f kj6 l0).bind fun t284 => (if t283 = t284 then ((stowagekit_SameEntries.f kj6 t246 l0).bind fun t285 => (stowagelaw20_ListingTells.j1 kj6 l0 t246 (!t285) t249 t252 t253 t254 t265 t268 t269 t270 t273 t276 t277 t278)) else (stowagelaw20_ListingTells.j1 kj6 l0 t246 true t249 t252 t253 t254 t265 t268 t269 t270 t273 t276 t277 t278)))) else (stowagelaw20_ListingTells.j1 kj6 l0 t246 true t249 t252 t253 t254 t265 t268 t269 t270 t273 t276 t277 t278)) else (stowagelaw20_ListingTells.j1 kj6 l0 t246 true t249 t252 t253 t254 t265 t268 t269 t270 t273 t276 t277 t278)) = some r := H
       have A48 := Aside0.mk A480
       clear A480
       by_cases c49 : t282 = true
       ·subst c49
        have H1 : (if t271 = t279 then ((listing_Check.f kj6 t246).bind fun t283 => ((stowageref20_Check.f kj6 l0).bind fun t284 => (if t283 = t284 then ((stowagekit_SameEntries.f kj6 t246 l0).bind fun t285 => (stowagelaw20_ListingTells.j1 kj6 l0 t246 (!t285) t249 t252 t253 t254 t265 t268 t269 t270 t273 t276 t277 t278)) else (stowagelaw20_ListingTells.j1 kj6 l0 t246 true t249 t252 t253 t254 t265 t268 t269 t270 t273 t276 t277 t278)))) else (stowagelaw20_ListingTells.j1 kj6 l0 t246 true t249 t252 t253 t254 t265 t268 t269 t270 t273 t276 t277 t278)) = some r := by rw [if_pos rfl] at H; exact H
        clear H
        have H := H1
        clear H1
        by_cases c50 : t271 = t279
        ·rw [if_pos c50] at H
         have c50b0 : (t271 == t279) = true := beq_iff_eq.mpr c50
         have c50b1 : (t271 != t279) = false := bne_eq_false_iff_eq.mpr c50
         clear c50
         replace H := Option.bind_eq_some_iff.mp H
         obtain ⟨t283, A510, H⟩ := H
         replace H : ((stowageref20_Check.f kj6 l0).bind fun t284 => (if t283 = t284 then ((stowagekit_SameEntries.f kj6 t246 l0).bind fun t285 => (stowagelaw20_ListingTells.j1 kj6 l0 t246 (!t285) t249 t252 t253 t254 t265 t268 t269 t270 t273 t276 t277 t278)) else (stowagelaw20_ListingTells.j1 kj6 l0 t246 true t249 t252 t253 t254 t265 t268 t269 t270 t273 t276 t277 t278))) = some r := H
         have A51 := Aside0.mk A510
         clear A510
         replace H := Option.bind_eq_some_iff.mp H
         obtain ⟨t284, A520, H⟩ := H
         replace H : (if t283 = t284 then ((stowagekit_SameEntries.f kj6 t246 l0).bind fun t285 => (stowagelaw20_ListingTells.j1 kj6 l0 t246 (!t285) t249 t252 t253 t254 t265 t268 t269 t270 t273 t276 t277 t278)) else (stowagelaw20_ListingTells.j1 kj6 l0 t246 true t249 t252 t253 t254 t265 t268 t269 t270 t273 t276 t277 t278)) = some r := H
         have A52 := Aside0.mk A520
         clear A520
         by_cases c53 : t283 = t284
         ·rw [if_pos c53] at H
          have c53b0 : (t283 == t284) = true := beq_iff_eq.mpr c53
          have c53b1 : (t283 != t284) = false := bne_eq_false_iff_eq.mpr c53
          clear c53
          replace H := Option.bind_eq_some_iff.mp H
          obtain ⟨t285, A540, H⟩ := H
          replace H : (stowagelaw20_ListingTells.j1 kj6 l0 t246 (!t285) t249 t252 t253 t254 t265 t268 t269 t270 t273 t276 t277 t278) = some r := H
          have A54 := Aside0.mk A540
          clear A540
          have H' := Aside0.mk H
          clear H
          have hnb55 := NB256_264.out
          have hnc55 := NB264_256.out
          have hnb56 := NB256_272.out
          have hnc56 := NB272_256.out
          have hnb57 := NB256_280.out
          have hnc57 := NB280_256.out
          have hcz58_0 : w39.cell? ⟨gb256, 0, none⟩ = some (.slice Ao25 t249.length co25) := (blk_cell BK256.out 0).trans rfl
          have hcz58_1 : w39.cell? ⟨gb256, 1, none⟩ = some (.bool t252) := (blk_cell BK256.out 1).trans rfl
          have hcz58_2 : w39.cell? ⟨gb256, 2, none⟩ = some (.string t253) := (blk_cell BK256.out 2).trans rfl
          have hcz58_3 : w39.cell? ⟨gb256, 3, none⟩ = some (.string t254) := (blk_cell BK256.out 3).trans rfl
          have hfz58_0 := blk_frozen BK256.out 0
          have hfz58_1 := blk_frozen BK256.out 1
          have hfz58_2 := blk_frozen BK256.out 2
          have hfz58_3 := blk_frozen BK256.out 3
          have hnb59 := NB264_272.out
          have hnc59 := NB272_264.out
          have hnb60 := NB264_280.out
          have hnc60 := NB280_264.out
          have hcz61_0 : w39.cell? ⟨gb264, 0, none⟩ = some (.slice Ao29 t257.length co29) := (blk_cell BK264.out 0).trans rfl
          have hcz61_1 : w39.cell? ⟨gb264, 1, none⟩ = some (.bool t260) := (blk_cell BK264.out 1).trans rfl
          have hcz61_2 : w39.cell? ⟨gb264, 2, none⟩ = some (.string t261) := (blk_cell BK264.out 2).trans rfl
          have hcz61_3 : w39.cell? ⟨gb264, 3, none⟩ = some (.string t262) := (blk_cell BK264.out 3).trans rfl
          have hfz61_0 := blk_frozen BK264.out 0
          have hfz61_1 := blk_frozen BK264.out 1
          have hfz61_2 := blk_frozen BK264.out 2
          have hfz61_3 := blk_frozen BK264.out 3
          go_wp2_with (first|((with_reducible refine gate_callee (f := 15) rfl ?_); refine goesL_ (some 75) rfl rfl Try.func15 (by kernel_rfl) rfl #[.agg #[.slice Ao25 t249.length co25, .bool t252, .string t253, .string t254], .agg #[.slice Ao29 t257.length co29, .bool t260, .string t261, .string t262]] rfl (by (try simp only [List.map_toArray, List.map_cons, List.map_nil]); first|done|rfl|(simp only [List.length_drop, List.length_take]; rfl)) ?_; (with_reducible refine (stowagekit_SamePage.calls kj6 _ _ t249 t252 t253 t254 _ _ t257 t260 t261 t262 true _ ?side1 ?side2 ?side3 ?side4 A45.out).mono ?_); (case side1 => refine (Kd.R_reads' (e := 39) (base := w.heap.size) (ok := fun k_ => (((True ∧ some k_ ≠ (.slice Ao29 t257.length co29 : Value).ownBlock) ∧ some k_ ≠ (.slice Ao34 t265.length co34 : Value).ownBlock) ∧ some k_ ≠ (.slice Ao40 t273.length co40 : Value).ownBlock)) (n := t249.length) (c := co25) ?_).2.2; exact (by (with_reducible repeat (first|apply Kd.R_alloc|apply Kd.R_drewN|apply Kd.R_drew)); exact (Kd.R_mono (Kd.R_far (p := ⟨gb280, 3, none⟩) (Kd.R_far (p := ⟨gb280, 2, none⟩) (Kd.R_far (p := ⟨gb280, 1, none⟩) (Kd.R_far (p := ⟨gb280, 0, none⟩) (Kd.R_types HO251.out BK280.out (by decide)) (fun _ hk => hk.2) (.slice Ao40 t273.length co40)) (fun _ hk => hk.2) (.bool t276)) (fun _ hk => hk.2) (.string t277)) (fun _ hk => hk.2) (.string t278)) (fun _ h_ => h_.1)))); (case side2 => exact (Kd.R_reads' HO251.out).2.1); (case side3 => refine (Kd.R_reads' (e := 39) (base := w.heap.size) (ok := fun k_ => (((True ∧ some k_ ≠ (.slice Ao25 t249.length co25 : Value).ownBlock) ∧ some k_ ≠ (.slice Ao34 t265.length co34 : Value).ownBlock) ∧ some k_ ≠ (.slice Ao40 t273.length co40 : Value).ownBlock)) (n := t257.length) (c := co29) ?_).2.2; exact (by (with_reducible repeat (first|apply Kd.R_alloc|apply Kd.R_drewN|apply Kd.R_drew)); exact (Kd.R_mono (Kd.R_far (p := ⟨gb280, 3, none⟩) (Kd.R_far (p := ⟨gb280, 2, none⟩) (Kd.R_far (p := ⟨gb280, 1, none⟩) (Kd.R_far (p := ⟨gb280, 0, none⟩) (Kd.R_types HO259.out BK280.out (by decide)) (fun _ hk => hk.2) (.slice Ao40 t273.length co40)) (fun _ hk => hk.2) (.bool t276)) (fun _ hk => hk.2) (.string t277)) (fun _ hk => hk.2) (.string t278)) (fun _ h_ => h_.1)))); (case side4 => exact (Kd.R_reads' HO259.out).2.1); rintro e w62 ⟨rfl, hb⟩; refine ⟨_, rfl, ?_⟩; have n0_ := Aside0.mk (Kd.S_below (by (with_reducible repeat (first|apply Kd.S_alloc|apply Kd.S_drewN|apply Kd.S_drew)); exact (Kd.S_mono (Kd.S_far (p := ⟨gb280, 3, none⟩) (Kd.S_far (p := ⟨gb280, 2, none⟩) (Kd.S_far (p := ⟨gb280, 1, none⟩) (Kd.S_far (p := ⟨gb280, 0, none⟩) (Kd.S_types HO248.out BK280.out (by decide)) (fun _ hk => hk.2) (.slice Ao40 t273.length co40)) (fun _ hk => hk.2) (.bool t276)) (fun _ hk => hk.2) (.string t277)) (fun _ hk => hk.2) (.string t278)) (fun _ h_ => h_.1))) hb); have n1_ := Aside0.mk (Kd.R_below (by (with_reducible repeat (first|apply Kd.R_alloc|apply Kd.R_drewN|apply Kd.R_drew)); exact (Kd.R_mono (Kd.R_far (p := ⟨gb280, 3, none⟩) (Kd.R_far (p := ⟨gb280, 2, none⟩) (Kd.R_far (p := ⟨gb280, 1, none⟩) (Kd.R_far (p := ⟨gb280, 0, none⟩) (Kd.R_types HO251.out BK280.out (by decide)) (fun _ hk => hk.2) (.slice Ao40 t273.length co40)) (fun _ hk => hk.2) (.bool t276)) (fun _ hk => hk.2) (.string t277)) (fun _ hk => hk.2) (.string t278)) (fun _ h_ => h_.1))) hb); have n2_ := Aside0.mk (Kd.R_below (by (with_reducible repeat (first|apply Kd.R_alloc|apply Kd.R_drewN|apply Kd.R_drew)); exact (Kd.R_mono (Kd.R_far (p := ⟨gb280, 3, none⟩) (Kd.R_far (p := ⟨gb280, 2, none⟩) (Kd.R_far (p := ⟨gb280, 1, none⟩) (Kd.R_far (p := ⟨gb280, 0, none⟩) (Kd.R_types HO259.out BK280.out (by decide)) (fun _ hk => hk.2) (.slice Ao40 t273.length co40)) (fun _ hk => hk.2) (.bool t276)) (fun _ hk => hk.2) (.string t277)) (fun _ hk => hk.2) (.string t278)) (fun _ h_ => h_.1))) hb); have n3_ := Aside0.mk (Kd.R_below (by (with_reducible repeat (first|apply Kd.R_alloc|apply Kd.R_drewN|apply Kd.R_drew)); exact (Kd.R_mono (Kd.R_far (p := ⟨gb280, 3, none⟩) (Kd.R_far (p := ⟨gb280, 2, none⟩) (Kd.R_far (p := ⟨gb280, 1, none⟩) (Kd.R_far (p := ⟨gb280, 0, none⟩) (Kd.R_types HO267.out BK280.out (by decide)) (fun _ hk => hk.2) (.slice Ao40 t273.length co40)) (fun _ hk => hk.2) (.bool t276)) (fun _ hk => hk.2) (.string t277)) (fun _ hk => hk.2) (.string t278)) (fun _ h_ => h_.1))) hb); have n4_ := Aside0.mk (Kd.R_below (by (with_reducible repeat (first|apply Kd.R_alloc|apply Kd.R_drewN|apply Kd.R_drew)); exact (Kd.R_mono (Kd.R_far (p := ⟨gb280, 3, none⟩) (Kd.R_far (p := ⟨gb280, 2, none⟩) (Kd.R_far (p := ⟨gb280, 1, none⟩) (Kd.R_far (p := ⟨gb280, 0, none⟩) (Kd.R_types HO275.out BK280.out (by decide)) (fun _ hk => hk.2) (.slice Ao40 t273.length co40)) (fun _ hk => hk.2) (.bool t276)) (fun _ hk => hk.2) (.string t277)) (fun _ hk => hk.2) (.string t278)) (fun _ h_ => h_.1))) hb); have n5_ := Aside0.mk (blk_below (g := gb256) (o := .cells #[.slice Ao25 t249.length co25, .bool t252, .string t253, .string t254] 28 (0, 0)) (by (with_reducible repeat (first|refine blk_drewN ?_ _|refine blk_drew ?_|refine blk_alloc ?_ _)); refine blk_far ?_ NB256_280.out _; (with_reducible repeat (first|refine blk_drewN ?_ _|refine blk_drew ?_|refine blk_alloc ?_ _)); refine blk_far ?_ NB256_280.out _; (with_reducible repeat (first|refine blk_drewN ?_ _|refine blk_drew ?_|refine blk_alloc ?_ _)); refine blk_far ?_ NB256_280.out _; (with_reducible repeat (first|refine blk_drewN ?_ _|refine blk_drew ?_|refine blk_alloc ?_ _)); refine blk_far ?_ NB256_280.out _; (with_reducible repeat (first|refine blk_drewN ?_ _|refine blk_drew ?_|refine blk_alloc ?_ _)); exact BK256.out) hb); have n6_ := Aside0.mk (blk_below (g := gb264) (o := .cells #[.slice Ao29 t257.length co29, .bool t260, .string t261, .string t262] 28 (0, 0)) (by (with_reducible repeat (first|refine blk_drewN ?_ _|refine blk_drew ?_|refine blk_alloc ?_ _)); refine blk_far ?_ NB264_280.out _; (with_reducible repeat (first|refine blk_drewN ?_ _|refine blk_drew ?_|refine blk_alloc ?_ _)); refine blk_far ?_ NB264_280.out _; (with_reducible repeat (first|refine blk_drewN ?_ _|refine blk_drew ?_|refine blk_alloc ?_ _)); refine blk_far ?_ NB264_280.out _; (with_reducible repeat (first|refine blk_drewN ?_ _|refine blk_drew ?_|refine blk_alloc ?_ _)); refine blk_far ?_ NB264_280.out _; (with_reducible repeat (first|refine blk_drewN ?_ _|refine blk_drew ?_|refine blk_alloc ?_ _)); exact BK264.out) hb); have n7_ := Aside0.mk (blk_below (g := gb272) (o := .cells #[.slice Ao34 t265.length co34, .bool t268, .string t269, .string t270] 28 (0, 0)) (by (with_reducible repeat (first|refine blk_drewN ?_ _|refine blk_drew ?_|refine blk_alloc ?_ _)); refine blk_far ?_ NB272_280.out _; (with_reducible repeat (first|refine blk_drewN ?_ _|refine blk_drew ?_|refine blk_alloc ?_ _)); refine blk_far ?_ NB272_280.out _; (with_reducible repeat (first|refine blk_drewN ?_ _|refine blk_drew ?_|refine blk_alloc ?_ _)); refine blk_far ?_ NB272_280.out _; (with_reducible repeat (first|refine blk_drewN ?_ _|refine blk_drew ?_|refine blk_alloc ?_ _)); refine blk_far ?_ NB272_280.out _; (with_reducible repeat (first|refine blk_drewN ?_ _|refine blk_drew ?_|refine blk_alloc ?_ _)); exact BK272.out) hb); have n8_ := Aside0.mk (blk_below (g := gb280) (o := .cells #[.slice Ao40 t273.length co40, .bool t276, .string t277, .string t278] 28 (0, 0)) (by (with_reducible repeat (first|refine blk_drewN ?_ _|refine blk_drew ?_|refine blk_alloc ?_ _)); refine blk_put (cs := #[.slice Ao40 t273.length co40, .bool t276, .string t277, .string (⟨#[]⟩ : ByteArray)]) ?_ 3 _ rfl; (with_reducible repeat (first|refine blk_drewN ?_ _|refine blk_drew ?_|refine blk_alloc ?_ _)); refine blk_put (cs := #[.slice Ao40 t273.length co40, .bool t276, .string (⟨#[]⟩ : ByteArray), .string (⟨#[]⟩ : ByteArray)]) ?_ 2 _ rfl; (with_reducible repeat (first|refine blk_drewN ?_ _|refine blk_drew ?_|refine blk_alloc ?_ _)); refine blk_put (cs := #[.slice Ao40 t273.length co40, .bool false, .string (⟨#[]⟩ : ByteArray), .string (⟨#[]⟩ : ByteArray)]) ?_ 1 _ rfl; (with_reducible repeat (first|refine blk_drewN ?_ _|refine blk_drew ?_|refine blk_alloc ?_ _)); refine blk_put (cs := #[.slice none 0 0, .bool false, .string (⟨#[]⟩ : ByteArray), .string (⟨#[]⟩ : ByteArray)]) ?_ 0 _ rfl; (with_reducible repeat (first|refine blk_drewN ?_ _|refine blk_drew ?_|refine blk_alloc ?_ _)); exact BK280.out) hb); have n9_ := Aside0.mk (below_step (by repeat (first|(with_reducible first|exact HB.out|apply below_alloc|apply pw_below_drewN|apply below_drew1|refine below_set ?_ GE256.out|refine below_set ?_ GE264.out|refine below_set ?_ GE272.out|refine below_set ?_ GE280.out)|exact HB.out)) hb); clear HO248; clear HO251; clear HO259; clear HO267; clear HO275; clear BK256; clear BK264; clear BK272; clear BK280; clear HB; have HO248 := n0_; have HO251 := n1_; have HO259 := n2_; have HO267 := n3_; have HO275 := n4_; have BK256 := n5_; have BK264 := n6_; have BK272 := n7_; have BK280 := n8_; have HB := n9_; clear n0_ n1_ n2_ n3_ n4_ n5_ n6_ n7_ n8_ n9_; (try clear hb); (try clear hb2); (try clear hk); (try clear hi); have hnb63 := NB272_280.out; have hnc63 := NB280_272.out; have hcz64_0 : w62.cell? ⟨gb272, 0, none⟩ = some (.slice Ao34 t265.length co34) := (blk_cell BK272.out 0).trans rfl; have hcz64_1 : w62.cell? ⟨gb272, 1, none⟩ = some (.bool t268) := (blk_cell BK272.out 1).trans rfl; have hcz64_2 : w62.cell? ⟨gb272, 2, none⟩ = some (.string t269) := (blk_cell BK272.out 2).trans rfl; have hcz64_3 : w62.cell? ⟨gb272, 3, none⟩ = some (.string t270) := (blk_cell BK272.out 3).trans rfl; have hfz64_0 := blk_frozen BK272.out 0; have hfz64_1 := blk_frozen BK272.out 1; have hfz64_2 := blk_frozen BK272.out 2; have hfz64_3 := blk_frozen BK272.out 3; have hcz65_0 : w62.cell? ⟨gb280, 0, none⟩ = some (.slice Ao40 t273.length co40) := (blk_cell BK280.out 0).trans rfl; have hcz65_1 : w62.cell? ⟨gb280, 1, none⟩ = some (.bool t276) := (blk_cell BK280.out 1).trans rfl; have hcz65_2 : w62.cell? ⟨gb280, 2, none⟩ = some (.string t277) := (blk_cell BK280.out 2).trans rfl; have hcz65_3 : w62.cell? ⟨gb280, 3, none⟩ = some (.string t278) := (blk_cell BK280.out 3).trans rfl; have hfz65_0 := blk_frozen BK280.out 0; have hfz65_1 := blk_frozen BK280.out 1; have hfz65_2 := blk_frozen BK280.out 2; have hfz65_3 := blk_frozen BK280.out 3)|(go_at_call 15; (with_reducible refine (stowagekit_SamePage.calls kj6 _ _ t265 t268 t269 t270 _ _ t273 t276 t277 t278 true _ ?side1 ?side2 ?side3 ?side4 A48.out).mono ?_); (case side1 => repeat (first|exact (Kd.R_reads' HO267.out).2.2|(with_reducible refine Kd.C_alloc ?_ _)|(with_reducible refine Kd.C_drewN ?_ _)|(with_reducible refine Kd.C_drew ?_))); (case side2 => exact (Kd.R_reads' HO267.out).2.1); (case side3 => repeat (first|exact (Kd.R_reads' HO275.out).2.2|(with_reducible refine Kd.C_alloc ?_ _)|(with_reducible refine Kd.C_drewN ?_ _)|(with_reducible refine Kd.C_drew ?_))); (case side4 => exact (Kd.R_reads' HO275.out).2.1); rintro e w66 ⟨rfl, hb⟩; have n0_ := Aside0.mk (Kd.S_below (by (with_reducible repeat (first|apply Kd.S_alloc|apply Kd.S_drewN|apply Kd.S_drew)); exact HO248.out) hb); have n1_ := Aside0.mk (Kd.R_below (by (with_reducible repeat (first|apply Kd.R_alloc|apply Kd.R_drewN|apply Kd.R_drew)); exact HO251.out) hb); have n2_ := Aside0.mk (Kd.R_below (by (with_reducible repeat (first|apply Kd.R_alloc|apply Kd.R_drewN|apply Kd.R_drew)); exact HO259.out) hb); have n3_ := Aside0.mk (Kd.R_below (by (with_reducible repeat (first|apply Kd.R_alloc|apply Kd.R_drewN|apply Kd.R_drew)); exact HO267.out) hb); have n4_ := Aside0.mk (Kd.R_below (by (with_reducible repeat (first|apply Kd.R_alloc|apply Kd.R_drewN|apply Kd.R_drew)); exact HO275.out) hb); have n5_ := Aside0.mk (blk_below (g := gb256) (o := .cells #[.slice Ao25 t249.length co25, .bool t252, .string t253, .string t254] 28 (0, 0)) (by (with_reducible repeat (first|refine blk_drewN ?_ _|refine blk_drew ?_|refine blk_alloc ?_ _)); exact BK256.out) hb); have n6_ := Aside0.mk (blk_below (g := gb264) (o := .cells #[.slice Ao29 t257.length co29, .bool t260, .string t261, .string t262] 28 (0, 0)) (by (with_reducible repeat (first|refine blk_drewN ?_ _|refine blk_drew ?_|refine blk_alloc ?_ _)); exact BK264.out) hb); have n7_ := Aside0.mk (blk_below (g := gb272) (o := .cells #[.slice Ao34 t265.length co34, .bool t268, .string t269, .string t270] 28 (0, 0)) (by (with_reducible repeat (first|refine blk_drewN ?_ _|refine blk_drew ?_|refine blk_alloc ?_ _)); exact BK272.out) hb); have n8_ := Aside0.mk (blk_below (g := gb280) (o := .cells #[.slice Ao40 t273.length co40, .bool t276, .string t277, .string t278] 28 (0, 0)) (by (with_reducible repeat (first|refine blk_drewN ?_ _|refine blk_drew ?_|refine blk_alloc ?_ _)); exact BK280.out) hb); have n9_ := Aside0.mk (below_step (by repeat (first|(with_reducible first|exact HB.out|apply below_alloc|apply pw_below_drewN|apply below_drew1|refine below_set ?_ GE256.out|refine below_set ?_ GE264.out|refine below_set ?_ GE272.out|refine below_set ?_ GE280.out)|exact HB.out)) hb); clear HO248; clear HO251; clear HO259; clear HO267; clear HO275; clear BK256; clear BK264; clear BK272; clear BK280; clear HB; have HO248 := n0_; have HO251 := n1_; have HO259 := n2_; have HO267 := n3_; have HO275 := n4_; have BK256 := n5_; have BK264 := n6_; have BK272 := n7_; have BK280 := n8_; have HB := n9_; clear n0_ n1_ n2_ n3_ n4_ n5_ n6_ n7_ n8_ n9_; (try clear hb); (try clear hb2); (try clear hk); (try clear hi))|(go_at_call 16; (with_reducible refine (listing_Check.calls kj6 _ _ t246 t283 _ ?side1 ?side2 A51.out).mono ?_); (case side1 => repeat (first|exact (Kd.S_reads' HO248.out).2.2|(with_reducible refine Kd.C_alloc ?_ _)|(with_reducible refine Kd.C_drewN ?_ _)|(with_reducible refine Kd.C_drew ?_))); (case side2 => exact (Kd.S_reads' HO248.out).2.1); rintro e w67 ⟨rfl, hb⟩; have n0_ := Aside0.mk (Kd.S_below (by (with_reducible repeat (first|apply Kd.S_alloc|apply Kd.S_drewN|apply Kd.S_drew)); exact HO248.out) hb); have n1_ := Aside0.mk (Kd.R_below (by (with_reducible repeat (first|apply Kd.R_alloc|apply Kd.R_drewN|apply Kd.R_drew)); exact HO251.out) hb); have n2_ := Aside0.mk (Kd.R_below (by (with_reducible repeat (first|apply Kd.R_alloc|apply Kd.R_drewN|apply Kd.R_drew)); exact HO259.out) hb); have n3_ := Aside0.mk (Kd.R_below (by (with_reducible repeat (first|apply Kd.R_alloc|apply Kd.R_drewN|apply Kd.R_drew)); exact HO267.out) hb); have n4_ := Aside0.mk (Kd.R_below (by (with_reducible repeat (first|apply Kd.R_alloc|apply Kd.R_drewN|apply Kd.R_drew)); exact HO275.out) hb); have n5_ := Aside0.mk (blk_below (g := gb256) (o := .cells #[.slice Ao25 t249.length co25, .bool t252, .string t253, .string t254] 28 (0, 0)) (by (with_reducible repeat (first|refine blk_drewN ?_ _|refine blk_drew ?_|refine blk_alloc ?_ _)); exact BK256.out) hb); have n6_ := Aside0.mk (blk_below (g := gb264) (o := .cells #[.slice Ao29 t257.length co29, .bool t260, .string t261, .string t262] 28 (0, 0)) (by (with_reducible repeat (first|refine blk_drewN ?_ _|refine blk_drew ?_|refine blk_alloc ?_ _)); exact BK264.out) hb); have n7_ := Aside0.mk (blk_below (g := gb272) (o := .cells #[.slice Ao34 t265.length co34, .bool t268, .string t269, .string t270] 28 (0, 0)) (by (with_reducible repeat (first|refine blk_drewN ?_ _|refine blk_drew ?_|refine blk_alloc ?_ _)); exact BK272.out) hb); have n8_ := Aside0.mk (blk_below (g := gb280) (o := .cells #[.slice Ao40 t273.length co40, .bool t276, .string t277, .string t278] 28 (0, 0)) (by (with_reducible repeat (first|refine blk_drewN ?_ _|refine blk_drew ?_|refine blk_alloc ?_ _)); exact BK280.out) hb); have n9_ := Aside0.mk (below_step (by repeat (first|(with_reducible first|exact HB.out|apply below_alloc|apply pw_below_drewN|apply below_drew1|refine below_set ?_ GE256.out|refine below_set ?_ GE264.out|refine below_set ?_ GE272.out|refine below_set ?_ GE280.out)|exact HB.out)) hb); clear HO248; clear HO251; clear HO259; clear HO267; clear HO275; clear BK256; clear BK264; clear BK272; clear BK280; clear HB; have HO248 := n0_; have HO251 := n1_; have HO259 := n2_; have HO267 := n3_; have HO275 := n4_; have BK256 := n5_; have BK264 := n6_; have BK272 := n7_; have BK280 := n8_; have HB := n9_; clear n0_ n1_ n2_ n3_ n4_ n5_ n6_ n7_ n8_ n9_; (try clear hb); (try clear hb2); (try clear hk); (try clear hi))|(go_at_call 17; (with_reducible refine (stowageref20_Check.calls kj6 _ _ l0 t284 _ ?side1 ?side2 A52.out).mono ?_); (case side1 => repeat (first|exact (Kd.C_below HR0.out HB.out)|(with_reducible refine Kd.C_alloc ?_ _)|(with_reducible refine Kd.C_drewN ?_ _)|(with_reducible refine Kd.C_drew ?_))); (case side2 => exact HC0.out); rintro e w' ⟨rfl, ⟨nd, rfl⟩⟩)|(go_at_call 18; (with_reducible refine (stowagekit_SameEntries.calls kj6 _ _ t246 _ _ l0 t285 _ ?side1 ?side2 ?side3 ?side4 A54.out).mono ?_); (case side1 => repeat (first|exact (Kd.S_reads' HO248.out).2.2|(with_reducible refine Kd.C_alloc ?_ _)|(with_reducible refine Kd.C_drewN ?_ _)|(with_reducible refine Kd.C_drew ?_))); (case side2 => exact (Kd.S_reads' HO248.out).2.1); (case side3 => repeat (first|exact (Kd.C_below HR0.out (by repeat (first|(with_reducible first|exact HB.out|apply below_alloc|apply pw_below_drewN|apply below_drew1|refine below_set ?_ GE256.out|refine below_set ?_ GE264.out|refine below_set ?_ GE272.out|refine below_set ?_ GE280.out)|exact HB.out)))|(with_reducible refine Kd.C_alloc ?_ _)|(with_reducible refine Kd.C_drewN ?_ _)|(with_reducible refine Kd.C_drew ?_))); (case side4 => exact HC0.out); rintro e w' ⟨rfl, ⟨nd, rfl⟩⟩))
          go_meet
          case rel => exact ⟨_, (!t285), (by first|rfl|(simp; done)|(simp [*]; done)), H', ⟨by have := HJ6.out; first|omega|exact Nat.le_refl _⟩, ⟨by (with_reducible repeat (first|apply Kd.S_alloc|apply Kd.S_drewN|apply Kd.S_drew)); exact HO248.out⟩, ⟨by (with_reducible repeat (first|apply Kd.R_alloc|apply Kd.R_drewN|apply Kd.R_drew)); exact Kd.R_mono HO251.out (fun _ hk => ⟨hk.1.1.2, ⟨hk.1.2, hk.2⟩⟩)⟩, ⟨by (with_reducible repeat (first|apply Kd.R_alloc|apply Kd.R_drewN|apply Kd.R_drew)); exact Kd.R_mono HO259.out (fun _ hk => ⟨hk.1.1.2, ⟨hk.1.2, hk.2⟩⟩)⟩, ⟨by (with_reducible repeat (first|apply Kd.R_alloc|apply Kd.R_drewN|apply Kd.R_drew)); exact Kd.R_mono HO267.out (fun _ hk => ⟨hk.1.1.2, ⟨hk.1.2, hk.2⟩⟩)⟩, ⟨by (with_reducible repeat (first|apply Kd.R_alloc|apply Kd.R_drewN|apply Kd.R_drew)); exact Kd.R_mono HO275.out (fun _ hk => ⟨hk.1.1.2, ⟨hk.1.2, hk.2⟩⟩)⟩, ⟨by (with_reducible repeat (first|refine blk_drewN ?_ _|refine blk_drew ?_|refine blk_alloc ?_ _)); exact BK256.out⟩, ⟨by (with_reducible repeat (first|refine blk_drewN ?_ _|refine blk_drew ?_|refine blk_alloc ?_ _)); exact BK264.out⟩, ⟨by (with_reducible repeat (first|refine blk_drewN ?_ _|refine blk_drew ?_|refine blk_alloc ?_ _)); exact BK272.out⟩, ⟨by (with_reducible repeat (first|refine blk_drewN ?_ _|refine blk_drew ?_|refine blk_alloc ?_ _)); exact BK280.out⟩, ⟨by repeat (first|(with_reducible first|exact HB.out|apply below_alloc|apply pw_below_drewN|apply below_drew1|refine below_set ?_ GE256.out|refine below_set ?_ GE264.out|refine below_set ?_ GE272.out|refine below_set ?_ GE280.out)|exact HB.out)⟩⟩
         ·rw [if_neg c53] at H
          have c53b0 : (t283 == t284) = false := beq_eq_false_iff_ne.mpr c53
          have c53b1 : (t283 != t284) = true := bne_iff_ne.mpr c53
          have H' := Aside0.mk H
          clear H
          have hnb68 := NB256_264.out
          have hnc68 := NB264_256.out
          have hnb69 := NB256_272.out
          have hnc69 := NB272_256.out
          have hnb70 := NB256_280.out
          have hnc70 := NB280_256.out
          have hcz71_0 : w39.cell? ⟨gb256, 0, none⟩ = some (.slice Ao25 t249.length co25) := (blk_cell BK256.out 0).trans rfl
          have hcz71_1 : w39.cell? ⟨gb256, 1, none⟩ = some (.bool t252) := (blk_cell BK256.out 1).trans rfl
          have hcz71_2 : w39.cell? ⟨gb256, 2, none⟩ = some (.string t253) := (blk_cell BK256.out 2).trans rfl
          have hcz71_3 : w39.cell? ⟨gb256, 3, none⟩ = some (.string t254) := (blk_cell BK256.out 3).trans rfl
          have hfz71_0 := blk_frozen BK256.out 0
          have hfz71_1 := blk_frozen BK256.out 1
          have hfz71_2 := blk_frozen BK256.out 2
          have hfz71_3 := blk_frozen BK256.out 3
          have hnb72 := NB264_272.out
          have hnc72 := NB272_264.out
          have hnb73 := NB264_280.out
          have hnc73 := NB280_264.out
          have hcz74_0 : w39.cell? ⟨gb264, 0, none⟩ = some (.slice Ao29 t257.length co29) := (blk_cell BK264.out 0).trans rfl
          have hcz74_1 : w39.cell? ⟨gb264, 1, none⟩ = some (.bool t260) := (blk_cell BK264.out 1).trans rfl
          have hcz74_2 : w39.cell? ⟨gb264, 2, none⟩ = some (.string t261) := (blk_cell BK264.out 2).trans rfl
          have hcz74_3 : w39.cell? ⟨gb264, 3, none⟩ = some (.string t262) := (blk_cell BK264.out 3).trans rfl
          have hfz74_0 := blk_frozen BK264.out 0
          have hfz74_1 := blk_frozen BK264.out 1
          have hfz74_2 := blk_frozen BK264.out 2
          have hfz74_3 := blk_frozen BK264.out 3
          go_wp2_with (first|((with_reducible refine gate_callee (f := 15) rfl ?_); refine goesL_ (some 75) rfl rfl Try.func15 (by kernel_rfl) rfl #[.agg #[.slice Ao25 t249.length co25, .bool t252, .string t253, .string t254], .agg #[.slice Ao29 t257.length co29, .bool t260, .string t261, .string t262]] rfl (by (try simp only [List.map_toArray, List.map_cons, List.map_nil]); first|done|rfl|(simp only [List.length_drop, List.length_take]; rfl)) ?_; (with_reducible refine (stowagekit_SamePage.calls kj6 _ _ t249 t252 t253 t254 _ _ t257 t260 t261 t262 true _ ?side1 ?side2 ?side3 ?side4 A45.out).mono ?_); (case side1 => refine (Kd.R_reads' (e := 39) (base := w.heap.size) (ok := fun k_ => (((True ∧ some k_ ≠ (.slice Ao29 t257.length co29 : Value).ownBlock) ∧ some k_ ≠ (.slice Ao34 t265.length co34 : Value).ownBlock) ∧ some k_ ≠ (.slice Ao40 t273.length co40 : Value).ownBlock)) (n := t249.length) (c := co25) ?_).2.2; exact (by (with_reducible repeat (first|apply Kd.R_alloc|apply Kd.R_drewN|apply Kd.R_drew)); exact (Kd.R_mono (Kd.R_far (p := ⟨gb280, 3, none⟩) (Kd.R_far (p := ⟨gb280, 2, none⟩) (Kd.R_far (p := ⟨gb280, 1, none⟩) (Kd.R_far (p := ⟨gb280, 0, none⟩) (Kd.R_types HO251.out BK280.out (by decide)) (fun _ hk => hk.2) (.slice Ao40 t273.length co40)) (fun _ hk => hk.2) (.bool t276)) (fun _ hk => hk.2) (.string t277)) (fun _ hk => hk.2) (.string t278)) (fun _ h_ => h_.1)))); (case side2 => exact (Kd.R_reads' HO251.out).2.1); (case side3 => refine (Kd.R_reads' (e := 39) (base := w.heap.size) (ok := fun k_ => (((True ∧ some k_ ≠ (.slice Ao25 t249.length co25 : Value).ownBlock) ∧ some k_ ≠ (.slice Ao34 t265.length co34 : Value).ownBlock) ∧ some k_ ≠ (.slice Ao40 t273.length co40 : Value).ownBlock)) (n := t257.length) (c := co29) ?_).2.2; exact (by (with_reducible repeat (first|apply Kd.R_alloc|apply Kd.R_drewN|apply Kd.R_drew)); exact (Kd.R_mono (Kd.R_far (p := ⟨gb280, 3, none⟩) (Kd.R_far (p := ⟨gb280, 2, none⟩) (Kd.R_far (p := ⟨gb280, 1, none⟩) (Kd.R_far (p := ⟨gb280, 0, none⟩) (Kd.R_types HO259.out BK280.out (by decide)) (fun _ hk => hk.2) (.slice Ao40 t273.length co40)) (fun _ hk => hk.2) (.bool t276)) (fun _ hk => hk.2) (.string t277)) (fun _ hk => hk.2) (.string t278)) (fun _ h_ => h_.1)))); (case side4 => exact (Kd.R_reads' HO259.out).2.1); rintro e w75 ⟨rfl, hb⟩; refine ⟨_, rfl, ?_⟩; have n0_ := Aside0.mk (Kd.S_below (by (with_reducible repeat (first|apply Kd.S_alloc|apply Kd.S_drewN|apply Kd.S_drew)); exact (Kd.S_mono (Kd.S_far (p := ⟨gb280, 3, none⟩) (Kd.S_far (p := ⟨gb280, 2, none⟩) (Kd.S_far (p := ⟨gb280, 1, none⟩) (Kd.S_far (p := ⟨gb280, 0, none⟩) (Kd.S_types HO248.out BK280.out (by decide)) (fun _ hk => hk.2) (.slice Ao40 t273.length co40)) (fun _ hk => hk.2) (.bool t276)) (fun _ hk => hk.2) (.string t277)) (fun _ hk => hk.2) (.string t278)) (fun _ h_ => h_.1))) hb); have n1_ := Aside0.mk (Kd.R_below (by (with_reducible repeat (first|apply Kd.R_alloc|apply Kd.R_drewN|apply Kd.R_drew)); exact (Kd.R_mono (Kd.R_far (p := ⟨gb280, 3, none⟩) (Kd.R_far (p := ⟨gb280, 2, none⟩) (Kd.R_far (p := ⟨gb280, 1, none⟩) (Kd.R_far (p := ⟨gb280, 0, none⟩) (Kd.R_types HO251.out BK280.out (by decide)) (fun _ hk => hk.2) (.slice Ao40 t273.length co40)) (fun _ hk => hk.2) (.bool t276)) (fun _ hk => hk.2) (.string t277)) (fun _ hk => hk.2) (.string t278)) (fun _ h_ => h_.1))) hb); have n2_ := Aside0.mk (Kd.R_below (by (with_reducible repeat (first|apply Kd.R_alloc|apply Kd.R_drewN|apply Kd.R_drew)); exact (Kd.R_mono (Kd.R_far (p := ⟨gb280, 3, none⟩) (Kd.R_far (p := ⟨gb280, 2, none⟩) (Kd.R_far (p := ⟨gb280, 1, none⟩) (Kd.R_far (p := ⟨gb280, 0, none⟩) (Kd.R_types HO259.out BK280.out (by decide)) (fun _ hk => hk.2) (.slice Ao40 t273.length co40)) (fun _ hk => hk.2) (.bool t276)) (fun _ hk => hk.2) (.string t277)) (fun _ hk => hk.2) (.string t278)) (fun _ h_ => h_.1))) hb); have n3_ := Aside0.mk (Kd.R_below (by (with_reducible repeat (first|apply Kd.R_alloc|apply Kd.R_drewN|apply Kd.R_drew)); exact (Kd.R_mono (Kd.R_far (p := ⟨gb280, 3, none⟩) (Kd.R_far (p := ⟨gb280, 2, none⟩) (Kd.R_far (p := ⟨gb280, 1, none⟩) (Kd.R_far (p := ⟨gb280, 0, none⟩) (Kd.R_types HO267.out BK280.out (by decide)) (fun _ hk => hk.2) (.slice Ao40 t273.length co40)) (fun _ hk => hk.2) (.bool t276)) (fun _ hk => hk.2) (.string t277)) (fun _ hk => hk.2) (.string t278)) (fun _ h_ => h_.1))) hb); have n4_ := Aside0.mk (Kd.R_below (by (with_reducible repeat (first|apply Kd.R_alloc|apply Kd.R_drewN|apply Kd.R_drew)); exact (Kd.R_mono (Kd.R_far (p := ⟨gb280, 3, none⟩) (Kd.R_far (p := ⟨gb280, 2, none⟩) (Kd.R_far (p := ⟨gb280, 1, none⟩) (Kd.R_far (p := ⟨gb280, 0, none⟩) (Kd.R_types HO275.out BK280.out (by decide)) (fun _ hk => hk.2) (.slice Ao40 t273.length co40)) (fun _ hk => hk.2) (.bool t276)) (fun _ hk => hk.2) (.string t277)) (fun _ hk => hk.2) (.string t278)) (fun _ h_ => h_.1))) hb); have n5_ := Aside0.mk (blk_below (g := gb256) (o := .cells #[.slice Ao25 t249.length co25, .bool t252, .string t253, .string t254] 28 (0, 0)) (by (with_reducible repeat (first|refine blk_drewN ?_ _|refine blk_drew ?_|refine blk_alloc ?_ _)); refine blk_far ?_ NB256_280.out _; (with_reducible repeat (first|refine blk_drewN ?_ _|refine blk_drew ?_|refine blk_alloc ?_ _)); refine blk_far ?_ NB256_280.out _; (with_reducible repeat (first|refine blk_drewN ?_ _|refine blk_drew ?_|refine blk_alloc ?_ _)); refine blk_far ?_ NB256_280.out _; (with_reducible repeat (first|refine blk_drewN ?_ _|refine blk_drew ?_|refine blk_alloc ?_ _)); refine blk_far ?_ NB256_280.out _; (with_reducible repeat (first|refine blk_drewN ?_ _|refine blk_drew ?_|refine blk_alloc ?_ _)); exact BK256.out) hb); have n6_ := Aside0.mk (blk_below (g := gb264) (o := .cells #[.slice Ao29 t257.length co29, .bool t260, .string t261, .string t262] 28 (0, 0)) (by (with_reducible repeat (first|refine blk_drewN ?_ _|refine blk_drew ?_|refine blk_alloc ?_ _)); refine blk_far ?_ NB264_280.out _; (with_reducible repeat (first|refine blk_drewN ?_ _|refine blk_drew ?_|refine blk_alloc ?_ _)); refine blk_far ?_ NB264_280.out _; (with_reducible repeat (first|refine blk_drewN ?_ _|refine blk_drew ?_|refine blk_alloc ?_ _)); refine blk_far ?_ NB264_280.out _; (with_reducible repeat (first|refine blk_drewN ?_ _|refine blk_drew ?_|refine blk_alloc ?_ _)); refine blk_far ?_ NB264_280.out _; (with_reducible repeat (first|refine blk_drewN ?_ _|refine blk_drew ?_|refine blk_alloc ?_ _)); exact BK264.out) hb); have n7_ := Aside0.mk (blk_below (g := gb272) (o := .cells #[.slice Ao34 t265.length co34, .bool t268, .string t269, .string t270] 28 (0, 0)) (by (with_reducible repeat (first|refine blk_drewN ?_ _|refine blk_drew ?_|refine blk_alloc ?_ _)); refine blk_far ?_ NB272_280.out _; (with_reducible repeat (first|refine blk_drewN ?_ _|refine blk_drew ?_|refine blk_alloc ?_ _)); refine blk_far ?_ NB272_280.out _; (with_reducible repeat (first|refine blk_drewN ?_ _|refine blk_drew ?_|refine blk_alloc ?_ _)); refine blk_far ?_ NB272_280.out _; (with_reducible repeat (first|refine blk_drewN ?_ _|refine blk_drew ?_|refine blk_alloc ?_ _)); refine blk_far ?_ NB272_280.out _; (with_reducible repeat (first|refine blk_drewN ?_ _|refine blk_drew ?_|refine blk_alloc ?_ _)); exact BK272.out) hb); have n8_ := Aside0.mk (blk_below (g := gb280) (o := .cells #[.slice Ao40 t273.length co40, .bool t276, .string t277, .string t278] 28 (0, 0)) (by (with_reducible repeat (first|refine blk_drewN ?_ _|refine blk_drew ?_|refine blk_alloc ?_ _)); refine blk_put (cs := #[.slice Ao40 t273.length co40, .bool t276, .string t277, .string (⟨#[]⟩ : ByteArray)]) ?_ 3 _ rfl; (with_reducible repeat (first|refine blk_drewN ?_ _|refine blk_drew ?_|refine blk_alloc ?_ _)); refine blk_put (cs := #[.slice Ao40 t273.length co40, .bool t276, .string (⟨#[]⟩ : ByteArray), .string (⟨#[]⟩ : ByteArray)]) ?_ 2 _ rfl; (with_reducible repeat (first|refine blk_drewN ?_ _|refine blk_drew ?_|refine blk_alloc ?_ _)); refine blk_put (cs := #[.slice Ao40 t273.length co40, .bool false, .string (⟨#[]⟩ : ByteArray), .string (⟨#[]⟩ : ByteArray)]) ?_ 1 _ rfl; (with_reducible repeat (first|refine blk_drewN ?_ _|refine blk_drew ?_|refine blk_alloc ?_ _)); refine blk_put (cs := #[.slice none 0 0, .bool false, .string (⟨#[]⟩ : ByteArray), .string (⟨#[]⟩ : ByteArray)]) ?_ 0 _ rfl; (with_reducible repeat (first|refine blk_drewN ?_ _|refine blk_drew ?_|refine blk_alloc ?_ _)); exact BK280.out) hb); have n9_ := Aside0.mk (below_step (by repeat (first|(with_reducible first|exact HB.out|apply below_alloc|apply pw_below_drewN|apply below_drew1|refine below_set ?_ GE256.out|refine below_set ?_ GE264.out|refine below_set ?_ GE272.out|refine below_set ?_ GE280.out)|exact HB.out)) hb); clear HO248; clear HO251; clear HO259; clear HO267; clear HO275; clear BK256; clear BK264; clear BK272; clear BK280; clear HB; have HO248 := n0_; have HO251 := n1_; have HO259 := n2_; have HO267 := n3_; have HO275 := n4_; have BK256 := n5_; have BK264 := n6_; have BK272 := n7_; have BK280 := n8_; have HB := n9_; clear n0_ n1_ n2_ n3_ n4_ n5_ n6_ n7_ n8_ n9_; (try clear hb); (try clear hb2); (try clear hk); (try clear hi); have hnb76 := NB272_280.out; have hnc76 := NB280_272.out; have hcz77_0 : w75.cell? ⟨gb272, 0, none⟩ = some (.slice Ao34 t265.length co34) := (blk_cell BK272.out 0).trans rfl; have hcz77_1 : w75.cell? ⟨gb272, 1, none⟩ = some (.bool t268) := (blk_cell BK272.out 1).trans rfl; have hcz77_2 : w75.cell? ⟨gb272, 2, none⟩ = some (.string t269) := (blk_cell BK272.out 2).trans rfl; have hcz77_3 : w75.cell? ⟨gb272, 3, none⟩ = some (.string t270) := (blk_cell BK272.out 3).trans rfl; have hfz77_0 := blk_frozen BK272.out 0; have hfz77_1 := blk_frozen BK272.out 1; have hfz77_2 := blk_frozen BK272.out 2; have hfz77_3 := blk_frozen BK272.out 3; have hcz78_0 : w75.cell? ⟨gb280, 0, none⟩ = some (.slice Ao40 t273.length co40) := (blk_cell BK280.out 0).trans rfl; have hcz78_1 : w75.cell? ⟨gb280, 1, none⟩ = some (.bool t276) := (blk_cell BK280.out 1).trans rfl; have hcz78_2 : w75.cell? ⟨gb280, 2, none⟩ = some (.string t277) := (blk_cell BK280.out 2).trans rfl; have hcz78_3 : w75.cell? ⟨gb280, 3, none⟩ = some (.string t278) := (blk_cell BK280.out 3).trans rfl; have hfz78_0 := blk_frozen BK280.out 0; have hfz78_1 := blk_frozen BK280.out 1; have hfz78_2 := blk_frozen BK280.out 2; have hfz78_3 := blk_frozen BK280.out 3)|(go_at_call 15; (with_reducible refine (stowagekit_SamePage.calls kj6 _ _ t265 t268 t269 t270 _ _ t273 t276 t277 t278 true _ ?side1 ?side2 ?side3 ?side4 A48.out).mono ?_); (case side1 => repeat (first|exact (Kd.R_reads' HO267.out).2.2|(with_reducible refine Kd.C_alloc ?_ _)|(with_reducible refine Kd.C_drewN ?_ _)|(with_reducible refine Kd.C_drew ?_))); (case side2 => exact (Kd.R_reads' HO267.out).2.1); (case side3 => repeat (first|exact (Kd.R_reads' HO275.out).2.2|(with_reducible refine Kd.C_alloc ?_ _)|(with_reducible refine Kd.C_drewN ?_ _)|(with_reducible refine Kd.C_drew ?_))); (case side4 => exact (Kd.R_reads' HO275.out).2.1); rintro e w79 ⟨rfl, hb⟩; have n0_ := Aside0.mk (Kd.S_below (by (with_reducible repeat (first|apply Kd.S_alloc|apply Kd.S_drewN|apply Kd.S_drew)); exact HO248.out) hb); have n1_ := Aside0.mk (Kd.R_below (by (with_reducible repeat (first|apply Kd.R_alloc|apply Kd.R_drewN|apply Kd.R_drew)); exact HO251.out) hb); have n2_ := Aside0.mk (Kd.R_below (by (with_reducible repeat (first|apply Kd.R_alloc|apply Kd.R_drewN|apply Kd.R_drew)); exact HO259.out) hb); have n3_ := Aside0.mk (Kd.R_below (by (with_reducible repeat (first|apply Kd.R_alloc|apply Kd.R_drewN|apply Kd.R_drew)); exact HO267.out) hb); have n4_ := Aside0.mk (Kd.R_below (by (with_reducible repeat (first|apply Kd.R_alloc|apply Kd.R_drewN|apply Kd.R_drew)); exact HO275.out) hb); have n5_ := Aside0.mk (blk_below (g := gb256) (o := .cells #[.slice Ao25 t249.length co25, .bool t252, .string t253, .string t254] 28 (0, 0)) (by (with_reducible repeat (first|refine blk_drewN ?_ _|refine blk_drew ?_|refine blk_alloc ?_ _)); exact BK256.out) hb); have n6_ := Aside0.mk (blk_below (g := gb264) (o := .cells #[.slice Ao29 t257.length co29, .bool t260, .string t261, .string t262] 28 (0, 0)) (by (with_reducible repeat (first|refine blk_drewN ?_ _|refine blk_drew ?_|refine blk_alloc ?_ _)); exact BK264.out) hb); have n7_ := Aside0.mk (blk_below (g := gb272) (o := .cells #[.slice Ao34 t265.length co34, .bool t268, .string t269, .string t270] 28 (0, 0)) (by (with_reducible repeat (first|refine blk_drewN ?_ _|refine blk_drew ?_|refine blk_alloc ?_ _)); exact BK272.out) hb); have n8_ := Aside0.mk (blk_below (g := gb280) (o := .cells #[.slice Ao40 t273.length co40, .bool t276, .string t277, .string t278] 28 (0, 0)) (by (with_reducible repeat (first|refine blk_drewN ?_ _|refine blk_drew ?_|refine blk_alloc ?_ _)); exact BK280.out) hb); have n9_ := Aside0.mk (below_step (by repeat (first|(with_reducible first|exact HB.out|apply below_alloc|apply pw_below_drewN|apply below_drew1|refine below_set ?_ GE256.out|refine below_set ?_ GE264.out|refine below_set ?_ GE272.out|refine below_set ?_ GE280.out)|exact HB.out)) hb); clear HO248; clear HO251; clear HO259; clear HO267; clear HO275; clear BK256; clear BK264; clear BK272; clear BK280; clear HB; have HO248 := n0_; have HO251 := n1_; have HO259 := n2_; have HO267 := n3_; have HO275 := n4_; have BK256 := n5_; have BK264 := n6_; have BK272 := n7_; have BK280 := n8_; have HB := n9_; clear n0_ n1_ n2_ n3_ n4_ n5_ n6_ n7_ n8_ n9_; (try clear hb); (try clear hb2); (try clear hk); (try clear hi))|(go_at_call 16; (with_reducible refine (listing_Check.calls kj6 _ _ t246 t283 _ ?side1 ?side2 A51.out).mono ?_); (case side1 => repeat (first|exact (Kd.S_reads' HO248.out).2.2|(with_reducible refine Kd.C_alloc ?_ _)|(with_reducible refine Kd.C_drewN ?_ _)|(with_reducible refine Kd.C_drew ?_))); (case side2 => exact (Kd.S_reads' HO248.out).2.1); rintro e w80 ⟨rfl, hb⟩; have n0_ := Aside0.mk (Kd.S_below (by (with_reducible repeat (first|apply Kd.S_alloc|apply Kd.S_drewN|apply Kd.S_drew)); exact HO248.out) hb); have n1_ := Aside0.mk (Kd.R_below (by (with_reducible repeat (first|apply Kd.R_alloc|apply Kd.R_drewN|apply Kd.R_drew)); exact HO251.out) hb); have n2_ := Aside0.mk (Kd.R_below (by (with_reducible repeat (first|apply Kd.R_alloc|apply Kd.R_drewN|apply Kd.R_drew)); exact HO259.out) hb); have n3_ := Aside0.mk (Kd.R_below (by (with_reducible repeat (first|apply Kd.R_alloc|apply Kd.R_drewN|apply Kd.R_drew)); exact HO267.out) hb); have n4_ := Aside0.mk (Kd.R_below (by (with_reducible repeat (first|apply Kd.R_alloc|apply Kd.R_drewN|apply Kd.R_drew)); exact HO275.out) hb); have n5_ := Aside0.mk (blk_below (g := gb256) (o := .cells #[.slice Ao25 t249.length co25, .bool t252, .string t253, .string t254] 28 (0, 0)) (by (with_reducible repeat (first|refine blk_drewN ?_ _|refine blk_drew ?_|refine blk_alloc ?_ _)); exact BK256.out) hb); have n6_ := Aside0.mk (blk_below (g := gb264) (o := .cells #[.slice Ao29 t257.length co29, .bool t260, .string t261, .string t262] 28 (0, 0)) (by (with_reducible repeat (first|refine blk_drewN ?_ _|refine blk_drew ?_|refine blk_alloc ?_ _)); exact BK264.out) hb); have n7_ := Aside0.mk (blk_below (g := gb272) (o := .cells #[.slice Ao34 t265.length co34, .bool t268, .string t269, .string t270] 28 (0, 0)) (by (with_reducible repeat (first|refine blk_drewN ?_ _|refine blk_drew ?_|refine blk_alloc ?_ _)); exact BK272.out) hb); have n8_ := Aside0.mk (blk_below (g := gb280) (o := .cells #[.slice Ao40 t273.length co40, .bool t276, .string t277, .string t278] 28 (0, 0)) (by (with_reducible repeat (first|refine blk_drewN ?_ _|refine blk_drew ?_|refine blk_alloc ?_ _)); exact BK280.out) hb); have n9_ := Aside0.mk (below_step (by repeat (first|(with_reducible first|exact HB.out|apply below_alloc|apply pw_below_drewN|apply below_drew1|refine below_set ?_ GE256.out|refine below_set ?_ GE264.out|refine below_set ?_ GE272.out|refine below_set ?_ GE280.out)|exact HB.out)) hb); clear HO248; clear HO251; clear HO259; clear HO267; clear HO275; clear BK256; clear BK264; clear BK272; clear BK280; clear HB; have HO248 := n0_; have HO251 := n1_; have HO259 := n2_; have HO267 := n3_; have HO275 := n4_; have BK256 := n5_; have BK264 := n6_; have BK272 := n7_; have BK280 := n8_; have HB := n9_; clear n0_ n1_ n2_ n3_ n4_ n5_ n6_ n7_ n8_ n9_; (try clear hb); (try clear hb2); (try clear hk); (try clear hi))|(go_at_call 17; (with_reducible refine (stowageref20_Check.calls kj6 _ _ l0 t284 _ ?side1 ?side2 A52.out).mono ?_); (case side1 => repeat (first|exact (Kd.C_below HR0.out HB.out)|(with_reducible refine Kd.C_alloc ?_ _)|(with_reducible refine Kd.C_drewN ?_ _)|(with_reducible refine Kd.C_drew ?_))); (case side2 => exact HC0.out); rintro e w' ⟨rfl, ⟨nd, rfl⟩⟩))
          go_meet
          case rel => exact ⟨_, (true), (by first|rfl|(simp; done)|(simp [*]; done)), H', ⟨by have := HJ6.out; first|omega|exact Nat.le_refl _⟩, ⟨by (with_reducible repeat (first|apply Kd.S_alloc|apply Kd.S_drewN|apply Kd.S_drew)); exact HO248.out⟩, ⟨by (with_reducible repeat (first|apply Kd.R_alloc|apply Kd.R_drewN|apply Kd.R_drew)); exact Kd.R_mono HO251.out (fun _ hk => ⟨hk.1.1.2, ⟨hk.1.2, hk.2⟩⟩)⟩, ⟨by (with_reducible repeat (first|apply Kd.R_alloc|apply Kd.R_drewN|apply Kd.R_drew)); exact Kd.R_mono HO259.out (fun _ hk => ⟨hk.1.1.2, ⟨hk.1.2, hk.2⟩⟩)⟩, ⟨by (with_reducible repeat (first|apply Kd.R_alloc|apply Kd.R_drewN|apply Kd.R_drew)); exact Kd.R_mono HO267.out (fun _ hk => ⟨hk.1.1.2, ⟨hk.1.2, hk.2⟩⟩)⟩, ⟨by (with_reducible repeat (first|apply Kd.R_alloc|apply Kd.R_drewN|apply Kd.R_drew)); exact Kd.R_mono HO275.out (fun _ hk => ⟨hk.1.1.2, ⟨hk.1.2, hk.2⟩⟩)⟩, ⟨by (with_reducible repeat (first|refine blk_drewN ?_ _|refine blk_drew ?_|refine blk_alloc ?_ _)); exact BK256.out⟩, ⟨by (with_reducible repeat (first|refine blk_drewN ?_ _|refine blk_drew ?_|refine blk_alloc ?_ _)); exact BK264.out⟩, ⟨by (with_reducible repeat (first|refine blk_drewN ?_ _|refine blk_drew ?_|refine blk_alloc ?_ _)); exact BK272.out⟩, ⟨by (with_reducible repeat (first|refine blk_drewN ?_ _|refine blk_drew ?_|refine blk_alloc ?_ _)); exact BK280.out⟩, ⟨by repeat (first|(with_reducible first|exact HB.out|apply below_alloc|apply pw_below_drewN|apply below_drew1|refine below_set ?_ GE256.out|refine below_set ?_ GE264.out|refine below_set ?_ GE272.out|refine below_set ?_ GE280.out)|exact HB.out)⟩⟩
        ·rw [if_neg c50] at H
         have c50b0 : (t271 == t279) = false := beq_eq_false_iff_ne.mpr c50
         have c50b1 : (t271 != t279) = true := bne_iff_ne.mpr c50
         have H' := Aside0.mk H
         clear H
         have hnb81 := NB256_264.out
         have hnc81 := NB264_256.out
         have hnb82 := NB256_272.out
         have hnc82 := NB272_256.out
         have hnb83 := NB256_280.out
         have hnc83 := NB280_256.out
         have hcz84_0 : w39.cell? ⟨gb256, 0, none⟩ = some (.slice Ao25 t249.length co25) := (blk_cell BK256.out 0).trans rfl
         have hcz84_1 : w39.cell? ⟨gb256, 1, none⟩ = some (.bool t252) := (blk_cell BK256.out 1).trans rfl
         have hcz84_2 : w39.cell? ⟨gb256, 2, none⟩ = some (.string t253) := (blk_cell BK256.out 2).trans rfl
         have hcz84_3 : w39.cell? ⟨gb256, 3, none⟩ = some (.string t254) := (blk_cell BK256.out 3).trans rfl
         have hfz84_0 := blk_frozen BK256.out 0
         have hfz84_1 := blk_frozen BK256.out 1
         have hfz84_2 := blk_frozen BK256.out 2
         have hfz84_3 := blk_frozen BK256.out 3
         have hnb85 := NB264_272.out
         have hnc85 := NB272_264.out
         have hnb86 := NB264_280.out
         have hnc86 := NB280_264.out
         have hcz87_0 : w39.cell? ⟨gb264, 0, none⟩ = some (.slice Ao29 t257.length co29) := (blk_cell BK264.out 0).trans rfl
         have hcz87_1 : w39.cell? ⟨gb264, 1, none⟩ = some (.bool t260) := (blk_cell BK264.out 1).trans rfl
         have hcz87_2 : w39.cell? ⟨gb264, 2, none⟩ = some (.string t261) := (blk_cell BK264.out 2).trans rfl
         have hcz87_3 : w39.cell? ⟨gb264, 3, none⟩ = some (.string t262) := (blk_cell BK264.out 3).trans rfl
         have hfz87_0 := blk_frozen BK264.out 0
         have hfz87_1 := blk_frozen BK264.out 1
         have hfz87_2 := blk_frozen BK264.out 2
         have hfz87_3 := blk_frozen BK264.out 3
         go_wp2_with (first|((with_reducible refine gate_callee (f := 15) rfl ?_); refine goesL_ (some 75) rfl rfl Try.func15 (by kernel_rfl) rfl #[.agg #[.slice Ao25 t249.length co25, .bool t252, .string t253, .string t254], .agg #[.slice Ao29 t257.length co29, .bool t260, .string t261, .string t262]] rfl (by (try simp only [List.map_toArray, List.map_cons, List.map_nil]); first|done|rfl|(simp only [List.length_drop, List.length_take]; rfl)) ?_; (with_reducible refine (stowagekit_SamePage.calls kj6 _ _ t249 t252 t253 t254 _ _ t257 t260 t261 t262 true _ ?side1 ?side2 ?side3 ?side4 A45.out).mono ?_); (case side1 => refine (Kd.R_reads' (e := 39) (base := w.heap.size) (ok := fun k_ => (((True ∧ some k_ ≠ (.slice Ao29 t257.length co29 : Value).ownBlock) ∧ some k_ ≠ (.slice Ao34 t265.length co34 : Value).ownBlock) ∧ some k_ ≠ (.slice Ao40 t273.length co40 : Value).ownBlock)) (n := t249.length) (c := co25) ?_).2.2; exact (by (with_reducible repeat (first|apply Kd.R_alloc|apply Kd.R_drewN|apply Kd.R_drew)); exact (Kd.R_mono (Kd.R_far (p := ⟨gb280, 3, none⟩) (Kd.R_far (p := ⟨gb280, 2, none⟩) (Kd.R_far (p := ⟨gb280, 1, none⟩) (Kd.R_far (p := ⟨gb280, 0, none⟩) (Kd.R_types HO251.out BK280.out (by decide)) (fun _ hk => hk.2) (.slice Ao40 t273.length co40)) (fun _ hk => hk.2) (.bool t276)) (fun _ hk => hk.2) (.string t277)) (fun _ hk => hk.2) (.string t278)) (fun _ h_ => h_.1)))); (case side2 => exact (Kd.R_reads' HO251.out).2.1); (case side3 => refine (Kd.R_reads' (e := 39) (base := w.heap.size) (ok := fun k_ => (((True ∧ some k_ ≠ (.slice Ao25 t249.length co25 : Value).ownBlock) ∧ some k_ ≠ (.slice Ao34 t265.length co34 : Value).ownBlock) ∧ some k_ ≠ (.slice Ao40 t273.length co40 : Value).ownBlock)) (n := t257.length) (c := co29) ?_).2.2; exact (by (with_reducible repeat (first|apply Kd.R_alloc|apply Kd.R_drewN|apply Kd.R_drew)); exact (Kd.R_mono (Kd.R_far (p := ⟨gb280, 3, none⟩) (Kd.R_far (p := ⟨gb280, 2, none⟩) (Kd.R_far (p := ⟨gb280, 1, none⟩) (Kd.R_far (p := ⟨gb280, 0, none⟩) (Kd.R_types HO259.out BK280.out (by decide)) (fun _ hk => hk.2) (.slice Ao40 t273.length co40)) (fun _ hk => hk.2) (.bool t276)) (fun _ hk => hk.2) (.string t277)) (fun _ hk => hk.2) (.string t278)) (fun _ h_ => h_.1)))); (case side4 => exact (Kd.R_reads' HO259.out).2.1); rintro e w88 ⟨rfl, hb⟩; refine ⟨_, rfl, ?_⟩; have n0_ := Aside0.mk (Kd.S_below (by (with_reducible repeat (first|apply Kd.S_alloc|apply Kd.S_drewN|apply Kd.S_drew)); exact (Kd.S_mono (Kd.S_far (p := ⟨gb280, 3, none⟩) (Kd.S_far (p := ⟨gb280, 2, none⟩) (Kd.S_far (p := ⟨gb280, 1, none⟩) (Kd.S_far (p := ⟨gb280, 0, none⟩) (Kd.S_types HO248.out BK280.out (by decide)) (fun _ hk => hk.2) (.slice Ao40 t273.length co40)) (fun _ hk => hk.2) (.bool t276)) (fun _ hk => hk.2) (.string t277)) (fun _ hk => hk.2) (.string t278)) (fun _ h_ => h_.1))) hb); have n1_ := Aside0.mk (Kd.R_below (by (with_reducible repeat (first|apply Kd.R_alloc|apply Kd.R_drewN|apply Kd.R_drew)); exact (Kd.R_mono (Kd.R_far (p := ⟨gb280, 3, none⟩) (Kd.R_far (p := ⟨gb280, 2, none⟩) (Kd.R_far (p := ⟨gb280, 1, none⟩) (Kd.R_far (p := ⟨gb280, 0, none⟩) (Kd.R_types HO251.out BK280.out (by decide)) (fun _ hk => hk.2) (.slice Ao40 t273.length co40)) (fun _ hk => hk.2) (.bool t276)) (fun _ hk => hk.2) (.string t277)) (fun _ hk => hk.2) (.string t278)) (fun _ h_ => h_.1))) hb); have n2_ := Aside0.mk (Kd.R_below (by (with_reducible repeat (first|apply Kd.R_alloc|apply Kd.R_drewN|apply Kd.R_drew)); exact (Kd.R_mono (Kd.R_far (p := ⟨gb280, 3, none⟩) (Kd.R_far (p := ⟨gb280, 2, none⟩) (Kd.R_far (p := ⟨gb280, 1, none⟩) (Kd.R_far (p := ⟨gb280, 0, none⟩) (Kd.R_types HO259.out BK280.out (by decide)) (fun _ hk => hk.2) (.slice Ao40 t273.length co40)) (fun _ hk => hk.2) (.bool t276)) (fun _ hk => hk.2) (.string t277)) (fun _ hk => hk.2) (.string t278)) (fun _ h_ => h_.1))) hb); have n3_ := Aside0.mk (Kd.R_below (by (with_reducible repeat (first|apply Kd.R_alloc|apply Kd.R_drewN|apply Kd.R_drew)); exact (Kd.R_mono (Kd.R_far (p := ⟨gb280, 3, none⟩) (Kd.R_far (p := ⟨gb280, 2, none⟩) (Kd.R_far (p := ⟨gb280, 1, none⟩) (Kd.R_far (p := ⟨gb280, 0, none⟩) (Kd.R_types HO267.out BK280.out (by decide)) (fun _ hk => hk.2) (.slice Ao40 t273.length co40)) (fun _ hk => hk.2) (.bool t276)) (fun _ hk => hk.2) (.string t277)) (fun _ hk => hk.2) (.string t278)) (fun _ h_ => h_.1))) hb); have n4_ := Aside0.mk (Kd.R_below (by (with_reducible repeat (first|apply Kd.R_alloc|apply Kd.R_drewN|apply Kd.R_drew)); exact (Kd.R_mono (Kd.R_far (p := ⟨gb280, 3, none⟩) (Kd.R_far (p := ⟨gb280, 2, none⟩) (Kd.R_far (p := ⟨gb280, 1, none⟩) (Kd.R_far (p := ⟨gb280, 0, none⟩) (Kd.R_types HO275.out BK280.out (by decide)) (fun _ hk => hk.2) (.slice Ao40 t273.length co40)) (fun _ hk => hk.2) (.bool t276)) (fun _ hk => hk.2) (.string t277)) (fun _ hk => hk.2) (.string t278)) (fun _ h_ => h_.1))) hb); have n5_ := Aside0.mk (blk_below (g := gb256) (o := .cells #[.slice Ao25 t249.length co25, .bool t252, .string t253, .string t254] 28 (0, 0)) (by (with_reducible repeat (first|refine blk_drewN ?_ _|refine blk_drew ?_|refine blk_alloc ?_ _)); refine blk_far ?_ NB256_280.out _; (with_reducible repeat (first|refine blk_drewN ?_ _|refine blk_drew ?_|refine blk_alloc ?_ _)); refine blk_far ?_ NB256_280.out _; (with_reducible repeat (first|refine blk_drewN ?_ _|refine blk_drew ?_|refine blk_alloc ?_ _)); refine blk_far ?_ NB256_280.out _; (with_reducible repeat (first|refine blk_drewN ?_ _|refine blk_drew ?_|refine blk_alloc ?_ _)); refine blk_far ?_ NB256_280.out _; (with_reducible repeat (first|refine blk_drewN ?_ _|refine blk_drew ?_|refine blk_alloc ?_ _)); exact BK256.out) hb); have n6_ := Aside0.mk (blk_below (g := gb264) (o := .cells #[.slice Ao29 t257.length co29, .bool t260, .string t261, .string t262] 28 (0, 0)) (by (with_reducible repeat (first|refine blk_drewN ?_ _|refine blk_drew ?_|refine blk_alloc ?_ _)); refine blk_far ?_ NB264_280.out _; (with_reducible repeat (first|refine blk_drewN ?_ _|refine blk_drew ?_|refine blk_alloc ?_ _)); refine blk_far ?_ NB264_280.out _; (with_reducible repeat (first|refine blk_drewN ?_ _|refine blk_drew ?_|refine blk_alloc ?_ _)); refine blk_far ?_ NB264_280.out _; (with_reducible repeat (first|refine blk_drewN ?_ _|refine blk_drew ?_|refine blk_alloc ?_ _)); refine blk_far ?_ NB264_280.out _; (with_reducible repeat (first|refine blk_drewN ?_ _|refine blk_drew ?_|refine blk_alloc ?_ _)); exact BK264.out) hb); have n7_ := Aside0.mk (blk_below (g := gb272) (o := .cells #[.slice Ao34 t265.length co34, .bool t268, .string t269, .string t270] 28 (0, 0)) (by (with_reducible repeat (first|refine blk_drewN ?_ _|refine blk_drew ?_|refine blk_alloc ?_ _)); refine blk_far ?_ NB272_280.out _; (with_reducible repeat (first|refine blk_drewN ?_ _|refine blk_drew ?_|refine blk_alloc ?_ _)); refine blk_far ?_ NB272_280.out _; (with_reducible repeat (first|refine blk_drewN ?_ _|refine blk_drew ?_|refine blk_alloc ?_ _)); refine blk_far ?_ NB272_280.out _; (with_reducible repeat (first|refine blk_drewN ?_ _|refine blk_drew ?_|refine blk_alloc ?_ _)); refine blk_far ?_ NB272_280.out _; (with_reducible repeat (first|refine blk_drewN ?_ _|refine blk_drew ?_|refine blk_alloc ?_ _)); exact BK272.out) hb); have n8_ := Aside0.mk (blk_below (g := gb280) (o := .cells #[.slice Ao40 t273.length co40, .bool t276, .string t277, .string t278] 28 (0, 0)) (by (with_reducible repeat (first|refine blk_drewN ?_ _|refine blk_drew ?_|refine blk_alloc ?_ _)); refine blk_put (cs := #[.slice Ao40 t273.length co40, .bool t276, .string t277, .string (⟨#[]⟩ : ByteArray)]) ?_ 3 _ rfl; (with_reducible repeat (first|refine blk_drewN ?_ _|refine blk_drew ?_|refine blk_alloc ?_ _)); refine blk_put (cs := #[.slice Ao40 t273.length co40, .bool t276, .string (⟨#[]⟩ : ByteArray), .string (⟨#[]⟩ : ByteArray)]) ?_ 2 _ rfl; (with_reducible repeat (first|refine blk_drewN ?_ _|refine blk_drew ?_|refine blk_alloc ?_ _)); refine blk_put (cs := #[.slice Ao40 t273.length co40, .bool false, .string (⟨#[]⟩ : ByteArray), .string (⟨#[]⟩ : ByteArray)]) ?_ 1 _ rfl; (with_reducible repeat (first|refine blk_drewN ?_ _|refine blk_drew ?_|refine blk_alloc ?_ _)); refine blk_put (cs := #[.slice none 0 0, .bool false, .string (⟨#[]⟩ : ByteArray), .string (⟨#[]⟩ : ByteArray)]) ?_ 0 _ rfl; (with_reducible repeat (first|refine blk_drewN ?_ _|refine blk_drew ?_|refine blk_alloc ?_ _)); exact BK280.out) hb); have n9_ := Aside0.mk (below_step (by repeat (first|(with_reducible first|exact HB.out|apply below_alloc|apply pw_below_drewN|apply below_drew1|refine below_set ?_ GE256.out|refine below_set ?_ GE264.out|refine below_set ?_ GE272.out|refine below_set ?_ GE280.out)|exact HB.out)) hb); clear HO248; clear HO251; clear HO259; clear HO267; clear HO275; clear BK256; clear BK264; clear BK272; clear BK280; clear HB; have HO248 := n0_; have HO251 := n1_; have HO259 := n2_; have HO267 := n3_; have HO275 := n4_; have BK256 := n5_; have BK264 := n6_; have BK272 := n7_; have BK280 := n8_; have HB := n9_; clear n0_ n1_ n2_ n3_ n4_ n5_ n6_ n7_ n8_ n9_; (try clear hb); (try clear hb2); (try clear hk); (try clear hi); have hnb89 := NB272_280.out; have hnc89 := NB280_272.out; have hcz90_0 : w88.cell? ⟨gb272, 0, none⟩ = some (.slice Ao34 t265.length co34) := (blk_cell BK272.out 0).trans rfl; have hcz90_1 : w88.cell? ⟨gb272, 1, none⟩ = some (.bool t268) := (blk_cell BK272.out 1).trans rfl; have hcz90_2 : w88.cell? ⟨gb272, 2, none⟩ = some (.string t269) := (blk_cell BK272.out 2).trans rfl; have hcz90_3 : w88.cell? ⟨gb272, 3, none⟩ = some (.string t270) := (blk_cell BK272.out 3).trans rfl; have hfz90_0 := blk_frozen BK272.out 0; have hfz90_1 := blk_frozen BK272.out 1; have hfz90_2 := blk_frozen BK272.out 2; have hfz90_3 := blk_frozen BK272.out 3; have hcz91_0 : w88.cell? ⟨gb280, 0, none⟩ = some (.slice Ao40 t273.length co40) := (blk_cell BK280.out 0).trans rfl; have hcz91_1 : w88.cell? ⟨gb280, 1, none⟩ = some (.bool t276) := (blk_cell BK280.out 1).trans rfl; have hcz91_2 : w88.cell? ⟨gb280, 2, none⟩ = some (.string t277) := (blk_cell BK280.out 2).trans rfl; have hcz91_3 : w88.cell? ⟨gb280, 3, none⟩ = some (.string t278) := (blk_cell BK280.out 3).trans rfl; have hfz91_0 := blk_frozen BK280.out 0; have hfz91_1 := blk_frozen BK280.out 1; have hfz91_2 := blk_frozen BK280.out 2; have hfz91_3 := blk_frozen BK280.out 3)|(go_at_call 15; (with_reducible refine (stowagekit_SamePage.calls kj6 _ _ t265 t268 t269 t270 _ _ t273 t276 t277 t278 true _ ?side1 ?side2 ?side3 ?side4 A48.out).mono ?_); (case side1 => repeat (first|exact (Kd.R_reads' HO267.out).2.2|(with_reducible refine Kd.C_alloc ?_ _)|(with_reducible refine Kd.C_drewN ?_ _)|(with_reducible refine Kd.C_drew ?_))); (case side2 => exact (Kd.R_reads' HO267.out).2.1); (case side3 => repeat (first|exact (Kd.R_reads' HO275.out).2.2|(with_reducible refine Kd.C_alloc ?_ _)|(with_reducible refine Kd.C_drewN ?_ _)|(with_reducible refine Kd.C_drew ?_))); (case side4 => exact (Kd.R_reads' HO275.out).2.1); rintro e w92 ⟨rfl, hb⟩; have n0_ := Aside0.mk (Kd.S_below (by (with_reducible repeat (first|apply Kd.S_alloc|apply Kd.S_drewN|apply Kd.S_drew)); exact HO248.out) hb); have n1_ := Aside0.mk (Kd.R_below (by (with_reducible repeat (first|apply Kd.R_alloc|apply Kd.R_drewN|apply Kd.R_drew)); exact HO251.out) hb); have n2_ := Aside0.mk (Kd.R_below (by (with_reducible repeat (first|apply Kd.R_alloc|apply Kd.R_drewN|apply Kd.R_drew)); exact HO259.out) hb); have n3_ := Aside0.mk (Kd.R_below (by (with_reducible repeat (first|apply Kd.R_alloc|apply Kd.R_drewN|apply Kd.R_drew)); exact HO267.out) hb); have n4_ := Aside0.mk (Kd.R_below (by (with_reducible repeat (first|apply Kd.R_alloc|apply Kd.R_drewN|apply Kd.R_drew)); exact HO275.out) hb); have n5_ := Aside0.mk (blk_below (g := gb256) (o := .cells #[.slice Ao25 t249.length co25, .bool t252, .string t253, .string t254] 28 (0, 0)) (by (with_reducible repeat (first|refine blk_drewN ?_ _|refine blk_drew ?_|refine blk_alloc ?_ _)); exact BK256.out) hb); have n6_ := Aside0.mk (blk_below (g := gb264) (o := .cells #[.slice Ao29 t257.length co29, .bool t260, .string t261, .string t262] 28 (0, 0)) (by (with_reducible repeat (first|refine blk_drewN ?_ _|refine blk_drew ?_|refine blk_alloc ?_ _)); exact BK264.out) hb); have n7_ := Aside0.mk (blk_below (g := gb272) (o := .cells #[.slice Ao34 t265.length co34, .bool t268, .string t269, .string t270] 28 (0, 0)) (by (with_reducible repeat (first|refine blk_drewN ?_ _|refine blk_drew ?_|refine blk_alloc ?_ _)); exact BK272.out) hb); have n8_ := Aside0.mk (blk_below (g := gb280) (o := .cells #[.slice Ao40 t273.length co40, .bool t276, .string t277, .string t278] 28 (0, 0)) (by (with_reducible repeat (first|refine blk_drewN ?_ _|refine blk_drew ?_|refine blk_alloc ?_ _)); exact BK280.out) hb); have n9_ := Aside0.mk (below_step (by repeat (first|(with_reducible first|exact HB.out|apply below_alloc|apply pw_below_drewN|apply below_drew1|refine below_set ?_ GE256.out|refine below_set ?_ GE264.out|refine below_set ?_ GE272.out|refine below_set ?_ GE280.out)|exact HB.out)) hb); clear HO248; clear HO251; clear HO259; clear HO267; clear HO275; clear BK256; clear BK264; clear BK272; clear BK280; clear HB; have HO248 := n0_; have HO251 := n1_; have HO259 := n2_; have HO267 := n3_; have HO275 := n4_; have BK256 := n5_; have BK264 := n6_; have BK272 := n7_; have BK280 := n8_; have HB := n9_; clear n0_ n1_ n2_ n3_ n4_ n5_ n6_ n7_ n8_ n9_; (try clear hb); (try clear hb2); (try clear hk); (try clear hi)))
         go_meet
         case rel => exact ⟨_, (true), (by first|rfl|(simp; done)|(simp [*]; done)), H', ⟨by have := HJ6.out; first|omega|exact Nat.le_refl _⟩, ⟨by (with_reducible repeat (first|apply Kd.S_alloc|apply Kd.S_drewN|apply Kd.S_drew)); exact HO248.out⟩, ⟨by (with_reducible repeat (first|apply Kd.R_alloc|apply Kd.R_drewN|apply Kd.R_drew)); exact Kd.R_mono HO251.out (fun _ hk => ⟨hk.1.1.2, ⟨hk.1.2, hk.2⟩⟩)⟩, ⟨by (with_reducible repeat (first|apply Kd.R_alloc|apply Kd.R_drewN|apply Kd.R_drew)); exact Kd.R_mono HO259.out (fun _ hk => ⟨hk.1.1.2, ⟨hk.1.2, hk.2⟩⟩)⟩, ⟨by (with_reducible repeat (first|apply Kd.R_alloc|apply Kd.R_drewN|apply Kd.R_drew)); exact Kd.R_mono HO267.out (fun _ hk => ⟨hk.1.1.2, ⟨hk.1.2, hk.2⟩⟩)⟩, ⟨by (with_reducible repeat (first|apply Kd.R_alloc|apply Kd.R_drewN|apply Kd.R_drew)); exact Kd.R_mono HO275.out (fun _ hk => ⟨hk.1.1.2, ⟨hk.1.2, hk.2⟩⟩)⟩, ⟨by (with_reducible repeat (first|refine blk_drewN ?_ _|refine blk_drew ?_|refine blk_alloc ?_ _)); exact BK256.out⟩, ⟨by (with_reducible repeat (first|refine blk_drewN ?_ _|refine blk_drew ?_|refine blk_alloc ?_ _)); exact BK264.out⟩, ⟨by (with_reducible repeat (first|refine blk_drewN ?_ _|refine blk_drew ?_|refine blk_alloc ?_ _)); exact BK272.out⟩, ⟨by (with_reducible repeat (first|refine blk_drewN ?_ _|refine blk_drew ?_|refine blk_alloc ?_ _)); exact BK280.out⟩, ⟨by repeat (first|(with_reducible first|exact HB.out|apply below_alloc|apply pw_below_drewN|apply below_drew1|refine below_set ?_ GE256.out|refine below_set ?_ GE264.out|refine below_set ?_ GE272.out|refine below_set ?_ GE280.out)|exact HB.out)⟩⟩
       ·replace c49 := Bool.eq_false_iff.mpr c49
        subst c49
        have H1 : (stowagelaw20_ListingTells.j1 kj6 l0 t246 true t249 t252 t253 t254 t265 t268 t269 t270 t273 t276 t277 t278) = some r := by rw [if_neg (show ¬ (false = true) by decide)] at H; exact H
        clear H
        have H := H1
        clear H1
        have H' := Aside0.mk H
        clear H
        have hnb93 := NB256_264.out
        have hnc93 := NB264_256.out
        have hnb94 := NB256_272.out
        have hnc94 := NB272_256.out
        have hnb95 := NB256_280.out
        have hnc95 := NB280_256.out
        have hcz96_0 : w39.cell? ⟨gb256, 0, none⟩ = some (.slice Ao25 t249.length co25) := (blk_cell BK256.out 0).trans rfl
        have hcz96_1 : w39.cell? ⟨gb256, 1, none⟩ = some (.bool t252) := (blk_cell BK256.out 1).trans rfl
        have hcz96_2 : w39.cell? ⟨gb256, 2, none⟩ = some (.string t253) := (blk_cell BK256.out 2).trans rfl
        have hcz96_3 : w39.cell? ⟨gb256, 3, none⟩ = some (.string t254) := (blk_cell BK256.out 3).trans rfl
        have hfz96_0 := blk_frozen BK256.out 0
        have hfz96_1 := blk_frozen BK256.out 1
        have hfz96_2 := blk_frozen BK256.out 2
        have hfz96_3 := blk_frozen BK256.out 3
        have hnb97 := NB264_272.out
        have hnc97 := NB272_264.out
        have hnb98 := NB264_280.out
        have hnc98 := NB280_264.out
        have hcz99_0 : w39.cell? ⟨gb264, 0, none⟩ = some (.slice Ao29 t257.length co29) := (blk_cell BK264.out 0).trans rfl
        have hcz99_1 : w39.cell? ⟨gb264, 1, none⟩ = some (.bool t260) := (blk_cell BK264.out 1).trans rfl
        have hcz99_2 : w39.cell? ⟨gb264, 2, none⟩ = some (.string t261) := (blk_cell BK264.out 2).trans rfl
        have hcz99_3 : w39.cell? ⟨gb264, 3, none⟩ = some (.string t262) := (blk_cell BK264.out 3).trans rfl
        have hfz99_0 := blk_frozen BK264.out 0
        have hfz99_1 := blk_frozen BK264.out 1
        have hfz99_2 := blk_frozen BK264.out 2
        have hfz99_3 := blk_frozen BK264.out 3
        go_wp2_with (first|((with_reducible refine gate_callee (f := 15) rfl ?_); refine goesL_ (some 75) rfl rfl Try.func15 (by kernel_rfl) rfl #[.agg #[.slice Ao25 t249.length co25, .bool t252, .string t253, .string t254], .agg #[.slice Ao29 t257.length co29, .bool t260, .string t261, .string t262]] rfl (by (try simp only [List.map_toArray, List.map_cons, List.map_nil]); first|done|rfl|(simp only [List.length_drop, List.length_take]; rfl)) ?_; (with_reducible refine (stowagekit_SamePage.calls kj6 _ _ t249 t252 t253 t254 _ _ t257 t260 t261 t262 true _ ?side1 ?side2 ?side3 ?side4 A45.out).mono ?_); (case side1 => refine (Kd.R_reads' (e := 39) (base := w.heap.size) (ok := fun k_ => (((True ∧ some k_ ≠ (.slice Ao29 t257.length co29 : Value).ownBlock) ∧ some k_ ≠ (.slice Ao34 t265.length co34 : Value).ownBlock) ∧ some k_ ≠ (.slice Ao40 t273.length co40 : Value).ownBlock)) (n := t249.length) (c := co25) ?_).2.2; exact (by (with_reducible repeat (first|apply Kd.R_alloc|apply Kd.R_drewN|apply Kd.R_drew)); exact (Kd.R_mono (Kd.R_far (p := ⟨gb280, 3, none⟩) (Kd.R_far (p := ⟨gb280, 2, none⟩) (Kd.R_far (p := ⟨gb280, 1, none⟩) (Kd.R_far (p := ⟨gb280, 0, none⟩) (Kd.R_types HO251.out BK280.out (by decide)) (fun _ hk => hk.2) (.slice Ao40 t273.length co40)) (fun _ hk => hk.2) (.bool t276)) (fun _ hk => hk.2) (.string t277)) (fun _ hk => hk.2) (.string t278)) (fun _ h_ => h_.1)))); (case side2 => exact (Kd.R_reads' HO251.out).2.1); (case side3 => refine (Kd.R_reads' (e := 39) (base := w.heap.size) (ok := fun k_ => (((True ∧ some k_ ≠ (.slice Ao25 t249.length co25 : Value).ownBlock) ∧ some k_ ≠ (.slice Ao34 t265.length co34 : Value).ownBlock) ∧ some k_ ≠ (.slice Ao40 t273.length co40 : Value).ownBlock)) (n := t257.length) (c := co29) ?_).2.2; exact (by (with_reducible repeat (first|apply Kd.R_alloc|apply Kd.R_drewN|apply Kd.R_drew)); exact (Kd.R_mono (Kd.R_far (p := ⟨gb280, 3, none⟩) (Kd.R_far (p := ⟨gb280, 2, none⟩) (Kd.R_far (p := ⟨gb280, 1, none⟩) (Kd.R_far (p := ⟨gb280, 0, none⟩) (Kd.R_types HO259.out BK280.out (by decide)) (fun _ hk => hk.2) (.slice Ao40 t273.length co40)) (fun _ hk => hk.2) (.bool t276)) (fun _ hk => hk.2) (.string t277)) (fun _ hk => hk.2) (.string t278)) (fun _ h_ => h_.1)))); (case side4 => exact (Kd.R_reads' HO259.out).2.1); rintro e w100 ⟨rfl, hb⟩; refine ⟨_, rfl, ?_⟩; have n0_ := Aside0.mk (Kd.S_below (by (with_reducible repeat (first|apply Kd.S_alloc|apply Kd.S_drewN|apply Kd.S_drew)); exact (Kd.S_mono (Kd.S_far (p := ⟨gb280, 3, none⟩) (Kd.S_far (p := ⟨gb280, 2, none⟩) (Kd.S_far (p := ⟨gb280, 1, none⟩) (Kd.S_far (p := ⟨gb280, 0, none⟩) (Kd.S_types HO248.out BK280.out (by decide)) (fun _ hk => hk.2) (.slice Ao40 t273.length co40)) (fun _ hk => hk.2) (.bool t276)) (fun _ hk => hk.2) (.string t277)) (fun _ hk => hk.2) (.string t278)) (fun _ h_ => h_.1))) hb); have n1_ := Aside0.mk (Kd.R_below (by (with_reducible repeat (first|apply Kd.R_alloc|apply Kd.R_drewN|apply Kd.R_drew)); exact (Kd.R_mono (Kd.R_far (p := ⟨gb280, 3, none⟩) (Kd.R_far (p := ⟨gb280, 2, none⟩) (Kd.R_far (p := ⟨gb280, 1, none⟩) (Kd.R_far (p := ⟨gb280, 0, none⟩) (Kd.R_types HO251.out BK280.out (by decide)) (fun _ hk => hk.2) (.slice Ao40 t273.length co40)) (fun _ hk => hk.2) (.bool t276)) (fun _ hk => hk.2) (.string t277)) (fun _ hk => hk.2) (.string t278)) (fun _ h_ => h_.1))) hb); have n2_ := Aside0.mk (Kd.R_below (by (with_reducible repeat (first|apply Kd.R_alloc|apply Kd.R_drewN|apply Kd.R_drew)); exact (Kd.R_mono (Kd.R_far (p := ⟨gb280, 3, none⟩) (Kd.R_far (p := ⟨gb280, 2, none⟩) (Kd.R_far (p := ⟨gb280, 1, none⟩) (Kd.R_far (p := ⟨gb280, 0, none⟩) (Kd.R_types HO259.out BK280.out (by decide)) (fun _ hk => hk.2) (.slice Ao40 t273.length co40)) (fun _ hk => hk.2) (.bool t276)) (fun _ hk => hk.2) (.string t277)) (fun _ hk => hk.2) (.string t278)) (fun _ h_ => h_.1))) hb); have n3_ := Aside0.mk (Kd.R_below (by (with_reducible repeat (first|apply Kd.R_alloc|apply Kd.R_drewN|apply Kd.R_drew)); exact (Kd.R_mono (Kd.R_far (p := ⟨gb280, 3, none⟩) (Kd.R_far (p := ⟨gb280, 2, none⟩) (Kd.R_far (p := ⟨gb280, 1, none⟩) (Kd.R_far (p := ⟨gb280, 0, none⟩) (Kd.R_types HO267.out BK280.out (by decide)) (fun _ hk => hk.2) (.slice Ao40 t273.length co40)) (fun _ hk => hk.2) (.bool t276)) (fun _ hk => hk.2) (.string t277)) (fun _ hk => hk.2) (.string t278)) (fun _ h_ => h_.1))) hb); have n4_ := Aside0.mk (Kd.R_below (by (with_reducible repeat (first|apply Kd.R_alloc|apply Kd.R_drewN|apply Kd.R_drew)); exact (Kd.R_mono (Kd.R_far (p := ⟨gb280, 3, none⟩) (Kd.R_far (p := ⟨gb280, 2, none⟩) (Kd.R_far (p := ⟨gb280, 1, none⟩) (Kd.R_far (p := ⟨gb280, 0, none⟩) (Kd.R_types HO275.out BK280.out (by decide)) (fun _ hk => hk.2) (.slice Ao40 t273.length co40)) (fun _ hk => hk.2) (.bool t276)) (fun _ hk => hk.2) (.string t277)) (fun _ hk => hk.2) (.string t278)) (fun _ h_ => h_.1))) hb); have n5_ := Aside0.mk (blk_below (g := gb256) (o := .cells #[.slice Ao25 t249.length co25, .bool t252, .string t253, .string t254] 28 (0, 0)) (by (with_reducible repeat (first|refine blk_drewN ?_ _|refine blk_drew ?_|refine blk_alloc ?_ _)); refine blk_far ?_ NB256_280.out _; (with_reducible repeat (first|refine blk_drewN ?_ _|refine blk_drew ?_|refine blk_alloc ?_ _)); refine blk_far ?_ NB256_280.out _; (with_reducible repeat (first|refine blk_drewN ?_ _|refine blk_drew ?_|refine blk_alloc ?_ _)); refine blk_far ?_ NB256_280.out _; (with_reducible repeat (first|refine blk_drewN ?_ _|refine blk_drew ?_|refine blk_alloc ?_ _)); refine blk_far ?_ NB256_280.out _; (with_reducible repeat (first|refine blk_drewN ?_ _|refine blk_drew ?_|refine blk_alloc ?_ _)); exact BK256.out) hb); have n6_ := Aside0.mk (blk_below (g := gb264) (o := .cells #[.slice Ao29 t257.length co29, .bool t260, .string t261, .string t262] 28 (0, 0)) (by (with_reducible repeat (first|refine blk_drewN ?_ _|refine blk_drew ?_|refine blk_alloc ?_ _)); refine blk_far ?_ NB264_280.out _; (with_reducible repeat (first|refine blk_drewN ?_ _|refine blk_drew ?_|refine blk_alloc ?_ _)); refine blk_far ?_ NB264_280.out _; (with_reducible repeat (first|refine blk_drewN ?_ _|refine blk_drew ?_|refine blk_alloc ?_ _)); refine blk_far ?_ NB264_280.out _; (with_reducible repeat (first|refine blk_drewN ?_ _|refine blk_drew ?_|refine blk_alloc ?_ _)); refine blk_far ?_ NB264_280.out _; (with_reducible repeat (first|refine blk_drewN ?_ _|refine blk_drew ?_|refine blk_alloc ?_ _)); exact BK264.out) hb); have n7_ := Aside0.mk (blk_below (g := gb272) (o := .cells #[.slice Ao34 t265.length co34, .bool t268, .string t269, .string t270] 28 (0, 0)) (by (with_reducible repeat (first|refine blk_drewN ?_ _|refine blk_drew ?_|refine blk_alloc ?_ _)); refine blk_far ?_ NB272_280.out _; (with_reducible repeat (first|refine blk_drewN ?_ _|refine blk_drew ?_|refine blk_alloc ?_ _)); refine blk_far ?_ NB272_280.out _; (with_reducible repeat (first|refine blk_drewN ?_ _|refine blk_drew ?_|refine blk_alloc ?_ _)); refine blk_far ?_ NB272_280.out _; (with_reducible repeat (first|refine blk_drewN ?_ _|refine blk_drew ?_|refine blk_alloc ?_ _)); refine blk_far ?_ NB272_280.out _; (with_reducible repeat (first|refine blk_drewN ?_ _|refine blk_drew ?_|refine blk_alloc ?_ _)); exact BK272.out) hb); have n8_ := Aside0.mk (blk_below (g := gb280) (o := .cells #[.slice Ao40 t273.length co40, .bool t276, .string t277, .string t278] 28 (0, 0)) (by (with_reducible repeat (first|refine blk_drewN ?_ _|refine blk_drew ?_|refine blk_alloc ?_ _)); refine blk_put (cs := #[.slice Ao40 t273.length co40, .bool t276, .string t277, .string (⟨#[]⟩ : ByteArray)]) ?_ 3 _ rfl; (with_reducible repeat (first|refine blk_drewN ?_ _|refine blk_drew ?_|refine blk_alloc ?_ _)); refine blk_put (cs := #[.slice Ao40 t273.length co40, .bool t276, .string (⟨#[]⟩ : ByteArray), .string (⟨#[]⟩ : ByteArray)]) ?_ 2 _ rfl; (with_reducible repeat (first|refine blk_drewN ?_ _|refine blk_drew ?_|refine blk_alloc ?_ _)); refine blk_put (cs := #[.slice Ao40 t273.length co40, .bool false, .string (⟨#[]⟩ : ByteArray), .string (⟨#[]⟩ : ByteArray)]) ?_ 1 _ rfl; (with_reducible repeat (first|refine blk_drewN ?_ _|refine blk_drew ?_|refine blk_alloc ?_ _)); refine blk_put (cs := #[.slice none 0 0, .bool false, .string (⟨#[]⟩ : ByteArray), .string (⟨#[]⟩ : ByteArray)]) ?_ 0 _ rfl; (with_reducible repeat (first|refine blk_drewN ?_ _|refine blk_drew ?_|refine blk_alloc ?_ _)); exact BK280.out) hb); have n9_ := Aside0.mk (below_step (by repeat (first|(with_reducible first|exact HB.out|apply below_alloc|apply pw_below_drewN|apply below_drew1|refine below_set ?_ GE256.out|refine below_set ?_ GE264.out|refine below_set ?_ GE272.out|refine below_set ?_ GE280.out)|exact HB.out)) hb); clear HO248; clear HO251; clear HO259; clear HO267; clear HO275; clear BK256; clear BK264; clear BK272; clear BK280; clear HB; have HO248 := n0_; have HO251 := n1_; have HO259 := n2_; have HO267 := n3_; have HO275 := n4_; have BK256 := n5_; have BK264 := n6_; have BK272 := n7_; have BK280 := n8_; have HB := n9_; clear n0_ n1_ n2_ n3_ n4_ n5_ n6_ n7_ n8_ n9_; (try clear hb); (try clear hb2); (try clear hk); (try clear hi); have hnb101 := NB272_280.out; have hnc101 := NB280_272.out; have hcz102_0 : w100.cell? ⟨gb272, 0, none⟩ = some (.slice Ao34 t265.length co34) := (blk_cell BK272.out 0).trans rfl; have hcz102_1 : w100.cell? ⟨gb272, 1, none⟩ = some (.bool t268) := (blk_cell BK272.out 1).trans rfl; have hcz102_2 : w100.cell? ⟨gb272, 2, none⟩ = some (.string t269) := (blk_cell BK272.out 2).trans rfl; have hcz102_3 : w100.cell? ⟨gb272, 3, none⟩ = some (.string t270) := (blk_cell BK272.out 3).trans rfl; have hfz102_0 := blk_frozen BK272.out 0; have hfz102_1 := blk_frozen BK272.out 1; have hfz102_2 := blk_frozen BK272.out 2; have hfz102_3 := blk_frozen BK272.out 3; have hcz103_0 : w100.cell? ⟨gb280, 0, none⟩ = some (.slice Ao40 t273.length co40) := (blk_cell BK280.out 0).trans rfl; have hcz103_1 : w100.cell? ⟨gb280, 1, none⟩ = some (.bool t276) := (blk_cell BK280.out 1).trans rfl; have hcz103_2 : w100.cell? ⟨gb280, 2, none⟩ = some (.string t277) := (blk_cell BK280.out 2).trans rfl; have hcz103_3 : w100.cell? ⟨gb280, 3, none⟩ = some (.string t278) := (blk_cell BK280.out 3).trans rfl; have hfz103_0 := blk_frozen BK280.out 0; have hfz103_1 := blk_frozen BK280.out 1; have hfz103_2 := blk_frozen BK280.out 2; have hfz103_3 := blk_frozen BK280.out 3)|(go_at_call 15; (with_reducible refine (stowagekit_SamePage.calls kj6 _ _ t265 t268 t269 t270 _ _ t273 t276 t277 t278 false _ ?side1 ?side2 ?side3 ?side4 A48.out).mono ?_); (case side1 => repeat (first|exact (Kd.R_reads' HO267.out).2.2|(with_reducible refine Kd.C_alloc ?_ _)|(with_reducible refine Kd.C_drewN ?_ _)|(with_reducible refine Kd.C_drew ?_))); (case side2 => exact (Kd.R_reads' HO267.out).2.1); (case side3 => repeat (first|exact (Kd.R_reads' HO275.out).2.2|(with_reducible refine Kd.C_alloc ?_ _)|(with_reducible refine Kd.C_drewN ?_ _)|(with_reducible refine Kd.C_drew ?_))); (case side4 => exact (Kd.R_reads' HO275.out).2.1); rintro e w104 ⟨rfl, hb⟩; have n0_ := Aside0.mk (Kd.S_below (by (with_reducible repeat (first|apply Kd.S_alloc|apply Kd.S_drewN|apply Kd.S_drew)); exact HO248.out) hb); have n1_ := Aside0.mk (Kd.R_below (by (with_reducible repeat (first|apply Kd.R_alloc|apply Kd.R_drewN|apply Kd.R_drew)); exact HO251.out) hb); have n2_ := Aside0.mk (Kd.R_below (by (with_reducible repeat (first|apply Kd.R_alloc|apply Kd.R_drewN|apply Kd.R_drew)); exact HO259.out) hb); have n3_ := Aside0.mk (Kd.R_below (by (with_reducible repeat (first|apply Kd.R_alloc|apply Kd.R_drewN|apply Kd.R_drew)); exact HO267.out) hb); have n4_ := Aside0.mk (Kd.R_below (by (with_reducible repeat (first|apply Kd.R_alloc|apply Kd.R_drewN|apply Kd.R_drew)); exact HO275.out) hb); have n5_ := Aside0.mk (blk_below (g := gb256) (o := .cells #[.slice Ao25 t249.length co25, .bool t252, .string t253, .string t254] 28 (0, 0)) (by (with_reducible repeat (first|refine blk_drewN ?_ _|refine blk_drew ?_|refine blk_alloc ?_ _)); exact BK256.out) hb); have n6_ := Aside0.mk (blk_below (g := gb264) (o := .cells #[.slice Ao29 t257.length co29, .bool t260, .string t261, .string t262] 28 (0, 0)) (by (with_reducible repeat (first|refine blk_drewN ?_ _|refine blk_drew ?_|refine blk_alloc ?_ _)); exact BK264.out) hb); have n7_ := Aside0.mk (blk_below (g := gb272) (o := .cells #[.slice Ao34 t265.length co34, .bool t268, .string t269, .string t270] 28 (0, 0)) (by (with_reducible repeat (first|refine blk_drewN ?_ _|refine blk_drew ?_|refine blk_alloc ?_ _)); exact BK272.out) hb); have n8_ := Aside0.mk (blk_below (g := gb280) (o := .cells #[.slice Ao40 t273.length co40, .bool t276, .string t277, .string t278] 28 (0, 0)) (by (with_reducible repeat (first|refine blk_drewN ?_ _|refine blk_drew ?_|refine blk_alloc ?_ _)); exact BK280.out) hb); have n9_ := Aside0.mk (below_step (by repeat (first|(with_reducible first|exact HB.out|apply below_alloc|apply pw_below_drewN|apply below_drew1|refine below_set ?_ GE256.out|refine below_set ?_ GE264.out|refine below_set ?_ GE272.out|refine below_set ?_ GE280.out)|exact HB.out)) hb); clear HO248; clear HO251; clear HO259; clear HO267; clear HO275; clear BK256; clear BK264; clear BK272; clear BK280; clear HB; have HO248 := n0_; have HO251 := n1_; have HO259 := n2_; have HO267 := n3_; have HO275 := n4_; have BK256 := n5_; have BK264 := n6_; have BK272 := n7_; have BK280 := n8_; have HB := n9_; clear n0_ n1_ n2_ n3_ n4_ n5_ n6_ n7_ n8_ n9_; (try clear hb); (try clear hb2); (try clear hk); (try clear hi)))
        go_meet
        case rel => exact ⟨_, (true), (by first|rfl|(simp; done)|(simp [*]; done)), H', ⟨by have := HJ6.out; first|omega|exact Nat.le_refl _⟩, ⟨by (with_reducible repeat (first|apply Kd.S_alloc|apply Kd.S_drewN|apply Kd.S_drew)); exact HO248.out⟩, ⟨by (with_reducible repeat (first|apply Kd.R_alloc|apply Kd.R_drewN|apply Kd.R_drew)); exact Kd.R_mono HO251.out (fun _ hk => ⟨hk.1.1.2, ⟨hk.1.2, hk.2⟩⟩)⟩, ⟨by (with_reducible repeat (first|apply Kd.R_alloc|apply Kd.R_drewN|apply Kd.R_drew)); exact Kd.R_mono HO259.out (fun _ hk => ⟨hk.1.1.2, ⟨hk.1.2, hk.2⟩⟩)⟩, ⟨by (with_reducible repeat (first|apply Kd.R_alloc|apply Kd.R_drewN|apply Kd.R_drew)); exact Kd.R_mono HO267.out (fun _ hk => ⟨hk.1.1.2, ⟨hk.1.2, hk.2⟩⟩)⟩, ⟨by (with_reducible repeat (first|apply Kd.R_alloc|apply Kd.R_drewN|apply Kd.R_drew)); exact Kd.R_mono HO275.out (fun _ hk => ⟨hk.1.1.2, ⟨hk.1.2, hk.2⟩⟩)⟩, ⟨by (with_reducible repeat (first|refine blk_drewN ?_ _|refine blk_drew ?_|refine blk_alloc ?_ _)); exact BK256.out⟩, ⟨by (with_reducible repeat (first|refine blk_drewN ?_ _|refine blk_drew ?_|refine blk_alloc ?_ _)); exact BK264.out⟩, ⟨by (with_reducible repeat (first|refine blk_drewN ?_ _|refine blk_drew ?_|refine blk_alloc ?_ _)); exact BK272.out⟩, ⟨by (with_reducible repeat (first|refine blk_drewN ?_ _|refine blk_drew ?_|refine blk_alloc ?_ _)); exact BK280.out⟩, ⟨by repeat (first|(with_reducible first|exact HB.out|apply below_alloc|apply pw_below_drewN|apply below_drew1|refine below_set ?_ GE256.out|refine below_set ?_ GE264.out|refine below_set ?_ GE272.out|refine below_set ?_ GE280.out)|exact HB.out)⟩⟩
      ·rw [if_neg c47] at H
       have c47b0 : (t255 == t263) = false := beq_eq_false_iff_ne.mpr c47
       have c47b1 : (t255 != t263) = true := bne_iff_ne.mpr c47
       (first|rw [c47b0]|(simp only [i64_w, i32_w]; rw [c47b0])|skip)
       have H' := Aside0.mk H
       clear H
       have hnb105 := NB256_264.out
       have hnc105 := NB264_256.out
       have hnb106 := NB256_272.out
       have hnc106 := NB272_256.out
       have hnb107 := NB256_280.out
       have hnc107 := NB280_256.out
       have hcz108_0 : w39.cell? ⟨gb256, 0, none⟩ = some (.slice Ao25 t249.length co25) := (blk_cell BK256.out 0).trans rfl
       have hcz108_1 : w39.cell? ⟨gb256, 1, none⟩ = some (.bool t252) := (blk_cell BK256.out 1).trans rfl
       have hcz108_2 : w39.cell? ⟨gb256, 2, none⟩ = some (.string t253) := (blk_cell BK256.out 2).trans rfl
       have hcz108_3 : w39.cell? ⟨gb256, 3, none⟩ = some (.string t254) := (blk_cell BK256.out 3).trans rfl
       have hfz108_0 := blk_frozen BK256.out 0
       have hfz108_1 := blk_frozen BK256.out 1
       have hfz108_2 := blk_frozen BK256.out 2
       have hfz108_3 := blk_frozen BK256.out 3
       have hnb109 := NB264_272.out
       have hnc109 := NB272_264.out
       have hnb110 := NB264_280.out
       have hnc110 := NB280_264.out
       have hcz111_0 : w39.cell? ⟨gb264, 0, none⟩ = some (.slice Ao29 t257.length co29) := (blk_cell BK264.out 0).trans rfl
       have hcz111_1 : w39.cell? ⟨gb264, 1, none⟩ = some (.bool t260) := (blk_cell BK264.out 1).trans rfl
       have hcz111_2 : w39.cell? ⟨gb264, 2, none⟩ = some (.string t261) := (blk_cell BK264.out 2).trans rfl
       have hcz111_3 : w39.cell? ⟨gb264, 3, none⟩ = some (.string t262) := (blk_cell BK264.out 3).trans rfl
       have hfz111_0 := blk_frozen BK264.out 0
       have hfz111_1 := blk_frozen BK264.out 1
       have hfz111_2 := blk_frozen BK264.out 2
       have hfz111_3 := blk_frozen BK264.out 3
       go_wp2_with (first|((with_reducible refine gate_callee (f := 15) rfl ?_); refine goesL_ (some 75) rfl rfl Try.func15 (by kernel_rfl) rfl #[.agg #[.slice Ao25 t249.length co25, .bool t252, .string t253, .string t254], .agg #[.slice Ao29 t257.length co29, .bool t260, .string t261, .string t262]] rfl (by (try simp only [List.map_toArray, List.map_cons, List.map_nil]); first|done|rfl|(simp only [List.length_drop, List.length_take]; rfl)) ?_; (with_reducible refine (stowagekit_SamePage.calls kj6 _ _ t249 t252 t253 t254 _ _ t257 t260 t261 t262 true _ ?side1 ?side2 ?side3 ?side4 A45.out).mono ?_); (case side1 => refine (Kd.R_reads' (e := 39) (base := w.heap.size) (ok := fun k_ => (((True ∧ some k_ ≠ (.slice Ao29 t257.length co29 : Value).ownBlock) ∧ some k_ ≠ (.slice Ao34 t265.length co34 : Value).ownBlock) ∧ some k_ ≠ (.slice Ao40 t273.length co40 : Value).ownBlock)) (n := t249.length) (c := co25) ?_).2.2; exact (by (with_reducible repeat (first|apply Kd.R_alloc|apply Kd.R_drewN|apply Kd.R_drew)); exact (Kd.R_mono (Kd.R_far (p := ⟨gb280, 3, none⟩) (Kd.R_far (p := ⟨gb280, 2, none⟩) (Kd.R_far (p := ⟨gb280, 1, none⟩) (Kd.R_far (p := ⟨gb280, 0, none⟩) (Kd.R_types HO251.out BK280.out (by decide)) (fun _ hk => hk.2) (.slice Ao40 t273.length co40)) (fun _ hk => hk.2) (.bool t276)) (fun _ hk => hk.2) (.string t277)) (fun _ hk => hk.2) (.string t278)) (fun _ h_ => h_.1)))); (case side2 => exact (Kd.R_reads' HO251.out).2.1); (case side3 => refine (Kd.R_reads' (e := 39) (base := w.heap.size) (ok := fun k_ => (((True ∧ some k_ ≠ (.slice Ao25 t249.length co25 : Value).ownBlock) ∧ some k_ ≠ (.slice Ao34 t265.length co34 : Value).ownBlock) ∧ some k_ ≠ (.slice Ao40 t273.length co40 : Value).ownBlock)) (n := t257.length) (c := co29) ?_).2.2; exact (by (with_reducible repeat (first|apply Kd.R_alloc|apply Kd.R_drewN|apply Kd.R_drew)); exact (Kd.R_mono (Kd.R_far (p := ⟨gb280, 3, none⟩) (Kd.R_far (p := ⟨gb280, 2, none⟩) (Kd.R_far (p := ⟨gb280, 1, none⟩) (Kd.R_far (p := ⟨gb280, 0, none⟩) (Kd.R_types HO259.out BK280.out (by decide)) (fun _ hk => hk.2) (.slice Ao40 t273.length co40)) (fun _ hk => hk.2) (.bool t276)) (fun _ hk => hk.2) (.string t277)) (fun _ hk => hk.2) (.string t278)) (fun _ h_ => h_.1)))); (case side4 => exact (Kd.R_reads' HO259.out).2.1); rintro e w112 ⟨rfl, hb⟩; refine ⟨_, rfl, ?_⟩; have n0_ := Aside0.mk (Kd.S_below (by (with_reducible repeat (first|apply Kd.S_alloc|apply Kd.S_drewN|apply Kd.S_drew)); exact (Kd.S_mono (Kd.S_far (p := ⟨gb280, 3, none⟩) (Kd.S_far (p := ⟨gb280, 2, none⟩) (Kd.S_far (p := ⟨gb280, 1, none⟩) (Kd.S_far (p := ⟨gb280, 0, none⟩) (Kd.S_types HO248.out BK280.out (by decide)) (fun _ hk => hk.2) (.slice Ao40 t273.length co40)) (fun _ hk => hk.2) (.bool t276)) (fun _ hk => hk.2) (.string t277)) (fun _ hk => hk.2) (.string t278)) (fun _ h_ => h_.1))) hb); have n1_ := Aside0.mk (Kd.R_below (by (with_reducible repeat (first|apply Kd.R_alloc|apply Kd.R_drewN|apply Kd.R_drew)); exact (Kd.R_mono (Kd.R_far (p := ⟨gb280, 3, none⟩) (Kd.R_far (p := ⟨gb280, 2, none⟩) (Kd.R_far (p := ⟨gb280, 1, none⟩) (Kd.R_far (p := ⟨gb280, 0, none⟩) (Kd.R_types HO251.out BK280.out (by decide)) (fun _ hk => hk.2) (.slice Ao40 t273.length co40)) (fun _ hk => hk.2) (.bool t276)) (fun _ hk => hk.2) (.string t277)) (fun _ hk => hk.2) (.string t278)) (fun _ h_ => h_.1))) hb); have n2_ := Aside0.mk (Kd.R_below (by (with_reducible repeat (first|apply Kd.R_alloc|apply Kd.R_drewN|apply Kd.R_drew)); exact (Kd.R_mono (Kd.R_far (p := ⟨gb280, 3, none⟩) (Kd.R_far (p := ⟨gb280, 2, none⟩) (Kd.R_far (p := ⟨gb280, 1, none⟩) (Kd.R_far (p := ⟨gb280, 0, none⟩) (Kd.R_types HO259.out BK280.out (by decide)) (fun _ hk => hk.2) (.slice Ao40 t273.length co40)) (fun _ hk => hk.2) (.bool t276)) (fun _ hk => hk.2) (.string t277)) (fun _ hk => hk.2) (.string t278)) (fun _ h_ => h_.1))) hb); have n3_ := Aside0.mk (Kd.R_below (by (with_reducible repeat (first|apply Kd.R_alloc|apply Kd.R_drewN|apply Kd.R_drew)); exact (Kd.R_mono (Kd.R_far (p := ⟨gb280, 3, none⟩) (Kd.R_far (p := ⟨gb280, 2, none⟩) (Kd.R_far (p := ⟨gb280, 1, none⟩) (Kd.R_far (p := ⟨gb280, 0, none⟩) (Kd.R_types HO267.out BK280.out (by decide)) (fun _ hk => hk.2) (.slice Ao40 t273.length co40)) (fun _ hk => hk.2) (.bool t276)) (fun _ hk => hk.2) (.string t277)) (fun _ hk => hk.2) (.string t278)) (fun _ h_ => h_.1))) hb); have n4_ := Aside0.mk (Kd.R_below (by (with_reducible repeat (first|apply Kd.R_alloc|apply Kd.R_drewN|apply Kd.R_drew)); exact (Kd.R_mono (Kd.R_far (p := ⟨gb280, 3, none⟩) (Kd.R_far (p := ⟨gb280, 2, none⟩) (Kd.R_far (p := ⟨gb280, 1, none⟩) (Kd.R_far (p := ⟨gb280, 0, none⟩) (Kd.R_types HO275.out BK280.out (by decide)) (fun _ hk => hk.2) (.slice Ao40 t273.length co40)) (fun _ hk => hk.2) (.bool t276)) (fun _ hk => hk.2) (.string t277)) (fun _ hk => hk.2) (.string t278)) (fun _ h_ => h_.1))) hb); have n5_ := Aside0.mk (blk_below (g := gb256) (o := .cells #[.slice Ao25 t249.length co25, .bool t252, .string t253, .string t254] 28 (0, 0)) (by (with_reducible repeat (first|refine blk_drewN ?_ _|refine blk_drew ?_|refine blk_alloc ?_ _)); refine blk_far ?_ NB256_280.out _; (with_reducible repeat (first|refine blk_drewN ?_ _|refine blk_drew ?_|refine blk_alloc ?_ _)); refine blk_far ?_ NB256_280.out _; (with_reducible repeat (first|refine blk_drewN ?_ _|refine blk_drew ?_|refine blk_alloc ?_ _)); refine blk_far ?_ NB256_280.out _; (with_reducible repeat (first|refine blk_drewN ?_ _|refine blk_drew ?_|refine blk_alloc ?_ _)); refine blk_far ?_ NB256_280.out _; (with_reducible repeat (first|refine blk_drewN ?_ _|refine blk_drew ?_|refine blk_alloc ?_ _)); exact BK256.out) hb); have n6_ := Aside0.mk (blk_below (g := gb264) (o := .cells #[.slice Ao29 t257.length co29, .bool t260, .string t261, .string t262] 28 (0, 0)) (by (with_reducible repeat (first|refine blk_drewN ?_ _|refine blk_drew ?_|refine blk_alloc ?_ _)); refine blk_far ?_ NB264_280.out _; (with_reducible repeat (first|refine blk_drewN ?_ _|refine blk_drew ?_|refine blk_alloc ?_ _)); refine blk_far ?_ NB264_280.out _; (with_reducible repeat (first|refine blk_drewN ?_ _|refine blk_drew ?_|refine blk_alloc ?_ _)); refine blk_far ?_ NB264_280.out _; (with_reducible repeat (first|refine blk_drewN ?_ _|refine blk_drew ?_|refine blk_alloc ?_ _)); refine blk_far ?_ NB264_280.out _; (with_reducible repeat (first|refine blk_drewN ?_ _|refine blk_drew ?_|refine blk_alloc ?_ _)); exact BK264.out) hb); have n7_ := Aside0.mk (blk_below (g := gb272) (o := .cells #[.slice Ao34 t265.length co34, .bool t268, .string t269, .string t270] 28 (0, 0)) (by (with_reducible repeat (first|refine blk_drewN ?_ _|refine blk_drew ?_|refine blk_alloc ?_ _)); refine blk_far ?_ NB272_280.out _; (with_reducible repeat (first|refine blk_drewN ?_ _|refine blk_drew ?_|refine blk_alloc ?_ _)); refine blk_far ?_ NB272_280.out _; (with_reducible repeat (first|refine blk_drewN ?_ _|refine blk_drew ?_|refine blk_alloc ?_ _)); refine blk_far ?_ NB272_280.out _; (with_reducible repeat (first|refine blk_drewN ?_ _|refine blk_drew ?_|refine blk_alloc ?_ _)); refine blk_far ?_ NB272_280.out _; (with_reducible repeat (first|refine blk_drewN ?_ _|refine blk_drew ?_|refine blk_alloc ?_ _)); exact BK272.out) hb); have n8_ := Aside0.mk (blk_below (g := gb280) (o := .cells #[.slice Ao40 t273.length co40, .bool t276, .string t277, .string t278] 28 (0, 0)) (by (with_reducible repeat (first|refine blk_drewN ?_ _|refine blk_drew ?_|refine blk_alloc ?_ _)); refine blk_put (cs := #[.slice Ao40 t273.length co40, .bool t276, .string t277, .string (⟨#[]⟩ : ByteArray)]) ?_ 3 _ rfl; (with_reducible repeat (first|refine blk_drewN ?_ _|refine blk_drew ?_|refine blk_alloc ?_ _)); refine blk_put (cs := #[.slice Ao40 t273.length co40, .bool t276, .string (⟨#[]⟩ : ByteArray), .string (⟨#[]⟩ : ByteArray)]) ?_ 2 _ rfl; (with_reducible repeat (first|refine blk_drewN ?_ _|refine blk_drew ?_|refine blk_alloc ?_ _)); refine blk_put (cs := #[.slice Ao40 t273.length co40, .bool false, .string (⟨#[]⟩ : ByteArray), .string (⟨#[]⟩ : ByteArray)]) ?_ 1 _ rfl; (with_reducible repeat (first|refine blk_drewN ?_ _|refine blk_drew ?_|refine blk_alloc ?_ _)); refine blk_put (cs := #[.slice none 0 0, .bool false, .string (⟨#[]⟩ : ByteArray), .string (⟨#[]⟩ : ByteArray)]) ?_ 0 _ rfl; (with_reducible repeat (first|refine blk_drewN ?_ _|refine blk_drew ?_|refine blk_alloc ?_ _)); exact BK280.out) hb); have n9_ := Aside0.mk (below_step (by repeat (first|(with_reducible first|exact HB.out|apply below_alloc|apply pw_below_drewN|apply below_drew1|refine below_set ?_ GE256.out|refine below_set ?_ GE264.out|refine below_set ?_ GE272.out|refine below_set ?_ GE280.out)|exact HB.out)) hb); clear HO248; clear HO251; clear HO259; clear HO267; clear HO275; clear BK256; clear BK264; clear BK272; clear BK280; clear HB; have HO248 := n0_; have HO251 := n1_; have HO259 := n2_; have HO267 := n3_; have HO275 := n4_; have BK256 := n5_; have BK264 := n6_; have BK272 := n7_; have BK280 := n8_; have HB := n9_; clear n0_ n1_ n2_ n3_ n4_ n5_ n6_ n7_ n8_ n9_; (try clear hb); (try clear hb2); (try clear hk); (try clear hi)))
       go_meet
       case rel => exact ⟨_, (true), (by first|rfl|(simp; done)|(simp [*]; done)), H', ⟨by have := HJ6.out; first|omega|exact Nat.le_refl _⟩, ⟨by (with_reducible repeat (first|apply Kd.S_alloc|apply Kd.S_drewN|apply Kd.S_drew)); exact HO248.out⟩, ⟨by (with_reducible repeat (first|apply Kd.R_alloc|apply Kd.R_drewN|apply Kd.R_drew)); exact Kd.R_mono HO251.out (fun _ hk => ⟨hk.1.1.2, ⟨hk.1.2, hk.2⟩⟩)⟩, ⟨by (with_reducible repeat (first|apply Kd.R_alloc|apply Kd.R_drewN|apply Kd.R_drew)); exact Kd.R_mono HO259.out (fun _ hk => ⟨hk.1.1.2, ⟨hk.1.2, hk.2⟩⟩)⟩, ⟨by (with_reducible repeat (first|apply Kd.R_alloc|apply Kd.R_drewN|apply Kd.R_drew)); exact Kd.R_mono HO267.out (fun _ hk => ⟨hk.1.1.2, ⟨hk.1.2, hk.2⟩⟩)⟩, ⟨by (with_reducible repeat (first|apply Kd.R_alloc|apply Kd.R_drewN|apply Kd.R_drew)); exact Kd.R_mono HO275.out (fun _ hk => ⟨hk.1.1.2, ⟨hk.1.2, hk.2⟩⟩)⟩, ⟨by (with_reducible repeat (first|refine blk_drewN ?_ _|refine blk_drew ?_|refine blk_alloc ?_ _)); exact BK256.out⟩, ⟨by (with_reducible repeat (first|refine blk_drewN ?_ _|refine blk_drew ?_|refine blk_alloc ?_ _)); exact BK264.out⟩, ⟨by (with_reducible repeat (first|refine blk_drewN ?_ _|refine blk_drew ?_|refine blk_alloc ?_ _)); exact BK272.out⟩, ⟨by (with_reducible repeat (first|refine blk_drewN ?_ _|refine blk_drew ?_|refine blk_alloc ?_ _)); exact BK280.out⟩, ⟨by repeat (first|(with_reducible first|exact HB.out|apply below_alloc|apply pw_below_drewN|apply below_drew1|refine below_set ?_ GE256.out|refine below_set ?_ GE264.out|refine below_set ?_ GE272.out|refine below_set ?_ GE280.out)|exact HB.out)⟩⟩
     ·replace c46 := Bool.eq_false_iff.mpr c46
      subst c46
      have H1 : (stowagelaw20_ListingTells.j1 kj6 l0 t246 true t249 t252 t253 t254 t265 t268 t269 t270 t273 t276 t277 t278) = some r := by rw [if_neg (show ¬ (false = true) by decide)] at H; exact H
      clear H
      have H := H1
      clear H1
      have H' := Aside0.mk H
      clear H
      have hnb113 := NB256_264.out
      have hnc113 := NB264_256.out
      have hnb114 := NB256_272.out
      have hnc114 := NB272_256.out
      have hnb115 := NB256_280.out
      have hnc115 := NB280_256.out
      have hcz116_0 : w39.cell? ⟨gb256, 0, none⟩ = some (.slice Ao25 t249.length co25) := (blk_cell BK256.out 0).trans rfl
      have hcz116_1 : w39.cell? ⟨gb256, 1, none⟩ = some (.bool t252) := (blk_cell BK256.out 1).trans rfl
      have hcz116_2 : w39.cell? ⟨gb256, 2, none⟩ = some (.string t253) := (blk_cell BK256.out 2).trans rfl
      have hcz116_3 : w39.cell? ⟨gb256, 3, none⟩ = some (.string t254) := (blk_cell BK256.out 3).trans rfl
      have hfz116_0 := blk_frozen BK256.out 0
      have hfz116_1 := blk_frozen BK256.out 1
      have hfz116_2 := blk_frozen BK256.out 2
      have hfz116_3 := blk_frozen BK256.out 3
      have hnb117 := NB264_272.out
      have hnc117 := NB272_264.out
      have hnb118 := NB264_280.out
      have hnc118 := NB280_264.out
      have hcz119_0 : w39.cell? ⟨gb264, 0, none⟩ = some (.slice Ao29 t257.length co29) := (blk_cell BK264.out 0).trans rfl
      have hcz119_1 : w39.cell? ⟨gb264, 1, none⟩ = some (.bool t260) := (blk_cell BK264.out 1).trans rfl
      have hcz119_2 : w39.cell? ⟨gb264, 2, none⟩ = some (.string t261) := (blk_cell BK264.out 2).trans rfl
      have hcz119_3 : w39.cell? ⟨gb264, 3, none⟩ = some (.string t262) := (blk_cell BK264.out 3).trans rfl
      have hfz119_0 := blk_frozen BK264.out 0
      have hfz119_1 := blk_frozen BK264.out 1
      have hfz119_2 := blk_frozen BK264.out 2
      have hfz119_3 := blk_frozen BK264.out 3
      go_wp2_with (first|((with_reducible refine gate_callee (f := 15) rfl ?_); refine goesL_ (some 75) rfl rfl Try.func15 (by kernel_rfl) rfl #[.agg #[.slice Ao25 t249.length co25, .bool t252, .string t253, .string t254], .agg #[.slice Ao29 t257.length co29, .bool t260, .string t261, .string t262]] rfl (by (try simp only [List.map_toArray, List.map_cons, List.map_nil]); first|done|rfl|(simp only [List.length_drop, List.length_take]; rfl)) ?_; (with_reducible refine (stowagekit_SamePage.calls kj6 _ _ t249 t252 t253 t254 _ _ t257 t260 t261 t262 false _ ?side1 ?side2 ?side3 ?side4 A45.out).mono ?_); (case side1 => refine (Kd.R_reads' (e := 39) (base := w.heap.size) (ok := fun k_ => (((True ∧ some k_ ≠ (.slice Ao29 t257.length co29 : Value).ownBlock) ∧ some k_ ≠ (.slice Ao34 t265.length co34 : Value).ownBlock) ∧ some k_ ≠ (.slice Ao40 t273.length co40 : Value).ownBlock)) (n := t249.length) (c := co25) ?_).2.2; exact (by (with_reducible repeat (first|apply Kd.R_alloc|apply Kd.R_drewN|apply Kd.R_drew)); exact (Kd.R_mono (Kd.R_far (p := ⟨gb280, 3, none⟩) (Kd.R_far (p := ⟨gb280, 2, none⟩) (Kd.R_far (p := ⟨gb280, 1, none⟩) (Kd.R_far (p := ⟨gb280, 0, none⟩) (Kd.R_types HO251.out BK280.out (by decide)) (fun _ hk => hk.2) (.slice Ao40 t273.length co40)) (fun _ hk => hk.2) (.bool t276)) (fun _ hk => hk.2) (.string t277)) (fun _ hk => hk.2) (.string t278)) (fun _ h_ => h_.1)))); (case side2 => exact (Kd.R_reads' HO251.out).2.1); (case side3 => refine (Kd.R_reads' (e := 39) (base := w.heap.size) (ok := fun k_ => (((True ∧ some k_ ≠ (.slice Ao25 t249.length co25 : Value).ownBlock) ∧ some k_ ≠ (.slice Ao34 t265.length co34 : Value).ownBlock) ∧ some k_ ≠ (.slice Ao40 t273.length co40 : Value).ownBlock)) (n := t257.length) (c := co29) ?_).2.2; exact (by (with_reducible repeat (first|apply Kd.R_alloc|apply Kd.R_drewN|apply Kd.R_drew)); exact (Kd.R_mono (Kd.R_far (p := ⟨gb280, 3, none⟩) (Kd.R_far (p := ⟨gb280, 2, none⟩) (Kd.R_far (p := ⟨gb280, 1, none⟩) (Kd.R_far (p := ⟨gb280, 0, none⟩) (Kd.R_types HO259.out BK280.out (by decide)) (fun _ hk => hk.2) (.slice Ao40 t273.length co40)) (fun _ hk => hk.2) (.bool t276)) (fun _ hk => hk.2) (.string t277)) (fun _ hk => hk.2) (.string t278)) (fun _ h_ => h_.1)))); (case side4 => exact (Kd.R_reads' HO259.out).2.1); rintro e w120 ⟨rfl, hb⟩; refine ⟨_, rfl, ?_⟩; have n0_ := Aside0.mk (Kd.S_below (by (with_reducible repeat (first|apply Kd.S_alloc|apply Kd.S_drewN|apply Kd.S_drew)); exact (Kd.S_mono (Kd.S_far (p := ⟨gb280, 3, none⟩) (Kd.S_far (p := ⟨gb280, 2, none⟩) (Kd.S_far (p := ⟨gb280, 1, none⟩) (Kd.S_far (p := ⟨gb280, 0, none⟩) (Kd.S_types HO248.out BK280.out (by decide)) (fun _ hk => hk.2) (.slice Ao40 t273.length co40)) (fun _ hk => hk.2) (.bool t276)) (fun _ hk => hk.2) (.string t277)) (fun _ hk => hk.2) (.string t278)) (fun _ h_ => h_.1))) hb); have n1_ := Aside0.mk (Kd.R_below (by (with_reducible repeat (first|apply Kd.R_alloc|apply Kd.R_drewN|apply Kd.R_drew)); exact (Kd.R_mono (Kd.R_far (p := ⟨gb280, 3, none⟩) (Kd.R_far (p := ⟨gb280, 2, none⟩) (Kd.R_far (p := ⟨gb280, 1, none⟩) (Kd.R_far (p := ⟨gb280, 0, none⟩) (Kd.R_types HO251.out BK280.out (by decide)) (fun _ hk => hk.2) (.slice Ao40 t273.length co40)) (fun _ hk => hk.2) (.bool t276)) (fun _ hk => hk.2) (.string t277)) (fun _ hk => hk.2) (.string t278)) (fun _ h_ => h_.1))) hb); have n2_ := Aside0.mk (Kd.R_below (by (with_reducible repeat (first|apply Kd.R_alloc|apply Kd.R_drewN|apply Kd.R_drew)); exact (Kd.R_mono (Kd.R_far (p := ⟨gb280, 3, none⟩) (Kd.R_far (p := ⟨gb280, 2, none⟩) (Kd.R_far (p := ⟨gb280, 1, none⟩) (Kd.R_far (p := ⟨gb280, 0, none⟩) (Kd.R_types HO259.out BK280.out (by decide)) (fun _ hk => hk.2) (.slice Ao40 t273.length co40)) (fun _ hk => hk.2) (.bool t276)) (fun _ hk => hk.2) (.string t277)) (fun _ hk => hk.2) (.string t278)) (fun _ h_ => h_.1))) hb); have n3_ := Aside0.mk (Kd.R_below (by (with_reducible repeat (first|apply Kd.R_alloc|apply Kd.R_drewN|apply Kd.R_drew)); exact (Kd.R_mono (Kd.R_far (p := ⟨gb280, 3, none⟩) (Kd.R_far (p := ⟨gb280, 2, none⟩) (Kd.R_far (p := ⟨gb280, 1, none⟩) (Kd.R_far (p := ⟨gb280, 0, none⟩) (Kd.R_types HO267.out BK280.out (by decide)) (fun _ hk => hk.2) (.slice Ao40 t273.length co40)) (fun _ hk => hk.2) (.bool t276)) (fun _ hk => hk.2) (.string t277)) (fun _ hk => hk.2) (.string t278)) (fun _ h_ => h_.1))) hb); have n4_ := Aside0.mk (Kd.R_below (by (with_reducible repeat (first|apply Kd.R_alloc|apply Kd.R_drewN|apply Kd.R_drew)); exact (Kd.R_mono (Kd.R_far (p := ⟨gb280, 3, none⟩) (Kd.R_far (p := ⟨gb280, 2, none⟩) (Kd.R_far (p := ⟨gb280, 1, none⟩) (Kd.R_far (p := ⟨gb280, 0, none⟩) (Kd.R_types HO275.out BK280.out (by decide)) (fun _ hk => hk.2) (.slice Ao40 t273.length co40)) (fun _ hk => hk.2) (.bool t276)) (fun _ hk => hk.2) (.string t277)) (fun _ hk => hk.2) (.string t278)) (fun _ h_ => h_.1))) hb); have n5_ := Aside0.mk (blk_below (g := gb256) (o := .cells #[.slice Ao25 t249.length co25, .bool t252, .string t253, .string t254] 28 (0, 0)) (by (with_reducible repeat (first|refine blk_drewN ?_ _|refine blk_drew ?_|refine blk_alloc ?_ _)); refine blk_far ?_ NB256_280.out _; (with_reducible repeat (first|refine blk_drewN ?_ _|refine blk_drew ?_|refine blk_alloc ?_ _)); refine blk_far ?_ NB256_280.out _; (with_reducible repeat (first|refine blk_drewN ?_ _|refine blk_drew ?_|refine blk_alloc ?_ _)); refine blk_far ?_ NB256_280.out _; (with_reducible repeat (first|refine blk_drewN ?_ _|refine blk_drew ?_|refine blk_alloc ?_ _)); refine blk_far ?_ NB256_280.out _; (with_reducible repeat (first|refine blk_drewN ?_ _|refine blk_drew ?_|refine blk_alloc ?_ _)); exact BK256.out) hb); have n6_ := Aside0.mk (blk_below (g := gb264) (o := .cells #[.slice Ao29 t257.length co29, .bool t260, .string t261, .string t262] 28 (0, 0)) (by (with_reducible repeat (first|refine blk_drewN ?_ _|refine blk_drew ?_|refine blk_alloc ?_ _)); refine blk_far ?_ NB264_280.out _; (with_reducible repeat (first|refine blk_drewN ?_ _|refine blk_drew ?_|refine blk_alloc ?_ _)); refine blk_far ?_ NB264_280.out _; (with_reducible repeat (first|refine blk_drewN ?_ _|refine blk_drew ?_|refine blk_alloc ?_ _)); refine blk_far ?_ NB264_280.out _; (with_reducible repeat (first|refine blk_drewN ?_ _|refine blk_drew ?_|refine blk_alloc ?_ _)); refine blk_far ?_ NB264_280.out _; (with_reducible repeat (first|refine blk_drewN ?_ _|refine blk_drew ?_|refine blk_alloc ?_ _)); exact BK264.out) hb); have n7_ := Aside0.mk (blk_below (g := gb272) (o := .cells #[.slice Ao34 t265.length co34, .bool t268, .string t269, .string t270] 28 (0, 0)) (by (with_reducible repeat (first|refine blk_drewN ?_ _|refine blk_drew ?_|refine blk_alloc ?_ _)); refine blk_far ?_ NB272_280.out _; (with_reducible repeat (first|refine blk_drewN ?_ _|refine blk_drew ?_|refine blk_alloc ?_ _)); refine blk_far ?_ NB272_280.out _; (with_reducible repeat (first|refine blk_drewN ?_ _|refine blk_drew ?_|refine blk_alloc ?_ _)); refine blk_far ?_ NB272_280.out _; (with_reducible repeat (first|refine blk_drewN ?_ _|refine blk_drew ?_|refine blk_alloc ?_ _)); refine blk_far ?_ NB272_280.out _; (with_reducible repeat (first|refine blk_drewN ?_ _|refine blk_drew ?_|refine blk_alloc ?_ _)); exact BK272.out) hb); have n8_ := Aside0.mk (blk_below (g := gb280) (o := .cells #[.slice Ao40 t273.length co40, .bool t276, .string t277, .string t278] 28 (0, 0)) (by (with_reducible repeat (first|refine blk_drewN ?_ _|refine blk_drew ?_|refine blk_alloc ?_ _)); refine blk_put (cs := #[.slice Ao40 t273.length co40, .bool t276, .string t277, .string (⟨#[]⟩ : ByteArray)]) ?_ 3 _ rfl; (with_reducible repeat (first|refine blk_drewN ?_ _|refine blk_drew ?_|refine blk_alloc ?_ _)); refine blk_put (cs := #[.slice Ao40 t273.length co40, .bool t276, .string (⟨#[]⟩ : ByteArray), .string (⟨#[]⟩ : ByteArray)]) ?_ 2 _ rfl; (with_reducible repeat (first|refine blk_drewN ?_ _|refine blk_drew ?_|refine blk_alloc ?_ _)); refine blk_put (cs := #[.slice Ao40 t273.length co40, .bool false, .string (⟨#[]⟩ : ByteArray), .string (⟨#[]⟩ : ByteArray)]) ?_ 1 _ rfl; (with_reducible repeat (first|refine blk_drewN ?_ _|refine blk_drew ?_|refine blk_alloc ?_ _)); refine blk_put (cs := #[.slice none 0 0, .bool false, .string (⟨#[]⟩ : ByteArray), .string (⟨#[]⟩ : ByteArray)]) ?_ 0 _ rfl; (with_reducible repeat (first|refine blk_drewN ?_ _|refine blk_drew ?_|refine blk_alloc ?_ _)); exact BK280.out) hb); have n9_ := Aside0.mk (below_step (by repeat (first|(with_reducible first|exact HB.out|apply below_alloc|apply pw_below_drewN|apply below_drew1|refine below_set ?_ GE256.out|refine below_set ?_ GE264.out|refine below_set ?_ GE272.out|refine below_set ?_ GE280.out)|exact HB.out)) hb); clear HO248; clear HO251; clear HO259; clear HO267; clear HO275; clear BK256; clear BK264; clear BK272; clear BK280; clear HB; have HO248 := n0_; have HO251 := n1_; have HO259 := n2_; have HO267 := n3_; have HO275 := n4_; have BK256 := n5_; have BK264 := n6_; have BK272 := n7_; have BK280 := n8_; have HB := n9_; clear n0_ n1_ n2_ n3_ n4_ n5_ n6_ n7_ n8_ n9_; (try clear hb); (try clear hb2); (try clear hk); (try clear hi)))
      go_meet
      case rel => exact ⟨_, (true), (by first|rfl|(simp; done)|(simp [*]; done)), H', ⟨by have := HJ6.out; first|omega|exact Nat.le_refl _⟩, ⟨by (with_reducible repeat (first|apply Kd.S_alloc|apply Kd.S_drewN|apply Kd.S_drew)); exact HO248.out⟩, ⟨by (with_reducible repeat (first|apply Kd.R_alloc|apply Kd.R_drewN|apply Kd.R_drew)); exact Kd.R_mono HO251.out (fun _ hk => ⟨hk.1.1.2, ⟨hk.1.2, hk.2⟩⟩)⟩, ⟨by (with_reducible repeat (first|apply Kd.R_alloc|apply Kd.R_drewN|apply Kd.R_drew)); exact Kd.R_mono HO259.out (fun _ hk => ⟨hk.1.1.2, ⟨hk.1.2, hk.2⟩⟩)⟩, ⟨by (with_reducible repeat (first|apply Kd.R_alloc|apply Kd.R_drewN|apply Kd.R_drew)); exact Kd.R_mono HO267.out (fun _ hk => ⟨hk.1.1.2, ⟨hk.1.2, hk.2⟩⟩)⟩, ⟨by (with_reducible repeat (first|apply Kd.R_alloc|apply Kd.R_drewN|apply Kd.R_drew)); exact Kd.R_mono HO275.out (fun _ hk => ⟨hk.1.1.2, ⟨hk.1.2, hk.2⟩⟩)⟩, ⟨by (with_reducible repeat (first|refine blk_drewN ?_ _|refine blk_drew ?_|refine blk_alloc ?_ _)); exact BK256.out⟩, ⟨by (with_reducible repeat (first|refine blk_drewN ?_ _|refine blk_drew ?_|refine blk_alloc ?_ _)); exact BK264.out⟩, ⟨by (with_reducible repeat (first|refine blk_drewN ?_ _|refine blk_drew ?_|refine blk_alloc ?_ _)); exact BK272.out⟩, ⟨by (with_reducible repeat (first|refine blk_drewN ?_ _|refine blk_drew ?_|refine blk_alloc ?_ _)); exact BK280.out⟩, ⟨by repeat (first|(with_reducible first|exact HB.out|apply below_alloc|apply pw_below_drewN|apply below_drew1|refine below_set ?_ GE256.out|refine below_set ?_ GE264.out|refine below_set ?_ GE272.out|refine below_set ?_ GE280.out)|exact HB.out)⟩⟩
    case rest =>
     clear HC20
     try clear c1
     try clear p2
     try clear c3
     try clear c4
     try clear c5
     try clear c6
     try clear c7
     try clear c8
     try clear c9
     try clear c10
     try clear c11
     try clear c12
     try clear c13
     try clear c14
     try clear c15
     try clear c30
     try clear c35
     try clear c36
     try clear c41
     try clear c42
     try clear c43
     try clear c46
     try clear c47
     try clear c47b0
     try clear c47b1
     try clear c49
     try clear c50
     try clear c50b0
     try clear c50b1
     try clear c53
     try clear c53b0
     try clear c53b1
     try clear c55
     try clear c56
     try clear c57
     try clear c59
     try clear c60
     try clear c63
     try clear c68
     try clear c69
     try clear c70
     try clear c72
     try clear c73
     try clear c76
     try clear c81
     try clear c82
     try clear c83
     try clear c85
     try clear c86
     try clear c89
     try clear c93
     try clear c94
     try clear c95
     try clear c97
     try clear c98
     try clear c101
     try clear c105
     try clear c106
     try clear c107
     try clear c109
     try clear c110
     try clear c113
     try clear c114
     try clear c115
     try clear c117
     try clear c118
     try clear hcz102_0
     try clear hcz102_1
     try clear hcz102_2
     try clear hcz102_3
     try clear hcz103_0
     try clear hcz103_1
     try clear hcz103_2
     try clear hcz103_3
     try clear hcz108_0
     try clear hcz108_1
     try clear hcz108_2
     try clear hcz108_3
     try clear hcz111_0
     try clear hcz111_1
     try clear hcz111_2
     try clear hcz111_3
     try clear hcz116_0
     try clear hcz116_1
     try clear hcz116_2
     try clear hcz116_3
     try clear hcz119_0
     try clear hcz119_1
     try clear hcz119_2
     try clear hcz119_3
     try clear hcz26_0
     try clear hcz26_1
     try clear hcz26_2
     try clear hcz26_3
     try clear hcz31_0
     try clear hcz31_1
     try clear hcz31_2
     try clear hcz31_3
     try clear hcz37_0
     try clear hcz37_1
     try clear hcz37_2
     try clear hcz37_3
     try clear hcz44_0
     try clear hcz44_1
     try clear hcz44_2
     try clear hcz44_3
     try clear hcz58_0
     try clear hcz58_1
     try clear hcz58_2
     try clear hcz58_3
     try clear hcz61_0
     try clear hcz61_1
     try clear hcz61_2
     try clear hcz61_3
     try clear hcz64_0
     try clear hcz64_1
     try clear hcz64_2
     try clear hcz64_3
     try clear hcz65_0
     try clear hcz65_1
     try clear hcz65_2
     try clear hcz65_3
     try clear hcz71_0
     try clear hcz71_1
     try clear hcz71_2
     try clear hcz71_3
     try clear hcz74_0
     try clear hcz74_1
     try clear hcz74_2
     try clear hcz74_3
     try clear hcz77_0
     try clear hcz77_1
     try clear hcz77_2
     try clear hcz77_3
     try clear hcz78_0
     try clear hcz78_1
     try clear hcz78_2
     try clear hcz78_3
     try clear hcz84_0
     try clear hcz84_1
     try clear hcz84_2
     try clear hcz84_3
     try clear hcz87_0
     try clear hcz87_1
     try clear hcz87_2
     try clear hcz87_3
     try clear hcz90_0
     try clear hcz90_1
     try clear hcz90_2
     try clear hcz90_3
     try clear hcz91_0
     try clear hcz91_1
     try clear hcz91_2
     try clear hcz91_3
     try clear hcz96_0
     try clear hcz96_1
     try clear hcz96_2
     try clear hcz96_3
     try clear hcz99_0
     try clear hcz99_1
     try clear hcz99_2
     try clear hcz99_3
     try clear hfz102_0
     try clear hfz102_1
     try clear hfz102_2
     try clear hfz102_3
     try clear hfz103_0
     try clear hfz103_1
     try clear hfz103_2
     try clear hfz103_3
     try clear hfz108_0
     try clear hfz108_1
     try clear hfz108_2
     try clear hfz108_3
     try clear hfz111_0
     try clear hfz111_1
     try clear hfz111_2
     try clear hfz111_3
     try clear hfz116_0
     try clear hfz116_1
     try clear hfz116_2
     try clear hfz116_3
     try clear hfz119_0
     try clear hfz119_1
     try clear hfz119_2
     try clear hfz119_3
     try clear hfz26_0
     try clear hfz26_1
     try clear hfz26_2
     try clear hfz26_3
     try clear hfz31_0
     try clear hfz31_1
     try clear hfz31_2
     try clear hfz31_3
     try clear hfz37_0
     try clear hfz37_1
     try clear hfz37_2
     try clear hfz37_3
     try clear hfz44_0
     try clear hfz44_1
     try clear hfz44_2
     try clear hfz44_3
     try clear hfz58_0
     try clear hfz58_1
     try clear hfz58_2
     try clear hfz58_3
     try clear hfz61_0
     try clear hfz61_1
     try clear hfz61_2
     try clear hfz61_3
     try clear hfz64_0
     try clear hfz64_1
     try clear hfz64_2
     try clear hfz64_3
     try clear hfz65_0
     try clear hfz65_1
     try clear hfz65_2
     try clear hfz65_3
     try clear hfz71_0
     try clear hfz71_1
     try clear hfz71_2
     try clear hfz71_3
     try clear hfz74_0
     try clear hfz74_1
     try clear hfz74_2
     try clear hfz74_3
     try clear hfz77_0
     try clear hfz77_1
     try clear hfz77_2
     try clear hfz77_3
     try clear hfz78_0
     try clear hfz78_1
     try clear hfz78_2
     try clear hfz78_3
     try clear hfz84_0
     try clear hfz84_1
     try clear hfz84_2
     try clear hfz84_3
     try clear hfz87_0
     try clear hfz87_1
     try clear hfz87_2
     try clear hfz87_3
     try clear hfz90_0
     try clear hfz90_1
     try clear hfz90_2
     try clear hfz90_3
     try clear hfz91_0
     try clear hfz91_1
     try clear hfz91_2
     try clear hfz91_3
     try clear hfz96_0
     try clear hfz96_1
     try clear hfz96_2
     try clear hfz96_3
     try clear hfz99_0
     try clear hfz99_1
     try clear hfz99_2
     try clear hfz99_3
     try clear p2
     obtain ⟨kq, x105_19, rfl, HA, HJ19, HO_13, HO_257000, HO_265000, HO_273000, HO_281000, BK256, BK264, BK272, BK280, HB⟩ := hcut
     cases kq with
     | zero => exact absurd HA.out (by simp [stowagelaw20_ListingTells.j1])
     | succ kj19 =>
      have H := HA.out
      clear HA
      simp only [stowagelaw20_ListingTells.j1] at H
      by_cases c121 : x105_19 = true
      ·subst c121
       have H1 : (some false) = some r := by rw [if_pos rfl] at H; exact H
       clear H
       have H := H1
       clear H1
       obtain rfl := Option.some.inj H
       go_wp2
       go_ret
       exact ⟨by first|rfl|(simp [errW_none, errW_some] <;> rfl)|(simp [*, errW_none, errW_some] <;> rfl), by repeat (first|(with_reducible first|exact HB.out|apply below_alloc|apply pw_below_drewN|apply below_drew1|refine below_set ?_ GE256.out|refine below_set ?_ GE264.out|refine below_set ?_ GE272.out|refine below_set ?_ GE280.out)|exact HB.out)⟩
      ·replace c121 := Bool.eq_false_iff.mpr c121
       subst c121
       have H1 : (stowagelaw20_ListingTells.l0 kj19 l0 t246 0 t249 t252 t253 t254 t265 t268 t269 t270 t273 t276 t277 t278) = some r := by rw [if_neg (show ¬ (false = true) by decide)] at H; exact H
       clear H
       have H := H1
       clear H1
       have H' := Aside0.mk H
       clear H
       go_wp2
       go_loopg [22] kj19 (fun kq v22 w' => ∃ (x22_3 : Int) (x257000_3 : List (S39)) (x265000_3 : List (S39)) (x273000_3 : List (S39)) (x281000_3 : List (S39)) (u257000 : Value) (u265000 : Value) (u273000 : Value) (u281000 : Value), v22 = .int .i64 x22_3 ∧ Aside0 (stowagelaw20_ListingTells.l0 kq l0 t246 x22_3 x257000_3 t252 t253 t254 x273000_3 t268 t269 t270 x281000_3 t276 t277 t278 = some r) ∧ Aside0 (kq ≤ kj19) ∧ Aside0 (Kd.S k47 47 w' w.heap.size (fun _ => True) (.slice Ao22 t246.length co22) t246) ∧ Aside0 (Kd.R k39 39 w' w.heap.size (fun k_ => some k_ ≠ (u265000 : Value).ownBlock ∧ some k_ ≠ (u273000 : Value).ownBlock ∧ some k_ ≠ (u281000 : Value).ownBlock) u257000 x257000_3) ∧ Aside0 (Kd.R k39 39 w' w.heap.size (fun k_ => some k_ ≠ (u257000 : Value).ownBlock ∧ some k_ ≠ (u273000 : Value).ownBlock ∧ some k_ ≠ (u281000 : Value).ownBlock) u265000 x265000_3) ∧ Aside0 (Kd.R k39 39 w' w.heap.size (fun k_ => some k_ ≠ (u257000 : Value).ownBlock ∧ some k_ ≠ (u265000 : Value).ownBlock ∧ some k_ ≠ (u281000 : Value).ownBlock) u273000 x273000_3) ∧ Aside0 (Kd.R k39 39 w' w.heap.size (fun k_ => some k_ ≠ (u257000 : Value).ownBlock ∧ some k_ ≠ (u265000 : Value).ownBlock ∧ some k_ ≠ (u273000 : Value).ownBlock) u281000 x281000_3) ∧ Aside0 (w'.heap[gb256]? = some (.cells #[u257000, .bool t252, .string t253, .string t254] 28 (0, 0))) ∧ Aside0 (w'.heap[gb264]? = some (.cells #[u265000, .bool t260, .string t261, .string t262] 28 (0, 0))) ∧ Aside0 (w'.heap[gb272]? = some (.cells #[u273000, .bool t268, .string t269, .string t270] 28 (0, 0))) ∧ Aside0 (w'.heap[gb280]? = some (.cells #[u281000, .bool t276, .string t277, .string t278] 28 (0, 0))) ∧ Aside0 (Below w.heap.size w w'))
       case atStart => exact ⟨(0), (t249), (t257), (t265), (t273), (.slice Ao25 t249.length co25), (.slice Ao29 t257.length co29), (.slice Ao34 t265.length co34), (.slice Ao40 t273.length co40), (by first|rfl|(simp; done)|(simp [*]; done)), H', ⟨Nat.le_refl _⟩, ⟨by (with_reducible repeat (first|apply Kd.S_alloc|apply Kd.S_drewN|apply Kd.S_drew)); exact HO_13.out⟩, ⟨by (with_reducible repeat (first|apply Kd.R_alloc|apply Kd.R_drewN|apply Kd.R_drew)); exact HO_257000.out⟩, ⟨by (with_reducible repeat (first|apply Kd.R_alloc|apply Kd.R_drewN|apply Kd.R_drew)); exact HO_265000.out⟩, ⟨by (with_reducible repeat (first|apply Kd.R_alloc|apply Kd.R_drewN|apply Kd.R_drew)); exact HO_273000.out⟩, ⟨by (with_reducible repeat (first|apply Kd.R_alloc|apply Kd.R_drewN|apply Kd.R_drew)); exact HO_281000.out⟩, ⟨by (with_reducible repeat (first|refine blk_drewN ?_ _|refine blk_drew ?_|refine blk_alloc ?_ _)); exact BK256.out⟩, ⟨by (with_reducible repeat (first|refine blk_drewN ?_ _|refine blk_drew ?_|refine blk_alloc ?_ _)); exact BK264.out⟩, ⟨by (with_reducible repeat (first|refine blk_drewN ?_ _|refine blk_drew ?_|refine blk_alloc ?_ _)); exact BK272.out⟩, ⟨by (with_reducible repeat (first|refine blk_drewN ?_ _|refine blk_drew ?_|refine blk_alloc ?_ _)); exact BK280.out⟩, ⟨by repeat (first|(with_reducible first|exact HB.out|apply below_alloc|apply pw_below_drewN|apply below_drew1|refine below_set ?_ GE256.out|refine below_set ?_ GE264.out|refine below_set ?_ GE272.out|refine below_set ?_ GE280.out)|exact HB.out)⟩⟩
       case round =>
        clear H'
        try clear c1
        try clear p2
        try clear c3
        try clear c4
        try clear c5
        try clear c6
        try clear c7
        try clear c8
        try clear c9
        try clear c10
        try clear c11
        try clear c12
        try clear c13
        try clear c14
        try clear c15
        try clear c30
        try clear c35
        try clear c36
        try clear c41
        try clear c42
        try clear c43
        try clear c46
        try clear c47
        try clear c47b0
        try clear c47b1
        try clear c49
        try clear c50
        try clear c50b0
        try clear c50b1
        try clear c53
        try clear c53b0
        try clear c53b1
        try clear c55
        try clear c56
        try clear c57
        try clear c59
        try clear c60
        try clear c63
        try clear c68
        try clear c69
        try clear c70
        try clear c72
        try clear c73
        try clear c76
        try clear c81
        try clear c82
        try clear c83
        try clear c85
        try clear c86
        try clear c89
        try clear c93
        try clear c94
        try clear c95
        try clear c97
        try clear c98
        try clear c101
        try clear c105
        try clear c106
        try clear c107
        try clear c109
        try clear c110
        try clear c113
        try clear c114
        try clear c115
        try clear c117
        try clear c118
        try clear c121
        try clear hcz102_0
        try clear hcz102_1
        try clear hcz102_2
        try clear hcz102_3
        try clear hcz103_0
        try clear hcz103_1
        try clear hcz103_2
        try clear hcz103_3
        try clear hcz108_0
        try clear hcz108_1
        try clear hcz108_2
        try clear hcz108_3
        try clear hcz111_0
        try clear hcz111_1
        try clear hcz111_2
        try clear hcz111_3
        try clear hcz116_0
        try clear hcz116_1
        try clear hcz116_2
        try clear hcz116_3
        try clear hcz119_0
        try clear hcz119_1
        try clear hcz119_2
        try clear hcz119_3
        try clear hcz26_0
        try clear hcz26_1
        try clear hcz26_2
        try clear hcz26_3
        try clear hcz31_0
        try clear hcz31_1
        try clear hcz31_2
        try clear hcz31_3
        try clear hcz37_0
        try clear hcz37_1
        try clear hcz37_2
        try clear hcz37_3
        try clear hcz44_0
        try clear hcz44_1
        try clear hcz44_2
        try clear hcz44_3
        try clear hcz58_0
        try clear hcz58_1
        try clear hcz58_2
        try clear hcz58_3
        try clear hcz61_0
        try clear hcz61_1
        try clear hcz61_2
        try clear hcz61_3
        try clear hcz64_0
        try clear hcz64_1
        try clear hcz64_2
        try clear hcz64_3
        try clear hcz65_0
        try clear hcz65_1
        try clear hcz65_2
        try clear hcz65_3
        try clear hcz71_0
        try clear hcz71_1
        try clear hcz71_2
        try clear hcz71_3
        try clear hcz74_0
        try clear hcz74_1
        try clear hcz74_2
        try clear hcz74_3
        try clear hcz77_0
        try clear hcz77_1
        try clear hcz77_2
        try clear hcz77_3
        try clear hcz78_0
        try clear hcz78_1
        try clear hcz78_2
        try clear hcz78_3
        try clear hcz84_0
        try clear hcz84_1
        try clear hcz84_2
        try clear hcz84_3
        try clear hcz87_0
        try clear hcz87_1
        try clear hcz87_2
        try clear hcz87_3
        try clear hcz90_0
        try clear hcz90_1
        try clear hcz90_2
        try clear hcz90_3
        try clear hcz91_0
        try clear hcz91_1
        try clear hcz91_2
        try clear hcz91_3
        try clear hcz96_0
        try clear hcz96_1
        try clear hcz96_2
        try clear hcz96_3
        try clear hcz99_0
        try clear hcz99_1
        try clear hcz99_2
        try clear hcz99_3
        try clear hfz102_0
        try clear hfz102_1
        try clear hfz102_2
        try clear hfz102_3
        try clear hfz103_0
        try clear hfz103_1
        try clear hfz103_2
        try clear hfz103_3
        try clear hfz108_0
        try clear hfz108_1
        try clear hfz108_2
        try clear hfz108_3
        try clear hfz111_0
        try clear hfz111_1
        try clear hfz111_2
        try clear hfz111_3
        try clear hfz116_0
        try clear hfz116_1
        try clear hfz116_2
        try clear hfz116_3
        try clear hfz119_0
        try clear hfz119_1
        try clear hfz119_2
        try clear hfz119_3
        try clear hfz26_0
        try clear hfz26_1
        try clear hfz26_2
        try clear hfz26_3
        try clear hfz31_0
        try clear hfz31_1
        try clear hfz31_2
        try clear hfz31_3
        try clear hfz37_0
        try clear hfz37_1
        try clear hfz37_2
        try clear hfz37_3
        try clear hfz44_0
        try clear hfz44_1
        try clear hfz44_2
        try clear hfz44_3
        try clear hfz58_0
        try clear hfz58_1
        try clear hfz58_2
        try clear hfz58_3
        try clear hfz61_0
        try clear hfz61_1
        try clear hfz61_2
        try clear hfz61_3
        try clear hfz64_0
        try clear hfz64_1
        try clear hfz64_2
        try clear hfz64_3
        try clear hfz65_0
        try clear hfz65_1
        try clear hfz65_2
        try clear hfz65_3
        try clear hfz71_0
        try clear hfz71_1
        try clear hfz71_2
        try clear hfz71_3
        try clear hfz74_0
        try clear hfz74_1
        try clear hfz74_2
        try clear hfz74_3
        try clear hfz77_0
        try clear hfz77_1
        try clear hfz77_2
        try clear hfz77_3
        try clear hfz78_0
        try clear hfz78_1
        try clear hfz78_2
        try clear hfz78_3
        try clear hfz84_0
        try clear hfz84_1
        try clear hfz84_2
        try clear hfz84_3
        try clear hfz87_0
        try clear hfz87_1
        try clear hfz87_2
        try clear hfz87_3
        try clear hfz90_0
        try clear hfz90_1
        try clear hfz90_2
        try clear hfz90_3
        try clear hfz91_0
        try clear hfz91_1
        try clear hfz91_2
        try clear hfz91_3
        try clear hfz96_0
        try clear hfz96_1
        try clear hfz96_2
        try clear hfz96_3
        try clear hfz99_0
        try clear hfz99_1
        try clear hfz99_2
        try clear hfz99_3
        try clear p2
        obtain ⟨x22_3, x257000_3, x265000_3, x273000_3, x281000_3, u257000, u265000, u273000, u281000, rfl, HA, HK3, HO_13, HO_257000, HO_265000, HO_273000, HO_281000, BK256, BK264, BK272, BK280, HB⟩ := hrel
        cases gk with
        | zero => exact absurd HA.out (by simp [stowagelaw20_ListingTells.l0])
        | succ k3 =>
         have H := HA.out
         clear HA
         simp only [stowagelaw20_ListingTells.l0] at H
         by_cases c122 : x22_3 < (x257000_3.length : Int)
         ·rw [if_pos c122] at H
          have c122b0 : decide (x22_3 < (x257000_3.length : Int)) = true := decide_eq_true c122
          clear c122
          by_cases c123 : 0 ≤ x22_3
          ·rw [if_pos c123] at H
           have c123b0 : decide (0 ≤ x22_3) = true := decide_eq_true c123
           clear c123
           obtain ⟨y286, hy286⟩ : ∃ y_ : List (S39), y_ = (x257000_3.set (x22_3 : Int).toNat (⟨(⟨#[111, 118, 101, 114]⟩ : ByteArray), (rd_T39 x257000_3 x22_3).f1, (⟨(rd_T39 x257000_3 x22_3).f2.f0, (rd_T39 x257000_3 x22_3).f2.f1, (rd_T39 x257000_3 x22_3).f2.f2, (rd_T39 x257000_3 x22_3).f2.f3, (rd_T39 x257000_3 x22_3).f2.f4⟩ : S37), (rd_T39 x257000_3 x22_3).f3⟩ : S39)) := ⟨_, rfl⟩
           replace H : (stowagelaw20_ListingTells.l0 k3 l0 t246 (wrap64 (x22_3 + 1)) y286 t252 t253 t254 x273000_3 t268 t269 t270 x281000_3 t276 t277 t278) = some r := by first|(rw [hy286]; with_reducible exact H)|(have H2_ := (Option.bind_some _ _).symm.trans H; rw [hy286]; with_reducible exact H2_)|(have H2_ := (Option.bind_some _ _).symm.trans H; with_reducible exact H2_)|with_reducible exact H|(rw [hy286]; exact H)|exact H
           have Ny286 := Aside0.mk hy286
           clear hy286
           have H' := Aside0.mk H
           clear H
           have hnb125 := NB256_264.out
           have hnc125 := NB264_256.out
           have hnb126 := NB256_272.out
           have hnc126 := NB272_256.out
           have hnb127 := NB256_280.out
           have hnc127 := NB280_256.out
           have hcz128_0 : wr.cell? ⟨gb256, 0, none⟩ = some (u257000) := (blk_cell BK256.out 0).trans rfl
           have hcz128_1 : wr.cell? ⟨gb256, 1, none⟩ = some (.bool t252) := (blk_cell BK256.out 1).trans rfl
           have hcz128_2 : wr.cell? ⟨gb256, 2, none⟩ = some (.string t253) := (blk_cell BK256.out 2).trans rfl
           have hcz128_3 : wr.cell? ⟨gb256, 3, none⟩ = some (.string t254) := (blk_cell BK256.out 3).trans rfl
           have hfz128_0 := blk_frozen BK256.out 0
           have hfz128_1 := blk_frozen BK256.out 1
           have hfz128_2 := blk_frozen BK256.out 2
           have hfz128_3 := blk_frozen BK256.out 3
           obtain ⟨Ao129, co129, eo129⟩ := Kd.R_slice HO_257000.out
           subst eo129
           have p124 : 0 ≤ (x22_3 : Int) := of_decide_eq_true (by first|(with_reducible assumption)|assumption)
           have q124 : (x22_3 : Int) < ((x257000_3.length : Int) : Int) := of_decide_eq_true (by first|(with_reducible assumption)|assumption)
           obtain ⟨go124, co124, eo124, gb124, gl124, cl124, HG124⟩ := Kd.R_form HO_257000.out (by omega)
           (first|cases eo124|(injection eo124 with ea_ en_ ec_; (first|subst ea_|(injection ea_ with ea_; subst ea_)); subst ec_; clear en_))
           have GB124 := Aside0.mk gb124
           have GG124 := Aside0.mk HG124
           clear gb124 gl124 HG124
           obtain ⟨ce124, hcl124, hM124, hcc124, hfr124⟩ := Kd.R_elem HO_257000.out z39 (x22_3 : Int) p124 q124
           obtain rfl := k39_openM hM124
           have hx124_0 : wr.cell? ⟨go124, (x22_3 : Int).toNat * 8, none⟩ = some (.string ((rd_T39 x257000_3 x22_3).f0)) := hcc124 0 _ rfl
           have hx124_1 : wr.cell? ⟨go124, (x22_3 : Int).toNat * 8 + 1, none⟩ = some (.bool ((rd_T39 x257000_3 x22_3).f1)) := hcc124 1 _ rfl
           have hx124_2 : wr.cell? ⟨go124, (x22_3 : Int).toNat * 8 + 2, none⟩ = some (.string ((rd_T39 x257000_3 x22_3).f2.f0)) := hcc124 2 _ rfl
           have hx124_3 : wr.cell? ⟨go124, (x22_3 : Int).toNat * 8 + 3, none⟩ = some (.int .i64 ((rd_T39 x257000_3 x22_3).f2.f1)) := hcc124 3 _ rfl
           have hx124_4 : wr.cell? ⟨go124, (x22_3 : Int).toNat * 8 + 4, none⟩ = some (.bool ((rd_T39 x257000_3 x22_3).f2.f2)) := hcc124 4 _ rfl
           have hx124_5 : wr.cell? ⟨go124, (x22_3 : Int).toNat * 8 + 5, none⟩ = some (.int .i64 ((rd_T39 x257000_3 x22_3).f2.f3)) := hcc124 5 _ rfl
           have hx124_6 : wr.cell? ⟨go124, (x22_3 : Int).toNat * 8 + 6, none⟩ = some (.string ((rd_T39 x257000_3 x22_3).f2.f4)) := hcc124 6 _ rfl
           have hx124_7 : wr.cell? ⟨go124, (x22_3 : Int).toNat * 8 + 7, none⟩ = some (.bool ((rd_T39 x257000_3 x22_3).f3)) := hcc124 7 _ rfl
           have hf124_0 : wr.frozen? ⟨go124, (x22_3 : Int).toNat * 8, none⟩ = false := hfr124 0
           have hf124_1 : wr.frozen? ⟨go124, (x22_3 : Int).toNat * 8 + 1, none⟩ = false := hfr124 1
           have hf124_2 : wr.frozen? ⟨go124, (x22_3 : Int).toNat * 8 + 2, none⟩ = false := hfr124 2
           have hf124_3 : wr.frozen? ⟨go124, (x22_3 : Int).toNat * 8 + 3, none⟩ = false := hfr124 3
           have hf124_4 : wr.frozen? ⟨go124, (x22_3 : Int).toNat * 8 + 4, none⟩ = false := hfr124 4
           have hf124_5 : wr.frozen? ⟨go124, (x22_3 : Int).toNat * 8 + 5, none⟩ = false := hfr124 5
           have hf124_6 : wr.frozen? ⟨go124, (x22_3 : Int).toNat * 8 + 6, none⟩ = false := hfr124 6
           have hf124_7 : wr.frozen? ⟨go124, (x22_3 : Int).toNat * 8 + 7, none⟩ = false := hfr124 7
           clear hcl124 hcc124 hfr124 hM124
           replace p124 := eq_true p124
           replace q124 := eq_true q124
           have HX130 := Aside0.mk (show Kd.R k39 39 wr w.heap.size (fun k_ => some k_ ≠ (u265000 : Value).ownBlock ∧ some k_ ≠ (u273000 : Value).ownBlock ∧ some k_ ≠ (u281000 : Value).ownBlock) (.slice (some ⟨go124, 0, none⟩) x257000_3.length co129) x257000_3 from (by (with_reducible repeat (first|apply Kd.R_alloc|apply Kd.R_drewN|apply Kd.R_drew)); exact HO_257000.out))
           obtain ⟨ce130, hcl130, hM130, hcc130, hfr130⟩ := Kd.R_elem HX130.out z39 (x22_3 : Int) (of_decide_eq_true (by first|(with_reducible assumption)|assumption)) (by have h_ : (x22_3 : Int) < ((x257000_3.length : Int) : Int) := of_decide_eq_true (by first|(with_reducible assumption)|assumption); first|exact h_|(have e_ := (Kd.R_reads' HO_257000.out).1; omega)|simpa using h_)
           obtain rfl := k39_openM hM130
           have HP130 := Kd.R_seg HX130.out (x22_3 : Int) (of_decide_eq_true (by first|(with_reducible assumption)|assumption)) (by have h_ : (x22_3 : Int) < ((x257000_3.length : Int) : Int) := of_decide_eq_true (by first|(with_reducible assumption)|assumption); first|exact h_|(have e_ := (Kd.R_reads' HO_257000.out).1; omega)|simpa using h_) (seg := [.string (⟨#[111, 118, 101, 114]⟩ : ByteArray)]) (j := 0) hcl130 hcc130 (show 1 ≤ 8 from by decide) (x' := (⟨(⟨#[111, 118, 101, 114]⟩ : ByteArray), (rd_T39 x257000_3 x22_3).f1, (⟨(rd_T39 x257000_3 x22_3).f2.f0, (rd_T39 x257000_3 x22_3).f2.f1, (rd_T39 x257000_3 x22_3).f2.f2, (rd_T39 x257000_3 x22_3).f2.f3, (rd_T39 x257000_3 x22_3).f2.f4⟩ : S37), (rd_T39 x257000_3 x22_3).f3⟩ : S39)) (k39_mkM _ _ _ (⟨(⟨#[111, 118, 101, 114]⟩ : ByteArray), (rd_T39 x257000_3 x22_3).f1, (⟨(rd_T39 x257000_3 x22_3).f2.f0, (rd_T39 x257000_3 x22_3).f2.f1, (rd_T39 x257000_3 x22_3).f2.f2, (rd_T39 x257000_3 x22_3).f2.f3, (rd_T39 x257000_3 x22_3).f2.f4⟩ : S37), (rd_T39 x257000_3 x22_3).f3⟩ : S39) ) (fun _ hk => hk)
           have hx130_0 := hcc130 0 _ rfl
           (try simp only [show (k39).sz = 8 from rfl, Nat.mul_one, Nat.add_zero] at hx130_0)
           have hf130_0 := hfr130 0
           (try simp only [show (k39).sz = 8 from rfl, Nat.mul_one, Nat.add_zero] at hf130_0)
           clear hcl130 hcc130 hfr130 hM130
           go_wp2_with (first|((with_reducible refine gate_store (t := 9) (p := 117) rfl ?_); refine store_event (t := 9) (p := 117) (v := ?vo_w131) (w1 := (wr.setCell ⟨go124, (x22_3 : Int).toNat * 8, none⟩ (.string (⟨#[111, 118, 101, 114]⟩ : ByteArray)))) ?hg ?ho ?hn ?hr ?_; (case ho => rfl); (case hg => rfl); (case hn => rfl); (case hr => first|(go_simp; done)|(go_simp; rfl)); intro w131 hw; have hg : wr.grownBy w131 (some go124) := (by rw [hw]; exact HP130.2); have hp_ : Kd.R k39 39 w131 w.heap.size (fun k_ => some k_ ≠ (u265000 : Value).ownBlock ∧ some k_ ≠ (u273000 : Value).ownBlock ∧ some k_ ≠ (u281000 : Value).ownBlock) (.slice (some ⟨go124, 0, none⟩) x257000_3.length co129) y286 := (by rw [hw, Ny286.out]; exact HP130.1); clear HP130; have n0_ := Aside0.mk (Kd.S_over' (v := (.slice (some ⟨go124, 0, none⟩) x257000_3.length co129)) (by (with_reducible repeat (first|apply Kd.S_alloc|apply Kd.S_drewN|apply Kd.S_drew)); exact HO_13.out) (Kd.R_typed HO_257000.out) (by decide) hg); have n1_ := Aside0.mk (hp_); have n2_ := Aside0.mk (Kd.R_after (v := (.slice (some ⟨go124, 0, none⟩) x257000_3.length co129)) (v1 := (.slice (some ⟨go124, 0, none⟩) x257000_3.length co129)) (ok := (fun k_ => some k_ ≠ (u273000 : Value).ownBlock ∧ some k_ ≠ (u281000 : Value).ownBlock)) (by (with_reducible repeat (first|apply Kd.R_alloc|apply Kd.R_drewN|apply Kd.R_drew)); exact Kd.R_mono HO_265000.out (fun _ hk => ⟨⟨hk.2.1, hk.2.2⟩, hk.1⟩)) hg (.inl rfl)); have n3_ := Aside0.mk (Kd.R_after (v := (.slice (some ⟨go124, 0, none⟩) x257000_3.length co129)) (v1 := (.slice (some ⟨go124, 0, none⟩) x257000_3.length co129)) (ok := (fun k_ => some k_ ≠ (u265000 : Value).ownBlock ∧ some k_ ≠ (u281000 : Value).ownBlock)) (by (with_reducible repeat (first|apply Kd.R_alloc|apply Kd.R_drewN|apply Kd.R_drew)); exact Kd.R_mono HO_273000.out (fun _ hk => ⟨⟨hk.2.1, hk.2.2⟩, hk.1⟩)) hg (.inl rfl)); have n4_ := Aside0.mk (Kd.R_after (v := (.slice (some ⟨go124, 0, none⟩) x257000_3.length co129)) (v1 := (.slice (some ⟨go124, 0, none⟩) x257000_3.length co129)) (ok := (fun k_ => some k_ ≠ (u265000 : Value).ownBlock ∧ some k_ ≠ (u273000 : Value).ownBlock)) (by (with_reducible repeat (first|apply Kd.R_alloc|apply Kd.R_drewN|apply Kd.R_drew)); exact Kd.R_mono HO_281000.out (fun _ hk => ⟨⟨hk.2.1, hk.2.2⟩, hk.1⟩)) hg (.inl rfl)); have n5_ := Aside0.mk (blk_grown (g := gb256) (o := .cells #[.slice (some ⟨go124, 0, none⟩) x257000_3.length co129, .bool t252, .string t253, .string t254] 28 (0, 0)) (by (with_reducible repeat (first|refine blk_drewN ?_ _|refine blk_drew ?_|refine blk_alloc ?_ _)); exact BK256.out) hg (Kd.R_ne HO_257000.out BK256.out (by decide))); have n6_ := Aside0.mk (blk_grown (g := gb264) (o := .cells #[u265000, .bool t260, .string t261, .string t262] 28 (0, 0)) (by (with_reducible repeat (first|refine blk_drewN ?_ _|refine blk_drew ?_|refine blk_alloc ?_ _)); exact BK264.out) hg (Kd.R_ne HO_257000.out BK264.out (by decide))); have n7_ := Aside0.mk (blk_grown (g := gb272) (o := .cells #[u273000, .bool t268, .string t269, .string t270] 28 (0, 0)) (by (with_reducible repeat (first|refine blk_drewN ?_ _|refine blk_drew ?_|refine blk_alloc ?_ _)); exact BK272.out) hg (Kd.R_ne HO_257000.out BK272.out (by decide))); have n8_ := Aside0.mk (blk_grown (g := gb280) (o := .cells #[u281000, .bool t276, .string t277, .string t278] 28 (0, 0)) (by (with_reducible repeat (first|refine blk_drewN ?_ _|refine blk_drew ?_|refine blk_alloc ?_ _)); exact BK280.out) hg (Kd.R_ne HO_257000.out BK280.out (by decide))); have n9_ := Aside0.mk ((by rw [hw]; exact below_set (HB.out) GB124.out : Below w.heap.size w w131)); clear HO_13; clear HO_257000; clear HO_265000; clear HO_273000; clear HO_281000; clear BK256; clear BK264; clear BK272; clear BK280; clear HB; have HO_13 := n0_; have HO_257000 := n1_; have HO_265000 := n2_; have HO_273000 := n3_; have HO_281000 := n4_; have BK256 := n5_; have BK264 := n6_; have BK272 := n7_; have BK280 := n8_; have HB := n9_; clear n0_ n1_ n2_ n3_ n4_ n5_ n6_ n7_ n8_ n9_; clear hg hw hp_))
           go_roundg k3
           case measure => have := HJ6.out; have := HJ19.out; have := HK3.out; omega
           case rel => exact ⟨(wrap64 (x22_3 + 1)), (y286), (x265000_3), (x273000_3), (x281000_3), (.slice (some ⟨go124, 0, none⟩) x257000_3.length co129), (u265000), (u273000), (u281000), (by first|rfl|(simp; done)|(simp [*]; done)), H', ⟨by have := HJ6.out; have := HJ19.out; have := HK3.out; omega⟩, ⟨by (with_reducible repeat (first|apply Kd.S_alloc|apply Kd.S_drewN|apply Kd.S_drew)); exact HO_13.out⟩, ⟨by (with_reducible repeat (first|apply Kd.R_alloc|apply Kd.R_drewN|apply Kd.R_drew)); exact HO_257000.out⟩, ⟨by (with_reducible repeat (first|apply Kd.R_alloc|apply Kd.R_drewN|apply Kd.R_drew)); exact Kd.R_mono HO_265000.out (fun _ hk => ⟨hk.2, ⟨hk.1.1, hk.1.2⟩⟩)⟩, ⟨by (with_reducible repeat (first|apply Kd.R_alloc|apply Kd.R_drewN|apply Kd.R_drew)); exact Kd.R_mono HO_273000.out (fun _ hk => ⟨hk.2, ⟨hk.1.1, hk.1.2⟩⟩)⟩, ⟨by (with_reducible repeat (first|apply Kd.R_alloc|apply Kd.R_drewN|apply Kd.R_drew)); exact Kd.R_mono HO_281000.out (fun _ hk => ⟨hk.2, ⟨hk.1.1, hk.1.2⟩⟩)⟩, ⟨by (with_reducible repeat (first|refine blk_drewN ?_ _|refine blk_drew ?_|refine blk_alloc ?_ _)); exact BK256.out⟩, ⟨by (with_reducible repeat (first|refine blk_drewN ?_ _|refine blk_drew ?_|refine blk_alloc ?_ _)); exact BK264.out⟩, ⟨by (with_reducible repeat (first|refine blk_drewN ?_ _|refine blk_drew ?_|refine blk_alloc ?_ _)); exact BK272.out⟩, ⟨by (with_reducible repeat (first|refine blk_drewN ?_ _|refine blk_drew ?_|refine blk_alloc ?_ _)); exact BK280.out⟩, ⟨by repeat (first|(with_reducible first|exact HB.out|apply below_alloc|apply pw_below_drewN|apply below_drew1|refine below_set ?_ GE256.out|refine below_set ?_ GE264.out|refine below_set ?_ GE272.out|refine below_set ?_ GE280.out)|exact HB.out)⟩⟩
          ·rw [if_neg c123] at H
           exact absurd H (by simp)
         ·rw [if_neg c122] at H
          have c122b0 : decide (x22_3 < (x257000_3.length : Int)) = false := decide_eq_false c122
          clear c122
          replace H := Option.bind_eq_some_iff.mp H
          obtain ⟨t287, A1320, H⟩ := H
          replace H : (if t287 = true then ((stowagekit_SameEntries.f k3 t246 l0).bind fun t288 => (if t288 = true then ((stowagelaw20_awake.f k3).bind fun t289 => (some t289)) else (some false))) else (some false)) = some r := H
          have A132 := Aside0.mk A1320
          clear A1320
          by_cases c133 : t287 = true
          ·subst c133
           have H1 : ((stowagekit_SameEntries.f k3 t246 l0).bind fun t288 => (if t288 = true then ((stowagelaw20_awake.f k3).bind fun t289 => (some t289)) else (some false))) = some r := by rw [if_pos rfl] at H; exact H
           clear H
           have H := H1
           clear H1
           replace H := Option.bind_eq_some_iff.mp H
           obtain ⟨t288, A1340, H⟩ := H
           replace H : (if t288 = true then ((stowagelaw20_awake.f k3).bind fun t289 => (some t289)) else (some false)) = some r := H
           have A134 := Aside0.mk A1340
           clear A1340
           by_cases c135 : t288 = true
           ·subst c135
            have H1 : ((stowagelaw20_awake.f k3).bind fun t289 => (some t289)) = some r := by rw [if_pos rfl] at H; exact H
            clear H
            have H := H1
            clear H1
            replace H := Option.bind_eq_some_iff.mp H
            obtain ⟨t289, A1360, H⟩ := H
            replace H : (some t289) = some r := H
            have A136 := Aside0.mk A1360
            clear A1360
            obtain rfl := Option.some.inj H
            have hnb137 := NB256_264.out
            have hnc137 := NB264_256.out
            have hnb138 := NB256_272.out
            have hnc138 := NB272_256.out
            have hnb139 := NB256_280.out
            have hnc139 := NB280_256.out
            have hcz140_0 : wr.cell? ⟨gb256, 0, none⟩ = some (u257000) := (blk_cell BK256.out 0).trans rfl
            have hcz140_1 : wr.cell? ⟨gb256, 1, none⟩ = some (.bool t252) := (blk_cell BK256.out 1).trans rfl
            have hcz140_2 : wr.cell? ⟨gb256, 2, none⟩ = some (.string t253) := (blk_cell BK256.out 2).trans rfl
            have hcz140_3 : wr.cell? ⟨gb256, 3, none⟩ = some (.string t254) := (blk_cell BK256.out 3).trans rfl
            have hfz140_0 := blk_frozen BK256.out 0
            have hfz140_1 := blk_frozen BK256.out 1
            have hfz140_2 := blk_frozen BK256.out 2
            have hfz140_3 := blk_frozen BK256.out 3
            obtain ⟨Ao141, co141, eo141⟩ := Kd.R_slice HO_257000.out
            subst eo141
            have hnb142 := NB272_264.out
            have hnc142 := NB264_272.out
            have hnb143 := NB272_280.out
            have hnc143 := NB280_272.out
            have hcz144_0 : wr.cell? ⟨gb272, 0, none⟩ = some (u273000) := (blk_cell BK272.out 0).trans rfl
            have hcz144_1 : wr.cell? ⟨gb272, 1, none⟩ = some (.bool t268) := (blk_cell BK272.out 1).trans rfl
            have hcz144_2 : wr.cell? ⟨gb272, 2, none⟩ = some (.string t269) := (blk_cell BK272.out 2).trans rfl
            have hcz144_3 : wr.cell? ⟨gb272, 3, none⟩ = some (.string t270) := (blk_cell BK272.out 3).trans rfl
            have hfz144_0 := blk_frozen BK272.out 0
            have hfz144_1 := blk_frozen BK272.out 1
            have hfz144_2 := blk_frozen BK272.out 2
            have hfz144_3 := blk_frozen BK272.out 3
            have hnb145 := NB280_264.out
            have hnc145 := NB264_280.out
            have hcz146_0 : wr.cell? ⟨gb280, 0, none⟩ = some (u281000) := (blk_cell BK280.out 0).trans rfl
            have hcz146_1 : wr.cell? ⟨gb280, 1, none⟩ = some (.bool t276) := (blk_cell BK280.out 1).trans rfl
            have hcz146_2 : wr.cell? ⟨gb280, 2, none⟩ = some (.string t277) := (blk_cell BK280.out 2).trans rfl
            have hcz146_3 : wr.cell? ⟨gb280, 3, none⟩ = some (.string t278) := (blk_cell BK280.out 3).trans rfl
            have hfz146_0 := blk_frozen BK280.out 0
            have hfz146_1 := blk_frozen BK280.out 1
            have hfz146_2 := blk_frozen BK280.out 2
            have hfz146_3 := blk_frozen BK280.out 3
            obtain ⟨Ao147, co147, eo147⟩ := Kd.R_slice HO_273000.out
            subst eo147
            obtain ⟨Ao148, co148, eo148⟩ := Kd.R_slice HO_281000.out
            subst eo148
            go_wp2_with (first|((with_reducible refine gate_callee (f := 15) rfl ?_); refine goesL_ (some 120) rfl rfl Try.func15 (by kernel_rfl) rfl #[.agg #[.slice Ao147 x273000_3.length co147, .bool t268, .string t269, .string t270], .agg #[.slice Ao148 x281000_3.length co148, .bool t276, .string t277, .string t278]] rfl (by (try simp only [List.map_toArray, List.map_cons, List.map_nil]); first|done|rfl|(simp only [List.length_drop, List.length_take]; rfl)) ?_; (with_reducible refine (stowagekit_SamePage.calls k3 _ _ x273000_3 t268 t269 t270 _ _ x281000_3 t276 t277 t278 true _ ?side1 ?side2 ?side3 ?side4 A132.out).mono ?_); (case side1 => repeat (first|exact (Kd.R_reads' HO_273000.out).2.2|(with_reducible refine Kd.C_alloc ?_ _)|(with_reducible refine Kd.C_drewN ?_ _)|(with_reducible refine Kd.C_drew ?_))); (case side2 => exact (Kd.R_reads' HO_273000.out).2.1); (case side3 => repeat (first|exact (Kd.R_reads' HO_281000.out).2.2|(with_reducible refine Kd.C_alloc ?_ _)|(with_reducible refine Kd.C_drewN ?_ _)|(with_reducible refine Kd.C_drew ?_))); (case side4 => exact (Kd.R_reads' HO_281000.out).2.1); rintro e w149 ⟨rfl, hb⟩; refine ⟨_, rfl, ?_⟩; have n0_ := Aside0.mk (Kd.S_below (by (with_reducible repeat (first|apply Kd.S_alloc|apply Kd.S_drewN|apply Kd.S_drew)); exact HO_13.out) hb); have n1_ := Aside0.mk (Kd.R_below (by (with_reducible repeat (first|apply Kd.R_alloc|apply Kd.R_drewN|apply Kd.R_drew)); exact HO_257000.out) hb); have n2_ := Aside0.mk (Kd.R_below (by (with_reducible repeat (first|apply Kd.R_alloc|apply Kd.R_drewN|apply Kd.R_drew)); exact HO_265000.out) hb); have n3_ := Aside0.mk (Kd.R_below (by (with_reducible repeat (first|apply Kd.R_alloc|apply Kd.R_drewN|apply Kd.R_drew)); exact HO_273000.out) hb); have n4_ := Aside0.mk (Kd.R_below (by (with_reducible repeat (first|apply Kd.R_alloc|apply Kd.R_drewN|apply Kd.R_drew)); exact HO_281000.out) hb); have n5_ := Aside0.mk (blk_below (g := gb256) (o := .cells #[.slice Ao141 x257000_3.length co141, .bool t252, .string t253, .string t254] 28 (0, 0)) (by (with_reducible repeat (first|refine blk_drewN ?_ _|refine blk_drew ?_|refine blk_alloc ?_ _)); exact BK256.out) hb); have n6_ := Aside0.mk (blk_below (g := gb264) (o := .cells #[u265000, .bool t260, .string t261, .string t262] 28 (0, 0)) (by (with_reducible repeat (first|refine blk_drewN ?_ _|refine blk_drew ?_|refine blk_alloc ?_ _)); exact BK264.out) hb); have n7_ := Aside0.mk (blk_below (g := gb272) (o := .cells #[.slice Ao147 x273000_3.length co147, .bool t268, .string t269, .string t270] 28 (0, 0)) (by (with_reducible repeat (first|refine blk_drewN ?_ _|refine blk_drew ?_|refine blk_alloc ?_ _)); exact BK272.out) hb); have n8_ := Aside0.mk (blk_below (g := gb280) (o := .cells #[.slice Ao148 x281000_3.length co148, .bool t276, .string t277, .string t278] 28 (0, 0)) (by (with_reducible repeat (first|refine blk_drewN ?_ _|refine blk_drew ?_|refine blk_alloc ?_ _)); exact BK280.out) hb); have n9_ := Aside0.mk (below_step (by repeat (first|(with_reducible first|exact HB.out|apply below_alloc|apply pw_below_drewN|apply below_drew1|refine below_set ?_ GE256.out|refine below_set ?_ GE264.out|refine below_set ?_ GE272.out|refine below_set ?_ GE280.out)|exact HB.out)) hb); clear HO_13; clear HO_257000; clear HO_265000; clear HO_273000; clear HO_281000; clear BK256; clear BK264; clear BK272; clear BK280; clear HB; have HO_13 := n0_; have HO_257000 := n1_; have HO_265000 := n2_; have HO_273000 := n3_; have HO_281000 := n4_; have BK256 := n5_; have BK264 := n6_; have BK272 := n7_; have BK280 := n8_; have HB := n9_; clear n0_ n1_ n2_ n3_ n4_ n5_ n6_ n7_ n8_ n9_; (try clear hb); (try clear hb2); (try clear hk); (try clear hi))|(go_at_call 18; (with_reducible refine (stowagekit_SameEntries.calls k3 _ _ t246 _ _ l0 true _ ?side1 ?side2 ?side3 ?side4 A134.out).mono ?_); (case side1 => repeat (first|exact (Kd.S_reads' HO_13.out).2.2|(with_reducible refine Kd.C_alloc ?_ _)|(with_reducible refine Kd.C_drewN ?_ _)|(with_reducible refine Kd.C_drew ?_))); (case side2 => exact (Kd.S_reads' HO_13.out).2.1); (case side3 => repeat (first|exact (Kd.C_below HR0.out HB.out)|(with_reducible refine Kd.C_alloc ?_ _)|(with_reducible refine Kd.C_drewN ?_ _)|(with_reducible refine Kd.C_drew ?_))); (case side4 => exact HC0.out); rintro e w' ⟨rfl, ⟨nd, rfl⟩⟩)|(go_at_call 19; (with_reducible refine (stowagelaw20_awake.calls k3  t289 _ ?side1 A136.out).mono ?_); (case side1 => first|exact HG.out|exact GM.below (by repeat (first|(with_reducible first|exact HB.out|apply below_alloc|apply pw_below_drewN|apply below_drew1|refine below_set ?_ GE256.out|refine below_set ?_ GE264.out|refine below_set ?_ GE272.out|refine below_set ?_ GE280.out)|exact HB.out)) HG.out|(repeat (first|exact HG.out|apply GM.drewN|apply GM.drew))); rintro e w150 ⟨rfl, hb⟩; have n0_ := Aside0.mk (Kd.S_below (by (with_reducible repeat (first|apply Kd.S_alloc|apply Kd.S_drewN|apply Kd.S_drew)); exact HO_13.out) hb); have n1_ := Aside0.mk (Kd.R_below (by (with_reducible repeat (first|apply Kd.R_alloc|apply Kd.R_drewN|apply Kd.R_drew)); exact HO_257000.out) hb); have n2_ := Aside0.mk (Kd.R_below (by (with_reducible repeat (first|apply Kd.R_alloc|apply Kd.R_drewN|apply Kd.R_drew)); exact HO_265000.out) hb); have n3_ := Aside0.mk (Kd.R_below (by (with_reducible repeat (first|apply Kd.R_alloc|apply Kd.R_drewN|apply Kd.R_drew)); exact HO_273000.out) hb); have n4_ := Aside0.mk (Kd.R_below (by (with_reducible repeat (first|apply Kd.R_alloc|apply Kd.R_drewN|apply Kd.R_drew)); exact HO_281000.out) hb); have n5_ := Aside0.mk (blk_below (g := gb256) (o := .cells #[.slice Ao141 x257000_3.length co141, .bool t252, .string t253, .string t254] 28 (0, 0)) (by (with_reducible repeat (first|refine blk_drewN ?_ _|refine blk_drew ?_|refine blk_alloc ?_ _)); exact BK256.out) hb); have n6_ := Aside0.mk (blk_below (g := gb264) (o := .cells #[u265000, .bool t260, .string t261, .string t262] 28 (0, 0)) (by (with_reducible repeat (first|refine blk_drewN ?_ _|refine blk_drew ?_|refine blk_alloc ?_ _)); exact BK264.out) hb); have n7_ := Aside0.mk (blk_below (g := gb272) (o := .cells #[.slice Ao147 x273000_3.length co147, .bool t268, .string t269, .string t270] 28 (0, 0)) (by (with_reducible repeat (first|refine blk_drewN ?_ _|refine blk_drew ?_|refine blk_alloc ?_ _)); exact BK272.out) hb); have n8_ := Aside0.mk (blk_below (g := gb280) (o := .cells #[.slice Ao148 x281000_3.length co148, .bool t276, .string t277, .string t278] 28 (0, 0)) (by (with_reducible repeat (first|refine blk_drewN ?_ _|refine blk_drew ?_|refine blk_alloc ?_ _)); exact BK280.out) hb); have n9_ := Aside0.mk (below_step (by repeat (first|(with_reducible first|exact HB.out|apply below_alloc|apply pw_below_drewN|apply below_drew1|refine below_set ?_ GE256.out|refine below_set ?_ GE264.out|refine below_set ?_ GE272.out|refine below_set ?_ GE280.out)|exact HB.out)) hb); clear HO_13; clear HO_257000; clear HO_265000; clear HO_273000; clear HO_281000; clear BK256; clear BK264; clear BK272; clear BK280; clear HB; have HO_13 := n0_; have HO_257000 := n1_; have HO_265000 := n2_; have HO_273000 := n3_; have HO_281000 := n4_; have BK256 := n5_; have BK264 := n6_; have BK272 := n7_; have BK280 := n8_; have HB := n9_; clear n0_ n1_ n2_ n3_ n4_ n5_ n6_ n7_ n8_ n9_; (try clear hb); (try clear hb2); (try clear hk); (try clear hi)))
            go_ret
            exact ⟨by first|rfl|(simp [errW_none, errW_some] <;> rfl)|(simp [*, errW_none, errW_some] <;> rfl), by repeat (first|(with_reducible first|exact HB.out|apply below_alloc|apply pw_below_drewN|apply below_drew1|refine below_set ?_ GE256.out|refine below_set ?_ GE264.out|refine below_set ?_ GE272.out|refine below_set ?_ GE280.out)|exact HB.out)⟩
           ·replace c135 := Bool.eq_false_iff.mpr c135
            subst c135
            have H1 : (some false) = some r := by rw [if_neg (show ¬ (false = true) by decide)] at H; exact H
            clear H
            have H := H1
            clear H1
            obtain rfl := Option.some.inj H
            have hnb151 := NB256_264.out
            have hnc151 := NB264_256.out
            have hnb152 := NB256_272.out
            have hnc152 := NB272_256.out
            have hnb153 := NB256_280.out
            have hnc153 := NB280_256.out
            have hcz154_0 : wr.cell? ⟨gb256, 0, none⟩ = some (u257000) := (blk_cell BK256.out 0).trans rfl
            have hcz154_1 : wr.cell? ⟨gb256, 1, none⟩ = some (.bool t252) := (blk_cell BK256.out 1).trans rfl
            have hcz154_2 : wr.cell? ⟨gb256, 2, none⟩ = some (.string t253) := (blk_cell BK256.out 2).trans rfl
            have hcz154_3 : wr.cell? ⟨gb256, 3, none⟩ = some (.string t254) := (blk_cell BK256.out 3).trans rfl
            have hfz154_0 := blk_frozen BK256.out 0
            have hfz154_1 := blk_frozen BK256.out 1
            have hfz154_2 := blk_frozen BK256.out 2
            have hfz154_3 := blk_frozen BK256.out 3
            obtain ⟨Ao155, co155, eo155⟩ := Kd.R_slice HO_257000.out
            subst eo155
            have hnb156 := NB272_264.out
            have hnc156 := NB264_272.out
            have hnb157 := NB272_280.out
            have hnc157 := NB280_272.out
            have hcz158_0 : wr.cell? ⟨gb272, 0, none⟩ = some (u273000) := (blk_cell BK272.out 0).trans rfl
            have hcz158_1 : wr.cell? ⟨gb272, 1, none⟩ = some (.bool t268) := (blk_cell BK272.out 1).trans rfl
            have hcz158_2 : wr.cell? ⟨gb272, 2, none⟩ = some (.string t269) := (blk_cell BK272.out 2).trans rfl
            have hcz158_3 : wr.cell? ⟨gb272, 3, none⟩ = some (.string t270) := (blk_cell BK272.out 3).trans rfl
            have hfz158_0 := blk_frozen BK272.out 0
            have hfz158_1 := blk_frozen BK272.out 1
            have hfz158_2 := blk_frozen BK272.out 2
            have hfz158_3 := blk_frozen BK272.out 3
            have hnb159 := NB280_264.out
            have hnc159 := NB264_280.out
            have hcz160_0 : wr.cell? ⟨gb280, 0, none⟩ = some (u281000) := (blk_cell BK280.out 0).trans rfl
            have hcz160_1 : wr.cell? ⟨gb280, 1, none⟩ = some (.bool t276) := (blk_cell BK280.out 1).trans rfl
            have hcz160_2 : wr.cell? ⟨gb280, 2, none⟩ = some (.string t277) := (blk_cell BK280.out 2).trans rfl
            have hcz160_3 : wr.cell? ⟨gb280, 3, none⟩ = some (.string t278) := (blk_cell BK280.out 3).trans rfl
            have hfz160_0 := blk_frozen BK280.out 0
            have hfz160_1 := blk_frozen BK280.out 1
            have hfz160_2 := blk_frozen BK280.out 2
            have hfz160_3 := blk_frozen BK280.out 3
            obtain ⟨Ao161, co161, eo161⟩ := Kd.R_slice HO_273000.out
            subst eo161
            obtain ⟨Ao162, co162, eo162⟩ := Kd.R_slice HO_281000.out
            subst eo162
            go_wp2_with (first|((with_reducible refine gate_callee (f := 15) rfl ?_); refine goesL_ (some 120) rfl rfl Try.func15 (by kernel_rfl) rfl #[.agg #[.slice Ao161 x273000_3.length co161, .bool t268, .string t269, .string t270], .agg #[.slice Ao162 x281000_3.length co162, .bool t276, .string t277, .string t278]] rfl (by (try simp only [List.map_toArray, List.map_cons, List.map_nil]); first|done|rfl|(simp only [List.length_drop, List.length_take]; rfl)) ?_; (with_reducible refine (stowagekit_SamePage.calls k3 _ _ x273000_3 t268 t269 t270 _ _ x281000_3 t276 t277 t278 true _ ?side1 ?side2 ?side3 ?side4 A132.out).mono ?_); (case side1 => repeat (first|exact (Kd.R_reads' HO_273000.out).2.2|(with_reducible refine Kd.C_alloc ?_ _)|(with_reducible refine Kd.C_drewN ?_ _)|(with_reducible refine Kd.C_drew ?_))); (case side2 => exact (Kd.R_reads' HO_273000.out).2.1); (case side3 => repeat (first|exact (Kd.R_reads' HO_281000.out).2.2|(with_reducible refine Kd.C_alloc ?_ _)|(with_reducible refine Kd.C_drewN ?_ _)|(with_reducible refine Kd.C_drew ?_))); (case side4 => exact (Kd.R_reads' HO_281000.out).2.1); rintro e w163 ⟨rfl, hb⟩; refine ⟨_, rfl, ?_⟩; have n0_ := Aside0.mk (Kd.S_below (by (with_reducible repeat (first|apply Kd.S_alloc|apply Kd.S_drewN|apply Kd.S_drew)); exact HO_13.out) hb); have n1_ := Aside0.mk (Kd.R_below (by (with_reducible repeat (first|apply Kd.R_alloc|apply Kd.R_drewN|apply Kd.R_drew)); exact HO_257000.out) hb); have n2_ := Aside0.mk (Kd.R_below (by (with_reducible repeat (first|apply Kd.R_alloc|apply Kd.R_drewN|apply Kd.R_drew)); exact HO_265000.out) hb); have n3_ := Aside0.mk (Kd.R_below (by (with_reducible repeat (first|apply Kd.R_alloc|apply Kd.R_drewN|apply Kd.R_drew)); exact HO_273000.out) hb); have n4_ := Aside0.mk (Kd.R_below (by (with_reducible repeat (first|apply Kd.R_alloc|apply Kd.R_drewN|apply Kd.R_drew)); exact HO_281000.out) hb); have n5_ := Aside0.mk (blk_below (g := gb256) (o := .cells #[.slice Ao155 x257000_3.length co155, .bool t252, .string t253, .string t254] 28 (0, 0)) (by (with_reducible repeat (first|refine blk_drewN ?_ _|refine blk_drew ?_|refine blk_alloc ?_ _)); exact BK256.out) hb); have n6_ := Aside0.mk (blk_below (g := gb264) (o := .cells #[u265000, .bool t260, .string t261, .string t262] 28 (0, 0)) (by (with_reducible repeat (first|refine blk_drewN ?_ _|refine blk_drew ?_|refine blk_alloc ?_ _)); exact BK264.out) hb); have n7_ := Aside0.mk (blk_below (g := gb272) (o := .cells #[.slice Ao161 x273000_3.length co161, .bool t268, .string t269, .string t270] 28 (0, 0)) (by (with_reducible repeat (first|refine blk_drewN ?_ _|refine blk_drew ?_|refine blk_alloc ?_ _)); exact BK272.out) hb); have n8_ := Aside0.mk (blk_below (g := gb280) (o := .cells #[.slice Ao162 x281000_3.length co162, .bool t276, .string t277, .string t278] 28 (0, 0)) (by (with_reducible repeat (first|refine blk_drewN ?_ _|refine blk_drew ?_|refine blk_alloc ?_ _)); exact BK280.out) hb); have n9_ := Aside0.mk (below_step (by repeat (first|(with_reducible first|exact HB.out|apply below_alloc|apply pw_below_drewN|apply below_drew1|refine below_set ?_ GE256.out|refine below_set ?_ GE264.out|refine below_set ?_ GE272.out|refine below_set ?_ GE280.out)|exact HB.out)) hb); clear HO_13; clear HO_257000; clear HO_265000; clear HO_273000; clear HO_281000; clear BK256; clear BK264; clear BK272; clear BK280; clear HB; have HO_13 := n0_; have HO_257000 := n1_; have HO_265000 := n2_; have HO_273000 := n3_; have HO_281000 := n4_; have BK256 := n5_; have BK264 := n6_; have BK272 := n7_; have BK280 := n8_; have HB := n9_; clear n0_ n1_ n2_ n3_ n4_ n5_ n6_ n7_ n8_ n9_; (try clear hb); (try clear hb2); (try clear hk); (try clear hi))|(go_at_call 18; (with_reducible refine (stowagekit_SameEntries.calls k3 _ _ t246 _ _ l0 false _ ?side1 ?side2 ?side3 ?side4 A134.out).mono ?_); (case side1 => repeat (first|exact (Kd.S_reads' HO_13.out).2.2|(with_reducible refine Kd.C_alloc ?_ _)|(with_reducible refine Kd.C_drewN ?_ _)|(with_reducible refine Kd.C_drew ?_))); (case side2 => exact (Kd.S_reads' HO_13.out).2.1); (case side3 => repeat (first|exact (Kd.C_below HR0.out HB.out)|(with_reducible refine Kd.C_alloc ?_ _)|(with_reducible refine Kd.C_drewN ?_ _)|(with_reducible refine Kd.C_drew ?_))); (case side4 => exact HC0.out); rintro e w' ⟨rfl, ⟨nd, rfl⟩⟩))
            go_ret
            exact ⟨by first|rfl|(simp [errW_none, errW_some] <;> rfl)|(simp [*, errW_none, errW_some] <;> rfl), by repeat (first|(with_reducible first|exact HB.out|apply below_alloc|apply pw_below_drewN|apply below_drew1|refine below_set ?_ GE256.out|refine below_set ?_ GE264.out|refine below_set ?_ GE272.out|refine below_set ?_ GE280.out)|exact HB.out)⟩
          ·replace c133 := Bool.eq_false_iff.mpr c133
           subst c133
           have H1 : (some false) = some r := by rw [if_neg (show ¬ (false = true) by decide)] at H; exact H
           clear H
           have H := H1
           clear H1
           obtain rfl := Option.some.inj H
           have hnb164 := NB256_264.out
           have hnc164 := NB264_256.out
           have hnb165 := NB256_272.out
           have hnc165 := NB272_256.out
           have hnb166 := NB256_280.out
           have hnc166 := NB280_256.out
           have hcz167_0 : wr.cell? ⟨gb256, 0, none⟩ = some (u257000) := (blk_cell BK256.out 0).trans rfl
           have hcz167_1 : wr.cell? ⟨gb256, 1, none⟩ = some (.bool t252) := (blk_cell BK256.out 1).trans rfl
           have hcz167_2 : wr.cell? ⟨gb256, 2, none⟩ = some (.string t253) := (blk_cell BK256.out 2).trans rfl
           have hcz167_3 : wr.cell? ⟨gb256, 3, none⟩ = some (.string t254) := (blk_cell BK256.out 3).trans rfl
           have hfz167_0 := blk_frozen BK256.out 0
           have hfz167_1 := blk_frozen BK256.out 1
           have hfz167_2 := blk_frozen BK256.out 2
           have hfz167_3 := blk_frozen BK256.out 3
           obtain ⟨Ao168, co168, eo168⟩ := Kd.R_slice HO_257000.out
           subst eo168
           have hnb169 := NB272_264.out
           have hnc169 := NB264_272.out
           have hnb170 := NB272_280.out
           have hnc170 := NB280_272.out
           have hcz171_0 : wr.cell? ⟨gb272, 0, none⟩ = some (u273000) := (blk_cell BK272.out 0).trans rfl
           have hcz171_1 : wr.cell? ⟨gb272, 1, none⟩ = some (.bool t268) := (blk_cell BK272.out 1).trans rfl
           have hcz171_2 : wr.cell? ⟨gb272, 2, none⟩ = some (.string t269) := (blk_cell BK272.out 2).trans rfl
           have hcz171_3 : wr.cell? ⟨gb272, 3, none⟩ = some (.string t270) := (blk_cell BK272.out 3).trans rfl
           have hfz171_0 := blk_frozen BK272.out 0
           have hfz171_1 := blk_frozen BK272.out 1
           have hfz171_2 := blk_frozen BK272.out 2
           have hfz171_3 := blk_frozen BK272.out 3
           have hnb172 := NB280_264.out
           have hnc172 := NB264_280.out
           have hcz173_0 : wr.cell? ⟨gb280, 0, none⟩ = some (u281000) := (blk_cell BK280.out 0).trans rfl
           have hcz173_1 : wr.cell? ⟨gb280, 1, none⟩ = some (.bool t276) := (blk_cell BK280.out 1).trans rfl
           have hcz173_2 : wr.cell? ⟨gb280, 2, none⟩ = some (.string t277) := (blk_cell BK280.out 2).trans rfl
           have hcz173_3 : wr.cell? ⟨gb280, 3, none⟩ = some (.string t278) := (blk_cell BK280.out 3).trans rfl
           have hfz173_0 := blk_frozen BK280.out 0
           have hfz173_1 := blk_frozen BK280.out 1
           have hfz173_2 := blk_frozen BK280.out 2
           have hfz173_3 := blk_frozen BK280.out 3
           obtain ⟨Ao174, co174, eo174⟩ := Kd.R_slice HO_273000.out
           subst eo174
           obtain ⟨Ao175, co175, eo175⟩ := Kd.R_slice HO_281000.out
           subst eo175
           go_wp2_with (first|((with_reducible refine gate_callee (f := 15) rfl ?_); refine goesL_ (some 120) rfl rfl Try.func15 (by kernel_rfl) rfl #[.agg #[.slice Ao174 x273000_3.length co174, .bool t268, .string t269, .string t270], .agg #[.slice Ao175 x281000_3.length co175, .bool t276, .string t277, .string t278]] rfl (by (try simp only [List.map_toArray, List.map_cons, List.map_nil]); first|done|rfl|(simp only [List.length_drop, List.length_take]; rfl)) ?_; (with_reducible refine (stowagekit_SamePage.calls k3 _ _ x273000_3 t268 t269 t270 _ _ x281000_3 t276 t277 t278 false _ ?side1 ?side2 ?side3 ?side4 A132.out).mono ?_); (case side1 => repeat (first|exact (Kd.R_reads' HO_273000.out).2.2|(with_reducible refine Kd.C_alloc ?_ _)|(with_reducible refine Kd.C_drewN ?_ _)|(with_reducible refine Kd.C_drew ?_))); (case side2 => exact (Kd.R_reads' HO_273000.out).2.1); (case side3 => repeat (first|exact (Kd.R_reads' HO_281000.out).2.2|(with_reducible refine Kd.C_alloc ?_ _)|(with_reducible refine Kd.C_drewN ?_ _)|(with_reducible refine Kd.C_drew ?_))); (case side4 => exact (Kd.R_reads' HO_281000.out).2.1); rintro e w176 ⟨rfl, hb⟩; refine ⟨_, rfl, ?_⟩; have n0_ := Aside0.mk (Kd.S_below (by (with_reducible repeat (first|apply Kd.S_alloc|apply Kd.S_drewN|apply Kd.S_drew)); exact HO_13.out) hb); have n1_ := Aside0.mk (Kd.R_below (by (with_reducible repeat (first|apply Kd.R_alloc|apply Kd.R_drewN|apply Kd.R_drew)); exact HO_257000.out) hb); have n2_ := Aside0.mk (Kd.R_below (by (with_reducible repeat (first|apply Kd.R_alloc|apply Kd.R_drewN|apply Kd.R_drew)); exact HO_265000.out) hb); have n3_ := Aside0.mk (Kd.R_below (by (with_reducible repeat (first|apply Kd.R_alloc|apply Kd.R_drewN|apply Kd.R_drew)); exact HO_273000.out) hb); have n4_ := Aside0.mk (Kd.R_below (by (with_reducible repeat (first|apply Kd.R_alloc|apply Kd.R_drewN|apply Kd.R_drew)); exact HO_281000.out) hb); have n5_ := Aside0.mk (blk_below (g := gb256) (o := .cells #[.slice Ao168 x257000_3.length co168, .bool t252, .string t253, .string t254] 28 (0, 0)) (by (with_reducible repeat (first|refine blk_drewN ?_ _|refine blk_drew ?_|refine blk_alloc ?_ _)); exact BK256.out) hb); have n6_ := Aside0.mk (blk_below (g := gb264) (o := .cells #[u265000, .bool t260, .string t261, .string t262] 28 (0, 0)) (by (with_reducible repeat (first|refine blk_drewN ?_ _|refine blk_drew ?_|refine blk_alloc ?_ _)); exact BK264.out) hb); have n7_ := Aside0.mk (blk_below (g := gb272) (o := .cells #[.slice Ao174 x273000_3.length co174, .bool t268, .string t269, .string t270] 28 (0, 0)) (by (with_reducible repeat (first|refine blk_drewN ?_ _|refine blk_drew ?_|refine blk_alloc ?_ _)); exact BK272.out) hb); have n8_ := Aside0.mk (blk_below (g := gb280) (o := .cells #[.slice Ao175 x281000_3.length co175, .bool t276, .string t277, .string t278] 28 (0, 0)) (by (with_reducible repeat (first|refine blk_drewN ?_ _|refine blk_drew ?_|refine blk_alloc ?_ _)); exact BK280.out) hb); have n9_ := Aside0.mk (below_step (by repeat (first|(with_reducible first|exact HB.out|apply below_alloc|apply pw_below_drewN|apply below_drew1|refine below_set ?_ GE256.out|refine below_set ?_ GE264.out|refine below_set ?_ GE272.out|refine below_set ?_ GE280.out)|exact HB.out)) hb); clear HO_13; clear HO_257000; clear HO_265000; clear HO_273000; clear HO_281000; clear BK256; clear BK264; clear BK272; clear BK280; clear HB; have HO_13 := n0_; have HO_257000 := n1_; have HO_265000 := n2_; have HO_273000 := n3_; have HO_281000 := n4_; have BK256 := n5_; have BK264 := n6_; have BK272 := n7_; have BK280 := n8_; have HB := n9_; clear n0_ n1_ n2_ n3_ n4_ n5_ n6_ n7_ n8_ n9_; (try clear hb); (try clear hb2); (try clear hk); (try clear hi)))
           go_ret
           exact ⟨by first|rfl|(simp [errW_none, errW_some] <;> rfl)|(simp [*, errW_none, errW_some] <;> rfl), by repeat (first|(with_reducible first|exact HB.out|apply below_alloc|apply pw_below_drewN|apply below_drew1|refine below_set ?_ GE256.out|refine below_set ?_ GE264.out|refine below_set ?_ GE272.out|refine below_set ?_ GE280.out)|exact HB.out)⟩

end Go.Proofs.Ytahkcfhiecfgeaa.Pr
end
