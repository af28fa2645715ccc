/- Texts of this proof, put together: Pr20, Hq20. -/
import Derived.Test.YtahkcfhiecfgeaaProg
import Derived.Test.YtahkcfhiecfgeaaMTopSteadyn
import Derived.RegionTactic
import Derived.Test.YtahkcfhiecfgeaaMTopSteadye
section
/- Listing: the reference's 'page'. -/
namespace Go.Proofs.Ytahkcfhiecfgeaa
open Go.RowKit Go.Proofs.YtahkcfhiecfgeaaW.PrintWords
set_option linter.unusedVariables false
set_option linter.unusedSimpArgs false
def cutM (most : Nat) (li : List Itm) : Bool := decide (most < li.length)
def cutNext (most : Nat) (li : List Itm) : Bs := if cutM most li then (li.getD (most - 1) itm0).name else []
def cutVer (vers : Bool) (most : Nat) (li : List Itm) : Bs := if cutM most li && vers && !(li.getD (most - 1) itm0).common then (li.getD (most - 1) itm0).v.id else []
set_option maxRecDepth 10000 in
set_option maxHeartbeats 4000000 in
theorem refPage_any (A : Option Addr) (c : Nat) (li : List Itm) (m : Nat) (vers : Bool) (w : World) (hs : SrcR w (.slice A li.length c) 8 (li.map itmC)) (hl : li.length ≤ 1000000) (hc : li.length ≤ c) (hm : 1 ≤ m ∧ m ≤ 1000) :
    Calls Try.prog 30 #[.slice A li.length c, .int .i64 m, .bool vers] w fun e w' => e = .returned (.agg #[.slice A (min m li.length) c, .bool (cutM m li), .string (BA (cutNext m li)), .string (BA (cutVer vers m li))]) ∧ Below w.heap.size w w' := by
  obtain ⟨n1, hn1⟩ : ∃ n1, li.length = n1 := ⟨_, rfl⟩
  by_cases hle : n1 ≤ m
  · have q1 : cutM m li = false := by simp [cutM]; omega
    have q2 : cutNext m li = [] := by simp [cutNext, q1]
    have q3 : cutVer vers m li = [] := by simp [cutVer, q1]
    rw [q1, q2, q3, hn1]
    rw [show min m n1 = n1 by omega]
    have hi : (n1 : Int) ≤ (m : Int) := by omega
    clear q1 q2 q3 hs hn1 hl hc hm hle
    go_enter Try.func30, Try.ntmps30
    go_wp2
    refine bodyPost_ret (v := .agg #[.slice A n1 c, .bool false, .string ⟨#[]⟩, .string ⟨#[]⟩]) (results_cell_row rfl _ _ w.heap.size 28 _ (0, 0) _ rfl (by repeat (first | exact heap_alloc_new w _ | (with_reducible first | refine blk_drewN ?_ _ | refine blk_drew ?_ | refine blk_alloc ?_ _))) Try.underlying28 rfl (by kernel_rfl)) rfl ?_
    exact ⟨rfl, (Below.refl _ w).alloc (Nat.le_refl _) _⟩
  · obtain ⟨⟨nm, com, ⟨vid, vt, vm, vz, vet⟩, lat⟩, hx, hxd⟩ := next_elem li (m - 1) (by omega)
    have hgd : li.getD (m - 1) itm0 = ⟨nm, com, ⟨vid, vt, vm, vz, vet⟩, lat⟩ := by rw [List.getD_eq_getElem?_getD, hx]; rfl
    have q1 : cutM m li = true := by simp [cutM]; omega
    have q2 : cutNext m li = nm := by unfold cutNext; rw [if_pos q1, hgd]
    have q3 : cutVer vers m li = if vers && !com then vid else [] := by unfold cutVer; rw [hgd, q1]; simp
    rw [q1, q2, q3, hn1]
    rw [show min m n1 = m by omega]
    have hi : ¬ (n1 : Int) ≤ (m : Int) := by omega
    rw [hn1] at hs
    have hs := hs.block ((Below.refl _ w).alloc (Nat.le_refl _) (.cells #[.slice none 0 0, .bool false, .string ⟨#[]⟩, .string ⟨#[]⟩] 28))
    obtain ⟨b1, o1, rfl, _, hc1⟩ := hs.at (i := m - 1) (row := itmC ⟨nm, com, ⟨vid, vt, vm, vz, vet⟩, lat⟩) (by simp [hx])
    have d0 := hc1 0 _ rfl
    have d1 := hc1 1 _ rfl
    have d2 := hc1 2 _ rfl
    have d3 := hc1 3 _ rfl
    have d4 := hc1 4 _ rfl
    have d5 := hc1 5 _ rfl
    have d6 := hc1 6 _ rfl
    have d7 := hc1 7 _ rfl
    simp only [Nat.add_zero] at d0
    have hk2 : (0 : Int) ≤ ((m - 1 : Nat) : Int) ∧ ((m - 1 : Nat) : Int) < (n1 : Int) := by omega
    have hw1 : wrap64 ((m : Int) - 1) = ((m - 1 : Nat) : Int) := by unfold wrap64; omega
    clear q1 q2 q3 hc1 hx hxd hgd hs
    go_enter Try.func30, Try.ntmps30
    go_wp2
    go_region
    all_goals go_wp2
    all_goals (
      refine bodyPost_ret (v := .agg #[.slice (some ⟨b1, o1, none⟩) m c, .bool true, .string (BA nm), _]) (results_cell_row rfl _ _ w.heap.size 28 _ (0, 0) _ rfl (by repeat (first | exact heap_alloc_new w _ | (with_reducible first | refine blk_drewN ?_ _ | refine blk_drew ?_ | refine blk_alloc ?_ _))) Try.underlying28 rfl (by kernel_rfl)) rfl ?_
      refine ⟨by first | rfl | (simp; done), ?_⟩
      repeat (first | exact Below.refl _ _ | refine Below.alloc ?_ (by first | (simp; done) | (simp; omega)) _ | apply pw_below_drewN | apply below_drew1))
end Go.Proofs.Ytahkcfhiecfgeaa
end
section
/- stowageref20.Keys and Versions, by hand, in the print's form. -/
namespace Go.Proofs.Ytahkcfhiecfgeaa.Pr
open Go.RowKit Go.Proofs.YtahkcfhiecfgeaaW.PrintWords Go.Proofs.YtahkcfhiecfgeaaW.PrintLast Go.Proofs.YtahkcfhiecfgeaaW.PrintMore
set_option linter.unusedVariables false
set_option linter.unusedSimpArgs false
def itmL (x : SI) : Itm := ⟨x.f0.data.toList, x.f1, verL x.f2, x.f3⟩
theorem itmsAt_of_C {w : World} {A : Option Addr} {c : Nat} {xs : List SI} (h : k39.C w A xs.length xs) (hc : xs.length ≤ c) : SrcR w (.slice A xs.length c) 8 ((xs.map itmL).map itmC) := by
  obtain ⟨rows, hl, hs, hK⟩ := srcR_of_C (d := k39) (by decide) h hc
  have : rows = (xs.map itmL).map itmC := by
    apply List.ext_getElem?
    intro i
    cases hx : xs[i]? with
    | none =>
      have := List.getElem?_eq_none_iff.1 hx
      rw [List.getElem?_eq_none_iff.2 (by omega), List.getElem?_eq_none_iff.2 (by simpa using this)]
    | some x =>
      have hi : i < rows.length := by rw [hl]; exact (List.getElem?_eq_some_iff.1 hx).1
      have := k39_open (hK i x _ hx (List.getElem?_eq_getElem hi))
      rw [List.getElem?_eq_getElem hi, this]
      simp [hx, itmL, itmC, verL, ba_data]
  rw [← this]
  exact hs
theorem strs_C {W : World} {g : Nat} {l : List ByteArray} {t : TypeId} (h : W.heap[g]? = some (.cells (l.map Value.string).toArray t (0, 0))) (hl : l.length ≤ 1000) : Kd.C Kd.string W (some ⟨g, 0, none⟩) l.length l := by
  refine ⟨rfl, by omega, fun _ => ⟨_, rfl, fun j p hj => ⟨[.string p], rfl, rfl, fun i u hu => ?_⟩⟩⟩
  cases i with
  | zero =>
    simp only [List.getElem?_cons_zero, Option.some.injEq] at hu
    subst hu
    have e : (Addr.add ⟨g, 0, none⟩ (j * Kd.string.sz + 0)) = ⟨g, j, none⟩ := by
      rw [show j * Kd.string.sz + 0 = j from (by show j * 1 + 0 = j; omega)]
      unfold Addr.add
      split
      · rename_i h0
        rw [h0]
      · simp
    rw [e]
    rw [cell_of_row _ _ _ _ _ (0, 0) h]
    simp [hj]
  | succ i => simp at hu
theorem take_flat (q : List Itm) : ∀ m : Nat, (q.flatMap itmC).take (m * 8) = (q.take m).flatMap itmC := by
  induction q with
  | nil => simp
  | cons x r ih =>
    intro m
    cases m with
    | zero => simp
    | succ m =>
      rw [List.flatMap_cons, List.take_succ_cons, List.flatMap_cons, ← ih m, List.take_append, show (m + 1) * 8 = (itmC x).length + m * 8 by rw [itmC_len]; omega]
      simp [List.take_of_length_le]
def cutOut (vers : Bool) (m : Nat) (q : List Itm) : List SI × Bool × ByteArray × ByteArray × Int := ((q.take m).map itmS, cutM m q, BA (cutNext m q), BA (cutVer vers m q), 0)
def stowageref20_Keys.f (k : Nat) (l : List SE) (p d after : ByteArray) (most : Int) : Option (List SI × Bool × ByteArray × ByteArray × Int) :=
  (stowageref20_wrong.f k l [p, d, after] most).bind fun e => if e = 0 then (stowageref20_Listed.f k l p d false).bind fun li => (if li.length ≤ 1000000 ∧ 1 ≤ most ∧ most ≤ 1000 then some (cutOut false most.toNat (behindR after.data.toList (⟨#[]⟩ : ByteArray).data.toList false (li.map itmL))) else none) else some ([], false, ⟨#[]⟩, ⟨#[]⟩, e)
theorem stowageref20_Keys.mono : ∀ a0 a1 a2 a3 a4 k, LeO (stowageref20_Keys.f k a0 a1 a2 a3 a4) (stowageref20_Keys.f (k + 1) a0 a1 a2 a3 a4) := fun _ _ _ _ _ k =>
  LeO.bind (stowageref20_wrong.mono _ _ _ _) (fun _ => LeO.ite (LeO.bind (stowageref20_Listed.mono _ _ _ _ _) (fun _ => LeO.refl _)) (LeO.refl _))
def stowageref20_Versions.f (k : Nat) (l : List SE) (p d after version : ByteArray) (most : Int) : Option (List SI × Bool × ByteArray × ByteArray × Int) :=
  (stowageref20_wrong.f k l [p, d, after, version] most).bind fun e => if e = 0 then (stowageref20_Listed.f k l p d true).bind fun li => (if li.length ≤ 1000000 ∧ 1 ≤ most ∧ most ≤ 1000 then some (cutOut true most.toNat (behindR after.data.toList version.data.toList false (li.map itmL))) else none) else some ([], false, ⟨#[]⟩, ⟨#[]⟩, e)
theorem stowageref20_Versions.mono : ∀ a0 a1 a2 a3 a4 a5 k, LeO (stowageref20_Versions.f k a0 a1 a2 a3 a4 a5) (stowageref20_Versions.f (k + 1) a0 a1 a2 a3 a4 a5) := fun _ _ _ _ _ _ k =>
  LeO.bind (stowageref20_wrong.mono _ _ _ _) (fun _ => LeO.ite (LeO.bind (stowageref20_Listed.mono _ _ _ _ _) (fun _ => LeO.refl _)) (LeO.refl _))
/-- Behind, then the page, out of what was listed. -/
theorem cut_calls (A : Option Addr) (c : Nat) (li : List SI) (af ve : ByteArray) (w : World) (hR : k39.C w A li.length li) (hc : li.length ≤ c) (hl : li.length ≤ 1000000) :
    Calls Try.prog 31 #[.slice A li.length c, .string af, .string ve] w fun e w' => ∃ A1 c1, e = .returned (.slice A1 (behindR af.data.toList ve.data.toList false (li.map itmL)).length c1) ∧ w'.ownsRow w.heap.size 39 8 (.slice A1 (behindR af.data.toList ve.data.toList false (li.map itmL)).length c1) (behindR af.data.toList ve.data.toList false (li.map itmL)).length ((behindR af.data.toList ve.data.toList false (li.map itmL)).flatMap itmC) ∧ (behindR af.data.toList ve.data.toList false (li.map itmL)).length ≤ c1 ∧ Below w.heap.size w w' := by
  have h := behind_any _ (li.map itmL) af.data.toList ve.data.toList w (itmsAt_of_C hR hc) (by simpa using hl)
  rw [ba_data, ba_data] at h
  refine h.mono ?_
  rintro e w' ⟨sl, rfl, ho, hb⟩
  obtain ⟨A1, c1, rfl⟩ := Go.Proofs.Ytahkcfhiecfgeaa.own_form ho
  refine ⟨A1, c1, rfl, ho, ?_, hb⟩
  rcases ho.2 with ⟨h1, h2⟩ | ⟨g, cap, cur, h1, _, _, h4, _⟩
  · omega
  · injection h1 with _ _ h3
    omega
theorem cut_R {w : World} {base : Nat} {A : Option Addr} {c m : Nat} {q : List Itm} (h : w.ownsRow base 39 8 (.slice A q.length c) q.length (q.flatMap itmC)) : Kd.R k39 39 w base (fun _ => True) (.slice A (min m q.length) c) ((q.take m).map itmS) := by
  have h1 := own_take h (m := min m q.length) (by omega)
  rw [take_flat] at h1
  have e : (q.take (min m q.length)) = q.take m := by
    by_cases hm : m ≤ q.length
    · rw [Nat.min_eq_left hm]
    · rw [Nat.min_eq_right (by omega), List.take_of_length_le (Nat.le_refl _), List.take_of_length_le (by omega)]
  rw [e] at h1
  exact R_of_own (d := k39) itmS itmC (fun _ => rfl) _ (fun ok x => k39_mkM _ _ _ (itmS x)) (by rw [List.length_take]; exact h1)
theorem own_lower {w : World} {b b' : Nat} {e : TypeId} {size k : Nat} {v : Value} {xs : List Value} (h : w.ownsRow b' e size v k xs) (hb : b ≤ b') : w.ownsRow b e size v k xs := by
  obtain ⟨h1, h2⟩ := h
  refine ⟨h1, ?_⟩
  rcases h2 with h2 | ⟨g, cap, cur, a, b0, r⟩
  · exact .inl h2
  · exact .inr ⟨g, cap, cur, a, Nat.le_trans hb b0, r⟩
theorem behindR_len (a v : Bs) : ∀ (l : List Itm) (b : Bool), (behindR a v b l).length ≤ l.length
  | [], b => by simp [behindR]
  | x :: r, b => by
    rw [behindR_cons]
    have := behindR_len a v r (b || marksP a v x)
    rw [List.length_append]
    split
    · simp; omega
    · simp; omega
theorem own_keep {w w' : World} {b : Nat} {e : TypeId} {size k : Nat} {v : Value} {xs : List Value} (h : w.ownsRow b e size v k xs) (hb : Below w.heap.size w w') : w'.ownsRow b e size v k xs := by
  obtain ⟨h1, h2⟩ := h
  refine ⟨h1, ?_⟩
  rcases h2 with h2 | ⟨g, cap, cur, a, b0, c, r⟩
  · exact .inl h2
  · exact .inr ⟨g, cap, cur, a, b0, (hb.block _ (Array.getElem?_eq_some_iff.1 c).1).trans c, r⟩
set_option maxRecDepth 10000 in
set_option maxHeartbeats 1000000 in
theorem stowageref20_Keys.calls (k : Nat) (A0 : Option Addr) (c0 : Nat) (l0 : List SE) (a1 a2 a3 : ByteArray) (a4 : Int) (r1 : List SI) (r2 : Bool) (r3 r4 : ByteArray) (r5 : Int) (w : World) (hr0 : Kd.C k47 w A0 l0.length l0) (hc0 : l0.length ≤ c0) (h : stowageref20_Keys.f k l0 a1 a2 a3 a4 = some (r1, r2, r3, r4, r5)) :
    Calls Try.prog 12 #[.slice A0 l0.length c0, .string a1, .string a2, .string a3, .int .i64 a4] w fun e w' => ∃ v0_ : Value, e = .returned (.tuple #[.agg #[v0_, .bool r2, .string r3, .string r4], .int .i64 r5]) ∧ Kd.R k39 39 w' w.heap.size (fun _ => True) v0_ r1 ∧ Below w.heap.size w w' := by
  unfold stowageref20_Keys.f at h
  obtain ⟨ev, hev, h⟩ := Option.bind_eq_some_iff.1 h
  have hblk : Below w.heap.size w ((w.alloc (.cells #[.slice none 0 0, .bool false, .string ⟨#[]⟩, .string ⟨#[]⟩] 28)).alloc (.cells #[.string a1, .string a2, .string a3] 9)) := ((Below.refl _ w).alloc (Nat.le_refl _) _).alloc (by simp) _
  have hrow := blk_alloc (heap_alloc_new w (.cells #[.slice none 0 0, .bool false, .string ⟨#[]⟩, .string ⟨#[]⟩] 28)) (.cells #[.string a1, .string a2, .string a3] 9)
  have hW := stowageref20_wrong.calls k A0 c0 l0 (some ⟨w.heap.size + 1, 0, none⟩) 3 [a1, a2, a3] a4 ev _ (Kd.C_below hr0 hblk) hc0 (strs_C (t := 9) (by have := heap_alloc_new (w.alloc (.cells #[.slice none 0 0, .bool false, .string ⟨#[]⟩, .string ⟨#[]⟩] 28)) (.cells #[.string a1, .string a2, .string a3] 9); simpa using this) (by simp)) (by simp) hev
  by_cases he : ev = 0
  · subst he
    rw [if_pos rfl] at h
    obtain ⟨li, hli, h⟩ := Option.bind_eq_some_iff.1 h
    split at h
    · rename_i hg
      simp only [Option.some.injEq, cutOut, Prod.mk.injEq] at h
      obtain ⟨rfl, rfl, rfl, rfl, rfl⟩ := h
      have hL := fun nd => stowageref20_Listed.calls k A0 c0 l0 a1 a2 false li _ (Kd.C_below hr0 (show Below w.heap.size w (World.drewN _ nd) by apply pw_below_drewN; exact hblk)) hc0 hli
      clear hli hev hr0
      obtain ⟨m, rfl⟩ : ∃ m : Nat, a4 = m := ⟨a4.toNat, by omega⟩
      rw [Int.toNat_natCast]
      have hC := fun A c w' h1 h2 => cut_calls A c li a3 ⟨#[]⟩ w' h1 h2 hg.1
      have hql := behindR_len a3.data.toList (⟨#[]⟩ : ByteArray).data.toList (li.map itmL) false
      rw [List.length_map] at hql
      generalize behindR a3.data.toList (⟨#[]⟩ : ByteArray).data.toList false (li.map itmL) = q at hC hql ⊢
      have hql2 : q.length ≤ 1000000 := by omega
      have hm : 1 ≤ m ∧ m ≤ 1000 := by omega
      clear hql hg
      go_enter Try.func12, Try.ntmps12
      go_wp2_with first | (go_at_call 29; refine hW.mono ?_; clear hW; rintro e w2 ⟨rfl, ⟨nd, rfl⟩⟩) | (go_at_call 32; refine (hL nd).mono ?_; clear hL; rintro e w3 ⟨v0, rfl, hR, hb3⟩; obtain ⟨A1, c1, rfl⟩ := Kd.R_slice hR; obtain ⟨_, hR2, hR3⟩ := Kd.R_reads' hR; have hB := hC _ _ _ hR3 hR2; clear hC hR hR2 hR3; have hr3 := blk_below (blk_drewN hrow nd) hb3) | (go_at_call 31; refine hB.mono ?_; clear hB; rintro e w4 ⟨A2, c2, rfl, ho, hlc, hb4⟩; have hr4 := blk_below hr3 hb4; have hP := refPage_any A2 c2 q m false w4 (own_src ho) hql2 hlc hm; clear hr3) | (go_at_call 30; refine hP.mono ?_; clear hP; rintro e w5 ⟨rfl, hb5⟩; have hr5 := blk_below hr4 hb5; clear hr4) | (refine wpList_store_row rfl 28 _ _ rfl w.heap.size #[.slice A2 (min m q.length) c2, .bool (cutM m q), .string (BA (cutNext m q)), .string (BA (cutVer false m q))] rfl rfl 28 _ hr5 infoP rfl (by simp [Value.oneCell']) ?_)
      have hbD := pw_below_drewN hblk nd
      have hb35 := (hbD.trans (hb3.mono hbD.size)).trans (hb4.mono (Nat.le_trans hbD.size hb3.size))
      have hb55 := hb35.trans (hb5.mono hb35.size)
      refine bodyPost_ret (v := .tuple #[.agg #[.slice A2 (min m q.length) c2, .bool (cutM m q), .string (BA (cutNext m q)), .string (BA (cutVer false m q))], .int .i64 0]) (results_row_tmp (show Try.f12.results = #[.cell 10 28, .tmp 11] from by kernel_rfl) _ _ w.heap.size 28 #[.slice A2 (min m q.length) c2, .bool (cutM m q), .string (BA (cutNext m q)), .string (BA (cutVer false m q))] (0, 0) _ (.int .i64 0) rfl rfl (setRow_heap _ _ _ _ _ _ hr5) Try.underlying28 rfl infoP) rfl ?_
      have ho5 := own_keep ho hb5
      have ho6 := ho5.kept (grownBy_setRow w5 w.heap.size #[.slice A2 (min m q.length) c2, .bool (cutM m q), .string (BA (cutNext m q)), .string (BA (cutVer false m q))]) (.inr (row_not_row hr5 (by decide) ho5).symm)
      exact ⟨_, rfl, cut_R (own_lower ho6 (Nat.le_trans hbD.size hb3.size)), below_setRow hb55 (Nat.le_refl _) _⟩
    · cases h
  · rw [if_neg he] at h
    simp only [Option.some.injEq, Prod.mk.injEq] at h
    obtain ⟨rfl, rfl, rfl, rfl, rfl⟩ := h
    clear hev hr0
    go_enter Try.func12, Try.ntmps12
    go_wp2_with first | (go_at_call 29; refine hW.mono ?_; clear hW; rintro e w2 ⟨rfl, ⟨nd, rfl⟩⟩; have hr5 := blk_drewN hrow nd) | (refine wpList_store_row rfl 28 _ _ rfl w.heap.size #[.slice none 0 0, .bool false, .string ⟨#[]⟩, .string ⟨#[]⟩] rfl rfl 28 _ hr5 infoP rfl (by simp [Value.oneCell']) ?_)
    have hbD := pw_below_drewN hblk nd
    refine bodyPost_ret (v := .tuple #[.agg #[.slice none 0 0, .bool false, .string ⟨#[]⟩, .string ⟨#[]⟩], .int .i64 ev]) (results_row_tmp (show Try.f12.results = #[.cell 10 28, .tmp 11] from by kernel_rfl) _ _ w.heap.size 28 #[.slice none 0 0, .bool false, .string ⟨#[]⟩, .string ⟨#[]⟩] (0, 0) _ (.int .i64 ev) rfl rfl (setRow_heap _ _ _ _ _ _ hr5) Try.underlying28 rfl infoP) rfl ?_
    exact ⟨_, rfl, Kd.R_nil _ _ _ _ _, below_setRow hbD (Nat.le_refl _) _⟩
set_option maxRecDepth 10000 in
set_option maxHeartbeats 1000000 in
theorem stowageref20_Versions.calls (k : Nat) (A0 : Option Addr) (c0 : Nat) (l0 : List SE) (a1 a2 a3 ve : ByteArray) (a4 : Int) (r1 : List SI) (r2 : Bool) (r3 r4 : ByteArray) (r5 : Int) (w : World) (hr0 : Kd.C k47 w A0 l0.length l0) (hc0 : l0.length ≤ c0) (h : stowageref20_Versions.f k l0 a1 a2 a3 ve a4 = some (r1, r2, r3, r4, r5)) :
    Calls Try.prog 14 #[.slice A0 l0.length c0, .string a1, .string a2, .string a3, .string ve, .int .i64 a4] w fun e w' => ∃ v0_ : Value, e = .returned (.tuple #[.agg #[v0_, .bool r2, .string r3, .string r4], .int .i64 r5]) ∧ Kd.R k39 39 w' w.heap.size (fun _ => True) v0_ r1 ∧ Below w.heap.size w w' := by
  unfold stowageref20_Versions.f at h
  obtain ⟨ev, hev, h⟩ := Option.bind_eq_some_iff.1 h
  have hblk : Below w.heap.size w ((w.alloc (.cells #[.slice none 0 0, .bool false, .string ⟨#[]⟩, .string ⟨#[]⟩] 28)).alloc (.cells #[.string a1, .string a2, .string a3, .string ve] 9)) := ((Below.refl _ w).alloc (Nat.le_refl _) _).alloc (by simp) _
  have hrow := blk_alloc (heap_alloc_new w (.cells #[.slice none 0 0, .bool false, .string ⟨#[]⟩, .string ⟨#[]⟩] 28)) (.cells #[.string a1, .string a2, .string a3, .string ve] 9)
  have hW := stowageref20_wrong.calls k A0 c0 l0 (some ⟨w.heap.size + 1, 0, none⟩) 4 [a1, a2, a3, ve] a4 ev _ (Kd.C_below hr0 hblk) hc0 (strs_C (t := 9) (by have := heap_alloc_new (w.alloc (.cells #[.slice none 0 0, .bool false, .string ⟨#[]⟩, .string ⟨#[]⟩] 28)) (.cells #[.string a1, .string a2, .string a3, .string ve] 9); simpa using this) (by simp)) (by simp) hev
  by_cases he : ev = 0
  · subst he
    rw [if_pos rfl] at h
    obtain ⟨li, hli, h⟩ := Option.bind_eq_some_iff.1 h
    split at h
    · rename_i hg
      simp only [Option.some.injEq, cutOut, Prod.mk.injEq] at h
      obtain ⟨rfl, rfl, rfl, rfl, rfl⟩ := h
      have hL := fun nd => stowageref20_Listed.calls k A0 c0 l0 a1 a2 true li _ (Kd.C_below hr0 (show Below w.heap.size w (World.drewN _ nd) by apply pw_below_drewN; exact hblk)) hc0 hli
      clear hli hev hr0
      obtain ⟨m, rfl⟩ : ∃ m : Nat, a4 = m := ⟨a4.toNat, by omega⟩
      rw [Int.toNat_natCast]
      have hC := fun A c w' h1 h2 => cut_calls A c li a3 ve w' h1 h2 hg.1
      have hql := behindR_len a3.data.toList ve.data.toList (li.map itmL) false
      rw [List.length_map] at hql
      generalize behindR a3.data.toList ve.data.toList false (li.map itmL) = q at hC hql ⊢
      have hql2 : q.length ≤ 1000000 := by omega
      have hm : 1 ≤ m ∧ m ≤ 1000 := by omega
      clear hql hg
      go_enter Try.func14, Try.ntmps14
      go_wp2_with first | (go_at_call 29; refine hW.mono ?_; clear hW; rintro e w2 ⟨rfl, ⟨nd, rfl⟩⟩) | (go_at_call 32; refine (hL nd).mono ?_; clear hL; rintro e w3 ⟨v0, rfl, hR, hb3⟩; obtain ⟨A1, c1, rfl⟩ := Kd.R_slice hR; obtain ⟨_, hR2, hR3⟩ := Kd.R_reads' hR; have hB := hC _ _ _ hR3 hR2; clear hC hR hR2 hR3; have hr3 := blk_below (blk_drewN hrow nd) hb3) | (go_at_call 31; refine hB.mono ?_; clear hB; rintro e w4 ⟨A2, c2, rfl, ho, hlc, hb4⟩; have hr4 := blk_below hr3 hb4; have hP := refPage_any A2 c2 q m true w4 (own_src ho) hql2 hlc hm; clear hr3) | (go_at_call 30; refine hP.mono ?_; clear hP; rintro e w5 ⟨rfl, hb5⟩; have hr5 := blk_below hr4 hb5; clear hr4) | (refine wpList_store_row rfl 28 _ _ rfl w.heap.size #[.slice A2 (min m q.length) c2, .bool (cutM m q), .string (BA (cutNext m q)), .string (BA (cutVer true m q))] rfl rfl 28 _ hr5 infoP rfl (by simp [Value.oneCell']) ?_)
      have hbD := pw_below_drewN hblk nd
      have hb35 := (hbD.trans (hb3.mono hbD.size)).trans (hb4.mono (Nat.le_trans hbD.size hb3.size))
      have hb55 := hb35.trans (hb5.mono hb35.size)
      refine bodyPost_ret (v := .tuple #[.agg #[.slice A2 (min m q.length) c2, .bool (cutM m q), .string (BA (cutNext m q)), .string (BA (cutVer true m q))], .int .i64 0]) (results_row_tmp (show Try.f14.results = #[.cell 12 28, .tmp 13] from by kernel_rfl) _ _ w.heap.size 28 #[.slice A2 (min m q.length) c2, .bool (cutM m q), .string (BA (cutNext m q)), .string (BA (cutVer true m q))] (0, 0) _ (.int .i64 0) rfl rfl (setRow_heap _ _ _ _ _ _ hr5) Try.underlying28 rfl infoP) rfl ?_
      have ho5 := own_keep ho hb5
      have ho6 := ho5.kept (grownBy_setRow w5 w.heap.size #[.slice A2 (min m q.length) c2, .bool (cutM m q), .string (BA (cutNext m q)), .string (BA (cutVer true m q))]) (.inr (row_not_row hr5 (by decide) ho5).symm)
      exact ⟨_, rfl, cut_R (own_lower ho6 (Nat.le_trans hbD.size hb3.size)), below_setRow hb55 (Nat.le_refl _) _⟩
    · cases h
  · rw [if_neg he] at h
    simp only [Option.some.injEq, Prod.mk.injEq] at h
    obtain ⟨rfl, rfl, rfl, rfl, rfl⟩ := h
    clear hev hr0
    go_enter Try.func14, Try.ntmps14
    go_wp2_with first | (go_at_call 29; refine hW.mono ?_; clear hW; rintro e w2 ⟨rfl, ⟨nd, rfl⟩⟩; have hr5 := blk_drewN hrow nd) | (refine wpList_store_row rfl 28 _ _ rfl w.heap.size #[.slice none 0 0, .bool false, .string ⟨#[]⟩, .string ⟨#[]⟩] rfl rfl 28 _ hr5 infoP rfl (by simp [Value.oneCell']) ?_)
    have hbD := pw_below_drewN hblk nd
    refine bodyPost_ret (v := .tuple #[.agg #[.slice none 0 0, .bool false, .string ⟨#[]⟩, .string ⟨#[]⟩], .int .i64 ev]) (results_row_tmp (show Try.f14.results = #[.cell 12 28, .tmp 13] from by kernel_rfl) _ _ w.heap.size 28 #[.slice none 0 0, .bool false, .string ⟨#[]⟩, .string ⟨#[]⟩] (0, 0) _ (.int .i64 ev) rfl rfl (setRow_heap _ _ _ _ _ _ hr5) Try.underlying28 rfl infoP) rfl ?_
    exact ⟨_, rfl, Kd.R_nil _ _ _ _ _, below_setRow hbD (Nat.le_refl _) _⟩
end Go.Proofs.Ytahkcfhiecfgeaa.Pr
end
