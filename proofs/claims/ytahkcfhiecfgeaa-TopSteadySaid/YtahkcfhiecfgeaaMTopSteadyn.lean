/- Texts of this proof, put together: Hk20, Bh20, PrStowagetopTopSteady. -/
import Derived.Test.YtahkcfhiecfgeaaMTopSteadye
import Derived.Test.YtahkcfhiecfgeaaMTopSteadym
import Derived.Test.YtahkcfhiecfgeaaProg
import Derived.Test.YtahkcfhiecfgeaaMTopSteadyf
section
/- listing.Keys and Versions, by their contracts, in the print's form. -/
namespace Go.Proofs.Ytahkcfhiecfgeaa.Pr
open Go.RowKit Go.Proofs.YtahkcfhiecfgeaaW.PrintWords Go.Proofs.YtahkcfhiecfgeaaW.PrintLast Go.Proofs.YtahkcfhiecfgeaaW.PrintMore
set_option linter.unusedVariables false
set_option linter.unusedSimpArgs false
abbrev SV := S37
abbrev SE := S47
abbrev SI := S39
def verL (v : SV) : Ver := ⟨v.f0.data.toList, v.f1, v.f2, v.f3, v.f4.data.toList⟩
def entL (e : SE) : Ent := ⟨e.f0.data.toList, e.f1.map verL⟩
def verS (v : Ver) : SV := ⟨BA v.id, v.time, v.mark, v.size, BA v.etag⟩
def itmS (x : Itm) : SI := ⟨BA x.name, x.common, verS x.v, x.latest⟩
theorem ba_data (b : ByteArray) : BA b.data.toList = b := by cases b; rfl
/-- From the print's reads to rows of cells. -/
theorem srcR_of_C {α : Type} {d : Kd α} {w : World} {A : Option Addr} {c : Nat} {xs : List α} (hsz : 0 < d.sz) (h : d.C w A xs.length xs) (hc : xs.length ≤ c) :
    ∃ rows : List (List Value), rows.length = xs.length ∧ SrcR w (.slice A xs.length c) d.sz rows ∧ ∀ (i : Nat) x row, xs[i]? = some x → rows[i]? = some row → d.K w x row := by
  obtain ⟨_, _, hr0⟩ := h
  by_cases h0 : xs = []
  · subst h0
    exact ⟨[], rfl, .inl ⟨A, c, rfl, rfl⟩, fun i x row h => by simp at h⟩
  · have hl : 0 < xs.length := List.length_pos_iff.2 h0
    obtain ⟨ad, rfl, hr⟩ := hr0 hl
    clear hr0
    have hex : ∀ i : Fin xs.length, ∃ c, c.length = d.sz ∧ d.K w xs[i] c ∧ ∀ j u, c[j]? = some u → w.cell? (ad.add (i * d.sz + j)) = some u := fun i => hr i xs[i] (List.getElem?_eq_getElem i.2)
    have hsp : ad.spot = none := by
      obtain ⟨c0, h1, _, h3⟩ := hr 0 xs[0] (List.getElem?_eq_getElem hl)
      have := h3 0 (c0[0]'(by omega)) (List.getElem?_eq_getElem (by omega))
      rw [Nat.zero_mul] at this
      simp only [Nat.add_zero, Addr.add, if_pos] at this
      unfold World.cell? at this
      cases hs : ad.spot with
      | none => rfl
      | some s =>
        rw [hs] at this
        revert this
        split <;> simp
    obtain ⟨b, off, sp⟩ := ad
    simp only at hsp
    subst hsp
    have hlen : (List.ofFn fun i => Classical.choose (hex i)).length = xs.length := by simp
    refine ⟨List.ofFn fun i => Classical.choose (hex i), hlen, .inr ⟨b, off, c, by rw [hlen], by rw [hlen]; exact hc, fun i row hi j x hj => ?_⟩, fun i x row hx hi => ?_⟩
    · rw [List.getElem?_ofFn] at hi
      split at hi
      · rename_i hil
        cases hi
        have := (Classical.choose_spec (hex ⟨i, hil⟩)).2.2 j x hj
        rw [show off + i * d.sz + j = off + (i * d.sz + j) by omega]
        unfold Addr.add at this
        split at this
        · rename_i h0
          simp only at h0
          rw [h0]
          exact this
        · exact this
      · cases hi
    · rw [List.getElem?_ofFn] at hi
      split at hi
      · rename_i hil
        cases hi
        have := (Classical.choose_spec (hex ⟨i, hil⟩)).2.1
        rw [List.getElem?_eq_getElem hil] at hx
        cases hx
        exact this
      · cases hi
theorem zip_rows {α β γ : Type} (f : α → β → γ) (g : γ → Prop) : ∀ (l : List α) (m : List β) (n : List γ), l.length = n.length → m.length = n.length → (∀ (i : Nat) a b c, l[i]? = some a → m[i]? = some b → n[i]? = some c → c = f a b) → n = List.zipWith f l m
  | [], _, [], _, _, _ => by simp
  | a :: l, b :: m, c :: n, h1, h2, h => by
    rw [List.zipWith_cons_cons, ← h 0 a b c rfl rfl rfl, ← zip_rows f g l m n (by simpa using h1) (by simpa using h2) (fun i a b c ha hb hc => h (i + 1) a b c (by simpa using ha) (by simpa using hb) (by simpa using hc))]
  | [], _, c :: n, h1, _, _ => by simp at h1
  | a :: l, _, [], h1, _, _ => by simp at h1
  | a :: l, [], c :: n, _, h2, _ => by simp at h2
theorem versAt_of_C {w : World} {A : Option Addr} {c : Nat} {xs : List SV} (h : k37.C w A xs.length xs) (hc : xs.length ≤ c) : SrcR w (.slice A xs.length c) 5 ((xs.map verL).map verC) := by
  obtain ⟨rows, hl, hs, hK⟩ := srcR_of_C (d := k37) (by decide) h hc
  have : rows = (xs.map verL).map verC := by
    apply List.ext_getElem?
    intro i
    cases hx : xs[i]? with
    | none =>
      have := List.getElem?_eq_none_iff.1 hx
      rw [List.getElem?_eq_none_iff.2 (by omega), List.getElem?_eq_none_iff.2 (by simpa using this)]
    | some x =>
      have hi : i < rows.length := by rw [hl]; exact (List.getElem?_eq_some_iff.1 hx).1
      have := k37_open (hK i x _ hx (List.getElem?_eq_getElem hi))
      rw [List.getElem?_eq_getElem hi, this]
      simp [hx, verL, verC, ba_data]
  rw [← this]
  exact hs
theorem entsAt_of_C {w : World} {A : Option Addr} {c : Nat} {xs : List SE} (h : k47.C w A xs.length xs) (hc : xs.length ≤ c) : EntsAt w (.slice A xs.length c) (xs.map entL) := by
  obtain ⟨rows, hl, hs, hK⟩ := srcR_of_C (d := k47) (by decide) h hc
  have hv : (rows.map fun r => (r[1]?).getD .nilIface).length = (xs.map entL).length := by simp [hl]
  refine ⟨rows.map fun r => (r[1]?).getD .nilIface, hv, ?_, fun i e x he hx => ?_⟩
  · have : rows = List.zipWith (fun e x => [Value.string (BA e.key), x]) (xs.map entL) (rows.map fun r => (r[1]?).getD .nilIface) := by
      refine zip_rows _ (fun _ => True) _ _ _ (by simp [hl]) (by simp) fun i a b c ha hb hc => ?_
      rw [List.getElem?_map] at ha hb
      cases hx : xs[i]? with
      | none => rw [hx] at ha; cases ha
      | some x =>
        rw [hx] at ha
        cases ha
        rw [hc] at hb
        cases hb
        obtain ⟨A1, c1, rfl, _, _⟩ := k47_open (hK i x _ hx hc)
        simp [entL, ba_data]
    rw [← this]
    exact hs
  · rw [List.getElem?_map] at he hx
    cases hxx : xs[i]? with
    | none => rw [hxx] at he; cases he
    | some y =>
      rw [hxx] at he
      cases he
      cases hr : rows[i]? with
      | none => rw [hr] at hx; cases hx
      | some row =>
        rw [hr] at hx
        cases hx
        obtain ⟨A1, c1, rfl, h1, h2⟩ := k47_open (hK i y _ hxx hr)
        exact versAt_of_C h2 h1
def pageOut (r : Pg × Int) : List SI × Bool × ByteArray × ByteArray × Int := (r.1.items.map itmS, r.1.more, BA r.1.next, BA r.1.version, r.2)
def small (l : List SE) : Bool := decide (l.length ≤ 1000000) && l.all fun e => decide (e.f0.size ≤ 1000000) && decide (e.f1.length ≤ 1000000)
theorem small_ents {l : List SE} (h : small l = true) : (l.map entL).length ≤ 1000000 ∧ ∀ e ∈ l.map entL, e.key.length ≤ 1000000 ∧ e.vs.length ≤ 1000000 := by
  unfold small at h
  simp only [Bool.and_eq_true, decide_eq_true_eq, List.all_eq_true] at h
  refine ⟨by simpa using h.1, fun e he => ?_⟩
  obtain ⟨x, hx, rfl⟩ := List.mem_map.1 he
  have := h.2 x hx
  exact ⟨by simpa [entL] using this.1, by simpa [entL] using this.2⟩
def listing_Keys.f (l : List SE) (p d after : ByteArray) (most : Int) : Option (List SI × Bool × ByteArray × ByteArray × Int) :=
  if small l = true ∧ p.size ≤ 1000000 ∧ d.size ≤ 1000000 ∧ after.size ≤ 1000000 then some (pageOut (pageV false (l.map entL) p.data.toList d.data.toList after.data.toList [] most)) else none
def listing_Versions.f (l : List SE) (p d after version : ByteArray) (most : Int) : Option (List SI × Bool × ByteArray × ByteArray × Int) :=
  if small l = true ∧ p.size ≤ 1000000 ∧ d.size ≤ 1000000 ∧ after.size ≤ 1000000 ∧ version.size ≤ 1000000 then some (pageOut (pageV true (l.map entL) p.data.toList d.data.toList after.data.toList version.data.toList most)) else none
theorem pageAt_R {n₀ : Nat} {w : World} {pv : Value} {g : Pg} (h : PageAt n₀ w pv g) : ∃ v0_, pv = .agg #[v0_, .bool g.more, .string (BA g.next), .string (BA g.version)] ∧ Kd.R k39 39 w n₀ (fun _ => True) v0_ (g.items.map itmS) := by
  obtain ⟨sl, rfl, ho⟩ := h
  exact ⟨sl, rfl, R_of_own (d := k39) itmS itmC (fun _ => rfl) _ (fun ok x => k39_mkM _ _ _ (itmS x)) ho⟩
theorem listing_Keys.calls (A0 : Option Addr) (c0 : Nat) (l0 : List SE) (a1 a2 a3 : ByteArray) (a4 : Int) (r1 : List SI) (r2 : Bool) (r3 r4 : ByteArray) (r5 : Int) (w : World) (hG : GM w) (hr0 : Kd.C k47 w A0 l0.length l0) (hc0 : l0.length ≤ c0) (h : listing_Keys.f l0 a1 a2 a3 a4 = some (r1, r2, r3, r4, r5)) :
    Calls Try.prog 11 #[.slice A0 l0.length c0, .string a1, .string a2, .string a3, .int .i64 a4] w fun e w' => ∃ v0_ : Value, e = .returned (.tuple #[.agg #[v0_, .bool r2, .string r3, .string r4], .int .i64 r5]) ∧ Kd.R k39 39 w' w.heap.size (fun _ => True) v0_ r1 ∧ Below w.heap.size w w' := by
  unfold listing_Keys.f at h
  split at h
  · rename_i hs
    simp only [Option.some.injEq, pageOut, Prod.mk.injEq] at h
    obtain ⟨rfl, rfl, rfl, rfl, rfl⟩ := h
    refine (keys_any a1 a2 a3 a4 _ _ w (entsAt_of_C hr0 hc0) (small_ents hs.1).1 (small_ents hs.1).2 hG hs.2.1 hs.2.2.1 hs.2.2.2).mono ?_
    rintro e w' ⟨pv, rfl, hp, hb⟩
    obtain ⟨v0_, rfl, hR⟩ := pageAt_R hp
    exact ⟨v0_, rfl, hR, hb⟩
  · cases h
theorem listing_Versions.calls (A0 : Option Addr) (c0 : Nat) (l0 : List SE) (a1 a2 a3 a4 : ByteArray) (a5 : Int) (r1 : List SI) (r2 : Bool) (r3 r4 : ByteArray) (r5 : Int) (w : World) (hG : GM w) (hr0 : Kd.C k47 w A0 l0.length l0) (hc0 : l0.length ≤ c0) (h : listing_Versions.f l0 a1 a2 a3 a4 a5 = some (r1, r2, r3, r4, r5)) :
    Calls Try.prog 13 #[.slice A0 l0.length c0, .string a1, .string a2, .string a3, .string a4, .int .i64 a5] w fun e w' => ∃ v0_ : Value, e = .returned (.tuple #[.agg #[v0_, .bool r2, .string r3, .string r4], .int .i64 r5]) ∧ Kd.R k39 39 w' w.heap.size (fun _ => True) v0_ r1 ∧ Below w.heap.size w w' := by
  unfold listing_Versions.f at h
  split at h
  · rename_i hs
    simp only [Option.some.injEq, pageOut, Prod.mk.injEq] at h
    obtain ⟨rfl, rfl, rfl, rfl, rfl⟩ := h
    refine (versions_any a1 a2 a3 a4 a5 _ _ w (entsAt_of_C hr0 hc0) (small_ents hs.1).1 (small_ents hs.1).2 hG hs.2.1 hs.2.2.1 hs.2.2.2.1 hs.2.2.2.2).mono ?_
    rintro e w' ⟨pv, rfl, hp, hb⟩
    obtain ⟨v0_, rfl, hR⟩ := pageAt_R hp
    exact ⟨v0_, rfl, hR, hb⟩
  · cases h
end Go.Proofs.Ytahkcfhiecfgeaa.Pr
end
section
/- Listing: the reference's 'behind'. -/
namespace Go.Proofs.Ytahkcfhiecfgeaa
open Go.RowKit
set_option linter.unusedVariables false
set_option linter.unusedSimpArgs false
theorem behindR_cons (af ve : Bs) (met : Bool) (x : Itm) (r : List Itm) : behindR af ve met (x :: r) = (if decide (af < x.name) || (met && decide (x.name = af)) then [x] else []) ++ behindR af ve (met || marksP af ve x) r := by conv => lhs; unfold behindR
theorem own_below {n₀ : Nat} {w W w1 : World} {tmp : Obj} {e : TypeId} {size k : Nat} {v : Value} {xs : List Value} (hb : Below n₀ w W) (hn : n₀ ≤ W.heap.size) (ho : W.ownsRow n₀ e size v k xs) (hg : (W.alloc tmp).grownBy w1 v.ownBlock) : Below n₀ w w1 := by
  refine hb.trans (((Below.refl n₀ W).alloc hn tmp).grown hg (by simp; omega) fun j ej => ?_)
  rcases ho.2 with ⟨rfl, _⟩ | ⟨g, cap, cur, rfl, hgb, _, _⟩
  · simp [Value.ownBlock] at ej
  · obtain rfl : g = j := by simpa [Value.ownBlock] using ej
    exact hgb
set_option maxRecDepth 10000 in
set_option maxHeartbeats 4000000 in
theorem behind_any (a : Value) (l : List Itm) (af ve : Bs) (w : World) (hs : SrcR w a 8 (l.map itmC)) (hl : l.length ≤ 1000000) :
    Calls Try.prog 31 #[a, .string (BA af), .string (BA ve)] w fun e w' => ∃ sl, e = .returned sl ∧ w'.ownsRow w.heap.size 39 8 sl (behindR af ve false l).length ((behindR af ve false l).flatMap itmC) ∧ Below w.heap.size w w' := by
  obtain ⟨A1, c1, rfl⟩ := hs.form
  simp only [List.length_map] at hs ⊢
  have HA := Lib.hid hs
  clear hs
  obtain ⟨n1, hn1⟩ : ∃ n1, l.length = n1 := ⟨_, rfl⟩
  rw [hn1] at HA hl ⊢
  have HN1 := Lib.hid hn1
  clear hn1
  obtain ⟨i0, hi, hz0, hz1, hz2⟩ := info_parts infoI
  go_enter Try.func31, Try.ntmps31
  go_wp2_with fail
  go_loopw [7, 8, 9] (fun o m i wr => ∃ (k : Nat) (acc : List Itm) (met : Bool), k ≤ n1 ∧ acc.length ≤ k ∧ m = .bool met ∧ i = .int .i64 k ∧ wr.ownsRow w.heap.size 39 8 o acc.length (acc.flatMap itmC) ∧ Below w.heap.size w wr ∧ Hid (behindR af ve false l = acc ++ behindR af ve met (l.drop k))) (fun _ _ i _ => n1 - (intOf i).toNat)
  case atStart => exact ⟨0, [], false, Nat.zero_le _, Nat.le_refl _, rfl, rfl, World.ownsRow_nil _ _ _ _, Below.refl _ _, Lib.hid (by simp)⟩
  case round =>
    obtain ⟨k, acc, met, hk, hak, rfl, rfl, ho, hbw, H⟩ := hrel
    by_cases hlt : k < n1
    · obtain ⟨⟨nm, com, ⟨vid, vt, vm, vz, vet⟩, lat⟩, hx, hxd⟩ := next_elem l k (by rw [HN1.out]; exact hlt)
      obtain ⟨b1, o1, rfl, _, hc1⟩ := (HA.out.block hbw).at (i := k) (row := itmC ⟨nm, com, ⟨vid, vt, vm, vz, vet⟩, lat⟩) (by simp [hx])
      have d0 := hc1 0 _ rfl
      have d1 := hc1 1 _ rfl
      have d2 := hc1 2 _ rfl
      have d3 := hc1 3 _ rfl
      have d4 := hc1 4 _ rfl
      have d5 := hc1 5 _ rfl
      have d6 := hc1 6 _ rfl
      have d7 := hc1 7 _ rfl
      simp only [Nat.add_zero] at d0
      have hstep := H.out
      rw [hxd] at hstep
      rw [behindR_cons] at hstep
      have HX := Lib.hid hx
      have hk2 : (0 : Int) ≤ (k : Int) ∧ (k : Int) < (n1 : Int) := by omega
      have hbnd1 : acc.length + 1 ≤ maxLen := by unfold maxLen; omega
      have hbnd2 : (acc.length + 1) * 88 ≤ 140737488355328 := by omega
      obtain ⟨Ao, co, rfl⟩ := own_form ho
      have hszw := hbw.size
      clear hc1 hx hxd H
      rcases lt_tri af nm with hA | hA | hA
      · have hL : Op.bytesLess nm af = false := by rw [bytesLess_eq]; simp [lt_asy hA]
        have hE : (nm == af) = false := by simp [(lt_ne hA).symm]
        have hEp : ¬ nm = af := (lt_ne hA).symm
        have HS := Lib.hid (show behindR af ve false l = (acc ++ [(⟨nm, com, ⟨vid, vt, vm, vz, vet⟩, lat⟩ : Itm)]) ++ behindR af ve met (l.drop (k + 1)) by rw [hstep]; simp [hA, marksP, hEp])
        clear hstep hA
        go_wp2_with (at_builtin; go_must (refine wpList_append_own _ rfl _ _ 26 rfl w.heap.size 39 i0 _ 8 88 Try.underlying26 hi hz0 hz1 hz2 rfl (by decide) _ _ _ rfl (ho.alloc _) ⟨wr.heap.size, 0, none⟩ 1 1 [.string (BA nm), .bool com, .string (BA vid), .int .i64 vt, .bool vm, .int .i64 vz, .string (BA vet), .bool lat] rfl rfl (cells_new wr [.string (BA nm), .bool com, .string (BA vid), .int .i64 vt, .bool vm, .int .i64 vz, .string (BA vet), .bool lat] _) (itmC_one ⟨nm, com, ⟨vid, vt, vm, vz, vet⟩, lat⟩) hbnd1 hbnd2 (by simp; omega) ?_); intro v' w1 hown' hgrow _; (have hb1 := own_below hbw hbw.size ho hgrow); obtain ⟨bb, oo, hAA, _, hcx⟩ := (HA.out.block hb1).at (i := k) (row := itmC ⟨nm, com, ⟨vid, vt, vm, vz, vet⟩, lat⟩) (by simp [HX.out]); cases hAA; have e0 := hcx 0 _ rfl; have e1 := hcx 1 _ rfl; have e2 := hcx 2 _ rfl; simp only [Nat.add_zero] at e0)
        all_goals (
          go_roundw
          case rel => exact ⟨k + 1, acc ++ [(⟨nm, com, ⟨vid, vt, vm, vz, vet⟩, lat⟩ : Itm)], met, by omega, by simp; omega, rfl, by go_num, by rw [List.flatMap_append]; simpa [itmC] using hown', hb1, HS⟩
          case measure => simp [intOf]; omega)
      · obtain rfl := hA
        have hL : Op.bytesLess af af = false := by rw [bytesLess_eq]; simp [List.lt_irrefl]
        have hE : (af == af) = true := by simp
        obtain ⟨mk, hmk⟩ : ∃ b : Bool, b = (!com && !ve.isEmpty && decide (vid = ve)) := ⟨_, rfl⟩
        have hmk2 : marksP af ve ⟨af, com, ⟨vid, vt, vm, vz, vet⟩, lat⟩ = mk := by rw [hmk]; simp [marksP]
        have hVE : ((BA ve).toList == ([] : List UInt8)) = ve.isEmpty := by rw [bs_toList]; cases ve <;> rfl
        have hVI : (vid == ve) = decide (vid = ve) := by by_cases h : vid = ve <;> simp [h]
        have HS := Lib.hid (show behindR af ve false l = (if met = true then acc ++ [(⟨af, com, ⟨vid, vt, vm, vz, vet⟩, lat⟩ : Itm)] else acc) ++ behindR af ve (met || mk) (l.drop (k + 1)) by rw [hstep, hmk2]; cases met <;> simp [List.lt_irrefl])
        clear hstep hmk2
        cases met
        · simp only [Bool.false_eq_true, if_false, Bool.false_or] at HS
          go_wp2
          all_goals (
            go_roundw
            case rel => exact ⟨k + 1, acc, mk, by omega, by omega, by
              first
              | (have h1 : List.isEmpty ve = true := by assumption
                 rw [hmk, h1]; simp; done)
              | (have h1 : com = true := by assumption
                 rw [hmk, h1]; simp; done)
              | (have h1 : List.isEmpty ve = false := by assumption
                 have h2 : com = false := by assumption
                 have h3 : vid = ve := by assumption
                 rw [hmk, h1, h2]; simp [h3]; done)
              | (have h3 : ¬ vid = ve := by assumption
                 rw [hmk]; simp [h3]; done), by go_num, ho, hbw, HS⟩
            case measure => simp [intOf]; omega)
        · simp only [if_true, Bool.true_or] at HS
          clear hmk
          go_wp2_with (at_builtin; go_must (refine wpList_append_own _ rfl _ _ 26 rfl w.heap.size 39 i0 _ 8 88 Try.underlying26 hi hz0 hz1 hz2 rfl (by decide) _ _ _ rfl (ho.alloc _) ⟨wr.heap.size, 0, none⟩ 1 1 [.string (BA af), .bool com, .string (BA vid), .int .i64 vt, .bool vm, .int .i64 vz, .string (BA vet), .bool lat] rfl rfl (cells_new wr [.string (BA af), .bool com, .string (BA vid), .int .i64 vt, .bool vm, .int .i64 vz, .string (BA vet), .bool lat] _) (itmC_one ⟨af, com, ⟨vid, vt, vm, vz, vet⟩, lat⟩) hbnd1 hbnd2 (by simp; omega) ?_); intro v' w1 hown' hgrow _; (have hb1 := own_below hbw hbw.size ho hgrow); obtain ⟨bb, oo, hAA, _, hcx⟩ := (HA.out.block hb1).at (i := k) (row := itmC ⟨af, com, ⟨vid, vt, vm, vz, vet⟩, lat⟩) (by simp [HX.out]); cases hAA; have e0 := hcx 0 _ rfl; have e1 := hcx 1 _ rfl; have e2 := hcx 2 _ rfl; simp only [Nat.add_zero] at e0)
          all_goals (
            try (go_roundw
                 case rel => exact ⟨k + 1, acc ++ [(⟨af, com, ⟨vid, vt, vm, vz, vet⟩, lat⟩ : Itm)], true, by omega, by simp; omega, by simp, by go_num, by rw [List.flatMap_append]; simpa [itmC] using hown', hb1, HS⟩
                 case measure => simp [intOf]; omega))
      · have hL : Op.bytesLess nm af = true := by rw [bytesLess_eq]; simp [hA]
        have hE : (nm == af) = false := by simp [lt_ne hA]
        have hEp : ¬ nm = af := lt_ne hA
        have HS := Lib.hid (show behindR af ve false l = acc ++ behindR af ve met (l.drop (k + 1)) by rw [hstep]; simp [lt_asy hA, marksP, hEp])
        clear hstep hA
        cases met <;> go_wp2
        all_goals (
          go_roundw
          case rel => exact ⟨k + 1, acc, _, by omega, by omega, rfl, by go_num, ho, hbw, HS⟩
          case measure => simp [intOf]; omega)
    · obtain rfl : k = n1 := by omega
      have HV := Lib.hid (show behindR af ve false l = acc by rw [H.out, List.drop_of_length_le (by rw [HN1.out]; exact Nat.le_refl _)]; simp [behindR])
      clear H
      go_wp2
      go_ret
      exact ⟨_, rfl, by rw [HV.out]; exact ho, hbw⟩
end Go.Proofs.Ytahkcfhiecfgeaa
end
section
namespace Go.Proofs.Ytahkcfhiecfgeaa.Pr
open Go.RowKit Go.Proofs.YtahkcfhiecfgeaaW.PrintWords Go.Proofs.YtahkcfhiecfgeaaW.PrintLast Go.Proofs.YtahkcfhiecfgeaaW.PrintMore
attribute [local go_sem] max2_int min2_int max_two min_two max_three min_three max_four min_four   -- for this text's walks alone
attribute [local go_sem high] gtr_as_less leq_as_less
set_option linter.unusedVariables false
set_option linter.unusedSimpArgs false

/-! ### stowagetop_TopSteady: function 7 -/
mutual
def stowagetop_TopSteady.j0 : Nat → List (List (S47)) → ByteArray → Int → Bool → Option (Bool)
 | 0, _, _, _, _ => none
 | k + 1, x0, x1, x2, x9 => if (x0.length : Int) = 0 then (stowagetop_TopSteady.j1 k x0 x1 x2 x9 true) else (if (x0.length : Int) > 12 then (stowagetop_TopSteady.j1 k x0 x1 x2 x9 true) else (stowagetop_TopSteady.j1 k x0 x1 x2 x9 (decide ((x1.size : Int) > 400))))
def stowagetop_TopSteady.j1 : Nat → List (List (S47)) → ByteArray → Int → Bool → Bool → Option (Bool)
 | 0, _, _, _, _, _ => none
 | k + 1, x0, x1, x2, x9, x54 => if x54 = true then (some x9) else (stowagetop_TopSteady.l0 k x0 x1 x2 x9 0)
def stowagetop_TopSteady.l0 : Nat → List (List (S47)) → ByteArray → Int → Bool → Int → Option (Bool)
 | 0, _, _, _, _, _ => none
 | k + 1, x0, x1, x2, x9, x10 => if x10 < (x0.length : Int) then (if 0 ≤ x10 then ((stowagekit_LargeEntries.f k (rd_L6 x0 x10)).bind fun t510 => (if t510 = true then (stowagetop_TopSteady.j3 k x0 x1 x2 x9 x10 true) else ((listing_Check.f k (rd_L6 x0 x10)).bind fun t512 => (stowagetop_TopSteady.j3 k x0 x1 x2 x9 x10 (t512 != 0))))) else (none)) else ((stowagekit_Pick.f x2 10).bind fun t518 => (stowagetop_TopSteady.l2 k x0 x1 (wrap64 (1 + t518)) x9 ([] : List ByteArray) (⟨#[]⟩ : ByteArray) true 0))
def stowagetop_TopSteady.j3 : Nat → List (List (S47)) → ByteArray → Int → Bool → Int → Bool → Option (Bool)
 | 0, _, _, _, _, _, _ => none
 | k + 1, x0, x1, x2, x9, x10, x74 => if x74 = true then (some x9) else (stowagetop_TopSteady.l1 k x0 x1 x2 x9 x10 0)
def stowagetop_TopSteady.l1 : Nat → List (List (S47)) → ByteArray → Int → Bool → Int → Int → Option (Bool)
 | 0, _, _, _, _, _, _ => none
 | k + 1, x0, x1, x2, x9, x10, x11 => if 0 ≤ x10 then (if x10 < (x0.length : Int) then (if x11 < ((rd_L6 x0 x10).length : Int) then (if 0 ≤ x11 then (if ((rd_T47 (rd_L6 x0 x10) x11).f0).toList = ([] : List UInt8) then (some x9) else (if (((rd_T47 (rd_L6 x0 x10) x11).f0).size : Int) > 400 then (some x9) else (stowagetop_TopSteady.l1 k x0 x1 x2 x9 x10 (wrap64 (x11 + 1))))) else (none)) else (stowagetop_TopSteady.l0 k x0 x1 x2 x9 (wrap64 (x10 + 1)))) else (none)) else (none)
def stowagetop_TopSteady.l2 : Nat → List (List (S47)) → ByteArray → Int → Bool → List ByteArray → ByteArray → Bool → Int → Option (Bool)
 | 0, _, _, _, _, _, _, _, _ => none
 | k + 1, x0, x1, x2, x9, x12, x13, x14, x15 => if x15 < 800 then (stowagetop_TopSteady.j6 k x0 x1 x2 x9 x12 x13 x14 x15 x14) else (stowagetop_TopSteady.j6 k x0 x1 x2 x9 x12 x13 x14 x15 false)
def stowagetop_TopSteady.j6 : Nat → List (List (S47)) → ByteArray → Int → Bool → List ByteArray → ByteArray → Bool → Int → Bool → Option (Bool)
 | 0, _, _, _, _, _, _, _, _, _ => none
 | k + 1, x0, x1, x2, x9, x12, x13, x14, x15, x114 => if x114 = true then (if 0 ≤ (mn x15 (wrap64 ((x0.length : Int) - 1))) then (if (mn x15 (wrap64 ((x0.length : Int) - 1))) < (x0.length : Int) then ((listing_Keys.f (rd_L6 x0 (mn x15 (wrap64 ((x0.length : Int) - 1)))) x1 (⟨#[]⟩ : ByteArray) x13 x2).bind fun bt520 => (if bt520.2.2.2.2 = 0 then (stowagetop_TopSteady.l3 k x0 x1 x2 x9 x12 x15 0 bt520.1 bt520.2.1 bt520.2.2.1 bt520.2.2.2.1) else (some false))) else (none)) else (none)) else (stowagetop_TopSteady.l4 k x0 x1 x9 x12 x14 1)
def stowagetop_TopSteady.l3 : Nat → List (List (S47)) → ByteArray → Int → Bool → List ByteArray → Int → Int → List (S39) → Bool → ByteArray → ByteArray → Option (Bool)
 | 0, _, _, _, _, _, _, _, _, _, _, _ => none
 | k + 1, x0, x1, x2, x9, x12, x15, x18, x528000, x528001, x528002, x528003 => if x18 < (x528000.length : Int) then (if 0 ≤ x18 then (if x12.length < 8796093022208 then (stowagetop_TopSteady.l3 k x0 x1 x2 x9 (x12 ++ [(rd_T39 x528000 x18).f0]) x15 (wrap64 (x18 + 1)) x528000 x528001 x528002 x528003) else (none)) else (none)) else (stowagetop_TopSteady.l2 k x0 x1 x2 x9 x12 x528002 x528001 (wrap64 (x15 + 1)))
def stowagetop_TopSteady.l4 : Nat → List (List (S47)) → ByteArray → Bool → List ByteArray → Bool → Int → Option (Bool)
 | 0, _, _, _, _, _, _ => none
 | k + 1, x0, x1, x9, x12, x14, x19 => if x19 < (x12.length : Int) then (if 0 ≤ x19 then (if 0 ≤ (wrap64 (x19 - 1)) then (if (wrap64 (x19 - 1)) < (x12.length : Int) then (if ((Op.bytesLess ((rdOf ByteArray.empty x12 (wrap64 (x19 - 1))).toList) ((rdOf ByteArray.empty x12 x19).toList)) = true) then (stowagetop_TopSteady.l4 k x0 x1 x9 x12 x14 (wrap64 (x19 + 1))) else (some false)) else (none)) else (none)) else (none)) else (stowagetop_TopSteady.l5 k x0 x1 x9 x12 x14 0)
def stowagetop_TopSteady.l5 : Nat → List (List (S47)) → ByteArray → Bool → List ByteArray → Bool → Int → Option (Bool)
 | 0, _, _, _, _, _, _ => none
 | k + 1, x0, x1, x9, x12, x14, x20 => if 0 < (x0.length : Int) then (if x20 < ((rd_L6 x0 0).length : Int) then (if 0 ≤ x20 then ((stowagetop_starts.f ((rd_T47 (rd_L6 x0 0) x20).f0) x1).bind fun t537 => (stowagetop_TopSteady.l6 k x0 x1 x9 x12 x14 x20 ((rd_T47 (rd_L6 x0 0) x20).f0) t537 0)) else (none)) else (if x9 = true then (some (!x14)) else (some false))) else (none)
def stowagetop_TopSteady.l6 : Nat → List (List (S47)) → ByteArray → Bool → List ByteArray → Bool → Int → ByteArray → Bool → Int → Option (Bool)
 | 0, _, _, _, _, _, _, _, _, _ => none
 | k + 1, x0, x1, x9, x12, x14, x20, x21, x22, x23 => if x23 < (x0.length : Int) then (if x22 = true then (if 0 ≤ x23 then ((stowagetop_there.f k (rd_L6 x0 x23) x21).bind fun t539 => (stowagetop_TopSteady.l6 k x0 x1 x9 x12 x14 x20 x21 t539 (wrap64 (x23 + 1)))) else (none)) else (stowagetop_TopSteady.l6 k x0 x1 x9 x12 x14 x20 x21 false (wrap64 (x23 + 1)))) else (stowagetop_TopSteady.l7 k x0 x1 x9 x12 x14 x20 x21 x22 false 0)
def stowagetop_TopSteady.l7 : Nat → List (List (S47)) → ByteArray → Bool → List ByteArray → Bool → Int → ByteArray → Bool → Bool → Int → Option (Bool)
 | 0, _, _, _, _, _, _, _, _, _, _ => none
 | k + 1, x0, x1, x9, x12, x14, x20, x21, x22, x24, x25 => if x25 < (x12.length : Int) then (if x24 = true then (stowagetop_TopSteady.l7 k x0 x1 x9 x12 x14 x20 x21 x22 true (wrap64 (x25 + 1))) else (if 0 ≤ x25 then (stowagetop_TopSteady.l7 k x0 x1 x9 x12 x14 x20 x21 x22 ((rdOf ByteArray.empty x12 x25).toList == x21.toList) (wrap64 (x25 + 1))) else (none))) else (if x22 = true then (if x24 = true then (stowagetop_TopSteady.l5 k x0 x1 x9 x12 x14 (wrap64 (x20 + 1))) else (some false)) else (stowagetop_TopSteady.l5 k x0 x1 x9 x12 x14 (wrap64 (x20 + 1))))
end
def stowagetop_TopSteady.f (k : Nat) (l0 : List (List (S47))) (a1 : ByteArray) (a2 : Int) : Option (Bool) := (listing_Keys.f (([(⟨(⟨#[97]⟩ : ByteArray), (([(⟨(⟨#[120]⟩ : ByteArray), 0, false, 0, (⟨#[]⟩ : ByteArray)⟩ : S37)] : List (S37)))⟩ : S47)] : List (S47))) (⟨#[]⟩ : ByteArray) (⟨#[]⟩ : ByteArray) (⟨#[]⟩ : ByteArray) 1).bind fun bt501 => (if bt501.2.2.2.2 = 0 then (stowagetop_TopSteady.j0 k l0 a1 a2 ((bt501.1.length : Int) == 1)) else (stowagetop_TopSteady.j0 k l0 a1 a2 false))
theorem stowagetop_TopSteady.mono_l : ∀ k, (∀ y0 y1 y2 y3, LeO (stowagetop_TopSteady.j0 k y0 y1 y2 y3) (stowagetop_TopSteady.j0 (k + 1) y0 y1 y2 y3)) ∧ (∀ y0 y1 y2 y3 y4, LeO (stowagetop_TopSteady.j1 k y0 y1 y2 y3 y4) (stowagetop_TopSteady.j1 (k + 1) y0 y1 y2 y3 y4)) ∧ (∀ y0 y1 y2 y3 y4, LeO (stowagetop_TopSteady.l0 k y0 y1 y2 y3 y4) (stowagetop_TopSteady.l0 (k + 1) y0 y1 y2 y3 y4)) ∧ (∀ y0 y1 y2 y3 y4 y5, LeO (stowagetop_TopSteady.j3 k y0 y1 y2 y3 y4 y5) (stowagetop_TopSteady.j3 (k + 1) y0 y1 y2 y3 y4 y5)) ∧ (∀ y0 y1 y2 y3 y4 y5, LeO (stowagetop_TopSteady.l1 k y0 y1 y2 y3 y4 y5) (stowagetop_TopSteady.l1 (k + 1) y0 y1 y2 y3 y4 y5)) ∧ (∀ y0 y1 y2 y3 y4 y5 y6 y7, LeO (stowagetop_TopSteady.l2 k y0 y1 y2 y3 y4 y5 y6 y7) (stowagetop_TopSteady.l2 (k + 1) y0 y1 y2 y3 y4 y5 y6 y7)) ∧ (∀ y0 y1 y2 y3 y4 y5 y6 y7 y8, LeO (stowagetop_TopSteady.j6 k y0 y1 y2 y3 y4 y5 y6 y7 y8) (stowagetop_TopSteady.j6 (k + 1) y0 y1 y2 y3 y4 y5 y6 y7 y8)) ∧ (∀ y0 y1 y2 y3 y4 y5 y6 y7 y8 y9 y10, LeO (stowagetop_TopSteady.l3 k y0 y1 y2 y3 y4 y5 y6 y7 y8 y9 y10) (stowagetop_TopSteady.l3 (k + 1) y0 y1 y2 y3 y4 y5 y6 y7 y8 y9 y10)) ∧ (∀ y0 y1 y2 y3 y4 y5, LeO (stowagetop_TopSteady.l4 k y0 y1 y2 y3 y4 y5) (stowagetop_TopSteady.l4 (k + 1) y0 y1 y2 y3 y4 y5)) ∧ (∀ y0 y1 y2 y3 y4 y5, LeO (stowagetop_TopSteady.l5 k y0 y1 y2 y3 y4 y5) (stowagetop_TopSteady.l5 (k + 1) y0 y1 y2 y3 y4 y5)) ∧ (∀ y0 y1 y2 y3 y4 y5 y6 y7 y8, LeO (stowagetop_TopSteady.l6 k y0 y1 y2 y3 y4 y5 y6 y7 y8) (stowagetop_TopSteady.l6 (k + 1) y0 y1 y2 y3 y4 y5 y6 y7 y8)) ∧ (∀ y0 y1 y2 y3 y4 y5 y6 y7 y8 y9, LeO (stowagetop_TopSteady.l7 k y0 y1 y2 y3 y4 y5 y6 y7 y8 y9) (stowagetop_TopSteady.l7 (k + 1) y0 y1 y2 y3 y4 y5 y6 y7 y8 y9))
 | 0 => ⟨fun _ _ _ _ r h => by simp [stowagetop_TopSteady.j0] at h, fun _ _ _ _ _ r h => by simp [stowagetop_TopSteady.j1] at h, fun _ _ _ _ _ r h => by simp [stowagetop_TopSteady.l0] at h, fun _ _ _ _ _ _ r h => by simp [stowagetop_TopSteady.j3] at h, fun _ _ _ _ _ _ r h => by simp [stowagetop_TopSteady.l1] at h, fun _ _ _ _ _ _ _ _ r h => by simp [stowagetop_TopSteady.l2] at h, fun _ _ _ _ _ _ _ _ _ r h => by simp [stowagetop_TopSteady.j6] at h, fun _ _ _ _ _ _ _ _ _ _ _ r h => by simp [stowagetop_TopSteady.l3] at h, fun _ _ _ _ _ _ r h => by simp [stowagetop_TopSteady.l4] at h, fun _ _ _ _ _ _ r h => by simp [stowagetop_TopSteady.l5] at h, fun _ _ _ _ _ _ _ _ _ r h => by simp [stowagetop_TopSteady.l6] at h, fun _ _ _ _ _ _ _ _ _ _ r h => by simp [stowagetop_TopSteady.l7] at h⟩
 | k + 1 => by
  obtain ⟨ih0, ih1, ih2, ih3, ih4, ih5, ih6, ih7, ih8, ih9, ih10, ih11⟩ := stowagetop_TopSteady.mono_l k
  refine ⟨?_, ?_, ?_, ?_, ?_, ?_, ?_, ?_, ?_, ?_, ?_, ?_⟩
  ·intro y0 y1 y2 y3
   unfold stowagetop_TopSteady.j0
   repeat' first
   | (with_reducible exact ih0 _ _ _ _)
   | (with_reducible exact ih1 _ _ _ _ _)
   | (with_reducible exact ih2 _ _ _ _ _)
   | (with_reducible exact ih3 _ _ _ _ _ _)
   | (with_reducible exact ih4 _ _ _ _ _ _)
   | (with_reducible exact ih5 _ _ _ _ _ _ _ _)
   | (with_reducible exact ih6 _ _ _ _ _ _ _ _ _)
   | (with_reducible exact ih7 _ _ _ _ _ _ _ _ _ _ _)
   | (with_reducible exact ih8 _ _ _ _ _ _)
   | (with_reducible exact ih9 _ _ _ _ _ _)
   | (with_reducible exact ih10 _ _ _ _ _ _ _ _ _)
   | (with_reducible exact ih11 _ _ _ _ _ _ _ _ _ _)
   | (with_reducible exact listing_Check.mono _ _)
   | (with_reducible exact stowagekit_LargeEntries.mono _ _)
   | (with_reducible exact stowagetop_there.mono _ _ _)
   | (with_reducible exact LeO.refl _)
   | (with_reducible exact LeO.none _)
   | (with_reducible refine LeO.ite ?_ ?_)
   | (with_reducible refine LeO.bind ?_ (fun _ => ?_))
   | exact ih0 _ _ _ _
   | exact ih1 _ _ _ _ _
   | exact ih2 _ _ _ _ _
   | exact ih3 _ _ _ _ _ _
   | exact ih4 _ _ _ _ _ _
   | exact ih5 _ _ _ _ _ _ _ _
   | exact ih6 _ _ _ _ _ _ _ _ _
   | exact ih7 _ _ _ _ _ _ _ _ _ _ _
   | exact ih8 _ _ _ _ _ _
   | exact ih9 _ _ _ _ _ _
   | exact ih10 _ _ _ _ _ _ _ _ _
   | exact ih11 _ _ _ _ _ _ _ _ _ _
   | exact listing_Check.mono _ _
   | exact stowagekit_LargeEntries.mono _ _
   | exact stowagetop_there.mono _ _ _
   | exact LeO.none _
   | refine LeO.ite ?_ ?_
   | refine LeO.bind ?_ (fun _ => ?_)
  ·intro y0 y1 y2 y3 y4
   unfold stowagetop_TopSteady.j1
   repeat' first
   | (with_reducible exact ih0 _ _ _ _)
   | (with_reducible exact ih1 _ _ _ _ _)
   | (with_reducible exact ih2 _ _ _ _ _)
   | (with_reducible exact ih3 _ _ _ _ _ _)
   | (with_reducible exact ih4 _ _ _ _ _ _)
   | (with_reducible exact ih5 _ _ _ _ _ _ _ _)
   | (with_reducible exact ih6 _ _ _ _ _ _ _ _ _)
   | (with_reducible exact ih7 _ _ _ _ _ _ _ _ _ _ _)
   | (with_reducible exact ih8 _ _ _ _ _ _)
   | (with_reducible exact ih9 _ _ _ _ _ _)
   | (with_reducible exact ih10 _ _ _ _ _ _ _ _ _)
   | (with_reducible exact ih11 _ _ _ _ _ _ _ _ _ _)
   | (with_reducible exact listing_Check.mono _ _)
   | (with_reducible exact stowagekit_LargeEntries.mono _ _)
   | (with_reducible exact stowagetop_there.mono _ _ _)
   | (with_reducible exact LeO.refl _)
   | (with_reducible exact LeO.none _)
   | (with_reducible refine LeO.ite ?_ ?_)
   | (with_reducible refine LeO.bind ?_ (fun _ => ?_))
   | exact ih0 _ _ _ _
   | exact ih1 _ _ _ _ _
   | exact ih2 _ _ _ _ _
   | exact ih3 _ _ _ _ _ _
   | exact ih4 _ _ _ _ _ _
   | exact ih5 _ _ _ _ _ _ _ _
   | exact ih6 _ _ _ _ _ _ _ _ _
   | exact ih7 _ _ _ _ _ _ _ _ _ _ _
   | exact ih8 _ _ _ _ _ _
   | exact ih9 _ _ _ _ _ _
   | exact ih10 _ _ _ _ _ _ _ _ _
   | exact ih11 _ _ _ _ _ _ _ _ _ _
   | exact listing_Check.mono _ _
   | exact stowagekit_LargeEntries.mono _ _
   | exact stowagetop_there.mono _ _ _
   | exact LeO.none _
   | refine LeO.ite ?_ ?_
   | refine LeO.bind ?_ (fun _ => ?_)
  ·intro y0 y1 y2 y3 y4
   unfold stowagetop_TopSteady.l0
   repeat' first
   | (with_reducible exact ih0 _ _ _ _)
   | (with_reducible exact ih1 _ _ _ _ _)
   | (with_reducible exact ih2 _ _ _ _ _)
   | (with_reducible exact ih3 _ _ _ _ _ _)
   | (with_reducible exact ih4 _ _ _ _ _ _)
   | (with_reducible exact ih5 _ _ _ _ _ _ _ _)
   | (with_reducible exact ih6 _ _ _ _ _ _ _ _ _)
   | (with_reducible exact ih7 _ _ _ _ _ _ _ _ _ _ _)
   | (with_reducible exact ih8 _ _ _ _ _ _)
   | (with_reducible exact ih9 _ _ _ _ _ _)
   | (with_reducible exact ih10 _ _ _ _ _ _ _ _ _)
   | (with_reducible exact ih11 _ _ _ _ _ _ _ _ _ _)
   | (with_reducible exact listing_Check.mono _ _)
   | (with_reducible exact stowagekit_LargeEntries.mono _ _)
   | (with_reducible exact stowagetop_there.mono _ _ _)
   | (with_reducible exact LeO.refl _)
   | (with_reducible exact LeO.none _)
   | (with_reducible refine LeO.ite ?_ ?_)
   | (with_reducible refine LeO.bind ?_ (fun _ => ?_))
   | exact ih0 _ _ _ _
   | exact ih1 _ _ _ _ _
   | exact ih2 _ _ _ _ _
   | exact ih3 _ _ _ _ _ _
   | exact ih4 _ _ _ _ _ _
   | exact ih5 _ _ _ _ _ _ _ _
   | exact ih6 _ _ _ _ _ _ _ _ _
   | exact ih7 _ _ _ _ _ _ _ _ _ _ _
   | exact ih8 _ _ _ _ _ _
   | exact ih9 _ _ _ _ _ _
   | exact ih10 _ _ _ _ _ _ _ _ _
   | exact ih11 _ _ _ _ _ _ _ _ _ _
   | exact listing_Check.mono _ _
   | exact stowagekit_LargeEntries.mono _ _
   | exact stowagetop_there.mono _ _ _
   | exact LeO.none _
   | refine LeO.ite ?_ ?_
   | refine LeO.bind ?_ (fun _ => ?_)
  ·intro y0 y1 y2 y3 y4 y5
   unfold stowagetop_TopSteady.j3
   repeat' first
   | (with_reducible exact ih0 _ _ _ _)
   | (with_reducible exact ih1 _ _ _ _ _)
   | (with_reducible exact ih2 _ _ _ _ _)
   | (with_reducible exact ih3 _ _ _ _ _ _)
   | (with_reducible exact ih4 _ _ _ _ _ _)
   | (with_reducible exact ih5 _ _ _ _ _ _ _ _)
   | (with_reducible exact ih6 _ _ _ _ _ _ _ _ _)
   | (with_reducible exact ih7 _ _ _ _ _ _ _ _ _ _ _)
   | (with_reducible exact ih8 _ _ _ _ _ _)
   | (with_reducible exact ih9 _ _ _ _ _ _)
   | (with_reducible exact ih10 _ _ _ _ _ _ _ _ _)
   | (with_reducible exact ih11 _ _ _ _ _ _ _ _ _ _)
   | (with_reducible exact listing_Check.mono _ _)
   | (with_reducible exact stowagekit_LargeEntries.mono _ _)
   | (with_reducible exact stowagetop_there.mono _ _ _)
   | (with_reducible exact LeO.refl _)
   | (with_reducible exact LeO.none _)
   | (with_reducible refine LeO.ite ?_ ?_)
   | (with_reducible refine LeO.bind ?_ (fun _ => ?_))
   | exact ih0 _ _ _ _
   | exact ih1 _ _ _ _ _
   | exact ih2 _ _ _ _ _
   | exact ih3 _ _ _ _ _ _
   | exact ih4 _ _ _ _ _ _
   | exact ih5 _ _ _ _ _ _ _ _
   | exact ih6 _ _ _ _ _ _ _ _ _
   | exact ih7 _ _ _ _ _ _ _ _ _ _ _
   | exact ih8 _ _ _ _ _ _
   | exact ih9 _ _ _ _ _ _
   | exact ih10 _ _ _ _ _ _ _ _ _
   | exact ih11 _ _ _ _ _ _ _ _ _ _
   | exact listing_Check.mono _ _
   | exact stowagekit_LargeEntries.mono _ _
   | exact stowagetop_there.mono _ _ _
   | exact LeO.none _
   | refine LeO.ite ?_ ?_
   | refine LeO.bind ?_ (fun _ => ?_)
  ·intro y0 y1 y2 y3 y4 y5
   unfold stowagetop_TopSteady.l1
   repeat' first
   | (with_reducible exact ih0 _ _ _ _)
   | (with_reducible exact ih1 _ _ _ _ _)
   | (with_reducible exact ih2 _ _ _ _ _)
   | (with_reducible exact ih3 _ _ _ _ _ _)
   | (with_reducible exact ih4 _ _ _ _ _ _)
   | (with_reducible exact ih5 _ _ _ _ _ _ _ _)
   | (with_reducible exact ih6 _ _ _ _ _ _ _ _ _)
   | (with_reducible exact ih7 _ _ _ _ _ _ _ _ _ _ _)
   | (with_reducible exact ih8 _ _ _ _ _ _)
   | (with_reducible exact ih9 _ _ _ _ _ _)
   | (with_reducible exact ih10 _ _ _ _ _ _ _ _ _)
   | (with_reducible exact ih11 _ _ _ _ _ _ _ _ _ _)
   | (with_reducible exact listing_Check.mono _ _)
   | (with_reducible exact stowagekit_LargeEntries.mono _ _)
   | (with_reducible exact stowagetop_there.mono _ _ _)
   | (with_reducible exact LeO.refl _)
   | (with_reducible exact LeO.none _)
   | (with_reducible refine LeO.ite ?_ ?_)
   | (with_reducible refine LeO.bind ?_ (fun _ => ?_))
   | exact ih0 _ _ _ _
   | exact ih1 _ _ _ _ _
   | exact ih2 _ _ _ _ _
   | exact ih3 _ _ _ _ _ _
   | exact ih4 _ _ _ _ _ _
   | exact ih5 _ _ _ _ _ _ _ _
   | exact ih6 _ _ _ _ _ _ _ _ _
   | exact ih7 _ _ _ _ _ _ _ _ _ _ _
   | exact ih8 _ _ _ _ _ _
   | exact ih9 _ _ _ _ _ _
   | exact ih10 _ _ _ _ _ _ _ _ _
   | exact ih11 _ _ _ _ _ _ _ _ _ _
   | exact listing_Check.mono _ _
   | exact stowagekit_LargeEntries.mono _ _
   | exact stowagetop_there.mono _ _ _
   | exact LeO.none _
   | refine LeO.ite ?_ ?_
   | refine LeO.bind ?_ (fun _ => ?_)
  ·intro y0 y1 y2 y3 y4 y5 y6 y7
   unfold stowagetop_TopSteady.l2
   repeat' first
   | (with_reducible exact ih0 _ _ _ _)
   | (with_reducible exact ih1 _ _ _ _ _)
   | (with_reducible exact ih2 _ _ _ _ _)
   | (with_reducible exact ih3 _ _ _ _ _ _)
   | (with_reducible exact ih4 _ _ _ _ _ _)
   | (with_reducible exact ih5 _ _ _ _ _ _ _ _)
   | (with_reducible exact ih6 _ _ _ _ _ _ _ _ _)
   | (with_reducible exact ih7 _ _ _ _ _ _ _ _ _ _ _)
   | (with_reducible exact ih8 _ _ _ _ _ _)
   | (with_reducible exact ih9 _ _ _ _ _ _)
   | (with_reducible exact ih10 _ _ _ _ _ _ _ _ _)
   | (with_reducible exact ih11 _ _ _ _ _ _ _ _ _ _)
   | (with_reducible exact listing_Check.mono _ _)
   | (with_reducible exact stowagekit_LargeEntries.mono _ _)
   | (with_reducible exact stowagetop_there.mono _ _ _)
   | (with_reducible exact LeO.refl _)
   | (with_reducible exact LeO.none _)
   | (with_reducible refine LeO.ite ?_ ?_)
   | (with_reducible refine LeO.bind ?_ (fun _ => ?_))
   | exact ih0 _ _ _ _
   | exact ih1 _ _ _ _ _
   | exact ih2 _ _ _ _ _
   | exact ih3 _ _ _ _ _ _
   | exact ih4 _ _ _ _ _ _
   | exact ih5 _ _ _ _ _ _ _ _
   | exact ih6 _ _ _ _ _ _ _ _ _
   | exact ih7 _ _ _ _ _ _ _ _ _ _ _
   | exact ih8 _ _ _ _ _ _
   | exact ih9 _ _ _ _ _ _
   | exact ih10 _ _ _ _ _ _ _ _ _
   | exact ih11 _ _ _ _ _ _ _ _ _ _
   | exact listing_Check.mono _ _
   | exact stowagekit_LargeEntries.mono _ _
   | exact stowagetop_there.mono _ _ _
   | exact LeO.none _
   | refine LeO.ite ?_ ?_
   | refine LeO.bind ?_ (fun _ => ?_)
  ·intro y0 y1 y2 y3 y4 y5 y6 y7 y8
   unfold stowagetop_TopSteady.j6
   repeat' first
   | (with_reducible exact ih0 _ _ _ _)
   | (with_reducible exact ih1 _ _ _ _ _)
   | (with_reducible exact ih2 _ _ _ _ _)
   | (with_reducible exact ih3 _ _ _ _ _ _)
   | (with_reducible exact ih4 _ _ _ _ _ _)
   | (with_reducible exact ih5 _ _ _ _ _ _ _ _)
   | (with_reducible exact ih6 _ _ _ _ _ _ _ _ _)
   | (with_reducible exact ih7 _ _ _ _ _ _ _ _ _ _ _)
   | (with_reducible exact ih8 _ _ _ _ _ _)
   | (with_reducible exact ih9 _ _ _ _ _ _)
   | (with_reducible exact ih10 _ _ _ _ _ _ _ _ _)
   | (with_reducible exact ih11 _ _ _ _ _ _ _ _ _ _)
   | (with_reducible exact listing_Check.mono _ _)
   | (with_reducible exact stowagekit_LargeEntries.mono _ _)
   | (with_reducible exact stowagetop_there.mono _ _ _)
   | (with_reducible exact LeO.refl _)
   | (with_reducible exact LeO.none _)
   | (with_reducible refine LeO.ite ?_ ?_)
   | (with_reducible refine LeO.bind ?_ (fun _ => ?_))
   | exact ih0 _ _ _ _
   | exact ih1 _ _ _ _ _
   | exact ih2 _ _ _ _ _
   | exact ih3 _ _ _ _ _ _
   | exact ih4 _ _ _ _ _ _
   | exact ih5 _ _ _ _ _ _ _ _
   | exact ih6 _ _ _ _ _ _ _ _ _
   | exact ih7 _ _ _ _ _ _ _ _ _ _ _
   | exact ih8 _ _ _ _ _ _
   | exact ih9 _ _ _ _ _ _
   | exact ih10 _ _ _ _ _ _ _ _ _
   | exact ih11 _ _ _ _ _ _ _ _ _ _
   | exact listing_Check.mono _ _
   | exact stowagekit_LargeEntries.mono _ _
   | exact stowagetop_there.mono _ _ _
   | exact LeO.none _
   | refine LeO.ite ?_ ?_
   | refine LeO.bind ?_ (fun _ => ?_)
  ·intro y0 y1 y2 y3 y4 y5 y6 y7 y8 y9 y10
   unfold stowagetop_TopSteady.l3
   repeat' first
   | (with_reducible exact ih0 _ _ _ _)
   | (with_reducible exact ih1 _ _ _ _ _)
   | (with_reducible exact ih2 _ _ _ _ _)
   | (with_reducible exact ih3 _ _ _ _ _ _)
   | (with_reducible exact ih4 _ _ _ _ _ _)
   | (with_reducible exact ih5 _ _ _ _ _ _ _ _)
   | (with_reducible exact ih6 _ _ _ _ _ _ _ _ _)
   | (with_reducible exact ih7 _ _ _ _ _ _ _ _ _ _ _)
   | (with_reducible exact ih8 _ _ _ _ _ _)
   | (with_reducible exact ih9 _ _ _ _ _ _)
   | (with_reducible exact ih10 _ _ _ _ _ _ _ _ _)
   | (with_reducible exact ih11 _ _ _ _ _ _ _ _ _ _)
   | (with_reducible exact listing_Check.mono _ _)
   | (with_reducible exact stowagekit_LargeEntries.mono _ _)
   | (with_reducible exact stowagetop_there.mono _ _ _)
   | (with_reducible exact LeO.refl _)
   | (with_reducible exact LeO.none _)
   | (with_reducible refine LeO.ite ?_ ?_)
   | (with_reducible refine LeO.bind ?_ (fun _ => ?_))
   | exact ih0 _ _ _ _
   | exact ih1 _ _ _ _ _
   | exact ih2 _ _ _ _ _
   | exact ih3 _ _ _ _ _ _
   | exact ih4 _ _ _ _ _ _
   | exact ih5 _ _ _ _ _ _ _ _
   | exact ih6 _ _ _ _ _ _ _ _ _
   | exact ih7 _ _ _ _ _ _ _ _ _ _ _
   | exact ih8 _ _ _ _ _ _
   | exact ih9 _ _ _ _ _ _
   | exact ih10 _ _ _ _ _ _ _ _ _
   | exact ih11 _ _ _ _ _ _ _ _ _ _
   | exact listing_Check.mono _ _
   | exact stowagekit_LargeEntries.mono _ _
   | exact stowagetop_there.mono _ _ _
   | exact LeO.none _
   | refine LeO.ite ?_ ?_
   | refine LeO.bind ?_ (fun _ => ?_)
  ·intro y0 y1 y2 y3 y4 y5
   unfold stowagetop_TopSteady.l4
   repeat' first
   | (with_reducible exact ih0 _ _ _ _)
   | (with_reducible exact ih1 _ _ _ _ _)
   | (with_reducible exact ih2 _ _ _ _ _)
   | (with_reducible exact ih3 _ _ _ _ _ _)
   | (with_reducible exact ih4 _ _ _ _ _ _)
   | (with_reducible exact ih5 _ _ _ _ _ _ _ _)
   | (with_reducible exact ih6 _ _ _ _ _ _ _ _ _)
   | (with_reducible exact ih7 _ _ _ _ _ _ _ _ _ _ _)
   | (with_reducible exact ih8 _ _ _ _ _ _)
   | (with_reducible exact ih9 _ _ _ _ _ _)
   | (with_reducible exact ih10 _ _ _ _ _ _ _ _ _)
   | (with_reducible exact ih11 _ _ _ _ _ _ _ _ _ _)
   | (with_reducible exact listing_Check.mono _ _)
   | (with_reducible exact stowagekit_LargeEntries.mono _ _)
   | (with_reducible exact stowagetop_there.mono _ _ _)
   | (with_reducible exact LeO.refl _)
   | (with_reducible exact LeO.none _)
   | (with_reducible refine LeO.ite ?_ ?_)
   | (with_reducible refine LeO.bind ?_ (fun _ => ?_))
   | exact ih0 _ _ _ _
   | exact ih1 _ _ _ _ _
   | exact ih2 _ _ _ _ _
   | exact ih3 _ _ _ _ _ _
   | exact ih4 _ _ _ _ _ _
   | exact ih5 _ _ _ _ _ _ _ _
   | exact ih6 _ _ _ _ _ _ _ _ _
   | exact ih7 _ _ _ _ _ _ _ _ _ _ _
   | exact ih8 _ _ _ _ _ _
   | exact ih9 _ _ _ _ _ _
   | exact ih10 _ _ _ _ _ _ _ _ _
   | exact ih11 _ _ _ _ _ _ _ _ _ _
   | exact listing_Check.mono _ _
   | exact stowagekit_LargeEntries.mono _ _
   | exact stowagetop_there.mono _ _ _
   | exact LeO.none _
   | refine LeO.ite ?_ ?_
   | refine LeO.bind ?_ (fun _ => ?_)
  ·intro y0 y1 y2 y3 y4 y5
   unfold stowagetop_TopSteady.l5
   repeat' first
   | (with_reducible exact ih0 _ _ _ _)
   | (with_reducible exact ih1 _ _ _ _ _)
   | (with_reducible exact ih2 _ _ _ _ _)
   | (with_reducible exact ih3 _ _ _ _ _ _)
   | (with_reducible exact ih4 _ _ _ _ _ _)
   | (with_reducible exact ih5 _ _ _ _ _ _ _ _)
   | (with_reducible exact ih6 _ _ _ _ _ _ _ _ _)
   | (with_reducible exact ih7 _ _ _ _ _ _ _ _ _ _ _)
   | (with_reducible exact ih8 _ _ _ _ _ _)
   | (with_reducible exact ih9 _ _ _ _ _ _)
   | (with_reducible exact ih10 _ _ _ _ _ _ _ _ _)
   | (with_reducible exact ih11 _ _ _ _ _ _ _ _ _ _)
   | (with_reducible exact listing_Check.mono _ _)
   | (with_reducible exact stowagekit_LargeEntries.mono _ _)
   | (with_reducible exact stowagetop_there.mono _ _ _)
   | (with_reducible exact LeO.refl _)
   | (with_reducible exact LeO.none _)
   | (with_reducible refine LeO.ite ?_ ?_)
   | (with_reducible refine LeO.bind ?_ (fun _ => ?_))
   | exact ih0 _ _ _ _
   | exact ih1 _ _ _ _ _
   | exact ih2 _ _ _ _ _
   | exact ih3 _ _ _ _ _ _
   | exact ih4 _ _ _ _ _ _
   | exact ih5 _ _ _ _ _ _ _ _
   | exact ih6 _ _ _ _ _ _ _ _ _
   | exact ih7 _ _ _ _ _ _ _ _ _ _ _
   | exact ih8 _ _ _ _ _ _
   | exact ih9 _ _ _ _ _ _
   | exact ih10 _ _ _ _ _ _ _ _ _
   | exact ih11 _ _ _ _ _ _ _ _ _ _
   | exact listing_Check.mono _ _
   | exact stowagekit_LargeEntries.mono _ _
   | exact stowagetop_there.mono _ _ _
   | exact LeO.none _
   | refine LeO.ite ?_ ?_
   | refine LeO.bind ?_ (fun _ => ?_)
  ·intro y0 y1 y2 y3 y4 y5 y6 y7 y8
   unfold stowagetop_TopSteady.l6
   repeat' first
   | (with_reducible exact ih0 _ _ _ _)
   | (with_reducible exact ih1 _ _ _ _ _)
   | (with_reducible exact ih2 _ _ _ _ _)
   | (with_reducible exact ih3 _ _ _ _ _ _)
   | (with_reducible exact ih4 _ _ _ _ _ _)
   | (with_reducible exact ih5 _ _ _ _ _ _ _ _)
   | (with_reducible exact ih6 _ _ _ _ _ _ _ _ _)
   | (with_reducible exact ih7 _ _ _ _ _ _ _ _ _ _ _)
   | (with_reducible exact ih8 _ _ _ _ _ _)
   | (with_reducible exact ih9 _ _ _ _ _ _)
   | (with_reducible exact ih10 _ _ _ _ _ _ _ _ _)
   | (with_reducible exact ih11 _ _ _ _ _ _ _ _ _ _)
   | (with_reducible exact listing_Check.mono _ _)
   | (with_reducible exact stowagekit_LargeEntries.mono _ _)
   | (with_reducible exact stowagetop_there.mono _ _ _)
   | (with_reducible exact LeO.refl _)
   | (with_reducible exact LeO.none _)
   | (with_reducible refine LeO.ite ?_ ?_)
   | (with_reducible refine LeO.bind ?_ (fun _ => ?_))
   | exact ih0 _ _ _ _
   | exact ih1 _ _ _ _ _
   | exact ih2 _ _ _ _ _
   | exact ih3 _ _ _ _ _ _
   | exact ih4 _ _ _ _ _ _
   | exact ih5 _ _ _ _ _ _ _ _
   | exact ih6 _ _ _ _ _ _ _ _ _
   | exact ih7 _ _ _ _ _ _ _ _ _ _ _
   | exact ih8 _ _ _ _ _ _
   | exact ih9 _ _ _ _ _ _
   | exact ih10 _ _ _ _ _ _ _ _ _
   | exact ih11 _ _ _ _ _ _ _ _ _ _
   | exact listing_Check.mono _ _
   | exact stowagekit_LargeEntries.mono _ _
   | exact stowagetop_there.mono _ _ _
   | exact LeO.none _
   | refine LeO.ite ?_ ?_
   | refine LeO.bind ?_ (fun _ => ?_)
  ·intro y0 y1 y2 y3 y4 y5 y6 y7 y8 y9
   unfold stowagetop_TopSteady.l7
   repeat' first
   | (with_reducible exact ih0 _ _ _ _)
   | (with_reducible exact ih1 _ _ _ _ _)
   | (with_reducible exact ih2 _ _ _ _ _)
   | (with_reducible exact ih3 _ _ _ _ _ _)
   | (with_reducible exact ih4 _ _ _ _ _ _)
   | (with_reducible exact ih5 _ _ _ _ _ _ _ _)
   | (with_reducible exact ih6 _ _ _ _ _ _ _ _ _)
   | (with_reducible exact ih7 _ _ _ _ _ _ _ _ _ _ _)
   | (with_reducible exact ih8 _ _ _ _ _ _)
   | (with_reducible exact ih9 _ _ _ _ _ _)
   | (with_reducible exact ih10 _ _ _ _ _ _ _ _ _)
   | (with_reducible exact ih11 _ _ _ _ _ _ _ _ _ _)
   | (with_reducible exact listing_Check.mono _ _)
   | (with_reducible exact stowagekit_LargeEntries.mono _ _)
   | (with_reducible exact stowagetop_there.mono _ _ _)
   | (with_reducible exact LeO.refl _)
   | (with_reducible exact LeO.none _)
   | (with_reducible refine LeO.ite ?_ ?_)
   | (with_reducible refine LeO.bind ?_ (fun _ => ?_))
   | exact ih0 _ _ _ _
   | exact ih1 _ _ _ _ _
   | exact ih2 _ _ _ _ _
   | exact ih3 _ _ _ _ _ _
   | exact ih4 _ _ _ _ _ _
   | exact ih5 _ _ _ _ _ _ _ _
   | exact ih6 _ _ _ _ _ _ _ _ _
   | exact ih7 _ _ _ _ _ _ _ _ _ _ _
   | exact ih8 _ _ _ _ _ _
   | exact ih9 _ _ _ _ _ _
   | exact ih10 _ _ _ _ _ _ _ _ _
   | exact ih11 _ _ _ _ _ _ _ _ _ _
   | exact listing_Check.mono _ _
   | exact stowagekit_LargeEntries.mono _ _
   | exact stowagetop_there.mono _ _ _
   | exact LeO.none _
   | refine LeO.ite ?_ ?_
   | refine LeO.bind ?_ (fun _ => ?_)
theorem stowagetop_TopSteady.mono : ∀ a0 a1 a2 k, LeO (stowagetop_TopSteady.f k a0 a1 a2) (stowagetop_TopSteady.f (k + 1) a0 a1 a2) := by
 intro a0 a1 a2 k
 obtain ⟨ih0, ih1, ih2, ih3, ih4, ih5, ih6, ih7, ih8, ih9, ih10, ih11⟩ := stowagetop_TopSteady.mono_l k
 unfold stowagetop_TopSteady.f
 repeat' first
   | (with_reducible exact ih0 _ _ _ _)
   | (with_reducible exact ih1 _ _ _ _ _)
   | (with_reducible exact ih2 _ _ _ _ _)
   | (with_reducible exact ih3 _ _ _ _ _ _)
   | (with_reducible exact ih4 _ _ _ _ _ _)
   | (with_reducible exact ih5 _ _ _ _ _ _ _ _)
   | (with_reducible exact ih6 _ _ _ _ _ _ _ _ _)
   | (with_reducible exact ih7 _ _ _ _ _ _ _ _ _ _ _)
   | (with_reducible exact ih8 _ _ _ _ _ _)
   | (with_reducible exact ih9 _ _ _ _ _ _)
   | (with_reducible exact ih10 _ _ _ _ _ _ _ _ _)
   | (with_reducible exact ih11 _ _ _ _ _ _ _ _ _ _)
   | (with_reducible exact listing_Check.mono _ _)
   | (with_reducible exact stowagekit_LargeEntries.mono _ _)
   | (with_reducible exact stowagetop_there.mono _ _ _)
   | (with_reducible exact LeO.refl _)
   | (with_reducible exact LeO.none _)
   | (with_reducible refine LeO.ite ?_ ?_)
   | (with_reducible refine LeO.bind ?_ (fun _ => ?_))
   | exact ih0 _ _ _ _
   | exact ih1 _ _ _ _ _
   | exact ih2 _ _ _ _ _
   | exact ih3 _ _ _ _ _ _
   | exact ih4 _ _ _ _ _ _
   | exact ih5 _ _ _ _ _ _ _ _
   | exact ih6 _ _ _ _ _ _ _ _ _
   | exact ih7 _ _ _ _ _ _ _ _ _ _ _
   | exact ih8 _ _ _ _ _ _
   | exact ih9 _ _ _ _ _ _
   | exact ih10 _ _ _ _ _ _ _ _ _
   | exact ih11 _ _ _ _ _ _ _ _ _ _
   | exact listing_Check.mono _ _
   | exact stowagekit_LargeEntries.mono _ _
   | exact stowagetop_there.mono _ _ _
   | exact LeO.none _
   | refine LeO.ite ?_ ?_
   | refine LeO.bind ?_ (fun _ => ?_)
set_option maxHeartbeats 8000000 in
set_option maxRecDepth 100000 in
theorem stowagetop_TopSteady.calls (k : Nat) (A0 : Option Addr) (c0 : Nat) (l0 : List (List (S47))) (a1 : ByteArray) (a2 : Int) (r : Bool) (w : World) (hG : GM w) (hr0 : Kd.C (Kd.slice 47 k47) w A0 l0.length l0) (hc0 : l0.length ≤ c0) (h : stowagetop_TopSteady.f k l0 a1 a2 = some r) :
  Calls Try.prog 7 #[.slice A0 l0.length c0, .string a1, .int .i64 a2] w fun e w' => e = .returned (.bool r) ∧ Below w.heap.size w w' := by
 have hu37 := Try.underlying37
 have hu47 := Try.underlying47
 have hu28 := Try.underlying28
 have HR0 := Aside0.mk hr0
 have HC0 := Aside0.mk hc0
 clear hr0 hc0
 have HB := Aside0.mk (Below.refl w.heap.size w)
 have HG := Aside0.mk hG
 clear hG
 have H : ((listing_Keys.f (([(⟨(⟨#[97]⟩ : ByteArray), (([(⟨(⟨#[120]⟩ : ByteArray), 0, false, 0, (⟨#[]⟩ : ByteArray)⟩ : S37)] : List (S37)))⟩ : S47)] : List (S47))) (⟨#[]⟩ : ByteArray) (⟨#[]⟩ : ByteArray) (⟨#[]⟩ : ByteArray) 1).bind fun bt501 => (if bt501.2.2.2.2 = 0 then (stowagetop_TopSteady.j0 k l0 a1 a2 ((bt501.1.length : Int) == 1)) else (stowagetop_TopSteady.j0 k l0 a1 a2 false))) = some r := h
 clear h
 obtain ⟨y495, hy495⟩ : ∃ y_ : List (S37), y_ = (([(⟨(⟨#[120]⟩ : ByteArray), 0, false, 0, (⟨#[]⟩ : ByteArray)⟩ : S37)] : List (S37))) := ⟨_, rfl⟩
 replace H : ((listing_Keys.f (([(⟨(⟨#[97]⟩ : ByteArray), y495⟩ : S47)] : List (S47))) (⟨#[]⟩ : ByteArray) (⟨#[]⟩ : ByteArray) (⟨#[]⟩ : ByteArray) 1).bind fun bt501 => (if bt501.2.2.2.2 = 0 then (stowagetop_TopSteady.j0 k l0 a1 a2 ((bt501.1.length : Int) == 1)) else (stowagetop_TopSteady.j0 k l0 a1 a2 false))) = some r := by first|(rw [hy495]; with_reducible exact H)|(have H2_ := (Option.bind_some _ _).symm.trans H; rw [hy495]; with_reducible exact H2_)|(have H2_ := (Option.bind_some _ _).symm.trans H; with_reducible exact H2_)|with_reducible exact H|(rw [hy495]; exact H)|exact H
 have Ny495 := Aside0.mk hy495
 clear hy495
 obtain ⟨y498, hy498⟩ : ∃ y_ : List (S47), y_ = (([(⟨(⟨#[97]⟩ : ByteArray), y495⟩ : S47)] : List (S47))) := ⟨_, rfl⟩
 replace H : ((listing_Keys.f y498 (⟨#[]⟩ : ByteArray) (⟨#[]⟩ : ByteArray) (⟨#[]⟩ : ByteArray) 1).bind fun bt501 => (if bt501.2.2.2.2 = 0 then (stowagetop_TopSteady.j0 k l0 a1 a2 ((bt501.1.length : Int) == 1)) else (stowagetop_TopSteady.j0 k l0 a1 a2 false))) = some r := by first|(rw [hy498]; with_reducible exact H)|(have H2_ := (Option.bind_some _ _).symm.trans H; rw [hy498]; with_reducible exact H2_)|(have H2_ := (Option.bind_some _ _).symm.trans H; with_reducible exact H2_)|with_reducible exact H|(rw [hy498]; exact H)|exact H
 have Ny498 := Aside0.mk hy498
 clear hy498
 replace H := Option.bind_eq_some_iff.mp H
 obtain ⟨⟨t501, t504, t505, t506, t507⟩, A40, H⟩ := H
 replace H : (if t507 = 0 then (stowagetop_TopSteady.j0 k l0 a1 a2 ((t501.length : Int) == 1)) else (stowagetop_TopSteady.j0 k l0 a1 a2 false)) = some r := H
 have A4 := Aside0.mk A40
 clear A40
 have HC5 := Aside0.mk H
 clear H
 go_enter Try.func7, Try.ntmps7
 go_upto_region 2 with (first|((with_reducible refine gate_dst (N := 28) rfl ?_); (try (refine gate_guard (by rfl) ?_; dsimp only)); refine Kd.R_lit k37 _ 37 ?hg (N := 28) ?hd (xs := ([(⟨(⟨#[120]⟩ : ByteArray), 0, false, 0, (⟨#[]⟩ : ByteArray)⟩ : S37)] : List (S37))) (inner := [.string (⟨#[120]⟩ : ByteArray), .int .i64 0, .bool false, .int .i64 0, .string (⟨#[]⟩ : ByteArray)]) (ok := fun _ => True) (okp := fun _ => True) ?hr ?hp (fun _ hk => hk) trivial (Below.refl _ _) (Nat.le_refl _) (by simp) ?_; (case hd => rfl); (case hg => rfl); (case hr => first|(go_simp; done)|(go_simp; rfl)); (case hp => exact (Reps.c5 (show Kd.M k37 _ _ _ (⟨(⟨#[120]⟩ : ByteArray), 0, false, 0, (⟨#[]⟩ : ByteArray)⟩ : S37) [.string (⟨#[120]⟩ : ByteArray), .int .i64 0, .bool false, .int .i64 0, .string (⟨#[]⟩ : ByteArray)] from (k37_mkM _ _ _ (⟨(⟨#[120]⟩ : ByteArray), 0, false, 0, (⟨#[]⟩ : ByteArray)⟩ : S37) )) (Reps.none _ _))); intro v496 w6 ho7 hb hg_ hnew_; clear hg_ hnew_; (first|rw [← Ny495.out] at ho7|(simp only [Int.reduceToNat] at ho7; rw [← Ny495.out] at ho7)); have n0_ := Aside0.mk (Kd.R_lower ho7 (below_size (by repeat (first|(with_reducible first|exact HB.out|apply below_alloc|apply pw_below_drewN|apply below_drew1)|exact HB.out)))); have n1_ := Aside0.mk (below_step (by repeat (first|(with_reducible first|exact HB.out|apply below_alloc|apply pw_below_drewN|apply below_drew1)|exact HB.out)) hb); clear HB; have HO497 := n0_; have HB := n1_; clear n0_ n1_; clear hb ho7; obtain ⟨Ao8, co8, eo8⟩ := Kd.R_slice HO497.out; subst eo8)|((with_reducible refine gate_dst (N := 30) rfl ?_); (try (refine gate_guard (by rfl) ?_; dsimp only)); refine Kd.N_lit k47 _ 47 ?hg (N' := 30) ?hd (xs := ([(⟨(⟨#[97]⟩ : ByteArray), y495⟩ : S47)] : List (S47))) (inner := [.string (⟨#[97]⟩ : ByteArray), .slice Ao8 y495.length co8]) (ok := (fun _ => True)) (okp := (fun _ => True)) ?hr ?hp (fun _ hk => hk) ((show ∀ k_, w6.heap.size ≤ k_ → (fun _ => True) k_ from fun k_ hk => trivial) _ (Nat.le_refl _)) (Below.refl _ _) (Nat.le_refl _) (by simp) ?_; (case hd => rfl); (case hg => rfl); (case hr => first|(go_simp; done)|(go_simp; rfl)); (case hp => exact (Reps.c2 (show Kd.FK k47 _ _ (⟨(⟨#[97]⟩ : ByteArray), y495⟩ : S47) [.string (⟨#[97]⟩ : ByteArray), .slice Ao8 y495.length co8] from (k47_mkF _ _ (⟨(⟨#[97]⟩ : ByteArray), y495⟩ : S47) (Kd.R_reads' (Kd.R_mono (ok' := (fun _ => True)) (HO497.out) (fun k_ hk => trivial))).2.1 (Kd.R_F (Kd.R_mono (ok' := (fun _ => True)) (HO497.out) (fun k_ hk => trivial))))) (Reps.none _ _))); intro v499 w9 ho10 hb hg_ hnew_; clear hg_ hnew_; (first|rw [← Ny498.out] at ho10|(simp only [Int.reduceToNat] at ho10; rw [← Ny498.out] at ho10)); have n0_ := Aside0.mk (Kd.N_lower ho10 (below_size (by repeat (first|(with_reducible first|exact HB.out|apply below_alloc|apply pw_below_drewN|apply below_drew1)|exact HB.out)))); have n1_ := Aside0.mk (below_step (by repeat (first|(with_reducible first|exact HB.out|apply below_alloc|apply pw_below_drewN|apply below_drew1)|exact HB.out)) hb); clear HB; clear HO497; have HO500 := n0_; have HB := n1_; clear n0_ n1_; clear hb ho10; obtain ⟨Ao11, co11, eo11⟩ := Kd.N_slice HO500.out; subst eo11)|(go_at_call 11; (with_reducible refine (listing_Keys.calls _ _ y498 (⟨#[]⟩ : ByteArray) (⟨#[]⟩ : ByteArray) (⟨#[]⟩ : ByteArray) 1 t501 t504 t505 t506 t507 _ ?side1 ?side2 ?side3 A4.out).mono ?_); (case side1 => first|exact HG.out|exact GM.below (by repeat (first|(with_reducible first|exact HB.out|apply below_alloc|apply pw_below_drewN|apply below_drew1)|exact HB.out)) HG.out|(repeat (first|exact HG.out|apply GM.drewN|apply GM.drew))); (case side2 => repeat (first|exact (Kd.N_reads' HO500.out).2.2|(with_reducible refine Kd.C_alloc ?_ _)|(with_reducible refine Kd.C_drewN ?_ _)|(with_reducible refine Kd.C_drew ?_))); (case side3 => exact (Kd.N_reads' HO500.out).2.1); rintro e w12 ⟨v502, rfl, ho0, hb⟩; have n0_ := Aside0.mk (Kd.N_elder' (by (with_reducible repeat (first|apply Kd.N_alloc|apply Kd.N_drewN|apply Kd.N_drew)); exact HO500.out) (Kd.R_base ho0) hb); have n1_ := Aside0.mk (Kd.R_lower ho0 (below_size (by repeat (first|(with_reducible first|exact HB.out|apply below_alloc|apply pw_below_drewN|apply below_drew1)|exact HB.out)))); have n2_ := Aside0.mk (below_step (by repeat (first|(with_reducible first|exact HB.out|apply below_alloc|apply pw_below_drewN|apply below_drew1)|exact HB.out)) hb); clear HO500; clear HB; have HO500 := n0_; have HO503 := n1_; have HB := n2_; clear n0_ n1_ n2_; (try clear hb); (try clear hb2); (try clear hk); (try clear hi); (try clear ho0))|((with_reducible refine gate_dst (N := 7) rfl ?_); (try (refine gate_guard (by rfl) ?_; dsimp only)); refine box_event ?hg (N := 7) ?hd (cs := #[.slice none 0 0, .bool false, .string (⟨#[]⟩ : ByteArray), .string (⟨#[]⟩ : ByteArray)]) (t := 28) ?hr ?_; (case hd => rfl); (case hg => rfl); (case hr => first|(go_simp; done)|(go_simp; rfl)); intro gb508 hg w13 hbox hb; have n0_ := Aside0.mk (Kd.N_below (Kd.N_elderB (by (with_reducible repeat (first|apply Kd.N_alloc|apply Kd.N_drewN|apply Kd.N_drew)); exact HO500.out) gb508 (Nat.le_of_eq hg.symm)) hb); have n1_ := Aside0.mk (Kd.R_below (by (with_reducible repeat (first|apply Kd.R_alloc|apply Kd.R_drewN|apply Kd.R_drew)); exact HO503.out) hb); have n2_ := Aside0.mk (below_step (by repeat (first|(with_reducible first|exact HB.out|apply below_alloc|apply pw_below_drewN|apply below_drew1)|exact HB.out)) hb); have n3_ := Aside0.mk (hbox); have n4_ := Aside0.mk ((by rw [hg]; exact (below_size (by repeat (first|(with_reducible first|exact HB.out|apply below_alloc|apply pw_below_drewN|apply below_drew1)|exact HB.out))) : w.heap.size ≤ gb508)); have n5_ := Aside0.mk ((by rw [hg]; exact (below_size (by repeat (first|(with_reducible first|exact HB.out|apply below_alloc|apply pw_below_drewN|apply below_drew1)|exact HB.out))) : w.heap.size ≤ gb508)); clear HO500; clear HO503; clear HB; have HO500 := n0_; have HO503 := n1_; have HB := n2_; have BK508 := n3_; have GW508 := n4_; have GE508 := n5_; clear n0_ n1_ n2_ n3_ n4_ n5_; clear hb hbox hg; obtain ⟨Ao14, co14, eo14⟩ := Kd.R_slice HO503.out; subst eo14; have hcz15_0 : w13.cell? ⟨gb508, 0, none⟩ = some (.slice none 0 0) := (blk_cell BK508.out 0).trans rfl; have hcz15_1 : w13.cell? ⟨gb508, 1, none⟩ = some (.bool false) := (blk_cell BK508.out 1).trans rfl; have hcz15_2 : w13.cell? ⟨gb508, 2, none⟩ = some (.string (⟨#[]⟩ : ByteArray)) := (blk_cell BK508.out 2).trans rfl; have hcz15_3 : w13.cell? ⟨gb508, 3, none⟩ = some (.string (⟨#[]⟩ : ByteArray)) := (blk_cell BK508.out 3).trans rfl; have hfz15_0 := blk_frozen BK508.out 0; have hfz15_1 := blk_frozen BK508.out 1; have hfz15_2 := blk_frozen BK508.out 2; have hfz15_3 := blk_frozen BK508.out 3))
 repeat (go_quiet (first|((with_reducible refine gate_dst (N := 28) rfl ?_); (try (refine gate_guard (by rfl) ?_; dsimp only)); refine Kd.R_lit k37 _ 37 ?hg (N := 28) ?hd (xs := ([(⟨(⟨#[120]⟩ : ByteArray), 0, false, 0, (⟨#[]⟩ : ByteArray)⟩ : S37)] : List (S37))) (inner := [.string (⟨#[120]⟩ : ByteArray), .int .i64 0, .bool false, .int .i64 0, .string (⟨#[]⟩ : ByteArray)]) (ok := fun _ => True) (okp := fun _ => True) ?hr ?hp (fun _ hk => hk) trivial (Below.refl _ _) (Nat.le_refl _) (by simp) ?_; (case hd => rfl); (case hg => rfl); (case hr => first|(go_simp; done)|(go_simp; rfl)); (case hp => exact (Reps.c5 (show Kd.M k37 _ _ _ (⟨(⟨#[120]⟩ : ByteArray), 0, false, 0, (⟨#[]⟩ : ByteArray)⟩ : S37) [.string (⟨#[120]⟩ : ByteArray), .int .i64 0, .bool false, .int .i64 0, .string (⟨#[]⟩ : ByteArray)] from (k37_mkM _ _ _ (⟨(⟨#[120]⟩ : ByteArray), 0, false, 0, (⟨#[]⟩ : ByteArray)⟩ : S37) )) (Reps.none _ _))); intro v496 w6 ho7 hb hg_ hnew_; clear hg_ hnew_; (first|rw [← Ny495.out] at ho7|(simp only [Int.reduceToNat] at ho7; rw [← Ny495.out] at ho7)); have n0_ := Aside0.mk (Kd.R_lower ho7 (below_size (by repeat (first|(with_reducible first|exact HB.out|apply below_alloc|apply pw_below_drewN|apply below_drew1)|exact HB.out)))); have n1_ := Aside0.mk (below_step (by repeat (first|(with_reducible first|exact HB.out|apply below_alloc|apply pw_below_drewN|apply below_drew1)|exact HB.out)) hb); clear HB; have HO497 := n0_; have HB := n1_; clear n0_ n1_; clear hb ho7; obtain ⟨Ao8, co8, eo8⟩ := Kd.R_slice HO497.out; subst eo8)|((with_reducible refine gate_dst (N := 30) rfl ?_); (try (refine gate_guard (by rfl) ?_; dsimp only)); refine Kd.N_lit k47 _ 47 ?hg (N' := 30) ?hd (xs := ([(⟨(⟨#[97]⟩ : ByteArray), y495⟩ : S47)] : List (S47))) (inner := [.string (⟨#[97]⟩ : ByteArray), .slice Ao8 y495.length co8]) (ok := (fun _ => True)) (okp := (fun _ => True)) ?hr ?hp (fun _ hk => hk) ((show ∀ k_, w6.heap.size ≤ k_ → (fun _ => True) k_ from fun k_ hk => trivial) _ (Nat.le_refl _)) (Below.refl _ _) (Nat.le_refl _) (by simp) ?_; (case hd => rfl); (case hg => rfl); (case hr => first|(go_simp; done)|(go_simp; rfl)); (case hp => exact (Reps.c2 (show Kd.FK k47 _ _ (⟨(⟨#[97]⟩ : ByteArray), y495⟩ : S47) [.string (⟨#[97]⟩ : ByteArray), .slice Ao8 y495.length co8] from (k47_mkF _ _ (⟨(⟨#[97]⟩ : ByteArray), y495⟩ : S47) (Kd.R_reads' (Kd.R_mono (ok' := (fun _ => True)) (HO497.out) (fun k_ hk => trivial))).2.1 (Kd.R_F (Kd.R_mono (ok' := (fun _ => True)) (HO497.out) (fun k_ hk => trivial))))) (Reps.none _ _))); intro v499 w9 ho10 hb hg_ hnew_; clear hg_ hnew_; (first|rw [← Ny498.out] at ho10|(simp only [Int.reduceToNat] at ho10; rw [← Ny498.out] at ho10)); have n0_ := Aside0.mk (Kd.N_lower ho10 (below_size (by repeat (first|(with_reducible first|exact HB.out|apply below_alloc|apply pw_below_drewN|apply below_drew1)|exact HB.out)))); have n1_ := Aside0.mk (below_step (by repeat (first|(with_reducible first|exact HB.out|apply below_alloc|apply pw_below_drewN|apply below_drew1)|exact HB.out)) hb); clear HB; clear HO497; have HO500 := n0_; have HB := n1_; clear n0_ n1_; clear hb ho10; obtain ⟨Ao11, co11, eo11⟩ := Kd.N_slice HO500.out; subst eo11)|(go_at_call 11; (with_reducible refine (listing_Keys.calls _ _ y498 (⟨#[]⟩ : ByteArray) (⟨#[]⟩ : ByteArray) (⟨#[]⟩ : ByteArray) 1 t501 t504 t505 t506 t507 _ ?side1 ?side2 ?side3 A4.out).mono ?_); (case side1 => first|exact HG.out|exact GM.below (by repeat (first|(with_reducible first|exact HB.out|apply below_alloc|apply pw_below_drewN|apply below_drew1)|exact HB.out)) HG.out|(repeat (first|exact HG.out|apply GM.drewN|apply GM.drew))); (case side2 => repeat (first|exact (Kd.N_reads' HO500.out).2.2|(with_reducible refine Kd.C_alloc ?_ _)|(with_reducible refine Kd.C_drewN ?_ _)|(with_reducible refine Kd.C_drew ?_))); (case side3 => exact (Kd.N_reads' HO500.out).2.1); rintro e w12 ⟨v502, rfl, ho0, hb⟩; have n0_ := Aside0.mk (Kd.N_elder' (by (with_reducible repeat (first|apply Kd.N_alloc|apply Kd.N_drewN|apply Kd.N_drew)); exact HO500.out) (Kd.R_base ho0) hb); have n1_ := Aside0.mk (Kd.R_lower ho0 (below_size (by repeat (first|(with_reducible first|exact HB.out|apply below_alloc|apply pw_below_drewN|apply below_drew1)|exact HB.out)))); have n2_ := Aside0.mk (below_step (by repeat (first|(with_reducible first|exact HB.out|apply below_alloc|apply pw_below_drewN|apply below_drew1)|exact HB.out)) hb); clear HO500; clear HB; have HO500 := n0_; have HO503 := n1_; have HB := n2_; clear n0_ n1_ n2_; (try clear hb); (try clear hb2); (try clear hk); (try clear hi); (try clear ho0))|((with_reducible refine gate_dst (N := 7) rfl ?_); (try (refine gate_guard (by rfl) ?_; dsimp only)); refine box_event ?hg (N := 7) ?hd (cs := #[.slice none 0 0, .bool false, .string (⟨#[]⟩ : ByteArray), .string (⟨#[]⟩ : ByteArray)]) (t := 28) ?hr ?_; (case hd => rfl); (case hg => rfl); (case hr => first|(go_simp; done)|(go_simp; rfl)); intro gb508 hg w13 hbox hb; have n0_ := Aside0.mk (Kd.N_below (Kd.N_elderB (by (with_reducible repeat (first|apply Kd.N_alloc|apply Kd.N_drewN|apply Kd.N_drew)); exact HO500.out) gb508 (Nat.le_of_eq hg.symm)) hb); have n1_ := Aside0.mk (Kd.R_below (by (with_reducible repeat (first|apply Kd.R_alloc|apply Kd.R_drewN|apply Kd.R_drew)); exact HO503.out) hb); have n2_ := Aside0.mk (below_step (by repeat (first|(with_reducible first|exact HB.out|apply below_alloc|apply pw_below_drewN|apply below_drew1)|exact HB.out)) hb); have n3_ := Aside0.mk (hbox); have n4_ := Aside0.mk ((by rw [hg]; exact (below_size (by repeat (first|(with_reducible first|exact HB.out|apply below_alloc|apply pw_below_drewN|apply below_drew1)|exact HB.out))) : w.heap.size ≤ gb508)); have n5_ := Aside0.mk ((by rw [hg]; exact (below_size (by repeat (first|(with_reducible first|exact HB.out|apply below_alloc|apply pw_below_drewN|apply below_drew1)|exact HB.out))) : w.heap.size ≤ gb508)); clear HO500; clear HO503; clear HB; have HO500 := n0_; have HO503 := n1_; have HB := n2_; have BK508 := n3_; have GW508 := n4_; have GE508 := n5_; clear n0_ n1_ n2_ n3_ n4_ n5_; clear hb hbox hg; obtain ⟨Ao14, co14, eo14⟩ := Kd.R_slice HO503.out; subst eo14; have hcz15_0 : w13.cell? ⟨gb508, 0, none⟩ = some (.slice none 0 0) := (blk_cell BK508.out 0).trans rfl; have hcz15_1 : w13.cell? ⟨gb508, 1, none⟩ = some (.bool false) := (blk_cell BK508.out 1).trans rfl; have hcz15_2 : w13.cell? ⟨gb508, 2, none⟩ = some (.string (⟨#[]⟩ : ByteArray)) := (blk_cell BK508.out 2).trans rfl; have hcz15_3 : w13.cell? ⟨gb508, 3, none⟩ = some (.string (⟨#[]⟩ : ByteArray)) := (blk_cell BK508.out 3).trans rfl; have hfz15_0 := blk_frozen BK508.out 0; have hfz15_1 := blk_frozen BK508.out 1; have hfz15_2 := blk_frozen BK508.out 2; have hfz15_3 := blk_frozen BK508.out 3)); go_upto_region 2 with (first|((with_reducible refine gate_dst (N := 28) rfl ?_); (try (refine gate_guard (by rfl) ?_; dsimp only)); refine Kd.R_lit k37 _ 37 ?hg (N := 28) ?hd (xs := ([(⟨(⟨#[120]⟩ : ByteArray), 0, false, 0, (⟨#[]⟩ : ByteArray)⟩ : S37)] : List (S37))) (inner := [.string (⟨#[120]⟩ : ByteArray), .int .i64 0, .bool false, .int .i64 0, .string (⟨#[]⟩ : ByteArray)]) (ok := fun _ => True) (okp := fun _ => True) ?hr ?hp (fun _ hk => hk) trivial (Below.refl _ _) (Nat.le_refl _) (by simp) ?_; (case hd => rfl); (case hg => rfl); (case hr => first|(go_simp; done)|(go_simp; rfl)); (case hp => exact (Reps.c5 (show Kd.M k37 _ _ _ (⟨(⟨#[120]⟩ : ByteArray), 0, false, 0, (⟨#[]⟩ : ByteArray)⟩ : S37) [.string (⟨#[120]⟩ : ByteArray), .int .i64 0, .bool false, .int .i64 0, .string (⟨#[]⟩ : ByteArray)] from (k37_mkM _ _ _ (⟨(⟨#[120]⟩ : ByteArray), 0, false, 0, (⟨#[]⟩ : ByteArray)⟩ : S37) )) (Reps.none _ _))); intro v496 w6 ho7 hb hg_ hnew_; clear hg_ hnew_; (first|rw [← Ny495.out] at ho7|(simp only [Int.reduceToNat] at ho7; rw [← Ny495.out] at ho7)); have n0_ := Aside0.mk (Kd.R_lower ho7 (below_size (by repeat (first|(with_reducible first|exact HB.out|apply below_alloc|apply pw_below_drewN|apply below_drew1)|exact HB.out)))); have n1_ := Aside0.mk (below_step (by repeat (first|(with_reducible first|exact HB.out|apply below_alloc|apply pw_below_drewN|apply below_drew1)|exact HB.out)) hb); clear HB; have HO497 := n0_; have HB := n1_; clear n0_ n1_; clear hb ho7; obtain ⟨Ao8, co8, eo8⟩ := Kd.R_slice HO497.out; subst eo8)|((with_reducible refine gate_dst (N := 30) rfl ?_); (try (refine gate_guard (by rfl) ?_; dsimp only)); refine Kd.N_lit k47 _ 47 ?hg (N' := 30) ?hd (xs := ([(⟨(⟨#[97]⟩ : ByteArray), y495⟩ : S47)] : List (S47))) (inner := [.string (⟨#[97]⟩ : ByteArray), .slice Ao8 y495.length co8]) (ok := (fun _ => True)) (okp := (fun _ => True)) ?hr ?hp (fun _ hk => hk) ((show ∀ k_, w6.heap.size ≤ k_ → (fun _ => True) k_ from fun k_ hk => trivial) _ (Nat.le_refl _)) (Below.refl _ _) (Nat.le_refl _) (by simp) ?_; (case hd => rfl); (case hg => rfl); (case hr => first|(go_simp; done)|(go_simp; rfl)); (case hp => exact (Reps.c2 (show Kd.FK k47 _ _ (⟨(⟨#[97]⟩ : ByteArray), y495⟩ : S47) [.string (⟨#[97]⟩ : ByteArray), .slice Ao8 y495.length co8] from (k47_mkF _ _ (⟨(⟨#[97]⟩ : ByteArray), y495⟩ : S47) (Kd.R_reads' (Kd.R_mono (ok' := (fun _ => True)) (HO497.out) (fun k_ hk => trivial))).2.1 (Kd.R_F (Kd.R_mono (ok' := (fun _ => True)) (HO497.out) (fun k_ hk => trivial))))) (Reps.none _ _))); intro v499 w9 ho10 hb hg_ hnew_; clear hg_ hnew_; (first|rw [← Ny498.out] at ho10|(simp only [Int.reduceToNat] at ho10; rw [← Ny498.out] at ho10)); have n0_ := Aside0.mk (Kd.N_lower ho10 (below_size (by repeat (first|(with_reducible first|exact HB.out|apply below_alloc|apply pw_below_drewN|apply below_drew1)|exact HB.out)))); have n1_ := Aside0.mk (below_step (by repeat (first|(with_reducible first|exact HB.out|apply below_alloc|apply pw_below_drewN|apply below_drew1)|exact HB.out)) hb); clear HB; clear HO497; have HO500 := n0_; have HB := n1_; clear n0_ n1_; clear hb ho10; obtain ⟨Ao11, co11, eo11⟩ := Kd.N_slice HO500.out; subst eo11)|(go_at_call 11; (with_reducible refine (listing_Keys.calls _ _ y498 (⟨#[]⟩ : ByteArray) (⟨#[]⟩ : ByteArray) (⟨#[]⟩ : ByteArray) 1 t501 t504 t505 t506 t507 _ ?side1 ?side2 ?side3 A4.out).mono ?_); (case side1 => first|exact HG.out|exact GM.below (by repeat (first|(with_reducible first|exact HB.out|apply below_alloc|apply pw_below_drewN|apply below_drew1)|exact HB.out)) HG.out|(repeat (first|exact HG.out|apply GM.drewN|apply GM.drew))); (case side2 => repeat (first|exact (Kd.N_reads' HO500.out).2.2|(with_reducible refine Kd.C_alloc ?_ _)|(with_reducible refine Kd.C_drewN ?_ _)|(with_reducible refine Kd.C_drew ?_))); (case side3 => exact (Kd.N_reads' HO500.out).2.1); rintro e w12 ⟨v502, rfl, ho0, hb⟩; have n0_ := Aside0.mk (Kd.N_elder' (by (with_reducible repeat (first|apply Kd.N_alloc|apply Kd.N_drewN|apply Kd.N_drew)); exact HO500.out) (Kd.R_base ho0) hb); have n1_ := Aside0.mk (Kd.R_lower ho0 (below_size (by repeat (first|(with_reducible first|exact HB.out|apply below_alloc|apply pw_below_drewN|apply below_drew1)|exact HB.out)))); have n2_ := Aside0.mk (below_step (by repeat (first|(with_reducible first|exact HB.out|apply below_alloc|apply pw_below_drewN|apply below_drew1)|exact HB.out)) hb); clear HO500; clear HB; have HO500 := n0_; have HO503 := n1_; have HB := n2_; clear n0_ n1_ n2_; (try clear hb); (try clear hb2); (try clear hk); (try clear hi); (try clear ho0))|((with_reducible refine gate_dst (N := 7) rfl ?_); (try (refine gate_guard (by rfl) ?_; dsimp only)); refine box_event ?hg (N := 7) ?hd (cs := #[.slice none 0 0, .bool false, .string (⟨#[]⟩ : ByteArray), .string (⟨#[]⟩ : ByteArray)]) (t := 28) ?hr ?_; (case hd => rfl); (case hg => rfl); (case hr => first|(go_simp; done)|(go_simp; rfl)); intro gb508 hg w13 hbox hb; have n0_ := Aside0.mk (Kd.N_below (Kd.N_elderB (by (with_reducible repeat (first|apply Kd.N_alloc|apply Kd.N_drewN|apply Kd.N_drew)); exact HO500.out) gb508 (Nat.le_of_eq hg.symm)) hb); have n1_ := Aside0.mk (Kd.R_below (by (with_reducible repeat (first|apply Kd.R_alloc|apply Kd.R_drewN|apply Kd.R_drew)); exact HO503.out) hb); have n2_ := Aside0.mk (below_step (by repeat (first|(with_reducible first|exact HB.out|apply below_alloc|apply pw_below_drewN|apply below_drew1)|exact HB.out)) hb); have n3_ := Aside0.mk (hbox); have n4_ := Aside0.mk ((by rw [hg]; exact (below_size (by repeat (first|(with_reducible first|exact HB.out|apply below_alloc|apply pw_below_drewN|apply below_drew1)|exact HB.out))) : w.heap.size ≤ gb508)); have n5_ := Aside0.mk ((by rw [hg]; exact (below_size (by repeat (first|(with_reducible first|exact HB.out|apply below_alloc|apply pw_below_drewN|apply below_drew1)|exact HB.out))) : w.heap.size ≤ gb508)); clear HO500; clear HO503; clear HB; have HO500 := n0_; have HO503 := n1_; have HB := n2_; have BK508 := n3_; have GW508 := n4_; have GE508 := n5_; clear n0_ n1_ n2_ n3_ n4_ n5_; clear hb hbox hg; obtain ⟨Ao14, co14, eo14⟩ := Kd.R_slice HO503.out; subst eo14; have hcz15_0 : w13.cell? ⟨gb508, 0, none⟩ = some (.slice none 0 0) := (blk_cell BK508.out 0).trans rfl; have hcz15_1 : w13.cell? ⟨gb508, 1, none⟩ = some (.bool false) := (blk_cell BK508.out 1).trans rfl; have hcz15_2 : w13.cell? ⟨gb508, 2, none⟩ = some (.string (⟨#[]⟩ : ByteArray)) := (blk_cell BK508.out 2).trans rfl; have hcz15_3 : w13.cell? ⟨gb508, 3, none⟩ = some (.string (⟨#[]⟩ : ByteArray)) := (blk_cell BK508.out 3).trans rfl; have hfz15_0 := blk_frozen BK508.out 0; have hfz15_1 := blk_frozen BK508.out 1; have hfz15_2 := blk_frozen BK508.out 2; have hfz15_3 := blk_frozen BK508.out 3)))
 (try simp only [Act.put, List.setIfInBounds_toArray, List.set_cons_zero, List.set_cons_succ])
 go_cut [9] (fun v9 wc => ∃ (kq : Nat) (x9_4 : Bool), v9 = .bool x9_4 ∧ Aside0 (stowagetop_TopSteady.j0 kq l0 a1 a2 x9_4 = some r) ∧ Aside0 (kq ≤ k) ∧ Aside0 (Kd.R k39 39 wc w.heap.size (fun _ => True) (.slice Ao14 t501.length co14) t501) ∧ Aside0 (wc.heap[gb508]? = some (.cells #[(.slice Ao14 t501.length co14), .bool t504, .string t505, .string t506] 28 (0, 0))) ∧ Aside0 (Below w.heap.size w wc))
 case first =>
  have H := HC5.out
  clear HC5
  by_cases c16 : t507 = 0
  ·rw [if_pos c16] at H
   have c16b0 : (t507 == 0) = true := beq_iff_eq.mpr c16
   have c16b1 : (t507 != 0) = false := bne_eq_false_iff_eq.mpr c16
   clear c16
   (first|rw [c16b0]|(simp only [i64_w, i32_w]; rw [c16b0])|skip)
   as_aux_lemma =>
    have H' := Aside0.mk H
    clear H
    have hcz17_0 : w13.cell? ⟨gb508, 0, none⟩ = some (.slice none 0 0) := (blk_cell BK508.out 0).trans rfl
    have hcz17_1 : w13.cell? ⟨gb508, 1, none⟩ = some (.bool false) := (blk_cell BK508.out 1).trans rfl
    have hcz17_2 : w13.cell? ⟨gb508, 2, none⟩ = some (.string (⟨#[]⟩ : ByteArray)) := (blk_cell BK508.out 2).trans rfl
    have hcz17_3 : w13.cell? ⟨gb508, 3, none⟩ = some (.string (⟨#[]⟩ : ByteArray)) := (blk_cell BK508.out 3).trans rfl
    have hfz17_0 := blk_frozen BK508.out 0
    have hfz17_1 := blk_frozen BK508.out 1
    have hfz17_2 := blk_frozen BK508.out 2
    have hfz17_3 := blk_frozen BK508.out 3
    go_wp2
    repeat (go_quiet (fail); try go_wp2)
    go_meet
    case rel => exact ⟨_, (((t501.length : Int) == 1)), (by first|rfl|(simp; done)|(simp [*]; done)), H', ⟨by first|omega|exact Nat.le_refl _⟩, ⟨by (with_reducible repeat (first|apply Kd.R_alloc|apply Kd.R_drewN|apply Kd.R_drew)); exact Kd.R_mono (Kd.R_far (p := ⟨gb508, 3, none⟩) (Kd.R_far (p := ⟨gb508, 2, none⟩) (Kd.R_far (p := ⟨gb508, 1, none⟩) (Kd.R_far (p := ⟨gb508, 0, none⟩) (Kd.R_types HO503.out BK508.out (by decide)) (fun _ hk => hk.2) (.slice Ao14 t501.length co14)) (fun _ hk => hk.2) (.bool t504)) (fun _ hk => hk.2) (.string t505)) (fun _ hk => hk.2) (.string t506)) (fun _ hk => trivial)⟩, ⟨by (with_reducible repeat (first|refine blk_drewN ?_ _|refine blk_drew ?_|refine blk_alloc ?_ _)); refine blk_put (cs := #[.slice Ao14 t501.length co14, .bool t504, .string t505, .string (⟨#[]⟩ : ByteArray)]) ?_ 3 _ rfl; (with_reducible repeat (first|refine blk_drewN ?_ _|refine blk_drew ?_|refine blk_alloc ?_ _)); refine blk_put (cs := #[.slice Ao14 t501.length co14, .bool t504, .string (⟨#[]⟩ : ByteArray), .string (⟨#[]⟩ : ByteArray)]) ?_ 2 _ rfl; (with_reducible repeat (first|refine blk_drewN ?_ _|refine blk_drew ?_|refine blk_alloc ?_ _)); refine blk_put (cs := #[.slice Ao14 t501.length co14, .bool false, .string (⟨#[]⟩ : ByteArray), .string (⟨#[]⟩ : ByteArray)]) ?_ 1 _ rfl; (with_reducible repeat (first|refine blk_drewN ?_ _|refine blk_drew ?_|refine blk_alloc ?_ _)); refine blk_put (cs := #[.slice none 0 0, .bool false, .string (⟨#[]⟩ : ByteArray), .string (⟨#[]⟩ : ByteArray)]) ?_ 0 _ rfl; (with_reducible repeat (first|refine blk_drewN ?_ _|refine blk_drew ?_|refine blk_alloc ?_ _)); exact BK508.out⟩, ⟨by repeat (first|(with_reducible first|exact HB.out|apply below_alloc|apply pw_below_drewN|apply below_drew1|refine below_set ?_ GE508.out)|exact HB.out)⟩⟩
  ·rw [if_neg c16] at H
   have c16b0 : (t507 == 0) = false := beq_eq_false_iff_ne.mpr c16
   have c16b1 : (t507 != 0) = true := bne_iff_ne.mpr c16
   (first|rw [c16b0]|(simp only [i64_w, i32_w]; rw [c16b0])|skip)
   as_aux_lemma =>
    have H' := Aside0.mk H
    clear H
    go_wp2
    repeat (go_quiet (fail); try go_wp2)
    go_meet
    case rel => exact ⟨_, (false), (by first|rfl|(simp; done)|(simp [*]; done)), H', ⟨by first|omega|exact Nat.le_refl _⟩, ⟨by (with_reducible repeat (first|apply Kd.R_alloc|apply Kd.R_drewN|apply Kd.R_drew)); exact Kd.R_mono (Kd.R_far (p := ⟨gb508, 3, none⟩) (Kd.R_far (p := ⟨gb508, 2, none⟩) (Kd.R_far (p := ⟨gb508, 1, none⟩) (Kd.R_far (p := ⟨gb508, 0, none⟩) (Kd.R_types HO503.out BK508.out (by decide)) (fun _ hk => hk.2) (.slice Ao14 t501.length co14)) (fun _ hk => hk.2) (.bool t504)) (fun _ hk => hk.2) (.string t505)) (fun _ hk => hk.2) (.string t506)) (fun _ hk => trivial)⟩, ⟨by (with_reducible repeat (first|refine blk_drewN ?_ _|refine blk_drew ?_|refine blk_alloc ?_ _)); refine blk_put (cs := #[.slice Ao14 t501.length co14, .bool t504, .string t505, .string (⟨#[]⟩ : ByteArray)]) ?_ 3 _ rfl; (with_reducible repeat (first|refine blk_drewN ?_ _|refine blk_drew ?_|refine blk_alloc ?_ _)); refine blk_put (cs := #[.slice Ao14 t501.length co14, .bool t504, .string (⟨#[]⟩ : ByteArray), .string (⟨#[]⟩ : ByteArray)]) ?_ 2 _ rfl; (with_reducible repeat (first|refine blk_drewN ?_ _|refine blk_drew ?_|refine blk_alloc ?_ _)); refine blk_put (cs := #[.slice Ao14 t501.length co14, .bool false, .string (⟨#[]⟩ : ByteArray), .string (⟨#[]⟩ : ByteArray)]) ?_ 1 _ rfl; (with_reducible repeat (first|refine blk_drewN ?_ _|refine blk_drew ?_|refine blk_alloc ?_ _)); refine blk_put (cs := #[.slice none 0 0, .bool false, .string (⟨#[]⟩ : ByteArray), .string (⟨#[]⟩ : ByteArray)]) ?_ 0 _ rfl; (with_reducible repeat (first|refine blk_drewN ?_ _|refine blk_drew ?_|refine blk_alloc ?_ _)); exact BK508.out⟩, ⟨by repeat (first|(with_reducible first|exact HB.out|apply below_alloc|apply pw_below_drewN|apply below_drew1|refine below_set ?_ GE508.out)|exact HB.out)⟩⟩
 case rest =>
  clear HC5
  try clear c1
  try clear c2
  try clear p2
  try clear c5
  try clear c7
  try clear c16
  try clear c16b0
  try clear c16b1
  try clear hcz15_0
  try clear hcz15_1
  try clear hcz15_2
  try clear hcz15_3
  try clear hcz17_0
  try clear hcz17_1
  try clear hcz17_2
  try clear hcz17_3
  try clear hfz15_0
  try clear hfz15_1
  try clear hfz15_2
  try clear hfz15_3
  try clear hfz17_0
  try clear hfz17_1
  try clear hfz17_2
  try clear hfz17_3
  obtain ⟨kq, x9_4, rfl, HA, HJ4, HO_509000, BK508, HB⟩ := hcut
  cases kq with
  | zero => exact absurd HA.out (by simp [stowagetop_TopSteady.j0])
  | succ kj4 =>
   have H := HA.out
   clear HA
   simp only [stowagetop_TopSteady.j0] at H
   have HC18 := Aside0.mk H
   clear H
   go_upto_region 3 with (fail)
   repeat (go_quiet (fail); go_upto_region 3 with (fail))
   go_cut [54] (fun v54 wc => ∃ (kq : Nat) (x54_17 : Bool), v54 = .bool x54_17 ∧ Aside0 (stowagetop_TopSteady.j1 kq l0 a1 a2 x9_4 x54_17 = some r) ∧ Aside0 (kq ≤ kj4) ∧ Aside0 (Kd.R k39 39 wc w.heap.size (fun _ => True) (.slice Ao14 t501.length co14) t501) ∧ Aside0 (wc.heap[gb508]? = some (.cells #[(.slice Ao14 t501.length co14), .bool t504, .string t505, .string t506] 28 (0, 0))) ∧ Aside0 (Below w.heap.size w wc))
   case first =>
    have H := HC18.out
    clear HC18
    by_cases c19 : (l0.length : Int) = 0
    ·rw [if_pos c19] at H
     have c19b0 : ((l0.length : Int) == 0) = true := beq_iff_eq.mpr c19
     have c19b1 : ((l0.length : Int) != 0) = false := bne_eq_false_iff_eq.mpr c19
     clear c19
     (first|rw [c19b0]|(simp only [i64_w, i32_w]; rw [c19b0])|skip)
     as_aux_lemma =>
      have H' := Aside0.mk H
      clear H
      go_wp2
      repeat (go_quiet (fail); try go_wp2)
      go_meet
      case rel => exact ⟨_, (true), (by first|rfl|(simp; done)|(simp [*]; done)), H', ⟨by have := HJ4.out; first|omega|exact Nat.le_refl _⟩, ⟨by (with_reducible repeat (first|apply Kd.R_alloc|apply Kd.R_drewN|apply Kd.R_drew)); exact HO_509000.out⟩, ⟨by (with_reducible repeat (first|refine blk_drewN ?_ _|refine blk_drew ?_|refine blk_alloc ?_ _)); exact BK508.out⟩, ⟨by repeat (first|(with_reducible first|exact HB.out|apply below_alloc|apply pw_below_drewN|apply below_drew1|refine below_set ?_ GE508.out)|exact HB.out)⟩⟩
    ·rw [if_neg c19] at H
     have c19b0 : ((l0.length : Int) == 0) = false := beq_eq_false_iff_ne.mpr c19
     have c19b1 : ((l0.length : Int) != 0) = true := bne_iff_ne.mpr c19
     have c19b2 : ¬ (l0 = []) := fun h_ => c19 (by rw [h_]; rfl)
     (first|rw [c19b0]|(simp only [i64_w, i32_w]; rw [c19b0])|skip)
     by_cases c20 : (l0.length : Int) > 12
     ·rw [if_pos c20] at H
      have c20b0 : decide (12 < (l0.length : Int)) = true := decide_eq_true c20
      have c20b1 : decide (12 < l0.length) = true := decide_eq_true (by omega)
      clear c20
      as_aux_lemma =>
       have H' := Aside0.mk H
       clear H
       go_wp2
       repeat (go_quiet (fail); try go_wp2)
       go_meet
       case rel => exact ⟨_, (true), (by first|rfl|(simp; done)|(simp [*]; done)), H', ⟨by have := HJ4.out; first|omega|exact Nat.le_refl _⟩, ⟨by (with_reducible repeat (first|apply Kd.R_alloc|apply Kd.R_drewN|apply Kd.R_drew)); exact HO_509000.out⟩, ⟨by (with_reducible repeat (first|refine blk_drewN ?_ _|refine blk_drew ?_|refine blk_alloc ?_ _)); exact BK508.out⟩, ⟨by repeat (first|(with_reducible first|exact HB.out|apply below_alloc|apply pw_below_drewN|apply below_drew1|refine below_set ?_ GE508.out)|exact HB.out)⟩⟩
     ·rw [if_neg c20] at H
      have c20b0 : decide (12 < (l0.length : Int)) = false := decide_eq_false c20
      have c20b1 : decide (12 < l0.length) = false := decide_eq_false (by omega)
      clear c20
      as_aux_lemma =>
       have H' := Aside0.mk H
       clear H
       go_wp2
       repeat (go_quiet (fail); try go_wp2)
       go_meet
       case rel => exact ⟨_, (decide ((a1.size : Int) > 400)), (by first|rfl|(simp; done)|(simp [*]; done)), H', ⟨by have := HJ4.out; first|omega|exact Nat.le_refl _⟩, ⟨by (with_reducible repeat (first|apply Kd.R_alloc|apply Kd.R_drewN|apply Kd.R_drew)); exact HO_509000.out⟩, ⟨by (with_reducible repeat (first|refine blk_drewN ?_ _|refine blk_drew ?_|refine blk_alloc ?_ _)); exact BK508.out⟩, ⟨by repeat (first|(with_reducible first|exact HB.out|apply below_alloc|apply pw_below_drewN|apply below_drew1|refine below_set ?_ GE508.out)|exact HB.out)⟩⟩
   case rest =>
    clear HC18
    try clear c1
    try clear c2
    try clear p2
    try clear c5
    try clear c7
    try clear c16
    try clear c16b0
    try clear c16b1
    try clear c19
    try clear c19b0
    try clear c19b1
    try clear c19b2
    try clear c20
    try clear c20b0
    try clear c20b1
    try clear hcz15_0
    try clear hcz15_1
    try clear hcz15_2
    try clear hcz15_3
    try clear hcz17_0
    try clear hcz17_1
    try clear hcz17_2
    try clear hcz17_3
    try clear hfz15_0
    try clear hfz15_1
    try clear hfz15_2
    try clear hfz15_3
    try clear hfz17_0
    try clear hfz17_1
    try clear hfz17_2
    try clear hfz17_3
    try clear p2
    obtain ⟨kq, x54_17, rfl, HA, HJ17, HO_509000, BK508, HB⟩ := hcut
    cases kq with
    | zero => exact absurd HA.out (by simp [stowagetop_TopSteady.j1])
    | succ kj17 =>
     have H := HA.out
     clear HA
     simp only [stowagetop_TopSteady.j1] at H
     by_cases c21 : x54_17 = true
     ·subst c21
      have H1 : (some x9_4) = some r := by rw [if_pos rfl] at H; exact H
      clear H
      have H := H1
      clear H1
      as_aux_lemma =>
       obtain rfl := Option.some.inj H
       go_wp2
       repeat (go_quiet (fail); try go_wp2)
       go_ret
       exact ⟨by first|rfl|(simp [errW_none, errW_some] <;> rfl)|(simp [*, errW_none, errW_some] <;> rfl), by repeat (first|(with_reducible first|exact HB.out|apply below_alloc|apply pw_below_drewN|apply below_drew1|refine below_set ?_ GE508.out)|exact HB.out)⟩
     ·replace c21 := Bool.eq_false_iff.mpr c21
      subst c21
      have H1 : (stowagetop_TopSteady.l0 kj17 l0 a1 a2 x9_4 0) = some r := by rw [if_neg (show ¬ (false = true) by decide)] at H; exact H
      clear H
      have H := H1
      clear H1
      have H' := Aside0.mk H
      clear H
      go_wp2
      repeat (go_quiet (fail); try go_wp2)
      go_loopg [10] kj17 (fun kq v10 w' => ∃ (x10_3 : Int), v10 = .int .i64 x10_3 ∧ Aside0 (stowagetop_TopSteady.l0 kq l0 a1 a2 x9_4 x10_3 = some r) ∧ Aside0 (kq ≤ kj17) ∧ Aside0 (Kd.R k39 39 w' w.heap.size (fun _ => True) (.slice Ao14 t501.length co14) t501) ∧ Aside0 (w'.heap[gb508]? = some (.cells #[(.slice Ao14 t501.length co14), .bool t504, .string t505, .string t506] 28 (0, 0))) ∧ Aside0 (Below w.heap.size w w'))
      case atStart => exact ⟨(0), (by first|rfl|(simp; done)|(simp [*]; done)), H', ⟨Nat.le_refl _⟩, ⟨by (with_reducible repeat (first|apply Kd.R_alloc|apply Kd.R_drewN|apply Kd.R_drew)); exact HO_509000.out⟩, ⟨by (with_reducible repeat (first|refine blk_drewN ?_ _|refine blk_drew ?_|refine blk_alloc ?_ _)); exact BK508.out⟩, ⟨by repeat (first|(with_reducible first|exact HB.out|apply below_alloc|apply pw_below_drewN|apply below_drew1|refine below_set ?_ GE508.out)|exact HB.out)⟩⟩
      case round =>
       clear H'
       try clear c1
       try clear c2
       try clear p2
       try clear c5
       try clear c7
       try clear c16
       try clear c16b0
       try clear c16b1
       try clear c19
       try clear c19b0
       try clear c19b1
       try clear c19b2
       try clear c20
       try clear c20b0
       try clear c20b1
       try clear c21
       try clear hcz15_0
       try clear hcz15_1
       try clear hcz15_2
       try clear hcz15_3
       try clear hcz17_0
       try clear hcz17_1
       try clear hcz17_2
       try clear hcz17_3
       try clear hfz15_0
       try clear hfz15_1
       try clear hfz15_2
       try clear hfz15_3
       try clear hfz17_0
       try clear hfz17_1
       try clear hfz17_2
       try clear hfz17_3
       try clear p2
       obtain ⟨x10_3, rfl, HA, HK3, HO_509000, BK508, HB⟩ := hrel
       cases gk with
       | zero => exact absurd HA.out (by simp [stowagetop_TopSteady.l0])
       | succ k3 =>
        have H := HA.out
        clear HA
        simp only [stowagetop_TopSteady.l0] at H
        by_cases c22 : x10_3 < (l0.length : Int)
        ·rw [if_pos c22] at H
         have c22b0 : decide (x10_3 < (l0.length : Int)) = true := decide_eq_true c22
         clear c22
         have HC23 := Aside0.mk H
         clear H
         go_upto_region 8 with (fail)
         repeat (go_quiet (fail); go_upto_region 8 with (fail))
         go_cut [74] (fun v74 wc => ∃ (kq : Nat) (x74_22 : Bool), v74 = .bool x74_22 ∧ Aside0 (stowagetop_TopSteady.j3 kq l0 a1 a2 x9_4 x10_3 x74_22 = some r) ∧ Aside0 (kq ≤ k3) ∧ Aside0 (Kd.R k39 39 wc w.heap.size (fun _ => True) (.slice Ao14 t501.length co14) t501) ∧ Aside0 (wc.heap[gb508]? = some (.cells #[(.slice Ao14 t501.length co14), .bool t504, .string t505, .string t506] 28 (0, 0))) ∧ Aside0 (Below w.heap.size w wc))
         case first =>
          have H := HC23.out
          clear HC23
          by_cases c24 : 0 ≤ x10_3
          ·rw [if_pos c24] at H
           have c24b0 : decide (0 ≤ x10_3) = true := decide_eq_true c24
           clear c24
           (first|rw [c24b0]|(simp only [i64_w, i32_w]; rw [c24b0])|skip)
           replace H := Option.bind_eq_some_iff.mp H
           obtain ⟨t510, A250, H⟩ := H
           replace H : (if t510 = true then (stowagetop_TopSteady.j3 k3 l0 a1 a2 x9_4 x10_3 true) else ((listing_Check.f k3 (rd_L6 l0 x10_3)).bind fun t512 => (stowagetop_TopSteady.j3 k3 l0 a1 a2 x9_4 x10_3 (t512 != 0)))) = some r := H
           have A25 := Aside0.mk A250
           clear A250
           by_cases c26 : t510 = true
           ·subst c26
            have H1 : (stowagetop_TopSteady.j3 k3 l0 a1 a2 x9_4 x10_3 true) = some r := by rw [if_pos rfl] at H; exact H
            clear H
            have H := H1
            clear H1
            as_aux_lemma =>
             have H' := Aside0.mk H
             clear H
             have p509 : 0 ≤ (x10_3 : Int) := of_decide_eq_true (by first|(with_reducible assumption)|assumption)
             have q509 : x10_3 < (l0.length : Int) := of_decide_eq_true (by first|(with_reducible assumption)|assumption)
             obtain ⟨ad509, A509_0, c509_0, e509, hx509_0, hl509_0, hi509_0⟩ := at_L6 HR0.out x10_3 p509 q509
             cases e509
             replace hx509_0 := (HB.out.cell (World.block_lt_of_cell? w _ hx509_0)).trans hx509_0
             have HR509_0 := Aside0.mk hi509_0
             have HC509_0 := Aside0.mk hl509_0
             clear hi509_0 hl509_0
             replace p509 := eq_true p509
             replace q509 := eq_true q509
             go_wp2_with (first|(go_at_call 8; (with_reducible refine (stowagekit_LargeEntries.calls k3 _ _ (rd_L6 l0 x10_3) true _ ?side1 ?side2 A25.out).mono ?_); (case side1 => repeat (first|exact (Kd.C_below HR509_0.out HB.out)|(with_reducible refine Kd.C_alloc ?_ _)|(with_reducible refine Kd.C_drewN ?_ _)|(with_reducible refine Kd.C_drew ?_))); (case side2 => exact HC509_0.out); rintro e w' ⟨rfl, ⟨nd, rfl⟩⟩; (try first|exact ⟨rfl, _, World.drewN_drewN _ _ _⟩|exact ⟨rfl, _, Eq.trans (World.drewN_drewN _ _ _) (congrArg (World.drewN _) (Nat.add_assoc _ _ _))⟩)))
             repeat (go_quiet (first|(go_at_call 8; (with_reducible refine (stowagekit_LargeEntries.calls k3 _ _ (rd_L6 l0 x10_3) true _ ?side1 ?side2 A25.out).mono ?_); (case side1 => repeat (first|exact (Kd.C_below HR509_0.out HB.out)|(with_reducible refine Kd.C_alloc ?_ _)|(with_reducible refine Kd.C_drewN ?_ _)|(with_reducible refine Kd.C_drew ?_))); (case side2 => exact HC509_0.out); rintro e w' ⟨rfl, ⟨nd, rfl⟩⟩; (try first|exact ⟨rfl, _, World.drewN_drewN _ _ _⟩|exact ⟨rfl, _, Eq.trans (World.drewN_drewN _ _ _) (congrArg (World.drewN _) (Nat.add_assoc _ _ _))⟩))); try go_wp2_with (first|(go_at_call 8; (with_reducible refine (stowagekit_LargeEntries.calls k3 _ _ (rd_L6 l0 x10_3) true _ ?side1 ?side2 A25.out).mono ?_); (case side1 => repeat (first|exact (Kd.C_below HR509_0.out HB.out)|(with_reducible refine Kd.C_alloc ?_ _)|(with_reducible refine Kd.C_drewN ?_ _)|(with_reducible refine Kd.C_drew ?_))); (case side2 => exact HC509_0.out); rintro e w' ⟨rfl, ⟨nd, rfl⟩⟩; (try first|exact ⟨rfl, _, World.drewN_drewN _ _ _⟩|exact ⟨rfl, _, Eq.trans (World.drewN_drewN _ _ _) (congrArg (World.drewN _) (Nat.add_assoc _ _ _))⟩))))
             go_meet
             case rel => exact ⟨_, (true), (by first|rfl|(simp; done)|(simp [*]; done)), H', ⟨by have := HJ4.out; have := HJ17.out; have := HK3.out; first|omega|exact Nat.le_refl _⟩, ⟨by (with_reducible repeat (first|apply Kd.R_alloc|apply Kd.R_drewN|apply Kd.R_drew)); exact HO_509000.out⟩, ⟨by (with_reducible repeat (first|refine blk_drewN ?_ _|refine blk_drew ?_|refine blk_alloc ?_ _)); exact BK508.out⟩, ⟨by repeat (first|(with_reducible first|exact HB.out|apply below_alloc|apply pw_below_drewN|apply below_drew1|refine below_set ?_ GE508.out)|exact HB.out)⟩⟩
           ·replace c26 := Bool.eq_false_iff.mpr c26
            subst c26
            have H1 : ((listing_Check.f k3 (rd_L6 l0 x10_3)).bind fun t512 => (stowagetop_TopSteady.j3 k3 l0 a1 a2 x9_4 x10_3 (t512 != 0))) = some r := by rw [if_neg (show ¬ (false = true) by decide)] at H; exact H
            clear H
            have H := H1
            clear H1
            replace H := Option.bind_eq_some_iff.mp H
            obtain ⟨t512, A270, H⟩ := H
            replace H : (stowagetop_TopSteady.j3 k3 l0 a1 a2 x9_4 x10_3 (t512 != 0)) = some r := H
            have A27 := Aside0.mk A270
            clear A270
            as_aux_lemma =>
             have H' := Aside0.mk H
             clear H
             have p509 : 0 ≤ (x10_3 : Int) := of_decide_eq_true (by first|(with_reducible assumption)|assumption)
             have q509 : x10_3 < (l0.length : Int) := of_decide_eq_true (by first|(with_reducible assumption)|assumption)
             obtain ⟨ad509, A509_0, c509_0, e509, hx509_0, hl509_0, hi509_0⟩ := at_L6 HR0.out x10_3 p509 q509
             cases e509
             replace hx509_0 := (HB.out.cell (World.block_lt_of_cell? w _ hx509_0)).trans hx509_0
             have HR509_0 := Aside0.mk hi509_0
             have HC509_0 := Aside0.mk hl509_0
             clear hi509_0 hl509_0
             replace p509 := eq_true p509
             replace q509 := eq_true q509
             go_wp2_with (first|(go_at_call 8; (with_reducible refine (stowagekit_LargeEntries.calls k3 _ _ (rd_L6 l0 x10_3) false _ ?side1 ?side2 A25.out).mono ?_); (case side1 => repeat (first|exact (Kd.C_below HR509_0.out HB.out)|(with_reducible refine Kd.C_alloc ?_ _)|(with_reducible refine Kd.C_drewN ?_ _)|(with_reducible refine Kd.C_drew ?_))); (case side2 => exact HC509_0.out); rintro e w' ⟨rfl, ⟨nd, rfl⟩⟩; (try first|exact ⟨rfl, _, World.drewN_drewN _ _ _⟩|exact ⟨rfl, _, Eq.trans (World.drewN_drewN _ _ _) (congrArg (World.drewN _) (Nat.add_assoc _ _ _))⟩); have p511 : 0 ≤ (x10_3 : Int) := of_decide_eq_true (by first|(with_reducible assumption)|assumption); have q511 : x10_3 < (l0.length : Int) := of_decide_eq_true (by first|(with_reducible assumption)|assumption); obtain ⟨ad511, A511_0, c511_0, e511, hx511_0, hl511_0, hi511_0⟩ := at_L6 HR0.out x10_3 p511 q511; obtain rfl : ad509 = ad511 := (by injection e511); replace hx511_0 := (HB.out.cell (World.block_lt_of_cell? w _ hx511_0)).trans hx511_0; have HR511_0 := Aside0.mk hi511_0; have HC511_0 := Aside0.mk hl511_0; clear hi511_0 hl511_0; replace p511 := eq_true p511; replace q511 := eq_true q511; have ea_ := Option.some.inj (hx509_0.symm.trans hx511_0); injection ea_ with ea_ en_ ec_; subst ea_; subst ec_; clear en_)|(go_at_call 16; (with_reducible refine (listing_Check.calls k3 _ _ (rd_L6 l0 x10_3) t512 _ ?side1 ?side2 A27.out).mono ?_); (case side1 => repeat (first|exact (Kd.C_below HR511_0.out (by repeat (first|(with_reducible first|exact HB.out|apply below_alloc|apply pw_below_drewN|apply below_drew1|refine below_set ?_ GE508.out)|exact HB.out)))|(with_reducible refine Kd.C_alloc ?_ _)|(with_reducible refine Kd.C_drewN ?_ _)|(with_reducible refine Kd.C_drew ?_))); (case side2 => exact HC511_0.out); rintro e w28 ⟨rfl, hb⟩; have n0_ := Aside0.mk (Kd.R_below (by (with_reducible repeat (first|apply Kd.R_alloc|apply Kd.R_drewN|apply Kd.R_drew)); exact HO_509000.out) hb); have n1_ := Aside0.mk (blk_below (g := gb508) (o := .cells #[.slice Ao14 t501.length co14, .bool t504, .string t505, .string t506] 28 (0, 0)) (by (with_reducible repeat (first|refine blk_drewN ?_ _|refine blk_drew ?_|refine blk_alloc ?_ _)); exact BK508.out) hb); have n2_ := Aside0.mk (below_step (by repeat (first|(with_reducible first|exact HB.out|apply below_alloc|apply pw_below_drewN|apply below_drew1|refine below_set ?_ GE508.out)|exact HB.out)) hb); clear HO_509000; clear BK508; clear HB; have HO_509000 := n0_; have BK508 := n1_; have HB := n2_; clear n0_ n1_ n2_; (try clear hb); (try clear hb2); (try clear hk); (try clear hi)))
             repeat (go_quiet (first|(go_at_call 8; (with_reducible refine (stowagekit_LargeEntries.calls k3 _ _ (rd_L6 l0 x10_3) false _ ?side1 ?side2 A25.out).mono ?_); (case side1 => repeat (first|exact (Kd.C_below HR509_0.out HB.out)|(with_reducible refine Kd.C_alloc ?_ _)|(with_reducible refine Kd.C_drewN ?_ _)|(with_reducible refine Kd.C_drew ?_))); (case side2 => exact HC509_0.out); rintro e w' ⟨rfl, ⟨nd, rfl⟩⟩; (try first|exact ⟨rfl, _, World.drewN_drewN _ _ _⟩|exact ⟨rfl, _, Eq.trans (World.drewN_drewN _ _ _) (congrArg (World.drewN _) (Nat.add_assoc _ _ _))⟩); have p511 : 0 ≤ (x10_3 : Int) := of_decide_eq_true (by first|(with_reducible assumption)|assumption); have q511 : x10_3 < (l0.length : Int) := of_decide_eq_true (by first|(with_reducible assumption)|assumption); obtain ⟨ad511, A511_0, c511_0, e511, hx511_0, hl511_0, hi511_0⟩ := at_L6 HR0.out x10_3 p511 q511; obtain rfl : ad509 = ad511 := (by injection e511); replace hx511_0 := (HB.out.cell (World.block_lt_of_cell? w _ hx511_0)).trans hx511_0; have HR511_0 := Aside0.mk hi511_0; have HC511_0 := Aside0.mk hl511_0; clear hi511_0 hl511_0; replace p511 := eq_true p511; replace q511 := eq_true q511; have ea_ := Option.some.inj (hx509_0.symm.trans hx511_0); injection ea_ with ea_ en_ ec_; subst ea_; subst ec_; clear en_)|(go_at_call 16; (with_reducible refine (listing_Check.calls k3 _ _ (rd_L6 l0 x10_3) t512 _ ?side1 ?side2 A27.out).mono ?_); (case side1 => repeat (first|exact (Kd.C_below HR511_0.out (by repeat (first|(with_reducible first|exact HB.out|apply below_alloc|apply pw_below_drewN|apply below_drew1|refine below_set ?_ GE508.out)|exact HB.out)))|(with_reducible refine Kd.C_alloc ?_ _)|(with_reducible refine Kd.C_drewN ?_ _)|(with_reducible refine Kd.C_drew ?_))); (case side2 => exact HC511_0.out); rintro e w28 ⟨rfl, hb⟩; have n0_ := Aside0.mk (Kd.R_below (by (with_reducible repeat (first|apply Kd.R_alloc|apply Kd.R_drewN|apply Kd.R_drew)); exact HO_509000.out) hb); have n1_ := Aside0.mk (blk_below (g := gb508) (o := .cells #[.slice Ao14 t501.length co14, .bool t504, .string t505, .string t506] 28 (0, 0)) (by (with_reducible repeat (first|refine blk_drewN ?_ _|refine blk_drew ?_|refine blk_alloc ?_ _)); exact BK508.out) hb); have n2_ := Aside0.mk (below_step (by repeat (first|(with_reducible first|exact HB.out|apply below_alloc|apply pw_below_drewN|apply below_drew1|refine below_set ?_ GE508.out)|exact HB.out)) hb); clear HO_509000; clear BK508; clear HB; have HO_509000 := n0_; have BK508 := n1_; have HB := n2_; clear n0_ n1_ n2_; (try clear hb); (try clear hb2); (try clear hk); (try clear hi))); try go_wp2_with (first|(go_at_call 8; (with_reducible refine (stowagekit_LargeEntries.calls k3 _ _ (rd_L6 l0 x10_3) false _ ?side1 ?side2 A25.out).mono ?_); (case side1 => repeat (first|exact (Kd.C_below HR509_0.out HB.out)|(with_reducible refine Kd.C_alloc ?_ _)|(with_reducible refine Kd.C_drewN ?_ _)|(with_reducible refine Kd.C_drew ?_))); (case side2 => exact HC509_0.out); rintro e w' ⟨rfl, ⟨nd, rfl⟩⟩; (try first|exact ⟨rfl, _, World.drewN_drewN _ _ _⟩|exact ⟨rfl, _, Eq.trans (World.drewN_drewN _ _ _) (congrArg (World.drewN _) (Nat.add_assoc _ _ _))⟩); have p511 : 0 ≤ (x10_3 : Int) := of_decide_eq_true (by first|(with_reducible assumption)|assumption); have q511 : x10_3 < (l0.length : Int) := of_decide_eq_true (by first|(with_reducible assumption)|assumption); obtain ⟨ad511, A511_0, c511_0, e511, hx511_0, hl511_0, hi511_0⟩ := at_L6 HR0.out x10_3 p511 q511; obtain rfl : ad509 = ad511 := (by injection e511); replace hx511_0 := (HB.out.cell (World.block_lt_of_cell? w _ hx511_0)).trans hx511_0; have HR511_0 := Aside0.mk hi511_0; have HC511_0 := Aside0.mk hl511_0; clear hi511_0 hl511_0; replace p511 := eq_true p511; replace q511 := eq_true q511; have ea_ := Option.some.inj (hx509_0.symm.trans hx511_0); injection ea_ with ea_ en_ ec_; subst ea_; subst ec_; clear en_)|(go_at_call 16; (with_reducible refine (listing_Check.calls k3 _ _ (rd_L6 l0 x10_3) t512 _ ?side1 ?side2 A27.out).mono ?_); (case side1 => repeat (first|exact (Kd.C_below HR511_0.out (by repeat (first|(with_reducible first|exact HB.out|apply below_alloc|apply pw_below_drewN|apply below_drew1|refine below_set ?_ GE508.out)|exact HB.out)))|(with_reducible refine Kd.C_alloc ?_ _)|(with_reducible refine Kd.C_drewN ?_ _)|(with_reducible refine Kd.C_drew ?_))); (case side2 => exact HC511_0.out); rintro e w28 ⟨rfl, hb⟩; have n0_ := Aside0.mk (Kd.R_below (by (with_reducible repeat (first|apply Kd.R_alloc|apply Kd.R_drewN|apply Kd.R_drew)); exact HO_509000.out) hb); have n1_ := Aside0.mk (blk_below (g := gb508) (o := .cells #[.slice Ao14 t501.length co14, .bool t504, .string t505, .string t506] 28 (0, 0)) (by (with_reducible repeat (first|refine blk_drewN ?_ _|refine blk_drew ?_|refine blk_alloc ?_ _)); exact BK508.out) hb); have n2_ := Aside0.mk (below_step (by repeat (first|(with_reducible first|exact HB.out|apply below_alloc|apply pw_below_drewN|apply below_drew1|refine below_set ?_ GE508.out)|exact HB.out)) hb); clear HO_509000; clear BK508; clear HB; have HO_509000 := n0_; have BK508 := n1_; have HB := n2_; clear n0_ n1_ n2_; (try clear hb); (try clear hb2); (try clear hk); (try clear hi))))
             go_meet
             case rel => exact ⟨_, ((t512 != 0)), (by first|rfl|(simp; done)|(simp [*]; done)), H', ⟨by have := HJ4.out; have := HJ17.out; have := HK3.out; first|omega|exact Nat.le_refl _⟩, ⟨by (with_reducible repeat (first|apply Kd.R_alloc|apply Kd.R_drewN|apply Kd.R_drew)); exact HO_509000.out⟩, ⟨by (with_reducible repeat (first|refine blk_drewN ?_ _|refine blk_drew ?_|refine blk_alloc ?_ _)); exact BK508.out⟩, ⟨by repeat (first|(with_reducible first|exact HB.out|apply below_alloc|apply pw_below_drewN|apply below_drew1|refine below_set ?_ GE508.out)|exact HB.out)⟩⟩
          ·rw [if_neg c24] at H
           exact absurd H (by simp)
         case rest =>
          clear HC23
          try clear c1
          try clear c2
          try clear p2
          try clear c5
          try clear p5
          try clear q5
          try clear hx5
          try clear c7
          try clear c16
          try clear c16b0
          try clear c16b1
          try clear c19
          try clear c19b0
          try clear c19b1
          try clear c19b2
          try clear c20
          try clear c20b0
          try clear c20b1
          try clear c21
          try clear c22
          try clear c22b0
          try clear c24
          try clear c24b0
          try clear c26
          try clear hcz15_0
          try clear hcz15_1
          try clear hcz15_2
          try clear hcz15_3
          try clear hcz17_0
          try clear hcz17_1
          try clear hcz17_2
          try clear hcz17_3
          try clear hfz15_0
          try clear hfz15_1
          try clear hfz15_2
          try clear hfz15_3
          try clear hfz17_0
          try clear hfz17_1
          try clear hfz17_2
          try clear hfz17_3
          try clear hx509_0
          try clear hx511_0
          try clear p2
          try clear p509
          try clear p511
          try clear q509
          try clear q511
          obtain ⟨kq, x74_22, rfl, HA, HJ22, HO_509000, BK508, HB⟩ := hcut
          cases kq with
          | zero => exact absurd HA.out (by simp [stowagetop_TopSteady.j3])
          | succ kj22 =>
           have H := HA.out
           clear HA
           simp only [stowagetop_TopSteady.j3] at H
           by_cases c29 : x74_22 = true
           ·subst c29
            have H1 : (some x9_4) = some r := by rw [if_pos rfl] at H; exact H
            clear H
            have H := H1
            clear H1
            as_aux_lemma =>
             obtain rfl := Option.some.inj H
             go_wp2
             repeat (go_quiet (fail); try go_wp2)
             go_ret
             exact ⟨by first|rfl|(simp [errW_none, errW_some] <;> rfl)|(simp [*, errW_none, errW_some] <;> rfl), by repeat (first|(with_reducible first|exact HB.out|apply below_alloc|apply pw_below_drewN|apply below_drew1|refine below_set ?_ GE508.out)|exact HB.out)⟩
           ·replace c29 := Bool.eq_false_iff.mpr c29
            subst c29
            have H1 : (stowagetop_TopSteady.l1 kj22 l0 a1 a2 x9_4 x10_3 0) = some r := by rw [if_neg (show ¬ (false = true) by decide)] at H; exact H
            clear H
            have H := H1
            clear H1
            have H' := Aside0.mk H
            clear H
            go_wp2
            repeat (go_quiet (fail); try go_wp2)
            go_loopg [11] kj22 (fun kq v11 w' => ∃ (x11_5 : Int), v11 = .int .i64 x11_5 ∧ Aside0 (stowagetop_TopSteady.l1 kq l0 a1 a2 x9_4 x10_3 x11_5 = some r) ∧ Aside0 (kq ≤ kj22) ∧ Aside0 (Kd.R k39 39 w' w.heap.size (fun _ => True) (.slice Ao14 t501.length co14) t501) ∧ Aside0 (w'.heap[gb508]? = some (.cells #[(.slice Ao14 t501.length co14), .bool t504, .string t505, .string t506] 28 (0, 0))) ∧ Aside0 (Below w.heap.size w w'))
            case atStart => exact ⟨(0), (by first|rfl|(simp; done)|(simp [*]; done)), H', ⟨Nat.le_refl _⟩, ⟨by (with_reducible repeat (first|apply Kd.R_alloc|apply Kd.R_drewN|apply Kd.R_drew)); exact HO_509000.out⟩, ⟨by (with_reducible repeat (first|refine blk_drewN ?_ _|refine blk_drew ?_|refine blk_alloc ?_ _)); exact BK508.out⟩, ⟨by repeat (first|(with_reducible first|exact HB.out|apply below_alloc|apply pw_below_drewN|apply below_drew1|refine below_set ?_ GE508.out)|exact HB.out)⟩⟩
            case round =>
             clear H'
             try clear c1
             try clear c2
             try clear p2
             try clear c5
             try clear p5
             try clear q5
             try clear hx5
             try clear c7
             try clear c16
             try clear c16b0
             try clear c16b1
             try clear c19
             try clear c19b0
             try clear c19b1
             try clear c19b2
             try clear c20
             try clear c20b0
             try clear c20b1
             try clear c21
             try clear c22
             try clear c22b0
             try clear c24
             try clear c24b0
             try clear c26
             try clear c29
             try clear hcz15_0
             try clear hcz15_1
             try clear hcz15_2
             try clear hcz15_3
             try clear hcz17_0
             try clear hcz17_1
             try clear hcz17_2
             try clear hcz17_3
             try clear hfz15_0
             try clear hfz15_1
             try clear hfz15_2
             try clear hfz15_3
             try clear hfz17_0
             try clear hfz17_1
             try clear hfz17_2
             try clear hfz17_3
             try clear hx509_0
             try clear hx511_0
             try clear p2
             try clear p5
             try clear p509
             try clear p511
             try clear q5
             try clear q509
             try clear q511
             obtain ⟨x11_5, rfl, HA, HK5, HO_509000, BK508, HB⟩ := hrel
             cases gk with
             | zero => exact absurd HA.out (by simp [stowagetop_TopSteady.l1])
             | succ k5 =>
              have H := HA.out
              clear HA
              simp only [stowagetop_TopSteady.l1] at H
              by_cases c30 : 0 ≤ x10_3
              ·rw [if_pos c30] at H
               have c30b0 : decide (0 ≤ x10_3) = true := decide_eq_true c30
               clear c30
               by_cases c31 : x10_3 < (l0.length : Int)
               ·rw [if_pos c31] at H
                have c31b0 : decide (x10_3 < (l0.length : Int)) = true := decide_eq_true c31
                clear c31
                by_cases c32 : x11_5 < ((rd_L6 l0 x10_3).length : Int)
                ·rw [if_pos c32] at H
                 have c32b0 : decide (x11_5 < ((rd_L6 l0 x10_3).length : Int)) = true := decide_eq_true c32
                 clear c32
                 by_cases c33 : 0 ≤ x11_5
                 ·rw [if_pos c33] at H
                  have c33b0 : decide (0 ≤ x11_5) = true := decide_eq_true c33
                  clear c33
                  by_cases c34 : ((rd_T47 (rd_L6 l0 x10_3) x11_5).f0).toList = ([] : List UInt8)
                  ·rw [if_pos c34] at H
                   have c34b0 : (((rd_T47 (rd_L6 l0 x10_3) x11_5).f0).toList == ([] : List UInt8)) = true := beq_iff_eq.mpr c34
                   have c34b1 : (((rd_T47 (rd_L6 l0 x10_3) x11_5).f0).toList != ([] : List UInt8)) = false := bne_eq_false_iff_eq.mpr c34
                   clear c34
                   as_aux_lemma =>
                    obtain rfl := Option.some.inj H
                    have p513 : 0 ≤ (x10_3 : Int) := of_decide_eq_true (by first|(with_reducible assumption)|assumption)
                    have q513 : x10_3 < (l0.length : Int) := of_decide_eq_true (by first|(with_reducible assumption)|assumption)
                    obtain ⟨ad513, A513_0, c513_0, e513, hx513_0, hl513_0, hi513_0⟩ := at_L6 HR0.out x10_3 p513 q513
                    cases e513
                    replace hx513_0 := (HB.out.cell (World.block_lt_of_cell? w _ hx513_0)).trans hx513_0
                    have HR513_0 := Aside0.mk hi513_0
                    have HC513_0 := Aside0.mk hl513_0
                    clear hi513_0 hl513_0
                    replace p513 := eq_true p513
                    replace q513 := eq_true q513
                    have p514 : 0 ≤ (x10_3 : Int) := of_decide_eq_true (by first|(with_reducible assumption)|assumption)
                    have q514 : x10_3 < (l0.length : Int) := of_decide_eq_true (by first|(with_reducible assumption)|assumption)
                    obtain ⟨ad514, A514_0, c514_0, e514, hx514_0, hl514_0, hi514_0⟩ := at_L6 HR0.out x10_3 p514 q514
                    obtain rfl : ad513 = ad514 := (by injection e514)
                    replace hx514_0 := (HB.out.cell (World.block_lt_of_cell? w _ hx514_0)).trans hx514_0
                    have HR514_0 := Aside0.mk hi514_0
                    have HC514_0 := Aside0.mk hl514_0
                    clear hi514_0 hl514_0
                    replace p514 := eq_true p514
                    replace q514 := eq_true q514
                    have ea_ := Option.some.inj (hx513_0.symm.trans hx514_0)
                    injection ea_ with ea_ en_ ec_
                    subst ea_
                    subst ec_
                    clear en_
                    have p515 : 0 ≤ (x11_5 : Int) := of_decide_eq_true (by first|(with_reducible assumption)|assumption)
                    have q515 : x11_5 < ((rd_L6 l0 x10_3).length : Int) := of_decide_eq_true (by first|(with_reducible assumption)|assumption)
                    obtain ⟨ad515, A515_1, c515_1, e515, hx515_0, hx515_1, hl515_1, hi515_1⟩ := at_T47 HR514_0.out x11_5 p515 q515
                    cases e515
                    replace hx515_0 := (HB.out.cell (World.block_lt_of_cell? w _ hx515_0)).trans hx515_0
                    replace hx515_1 := (HB.out.cell (World.block_lt_of_cell? w _ hx515_1)).trans hx515_1
                    have HR515_1 := Aside0.mk hi515_1
                    have HC515_1 := Aside0.mk hl515_1
                    clear hi515_1 hl515_1
                    replace p515 := eq_true p515
                    replace q515 := eq_true q515
                    go_wp2
                    repeat (go_quiet (fail); try go_wp2)
                    go_ret
                    exact ⟨by first|rfl|(simp [errW_none, errW_some] <;> rfl)|(simp [*, errW_none, errW_some] <;> rfl), by repeat (first|(with_reducible first|exact HB.out|apply below_alloc|apply pw_below_drewN|apply below_drew1|refine below_set ?_ GE508.out)|exact HB.out)⟩
                  ·rw [if_neg c34] at H
                   have c34b0 : (((rd_T47 (rd_L6 l0 x10_3) x11_5).f0).toList == ([] : List UInt8)) = false := beq_eq_false_iff_ne.mpr c34
                   have c34b1 : (((rd_T47 (rd_L6 l0 x10_3) x11_5).f0).toList != ([] : List UInt8)) = true := bne_iff_ne.mpr c34
                   by_cases c35 : (((rd_T47 (rd_L6 l0 x10_3) x11_5).f0).size : Int) > 400
                   ·rw [if_pos c35] at H
                    have c35b0 : decide (400 < (((rd_T47 (rd_L6 l0 x10_3) x11_5).f0).size : Int)) = true := decide_eq_true c35
                    have c35b1 : decide (400 < ((rd_T47 (rd_L6 l0 x10_3) x11_5).f0).size) = true := decide_eq_true (by omega)
                    clear c35
                    as_aux_lemma =>
                     obtain rfl := Option.some.inj H
                     have p513 : 0 ≤ (x10_3 : Int) := of_decide_eq_true (by first|(with_reducible assumption)|assumption)
                     have q513 : x10_3 < (l0.length : Int) := of_decide_eq_true (by first|(with_reducible assumption)|assumption)
                     obtain ⟨ad513, A513_0, c513_0, e513, hx513_0, hl513_0, hi513_0⟩ := at_L6 HR0.out x10_3 p513 q513
                     cases e513
                     replace hx513_0 := (HB.out.cell (World.block_lt_of_cell? w _ hx513_0)).trans hx513_0
                     have HR513_0 := Aside0.mk hi513_0
                     have HC513_0 := Aside0.mk hl513_0
                     clear hi513_0 hl513_0
                     replace p513 := eq_true p513
                     replace q513 := eq_true q513
                     have p514 : 0 ≤ (x10_3 : Int) := of_decide_eq_true (by first|(with_reducible assumption)|assumption)
                     have q514 : x10_3 < (l0.length : Int) := of_decide_eq_true (by first|(with_reducible assumption)|assumption)
                     obtain ⟨ad514, A514_0, c514_0, e514, hx514_0, hl514_0, hi514_0⟩ := at_L6 HR0.out x10_3 p514 q514
                     obtain rfl : ad513 = ad514 := (by injection e514)
                     replace hx514_0 := (HB.out.cell (World.block_lt_of_cell? w _ hx514_0)).trans hx514_0
                     have HR514_0 := Aside0.mk hi514_0
                     have HC514_0 := Aside0.mk hl514_0
                     clear hi514_0 hl514_0
                     replace p514 := eq_true p514
                     replace q514 := eq_true q514
                     have ea_ := Option.some.inj (hx513_0.symm.trans hx514_0)
                     injection ea_ with ea_ en_ ec_
                     subst ea_
                     subst ec_
                     clear en_
                     have p515 : 0 ≤ (x11_5 : Int) := of_decide_eq_true (by first|(with_reducible assumption)|assumption)
                     have q515 : x11_5 < ((rd_L6 l0 x10_3).length : Int) := of_decide_eq_true (by first|(with_reducible assumption)|assumption)
                     obtain ⟨ad515, A515_1, c515_1, e515, hx515_0, hx515_1, hl515_1, hi515_1⟩ := at_T47 HR514_0.out x11_5 p515 q515
                     cases e515
                     replace hx515_0 := (HB.out.cell (World.block_lt_of_cell? w _ hx515_0)).trans hx515_0
                     replace hx515_1 := (HB.out.cell (World.block_lt_of_cell? w _ hx515_1)).trans hx515_1
                     have HR515_1 := Aside0.mk hi515_1
                     have HC515_1 := Aside0.mk hl515_1
                     clear hi515_1 hl515_1
                     replace p515 := eq_true p515
                     replace q515 := eq_true q515
                     have p516 : 0 ≤ (x10_3 : Int) := of_decide_eq_true (by first|(with_reducible assumption)|assumption)
                     have q516 : x10_3 < (l0.length : Int) := of_decide_eq_true (by first|(with_reducible assumption)|assumption)
                     obtain ⟨ad516, A516_0, c516_0, e516, hx516_0, hl516_0, hi516_0⟩ := at_L6 HR0.out x10_3 p516 q516
                     obtain rfl : ad513 = ad516 := (by injection e516)
                     replace hx516_0 := (HB.out.cell (World.block_lt_of_cell? w _ hx516_0)).trans hx516_0
                     have HR516_0 := Aside0.mk hi516_0
                     have HC516_0 := Aside0.mk hl516_0
                     clear hi516_0 hl516_0
                     replace p516 := eq_true p516
                     replace q516 := eq_true q516
                     have ea_ := Option.some.inj (hx513_0.symm.trans hx516_0)
                     injection ea_ with ea_ en_ ec_
                     subst ea_
                     subst ec_
                     clear en_
                     have p517 : 0 ≤ (x11_5 : Int) := of_decide_eq_true (by first|(with_reducible assumption)|assumption)
                     have q517 : x11_5 < ((rd_L6 l0 x10_3).length : Int) := of_decide_eq_true (by first|(with_reducible assumption)|assumption)
                     obtain ⟨ad517, A517_1, c517_1, e517, hx517_0, hx517_1, hl517_1, hi517_1⟩ := at_T47 HR516_0.out x11_5 p517 q517
                     cases e517
                     replace hx517_0 := (HB.out.cell (World.block_lt_of_cell? w _ hx517_0)).trans hx517_0
                     replace hx517_1 := (HB.out.cell (World.block_lt_of_cell? w _ hx517_1)).trans hx517_1
                     have HR517_1 := Aside0.mk hi517_1
                     have HC517_1 := Aside0.mk hl517_1
                     clear hi517_1 hl517_1
                     replace p517 := eq_true p517
                     replace q517 := eq_true q517
                     go_wp2
                     repeat (go_quiet (fail); try go_wp2)
                     go_ret
                     exact ⟨by first|rfl|(simp [errW_none, errW_some] <;> rfl)|(simp [*, errW_none, errW_some] <;> rfl), by repeat (first|(with_reducible first|exact HB.out|apply below_alloc|apply pw_below_drewN|apply below_drew1|refine below_set ?_ GE508.out)|exact HB.out)⟩
                   ·rw [if_neg c35] at H
                    have c35b0 : decide (400 < (((rd_T47 (rd_L6 l0 x10_3) x11_5).f0).size : Int)) = false := decide_eq_false c35
                    have c35b1 : decide (400 < ((rd_T47 (rd_L6 l0 x10_3) x11_5).f0).size) = false := decide_eq_false (by omega)
                    clear c35
                    as_aux_lemma =>
                     have H' := Aside0.mk H
                     clear H
                     have p513 : 0 ≤ (x10_3 : Int) := of_decide_eq_true (by first|(with_reducible assumption)|assumption)
                     have q513 : x10_3 < (l0.length : Int) := of_decide_eq_true (by first|(with_reducible assumption)|assumption)
                     obtain ⟨ad513, A513_0, c513_0, e513, hx513_0, hl513_0, hi513_0⟩ := at_L6 HR0.out x10_3 p513 q513
                     cases e513
                     replace hx513_0 := (HB.out.cell (World.block_lt_of_cell? w _ hx513_0)).trans hx513_0
                     have HR513_0 := Aside0.mk hi513_0
                     have HC513_0 := Aside0.mk hl513_0
                     clear hi513_0 hl513_0
                     replace p513 := eq_true p513
                     replace q513 := eq_true q513
                     have p514 : 0 ≤ (x10_3 : Int) := of_decide_eq_true (by first|(with_reducible assumption)|assumption)
                     have q514 : x10_3 < (l0.length : Int) := of_decide_eq_true (by first|(with_reducible assumption)|assumption)
                     obtain ⟨ad514, A514_0, c514_0, e514, hx514_0, hl514_0, hi514_0⟩ := at_L6 HR0.out x10_3 p514 q514
                     obtain rfl : ad513 = ad514 := (by injection e514)
                     replace hx514_0 := (HB.out.cell (World.block_lt_of_cell? w _ hx514_0)).trans hx514_0
                     have HR514_0 := Aside0.mk hi514_0
                     have HC514_0 := Aside0.mk hl514_0
                     clear hi514_0 hl514_0
                     replace p514 := eq_true p514
                     replace q514 := eq_true q514
                     have ea_ := Option.some.inj (hx513_0.symm.trans hx514_0)
                     injection ea_ with ea_ en_ ec_
                     subst ea_
                     subst ec_
                     clear en_
                     have p515 : 0 ≤ (x11_5 : Int) := of_decide_eq_true (by first|(with_reducible assumption)|assumption)
                     have q515 : x11_5 < ((rd_L6 l0 x10_3).length : Int) := of_decide_eq_true (by first|(with_reducible assumption)|assumption)
                     obtain ⟨ad515, A515_1, c515_1, e515, hx515_0, hx515_1, hl515_1, hi515_1⟩ := at_T47 HR514_0.out x11_5 p515 q515
                     cases e515
                     replace hx515_0 := (HB.out.cell (World.block_lt_of_cell? w _ hx515_0)).trans hx515_0
                     replace hx515_1 := (HB.out.cell (World.block_lt_of_cell? w _ hx515_1)).trans hx515_1
                     have HR515_1 := Aside0.mk hi515_1
                     have HC515_1 := Aside0.mk hl515_1
                     clear hi515_1 hl515_1
                     replace p515 := eq_true p515
                     replace q515 := eq_true q515
                     have p516 : 0 ≤ (x10_3 : Int) := of_decide_eq_true (by first|(with_reducible assumption)|assumption)
                     have q516 : x10_3 < (l0.length : Int) := of_decide_eq_true (by first|(with_reducible assumption)|assumption)
                     obtain ⟨ad516, A516_0, c516_0, e516, hx516_0, hl516_0, hi516_0⟩ := at_L6 HR0.out x10_3 p516 q516
                     obtain rfl : ad513 = ad516 := (by injection e516)
                     replace hx516_0 := (HB.out.cell (World.block_lt_of_cell? w _ hx516_0)).trans hx516_0
                     have HR516_0 := Aside0.mk hi516_0
                     have HC516_0 := Aside0.mk hl516_0
                     clear hi516_0 hl516_0
                     replace p516 := eq_true p516
                     replace q516 := eq_true q516
                     have ea_ := Option.some.inj (hx513_0.symm.trans hx516_0)
                     injection ea_ with ea_ en_ ec_
                     subst ea_
                     subst ec_
                     clear en_
                     have p517 : 0 ≤ (x11_5 : Int) := of_decide_eq_true (by first|(with_reducible assumption)|assumption)
                     have q517 : x11_5 < ((rd_L6 l0 x10_3).length : Int) := of_decide_eq_true (by first|(with_reducible assumption)|assumption)
                     obtain ⟨ad517, A517_1, c517_1, e517, hx517_0, hx517_1, hl517_1, hi517_1⟩ := at_T47 HR516_0.out x11_5 p517 q517
                     cases e517
                     replace hx517_0 := (HB.out.cell (World.block_lt_of_cell? w _ hx517_0)).trans hx517_0
                     replace hx517_1 := (HB.out.cell (World.block_lt_of_cell? w _ hx517_1)).trans hx517_1
                     have HR517_1 := Aside0.mk hi517_1
                     have HC517_1 := Aside0.mk hl517_1
                     clear hi517_1 hl517_1
                     replace p517 := eq_true p517
                     replace q517 := eq_true q517
                     go_wp2
                     repeat (go_quiet (fail); try go_wp2)
                     go_roundg k5
                     case measure => have := HJ4.out; have := HJ17.out; have := HK3.out; have := HJ22.out; have := HK5.out; omega
                     case rel => exact ⟨(wrap64 (x11_5 + 1)), (by first|rfl|(simp; done)|(simp [*]; done)), H', ⟨by have := HJ4.out; have := HJ17.out; have := HK3.out; have := HJ22.out; have := HK5.out; omega⟩, ⟨by (with_reducible repeat (first|apply Kd.R_alloc|apply Kd.R_drewN|apply Kd.R_drew)); exact HO_509000.out⟩, ⟨by (with_reducible repeat (first|refine blk_drewN ?_ _|refine blk_drew ?_|refine blk_alloc ?_ _)); exact BK508.out⟩, ⟨by repeat (first|(with_reducible first|exact HB.out|apply below_alloc|apply pw_below_drewN|apply below_drew1|refine below_set ?_ GE508.out)|exact HB.out)⟩⟩
                 ·rw [if_neg c33] at H
                  exact absurd H (by simp)
                ·rw [if_neg c32] at H
                 have c32b0 : decide (x11_5 < ((rd_L6 l0 x10_3).length : Int)) = false := decide_eq_false c32
                 clear c32
                 as_aux_lemma =>
                  have H' := Aside0.mk H
                  clear H
                  have p513 : 0 ≤ (x10_3 : Int) := of_decide_eq_true (by first|(with_reducible assumption)|assumption)
                  have q513 : x10_3 < (l0.length : Int) := of_decide_eq_true (by first|(with_reducible assumption)|assumption)
                  obtain ⟨ad513, A513_0, c513_0, e513, hx513_0, hl513_0, hi513_0⟩ := at_L6 HR0.out x10_3 p513 q513
                  cases e513
                  replace hx513_0 := (HB.out.cell (World.block_lt_of_cell? w _ hx513_0)).trans hx513_0
                  have HR513_0 := Aside0.mk hi513_0
                  have HC513_0 := Aside0.mk hl513_0
                  clear hi513_0 hl513_0
                  replace p513 := eq_true p513
                  replace q513 := eq_true q513
                  go_wp2
                  repeat (go_quiet (fail); try go_wp2)
                  go_roundg k5
                  case measure => have := HJ4.out; have := HJ17.out; have := HK3.out; have := HJ22.out; have := HK5.out; omega
                  case rel => exact ⟨(wrap64 (x10_3 + 1)), (by first|rfl|(simp; done)|(simp [*]; done)), H', ⟨by have := HJ4.out; have := HJ17.out; have := HK3.out; have := HJ22.out; have := HK5.out; omega⟩, ⟨by (with_reducible repeat (first|apply Kd.R_alloc|apply Kd.R_drewN|apply Kd.R_drew)); exact HO_509000.out⟩, ⟨by (with_reducible repeat (first|refine blk_drewN ?_ _|refine blk_drew ?_|refine blk_alloc ?_ _)); exact BK508.out⟩, ⟨by repeat (first|(with_reducible first|exact HB.out|apply below_alloc|apply pw_below_drewN|apply below_drew1|refine below_set ?_ GE508.out)|exact HB.out)⟩⟩
               ·rw [if_neg c31] at H
                exact absurd H (by simp)
              ·rw [if_neg c30] at H
               exact absurd H (by simp)
        ·rw [if_neg c22] at H
         have c22b0 : decide (x10_3 < (l0.length : Int)) = false := decide_eq_false c22
         clear c22
         replace H := Option.bind_eq_some_iff.mp H
         obtain ⟨t518, A360, H⟩ := H
         replace H : (stowagetop_TopSteady.l2 k3 l0 a1 (wrap64 (1 + t518)) x9_4 ([] : List ByteArray) (⟨#[]⟩ : ByteArray) true 0) = some r := H
         have A36 := Aside0.mk A360
         clear A360
         have H' := Aside0.mk H
         clear H
         go_wp2_with (first|(go_at_call 24; (with_reducible refine (stowagekit_Pick.calls a2 10 t518 _ A36.out).mono ?_); rintro e w' ⟨rfl, ⟨nd, rfl⟩⟩; (try first|exact ⟨rfl, _, World.drewN_drewN _ _ _⟩|exact ⟨rfl, _, Eq.trans (World.drewN_drewN _ _ _) (congrArg (World.drewN _) (Nat.add_assoc _ _ _))⟩)))
         repeat (go_quiet (first|(go_at_call 24; (with_reducible refine (stowagekit_Pick.calls a2 10 t518 _ A36.out).mono ?_); rintro e w' ⟨rfl, ⟨nd, rfl⟩⟩; (try first|exact ⟨rfl, _, World.drewN_drewN _ _ _⟩|exact ⟨rfl, _, Eq.trans (World.drewN_drewN _ _ _) (congrArg (World.drewN _) (Nat.add_assoc _ _ _))⟩))); try go_wp2_with (first|(go_at_call 24; (with_reducible refine (stowagekit_Pick.calls a2 10 t518 _ A36.out).mono ?_); rintro e w' ⟨rfl, ⟨nd, rfl⟩⟩; (try first|exact ⟨rfl, _, World.drewN_drewN _ _ _⟩|exact ⟨rfl, _, Eq.trans (World.drewN_drewN _ _ _) (congrArg (World.drewN _) (Nat.add_assoc _ _ _))⟩))))
         go_loopg [12, 13, 14, 15] k3 (fun kq v12 v13 v14 v15 w' => ∃ (x12_4 : List ByteArray) (x13_4 : ByteArray) (x14_4 : Bool) (x15_4 : Int), v13 = .string x13_4 ∧ v14 = .bool x14_4 ∧ v15 = .int .i64 x15_4 ∧ Aside0 (stowagetop_TopSteady.l2 kq l0 a1 (wrap64 (1 + t518)) x9_4 x12_4 x13_4 x14_4 x15_4 = some r) ∧ Aside0 (kq ≤ k3) ∧ Aside0 (Kd.R Kd.string 9 w' w.heap.size (fun _ => True) v12 x12_4) ∧ Aside0 (Kd.R k39 39 w' w.heap.size (fun _ => True) (.slice Ao14 t501.length co14) t501) ∧ Aside0 (w'.heap[gb508]? = some (.cells #[(.slice Ao14 t501.length co14), .bool t504, .string t505, .string t506] 28 (0, 0))) ∧ Aside0 (Below w.heap.size w w'))
         case atStart => exact ⟨(([] : List ByteArray)), ((⟨#[]⟩ : ByteArray)), (true), (0), (by first|rfl|(simp; done)|(simp [*]; done)), (by first|rfl|(simp; done)|(simp [*]; done)), (by first|rfl|(simp; done)|(simp [*]; done)), H', ⟨Nat.le_refl _⟩, ⟨by first|exact Kd.R_nil _ _ _ _ _|exact Kd.N_nil _ _ _ _ _|exact Kd.V_nil _ _ _ _ _|exact Kd.Q_nil _ _ _ _ _|exact Kd.S_nil _ _ _ _ _⟩, ⟨by (with_reducible repeat (first|apply Kd.R_alloc|apply Kd.R_drewN|apply Kd.R_drew)); exact HO_509000.out⟩, ⟨by (with_reducible repeat (first|refine blk_drewN ?_ _|refine blk_drew ?_|refine blk_alloc ?_ _)); exact BK508.out⟩, ⟨by repeat (first|(with_reducible first|exact HB.out|apply below_alloc|apply pw_below_drewN|apply below_drew1|refine below_set ?_ GE508.out)|exact HB.out)⟩⟩
         case round =>
          clear H'
          try clear c1
          try clear c2
          try clear p2
          try clear c3
          try clear c5
          try clear p5
          try clear q5
          try clear hx5
          try clear p6
          try clear c7
          try clear c16
          try clear c16b0
          try clear c16b1
          try clear c19
          try clear c19b0
          try clear c19b1
          try clear c19b2
          try clear c20
          try clear c20b0
          try clear c20b1
          try clear c21
          try clear c22
          try clear c22b0
          try clear c24
          try clear c24b0
          try clear c26
          try clear c29
          try clear c30
          try clear c30b0
          try clear c31
          try clear c31b0
          try clear c32
          try clear c32b0
          try clear c33
          try clear c33b0
          try clear c34
          try clear c34b0
          try clear c34b1
          try clear c35
          try clear c35b0
          try clear c35b1
          try clear hcz15_0
          try clear hcz15_1
          try clear hcz15_2
          try clear hcz15_3
          try clear hcz17_0
          try clear hcz17_1
          try clear hcz17_2
          try clear hcz17_3
          try clear hfz15_0
          try clear hfz15_1
          try clear hfz15_2
          try clear hfz15_3
          try clear hfz17_0
          try clear hfz17_1
          try clear hfz17_2
          try clear hfz17_3
          try clear hx509_0
          try clear hx511_0
          try clear hx513_0
          try clear hx514_0
          try clear hx515_0
          try clear hx515_1
          try clear hx516_0
          try clear hx517_0
          try clear hx517_1
          try clear p2
          try clear p5
          try clear p509
          try clear p511
          try clear p513
          try clear p514
          try clear p515
          try clear p516
          try clear p517
          try clear q5
          try clear q509
          try clear q511
          try clear q513
          try clear q514
          try clear q515
          try clear q516
          try clear q517
          obtain ⟨x12_4, x13_4, x14_4, x15_4, rfl, rfl, rfl, HA, HK4, HO_12, HO_509000, BK508, HB⟩ := hrel
          cases gk with
          | zero => exact absurd HA.out (by simp [stowagetop_TopSteady.l2])
          | succ k4 =>
           have H := HA.out
           clear HA
           simp only [stowagetop_TopSteady.l2] at H
           have HC37 := Aside0.mk H
           clear H
           go_upto_region 19 with (fail)
           repeat (go_quiet (fail); go_upto_region 19 with (fail))
           go_cut [114] (fun v114 wc => ∃ (kq : Nat) (x114_36 : Bool), v114 = .bool x114_36 ∧ Aside0 (stowagetop_TopSteady.j6 kq l0 a1 (wrap64 (1 + t518)) x9_4 x12_4 x13_4 x14_4 x15_4 x114_36 = some r) ∧ Aside0 (kq ≤ k4) ∧ Aside0 (Kd.R Kd.string 9 wc w.heap.size (fun _ => True) u12 x12_4) ∧ Aside0 (Kd.R k39 39 wc w.heap.size (fun _ => True) (.slice Ao14 t501.length co14) t501) ∧ Aside0 (wc.heap[gb508]? = some (.cells #[(.slice Ao14 t501.length co14), .bool t504, .string t505, .string t506] 28 (0, 0))) ∧ Aside0 (Below w.heap.size w wc))
           case first =>
            have H := HC37.out
            clear HC37
            by_cases c38 : x15_4 < 800
            ·rw [if_pos c38] at H
             have c38b0 : decide (x15_4 < 800) = true := decide_eq_true c38
             clear c38
             (first|rw [c38b0]|(simp only [i64_w, i32_w]; rw [c38b0])|skip)
             as_aux_lemma =>
              have H' := Aside0.mk H
              clear H
              go_wp2
              repeat (go_quiet (fail); try go_wp2)
              go_meet
              case rel => exact ⟨_, (x14_4), (by first|rfl|(simp; done)|(simp [*]; done)), H', ⟨by have := HJ4.out; have := HJ17.out; have := HK3.out; have := HK4.out; first|omega|exact Nat.le_refl _⟩, ⟨by (with_reducible repeat (first|apply Kd.R_alloc|apply Kd.R_drewN|apply Kd.R_drew)); exact HO_12.out⟩, ⟨by (with_reducible repeat (first|apply Kd.R_alloc|apply Kd.R_drewN|apply Kd.R_drew)); exact HO_509000.out⟩, ⟨by (with_reducible repeat (first|refine blk_drewN ?_ _|refine blk_drew ?_|refine blk_alloc ?_ _)); exact BK508.out⟩, ⟨by repeat (first|(with_reducible first|exact HB.out|apply below_alloc|apply pw_below_drewN|apply below_drew1|refine below_set ?_ GE508.out)|exact HB.out)⟩⟩
            ·rw [if_neg c38] at H
             have c38b0 : decide (x15_4 < 800) = false := decide_eq_false c38
             clear c38
             (first|rw [c38b0]|(simp only [i64_w, i32_w]; rw [c38b0])|skip)
             as_aux_lemma =>
              have H' := Aside0.mk H
              clear H
              go_wp2
              repeat (go_quiet (fail); try go_wp2)
              go_meet
              case rel => exact ⟨_, (false), (by first|rfl|(simp; done)|(simp [*]; done)), H', ⟨by have := HJ4.out; have := HJ17.out; have := HK3.out; have := HK4.out; first|omega|exact Nat.le_refl _⟩, ⟨by (with_reducible repeat (first|apply Kd.R_alloc|apply Kd.R_drewN|apply Kd.R_drew)); exact HO_12.out⟩, ⟨by (with_reducible repeat (first|apply Kd.R_alloc|apply Kd.R_drewN|apply Kd.R_drew)); exact HO_509000.out⟩, ⟨by (with_reducible repeat (first|refine blk_drewN ?_ _|refine blk_drew ?_|refine blk_alloc ?_ _)); exact BK508.out⟩, ⟨by repeat (first|(with_reducible first|exact HB.out|apply below_alloc|apply pw_below_drewN|apply below_drew1|refine below_set ?_ GE508.out)|exact HB.out)⟩⟩
           case rest =>
            clear HC37
            try clear c1
            try clear c2
            try clear p2
            try clear c3
            try clear c5
            try clear p5
            try clear q5
            try clear hx5
            try clear p6
            try clear c7
            try clear c16
            try clear c16b0
            try clear c16b1
            try clear c19
            try clear c19b0
            try clear c19b1
            try clear c19b2
            try clear c20
            try clear c20b0
            try clear c20b1
            try clear c21
            try clear c22
            try clear c22b0
            try clear c24
            try clear c24b0
            try clear c26
            try clear c29
            try clear c30
            try clear c30b0
            try clear c31
            try clear c31b0
            try clear c32
            try clear c32b0
            try clear c33
            try clear c33b0
            try clear c34
            try clear c34b0
            try clear c34b1
            try clear c35
            try clear c35b0
            try clear c35b1
            try clear c38
            try clear c38b0
            try clear hcz15_0
            try clear hcz15_1
            try clear hcz15_2
            try clear hcz15_3
            try clear hcz17_0
            try clear hcz17_1
            try clear hcz17_2
            try clear hcz17_3
            try clear hfz15_0
            try clear hfz15_1
            try clear hfz15_2
            try clear hfz15_3
            try clear hfz17_0
            try clear hfz17_1
            try clear hfz17_2
            try clear hfz17_3
            try clear hx509_0
            try clear hx511_0
            try clear hx513_0
            try clear hx514_0
            try clear hx515_0
            try clear hx515_1
            try clear hx516_0
            try clear hx517_0
            try clear hx517_1
            try clear p2
            try clear p5
            try clear p509
            try clear p511
            try clear p513
            try clear p514
            try clear p515
            try clear p516
            try clear p517
            try clear p6
            try clear q5
            try clear q509
            try clear q511
            try clear q513
            try clear q514
            try clear q515
            try clear q516
            try clear q517
            obtain ⟨kq, x114_36, rfl, HA, HJ36, HO_12, HO_509000, BK508, HB⟩ := hcut
            cases kq with
            | zero => exact absurd HA.out (by simp [stowagetop_TopSteady.j6])
            | succ kj36 =>
             have H := HA.out
             clear HA
             simp only [stowagetop_TopSteady.j6] at H
             by_cases c39 : x114_36 = true
             ·subst c39
              have H1 : (if 0 ≤ (mn x15_4 (wrap64 ((l0.length : Int) - 1))) then (if (mn x15_4 (wrap64 ((l0.length : Int) - 1))) < (l0.length : Int) then ((listing_Keys.f (rd_L6 l0 (mn x15_4 (wrap64 ((l0.length : Int) - 1)))) a1 (⟨#[]⟩ : ByteArray) x13_4 (wrap64 (1 + t518))).bind fun bt520 => (if bt520.2.2.2.2 = 0 then (stowagetop_TopSteady.l3 kj36 l0 a1 (wrap64 (1 + t518)) x9_4 x12_4 x15_4 0 bt520.1 bt520.2.1 bt520.2.2.1 bt520.2.2.2.1) else (some false))) else (none)) else (none)) = some r := by rw [if_pos rfl] at H; exact H
              clear H
              have H := H1
              clear H1
              obtain ⟨ji40, hji40⟩ : ∃ j_ : Int, (mn x15_4 (wrap64 ((l0.length : Int) - 1))) = j_ := ⟨_, rfl⟩
              replace H : (if 0 ≤ (ji40) then (if (ji40) < (l0.length : Int) then ((listing_Keys.f (rd_L6 l0 (ji40)) a1 (⟨#[]⟩ : ByteArray) x13_4 (wrap64 (1 + t518))).bind fun bt520 => (if bt520.2.2.2.2 = 0 then (stowagetop_TopSteady.l3 kj36 l0 a1 (wrap64 (1 + t518)) x9_4 x12_4 x15_4 0 bt520.1 bt520.2.1 bt520.2.2.1 bt520.2.2.2.1) else (some false))) else (none)) else (none)) = some r := by first|(rw [hji40] at H; exact H)|(simp only [hji40] at H ⊢; exact H)
              have hji40_ : (if (wrap64 ((l0.length : Int) - 1)) < x15_4 then (wrap64 ((l0.length : Int) - 1)) else x15_4) = ji40 := hji40
              by_cases c41 : 0 ≤ (ji40)
              ·rw [if_pos c41] at H
               have c41b0 : decide (0 ≤ (ji40)) = true := decide_eq_true c41
               clear c41
               by_cases c42 : (ji40) < (l0.length : Int)
               ·rw [if_pos c42] at H
                have c42b0 : decide ((ji40) < (l0.length : Int)) = true := decide_eq_true c42
                clear c42
                replace H := Option.bind_eq_some_iff.mp H
                obtain ⟨⟨t520, t523, t524, t525, t526⟩, A430, H⟩ := H
                replace H : (if t526 = 0 then (stowagetop_TopSteady.l3 kj36 l0 a1 (wrap64 (1 + t518)) x9_4 x12_4 x15_4 0 t520 t523 t524 t525) else (some false)) = some r := H
                have A43 := Aside0.mk A430
                clear A430
                by_cases c44 : t526 = 0
                ·rw [if_pos c44] at H
                 have c44b0 : (t526 == 0) = true := beq_iff_eq.mpr c44
                 have c44b1 : (t526 != 0) = false := bne_eq_false_iff_eq.mpr c44
                 clear c44
                 have H' := Aside0.mk H
                 clear H
                 have p519 : 0 ≤ ((ji40) : Int) := of_decide_eq_true (by first|(with_reducible assumption)|assumption)
                 have q519 : (ji40) < (l0.length : Int) := of_decide_eq_true (by first|(with_reducible assumption)|assumption)
                 obtain ⟨ad519, A519_0, c519_0, e519, hx519_0, hl519_0, hi519_0⟩ := at_L6 HR0.out (ji40) p519 q519
                 cases e519
                 replace hx519_0 := (HB.out.cell (World.block_lt_of_cell? w _ hx519_0)).trans hx519_0
                 have HR519_0 := Aside0.mk hi519_0
                 have HC519_0 := Aside0.mk hl519_0
                 clear hi519_0 hl519_0
                 replace p519 := eq_true p519
                 replace q519 := eq_true q519
                 go_wp2_with (first|(go_at_call 11; (with_reducible refine (listing_Keys.calls _ _ (rd_L6 l0 (ji40)) a1 (⟨#[]⟩ : ByteArray) x13_4 (wrap64 (1 + t518)) t520 t523 t524 t525 t526 _ ?side1 ?side2 ?side3 A43.out).mono ?_); (case side1 => first|exact HG.out|exact GM.below (by repeat (first|(with_reducible first|exact HB.out|apply below_alloc|apply pw_below_drewN|apply below_drew1|refine below_set ?_ GE508.out)|exact HB.out)) HG.out|(repeat (first|exact HG.out|apply GM.drewN|apply GM.drew))); (case side2 => repeat (first|exact (Kd.C_below HR519_0.out HB.out)|(with_reducible refine Kd.C_alloc ?_ _)|(with_reducible refine Kd.C_drewN ?_ _)|(with_reducible refine Kd.C_drew ?_))); (case side3 => exact HC519_0.out); rintro e w45 ⟨v521, rfl, ho0, hb⟩; have n0_ := Aside0.mk (Kd.R_below (by (with_reducible repeat (first|apply Kd.R_alloc|apply Kd.R_drewN|apply Kd.R_drew)); exact HO_12.out) hb); have n1_ := Aside0.mk (Kd.R_elder' (by (with_reducible repeat (first|apply Kd.R_alloc|apply Kd.R_drewN|apply Kd.R_drew)); exact HO_509000.out) (Kd.R_base ho0) hb); have n2_ := Aside0.mk (Kd.R_lower (Kd.R_new' ho0 (Kd.R_lt (by (with_reducible repeat (first|apply Kd.R_alloc|apply Kd.R_drewN|apply Kd.R_drew)); exact HO_509000.out))) (below_size (by repeat (first|(with_reducible first|exact HB.out|apply below_alloc|apply pw_below_drewN|apply below_drew1|refine below_set ?_ GE508.out)|exact HB.out)))); have n3_ := Aside0.mk (blk_below (g := gb508) (o := .cells #[.slice Ao14 t501.length co14, .bool t504, .string t505, .string t506] 28 (0, 0)) (by (with_reducible repeat (first|refine blk_drewN ?_ _|refine blk_drew ?_|refine blk_alloc ?_ _)); exact BK508.out) hb); have n4_ := Aside0.mk (below_step (by repeat (first|(with_reducible first|exact HB.out|apply below_alloc|apply pw_below_drewN|apply below_drew1|refine below_set ?_ GE508.out)|exact HB.out)) hb); clear HO_12; clear HO_509000; clear BK508; clear HB; have HO_12 := n0_; have HO_509000 := n1_; have HO522 := n2_; have BK508 := n3_; have HB := n4_; clear n0_ n1_ n2_ n3_ n4_; (try clear hb); (try clear hb2); (try clear hk); (try clear hi); (try clear ho0))|((with_reducible refine gate_dst (N := 16) rfl ?_); (try (refine gate_guard (by rfl) ?_; dsimp only)); refine box_event ?hg (N := 16) ?hd (cs := #[.slice none 0 0, .bool false, .string (⟨#[]⟩ : ByteArray), .string (⟨#[]⟩ : ByteArray)]) (t := 28) ?hr ?_; (case hd => rfl); (case hg => rfl); (case hr => first|(go_simp; done)|(go_simp; rfl)); intro gb527 hg w46 hbox hb; have n0_ := Aside0.mk (Kd.R_below (by (with_reducible repeat (first|apply Kd.R_alloc|apply Kd.R_drewN|apply Kd.R_drew)); exact HO_12.out) hb); have n1_ := Aside0.mk (Kd.R_below (by (with_reducible repeat (first|apply Kd.R_alloc|apply Kd.R_drewN|apply Kd.R_drew)); exact HO_509000.out) hb); have n2_ := Aside0.mk (Kd.R_below (by (with_reducible repeat (first|apply Kd.R_alloc|apply Kd.R_drewN|apply Kd.R_drew)); exact HO522.out) hb); have n3_ := Aside0.mk (blk_below (g := gb508) (o := .cells #[.slice Ao14 t501.length co14, .bool t504, .string t505, .string t506] 28 (0, 0)) (by (with_reducible repeat (first|refine blk_drewN ?_ _|refine blk_drew ?_|refine blk_alloc ?_ _)); exact BK508.out) hb); have n4_ := Aside0.mk (below_step (by repeat (first|(with_reducible first|exact HB.out|apply below_alloc|apply pw_below_drewN|apply below_drew1|refine below_set ?_ GE508.out)|exact HB.out)) hb); have n5_ := Aside0.mk (hbox); have n6_ := Aside0.mk ((by rw [hg]; exact (below_size (by repeat (first|(with_reducible first|exact HB.out|apply below_alloc|apply pw_below_drewN|apply below_drew1|refine below_set ?_ GE508.out)|exact HB.out))) : w.heap.size ≤ gb527)); have n7_ := Aside0.mk ((by rw [hg]; exact (below_size (by repeat (first|(with_reducible first|exact HB.out|apply below_alloc|apply pw_below_drewN|apply below_drew1|refine below_set ?_ GE508.out)|exact HB.out))) : w.heap.size ≤ gb527)); have n8_ := Aside0.mk ((by rw [hg]; exact Nat.ne_of_lt (blk_lt (g := gb508) (o := .cells #[.slice Ao14 t501.length co14, .bool t504, .string t505, .string t506] 28 (0, 0)) (by (with_reducible repeat (first|refine blk_drewN ?_ _|refine blk_drew ?_|refine blk_alloc ?_ _)); exact BK508.out)) : gb508 ≠ gb527)); have n9_ := Aside0.mk ((by rw [hg]; exact Nat.ne_of_gt (blk_lt (g := gb508) (o := .cells #[.slice Ao14 t501.length co14, .bool t504, .string t505, .string t506] 28 (0, 0)) (by (with_reducible repeat (first|refine blk_drewN ?_ _|refine blk_drew ?_|refine blk_alloc ?_ _)); exact BK508.out)) : gb527 ≠ gb508)); clear HO_12; clear HO_509000; clear HO522; clear BK508; clear HB; have HO_12 := n0_; have HO_509000 := n1_; have HO522 := n2_; have BK508 := n3_; have HB := n4_; have BK527 := n5_; have GW527 := n6_; have GE527 := n7_; have NB508_527 := n8_; have NB527_508 := n9_; clear n0_ n1_ n2_ n3_ n4_ n5_ n6_ n7_ n8_ n9_; clear hb hbox hg; obtain ⟨Ao47, co47, eo47⟩ := Kd.R_slice HO522.out; subst eo47; have hnb48 := NB527_508.out; have hnc48 := NB508_527.out; have hcz49_0 : w46.cell? ⟨gb527, 0, none⟩ = some (.slice none 0 0) := (blk_cell BK527.out 0).trans rfl; have hcz49_1 : w46.cell? ⟨gb527, 1, none⟩ = some (.bool false) := (blk_cell BK527.out 1).trans rfl; have hcz49_2 : w46.cell? ⟨gb527, 2, none⟩ = some (.string (⟨#[]⟩ : ByteArray)) := (blk_cell BK527.out 2).trans rfl; have hcz49_3 : w46.cell? ⟨gb527, 3, none⟩ = some (.string (⟨#[]⟩ : ByteArray)) := (blk_cell BK527.out 3).trans rfl; have hfz49_0 := blk_frozen BK527.out 0; have hfz49_1 := blk_frozen BK527.out 1; have hfz49_2 := blk_frozen BK527.out 2; have hfz49_3 := blk_frozen BK527.out 3))
                 repeat (go_quiet (first|(go_at_call 11; (with_reducible refine (listing_Keys.calls _ _ (rd_L6 l0 (ji40)) a1 (⟨#[]⟩ : ByteArray) x13_4 (wrap64 (1 + t518)) t520 t523 t524 t525 t526 _ ?side1 ?side2 ?side3 A43.out).mono ?_); (case side1 => first|exact HG.out|exact GM.below (by repeat (first|(with_reducible first|exact HB.out|apply below_alloc|apply pw_below_drewN|apply below_drew1|refine below_set ?_ GE508.out)|exact HB.out)) HG.out|(repeat (first|exact HG.out|apply GM.drewN|apply GM.drew))); (case side2 => repeat (first|exact (Kd.C_below HR519_0.out HB.out)|(with_reducible refine Kd.C_alloc ?_ _)|(with_reducible refine Kd.C_drewN ?_ _)|(with_reducible refine Kd.C_drew ?_))); (case side3 => exact HC519_0.out); rintro e w45 ⟨v521, rfl, ho0, hb⟩; have n0_ := Aside0.mk (Kd.R_below (by (with_reducible repeat (first|apply Kd.R_alloc|apply Kd.R_drewN|apply Kd.R_drew)); exact HO_12.out) hb); have n1_ := Aside0.mk (Kd.R_elder' (by (with_reducible repeat (first|apply Kd.R_alloc|apply Kd.R_drewN|apply Kd.R_drew)); exact HO_509000.out) (Kd.R_base ho0) hb); have n2_ := Aside0.mk (Kd.R_lower (Kd.R_new' ho0 (Kd.R_lt (by (with_reducible repeat (first|apply Kd.R_alloc|apply Kd.R_drewN|apply Kd.R_drew)); exact HO_509000.out))) (below_size (by repeat (first|(with_reducible first|exact HB.out|apply below_alloc|apply pw_below_drewN|apply below_drew1|refine below_set ?_ GE508.out)|exact HB.out)))); have n3_ := Aside0.mk (blk_below (g := gb508) (o := .cells #[.slice Ao14 t501.length co14, .bool t504, .string t505, .string t506] 28 (0, 0)) (by (with_reducible repeat (first|refine blk_drewN ?_ _|refine blk_drew ?_|refine blk_alloc ?_ _)); exact BK508.out) hb); have n4_ := Aside0.mk (below_step (by repeat (first|(with_reducible first|exact HB.out|apply below_alloc|apply pw_below_drewN|apply below_drew1|refine below_set ?_ GE508.out)|exact HB.out)) hb); clear HO_12; clear HO_509000; clear BK508; clear HB; have HO_12 := n0_; have HO_509000 := n1_; have HO522 := n2_; have BK508 := n3_; have HB := n4_; clear n0_ n1_ n2_ n3_ n4_; (try clear hb); (try clear hb2); (try clear hk); (try clear hi); (try clear ho0))|((with_reducible refine gate_dst (N := 16) rfl ?_); (try (refine gate_guard (by rfl) ?_; dsimp only)); refine box_event ?hg (N := 16) ?hd (cs := #[.slice none 0 0, .bool false, .string (⟨#[]⟩ : ByteArray), .string (⟨#[]⟩ : ByteArray)]) (t := 28) ?hr ?_; (case hd => rfl); (case hg => rfl); (case hr => first|(go_simp; done)|(go_simp; rfl)); intro gb527 hg w46 hbox hb; have n0_ := Aside0.mk (Kd.R_below (by (with_reducible repeat (first|apply Kd.R_alloc|apply Kd.R_drewN|apply Kd.R_drew)); exact HO_12.out) hb); have n1_ := Aside0.mk (Kd.R_below (by (with_reducible repeat (first|apply Kd.R_alloc|apply Kd.R_drewN|apply Kd.R_drew)); exact HO_509000.out) hb); have n2_ := Aside0.mk (Kd.R_below (by (with_reducible repeat (first|apply Kd.R_alloc|apply Kd.R_drewN|apply Kd.R_drew)); exact HO522.out) hb); have n3_ := Aside0.mk (blk_below (g := gb508) (o := .cells #[.slice Ao14 t501.length co14, .bool t504, .string t505, .string t506] 28 (0, 0)) (by (with_reducible repeat (first|refine blk_drewN ?_ _|refine blk_drew ?_|refine blk_alloc ?_ _)); exact BK508.out) hb); have n4_ := Aside0.mk (below_step (by repeat (first|(with_reducible first|exact HB.out|apply below_alloc|apply pw_below_drewN|apply below_drew1|refine below_set ?_ GE508.out)|exact HB.out)) hb); have n5_ := Aside0.mk (hbox); have n6_ := Aside0.mk ((by rw [hg]; exact (below_size (by repeat (first|(with_reducible first|exact HB.out|apply below_alloc|apply pw_below_drewN|apply below_drew1|refine below_set ?_ GE508.out)|exact HB.out))) : w.heap.size ≤ gb527)); have n7_ := Aside0.mk ((by rw [hg]; exact (below_size (by repeat (first|(with_reducible first|exact HB.out|apply below_alloc|apply pw_below_drewN|apply below_drew1|refine below_set ?_ GE508.out)|exact HB.out))) : w.heap.size ≤ gb527)); have n8_ := Aside0.mk ((by rw [hg]; exact Nat.ne_of_lt (blk_lt (g := gb508) (o := .cells #[.slice Ao14 t501.length co14, .bool t504, .string t505, .string t506] 28 (0, 0)) (by (with_reducible repeat (first|refine blk_drewN ?_ _|refine blk_drew ?_|refine blk_alloc ?_ _)); exact BK508.out)) : gb508 ≠ gb527)); have n9_ := Aside0.mk ((by rw [hg]; exact Nat.ne_of_gt (blk_lt (g := gb508) (o := .cells #[.slice Ao14 t501.length co14, .bool t504, .string t505, .string t506] 28 (0, 0)) (by (with_reducible repeat (first|refine blk_drewN ?_ _|refine blk_drew ?_|refine blk_alloc ?_ _)); exact BK508.out)) : gb527 ≠ gb508)); clear HO_12; clear HO_509000; clear HO522; clear BK508; clear HB; have HO_12 := n0_; have HO_509000 := n1_; have HO522 := n2_; have BK508 := n3_; have HB := n4_; have BK527 := n5_; have GW527 := n6_; have GE527 := n7_; have NB508_527 := n8_; have NB527_508 := n9_; clear n0_ n1_ n2_ n3_ n4_ n5_ n6_ n7_ n8_ n9_; clear hb hbox hg; obtain ⟨Ao47, co47, eo47⟩ := Kd.R_slice HO522.out; subst eo47; have hnb48 := NB527_508.out; have hnc48 := NB508_527.out; have hcz49_0 : w46.cell? ⟨gb527, 0, none⟩ = some (.slice none 0 0) := (blk_cell BK527.out 0).trans rfl; have hcz49_1 : w46.cell? ⟨gb527, 1, none⟩ = some (.bool false) := (blk_cell BK527.out 1).trans rfl; have hcz49_2 : w46.cell? ⟨gb527, 2, none⟩ = some (.string (⟨#[]⟩ : ByteArray)) := (blk_cell BK527.out 2).trans rfl; have hcz49_3 : w46.cell? ⟨gb527, 3, none⟩ = some (.string (⟨#[]⟩ : ByteArray)) := (blk_cell BK527.out 3).trans rfl; have hfz49_0 := blk_frozen BK527.out 0; have hfz49_1 := blk_frozen BK527.out 1; have hfz49_2 := blk_frozen BK527.out 2; have hfz49_3 := blk_frozen BK527.out 3)); try go_wp2_with (first|(go_at_call 11; (with_reducible refine (listing_Keys.calls _ _ (rd_L6 l0 (ji40)) a1 (⟨#[]⟩ : ByteArray) x13_4 (wrap64 (1 + t518)) t520 t523 t524 t525 t526 _ ?side1 ?side2 ?side3 A43.out).mono ?_); (case side1 => first|exact HG.out|exact GM.below (by repeat (first|(with_reducible first|exact HB.out|apply below_alloc|apply pw_below_drewN|apply below_drew1|refine below_set ?_ GE508.out)|exact HB.out)) HG.out|(repeat (first|exact HG.out|apply GM.drewN|apply GM.drew))); (case side2 => repeat (first|exact (Kd.C_below HR519_0.out HB.out)|(with_reducible refine Kd.C_alloc ?_ _)|(with_reducible refine Kd.C_drewN ?_ _)|(with_reducible refine Kd.C_drew ?_))); (case side3 => exact HC519_0.out); rintro e w45 ⟨v521, rfl, ho0, hb⟩; have n0_ := Aside0.mk (Kd.R_below (by (with_reducible repeat (first|apply Kd.R_alloc|apply Kd.R_drewN|apply Kd.R_drew)); exact HO_12.out) hb); have n1_ := Aside0.mk (Kd.R_elder' (by (with_reducible repeat (first|apply Kd.R_alloc|apply Kd.R_drewN|apply Kd.R_drew)); exact HO_509000.out) (Kd.R_base ho0) hb); have n2_ := Aside0.mk (Kd.R_lower (Kd.R_new' ho0 (Kd.R_lt (by (with_reducible repeat (first|apply Kd.R_alloc|apply Kd.R_drewN|apply Kd.R_drew)); exact HO_509000.out))) (below_size (by repeat (first|(with_reducible first|exact HB.out|apply below_alloc|apply pw_below_drewN|apply below_drew1|refine below_set ?_ GE508.out)|exact HB.out)))); have n3_ := Aside0.mk (blk_below (g := gb508) (o := .cells #[.slice Ao14 t501.length co14, .bool t504, .string t505, .string t506] 28 (0, 0)) (by (with_reducible repeat (first|refine blk_drewN ?_ _|refine blk_drew ?_|refine blk_alloc ?_ _)); exact BK508.out) hb); have n4_ := Aside0.mk (below_step (by repeat (first|(with_reducible first|exact HB.out|apply below_alloc|apply pw_below_drewN|apply below_drew1|refine below_set ?_ GE508.out)|exact HB.out)) hb); clear HO_12; clear HO_509000; clear BK508; clear HB; have HO_12 := n0_; have HO_509000 := n1_; have HO522 := n2_; have BK508 := n3_; have HB := n4_; clear n0_ n1_ n2_ n3_ n4_; (try clear hb); (try clear hb2); (try clear hk); (try clear hi); (try clear ho0))|((with_reducible refine gate_dst (N := 16) rfl ?_); (try (refine gate_guard (by rfl) ?_; dsimp only)); refine box_event ?hg (N := 16) ?hd (cs := #[.slice none 0 0, .bool false, .string (⟨#[]⟩ : ByteArray), .string (⟨#[]⟩ : ByteArray)]) (t := 28) ?hr ?_; (case hd => rfl); (case hg => rfl); (case hr => first|(go_simp; done)|(go_simp; rfl)); intro gb527 hg w46 hbox hb; have n0_ := Aside0.mk (Kd.R_below (by (with_reducible repeat (first|apply Kd.R_alloc|apply Kd.R_drewN|apply Kd.R_drew)); exact HO_12.out) hb); have n1_ := Aside0.mk (Kd.R_below (by (with_reducible repeat (first|apply Kd.R_alloc|apply Kd.R_drewN|apply Kd.R_drew)); exact HO_509000.out) hb); have n2_ := Aside0.mk (Kd.R_below (by (with_reducible repeat (first|apply Kd.R_alloc|apply Kd.R_drewN|apply Kd.R_drew)); exact HO522.out) hb); have n3_ := Aside0.mk (blk_below (g := gb508) (o := .cells #[.slice Ao14 t501.length co14, .bool t504, .string t505, .string t506] 28 (0, 0)) (by (with_reducible repeat (first|refine blk_drewN ?_ _|refine blk_drew ?_|refine blk_alloc ?_ _)); exact BK508.out) hb); have n4_ := Aside0.mk (below_step (by repeat (first|(with_reducible first|exact HB.out|apply below_alloc|apply pw_below_drewN|apply below_drew1|refine below_set ?_ GE508.out)|exact HB.out)) hb); have n5_ := Aside0.mk (hbox); have n6_ := Aside0.mk ((by rw [hg]; exact (below_size (by repeat (first|(with_reducible first|exact HB.out|apply below_alloc|apply pw_below_drewN|apply below_drew1|refine below_set ?_ GE508.out)|exact HB.out))) : w.heap.size ≤ gb527)); have n7_ := Aside0.mk ((by rw [hg]; exact (below_size (by repeat (first|(with_reducible first|exact HB.out|apply below_alloc|apply pw_below_drewN|apply below_drew1|refine below_set ?_ GE508.out)|exact HB.out))) : w.heap.size ≤ gb527)); have n8_ := Aside0.mk ((by rw [hg]; exact Nat.ne_of_lt (blk_lt (g := gb508) (o := .cells #[.slice Ao14 t501.length co14, .bool t504, .string t505, .string t506] 28 (0, 0)) (by (with_reducible repeat (first|refine blk_drewN ?_ _|refine blk_drew ?_|refine blk_alloc ?_ _)); exact BK508.out)) : gb508 ≠ gb527)); have n9_ := Aside0.mk ((by rw [hg]; exact Nat.ne_of_gt (blk_lt (g := gb508) (o := .cells #[.slice Ao14 t501.length co14, .bool t504, .string t505, .string t506] 28 (0, 0)) (by (with_reducible repeat (first|refine blk_drewN ?_ _|refine blk_drew ?_|refine blk_alloc ?_ _)); exact BK508.out)) : gb527 ≠ gb508)); clear HO_12; clear HO_509000; clear HO522; clear BK508; clear HB; have HO_12 := n0_; have HO_509000 := n1_; have HO522 := n2_; have BK508 := n3_; have HB := n4_; have BK527 := n5_; have GW527 := n6_; have GE527 := n7_; have NB508_527 := n8_; have NB527_508 := n9_; clear n0_ n1_ n2_ n3_ n4_ n5_ n6_ n7_ n8_ n9_; clear hb hbox hg; obtain ⟨Ao47, co47, eo47⟩ := Kd.R_slice HO522.out; subst eo47; have hnb48 := NB527_508.out; have hnc48 := NB508_527.out; have hcz49_0 : w46.cell? ⟨gb527, 0, none⟩ = some (.slice none 0 0) := (blk_cell BK527.out 0).trans rfl; have hcz49_1 : w46.cell? ⟨gb527, 1, none⟩ = some (.bool false) := (blk_cell BK527.out 1).trans rfl; have hcz49_2 : w46.cell? ⟨gb527, 2, none⟩ = some (.string (⟨#[]⟩ : ByteArray)) := (blk_cell BK527.out 2).trans rfl; have hcz49_3 : w46.cell? ⟨gb527, 3, none⟩ = some (.string (⟨#[]⟩ : ByteArray)) := (blk_cell BK527.out 3).trans rfl; have hfz49_0 := blk_frozen BK527.out 0; have hfz49_1 := blk_frozen BK527.out 1; have hfz49_2 := blk_frozen BK527.out 2; have hfz49_3 := blk_frozen BK527.out 3)))
                 go_loopg [12, 18] kj36 (fun kq v12 v18 w' => ∃ (x12_6 : List ByteArray) (x18_6 : Int), v18 = .int .i64 x18_6 ∧ Aside0 (stowagetop_TopSteady.l3 kq l0 a1 (wrap64 (1 + t518)) x9_4 x12_6 x15_4 x18_6 t520 t523 t524 t525 = some r) ∧ Aside0 (kq ≤ kj36) ∧ Aside0 (Kd.R Kd.string 9 w' w.heap.size (fun _ => True) v12 x12_6) ∧ Aside0 (Kd.R k39 39 w' w.heap.size (fun k_ => some k_ ≠ ((.slice Ao47 t520.length co47) : Value).ownBlock) (.slice Ao14 t501.length co14) t501) ∧ Aside0 (Kd.R k39 39 w' w.heap.size (fun k_ => some k_ ≠ ((.slice Ao14 t501.length co14) : Value).ownBlock) (.slice Ao47 t520.length co47) t520) ∧ Aside0 (w'.heap[gb508]? = some (.cells #[(.slice Ao14 t501.length co14), .bool t504, .string t505, .string t506] 28 (0, 0))) ∧ Aside0 (w'.heap[gb527]? = some (.cells #[(.slice Ao47 t520.length co47), .bool t523, .string t524, .string t525] 28 (0, 0))) ∧ Aside0 (Below w.heap.size w w'))
                 case atStart => exact ⟨(x12_4), (0), (by first|rfl|(simp; done)|(simp [*]; done)), H', ⟨Nat.le_refl _⟩, ⟨by (with_reducible repeat (first|apply Kd.R_alloc|apply Kd.R_drewN|apply Kd.R_drew)); exact Kd.R_mono (Kd.R_far (p := ⟨gb527, 3, none⟩) (Kd.R_far (p := ⟨gb527, 2, none⟩) (Kd.R_far (p := ⟨gb527, 1, none⟩) (Kd.R_far (p := ⟨gb527, 0, none⟩) (Kd.R_types HO_12.out BK527.out (by decide)) (fun _ hk => hk.2) (.slice Ao47 t520.length co47)) (fun _ hk => hk.2) (.bool t523)) (fun _ hk => hk.2) (.string t524)) (fun _ hk => hk.2) (.string t525)) (fun _ hk => trivial)⟩, ⟨by (with_reducible repeat (first|apply Kd.R_alloc|apply Kd.R_drewN|apply Kd.R_drew)); exact Kd.R_mono (Kd.R_far (p := ⟨gb527, 3, none⟩) (Kd.R_far (p := ⟨gb527, 2, none⟩) (Kd.R_far (p := ⟨gb527, 1, none⟩) (Kd.R_far (p := ⟨gb527, 0, none⟩) (Kd.R_types HO_509000.out BK527.out (by decide)) (fun _ hk => hk.2) (.slice Ao47 t520.length co47)) (fun _ hk => hk.2) (.bool t523)) (fun _ hk => hk.2) (.string t524)) (fun _ hk => hk.2) (.string t525)) (fun _ hk => hk.1.2)⟩, ⟨by (with_reducible repeat (first|apply Kd.R_alloc|apply Kd.R_drewN|apply Kd.R_drew)); exact Kd.R_mono (Kd.R_far (p := ⟨gb527, 3, none⟩) (Kd.R_far (p := ⟨gb527, 2, none⟩) (Kd.R_far (p := ⟨gb527, 1, none⟩) (Kd.R_far (p := ⟨gb527, 0, none⟩) (Kd.R_types HO522.out BK527.out (by decide)) (fun _ hk => hk.2) (.slice Ao47 t520.length co47)) (fun _ hk => hk.2) (.bool t523)) (fun _ hk => hk.2) (.string t524)) (fun _ hk => hk.2) (.string t525)) (fun _ hk => hk.1.2)⟩, ⟨by (with_reducible repeat (first|refine blk_drewN ?_ _|refine blk_drew ?_|refine blk_alloc ?_ _)); refine blk_far ?_ NB508_527.out _; (with_reducible repeat (first|refine blk_drewN ?_ _|refine blk_drew ?_|refine blk_alloc ?_ _)); refine blk_far ?_ NB508_527.out _; (with_reducible repeat (first|refine blk_drewN ?_ _|refine blk_drew ?_|refine blk_alloc ?_ _)); refine blk_far ?_ NB508_527.out _; (with_reducible repeat (first|refine blk_drewN ?_ _|refine blk_drew ?_|refine blk_alloc ?_ _)); refine blk_far ?_ NB508_527.out _; (with_reducible repeat (first|refine blk_drewN ?_ _|refine blk_drew ?_|refine blk_alloc ?_ _)); exact BK508.out⟩, ⟨by (with_reducible repeat (first|refine blk_drewN ?_ _|refine blk_drew ?_|refine blk_alloc ?_ _)); refine blk_put (cs := #[.slice Ao47 t520.length co47, .bool t523, .string t524, .string (⟨#[]⟩ : ByteArray)]) ?_ 3 _ rfl; (with_reducible repeat (first|refine blk_drewN ?_ _|refine blk_drew ?_|refine blk_alloc ?_ _)); refine blk_put (cs := #[.slice Ao47 t520.length co47, .bool t523, .string (⟨#[]⟩ : ByteArray), .string (⟨#[]⟩ : ByteArray)]) ?_ 2 _ rfl; (with_reducible repeat (first|refine blk_drewN ?_ _|refine blk_drew ?_|refine blk_alloc ?_ _)); refine blk_put (cs := #[.slice Ao47 t520.length co47, .bool false, .string (⟨#[]⟩ : ByteArray), .string (⟨#[]⟩ : ByteArray)]) ?_ 1 _ rfl; (with_reducible repeat (first|refine blk_drewN ?_ _|refine blk_drew ?_|refine blk_alloc ?_ _)); refine blk_put (cs := #[.slice none 0 0, .bool false, .string (⟨#[]⟩ : ByteArray), .string (⟨#[]⟩ : ByteArray)]) ?_ 0 _ rfl; (with_reducible repeat (first|refine blk_drewN ?_ _|refine blk_drew ?_|refine blk_alloc ?_ _)); exact BK527.out⟩, ⟨by repeat (first|(with_reducible first|exact HB.out|apply below_alloc|apply pw_below_drewN|apply below_drew1|refine below_set ?_ GE508.out|refine below_set ?_ GE527.out)|exact HB.out)⟩⟩
                 case round =>
                  clear H'
                  try clear c1
                  try clear c2
                  try clear p2
                  try clear c3
                  try clear c4
                  try clear c5
                  try clear p5
                  try clear q5
                  try clear hx5
                  try clear p6
                  try clear c7
                  try clear c16
                  try clear c16b0
                  try clear c16b1
                  try clear c19
                  try clear c19b0
                  try clear c19b1
                  try clear c19b2
                  try clear c20
                  try clear c20b0
                  try clear c20b1
                  try clear c21
                  try clear c22
                  try clear c22b0
                  try clear c24
                  try clear c24b0
                  try clear c26
                  try clear c29
                  try clear c30
                  try clear c30b0
                  try clear c31
                  try clear c31b0
                  try clear c32
                  try clear c32b0
                  try clear c33
                  try clear c33b0
                  try clear c34
                  try clear c34b0
                  try clear c34b1
                  try clear c35
                  try clear c35b0
                  try clear c35b1
                  try clear c38
                  try clear c38b0
                  try clear c39
                  try clear c41
                  try clear c41b0
                  try clear c42
                  try clear c42b0
                  try clear c44
                  try clear c44b0
                  try clear c44b1
                  try clear c48
                  try clear hcz15_0
                  try clear hcz15_1
                  try clear hcz15_2
                  try clear hcz15_3
                  try clear hcz17_0
                  try clear hcz17_1
                  try clear hcz17_2
                  try clear hcz17_3
                  try clear hcz49_0
                  try clear hcz49_1
                  try clear hcz49_2
                  try clear hcz49_3
                  try clear hfz15_0
                  try clear hfz15_1
                  try clear hfz15_2
                  try clear hfz15_3
                  try clear hfz17_0
                  try clear hfz17_1
                  try clear hfz17_2
                  try clear hfz17_3
                  try clear hfz49_0
                  try clear hfz49_1
                  try clear hfz49_2
                  try clear hfz49_3
                  try clear hx509_0
                  try clear hx511_0
                  try clear hx513_0
                  try clear hx514_0
                  try clear hx515_0
                  try clear hx515_1
                  try clear hx516_0
                  try clear hx517_0
                  try clear hx517_1
                  try clear hx519_0
                  try clear p2
                  try clear p5
                  try clear p509
                  try clear p511
                  try clear p513
                  try clear p514
                  try clear p515
                  try clear p516
                  try clear p517
                  try clear p519
                  try clear p6
                  try clear q5
                  try clear q509
                  try clear q511
                  try clear q513
                  try clear q514
                  try clear q515
                  try clear q516
                  try clear q517
                  try clear q519
                  obtain ⟨x12_6, x18_6, rfl, HA, HK6, HO_12, HO_509000, HO_528000, BK508, BK527, HB⟩ := hrel
                  cases gk with
                  | zero => exact absurd HA.out (by simp [stowagetop_TopSteady.l3])
                  | succ k6 =>
                   have H := HA.out
                   clear HA
                   simp only [stowagetop_TopSteady.l3] at H
                   by_cases c50 : x18_6 < (t520.length : Int)
                   ·rw [if_pos c50] at H
                    have c50b0 : decide (x18_6 < (t520.length : Int)) = true := decide_eq_true c50
                    clear c50
                    by_cases c51 : 0 ≤ x18_6
                    ·rw [if_pos c51] at H
                     have c51b0 : decide (0 ≤ x18_6) = true := decide_eq_true c51
                     clear c51
                     by_cases c52 : x12_6.length < 8796093022208
                     ·rw [if_pos c52] at H
                      have LMc52 := Aside0.mk c52
                      clear c52
                      obtain ⟨y529, hy529⟩ : ∃ y_ : List ByteArray, y_ = (x12_6 ++ [(rd_T39 t520 x18_6).f0]) := ⟨_, rfl⟩
                      replace H : (stowagetop_TopSteady.l3 k6 l0 a1 (wrap64 (1 + t518)) x9_4 y529 x15_4 (wrap64 (x18_6 + 1)) t520 t523 t524 t525) = some r := by first|(rw [hy529]; with_reducible exact H)|(have H2_ := (Option.bind_some _ _).symm.trans H; rw [hy529]; with_reducible exact H2_)|(have H2_ := (Option.bind_some _ _).symm.trans H; with_reducible exact H2_)|with_reducible exact H|(rw [hy529]; exact H)|exact H
                      have Ny529 := Aside0.mk hy529
                      clear hy529
                      as_aux_lemma =>
                       have H' := Aside0.mk H
                       clear H
                       have hnb53 := NB527_508.out
                       have hnc53 := NB508_527.out
                       have hcz54_0 : wr.cell? ⟨gb527, 0, none⟩ = some (.slice Ao47 t520.length co47) := (blk_cell BK527.out 0).trans rfl
                       have hcz54_1 : wr.cell? ⟨gb527, 1, none⟩ = some (.bool t523) := (blk_cell BK527.out 1).trans rfl
                       have hcz54_2 : wr.cell? ⟨gb527, 2, none⟩ = some (.string t524) := (blk_cell BK527.out 2).trans rfl
                       have hcz54_3 : wr.cell? ⟨gb527, 3, none⟩ = some (.string t525) := (blk_cell BK527.out 3).trans rfl
                       have hfz54_0 := blk_frozen BK527.out 0
                       have hfz54_1 := blk_frozen BK527.out 1
                       have hfz54_2 := blk_frozen BK527.out 2
                       have hfz54_3 := blk_frozen BK527.out 3
                       have p528 : 0 ≤ (x18_6 : Int) := of_decide_eq_true (by first|(with_reducible assumption)|assumption)
                       have q528 : x18_6 < (t520.length : Int) := of_decide_eq_true (by first|(with_reducible assumption)|assumption)
                       obtain ⟨ad528, e528, hx528_0, hx528_1, hx528_2, hx528_3, hx528_4, hx528_5, hx528_6, hx528_7⟩ := at_T39 (Kd.R_reads' HO_528000.out).2.2 x18_6 p528 q528
                       cases e528
                       replace p528 := eq_true p528
                       replace q528 := eq_true q528
                       go_wp2_with (first|((with_reducible refine gate_builtin (b := .append) (xs := #[.tmp 141, .tmp 148]) rfl ?_); (try (refine gate_guard (by rfl) ?_; dsimp only)); at_builtin; refine Kd.R_append Kd.string (w0 := w) w.heap.size rfl (.tmp 141) (.tmp 148) 54 9 (.string ⟨#[]⟩) 16 rfl Try.underlying54 info9 rfl (by decide) (by omega) u12 x12_6 ((rd_T39 t520 x18_6).f0) [.string ((rd_T39 t520 x18_6).f0)] (fun _ => True) (fun _ => False) rfl rfl ?aP (fun _ hk => hk.elim) ?aF ?aO ?aB ?aS ?aL ?_; (case aP => exact rfl); (case aB => exact (by repeat (first|(with_reducible first|exact HB.out|apply below_alloc|apply pw_below_drewN|apply below_drew1|refine below_set ?_ GE508.out|refine below_set ?_ GE527.out)|exact HB.out))); (case aF => exact (fun _ _ => trivial)); (case aO => exact (by (with_reducible repeat (first|apply Kd.R_alloc|apply Kd.R_drewN|apply Kd.R_drew)); exact HO_12.out)); (case aS => exact (below_size (by repeat (first|(with_reducible first|exact HB.out|apply below_alloc|apply pw_below_drewN|apply below_drew1|refine below_set ?_ GE508.out|refine below_set ?_ GE527.out)|exact HB.out)))); (case aL => have := LMc52.out; omega); intro v530 w55 ho hb hg hat; rw [← Ny529.out] at ho; have n0_ := Aside0.mk (Kd.R_over' (by (with_reducible repeat (first|apply Kd.R_alloc|apply Kd.R_drewN|apply Kd.R_drew)); exact HO_509000.out) (Kd.R_typed (by (with_reducible repeat (first|apply Kd.R_alloc|apply Kd.R_drewN|apply Kd.R_drew)); exact HO_12.out)) (by decide) hg); have n1_ := Aside0.mk (Kd.R_over' (by (with_reducible repeat (first|apply Kd.R_alloc|apply Kd.R_drewN|apply Kd.R_drew)); exact HO_528000.out) (Kd.R_typed (by (with_reducible repeat (first|apply Kd.R_alloc|apply Kd.R_drewN|apply Kd.R_drew)); exact HO_12.out)) (by decide) hg); have n2_ := Aside0.mk (blk_grown (g := gb508) (o := .cells #[.slice Ao14 t501.length co14, .bool t504, .string t505, .string t506] 28 (0, 0)) (by (with_reducible repeat (first|refine blk_drewN ?_ _|refine blk_drew ?_|refine blk_alloc ?_ _)); exact BK508.out) hg (Kd.R_ne HO_12.out BK508.out (by decide))); have n3_ := Aside0.mk (blk_grown (g := gb527) (o := .cells #[.slice (some ad528) t520.length co47, .bool t523, .string t524, .string t525] 28 (0, 0)) (by (with_reducible repeat (first|refine blk_drewN ?_ _|refine blk_drew ?_|refine blk_alloc ?_ _)); exact BK527.out) hg (Kd.R_ne HO_12.out BK527.out (by decide))); have n4_ := Aside0.mk (hb); have n5_ := Aside0.mk (ho); clear HO_509000; clear HO_528000; clear BK508; clear BK527; clear HB; clear HO_12; have HO_509000 := n0_; have HO_528000 := n1_; have BK508 := n2_; have BK527 := n3_; have HB := n4_; have HO531 := n5_; clear n0_ n1_ n2_ n3_ n4_ n5_; clear ho hb hg hat))
                       repeat (go_quiet (first|((with_reducible refine gate_builtin (b := .append) (xs := #[.tmp 141, .tmp 148]) rfl ?_); (try (refine gate_guard (by rfl) ?_; dsimp only)); at_builtin; refine Kd.R_append Kd.string (w0 := w) w.heap.size rfl (.tmp 141) (.tmp 148) 54 9 (.string ⟨#[]⟩) 16 rfl Try.underlying54 info9 rfl (by decide) (by omega) u12 x12_6 ((rd_T39 t520 x18_6).f0) [.string ((rd_T39 t520 x18_6).f0)] (fun _ => True) (fun _ => False) rfl rfl ?aP (fun _ hk => hk.elim) ?aF ?aO ?aB ?aS ?aL ?_; (case aP => exact rfl); (case aB => exact (by repeat (first|(with_reducible first|exact HB.out|apply below_alloc|apply pw_below_drewN|apply below_drew1|refine below_set ?_ GE508.out|refine below_set ?_ GE527.out)|exact HB.out))); (case aF => exact (fun _ _ => trivial)); (case aO => exact (by (with_reducible repeat (first|apply Kd.R_alloc|apply Kd.R_drewN|apply Kd.R_drew)); exact HO_12.out)); (case aS => exact (below_size (by repeat (first|(with_reducible first|exact HB.out|apply below_alloc|apply pw_below_drewN|apply below_drew1|refine below_set ?_ GE508.out|refine below_set ?_ GE527.out)|exact HB.out)))); (case aL => have := LMc52.out; omega); intro v530 w55 ho hb hg hat; rw [← Ny529.out] at ho; have n0_ := Aside0.mk (Kd.R_over' (by (with_reducible repeat (first|apply Kd.R_alloc|apply Kd.R_drewN|apply Kd.R_drew)); exact HO_509000.out) (Kd.R_typed (by (with_reducible repeat (first|apply Kd.R_alloc|apply Kd.R_drewN|apply Kd.R_drew)); exact HO_12.out)) (by decide) hg); have n1_ := Aside0.mk (Kd.R_over' (by (with_reducible repeat (first|apply Kd.R_alloc|apply Kd.R_drewN|apply Kd.R_drew)); exact HO_528000.out) (Kd.R_typed (by (with_reducible repeat (first|apply Kd.R_alloc|apply Kd.R_drewN|apply Kd.R_drew)); exact HO_12.out)) (by decide) hg); have n2_ := Aside0.mk (blk_grown (g := gb508) (o := .cells #[.slice Ao14 t501.length co14, .bool t504, .string t505, .string t506] 28 (0, 0)) (by (with_reducible repeat (first|refine blk_drewN ?_ _|refine blk_drew ?_|refine blk_alloc ?_ _)); exact BK508.out) hg (Kd.R_ne HO_12.out BK508.out (by decide))); have n3_ := Aside0.mk (blk_grown (g := gb527) (o := .cells #[.slice (some ad528) t520.length co47, .bool t523, .string t524, .string t525] 28 (0, 0)) (by (with_reducible repeat (first|refine blk_drewN ?_ _|refine blk_drew ?_|refine blk_alloc ?_ _)); exact BK527.out) hg (Kd.R_ne HO_12.out BK527.out (by decide))); have n4_ := Aside0.mk (hb); have n5_ := Aside0.mk (ho); clear HO_509000; clear HO_528000; clear BK508; clear BK527; clear HB; clear HO_12; have HO_509000 := n0_; have HO_528000 := n1_; have BK508 := n2_; have BK527 := n3_; have HB := n4_; have HO531 := n5_; clear n0_ n1_ n2_ n3_ n4_ n5_; clear ho hb hg hat)); try go_wp2_with (first|((with_reducible refine gate_builtin (b := .append) (xs := #[.tmp 141, .tmp 148]) rfl ?_); (try (refine gate_guard (by rfl) ?_; dsimp only)); at_builtin; refine Kd.R_append Kd.string (w0 := w) w.heap.size rfl (.tmp 141) (.tmp 148) 54 9 (.string ⟨#[]⟩) 16 rfl Try.underlying54 info9 rfl (by decide) (by omega) u12 x12_6 ((rd_T39 t520 x18_6).f0) [.string ((rd_T39 t520 x18_6).f0)] (fun _ => True) (fun _ => False) rfl rfl ?aP (fun _ hk => hk.elim) ?aF ?aO ?aB ?aS ?aL ?_; (case aP => exact rfl); (case aB => exact (by repeat (first|(with_reducible first|exact HB.out|apply below_alloc|apply pw_below_drewN|apply below_drew1|refine below_set ?_ GE508.out|refine below_set ?_ GE527.out)|exact HB.out))); (case aF => exact (fun _ _ => trivial)); (case aO => exact (by (with_reducible repeat (first|apply Kd.R_alloc|apply Kd.R_drewN|apply Kd.R_drew)); exact HO_12.out)); (case aS => exact (below_size (by repeat (first|(with_reducible first|exact HB.out|apply below_alloc|apply pw_below_drewN|apply below_drew1|refine below_set ?_ GE508.out|refine below_set ?_ GE527.out)|exact HB.out)))); (case aL => have := LMc52.out; omega); intro v530 w55 ho hb hg hat; rw [← Ny529.out] at ho; have n0_ := Aside0.mk (Kd.R_over' (by (with_reducible repeat (first|apply Kd.R_alloc|apply Kd.R_drewN|apply Kd.R_drew)); exact HO_509000.out) (Kd.R_typed (by (with_reducible repeat (first|apply Kd.R_alloc|apply Kd.R_drewN|apply Kd.R_drew)); exact HO_12.out)) (by decide) hg); have n1_ := Aside0.mk (Kd.R_over' (by (with_reducible repeat (first|apply Kd.R_alloc|apply Kd.R_drewN|apply Kd.R_drew)); exact HO_528000.out) (Kd.R_typed (by (with_reducible repeat (first|apply Kd.R_alloc|apply Kd.R_drewN|apply Kd.R_drew)); exact HO_12.out)) (by decide) hg); have n2_ := Aside0.mk (blk_grown (g := gb508) (o := .cells #[.slice Ao14 t501.length co14, .bool t504, .string t505, .string t506] 28 (0, 0)) (by (with_reducible repeat (first|refine blk_drewN ?_ _|refine blk_drew ?_|refine blk_alloc ?_ _)); exact BK508.out) hg (Kd.R_ne HO_12.out BK508.out (by decide))); have n3_ := Aside0.mk (blk_grown (g := gb527) (o := .cells #[.slice (some ad528) t520.length co47, .bool t523, .string t524, .string t525] 28 (0, 0)) (by (with_reducible repeat (first|refine blk_drewN ?_ _|refine blk_drew ?_|refine blk_alloc ?_ _)); exact BK527.out) hg (Kd.R_ne HO_12.out BK527.out (by decide))); have n4_ := Aside0.mk (hb); have n5_ := Aside0.mk (ho); clear HO_509000; clear HO_528000; clear BK508; clear BK527; clear HB; clear HO_12; have HO_509000 := n0_; have HO_528000 := n1_; have BK508 := n2_; have BK527 := n3_; have HB := n4_; have HO531 := n5_; clear n0_ n1_ n2_ n3_ n4_ n5_; clear ho hb hg hat)))
                       go_roundg k6
                       case measure => have := HJ4.out; have := HJ17.out; have := HK3.out; have := HK4.out; have := HJ36.out; have := HK6.out; omega
                       case rel => exact ⟨(y529), (wrap64 (x18_6 + 1)), (by first|rfl|(simp; done)|(simp [*]; done)), H', ⟨by have := HJ4.out; have := HJ17.out; have := HK3.out; have := HK4.out; have := HJ36.out; have := HK6.out; omega⟩, ⟨by (with_reducible repeat (first|apply Kd.R_alloc|apply Kd.R_drewN|apply Kd.R_drew)); exact HO531.out⟩, ⟨by (with_reducible repeat (first|apply Kd.R_alloc|apply Kd.R_drewN|apply Kd.R_drew)); exact HO_509000.out⟩, ⟨by (with_reducible repeat (first|apply Kd.R_alloc|apply Kd.R_drewN|apply Kd.R_drew)); exact HO_528000.out⟩, ⟨by (with_reducible repeat (first|refine blk_drewN ?_ _|refine blk_drew ?_|refine blk_alloc ?_ _)); exact BK508.out⟩, ⟨by (with_reducible repeat (first|refine blk_drewN ?_ _|refine blk_drew ?_|refine blk_alloc ?_ _)); exact BK527.out⟩, ⟨by repeat (first|(with_reducible first|exact HB.out|apply below_alloc|apply pw_below_drewN|apply below_drew1|refine below_set ?_ GE508.out|refine below_set ?_ GE527.out)|exact HB.out)⟩⟩
                     ·rw [if_neg c52] at H
                      exact absurd H (by simp)
                    ·rw [if_neg c51] at H
                     exact absurd H (by simp)
                   ·rw [if_neg c50] at H
                    have c50b0 : decide (x18_6 < (t520.length : Int)) = false := decide_eq_false c50
                    clear c50
                    as_aux_lemma =>
                     have H' := Aside0.mk H
                     clear H
                     have hnb56 := NB527_508.out
                     have hnc56 := NB508_527.out
                     have hcz57_0 : wr.cell? ⟨gb527, 0, none⟩ = some (.slice Ao47 t520.length co47) := (blk_cell BK527.out 0).trans rfl
                     have hcz57_1 : wr.cell? ⟨gb527, 1, none⟩ = some (.bool t523) := (blk_cell BK527.out 1).trans rfl
                     have hcz57_2 : wr.cell? ⟨gb527, 2, none⟩ = some (.string t524) := (blk_cell BK527.out 2).trans rfl
                     have hcz57_3 : wr.cell? ⟨gb527, 3, none⟩ = some (.string t525) := (blk_cell BK527.out 3).trans rfl
                     have hfz57_0 := blk_frozen BK527.out 0
                     have hfz57_1 := blk_frozen BK527.out 1
                     have hfz57_2 := blk_frozen BK527.out 2
                     have hfz57_3 := blk_frozen BK527.out 3
                     go_wp2
                     repeat (go_quiet (fail); try go_wp2)
                     go_roundg k6
                     case measure => have := HJ4.out; have := HJ17.out; have := HK3.out; have := HK4.out; have := HJ36.out; have := HK6.out; omega
                     case rel => exact ⟨(x12_6), (t524), (t523), (wrap64 (x15_4 + 1)), (by first|rfl|(simp; done)|(simp [*]; done)), (by first|rfl|(simp; done)|(simp [*]; done)), (by first|rfl|(simp; done)|(simp [*]; done)), H', ⟨by have := HJ4.out; have := HJ17.out; have := HK3.out; have := HK4.out; have := HJ36.out; have := HK6.out; omega⟩, ⟨by (with_reducible repeat (first|apply Kd.R_alloc|apply Kd.R_drewN|apply Kd.R_drew)); exact HO_12.out⟩, ⟨by (with_reducible repeat (first|apply Kd.R_alloc|apply Kd.R_drewN|apply Kd.R_drew)); exact Kd.R_mono HO_509000.out (fun _ hk => trivial)⟩, ⟨by (with_reducible repeat (first|refine blk_drewN ?_ _|refine blk_drew ?_|refine blk_alloc ?_ _)); exact BK508.out⟩, ⟨by repeat (first|(with_reducible first|exact HB.out|apply below_alloc|apply pw_below_drewN|apply below_drew1|refine below_set ?_ GE508.out|refine below_set ?_ GE527.out)|exact HB.out)⟩⟩
                ·rw [if_neg c44] at H
                 have c44b0 : (t526 == 0) = false := beq_eq_false_iff_ne.mpr c44
                 have c44b1 : (t526 != 0) = true := bne_iff_ne.mpr c44
                 as_aux_lemma =>
                  obtain rfl := Option.some.inj H
                  have p519 : 0 ≤ ((ji40) : Int) := of_decide_eq_true (by first|(with_reducible assumption)|assumption)
                  have q519 : (ji40) < (l0.length : Int) := of_decide_eq_true (by first|(with_reducible assumption)|assumption)
                  obtain ⟨ad519, A519_0, c519_0, e519, hx519_0, hl519_0, hi519_0⟩ := at_L6 HR0.out (ji40) p519 q519
                  cases e519
                  replace hx519_0 := (HB.out.cell (World.block_lt_of_cell? w _ hx519_0)).trans hx519_0
                  have HR519_0 := Aside0.mk hi519_0
                  have HC519_0 := Aside0.mk hl519_0
                  clear hi519_0 hl519_0
                  replace p519 := eq_true p519
                  replace q519 := eq_true q519
                  go_wp2_with (first|(go_at_call 11; (with_reducible refine (listing_Keys.calls _ _ (rd_L6 l0 (ji40)) a1 (⟨#[]⟩ : ByteArray) x13_4 (wrap64 (1 + t518)) t520 t523 t524 t525 t526 _ ?side1 ?side2 ?side3 A43.out).mono ?_); (case side1 => first|exact HG.out|exact GM.below (by repeat (first|(with_reducible first|exact HB.out|apply below_alloc|apply pw_below_drewN|apply below_drew1|refine below_set ?_ GE508.out)|exact HB.out)) HG.out|(repeat (first|exact HG.out|apply GM.drewN|apply GM.drew))); (case side2 => repeat (first|exact (Kd.C_below HR519_0.out HB.out)|(with_reducible refine Kd.C_alloc ?_ _)|(with_reducible refine Kd.C_drewN ?_ _)|(with_reducible refine Kd.C_drew ?_))); (case side3 => exact HC519_0.out); rintro e w58 ⟨v521, rfl, ho0, hb⟩; have n0_ := Aside0.mk (Kd.R_below (by (with_reducible repeat (first|apply Kd.R_alloc|apply Kd.R_drewN|apply Kd.R_drew)); exact HO_12.out) hb); have n1_ := Aside0.mk (Kd.R_elder' (by (with_reducible repeat (first|apply Kd.R_alloc|apply Kd.R_drewN|apply Kd.R_drew)); exact HO_509000.out) (Kd.R_base ho0) hb); have n2_ := Aside0.mk (Kd.R_lower (Kd.R_new' ho0 (Kd.R_lt (by (with_reducible repeat (first|apply Kd.R_alloc|apply Kd.R_drewN|apply Kd.R_drew)); exact HO_509000.out))) (below_size (by repeat (first|(with_reducible first|exact HB.out|apply below_alloc|apply pw_below_drewN|apply below_drew1|refine below_set ?_ GE508.out)|exact HB.out)))); have n3_ := Aside0.mk (blk_below (g := gb508) (o := .cells #[.slice Ao14 t501.length co14, .bool t504, .string t505, .string t506] 28 (0, 0)) (by (with_reducible repeat (first|refine blk_drewN ?_ _|refine blk_drew ?_|refine blk_alloc ?_ _)); exact BK508.out) hb); have n4_ := Aside0.mk (below_step (by repeat (first|(with_reducible first|exact HB.out|apply below_alloc|apply pw_below_drewN|apply below_drew1|refine below_set ?_ GE508.out)|exact HB.out)) hb); clear HO_12; clear HO_509000; clear BK508; clear HB; have HO_12 := n0_; have HO_509000 := n1_; have HO522 := n2_; have BK508 := n3_; have HB := n4_; clear n0_ n1_ n2_ n3_ n4_; (try clear hb); (try clear hb2); (try clear hk); (try clear hi); (try clear ho0))|((with_reducible refine gate_dst (N := 16) rfl ?_); (try (refine gate_guard (by rfl) ?_; dsimp only)); refine box_event ?hg (N := 16) ?hd (cs := #[.slice none 0 0, .bool false, .string (⟨#[]⟩ : ByteArray), .string (⟨#[]⟩ : ByteArray)]) (t := 28) ?hr ?_; (case hd => rfl); (case hg => rfl); (case hr => first|(go_simp; done)|(go_simp; rfl)); intro gb527 hg w59 hbox hb; have n0_ := Aside0.mk (Kd.R_below (by (with_reducible repeat (first|apply Kd.R_alloc|apply Kd.R_drewN|apply Kd.R_drew)); exact HO_12.out) hb); have n1_ := Aside0.mk (Kd.R_below (by (with_reducible repeat (first|apply Kd.R_alloc|apply Kd.R_drewN|apply Kd.R_drew)); exact HO_509000.out) hb); have n2_ := Aside0.mk (Kd.R_below (by (with_reducible repeat (first|apply Kd.R_alloc|apply Kd.R_drewN|apply Kd.R_drew)); exact HO522.out) hb); have n3_ := Aside0.mk (blk_below (g := gb508) (o := .cells #[.slice Ao14 t501.length co14, .bool t504, .string t505, .string t506] 28 (0, 0)) (by (with_reducible repeat (first|refine blk_drewN ?_ _|refine blk_drew ?_|refine blk_alloc ?_ _)); exact BK508.out) hb); have n4_ := Aside0.mk (below_step (by repeat (first|(with_reducible first|exact HB.out|apply below_alloc|apply pw_below_drewN|apply below_drew1|refine below_set ?_ GE508.out)|exact HB.out)) hb); have n5_ := Aside0.mk (hbox); have n6_ := Aside0.mk ((by rw [hg]; exact (below_size (by repeat (first|(with_reducible first|exact HB.out|apply below_alloc|apply pw_below_drewN|apply below_drew1|refine below_set ?_ GE508.out)|exact HB.out))) : w.heap.size ≤ gb527)); have n7_ := Aside0.mk ((by rw [hg]; exact (below_size (by repeat (first|(with_reducible first|exact HB.out|apply below_alloc|apply pw_below_drewN|apply below_drew1|refine below_set ?_ GE508.out)|exact HB.out))) : w.heap.size ≤ gb527)); have n8_ := Aside0.mk ((by rw [hg]; exact Nat.ne_of_lt (blk_lt (g := gb508) (o := .cells #[.slice Ao14 t501.length co14, .bool t504, .string t505, .string t506] 28 (0, 0)) (by (with_reducible repeat (first|refine blk_drewN ?_ _|refine blk_drew ?_|refine blk_alloc ?_ _)); exact BK508.out)) : gb508 ≠ gb527)); have n9_ := Aside0.mk ((by rw [hg]; exact Nat.ne_of_gt (blk_lt (g := gb508) (o := .cells #[.slice Ao14 t501.length co14, .bool t504, .string t505, .string t506] 28 (0, 0)) (by (with_reducible repeat (first|refine blk_drewN ?_ _|refine blk_drew ?_|refine blk_alloc ?_ _)); exact BK508.out)) : gb527 ≠ gb508)); clear HO_12; clear HO_509000; clear HO522; clear BK508; clear HB; have HO_12 := n0_; have HO_509000 := n1_; have HO522 := n2_; have BK508 := n3_; have HB := n4_; have BK527 := n5_; have GW527 := n6_; have GE527 := n7_; have NB508_527 := n8_; have NB527_508 := n9_; clear n0_ n1_ n2_ n3_ n4_ n5_ n6_ n7_ n8_ n9_; clear hb hbox hg; obtain ⟨Ao60, co60, eo60⟩ := Kd.R_slice HO522.out; subst eo60; have hnb61 := NB527_508.out; have hnc61 := NB508_527.out; have hcz62_0 : w59.cell? ⟨gb527, 0, none⟩ = some (.slice none 0 0) := (blk_cell BK527.out 0).trans rfl; have hcz62_1 : w59.cell? ⟨gb527, 1, none⟩ = some (.bool false) := (blk_cell BK527.out 1).trans rfl; have hcz62_2 : w59.cell? ⟨gb527, 2, none⟩ = some (.string (⟨#[]⟩ : ByteArray)) := (blk_cell BK527.out 2).trans rfl; have hcz62_3 : w59.cell? ⟨gb527, 3, none⟩ = some (.string (⟨#[]⟩ : ByteArray)) := (blk_cell BK527.out 3).trans rfl; have hfz62_0 := blk_frozen BK527.out 0; have hfz62_1 := blk_frozen BK527.out 1; have hfz62_2 := blk_frozen BK527.out 2; have hfz62_3 := blk_frozen BK527.out 3))
                  repeat (go_quiet (first|(go_at_call 11; (with_reducible refine (listing_Keys.calls _ _ (rd_L6 l0 (ji40)) a1 (⟨#[]⟩ : ByteArray) x13_4 (wrap64 (1 + t518)) t520 t523 t524 t525 t526 _ ?side1 ?side2 ?side3 A43.out).mono ?_); (case side1 => first|exact HG.out|exact GM.below (by repeat (first|(with_reducible first|exact HB.out|apply below_alloc|apply pw_below_drewN|apply below_drew1|refine below_set ?_ GE508.out)|exact HB.out)) HG.out|(repeat (first|exact HG.out|apply GM.drewN|apply GM.drew))); (case side2 => repeat (first|exact (Kd.C_below HR519_0.out HB.out)|(with_reducible refine Kd.C_alloc ?_ _)|(with_reducible refine Kd.C_drewN ?_ _)|(with_reducible refine Kd.C_drew ?_))); (case side3 => exact HC519_0.out); rintro e w58 ⟨v521, rfl, ho0, hb⟩; have n0_ := Aside0.mk (Kd.R_below (by (with_reducible repeat (first|apply Kd.R_alloc|apply Kd.R_drewN|apply Kd.R_drew)); exact HO_12.out) hb); have n1_ := Aside0.mk (Kd.R_elder' (by (with_reducible repeat (first|apply Kd.R_alloc|apply Kd.R_drewN|apply Kd.R_drew)); exact HO_509000.out) (Kd.R_base ho0) hb); have n2_ := Aside0.mk (Kd.R_lower (Kd.R_new' ho0 (Kd.R_lt (by (with_reducible repeat (first|apply Kd.R_alloc|apply Kd.R_drewN|apply Kd.R_drew)); exact HO_509000.out))) (below_size (by repeat (first|(with_reducible first|exact HB.out|apply below_alloc|apply pw_below_drewN|apply below_drew1|refine below_set ?_ GE508.out)|exact HB.out)))); have n3_ := Aside0.mk (blk_below (g := gb508) (o := .cells #[.slice Ao14 t501.length co14, .bool t504, .string t505, .string t506] 28 (0, 0)) (by (with_reducible repeat (first|refine blk_drewN ?_ _|refine blk_drew ?_|refine blk_alloc ?_ _)); exact BK508.out) hb); have n4_ := Aside0.mk (below_step (by repeat (first|(with_reducible first|exact HB.out|apply below_alloc|apply pw_below_drewN|apply below_drew1|refine below_set ?_ GE508.out)|exact HB.out)) hb); clear HO_12; clear HO_509000; clear BK508; clear HB; have HO_12 := n0_; have HO_509000 := n1_; have HO522 := n2_; have BK508 := n3_; have HB := n4_; clear n0_ n1_ n2_ n3_ n4_; (try clear hb); (try clear hb2); (try clear hk); (try clear hi); (try clear ho0))|((with_reducible refine gate_dst (N := 16) rfl ?_); (try (refine gate_guard (by rfl) ?_; dsimp only)); refine box_event ?hg (N := 16) ?hd (cs := #[.slice none 0 0, .bool false, .string (⟨#[]⟩ : ByteArray), .string (⟨#[]⟩ : ByteArray)]) (t := 28) ?hr ?_; (case hd => rfl); (case hg => rfl); (case hr => first|(go_simp; done)|(go_simp; rfl)); intro gb527 hg w59 hbox hb; have n0_ := Aside0.mk (Kd.R_below (by (with_reducible repeat (first|apply Kd.R_alloc|apply Kd.R_drewN|apply Kd.R_drew)); exact HO_12.out) hb); have n1_ := Aside0.mk (Kd.R_below (by (with_reducible repeat (first|apply Kd.R_alloc|apply Kd.R_drewN|apply Kd.R_drew)); exact HO_509000.out) hb); have n2_ := Aside0.mk (Kd.R_below (by (with_reducible repeat (first|apply Kd.R_alloc|apply Kd.R_drewN|apply Kd.R_drew)); exact HO522.out) hb); have n3_ := Aside0.mk (blk_below (g := gb508) (o := .cells #[.slice Ao14 t501.length co14, .bool t504, .string t505, .string t506] 28 (0, 0)) (by (with_reducible repeat (first|refine blk_drewN ?_ _|refine blk_drew ?_|refine blk_alloc ?_ _)); exact BK508.out) hb); have n4_ := Aside0.mk (below_step (by repeat (first|(with_reducible first|exact HB.out|apply below_alloc|apply pw_below_drewN|apply below_drew1|refine below_set ?_ GE508.out)|exact HB.out)) hb); have n5_ := Aside0.mk (hbox); have n6_ := Aside0.mk ((by rw [hg]; exact (below_size (by repeat (first|(with_reducible first|exact HB.out|apply below_alloc|apply pw_below_drewN|apply below_drew1|refine below_set ?_ GE508.out)|exact HB.out))) : w.heap.size ≤ gb527)); have n7_ := Aside0.mk ((by rw [hg]; exact (below_size (by repeat (first|(with_reducible first|exact HB.out|apply below_alloc|apply pw_below_drewN|apply below_drew1|refine below_set ?_ GE508.out)|exact HB.out))) : w.heap.size ≤ gb527)); have n8_ := Aside0.mk ((by rw [hg]; exact Nat.ne_of_lt (blk_lt (g := gb508) (o := .cells #[.slice Ao14 t501.length co14, .bool t504, .string t505, .string t506] 28 (0, 0)) (by (with_reducible repeat (first|refine blk_drewN ?_ _|refine blk_drew ?_|refine blk_alloc ?_ _)); exact BK508.out)) : gb508 ≠ gb527)); have n9_ := Aside0.mk ((by rw [hg]; exact Nat.ne_of_gt (blk_lt (g := gb508) (o := .cells #[.slice Ao14 t501.length co14, .bool t504, .string t505, .string t506] 28 (0, 0)) (by (with_reducible repeat (first|refine blk_drewN ?_ _|refine blk_drew ?_|refine blk_alloc ?_ _)); exact BK508.out)) : gb527 ≠ gb508)); clear HO_12; clear HO_509000; clear HO522; clear BK508; clear HB; have HO_12 := n0_; have HO_509000 := n1_; have HO522 := n2_; have BK508 := n3_; have HB := n4_; have BK527 := n5_; have GW527 := n6_; have GE527 := n7_; have NB508_527 := n8_; have NB527_508 := n9_; clear n0_ n1_ n2_ n3_ n4_ n5_ n6_ n7_ n8_ n9_; clear hb hbox hg; obtain ⟨Ao60, co60, eo60⟩ := Kd.R_slice HO522.out; subst eo60; have hnb61 := NB527_508.out; have hnc61 := NB508_527.out; have hcz62_0 : w59.cell? ⟨gb527, 0, none⟩ = some (.slice none 0 0) := (blk_cell BK527.out 0).trans rfl; have hcz62_1 : w59.cell? ⟨gb527, 1, none⟩ = some (.bool false) := (blk_cell BK527.out 1).trans rfl; have hcz62_2 : w59.cell? ⟨gb527, 2, none⟩ = some (.string (⟨#[]⟩ : ByteArray)) := (blk_cell BK527.out 2).trans rfl; have hcz62_3 : w59.cell? ⟨gb527, 3, none⟩ = some (.string (⟨#[]⟩ : ByteArray)) := (blk_cell BK527.out 3).trans rfl; have hfz62_0 := blk_frozen BK527.out 0; have hfz62_1 := blk_frozen BK527.out 1; have hfz62_2 := blk_frozen BK527.out 2; have hfz62_3 := blk_frozen BK527.out 3)); try go_wp2_with (first|(go_at_call 11; (with_reducible refine (listing_Keys.calls _ _ (rd_L6 l0 (ji40)) a1 (⟨#[]⟩ : ByteArray) x13_4 (wrap64 (1 + t518)) t520 t523 t524 t525 t526 _ ?side1 ?side2 ?side3 A43.out).mono ?_); (case side1 => first|exact HG.out|exact GM.below (by repeat (first|(with_reducible first|exact HB.out|apply below_alloc|apply pw_below_drewN|apply below_drew1|refine below_set ?_ GE508.out)|exact HB.out)) HG.out|(repeat (first|exact HG.out|apply GM.drewN|apply GM.drew))); (case side2 => repeat (first|exact (Kd.C_below HR519_0.out HB.out)|(with_reducible refine Kd.C_alloc ?_ _)|(with_reducible refine Kd.C_drewN ?_ _)|(with_reducible refine Kd.C_drew ?_))); (case side3 => exact HC519_0.out); rintro e w58 ⟨v521, rfl, ho0, hb⟩; have n0_ := Aside0.mk (Kd.R_below (by (with_reducible repeat (first|apply Kd.R_alloc|apply Kd.R_drewN|apply Kd.R_drew)); exact HO_12.out) hb); have n1_ := Aside0.mk (Kd.R_elder' (by (with_reducible repeat (first|apply Kd.R_alloc|apply Kd.R_drewN|apply Kd.R_drew)); exact HO_509000.out) (Kd.R_base ho0) hb); have n2_ := Aside0.mk (Kd.R_lower (Kd.R_new' ho0 (Kd.R_lt (by (with_reducible repeat (first|apply Kd.R_alloc|apply Kd.R_drewN|apply Kd.R_drew)); exact HO_509000.out))) (below_size (by repeat (first|(with_reducible first|exact HB.out|apply below_alloc|apply pw_below_drewN|apply below_drew1|refine below_set ?_ GE508.out)|exact HB.out)))); have n3_ := Aside0.mk (blk_below (g := gb508) (o := .cells #[.slice Ao14 t501.length co14, .bool t504, .string t505, .string t506] 28 (0, 0)) (by (with_reducible repeat (first|refine blk_drewN ?_ _|refine blk_drew ?_|refine blk_alloc ?_ _)); exact BK508.out) hb); have n4_ := Aside0.mk (below_step (by repeat (first|(with_reducible first|exact HB.out|apply below_alloc|apply pw_below_drewN|apply below_drew1|refine below_set ?_ GE508.out)|exact HB.out)) hb); clear HO_12; clear HO_509000; clear BK508; clear HB; have HO_12 := n0_; have HO_509000 := n1_; have HO522 := n2_; have BK508 := n3_; have HB := n4_; clear n0_ n1_ n2_ n3_ n4_; (try clear hb); (try clear hb2); (try clear hk); (try clear hi); (try clear ho0))|((with_reducible refine gate_dst (N := 16) rfl ?_); (try (refine gate_guard (by rfl) ?_; dsimp only)); refine box_event ?hg (N := 16) ?hd (cs := #[.slice none 0 0, .bool false, .string (⟨#[]⟩ : ByteArray), .string (⟨#[]⟩ : ByteArray)]) (t := 28) ?hr ?_; (case hd => rfl); (case hg => rfl); (case hr => first|(go_simp; done)|(go_simp; rfl)); intro gb527 hg w59 hbox hb; have n0_ := Aside0.mk (Kd.R_below (by (with_reducible repeat (first|apply Kd.R_alloc|apply Kd.R_drewN|apply Kd.R_drew)); exact HO_12.out) hb); have n1_ := Aside0.mk (Kd.R_below (by (with_reducible repeat (first|apply Kd.R_alloc|apply Kd.R_drewN|apply Kd.R_drew)); exact HO_509000.out) hb); have n2_ := Aside0.mk (Kd.R_below (by (with_reducible repeat (first|apply Kd.R_alloc|apply Kd.R_drewN|apply Kd.R_drew)); exact HO522.out) hb); have n3_ := Aside0.mk (blk_below (g := gb508) (o := .cells #[.slice Ao14 t501.length co14, .bool t504, .string t505, .string t506] 28 (0, 0)) (by (with_reducible repeat (first|refine blk_drewN ?_ _|refine blk_drew ?_|refine blk_alloc ?_ _)); exact BK508.out) hb); have n4_ := Aside0.mk (below_step (by repeat (first|(with_reducible first|exact HB.out|apply below_alloc|apply pw_below_drewN|apply below_drew1|refine below_set ?_ GE508.out)|exact HB.out)) hb); have n5_ := Aside0.mk (hbox); have n6_ := Aside0.mk ((by rw [hg]; exact (below_size (by repeat (first|(with_reducible first|exact HB.out|apply below_alloc|apply pw_below_drewN|apply below_drew1|refine below_set ?_ GE508.out)|exact HB.out))) : w.heap.size ≤ gb527)); have n7_ := Aside0.mk ((by rw [hg]; exact (below_size (by repeat (first|(with_reducible first|exact HB.out|apply below_alloc|apply pw_below_drewN|apply below_drew1|refine below_set ?_ GE508.out)|exact HB.out))) : w.heap.size ≤ gb527)); have n8_ := Aside0.mk ((by rw [hg]; exact Nat.ne_of_lt (blk_lt (g := gb508) (o := .cells #[.slice Ao14 t501.length co14, .bool t504, .string t505, .string t506] 28 (0, 0)) (by (with_reducible repeat (first|refine blk_drewN ?_ _|refine blk_drew ?_|refine blk_alloc ?_ _)); exact BK508.out)) : gb508 ≠ gb527)); have n9_ := Aside0.mk ((by rw [hg]; exact Nat.ne_of_gt (blk_lt (g := gb508) (o := .cells #[.slice Ao14 t501.length co14, .bool t504, .string t505, .string t506] 28 (0, 0)) (by (with_reducible repeat (first|refine blk_drewN ?_ _|refine blk_drew ?_|refine blk_alloc ?_ _)); exact BK508.out)) : gb527 ≠ gb508)); clear HO_12; clear HO_509000; clear HO522; clear BK508; clear HB; have HO_12 := n0_; have HO_509000 := n1_; have HO522 := n2_; have BK508 := n3_; have HB := n4_; have BK527 := n5_; have GW527 := n6_; have GE527 := n7_; have NB508_527 := n8_; have NB527_508 := n9_; clear n0_ n1_ n2_ n3_ n4_ n5_ n6_ n7_ n8_ n9_; clear hb hbox hg; obtain ⟨Ao60, co60, eo60⟩ := Kd.R_slice HO522.out; subst eo60; have hnb61 := NB527_508.out; have hnc61 := NB508_527.out; have hcz62_0 : w59.cell? ⟨gb527, 0, none⟩ = some (.slice none 0 0) := (blk_cell BK527.out 0).trans rfl; have hcz62_1 : w59.cell? ⟨gb527, 1, none⟩ = some (.bool false) := (blk_cell BK527.out 1).trans rfl; have hcz62_2 : w59.cell? ⟨gb527, 2, none⟩ = some (.string (⟨#[]⟩ : ByteArray)) := (blk_cell BK527.out 2).trans rfl; have hcz62_3 : w59.cell? ⟨gb527, 3, none⟩ = some (.string (⟨#[]⟩ : ByteArray)) := (blk_cell BK527.out 3).trans rfl; have hfz62_0 := blk_frozen BK527.out 0; have hfz62_1 := blk_frozen BK527.out 1; have hfz62_2 := blk_frozen BK527.out 2; have hfz62_3 := blk_frozen BK527.out 3)))
                  go_ret
                  exact ⟨by first|rfl|(simp [errW_none, errW_some] <;> rfl)|(simp only [← hji40]; first|rfl|(simp [errW_none, errW_some] <;> rfl))|(simp [*, errW_none, errW_some] <;> rfl), by repeat (first|(with_reducible first|exact HB.out|apply below_alloc|apply pw_below_drewN|apply below_drew1|refine below_set ?_ GE508.out|refine below_set ?_ GE527.out)|exact HB.out)⟩
               ·rw [if_neg c42] at H
                exact absurd H (by simp)
              ·rw [if_neg c41] at H
               exact absurd H (by simp)
             ·replace c39 := Bool.eq_false_iff.mpr c39
              subst c39
              have H1 : (stowagetop_TopSteady.l4 kj36 l0 a1 x9_4 x12_4 x14_4 1) = some r := by rw [if_neg (show ¬ (false = true) by decide)] at H; exact H
              clear H
              have H := H1
              clear H1
              have H' := Aside0.mk H
              clear H
              go_wp2
              repeat (go_quiet (fail); try go_wp2)
              go_loopg [19] kj36 (fun kq v19 w' => ∃ (x19_6 : Int), v19 = .int .i64 x19_6 ∧ Aside0 (stowagetop_TopSteady.l4 kq l0 a1 x9_4 x12_4 x14_4 x19_6 = some r) ∧ Aside0 (kq ≤ kj36) ∧ Aside0 (Kd.R Kd.string 9 w' w.heap.size (fun _ => True) u12 x12_4) ∧ Aside0 (Kd.R k39 39 w' w.heap.size (fun _ => True) (.slice Ao14 t501.length co14) t501) ∧ Aside0 (w'.heap[gb508]? = some (.cells #[(.slice Ao14 t501.length co14), .bool t504, .string t505, .string t506] 28 (0, 0))) ∧ Aside0 (Below w.heap.size w w'))
              case atStart => exact ⟨(1), (by first|rfl|(simp; done)|(simp [*]; done)), H', ⟨Nat.le_refl _⟩, ⟨by (with_reducible repeat (first|apply Kd.R_alloc|apply Kd.R_drewN|apply Kd.R_drew)); exact HO_12.out⟩, ⟨by (with_reducible repeat (first|apply Kd.R_alloc|apply Kd.R_drewN|apply Kd.R_drew)); exact HO_509000.out⟩, ⟨by (with_reducible repeat (first|refine blk_drewN ?_ _|refine blk_drew ?_|refine blk_alloc ?_ _)); exact BK508.out⟩, ⟨by repeat (first|(with_reducible first|exact HB.out|apply below_alloc|apply pw_below_drewN|apply below_drew1|refine below_set ?_ GE508.out)|exact HB.out)⟩⟩
              case round =>
               clear H'
               try clear c1
               try clear c2
               try clear p2
               try clear c3
               try clear c4
               try clear c5
               try clear p5
               try clear q5
               try clear hx5
               try clear c6
               try clear p6
               try clear c7
               try clear c16
               try clear c16b0
               try clear c16b1
               try clear c19
               try clear c19b0
               try clear c19b1
               try clear c19b2
               try clear c20
               try clear c20b0
               try clear c20b1
               try clear c21
               try clear c22
               try clear c22b0
               try clear c24
               try clear c24b0
               try clear c26
               try clear c29
               try clear c30
               try clear c30b0
               try clear c31
               try clear c31b0
               try clear c32
               try clear c32b0
               try clear c33
               try clear c33b0
               try clear c34
               try clear c34b0
               try clear c34b1
               try clear c35
               try clear c35b0
               try clear c35b1
               try clear c38
               try clear c38b0
               try clear c39
               try clear c41
               try clear c41b0
               try clear c42
               try clear c42b0
               try clear c44
               try clear c44b0
               try clear c44b1
               try clear c48
               try clear c50
               try clear c50b0
               try clear p50
               try clear q50
               try clear hx50
               try clear c51
               try clear c51b0
               try clear p51
               try clear q51
               try clear hx51
               try clear c52
               try clear p52
               try clear q52
               try clear hx52
               try clear c53
               try clear c56
               try clear c61
               try clear hcz15_0
               try clear hcz15_1
               try clear hcz15_2
               try clear hcz15_3
               try clear hcz17_0
               try clear hcz17_1
               try clear hcz17_2
               try clear hcz17_3
               try clear hcz49_0
               try clear hcz49_1
               try clear hcz49_2
               try clear hcz49_3
               try clear hcz54_0
               try clear hcz54_1
               try clear hcz54_2
               try clear hcz54_3
               try clear hcz57_0
               try clear hcz57_1
               try clear hcz57_2
               try clear hcz57_3
               try clear hcz62_0
               try clear hcz62_1
               try clear hcz62_2
               try clear hcz62_3
               try clear hfz15_0
               try clear hfz15_1
               try clear hfz15_2
               try clear hfz15_3
               try clear hfz17_0
               try clear hfz17_1
               try clear hfz17_2
               try clear hfz17_3
               try clear hfz49_0
               try clear hfz49_1
               try clear hfz49_2
               try clear hfz49_3
               try clear hfz54_0
               try clear hfz54_1
               try clear hfz54_2
               try clear hfz54_3
               try clear hfz57_0
               try clear hfz57_1
               try clear hfz57_2
               try clear hfz57_3
               try clear hfz62_0
               try clear hfz62_1
               try clear hfz62_2
               try clear hfz62_3
               try clear hx509_0
               try clear hx511_0
               try clear hx513_0
               try clear hx514_0
               try clear hx515_0
               try clear hx515_1
               try clear hx516_0
               try clear hx517_0
               try clear hx517_1
               try clear hx519_0
               try clear hx528_0
               try clear hx528_1
               try clear hx528_2
               try clear hx528_3
               try clear hx528_4
               try clear hx528_5
               try clear hx528_6
               try clear hx528_7
               try clear p2
               try clear p5
               try clear p509
               try clear p511
               try clear p513
               try clear p514
               try clear p515
               try clear p516
               try clear p517
               try clear p519
               try clear p528
               try clear p6
               try clear q5
               try clear q509
               try clear q511
               try clear q513
               try clear q514
               try clear q515
               try clear q516
               try clear q517
               try clear q519
               try clear q528
               obtain ⟨x19_6, rfl, HA, HK6, HO_12, HO_509000, BK508, HB⟩ := hrel
               cases gk with
               | zero => exact absurd HA.out (by simp [stowagetop_TopSteady.l4])
               | succ k6 =>
                have H := HA.out
                clear HA
                simp only [stowagetop_TopSteady.l4] at H
                by_cases c63 : x19_6 < (x12_4.length : Int)
                ·rw [if_pos c63] at H
                 have c63b0 : decide (x19_6 < (x12_4.length : Int)) = true := decide_eq_true c63
                 clear c63
                 by_cases c64 : 0 ≤ x19_6
                 ·rw [if_pos c64] at H
                  have c64b0 : decide (0 ≤ x19_6) = true := decide_eq_true c64
                  clear c64
                  obtain ⟨ji65, hji65⟩ : ∃ j_ : Int, (wrap64 (x19_6 - 1)) = j_ := ⟨_, rfl⟩
                  replace H : (if 0 ≤ (ji65) then (if (ji65) < (x12_4.length : Int) then (if ((Op.bytesLess ((rdOf ByteArray.empty x12_4 (ji65)).toList) ((rdOf ByteArray.empty x12_4 x19_6).toList)) = true) then (stowagetop_TopSteady.l4 k6 l0 a1 x9_4 x12_4 x14_4 (wrap64 (x19_6 + 1))) else (some false)) else (none)) else (none)) = some r := by first|(rw [hji65] at H; exact H)|(simp only [hji65] at H ⊢; exact H)
                  have hji65w : (IntKind.i64.wrap (x19_6 - 1)) = ji65 := (i64_w _).trans hji65
                  by_cases c66 : 0 ≤ (ji65)
                  ·rw [if_pos c66] at H
                   have c66b0 : decide (0 ≤ (ji65)) = true := decide_eq_true c66
                   clear c66
                   by_cases c67 : (ji65) < (x12_4.length : Int)
                   ·rw [if_pos c67] at H
                    have c67b0 : decide ((ji65) < (x12_4.length : Int)) = true := decide_eq_true c67
                    clear c67
                    by_cases c68 : ((Op.bytesLess ((rdOf ByteArray.empty x12_4 (ji65)).toList) ((rdOf ByteArray.empty x12_4 x19_6).toList)) = true)
                    ·rw [if_pos c68] at H
                     have c68b0 : (Op.bytesLess ((rdOf ByteArray.empty x12_4 (ji65)).toList) ((rdOf ByteArray.empty x12_4 x19_6).toList)) = true := c68
                     clear c68
                     as_aux_lemma =>
                      have H' := Aside0.mk H
                      clear H
                      obtain ⟨Ao69, co69, eo69⟩ := Kd.R_slice HO_12.out
                      subst eo69
                      have p532 : 0 ≤ (x19_6 : Int) := of_decide_eq_true (by first|(with_reducible assumption)|assumption)
                      have q532 : x19_6 < (x12_4.length : Int) := of_decide_eq_true (by first|(with_reducible assumption)|assumption)
                      obtain ⟨ad532, e532, hx532_0⟩ := Kd.at_string (Kd.R_reads' HO_12.out).2.2 x19_6 p532 q532
                      cases e532
                      replace p532 := eq_true p532
                      replace q532 := eq_true q532
                      have p533 : 0 ≤ ((ji65) : Int) := of_decide_eq_true (by first|(with_reducible assumption)|assumption)
                      have q533 : (ji65) < (x12_4.length : Int) := of_decide_eq_true (by first|(with_reducible assumption)|assumption)
                      obtain ⟨ad533, e533, hx533_0⟩ := Kd.at_string (Kd.R_reads' HO_12.out).2.2 (ji65) p533 q533
                      obtain rfl : ad532 = ad533 := (by injection e533)
                      replace p533 := eq_true p533
                      replace q533 := eq_true q533
                      go_wp2
                      repeat (go_quiet (fail); try go_wp2)
                      go_roundg k6
                      case measure => have := HJ4.out; have := HJ17.out; have := HK3.out; have := HK4.out; have := HJ36.out; have := HK6.out; omega
                      case rel => exact ⟨(wrap64 (x19_6 + 1)), (by first|rfl|(simp; done)|(simp [*]; done)), H', ⟨by have := HJ4.out; have := HJ17.out; have := HK3.out; have := HK4.out; have := HJ36.out; have := HK6.out; omega⟩, ⟨by (with_reducible repeat (first|apply Kd.R_alloc|apply Kd.R_drewN|apply Kd.R_drew)); exact HO_12.out⟩, ⟨by (with_reducible repeat (first|apply Kd.R_alloc|apply Kd.R_drewN|apply Kd.R_drew)); exact HO_509000.out⟩, ⟨by (with_reducible repeat (first|refine blk_drewN ?_ _|refine blk_drew ?_|refine blk_alloc ?_ _)); exact BK508.out⟩, ⟨by repeat (first|(with_reducible first|exact HB.out|apply below_alloc|apply pw_below_drewN|apply below_drew1|refine below_set ?_ GE508.out)|exact HB.out)⟩⟩
                    ·rw [if_neg c68] at H
                     have c68b0 : (Op.bytesLess ((rdOf ByteArray.empty x12_4 (ji65)).toList) ((rdOf ByteArray.empty x12_4 x19_6).toList)) = false := by simpa using c68
                     clear c68
                     as_aux_lemma =>
                      obtain rfl := Option.some.inj H
                      obtain ⟨Ao70, co70, eo70⟩ := Kd.R_slice HO_12.out
                      subst eo70
                      have p532 : 0 ≤ (x19_6 : Int) := of_decide_eq_true (by first|(with_reducible assumption)|assumption)
                      have q532 : x19_6 < (x12_4.length : Int) := of_decide_eq_true (by first|(with_reducible assumption)|assumption)
                      obtain ⟨ad532, e532, hx532_0⟩ := Kd.at_string (Kd.R_reads' HO_12.out).2.2 x19_6 p532 q532
                      cases e532
                      replace p532 := eq_true p532
                      replace q532 := eq_true q532
                      have p533 : 0 ≤ ((ji65) : Int) := of_decide_eq_true (by first|(with_reducible assumption)|assumption)
                      have q533 : (ji65) < (x12_4.length : Int) := of_decide_eq_true (by first|(with_reducible assumption)|assumption)
                      obtain ⟨ad533, e533, hx533_0⟩ := Kd.at_string (Kd.R_reads' HO_12.out).2.2 (ji65) p533 q533
                      obtain rfl : ad532 = ad533 := (by injection e533)
                      replace p533 := eq_true p533
                      replace q533 := eq_true q533
                      go_wp2
                      repeat (go_quiet (fail); try go_wp2)
                      go_ret
                      exact ⟨by first|rfl|(simp [errW_none, errW_some] <;> rfl)|(simp only [← hji65]; first|rfl|(simp [errW_none, errW_some] <;> rfl))|(simp [*, errW_none, errW_some] <;> rfl), by repeat (first|(with_reducible first|exact HB.out|apply below_alloc|apply pw_below_drewN|apply below_drew1|refine below_set ?_ GE508.out)|exact HB.out)⟩
                   ·rw [if_neg c67] at H
                    exact absurd H (by simp)
                  ·rw [if_neg c66] at H
                   exact absurd H (by simp)
                 ·rw [if_neg c64] at H
                  exact absurd H (by simp)
                ·rw [if_neg c63] at H
                 have c63b0 : decide (x19_6 < (x12_4.length : Int)) = false := decide_eq_false c63
                 clear c63
                 have H' := Aside0.mk H
                 clear H
                 obtain ⟨Ao71, co71, eo71⟩ := Kd.R_slice HO_12.out
                 subst eo71
                 go_wp2
                 repeat (go_quiet (fail); try go_wp2)
                 go_loopg [20] k6 (fun kq v20 w' => ∃ (x20_7 : Int), v20 = .int .i64 x20_7 ∧ Aside0 (stowagetop_TopSteady.l5 kq l0 a1 x9_4 x12_4 x14_4 x20_7 = some r) ∧ Aside0 (kq ≤ k6) ∧ Aside0 (Kd.R Kd.string 9 w' w.heap.size (fun _ => True) (.slice Ao71 x12_4.length co71) x12_4) ∧ Aside0 (Kd.R k39 39 w' w.heap.size (fun _ => True) (.slice Ao14 t501.length co14) t501) ∧ Aside0 (w'.heap[gb508]? = some (.cells #[(.slice Ao14 t501.length co14), .bool t504, .string t505, .string t506] 28 (0, 0))) ∧ Aside0 (Below w.heap.size w w'))
                 case atStart => exact ⟨(0), (by first|rfl|(simp; done)|(simp [*]; done)), H', ⟨Nat.le_refl _⟩, ⟨by (with_reducible repeat (first|apply Kd.R_alloc|apply Kd.R_drewN|apply Kd.R_drew)); exact HO_12.out⟩, ⟨by (with_reducible repeat (first|apply Kd.R_alloc|apply Kd.R_drewN|apply Kd.R_drew)); exact HO_509000.out⟩, ⟨by (with_reducible repeat (first|refine blk_drewN ?_ _|refine blk_drew ?_|refine blk_alloc ?_ _)); exact BK508.out⟩, ⟨by repeat (first|(with_reducible first|exact HB.out|apply below_alloc|apply pw_below_drewN|apply below_drew1|refine below_set ?_ GE508.out)|exact HB.out)⟩⟩
                 case round =>
                  clear H'
                  try clear c1
                  try clear c2
                  try clear p2
                  try clear c3
                  try clear c4
                  try clear c5
                  try clear p5
                  try clear q5
                  try clear hx5
                  try clear c6
                  try clear p6
                  try clear c7
                  try clear c16
                  try clear c16b0
                  try clear c16b1
                  try clear c19
                  try clear c19b0
                  try clear c19b1
                  try clear c19b2
                  try clear c20
                  try clear c20b0
                  try clear c20b1
                  try clear c21
                  try clear c22
                  try clear c22b0
                  try clear c24
                  try clear c24b0
                  try clear c26
                  try clear c29
                  try clear c30
                  try clear c30b0
                  try clear c31
                  try clear c31b0
                  try clear c32
                  try clear c32b0
                  try clear c33
                  try clear c33b0
                  try clear c34
                  try clear c34b0
                  try clear c34b1
                  try clear c35
                  try clear c35b0
                  try clear c35b1
                  try clear c38
                  try clear c38b0
                  try clear c39
                  try clear c41
                  try clear c41b0
                  try clear c42
                  try clear c42b0
                  try clear c44
                  try clear c44b0
                  try clear c44b1
                  try clear c48
                  try clear c50
                  try clear c50b0
                  try clear p50
                  try clear q50
                  try clear hx50
                  try clear c51
                  try clear c51b0
                  try clear p51
                  try clear q51
                  try clear hx51
                  try clear c52
                  try clear p52
                  try clear q52
                  try clear hx52
                  try clear c53
                  try clear p53
                  try clear q53
                  try clear hx53
                  try clear c56
                  try clear c61
                  try clear c63
                  try clear c63b0
                  try clear c64
                  try clear c64b0
                  try clear p64
                  try clear c66
                  try clear c66b0
                  try clear c67
                  try clear c67b0
                  try clear c68
                  try clear c68b0
                  try clear hcz15_0
                  try clear hcz15_1
                  try clear hcz15_2
                  try clear hcz15_3
                  try clear hcz17_0
                  try clear hcz17_1
                  try clear hcz17_2
                  try clear hcz17_3
                  try clear hcz49_0
                  try clear hcz49_1
                  try clear hcz49_2
                  try clear hcz49_3
                  try clear hcz54_0
                  try clear hcz54_1
                  try clear hcz54_2
                  try clear hcz54_3
                  try clear hcz57_0
                  try clear hcz57_1
                  try clear hcz57_2
                  try clear hcz57_3
                  try clear hcz62_0
                  try clear hcz62_1
                  try clear hcz62_2
                  try clear hcz62_3
                  try clear hfz15_0
                  try clear hfz15_1
                  try clear hfz15_2
                  try clear hfz15_3
                  try clear hfz17_0
                  try clear hfz17_1
                  try clear hfz17_2
                  try clear hfz17_3
                  try clear hfz49_0
                  try clear hfz49_1
                  try clear hfz49_2
                  try clear hfz49_3
                  try clear hfz54_0
                  try clear hfz54_1
                  try clear hfz54_2
                  try clear hfz54_3
                  try clear hfz57_0
                  try clear hfz57_1
                  try clear hfz57_2
                  try clear hfz57_3
                  try clear hfz62_0
                  try clear hfz62_1
                  try clear hfz62_2
                  try clear hfz62_3
                  try clear hx509_0
                  try clear hx511_0
                  try clear hx513_0
                  try clear hx514_0
                  try clear hx515_0
                  try clear hx515_1
                  try clear hx516_0
                  try clear hx517_0
                  try clear hx517_1
                  try clear hx519_0
                  try clear hx528_0
                  try clear hx528_1
                  try clear hx528_2
                  try clear hx528_3
                  try clear hx528_4
                  try clear hx528_5
                  try clear hx528_6
                  try clear hx528_7
                  try clear hx532_0
                  try clear hx533_0
                  try clear p2
                  try clear p5
                  try clear p50
                  try clear p509
                  try clear p51
                  try clear p511
                  try clear p513
                  try clear p514
                  try clear p515
                  try clear p516
                  try clear p517
                  try clear p519
                  try clear p52
                  try clear p528
                  try clear p532
                  try clear p533
                  try clear p6
                  try clear q5
                  try clear q50
                  try clear q509
                  try clear q51
                  try clear q511
                  try clear q513
                  try clear q514
                  try clear q515
                  try clear q516
                  try clear q517
                  try clear q519
                  try clear q52
                  try clear q528
                  try clear q532
                  try clear q533
                  obtain ⟨x20_7, rfl, HA, HK7, HO_12, HO_509000, BK508, HB⟩ := hrel
                  cases gk with
                  | zero => exact absurd HA.out (by simp [stowagetop_TopSteady.l5])
                  | succ k7 =>
                   have H := HA.out
                   clear HA
                   simp only [stowagetop_TopSteady.l5] at H
                   by_cases c72 : 0 < (l0.length : Int)
                   ·rw [if_pos c72] at H
                    have c72b0 : decide (0 < (l0.length : Int)) = true := decide_eq_true c72
                    have c72b1 : decide (0 < l0.length) = true := decide_eq_true (by omega)
                    clear c72
                    by_cases c73 : x20_7 < ((rd_L6 l0 0).length : Int)
                    ·rw [if_pos c73] at H
                     have c73b0 : decide (x20_7 < ((rd_L6 l0 0).length : Int)) = true := decide_eq_true c73
                     clear c73
                     by_cases c74 : 0 ≤ x20_7
                     ·rw [if_pos c74] at H
                      have c74b0 : decide (0 ≤ x20_7) = true := decide_eq_true c74
                      clear c74
                      replace H := Option.bind_eq_some_iff.mp H
                      obtain ⟨t537, A750, H⟩ := H
                      replace H : (stowagetop_TopSteady.l6 k7 l0 a1 x9_4 x12_4 x14_4 x20_7 ((rd_T47 (rd_L6 l0 0) x20_7).f0) t537 0) = some r := H
                      have A75 := Aside0.mk A750
                      clear A750
                      have H' := Aside0.mk H
                      clear H
                      have p534 : 0 ≤ (0 : Int) := (by omega)
                      have q534 : 0 < (l0.length : Int) := of_decide_eq_true (by first|(with_reducible assumption)|assumption)
                      obtain ⟨ad534, A534_0, c534_0, e534, hx534_0, hl534_0, hi534_0⟩ := at_L6 HR0.out 0 p534 q534
                      cases e534
                      have qi534 : (0 < l0.length) = True := eq_true (by omega)
                      (try rw [show ((0 : Int)).toNat = 0 from rfl] at hx534_0)
                      (try rw [Addr.add_zero'] at hx534_0)
                      replace hx534_0 := (HB.out.cell (World.block_lt_of_cell? w _ hx534_0)).trans hx534_0
                      have HR534_0 := Aside0.mk hi534_0
                      have HC534_0 := Aside0.mk hl534_0
                      clear hi534_0 hl534_0
                      replace p534 := eq_true p534
                      replace q534 := eq_true q534
                      have p535 : 0 ≤ (0 : Int) := (by omega)
                      have q535 : 0 < (l0.length : Int) := of_decide_eq_true (by first|(with_reducible assumption)|assumption)
                      obtain ⟨ad535, A535_0, c535_0, e535, hx535_0, hl535_0, hi535_0⟩ := at_L6 HR0.out 0 p535 q535
                      obtain rfl : ad534 = ad535 := (by injection e535)
                      have qi535 : (0 < l0.length) = True := eq_true (by omega)
                      (try rw [show ((0 : Int)).toNat = 0 from rfl] at hx535_0)
                      (try rw [Addr.add_zero'] at hx535_0)
                      replace hx535_0 := (HB.out.cell (World.block_lt_of_cell? w _ hx535_0)).trans hx535_0
                      have HR535_0 := Aside0.mk hi535_0
                      have HC535_0 := Aside0.mk hl535_0
                      clear hi535_0 hl535_0
                      replace p535 := eq_true p535
                      replace q535 := eq_true q535
                      have ea_ := Option.some.inj (hx534_0.symm.trans hx535_0)
                      injection ea_ with ea_ en_ ec_
                      subst ea_
                      subst ec_
                      clear en_
                      have p536 : 0 ≤ (x20_7 : Int) := of_decide_eq_true (by first|(with_reducible assumption)|assumption)
                      have q536 : x20_7 < ((rd_L6 l0 0).length : Int) := of_decide_eq_true (by first|(with_reducible assumption)|assumption)
                      obtain ⟨ad536, A536_1, c536_1, e536, hx536_0, hx536_1, hl536_1, hi536_1⟩ := at_T47 HR535_0.out x20_7 p536 q536
                      cases e536
                      replace hx536_0 := (HB.out.cell (World.block_lt_of_cell? w _ hx536_0)).trans hx536_0
                      replace hx536_1 := (HB.out.cell (World.block_lt_of_cell? w _ hx536_1)).trans hx536_1
                      have HR536_1 := Aside0.mk hi536_1
                      have HC536_1 := Aside0.mk hl536_1
                      clear hi536_1 hl536_1
                      replace p536 := eq_true p536
                      replace q536 := eq_true q536
                      go_wp2_with (first|(go_at_call 26; (with_reducible refine (stowagetop_starts.calls ((rd_T47 (rd_L6 l0 0) x20_7).f0) a1 t537 _ A75.out).mono ?_); rintro e w' ⟨rfl, ⟨nd, rfl⟩⟩; (try first|exact ⟨rfl, _, World.drewN_drewN _ _ _⟩|exact ⟨rfl, _, Eq.trans (World.drewN_drewN _ _ _) (congrArg (World.drewN _) (Nat.add_assoc _ _ _))⟩)))
                      repeat (go_quiet (first|(go_at_call 26; (with_reducible refine (stowagetop_starts.calls ((rd_T47 (rd_L6 l0 0) x20_7).f0) a1 t537 _ A75.out).mono ?_); rintro e w' ⟨rfl, ⟨nd, rfl⟩⟩; (try first|exact ⟨rfl, _, World.drewN_drewN _ _ _⟩|exact ⟨rfl, _, Eq.trans (World.drewN_drewN _ _ _) (congrArg (World.drewN _) (Nat.add_assoc _ _ _))⟩))); try go_wp2_with (first|(go_at_call 26; (with_reducible refine (stowagetop_starts.calls ((rd_T47 (rd_L6 l0 0) x20_7).f0) a1 t537 _ A75.out).mono ?_); rintro e w' ⟨rfl, ⟨nd, rfl⟩⟩; (try first|exact ⟨rfl, _, World.drewN_drewN _ _ _⟩|exact ⟨rfl, _, Eq.trans (World.drewN_drewN _ _ _) (congrArg (World.drewN _) (Nat.add_assoc _ _ _))⟩))))
                      go_loopg [22, 23] k7 (fun kq v22 v23 w' => ∃ (x22_8 : Bool) (x23_8 : Int), v22 = .bool x22_8 ∧ v23 = .int .i64 x23_8 ∧ Aside0 (stowagetop_TopSteady.l6 kq l0 a1 x9_4 x12_4 x14_4 x20_7 ((rd_T47 (rd_L6 l0 0) x20_7).f0) x22_8 x23_8 = some r) ∧ Aside0 (kq ≤ k7) ∧ Aside0 (Kd.R Kd.string 9 w' w.heap.size (fun _ => True) (.slice Ao71 x12_4.length co71) x12_4) ∧ Aside0 (Kd.R k39 39 w' w.heap.size (fun _ => True) (.slice Ao14 t501.length co14) t501) ∧ Aside0 (w'.heap[gb508]? = some (.cells #[(.slice Ao14 t501.length co14), .bool t504, .string t505, .string t506] 28 (0, 0))) ∧ Aside0 (Below w.heap.size w w'))
                      case atStart => exact ⟨(t537), (0), (by first|rfl|(simp; done)|(simp [*]; done)), (by first|rfl|(simp; done)|(simp [*]; done)), H', ⟨Nat.le_refl _⟩, ⟨by (with_reducible repeat (first|apply Kd.R_alloc|apply Kd.R_drewN|apply Kd.R_drew)); exact HO_12.out⟩, ⟨by (with_reducible repeat (first|apply Kd.R_alloc|apply Kd.R_drewN|apply Kd.R_drew)); exact HO_509000.out⟩, ⟨by (with_reducible repeat (first|refine blk_drewN ?_ _|refine blk_drew ?_|refine blk_alloc ?_ _)); exact BK508.out⟩, ⟨by repeat (first|(with_reducible first|exact HB.out|apply below_alloc|apply pw_below_drewN|apply below_drew1|refine below_set ?_ GE508.out)|exact HB.out)⟩⟩
                      case round =>
                       clear H'
                       try clear c1
                       try clear c2
                       try clear p2
                       try clear c3
                       try clear c4
                       try clear c5
                       try clear p5
                       try clear q5
                       try clear hx5
                       try clear qi5
                       try clear c6
                       try clear p6
                       try clear c7
                       try clear c16
                       try clear c16b0
                       try clear c16b1
                       try clear c19
                       try clear c19b0
                       try clear c19b1
                       try clear c19b2
                       try clear c20
                       try clear c20b0
                       try clear c20b1
                       try clear c21
                       try clear c22
                       try clear c22b0
                       try clear c24
                       try clear c24b0
                       try clear c26
                       try clear c29
                       try clear c30
                       try clear c30b0
                       try clear c31
                       try clear c31b0
                       try clear c32
                       try clear c32b0
                       try clear c33
                       try clear c33b0
                       try clear c34
                       try clear c34b0
                       try clear c34b1
                       try clear c35
                       try clear c35b0
                       try clear c35b1
                       try clear c38
                       try clear c38b0
                       try clear c39
                       try clear c41
                       try clear c41b0
                       try clear c42
                       try clear c42b0
                       try clear c44
                       try clear c44b0
                       try clear c44b1
                       try clear c48
                       try clear c50
                       try clear c50b0
                       try clear p50
                       try clear q50
                       try clear hx50
                       try clear c51
                       try clear c51b0
                       try clear p51
                       try clear q51
                       try clear hx51
                       try clear c52
                       try clear p52
                       try clear q52
                       try clear hx52
                       try clear c53
                       try clear p53
                       try clear q53
                       try clear hx53
                       try clear qi53
                       try clear c56
                       try clear c61
                       try clear c63
                       try clear c63b0
                       try clear c64
                       try clear c64b0
                       try clear p64
                       try clear c66
                       try clear c66b0
                       try clear c67
                       try clear c67b0
                       try clear c68
                       try clear c68b0
                       try clear c72
                       try clear c72b0
                       try clear c72b1
                       try clear c73
                       try clear c73b0
                       try clear c74
                       try clear c74b0
                       try clear hcz15_0
                       try clear hcz15_1
                       try clear hcz15_2
                       try clear hcz15_3
                       try clear hcz17_0
                       try clear hcz17_1
                       try clear hcz17_2
                       try clear hcz17_3
                       try clear hcz49_0
                       try clear hcz49_1
                       try clear hcz49_2
                       try clear hcz49_3
                       try clear hcz54_0
                       try clear hcz54_1
                       try clear hcz54_2
                       try clear hcz54_3
                       try clear hcz57_0
                       try clear hcz57_1
                       try clear hcz57_2
                       try clear hcz57_3
                       try clear hcz62_0
                       try clear hcz62_1
                       try clear hcz62_2
                       try clear hcz62_3
                       try clear hfz15_0
                       try clear hfz15_1
                       try clear hfz15_2
                       try clear hfz15_3
                       try clear hfz17_0
                       try clear hfz17_1
                       try clear hfz17_2
                       try clear hfz17_3
                       try clear hfz49_0
                       try clear hfz49_1
                       try clear hfz49_2
                       try clear hfz49_3
                       try clear hfz54_0
                       try clear hfz54_1
                       try clear hfz54_2
                       try clear hfz54_3
                       try clear hfz57_0
                       try clear hfz57_1
                       try clear hfz57_2
                       try clear hfz57_3
                       try clear hfz62_0
                       try clear hfz62_1
                       try clear hfz62_2
                       try clear hfz62_3
                       try clear hx509_0
                       try clear hx511_0
                       try clear hx513_0
                       try clear hx514_0
                       try clear hx515_0
                       try clear hx515_1
                       try clear hx516_0
                       try clear hx517_0
                       try clear hx517_1
                       try clear hx519_0
                       try clear hx528_0
                       try clear hx528_1
                       try clear hx528_2
                       try clear hx528_3
                       try clear hx528_4
                       try clear hx528_5
                       try clear hx528_6
                       try clear hx528_7
                       try clear hx532_0
                       try clear hx533_0
                       try clear hx534_0
                       try clear hx535_0
                       try clear hx536_0
                       try clear hx536_1
                       try clear p2
                       try clear p5
                       try clear p50
                       try clear p509
                       try clear p51
                       try clear p511
                       try clear p513
                       try clear p514
                       try clear p515
                       try clear p516
                       try clear p517
                       try clear p519
                       try clear p52
                       try clear p528
                       try clear p53
                       try clear p532
                       try clear p533
                       try clear p534
                       try clear p535
                       try clear p536
                       try clear p6
                       try clear p64
                       try clear q5
                       try clear q50
                       try clear q509
                       try clear q51
                       try clear q511
                       try clear q513
                       try clear q514
                       try clear q515
                       try clear q516
                       try clear q517
                       try clear q519
                       try clear q52
                       try clear q528
                       try clear q53
                       try clear q532
                       try clear q533
                       try clear q534
                       try clear q535
                       try clear q536
                       obtain ⟨x22_8, x23_8, rfl, rfl, HA, HK8, HO_12, HO_509000, BK508, HB⟩ := hrel
                       cases gk with
                       | zero => exact absurd HA.out (by simp [stowagetop_TopSteady.l6])
                       | succ k8 =>
                        have H := HA.out
                        clear HA
                        simp only [stowagetop_TopSteady.l6] at H
                        by_cases c76 : x23_8 < (l0.length : Int)
                        ·rw [if_pos c76] at H
                         have c76b0 : decide (x23_8 < (l0.length : Int)) = true := decide_eq_true c76
                         clear c76
                         by_cases c77 : x22_8 = true
                         ·subst c77
                          have H1 : (if 0 ≤ x23_8 then ((stowagetop_there.f k8 (rd_L6 l0 x23_8) ((rd_T47 (rd_L6 l0 0) x20_7).f0)).bind fun t539 => (stowagetop_TopSteady.l6 k8 l0 a1 x9_4 x12_4 x14_4 x20_7 ((rd_T47 (rd_L6 l0 0) x20_7).f0) t539 (wrap64 (x23_8 + 1)))) else (none)) = some r := by rw [if_pos rfl] at H; exact H
                          clear H
                          have H := H1
                          clear H1
                          by_cases c78 : 0 ≤ x23_8
                          ·rw [if_pos c78] at H
                           have c78b0 : decide (0 ≤ x23_8) = true := decide_eq_true c78
                           clear c78
                           replace H := Option.bind_eq_some_iff.mp H
                           obtain ⟨t539, A790, H⟩ := H
                           replace H : (stowagetop_TopSteady.l6 k8 l0 a1 x9_4 x12_4 x14_4 x20_7 ((rd_T47 (rd_L6 l0 0) x20_7).f0) t539 (wrap64 (x23_8 + 1))) = some r := H
                           have A79 := Aside0.mk A790
                           clear A790
                           as_aux_lemma =>
                            have H' := Aside0.mk H
                            clear H
                            have p538 : 0 ≤ (x23_8 : Int) := of_decide_eq_true (by first|(with_reducible assumption)|assumption)
                            have q538 : x23_8 < (l0.length : Int) := of_decide_eq_true (by first|(with_reducible assumption)|assumption)
                            obtain ⟨ad538, A538_0, c538_0, e538, hx538_0, hl538_0, hi538_0⟩ := at_L6 HR0.out x23_8 p538 q538
                            obtain rfl : ad534 = ad538 := (by injection e538)
                            replace hx538_0 := (HB.out.cell (World.block_lt_of_cell? w _ hx538_0)).trans hx538_0
                            have HR538_0 := Aside0.mk hi538_0
                            have HC538_0 := Aside0.mk hl538_0
                            clear hi538_0 hl538_0
                            replace p538 := eq_true p538
                            replace q538 := eq_true q538
                            go_wp2_with (first|(go_at_call 27; (with_reducible refine (stowagetop_there.calls k8 _ _ (rd_L6 l0 x23_8) ((rd_T47 (rd_L6 l0 0) x20_7).f0) t539 _ ?side1 ?side2 A79.out).mono ?_); (case side1 => repeat (first|exact (Kd.C_below HR538_0.out HB.out)|(with_reducible refine Kd.C_alloc ?_ _)|(with_reducible refine Kd.C_drewN ?_ _)|(with_reducible refine Kd.C_drew ?_))); (case side2 => exact HC538_0.out); rintro e w' ⟨rfl, ⟨nd, rfl⟩⟩; (try first|exact ⟨rfl, _, World.drewN_drewN _ _ _⟩|exact ⟨rfl, _, Eq.trans (World.drewN_drewN _ _ _) (congrArg (World.drewN _) (Nat.add_assoc _ _ _))⟩)))
                            repeat (go_quiet (first|(go_at_call 27; (with_reducible refine (stowagetop_there.calls k8 _ _ (rd_L6 l0 x23_8) ((rd_T47 (rd_L6 l0 0) x20_7).f0) t539 _ ?side1 ?side2 A79.out).mono ?_); (case side1 => repeat (first|exact (Kd.C_below HR538_0.out HB.out)|(with_reducible refine Kd.C_alloc ?_ _)|(with_reducible refine Kd.C_drewN ?_ _)|(with_reducible refine Kd.C_drew ?_))); (case side2 => exact HC538_0.out); rintro e w' ⟨rfl, ⟨nd, rfl⟩⟩; (try first|exact ⟨rfl, _, World.drewN_drewN _ _ _⟩|exact ⟨rfl, _, Eq.trans (World.drewN_drewN _ _ _) (congrArg (World.drewN _) (Nat.add_assoc _ _ _))⟩))); try go_wp2_with (first|(go_at_call 27; (with_reducible refine (stowagetop_there.calls k8 _ _ (rd_L6 l0 x23_8) ((rd_T47 (rd_L6 l0 0) x20_7).f0) t539 _ ?side1 ?side2 A79.out).mono ?_); (case side1 => repeat (first|exact (Kd.C_below HR538_0.out HB.out)|(with_reducible refine Kd.C_alloc ?_ _)|(with_reducible refine Kd.C_drewN ?_ _)|(with_reducible refine Kd.C_drew ?_))); (case side2 => exact HC538_0.out); rintro e w' ⟨rfl, ⟨nd, rfl⟩⟩; (try first|exact ⟨rfl, _, World.drewN_drewN _ _ _⟩|exact ⟨rfl, _, Eq.trans (World.drewN_drewN _ _ _) (congrArg (World.drewN _) (Nat.add_assoc _ _ _))⟩))))
                            go_roundg k8
                            case measure => have := HJ4.out; have := HJ17.out; have := HK3.out; have := HK4.out; have := HJ36.out; have := HK6.out; have := HK7.out; have := HK8.out; omega
                            case rel => exact ⟨(t539), (wrap64 (x23_8 + 1)), (by first|rfl|(simp; done)|(simp [*]; done)), (by first|rfl|(simp; done)|(simp [*]; done)), H', ⟨by have := HJ4.out; have := HJ17.out; have := HK3.out; have := HK4.out; have := HJ36.out; have := HK6.out; have := HK7.out; have := HK8.out; omega⟩, ⟨by (with_reducible repeat (first|apply Kd.R_alloc|apply Kd.R_drewN|apply Kd.R_drew)); exact HO_12.out⟩, ⟨by (with_reducible repeat (first|apply Kd.R_alloc|apply Kd.R_drewN|apply Kd.R_drew)); exact HO_509000.out⟩, ⟨by (with_reducible repeat (first|refine blk_drewN ?_ _|refine blk_drew ?_|refine blk_alloc ?_ _)); exact BK508.out⟩, ⟨by repeat (first|(with_reducible first|exact HB.out|apply below_alloc|apply pw_below_drewN|apply below_drew1|refine below_set ?_ GE508.out)|exact HB.out)⟩⟩
                          ·rw [if_neg c78] at H
                           exact absurd H (by simp)
                         ·replace c77 := Bool.eq_false_iff.mpr c77
                          subst c77
                          have H1 : (stowagetop_TopSteady.l6 k8 l0 a1 x9_4 x12_4 x14_4 x20_7 ((rd_T47 (rd_L6 l0 0) x20_7).f0) false (wrap64 (x23_8 + 1))) = some r := by rw [if_neg (show ¬ (false = true) by decide)] at H; exact H
                          clear H
                          have H := H1
                          clear H1
                          as_aux_lemma =>
                           have H' := Aside0.mk H
                           clear H
                           go_wp2
                           repeat (go_quiet (fail); try go_wp2)
                           go_roundg k8
                           case measure => have := HJ4.out; have := HJ17.out; have := HK3.out; have := HK4.out; have := HJ36.out; have := HK6.out; have := HK7.out; have := HK8.out; omega
                           case rel => exact ⟨(false), (wrap64 (x23_8 + 1)), (by first|rfl|(simp; done)|(simp [*]; done)), (by first|rfl|(simp; done)|(simp [*]; done)), H', ⟨by have := HJ4.out; have := HJ17.out; have := HK3.out; have := HK4.out; have := HJ36.out; have := HK6.out; have := HK7.out; have := HK8.out; omega⟩, ⟨by (with_reducible repeat (first|apply Kd.R_alloc|apply Kd.R_drewN|apply Kd.R_drew)); exact HO_12.out⟩, ⟨by (with_reducible repeat (first|apply Kd.R_alloc|apply Kd.R_drewN|apply Kd.R_drew)); exact HO_509000.out⟩, ⟨by (with_reducible repeat (first|refine blk_drewN ?_ _|refine blk_drew ?_|refine blk_alloc ?_ _)); exact BK508.out⟩, ⟨by repeat (first|(with_reducible first|exact HB.out|apply below_alloc|apply pw_below_drewN|apply below_drew1|refine below_set ?_ GE508.out)|exact HB.out)⟩⟩
                        ·rw [if_neg c76] at H
                         have c76b0 : decide (x23_8 < (l0.length : Int)) = false := decide_eq_false c76
                         clear c76
                         have H' := Aside0.mk H
                         clear H
                         go_wp2
                         repeat (go_quiet (fail); try go_wp2)
                         go_loopg [24, 25] k8 (fun kq v24 v25 w' => ∃ (x24_9 : Bool) (x25_9 : Int), v24 = .bool x24_9 ∧ v25 = .int .i64 x25_9 ∧ Aside0 (stowagetop_TopSteady.l7 kq l0 a1 x9_4 x12_4 x14_4 x20_7 ((rd_T47 (rd_L6 l0 0) x20_7).f0) x22_8 x24_9 x25_9 = some r) ∧ Aside0 (kq ≤ k8) ∧ Aside0 (Kd.R Kd.string 9 w' w.heap.size (fun _ => True) (.slice Ao71 x12_4.length co71) x12_4) ∧ Aside0 (Kd.R k39 39 w' w.heap.size (fun _ => True) (.slice Ao14 t501.length co14) t501) ∧ Aside0 (w'.heap[gb508]? = some (.cells #[(.slice Ao14 t501.length co14), .bool t504, .string t505, .string t506] 28 (0, 0))) ∧ Aside0 (Below w.heap.size w w'))
                         case atStart => exact ⟨(false), (0), (by first|rfl|(simp; done)|(simp [*]; done)), (by first|rfl|(simp; done)|(simp [*]; done)), H', ⟨Nat.le_refl _⟩, ⟨by (with_reducible repeat (first|apply Kd.R_alloc|apply Kd.R_drewN|apply Kd.R_drew)); exact HO_12.out⟩, ⟨by (with_reducible repeat (first|apply Kd.R_alloc|apply Kd.R_drewN|apply Kd.R_drew)); exact HO_509000.out⟩, ⟨by (with_reducible repeat (first|refine blk_drewN ?_ _|refine blk_drew ?_|refine blk_alloc ?_ _)); exact BK508.out⟩, ⟨by repeat (first|(with_reducible first|exact HB.out|apply below_alloc|apply pw_below_drewN|apply below_drew1|refine below_set ?_ GE508.out)|exact HB.out)⟩⟩
                         case round =>
                          clear H'
                          try clear c1
                          try clear c2
                          try clear p2
                          try clear c3
                          try clear c4
                          try clear c5
                          try clear p5
                          try clear q5
                          try clear hx5
                          try clear qi5
                          try clear c6
                          try clear p6
                          try clear c7
                          try clear c16
                          try clear c16b0
                          try clear c16b1
                          try clear c19
                          try clear c19b0
                          try clear c19b1
                          try clear c19b2
                          try clear c20
                          try clear c20b0
                          try clear c20b1
                          try clear c21
                          try clear c22
                          try clear c22b0
                          try clear c24
                          try clear c24b0
                          try clear c26
                          try clear c29
                          try clear c30
                          try clear c30b0
                          try clear c31
                          try clear c31b0
                          try clear c32
                          try clear c32b0
                          try clear c33
                          try clear c33b0
                          try clear c34
                          try clear c34b0
                          try clear c34b1
                          try clear c35
                          try clear c35b0
                          try clear c35b1
                          try clear c38
                          try clear c38b0
                          try clear c39
                          try clear c41
                          try clear c41b0
                          try clear c42
                          try clear c42b0
                          try clear c44
                          try clear c44b0
                          try clear c44b1
                          try clear c48
                          try clear c50
                          try clear c50b0
                          try clear p50
                          try clear q50
                          try clear hx50
                          try clear c51
                          try clear c51b0
                          try clear p51
                          try clear q51
                          try clear hx51
                          try clear c52
                          try clear p52
                          try clear q52
                          try clear hx52
                          try clear c53
                          try clear p53
                          try clear q53
                          try clear hx53
                          try clear qi53
                          try clear c56
                          try clear c61
                          try clear c63
                          try clear c63b0
                          try clear c64
                          try clear c64b0
                          try clear p64
                          try clear c66
                          try clear c66b0
                          try clear c67
                          try clear c67b0
                          try clear c68
                          try clear c68b0
                          try clear c72
                          try clear c72b0
                          try clear c72b1
                          try clear c73
                          try clear c73b0
                          try clear c74
                          try clear c74b0
                          try clear c76
                          try clear c76b0
                          try clear c77
                          try clear c78
                          try clear c78b0
                          try clear hcz15_0
                          try clear hcz15_1
                          try clear hcz15_2
                          try clear hcz15_3
                          try clear hcz17_0
                          try clear hcz17_1
                          try clear hcz17_2
                          try clear hcz17_3
                          try clear hcz49_0
                          try clear hcz49_1
                          try clear hcz49_2
                          try clear hcz49_3
                          try clear hcz54_0
                          try clear hcz54_1
                          try clear hcz54_2
                          try clear hcz54_3
                          try clear hcz57_0
                          try clear hcz57_1
                          try clear hcz57_2
                          try clear hcz57_3
                          try clear hcz62_0
                          try clear hcz62_1
                          try clear hcz62_2
                          try clear hcz62_3
                          try clear hfz15_0
                          try clear hfz15_1
                          try clear hfz15_2
                          try clear hfz15_3
                          try clear hfz17_0
                          try clear hfz17_1
                          try clear hfz17_2
                          try clear hfz17_3
                          try clear hfz49_0
                          try clear hfz49_1
                          try clear hfz49_2
                          try clear hfz49_3
                          try clear hfz54_0
                          try clear hfz54_1
                          try clear hfz54_2
                          try clear hfz54_3
                          try clear hfz57_0
                          try clear hfz57_1
                          try clear hfz57_2
                          try clear hfz57_3
                          try clear hfz62_0
                          try clear hfz62_1
                          try clear hfz62_2
                          try clear hfz62_3
                          try clear hx509_0
                          try clear hx511_0
                          try clear hx513_0
                          try clear hx514_0
                          try clear hx515_0
                          try clear hx515_1
                          try clear hx516_0
                          try clear hx517_0
                          try clear hx517_1
                          try clear hx519_0
                          try clear hx528_0
                          try clear hx528_1
                          try clear hx528_2
                          try clear hx528_3
                          try clear hx528_4
                          try clear hx528_5
                          try clear hx528_6
                          try clear hx528_7
                          try clear hx532_0
                          try clear hx533_0
                          try clear hx534_0
                          try clear hx535_0
                          try clear hx536_0
                          try clear hx536_1
                          try clear hx538_0
                          try clear p2
                          try clear p5
                          try clear p50
                          try clear p509
                          try clear p51
                          try clear p511
                          try clear p513
                          try clear p514
                          try clear p515
                          try clear p516
                          try clear p517
                          try clear p519
                          try clear p52
                          try clear p528
                          try clear p53
                          try clear p532
                          try clear p533
                          try clear p534
                          try clear p535
                          try clear p536
                          try clear p538
                          try clear p6
                          try clear p64
                          try clear q5
                          try clear q50
                          try clear q509
                          try clear q51
                          try clear q511
                          try clear q513
                          try clear q514
                          try clear q515
                          try clear q516
                          try clear q517
                          try clear q519
                          try clear q52
                          try clear q528
                          try clear q53
                          try clear q532
                          try clear q533
                          try clear q534
                          try clear q535
                          try clear q536
                          try clear q538
                          obtain ⟨x24_9, x25_9, rfl, rfl, HA, HK9, HO_12, HO_509000, BK508, HB⟩ := hrel
                          cases gk with
                          | zero => exact absurd HA.out (by simp [stowagetop_TopSteady.l7])
                          | succ k9 =>
                           have H := HA.out
                           clear HA
                           simp only [stowagetop_TopSteady.l7] at H
                           by_cases c80 : x25_9 < (x12_4.length : Int)
                           ·rw [if_pos c80] at H
                            have c80b0 : decide (x25_9 < (x12_4.length : Int)) = true := decide_eq_true c80
                            clear c80
                            by_cases c81 : x24_9 = true
                            ·subst c81
                             have H1 : (stowagetop_TopSteady.l7 k9 l0 a1 x9_4 x12_4 x14_4 x20_7 ((rd_T47 (rd_L6 l0 0) x20_7).f0) x22_8 true (wrap64 (x25_9 + 1))) = some r := by rw [if_pos rfl] at H; exact H
                             clear H
                             have H := H1
                             clear H1
                             as_aux_lemma =>
                              have H' := Aside0.mk H
                              clear H
                              go_wp2
                              repeat (go_quiet (fail); try go_wp2)
                              go_roundg k9
                              case measure => have := HJ4.out; have := HJ17.out; have := HK3.out; have := HK4.out; have := HJ36.out; have := HK6.out; have := HK7.out; have := HK8.out; have := HK9.out; omega
                              case rel => exact ⟨(true), (wrap64 (x25_9 + 1)), (by first|rfl|(simp; done)|(simp [*]; done)), (by first|rfl|(simp; done)|(simp [*]; done)), H', ⟨by have := HJ4.out; have := HJ17.out; have := HK3.out; have := HK4.out; have := HJ36.out; have := HK6.out; have := HK7.out; have := HK8.out; have := HK9.out; omega⟩, ⟨by (with_reducible repeat (first|apply Kd.R_alloc|apply Kd.R_drewN|apply Kd.R_drew)); exact HO_12.out⟩, ⟨by (with_reducible repeat (first|apply Kd.R_alloc|apply Kd.R_drewN|apply Kd.R_drew)); exact HO_509000.out⟩, ⟨by (with_reducible repeat (first|refine blk_drewN ?_ _|refine blk_drew ?_|refine blk_alloc ?_ _)); exact BK508.out⟩, ⟨by repeat (first|(with_reducible first|exact HB.out|apply below_alloc|apply pw_below_drewN|apply below_drew1|refine below_set ?_ GE508.out)|exact HB.out)⟩⟩
                            ·replace c81 := Bool.eq_false_iff.mpr c81
                             subst c81
                             have H1 : (if 0 ≤ x25_9 then (stowagetop_TopSteady.l7 k9 l0 a1 x9_4 x12_4 x14_4 x20_7 ((rd_T47 (rd_L6 l0 0) x20_7).f0) x22_8 ((rdOf ByteArray.empty x12_4 x25_9).toList == ((rd_T47 (rd_L6 l0 0) x20_7).f0).toList) (wrap64 (x25_9 + 1))) else (none)) = some r := by rw [if_neg (show ¬ (false = true) by decide)] at H; exact H
                             clear H
                             have H := H1
                             clear H1
                             by_cases c82 : 0 ≤ x25_9
                             ·rw [if_pos c82] at H
                              have c82b0 : decide (0 ≤ x25_9) = true := decide_eq_true c82
                              clear c82
                              as_aux_lemma =>
                               have H' := Aside0.mk H
                               clear H
                               have p540 : 0 ≤ (x25_9 : Int) := of_decide_eq_true (by first|(with_reducible assumption)|assumption)
                               have q540 : x25_9 < (x12_4.length : Int) := of_decide_eq_true (by first|(with_reducible assumption)|assumption)
                               obtain ⟨ad540, e540, hx540_0⟩ := Kd.at_string (Kd.R_reads' HO_12.out).2.2 x25_9 p540 q540
                               cases e540
                               replace p540 := eq_true p540
                               replace q540 := eq_true q540
                               go_wp2
                               repeat (go_quiet (fail); try go_wp2)
                               go_roundg k9
                               case measure => have := HJ4.out; have := HJ17.out; have := HK3.out; have := HK4.out; have := HJ36.out; have := HK6.out; have := HK7.out; have := HK8.out; have := HK9.out; omega
                               case rel => exact ⟨(((rdOf ByteArray.empty x12_4 x25_9).toList == ((rd_T47 (rd_L6 l0 0) x20_7).f0).toList)), (wrap64 (x25_9 + 1)), (by first|rfl|(simp; done)|(simp [*]; done)), (by first|rfl|(simp; done)|(simp [*]; done)), H', ⟨by have := HJ4.out; have := HJ17.out; have := HK3.out; have := HK4.out; have := HJ36.out; have := HK6.out; have := HK7.out; have := HK8.out; have := HK9.out; omega⟩, ⟨by (with_reducible repeat (first|apply Kd.R_alloc|apply Kd.R_drewN|apply Kd.R_drew)); exact HO_12.out⟩, ⟨by (with_reducible repeat (first|apply Kd.R_alloc|apply Kd.R_drewN|apply Kd.R_drew)); exact HO_509000.out⟩, ⟨by (with_reducible repeat (first|refine blk_drewN ?_ _|refine blk_drew ?_|refine blk_alloc ?_ _)); exact BK508.out⟩, ⟨by repeat (first|(with_reducible first|exact HB.out|apply below_alloc|apply pw_below_drewN|apply below_drew1|refine below_set ?_ GE508.out)|exact HB.out)⟩⟩
                             ·rw [if_neg c82] at H
                              exact absurd H (by simp)
                           ·rw [if_neg c80] at H
                            have c80b0 : decide (x25_9 < (x12_4.length : Int)) = false := decide_eq_false c80
                            clear c80
                            by_cases c83 : x22_8 = true
                            ·subst c83
                             have H1 : (if x24_9 = true then (stowagetop_TopSteady.l5 k9 l0 a1 x9_4 x12_4 x14_4 (wrap64 (x20_7 + 1))) else (some false)) = some r := by rw [if_pos rfl] at H; exact H
                             clear H
                             have H := H1
                             clear H1
                             by_cases c84 : x24_9 = true
                             ·subst c84
                              have H1 : (stowagetop_TopSteady.l5 k9 l0 a1 x9_4 x12_4 x14_4 (wrap64 (x20_7 + 1))) = some r := by rw [if_pos rfl] at H; exact H
                              clear H
                              have H := H1
                              clear H1
                              as_aux_lemma =>
                               have H' := Aside0.mk H
                               clear H
                               go_wp2
                               repeat (go_quiet (fail); try go_wp2)
                               go_roundg k9
                               case measure => have := HJ4.out; have := HJ17.out; have := HK3.out; have := HK4.out; have := HJ36.out; have := HK6.out; have := HK7.out; have := HK8.out; have := HK9.out; omega
                               case rel => exact ⟨(wrap64 (x20_7 + 1)), (by first|rfl|(simp; done)|(simp [*]; done)), H', ⟨by have := HJ4.out; have := HJ17.out; have := HK3.out; have := HK4.out; have := HJ36.out; have := HK6.out; have := HK7.out; have := HK8.out; have := HK9.out; omega⟩, ⟨by (with_reducible repeat (first|apply Kd.R_alloc|apply Kd.R_drewN|apply Kd.R_drew)); exact HO_12.out⟩, ⟨by (with_reducible repeat (first|apply Kd.R_alloc|apply Kd.R_drewN|apply Kd.R_drew)); exact HO_509000.out⟩, ⟨by (with_reducible repeat (first|refine blk_drewN ?_ _|refine blk_drew ?_|refine blk_alloc ?_ _)); exact BK508.out⟩, ⟨by repeat (first|(with_reducible first|exact HB.out|apply below_alloc|apply pw_below_drewN|apply below_drew1|refine below_set ?_ GE508.out)|exact HB.out)⟩⟩
                             ·replace c84 := Bool.eq_false_iff.mpr c84
                              subst c84
                              have H1 : (some false) = some r := by rw [if_neg (show ¬ (false = true) by decide)] at H; exact H
                              clear H
                              have H := H1
                              clear H1
                              as_aux_lemma =>
                               obtain rfl := Option.some.inj H
                               go_wp2
                               repeat (go_quiet (fail); try go_wp2)
                               go_ret
                               exact ⟨by first|rfl|(simp [errW_none, errW_some] <;> rfl)|(simp [*, errW_none, errW_some] <;> rfl), by repeat (first|(with_reducible first|exact HB.out|apply below_alloc|apply pw_below_drewN|apply below_drew1|refine below_set ?_ GE508.out)|exact HB.out)⟩
                            ·replace c83 := Bool.eq_false_iff.mpr c83
                             subst c83
                             have H1 : (stowagetop_TopSteady.l5 k9 l0 a1 x9_4 x12_4 x14_4 (wrap64 (x20_7 + 1))) = some r := by rw [if_neg (show ¬ (false = true) by decide)] at H; exact H
                             clear H
                             have H := H1
                             clear H1
                             as_aux_lemma =>
                              have H' := Aside0.mk H
                              clear H
                              go_wp2
                              repeat (go_quiet (fail); try go_wp2)
                              go_roundg k9
                              case measure => have := HJ4.out; have := HJ17.out; have := HK3.out; have := HK4.out; have := HJ36.out; have := HK6.out; have := HK7.out; have := HK8.out; have := HK9.out; omega
                              case rel => exact ⟨(wrap64 (x20_7 + 1)), (by first|rfl|(simp; done)|(simp [*]; done)), H', ⟨by have := HJ4.out; have := HJ17.out; have := HK3.out; have := HK4.out; have := HJ36.out; have := HK6.out; have := HK7.out; have := HK8.out; have := HK9.out; omega⟩, ⟨by (with_reducible repeat (first|apply Kd.R_alloc|apply Kd.R_drewN|apply Kd.R_drew)); exact HO_12.out⟩, ⟨by (with_reducible repeat (first|apply Kd.R_alloc|apply Kd.R_drewN|apply Kd.R_drew)); exact HO_509000.out⟩, ⟨by (with_reducible repeat (first|refine blk_drewN ?_ _|refine blk_drew ?_|refine blk_alloc ?_ _)); exact BK508.out⟩, ⟨by repeat (first|(with_reducible first|exact HB.out|apply below_alloc|apply pw_below_drewN|apply below_drew1|refine below_set ?_ GE508.out)|exact HB.out)⟩⟩
                     ·rw [if_neg c74] at H
                      exact absurd H (by simp)
                    ·rw [if_neg c73] at H
                     have c73b0 : decide (x20_7 < ((rd_L6 l0 0).length : Int)) = false := decide_eq_false c73
                     clear c73
                     by_cases c85 : x9_4 = true
                     ·subst c85
                      have H1 : (some (!x14_4)) = some r := by rw [if_pos rfl] at H; exact H
                      clear H
                      have H := H1
                      clear H1
                      as_aux_lemma =>
                       obtain rfl := Option.some.inj H
                       have p534 : 0 ≤ (0 : Int) := (by omega)
                       have q534 : 0 < (l0.length : Int) := of_decide_eq_true (by first|(with_reducible assumption)|assumption)
                       obtain ⟨ad534, A534_0, c534_0, e534, hx534_0, hl534_0, hi534_0⟩ := at_L6 HR0.out 0 p534 q534
                       cases e534
                       have qi534 : (0 < l0.length) = True := eq_true (by omega)
                       (try rw [show ((0 : Int)).toNat = 0 from rfl] at hx534_0)
                       (try rw [Addr.add_zero'] at hx534_0)
                       replace hx534_0 := (HB.out.cell (World.block_lt_of_cell? w _ hx534_0)).trans hx534_0
                       have HR534_0 := Aside0.mk hi534_0
                       have HC534_0 := Aside0.mk hl534_0
                       clear hi534_0 hl534_0
                       replace p534 := eq_true p534
                       replace q534 := eq_true q534
                       go_wp2
                       repeat (go_quiet (fail); try go_wp2)
                       go_ret
                       exact ⟨by first|rfl|(simp [errW_none, errW_some] <;> rfl)|(simp [*, errW_none, errW_some] <;> rfl), by repeat (first|(with_reducible first|exact HB.out|apply below_alloc|apply pw_below_drewN|apply below_drew1|refine below_set ?_ GE508.out)|exact HB.out)⟩
                     ·replace c85 := Bool.eq_false_iff.mpr c85
                      subst c85
                      have H1 : (some false) = some r := by rw [if_neg (show ¬ (false = true) by decide)] at H; exact H
                      clear H
                      have H := H1
                      clear H1
                      as_aux_lemma =>
                       obtain rfl := Option.some.inj H
                       have p534 : 0 ≤ (0 : Int) := (by omega)
                       have q534 : 0 < (l0.length : Int) := of_decide_eq_true (by first|(with_reducible assumption)|assumption)
                       obtain ⟨ad534, A534_0, c534_0, e534, hx534_0, hl534_0, hi534_0⟩ := at_L6 HR0.out 0 p534 q534
                       cases e534
                       have qi534 : (0 < l0.length) = True := eq_true (by omega)
                       (try rw [show ((0 : Int)).toNat = 0 from rfl] at hx534_0)
                       (try rw [Addr.add_zero'] at hx534_0)
                       replace hx534_0 := (HB.out.cell (World.block_lt_of_cell? w _ hx534_0)).trans hx534_0
                       have HR534_0 := Aside0.mk hi534_0
                       have HC534_0 := Aside0.mk hl534_0
                       clear hi534_0 hl534_0
                       replace p534 := eq_true p534
                       replace q534 := eq_true q534
                       go_wp2
                       repeat (go_quiet (fail); try go_wp2)
                       go_ret
                       exact ⟨by first|rfl|(simp [errW_none, errW_some] <;> rfl)|(simp [*, errW_none, errW_some] <;> rfl), by repeat (first|(with_reducible first|exact HB.out|apply below_alloc|apply pw_below_drewN|apply below_drew1|refine below_set ?_ GE508.out)|exact HB.out)⟩
                   ·rw [if_neg c72] at H
                    exact absurd H (by simp)

end Go.Proofs.Ytahkcfhiecfgeaa.Pr
end
