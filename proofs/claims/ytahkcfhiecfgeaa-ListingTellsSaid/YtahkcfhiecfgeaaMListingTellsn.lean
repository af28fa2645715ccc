/- Texts of this proof, put together: Hk20, Bh20, PrStowagelaw20Keys, PrStowagelaw20Awake. -/
import Derived.Test.YtahkcfhiecfgeaaMListingTellse
import Derived.Test.YtahkcfhiecfgeaaMListingTellsm
import Derived.Test.YtahkcfhiecfgeaaProg
import Derived.Test.YtahkcfhiecfgeaaMListingTellsf
section
/- listing.Keys and Versions, by their contracts, in the print's form. -/
namespace Go.Proofs.Ytahkcfhiecfgeaa.Pr
open Go.RowKit Go.Proofs.YtahkcfhiecfgeaaW.PrintWords Go.Proofs.YtahkcfhiecfgeaaW.PrintLast Go.Proofs.YtahkcfhiecfgeaaW.PrintMore
set_option linter.unusedVariables false
set_option linter.unusedSimpArgs false
abbrev SV := S37
abbrev SE := S47
abbrev SI := S39
def verL (v : SV) : Ver := ⟨v.f0.data.toList, v.f1, v.f2, v.f3, v.f4.data.toList⟩
def entL (e : SE) : Ent := ⟨e.f0.data.toList, e.f1.map verL⟩
def verS (v : Ver) : SV := ⟨BA v.id, v.time, v.mark, v.size, BA v.etag⟩
def itmS (x : Itm) : SI := ⟨BA x.name, x.common, verS x.v, x.latest⟩
theorem ba_data (b : ByteArray) : BA b.data.toList = b := by cases b; rfl
/-- From the print's reads to rows of cells. -/
theorem srcR_of_C {α : Type} {d : Kd α} {w : World} {A : Option Addr} {c : Nat} {xs : List α} (hsz : 0 < d.sz) (h : d.C w A xs.length xs) (hc : xs.length ≤ c) :
    ∃ rows : List (List Value), rows.length = xs.length ∧ SrcR w (.slice A xs.length c) d.sz rows ∧ ∀ (i : Nat) x row, xs[i]? = some x → rows[i]? = some row → d.K w x row := by
  obtain ⟨_, _, hr0⟩ := h
  by_cases h0 : xs = []
  · subst h0
    exact ⟨[], rfl, .inl ⟨A, c, rfl, rfl⟩, fun i x row h => by simp at h⟩
  · have hl : 0 < xs.length := List.length_pos_iff.2 h0
    obtain ⟨ad, rfl, hr⟩ := hr0 hl
    clear hr0
    have hex : ∀ i : Fin xs.length, ∃ c, c.length = d.sz ∧ d.K w xs[i] c ∧ ∀ j u, c[j]? = some u → w.cell? (ad.add (i * d.sz + j)) = some u := fun i => hr i xs[i] (List.getElem?_eq_getElem i.2)
    have hsp : ad.spot = none := by
      obtain ⟨c0, h1, _, h3⟩ := hr 0 xs[0] (List.getElem?_eq_getElem hl)
      have := h3 0 (c0[0]'(by omega)) (List.getElem?_eq_getElem (by omega))
      rw [Nat.zero_mul] at this
      simp only [Nat.add_zero, Addr.add, if_pos] at this
      unfold World.cell? at this
      cases hs : ad.spot with
      | none => rfl
      | some s =>
        rw [hs] at this
        revert this
        split <;> simp
    obtain ⟨b, off, sp⟩ := ad
    simp only at hsp
    subst hsp
    have hlen : (List.ofFn fun i => Classical.choose (hex i)).length = xs.length := by simp
    refine ⟨List.ofFn fun i => Classical.choose (hex i), hlen, .inr ⟨b, off, c, by rw [hlen], by rw [hlen]; exact hc, fun i row hi j x hj => ?_⟩, fun i x row hx hi => ?_⟩
    · rw [List.getElem?_ofFn] at hi
      split at hi
      · rename_i hil
        cases hi
        have := (Classical.choose_spec (hex ⟨i, hil⟩)).2.2 j x hj
        rw [show off + i * d.sz + j = off + (i * d.sz + j) by omega]
        unfold Addr.add at this
        split at this
        · rename_i h0
          simp only at h0
          rw [h0]
          exact this
        · exact this
      · cases hi
    · rw [List.getElem?_ofFn] at hi
      split at hi
      · rename_i hil
        cases hi
        have := (Classical.choose_spec (hex ⟨i, hil⟩)).2.1
        rw [List.getElem?_eq_getElem hil] at hx
        cases hx
        exact this
      · cases hi
theorem zip_rows {α β γ : Type} (f : α → β → γ) (g : γ → Prop) : ∀ (l : List α) (m : List β) (n : List γ), l.length = n.length → m.length = n.length → (∀ (i : Nat) a b c, l[i]? = some a → m[i]? = some b → n[i]? = some c → c = f a b) → n = List.zipWith f l m
  | [], _, [], _, _, _ => by simp
  | a :: l, b :: m, c :: n, h1, h2, h => by
    rw [List.zipWith_cons_cons, ← h 0 a b c rfl rfl rfl, ← zip_rows f g l m n (by simpa using h1) (by simpa using h2) (fun i a b c ha hb hc => h (i + 1) a b c (by simpa using ha) (by simpa using hb) (by simpa using hc))]
  | [], _, c :: n, h1, _, _ => by simp at h1
  | a :: l, _, [], h1, _, _ => by simp at h1
  | a :: l, [], c :: n, _, h2, _ => by simp at h2
theorem versAt_of_C {w : World} {A : Option Addr} {c : Nat} {xs : List SV} (h : k37.C w A xs.length xs) (hc : xs.length ≤ c) : SrcR w (.slice A xs.length c) 5 ((xs.map verL).map verC) := by
  obtain ⟨rows, hl, hs, hK⟩ := srcR_of_C (d := k37) (by decide) h hc
  have : rows = (xs.map verL).map verC := by
    apply List.ext_getElem?
    intro i
    cases hx : xs[i]? with
    | none =>
      have := List.getElem?_eq_none_iff.1 hx
      rw [List.getElem?_eq_none_iff.2 (by omega), List.getElem?_eq_none_iff.2 (by simpa using this)]
    | some x =>
      have hi : i < rows.length := by rw [hl]; exact (List.getElem?_eq_some_iff.1 hx).1
      have := k37_open (hK i x _ hx (List.getElem?_eq_getElem hi))
      rw [List.getElem?_eq_getElem hi, this]
      simp [hx, verL, verC, ba_data]
  rw [← this]
  exact hs
theorem entsAt_of_C {w : World} {A : Option Addr} {c : Nat} {xs : List SE} (h : k47.C w A xs.length xs) (hc : xs.length ≤ c) : EntsAt w (.slice A xs.length c) (xs.map entL) := by
  obtain ⟨rows, hl, hs, hK⟩ := srcR_of_C (d := k47) (by decide) h hc
  have hv : (rows.map fun r => (r[1]?).getD .nilIface).length = (xs.map entL).length := by simp [hl]
  refine ⟨rows.map fun r => (r[1]?).getD .nilIface, hv, ?_, fun i e x he hx => ?_⟩
  · have : rows = List.zipWith (fun e x => [Value.string (BA e.key), x]) (xs.map entL) (rows.map fun r => (r[1]?).getD .nilIface) := by
      refine zip_rows _ (fun _ => True) _ _ _ (by simp [hl]) (by simp) fun i a b c ha hb hc => ?_
      rw [List.getElem?_map] at ha hb
      cases hx : xs[i]? with
      | none => rw [hx] at ha; cases ha
      | some x =>
        rw [hx] at ha
        cases ha
        rw [hc] at hb
        cases hb
        obtain ⟨A1, c1, rfl, _, _⟩ := k47_open (hK i x _ hx hc)
        simp [entL, ba_data]
    rw [← this]
    exact hs
  · rw [List.getElem?_map] at he hx
    cases hxx : xs[i]? with
    | none => rw [hxx] at he; cases he
    | some y =>
      rw [hxx] at he
      cases he
      cases hr : rows[i]? with
      | none => rw [hr] at hx; cases hx
      | some row =>
        rw [hr] at hx
        cases hx
        obtain ⟨A1, c1, rfl, h1, h2⟩ := k47_open (hK i y _ hxx hr)
        exact versAt_of_C h2 h1
def pageOut (r : Pg × Int) : List SI × Bool × ByteArray × ByteArray × Int := (r.1.items.map itmS, r.1.more, BA r.1.next, BA r.1.version, r.2)
def small (l : List SE) : Bool := decide (l.length ≤ 1000000) && l.all fun e => decide (e.f0.size ≤ 1000000) && decide (e.f1.length ≤ 1000000)
theorem small_ents {l : List SE} (h : small l = true) : (l.map entL).length ≤ 1000000 ∧ ∀ e ∈ l.map entL, e.key.length ≤ 1000000 ∧ e.vs.length ≤ 1000000 := by
  unfold small at h
  simp only [Bool.and_eq_true, decide_eq_true_eq, List.all_eq_true] at h
  refine ⟨by simpa using h.1, fun e he => ?_⟩
  obtain ⟨x, hx, rfl⟩ := List.mem_map.1 he
  have := h.2 x hx
  exact ⟨by simpa [entL] using this.1, by simpa [entL] using this.2⟩
def listing_Keys.f (l : List SE) (p d after : ByteArray) (most : Int) : Option (List SI × Bool × ByteArray × ByteArray × Int) :=
  if small l = true ∧ p.size ≤ 1000000 ∧ d.size ≤ 1000000 ∧ after.size ≤ 1000000 then some (pageOut (pageV false (l.map entL) p.data.toList d.data.toList after.data.toList [] most)) else none
def listing_Versions.f (l : List SE) (p d after version : ByteArray) (most : Int) : Option (List SI × Bool × ByteArray × ByteArray × Int) :=
  if small l = true ∧ p.size ≤ 1000000 ∧ d.size ≤ 1000000 ∧ after.size ≤ 1000000 ∧ version.size ≤ 1000000 then some (pageOut (pageV true (l.map entL) p.data.toList d.data.toList after.data.toList version.data.toList most)) else none
theorem pageAt_R {n₀ : Nat} {w : World} {pv : Value} {g : Pg} (h : PageAt n₀ w pv g) : ∃ v0_, pv = .agg #[v0_, .bool g.more, .string (BA g.next), .string (BA g.version)] ∧ Kd.R k39 39 w n₀ (fun _ => True) v0_ (g.items.map itmS) := by
  obtain ⟨sl, rfl, ho⟩ := h
  exact ⟨sl, rfl, R_of_own (d := k39) itmS itmC (fun _ => rfl) _ (fun ok x => k39_mkM _ _ _ (itmS x)) ho⟩
theorem listing_Keys.calls (A0 : Option Addr) (c0 : Nat) (l0 : List SE) (a1 a2 a3 : ByteArray) (a4 : Int) (r1 : List SI) (r2 : Bool) (r3 r4 : ByteArray) (r5 : Int) (w : World) (hG : GM w) (hr0 : Kd.C k47 w A0 l0.length l0) (hc0 : l0.length ≤ c0) (h : listing_Keys.f l0 a1 a2 a3 a4 = some (r1, r2, r3, r4, r5)) :
    Calls Try.prog 11 #[.slice A0 l0.length c0, .string a1, .string a2, .string a3, .int .i64 a4] w fun e w' => ∃ v0_ : Value, e = .returned (.tuple #[.agg #[v0_, .bool r2, .string r3, .string r4], .int .i64 r5]) ∧ Kd.R k39 39 w' w.heap.size (fun _ => True) v0_ r1 ∧ Below w.heap.size w w' := by
  unfold listing_Keys.f at h
  split at h
  · rename_i hs
    simp only [Option.some.injEq, pageOut, Prod.mk.injEq] at h
    obtain ⟨rfl, rfl, rfl, rfl, rfl⟩ := h
    refine (keys_any a1 a2 a3 a4 _ _ w (entsAt_of_C hr0 hc0) (small_ents hs.1).1 (small_ents hs.1).2 hG hs.2.1 hs.2.2.1 hs.2.2.2).mono ?_
    rintro e w' ⟨pv, rfl, hp, hb⟩
    obtain ⟨v0_, rfl, hR⟩ := pageAt_R hp
    exact ⟨v0_, rfl, hR, hb⟩
  · cases h
theorem listing_Versions.calls (A0 : Option Addr) (c0 : Nat) (l0 : List SE) (a1 a2 a3 a4 : ByteArray) (a5 : Int) (r1 : List SI) (r2 : Bool) (r3 r4 : ByteArray) (r5 : Int) (w : World) (hG : GM w) (hr0 : Kd.C k47 w A0 l0.length l0) (hc0 : l0.length ≤ c0) (h : listing_Versions.f l0 a1 a2 a3 a4 a5 = some (r1, r2, r3, r4, r5)) :
    Calls Try.prog 13 #[.slice A0 l0.length c0, .string a1, .string a2, .string a3, .string a4, .int .i64 a5] w fun e w' => ∃ v0_ : Value, e = .returned (.tuple #[.agg #[v0_, .bool r2, .string r3, .string r4], .int .i64 r5]) ∧ Kd.R k39 39 w' w.heap.size (fun _ => True) v0_ r1 ∧ Below w.heap.size w w' := by
  unfold listing_Versions.f at h
  split at h
  · rename_i hs
    simp only [Option.some.injEq, pageOut, Prod.mk.injEq] at h
    obtain ⟨rfl, rfl, rfl, rfl, rfl⟩ := h
    refine (versions_any a1 a2 a3 a4 a5 _ _ w (entsAt_of_C hr0 hc0) (small_ents hs.1).1 (small_ents hs.1).2 hG hs.2.1 hs.2.2.1 hs.2.2.2.1 hs.2.2.2.2).mono ?_
    rintro e w' ⟨pv, rfl, hp, hb⟩
    obtain ⟨v0_, rfl, hR⟩ := pageAt_R hp
    exact ⟨v0_, rfl, hR, hb⟩
  · cases h
end Go.Proofs.Ytahkcfhiecfgeaa.Pr
end
section
/- Listing: the reference's 'behind'. -/
namespace Go.Proofs.Ytahkcfhiecfgeaa
open Go.RowKit
set_option linter.unusedVariables false
set_option linter.unusedSimpArgs false
theorem behindR_cons (af ve : Bs) (met : Bool) (x : Itm) (r : List Itm) : behindR af ve met (x :: r) = (if decide (af < x.name) || (met && decide (x.name = af)) then [x] else []) ++ behindR af ve (met || marksP af ve x) r := by conv => lhs; unfold behindR
theorem own_below {n₀ : Nat} {w W w1 : World} {tmp : Obj} {e : TypeId} {size k : Nat} {v : Value} {xs : List Value} (hb : Below n₀ w W) (hn : n₀ ≤ W.heap.size) (ho : W.ownsRow n₀ e size v k xs) (hg : (W.alloc tmp).grownBy w1 v.ownBlock) : Below n₀ w w1 := by
  refine hb.trans (((Below.refl n₀ W).alloc hn tmp).grown hg (by simp; omega) fun j ej => ?_)
  rcases ho.2 with ⟨rfl, _⟩ | ⟨g, cap, cur, rfl, hgb, _, _⟩
  · simp [Value.ownBlock] at ej
  · obtain rfl : g = j := by simpa [Value.ownBlock] using ej
    exact hgb
set_option maxRecDepth 10000 in
set_option maxHeartbeats 4000000 in
theorem behind_any (a : Value) (l : List Itm) (af ve : Bs) (w : World) (hs : SrcR w a 8 (l.map itmC)) (hl : l.length ≤ 1000000) :
    Calls Try.prog 31 #[a, .string (BA af), .string (BA ve)] w fun e w' => ∃ sl, e = .returned sl ∧ w'.ownsRow w.heap.size 39 8 sl (behindR af ve false l).length ((behindR af ve false l).flatMap itmC) ∧ Below w.heap.size w w' := by
  obtain ⟨A1, c1, rfl⟩ := hs.form
  simp only [List.length_map] at hs ⊢
  have HA := Lib.hid hs
  clear hs
  obtain ⟨n1, hn1⟩ : ∃ n1, l.length = n1 := ⟨_, rfl⟩
  rw [hn1] at HA hl ⊢
  have HN1 := Lib.hid hn1
  clear hn1
  obtain ⟨i0, hi, hz0, hz1, hz2⟩ := info_parts infoI
  go_enter Try.func31, Try.ntmps31
  go_wp2_with fail
  go_loopw [7, 8, 9] (fun o m i wr => ∃ (k : Nat) (acc : List Itm) (met : Bool), k ≤ n1 ∧ acc.length ≤ k ∧ m = .bool met ∧ i = .int .i64 k ∧ wr.ownsRow w.heap.size 39 8 o acc.length (acc.flatMap itmC) ∧ Below w.heap.size w wr ∧ Hid (behindR af ve false l = acc ++ behindR af ve met (l.drop k))) (fun _ _ i _ => n1 - (intOf i).toNat)
  case atStart => exact ⟨0, [], false, Nat.zero_le _, Nat.le_refl _, rfl, rfl, World.ownsRow_nil _ _ _ _, Below.refl _ _, Lib.hid (by simp)⟩
  case round =>
    obtain ⟨k, acc, met, hk, hak, rfl, rfl, ho, hbw, H⟩ := hrel
    by_cases hlt : k < n1
    · obtain ⟨⟨nm, com, ⟨vid, vt, vm, vz, vet⟩, lat⟩, hx, hxd⟩ := next_elem l k (by rw [HN1.out]; exact hlt)
      obtain ⟨b1, o1, rfl, _, hc1⟩ := (HA.out.block hbw).at (i := k) (row := itmC ⟨nm, com, ⟨vid, vt, vm, vz, vet⟩, lat⟩) (by simp [hx])
      have d0 := hc1 0 _ rfl
      have d1 := hc1 1 _ rfl
      have d2 := hc1 2 _ rfl
      have d3 := hc1 3 _ rfl
      have d4 := hc1 4 _ rfl
      have d5 := hc1 5 _ rfl
      have d6 := hc1 6 _ rfl
      have d7 := hc1 7 _ rfl
      simp only [Nat.add_zero] at d0
      have hstep := H.out
      rw [hxd] at hstep
      rw [behindR_cons] at hstep
      have HX := Lib.hid hx
      have hk2 : (0 : Int) ≤ (k : Int) ∧ (k : Int) < (n1 : Int) := by omega
      have hbnd1 : acc.length + 1 ≤ maxLen := by unfold maxLen; omega
      have hbnd2 : (acc.length + 1) * 88 ≤ 140737488355328 := by omega
      obtain ⟨Ao, co, rfl⟩ := own_form ho
      have hszw := hbw.size
      clear hc1 hx hxd H
      rcases lt_tri af nm with hA | hA | hA
      · have hL : Op.bytesLess nm af = false := by rw [bytesLess_eq]; simp [lt_asy hA]
        have hE : (nm == af) = false := by simp [(lt_ne hA).symm]
        have hEp : ¬ nm = af := (lt_ne hA).symm
        have HS := Lib.hid (show behindR af ve false l = (acc ++ [(⟨nm, com, ⟨vid, vt, vm, vz, vet⟩, lat⟩ : Itm)]) ++ behindR af ve met (l.drop (k + 1)) by rw [hstep]; simp [hA, marksP, hEp])
        clear hstep hA
        go_wp2_with (at_builtin; go_must (refine wpList_append_own _ rfl _ _ 26 rfl w.heap.size 39 i0 _ 8 88 Try.underlying26 hi hz0 hz1 hz2 rfl (by decide) _ _ _ rfl (ho.alloc _) ⟨wr.heap.size, 0, none⟩ 1 1 [.string (BA nm), .bool com, .string (BA vid), .int .i64 vt, .bool vm, .int .i64 vz, .string (BA vet), .bool lat] rfl rfl (cells_new wr [.string (BA nm), .bool com, .string (BA vid), .int .i64 vt, .bool vm, .int .i64 vz, .string (BA vet), .bool lat] _) (itmC_one ⟨nm, com, ⟨vid, vt, vm, vz, vet⟩, lat⟩) hbnd1 hbnd2 (by simp; omega) ?_); intro v' w1 hown' hgrow _; (have hb1 := own_below hbw hbw.size ho hgrow); obtain ⟨bb, oo, hAA, _, hcx⟩ := (HA.out.block hb1).at (i := k) (row := itmC ⟨nm, com, ⟨vid, vt, vm, vz, vet⟩, lat⟩) (by simp [HX.out]); cases hAA; have e0 := hcx 0 _ rfl; have e1 := hcx 1 _ rfl; have e2 := hcx 2 _ rfl; simp only [Nat.add_zero] at e0)
        all_goals (
          go_roundw
          case rel => exact ⟨k + 1, acc ++ [(⟨nm, com, ⟨vid, vt, vm, vz, vet⟩, lat⟩ : Itm)], met, by omega, by simp; omega, rfl, by go_num, by rw [List.flatMap_append]; simpa [itmC] using hown', hb1, HS⟩
          case measure => simp [intOf]; omega)
      · obtain rfl := hA
        have hL : Op.bytesLess af af = false := by rw [bytesLess_eq]; simp [List.lt_irrefl]
        have hE : (af == af) = true := by simp
        obtain ⟨mk, hmk⟩ : ∃ b : Bool, b = (!com && !ve.isEmpty && decide (vid = ve)) := ⟨_, rfl⟩
        have hmk2 : marksP af ve ⟨af, com, ⟨vid, vt, vm, vz, vet⟩, lat⟩ = mk := by rw [hmk]; simp [marksP]
        have hVE : ((BA ve).toList == ([] : List UInt8)) = ve.isEmpty := by rw [bs_toList]; cases ve <;> rfl
        have hVI : (vid == ve) = decide (vid = ve) := by by_cases h : vid = ve <;> simp [h]
        have HS := Lib.hid (show behindR af ve false l = (if met = true then acc ++ [(⟨af, com, ⟨vid, vt, vm, vz, vet⟩, lat⟩ : Itm)] else acc) ++ behindR af ve (met || mk) (l.drop (k + 1)) by rw [hstep, hmk2]; cases met <;> simp [List.lt_irrefl])
        clear hstep hmk2
        cases met
        · simp only [Bool.false_eq_true, if_false, Bool.false_or] at HS
          go_wp2
          all_goals (
            go_roundw
            case rel => exact ⟨k + 1, acc, mk, by omega, by omega, by
              first
              | (have h1 : List.isEmpty ve = true := by assumption
                 rw [hmk, h1]; simp; done)
              | (have h1 : com = true := by assumption
                 rw [hmk, h1]; simp; done)
              | (have h1 : List.isEmpty ve = false := by assumption
                 have h2 : com = false := by assumption
                 have h3 : vid = ve := by assumption
                 rw [hmk, h1, h2]; simp [h3]; done)
              | (have h3 : ¬ vid = ve := by assumption
                 rw [hmk]; simp [h3]; done), by go_num, ho, hbw, HS⟩
            case measure => simp [intOf]; omega)
        · simp only [if_true, Bool.true_or] at HS
          clear hmk
          go_wp2_with (at_builtin; go_must (refine wpList_append_own _ rfl _ _ 26 rfl w.heap.size 39 i0 _ 8 88 Try.underlying26 hi hz0 hz1 hz2 rfl (by decide) _ _ _ rfl (ho.alloc _) ⟨wr.heap.size, 0, none⟩ 1 1 [.string (BA af), .bool com, .string (BA vid), .int .i64 vt, .bool vm, .int .i64 vz, .string (BA vet), .bool lat] rfl rfl (cells_new wr [.string (BA af), .bool com, .string (BA vid), .int .i64 vt, .bool vm, .int .i64 vz, .string (BA vet), .bool lat] _) (itmC_one ⟨af, com, ⟨vid, vt, vm, vz, vet⟩, lat⟩) hbnd1 hbnd2 (by simp; omega) ?_); intro v' w1 hown' hgrow _; (have hb1 := own_below hbw hbw.size ho hgrow); obtain ⟨bb, oo, hAA, _, hcx⟩ := (HA.out.block hb1).at (i := k) (row := itmC ⟨af, com, ⟨vid, vt, vm, vz, vet⟩, lat⟩) (by simp [HX.out]); cases hAA; have e0 := hcx 0 _ rfl; have e1 := hcx 1 _ rfl; have e2 := hcx 2 _ rfl; simp only [Nat.add_zero] at e0)
          all_goals (
            try (go_roundw
                 case rel => exact ⟨k + 1, acc ++ [(⟨af, com, ⟨vid, vt, vm, vz, vet⟩, lat⟩ : Itm)], true, by omega, by simp; omega, by simp, by go_num, by rw [List.flatMap_append]; simpa [itmC] using hown', hb1, HS⟩
                 case measure => simp [intOf]; omega))
      · have hL : Op.bytesLess nm af = true := by rw [bytesLess_eq]; simp [hA]
        have hE : (nm == af) = false := by simp [lt_ne hA]
        have hEp : ¬ nm = af := lt_ne hA
        have HS := Lib.hid (show behindR af ve false l = acc ++ behindR af ve met (l.drop (k + 1)) by rw [hstep]; simp [lt_asy hA, marksP, hEp])
        clear hstep hA
        cases met <;> go_wp2
        all_goals (
          go_roundw
          case rel => exact ⟨k + 1, acc, _, by omega, by omega, rfl, by go_num, ho, hbw, HS⟩
          case measure => simp [intOf]; omega)
    · obtain rfl : k = n1 := by omega
      have HV := Lib.hid (show behindR af ve false l = acc by rw [H.out, List.drop_of_length_le (by rw [HN1.out]; exact Nat.le_refl _)]; simp [behindR])
      clear H
      go_wp2
      go_ret
      exact ⟨_, rfl, by rw [HV.out]; exact ho, hbw⟩
end Go.Proofs.Ytahkcfhiecfgeaa
end
section
namespace Go.Proofs.Ytahkcfhiecfgeaa.Pr
open Go.RowKit Go.Proofs.YtahkcfhiecfgeaaW.PrintWords Go.Proofs.YtahkcfhiecfgeaaW.PrintLast Go.Proofs.YtahkcfhiecfgeaaW.PrintMore
attribute [local go_sem] max2_int min2_int max_two min_two max_three min_three max_four min_four   -- for this text's walks alone
attribute [local go_sem high] gtr_as_less leq_as_less
set_option linter.unusedVariables false
set_option linter.unusedSimpArgs false

/-! ### stowagelaw20_keys: function 20 -/
def stowagelaw20_keys.f (k : Nat) (a0 : ByteArray) (a1 : ByteArray) (a2 : ByteArray) (a3 : Int) (l4_0 : List (S39)) (a4_1 : Bool) (a4_2 : ByteArray) (a4_3 : ByteArray) : Option (Bool) := (stowagelaw20_four.f).bind fun t216 => ((listing_Keys.f t216 a0 a1 a2 a3).bind fun bt219 => (if bt219.2.2.2.2 = 0 then ((stowagekit_SamePage.f k bt219.1 bt219.2.1 bt219.2.2.1 bt219.2.2.2.1 l4_0 a4_1 a4_2 a4_3).bind fun t227 => (some t227)) else (some false)))
theorem stowagelaw20_keys.mono : ∀ a0 a1 a2 a3 a4 a5 a6 a7 k, LeO (stowagelaw20_keys.f k a0 a1 a2 a3 a4 a5 a6 a7) (stowagelaw20_keys.f (k + 1) a0 a1 a2 a3 a4 a5 a6 a7) := by
 intro a0 a1 a2 a3 a4 a5 a6 a7 k
 unfold stowagelaw20_keys.f
 repeat' first
   | (with_reducible exact stowagekit_SamePage.mono _ _ _ _ _ _ _ _ _)
   | (with_reducible exact LeO.refl _)
   | (with_reducible exact LeO.none _)
   | (with_reducible refine LeO.ite ?_ ?_)
   | (with_reducible refine LeO.bind ?_ (fun _ => ?_))
   | exact stowagekit_SamePage.mono _ _ _ _ _ _ _ _ _
   | exact LeO.none _
   | refine LeO.ite ?_ ?_
   | refine LeO.bind ?_ (fun _ => ?_)
set_option maxHeartbeats 8000000 in
set_option maxRecDepth 100000 in
theorem stowagelaw20_keys.calls (k : Nat) (a0 : ByteArray) (a1 : ByteArray) (a2 : ByteArray) (a3 : Int) (A4_0 : Option Addr) (c4_0 : Nat) (l4_0 : List (S39)) (a4_1 : Bool) (a4_2 : ByteArray) (a4_3 : ByteArray) (r : Bool) (w : World) (hG : GM w) (hr4_0 : Kd.C k39 w A4_0 l4_0.length l4_0) (hc4_0 : l4_0.length ≤ c4_0) (h : stowagelaw20_keys.f k a0 a1 a2 a3 l4_0 a4_1 a4_2 a4_3 = some r) :
  Calls Try.prog 20 #[.string a0, .string a1, .string a2, .int .i64 a3, .agg #[.slice A4_0 l4_0.length c4_0, .bool a4_1, .string a4_2, .string a4_3]] w fun e w' => e = .returned (.bool r) ∧ Below w.heap.size w w' := by
 have hu28 := Try.underlying28
 have HR4_0 := Aside0.mk hr4_0
 have HC4_0 := Aside0.mk hc4_0
 clear hr4_0 hc4_0
 have HB := Aside0.mk (Below.refl w.heap.size w)
 have HG := Aside0.mk hG
 clear hG
 have H : ((stowagelaw20_four.f).bind fun t216 => ((listing_Keys.f t216 a0 a1 a2 a3).bind fun bt219 => (if bt219.2.2.2.2 = 0 then ((stowagekit_SamePage.f k bt219.1 bt219.2.1 bt219.2.2.1 bt219.2.2.2.1 l4_0 a4_1 a4_2 a4_3).bind fun t227 => (some t227)) else (some false)))) = some r := h
 clear h
 replace H := Option.bind_eq_some_iff.mp H
 obtain ⟨t216, A60, H⟩ := H
 replace H : ((listing_Keys.f t216 a0 a1 a2 a3).bind fun bt219 => (if bt219.2.2.2.2 = 0 then ((stowagekit_SamePage.f k bt219.1 bt219.2.1 bt219.2.2.1 bt219.2.2.2.1 l4_0 a4_1 a4_2 a4_3).bind fun t227 => (some t227)) else (some false))) = some r := H
 have A6 := Aside0.mk A60
 clear A60
 replace H := Option.bind_eq_some_iff.mp H
 obtain ⟨⟨t219, t222, t223, t224, t225⟩, A70, H⟩ := H
 replace H : (if t225 = 0 then ((stowagekit_SamePage.f k t219 t222 t223 t224 l4_0 a4_1 a4_2 a4_3).bind fun t227 => (some t227)) else (some false)) = some r := H
 have A7 := Aside0.mk A70
 clear A70
 by_cases c8 : t225 = 0
 ·rw [if_pos c8] at H
  have c8b0 : (t225 == 0) = true := beq_iff_eq.mpr c8
  have c8b1 : (t225 != 0) = false := bne_eq_false_iff_eq.mpr c8
  clear c8
  replace H := Option.bind_eq_some_iff.mp H
  obtain ⟨t227, A90, H⟩ := H
  replace H : (some t227) = some r := H
  have A9 := Aside0.mk A90
  clear A90
  obtain rfl := Option.some.inj H
  go_enter Try.func20, Try.ntmps20
  go_wp2_with (first|((with_reducible refine gate_dst (N := 9) rfl ?_); refine box_event ?hg (N := 9) ?hd (cs := #[.slice A4_0 l4_0.length c4_0, .bool a4_1, .string a4_2, .string a4_3]) (t := 28) ?hr ?_; (case hd => rfl); (case hg => rfl); (case hr => first|(go_simp; done)|(go_simp; rfl)); intro gb215 hg w10 hbox hb; have n0_ := Aside0.mk (below_step (by repeat (first|(with_reducible first|exact HB.out|apply below_alloc|apply pw_below_drewN|apply below_drew1)|exact HB.out)) hb); have n1_ := Aside0.mk (hbox); have n2_ := Aside0.mk ((by rw [hg]; exact (below_size (by repeat (first|(with_reducible first|exact HB.out|apply below_alloc|apply pw_below_drewN|apply below_drew1)|exact HB.out))) : w.heap.size ≤ gb215)); have n3_ := Aside0.mk ((by rw [hg]; exact (below_size (by repeat (first|(with_reducible first|exact HB.out|apply below_alloc|apply pw_below_drewN|apply below_drew1)|exact HB.out))) : w.heap.size ≤ gb215)); clear HB; have HB := n0_; have BK215 := n1_; have GW215 := n2_; have GE215 := n3_; clear n0_ n1_ n2_ n3_; clear hb hbox hg)|((with_reducible refine gate_callee (f := 22) rfl ?_); refine goesL_ (some 14) rfl rfl Try.func22 (by kernel_rfl) rfl #[] rfl (by (try simp only [List.map_toArray, List.map_cons, List.map_nil]); first|done|rfl|(simp only [List.length_drop, List.length_take]; rfl)) ?_; (with_reducible refine (stowagelaw20_four.calls  t216 _ A6.out).mono ?_); rintro e w11 ⟨v217, rfl, ho0, hb⟩; refine ⟨_, rfl, ?_⟩; have n0_ := Aside0.mk (Kd.N_lower (Kd.N_mono (ok' := fun k_ => k_ ≠ gb215) ho0 (fun k_ hk_ => (Kd.freshB (g := gb215) (o := .cells #[.slice A4_0 l4_0.length c4_0, .bool a4_1, .string a4_2, .string a4_3] 28 (0, 0)) (by (with_reducible repeat (first|refine blk_drewN ?_ _|refine blk_drew ?_|refine blk_alloc ?_ _)); exact BK215.out) k_ hk_))) (below_size (by repeat (first|(with_reducible first|exact HB.out|apply below_alloc|apply pw_below_drewN|apply below_drew1|refine below_set ?_ GE215.out)|exact HB.out)))); have n1_ := Aside0.mk (blk_below (g := gb215) (o := .cells #[.slice A4_0 l4_0.length c4_0, .bool a4_1, .string a4_2, .string a4_3] 28 (0, 0)) (by (with_reducible repeat (first|refine blk_drewN ?_ _|refine blk_drew ?_|refine blk_alloc ?_ _)); exact BK215.out) hb); have n2_ := Aside0.mk (below_step (by repeat (first|(with_reducible first|exact HB.out|apply below_alloc|apply pw_below_drewN|apply below_drew1|refine below_set ?_ GE215.out)|exact HB.out)) hb); clear BK215; clear HB; have HO218 := n0_; have BK215 := n1_; have HB := n2_; clear n0_ n1_ n2_; (try clear hb); (try clear hb2); (try clear hk); (try clear hi); (try clear ho0); obtain ⟨Ao12, co12, eo12⟩ := Kd.N_slice HO218.out; subst eo12)|((with_reducible refine gate_callee (f := 11) rfl ?_); refine goesL_ (some 19) rfl rfl Try.func11 (by kernel_rfl) rfl #[.slice Ao12 t216.length co12, .string a0, .string a1, .string a2, .int .i64 a3] rfl (by (try simp only [List.map_toArray, List.map_cons, List.map_nil]); first|done|rfl|(simp only [List.length_drop, List.length_take]; rfl)) ?_; (with_reducible refine (listing_Keys.calls _ _ t216 a0 a1 a2 a3 t219 t222 t223 t224 t225 _ ?side1 ?side2 ?side3 A7.out).mono ?_); (case side1 => first|exact HG.out|exact GM.below (by repeat (first|(with_reducible first|exact HB.out|apply below_alloc|apply pw_below_drewN|apply below_drew1|refine below_set ?_ GE215.out)|exact HB.out)) HG.out|(repeat (first|exact HG.out|apply GM.drewN|apply GM.drew))); (case side2 => repeat (first|exact (Kd.N_reads' HO218.out).2.2|(with_reducible refine Kd.C_alloc ?_ _)|(with_reducible refine Kd.C_drewN ?_ _)|(with_reducible refine Kd.C_drew ?_))); (case side3 => exact (Kd.N_reads' HO218.out).2.1); rintro e w13 ⟨v220, rfl, ho0, hb⟩; refine ⟨_, rfl, ?_⟩; have n0_ := Aside0.mk (Kd.N_elder' (by (with_reducible repeat (first|apply Kd.N_alloc|apply Kd.N_drewN|apply Kd.N_drew)); exact HO218.out) (Kd.R_base ho0) hb); have n1_ := Aside0.mk (Kd.R_lower ho0 (below_size (by repeat (first|(with_reducible first|exact HB.out|apply below_alloc|apply pw_below_drewN|apply below_drew1|refine below_set ?_ GE215.out)|exact HB.out)))); have n2_ := Aside0.mk (blk_below (g := gb215) (o := .cells #[.slice A4_0 l4_0.length c4_0, .bool a4_1, .string a4_2, .string a4_3] 28 (0, 0)) (by (with_reducible repeat (first|refine blk_drewN ?_ _|refine blk_drew ?_|refine blk_alloc ?_ _)); exact BK215.out) hb); have n3_ := Aside0.mk (below_step (by repeat (first|(with_reducible first|exact HB.out|apply below_alloc|apply pw_below_drewN|apply below_drew1|refine below_set ?_ GE215.out)|exact HB.out)) hb); clear HO218; clear BK215; clear HB; have HO218 := n0_; have HO221 := n1_; have BK215 := n2_; have HB := n3_; clear n0_ n1_ n2_ n3_; (try clear hb); (try clear hb2); (try clear hk); (try clear hi); (try clear ho0))|((with_reducible refine gate_dst (N := 11) rfl ?_); refine box_event ?hg (N := 11) ?hd (cs := #[.slice none 0 0, .bool false, .string (⟨#[]⟩ : ByteArray), .string (⟨#[]⟩ : ByteArray)]) (t := 28) ?hr ?_; (case hd => rfl); (case hg => rfl); (case hr => first|(go_simp; done)|(go_simp; rfl)); intro gb226 hg w14 hbox hb; have n0_ := Aside0.mk (Kd.N_below (Kd.N_elderB (by (with_reducible repeat (first|apply Kd.N_alloc|apply Kd.N_drewN|apply Kd.N_drew)); exact HO218.out) gb226 (Nat.le_of_eq hg.symm)) hb); have n1_ := Aside0.mk (Kd.R_below (by (with_reducible repeat (first|apply Kd.R_alloc|apply Kd.R_drewN|apply Kd.R_drew)); exact HO221.out) hb); have n2_ := Aside0.mk (blk_below (g := gb215) (o := .cells #[.slice A4_0 l4_0.length c4_0, .bool a4_1, .string a4_2, .string a4_3] 28 (0, 0)) (by (with_reducible repeat (first|refine blk_drewN ?_ _|refine blk_drew ?_|refine blk_alloc ?_ _)); exact BK215.out) hb); have n3_ := Aside0.mk (below_step (by repeat (first|(with_reducible first|exact HB.out|apply below_alloc|apply pw_below_drewN|apply below_drew1|refine below_set ?_ GE215.out)|exact HB.out)) hb); have n4_ := Aside0.mk (hbox); have n5_ := Aside0.mk ((by rw [hg]; exact (below_size (by repeat (first|(with_reducible first|exact HB.out|apply below_alloc|apply pw_below_drewN|apply below_drew1|refine below_set ?_ GE215.out)|exact HB.out))) : w.heap.size ≤ gb226)); have n6_ := Aside0.mk ((by rw [hg]; exact (below_size (by repeat (first|(with_reducible first|exact HB.out|apply below_alloc|apply pw_below_drewN|apply below_drew1|refine below_set ?_ GE215.out)|exact HB.out))) : w.heap.size ≤ gb226)); have n7_ := Aside0.mk ((by rw [hg]; exact Nat.ne_of_lt (blk_lt (g := gb215) (o := .cells #[.slice A4_0 l4_0.length c4_0, .bool a4_1, .string a4_2, .string a4_3] 28 (0, 0)) (by (with_reducible repeat (first|refine blk_drewN ?_ _|refine blk_drew ?_|refine blk_alloc ?_ _)); exact BK215.out)) : gb215 ≠ gb226)); have n8_ := Aside0.mk ((by rw [hg]; exact Nat.ne_of_gt (blk_lt (g := gb215) (o := .cells #[.slice A4_0 l4_0.length c4_0, .bool a4_1, .string a4_2, .string a4_3] 28 (0, 0)) (by (with_reducible repeat (first|refine blk_drewN ?_ _|refine blk_drew ?_|refine blk_alloc ?_ _)); exact BK215.out)) : gb226 ≠ gb215)); clear HO218; clear HO221; clear BK215; clear HB; have HO218 := n0_; have HO221 := n1_; have BK215 := n2_; have HB := n3_; have BK226 := n4_; have GW226 := n5_; have GE226 := n6_; have NB215_226 := n7_; have NB226_215 := n8_; clear n0_ n1_ n2_ n3_ n4_ n5_ n6_ n7_ n8_; clear hb hbox hg; obtain ⟨Ao15, co15, eo15⟩ := Kd.R_slice HO221.out; subst eo15; have hnb16 := NB226_215.out; have hnc16 := NB215_226.out; have hcz17_0 : w14.cell? ⟨gb226, 0, none⟩ = some (.slice none 0 0) := (blk_cell BK226.out 0).trans rfl; have hcz17_1 : w14.cell? ⟨gb226, 1, none⟩ = some (.bool false) := (blk_cell BK226.out 1).trans rfl; have hcz17_2 : w14.cell? ⟨gb226, 2, none⟩ = some (.string (⟨#[]⟩ : ByteArray)) := (blk_cell BK226.out 2).trans rfl; have hcz17_3 : w14.cell? ⟨gb226, 3, none⟩ = some (.string (⟨#[]⟩ : ByteArray)) := (blk_cell BK226.out 3).trans rfl; have hfz17_0 := blk_frozen BK226.out 0; have hfz17_1 := blk_frozen BK226.out 1; have hfz17_2 := blk_frozen BK226.out 2; have hfz17_3 := blk_frozen BK226.out 3; have hcz18_0 : w14.cell? ⟨gb215, 0, none⟩ = some (.slice A4_0 l4_0.length c4_0) := (blk_cell BK215.out 0).trans rfl; have hcz18_1 : w14.cell? ⟨gb215, 1, none⟩ = some (.bool a4_1) := (blk_cell BK215.out 1).trans rfl; have hcz18_2 : w14.cell? ⟨gb215, 2, none⟩ = some (.string a4_2) := (blk_cell BK215.out 2).trans rfl; have hcz18_3 : w14.cell? ⟨gb215, 3, none⟩ = some (.string a4_3) := (blk_cell BK215.out 3).trans rfl; have hfz18_0 := blk_frozen BK215.out 0; have hfz18_1 := blk_frozen BK215.out 1; have hfz18_2 := blk_frozen BK215.out 2; have hfz18_3 := blk_frozen BK215.out 3)|(go_at_call 15; (with_reducible refine (stowagekit_SamePage.calls k _ _ t219 t222 t223 t224 _ _ l4_0 a4_1 a4_2 a4_3 t227 _ ?side1 ?side2 ?side3 ?side4 A9.out).mono ?_); (case side1 => refine (Kd.R_reads' (e := 39) (base := w.heap.size) (ok := fun k_ => True) (n := t219.length) (c := co15) ?_).2.2; exact (by (with_reducible repeat (first|apply Kd.R_alloc|apply Kd.R_drewN|apply Kd.R_drew)); exact (Kd.R_mono (Kd.R_far (p := ⟨gb226, 3, none⟩) (Kd.R_far (p := ⟨gb226, 2, none⟩) (Kd.R_far (p := ⟨gb226, 1, none⟩) (Kd.R_far (p := ⟨gb226, 0, none⟩) (Kd.R_types HO221.out BK226.out (by decide)) (fun _ hk => hk.2) (.slice Ao15 t219.length co15)) (fun _ hk => hk.2) (.bool t222)) (fun _ hk => hk.2) (.string t223)) (fun _ hk => hk.2) (.string t224)) (fun _ h_ => h_.1)))); (case side2 => exact (Kd.R_reads' HO221.out).2.1); (case side3 => exact Kd.C_below HR4_0.out (by repeat (first|(with_reducible first|exact HB.out|apply below_alloc|apply pw_below_drewN|apply below_drew1|refine below_set ?_ GE215.out|refine below_set ?_ GE226.out)|exact HB.out))); (case side4 => exact HC4_0.out); rintro e w19 ⟨rfl, hb⟩; have n0_ := Aside0.mk (Kd.N_below (by (with_reducible repeat (first|apply Kd.N_alloc|apply Kd.N_drewN|apply Kd.N_drew)); exact (Kd.N_mono (Kd.N_far (p := ⟨gb226, 3, none⟩) (Kd.N_far (p := ⟨gb226, 2, none⟩) (Kd.N_far (p := ⟨gb226, 1, none⟩) (Kd.N_far (p := ⟨gb226, 0, none⟩) (Kd.N_mono HO218.out (fun k_ hk => (⟨hk, hk.2⟩ : _ ∧ k_ ≠ gb226))) (fun _ hk => hk.2) (.slice Ao15 t219.length co15)) (fun _ hk => hk.2) (.bool t222)) (fun _ hk => hk.2) (.string t223)) (fun _ hk => hk.2) (.string t224)) (fun _ h_ => h_.1))) hb); have n1_ := Aside0.mk (Kd.R_below (by (with_reducible repeat (first|apply Kd.R_alloc|apply Kd.R_drewN|apply Kd.R_drew)); exact (Kd.R_mono (Kd.R_far (p := ⟨gb226, 3, none⟩) (Kd.R_far (p := ⟨gb226, 2, none⟩) (Kd.R_far (p := ⟨gb226, 1, none⟩) (Kd.R_far (p := ⟨gb226, 0, none⟩) (Kd.R_types HO221.out BK226.out (by decide)) (fun _ hk => hk.2) (.slice Ao15 t219.length co15)) (fun _ hk => hk.2) (.bool t222)) (fun _ hk => hk.2) (.string t223)) (fun _ hk => hk.2) (.string t224)) (fun _ h_ => h_.1))) hb); have n2_ := Aside0.mk (blk_below (g := gb215) (o := .cells #[.slice A4_0 l4_0.length c4_0, .bool a4_1, .string a4_2, .string a4_3] 28 (0, 0)) (by (with_reducible repeat (first|refine blk_drewN ?_ _|refine blk_drew ?_|refine blk_alloc ?_ _)); refine blk_far ?_ NB215_226.out _; (with_reducible repeat (first|refine blk_drewN ?_ _|refine blk_drew ?_|refine blk_alloc ?_ _)); refine blk_far ?_ NB215_226.out _; (with_reducible repeat (first|refine blk_drewN ?_ _|refine blk_drew ?_|refine blk_alloc ?_ _)); refine blk_far ?_ NB215_226.out _; (with_reducible repeat (first|refine blk_drewN ?_ _|refine blk_drew ?_|refine blk_alloc ?_ _)); refine blk_far ?_ NB215_226.out _; (with_reducible repeat (first|refine blk_drewN ?_ _|refine blk_drew ?_|refine blk_alloc ?_ _)); exact BK215.out) hb); have n3_ := Aside0.mk (blk_below (g := gb226) (o := .cells #[.slice Ao15 t219.length co15, .bool t222, .string t223, .string t224] 28 (0, 0)) (by (with_reducible repeat (first|refine blk_drewN ?_ _|refine blk_drew ?_|refine blk_alloc ?_ _)); refine blk_put (cs := #[.slice Ao15 t219.length co15, .bool t222, .string t223, .string (⟨#[]⟩ : ByteArray)]) ?_ 3 _ rfl; (with_reducible repeat (first|refine blk_drewN ?_ _|refine blk_drew ?_|refine blk_alloc ?_ _)); refine blk_put (cs := #[.slice Ao15 t219.length co15, .bool t222, .string (⟨#[]⟩ : ByteArray), .string (⟨#[]⟩ : ByteArray)]) ?_ 2 _ rfl; (with_reducible repeat (first|refine blk_drewN ?_ _|refine blk_drew ?_|refine blk_alloc ?_ _)); refine blk_put (cs := #[.slice Ao15 t219.length co15, .bool false, .string (⟨#[]⟩ : ByteArray), .string (⟨#[]⟩ : ByteArray)]) ?_ 1 _ rfl; (with_reducible repeat (first|refine blk_drewN ?_ _|refine blk_drew ?_|refine blk_alloc ?_ _)); refine blk_put (cs := #[.slice none 0 0, .bool false, .string (⟨#[]⟩ : ByteArray), .string (⟨#[]⟩ : ByteArray)]) ?_ 0 _ rfl; (with_reducible repeat (first|refine blk_drewN ?_ _|refine blk_drew ?_|refine blk_alloc ?_ _)); exact BK226.out) hb); have n4_ := Aside0.mk (below_step (by repeat (first|(with_reducible first|exact HB.out|apply below_alloc|apply pw_below_drewN|apply below_drew1|refine below_set ?_ GE215.out|refine below_set ?_ GE226.out)|exact HB.out)) hb); clear HO218; clear HO221; clear BK215; clear BK226; clear HB; have HO218 := n0_; have HO221 := n1_; have BK215 := n2_; have BK226 := n3_; have HB := n4_; clear n0_ n1_ n2_ n3_ n4_; (try clear hb); (try clear hb2); (try clear hk); (try clear hi)))
  go_ret
  exact ⟨by first|rfl|(simp [errW_none, errW_some] <;> rfl)|(simp [*, errW_none, errW_some] <;> rfl), by repeat (first|(with_reducible first|exact HB.out|apply below_alloc|apply pw_below_drewN|apply below_drew1|refine below_set ?_ GE215.out|refine below_set ?_ GE226.out)|exact HB.out)⟩
 ·rw [if_neg c8] at H
  have c8b0 : (t225 == 0) = false := beq_eq_false_iff_ne.mpr c8
  have c8b1 : (t225 != 0) = true := bne_iff_ne.mpr c8
  obtain rfl := Option.some.inj H
  go_enter Try.func20, Try.ntmps20
  go_wp2_with (first|((with_reducible refine gate_dst (N := 9) rfl ?_); refine box_event ?hg (N := 9) ?hd (cs := #[.slice A4_0 l4_0.length c4_0, .bool a4_1, .string a4_2, .string a4_3]) (t := 28) ?hr ?_; (case hd => rfl); (case hg => rfl); (case hr => first|(go_simp; done)|(go_simp; rfl)); intro gb215 hg w20 hbox hb; have n0_ := Aside0.mk (below_step (by repeat (first|(with_reducible first|exact HB.out|apply below_alloc|apply pw_below_drewN|apply below_drew1)|exact HB.out)) hb); have n1_ := Aside0.mk (hbox); have n2_ := Aside0.mk ((by rw [hg]; exact (below_size (by repeat (first|(with_reducible first|exact HB.out|apply below_alloc|apply pw_below_drewN|apply below_drew1)|exact HB.out))) : w.heap.size ≤ gb215)); have n3_ := Aside0.mk ((by rw [hg]; exact (below_size (by repeat (first|(with_reducible first|exact HB.out|apply below_alloc|apply pw_below_drewN|apply below_drew1)|exact HB.out))) : w.heap.size ≤ gb215)); clear HB; have HB := n0_; have BK215 := n1_; have GW215 := n2_; have GE215 := n3_; clear n0_ n1_ n2_ n3_; clear hb hbox hg)|((with_reducible refine gate_callee (f := 22) rfl ?_); refine goesL_ (some 14) rfl rfl Try.func22 (by kernel_rfl) rfl #[] rfl (by (try simp only [List.map_toArray, List.map_cons, List.map_nil]); first|done|rfl|(simp only [List.length_drop, List.length_take]; rfl)) ?_; (with_reducible refine (stowagelaw20_four.calls  t216 _ A6.out).mono ?_); rintro e w21 ⟨v217, rfl, ho0, hb⟩; refine ⟨_, rfl, ?_⟩; have n0_ := Aside0.mk (Kd.N_lower (Kd.N_mono (ok' := fun k_ => k_ ≠ gb215) ho0 (fun k_ hk_ => (Kd.freshB (g := gb215) (o := .cells #[.slice A4_0 l4_0.length c4_0, .bool a4_1, .string a4_2, .string a4_3] 28 (0, 0)) (by (with_reducible repeat (first|refine blk_drewN ?_ _|refine blk_drew ?_|refine blk_alloc ?_ _)); exact BK215.out) k_ hk_))) (below_size (by repeat (first|(with_reducible first|exact HB.out|apply below_alloc|apply pw_below_drewN|apply below_drew1|refine below_set ?_ GE215.out)|exact HB.out)))); have n1_ := Aside0.mk (blk_below (g := gb215) (o := .cells #[.slice A4_0 l4_0.length c4_0, .bool a4_1, .string a4_2, .string a4_3] 28 (0, 0)) (by (with_reducible repeat (first|refine blk_drewN ?_ _|refine blk_drew ?_|refine blk_alloc ?_ _)); exact BK215.out) hb); have n2_ := Aside0.mk (below_step (by repeat (first|(with_reducible first|exact HB.out|apply below_alloc|apply pw_below_drewN|apply below_drew1|refine below_set ?_ GE215.out)|exact HB.out)) hb); clear BK215; clear HB; have HO218 := n0_; have BK215 := n1_; have HB := n2_; clear n0_ n1_ n2_; (try clear hb); (try clear hb2); (try clear hk); (try clear hi); (try clear ho0); obtain ⟨Ao22, co22, eo22⟩ := Kd.N_slice HO218.out; subst eo22)|((with_reducible refine gate_callee (f := 11) rfl ?_); refine goesL_ (some 19) rfl rfl Try.func11 (by kernel_rfl) rfl #[.slice Ao22 t216.length co22, .string a0, .string a1, .string a2, .int .i64 a3] rfl (by (try simp only [List.map_toArray, List.map_cons, List.map_nil]); first|done|rfl|(simp only [List.length_drop, List.length_take]; rfl)) ?_; (with_reducible refine (listing_Keys.calls _ _ t216 a0 a1 a2 a3 t219 t222 t223 t224 t225 _ ?side1 ?side2 ?side3 A7.out).mono ?_); (case side1 => first|exact HG.out|exact GM.below (by repeat (first|(with_reducible first|exact HB.out|apply below_alloc|apply pw_below_drewN|apply below_drew1|refine below_set ?_ GE215.out)|exact HB.out)) HG.out|(repeat (first|exact HG.out|apply GM.drewN|apply GM.drew))); (case side2 => repeat (first|exact (Kd.N_reads' HO218.out).2.2|(with_reducible refine Kd.C_alloc ?_ _)|(with_reducible refine Kd.C_drewN ?_ _)|(with_reducible refine Kd.C_drew ?_))); (case side3 => exact (Kd.N_reads' HO218.out).2.1); rintro e w23 ⟨v220, rfl, ho0, hb⟩; refine ⟨_, rfl, ?_⟩; have n0_ := Aside0.mk (Kd.N_elder' (by (with_reducible repeat (first|apply Kd.N_alloc|apply Kd.N_drewN|apply Kd.N_drew)); exact HO218.out) (Kd.R_base ho0) hb); have n1_ := Aside0.mk (Kd.R_lower ho0 (below_size (by repeat (first|(with_reducible first|exact HB.out|apply below_alloc|apply pw_below_drewN|apply below_drew1|refine below_set ?_ GE215.out)|exact HB.out)))); have n2_ := Aside0.mk (blk_below (g := gb215) (o := .cells #[.slice A4_0 l4_0.length c4_0, .bool a4_1, .string a4_2, .string a4_3] 28 (0, 0)) (by (with_reducible repeat (first|refine blk_drewN ?_ _|refine blk_drew ?_|refine blk_alloc ?_ _)); exact BK215.out) hb); have n3_ := Aside0.mk (below_step (by repeat (first|(with_reducible first|exact HB.out|apply below_alloc|apply pw_below_drewN|apply below_drew1|refine below_set ?_ GE215.out)|exact HB.out)) hb); clear HO218; clear BK215; clear HB; have HO218 := n0_; have HO221 := n1_; have BK215 := n2_; have HB := n3_; clear n0_ n1_ n2_ n3_; (try clear hb); (try clear hb2); (try clear hk); (try clear hi); (try clear ho0))|((with_reducible refine gate_dst (N := 11) rfl ?_); refine box_event ?hg (N := 11) ?hd (cs := #[.slice none 0 0, .bool false, .string (⟨#[]⟩ : ByteArray), .string (⟨#[]⟩ : ByteArray)]) (t := 28) ?hr ?_; (case hd => rfl); (case hg => rfl); (case hr => first|(go_simp; done)|(go_simp; rfl)); intro gb226 hg w24 hbox hb; have n0_ := Aside0.mk (Kd.N_below (Kd.N_elderB (by (with_reducible repeat (first|apply Kd.N_alloc|apply Kd.N_drewN|apply Kd.N_drew)); exact HO218.out) gb226 (Nat.le_of_eq hg.symm)) hb); have n1_ := Aside0.mk (Kd.R_below (by (with_reducible repeat (first|apply Kd.R_alloc|apply Kd.R_drewN|apply Kd.R_drew)); exact HO221.out) hb); have n2_ := Aside0.mk (blk_below (g := gb215) (o := .cells #[.slice A4_0 l4_0.length c4_0, .bool a4_1, .string a4_2, .string a4_3] 28 (0, 0)) (by (with_reducible repeat (first|refine blk_drewN ?_ _|refine blk_drew ?_|refine blk_alloc ?_ _)); exact BK215.out) hb); have n3_ := Aside0.mk (below_step (by repeat (first|(with_reducible first|exact HB.out|apply below_alloc|apply pw_below_drewN|apply below_drew1|refine below_set ?_ GE215.out)|exact HB.out)) hb); have n4_ := Aside0.mk (hbox); have n5_ := Aside0.mk ((by rw [hg]; exact (below_size (by repeat (first|(with_reducible first|exact HB.out|apply below_alloc|apply pw_below_drewN|apply below_drew1|refine below_set ?_ GE215.out)|exact HB.out))) : w.heap.size ≤ gb226)); have n6_ := Aside0.mk ((by rw [hg]; exact (below_size (by repeat (first|(with_reducible first|exact HB.out|apply below_alloc|apply pw_below_drewN|apply below_drew1|refine below_set ?_ GE215.out)|exact HB.out))) : w.heap.size ≤ gb226)); have n7_ := Aside0.mk ((by rw [hg]; exact Nat.ne_of_lt (blk_lt (g := gb215) (o := .cells #[.slice A4_0 l4_0.length c4_0, .bool a4_1, .string a4_2, .string a4_3] 28 (0, 0)) (by (with_reducible repeat (first|refine blk_drewN ?_ _|refine blk_drew ?_|refine blk_alloc ?_ _)); exact BK215.out)) : gb215 ≠ gb226)); have n8_ := Aside0.mk ((by rw [hg]; exact Nat.ne_of_gt (blk_lt (g := gb215) (o := .cells #[.slice A4_0 l4_0.length c4_0, .bool a4_1, .string a4_2, .string a4_3] 28 (0, 0)) (by (with_reducible repeat (first|refine blk_drewN ?_ _|refine blk_drew ?_|refine blk_alloc ?_ _)); exact BK215.out)) : gb226 ≠ gb215)); clear HO218; clear HO221; clear BK215; clear HB; have HO218 := n0_; have HO221 := n1_; have BK215 := n2_; have HB := n3_; have BK226 := n4_; have GW226 := n5_; have GE226 := n6_; have NB215_226 := n7_; have NB226_215 := n8_; clear n0_ n1_ n2_ n3_ n4_ n5_ n6_ n7_ n8_; clear hb hbox hg; obtain ⟨Ao25, co25, eo25⟩ := Kd.R_slice HO221.out; subst eo25; have hnb26 := NB226_215.out; have hnc26 := NB215_226.out; have hcz27_0 : w24.cell? ⟨gb226, 0, none⟩ = some (.slice none 0 0) := (blk_cell BK226.out 0).trans rfl; have hcz27_1 : w24.cell? ⟨gb226, 1, none⟩ = some (.bool false) := (blk_cell BK226.out 1).trans rfl; have hcz27_2 : w24.cell? ⟨gb226, 2, none⟩ = some (.string (⟨#[]⟩ : ByteArray)) := (blk_cell BK226.out 2).trans rfl; have hcz27_3 : w24.cell? ⟨gb226, 3, none⟩ = some (.string (⟨#[]⟩ : ByteArray)) := (blk_cell BK226.out 3).trans rfl; have hfz27_0 := blk_frozen BK226.out 0; have hfz27_1 := blk_frozen BK226.out 1; have hfz27_2 := blk_frozen BK226.out 2; have hfz27_3 := blk_frozen BK226.out 3))
  go_ret
  exact ⟨by first|rfl|(simp [errW_none, errW_some] <;> rfl)|(simp [*, errW_none, errW_some] <;> rfl), by repeat (first|(with_reducible first|exact HB.out|apply below_alloc|apply pw_below_drewN|apply below_drew1|refine below_set ?_ GE215.out|refine below_set ?_ GE226.out)|exact HB.out)⟩

end Go.Proofs.Ytahkcfhiecfgeaa.Pr
end
section
namespace Go.Proofs.Ytahkcfhiecfgeaa.Pr
open Go.RowKit Go.Proofs.YtahkcfhiecfgeaaW.PrintWords Go.Proofs.YtahkcfhiecfgeaaW.PrintLast Go.Proofs.YtahkcfhiecfgeaaW.PrintMore
attribute [local go_sem] max2_int min2_int max_two min_two max_three min_three max_four min_four   -- for this text's walks alone
attribute [local go_sem high] gtr_as_less leq_as_less
set_option linter.unusedVariables false
set_option linter.unusedSimpArgs false

/-! ### stowagelaw20_awake: function 19 -/
def stowagelaw20_awake.f (k : Nat)  : Option (Bool) := (stowagelaw20_v.f (⟨#[118, 49]⟩ : ByteArray)).bind fun bt228 => ((stowagelaw20_keys.f k (⟨#[]⟩ : ByteArray) (⟨#[47]⟩ : ByteArray) (⟨#[]⟩ : ByteArray) 1 (([(⟨(⟨#[97]⟩ : ByteArray), false, (⟨bt228.1, bt228.2.1, bt228.2.2.1, bt228.2.2.2.1, bt228.2.2.2.2⟩ : S37), false⟩ : S39)] : List (S39))) true (⟨#[97]⟩ : ByteArray) (⟨#[]⟩ : ByteArray)).bind fun t236 => (if t236 = true then ((stowagelaw20_keys.f k (⟨#[]⟩ : ByteArray) (⟨#[47]⟩ : ByteArray) (⟨#[97]⟩ : ByteArray) 9 (([(⟨(⟨#[98, 47]⟩ : ByteArray), true, (⟨(⟨#[]⟩ : ByteArray), 0, false, 0, (⟨#[]⟩ : ByteArray)⟩ : S37), false⟩ : S39)] : List (S39))) false (⟨#[]⟩ : ByteArray) (⟨#[]⟩ : ByteArray)).bind fun t240 => (some t240)) else (some false)))
theorem stowagelaw20_awake.mono : ∀ k, LeO (stowagelaw20_awake.f k ) (stowagelaw20_awake.f (k + 1) ) := by
 intro  k
 unfold stowagelaw20_awake.f
 repeat' first
   | (with_reducible exact stowagelaw20_keys.mono _ _ _ _ _ _ _ _ _)
   | (with_reducible exact LeO.refl _)
   | (with_reducible exact LeO.none _)
   | (with_reducible refine LeO.ite ?_ ?_)
   | (with_reducible refine LeO.bind ?_ (fun _ => ?_))
   | exact stowagelaw20_keys.mono _ _ _ _ _ _ _ _ _
   | exact LeO.none _
   | refine LeO.ite ?_ ?_
   | refine LeO.bind ?_ (fun _ => ?_)
set_option maxHeartbeats 8000000 in
set_option maxRecDepth 100000 in
theorem stowagelaw20_awake.calls (k : Nat)  (r : Bool) (w : World) (hG : GM w) (h : stowagelaw20_awake.f k  = some r) :
  Calls Try.prog 19 #[] w fun e w' => e = .returned (.bool r) ∧ Below w.heap.size w w' := by
 have hu39 := Try.underlying39
 have hu28 := Try.underlying28
 have HB := Aside0.mk (Below.refl w.heap.size w)
 have HG := Aside0.mk hG
 clear hG
 have H : ((stowagelaw20_v.f (⟨#[118, 49]⟩ : ByteArray)).bind fun bt228 => ((stowagelaw20_keys.f k (⟨#[]⟩ : ByteArray) (⟨#[47]⟩ : ByteArray) (⟨#[]⟩ : ByteArray) 1 (([(⟨(⟨#[97]⟩ : ByteArray), false, (⟨bt228.1, bt228.2.1, bt228.2.2.1, bt228.2.2.2.1, bt228.2.2.2.2⟩ : S37), false⟩ : S39)] : List (S39))) true (⟨#[97]⟩ : ByteArray) (⟨#[]⟩ : ByteArray)).bind fun t236 => (if t236 = true then ((stowagelaw20_keys.f k (⟨#[]⟩ : ByteArray) (⟨#[47]⟩ : ByteArray) (⟨#[97]⟩ : ByteArray) 9 (([(⟨(⟨#[98, 47]⟩ : ByteArray), true, (⟨(⟨#[]⟩ : ByteArray), 0, false, 0, (⟨#[]⟩ : ByteArray)⟩ : S37), false⟩ : S39)] : List (S39))) false (⟨#[]⟩ : ByteArray) (⟨#[]⟩ : ByteArray)).bind fun t240 => (some t240)) else (some false)))) = some r := h
 clear h
 replace H := Option.bind_eq_some_iff.mp H
 obtain ⟨⟨t228, t229, t230, t231, t232⟩, A10, H⟩ := H
 replace H : ((stowagelaw20_keys.f k (⟨#[]⟩ : ByteArray) (⟨#[47]⟩ : ByteArray) (⟨#[]⟩ : ByteArray) 1 (([(⟨(⟨#[97]⟩ : ByteArray), false, (⟨t228, t229, t230, t231, t232⟩ : S37), false⟩ : S39)] : List (S39))) true (⟨#[97]⟩ : ByteArray) (⟨#[]⟩ : ByteArray)).bind fun t236 => (if t236 = true then ((stowagelaw20_keys.f k (⟨#[]⟩ : ByteArray) (⟨#[47]⟩ : ByteArray) (⟨#[97]⟩ : ByteArray) 9 (([(⟨(⟨#[98, 47]⟩ : ByteArray), true, (⟨(⟨#[]⟩ : ByteArray), 0, false, 0, (⟨#[]⟩ : ByteArray)⟩ : S37), false⟩ : S39)] : List (S39))) false (⟨#[]⟩ : ByteArray) (⟨#[]⟩ : ByteArray)).bind fun t240 => (some t240)) else (some false))) = some r := H
 have A1 := Aside0.mk A10
 clear A10
 obtain ⟨y233, hy233⟩ : ∃ y_ : List (S39), y_ = (([(⟨(⟨#[97]⟩ : ByteArray), false, (⟨t228, t229, t230, t231, t232⟩ : S37), false⟩ : S39)] : List (S39))) := ⟨_, rfl⟩
 replace H : ((stowagelaw20_keys.f k (⟨#[]⟩ : ByteArray) (⟨#[47]⟩ : ByteArray) (⟨#[]⟩ : ByteArray) 1 y233 true (⟨#[97]⟩ : ByteArray) (⟨#[]⟩ : ByteArray)).bind fun t236 => (if t236 = true then ((stowagelaw20_keys.f k (⟨#[]⟩ : ByteArray) (⟨#[47]⟩ : ByteArray) (⟨#[97]⟩ : ByteArray) 9 (([(⟨(⟨#[98, 47]⟩ : ByteArray), true, (⟨(⟨#[]⟩ : ByteArray), 0, false, 0, (⟨#[]⟩ : ByteArray)⟩ : S37), false⟩ : S39)] : List (S39))) false (⟨#[]⟩ : ByteArray) (⟨#[]⟩ : ByteArray)).bind fun t240 => (some t240)) else (some false))) = some r := by first|(rw [hy233]; with_reducible exact H)|(have H2_ := (Option.bind_some _ _).symm.trans H; rw [hy233]; with_reducible exact H2_)|(have H2_ := (Option.bind_some _ _).symm.trans H; with_reducible exact H2_)|with_reducible exact H|(rw [hy233]; exact H)|exact H
 have Ny233 := Aside0.mk hy233
 clear hy233
 replace H := Option.bind_eq_some_iff.mp H
 obtain ⟨t236, A20, H⟩ := H
 replace H : (if t236 = true then ((stowagelaw20_keys.f k (⟨#[]⟩ : ByteArray) (⟨#[47]⟩ : ByteArray) (⟨#[97]⟩ : ByteArray) 9 (([(⟨(⟨#[98, 47]⟩ : ByteArray), true, (⟨(⟨#[]⟩ : ByteArray), 0, false, 0, (⟨#[]⟩ : ByteArray)⟩ : S37), false⟩ : S39)] : List (S39))) false (⟨#[]⟩ : ByteArray) (⟨#[]⟩ : ByteArray)).bind fun t240 => (some t240)) else (some false)) = some r := H
 have A2 := Aside0.mk A20
 clear A20
 by_cases c3 : t236 = true
 ·subst c3
  have H1 : ((stowagelaw20_keys.f k (⟨#[]⟩ : ByteArray) (⟨#[47]⟩ : ByteArray) (⟨#[97]⟩ : ByteArray) 9 (([(⟨(⟨#[98, 47]⟩ : ByteArray), true, (⟨(⟨#[]⟩ : ByteArray), 0, false, 0, (⟨#[]⟩ : ByteArray)⟩ : S37), false⟩ : S39)] : List (S39))) false (⟨#[]⟩ : ByteArray) (⟨#[]⟩ : ByteArray)).bind fun t240 => (some t240)) = some r := by rw [if_pos rfl] at H; exact H
  clear H
  have H := H1
  clear H1
  obtain ⟨y237, hy237⟩ : ∃ y_ : List (S39), y_ = (([(⟨(⟨#[98, 47]⟩ : ByteArray), true, (⟨(⟨#[]⟩ : ByteArray), 0, false, 0, (⟨#[]⟩ : ByteArray)⟩ : S37), false⟩ : S39)] : List (S39))) := ⟨_, rfl⟩
  replace H : ((stowagelaw20_keys.f k (⟨#[]⟩ : ByteArray) (⟨#[47]⟩ : ByteArray) (⟨#[97]⟩ : ByteArray) 9 y237 false (⟨#[]⟩ : ByteArray) (⟨#[]⟩ : ByteArray)).bind fun t240 => (some t240)) = some r := by first|(rw [hy237]; with_reducible exact H)|(have H2_ := (Option.bind_some _ _).symm.trans H; rw [hy237]; with_reducible exact H2_)|(have H2_ := (Option.bind_some _ _).symm.trans H; with_reducible exact H2_)|with_reducible exact H|(rw [hy237]; exact H)|exact H
  have Ny237 := Aside0.mk hy237
  clear hy237
  replace H := Option.bind_eq_some_iff.mp H
  obtain ⟨t240, A40, H⟩ := H
  replace H : (some t240) = some r := H
  have A4 := Aside0.mk A40
  clear A40
  obtain rfl := Option.some.inj H
  go_enter Try.func19, Try.ntmps19
  go_wp2_with (first|((with_reducible refine gate_callee (f := 21) rfl ?_); refine goesL_ (some 1) rfl rfl Try.func21 (by kernel_rfl) rfl #[.string (⟨#[118, 49]⟩ : ByteArray)] rfl (by (try simp only [List.map_toArray, List.map_cons, List.map_nil]); first|done|rfl|(simp only [List.length_drop, List.length_take]; rfl)) ?_; (with_reducible refine (stowagelaw20_v.calls (⟨#[118, 49]⟩ : ByteArray) t228 t229 t230 t231 t232 _ A1.out).mono ?_); rintro e w5 ⟨rfl, hb⟩; refine ⟨_, rfl, ?_⟩; have n0_ := Aside0.mk (below_step (by repeat (first|(with_reducible first|exact HB.out|apply below_alloc|apply pw_below_drewN|apply below_drew1)|exact HB.out)) hb); clear HB; have HB := n0_; clear n0_; (try clear hb); (try clear hb2); (try clear hk); (try clear hi))|((with_reducible refine gate_dst (N := 3) rfl ?_); (try (refine gate_guard (by rfl) ?_; dsimp only)); refine Kd.R_lit k39 _ 39 ?hg (N := 3) ?hd (xs := ([(⟨(⟨#[97]⟩ : ByteArray), false, (⟨t228, t229, t230, t231, t232⟩ : S37), false⟩ : S39)] : List (S39))) (inner := [.string (⟨#[97]⟩ : ByteArray), .bool false, .string t228, .int .i64 t229, .bool t230, .int .i64 t231, .string t232, .bool false]) (ok := fun _ => True) (okp := fun _ => True) ?hr ?hp (fun _ hk => hk) trivial (Below.refl _ _) (Nat.le_refl _) (by simp) ?_; (case hd => rfl); (case hg => rfl); (case hr => first|(go_simp; done)|(go_simp; rfl)); (case hp => exact (Reps.c8 (show Kd.M k39 _ _ _ (⟨(⟨#[97]⟩ : ByteArray), false, (⟨t228, t229, t230, t231, t232⟩ : S37), false⟩ : S39) [.string (⟨#[97]⟩ : ByteArray), .bool false, .string t228, .int .i64 t229, .bool t230, .int .i64 t231, .string t232, .bool false] from (k39_mkM _ _ _ (⟨(⟨#[97]⟩ : ByteArray), false, (⟨t228, t229, t230, t231, t232⟩ : S37), false⟩ : S39) )) (Reps.none _ _))); intro v234 w6 ho7 hb hg_ hnew_; clear hg_ hnew_; (first|rw [← Ny233.out] at ho7|(simp only [Int.reduceToNat] at ho7; rw [← Ny233.out] at ho7)); have n0_ := Aside0.mk (Kd.R_lower ho7 (below_size (by repeat (first|(with_reducible first|exact HB.out|apply below_alloc|apply pw_below_drewN|apply below_drew1)|exact HB.out)))); have n1_ := Aside0.mk (below_step (by repeat (first|(with_reducible first|exact HB.out|apply below_alloc|apply pw_below_drewN|apply below_drew1)|exact HB.out)) hb); clear HB; have HO235 := n0_; have HB := n1_; clear n0_ n1_; clear hb ho7; obtain ⟨Ao8, co8, eo8⟩ := Kd.R_slice HO235.out; subst eo8)|((with_reducible refine gate_callee (f := 20) rfl ?_); refine goesL_ (some 5) rfl rfl Try.func20 (by kernel_rfl) rfl #[.string (⟨#[]⟩ : ByteArray), .string (⟨#[47]⟩ : ByteArray), .string (⟨#[]⟩ : ByteArray), .int .i64 1, .agg #[.slice Ao8 y233.length co8, .bool true, .string (⟨#[97]⟩ : ByteArray), .string (⟨#[]⟩ : ByteArray)]] rfl (by (try simp only [List.map_toArray, List.map_cons, List.map_nil]); first|done|rfl|(simp only [List.length_drop, List.length_take]; rfl)) ?_; (with_reducible refine (stowagelaw20_keys.calls k (⟨#[]⟩ : ByteArray) (⟨#[47]⟩ : ByteArray) (⟨#[]⟩ : ByteArray) 1 _ _ y233 true (⟨#[97]⟩ : ByteArray) (⟨#[]⟩ : ByteArray) true _ ?side1 ?side2 ?side3 A2.out).mono ?_); (case side1 => first|exact HG.out|exact GM.below (by repeat (first|(with_reducible first|exact HB.out|apply below_alloc|apply pw_below_drewN|apply below_drew1)|exact HB.out)) HG.out|(repeat (first|exact HG.out|apply GM.drewN|apply GM.drew))); (case side2 => repeat (first|exact (Kd.R_reads' HO235.out).2.2|(with_reducible refine Kd.C_alloc ?_ _)|(with_reducible refine Kd.C_drewN ?_ _)|(with_reducible refine Kd.C_drew ?_))); (case side3 => exact (Kd.R_reads' HO235.out).2.1); rintro e w9 ⟨rfl, hb⟩; refine ⟨_, rfl, ?_⟩; have n0_ := Aside0.mk (Kd.R_below (by (with_reducible repeat (first|apply Kd.R_alloc|apply Kd.R_drewN|apply Kd.R_drew)); exact HO235.out) hb); have n1_ := Aside0.mk (below_step (by repeat (first|(with_reducible first|exact HB.out|apply below_alloc|apply pw_below_drewN|apply below_drew1)|exact HB.out)) hb); clear HO235; clear HB; have HO235 := n0_; have HB := n1_; clear n0_ n1_; (try clear hb); (try clear hb2); (try clear hk); (try clear hi))|((with_reducible refine gate_dst (N := 8) rfl ?_); (try (refine gate_guard (by rfl) ?_; dsimp only)); refine Kd.R_lit k39 _ 39 ?hg (N := 8) ?hd (xs := ([(⟨(⟨#[98, 47]⟩ : ByteArray), true, (⟨(⟨#[]⟩ : ByteArray), 0, false, 0, (⟨#[]⟩ : ByteArray)⟩ : S37), false⟩ : S39)] : List (S39))) (inner := [.string (⟨#[98, 47]⟩ : ByteArray), .bool true, .string (⟨#[]⟩ : ByteArray), .int .i64 0, .bool false, .int .i64 0, .string (⟨#[]⟩ : ByteArray), .bool false]) (ok := fun _ => True) (okp := fun _ => True) ?hr ?hp (fun _ hk => hk) trivial (Below.refl _ _) (Nat.le_refl _) (by simp) ?_; (case hd => rfl); (case hg => rfl); (case hr => first|(go_simp; done)|(go_simp; rfl)); (case hp => exact (Reps.c8 (show Kd.M k39 _ _ _ (⟨(⟨#[98, 47]⟩ : ByteArray), true, (⟨(⟨#[]⟩ : ByteArray), 0, false, 0, (⟨#[]⟩ : ByteArray)⟩ : S37), false⟩ : S39) [.string (⟨#[98, 47]⟩ : ByteArray), .bool true, .string (⟨#[]⟩ : ByteArray), .int .i64 0, .bool false, .int .i64 0, .string (⟨#[]⟩ : ByteArray), .bool false] from (k39_mkM _ _ _ (⟨(⟨#[98, 47]⟩ : ByteArray), true, (⟨(⟨#[]⟩ : ByteArray), 0, false, 0, (⟨#[]⟩ : ByteArray)⟩ : S37), false⟩ : S39) )) (Reps.none _ _))); intro v238 w10 ho11 hb hg_ hnew_; clear hg_ hnew_; (first|rw [← Ny237.out] at ho11|(simp only [Int.reduceToNat] at ho11; rw [← Ny237.out] at ho11)); have n0_ := Aside0.mk (Kd.R_elder' (by (with_reducible repeat (first|apply Kd.R_alloc|apply Kd.R_drewN|apply Kd.R_drew)); exact HO235.out) (Kd.R_base ho11) hb); have n1_ := Aside0.mk (Kd.R_lower (Kd.R_new' ho11 (Kd.R_lt (by (with_reducible repeat (first|apply Kd.R_alloc|apply Kd.R_drewN|apply Kd.R_drew)); exact HO235.out))) (below_size (by repeat (first|(with_reducible first|exact HB.out|apply below_alloc|apply pw_below_drewN|apply below_drew1)|exact HB.out)))); have n2_ := Aside0.mk (below_step (by repeat (first|(with_reducible first|exact HB.out|apply below_alloc|apply pw_below_drewN|apply below_drew1)|exact HB.out)) hb); clear HO235; clear HB; have HO235 := n0_; have HO239 := n1_; have HB := n2_; clear n0_ n1_ n2_; clear hb ho11; obtain ⟨Ao12, co12, eo12⟩ := Kd.R_slice HO239.out; subst eo12)|(go_at_call 20; (with_reducible refine (stowagelaw20_keys.calls k (⟨#[]⟩ : ByteArray) (⟨#[47]⟩ : ByteArray) (⟨#[97]⟩ : ByteArray) 9 _ _ y237 false (⟨#[]⟩ : ByteArray) (⟨#[]⟩ : ByteArray) t240 _ ?side1 ?side2 ?side3 A4.out).mono ?_); (case side1 => first|exact HG.out|exact GM.below (by repeat (first|(with_reducible first|exact HB.out|apply below_alloc|apply pw_below_drewN|apply below_drew1)|exact HB.out)) HG.out|(repeat (first|exact HG.out|apply GM.drewN|apply GM.drew))); (case side2 => repeat (first|exact (Kd.R_reads' HO239.out).2.2|(with_reducible refine Kd.C_alloc ?_ _)|(with_reducible refine Kd.C_drewN ?_ _)|(with_reducible refine Kd.C_drew ?_))); (case side3 => exact (Kd.R_reads' HO239.out).2.1); rintro e w13 ⟨rfl, hb⟩; have n0_ := Aside0.mk (Kd.R_below (by (with_reducible repeat (first|apply Kd.R_alloc|apply Kd.R_drewN|apply Kd.R_drew)); exact HO235.out) hb); have n1_ := Aside0.mk (Kd.R_below (by (with_reducible repeat (first|apply Kd.R_alloc|apply Kd.R_drewN|apply Kd.R_drew)); exact HO239.out) hb); have n2_ := Aside0.mk (below_step (by repeat (first|(with_reducible first|exact HB.out|apply below_alloc|apply pw_below_drewN|apply below_drew1)|exact HB.out)) hb); clear HO235; clear HO239; clear HB; have HO235 := n0_; have HO239 := n1_; have HB := n2_; clear n0_ n1_ n2_; (try clear hb); (try clear hb2); (try clear hk); (try clear hi)))
  go_ret
  exact ⟨by first|rfl|(simp [errW_none, errW_some] <;> rfl)|(simp [*, errW_none, errW_some] <;> rfl), by repeat (first|(with_reducible first|exact HB.out|apply below_alloc|apply pw_below_drewN|apply below_drew1)|exact HB.out)⟩
 ·replace c3 := Bool.eq_false_iff.mpr c3
  subst c3
  have H1 : (some false) = some r := by rw [if_neg (show ¬ (false = true) by decide)] at H; exact H
  clear H
  have H := H1
  clear H1
  obtain rfl := Option.some.inj H
  go_enter Try.func19, Try.ntmps19
  go_wp2_with (first|((with_reducible refine gate_callee (f := 21) rfl ?_); refine goesL_ (some 1) rfl rfl Try.func21 (by kernel_rfl) rfl #[.string (⟨#[118, 49]⟩ : ByteArray)] rfl (by (try simp only [List.map_toArray, List.map_cons, List.map_nil]); first|done|rfl|(simp only [List.length_drop, List.length_take]; rfl)) ?_; (with_reducible refine (stowagelaw20_v.calls (⟨#[118, 49]⟩ : ByteArray) t228 t229 t230 t231 t232 _ A1.out).mono ?_); rintro e w14 ⟨rfl, hb⟩; refine ⟨_, rfl, ?_⟩; have n0_ := Aside0.mk (below_step (by repeat (first|(with_reducible first|exact HB.out|apply below_alloc|apply pw_below_drewN|apply below_drew1)|exact HB.out)) hb); clear HB; have HB := n0_; clear n0_; (try clear hb); (try clear hb2); (try clear hk); (try clear hi))|((with_reducible refine gate_dst (N := 3) rfl ?_); (try (refine gate_guard (by rfl) ?_; dsimp only)); refine Kd.R_lit k39 _ 39 ?hg (N := 3) ?hd (xs := ([(⟨(⟨#[97]⟩ : ByteArray), false, (⟨t228, t229, t230, t231, t232⟩ : S37), false⟩ : S39)] : List (S39))) (inner := [.string (⟨#[97]⟩ : ByteArray), .bool false, .string t228, .int .i64 t229, .bool t230, .int .i64 t231, .string t232, .bool false]) (ok := fun _ => True) (okp := fun _ => True) ?hr ?hp (fun _ hk => hk) trivial (Below.refl _ _) (Nat.le_refl _) (by simp) ?_; (case hd => rfl); (case hg => rfl); (case hr => first|(go_simp; done)|(go_simp; rfl)); (case hp => exact (Reps.c8 (show Kd.M k39 _ _ _ (⟨(⟨#[97]⟩ : ByteArray), false, (⟨t228, t229, t230, t231, t232⟩ : S37), false⟩ : S39) [.string (⟨#[97]⟩ : ByteArray), .bool false, .string t228, .int .i64 t229, .bool t230, .int .i64 t231, .string t232, .bool false] from (k39_mkM _ _ _ (⟨(⟨#[97]⟩ : ByteArray), false, (⟨t228, t229, t230, t231, t232⟩ : S37), false⟩ : S39) )) (Reps.none _ _))); intro v234 w15 ho16 hb hg_ hnew_; clear hg_ hnew_; (first|rw [← Ny233.out] at ho16|(simp only [Int.reduceToNat] at ho16; rw [← Ny233.out] at ho16)); have n0_ := Aside0.mk (Kd.R_lower ho16 (below_size (by repeat (first|(with_reducible first|exact HB.out|apply below_alloc|apply pw_below_drewN|apply below_drew1)|exact HB.out)))); have n1_ := Aside0.mk (below_step (by repeat (first|(with_reducible first|exact HB.out|apply below_alloc|apply pw_below_drewN|apply below_drew1)|exact HB.out)) hb); clear HB; have HO235 := n0_; have HB := n1_; clear n0_ n1_; clear hb ho16; obtain ⟨Ao17, co17, eo17⟩ := Kd.R_slice HO235.out; subst eo17)|((with_reducible refine gate_callee (f := 20) rfl ?_); refine goesL_ (some 5) rfl rfl Try.func20 (by kernel_rfl) rfl #[.string (⟨#[]⟩ : ByteArray), .string (⟨#[47]⟩ : ByteArray), .string (⟨#[]⟩ : ByteArray), .int .i64 1, .agg #[.slice Ao17 y233.length co17, .bool true, .string (⟨#[97]⟩ : ByteArray), .string (⟨#[]⟩ : ByteArray)]] rfl (by (try simp only [List.map_toArray, List.map_cons, List.map_nil]); first|done|rfl|(simp only [List.length_drop, List.length_take]; rfl)) ?_; (with_reducible refine (stowagelaw20_keys.calls k (⟨#[]⟩ : ByteArray) (⟨#[47]⟩ : ByteArray) (⟨#[]⟩ : ByteArray) 1 _ _ y233 true (⟨#[97]⟩ : ByteArray) (⟨#[]⟩ : ByteArray) false _ ?side1 ?side2 ?side3 A2.out).mono ?_); (case side1 => first|exact HG.out|exact GM.below (by repeat (first|(with_reducible first|exact HB.out|apply below_alloc|apply pw_below_drewN|apply below_drew1)|exact HB.out)) HG.out|(repeat (first|exact HG.out|apply GM.drewN|apply GM.drew))); (case side2 => repeat (first|exact (Kd.R_reads' HO235.out).2.2|(with_reducible refine Kd.C_alloc ?_ _)|(with_reducible refine Kd.C_drewN ?_ _)|(with_reducible refine Kd.C_drew ?_))); (case side3 => exact (Kd.R_reads' HO235.out).2.1); rintro e w18 ⟨rfl, hb⟩; refine ⟨_, rfl, ?_⟩; have n0_ := Aside0.mk (Kd.R_below (by (with_reducible repeat (first|apply Kd.R_alloc|apply Kd.R_drewN|apply Kd.R_drew)); exact HO235.out) hb); have n1_ := Aside0.mk (below_step (by repeat (first|(with_reducible first|exact HB.out|apply below_alloc|apply pw_below_drewN|apply below_drew1)|exact HB.out)) hb); clear HO235; clear HB; have HO235 := n0_; have HB := n1_; clear n0_ n1_; (try clear hb); (try clear hb2); (try clear hk); (try clear hi)))
  go_ret
  exact ⟨by first|rfl|(simp [errW_none, errW_some] <;> rfl)|(simp [*, errW_none, errW_some] <;> rfl), by repeat (first|(with_reducible first|exact HB.out|apply below_alloc|apply pw_below_drewN|apply below_drew1)|exact HB.out)⟩

end Go.Proofs.Ytahkcfhiecfgeaa.Pr
end
