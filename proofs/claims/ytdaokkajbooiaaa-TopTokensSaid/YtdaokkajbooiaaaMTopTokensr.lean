/- Texts of this proof, put together: Hk20, Bh20. -/
import Derived.Test.YtdaokkajbooiaaaMTopTokensp
import Derived.Test.YtdaokkajbooiaaaMTopTokensl
import Derived.Test.YtdaokkajbooiaaaProg
section
/- listing.Keys and Versions, by their contracts, in the print's form. -/
namespace Go.Proofs.Ytdaokkajbooiaaa.Pr
open Go.RowKit Go.Proofs.YtdaokkajbooiaaaW.PrintWords Go.Proofs.YtdaokkajbooiaaaW.PrintLast Go.Proofs.YtdaokkajbooiaaaW.PrintMore
set_option linter.unusedVariables false
set_option linter.unusedSimpArgs false
abbrev SV := S37
abbrev SE := S47
abbrev SI := S39
def verL (v : SV) : Ver := ⟨v.f0.data.toList, v.f1, v.f2, v.f3, v.f4.data.toList⟩
def entL (e : SE) : Ent := ⟨e.f0.data.toList, e.f1.map verL⟩
def verS (v : Ver) : SV := ⟨BA v.id, v.time, v.mark, v.size, BA v.etag⟩
def itmS (x : Itm) : SI := ⟨BA x.name, x.common, verS x.v, x.latest⟩
theorem ba_data (b : ByteArray) : BA b.data.toList = b := by cases b; rfl
/-- From the print's reads to rows of cells. -/
theorem srcR_of_C {α : Type} {d : Kd α} {w : World} {A : Option Addr} {c : Nat} {xs : List α} (hsz : 0 < d.sz) (h : d.C w A xs.length xs) (hc : xs.length ≤ c) :
    ∃ rows : List (List Value), rows.length = xs.length ∧ SrcR w (.slice A xs.length c) d.sz rows ∧ ∀ (i : Nat) x row, xs[i]? = some x → rows[i]? = some row → d.K w x row := by
  obtain ⟨_, _, hr0⟩ := h
  by_cases h0 : xs = []
  · subst h0
    exact ⟨[], rfl, .inl ⟨A, c, rfl, rfl⟩, fun i x row h => by simp at h⟩
  · have hl : 0 < xs.length := List.length_pos_iff.2 h0
    obtain ⟨ad, rfl, hr⟩ := hr0 hl
    clear hr0
    have hex : ∀ i : Fin xs.length, ∃ c, c.length = d.sz ∧ d.K w xs[i] c ∧ ∀ j u, c[j]? = some u → w.cell? (ad.add (i * d.sz + j)) = some u := fun i => hr i xs[i] (List.getElem?_eq_getElem i.2)
    have hsp : ad.spot = none := by
      obtain ⟨c0, h1, _, h3⟩ := hr 0 xs[0] (List.getElem?_eq_getElem hl)
      have := h3 0 (c0[0]'(by omega)) (List.getElem?_eq_getElem (by omega))
      rw [Nat.zero_mul] at this
      simp only [Nat.add_zero, Addr.add, if_pos] at this
      unfold World.cell? at this
      cases hs : ad.spot with
      | none => rfl
      | some s =>
        rw [hs] at this
        revert this
        split <;> simp
    obtain ⟨b, off, sp⟩ := ad
    simp only at hsp
    subst hsp
    have hlen : (List.ofFn fun i => Classical.choose (hex i)).length = xs.length := by simp
    refine ⟨List.ofFn fun i => Classical.choose (hex i), hlen, .inr ⟨b, off, c, by rw [hlen], by rw [hlen]; exact hc, fun i row hi j x hj => ?_⟩, fun i x row hx hi => ?_⟩
    · rw [List.getElem?_ofFn] at hi
      split at hi
      · rename_i hil
        cases hi
        have := (Classical.choose_spec (hex ⟨i, hil⟩)).2.2 j x hj
        rw [show off + i * d.sz + j = off + (i * d.sz + j) by omega]
        unfold Addr.add at this
        split at this
        · rename_i h0
          simp only at h0
          rw [h0]
          exact this
        · exact this
      · cases hi
    · rw [List.getElem?_ofFn] at hi
      split at hi
      · rename_i hil
        cases hi
        have := (Classical.choose_spec (hex ⟨i, hil⟩)).2.1
        rw [List.getElem?_eq_getElem hil] at hx
        cases hx
        exact this
      · cases hi
theorem zip_rows {α β γ : Type} (f : α → β → γ) (g : γ → Prop) : ∀ (l : List α) (m : List β) (n : List γ), l.length = n.length → m.length = n.length → (∀ (i : Nat) a b c, l[i]? = some a → m[i]? = some b → n[i]? = some c → c = f a b) → n = List.zipWith f l m
  | [], _, [], _, _, _ => by simp
  | a :: l, b :: m, c :: n, h1, h2, h => by
    rw [List.zipWith_cons_cons, ← h 0 a b c rfl rfl rfl, ← zip_rows f g l m n (by simpa using h1) (by simpa using h2) (fun i a b c ha hb hc => h (i + 1) a b c (by simpa using ha) (by simpa using hb) (by simpa using hc))]
  | [], _, c :: n, h1, _, _ => by simp at h1
  | a :: l, _, [], h1, _, _ => by simp at h1
  | a :: l, [], c :: n, _, h2, _ => by simp at h2
theorem versAt_of_C {w : World} {A : Option Addr} {c : Nat} {xs : List SV} (h : k37.C w A xs.length xs) (hc : xs.length ≤ c) : SrcR w (.slice A xs.length c) 5 ((xs.map verL).map verC) := by
  obtain ⟨rows, hl, hs, hK⟩ := srcR_of_C (d := k37) (by decide) h hc
  have : rows = (xs.map verL).map verC := by
    apply List.ext_getElem?
    intro i
    cases hx : xs[i]? with
    | none =>
      have := List.getElem?_eq_none_iff.1 hx
      rw [List.getElem?_eq_none_iff.2 (by omega), List.getElem?_eq_none_iff.2 (by simpa using this)]
    | some x =>
      have hi : i < rows.length := by rw [hl]; exact (List.getElem?_eq_some_iff.1 hx).1
      have := k37_open (hK i x _ hx (List.getElem?_eq_getElem hi))
      rw [List.getElem?_eq_getElem hi, this]
      simp [hx, verL, verC, ba_data]
  rw [← this]
  exact hs
theorem entsAt_of_C {w : World} {A : Option Addr} {c : Nat} {xs : List SE} (h : k47.C w A xs.length xs) (hc : xs.length ≤ c) : EntsAt w (.slice A xs.length c) (xs.map entL) := by
  obtain ⟨rows, hl, hs, hK⟩ := srcR_of_C (d := k47) (by decide) h hc
  have hv : (rows.map fun r => (r[1]?).getD .nilIface).length = (xs.map entL).length := by simp [hl]
  refine ⟨rows.map fun r => (r[1]?).getD .nilIface, hv, ?_, fun i e x he hx => ?_⟩
  · have : rows = List.zipWith (fun e x => [Value.string (BA e.key), x]) (xs.map entL) (rows.map fun r => (r[1]?).getD .nilIface) := by
      refine zip_rows _ (fun _ => True) _ _ _ (by simp [hl]) (by simp) fun i a b c ha hb hc => ?_
      rw [List.getElem?_map] at ha hb
      cases hx : xs[i]? with
      | none => rw [hx] at ha; cases ha
      | some x =>
        rw [hx] at ha
        cases ha
        rw [hc] at hb
        cases hb
        obtain ⟨A1, c1, rfl, _, _⟩ := k47_open (hK i x _ hx hc)
        simp [entL, ba_data]
    rw [← this]
    exact hs
  · rw [List.getElem?_map] at he hx
    cases hxx : xs[i]? with
    | none => rw [hxx] at he; cases he
    | some y =>
      rw [hxx] at he
      cases he
      cases hr : rows[i]? with
      | none => rw [hr] at hx; cases hx
      | some row =>
        rw [hr] at hx
        cases hx
        obtain ⟨A1, c1, rfl, h1, h2⟩ := k47_open (hK i y _ hxx hr)
        exact versAt_of_C h2 h1
def pageOut (r : Pg × Int) : List SI × Bool × ByteArray × ByteArray × Int := (r.1.items.map itmS, r.1.more, BA r.1.next, BA r.1.version, r.2)
def small (l : List SE) : Bool := decide (l.length ≤ 1000000) && l.all fun e => decide (e.f0.size ≤ 1000000) && decide (e.f1.length ≤ 1000000)
theorem small_ents {l : List SE} (h : small l = true) : (l.map entL).length ≤ 1000000 ∧ ∀ e ∈ l.map entL, e.key.length ≤ 1000000 ∧ e.vs.length ≤ 1000000 := by
  unfold small at h
  simp only [Bool.and_eq_true, decide_eq_true_eq, List.all_eq_true] at h
  refine ⟨by simpa using h.1, fun e he => ?_⟩
  obtain ⟨x, hx, rfl⟩ := List.mem_map.1 he
  have := h.2 x hx
  exact ⟨by simpa [entL] using this.1, by simpa [entL] using this.2⟩
def listing_Keys.f (l : List SE) (p d after : ByteArray) (most : Int) : Option (List SI × Bool × ByteArray × ByteArray × Int) :=
  if small l = true ∧ p.size ≤ 1000000 ∧ d.size ≤ 1000000 ∧ after.size ≤ 1000000 then some (pageOut (pageV false (l.map entL) p.data.toList d.data.toList after.data.toList [] most)) else none
def listing_Versions.f (l : List SE) (p d after version : ByteArray) (most : Int) : Option (List SI × Bool × ByteArray × ByteArray × Int) :=
  if small l = true ∧ p.size ≤ 1000000 ∧ d.size ≤ 1000000 ∧ after.size ≤ 1000000 ∧ version.size ≤ 1000000 then some (pageOut (pageV true (l.map entL) p.data.toList d.data.toList after.data.toList version.data.toList most)) else none
theorem pageAt_R {n₀ : Nat} {w : World} {pv : Value} {g : Pg} (h : PageAt n₀ w pv g) : ∃ v0_, pv = .agg #[v0_, .bool g.more, .string (BA g.next), .string (BA g.version)] ∧ Kd.R k39 39 w n₀ (fun _ => True) v0_ (g.items.map itmS) := by
  obtain ⟨sl, rfl, ho⟩ := h
  exact ⟨sl, rfl, R_of_own (d := k39) itmS itmC (fun _ => rfl) _ (fun ok x => k39_mkM _ _ _ (itmS x)) ho⟩
theorem listing_Keys.calls (A0 : Option Addr) (c0 : Nat) (l0 : List SE) (a1 a2 a3 : ByteArray) (a4 : Int) (r1 : List SI) (r2 : Bool) (r3 r4 : ByteArray) (r5 : Int) (w : World) (hG : GM w) (hr0 : Kd.C k47 w A0 l0.length l0) (hc0 : l0.length ≤ c0) (h : listing_Keys.f l0 a1 a2 a3 a4 = some (r1, r2, r3, r4, r5)) :
    Calls Try.prog 12 #[.slice A0 l0.length c0, .string a1, .string a2, .string a3, .int .i64 a4] w fun e w' => ∃ v0_ : Value, e = .returned (.tuple #[.agg #[v0_, .bool r2, .string r3, .string r4], .int .i64 r5]) ∧ Kd.R k39 39 w' w.heap.size (fun _ => True) v0_ r1 ∧ Below w.heap.size w w' := by
  unfold listing_Keys.f at h
  split at h
  · rename_i hs
    simp only [Option.some.injEq, pageOut, Prod.mk.injEq] at h
    obtain ⟨rfl, rfl, rfl, rfl, rfl⟩ := h
    refine (keys_any a1 a2 a3 a4 _ _ w (entsAt_of_C hr0 hc0) (small_ents hs.1).1 (small_ents hs.1).2 hG hs.2.1 hs.2.2.1 hs.2.2.2).mono ?_
    rintro e w' ⟨pv, rfl, hp, hb⟩
    obtain ⟨v0_, rfl, hR⟩ := pageAt_R hp
    exact ⟨v0_, rfl, hR, hb⟩
  · cases h
end Go.Proofs.Ytdaokkajbooiaaa.Pr
end
section
/- Listing: the reference's 'behind'. -/
namespace Go.Proofs.Ytdaokkajbooiaaa
open Go.RowKit
set_option linter.unusedVariables false
set_option linter.unusedSimpArgs false
theorem behindR_cons (af ve : Bs) (met : Bool) (x : Itm) (r : List Itm) : behindR af ve met (x :: r) = (if decide (af < x.name) || (met && decide (x.name = af)) then [x] else []) ++ behindR af ve (met || marksP af ve x) r := by conv => lhs; unfold behindR
end Go.Proofs.Ytdaokkajbooiaaa
end
