/- Texts of this proof, put together: Pl20, Pm20, Pn20, Pc20, Pk20. -/
import Derived.Test.YtdaokkajbooiaaaMTopTokenss
import Derived.Test.YtdaokkajbooiaaaMTopTokensz
import Derived.Test.YtdaokkajbooiaaaMTopTokensp
import Derived.Test.YtdaokkajbooiaaaMTopTokensa
section
/- Listing, the plain law: what the printed forms of the small functions answer. -/
namespace Go.Proofs.Ytdaokkajbooiaaa
open Go.RowKit Go.Proofs.YtdaokkajbooiaaaW.PrintWords Go.Proofs.YtdaokkajbooiaaaW.PrintLast Go.Proofs.YtdaokkajbooiaaaW.PrintMore
open Pr (SV SE SI verL entL verS itmS itmL)
set_option linter.unusedVariables false
set_option linter.unusedSimpArgs false
theorem wrap_up (j n : Nat) (h : j < n) (hn : n ≤ 1000000) : wrap64 ((j : Int) + 1) = ((j + 1 : Nat) : Int) := by unfold wrap64; omega
theorem wrap_dn (j : Nat) (h : 0 < j) (hn : j ≤ 1000000) : wrap64 ((j : Int) - 1) = ((j - 1 : Nat) : Int) := by unfold wrap64; omega
theorem rdE (l : List SE) (j : Nat) (h : j < l.length) : Pr.rd_T47 l (j : Int) = l[j] := by
  unfold Pr.rd_T47
  rw [Int.toNat_natCast, List.getD_eq_getElem?_getD, List.getElem?_eq_getElem h]
  rfl
theorem rdV (l : List SV) (j : Nat) (h : j < l.length) : Pr.rd_T37 l (j : Int) = l[j] := by
  unfold Pr.rd_T37
  rw [Int.toNat_natCast, List.getD_eq_getElem?_getD, List.getElem?_eq_getElem h]
  rfl
def bigE (e : SE) : Bool := decide (600 < e.f0.size) || decide (20 < e.f1.length) || e.f1.any fun v => decide (600 < v.f0.size)
theorem large_l1 (l : List SE) (hl : l.length ≤ 60) (j : Nat) (hj : j < l.length) (F : Nat) (R : Bool) (hout : ∀ k, F ≤ k → Pr.stowagekit_LargeEntries.l0 k l ((j + 1 : Nat) : Int) = some R) (hv : l[j].f1.length ≤ 20) :
    ∀ (d k m : Nat), m + d = l[j].f1.length → F + d + 1 ≤ k → Pr.stowagekit_LargeEntries.l1 k l (j : Int) (m : Int) = some (((l[j].f1.drop m).any fun v => decide (600 < v.f0.size)) || R) := by
  intro d
  induction d with
  | zero =>
    intro k m hm hk
    obtain ⟨k, rfl⟩ : ∃ n, k = n + 1 := ⟨k - 1, by omega⟩
    unfold Pr.stowagekit_LargeEntries.l1
    rw [if_pos (by omega), if_pos (by omega), rdE l j hj, if_neg (by omega), wrap_up j l.length hj (by omega), hout k (by omega), List.drop_of_length_le (by omega)]
    simp
  | succ d ih =>
    intro k m hm hk
    obtain ⟨k, rfl⟩ : ∃ n, k = n + 1 := ⟨k - 1, by omega⟩
    unfold Pr.stowagekit_LargeEntries.l1
    rw [if_pos (by omega), if_pos (by omega), rdE l j hj, if_pos (by omega), if_pos (by omega), rdV _ m (by omega), List.drop_eq_getElem_cons (by omega : m < l[j].f1.length), List.any_cons]
    by_cases h : 600 < (l[j].f1[m]).f0.size
    · rw [if_pos (by omega), decide_eq_true h]; simp
    · rw [if_neg (by omega), wrap_up m l[j].f1.length (by omega) (by omega), ih k (m + 1) (by omega) (by omega), decide_eq_false h]; simp
theorem large_l0 (l : List SE) (hl : l.length ≤ 60) : ∀ (d k j : Nat), j + d = l.length → 30 * d + 1 ≤ k → Pr.stowagekit_LargeEntries.l0 k l (j : Int) = some ((l.drop j).any bigE) := by
  intro d
  induction d with
  | zero =>
    intro k j hj hk
    obtain ⟨k, rfl⟩ : ∃ n, k = n + 1 := ⟨k - 1, by omega⟩
    unfold Pr.stowagekit_LargeEntries.l0
    rw [if_neg (by omega), List.drop_of_length_le (by omega)]
    rfl
  | succ d ih =>
    intro k j hj hk
    obtain ⟨k, rfl⟩ : ∃ n, k = n + 1 := ⟨k - 1, by omega⟩
    obtain ⟨k, rfl⟩ : ∃ n, k = n + 1 := ⟨k - 1, by omega⟩
    have hjl : j < l.length := by omega
    unfold Pr.stowagekit_LargeEntries.l0
    rw [if_pos (by omega), if_pos (by omega), rdE l j hjl, List.drop_eq_getElem_cons hjl, List.any_cons]
    by_cases h1 : 600 < (l[j]).f0.size
    · rw [if_pos (by omega)]
      unfold Pr.stowagekit_LargeEntries.j1
      rw [if_pos rfl]
      simp [bigE, h1]
    · rw [if_neg (by omega)]
      unfold Pr.stowagekit_LargeEntries.j1
      by_cases h2 : 20 < (l[j]).f1.length
      · rw [if_pos (by simp; omega)]
        simp [bigE, h2]
      · rw [if_neg (by simp; omega), show (0 : Int) = ((0 : Nat) : Int) by rfl, large_l1 l hl j hjl (30 * d + 1) _ (fun k hk => ih k (j + 1) (by omega) hk) (by omega) (l[j]).f1.length k 0 (by omega) (by omega)]
        simp [bigE, h1, h2]
theorem large_f (l : List SE) (k : Nat) (hk : 2000 ≤ k) : ∃ b, Pr.stowagekit_LargeEntries.f k l = some b ∧ (b = false → l.length ≤ 60 ∧ ∀ e ∈ l, e.f0.size ≤ 600 ∧ e.f1.length ≤ 20 ∧ ∀ v ∈ e.f1, v.f0.size ≤ 600) := by
  unfold Pr.stowagekit_LargeEntries.f
  by_cases h : 60 < l.length
  · rw [if_pos (by omega)]
    exact ⟨true, rfl, fun h => by cases h⟩
  · rw [if_neg (by omega)]
    refine ⟨_, large_l0 l (by omega) l.length k 0 (by omega) (by omega), fun hb => ⟨by omega, fun e he => ?_⟩⟩
    rw [List.drop_zero, List.any_eq_false] at hb
    have := hb e he
    unfold bigE at this
    simp only [Bool.or_eq_true, decide_eq_true_eq, List.any_eq_true, not_or, not_exists, not_and] at this
    exact ⟨by omega, by omega, fun v hv => by have := this.2 v hv; omega⟩
theorem page_l0 (l : List SI) (b : Bool) (x y : ByteArray) (hl : l.length ≤ 1000000) : ∀ (d k j : Nat), j + d = l.length → d + 1 ≤ k → Pr.stowagekit_SamePage.l0 k (j : Int) l b x y l b x y = some true := by
  intro d
  induction d with
  | zero =>
    intro k j hj hk
    obtain ⟨k, rfl⟩ : ∃ n, k = n + 1 := ⟨k - 1, by omega⟩
    unfold Pr.stowagekit_SamePage.l0
    rw [if_neg (by omega)]
  | succ d ih =>
    intro k j hj hk
    obtain ⟨k, rfl⟩ : ∃ n, k = n + 1 := ⟨k - 1, by omega⟩
    unfold Pr.stowagekit_SamePage.l0
    rw [if_pos (by omega), if_pos (by omega), if_pos (by omega), if_neg (by simp), wrap_up j l.length (by omega) hl]
    exact ih k (j + 1) (by omega) (by omega)
theorem page_f (l : List SI) (b : Bool) (x y : ByteArray) (k : Nat) (hl : l.length ≤ 1000000) (hk : l.length + 2 ≤ k) : Pr.stowagekit_SamePage.f k l b x y l b x y = some true := by
  obtain ⟨k, rfl⟩ : ∃ n, k = n + 1 := ⟨k - 1, by omega⟩
  unfold Pr.stowagekit_SamePage.f
  rw [if_pos rfl, if_neg (by simp), if_pos rfl]
  unfold Pr.stowagekit_SamePage.j0
  try dsimp only
  rw [if_neg (by simp)]
  exact page_l0 l b x y hl l.length k 0 (by omega) (by omega)
theorem vers_l0 (l : List SV) (hl : l.length ≤ 1000000) : ∀ (d k j : Nat), j + d = l.length → d + 1 ≤ k → Pr.stowagekit_SameVersions.l0 k l l (j : Int) = some true := by
  intro d
  induction d with
  | zero =>
    intro k j hj hk
    obtain ⟨k, rfl⟩ : ∃ n, k = n + 1 := ⟨k - 1, by omega⟩
    unfold Pr.stowagekit_SameVersions.l0
    rw [if_neg (by omega)]
  | succ d ih =>
    intro k j hj hk
    obtain ⟨k, rfl⟩ : ∃ n, k = n + 1 := ⟨k - 1, by omega⟩
    unfold Pr.stowagekit_SameVersions.l0
    rw [if_pos (by omega), if_pos (by omega), if_pos (by omega), if_neg (by simp), wrap_up j l.length (by omega) hl]
    exact ih k (j + 1) (by omega) (by omega)
theorem ents_l0 (l : List SE) (hl : l.length ≤ 60) (hv : ∀ e ∈ l, e.f1.length ≤ 20) : ∀ (d k j : Nat), j + d = l.length → d + 30 ≤ k → Pr.stowagekit_SameEntries.l0 k l l (j : Int) = some true := by
  intro d
  induction d with
  | zero =>
    intro k j hj hk
    obtain ⟨k, rfl⟩ : ∃ n, k = n + 1 := ⟨k - 1, by omega⟩
    unfold Pr.stowagekit_SameEntries.l0
    rw [if_neg (by omega)]
  | succ d ih =>
    intro k j hj hk
    obtain ⟨k, rfl⟩ : ∃ n, k = n + 1 := ⟨k - 1, by omega⟩
    have hvj := hv l[j] (List.getElem_mem (by omega))
    unfold Pr.stowagekit_SameEntries.l0
    rw [if_pos (by omega), if_pos (by omega), if_pos (by omega), if_pos rfl, rdE l j (by omega)]
    unfold Pr.stowagekit_SameVersions.f
    rw [if_pos rfl, show (0 : Int) = ((0 : Nat) : Int) by rfl, vers_l0 _ (by omega) _ k 0 (Nat.zero_add _) (by omega), Option.bind_some, if_pos rfl, wrap_up j l.length (by omega) (by omega)]
    exact ih k (j + 1) (by omega) (by omega)
theorem okFrom_step (q : Option Bs) (e : SE) (r : List SE) : okFrom q ((e :: r).map entL) = (!(decide (e.f1.length = 0)) && (match q with | none => true | some q => decide (q < e.f0.data.toList)) && okFrom (some e.f0.data.toList) (r.map entL)) := by
  rw [List.map_cons]
  conv => lhs; unfold okFrom
  have h : (!(entL e).vs.isEmpty) = !(decide (e.f1.length = 0)) := by cases h : e.f1 <;> simp [entL, h]
  rw [h]
  rfl
def prevE (l : List SE) (j : Nat) : Option Bs := if j = 0 then none else (l[j - 1]?).map fun e => e.f0.data.toList
theorem okFrom_at (l : List SE) (j : Nat) (h : j < l.length) : okFrom (prevE l j) ((l.drop j).map entL) = (!(decide (l[j].f1.length = 0)) && (if h0 : j = 0 then true else decide ((l[j - 1]'(by omega)).f0.data.toList < l[j].f0.data.toList)) && okFrom (prevE l (j + 1)) ((l.drop (j + 1)).map entL)) := by
  rw [List.drop_eq_getElem_cons h, okFrom_step]
  congr 1
  · congr 1
    unfold prevE
    by_cases h0 : j = 0
    · simp [h0]
    · rw [if_neg h0, dif_neg h0, List.getElem?_eq_getElem (by omega)]
      rfl
  · unfold prevE
    rw [if_neg (by omega), Nat.add_sub_cancel, List.getElem?_eq_getElem h]
    rfl
theorem bl_not (a b : ByteArray) : (!(Op.bytesLess a.toList b.toList)) = !decide (a.data.toList < b.data.toList) := by rw [bytesLess_eq, bs_toList, bs_toList]
theorem check_l0 (l : List SE) (hl : l.length ≤ 1000000) : ∀ (d k j : Nat), j + d = l.length → 2 * d + 1 ≤ k → Pr.listing_Check.l0 k l l (l.length : Int) (j : Int) = some (if okFrom (prevE l j) ((l.drop j).map entL) = true then 0 else 2) := by
  intro d
  induction d with
  | zero =>
    intro k j hj hk
    obtain ⟨k, rfl⟩ : ∃ n, k = n + 1 := ⟨k - 1, by omega⟩
    unfold Pr.listing_Check.l0
    rw [if_neg (by omega), List.drop_of_length_le (by omega)]
    rfl
  | succ d ih =>
    intro k j hj hk
    obtain ⟨k, rfl⟩ : ∃ n, k = n + 1 := ⟨k - 1, by omega⟩
    obtain ⟨k, rfl⟩ : ∃ n, k = n + 1 := ⟨k - 1, by omega⟩
    have hjl : j < l.length := by omega
    have ihk := ih k (j + 1) (by omega) (by omega)
    rw [okFrom_at l j hjl]
    unfold Pr.listing_Check.l0
    rw [if_pos (by omega), if_pos (by omega), if_pos (by omega), rdE l j hjl]
    by_cases h1 : l[j].f1.length = 0
    · rw [if_pos (by omega)]
      unfold Pr.listing_Check.j1
      try dsimp only
      rw [if_pos rfl]
      simp [h1]
    · rw [if_neg (by omega)]
      by_cases h0 : j = 0
      · subst h0
        rw [if_neg (by omega)]
        unfold Pr.listing_Check.j1
        try dsimp only
        rw [if_neg (by simp), wrap_up 0 l.length hjl hl, ihk]
        simp [h1]
      · rw [if_pos (by omega), wrap_dn j (by omega) (by omega), if_pos (by omega), if_pos (by omega), rdE l (j - 1) (by omega), bl_not]
        unfold Pr.listing_Check.j1
        try dsimp only
        by_cases h2 : (l[j - 1]'(by omega)).f0.data.toList < l[j].f0.data.toList
        · rw [if_neg (by simp [h2]), wrap_up j l.length hjl hl, ihk]
          simp [h1, h0, h2]
        · rw [if_pos (by simp [h2])]
          simp [h0, h2]
theorem check_f (l : List SE) (k : Nat) (hl : l.length ≤ 1000000) (hk : 2 * l.length + 1 ≤ k) : Pr.listing_Check.f k l = some (if okFrom none (l.map entL) = true then 0 else 2) := check_l0 l hl l.length k 0 (by omega) hk
end Go.Proofs.Ytdaokkajbooiaaa
end
section
/- Listing, the plain law: the reference's list. -/
namespace Go.Proofs.Ytdaokkajbooiaaa
open Go.RowKit Go.Proofs.YtdaokkajbooiaaaW.PrintWords Go.Proofs.YtdaokkajbooiaaaW.PrintLast Go.Proofs.YtdaokkajbooiaaaW.PrintMore
open Pr (SV SE SI verL entL verS itmS itmL)
set_option linter.unusedVariables false
set_option linter.unusedSimpArgs false
end Go.Proofs.Ytdaokkajbooiaaa
end
section
/- Listing, the plain law: both sides' pages are one. -/
namespace Go.Proofs.Ytdaokkajbooiaaa
open Go.RowKit Go.Proofs.YtdaokkajbooiaaaW.PrintWords Go.Proofs.YtdaokkajbooiaaaW.PrintLast Go.Proofs.YtdaokkajbooiaaaW.PrintMore
open Pr (SV SE SI verL entL verS itmS itmL pageOut cutOut)
set_option linter.unusedVariables false
set_option linter.unusedSimpArgs false
theorem cut_page (vers : Bool) (m : Nat) (q : List Itm) (hm : 1 ≤ m) : cutOut vers m q = pageOut (mkPg vers m (cutP m q), 0) := by
  unfold cutOut pageOut cutP mkPg cutNext cutVer cutM
  by_cases h : q.length ≤ m
  · rw [if_pos h]
    simp [show ¬ m < q.length by omega, List.take_of_length_le h]
  · rw [if_neg h]
    have hd : (q.take m).getD (m - 1) itm0 = q.getD (m - 1) itm0 := by
      rw [List.getD_eq_getElem?_getD, List.getD_eq_getElem?_getD, List.getElem?_take_of_lt (by omega)]
    simp only [if_true]
    rw [hd]
    simp [show m < q.length by omega]
theorem small_of {l : List SE} (hl : l.length ≤ 60) (hv : ∀ e ∈ l, e.f0.size ≤ 600 ∧ e.f1.length ≤ 20) : Pr.small l = true := by
  unfold Pr.small
  simp only [Bool.and_eq_true, decide_eq_true_eq, List.all_eq_true]
  exact ⟨by omega, fun e he => ⟨by have := (hv e he).1; omega, by have := (hv e he).2; omega⟩⟩
end Go.Proofs.Ytdaokkajbooiaaa
end
section
/- ListingPages: plain: pages, one behind the other. -/
namespace Go.Proofs.Ytdaokkajbooiaaa
open Go.RowKit Go.Proofs.YtdaokkajbooiaaaW.PrintWords Go.Proofs.YtdaokkajbooiaaaW.PrintLast Go.Proofs.YtdaokkajbooiaaaW.PrintMore
open Pr (SV SE SI verL entL verS itmS itmL pageOut cutOut)
set_option linter.unusedVariables false
set_option linter.unusedSimpArgs false
theorem plain_filter (L : List Itm) : behindR [] [] false L = L.filter fun x => decide ([] < x.name) := by
  induction L with
  | nil => rfl
  | cons x r ih =>
    rw [behindR_cons]
    have : marksP [] [] x = false := by simp [marksP]
    rw [this, Bool.or_false, ih]
    by_cases h : [] < x.name
    · simp [h]
    · simp [h]
theorem behind_filter (a v : Bs) (ha : a ≠ []) : ∀ (L : List Itm) (met : Bool), behindR a v met L = behindR a v met (L.filter fun x => decide ([] < x.name))
  | [], _ => rfl
  | x :: r, met => by
    by_cases h : ([] : Bs) < x.name
    · rw [List.filter_cons_of_pos (by simpa using h), behindR, behindR, behind_filter a v ha r]
    · have hn : x.name = [] := by
        cases hx : x.name with
        | nil => rfl
        | cons c t => rw [hx] at h; exact absurd (List.nil_lt_cons c t) h
      have h1 : ¬ a < x.name := by rw [hn]; exact not_lt_nil a
      have h2 : ¬ x.name = a := by rw [hn]; exact fun e => ha e.symm
      rw [List.filter_cons_of_neg (by simpa using h), behindR]
      have hm : marksP a v x = false := by unfold marksP; rw [decide_eq_false h2]; rfl
      rw [hm, decide_eq_false h1, decide_eq_false h2]
      simp only [Bool.or_false, Bool.and_false, Bool.false_eq_true, if_false, List.nil_append]
      exact behind_filter a v ha r met
/-- What a page from the i-th item on is. -/
structure PageP (b : Bool) (m : Nat) (q : List Itm) (R : List SI × Bool × ByteArray × ByteArray × Int) : Prop where
  err : R.2.2.2.2 = 0
  items : R.1 = (q.take m).map itmS
  more : R.2.1 = decide (m < q.length)
  next : m < q.length → R.2.2.1 = BA (q.getD (m - 1) itm0).name ∧ R.2.2.2.1 = BA (verOfI b (q.getD (m - 1) itm0))
theorem pageP_cut (b : Bool) (m : Nat) (q : List Itm) : PageP b m q (cutOut b m q) := by
  refine ⟨rfl, rfl, rfl, fun h => ?_⟩
  simp only [cutOut, cutNext, cutVer, cutM, decide_eq_true h, if_true, Bool.true_and]
  first | trivial | exact ⟨rfl, rfl⟩
end Go.Proofs.Ytdaokkajbooiaaa
end
section
/- Listing, plain: pages of keys, one behind the other. -/
namespace Go.Proofs.Ytdaokkajbooiaaa
open Go.RowKit Go.Proofs.YtdaokkajbooiaaaW.PrintWords Go.Proofs.YtdaokkajbooiaaaW.PrintLast Go.Proofs.YtdaokkajbooiaaaW.PrintMore
open Pr (SV SE SI verL entL verS itmS itmL pageOut cutOut)
set_option linter.unusedVariables false
set_option linter.unusedSimpArgs false
structure FineK (l : List SE) : Prop where
  len : l.length ≤ 60
  sz : ∀ e ∈ l, e.f0.size ≤ 600 ∧ e.f1.length ≤ 20
  ok : okFrom none (l.map entL) = true
def lstK (p d : Bs) (l : List SE) : List Itm := listP p d false none (l.map entL)
def wl (p d : Bs) (l : List SE) : List Itm := wholeL p d (l.map entL)
theorem wl_filter (p d : Bs) (l : List SE) : wl p d l = (lstK p d l).filter fun x => decide ([] < x.name) := rfl
theorem wl_behind (p d : Bs) (l : List SE) : behindR [] [] false (lstK p d l) = wl p d l := plain_filter _
theorem wl_pair {p d : Bs} {l : List SE} (h : FineK l) : (wl p d l).Pairwise (RI false) := (listP_pair p d false _ none none h.ok (fun h => by cases h)).filter _
theorem wl_name {p d : Bs} {l : List SE} (n : Nat) (hn : ∀ e ∈ l, e.f0.size ≤ n) : ∀ x ∈ wl p d l, x.name.length ≤ n := by
  intro x hx
  have key : ∀ e ∈ l.map entL, e.key.length ≤ n := fun e he => by
    obtain ⟨y, hy, rfl⟩ := List.mem_map.1 he
    simpa [entL] using hn y hy
  rcases listP_from p d false _ none x (wholeL_mem.1 hx).1 with ⟨hc, _, e, he, hp, _, hcm⟩ | ⟨hc, e, he, hp, _, _, hi⟩
  · have h2 := (commonL_some hp hcm).2.1.length_le
    have := key e he
    omega
  · rw [(itemsOf_plain x hi).2]
    exact key e he
/-- The place behind the i-th item. -/
def pkA (p d : Bs) (l : List SE) (i : Nat) : Bs := if i = 0 then [] else ((wl p d l).getD (i - 1) itm0).name
theorem wl_getD {p d : Bs} {l : List SE} {i : Nat} (hi : i < (wl p d l).length) : (wl p d l).getD i itm0 = (wl p d l)[i] := by rw [List.getD_eq_getElem?_getD, List.getElem?_eq_getElem hi]; rfl
theorem behind_atK {p d : Bs} {l : List SE} (h : FineK l) (i : Nat) (hi : i ≤ (wl p d l).length) : behindR (pkA p d l i) [] false (lstK p d l) = (wl p d l).drop i := by
  unfold pkA
  by_cases h0 : i = 0
  · rw [if_pos h0, h0, wl_behind]
    rfl
  · rw [if_neg h0, wl_getD (by omega)]
    have hx := List.getElem_mem (l := wl p d l) (n := i - 1) (by omega)
    have hne := (wholeL_mem.1 hx).2
    have hne' : (wl p d l)[i - 1].name ≠ [] := hne
    rw [behind_filter _ _ hne', ← wl_filter]
    have hsplit : wl p d l = (wl p d l).take (i - 1) ++ (wl p d l)[i - 1] :: (wl p d l).drop i := by
      have h1 := List.drop_eq_getElem_cons (l := wl p d l) (i := i - 1) (by omega)
      rw [show i - 1 + 1 = i by omega] at h1
      rw [← h1, List.take_append_drop]
    have hp := wl_pair (p := p) (d := d) h
    clear hx hne hne'
    generalize (wl p d l)[i - 1] = x at *
    generalize (wl p d l).take (i - 1) = A at *
    generalize (wl p d l).drop i = B at *
    rw [hsplit] at hp ⊢
    have := behindR_at false A x B hp (fun _ hb => by cases hb)
    rw [show verOfI false x = [] from rfl] at this
    exact this
theorem pk_len {p d : Bs} {l : List SE} (n : Nat) (hn : ∀ e ∈ l, e.f0.size ≤ n) (i : Nat) (hi : i ≤ (wl p d l).length) : (pkA p d l i).length ≤ n := by
  unfold pkA
  by_cases h0 : i = 0
  · rw [if_pos h0]; simp
  · rw [if_neg h0, wl_getD (by omega)]
    exact wl_name n hn _ (List.getElem_mem (by omega))
theorem keys_pageK {l : List SE} (h : FineK l) (p d : ByteArray) (hp : p.size ≤ 400) (hd : d.size ≤ 400) (a : Bs) (ha : a.length ≤ 400) (m : Nat) (hm : 1 ≤ m ∧ m ≤ 1000) :
    Pr.listing_Keys.f l p d (BA a) (m : Int) = some (cutOut false m (behindR a [] false (lstK p.data.toList d.data.toList l))) := by
  have hsa : (BA a).size ≤ 400 := by rw [bs_len]; simpa using ha
  have hal : (BA a).data.toList = a := by simp
  unfold Pr.listing_Keys.f
  rw [if_pos ⟨small_of h.len h.sz, by omega, by omega, by omega⟩, show ([] : Bs) = (⟨#[]⟩ : ByteArray).data.toList from rfl, pageV_good ⟨hp, hd, hsa, by decide⟩ h.ok (by omega), Int.toNat_natCast, runP_cut _ _ _ _ (listP_alike _ _ _ _ _ _), ← cut_page _ _ _ (by omega), hal]
  rfl
theorem listP_lenK (p d : Bs) : ∀ (es : List Ent) (last : Option Bs), (listP p d false last es).length ≤ es.length
  | [], _ => by simp [listP]
  | e :: r, last => by
    unfold listP
    split
    · have := listP_lenK p d r last
      rw [List.length_cons]; omega
    · split
      · split
        · have := listP_lenK p d r last
          rw [List.length_cons]; omega
        · rename_i c _ _
          have := listP_lenK p d r (some c)
          rw [List.length_cons, List.length_cons]; omega
      · have := listP_lenK p d r last
        rw [List.length_append, List.length_cons]
        simp [itemsOf]
        omega
theorem wl_len (p d : Bs) (l : List SE) : (wl p d l).length ≤ l.length := by
  have h1 := listP_lenK p d (l.map entL) none
  have h2 : (wl p d l).length ≤ (lstK p d l).length := by
    rw [wl_filter]
    exact List.length_filter_le _ _
  rw [List.length_map] at h1
  exact Nat.le_trans h2 h1
end Go.Proofs.Ytdaokkajbooiaaa
end
