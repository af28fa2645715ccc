/- Texts of this proof, put together: Pl20, Pm20, Pn20, Pc20, Pd20, Pe20, Pf20. -/
import Derived.Test.YtdaokkajbooiaaaMListingPagesq
import Derived.Test.YtdaokkajbooiaaaMListingPagesr
import Derived.Test.YtdaokkajbooiaaaMListingPagese
import Derived.Test.YtdaokkajbooiaaaMListingPagesa
import Derived.Test.YtdaokkajbooiaaaMListingPagesp
section
/- Listing, the plain law: what the printed forms of the small functions answer. -/
namespace Go.Proofs.Ytdaokkajbooiaaa
open Go.RowKit Go.Proofs.YtdaokkajbooiaaaW.PrintWords Go.Proofs.YtdaokkajbooiaaaW.PrintLast Go.Proofs.YtdaokkajbooiaaaW.PrintMore
open Pr (SV SE SI verL entL verS itmS itmL)
set_option linter.unusedVariables false
set_option linter.unusedSimpArgs false
theorem wrap_up (j n : Nat) (h : j < n) (hn : n ≤ 1000000) : wrap64 ((j : Int) + 1) = ((j + 1 : Nat) : Int) := by unfold wrap64; omega
theorem wrap_dn (j : Nat) (h : 0 < j) (hn : j ≤ 1000000) : wrap64 ((j : Int) - 1) = ((j - 1 : Nat) : Int) := by unfold wrap64; omega
theorem rdE (l : List SE) (j : Nat) (h : j < l.length) : Pr.rd_T47 l (j : Int) = l[j] := by
  unfold Pr.rd_T47
  rw [Int.toNat_natCast, List.getD_eq_getElem?_getD, List.getElem?_eq_getElem h]
  rfl
theorem rdV (l : List SV) (j : Nat) (h : j < l.length) : Pr.rd_T37 l (j : Int) = l[j] := by
  unfold Pr.rd_T37
  rw [Int.toNat_natCast, List.getD_eq_getElem?_getD, List.getElem?_eq_getElem h]
  rfl
def bigE (e : SE) : Bool := decide (600 < e.f0.size) || decide (20 < e.f1.length) || e.f1.any fun v => decide (600 < v.f0.size)
theorem large_l1 (l : List SE) (hl : l.length ≤ 60) (j : Nat) (hj : j < l.length) (F : Nat) (R : Bool) (hout : ∀ k, F ≤ k → Pr.stowagekit_LargeEntries.l0 k l ((j + 1 : Nat) : Int) = some R) (hv : l[j].f1.length ≤ 20) :
    ∀ (d k m : Nat), m + d = l[j].f1.length → F + d + 1 ≤ k → Pr.stowagekit_LargeEntries.l1 k l (j : Int) (m : Int) = some (((l[j].f1.drop m).any fun v => decide (600 < v.f0.size)) || R) := by
  intro d
  induction d with
  | zero =>
    intro k m hm hk
    obtain ⟨k, rfl⟩ : ∃ n, k = n + 1 := ⟨k - 1, by omega⟩
    unfold Pr.stowagekit_LargeEntries.l1
    rw [if_pos (by omega), if_pos (by omega), rdE l j hj, if_neg (by omega), wrap_up j l.length hj (by omega), hout k (by omega), List.drop_of_length_le (by omega)]
    simp
  | succ d ih =>
    intro k m hm hk
    obtain ⟨k, rfl⟩ : ∃ n, k = n + 1 := ⟨k - 1, by omega⟩
    unfold Pr.stowagekit_LargeEntries.l1
    rw [if_pos (by omega), if_pos (by omega), rdE l j hj, if_pos (by omega), if_pos (by omega), rdV _ m (by omega), List.drop_eq_getElem_cons (by omega : m < l[j].f1.length), List.any_cons]
    by_cases h : 600 < (l[j].f1[m]).f0.size
    · rw [if_pos (by omega), decide_eq_true h]; simp
    · rw [if_neg (by omega), wrap_up m l[j].f1.length (by omega) (by omega), ih k (m + 1) (by omega) (by omega), decide_eq_false h]; simp
theorem large_l0 (l : List SE) (hl : l.length ≤ 60) : ∀ (d k j : Nat), j + d = l.length → 30 * d + 1 ≤ k → Pr.stowagekit_LargeEntries.l0 k l (j : Int) = some ((l.drop j).any bigE) := by
  intro d
  induction d with
  | zero =>
    intro k j hj hk
    obtain ⟨k, rfl⟩ : ∃ n, k = n + 1 := ⟨k - 1, by omega⟩
    unfold Pr.stowagekit_LargeEntries.l0
    rw [if_neg (by omega), List.drop_of_length_le (by omega)]
    rfl
  | succ d ih =>
    intro k j hj hk
    obtain ⟨k, rfl⟩ : ∃ n, k = n + 1 := ⟨k - 1, by omega⟩
    obtain ⟨k, rfl⟩ : ∃ n, k = n + 1 := ⟨k - 1, by omega⟩
    have hjl : j < l.length := by omega
    unfold Pr.stowagekit_LargeEntries.l0
    rw [if_pos (by omega), if_pos (by omega), rdE l j hjl, List.drop_eq_getElem_cons hjl, List.any_cons]
    by_cases h1 : 600 < (l[j]).f0.size
    · rw [if_pos (by omega)]
      unfold Pr.stowagekit_LargeEntries.j1
      rw [if_pos rfl]
      simp [bigE, h1]
    · rw [if_neg (by omega)]
      unfold Pr.stowagekit_LargeEntries.j1
      by_cases h2 : 20 < (l[j]).f1.length
      · rw [if_pos (by simp; omega)]
        simp [bigE, h2]
      · rw [if_neg (by simp; omega), show (0 : Int) = ((0 : Nat) : Int) by rfl, large_l1 l hl j hjl (30 * d + 1) _ (fun k hk => ih k (j + 1) (by omega) hk) (by omega) (l[j]).f1.length k 0 (by omega) (by omega)]
        simp [bigE, h1, h2]
theorem large_f (l : List SE) (k : Nat) (hk : 2000 ≤ k) : ∃ b, Pr.stowagekit_LargeEntries.f k l = some b ∧ (b = false → l.length ≤ 60 ∧ ∀ e ∈ l, e.f0.size ≤ 600 ∧ e.f1.length ≤ 20 ∧ ∀ v ∈ e.f1, v.f0.size ≤ 600) := by
  unfold Pr.stowagekit_LargeEntries.f
  by_cases h : 60 < l.length
  · rw [if_pos (by omega)]
    exact ⟨true, rfl, fun h => by cases h⟩
  · rw [if_neg (by omega)]
    refine ⟨_, large_l0 l (by omega) l.length k 0 (by omega) (by omega), fun hb => ⟨by omega, fun e he => ?_⟩⟩
    rw [List.drop_zero, List.any_eq_false] at hb
    have := hb e he
    unfold bigE at this
    simp only [Bool.or_eq_true, decide_eq_true_eq, List.any_eq_true, not_or, not_exists, not_and] at this
    exact ⟨by omega, by omega, fun v hv => by have := this.2 v hv; omega⟩
theorem page_l0 (l : List SI) (b : Bool) (x y : ByteArray) (hl : l.length ≤ 1000000) : ∀ (d k j : Nat), j + d = l.length → d + 1 ≤ k → Pr.stowagekit_SamePage.l0 k (j : Int) l b x y l b x y = some true := by
  intro d
  induction d with
  | zero =>
    intro k j hj hk
    obtain ⟨k, rfl⟩ : ∃ n, k = n + 1 := ⟨k - 1, by omega⟩
    unfold Pr.stowagekit_SamePage.l0
    rw [if_neg (by omega)]
  | succ d ih =>
    intro k j hj hk
    obtain ⟨k, rfl⟩ : ∃ n, k = n + 1 := ⟨k - 1, by omega⟩
    unfold Pr.stowagekit_SamePage.l0
    rw [if_pos (by omega), if_pos (by omega), if_pos (by omega), if_neg (by simp), wrap_up j l.length (by omega) hl]
    exact ih k (j + 1) (by omega) (by omega)
theorem page_f (l : List SI) (b : Bool) (x y : ByteArray) (k : Nat) (hl : l.length ≤ 1000000) (hk : l.length + 2 ≤ k) : Pr.stowagekit_SamePage.f k l b x y l b x y = some true := by
  obtain ⟨k, rfl⟩ : ∃ n, k = n + 1 := ⟨k - 1, by omega⟩
  unfold Pr.stowagekit_SamePage.f
  rw [if_pos rfl, if_neg (by simp), if_pos rfl]
  unfold Pr.stowagekit_SamePage.j0
  try dsimp only
  rw [if_neg (by simp)]
  exact page_l0 l b x y hl l.length k 0 (by omega) (by omega)
theorem vers_l0 (l : List SV) (hl : l.length ≤ 1000000) : ∀ (d k j : Nat), j + d = l.length → d + 1 ≤ k → Pr.stowagekit_SameVersions.l0 k l l (j : Int) = some true := by
  intro d
  induction d with
  | zero =>
    intro k j hj hk
    obtain ⟨k, rfl⟩ : ∃ n, k = n + 1 := ⟨k - 1, by omega⟩
    unfold Pr.stowagekit_SameVersions.l0
    rw [if_neg (by omega)]
  | succ d ih =>
    intro k j hj hk
    obtain ⟨k, rfl⟩ : ∃ n, k = n + 1 := ⟨k - 1, by omega⟩
    unfold Pr.stowagekit_SameVersions.l0
    rw [if_pos (by omega), if_pos (by omega), if_pos (by omega), if_neg (by simp), wrap_up j l.length (by omega) hl]
    exact ih k (j + 1) (by omega) (by omega)
theorem ents_l0 (l : List SE) (hl : l.length ≤ 60) (hv : ∀ e ∈ l, e.f1.length ≤ 20) : ∀ (d k j : Nat), j + d = l.length → d + 30 ≤ k → Pr.stowagekit_SameEntries.l0 k l l (j : Int) = some true := by
  intro d
  induction d with
  | zero =>
    intro k j hj hk
    obtain ⟨k, rfl⟩ : ∃ n, k = n + 1 := ⟨k - 1, by omega⟩
    unfold Pr.stowagekit_SameEntries.l0
    rw [if_neg (by omega)]
  | succ d ih =>
    intro k j hj hk
    obtain ⟨k, rfl⟩ : ∃ n, k = n + 1 := ⟨k - 1, by omega⟩
    have hvj := hv l[j] (List.getElem_mem (by omega))
    unfold Pr.stowagekit_SameEntries.l0
    rw [if_pos (by omega), if_pos (by omega), if_pos (by omega), if_pos rfl, rdE l j (by omega)]
    unfold Pr.stowagekit_SameVersions.f
    rw [if_pos rfl, show (0 : Int) = ((0 : Nat) : Int) by rfl, vers_l0 _ (by omega) _ k 0 (Nat.zero_add _) (by omega), Option.bind_some, if_pos rfl, wrap_up j l.length (by omega) (by omega)]
    exact ih k (j + 1) (by omega) (by omega)
theorem okFrom_step (q : Option Bs) (e : SE) (r : List SE) : okFrom q ((e :: r).map entL) = (!(decide (e.f1.length = 0)) && (match q with | none => true | some q => decide (q < e.f0.data.toList)) && okFrom (some e.f0.data.toList) (r.map entL)) := by
  rw [List.map_cons]
  conv => lhs; unfold okFrom
  have h : (!(entL e).vs.isEmpty) = !(decide (e.f1.length = 0)) := by cases h : e.f1 <;> simp [entL, h]
  rw [h]
  rfl
def prevE (l : List SE) (j : Nat) : Option Bs := if j = 0 then none else (l[j - 1]?).map fun e => e.f0.data.toList
theorem okFrom_at (l : List SE) (j : Nat) (h : j < l.length) : okFrom (prevE l j) ((l.drop j).map entL) = (!(decide (l[j].f1.length = 0)) && (if h0 : j = 0 then true else decide ((l[j - 1]'(by omega)).f0.data.toList < l[j].f0.data.toList)) && okFrom (prevE l (j + 1)) ((l.drop (j + 1)).map entL)) := by
  rw [List.drop_eq_getElem_cons h, okFrom_step]
  congr 1
  · congr 1
    unfold prevE
    by_cases h0 : j = 0
    · simp [h0]
    · rw [if_neg h0, dif_neg h0, List.getElem?_eq_getElem (by omega)]
      rfl
  · unfold prevE
    rw [if_neg (by omega), Nat.add_sub_cancel, List.getElem?_eq_getElem h]
    rfl
theorem bl_not (a b : ByteArray) : (!(Op.bytesLess a.toList b.toList)) = !decide (a.data.toList < b.data.toList) := by rw [bytesLess_eq, bs_toList, bs_toList]
theorem check_l0 (l : List SE) (hl : l.length ≤ 1000000) : ∀ (d k j : Nat), j + d = l.length → 2 * d + 1 ≤ k → Pr.listing_Check.l0 k l l (l.length : Int) (j : Int) = some (if okFrom (prevE l j) ((l.drop j).map entL) = true then 0 else 2) := by
  intro d
  induction d with
  | zero =>
    intro k j hj hk
    obtain ⟨k, rfl⟩ : ∃ n, k = n + 1 := ⟨k - 1, by omega⟩
    unfold Pr.listing_Check.l0
    rw [if_neg (by omega), List.drop_of_length_le (by omega)]
    rfl
  | succ d ih =>
    intro k j hj hk
    obtain ⟨k, rfl⟩ : ∃ n, k = n + 1 := ⟨k - 1, by omega⟩
    obtain ⟨k, rfl⟩ : ∃ n, k = n + 1 := ⟨k - 1, by omega⟩
    have hjl : j < l.length := by omega
    have ihk := ih k (j + 1) (by omega) (by omega)
    rw [okFrom_at l j hjl]
    unfold Pr.listing_Check.l0
    rw [if_pos (by omega), if_pos (by omega), if_pos (by omega), rdE l j hjl]
    by_cases h1 : l[j].f1.length = 0
    · rw [if_pos (by omega)]
      unfold Pr.listing_Check.j1
      try dsimp only
      rw [if_pos rfl]
      simp [h1]
    · rw [if_neg (by omega)]
      by_cases h0 : j = 0
      · subst h0
        rw [if_neg (by omega)]
        unfold Pr.listing_Check.j1
        try dsimp only
        rw [if_neg (by simp), wrap_up 0 l.length hjl hl, ihk]
        simp [h1]
      · rw [if_pos (by omega), wrap_dn j (by omega) (by omega), if_pos (by omega), if_pos (by omega), rdE l (j - 1) (by omega), bl_not]
        unfold Pr.listing_Check.j1
        try dsimp only
        by_cases h2 : (l[j - 1]'(by omega)).f0.data.toList < l[j].f0.data.toList
        · rw [if_neg (by simp [h2]), wrap_up j l.length hjl hl, ihk]
          simp [h1, h0, h2]
        · rw [if_pos (by simp [h2])]
          simp [h0, h2]
theorem check_f (l : List SE) (k : Nat) (hl : l.length ≤ 1000000) (hk : 2 * l.length + 1 ≤ k) : Pr.listing_Check.f k l = some (if okFrom none (l.map entL) = true then 0 else 2) := check_l0 l hl l.length k 0 (by omega) hk
theorem rdS (l : List ByteArray) (j : Nat) (h : j < l.length) : rdOf ByteArray.empty l (j : Int) = l[j] := by
  unfold rdOf
  rw [Int.toNat_natCast, List.getD_eq_getElem?_getD, List.getElem?_eq_getElem h]
  rfl
theorem long_l0 (l : List ByteArray) (hl : l.length ≤ 1000000) : ∀ (d k j : Nat), j + d = l.length → d + 1 ≤ k → Pr.stowagelaw20_long.l0 k l (j : Int) = some ((l.drop j).any fun s => decide (600 < s.size)) := by
  intro d
  induction d with
  | zero =>
    intro k j hj hk
    obtain ⟨k, rfl⟩ : ∃ n, k = n + 1 := ⟨k - 1, by omega⟩
    unfold Pr.stowagelaw20_long.l0
    rw [if_neg (by omega), List.drop_of_length_le (by omega)]
    rfl
  | succ d ih =>
    intro k j hj hk
    obtain ⟨k, rfl⟩ : ∃ n, k = n + 1 := ⟨k - 1, by omega⟩
    have hjl : j < l.length := by omega
    unfold Pr.stowagelaw20_long.l0
    rw [if_pos (by omega), if_pos (by omega), rdS l j hjl, List.drop_eq_getElem_cons hjl, List.any_cons]
    by_cases h : 600 < l[j].size
    · rw [if_pos (by omega), decide_eq_true h]; rfl
    · rw [if_neg (by omega), wrap_up j l.length hjl hl, ih k (j + 1) (by omega) (by omega), decide_eq_false h]; rfl
end Go.Proofs.Ytdaokkajbooiaaa
end
section
/- Listing, the plain law: the reference's list. -/
namespace Go.Proofs.Ytdaokkajbooiaaa
open Go.RowKit Go.Proofs.YtdaokkajbooiaaaW.PrintWords Go.Proofs.YtdaokkajbooiaaaW.PrintLast Go.Proofs.YtdaokkajbooiaaaW.PrintMore
open Pr (SV SE SI verL entL verS itmS itmL)
set_option linter.unusedVariables false
set_option linter.unusedSimpArgs false
end Go.Proofs.Ytdaokkajbooiaaa
end
section
/- Listing, the plain law: both sides' pages are one. -/
namespace Go.Proofs.Ytdaokkajbooiaaa
open Go.RowKit Go.Proofs.YtdaokkajbooiaaaW.PrintWords Go.Proofs.YtdaokkajbooiaaaW.PrintLast Go.Proofs.YtdaokkajbooiaaaW.PrintMore
open Pr (SV SE SI verL entL verS itmS itmL pageOut cutOut)
set_option linter.unusedVariables false
set_option linter.unusedSimpArgs false
theorem cut_page (vers : Bool) (m : Nat) (q : List Itm) (hm : 1 ≤ m) : cutOut vers m q = pageOut (mkPg vers m (cutP m q), 0) := by
  unfold cutOut pageOut cutP mkPg cutNext cutVer cutM
  by_cases h : q.length ≤ m
  · rw [if_pos h]
    simp [show ¬ m < q.length by omega, List.take_of_length_le h]
  · rw [if_neg h]
    have hd : (q.take m).getD (m - 1) itm0 = q.getD (m - 1) itm0 := by
      rw [List.getD_eq_getElem?_getD, List.getD_eq_getElem?_getD, List.getElem?_take_of_lt (by omega)]
    simp only [if_true]
    rw [hd]
    simp [show m < q.length by omega]
theorem small_of {l : List SE} (hl : l.length ≤ 60) (hv : ∀ e ∈ l, e.f0.size ≤ 600 ∧ e.f1.length ≤ 20) : Pr.small l = true := by
  unfold Pr.small
  simp only [Bool.and_eq_true, decide_eq_true_eq, List.all_eq_true]
  exact ⟨by omega, fun e he => ⟨by have := (hv e he).1; omega, by have := (hv e he).2; omega⟩⟩
end Go.Proofs.Ytdaokkajbooiaaa
end
section
/- ListingPages: plain: pages, one behind the other. -/
namespace Go.Proofs.Ytdaokkajbooiaaa
open Go.RowKit Go.Proofs.YtdaokkajbooiaaaW.PrintWords Go.Proofs.YtdaokkajbooiaaaW.PrintLast Go.Proofs.YtdaokkajbooiaaaW.PrintMore
open Pr (SV SE SI verL entL verS itmS itmL pageOut cutOut)
set_option linter.unusedVariables false
set_option linter.unusedSimpArgs false
/-- Lists that are gone through. -/
structure FineP (l : List SE) : Prop where
  len : l.length ≤ 60
  sz : ∀ e ∈ l, e.f0.size ≤ 400 ∧ e.f1.length ≤ 16 ∧ ∀ v ∈ e.f1, v.f0.size ≤ 400 ∧ v.f0.data.toList ≠ []
  ok : okFrom none (l.map entL) = true
  un : ∀ e ∈ l, (e.f1.map fun v => v.f0.data.toList).Pairwise (· ≠ ·)
def lst (b : Bool) (p d : Bs) (l : List SE) : List Itm := listP p d b none (l.map entL)
def lst' (b : Bool) (p d : Bs) (l : List SE) : List Itm := behindR [] [] false (lst b p d l)
theorem lst_pair {b : Bool} {p d : Bs} {l : List SE} (h : FineP l) : (lst b p d l).Pairwise (RI b) := listP_pair p d b _ none none h.ok (fun _ e he => by
  obtain ⟨x, hx, rfl⟩ := List.mem_map.1 he
  have := h.un x hx
  show ((x.f1.map verL).map (·.id)).Pairwise _
  rw [List.map_map]
  exact this)
theorem plain_filter (L : List Itm) : behindR [] [] false L = L.filter fun x => decide ([] < x.name) := by
  induction L with
  | nil => rfl
  | cons x r ih =>
    rw [behindR_cons]
    have : marksP [] [] x = false := by simp [marksP]
    rw [this, Bool.or_false, ih]
    by_cases h : [] < x.name
    · simp [h]
    · simp [h]
theorem behind_filter (a v : Bs) (ha : a ≠ []) : ∀ (L : List Itm) (met : Bool), behindR a v met L = behindR a v met (L.filter fun x => decide ([] < x.name))
  | [], _ => rfl
  | x :: r, met => by
    by_cases h : ([] : Bs) < x.name
    · rw [List.filter_cons_of_pos (by simpa using h), behindR, behindR, behind_filter a v ha r]
    · have hn : x.name = [] := by
        cases hx : x.name with
        | nil => rfl
        | cons c t => rw [hx] at h; exact absurd (List.nil_lt_cons c t) h
      have h1 : ¬ a < x.name := by rw [hn]; exact not_lt_nil a
      have h2 : ¬ x.name = a := by rw [hn]; exact fun e => ha e.symm
      rw [List.filter_cons_of_neg (by simpa using h), behindR]
      have hm : marksP a v x = false := by unfold marksP; rw [decide_eq_false h2]; rfl
      rw [hm, decide_eq_false h1, decide_eq_false h2]
      simp only [Bool.or_false, Bool.and_false, Bool.false_eq_true, if_false, List.nil_append]
      exact behind_filter a v ha r met
theorem vers_mem (key : Bs) : ∀ (f : Bool) (vs : List Ver), ∀ x ∈ versItms key f vs, x.v ∈ vs
  | _, [], x, h => by simp [versItms] at h
  | f, v :: r, x, h => by
    simp only [versItms, List.mem_cons] at h
    rcases h with rfl | h
    · exact List.mem_cons_self ..
    · exact List.mem_cons_of_mem _ (vers_mem key false r x h)
theorem lst_item {b : Bool} {p d : Bs} {l : List SE} (h : FineP l) : ∀ x ∈ lst b p d l, x.name.length ≤ 400 ∧ (x.common = false → b = true → x.v.id ≠ [] ∧ x.v.id.length ≤ 400) := by
  intro x hx
  rcases listP_from p d b _ none x hx with ⟨hc, _, e, he, hp, _, hcm⟩ | ⟨hc, e, he, hp, _, _, hi⟩
  · obtain ⟨y, hy, rfl⟩ := List.mem_map.1 he
    have h2 := (commonL_some hp hcm).2.1.length_le
    have h3 : (entL y).key.length ≤ 400 := by simpa [entL] using (h.sz y hy).1
    exact ⟨by omega, fun h0 => by rw [hc] at h0; cases h0⟩
  · obtain ⟨y, hy, rfl⟩ := List.mem_map.1 he
    have h3 : (entL y).key.length ≤ 400 := by simpa [entL] using (h.sz y hy).1
    refine ⟨by rw [(itemsOf_plain x hi).2]; exact h3, fun _ hb => ?_⟩
    subst hb
    have hm := vers_mem _ _ _ x hi
    obtain ⟨v, hv, he2⟩ := List.mem_map.1 (show x.v ∈ y.f1.map verL from hm)
    obtain ⟨h4, h5⟩ := (h.sz y hy).2.2 v hv
    rw [← he2]
    exact ⟨h5, by simpa [verL] using h4⟩
/-- The place behind the i-th item. -/
def plA (b : Bool) (p d : Bs) (l : List SE) (i : Nat) : Bs := if i = 0 then [] else ((lst' b p d l).getD (i - 1) itm0).name
def plV (b : Bool) (p d : Bs) (l : List SE) (i : Nat) : Bs := if i = 0 then [] else verOfI b ((lst' b p d l).getD (i - 1) itm0)
theorem behind_at {b : Bool} {p d : Bs} {l : List SE} (h : FineP l) (i : Nat) (hi : i ≤ (lst' b p d l).length) : behindR (plA b p d l i) (plV b p d l i) false (lst b p d l) = (lst' b p d l).drop i := by
  unfold plA plV
  by_cases h0 : i = 0
  · rw [if_pos h0, if_pos h0, h0]
    rfl
  · rw [if_neg h0, if_neg h0]
    have hl' : lst' b p d l = (lst b p d l).filter fun x => decide ([] < x.name) := plain_filter _
    have hg : (lst' b p d l).getD (i - 1) itm0 = (lst' b p d l)[i - 1] := by rw [List.getD_eq_getElem?_getD, List.getElem?_eq_getElem (by omega)]; rfl
    rw [hg]
    have hx := List.getElem_mem (l := lst' b p d l) (n := i - 1) (by omega)
    have hx2 : (lst' b p d l)[i - 1] ∈ (lst b p d l).filter fun x => decide ([] < x.name) := by rw [← hl']; exact hx
    obtain ⟨hx3, hx4⟩ := List.mem_filter.1 hx2
    have hne : (lst' b p d l)[i - 1].name ≠ [] := fun e => by rw [e] at hx4; simp [lt_irr] at hx4
    rw [behind_filter _ _ hne, ← hl']
    have hsplit : lst' b p d l = (lst' b p d l).take (i - 1) ++ (lst' b p d l)[i - 1] :: (lst' b p d l).drop i := by
      have h1 := List.drop_eq_getElem_cons (l := lst' b p d l) (i := i - 1) (by omega)
      rw [show i - 1 + 1 = i by omega] at h1
      rw [← h1, List.take_append_drop]
    have hp : (lst' b p d l).Pairwise (RI b) := by rw [hl']; exact (lst_pair h).filter _
    generalize (lst' b p d l)[i - 1] = x at *
    generalize (lst' b p d l).take (i - 1) = A at *
    generalize (lst' b p d l).drop i = B at *
    rw [hsplit] at hp ⊢
    exact behindR_at b A x B hp (fun hc hb => ((lst_item h x hx3).2 hc hb).1)
theorem pl_len {b : Bool} {p d : Bs} {l : List SE} (h : FineP l) (i : Nat) (hi : i ≤ (lst' b p d l).length) : (plA b p d l i).length ≤ 400 ∧ (plV b p d l i).length ≤ 400 := by
  unfold plA plV
  by_cases h0 : i = 0
  · rw [if_pos h0, if_pos h0]; simp
  · rw [if_neg h0, if_neg h0]
    have hg : (lst' b p d l).getD (i - 1) itm0 = (lst' b p d l)[i - 1] := by rw [List.getD_eq_getElem?_getD, List.getElem?_eq_getElem (by omega)]; rfl
    rw [hg]
    have hx := List.getElem_mem (l := lst' b p d l) (n := i - 1) (by omega)
    have hx2 : (lst' b p d l)[i - 1] ∈ lst b p d l := by
      have hl' : lst' b p d l = (lst b p d l).filter fun x => decide ([] < x.name) := plain_filter _
      have : (lst' b p d l)[i - 1] ∈ (lst b p d l).filter fun x => decide ([] < x.name) := by rw [← hl']; exact hx
      exact (List.mem_filter.1 this).1
    obtain ⟨h1, h2⟩ := lst_item h _ hx2
    refine ⟨h1, ?_⟩
    unfold verOfI
    split
    · rename_i hc
      simp only [Bool.and_eq_true, Bool.not_eq_true'] at hc
      exact (h2 hc.2 hc.1).2
    · simp
theorem plV_keys {p d : Bs} {l : List SE} (i : Nat) : plV false p d l i = [] := by
  unfold plV verOfI
  split <;> simp
/-- What a page from the i-th item on is. -/
structure PageP (b : Bool) (m : Nat) (q : List Itm) (R : List SI × Bool × ByteArray × ByteArray × Int) : Prop where
  err : R.2.2.2.2 = 0
  items : R.1 = (q.take m).map itmS
  more : R.2.1 = decide (m < q.length)
  next : m < q.length → R.2.2.1 = BA (q.getD (m - 1) itm0).name ∧ R.2.2.2.1 = BA (verOfI b (q.getD (m - 1) itm0))
theorem pageP_cut (b : Bool) (m : Nat) (q : List Itm) : PageP b m q (cutOut b m q) := by
  refine ⟨rfl, rfl, rfl, fun h => ?_⟩
  simp only [cutOut, cutNext, cutVer, cutM, decide_eq_true h, if_true, Bool.true_and]
  first | trivial | exact ⟨rfl, rfl⟩
theorem keys_small {l : List SE} (h : FineP l) : ∀ e ∈ l, e.f0.size ≤ 600 ∧ e.f1.length ≤ 20 := fun e he => ⟨by have := (h.sz e he).1; omega, by have := (h.sz e he).2.1; omega⟩
theorem keys_pageP {l : List SE} (h : FineP l) (p d : ByteArray) (hp : p.size ≤ 400) (hd : d.size ≤ 400) (a : Bs) (ha : a.length ≤ 400) (m : Nat) (hm : 1 ≤ m ∧ m ≤ 1000) :
    Pr.listing_Keys.f l p d (BA a) (m : Int) = some (cutOut false m (behindR a [] false (lst false p.data.toList d.data.toList l))) := by
  have hsa : (BA a).size ≤ 400 := by rw [bs_len]; simpa using ha
  have hal : (BA a).data.toList = a := by simp
  unfold Pr.listing_Keys.f
  rw [if_pos ⟨small_of h.len (keys_small h), by omega, by omega, by omega⟩, show ([] : Bs) = (⟨#[]⟩ : ByteArray).data.toList from rfl, pageV_good ⟨hp, hd, hsa, by decide⟩ h.ok (by omega), Int.toNat_natCast, runP_cut _ _ _ _ (listP_alike _ _ _ _ _ _), ← cut_page _ _ _ (by omega), hal]
  rfl
theorem vers_pageP {l : List SE} (h : FineP l) (p d : ByteArray) (hp : p.size ≤ 400) (hd : d.size ≤ 400) (a v : Bs) (ha : a.length ≤ 400) (hv : v.length ≤ 400) (m : Nat) (hm : 1 ≤ m ∧ m ≤ 1000) :
    Pr.listing_Versions.f l p d (BA a) (BA v) (m : Int) = some (cutOut true m (behindR a v false (lst true p.data.toList d.data.toList l))) := by
  have hsa : (BA a).size ≤ 400 := by rw [bs_len]; simpa using ha
  have hal : (BA a).data.toList = a := by simp
  have hsv : (BA v).size ≤ 400 := by rw [bs_len]; simpa using hv
  have hvl : (BA v).data.toList = v := by simp
  unfold Pr.listing_Versions.f
  rw [if_pos ⟨small_of h.len (keys_small h), by omega, by omega, by omega, by omega⟩, pageV_good ⟨hp, hd, hsa, hsv⟩ h.ok (by omega), Int.toNat_natCast, runP_cut _ _ _ _ (listP_alike _ _ _ _ _ _), ← cut_page _ _ _ (by omega), hal, hvl]
  rfl
/-- How many can be listed. -/
def totV (l : List SE) : Nat := (l.map fun e => e.f1.length).sum
theorem listP_len (p d : Bs) (b : Bool) : ∀ (es : List Ent) (last : Option Bs), (∀ e ∈ es, e.vs ≠ []) → (listP p d b last es).length ≤ (es.map fun e => e.vs.length).sum
  | [], _, _ => by simp [listP]
  | e :: r, last, h => by
    have hr : ∀ x ∈ r, x.vs ≠ [] := fun x hx => h x (List.mem_cons_of_mem _ hx)
    have he : 0 < e.vs.length := List.length_pos_iff.2 (h e (List.mem_cons_self ..))
    rw [List.map_cons, List.sum_cons]
    unfold listP
    split
    · have := listP_len p d b r last hr
      omega
    · split
      · split
        · have := listP_len p d b r last hr
          omega
        · rename_i c _ _
          have := listP_len p d b r (some c) hr
          rw [List.length_cons]
          omega
      · have := listP_len p d b r last hr
        have hi : (itemsOf b e).length ≤ e.vs.length := by
          unfold itemsOf
          split
          · rw [versItms_len]; exact Nat.le_refl _
          · simp; omega
        rw [List.length_append]
        omega
theorem lst_len {b : Bool} {p d : Bs} {l : List SE} (h : FineP l) : (lst' b p d l).length ≤ totV l := by
  have h1 := listP_len p d b (l.map entL) none (okFrom_all h.ok)
  have h2 : (lst' b p d l).length ≤ (lst b p d l).length := by
    have hl' : lst' b p d l = (lst b p d l).filter fun x => decide ([] < x.name) := plain_filter _
    rw [hl']
    exact List.length_filter_le _ _
  refine Nat.le_trans h2 (Nat.le_trans h1 ?_)
  unfold totV
  rw [List.map_map]
  have : ((fun e : Ent => e.vs.length) ∘ entL) = fun e : SE => e.f1.length := by funext e; simp [entL]
  rw [this]
  exact Nat.le_refl _
theorem tot_le : ∀ (l : List SE), (∀ e ∈ l, e.f1.length ≤ 16) → totV l ≤ 16 * l.length
  | [], _ => by simp [totV]
  | e :: r, h => by
    have := tot_le r (fun x hx => h x (List.mem_cons_of_mem _ hx))
    have he := h e (List.mem_cons_self ..)
    unfold totV at this ⊢
    rw [List.map_cons, List.sum_cons, List.length_cons]
    omega
end Go.Proofs.Ytdaokkajbooiaaa
end
section
/- ListingPages: plain: the printed form is true. -/
namespace Go.Proofs.Ytdaokkajbooiaaa
open Go.RowKit Go.Proofs.YtdaokkajbooiaaaW.PrintWords Go.Proofs.YtdaokkajbooiaaaW.PrintLast Go.Proofs.YtdaokkajbooiaaaW.PrintMore
open Pr (SV SE SI verL entL verS itmS itmL pageOut cutOut)
set_option linter.unusedVariables false
set_option linter.unusedSimpArgs false
theorem pickM_f (a : Int) : ∃ r : Nat, Pr.stowagekit_Pick.f a 1000 = some (r : Int) ∧ r < 1000 := by
  unfold Pr.stowagekit_Pick.f
  rw [if_neg (by omega), if_neg (by omega)]
  have h1 := Int.tmod_lt_of_pos a (show (0 : Int) < 1000 by omega)
  have h2 : -1000 < Int.tmod a 1000 := by
    have := Int.neg_tmod a 1000
    have := Int.tmod_lt_of_pos (-a) (show (0 : Int) < 1000 by omega)
    omega
  by_cases h : Int.tmod a 1000 < 0
  · rw [if_pos h]
    refine ⟨(Int.tmod a 1000 + 1000).toNat, ?_, by omega⟩
    congr 1
    unfold wrap64
    omega
  · rw [if_neg h]
    exact ⟨(Int.tmod a 1000).toNat, by congr 1; omega, by omega⟩
/-! ### unlike IDs -/
def idV (v : SV) : Bs := v.f0.data.toList
def OKu (e : SE) (n : Nat) : Prop := ∀ (i : Nat) (hi : i < n) (hl : n ≤ e.f1.length), idV (e.f1[i]'(by omega)) ≠ [] ∧ ∀ (i' : Nat) (h : i' < i), idV (e.f1[i']'(by omega)) ≠ idV (e.f1[i]'(by omega))
theorem unl_l2 (l : List SE) (hl : l.length ≤ 60) (j : Nat) (hj : j < l.length) (hv : (l[j]'hj).f1.length ≤ 20) (m : Nat) (hm : m < (l[j]'hj).f1.length) (F : Nat) (Q : Prop)
    (hout : (∀ (i : Nat) (hi : i < m), idV ((l[j]'hj).f1[i]'(by omega)) ≠ idV ((l[j]'hj).f1[m])) → ∀ k, F ≤ k → ∃ b, Pr.stowagelaw20_unlike.l1 k l (j : Int) ((m + 1 : Nat) : Int) = some b ∧ (b = true → Q)) :
    ∀ (d k i : Nat), i + d = m → F + d + 1 ≤ k → (∀ (i' : Nat) (hi : i' < i) (h : i' < m), idV ((l[j]'hj).f1[i']'(by omega)) ≠ idV ((l[j]'hj).f1[m])) → ∃ b, Pr.stowagelaw20_unlike.l2 k l (j : Int) (m : Int) (i : Int) = some b ∧ (b = true → Q) := by
  intro d
  induction d with
  | zero =>
    intro k i hi hk hI
    obtain ⟨k, rfl⟩ : ∃ n, k = n + 1 := ⟨k - 1, by omega⟩
    obtain rfl : i = m := by omega
    unfold Pr.stowagelaw20_unlike.l2
    rw [if_neg (by omega), wrap_up i _ hm (by omega)]
    exact hout (fun i' h => hI i' h h) k (by omega)
  | succ d ih =>
    intro k i hi hk hI
    obtain ⟨k, rfl⟩ : ∃ n, k = n + 1 := ⟨k - 1, by omega⟩
    have him : i < m := by omega
    unfold Pr.stowagelaw20_unlike.l2
    rw [if_pos (by omega), if_pos (by omega), if_pos (by omega), if_pos (by omega), rdE l j hj, if_pos (by omega), if_pos (by omega), if_pos (by omega), rdV _ i (by omega), rdV _ m hm, bs_toList, bs_toList]
    by_cases h : idV ((l[j]'hj).f1[i]'(by omega)) = idV ((l[j]'hj).f1[m])
    · rw [if_pos (by exact h)]
      exact ⟨false, rfl, fun h => by cases h⟩
    · rw [if_neg (by exact h), wrap_up i m him (by omega)]
      refine ih k (i + 1) (by omega) (by omega) (fun i' h1 h2 => ?_)
      by_cases he : i' = i
      · subst he; exact h
      · exact hI i' (by omega) h2
theorem unl_l1 (l : List SE) (hl : l.length ≤ 60) (j : Nat) (hj : j < l.length) (hv : (l[j]'hj).f1.length ≤ 20) (F : Nat) (Q : Prop)
    (hout : OKu (l[j]'hj) (l[j]'hj).f1.length → ∀ k, F ≤ k → ∃ b, Pr.stowagelaw20_unlike.l0 k l ((j + 1 : Nat) : Int) = some b ∧ (b = true → Q)) :
    ∀ (d k m : Nat), m + d = (l[j]'hj).f1.length → F + 25 * d + 1 ≤ k → OKu (l[j]'hj) m → ∃ b, Pr.stowagelaw20_unlike.l1 k l (j : Int) (m : Int) = some b ∧ (b = true → Q) := by
  intro d
  induction d with
  | zero =>
    intro k m hm hk hI
    obtain ⟨k, rfl⟩ : ∃ n, k = n + 1 := ⟨k - 1, by omega⟩
    unfold Pr.stowagelaw20_unlike.l1
    rw [if_pos (by omega), if_pos (by omega), rdE l j hj, if_neg (by omega), wrap_up j _ hj (by omega)]
    obtain rfl : m = (l[j]'hj).f1.length := by omega
    exact hout hI k (by omega)
  | succ d ih =>
    intro k m hm hk hI
    obtain ⟨k, rfl⟩ : ∃ n, k = n + 1 := ⟨k - 1, by omega⟩
    have hml : m < (l[j]'hj).f1.length := by omega
    unfold Pr.stowagelaw20_unlike.l1
    rw [if_pos (by omega), if_pos (by omega), rdE l j hj, if_pos (by omega), if_pos (by omega), rdV _ m hml, bs_toList]
    by_cases h : idV ((l[j]'hj).f1[m]) = []
    · rw [if_pos (by exact h)]
      exact ⟨false, rfl, fun h => by cases h⟩
    · rw [if_neg (by exact h)]
      refine unl_l2 l hl j hj hv m hml (F + 25 * d + 1) Q (fun hu k hk => ?_) m k 0 (by omega) (by omega) (fun i' h => by omega)
      refine ih k (m + 1) (by omega) (by omega) (fun i hi hle => ?_)
      by_cases he : i = m
      · subst he; exact ⟨h, fun i' hi' => hu i' hi'⟩
      · exact hI i (by omega) (by omega)
theorem unl_l0 (l : List SE) (hl : l.length ≤ 60) (hv : ∀ e ∈ l, e.f1.length ≤ 20) : ∀ (d k j : Nat), j + d = l.length → 600 * d + 1 ≤ k → (∀ e ∈ l.take j, OKu e e.f1.length) → ∃ b, Pr.stowagelaw20_unlike.l0 k l (j : Int) = some b ∧ (b = true → ∀ e ∈ l, OKu e e.f1.length) := by
  intro d
  induction d with
  | zero =>
    intro k j hj hk hI
    obtain ⟨k, rfl⟩ : ∃ n, k = n + 1 := ⟨k - 1, by omega⟩
    unfold Pr.stowagelaw20_unlike.l0
    rw [if_neg (by omega)]
    rw [List.take_of_length_le (by omega)] at hI
    exact ⟨true, rfl, fun _ => hI⟩
  | succ d ih =>
    intro k j hj hk hI
    obtain ⟨k, rfl⟩ : ∃ n, k = n + 1 := ⟨k - 1, by omega⟩
    have hjl : j < l.length := by omega
    have hvj := hv l[j] (List.getElem_mem hjl)
    unfold Pr.stowagelaw20_unlike.l0
    rw [if_pos (by omega)]
    refine unl_l1 l hl j hjl hvj (600 * d + 1) _ (fun hu k hk => ih k (j + 1) (by omega) hk (fun e he => ?_)) l[j].f1.length k 0 (by omega) (by omega) (fun i hi => by omega)
    rw [List.take_add_one, List.getElem?_eq_getElem hjl] at he
    rcases List.mem_append.1 he with h | h
    · exact hI e h
    · obtain rfl : e = l[j] := by simpa using h
      exact hu
theorem unl_f (l : List SE) (k : Nat) (hk : 40000 ≤ k) (hl : l.length ≤ 60) (hv : ∀ e ∈ l, e.f1.length ≤ 20) : ∃ b, Pr.stowagelaw20_unlike.f k l = some b ∧ (b = true → ∀ e ∈ l, (∀ v ∈ e.f1, v.f0.data.toList ≠ []) ∧ (e.f1.map fun v => v.f0.data.toList).Pairwise (· ≠ ·)) := by
  obtain ⟨b, hb, hu⟩ := unl_l0 l hl hv l.length k 0 (by omega) (by omega) (fun e he => by simp at he)
  refine ⟨b, hb, fun h e he => ?_⟩
  have := hu h e he
  refine ⟨fun v hv => ?_, ?_⟩
  · obtain ⟨i, hi, rfl⟩ := List.mem_iff_getElem.1 hv
    exact (this i hi (Nat.le_refl _)).1
  · rw [List.pairwise_iff_getElem]
    intro i j hi hj hij
    rw [List.length_map] at hi hj
    rw [List.getElem_map, List.getElem_map]
    exact (this j hj (Nat.le_refl _)).2 i hij
/-! ### the pages' loop -/
theorem drop_getD (L : List Itm) (i m : Nat) : (L.drop i).getD m itm0 = L.getD (i + m) itm0 := by
  rw [List.getD_eq_getElem?_getD, List.getD_eq_getElem?_getD, List.getElem?_drop]
theorem pages_l3 (b : Bool) (c13 : Int) (hc : c13 = if b = true then 1 else 0) (l : List SE) (h : FineP l) (p d : ByteArray) (hp : p.size ≤ 400) (hd : d.size ≤ 400) (m : Nat) (hm : 1 ≤ m ∧ m ≤ 1000) (w1 : Bool) (w2 w3 : ByteArray) (F : Nat)
    (hout : ∀ k, F ≤ k → Pr.stowagelaw20_ListingPages.l2 k l p d (m : Int) true (totV l : Int) (wrap64 (c13 + 1)) = some true) :
    ∀ (μ k n : Nat), (lst' b p.data.toList d.data.toList l).length - n * m < μ → n * m ≤ (lst' b p.data.toList d.data.toList l).length → F + 2000 + 10 * μ ≤ k →
      Pr.stowagelaw20_ListingPages.l3 k l p d (m : Int) true (totV l : Int) c13 (((lst' b p.data.toList d.data.toList l).take (n * m)).map itmS) (BA (plA b p.data.toList d.data.toList l (n * m))) (BA (plV b p.data.toList d.data.toList l (n * m))) (n : Int) ((lst' b p.data.toList d.data.toList l).map itmS) w1 w2 w3 = some true := by
  have hT := lst_len (b := b) (p := p.data.toList) (d := d.data.toList) h
  have hT2 : totV l ≤ 960 := by
    have := tot_le l (fun e he => (h.sz e he).2.1)
    have := h.len
    omega
  intro μ
  induction μ with
  | zero => intro k n h1; omega
  | succ μ ih =>
    intro k n h1 h2 hk
    obtain ⟨k, rfl⟩ : ∃ n, k = n + 1 := ⟨k - 1, by omega⟩
    obtain ⟨k, rfl⟩ : ∃ n, k = n + 1 := ⟨k - 1, by omega⟩
    obtain ⟨k, rfl⟩ : ∃ n, k = n + 1 := ⟨k - 1, by omega⟩
    obtain ⟨k, rfl⟩ : ∃ n, k = n + 1 := ⟨k - 1, by omega⟩
    have hnm : n ≤ n * m := Nat.le_mul_of_pos_right n (by omega)
    obtain ⟨hla, hlv⟩ := pl_len h (n * m) h2
    have hb := behind_at h (n * m) h2
    have hK := keys_pageP h p d hp hd _ hla m hm
    have hV := vers_pageP h p d hp hd _ _ hla hlv m hm
    have hs : (n + 1) * m = n * m + m := Nat.succ_mul n m
    have hj8 : Pr.stowagelaw20_ListingPages.j8 (k + 1 + 1 + 1) l p d (m : Int) true (totV l : Int) c13 (((lst' b p.data.toList d.data.toList l).take (n * m)).map itmS) (n : Int) (cutOut b m ((lst' b p.data.toList d.data.toList l).drop (n * m))).2.2.2.2 ((lst' b p.data.toList d.data.toList l).map itmS) w1 w2 w3 (cutOut b m ((lst' b p.data.toList d.data.toList l).drop (n * m))).1 (cutOut b m ((lst' b p.data.toList d.data.toList l).drop (n * m))).2.1 (cutOut b m ((lst' b p.data.toList d.data.toList l).drop (n * m))).2.2.1 (cutOut b m ((lst' b p.data.toList d.data.toList l).drop (n * m))).2.2.2.1 = some true := by
      have hP := pageP_cut b m ((lst' b p.data.toList d.data.toList l).drop (n * m))
      generalize hR : cutOut b m ((lst' b p.data.toList d.data.toList l).drop (n * m)) = R at hP
      have hil : R.1.length = min m ((lst' b p.data.toList d.data.toList l).length - n * m) := by rw [hP.items, List.length_map, List.length_take, List.length_drop]
      have happ : ((lst' b p.data.toList d.data.toList l).take (n * m)).map itmS ++ R.1 = ((lst' b p.data.toList d.data.toList l).take ((n + 1) * m)).map itmS := by
        rw [hP.items, ← List.map_append, hs, List.take_add]
      have hj9 : Pr.stowagelaw20_ListingPages.j9 (k + 1 + 1) l p d (m : Int) true (totV l : Int) c13 (((lst' b p.data.toList d.data.toList l).take (n * m)).map itmS) (n : Int) false ((lst' b p.data.toList d.data.toList l).map itmS) w1 w2 w3 R.1 R.2.1 R.2.2.1 R.2.2.2.1 = some true := by
        unfold Pr.stowagelaw20_ListingPages.j9
        try dsimp only
        rw [if_neg (by simp), if_pos (by rw [List.length_map, List.length_take]; omega), Option.bind_some, happ, hP.more]
        by_cases hmore : m < ((lst' b p.data.toList d.data.toList l).drop (n * m)).length
        · rw [decide_eq_true hmore, if_pos rfl, (hP.next hmore).1, (hP.next hmore).2, wrap_up n (n + 1) (by omega) (by omega), drop_getD]
          rw [List.length_drop] at hmore
          have e1 : ((lst' b p.data.toList d.data.toList l).getD (n * m + (m - 1)) itm0).name = plA b p.data.toList d.data.toList l ((n + 1) * m) := by
            unfold plA
            rw [if_neg (by omega), show (n + 1) * m - 1 = n * m + (m - 1) by omega]
          have e2 : verOfI b ((lst' b p.data.toList d.data.toList l).getD (n * m + (m - 1)) itm0) = plV b p.data.toList d.data.toList l ((n + 1) * m) := by
            unfold plV
            rw [if_neg (by omega), show (n + 1) * m - 1 = n * m + (m - 1) by omega]
          rw [e1, e2]
          exact ih (k + 1) (n + 1) (by omega) (by omega) (by omega)
        · rw [decide_eq_false hmore, if_neg (by simp)]
          rw [List.length_drop] at hmore
          unfold Pr.stowagelaw20_ListingPages.j10
          try dsimp only
          rw [List.take_of_length_le (by omega), page_f _ false _ _ k (by rw [List.length_map]; omega) (by rw [List.length_map]; omega), Option.bind_some, if_pos rfl]
          exact hout k (by omega)
      unfold Pr.stowagelaw20_ListingPages.j8
      try dsimp only
      rw [if_pos hP.err, if_neg (by omega)]
      by_cases hmore : R.2.1 = true
      · rw [if_pos hmore]
        rw [hP.more, decide_eq_true_eq, List.length_drop] at hmore
        rw [show ((R.1.length : Int) != (m : Int)) = false by simp; omega]
        exact hj9
      · rw [if_neg hmore]
        exact hj9
    unfold Pr.stowagelaw20_ListingPages.l3
    rw [if_pos (by omega), hK, Option.bind_some]
    cases b with
    | true =>
      rw [hb] at hV
      rw [if_pos (by rw [hc]; rfl), hV, Option.bind_some]
      exact hj8
    | false =>
      rw [plV_keys] at hb
      rw [hb]
      rw [if_neg (by rw [hc]; decide)]
      exact hj8
end Go.Proofs.Ytdaokkajbooiaaa
end
section
/- ListingPages: plain: both passes, the guards, the law. -/
namespace Go.Proofs.Ytdaokkajbooiaaa
open Go.RowKit Go.Proofs.YtdaokkajbooiaaaW.PrintWords Go.Proofs.YtdaokkajbooiaaaW.PrintLast Go.Proofs.YtdaokkajbooiaaaW.PrintMore
open Pr (SV SE SI verL entL verS itmS itmL pageOut cutOut)
set_option linter.unusedVariables false
set_option linter.unusedSimpArgs false
theorem pages_pass (b : Bool) (c13 : Int) (hc : c13 = if b = true then 1 else 0) (l : List SE) (h : FineP l) (p d : ByteArray) (hp : p.size ≤ 400) (hd : d.size ≤ 400) (m : Nat) (hm : 1 ≤ m ∧ m ≤ 1000) (F : Nat)
    (hout : ∀ k, F ≤ k → Pr.stowagelaw20_ListingPages.l2 k l p d (m : Int) true (totV l : Int) (wrap64 (c13 + 1)) = some true) (k : Nat) (hk : F + 20000 ≤ k) (R : List SI × Bool × ByteArray × ByteArray × Int) (hR : R = cutOut b 1000 (lst' b p.data.toList d.data.toList l)) :
    Pr.stowagelaw20_ListingPages.j5 k l p d (m : Int) true (totV l : Int) c13 R.2.2.2.2 R.1 R.2.1 R.2.2.1 R.2.2.2.1 = some true := by
  have hT := lst_len (b := b) (p := p.data.toList) (d := d.data.toList) h
  have hT2 : totV l ≤ 960 := by
    have := tot_le l (fun e he => (h.sz e he).2.1)
    have := h.len
    omega
  have hP := pageP_cut b 1000 (lst' b p.data.toList d.data.toList l)
  rw [← hR] at hP
  have hmore : R.2.1 = false := by rw [hP.more]; exact decide_eq_false (by omega)
  have hit : R.1 = (lst' b p.data.toList d.data.toList l).map itmS := by rw [hP.items, List.take_of_length_le (by omega)]
  obtain ⟨k, rfl⟩ : ∃ n, k = n + 1 := ⟨k - 1, by omega⟩
  obtain ⟨k, rfl⟩ : ∃ n, k = n + 1 := ⟨k - 1, by omega⟩
  unfold Pr.stowagelaw20_ListingPages.j5
  try dsimp only
  rw [if_pos hP.err, if_neg (by rw [hmore]; simp), show decide ((R.1.length : Int) > (totV l : Int)) = false from decide_eq_false (by rw [hit, List.length_map]; omega)]
  unfold Pr.stowagelaw20_ListingPages.j6
  try dsimp only
  rw [if_neg (by simp), hit]
  have := pages_l3 b c13 hc l h p d hp hd m hm R.2.1 R.2.2.1 R.2.2.2.1 F hout 961 k 0 (by omega) (by omega) (by omega)
  rw [Nat.zero_mul] at this
  exact this
theorem pages_l2 (l : List SE) (h : FineP l) (p d : ByteArray) (hp : p.size ≤ 400) (hd : d.size ≤ 400) (m : Nat) (hm : 1 ≤ m ∧ m ≤ 1000) (k : Nat) (hk : 50000 ≤ k) : Pr.stowagelaw20_ListingPages.l2 k l p d (m : Int) true (totV l : Int) 0 = some true := by
  have h2 : ∀ k, 1 ≤ k → Pr.stowagelaw20_ListingPages.l2 k l p d (m : Int) true (totV l : Int) (wrap64 (1 + 1)) = some true := fun k hk => by
    obtain ⟨k, rfl⟩ : ∃ n, k = n + 1 := ⟨k - 1, by omega⟩
    unfold Pr.stowagelaw20_ListingPages.l2
    rw [if_neg (by unfold wrap64; omega)]
  have hK : Pr.listing_Keys.f l p d ⟨#[]⟩ 1000 = some (cutOut false 1000 (lst' false p.data.toList d.data.toList l)) := keys_pageP h p d hp hd [] (by simp) 1000 (by omega)
  have hV : Pr.listing_Versions.f l p d ⟨#[]⟩ ⟨#[]⟩ 1000 = some (cutOut true 1000 (lst' true p.data.toList d.data.toList l)) := vers_pageP h p d hp hd [] [] (by simp) (by simp) 1000 (by omega)
  have h1 : ∀ k, 21000 ≤ k → Pr.stowagelaw20_ListingPages.l2 k l p d (m : Int) true (totV l : Int) (wrap64 (0 + 1)) = some true := fun k hk => by
    obtain ⟨k, rfl⟩ : ∃ n, k = n + 1 := ⟨k - 1, by omega⟩
    rw [show wrap64 (0 + 1) = 1 by unfold wrap64; omega]
    unfold Pr.stowagelaw20_ListingPages.l2
    rw [if_pos (by omega), hK, Option.bind_some, if_pos rfl, hV, Option.bind_some]
    exact pages_pass true 1 rfl l h p d hp hd m hm 1 h2 k (by omega) _ rfl
  obtain ⟨k, rfl⟩ : ∃ n, k = n + 1 := ⟨k - 1, by omega⟩
  unfold Pr.stowagelaw20_ListingPages.l2
  rw [if_pos (by omega), hK, Option.bind_some, if_neg (by decide)]
  exact pages_pass false 0 rfl l h p d hp hd m hm 21000 h1 k (by omega) _ rfl
end Go.Proofs.Ytdaokkajbooiaaa
end
section
/- ListingPages: plain: the guards, the law. -/
namespace Go.Proofs.Ytdaokkajbooiaaa
open Go.RowKit Go.Proofs.YtdaokkajbooiaaaW.PrintWords Go.Proofs.YtdaokkajbooiaaaW.PrintLast Go.Proofs.YtdaokkajbooiaaaW.PrintMore
open Pr (SV SE SI verL entL verS itmS itmL pageOut cutOut)
set_option linter.unusedVariables false
set_option linter.unusedSimpArgs false
def szE (e : SE) : Prop := e.f0.size ≤ 400 ∧ e.f1.length ≤ 16 ∧ ∀ v ∈ e.f1, v.f0.size ≤ 400
theorem tot_take (l : List SE) (j : Nat) (hj : j < l.length) : totV (l.take (j + 1)) = totV (l.take j) + l[j].f1.length := by
  unfold totV
  rw [List.take_add_one, List.getElem?_eq_getElem hj, List.map_append, List.sum_append]
  simp only [Option.toList_some, List.map_cons, List.map_nil, List.sum_cons, List.sum_nil, Nat.add_zero]
theorem tot_bound (l : List SE) (hl : l.length ≤ 60) (hv : ∀ e ∈ l, e.f1.length ≤ 20) (j : Nat) : totV (l.take j) ≤ 2000 := by
  have : ∀ (l : List SE), (∀ e ∈ l, e.f1.length ≤ 20) → totV l ≤ 20 * l.length := by
    intro l
    induction l with
    | nil => intro _; simp [totV]
    | cons e r ih =>
      intro h
      have h1 := ih (fun x hx => h x (List.mem_cons_of_mem _ hx))
      have he := h e (List.mem_cons_self ..)
      unfold totV at h1 ⊢
      rw [List.map_cons, List.sum_cons, List.length_cons]
      omega
  have h2 := this (l.take j) (fun e he => hv e (List.mem_of_mem_take he))
  rw [List.length_take] at h2
  omega
theorem pg_l1 (l : List SE) (p d : ByteArray) (most : Int) (tot : Int) (j : Nat) (hj : j < l.length) (hl : l.length ≤ 60) (hv : (l[j]'hj).f1.length ≤ 20) (F : Nat) (hout : (∀ v ∈ (l[j]'hj).f1, v.f0.size ≤ 400) → ∀ k, F ≤ k → Pr.stowagelaw20_ListingPages.l0 k l p d most true (wrap64 (tot + ((l[j]'hj).f1.length : Int))) ((j + 1 : Nat) : Int) = some true) :
    ∀ (n k i : Nat), i + n = (l[j]'hj).f1.length → F + n + 1 ≤ k → (∀ v ∈ (l[j]'hj).f1.take i, v.f0.size ≤ 400) → Pr.stowagelaw20_ListingPages.l1 k l p d most true tot (j : Int) (i : Int) = some true := by
  intro n
  induction n with
  | zero =>
    intro k i hi hk hI
    obtain ⟨k, rfl⟩ : ∃ n, k = n + 1 := ⟨k - 1, by omega⟩
    unfold Pr.stowagelaw20_ListingPages.l1
    rw [if_pos (by omega), if_pos (by omega), rdE l j hj, if_neg (by omega), wrap_up j _ hj (by omega)]
    rw [List.take_of_length_le (by omega)] at hI
    exact hout hI k (by omega)
  | succ n ih =>
    intro k i hi hk hI
    obtain ⟨k, rfl⟩ : ∃ n, k = n + 1 := ⟨k - 1, by omega⟩
    have hil : i < (l[j]'hj).f1.length := by omega
    unfold Pr.stowagelaw20_ListingPages.l1
    rw [if_pos (by omega), if_pos (by omega), rdE l j hj, if_pos (by omega), if_pos (by omega), rdV _ i hil]
    by_cases h : 400 < ((l[j]'hj).f1[i]).f0.size
    · rw [if_pos (by omega)]
    · rw [if_neg (by omega), wrap_up i _ hil (by omega)]
      refine ih k (i + 1) (by omega) (by omega) (fun v hv' => ?_)
      rw [List.take_add_one, List.getElem?_eq_getElem hil] at hv'
      rcases List.mem_append.1 hv' with h1 | h1
      · exact hI v h1
      · obtain rfl : v = (l[j]'hj).f1[i] := by simpa using h1
        omega
set_option maxRecDepth 100000 in
theorem pg_l0 (l : List SE) (hl : l.length ≤ 60) (hv : ∀ e ∈ l, e.f1.length ≤ 20) (hok : okFrom none (l.map entL) = true) (hun : ∀ e ∈ l, (∀ v ∈ e.f1, v.f0.data.toList ≠ []) ∧ (e.f1.map fun v => v.f0.data.toList).Pairwise (· ≠ ·)) (p d : ByteArray) (hp : p.size ≤ 400) (hd : d.size ≤ 400) (most : Int) (B : Nat) (hB : 60000 ≤ B) :
    ∀ (n k j : Nat), j + n = l.length → B + 100 * n ≤ k → (∀ e ∈ l.take j, szE e) → Pr.stowagelaw20_ListingPages.l0 k l p d most true (totV (l.take j) : Int) (j : Int) = some true := by
  intro n
  induction n with
  | zero =>
    intro k j hj hk hI
    obtain ⟨k, rfl⟩ : ∃ n, k = n + 1 := ⟨k - 1, by omega⟩
    rw [List.take_of_length_le (by omega)] at hI ⊢
    have hF : FineP l := ⟨hl, fun e he => ⟨(hI e he).1, (hI e he).2.1, fun v hv' => ⟨(hI e he).2.2 v hv', (hun e he).1 v hv'⟩⟩, hok, fun e he => (hun e he).2⟩
    obtain ⟨r, hr, hr1⟩ := pickM_f most
    unfold Pr.stowagelaw20_ListingPages.l0
    rw [if_neg (by omega), hr, Option.bind_some, show wrap64 (1 + (r : Int)) = ((r + 1 : Nat) : Int) by unfold wrap64; omega]
    exact pages_l2 l hF p d hp hd (r + 1) (by omega) k (by omega)
  | succ n ih =>
    intro k j hj hk hI
    obtain ⟨k, rfl⟩ : ∃ n, k = n + 1 := ⟨k - 1, by omega⟩
    obtain ⟨k, rfl⟩ : ∃ n, k = n + 1 := ⟨k - 1, by omega⟩
    have hjl : j < l.length := by omega
    have hvj := hv l[j] (List.getElem_mem hjl)
    have htb := tot_bound l hl hv j
    unfold Pr.stowagelaw20_ListingPages.l0
    rw [if_pos (by omega), if_pos (by omega), rdE l j hjl]
    by_cases h1 : 400 < l[j].f0.size
    · rw [if_pos (by omega)]
      unfold Pr.stowagelaw20_ListingPages.j2
      rfl
    · rw [if_neg (by omega)]
      unfold Pr.stowagelaw20_ListingPages.j2
      try dsimp only
      by_cases h2 : 16 < l[j].f1.length
      · rw [if_pos (by simp; omega)]
      · rw [if_neg (by simp; omega)]
        refine pg_l1 l p d most _ j hjl hl hvj (B + 100 * n) (fun hs k hk => ?_) l[j].f1.length k 0 (by omega) (by omega) (fun v hv' => by simp at hv')
        rw [show wrap64 ((totV (l.take j) : Int) + (l[j].f1.length : Int)) = (totV (l.take (j + 1)) : Int) by rw [tot_take l j hjl]; unfold wrap64; omega]
        refine ih k (j + 1) (by omega) (by omega) (fun e he => ?_)
        rw [List.take_add_one, List.getElem?_eq_getElem hjl] at he
        rcases List.mem_append.1 he with h | h
        · exact hI e h
        · obtain rfl : e = l[j] := by simpa using h
          exact ⟨by omega, by omega, hs⟩
set_option maxRecDepth 100000 in
theorem pages_f (k : Nat) (hk : 100000 ≤ k) (l : List SE) (p d : ByteArray) (most : Int) : Pr.stowagelaw20_ListingPages.f k l p d most = some true := by
  obtain ⟨k', hk'⟩ : ∃ n, k = n + 1 := ⟨k - 1, by omega⟩
  have hj0 : Pr.stowagelaw20_ListingPages.j0 k l p d most true true = some true := by
    rw [hk']
    unfold Pr.stowagelaw20_ListingPages.j0
    rfl
  unfold Pr.stowagelaw20_ListingPages.f
  rw [show Pr.stowagelaw20_ListingKnown.f = some true from rfl, Option.bind_some]
  obtain ⟨b, hb, hs⟩ := large_f l k (by omega)
  rw [hb, Option.bind_some]
  cases b with
  | true =>
    rw [if_pos rfl]
    exact hj0
  | false =>
    obtain ⟨hl, hv⟩ := hs rfl
    have hv2 : ∀ e ∈ l, e.f1.length ≤ 20 := fun e he => (hv e he).2.1
    rw [if_neg (by simp), check_f l k (by omega) (by omega), Option.bind_some]
    by_cases hok : okFrom none (l.map entL) = true
    · rw [if_pos hok, if_pos rfl]
      unfold Pr.stowagelaw20_long.f
      rw [show (0 : Int) = ((0 : Nat) : Int) from rfl, long_l0 [p, d] (by simp) 2 k 0 (by simp) (by omega), Option.bind_some]
      split
      · exact hj0
      · by_cases h1 : 400 < p.size
        · rw [if_pos (by omega)]
          exact hj0
        · rw [if_neg (by omega)]
          by_cases h2 : 400 < d.size
          · rw [if_pos (by omega)]
            exact hj0
          · rw [if_neg (by omega)]
            obtain ⟨u, hu, hun⟩ := unl_f l k (by omega) hl hv2
            rw [hu, Option.bind_some]
            cases u with
            | false => exact hj0
            | true =>
              rw [hk']
              unfold Pr.stowagelaw20_ListingPages.j0
              try dsimp only
              rw [if_neg (by simp)]
              exact pg_l0 l hl hv2 hok (hun rfl) p d (by omega) (by omega) most 60000 (Nat.le_refl _) l.length k' 0 (by omega) (by omega) (fun e he => by simp at he)
    · rw [if_neg hok, if_neg (by decide)]
      exact hj0
end Go.Proofs.Ytdaokkajbooiaaa
end
