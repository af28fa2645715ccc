/- Texts of this proof, put together: Pl20, Pm20, Pn20, Tl20. -/
import Derived.Test.YtahkcfhiecfgeaaMListingTellso
import Derived.Test.YtahkcfhiecfgeaaMListingTellsp
import Derived.Test.YtahkcfhiecfgeaaMListingTellse
import Derived.Test.YtahkcfhiecfgeaaMListingTellsf
section
/- Listing, the plain law: what the printed forms of the small functions answer. -/
namespace Go.Proofs.Ytahkcfhiecfgeaa
open Go.RowKit Go.Proofs.YtahkcfhiecfgeaaW.PrintWords Go.Proofs.YtahkcfhiecfgeaaW.PrintLast Go.Proofs.YtahkcfhiecfgeaaW.PrintMore
open Pr (SV SE SI verL entL verS itmS itmL)
set_option linter.unusedVariables false
set_option linter.unusedSimpArgs false
theorem wrap_up (j n : Nat) (h : j < n) (hn : n ≤ 1000000) : wrap64 ((j : Int) + 1) = ((j + 1 : Nat) : Int) := by unfold wrap64; omega
theorem wrap_dn (j : Nat) (h : 0 < j) (hn : j ≤ 1000000) : wrap64 ((j : Int) - 1) = ((j - 1 : Nat) : Int) := by unfold wrap64; omega
theorem wrap_id (j : Nat) (hn : j ≤ 3000000) : wrap64 (j : Int) = (j : Int) := by unfold wrap64; omega
theorem rdE (l : List SE) (j : Nat) (h : j < l.length) : Pr.rd_T47 l (j : Int) = l[j] := by
  unfold Pr.rd_T47
  rw [Int.toNat_natCast, List.getD_eq_getElem?_getD, List.getElem?_eq_getElem h]
  rfl
theorem rdV (l : List SV) (j : Nat) (h : j < l.length) : Pr.rd_T37 l (j : Int) = l[j] := by
  unfold Pr.rd_T37
  rw [Int.toNat_natCast, List.getD_eq_getElem?_getD, List.getElem?_eq_getElem h]
  rfl
theorem rdI (l : List SI) (j : Nat) (h : j < l.length) : Pr.rd_T39 l (j : Int) = l[j] := by
  unfold Pr.rd_T39
  rw [Int.toNat_natCast, List.getD_eq_getElem?_getD, List.getElem?_eq_getElem h]
  rfl
def bigE (e : SE) : Bool := decide (600 < e.f0.size) || decide (20 < e.f1.length) || e.f1.any fun v => decide (600 < v.f0.size)
theorem large_l1 (l : List SE) (hl : l.length ≤ 60) (j : Nat) (hj : j < l.length) (F : Nat) (R : Bool) (hout : ∀ k, F ≤ k → Pr.stowagekit_LargeEntries.l0 k l ((j + 1 : Nat) : Int) = some R) (hv : l[j].f1.length ≤ 20) :
    ∀ (d k m : Nat), m + d = l[j].f1.length → F + d + 1 ≤ k → Pr.stowagekit_LargeEntries.l1 k l (j : Int) (m : Int) = some (((l[j].f1.drop m).any fun v => decide (600 < v.f0.size)) || R) := by
  intro d
  induction d with
  | zero =>
    intro k m hm hk
    obtain ⟨k, rfl⟩ : ∃ n, k = n + 1 := ⟨k - 1, by omega⟩
    unfold Pr.stowagekit_LargeEntries.l1
    rw [if_pos (by omega), if_pos (by omega), rdE l j hj, if_neg (by omega), wrap_up j l.length hj (by omega), hout k (by omega), List.drop_of_length_le (by omega)]
    simp
  | succ d ih =>
    intro k m hm hk
    obtain ⟨k, rfl⟩ : ∃ n, k = n + 1 := ⟨k - 1, by omega⟩
    unfold Pr.stowagekit_LargeEntries.l1
    rw [if_pos (by omega), if_pos (by omega), rdE l j hj, if_pos (by omega), if_pos (by omega), rdV _ m (by omega), List.drop_eq_getElem_cons (by omega : m < l[j].f1.length), List.any_cons]
    by_cases h : 600 < (l[j].f1[m]).f0.size
    · rw [if_pos (by omega), decide_eq_true h]; simp
    · rw [if_neg (by omega), wrap_up m l[j].f1.length (by omega) (by omega), ih k (m + 1) (by omega) (by omega), decide_eq_false h]; simp
theorem large_l0 (l : List SE) (hl : l.length ≤ 60) : ∀ (d k j : Nat), j + d = l.length → 30 * d + 1 ≤ k → Pr.stowagekit_LargeEntries.l0 k l (j : Int) = some ((l.drop j).any bigE) := by
  intro d
  induction d with
  | zero =>
    intro k j hj hk
    obtain ⟨k, rfl⟩ : ∃ n, k = n + 1 := ⟨k - 1, by omega⟩
    unfold Pr.stowagekit_LargeEntries.l0
    rw [if_neg (by omega), List.drop_of_length_le (by omega)]
    rfl
  | succ d ih =>
    intro k j hj hk
    obtain ⟨k, rfl⟩ : ∃ n, k = n + 1 := ⟨k - 1, by omega⟩
    obtain ⟨k, rfl⟩ : ∃ n, k = n + 1 := ⟨k - 1, by omega⟩
    have hjl : j < l.length := by omega
    unfold Pr.stowagekit_LargeEntries.l0
    rw [if_pos (by omega), if_pos (by omega), rdE l j hjl, List.drop_eq_getElem_cons hjl, List.any_cons]
    by_cases h1 : 600 < (l[j]).f0.size
    · rw [if_pos (by omega)]
      unfold Pr.stowagekit_LargeEntries.j1
      rw [if_pos rfl]
      simp [bigE, h1]
    · rw [if_neg (by omega)]
      unfold Pr.stowagekit_LargeEntries.j1
      by_cases h2 : 20 < (l[j]).f1.length
      · rw [if_pos (by simp; omega)]
        simp [bigE, h2]
      · rw [if_neg (by simp; omega), show (0 : Int) = ((0 : Nat) : Int) by rfl, large_l1 l hl j hjl (30 * d + 1) _ (fun k hk => ih k (j + 1) (by omega) hk) (by omega) (l[j]).f1.length k 0 (by omega) (by omega)]
        simp [bigE, h1, h2]
theorem large_f (l : List SE) (k : Nat) (hk : 2000 ≤ k) : ∃ b, Pr.stowagekit_LargeEntries.f k l = some b ∧ (b = false → l.length ≤ 60 ∧ ∀ e ∈ l, e.f0.size ≤ 600 ∧ e.f1.length ≤ 20 ∧ ∀ v ∈ e.f1, v.f0.size ≤ 600) := by
  unfold Pr.stowagekit_LargeEntries.f
  by_cases h : 60 < l.length
  · rw [if_pos (by omega)]
    exact ⟨true, rfl, fun h => by cases h⟩
  · rw [if_neg (by omega)]
    refine ⟨_, large_l0 l (by omega) l.length k 0 (by omega) (by omega), fun hb => ⟨by omega, fun e he => ?_⟩⟩
    rw [List.drop_zero, List.any_eq_false] at hb
    have := hb e he
    unfold bigE at this
    simp only [Bool.or_eq_true, decide_eq_true_eq, List.any_eq_true, not_or, not_exists, not_and] at this
    exact ⟨by omega, by omega, fun v hv => by have := this.2 v hv; omega⟩
theorem copy_l0 (l : List SE) (hl : l.length ≤ 60) (hv : ∀ e ∈ l, e.f1.length ≤ 20) : ∀ (d k j : Nat), j + d = l.length → d + 1 ≤ k → Pr.stowagekit_CopyEntries.l0 k l (l.take j) (j : Int) = some l := by
  intro d
  induction d with
  | zero =>
    intro k j hj hk
    obtain ⟨k, rfl⟩ : ∃ n, k = n + 1 := ⟨k - 1, by omega⟩
    unfold Pr.stowagekit_CopyEntries.l0
    rw [if_neg (by omega), List.take_of_length_le (by omega)]
  | succ d ih =>
    intro k j hj hk
    obtain ⟨k, rfl⟩ : ∃ n, k = n + 1 := ⟨k - 1, by omega⟩
    have hjl : j < l.length := by omega
    have hvj := hv l[j] (List.getElem_mem hjl)
    unfold Pr.stowagekit_CopyEntries.l0
    rw [if_pos (by omega), if_pos (by omega), rdE l j hjl, Option.bind_some]
    rw [if_pos (by simp; omega), if_pos (by rw [List.length_take]; omega), wrap_up j l.length hjl (by omega), List.nil_append]
    have e : l.take j ++ [(⟨l[j].f0, l[j].f1⟩ : SE)] = l.take (j + 1) := by rw [List.take_add_one, List.getElem?_eq_getElem hjl]; rfl
    rw [e]
    exact ih k (j + 1) (by omega) (by omega)
theorem copy_f (l : List SE) (k : Nat) (hk : 100 ≤ k) (hl : l.length ≤ 60) (hv : ∀ e ∈ l, e.f1.length ≤ 20) : Pr.stowagekit_CopyEntries.f k l = some l := copy_l0 l hl hv l.length k 0 (by omega) (by omega)
theorem page_l0 (l : List SI) (b : Bool) (x y : ByteArray) (hl : l.length ≤ 1000000) : ∀ (d k j : Nat), j + d = l.length → d + 1 ≤ k → Pr.stowagekit_SamePage.l0 k (j : Int) l b x y l b x y = some true := by
  intro d
  induction d with
  | zero =>
    intro k j hj hk
    obtain ⟨k, rfl⟩ : ∃ n, k = n + 1 := ⟨k - 1, by omega⟩
    unfold Pr.stowagekit_SamePage.l0
    rw [if_neg (by omega)]
  | succ d ih =>
    intro k j hj hk
    obtain ⟨k, rfl⟩ : ∃ n, k = n + 1 := ⟨k - 1, by omega⟩
    unfold Pr.stowagekit_SamePage.l0
    rw [if_pos (by omega), if_pos (by omega), if_pos (by omega), if_neg (by simp), wrap_up j l.length (by omega) hl]
    exact ih k (j + 1) (by omega) (by omega)
theorem page_f (l : List SI) (b : Bool) (x y : ByteArray) (k : Nat) (hl : l.length ≤ 1000000) (hk : l.length + 2 ≤ k) : Pr.stowagekit_SamePage.f k l b x y l b x y = some true := by
  obtain ⟨k, rfl⟩ : ∃ n, k = n + 1 := ⟨k - 1, by omega⟩
  unfold Pr.stowagekit_SamePage.f
  rw [if_pos rfl, if_neg (by simp), if_pos rfl]
  unfold Pr.stowagekit_SamePage.j0
  try dsimp only
  rw [if_neg (by simp)]
  exact page_l0 l b x y hl l.length k 0 (by omega) (by omega)
theorem vers_l0 (l : List SV) (hl : l.length ≤ 1000000) : ∀ (d k j : Nat), j + d = l.length → d + 1 ≤ k → Pr.stowagekit_SameVersions.l0 k l l (j : Int) = some true := by
  intro d
  induction d with
  | zero =>
    intro k j hj hk
    obtain ⟨k, rfl⟩ : ∃ n, k = n + 1 := ⟨k - 1, by omega⟩
    unfold Pr.stowagekit_SameVersions.l0
    rw [if_neg (by omega)]
  | succ d ih =>
    intro k j hj hk
    obtain ⟨k, rfl⟩ : ∃ n, k = n + 1 := ⟨k - 1, by omega⟩
    unfold Pr.stowagekit_SameVersions.l0
    rw [if_pos (by omega), if_pos (by omega), if_pos (by omega), if_neg (by simp), wrap_up j l.length (by omega) hl]
    exact ih k (j + 1) (by omega) (by omega)
theorem ents_l0 (l : List SE) (hl : l.length ≤ 60) (hv : ∀ e ∈ l, e.f1.length ≤ 20) : ∀ (d k j : Nat), j + d = l.length → d + 30 ≤ k → Pr.stowagekit_SameEntries.l0 k l l (j : Int) = some true := by
  intro d
  induction d with
  | zero =>
    intro k j hj hk
    obtain ⟨k, rfl⟩ : ∃ n, k = n + 1 := ⟨k - 1, by omega⟩
    unfold Pr.stowagekit_SameEntries.l0
    rw [if_neg (by omega)]
  | succ d ih =>
    intro k j hj hk
    obtain ⟨k, rfl⟩ : ∃ n, k = n + 1 := ⟨k - 1, by omega⟩
    have hvj := hv l[j] (List.getElem_mem (by omega))
    unfold Pr.stowagekit_SameEntries.l0
    rw [if_pos (by omega), if_pos (by omega), if_pos (by omega), if_pos rfl, rdE l j (by omega)]
    unfold Pr.stowagekit_SameVersions.f
    rw [if_pos rfl, show (0 : Int) = ((0 : Nat) : Int) by rfl, vers_l0 _ (by omega) _ k 0 (Nat.zero_add _) (by omega), Option.bind_some, if_pos rfl, wrap_up j l.length (by omega) (by omega)]
    exact ih k (j + 1) (by omega) (by omega)
theorem ents_f (l : List SE) (k : Nat) (hk : 100 ≤ k) (hl : l.length ≤ 60) (hv : ∀ e ∈ l, e.f1.length ≤ 20) : Pr.stowagekit_SameEntries.f k l l = some true := by
  unfold Pr.stowagekit_SameEntries.f
  rw [if_pos rfl]
  exact ents_l0 l hl hv l.length k 0 (by omega) (by omega)
theorem okFrom_step (q : Option Bs) (e : SE) (r : List SE) : okFrom q ((e :: r).map entL) = (!(decide (e.f1.length = 0)) && (match q with | none => true | some q => decide (q < e.f0.data.toList)) && okFrom (some e.f0.data.toList) (r.map entL)) := by
  rw [List.map_cons]
  conv => lhs; unfold okFrom
  have h : (!(entL e).vs.isEmpty) = !(decide (e.f1.length = 0)) := by cases h : e.f1 <;> simp [entL, h]
  rw [h]
  rfl
def prevE (l : List SE) (j : Nat) : Option Bs := if j = 0 then none else (l[j - 1]?).map fun e => e.f0.data.toList
theorem okFrom_at (l : List SE) (j : Nat) (h : j < l.length) : okFrom (prevE l j) ((l.drop j).map entL) = (!(decide (l[j].f1.length = 0)) && (if h0 : j = 0 then true else decide ((l[j - 1]'(by omega)).f0.data.toList < l[j].f0.data.toList)) && okFrom (prevE l (j + 1)) ((l.drop (j + 1)).map entL)) := by
  rw [List.drop_eq_getElem_cons h, okFrom_step]
  congr 1
  · congr 1
    unfold prevE
    by_cases h0 : j = 0
    · simp [h0]
    · rw [if_neg h0, dif_neg h0, List.getElem?_eq_getElem (by omega)]
      rfl
  · unfold prevE
    rw [if_neg (by omega), Nat.add_sub_cancel, List.getElem?_eq_getElem h]
    rfl
theorem bl_not (a b : ByteArray) : (!(Op.bytesLess a.toList b.toList)) = !decide (a.data.toList < b.data.toList) := by rw [bytesLess_eq, bs_toList, bs_toList]
theorem check_l0 (l : List SE) (hl : l.length ≤ 1000000) : ∀ (d k j : Nat), j + d = l.length → 2 * d + 1 ≤ k → Pr.listing_Check.l0 k l l (l.length : Int) (j : Int) = some (if okFrom (prevE l j) ((l.drop j).map entL) = true then 0 else 2) := by
  intro d
  induction d with
  | zero =>
    intro k j hj hk
    obtain ⟨k, rfl⟩ : ∃ n, k = n + 1 := ⟨k - 1, by omega⟩
    unfold Pr.listing_Check.l0
    rw [if_neg (by omega), List.drop_of_length_le (by omega)]
    rfl
  | succ d ih =>
    intro k j hj hk
    obtain ⟨k, rfl⟩ : ∃ n, k = n + 1 := ⟨k - 1, by omega⟩
    obtain ⟨k, rfl⟩ : ∃ n, k = n + 1 := ⟨k - 1, by omega⟩
    have hjl : j < l.length := by omega
    have ihk := ih k (j + 1) (by omega) (by omega)
    rw [okFrom_at l j hjl]
    unfold Pr.listing_Check.l0
    rw [if_pos (by omega), if_pos (by omega), if_pos (by omega), rdE l j hjl]
    by_cases h1 : l[j].f1.length = 0
    · rw [if_pos (by omega)]
      unfold Pr.listing_Check.j1
      try dsimp only
      rw [if_pos rfl]
      simp [h1]
    · rw [if_neg (by omega)]
      by_cases h0 : j = 0
      · subst h0
        rw [if_neg (by omega)]
        unfold Pr.listing_Check.j1
        try dsimp only
        rw [if_neg (by simp), wrap_up 0 l.length hjl hl, ihk]
        simp [h1]
      · rw [if_pos (by omega), wrap_dn j (by omega) (by omega), if_pos (by omega), if_pos (by omega), rdE l (j - 1) (by omega), bl_not]
        unfold Pr.listing_Check.j1
        try dsimp only
        by_cases h2 : (l[j - 1]'(by omega)).f0.data.toList < l[j].f0.data.toList
        · rw [if_neg (by simp [h2]), wrap_up j l.length hjl hl, ihk]
          simp [h1, h0, h2]
        · rw [if_pos (by simp [h2])]
          simp [h0, h2]
theorem check_f (l : List SE) (k : Nat) (hl : l.length ≤ 1000000) (hk : 2 * l.length + 1 ≤ k) : Pr.listing_Check.f k l = some (if okFrom none (l.map entL) = true then 0 else 2) := check_l0 l hl l.length k 0 (by omega) hk
theorem rcheck_l0 (l : List SE) (hl : l.length ≤ 1000000) : ∀ (d k j : Nat), j + d = l.length → 2 * d + 1 ≤ k → Pr.stowageref20_Check.l0 k l (j : Int) = some (if okFrom (prevE l j) ((l.drop j).map entL) = true then 0 else 2) := by
  intro d
  induction d with
  | zero =>
    intro k j hj hk
    obtain ⟨k, rfl⟩ : ∃ n, k = n + 1 := ⟨k - 1, by omega⟩
    unfold Pr.stowageref20_Check.l0
    rw [if_neg (by omega), List.drop_of_length_le (by omega)]
    rfl
  | succ d ih =>
    intro k j hj hk
    obtain ⟨k, rfl⟩ : ∃ n, k = n + 1 := ⟨k - 1, by omega⟩
    obtain ⟨k, rfl⟩ : ∃ n, k = n + 1 := ⟨k - 1, by omega⟩
    have hjl : j < l.length := by omega
    have ihk := ih k (j + 1) (by omega) (by omega)
    rw [okFrom_at l j hjl]
    unfold Pr.stowageref20_Check.l0
    rw [if_pos (by omega), if_pos (by omega), rdE l j hjl]
    by_cases h1 : l[j].f1.length = 0
    · rw [if_pos (by omega)]
      unfold Pr.stowageref20_Check.j1
      try dsimp only
      rw [if_pos rfl]
      simp [h1]
    · rw [if_neg (by omega)]
      by_cases h0 : j = 0
      · subst h0
        rw [if_neg (by omega)]
        unfold Pr.stowageref20_Check.j1
        try dsimp only
        rw [if_neg (by simp), wrap_up 0 l.length hjl hl, ihk]
        simp [h1]
      · rw [if_pos (by omega), wrap_dn j (by omega) (by omega), if_pos (by omega), if_pos (by omega), rdE l (j - 1) (by omega), bl_not]
        unfold Pr.stowageref20_Check.j1
        try dsimp only
        by_cases h2 : (l[j - 1]'(by omega)).f0.data.toList < l[j].f0.data.toList
        · rw [if_neg (by simp [h2]), wrap_up j l.length hjl hl, ihk]
          simp [h1, h0, h2]
        · rw [if_pos (by simp [h2])]
          simp [h0, h2]
theorem rcheck_f (l : List SE) (k : Nat) (hl : l.length ≤ 1000000) (hk : 2 * l.length + 1 ≤ k) : Pr.stowageref20_Check.f k l = some (if okFrom none (l.map entL) = true then 0 else 2) := rcheck_l0 l hl l.length k 0 (by omega) hk
theorem rdS (l : List ByteArray) (j : Nat) (h : j < l.length) : rdOf ByteArray.empty l (j : Int) = l[j] := by
  unfold rdOf
  rw [Int.toNat_natCast, List.getD_eq_getElem?_getD, List.getElem?_eq_getElem h]
  rfl
theorem long_l0 (l : List ByteArray) (hl : l.length ≤ 1000000) : ∀ (d k j : Nat), j + d = l.length → d + 1 ≤ k → Pr.stowagelaw20_long.l0 k l (j : Int) = some ((l.drop j).any fun s => decide (600 < s.size)) := by
  intro d
  induction d with
  | zero =>
    intro k j hj hk
    obtain ⟨k, rfl⟩ : ∃ n, k = n + 1 := ⟨k - 1, by omega⟩
    unfold Pr.stowagelaw20_long.l0
    rw [if_neg (by omega), List.drop_of_length_le (by omega)]
    rfl
  | succ d ih =>
    intro k j hj hk
    obtain ⟨k, rfl⟩ : ∃ n, k = n + 1 := ⟨k - 1, by omega⟩
    have hjl : j < l.length := by omega
    unfold Pr.stowagelaw20_long.l0
    rw [if_pos (by omega), if_pos (by omega), rdS l j hjl, List.drop_eq_getElem_cons hjl, List.any_cons]
    by_cases h : 600 < l[j].size
    · rw [if_pos (by omega), decide_eq_true h]; rfl
    · rw [if_neg (by omega), wrap_up j l.length hjl hl, ih k (j + 1) (by omega) (by omega), decide_eq_false h]; rfl
theorem wrong_l0 (l : List SE) (t : List ByteArray) (most : Int) (ht : t.length ≤ 1000) (hl : l.length ≤ 1000000) : ∀ (d k j : Nat), j + d = t.length → d + 2 * l.length + 3 ≤ k → Pr.stowageref20_wrong.l0 k l t most (j : Int) = some (if ((t.drop j).any fun s => decide (400 < s.size)) = true then 3 else if okFrom none (l.map entL) = false then 2 else if most < 1 ∨ 1000 < most then 5 else 0) := by
  intro d
  induction d with
  | zero =>
    intro k j hj hk
    obtain ⟨k, rfl⟩ : ∃ n, k = n + 1 := ⟨k - 1, by omega⟩
    unfold Pr.stowageref20_wrong.l0
    rw [if_neg (by omega), List.drop_of_length_le (by omega), rcheck_f l k hl (by omega), Option.bind_some]
    obtain ⟨k, rfl⟩ : ∃ n, k = n + 1 := ⟨k - 1, by omega⟩
    unfold Pr.stowageref20_wrong.j1
    try dsimp only
    cases hok : okFrom none (l.map entL)
    · simp
    · by_cases h1 : most < 1
      · simp [h1]
      · by_cases h2 : 1000 < most
        · simp [h1, h2]
        · simp [h1, h2]
  | succ d ih =>
    intro k j hj hk
    obtain ⟨k, rfl⟩ : ∃ n, k = n + 1 := ⟨k - 1, by omega⟩
    have hjl : j < t.length := by omega
    unfold Pr.stowageref20_wrong.l0
    rw [if_pos (by omega), if_pos (by omega), rdS t j hjl, List.drop_eq_getElem_cons hjl, List.any_cons]
    by_cases h : 400 < t[j].size
    · rw [if_pos (by omega), decide_eq_true h]; rfl
    · rw [if_neg (by omega), wrap_up j t.length hjl (by omega), ih k (j + 1) (by omega) (by omega), decide_eq_false h]; rfl
end Go.Proofs.Ytahkcfhiecfgeaa
end
section
/- Listing, the plain law: the reference's list. -/
namespace Go.Proofs.Ytahkcfhiecfgeaa
open Go.RowKit Go.Proofs.YtahkcfhiecfgeaaW.PrintWords Go.Proofs.YtahkcfhiecfgeaaW.PrintLast Go.Proofs.YtahkcfhiecfgeaaW.PrintMore
open Pr (SV SE SI verL entL verS itmS itmL)
set_option linter.unusedVariables false
set_option linter.unusedSimpArgs false
theorem ext0 (s : ByteArray) (n : Nat) : (s.extract 0 n).toList = s.data.toList.take n := by
  rw [ext_list, bs_toList]
  simp
theorem ext0B (s : ByteArray) (n : Nat) : s.extract 0 n = BA (s.data.toList.take n) := by
  rw [ext_list]
  simp
theorem extm (s : ByteArray) (a m : Nat) : (s.extract a (a + m)).toList = (s.data.toList.drop a).take m := by
  rw [ext_list, bs_toList, Nat.add_sub_cancel_left]
theorem begins_f (s p : ByteArray) : Pr.stowageref20_begins.f s p = some (p.data.toList.isPrefixOf s.data.toList) := by
  unfold Pr.stowageref20_begins.f
  rw [begins_pre]
  by_cases h : p.size ≤ s.size
  · rw [if_pos (by omega), if_pos (by omega), if_pos (by omega), Int.toNat_natCast, ext0, bs_toList, decide_eq_true h]
    simp
  · rw [if_neg (by omega), decide_eq_false h]
    rfl
def comB (o : Option Bs) : ByteArray × Bool := match o with
  | some c => (BA c, true)
  | none => (⟨#[]⟩, false)
theorem common_l0 (s d : ByteArray) (hs : s.size < 1000000) (hd : d.size ≤ 1000000) (hd0 : d.data.toList ≠ []) : ∀ (n k j : Nat), j + n = s.size + 1 → n + 1 ≤ k → Pr.stowageref20_common.l0 k s d (j : Int) = some (comB (stC s.data.toList d.data.toList j)) := by
  have ls : s.data.toList.length = s.size := by simp
  have ld : d.data.toList.length = d.size := by simp
  have hdz : d.size ≠ 0 := fun h => hd0 (List.eq_nil_of_length_eq_zero (by omega))
  intro n
  induction n with
  | zero =>
    intro k j hj hk
    obtain ⟨k, rfl⟩ : ∃ n, k = n + 1 := ⟨k - 1, by omega⟩
    unfold Pr.stowageref20_common.l0
    have hw : wrap64 ((j : Int) + (d.size : Int)) = ((j + d.size : Nat) : Int) := by unfold wrap64; omega
    rw [hw, if_neg (by omega)]
    have : stC s.data.toList d.data.toList j = none := by
      unfold stC
      rw [List.drop_of_length_le (by omega)]
      unfold headL
      rw [if_neg hd0]
      rfl
    rw [this]
    rfl
  | succ n ih =>
    intro k j hj hk
    obtain ⟨k, rfl⟩ : ∃ n, k = n + 1 := ⟨k - 1, by omega⟩
    unfold Pr.stowageref20_common.l0
    have hw : wrap64 ((j : Int) + (d.size : Int)) = ((j + d.size : Nat) : Int) := by unfold wrap64; omega
    rw [hw]
    by_cases h : j + d.size ≤ s.size
    · rw [if_pos (by omega), if_pos (by omega), if_pos (by omega), Int.toNat_natCast, Int.toNat_natCast, extm, bs_toList d]
      by_cases hm : (s.data.toList.drop j).take d.size = d.data.toList
      · rw [if_pos hm, if_pos (by omega), ext0B, stC_hit _ _ _ (by rw [ld]; exact hm), ld]
        rfl
      · rw [if_neg hm, stC_step s.data.toList d.data.toList j (by omega) (by rw [ld]; exact hm), wrap_up j (s.size + 1) (by omega) (by omega), ih k (j + 1) (by omega) (by omega)]
    · rw [if_neg (by omega), stC_end _ _ _ (by omega) (by omega)]
      rfl
theorem common_f (s p d : ByteArray) (k : Nat) (hs : s.size < 1000000) (hd : d.size ≤ 1000000) (hp : p.data.toList <+: s.data.toList) (hk : s.size + 2 ≤ k) : Pr.stowageref20_common.f k s p d = some (comB (commonL p.data.toList d.data.toList s.data.toList)) := by
  have lp : p.data.toList.length = p.size := by simp
  have ls : s.data.toList.length = s.size := by simp
  have hle := hp.length_le
  unfold Pr.stowageref20_common.f
  rw [bs_toList]
  by_cases h : d.data.toList = []
  · rw [if_pos h]
    unfold commonL
    rw [if_pos h]
    rfl
  · rw [if_neg h, common_l0 s d hs hd h (s.size + 1 - p.size) k p.size (by omega) (by omega), stC_start _ _ _ hp h, lp]
theorem itm_back (v : SV) : verS (verL v) = v := by
  obtain ⟨a, b, c, d, e⟩ := v
  simp [verS, verL, Pr.ba_data]
theorem ver0_S : verS ver0 = ⟨⟨#[]⟩, 0, false, 0, ⟨#[]⟩⟩ := rfl
theorem listed_l1 (l : List SE) (p d : ByteArray) (vers : Bool) (j : Nat) (hj : j < l.length) (hl : l.length ≤ 60) (key : ByteArray) (vs : List SV) (F : Nat) (R : List Itm → Option (List SI)) (hvl : vs.length ≤ 20)
    (hout : ∀ k out, F ≤ k → out.length ≤ 21 * (j + 1) → Pr.stowageref20_Listed.l0 k l p d vers (out.map itmS) ((j + 1 : Nat) : Int) = R out) :
    ∀ (n k m : Nat) (out : List Itm), m + n = vs.length → F + n + 1 ≤ k → out.length ≤ 21 * j + m →
      Pr.stowageref20_Listed.l1 k l p d vers (out.map itmS) (j : Int) (m : Int) key vs = R (out ++ versItms key.data.toList (decide (m = 0)) ((vs.drop m).map verL)) := by
  intro n
  induction n with
  | zero =>
    intro k m out hm hk ho
    obtain ⟨k, rfl⟩ : ∃ n, k = n + 1 := ⟨k - 1, by omega⟩
    unfold Pr.stowageref20_Listed.l1
    rw [if_neg (by omega), List.drop_of_length_le (by omega), wrap_up j l.length hj (by omega), hout k out (by omega) (by omega)]
    simp [versItms]
  | succ n ih =>
    intro k m out hm hk ho
    obtain ⟨k, rfl⟩ : ∃ n, k = n + 1 := ⟨k - 1, by omega⟩
    have hml : m < vs.length := by omega
    unfold Pr.stowageref20_Listed.l1
    rw [if_pos (by omega), if_pos (by omega), if_pos (by rw [List.length_map]; omega), rdV vs m hml, List.drop_eq_getElem_cons hml, List.map_cons]
    have e : out.map itmS ++ [(⟨key, false, ⟨vs[m].f0, vs[m].f1, vs[m].f2, vs[m].f3, vs[m].f4⟩, ((m : Int) == 0)⟩ : SI)] = (out ++ [(⟨key.data.toList, false, verL vs[m], decide (m = 0)⟩ : Itm)]).map itmS := by
      rw [List.map_append]
      congr 1
      simp only [List.map_cons, List.map_nil, itmS, itm_back, Pr.ba_data]
      congr 2
      by_cases h : m = 0 <;> simp [h]
    rw [e, wrap_up m vs.length hml (by omega), ih k (m + 1) _ (by omega) (by omega) (by simp; omega)]
    congr 1
    rw [List.append_assoc]
    simp [versItms]
theorem listed_l0 (l : List SE) (p d : ByteArray) (vers : Bool) (hl : l.length ≤ 60) (hv : ∀ e ∈ l, e.f0.size ≤ 600 ∧ e.f1.length ≤ 20 ∧ e.f1 ≠ []) (hd : d.size ≤ 1000000) : ∀ (n k j : Nat) (out : List Itm), j + n = l.length → 30 * n + 800 ≤ k → out.length ≤ 21 * j →
    Pr.stowageref20_Listed.l0 k l p d vers (out.map itmS) (j : Int) = some ((listR p.data.toList d.data.toList vers out ((l.drop j).map entL)).map itmS) := by
  intro n
  induction n with
  | zero =>
    intro k j out hj hk ho
    obtain ⟨k, rfl⟩ : ∃ n, k = n + 1 := ⟨k - 1, by omega⟩
    unfold Pr.stowageref20_Listed.l0
    rw [if_neg (by omega), List.drop_of_length_le (by omega)]
    rfl
  | succ n ih =>
    intro k j out hj hk ho
    obtain ⟨k, rfl⟩ : ∃ n, k = n + 1 := ⟨k - 1, by omega⟩
    obtain ⟨k, rfl⟩ : ∃ n, k = n + 1 := ⟨k - 1, by omega⟩
    have hjl : j < l.length := by omega
    obtain ⟨hk0, hv20, hvne⟩ := hv l[j] (List.getElem_mem hjl)
    have hvpos : 0 < l[j].f1.length := List.length_pos_iff.2 hvne
    have hup := wrap_up j l.length hjl (by omega)
    rw [List.drop_eq_getElem_cons hjl, List.map_cons]
    generalize hr : (l.drop (j + 1)).map entL = rest
    have ih' : ∀ k out, 30 * n + 800 ≤ k → out.length ≤ 21 * (j + 1) → Pr.stowageref20_Listed.l0 k l p d vers (out.map itmS) ((j + 1 : Nat) : Int) = some ((listR p.data.toList d.data.toList vers out rest).map itmS) := fun k out h1 h2 => by rw [← hr]; exact ih k (j + 1) out (by omega) h1 (by omega)
    have hfirst : (Pr.rd_T37 l[j].f1 0) = l[j].f1[0] := rdV _ 0 hvpos
    have hfv : firstV (entL l[j]) = verL (l[j].f1[0]) := by
      unfold firstV
      show ((l[j].f1).map verL).headD ver0 = _
      rw [List.headD_eq_head?_getD, List.head?_map, List.head?_eq_getElem?, List.getElem?_eq_getElem hvpos]
      rfl
    conv => rhs; unfold listR
    have hsk : skips p.data.toList vers (entL l[j]) = (!(p.data.toList.isPrefixOf l[j].f0.data.toList) || (!vers && (l[j].f1[0]).f2)) := by
      unfold skips
      rw [hfv]
      rfl
    have hj1 : ∀ b, b = skips p.data.toList vers (entL l[j]) → Pr.stowageref20_Listed.j1 (k + 1) l p d vers (out.map itmS) (j : Int) b l[j].f0 l[j].f1 = some (List.map itmS (if skips p.data.toList vers (entL l[j]) = true then listR p.data.toList d.data.toList vers out rest
        else match commonL p.data.toList d.data.toList (entL l[j]).key with
          | some c => if out.getLast?.any (fun x => x.common && decide (x.name = c)) = true then listR p.data.toList d.data.toList vers out rest else listR p.data.toList d.data.toList vers (out ++ [comItm c]) rest
          | none => listR p.data.toList d.data.toList vers (out ++ itemsOf vers (entL l[j])) rest)) := by
      intro b hb
      rw [← hb]
      unfold Pr.stowageref20_Listed.j1
      try dsimp only
      cases hbb : b with
      | true =>
        rw [if_pos rfl, if_pos rfl, hup]
        exact ih' k out (by omega) (by omega)
      | false =>
        simp only [Bool.false_eq_true, if_false]
        rw [hbb] at hb
        rw [hsk] at hb
        have hpre : p.data.toList <+: l[j].f0.data.toList := by
          rw [← List.isPrefixOf_iff_prefix]
          cases h : p.data.toList.isPrefixOf l[j].f0.data.toList with
          | true => rfl
          | false => rw [h] at hb; simp at hb
        rw [common_f _ p d k (by omega) hd hpre (by omega), Option.bind_some]
        show _ = some (List.map itmS (match commonL p.data.toList d.data.toList l[j].f0.data.toList with
          | some c => _
          | none => _))
        cases hc : commonL p.data.toList d.data.toList l[j].f0.data.toList with
        | none =>
          simp only [comB, Bool.false_eq_true, if_false]
          cases vers with
          | true =>
            rw [if_pos rfl]
            have := listed_l1 l p d true j hjl hl l[j].f0 l[j].f1 (30 * n + 800) (fun out => some ((listR p.data.toList d.data.toList true out rest).map itmS)) hv20 ih' l[j].f1.length k 0 out (by omega) (by omega) (by omega)
            rw [show ((0 : Nat) : Int) = 0 from rfl] at this
            rw [this]
            simp [itemsOf, entL]
          | false =>
            rw [if_neg (by simp), if_pos (by omega), if_pos (by rw [List.length_map]; omega), hfirst, hup]
            have e : out.map itmS ++ [(⟨l[j].f0, false, ⟨(l[j].f1[0]).f0, (l[j].f1[0]).f1, (l[j].f1[0]).f2, (l[j].f1[0]).f3, (l[j].f1[0]).f4⟩, false⟩ : SI)] = (out ++ itemsOf false (entL l[j])).map itmS := by
              rw [List.map_append]
              congr 1
              simp only [itemsOf, Bool.false_eq_true, if_false, List.map_cons, List.map_nil, hfv, itmS, itm_back]
              simp [entL, Pr.ba_data]
            rw [e]
            exact ih' k _ (by omega) (by simp [itemsOf]; omega)
        | some c =>
          simp only [comB, if_true]
          obtain ⟨k, rfl⟩ : ∃ n, k = n + 1 := ⟨k - 1, by omega⟩
          have hj2 : ∀ b, b = !(out.getLast?.any fun x => x.common && decide (x.name = c)) → Pr.stowageref20_Listed.j2 (k + 1) l p d vers (out.map itmS) (j : Int) (BA c) b = some (List.map itmS (if out.getLast?.any (fun x => x.common && decide (x.name = c)) = true then listR p.data.toList d.data.toList vers out rest else listR p.data.toList d.data.toList vers (out ++ [comItm c]) rest)) := by
            intro b hb
            unfold Pr.stowageref20_Listed.j2
            try dsimp only
            cases hq : (out.getLast?.any fun x => x.common && decide (x.name = c)) with
            | true =>
              rw [hq] at hb
              subst hb
              rw [if_neg (by simp), if_pos rfl, hup]
              exact ih' k out (by omega) (by omega)
            | false =>
              rw [hq] at hb
              subst hb
              rw [if_pos (show (!false) = true from rfl), if_pos (show (out.map itmS).length < 1599289640401 by rw [List.length_map]; omega), hup, if_neg (show ¬ (false = true) by simp)]
              have e : out.map itmS ++ [(⟨BA c, true, ⟨⟨#[]⟩, 0, false, 0, ⟨#[]⟩⟩, false⟩ : SI)] = (out ++ [comItm c]).map itmS := by
                rw [List.map_append]
                rfl
              rw [e]
              exact ih' k _ (by omega) (by simp; omega)
          by_cases h0 : out = []
          · subst h0
            rw [if_pos (by simp)]
            exact hj2 true (by simp)
          · have hol : 0 < out.length := List.length_pos_iff.2 h0
            have hw : wrap64 (((out.map itmS).length : Int) - 1) = ((out.length - 1 : Nat) : Int) := by rw [List.length_map]; unfold wrap64; omega
            have hg : out.getLast? = some out[out.length - 1] := by rw [List.getLast?_eq_getElem?, List.getElem?_eq_getElem (by omega)]
            rw [if_neg (by simp [h0]), hw, if_pos (by omega), if_pos (by rw [List.length_map]; omega), rdI _ _ (by rw [List.length_map]; omega), List.getElem_map]
            rw [hg] at hj2 ⊢
            simp only [Option.any_some] at hj2 ⊢
            by_cases hcm : out[out.length - 1].common = true
            · rw [if_pos (show (itmS out[out.length - 1]).f1 = true from hcm)]
              refine hj2 _ ?_
              simp only [itmS, hcm, Bool.true_and, bs_toList, List.toList_toArray]
              by_cases hn : out[out.length - 1].name = c <;> simp [hn]
            · have hcm' : out[out.length - 1].common = false := by simpa using hcm
              rw [if_neg (show ¬ (itmS out[out.length - 1]).f1 = true from hcm)]
              refine hj2 true ?_
              simp [hcm']
    unfold Pr.stowageref20_Listed.l0
    rw [if_pos (by omega), if_pos (by omega), rdE l j hjl, begins_f, Option.bind_some]
    cases hpb : p.data.toList.isPrefixOf l[j].f0.data.toList with
    | false =>
      rw [if_neg (by simp)]
      exact hj1 true (by rw [hsk, hpb]; rfl)
    | true =>
      rw [if_pos rfl]
      cases vers with
      | true =>
        rw [if_pos rfl]
        exact hj1 false (by rw [hsk, hpb]; rfl)
      | false =>
        rw [if_neg (by simp), if_pos (by omega), hfirst]
        exact hj1 _ (by rw [hsk, hpb]; simp)
end Go.Proofs.Ytahkcfhiecfgeaa
end
section
/- Listing, the plain law: both sides' pages are one. -/
namespace Go.Proofs.Ytahkcfhiecfgeaa
open Go.RowKit Go.Proofs.YtahkcfhiecfgeaaW.PrintWords Go.Proofs.YtahkcfhiecfgeaaW.PrintLast Go.Proofs.YtahkcfhiecfgeaaW.PrintMore
open Pr (SV SE SI verL entL verS itmS itmL pageOut cutOut)
set_option linter.unusedVariables false
set_option linter.unusedSimpArgs false
theorem itm_S (x : Itm) : itmL (itmS x) = x := by
  obtain ⟨a, b, ⟨c, d, e, f, g⟩, h⟩ := x
  simp [itmS, itmL, verS, verL]
theorem itms_S (l : List Itm) : (l.map itmS).map itmL = l := by
  rw [List.map_map, show itmL ∘ itmS = id from funext itm_S, List.map_id]
theorem listR_len (p d : Bs) (vers : Bool) : ∀ (l : List Ent) (out : List Itm), (∀ e ∈ l, e.vs.length ≤ 20) → (listR p d vers out l).length ≤ out.length + 21 * l.length
  | [], out, _ => by simp [listR]
  | e :: r, out, h => by
    have hr : ∀ x ∈ r, x.vs.length ≤ 20 := fun x hx => h x (List.mem_cons_of_mem _ hx)
    have he := h e (List.mem_cons_self ..)
    unfold listR
    rw [List.length_cons]
    split
    · have := listR_len p d vers r out hr
      omega
    · split
      · split
        · have := listR_len p d vers r out hr
          omega
        · have := listR_len p d vers r (out ++ [comItm (by assumption)]) hr
          simp at this
          omega
      · have := listR_len p d vers r (out ++ itemsOf vers e) hr
        have hi : (itemsOf vers e).length ≤ 21 := by
          unfold itemsOf
          split
          · rw [versItms_len]; omega
          · simp
        rw [List.length_append] at this
        omega
theorem cut_page (vers : Bool) (m : Nat) (q : List Itm) (hm : 1 ≤ m) : cutOut vers m q = pageOut (mkPg vers m (cutP m q), 0) := by
  unfold cutOut pageOut cutP mkPg cutNext cutVer cutM
  by_cases h : q.length ≤ m
  · rw [if_pos h]
    simp [show ¬ m < q.length by omega, List.take_of_length_le h]
  · rw [if_neg h]
    have hd : (q.take m).getD (m - 1) itm0 = q.getD (m - 1) itm0 := by
      rw [List.getD_eq_getElem?_getD, List.getD_eq_getElem?_getD, List.getElem?_take_of_lt (by omega)]
    simp only [if_true]
    rw [hd]
    simp [show m < q.length by omega]
theorem small_of {l : List SE} (hl : l.length ≤ 60) (hv : ∀ e ∈ l, e.f0.size ≤ 600 ∧ e.f1.length ≤ 20) : Pr.small l = true := by
  unfold Pr.small
  simp only [Bool.and_eq_true, decide_eq_true_eq, List.all_eq_true]
  exact ⟨by omega, fun e he => ⟨by have := (hv e he).1; omega, by have := (hv e he).2; omega⟩⟩
theorem any3 (a b c : ByteArray) (n : Nat) : (([a, b, c] : List ByteArray).any fun s => decide (n < s.size)) = true ↔ (n < a.size ∨ n < b.size ∨ n < c.size) := by simp
theorem any4 (a b c d : ByteArray) (n : Nat) : (([a, b, c, d] : List ByteArray).any fun s => decide (n < s.size)) = true ↔ (n < a.size ∨ n < b.size ∨ n < c.size ∨ n < d.size) := by simp
/-- What the reference does once its texts are gone through. -/
theorem ref_rest (l : List SE) (p d after ve : ByteArray) (vers : Bool) (most : Int) (k : Nat) (hk : 3000 ≤ k) (hl : l.length ≤ 60) (hv : ∀ e ∈ l, e.f0.size ≤ 600 ∧ e.f1.length ≤ 20) (hd : d.size ≤ 1000000) (hok : okFrom none (l.map entL) = true) (hm : 1 ≤ most ∧ most ≤ 1000) :
    ((Pr.stowageref20_Listed.f k l p d vers).bind fun li => (if li.length ≤ 1000000 ∧ 1 ≤ most ∧ most ≤ 1000 then some (cutOut vers most.toNat (behindR after.data.toList ve.data.toList false (li.map itmL))) else none)) = some (pageOut (mkPg vers most.toNat (runP after.data.toList ve.data.toList most.toNat false [] (listP p.data.toList d.data.toList vers none (l.map entL))), 0)) ∧
    (pageOut (mkPg vers most.toNat (runP after.data.toList ve.data.toList most.toNat false [] (listP p.data.toList d.data.toList vers none (l.map entL))), 0)).1.length ≤ 1000 := by
  have hne : ∀ e ∈ l, e.f0.size ≤ 600 ∧ e.f1.length ≤ 20 ∧ e.f1 ≠ [] := fun e he => ⟨(hv e he).1, (hv e he).2, fun h0 => by
    have := okFrom_all hok (entL e) (List.mem_map_of_mem he)
    exact this (by simp [entL, h0])⟩
  have hL : Pr.stowageref20_Listed.f k l p d vers = some ((listR p.data.toList d.data.toList vers [] (l.map entL)).map itmS) := by
    unfold Pr.stowageref20_Listed.f
    exact listed_l0 l p d vers hl hne hd l.length k 0 [] (by omega) (by omega) (by simp)
  have hlen := listR_len p.data.toList d.data.toList vers (l.map entL) [] (fun e he => by
    obtain ⟨x, hx, rfl⟩ := List.mem_map.1 he
    have := (hv x hx).2
    simpa [entL] using this)
  simp only [List.length_nil, List.length_map] at hlen
  rw [listed_eq _ _ _ _ hok] at hL hlen
  rw [hL, Option.bind_some, if_pos ⟨by rw [List.length_map]; omega, hm⟩, itms_S, runP_cut _ _ _ _ (listP_alike _ _ _ _ _ _), ← cut_page _ _ _ (by omega)]
  exact ⟨rfl, by simp only [cutOut, List.length_map, List.length_take]; omega⟩
theorem keys_both (l : List SE) (p d after : ByteArray) (most : Int) (k : Nat) (hk : 3000 ≤ k) (hl : l.length ≤ 60) (hv : ∀ e ∈ l, e.f0.size ≤ 600 ∧ e.f1.length ≤ 20) (hp : p.size ≤ 600) (hd : d.size ≤ 600) (ha : after.size ≤ 600) :
    ∃ R, Pr.listing_Keys.f l p d after most = some R ∧ Pr.stowageref20_Keys.f k l p d after most = some R ∧ R.1.length ≤ 1000 := by
  refine ⟨pageOut (pageV false (l.map entL) p.data.toList d.data.toList after.data.toList [] most), ?_, ?_⟩
  · unfold Pr.listing_Keys.f
    rw [if_pos ⟨small_of hl hv, by omega, by omega, by omega⟩]
  · unfold Pr.stowageref20_Keys.f Pr.stowageref20_wrong.f
    rw [show (0 : Int) = ((0 : Nat) : Int) from rfl, wrong_l0 l [p, d, after] most (by simp) (by omega) 3 k 0 (by simp) (by omega), Option.bind_some, List.drop_zero]
    simp only [any3]
    by_cases h1 : 400 < p.size ∨ 400 < d.size ∨ 400 < after.size
    · rw [if_pos h1, if_neg (by omega), show ([] : Bs) = (⟨#[]⟩ : ByteArray).data.toList from rfl, pageV_long (by rcases h1 with h | h | h; exact .inl h; exact .inr (.inl h); exact .inr (.inr (.inl h)))]
      exact ⟨rfl, by simp [pageOut, pg0]⟩
    · rw [if_neg h1]
      have h1' : p.size ≤ 400 ∧ d.size ≤ 400 ∧ after.size ≤ 400 ∧ (⟨#[]⟩ : ByteArray).size ≤ 400 := ⟨by omega, by omega, by omega, by decide⟩
      cases hok : okFrom none (l.map entL) with
      | false =>
        rw [if_pos rfl, if_neg (by omega), show ([] : Bs) = (⟨#[]⟩ : ByteArray).data.toList from rfl, pageV_bad h1' hok]
        exact ⟨rfl, by simp [pageOut, pg0]⟩
      | true =>
        rw [if_neg (show ¬ (true = false) by simp)]
        by_cases hm : most < 1 ∨ 1000 < most
        · rw [if_pos hm, if_neg (by omega), show ([] : Bs) = (⟨#[]⟩ : ByteArray).data.toList from rfl, pageV_range h1' hok hm]
          exact ⟨rfl, by simp [pageOut, pg0]⟩
        · rw [if_neg hm, if_pos (by simp), show ([] : Bs) = (⟨#[]⟩ : ByteArray).data.toList from rfl, pageV_good h1' hok (by omega)]
          exact ref_rest l p d after ⟨#[]⟩ false most k hk hl hv (by omega) hok (by omega)
theorem vers_both (l : List SE) (p d after ve : ByteArray) (most : Int) (k : Nat) (hk : 3000 ≤ k) (hl : l.length ≤ 60) (hv : ∀ e ∈ l, e.f0.size ≤ 600 ∧ e.f1.length ≤ 20) (hp : p.size ≤ 600) (hd : d.size ≤ 600) (ha : after.size ≤ 600) (hve : ve.size ≤ 600) :
    ∃ R, Pr.listing_Versions.f l p d after ve most = some R ∧ Pr.stowageref20_Versions.f k l p d after ve most = some R ∧ R.1.length ≤ 1000 := by
  refine ⟨pageOut (pageV true (l.map entL) p.data.toList d.data.toList after.data.toList ve.data.toList most), ?_, ?_⟩
  · unfold Pr.listing_Versions.f
    rw [if_pos ⟨small_of hl hv, by omega, by omega, by omega, by omega⟩]
  · unfold Pr.stowageref20_Versions.f Pr.stowageref20_wrong.f
    rw [show (0 : Int) = ((0 : Nat) : Int) from rfl, wrong_l0 l [p, d, after, ve] most (by simp) (by omega) 4 k 0 (by simp) (by omega), Option.bind_some, List.drop_zero]
    simp only [any4]
    by_cases h1 : 400 < p.size ∨ 400 < d.size ∨ 400 < after.size ∨ 400 < ve.size
    · rw [if_pos h1, if_neg (by omega), pageV_long h1]
      exact ⟨rfl, by simp [pageOut, pg0]⟩
    · rw [if_neg h1]
      have h1' : p.size ≤ 400 ∧ d.size ≤ 400 ∧ after.size ≤ 400 ∧ ve.size ≤ 400 := ⟨by omega, by omega, by omega, by omega⟩
      cases hok : okFrom none (l.map entL) with
      | false =>
        rw [if_pos rfl, if_neg (by omega), pageV_bad h1' hok]
        exact ⟨rfl, by simp [pageOut, pg0]⟩
      | true =>
        rw [if_neg (show ¬ (true = false) by simp)]
        by_cases hm : most < 1 ∨ 1000 < most
        · rw [if_pos hm, if_neg (by omega), pageV_range h1' hok hm]
          exact ⟨rfl, by simp [pageOut, pg0]⟩
        · rw [if_neg hm, if_pos (by simp), pageV_good h1' hok (by omega)]
          exact ref_rest l p d after ve true most k hk hl hv (by omega) hok (by omega)
end Go.Proofs.Ytahkcfhiecfgeaa
end
section
/- ListingTells: the printed form is true. -/
namespace Go.Proofs.Ytahkcfhiecfgeaa
open Go.RowKit Go.Proofs.YtahkcfhiecfgeaaW.PrintWords Go.Proofs.YtahkcfhiecfgeaaW.PrintLast Go.Proofs.YtahkcfhiecfgeaaW.PrintMore
open Pr (SV SE SI verL entL verS itmS itmL pageOut cutOut)
set_option linter.unusedVariables false
set_option linter.unusedSimpArgs false
theorem awake20_f : Pr.stowagelaw20_awake.f 60 = some true := by decide +kernel
theorem tells_l0 (l : List SE) (hl : l.length ≤ 60) (hv : ∀ e ∈ l, e.f1.length ≤ 20) (b : Bool) (x y : ByteArray) (c : List SI) (cb : Bool) (cx cy : ByteArray) (hc : c.length ≤ 1000) :
    ∀ (d k j : Nat) (a : List SI), j + d = a.length → a.length ≤ 1000 → d + 2000 ≤ k → Pr.stowagelaw20_ListingTells.l0 k l l (j : Int) a b x y c cb cx cy c cb cx cy = some true := by
  intro d
  induction d with
  | zero =>
    intro k j a hj ha hk
    obtain ⟨k, rfl⟩ : ∃ n, k = n + 1 := ⟨k - 1, by omega⟩
    unfold Pr.stowagelaw20_ListingTells.l0
    rw [if_neg (by omega), page_f c cb cx cy k (by omega) (by omega), Option.bind_some, if_pos rfl, ents_f l k (by omega) hl hv, Option.bind_some, if_pos rfl, at_rounds (fun k => Pr.stowagelaw20_awake.mono k) (show 60 ≤ k by omega) awake20_f]
    rfl
  | succ d ih =>
    intro k j a hj ha hk
    obtain ⟨k, rfl⟩ : ∃ n, k = n + 1 := ⟨k - 1, by omega⟩
    unfold Pr.stowagelaw20_ListingTells.l0
    rw [if_pos (by omega), if_pos (by omega), wrap_up j a.length (by omega) (by omega)]
    exact ih k (j + 1) _ (by rw [List.length_set]; omega) (by rw [List.length_set]; omega) (by omega)
theorem tells_f (l : List SE) (p d after ve : ByteArray) (most : Int) : Pr.stowagelaw20_ListingTells.f 6000 l p d after ve most = some true := by
  unfold Pr.stowagelaw20_ListingTells.f
  obtain ⟨b, hb, hs⟩ := large_f l 6000 (by omega)
  rw [hb, Option.bind_some]
  cases b with
  | true =>
    rw [if_pos rfl]
    unfold Pr.stowagelaw20_ListingTells.j0
    rfl
  | false =>
    obtain ⟨hl, hv⟩ := hs rfl
    have hv1 : ∀ e ∈ l, e.f0.size ≤ 600 ∧ e.f1.length ≤ 20 := fun e he => ⟨(hv e he).1, (hv e he).2.1⟩
    have hv2 : ∀ e ∈ l, e.f1.length ≤ 20 := fun e he => (hv e he).2.1
    rw [if_neg (by simp)]
    unfold Pr.stowagelaw20_long.f
    rw [show (0 : Int) = ((0 : Nat) : Int) from rfl, long_l0 [p, d, after, ve] (by simp) 4 6000 0 (by simp) (by omega), Option.bind_some, List.drop_zero]
    unfold Pr.stowagelaw20_ListingTells.j0
    try dsimp only
    by_cases h : (([p, d, after, ve] : List ByteArray).any fun s => decide (600 < s.size)) = true
    · rw [if_pos h]
    · rw [if_neg h]
      rw [any4] at h
      obtain ⟨R, hR1, hR2, hRl⟩ := keys_both l p d after most 5999 (by omega) hl hv1 (by omega) (by omega) (by omega)
      obtain ⟨V, hV1, hV2, hVl⟩ := vers_both l p d after ve most 5999 (by omega) hl hv1 (by omega) (by omega) (by omega) (by omega)
      rw [copy_f l 5999 (by omega) hl hv2, Option.bind_some, hR1, Option.bind_some, hR2, Option.bind_some, hV1, Option.bind_some, hV2, Option.bind_some]
      rw [page_f R.1 _ _ _ 5999 (by omega) (by omega), Option.bind_some, if_pos rfl, if_pos rfl, page_f V.1 _ _ _ 5999 (by omega) (by omega), Option.bind_some, if_pos rfl, if_pos rfl]
      rw [check_f l 5999 (by omega) (by omega), Option.bind_some, rcheck_f l 5999 (by omega) (by omega), Option.bind_some, if_pos rfl, ents_f l 5999 (by omega) hl hv2, Option.bind_some]
      unfold Pr.stowagelaw20_ListingTells.j1
      try dsimp only
      rw [if_neg (by simp)]
      exact tells_l0 l hl hv2 _ _ _ _ _ _ _ hVl R.1.length 5998 0 R.1 (by omega) hRl (by omega)
theorem tells_any (A : Option Addr) (c : Nat) (l : List SE) (a1 a2 a3 a4 : ByteArray) (a5 : Int) (w : World) (hMax : ∃ m, w.cell? ⟨0, 0, none⟩ = some (.int .i64 m)) (hr : Kd.C Pr.k47 w A l.length l) (hc : l.length ≤ c) :
    Calls Try.prog 3 #[.slice A l.length c, .string a1, .string a2, .string a3, .string a4, .int .i64 a5] w fun e w' => e = .returned (.bool true) ∧ Below w.heap.size w w' :=
  Pr.stowagelaw20_ListingTells.calls 6000 A c l a1 a2 a3 a4 a5 true w hMax hr hc (tells_f l a1 a2 a3 a4 a5)
end Go.Proofs.Ytahkcfhiecfgeaa
end
