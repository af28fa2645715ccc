/- Texts of this proof, put together: Pl20, Pm20, Pn20, Ps20, Pt20, Pu20. -/
import Derived.Test.YtahkcfhiecfgeaaMTopSteadyo
import Derived.Test.YtahkcfhiecfgeaaMTopSteadyp
import Derived.Test.YtahkcfhiecfgeaaMTopSteadye
import Derived.Test.YtahkcfhiecfgeaaMTopSteadyf
import Derived.Test.YtahkcfhiecfgeaaMTopSteadyn
section
/- Listing, the plain law: what the printed forms of the small functions answer. -/
namespace Go.Proofs.Ytahkcfhiecfgeaa
open Go.RowKit Go.Proofs.YtahkcfhiecfgeaaW.PrintWords Go.Proofs.YtahkcfhiecfgeaaW.PrintLast Go.Proofs.YtahkcfhiecfgeaaW.PrintMore
open Pr (SV SE SI verL entL verS itmS itmL)
set_option linter.unusedVariables false
set_option linter.unusedSimpArgs false
theorem wrap_up (j n : Nat) (h : j < n) (hn : n ≤ 1000000) : wrap64 ((j : Int) + 1) = ((j + 1 : Nat) : Int) := by unfold wrap64; omega
theorem wrap_dn (j : Nat) (h : 0 < j) (hn : j ≤ 1000000) : wrap64 ((j : Int) - 1) = ((j - 1 : Nat) : Int) := by unfold wrap64; omega
theorem wrap_id (j : Nat) (hn : j ≤ 3000000) : wrap64 (j : Int) = (j : Int) := by unfold wrap64; omega
theorem rdE (l : List SE) (j : Nat) (h : j < l.length) : Pr.rd_T47 l (j : Int) = l[j] := by
  unfold Pr.rd_T47
  rw [Int.toNat_natCast, List.getD_eq_getElem?_getD, List.getElem?_eq_getElem h]
  rfl
theorem rdV (l : List SV) (j : Nat) (h : j < l.length) : Pr.rd_T37 l (j : Int) = l[j] := by
  unfold Pr.rd_T37
  rw [Int.toNat_natCast, List.getD_eq_getElem?_getD, List.getElem?_eq_getElem h]
  rfl
theorem rdI (l : List SI) (j : Nat) (h : j < l.length) : Pr.rd_T39 l (j : Int) = l[j] := by
  unfold Pr.rd_T39
  rw [Int.toNat_natCast, List.getD_eq_getElem?_getD, List.getElem?_eq_getElem h]
  rfl
def bigE (e : SE) : Bool := decide (600 < e.f0.size) || decide (20 < e.f1.length) || e.f1.any fun v => decide (600 < v.f0.size)
theorem large_l1 (l : List SE) (hl : l.length ≤ 60) (j : Nat) (hj : j < l.length) (F : Nat) (R : Bool) (hout : ∀ k, F ≤ k → Pr.stowagekit_LargeEntries.l0 k l ((j + 1 : Nat) : Int) = some R) (hv : l[j].f1.length ≤ 20) :
    ∀ (d k m : Nat), m + d = l[j].f1.length → F + d + 1 ≤ k → Pr.stowagekit_LargeEntries.l1 k l (j : Int) (m : Int) = some (((l[j].f1.drop m).any fun v => decide (600 < v.f0.size)) || R) := by
  intro d
  induction d with
  | zero =>
    intro k m hm hk
    obtain ⟨k, rfl⟩ : ∃ n, k = n + 1 := ⟨k - 1, by omega⟩
    unfold Pr.stowagekit_LargeEntries.l1
    rw [if_pos (by omega), if_pos (by omega), rdE l j hj, if_neg (by omega), wrap_up j l.length hj (by omega), hout k (by omega), List.drop_of_length_le (by omega)]
    simp
  | succ d ih =>
    intro k m hm hk
    obtain ⟨k, rfl⟩ : ∃ n, k = n + 1 := ⟨k - 1, by omega⟩
    unfold Pr.stowagekit_LargeEntries.l1
    rw [if_pos (by omega), if_pos (by omega), rdE l j hj, if_pos (by omega), if_pos (by omega), rdV _ m (by omega), List.drop_eq_getElem_cons (by omega : m < l[j].f1.length), List.any_cons]
    by_cases h : 600 < (l[j].f1[m]).f0.size
    · rw [if_pos (by omega), decide_eq_true h]; simp
    · rw [if_neg (by omega), wrap_up m l[j].f1.length (by omega) (by omega), ih k (m + 1) (by omega) (by omega), decide_eq_false h]; simp
theorem large_l0 (l : List SE) (hl : l.length ≤ 60) : ∀ (d k j : Nat), j + d = l.length → 30 * d + 1 ≤ k → Pr.stowagekit_LargeEntries.l0 k l (j : Int) = some ((l.drop j).any bigE) := by
  intro d
  induction d with
  | zero =>
    intro k j hj hk
    obtain ⟨k, rfl⟩ : ∃ n, k = n + 1 := ⟨k - 1, by omega⟩
    unfold Pr.stowagekit_LargeEntries.l0
    rw [if_neg (by omega), List.drop_of_length_le (by omega)]
    rfl
  | succ d ih =>
    intro k j hj hk
    obtain ⟨k, rfl⟩ : ∃ n, k = n + 1 := ⟨k - 1, by omega⟩
    obtain ⟨k, rfl⟩ : ∃ n, k = n + 1 := ⟨k - 1, by omega⟩
    have hjl : j < l.length := by omega
    unfold Pr.stowagekit_LargeEntries.l0
    rw [if_pos (by omega), if_pos (by omega), rdE l j hjl, List.drop_eq_getElem_cons hjl, List.any_cons]
    by_cases h1 : 600 < (l[j]).f0.size
    · rw [if_pos (by omega)]
      unfold Pr.stowagekit_LargeEntries.j1
      rw [if_pos rfl]
      simp [bigE, h1]
    · rw [if_neg (by omega)]
      unfold Pr.stowagekit_LargeEntries.j1
      by_cases h2 : 20 < (l[j]).f1.length
      · rw [if_pos (by simp; omega)]
        simp [bigE, h2]
      · rw [if_neg (by simp; omega), show (0 : Int) = ((0 : Nat) : Int) by rfl, large_l1 l hl j hjl (30 * d + 1) _ (fun k hk => ih k (j + 1) (by omega) hk) (by omega) (l[j]).f1.length k 0 (by omega) (by omega)]
        simp [bigE, h1, h2]
theorem large_f (l : List SE) (k : Nat) (hk : 2000 ≤ k) : ∃ b, Pr.stowagekit_LargeEntries.f k l = some b ∧ (b = false → l.length ≤ 60 ∧ ∀ e ∈ l, e.f0.size ≤ 600 ∧ e.f1.length ≤ 20 ∧ ∀ v ∈ e.f1, v.f0.size ≤ 600) := by
  unfold Pr.stowagekit_LargeEntries.f
  by_cases h : 60 < l.length
  · rw [if_pos (by omega)]
    exact ⟨true, rfl, fun h => by cases h⟩
  · rw [if_neg (by omega)]
    refine ⟨_, large_l0 l (by omega) l.length k 0 (by omega) (by omega), fun hb => ⟨by omega, fun e he => ?_⟩⟩
    rw [List.drop_zero, List.any_eq_false] at hb
    have := hb e he
    unfold bigE at this
    simp only [Bool.or_eq_true, decide_eq_true_eq, List.any_eq_true, not_or, not_exists, not_and] at this
    exact ⟨by omega, by omega, fun v hv => by have := this.2 v hv; omega⟩
theorem copy_l0 (l : List SE) (hl : l.length ≤ 60) (hv : ∀ e ∈ l, e.f1.length ≤ 20) : ∀ (d k j : Nat), j + d = l.length → d + 1 ≤ k → Pr.stowagekit_CopyEntries.l0 k l (l.take j) (j : Int) = some l := by
  intro d
  induction d with
  | zero =>
    intro k j hj hk
    obtain ⟨k, rfl⟩ : ∃ n, k = n + 1 := ⟨k - 1, by omega⟩
    unfold Pr.stowagekit_CopyEntries.l0
    rw [if_neg (by omega), List.take_of_length_le (by omega)]
  | succ d ih =>
    intro k j hj hk
    obtain ⟨k, rfl⟩ : ∃ n, k = n + 1 := ⟨k - 1, by omega⟩
    have hjl : j < l.length := by omega
    have hvj := hv l[j] (List.getElem_mem hjl)
    unfold Pr.stowagekit_CopyEntries.l0
    rw [if_pos (by omega), if_pos (by omega), rdE l j hjl, Option.bind_some]
    rw [if_pos (by simp; omega), if_pos (by rw [List.length_take]; omega), wrap_up j l.length hjl (by omega), List.nil_append]
    have e : l.take j ++ [(⟨l[j].f0, l[j].f1⟩ : SE)] = l.take (j + 1) := by rw [List.take_add_one, List.getElem?_eq_getElem hjl]; rfl
    rw [e]
    exact ih k (j + 1) (by omega) (by omega)
theorem copy_f (l : List SE) (k : Nat) (hk : 100 ≤ k) (hl : l.length ≤ 60) (hv : ∀ e ∈ l, e.f1.length ≤ 20) : Pr.stowagekit_CopyEntries.f k l = some l := copy_l0 l hl hv l.length k 0 (by omega) (by omega)
theorem page_l0 (l : List SI) (b : Bool) (x y : ByteArray) (hl : l.length ≤ 1000000) : ∀ (d k j : Nat), j + d = l.length → d + 1 ≤ k → Pr.stowagekit_SamePage.l0 k (j : Int) l b x y l b x y = some true := by
  intro d
  induction d with
  | zero =>
    intro k j hj hk
    obtain ⟨k, rfl⟩ : ∃ n, k = n + 1 := ⟨k - 1, by omega⟩
    unfold Pr.stowagekit_SamePage.l0
    rw [if_neg (by omega)]
  | succ d ih =>
    intro k j hj hk
    obtain ⟨k, rfl⟩ : ∃ n, k = n + 1 := ⟨k - 1, by omega⟩
    unfold Pr.stowagekit_SamePage.l0
    rw [if_pos (by omega), if_pos (by omega), if_pos (by omega), if_neg (by simp), wrap_up j l.length (by omega) hl]
    exact ih k (j + 1) (by omega) (by omega)
theorem page_f (l : List SI) (b : Bool) (x y : ByteArray) (k : Nat) (hl : l.length ≤ 1000000) (hk : l.length + 2 ≤ k) : Pr.stowagekit_SamePage.f k l b x y l b x y = some true := by
  obtain ⟨k, rfl⟩ : ∃ n, k = n + 1 := ⟨k - 1, by omega⟩
  unfold Pr.stowagekit_SamePage.f
  rw [if_pos rfl, if_neg (by simp), if_pos rfl]
  unfold Pr.stowagekit_SamePage.j0
  try dsimp only
  rw [if_neg (by simp)]
  exact page_l0 l b x y hl l.length k 0 (by omega) (by omega)
theorem vers_l0 (l : List SV) (hl : l.length ≤ 1000000) : ∀ (d k j : Nat), j + d = l.length → d + 1 ≤ k → Pr.stowagekit_SameVersions.l0 k l l (j : Int) = some true := by
  intro d
  induction d with
  | zero =>
    intro k j hj hk
    obtain ⟨k, rfl⟩ : ∃ n, k = n + 1 := ⟨k - 1, by omega⟩
    unfold Pr.stowagekit_SameVersions.l0
    rw [if_neg (by omega)]
  | succ d ih =>
    intro k j hj hk
    obtain ⟨k, rfl⟩ : ∃ n, k = n + 1 := ⟨k - 1, by omega⟩
    unfold Pr.stowagekit_SameVersions.l0
    rw [if_pos (by omega), if_pos (by omega), if_pos (by omega), if_neg (by simp), wrap_up j l.length (by omega) hl]
    exact ih k (j + 1) (by omega) (by omega)
theorem ents_l0 (l : List SE) (hl : l.length ≤ 60) (hv : ∀ e ∈ l, e.f1.length ≤ 20) : ∀ (d k j : Nat), j + d = l.length → d + 30 ≤ k → Pr.stowagekit_SameEntries.l0 k l l (j : Int) = some true := by
  intro d
  induction d with
  | zero =>
    intro k j hj hk
    obtain ⟨k, rfl⟩ : ∃ n, k = n + 1 := ⟨k - 1, by omega⟩
    unfold Pr.stowagekit_SameEntries.l0
    rw [if_neg (by omega)]
  | succ d ih =>
    intro k j hj hk
    obtain ⟨k, rfl⟩ : ∃ n, k = n + 1 := ⟨k - 1, by omega⟩
    have hvj := hv l[j] (List.getElem_mem (by omega))
    unfold Pr.stowagekit_SameEntries.l0
    rw [if_pos (by omega), if_pos (by omega), if_pos (by omega), if_pos rfl, rdE l j (by omega)]
    unfold Pr.stowagekit_SameVersions.f
    rw [if_pos rfl, show (0 : Int) = ((0 : Nat) : Int) by rfl, vers_l0 _ (by omega) _ k 0 (Nat.zero_add _) (by omega), Option.bind_some, if_pos rfl, wrap_up j l.length (by omega) (by omega)]
    exact ih k (j + 1) (by omega) (by omega)
theorem ents_f (l : List SE) (k : Nat) (hk : 100 ≤ k) (hl : l.length ≤ 60) (hv : ∀ e ∈ l, e.f1.length ≤ 20) : Pr.stowagekit_SameEntries.f k l l = some true := by
  unfold Pr.stowagekit_SameEntries.f
  rw [if_pos rfl]
  exact ents_l0 l hl hv l.length k 0 (by omega) (by omega)
theorem okFrom_step (q : Option Bs) (e : SE) (r : List SE) : okFrom q ((e :: r).map entL) = (!(decide (e.f1.length = 0)) && (match q with | none => true | some q => decide (q < e.f0.data.toList)) && okFrom (some e.f0.data.toList) (r.map entL)) := by
  rw [List.map_cons]
  conv => lhs; unfold okFrom
  have h : (!(entL e).vs.isEmpty) = !(decide (e.f1.length = 0)) := by cases h : e.f1 <;> simp [entL, h]
  rw [h]
  rfl
def prevE (l : List SE) (j : Nat) : Option Bs := if j = 0 then none else (l[j - 1]?).map fun e => e.f0.data.toList
theorem okFrom_at (l : List SE) (j : Nat) (h : j < l.length) : okFrom (prevE l j) ((l.drop j).map entL) = (!(decide (l[j].f1.length = 0)) && (if h0 : j = 0 then true else decide ((l[j - 1]'(by omega)).f0.data.toList < l[j].f0.data.toList)) && okFrom (prevE l (j + 1)) ((l.drop (j + 1)).map entL)) := by
  rw [List.drop_eq_getElem_cons h, okFrom_step]
  congr 1
  · congr 1
    unfold prevE
    by_cases h0 : j = 0
    · simp [h0]
    · rw [if_neg h0, dif_neg h0, List.getElem?_eq_getElem (by omega)]
      rfl
  · unfold prevE
    rw [if_neg (by omega), Nat.add_sub_cancel, List.getElem?_eq_getElem h]
    rfl
theorem bl_not (a b : ByteArray) : (!(Op.bytesLess a.toList b.toList)) = !decide (a.data.toList < b.data.toList) := by rw [bytesLess_eq, bs_toList, bs_toList]
theorem check_l0 (l : List SE) (hl : l.length ≤ 1000000) : ∀ (d k j : Nat), j + d = l.length → 2 * d + 1 ≤ k → Pr.listing_Check.l0 k l l (l.length : Int) (j : Int) = some (if okFrom (prevE l j) ((l.drop j).map entL) = true then 0 else 2) := by
  intro d
  induction d with
  | zero =>
    intro k j hj hk
    obtain ⟨k, rfl⟩ : ∃ n, k = n + 1 := ⟨k - 1, by omega⟩
    unfold Pr.listing_Check.l0
    rw [if_neg (by omega), List.drop_of_length_le (by omega)]
    rfl
  | succ d ih =>
    intro k j hj hk
    obtain ⟨k, rfl⟩ : ∃ n, k = n + 1 := ⟨k - 1, by omega⟩
    obtain ⟨k, rfl⟩ : ∃ n, k = n + 1 := ⟨k - 1, by omega⟩
    have hjl : j < l.length := by omega
    have ihk := ih k (j + 1) (by omega) (by omega)
    rw [okFrom_at l j hjl]
    unfold Pr.listing_Check.l0
    rw [if_pos (by omega), if_pos (by omega), if_pos (by omega), rdE l j hjl]
    by_cases h1 : l[j].f1.length = 0
    · rw [if_pos (by omega)]
      unfold Pr.listing_Check.j1
      try dsimp only
      rw [if_pos rfl]
      simp [h1]
    · rw [if_neg (by omega)]
      by_cases h0 : j = 0
      · subst h0
        rw [if_neg (by omega)]
        unfold Pr.listing_Check.j1
        try dsimp only
        rw [if_neg (by simp), wrap_up 0 l.length hjl hl, ihk]
        simp [h1]
      · rw [if_pos (by omega), wrap_dn j (by omega) (by omega), if_pos (by omega), if_pos (by omega), rdE l (j - 1) (by omega), bl_not]
        unfold Pr.listing_Check.j1
        try dsimp only
        by_cases h2 : (l[j - 1]'(by omega)).f0.data.toList < l[j].f0.data.toList
        · rw [if_neg (by simp [h2]), wrap_up j l.length hjl hl, ihk]
          simp [h1, h0, h2]
        · rw [if_pos (by simp [h2])]
          simp [h0, h2]
theorem check_f (l : List SE) (k : Nat) (hl : l.length ≤ 1000000) (hk : 2 * l.length + 1 ≤ k) : Pr.listing_Check.f k l = some (if okFrom none (l.map entL) = true then 0 else 2) := check_l0 l hl l.length k 0 (by omega) hk
theorem rcheck_l0 (l : List SE) (hl : l.length ≤ 1000000) : ∀ (d k j : Nat), j + d = l.length → 2 * d + 1 ≤ k → Pr.stowageref20_Check.l0 k l (j : Int) = some (if okFrom (prevE l j) ((l.drop j).map entL) = true then 0 else 2) := by
  intro d
  induction d with
  | zero =>
    intro k j hj hk
    obtain ⟨k, rfl⟩ : ∃ n, k = n + 1 := ⟨k - 1, by omega⟩
    unfold Pr.stowageref20_Check.l0
    rw [if_neg (by omega), List.drop_of_length_le (by omega)]
    rfl
  | succ d ih =>
    intro k j hj hk
    obtain ⟨k, rfl⟩ : ∃ n, k = n + 1 := ⟨k - 1, by omega⟩
    obtain ⟨k, rfl⟩ : ∃ n, k = n + 1 := ⟨k - 1, by omega⟩
    have hjl : j < l.length := by omega
    have ihk := ih k (j + 1) (by omega) (by omega)
    rw [okFrom_at l j hjl]
    unfold Pr.stowageref20_Check.l0
    rw [if_pos (by omega), if_pos (by omega), rdE l j hjl]
    by_cases h1 : l[j].f1.length = 0
    · rw [if_pos (by omega)]
      unfold Pr.stowageref20_Check.j1
      try dsimp only
      rw [if_pos rfl]
      simp [h1]
    · rw [if_neg (by omega)]
      by_cases h0 : j = 0
      · subst h0
        rw [if_neg (by omega)]
        unfold Pr.stowageref20_Check.j1
        try dsimp only
        rw [if_neg (by simp), wrap_up 0 l.length hjl hl, ihk]
        simp [h1]
      · rw [if_pos (by omega), wrap_dn j (by omega) (by omega), if_pos (by omega), if_pos (by omega), rdE l (j - 1) (by omega), bl_not]
        unfold Pr.stowageref20_Check.j1
        try dsimp only
        by_cases h2 : (l[j - 1]'(by omega)).f0.data.toList < l[j].f0.data.toList
        · rw [if_neg (by simp [h2]), wrap_up j l.length hjl hl, ihk]
          simp [h1, h0, h2]
        · rw [if_pos (by simp [h2])]
          simp [h0, h2]
theorem rcheck_f (l : List SE) (k : Nat) (hl : l.length ≤ 1000000) (hk : 2 * l.length + 1 ≤ k) : Pr.stowageref20_Check.f k l = some (if okFrom none (l.map entL) = true then 0 else 2) := rcheck_l0 l hl l.length k 0 (by omega) hk
theorem rdS (l : List ByteArray) (j : Nat) (h : j < l.length) : rdOf ByteArray.empty l (j : Int) = l[j] := by
  unfold rdOf
  rw [Int.toNat_natCast, List.getD_eq_getElem?_getD, List.getElem?_eq_getElem h]
  rfl
theorem long_l0 (l : List ByteArray) (hl : l.length ≤ 1000000) : ∀ (d k j : Nat), j + d = l.length → d + 1 ≤ k → Pr.stowagelaw20_long.l0 k l (j : Int) = some ((l.drop j).any fun s => decide (600 < s.size)) := by
  intro d
  induction d with
  | zero =>
    intro k j hj hk
    obtain ⟨k, rfl⟩ : ∃ n, k = n + 1 := ⟨k - 1, by omega⟩
    unfold Pr.stowagelaw20_long.l0
    rw [if_neg (by omega), List.drop_of_length_le (by omega)]
    rfl
  | succ d ih =>
    intro k j hj hk
    obtain ⟨k, rfl⟩ : ∃ n, k = n + 1 := ⟨k - 1, by omega⟩
    have hjl : j < l.length := by omega
    unfold Pr.stowagelaw20_long.l0
    rw [if_pos (by omega), if_pos (by omega), rdS l j hjl, List.drop_eq_getElem_cons hjl, List.any_cons]
    by_cases h : 600 < l[j].size
    · rw [if_pos (by omega), decide_eq_true h]; rfl
    · rw [if_neg (by omega), wrap_up j l.length hjl hl, ih k (j + 1) (by omega) (by omega), decide_eq_false h]; rfl
theorem wrong_l0 (l : List SE) (t : List ByteArray) (most : Int) (ht : t.length ≤ 1000) (hl : l.length ≤ 1000000) : ∀ (d k j : Nat), j + d = t.length → d + 2 * l.length + 3 ≤ k → Pr.stowageref20_wrong.l0 k l t most (j : Int) = some (if ((t.drop j).any fun s => decide (400 < s.size)) = true then 3 else if okFrom none (l.map entL) = false then 2 else if most < 1 ∨ 1000 < most then 5 else 0) := by
  intro d
  induction d with
  | zero =>
    intro k j hj hk
    obtain ⟨k, rfl⟩ : ∃ n, k = n + 1 := ⟨k - 1, by omega⟩
    unfold Pr.stowageref20_wrong.l0
    rw [if_neg (by omega), List.drop_of_length_le (by omega), rcheck_f l k hl (by omega), Option.bind_some]
    obtain ⟨k, rfl⟩ : ∃ n, k = n + 1 := ⟨k - 1, by omega⟩
    unfold Pr.stowageref20_wrong.j1
    try dsimp only
    cases hok : okFrom none (l.map entL)
    · simp
    · by_cases h1 : most < 1
      · simp [h1]
      · by_cases h2 : 1000 < most
        · simp [h1, h2]
        · simp [h1, h2]
  | succ d ih =>
    intro k j hj hk
    obtain ⟨k, rfl⟩ : ∃ n, k = n + 1 := ⟨k - 1, by omega⟩
    have hjl : j < t.length := by omega
    unfold Pr.stowageref20_wrong.l0
    rw [if_pos (by omega), if_pos (by omega), rdS t j hjl, List.drop_eq_getElem_cons hjl, List.any_cons]
    by_cases h : 400 < t[j].size
    · rw [if_pos (by omega), decide_eq_true h]; rfl
    · rw [if_neg (by omega), wrap_up j t.length hjl (by omega), ih k (j + 1) (by omega) (by omega), decide_eq_false h]; rfl
end Go.Proofs.Ytahkcfhiecfgeaa
end
section
/- Listing, the plain law: the reference's list. -/
namespace Go.Proofs.Ytahkcfhiecfgeaa
open Go.RowKit Go.Proofs.YtahkcfhiecfgeaaW.PrintWords Go.Proofs.YtahkcfhiecfgeaaW.PrintLast Go.Proofs.YtahkcfhiecfgeaaW.PrintMore
open Pr (SV SE SI verL entL verS itmS itmL)
set_option linter.unusedVariables false
set_option linter.unusedSimpArgs false
theorem ext0 (s : ByteArray) (n : Nat) : (s.extract 0 n).toList = s.data.toList.take n := by
  rw [ext_list, bs_toList]
  simp
theorem ext0B (s : ByteArray) (n : Nat) : s.extract 0 n = BA (s.data.toList.take n) := by
  rw [ext_list]
  simp
theorem extm (s : ByteArray) (a m : Nat) : (s.extract a (a + m)).toList = (s.data.toList.drop a).take m := by
  rw [ext_list, bs_toList, Nat.add_sub_cancel_left]
theorem begins_f (s p : ByteArray) : Pr.stowageref20_begins.f s p = some (p.data.toList.isPrefixOf s.data.toList) := by
  unfold Pr.stowageref20_begins.f
  rw [begins_pre]
  by_cases h : p.size ≤ s.size
  · rw [if_pos (by omega), if_pos (by omega), if_pos (by omega), Int.toNat_natCast, ext0, bs_toList, decide_eq_true h]
    simp
  · rw [if_neg (by omega), decide_eq_false h]
    rfl
def comB (o : Option Bs) : ByteArray × Bool := match o with
  | some c => (BA c, true)
  | none => (⟨#[]⟩, false)
theorem common_l0 (s d : ByteArray) (hs : s.size < 1000000) (hd : d.size ≤ 1000000) (hd0 : d.data.toList ≠ []) : ∀ (n k j : Nat), j + n = s.size + 1 → n + 1 ≤ k → Pr.stowageref20_common.l0 k s d (j : Int) = some (comB (stC s.data.toList d.data.toList j)) := by
  have ls : s.data.toList.length = s.size := by simp
  have ld : d.data.toList.length = d.size := by simp
  have hdz : d.size ≠ 0 := fun h => hd0 (List.eq_nil_of_length_eq_zero (by omega))
  intro n
  induction n with
  | zero =>
    intro k j hj hk
    obtain ⟨k, rfl⟩ : ∃ n, k = n + 1 := ⟨k - 1, by omega⟩
    unfold Pr.stowageref20_common.l0
    have hw : wrap64 ((j : Int) + (d.size : Int)) = ((j + d.size : Nat) : Int) := by unfold wrap64; omega
    rw [hw, if_neg (by omega)]
    have : stC s.data.toList d.data.toList j = none := by
      unfold stC
      rw [List.drop_of_length_le (by omega)]
      unfold headL
      rw [if_neg hd0]
      rfl
    rw [this]
    rfl
  | succ n ih =>
    intro k j hj hk
    obtain ⟨k, rfl⟩ : ∃ n, k = n + 1 := ⟨k - 1, by omega⟩
    unfold Pr.stowageref20_common.l0
    have hw : wrap64 ((j : Int) + (d.size : Int)) = ((j + d.size : Nat) : Int) := by unfold wrap64; omega
    rw [hw]
    by_cases h : j + d.size ≤ s.size
    · rw [if_pos (by omega), if_pos (by omega), if_pos (by omega), Int.toNat_natCast, Int.toNat_natCast, extm, bs_toList d]
      by_cases hm : (s.data.toList.drop j).take d.size = d.data.toList
      · rw [if_pos hm, if_pos (by omega), ext0B, stC_hit _ _ _ (by rw [ld]; exact hm), ld]
        rfl
      · rw [if_neg hm, stC_step s.data.toList d.data.toList j (by omega) (by rw [ld]; exact hm), wrap_up j (s.size + 1) (by omega) (by omega), ih k (j + 1) (by omega) (by omega)]
    · rw [if_neg (by omega), stC_end _ _ _ (by omega) (by omega)]
      rfl
theorem common_f (s p d : ByteArray) (k : Nat) (hs : s.size < 1000000) (hd : d.size ≤ 1000000) (hp : p.data.toList <+: s.data.toList) (hk : s.size + 2 ≤ k) : Pr.stowageref20_common.f k s p d = some (comB (commonL p.data.toList d.data.toList s.data.toList)) := by
  have lp : p.data.toList.length = p.size := by simp
  have ls : s.data.toList.length = s.size := by simp
  have hle := hp.length_le
  unfold Pr.stowageref20_common.f
  rw [bs_toList]
  by_cases h : d.data.toList = []
  · rw [if_pos h]
    unfold commonL
    rw [if_pos h]
    rfl
  · rw [if_neg h, common_l0 s d hs hd h (s.size + 1 - p.size) k p.size (by omega) (by omega), stC_start _ _ _ hp h, lp]
theorem itm_back (v : SV) : verS (verL v) = v := by
  obtain ⟨a, b, c, d, e⟩ := v
  simp [verS, verL, Pr.ba_data]
theorem ver0_S : verS ver0 = ⟨⟨#[]⟩, 0, false, 0, ⟨#[]⟩⟩ := rfl
theorem listed_l1 (l : List SE) (p d : ByteArray) (vers : Bool) (j : Nat) (hj : j < l.length) (hl : l.length ≤ 60) (key : ByteArray) (vs : List SV) (F : Nat) (R : List Itm → Option (List SI)) (hvl : vs.length ≤ 20)
    (hout : ∀ k out, F ≤ k → out.length ≤ 21 * (j + 1) → Pr.stowageref20_Listed.l0 k l p d vers (out.map itmS) ((j + 1 : Nat) : Int) = R out) :
    ∀ (n k m : Nat) (out : List Itm), m + n = vs.length → F + n + 1 ≤ k → out.length ≤ 21 * j + m →
      Pr.stowageref20_Listed.l1 k l p d vers (out.map itmS) (j : Int) (m : Int) key vs = R (out ++ versItms key.data.toList (decide (m = 0)) ((vs.drop m).map verL)) := by
  intro n
  induction n with
  | zero =>
    intro k m out hm hk ho
    obtain ⟨k, rfl⟩ : ∃ n, k = n + 1 := ⟨k - 1, by omega⟩
    unfold Pr.stowageref20_Listed.l1
    rw [if_neg (by omega), List.drop_of_length_le (by omega), wrap_up j l.length hj (by omega), hout k out (by omega) (by omega)]
    simp [versItms]
  | succ n ih =>
    intro k m out hm hk ho
    obtain ⟨k, rfl⟩ : ∃ n, k = n + 1 := ⟨k - 1, by omega⟩
    have hml : m < vs.length := by omega
    unfold Pr.stowageref20_Listed.l1
    rw [if_pos (by omega), if_pos (by omega), if_pos (by rw [List.length_map]; omega), rdV vs m hml, List.drop_eq_getElem_cons hml, List.map_cons]
    have e : out.map itmS ++ [(⟨key, false, ⟨vs[m].f0, vs[m].f1, vs[m].f2, vs[m].f3, vs[m].f4⟩, ((m : Int) == 0)⟩ : SI)] = (out ++ [(⟨key.data.toList, false, verL vs[m], decide (m = 0)⟩ : Itm)]).map itmS := by
      rw [List.map_append]
      congr 1
      simp only [List.map_cons, List.map_nil, itmS, itm_back, Pr.ba_data]
      congr 2
      by_cases h : m = 0 <;> simp [h]
    rw [e, wrap_up m vs.length hml (by omega), ih k (m + 1) _ (by omega) (by omega) (by simp; omega)]
    congr 1
    rw [List.append_assoc]
    simp [versItms]
theorem listed_l0 (l : List SE) (p d : ByteArray) (vers : Bool) (hl : l.length ≤ 60) (hv : ∀ e ∈ l, e.f0.size ≤ 600 ∧ e.f1.length ≤ 20 ∧ e.f1 ≠ []) (hd : d.size ≤ 1000000) : ∀ (n k j : Nat) (out : List Itm), j + n = l.length → 30 * n + 800 ≤ k → out.length ≤ 21 * j →
    Pr.stowageref20_Listed.l0 k l p d vers (out.map itmS) (j : Int) = some ((listR p.data.toList d.data.toList vers out ((l.drop j).map entL)).map itmS) := by
  intro n
  induction n with
  | zero =>
    intro k j out hj hk ho
    obtain ⟨k, rfl⟩ : ∃ n, k = n + 1 := ⟨k - 1, by omega⟩
    unfold Pr.stowageref20_Listed.l0
    rw [if_neg (by omega), List.drop_of_length_le (by omega)]
    rfl
  | succ n ih =>
    intro k j out hj hk ho
    obtain ⟨k, rfl⟩ : ∃ n, k = n + 1 := ⟨k - 1, by omega⟩
    obtain ⟨k, rfl⟩ : ∃ n, k = n + 1 := ⟨k - 1, by omega⟩
    have hjl : j < l.length := by omega
    obtain ⟨hk0, hv20, hvne⟩ := hv l[j] (List.getElem_mem hjl)
    have hvpos : 0 < l[j].f1.length := List.length_pos_iff.2 hvne
    have hup := wrap_up j l.length hjl (by omega)
    rw [List.drop_eq_getElem_cons hjl, List.map_cons]
    generalize hr : (l.drop (j + 1)).map entL = rest
    have ih' : ∀ k out, 30 * n + 800 ≤ k → out.length ≤ 21 * (j + 1) → Pr.stowageref20_Listed.l0 k l p d vers (out.map itmS) ((j + 1 : Nat) : Int) = some ((listR p.data.toList d.data.toList vers out rest).map itmS) := fun k out h1 h2 => by rw [← hr]; exact ih k (j + 1) out (by omega) h1 (by omega)
    have hfirst : (Pr.rd_T37 l[j].f1 0) = l[j].f1[0] := rdV _ 0 hvpos
    have hfv : firstV (entL l[j]) = verL (l[j].f1[0]) := by
      unfold firstV
      show ((l[j].f1).map verL).headD ver0 = _
      rw [List.headD_eq_head?_getD, List.head?_map, List.head?_eq_getElem?, List.getElem?_eq_getElem hvpos]
      rfl
    conv => rhs; unfold listR
    have hsk : skips p.data.toList vers (entL l[j]) = (!(p.data.toList.isPrefixOf l[j].f0.data.toList) || (!vers && (l[j].f1[0]).f2)) := by
      unfold skips
      rw [hfv]
      rfl
    have hj1 : ∀ b, b = skips p.data.toList vers (entL l[j]) → Pr.stowageref20_Listed.j1 (k + 1) l p d vers (out.map itmS) (j : Int) b l[j].f0 l[j].f1 = some (List.map itmS (if skips p.data.toList vers (entL l[j]) = true then listR p.data.toList d.data.toList vers out rest
        else match commonL p.data.toList d.data.toList (entL l[j]).key with
          | some c => if out.getLast?.any (fun x => x.common && decide (x.name = c)) = true then listR p.data.toList d.data.toList vers out rest else listR p.data.toList d.data.toList vers (out ++ [comItm c]) rest
          | none => listR p.data.toList d.data.toList vers (out ++ itemsOf vers (entL l[j])) rest)) := by
      intro b hb
      rw [← hb]
      unfold Pr.stowageref20_Listed.j1
      try dsimp only
      cases hbb : b with
      | true =>
        rw [if_pos rfl, if_pos rfl, hup]
        exact ih' k out (by omega) (by omega)
      | false =>
        simp only [Bool.false_eq_true, if_false]
        rw [hbb] at hb
        rw [hsk] at hb
        have hpre : p.data.toList <+: l[j].f0.data.toList := by
          rw [← List.isPrefixOf_iff_prefix]
          cases h : p.data.toList.isPrefixOf l[j].f0.data.toList with
          | true => rfl
          | false => rw [h] at hb; simp at hb
        rw [common_f _ p d k (by omega) hd hpre (by omega), Option.bind_some]
        show _ = some (List.map itmS (match commonL p.data.toList d.data.toList l[j].f0.data.toList with
          | some c => _
          | none => _))
        cases hc : commonL p.data.toList d.data.toList l[j].f0.data.toList with
        | none =>
          simp only [comB, Bool.false_eq_true, if_false]
          cases vers with
          | true =>
            rw [if_pos rfl]
            have := listed_l1 l p d true j hjl hl l[j].f0 l[j].f1 (30 * n + 800) (fun out => some ((listR p.data.toList d.data.toList true out rest).map itmS)) hv20 ih' l[j].f1.length k 0 out (by omega) (by omega) (by omega)
            rw [show ((0 : Nat) : Int) = 0 from rfl] at this
            rw [this]
            simp [itemsOf, entL]
          | false =>
            rw [if_neg (by simp), if_pos (by omega), if_pos (by rw [List.length_map]; omega), hfirst, hup]
            have e : out.map itmS ++ [(⟨l[j].f0, false, ⟨(l[j].f1[0]).f0, (l[j].f1[0]).f1, (l[j].f1[0]).f2, (l[j].f1[0]).f3, (l[j].f1[0]).f4⟩, false⟩ : SI)] = (out ++ itemsOf false (entL l[j])).map itmS := by
              rw [List.map_append]
              congr 1
              simp only [itemsOf, Bool.false_eq_true, if_false, List.map_cons, List.map_nil, hfv, itmS, itm_back]
              simp [entL, Pr.ba_data]
            rw [e]
            exact ih' k _ (by omega) (by simp [itemsOf]; omega)
        | some c =>
          simp only [comB, if_true]
          obtain ⟨k, rfl⟩ : ∃ n, k = n + 1 := ⟨k - 1, by omega⟩
          have hj2 : ∀ b, b = !(out.getLast?.any fun x => x.common && decide (x.name = c)) → Pr.stowageref20_Listed.j2 (k + 1) l p d vers (out.map itmS) (j : Int) (BA c) b = some (List.map itmS (if out.getLast?.any (fun x => x.common && decide (x.name = c)) = true then listR p.data.toList d.data.toList vers out rest else listR p.data.toList d.data.toList vers (out ++ [comItm c]) rest)) := by
            intro b hb
            unfold Pr.stowageref20_Listed.j2
            try dsimp only
            cases hq : (out.getLast?.any fun x => x.common && decide (x.name = c)) with
            | true =>
              rw [hq] at hb
              subst hb
              rw [if_neg (by simp), if_pos rfl, hup]
              exact ih' k out (by omega) (by omega)
            | false =>
              rw [hq] at hb
              subst hb
              rw [if_pos (show (!false) = true from rfl), if_pos (show (out.map itmS).length < 1599289640401 by rw [List.length_map]; omega), hup, if_neg (show ¬ (false = true) by simp)]
              have e : out.map itmS ++ [(⟨BA c, true, ⟨⟨#[]⟩, 0, false, 0, ⟨#[]⟩⟩, false⟩ : SI)] = (out ++ [comItm c]).map itmS := by
                rw [List.map_append]
                rfl
              rw [e]
              exact ih' k _ (by omega) (by simp; omega)
          by_cases h0 : out = []
          · subst h0
            rw [if_pos (by simp)]
            exact hj2 true (by simp)
          · have hol : 0 < out.length := List.length_pos_iff.2 h0
            have hw : wrap64 (((out.map itmS).length : Int) - 1) = ((out.length - 1 : Nat) : Int) := by rw [List.length_map]; unfold wrap64; omega
            have hg : out.getLast? = some out[out.length - 1] := by rw [List.getLast?_eq_getElem?, List.getElem?_eq_getElem (by omega)]
            rw [if_neg (by simp [h0]), hw, if_pos (by omega), if_pos (by rw [List.length_map]; omega), rdI _ _ (by rw [List.length_map]; omega), List.getElem_map]
            rw [hg] at hj2 ⊢
            simp only [Option.any_some] at hj2 ⊢
            by_cases hcm : out[out.length - 1].common = true
            · rw [if_pos (show (itmS out[out.length - 1]).f1 = true from hcm)]
              refine hj2 _ ?_
              simp only [itmS, hcm, Bool.true_and, bs_toList, List.toList_toArray]
              by_cases hn : out[out.length - 1].name = c <;> simp [hn]
            · have hcm' : out[out.length - 1].common = false := by simpa using hcm
              rw [if_neg (show ¬ (itmS out[out.length - 1]).f1 = true from hcm)]
              refine hj2 true ?_
              simp [hcm']
    unfold Pr.stowageref20_Listed.l0
    rw [if_pos (by omega), if_pos (by omega), rdE l j hjl, begins_f, Option.bind_some]
    cases hpb : p.data.toList.isPrefixOf l[j].f0.data.toList with
    | false =>
      rw [if_neg (by simp)]
      exact hj1 true (by rw [hsk, hpb]; rfl)
    | true =>
      rw [if_pos rfl]
      cases vers with
      | true =>
        rw [if_pos rfl]
        exact hj1 false (by rw [hsk, hpb]; rfl)
      | false =>
        rw [if_neg (by simp), if_pos (by omega), hfirst]
        exact hj1 _ (by rw [hsk, hpb]; simp)
end Go.Proofs.Ytahkcfhiecfgeaa
end
section
/- Listing, the plain law: both sides' pages are one. -/
namespace Go.Proofs.Ytahkcfhiecfgeaa
open Go.RowKit Go.Proofs.YtahkcfhiecfgeaaW.PrintWords Go.Proofs.YtahkcfhiecfgeaaW.PrintLast Go.Proofs.YtahkcfhiecfgeaaW.PrintMore
open Pr (SV SE SI verL entL verS itmS itmL pageOut cutOut)
set_option linter.unusedVariables false
set_option linter.unusedSimpArgs false
theorem itm_S (x : Itm) : itmL (itmS x) = x := by
  obtain ⟨a, b, ⟨c, d, e, f, g⟩, h⟩ := x
  simp [itmS, itmL, verS, verL]
theorem itms_S (l : List Itm) : (l.map itmS).map itmL = l := by
  rw [List.map_map, show itmL ∘ itmS = id from funext itm_S, List.map_id]
theorem listR_len (p d : Bs) (vers : Bool) : ∀ (l : List Ent) (out : List Itm), (∀ e ∈ l, e.vs.length ≤ 20) → (listR p d vers out l).length ≤ out.length + 21 * l.length
  | [], out, _ => by simp [listR]
  | e :: r, out, h => by
    have hr : ∀ x ∈ r, x.vs.length ≤ 20 := fun x hx => h x (List.mem_cons_of_mem _ hx)
    have he := h e (List.mem_cons_self ..)
    unfold listR
    rw [List.length_cons]
    split
    · have := listR_len p d vers r out hr
      omega
    · split
      · split
        · have := listR_len p d vers r out hr
          omega
        · have := listR_len p d vers r (out ++ [comItm (by assumption)]) hr
          simp at this
          omega
      · have := listR_len p d vers r (out ++ itemsOf vers e) hr
        have hi : (itemsOf vers e).length ≤ 21 := by
          unfold itemsOf
          split
          · rw [versItms_len]; omega
          · simp
        rw [List.length_append] at this
        omega
theorem cut_page (vers : Bool) (m : Nat) (q : List Itm) (hm : 1 ≤ m) : cutOut vers m q = pageOut (mkPg vers m (cutP m q), 0) := by
  unfold cutOut pageOut cutP mkPg cutNext cutVer cutM
  by_cases h : q.length ≤ m
  · rw [if_pos h]
    simp [show ¬ m < q.length by omega, List.take_of_length_le h]
  · rw [if_neg h]
    have hd : (q.take m).getD (m - 1) itm0 = q.getD (m - 1) itm0 := by
      rw [List.getD_eq_getElem?_getD, List.getD_eq_getElem?_getD, List.getElem?_take_of_lt (by omega)]
    simp only [if_true]
    rw [hd]
    simp [show m < q.length by omega]
theorem small_of {l : List SE} (hl : l.length ≤ 60) (hv : ∀ e ∈ l, e.f0.size ≤ 600 ∧ e.f1.length ≤ 20) : Pr.small l = true := by
  unfold Pr.small
  simp only [Bool.and_eq_true, decide_eq_true_eq, List.all_eq_true]
  exact ⟨by omega, fun e he => ⟨by have := (hv e he).1; omega, by have := (hv e he).2; omega⟩⟩
theorem any3 (a b c : ByteArray) (n : Nat) : (([a, b, c] : List ByteArray).any fun s => decide (n < s.size)) = true ↔ (n < a.size ∨ n < b.size ∨ n < c.size) := by simp
theorem any4 (a b c d : ByteArray) (n : Nat) : (([a, b, c, d] : List ByteArray).any fun s => decide (n < s.size)) = true ↔ (n < a.size ∨ n < b.size ∨ n < c.size ∨ n < d.size) := by simp
/-- What the reference does once its texts are gone through. -/
theorem ref_rest (l : List SE) (p d after ve : ByteArray) (vers : Bool) (most : Int) (k : Nat) (hk : 3000 ≤ k) (hl : l.length ≤ 60) (hv : ∀ e ∈ l, e.f0.size ≤ 600 ∧ e.f1.length ≤ 20) (hd : d.size ≤ 1000000) (hok : okFrom none (l.map entL) = true) (hm : 1 ≤ most ∧ most ≤ 1000) :
    ((Pr.stowageref20_Listed.f k l p d vers).bind fun li => (if li.length ≤ 1000000 ∧ 1 ≤ most ∧ most ≤ 1000 then some (cutOut vers most.toNat (behindR after.data.toList ve.data.toList false (li.map itmL))) else none)) = some (pageOut (mkPg vers most.toNat (runP after.data.toList ve.data.toList most.toNat false [] (listP p.data.toList d.data.toList vers none (l.map entL))), 0)) ∧
    (pageOut (mkPg vers most.toNat (runP after.data.toList ve.data.toList most.toNat false [] (listP p.data.toList d.data.toList vers none (l.map entL))), 0)).1.length ≤ 1000 := by
  have hne : ∀ e ∈ l, e.f0.size ≤ 600 ∧ e.f1.length ≤ 20 ∧ e.f1 ≠ [] := fun e he => ⟨(hv e he).1, (hv e he).2, fun h0 => by
    have := okFrom_all hok (entL e) (List.mem_map_of_mem he)
    exact this (by simp [entL, h0])⟩
  have hL : Pr.stowageref20_Listed.f k l p d vers = some ((listR p.data.toList d.data.toList vers [] (l.map entL)).map itmS) := by
    unfold Pr.stowageref20_Listed.f
    exact listed_l0 l p d vers hl hne hd l.length k 0 [] (by omega) (by omega) (by simp)
  have hlen := listR_len p.data.toList d.data.toList vers (l.map entL) [] (fun e he => by
    obtain ⟨x, hx, rfl⟩ := List.mem_map.1 he
    have := (hv x hx).2
    simpa [entL] using this)
  simp only [List.length_nil, List.length_map] at hlen
  rw [listed_eq _ _ _ _ hok] at hL hlen
  rw [hL, Option.bind_some, if_pos ⟨by rw [List.length_map]; omega, hm⟩, itms_S, runP_cut _ _ _ _ (listP_alike _ _ _ _ _ _), ← cut_page _ _ _ (by omega)]
  exact ⟨rfl, by simp only [cutOut, List.length_map, List.length_take]; omega⟩
theorem keys_both (l : List SE) (p d after : ByteArray) (most : Int) (k : Nat) (hk : 3000 ≤ k) (hl : l.length ≤ 60) (hv : ∀ e ∈ l, e.f0.size ≤ 600 ∧ e.f1.length ≤ 20) (hp : p.size ≤ 600) (hd : d.size ≤ 600) (ha : after.size ≤ 600) :
    ∃ R, Pr.listing_Keys.f l p d after most = some R ∧ Pr.stowageref20_Keys.f k l p d after most = some R ∧ R.1.length ≤ 1000 := by
  refine ⟨pageOut (pageV false (l.map entL) p.data.toList d.data.toList after.data.toList [] most), ?_, ?_⟩
  · unfold Pr.listing_Keys.f
    rw [if_pos ⟨small_of hl hv, by omega, by omega, by omega⟩]
  · unfold Pr.stowageref20_Keys.f Pr.stowageref20_wrong.f
    rw [show (0 : Int) = ((0 : Nat) : Int) from rfl, wrong_l0 l [p, d, after] most (by simp) (by omega) 3 k 0 (by simp) (by omega), Option.bind_some, List.drop_zero]
    simp only [any3]
    by_cases h1 : 400 < p.size ∨ 400 < d.size ∨ 400 < after.size
    · rw [if_pos h1, if_neg (by omega), show ([] : Bs) = (⟨#[]⟩ : ByteArray).data.toList from rfl, pageV_long (by rcases h1 with h | h | h; exact .inl h; exact .inr (.inl h); exact .inr (.inr (.inl h)))]
      exact ⟨rfl, by simp [pageOut, pg0]⟩
    · rw [if_neg h1]
      have h1' : p.size ≤ 400 ∧ d.size ≤ 400 ∧ after.size ≤ 400 ∧ (⟨#[]⟩ : ByteArray).size ≤ 400 := ⟨by omega, by omega, by omega, by decide⟩
      cases hok : okFrom none (l.map entL) with
      | false =>
        rw [if_pos rfl, if_neg (by omega), show ([] : Bs) = (⟨#[]⟩ : ByteArray).data.toList from rfl, pageV_bad h1' hok]
        exact ⟨rfl, by simp [pageOut, pg0]⟩
      | true =>
        rw [if_neg (show ¬ (true = false) by simp)]
        by_cases hm : most < 1 ∨ 1000 < most
        · rw [if_pos hm, if_neg (by omega), show ([] : Bs) = (⟨#[]⟩ : ByteArray).data.toList from rfl, pageV_range h1' hok hm]
          exact ⟨rfl, by simp [pageOut, pg0]⟩
        · rw [if_neg hm, if_pos (by simp), show ([] : Bs) = (⟨#[]⟩ : ByteArray).data.toList from rfl, pageV_good h1' hok (by omega)]
          exact ref_rest l p d after ⟨#[]⟩ false most k hk hl hv (by omega) hok (by omega)
theorem vers_both (l : List SE) (p d after ve : ByteArray) (most : Int) (k : Nat) (hk : 3000 ≤ k) (hl : l.length ≤ 60) (hv : ∀ e ∈ l, e.f0.size ≤ 600 ∧ e.f1.length ≤ 20) (hp : p.size ≤ 600) (hd : d.size ≤ 600) (ha : after.size ≤ 600) (hve : ve.size ≤ 600) :
    ∃ R, Pr.listing_Versions.f l p d after ve most = some R ∧ Pr.stowageref20_Versions.f k l p d after ve most = some R ∧ R.1.length ≤ 1000 := by
  refine ⟨pageOut (pageV true (l.map entL) p.data.toList d.data.toList after.data.toList ve.data.toList most), ?_, ?_⟩
  · unfold Pr.listing_Versions.f
    rw [if_pos ⟨small_of hl hv, by omega, by omega, by omega, by omega⟩]
  · unfold Pr.stowageref20_Versions.f Pr.stowageref20_wrong.f
    rw [show (0 : Int) = ((0 : Nat) : Int) from rfl, wrong_l0 l [p, d, after, ve] most (by simp) (by omega) 4 k 0 (by simp) (by omega), Option.bind_some, List.drop_zero]
    simp only [any4]
    by_cases h1 : 400 < p.size ∨ 400 < d.size ∨ 400 < after.size ∨ 400 < ve.size
    · rw [if_pos h1, if_neg (by omega), pageV_long h1]
      exact ⟨rfl, by simp [pageOut, pg0]⟩
    · rw [if_neg h1]
      have h1' : p.size ≤ 400 ∧ d.size ≤ 400 ∧ after.size ≤ 400 ∧ ve.size ≤ 400 := ⟨by omega, by omega, by omega, by omega⟩
      cases hok : okFrom none (l.map entL) with
      | false =>
        rw [if_pos rfl, if_neg (by omega), pageV_bad h1' hok]
        exact ⟨rfl, by simp [pageOut, pg0]⟩
      | true =>
        rw [if_neg (show ¬ (true = false) by simp)]
        by_cases hm : most < 1 ∨ 1000 < most
        · rw [if_pos hm, if_neg (by omega), pageV_range h1' hok hm]
          exact ⟨rfl, by simp [pageOut, pg0]⟩
        · rw [if_neg hm, if_pos (by simp), pageV_good h1' hok (by omega)]
          exact ref_rest l p d after ve true most k hk hl hv (by omega) hok (by omega)
end Go.Proofs.Ytahkcfhiecfgeaa
end
section
/- TopSteady: plain: names, pages of names. -/
namespace Go.Proofs.Ytahkcfhiecfgeaa
open Go.RowKit Go.Proofs.YtahkcfhiecfgeaaW.PrintWords Go.Proofs.YtahkcfhiecfgeaaW.PrintLast Go.Proofs.YtahkcfhiecfgeaaW.PrintMore
open Pr (SV SE SI verL entL verS itmS itmL pageOut cutOut)
set_option linter.unusedVariables false
set_option linter.unusedSimpArgs false
def plainItm (e : Ent) : Itm := ⟨e.key, false, firstV e, false⟩
def keepP (p : Bs) (e : Ent) : Bool := !skips p false e
def namesOf (p : Bs) (es : List Ent) : List Bs := (es.filter (keepP p)).map (·.key)
theorem listP_plain (p : Bs) : ∀ (es : List Ent) (last : Option Bs), listP p [] false last es = (es.filter (keepP p)).map plainItm
  | [], _ => by simp [listP]
  | e :: r, last => by
    unfold listP
    have hc : commonL p [] e.key = none := by unfold commonL; rw [if_pos rfl]
    by_cases h : skips p false e = true
    · rw [if_pos h, listP_plain p r last, List.filter_cons_of_neg (by simp [keepP, h])]
    · rw [if_neg h, hc]
      simp only
      rw [listP_plain p r last, List.filter_cons_of_pos (by simpa [keepP] using h)]
      simp [itemsOf, plainItm]
theorem behindR_plain (a : Bs) : ∀ (l : List Itm), behindR a [] false l = l.filter fun x => decide (a < x.name)
  | [] => rfl
  | x :: r => by
    rw [behindR_cons]
    have : marksP a [] x = false := by simp [marksP]
    rw [this, Bool.or_false, behindR_plain a r]
    by_cases h : a < x.name
    · simp [h]
    · simp [h]
theorem okFrom_pair : ∀ (es : List Ent) (q : Option Bs), okFrom q es = true → es.Pairwise (fun a b => a.key < b.key)
  | [], _, _ => List.Pairwise.nil
  | e :: r, q, h => List.Pairwise.cons (okFrom_lt r e.key (okFrom_tail h)) (okFrom_pair r _ (okFrom_tail h))
theorem namesOf_pair (p : Bs) (es : List Ent) (h : okFrom none es = true) : (namesOf p es).Pairwise (· < ·) := by
  unfold namesOf
  rw [List.pairwise_map]
  exact (okFrom_pair es none h).filter _
theorem namesOf_len (p : Bs) (es : List Ent) : (namesOf p es).length ≤ es.length := by
  unfold namesOf
  rw [List.length_map]
  exact List.length_filter_le _ _
/-- What a page is, of names alone. -/
def restN (a : Bs) (N : List Bs) : List Bs := N.filter fun x => decide (a < x)
structure PageN (m : Nat) (a : Bs) (N : List Bs) (R : List SI × Bool × ByteArray × ByteArray × Int) : Prop where
  err : R.2.2.2.2 = 0
  items : R.1.map (·.f0) = ((restN a N).take m).map BA
  more : R.2.1 = decide (m < (restN a N).length)
  next : m < (restN a N).length → R.2.2.1 = BA ((restN a N).getD (m - 1) [])
theorem keys_page (l : List SE) (p a : Bs) (m : Nat) (hl : l.length ≤ 60) (hv : ∀ e ∈ l, e.f0.size ≤ 600 ∧ e.f1.length ≤ 20) (hok : okFrom none (l.map entL) = true) (hp : p.length ≤ 400) (ha : a.length ≤ 400) (hm : 1 ≤ m ∧ m ≤ 1000) :
    ∃ R, Pr.listing_Keys.f l (BA p) ⟨#[]⟩ (BA a) (m : Int) = some R ∧ PageN m a (namesOf p (l.map entL)) R := by
  have hsp : (BA p).size ≤ 400 := by rw [bs_len]; simpa using hp
  have hsa : (BA a).size ≤ 400 := by rw [bs_len]; simpa using ha
  have hpl : (BA p).data.toList = p := by simp
  have hal : (BA a).data.toList = a := by simp
  refine ⟨pageOut (pageV false (l.map entL) (BA p).data.toList (⟨#[]⟩ : ByteArray).data.toList (BA a).data.toList (⟨#[]⟩ : ByteArray).data.toList (m : Int)), ?_, ?_⟩
  · unfold Pr.listing_Keys.f
    rw [if_pos ⟨small_of hl hv, by omega, by decide, by omega⟩]
  · rw [pageV_good ⟨hsp, by decide, hsa, by decide⟩ hok (by omega), Int.toNat_natCast, runP_cut _ _ _ _ (listP_alike _ _ _ _ _ _), ← cut_page _ _ _ (by omega), hpl, hal]
    show PageN m a (namesOf p (l.map entL)) (cutOut false m (behindR a [] false (listP p [] false none (l.map entL))))
    rw [listP_plain, behindR_plain]
    generalize l.map entL = es
    have hN : restN a (namesOf p es) = ((es.filter (keepP p)).map plainItm |>.filter fun x => decide (a < x.name)).map (·.name) := by
      unfold restN namesOf
      rw [List.filter_map, List.filter_map, List.map_map]
      rfl
    generalize (((es.filter (keepP p)).map plainItm).filter fun x => decide (a < x.name)) = q at hN
    refine ⟨rfl, ?_, ?_, fun h => ?_⟩
    · rw [hN]
      simp only [cutOut]
      rw [List.map_map, ← List.map_take, List.map_map]
      rfl
    · rw [hN]
      simp [cutOut, cutM]
    · rw [hN] at h ⊢
      rw [List.length_map] at h
      simp only [cutOut, cutNext, cutM]
      simp only [decide_eq_true h, if_true]
      rw [List.getD_eq_getElem?_getD, List.getD_eq_getElem?_getD, List.getElem?_map, List.getElem?_eq_getElem (by omega)]
      rfl
theorem pick_f (a : Int) : ∃ r : Nat, Pr.stowagekit_Pick.f a 10 = some (r : Int) ∧ r < 10 := by
  unfold Pr.stowagekit_Pick.f
  rw [if_neg (by omega), if_neg (by omega)]
  have h1 := Int.tmod_lt_of_pos a (show (0 : Int) < 10 by omega)
  have h2 : -10 < Int.tmod a 10 := by
    have := Int.neg_tmod a 10
    have := Int.tmod_lt_of_pos (-a) (show (0 : Int) < 10 by omega)
    omega
  by_cases h : Int.tmod a 10 < 0
  · rw [if_pos h]
    refine ⟨(Int.tmod a 10 + 10).toNat, ?_, by omega⟩
    congr 1
    unfold wrap64
    omega
  · rw [if_neg h]
    exact ⟨(Int.tmod a 10).toNat, by congr 1; omega, by omega⟩
theorem starts_f (s p : ByteArray) : Pr.stowagetop_starts.f s p = some (p.data.toList.isPrefixOf s.data.toList) := begins_f s p
/-- The page's step, of names. -/
theorem restN_pair {a : Bs} {N : List Bs} (h : N.Pairwise (· < ·)) : (restN a N).Pairwise (· < ·) := h.filter _
theorem restN_gt {a x : Bs} {N : List Bs} (h : x ∈ restN a N) : a < x := by
  unfold restN at h
  simpa using (List.mem_filter.1 h).2
theorem restN_mem {a x : Bs} {N : List Bs} (h : x ∈ N) (ha : a < x) : x ∈ restN a N := List.mem_filter.2 ⟨h, by simpa using ha⟩
theorem last_of {r : List Bs} {m : Nat} (hm : 1 ≤ m) (hr : m < r.length) (hp : r.Pairwise (· < ·)) :
    (∀ x ∈ r.take m, ¬ r.getD (m - 1) [] < x) ∧ (∀ x ∈ r, x ∈ r.take m ∨ r.getD (m - 1) [] < x) ∧ r.getD (m - 1) [] ∈ r := by
  have hg : r.getD (m - 1) [] = r[m - 1] := by rw [List.getD_eq_getElem?_getD, List.getElem?_eq_getElem (by omega)]; rfl
  rw [hg]
  rw [List.pairwise_iff_getElem] at hp
  refine ⟨fun x hx => ?_, fun x hx => ?_, List.getElem_mem _⟩
  · obtain ⟨i, hi, rfl⟩ := List.mem_take_iff_getElem.1 hx
    by_cases h : i = m - 1
    · subst h; exact lt_irr _
    · exact lt_asy (hp i (m - 1) (by omega) (by omega) (by omega))
  · obtain ⟨i, hi, rfl⟩ := List.mem_iff_getElem.1 hx
    by_cases h : i < m
    · exact .inl (List.mem_take_iff_getElem.2 ⟨i, by omega, rfl⟩)
    · exact .inr (hp (m - 1) i (by omega) hi (by omega))
theorem restN_less {a b : Bs} {N : List Bs} (hab : a < b) (hb : b ∈ N) : (restN b N).length < (restN a N).length := by
  have h1 : restN b N = (restN a N).filter fun x => decide (b < x) := by
    unfold restN
    rw [List.filter_filter]
    congr 1
    funext x
    by_cases h : b < x
    · simp [h, lt_trn hab h]
    · simp [h]
  rw [h1]
  have hm := restN_mem hb hab
  rcases Nat.lt_or_ge ((restN a N).filter fun x => decide (b < x)).length (restN a N).length with h | h
  · exact h
  · exfalso
    have := List.length_filter_eq_length_iff.1 (Nat.le_antisymm (List.length_filter_le _ _) h) b hm
    simp [lt_irr] at this
end Go.Proofs.Ytahkcfhiecfgeaa
end
section
/- TopSteady: plain: the printed form is true. -/
namespace Go.Proofs.Ytahkcfhiecfgeaa
open Go.RowKit Go.Proofs.YtahkcfhiecfgeaaW.PrintWords Go.Proofs.YtahkcfhiecfgeaaW.PrintLast Go.Proofs.YtahkcfhiecfgeaaW.PrintMore
open Pr (SV SE SI verL entL verS itmS itmL pageOut cutOut)
set_option linter.unusedVariables false
set_option linter.unusedSimpArgs false
theorem rdLL (l : List (List SE)) (j : Nat) (h : j < l.length) : Pr.rd_L6 l (j : Int) = l[j] := by
  unfold Pr.rd_L6
  rw [Int.toNat_natCast, List.getD_eq_getElem?_getD, List.getElem?_eq_getElem h]
  rfl
/-- Lists that are gone through. -/
structure FineE (l : List SE) : Prop where
  len : l.length ≤ 60
  sz : ∀ e ∈ l, e.f0.size ≤ 400 ∧ e.f1.length ≤ 20
  ne : ∀ e ∈ l, e.f0.data.toList ≠ []
  ok : okFrom none (l.map entL) = true
theorem FineE.vs {l : List SE} (h : FineE l) : ∀ e ∈ l, e.f1 ≠ [] := fun e he h0 => by
  have := okFrom_all h.ok (entL e) (List.mem_map_of_mem he)
  exact this (by simp [entL, h0])
theorem there_l0 (l : List SE) (h : FineE l) (key : ByteArray) : ∀ (d k j : Nat), j + d = l.length → d + 1 ≤ k → ∃ b, Pr.stowagetop_there.l0 k l key (j : Int) = some b ∧ (b = true → ∃ e ∈ l, e.f0.data.toList = key.data.toList ∧ (firstV (entL e)).mark = false) := by
  intro d
  induction d with
  | zero =>
    intro k j hj hk
    obtain ⟨k, rfl⟩ : ∃ n, k = n + 1 := ⟨k - 1, by omega⟩
    unfold Pr.stowagetop_there.l0
    rw [if_neg (by omega)]
    exact ⟨false, rfl, fun h => by cases h⟩
  | succ d ih =>
    intro k j hj hk
    obtain ⟨k, rfl⟩ : ∃ n, k = n + 1 := ⟨k - 1, by omega⟩
    have hjl : j < l.length := by omega
    have hvne := h.vs l[j] (List.getElem_mem hjl)
    have hvpos : 0 < l[j].f1.length := List.length_pos_iff.2 hvne
    unfold Pr.stowagetop_there.l0
    rw [if_pos (by omega), if_pos (by omega), rdE l j hjl, bs_toList, bs_toList]
    by_cases he : l[j].f0.data.toList = key.data.toList
    · rw [if_pos he, if_pos (by omega)]
      refine ⟨_, rfl, fun hb => ⟨l[j], List.getElem_mem hjl, he, ?_⟩⟩
      rw [show (0 : Int) = ((0 : Nat) : Int) from rfl, rdV _ 0 hvpos] at hb
      unfold firstV
      show (((l[j].f1).map verL).headD ver0).mark = false
      rw [List.headD_eq_head?_getD, List.head?_map, List.head?_eq_getElem?, List.getElem?_eq_getElem hvpos]
      simpa [verL] using hb
    · rw [if_neg he, wrap_up j l.length hjl (by have := h.len; omega)]
      exact ih k (j + 1) (by omega) (by omega)
def nmsE (p : Bs) (l : List SE) : List Bs := namesOf p (l.map entL)
theorem there_in {l : List SE} {p : Bs} {key : ByteArray} (hp : p.isPrefixOf key.data.toList = true) {e : SE} (he : e ∈ l) (hk : e.f0.data.toList = key.data.toList) (hm : (firstV (entL e)).mark = false) : key.data.toList ∈ nmsE p l := by
  unfold nmsE namesOf
  refine List.mem_map.2 ⟨entL e, List.mem_filter.2 ⟨List.mem_map_of_mem he, ?_⟩, hk⟩
  unfold keepP skips
  rw [hm]
  have : (entL e).key = key.data.toList := hk
  rw [this, hp]
  rfl
theorem nms_pair {p : Bs} {l : List SE} (h : FineE l) : (nmsE p l).Pairwise (· < ·) := namesOf_pair p _ h.ok
theorem nms_len {p : Bs} {l : List SE} (h : FineE l) : (nmsE p l).length ≤ 60 := by
  have := namesOf_len p (l.map entL)
  rw [List.length_map] at this
  exact Nat.le_trans this h.len
theorem nms_small {p : Bs} {l : List SE} (h : FineE l) : ∀ x ∈ nmsE p l, x.length ≤ 400 ∧ x ≠ [] := fun x hx => by
  unfold nmsE namesOf at hx
  obtain ⟨e, he, rfl⟩ := List.mem_map.1 hx
  obtain ⟨e', he', rfl⟩ := List.mem_map.1 (List.mem_filter.1 he).1
  exact ⟨by have := (h.sz e' he').1; simpa [entL] using this, h.ne e' he'⟩
/-! ### the last loops: all is well with what was got -/
structure GotAll (ll : List (List SE)) (p : Bs) (G : List Bs) : Prop where
  up : G.Pairwise (· < ·)
  all : ∀ K, (∀ l ∈ ll, K ∈ nmsE p l) → K ∈ G
  len : G.length ≤ 10000
theorem rdG (G : List Bs) (j : Nat) (h : j < G.length) : rdOf ByteArray.empty (G.map BA) (j : Int) = BA G[j] := by
  rw [rdS _ j (by simpa using h), List.getElem_map]
theorem steady_l7 (ll : List (List SE)) (pB : ByteArray) (G : List Bs) (hG : G.length ≤ 10000) (j : Nat) (key : ByteArray) (t : Bool) (F : Nat) (hj : j < 1000000) (hout : ∀ k, F ≤ k → Pr.stowagetop_TopSteady.l5 k ll pB true (G.map BA) false ((j + 1 : Nat) : Int) = some true)
    : ∀ (d k i : Nat) (met : Bool), i + d = G.length → F + d + 1 ≤ k → (t = true → met = true ∨ key.data.toList ∈ G.drop i) → Pr.stowagetop_TopSteady.l7 k ll pB true (G.map BA) false (j : Int) key t met (i : Int) = some true := by
  intro d
  induction d with
  | zero =>
    intro k i met hi hk ht
    obtain ⟨k, rfl⟩ : ∃ n, k = n + 1 := ⟨k - 1, by omega⟩
    unfold Pr.stowagetop_TopSteady.l7
    rw [if_neg (by rw [List.length_map]; omega), wrap_up j (j + 1) (by omega) (by omega)]
    rw [List.drop_of_length_le (by omega)] at ht
    cases t with
    | false => rw [if_neg (by simp)]; exact hout k (by omega)
    | true =>
      have hm : met = true := by
        rcases ht rfl with h | h
        · exact h
        · cases h
      rw [if_pos rfl, if_pos hm]
      exact hout k (by omega)
  | succ d ih =>
    intro k i met hi hk ht
    obtain ⟨k, rfl⟩ : ∃ n, k = n + 1 := ⟨k - 1, by omega⟩
    have hil : i < G.length := by omega
    unfold Pr.stowagetop_TopSteady.l7
    rw [if_pos (by rw [List.length_map]; omega), wrap_up i G.length hil (by omega)]
    by_cases hm : met = true
    · rw [if_pos hm]
      exact ih k (i + 1) true (by omega) (by omega) (fun _ => .inl rfl)
    · rw [if_neg hm, if_pos (by omega), rdG G i hil]
      refine ih k (i + 1) _ (by omega) (by omega) (fun h => ?_)
      rcases ht h with h1 | h1
      · exact absurd h1 hm
      · rw [List.drop_eq_getElem_cons hil] at h1
        rcases List.mem_cons.1 h1 with h2 | h2
        · left
          rw [bs_toList, bs_toList, h2]
          simp
        · exact .inr h2
theorem steady_l6 (ll : List (List SE)) (hll : ll.length ≤ 12) (hf : ∀ l ∈ ll, FineE l) (pB : ByteArray) (G : List Bs) (hA : GotAll ll pB.data.toList G) (j : Nat) (key : ByteArray) (F : Nat) (hj : j < 1000000) (hout : ∀ k, F ≤ k → Pr.stowagetop_TopSteady.l5 k ll pB true (G.map BA) false ((j + 1 : Nat) : Int) = some true)
    : ∀ (d k i : Nat) (t : Bool), i + d = ll.length → F + d + 10100 ≤ k → (t = true → pB.data.toList.isPrefixOf key.data.toList = true ∧ ∀ l ∈ ll.take i, key.data.toList ∈ nmsE pB.data.toList l) → Pr.stowagetop_TopSteady.l6 k ll pB true (G.map BA) false (j : Int) key t (i : Int) = some true := by
  intro d
  induction d with
  | zero =>
    intro k i t hi hk ht
    obtain ⟨k, rfl⟩ : ∃ n, k = n + 1 := ⟨k - 1, by omega⟩
    unfold Pr.stowagetop_TopSteady.l6
    rw [if_neg (by omega)]
    refine steady_l7 ll pB G hA.len j key t F hj hout G.length k 0 false (by omega) (by have := hA.len; omega) (fun h => .inr ?_)
    rw [List.drop_zero]
    have := (ht h).2
    rw [List.take_of_length_le (by omega)] at this
    exact hA.all _ this
  | succ d ih =>
    intro k i t hi hk ht
    obtain ⟨k, rfl⟩ : ∃ n, k = n + 1 := ⟨k - 1, by omega⟩
    have hil : i < ll.length := by omega
    unfold Pr.stowagetop_TopSteady.l6
    rw [if_pos (by omega), wrap_up i ll.length hil (by omega)]
    cases t with
    | false =>
      rw [if_neg (by simp)]
      exact ih k (i + 1) false (by omega) (by omega) (fun h => by cases h)
    | true =>
      have hfi := hf ll[i] (List.getElem_mem hil)
      obtain ⟨b, hb, hbt⟩ := there_l0 ll[i] hfi key ll[i].length k 0 (by omega) (by have := hfi.len; omega)
      rw [if_pos rfl, if_pos (by omega), rdLL ll i hil]
      unfold Pr.stowagetop_there.f
      rw [show (0 : Int) = ((0 : Nat) : Int) from rfl, hb, Option.bind_some]
      refine ih k (i + 1) b (by omega) (by omega) (fun h => ⟨(ht rfl).1, fun l hl => ?_⟩)
      rw [List.take_add_one, List.getElem?_eq_getElem hil] at hl
      rcases List.mem_append.1 hl with hl | hl
      · exact (ht rfl).2 l hl
      · obtain rfl : l = ll[i] := by simpa using hl
        obtain ⟨e, he, h1, h2⟩ := hbt h
        exact there_in (ht rfl).1 he h1 h2
theorem steady_l5 (ll : List (List SE)) (h0 : 0 < ll.length) (hll : ll.length ≤ 12) (hf : ∀ l ∈ ll, FineE l) (pB : ByteArray) (G : List Bs) (hA : GotAll ll pB.data.toList G)
    : ∀ (d k j : Nat), j + d = (ll[0]'h0).length → 20000 + d * 11000 ≤ k → Pr.stowagetop_TopSteady.l5 k ll pB true (G.map BA) false (j : Int) = some true := by
  have hf0 := hf ll[0] (List.getElem_mem h0)
  have hr0 : Pr.rd_L6 ll 0 = ll[0] := rdLL ll 0 h0
  intro d
  induction d with
  | zero =>
    intro k j hj hk
    obtain ⟨k, rfl⟩ : ∃ n, k = n + 1 := ⟨k - 1, by omega⟩
    unfold Pr.stowagetop_TopSteady.l5
    rw [if_pos (by omega), hr0, if_neg (by omega), if_pos rfl]
    rfl
  | succ d ih =>
    intro k j hj hk
    obtain ⟨k, rfl⟩ : ∃ n, k = n + 1 := ⟨k - 1, by omega⟩
    have hjl : j < ll[0].length := by omega
    unfold Pr.stowagetop_TopSteady.l5
    rw [if_pos (by omega), hr0, if_pos (by omega), if_pos (by omega), rdE _ j hjl, starts_f, Option.bind_some]
    refine steady_l6 ll hll hf pB G hA j _ (20000 + d * 11000) (by have := hf0.len; omega) (fun k hk => ih k (j + 1) (by omega) hk) ll.length k 0 _ (by omega) (by omega) (fun h => ⟨h, fun l hl => by simp at hl⟩)
end Go.Proofs.Ytahkcfhiecfgeaa
end
section
/- TopSteady: plain: the pages' loop, and the law. -/
namespace Go.Proofs.Ytahkcfhiecfgeaa
open Go.RowKit Go.Proofs.YtahkcfhiecfgeaaW.PrintWords Go.Proofs.YtahkcfhiecfgeaaW.PrintLast Go.Proofs.YtahkcfhiecfgeaaW.PrintMore
open Pr (SV SE SI verL entL verS itmS itmL pageOut cutOut)
set_option linter.unusedVariables false
set_option linter.unusedSimpArgs false
theorem bl_ba (a b : Bs) : Op.bytesLess (BA a).toList (BA b).toList = decide (a < b) := by rw [bytesLess_eq, bs_toList, bs_toList]
theorem steady_l4 (ll : List (List SE)) (h0 : 0 < ll.length) (hll : ll.length ≤ 12) (hf : ∀ l ∈ ll, FineE l) (pB : ByteArray) (G : List Bs) (hA : GotAll ll pB.data.toList G)
    : ∀ (d k i : Nat), 1 ≤ i → i ≤ 20000 → G.length ≤ i + d → 700000 + d ≤ k → Pr.stowagetop_TopSteady.l4 k ll pB true (G.map BA) false (i : Int) = some true := by
  have hup := hA.up
  rw [List.pairwise_iff_getElem] at hup
  have hend : ∀ k, 690000 ≤ k → Pr.stowagetop_TopSteady.l5 k ll pB true (G.map BA) false 0 = some true := fun k hk => by
    have := (hf ll[0] (List.getElem_mem h0)).len
    exact steady_l5 ll h0 hll hf pB G hA ll[0].length k 0 (by omega) (by omega)
  intro d
  induction d with
  | zero =>
    intro k i h1 h2 hi hk
    obtain ⟨k, rfl⟩ : ∃ n, k = n + 1 := ⟨k - 1, by omega⟩
    unfold Pr.stowagetop_TopSteady.l4
    rw [if_neg (by rw [List.length_map]; omega)]
    exact hend k (by omega)
  | succ d ih =>
    intro k i h1 h2 hi hk
    obtain ⟨k, rfl⟩ : ∃ n, k = n + 1 := ⟨k - 1, by omega⟩
    unfold Pr.stowagetop_TopSteady.l4
    have hGl := hA.len
    by_cases h : i < G.length
    · rw [if_pos (by rw [List.length_map]; omega), if_pos (by omega), wrap_dn i h1 (by omega), if_pos (by omega), if_pos (by rw [List.length_map]; omega), rdG G (i - 1) (by omega), rdG G i h, bl_ba, decide_eq_true (hup (i - 1) i (by omega) h (by omega)), if_pos rfl, wrap_up i G.length h (by omega)]
      exact ih k (i + 1) (by omega) (by omega) (by omega) (by omega)
    · rw [if_neg (by rw [List.length_map]; omega)]
      exact hend k (by omega)
theorem steady_l3 (ll : List (List SE)) (pB : ByteArray) (m : Int) (n : Nat) (hn : n ≤ 1000) (R : List SI × Bool × ByteArray × ByteArray × Int) (full : List ByteArray) (F : Nat) (hR : R.1.length ≤ 1000)
    (hout : ∀ k, F ≤ k → Pr.stowagetop_TopSteady.l2 k ll pB m true full R.2.2.1 R.2.1 ((n + 1 : Nat) : Int) = some true) :
    ∀ (d k i : Nat) (acc : List ByteArray), i + d = R.1.length → F + d + 1 ≤ k → acc.length + d ≤ 100000 → acc ++ (R.1.drop i).map (·.f0) = full → Pr.stowagetop_TopSteady.l3 k ll pB m true acc (n : Int) (i : Int) R.1 R.2.1 R.2.2.1 R.2.2.2.1 = some true := by
  intro d
  induction d with
  | zero =>
    intro k i acc hi hk ha hacc
    obtain ⟨k, rfl⟩ : ∃ n, k = n + 1 := ⟨k - 1, by omega⟩
    rw [List.drop_of_length_le (by omega)] at hacc
    unfold Pr.stowagetop_TopSteady.l3
    rw [if_neg (by omega), wrap_up n 1001 (by omega) (by omega)]
    rw [List.map_nil, List.append_nil] at hacc
    rw [hacc]
    exact hout k (by omega)
  | succ d ih =>
    intro k i acc hi hk ha hacc
    obtain ⟨k, rfl⟩ : ∃ n, k = n + 1 := ⟨k - 1, by omega⟩
    have hil : i < R.1.length := by omega
    unfold Pr.stowagetop_TopSteady.l3
    rw [if_pos (by omega), if_pos (by omega), if_pos (by omega), rdI _ i hil, wrap_up i R.1.length hil (by omega)]
    refine ih k (i + 1) _ (by omega) (by omega) (by simp; omega) ?_
    rw [← hacc, List.drop_eq_getElem_cons hil, List.map_cons, List.append_assoc]
    rfl
def lastNms (p : Bs) (ll : List (List SE)) : List Bs := nmsE p (ll.getD (ll.length - 1) [])
structure InvT (ll : List (List SE)) (p : Bs) (n : Nat) (G : List Bs) (a : Bs) : Prop where
  up : G.Pairwise (· < ·)
  le : ∀ g ∈ G, ¬ a < g
  all : ∀ K, (∀ l ∈ ll, K ∈ nmsE p l) → K ∈ G ∨ a < K
  len : G.length ≤ 10 * n
  alen : a.length ≤ 400
theorem steady_l2 (ll : List (List SE)) (h0 : 0 < ll.length) (hll : ll.length ≤ 12) (hf : ∀ l ∈ ll, FineE l) (pB : ByteArray) (hp : pB.size ≤ 400) (m : Nat) (hm : 1 ≤ m ∧ m ≤ 10) :
    ∀ (μ k n : Nat) (G : List Bs) (a : Bs), n + μ ≤ 80 → 800000 + 30 * μ ≤ k → (if n + 1 < ll.length then ll.length - n + 62 ≤ μ else (restN a (lastNms pB.data.toList ll)).length + 1 ≤ μ) → InvT ll pB.data.toList n G a →
      Pr.stowagetop_TopSteady.l2 k ll pB (m : Int) true (G.map BA) (BA a) true (n : Int) = some true := by
  intro μ
  induction μ with
  | zero =>
    intro k n G a h1 h2 h3 hI
    split at h3 <;> omega
  | succ μ ih =>
    intro k n G a h1 h2 h3 hI
    obtain ⟨k, rfl⟩ : ∃ n, k = n + 1 := ⟨k - 1, by omega⟩
    obtain ⟨k, rfl⟩ : ∃ n, k = n + 1 := ⟨k - 1, by omega⟩
    obtain ⟨ix, hix, hixl, hlast⟩ : ∃ ix : Nat, mn (n : Int) (wrap64 ((ll.length : Int) - 1)) = (ix : Int) ∧ ix < ll.length ∧ (¬ n + 1 < ll.length → ix = ll.length - 1) := by
      rw [show wrap64 ((ll.length : Int) - 1) = ((ll.length - 1 : Nat) : Int) by unfold wrap64; omega]
      unfold mn
      by_cases h : ll.length - 1 < n
      · exact ⟨ll.length - 1, by rw [if_pos (by omega)], by omega, fun _ => rfl⟩
      · exact ⟨n, by rw [if_neg (by omega)], by omega, by omega⟩
    have hF := hf ll[ix] (List.getElem_mem hixl)
    obtain ⟨R, hR, hP⟩ := keys_page ll[ix] pB.data.toList a m hF.len (fun e he => ⟨by have := (hF.sz e he).1; omega, (hF.sz e he).2⟩) hF.ok (by simpa using hp) hI.alen (by omega)
    rw [Pr.ba_data] at hR
    generalize hN : namesOf pB.data.toList (ll[ix].map entL) = N at hP
    have hNp : N.Pairwise (· < ·) := by rw [← hN]; exact nms_pair hF
    have hNl : N.length ≤ 60 := by rw [← hN]; exact nms_len hF
    have hNs : ∀ x ∈ N, x.length ≤ 400 ∧ x ≠ [] := by rw [← hN]; exact nms_small hF
    have hall : ∀ K, (∀ l ∈ ll, K ∈ nmsE pB.data.toList l) → K ∈ N := fun K h => by rw [← hN]; exact h _ (List.getElem_mem hixl)
    have hrl : (restN a N).length ≤ 60 := Nat.le_trans (List.length_filter_le _ _) hNl
    have hRl : R.1.length = ((restN a N).take m).length := by have := congrArg List.length hP.items; simpa using this
    have hRl2 : R.1.length ≤ 10 := by rw [hRl, List.length_take]; omega
    have hrp := restN_pair (a := a) hNp
    unfold Pr.stowagetop_TopSteady.l2
    rw [if_pos (by omega)]
    unfold Pr.stowagetop_TopSteady.j6
    try dsimp only
    rw [if_pos rfl, hix, if_pos (by omega), if_pos (by omega), rdLL ll ix hixl, hR, Option.bind_some, if_pos hP.err]
    have hfull : G.map BA ++ (R.1.drop 0).map (·.f0) = (G ++ (restN a N).take m).map BA := by rw [List.drop_zero, hP.items, List.map_append]
    have hup' : (G ++ (restN a N).take m).Pairwise (· < ·) := by
      rw [List.pairwise_append]
      refine ⟨hI.up, hrp.sublist (List.take_sublist _ _), fun g hg x hx => ?_⟩
      have hax := restN_gt (List.mem_of_mem_take hx)
      rcases lt_tri g a with h | h | h
      · exact lt_trn h hax
      · rw [h]; exact hax
      · exact absurd h (hI.le g hg)
    have hlen' : (G ++ (restN a N).take m).length ≤ 10 * (n + 1) := by
      have := hI.len
      rw [List.length_append, List.length_take]
      omega
    refine steady_l3 ll pB m n (by omega) R _ (k - 20) (by omega) (fun k' hk' => ?_) R.1.length k 0 (G.map BA) (by omega) (by omega) (by have := hI.len; rw [List.length_map]; omega) hfull
    rw [hP.more]
    by_cases hmore : m < (restN a N).length
    · rw [decide_eq_true hmore, hP.next hmore]
      obtain ⟨l1, l2, l3⟩ := last_of hm.1 hmore hrp
      have hax := restN_gt l3
      have hinN : (restN a N).getD (m - 1) [] ∈ N := (List.mem_filter.1 l3).1
      refine ih k' (n + 1) _ _ (by omega) (by omega) ?_ ⟨hup', fun g hg => ?_, fun K hK => ?_, hlen', (hNs _ hinN).1⟩
      · split at h3
        · rename_i hn1
          split
          · omega
          · have hlastf := hf (ll.getD (ll.length - 1) []) (by rw [List.getD_eq_getElem?_getD, List.getElem?_eq_getElem (by omega)]; exact List.getElem_mem _)
            have h5 : (restN ((restN a N).getD (m - 1) []) (lastNms pB.data.toList ll)).length ≤ 60 := Nat.le_trans (List.length_filter_le _ _) (nms_len hlastf)
            omega
        · rename_i hn1
          rw [if_neg (by omega)]
          have hixe := hlast hn1
          have hNe : lastNms pB.data.toList ll = N := by
            rw [← hN]
            unfold lastNms nmsE
            rw [List.getD_eq_getElem?_getD, List.getElem?_eq_getElem (by omega)]
            simp only [Option.getD_some]
            congr 3
            exact hixe.symm
          rw [hNe] at h3 ⊢
          have := restN_less hax hinN
          omega
      · rcases List.mem_append.1 hg with h | h
        · intro hc
          exact hI.le g h (lt_trn hax hc)
        · exact l1 g h
      · rcases hI.all K hK with h | h
        · exact .inl (List.mem_append_left _ h)
        · rcases l2 K (restN_mem (hall K hK) h) with h | h
          · exact .inl (List.mem_append_right _ h)
          · exact .inr h
    · rw [decide_eq_false hmore]
      have hA : GotAll ll pB.data.toList (G ++ (restN a N).take m) := ⟨hup', fun K hK => by
        rcases hI.all K hK with h | h
        · exact List.mem_append_left _ h
        · have := restN_mem (hall K hK) h
          rw [List.take_of_length_le (by omega)]
          exact List.mem_append_right _ this, by omega⟩
      obtain ⟨k', rfl⟩ : ∃ n, k' = n + 1 := ⟨k' - 1, by omega⟩
      obtain ⟨k', rfl⟩ : ∃ n, k' = n + 1 := ⟨k' - 1, by omega⟩
      unfold Pr.stowagetop_TopSteady.l2
      rw [if_pos (by omega)]
      unfold Pr.stowagetop_TopSteady.j6
      try dsimp only
      rw [if_neg (by simp)]
      exact steady_l4 ll h0 hll hf pB _ hA (10 * (n + 1)) k' 1 (by omega) (by omega) (by omega) (by omega)
theorem steady_l1 (ll : List (List SE)) (pB : ByteArray) (most : Int) (i : Nat) (hil : i < ll.length) (hll : ll.length ≤ 12) (hlen : (ll[i]'hil).length ≤ 60) (F : Nat) (hout : (∀ e ∈ ll[i]'hil, e.f0.size ≤ 400 ∧ e.f0.data.toList ≠ []) → ∀ k, F ≤ k → Pr.stowagetop_TopSteady.l0 k ll pB most true ((i + 1 : Nat) : Int) = some true) :
    ∀ (d k j : Nat), j + d = (ll[i]'hil).length → F + d + 1 ≤ k → (∀ e ∈ (ll[i]'hil).take j, e.f0.size ≤ 400 ∧ e.f0.data.toList ≠ []) → Pr.stowagetop_TopSteady.l1 k ll pB most true (i : Int) (j : Int) = some true := by
  intro d
  induction d with
  | zero =>
    intro k j hj hk hI
    obtain ⟨k, rfl⟩ : ∃ n, k = n + 1 := ⟨k - 1, by omega⟩
    unfold Pr.stowagetop_TopSteady.l1
    rw [if_pos (by omega), if_pos (by omega), rdLL ll i hil, if_neg (by omega), wrap_up i ll.length hil (by omega)]
    rw [List.take_of_length_le (by omega)] at hI
    exact hout hI k (by omega)
  | succ d ih =>
    intro k j hj hk hI
    obtain ⟨k, rfl⟩ : ∃ n, k = n + 1 := ⟨k - 1, by omega⟩
    have hjl : j < (ll[i]'hil).length := by omega
    unfold Pr.stowagetop_TopSteady.l1
    rw [if_pos (by omega), if_pos (by omega), rdLL ll i hil, if_pos (by omega), if_pos (by omega), rdE _ j hjl, bs_toList]
    by_cases h1 : (ll[i]'hil)[j].f0.data.toList = []
    · rw [if_pos h1]
    · rw [if_neg h1]
      by_cases h2 : 400 < (ll[i]'hil)[j].f0.size
      · rw [if_pos (by omega)]
      · rw [if_neg (by omega), wrap_up j _ hjl (by omega)]
        refine ih k (j + 1) (by omega) (by omega) (fun e he => ?_)
        rw [List.take_add_one, List.getElem?_eq_getElem hjl] at he
        rcases List.mem_append.1 he with h | h
        · exact hI e h
        · obtain rfl : e = (ll[i]'hil)[j] := by simpa using h
          exact ⟨by omega, h1⟩
set_option maxRecDepth 100000 in
theorem steady_l0 (ll : List (List SE)) (h0 : 0 < ll.length) (hll : ll.length ≤ 12) (pB : ByteArray) (hp : pB.size ≤ 400) (most : Int) (B : Nat) (hB : 900000 ≤ B) : ∀ (d k i : Nat), i + d = ll.length → B + 1000 * d ≤ k → (∀ l ∈ ll.take i, FineE l) → Pr.stowagetop_TopSteady.l0 k ll pB most true (i : Int) = some true := by
  intro d
  induction d with
  | zero =>
    intro k i hi hk hI
    obtain ⟨k, rfl⟩ : ∃ n, k = n + 1 := ⟨k - 1, by omega⟩
    rw [List.take_of_length_le (by omega)] at hI
    obtain ⟨r, hr, hr10⟩ := pick_f most
    unfold Pr.stowagetop_TopSteady.l0
    rw [if_neg (by omega), hr, Option.bind_some, show wrap64 (1 + (r : Int)) = ((r + 1 : Nat) : Int) by unfold wrap64; omega]
    refine steady_l2 ll h0 hll hI pB hp (r + 1) (by omega) 80 k 0 [] [] (by omega) (by omega) ?_ ⟨List.Pairwise.nil, fun g hg => by simp at hg, fun K hK => .inr ?_, by simp, by simp⟩
    · have hlastf := hI (ll.getD (ll.length - 1) []) (by rw [List.getD_eq_getElem?_getD, List.getElem?_eq_getElem (by omega)]; exact List.getElem_mem _)
      have h5 : (restN [] (lastNms pB.data.toList ll)).length ≤ 60 := Nat.le_trans (List.length_filter_le _ _) (nms_len hlastf)
      split <;> omega
    · exact nil_lt K (nms_small (hI ll[0] (List.getElem_mem h0)) K (hK _ (List.getElem_mem h0))).2
  | succ d ih =>
    intro k i hi hk hI
    obtain ⟨k, rfl⟩ : ∃ n, k = n + 1 := ⟨k - 1, by omega⟩
    have hil : i < ll.length := by omega
    have hj3 : ∀ k, Pr.stowagetop_TopSteady.j3 (k + 1) ll pB most true (i : Int) true = some true := fun k => by
      unfold Pr.stowagetop_TopSteady.j3
      rfl
    unfold Pr.stowagetop_TopSteady.l0
    rw [if_pos (by omega), if_pos (by omega), rdLL ll i hil]
    obtain ⟨b, hb, hs⟩ := large_f ll[i] k (by omega)
    rw [hb, Option.bind_some]
    obtain ⟨k, rfl⟩ : ∃ n, k = n + 1 := ⟨k - 1, by omega⟩
    cases b with
    | true =>
      rw [if_pos rfl]
      exact hj3 k
    | false =>
      obtain ⟨hl, hv⟩ := hs rfl
      rw [if_neg (by simp), check_f ll[i] (k + 1) (by omega) (by omega), Option.bind_some]
      by_cases hok : okFrom none (ll[i].map entL) = true
      · rw [if_pos hok]
        unfold Pr.stowagetop_TopSteady.j3
        try dsimp only
        rw [if_neg (by simp)]
        refine steady_l1 ll pB most i hil hll hl (B + 1000 * d) (fun hs k hk => ih k (i + 1) (by omega) (by omega) (fun l hl' => ?_)) ll[i].length k 0 (by omega) (by omega) (fun e he => by simp at he)
        rw [List.take_add_one, List.getElem?_eq_getElem hil] at hl'
        rcases List.mem_append.1 hl' with h | h
        · exact hI l h
        · obtain rfl : l = ll[i] := by simpa using h
          exact ⟨hl, fun e he => ⟨(hs e he).1, (hv e he).2.1⟩, fun e he => (hs e he).2, hok⟩
      · rw [if_neg hok]
        exact hj3 k
theorem first_f : (Pr.listing_Keys.f [⟨⟨#[97]⟩, [⟨⟨#[120]⟩, 0, false, 0, ⟨#[]⟩⟩]⟩] ⟨#[]⟩ ⟨#[]⟩ ⟨#[]⟩ 1).map (fun R => (R.2.2.2.2, (R.1.length : Int) == 1)) = some (0, true) := by decide +kernel
set_option maxRecDepth 100000 in
theorem steady_f (k : Nat) (hk : 1000000 ≤ k) (ll : List (List SE)) (pB : ByteArray) (most : Int) : Pr.stowagetop_TopSteady.f k ll pB most = some true := by
  obtain ⟨k, rfl⟩ : ∃ n, k = n + 1 := ⟨k - 1, by omega⟩
  obtain ⟨k, rfl⟩ : ∃ n, k = n + 1 := ⟨k - 1, by omega⟩
  unfold Pr.stowagetop_TopSteady.f
  have hf := first_f
  obtain ⟨R, hR, he⟩ := Option.map_eq_some_iff.1 hf
  simp only [Prod.mk.injEq] at he
  rw [hR, Option.bind_some, if_pos he.1, he.2]
  unfold Pr.stowagetop_TopSteady.j0
  try dsimp only
  have hj1 : ∀ k, Pr.stowagetop_TopSteady.j1 (k + 1) ll pB most true true = some true := fun k => by
    unfold Pr.stowagetop_TopSteady.j1
    rfl
  by_cases h0 : ll.length = 0
  · rw [if_pos (by omega)]
    exact hj1 _
  · rw [if_neg (by omega)]
    by_cases h1 : 12 < ll.length
    · rw [if_pos (by omega)]
      exact hj1 _
    · rw [if_neg (by omega)]
      by_cases h2 : 400 < pB.size
      · rw [decide_eq_true (by omega)]
        exact hj1 _
      · rw [decide_eq_false (by omega)]
        unfold Pr.stowagetop_TopSteady.j1
        try dsimp only
        rw [if_neg (by simp)]
        exact steady_l0 ll (by omega) (by omega) pB (by omega) most 900000 (Nat.le_refl _) ll.length _ 0 (by omega) (by omega) (fun l hl => by simp at hl)
end Go.Proofs.Ytahkcfhiecfgeaa
end
