/- Texts of this proof, put together: Tt20. -/
import Derived.Test.YtdaokkajbooiaaaMTopTokensA
import Derived.Test.YtdaokkajbooiaaaMTopTokensx
import Derived.Test.YtdaokkajbooiaaaMTopTokensy
section
/- TopTokens: plain: the printed form is true. -/
namespace Go.Proofs.Ytdaokkajbooiaaa
open Go.RowKit Go.Proofs.YtdaokkajbooiaaaW.PrintWords Go.Proofs.YtdaokkajbooiaaaW.PrintLast Go.Proofs.YtdaokkajbooiaaaW.PrintMore
open Pr (SV SE SI verL entL verS itmS itmL pageOut cutOut)
set_option linter.unusedVariables false
set_option linter.unusedSimpArgs false
theorem pick20_f (a : Int) : ∃ r : Nat, Pr.stowagekit_Pick.f a 20 = some (r : Int) ∧ r < 20 := by
  unfold Pr.stowagekit_Pick.f
  rw [if_neg (by omega), if_neg (by omega)]
  have h1 := Int.tmod_lt_of_pos a (show (0 : Int) < 20 by omega)
  have h2 : -20 < Int.tmod a 20 := by
    have := Int.neg_tmod a 20
    have := Int.tmod_lt_of_pos (-a) (show (0 : Int) < 20 by omega)
    omega
  by_cases h : Int.tmod a 20 < 0
  · rw [if_pos h]
    refine ⟨(Int.tmod a 20 + 20).toNat, ?_, by omega⟩
    congr 1
    unfold wrap64
    omega
  · rw [if_neg h]
    exact ⟨(Int.tmod a 20).toNat, by congr 1; omega, by omega⟩
theorem dropK (L : List Itm) (i m : Nat) : (L.drop i).getD m itm0 = L.getD (i + m) itm0 := by
  rw [List.getD_eq_getElem?_getD, List.getD_eq_getElem?_getD, List.getElem?_drop]
theorem tok_l1 (l : List SE) (h : FineK l) (hk4 : ∀ e ∈ l, e.f0.size ≤ 400) (p d : ByteArray) (hp : p.size ≤ 400) (hd : d.size ≤ 400) (m : Nat) (hm : 1 ≤ m ∧ m ≤ 1000) (w1 : Bool) (w2 w3 : ByteArray) :
    ∀ (μ k n : Nat), (wl p.data.toList d.data.toList l).length - n * m < μ → n * m ≤ (wl p.data.toList d.data.toList l).length → 100 + 10 * μ ≤ k →
      Pr.stowagetop_TopTokens.l1 k l p d (m : Int) true (((wl p.data.toList d.data.toList l).take (n * m)).map itmS) (BA (pkA p.data.toList d.data.toList l (n * m))) (n : Int) ((wl p.data.toList d.data.toList l).map itmS) w1 w2 w3 = some true := by
  have hT := wl_len p.data.toList d.data.toList l
  have hT2 := h.len
  intro μ
  induction μ with
  | zero => intro k n h1; omega
  | succ μ ih =>
    intro k n h1 h2 hk
    obtain ⟨k, rfl⟩ : ∃ n, k = n + 1 := ⟨k - 1, by omega⟩
    obtain ⟨k, rfl⟩ : ∃ n, k = n + 1 := ⟨k - 1, by omega⟩
    have hnm : n ≤ n * m := Nat.le_mul_of_pos_right n (by omega)
    have hla := pk_len 400 hk4 (n * m) h2
    have hb := behind_atK h (n * m) h2
    have hK := keys_pageK h p d hp hd _ hla m hm
    rw [hb] at hK
    have hs : (n + 1) * m = n * m + m := Nat.succ_mul n m
    have hP := pageP_cut false m ((wl p.data.toList d.data.toList l).drop (n * m))
    unfold Pr.stowagetop_TopTokens.l1
    rw [if_pos (by omega), hK, Option.bind_some]
    generalize cutOut false m ((wl p.data.toList d.data.toList l).drop (n * m)) = R at hP ⊢
    have hil : R.1.length = min m ((wl p.data.toList d.data.toList l).length - n * m) := by rw [hP.items, List.length_map, List.length_take, List.length_drop]
    have happ : ((wl p.data.toList d.data.toList l).take (n * m)).map itmS ++ R.1 = ((wl p.data.toList d.data.toList l).take ((n + 1) * m)).map itmS := by
      rw [hP.items, ← List.map_append, hs, List.take_add]
    rw [if_pos hP.err, if_pos (by rw [List.length_map, List.length_take]; omega), Option.bind_some, happ, hP.more]
    by_cases hmore : m < ((wl p.data.toList d.data.toList l).drop (n * m)).length
    · rw [decide_eq_true hmore, if_pos rfl, (hP.next hmore).1, (hP.next hmore).2, dropK]
      rw [List.length_drop] at hmore
      have e1 : ((wl p.data.toList d.data.toList l).getD (n * m + (m - 1)) itm0).name = pkA p.data.toList d.data.toList l ((n + 1) * m) := by
        unfold pkA
        rw [if_neg (by omega), show (n + 1) * m - 1 = n * m + (m - 1) by omega]
      have hl2 := pk_len (p := p.data.toList) (d := d.data.toList) 400 hk4 ((n + 1) * m) (by omega)
      have hbs : (BA (pkA p.data.toList d.data.toList l ((n + 1) * m))).size ≤ 400 := by rw [bs_len]; simpa using hl2
      rw [e1, show verOfI false ((wl p.data.toList d.data.toList l).getD (n * m + (m - 1)) itm0) = [] from rfl, Pr.make_ok _ _ hbs (by decide), Option.bind_some, Pr.read_ok _ _ hbs (by decide), Option.bind_some, if_pos rfl, if_pos rfl]
      unfold Pr.stowagetop_TopTokens.j4
      try dsimp only
      rw [if_neg (by rw [bs_toList]; simp), wrap_up n (n + 1) (by omega) (by omega)]
      exact ih k (n + 1) (by omega) (by omega) (by omega)
    · rw [decide_eq_false hmore, if_neg (by simp)]
      rw [List.length_drop] at hmore
      unfold Pr.stowagetop_TopTokens.j5
      try dsimp only
      rw [if_pos rfl, List.take_of_length_le (by omega), page_f _ false _ _ k (by rw [List.length_map]; omega) (by rw [List.length_map]; omega), Option.bind_some]
theorem tok_l0 (l : List SE) (h : FineK l) (p d : ByteArray) (hp : p.size ≤ 400) (hd : d.size ≤ 400) (most : Int) :
    ∀ (n k j : Nat), j + n = l.length → 1000 + n ≤ k → (∀ e ∈ l.take j, e.f0.size ≤ 400) → Pr.stowagetop_TopTokens.l0 k l p d most true (j : Int) = some true := by
  have hl := h.len
  intro n
  induction n with
  | zero =>
    intro k j hj hk hI
    obtain ⟨k, rfl⟩ : ∃ n, k = n + 1 := ⟨k - 1, by omega⟩
    rw [List.take_of_length_le (by omega)] at hI
    have hT := wl_len p.data.toList d.data.toList l
    obtain ⟨r, hr, hr1⟩ := pick20_f most
    have hK := keys_pageK h p d hp hd [] (by simp) 1000 (by omega)
    rw [wl_behind] at hK
    have hP := pageP_cut false 1000 (wl p.data.toList d.data.toList l)
    have hK' : Pr.listing_Keys.f l p d (⟨#[]⟩ : ByteArray) 1000 = some (cutOut false 1000 (wl p.data.toList d.data.toList l)) := hK
    unfold Pr.stowagetop_TopTokens.l0
    rw [if_neg (by omega), hr, Option.bind_some, hK', Option.bind_some]
    generalize cutOut false 1000 (wl p.data.toList d.data.toList l) = R at hP ⊢
    have hit : R.1 = (wl p.data.toList d.data.toList l).map itmS := by rw [hP.items, List.take_of_length_le (by omega)]
    rw [if_pos hP.err, hit, show wrap64 (1 + (r : Int)) = ((r + 1 : Nat) : Int) by unfold wrap64; omega]
    have := tok_l1 l h hI p d hp hd (r + 1) (by omega) R.2.1 R.2.2.1 R.2.2.2.1 61 k 0 (by omega) (by omega) (by omega)
    rw [Nat.zero_mul] at this
    exact this
  | succ n ih =>
    intro k j hj hk hI
    obtain ⟨k, rfl⟩ : ∃ n, k = n + 1 := ⟨k - 1, by omega⟩
    have hjl : j < l.length := by omega
    unfold Pr.stowagetop_TopTokens.l0
    rw [if_pos (by omega), if_pos (by omega), rdE l j hjl]
    by_cases h1 : 400 < l[j].f0.size
    · rw [if_pos (by omega)]
    · rw [if_neg (by omega), wrap_up j l.length hjl (by omega)]
      refine ih k (j + 1) (by omega) (by omega) (fun e he => ?_)
      rw [List.take_add_one, List.getElem?_eq_getElem hjl] at he
      rcases List.mem_append.1 he with h | h
      · exact hI e h
      · obtain rfl : e = l[j] := by simpa using h
        omega
set_option maxRecDepth 100000 in
theorem tok_f (k : Nat) (hk : 6000 ≤ k) (l : List SE) (p d : ByteArray) (most : Int) : Pr.stowagetop_TopTokens.f k l p d most = some true := by
  obtain ⟨k', rfl⟩ : ∃ n, k = n + 1 := ⟨k - 1, by omega⟩
  obtain ⟨k', rfl⟩ : ∃ n, k' = n + 1 := ⟨k' - 1, by omega⟩
  have hj1 : Pr.stowagetop_TopTokens.j1 (k' + 1) l p d most true true = some true := by
    unfold Pr.stowagetop_TopTokens.j1
    rfl
  unfold Pr.stowagetop_TopTokens.f
  have ha : (⟨#[97]⟩ : ByteArray).size ≤ 400 := by decide
  rw [Pr.make_ok _ _ ha (by decide), Option.bind_some, Pr.read_ok _ _ ha (by decide), Option.bind_some, if_pos rfl, if_pos rfl, show ((⟨#[97]⟩ : ByteArray).toList == ([97] : List UInt8)) = true by rw [bs_toList]; rfl]
  unfold Pr.stowagetop_TopTokens.j0
  try dsimp only
  obtain ⟨b, hb, hs⟩ := large_f l (k' + 1) (by omega)
  rw [hb, Option.bind_some]
  cases b with
  | true =>
    rw [if_pos rfl]
    exact hj1
  | false =>
    obtain ⟨hl, hv⟩ := hs rfl
    rw [if_neg (by simp), check_f l (k' + 1) (by omega) (by omega), Option.bind_some]
    by_cases hok : okFrom none (l.map entL) = true
    · rw [if_pos hok, if_pos rfl]
      by_cases h1 : 400 < p.size
      · rw [if_pos (by omega)]
        exact hj1
      · rw [if_neg (by omega)]
        by_cases h2 : 400 < d.size
        · rw [decide_eq_true (by omega)]
          exact hj1
        · rw [decide_eq_false (by omega)]
          unfold Pr.stowagetop_TopTokens.j1
          try dsimp only
          rw [if_neg (by simp)]
          exact tok_l0 l ⟨hl, fun e he => ⟨(hv e he).1, (hv e he).2.1⟩, hok⟩ p d (by omega) (by omega) most l.length k' 0 (by omega) (by omega) (fun e he => by simp at he)
    · rw [if_neg hok, if_neg (by decide)]
      exact hj1
end Go.Proofs.Ytdaokkajbooiaaa
end
