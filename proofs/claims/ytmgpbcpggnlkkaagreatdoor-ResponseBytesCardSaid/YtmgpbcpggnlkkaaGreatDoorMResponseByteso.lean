/- Texts of this proof, put together: Wg27, Rf27, Rg27, Ri27, PrResponseBytes. -/
import Derived.Test.YtmgpbcpggnlkkaaGreatDoorMResponseBytesm
import Derived.Test.YtmgpbcpggnlkkaaGreatDoorMResponseBytesn
import Derived.Test.YtmgpbcpggnlkkaaGreatDoorMResponseBytesl
import Derived.Test.YtmgpbcpggnlkkaaGreatDoorMResponseBytesb
section
/- response.wrong: what its printed form answers. -/
namespace Go.Proofs.YtmgpbcpggnlkkaaGreatDoor
open Go.RowKit Go.Proofs.YtmgpbcpggnlkkaaGreatDoorW.PrintWords Go.Proofs.YtmgpbcpggnlkkaaGreatDoorW.PrintLast Go.Proofs.YtmgpbcpggnlkkaaGreatDoorW.PrintMore
set_option linter.unusedVariables false
set_option linter.unusedSimpArgs false
theorem wrap_up (j n : Nat) (h : j < n) (hn : n ≤ 1000000) : wrap64 ((j : Int) + 1) = ((j + 1 : Nat) : Int) := by unfold wrap64; omega
theorem wrong_l0 (l : List SPair) (hl : l.length ≤ 1000000) (hsz : ∀ p ∈ l, p.f0.size ≤ 1000000 ∧ p.f1.size ≤ 1000000) : ∀ (d k j : Nat), j + d = l.length → d + 1 ≤ k →
    Pr.response_wrong.l0 k l (l.length : Int) (j : Int) = some (if ((l.drop j).map pairL).all mayP then 0 else 4) := by
  intro d
  induction d with
  | zero =>
    intro k j hj hk
    obtain ⟨k, rfl⟩ : ∃ n, k = n + 1 := ⟨k - 1, by omega⟩
    unfold Pr.response_wrong.l0
    rw [if_neg (by omega), List.drop_of_length_le (by omega)]
    rfl
  | succ d ih =>
    intro k j hj hk
    obtain ⟨k, rfl⟩ : ∃ n, k = n + 1 := ⟨k - 1, by omega⟩
    have hjl : j < l.length := by omega
    have hs := hsz l[j] (List.getElem_mem hjl)
    have hm : Pr.response_may.f l[j].f0 l[j].f1 = some (mayP (pairL l[j])) := by
      unfold Pr.response_may.f
      rw [if_pos hs]
      rfl
    unfold Pr.response_wrong.l0
    rw [if_pos (by omega), if_pos (by omega), if_pos (by omega), rdP l j hjl, hm, Option.bind_some, List.drop_eq_getElem_cons hjl, List.map_cons, List.all_cons]
    cases hc : mayP (pairL l[j]) with
    | true => rw [if_pos rfl, wrap_up j l.length hjl hl, ih k (j + 1) (by omega) (by omega), Bool.true_and]
    | false => simp
theorem wrong_f (st : Int) (l : List SPair) (b : List Int) (hl : l.length ≤ 1000000) (hsz : ∀ p ∈ l, p.f0.size ≤ 1000000 ∧ p.f1.size ≤ 1000000) (k : Nat) (hk : l.length + 1 ≤ k) : Pr.response_wrong.f k st l b = some (wrongL st (l.map pairL)) := by
  unfold Pr.response_wrong.f wrongL
  rw [words_f, Option.bind_some, bs_toList, ba_list]
  by_cases h1 : wordsL st = []
  · rw [if_pos h1, if_pos h1]
  · rw [if_neg h1, if_neg h1, List.length_map]
    by_cases h2 : 32 < l.length
    · rw [if_pos (by omega), if_pos h2]
    · rw [if_neg (by omega), if_neg h2]
      exact wrong_l0 l hl hsz l.length k 0 (by omega) (by omega)
theorem pair_back (p : Bs × Bs) : pairL ⟨BA p.1, BA p.2⟩ = p := by
  unfold pairL
  simp [ba_list]
end Go.Proofs.YtmgpbcpggnlkkaaGreatDoor
end
section
/- The reference of chapter 27: what its printed functions answer (part 1: texts, numbers, lines). -/
namespace Go.Proofs.YtmgpbcpggnlkkaaGreatDoor
open Go.RowKit Go.Lib Go.Proofs.YtmgpbcpggnlkkaaGreatDoorW.PrintWords Go.Proofs.YtmgpbcpggnlkkaaGreatDoorW.PrintLast Go.Proofs.YtmgpbcpggnlkkaaGreatDoorW.PrintMore
set_option linter.unusedVariables false
set_option linter.unusedSimpArgs false
theorem ba_size (l : Bs) : (BA l).size = l.length := by rw [bs_len, ba_list]
theorem ba_toList (l : Bs) : (BA l).toList = l := by rw [bs_toList, ba_list]
theorem ba_app (a b : Bs) : BA a ++ BA b = BA (a ++ b) := by
  have h : (BA a ++ BA b).data.toList = a ++ b := by rw [bs_app, ba_list, ba_list]
  exact bs_mk h
theorem ba_bt (l : Bs) (j : Nat) (h : j < l.length) : Go.Proofs.YtmgpbcpggnlkkaaGreatDoorW.PrintWords.bt (BA l) (j : Int) = ((l[j]).toNat : Int) := by
  have hs : j < (BA l).size := by rw [ba_size]; exact h
  have e : Go.Proofs.YtmgpbcpggnlkkaaGreatDoorW.PrintWords.bt (BA l) (j : Int) = (((BA l)[j]'hs).toNat : Int) := by
    unfold Go.Proofs.YtmgpbcpggnlkkaaGreatDoorW.PrintWords.bt
    simp [hs]
  rw [e]
  rfl
theorem wup (j n : Nat) (h : j ≤ n) (hn : n ≤ 1000000000) : wrap64 ((j : Int) + 1) = ((j + 1 : Nat) : Int) := by unfold wrap64; omega
theorem wdown (j n : Nat) (h : j ≤ n) (h1 : 1 ≤ j) (hn : n ≤ 1000000000) : wrap64 ((j : Int) - 1) = ((j - 1 : Nat) : Int) := by unfold wrap64; omega
end Go.Proofs.YtmgpbcpggnlkkaaGreatDoor
end
section
/- The reference of chapter 27: what its printed functions answer (part 2: numbers, headers, heads). -/
namespace Go.Proofs.YtmgpbcpggnlkkaaGreatDoor
open Go.RowKit Go.Lib Go.Proofs.YtmgpbcpggnlkkaaGreatDoorW.PrintWords Go.Proofs.YtmgpbcpggnlkkaaGreatDoorW.PrintLast Go.Proofs.YtmgpbcpggnlkkaaGreatDoorW.PrintMore
set_option linter.unusedVariables false
set_option linter.unusedSimpArgs false
theorem dec_size (n : Nat) (h : n ≤ 1000000000) : (decDigits n).length ≤ 20 := by
  rw [Lib.decDigits_length]
  rcases Nat.eq_zero_or_pos n with h0 | h0
  · subst h0; rw [Lib.nDigits_small (by omega)]; omega
  · have := Lib.numDigits_eq n (by omega) (by omega)
    split at this <;> omega
theorem dec_small : ∀ (k n : Nat), n < 10 ^ k → 1 ≤ k → (decDigits n).length ≤ k
  | 0, n, _, h => by omega
  | k + 1, n, hn, _ => by
    unfold decDigits
    split
    · simp
    · rename_i h
      rw [List.length_append]
      rcases Nat.eq_zero_or_pos k with h0 | h0
      · subst h0; omega
      · have := dec_small k (n / 10) (by rw [Nat.pow_succ] at hn; omega) h0
        simp
        omega
theorem dec_f : ∀ (k n : Nat), n < 10 ^ k → n ≤ 1000000000 → 1 ≤ k → Pr.stowageref27_Dec.f k (n : Int) = some (BA (decDigits n))
  | 0, n, _, _, h => by omega
  | k + 1, n, hn, hb, _ => by
    simp only [Pr.stowageref27_Dec.f]
    unfold decDigits
    by_cases h : n < 10
    · rw [if_pos (by omega), if_pos (by omega), wup n 10 (by omega) (by omega), if_pos (by omega), if_pos (by omega), dif_pos h]
      have : n = 0 ∨ n = 1 ∨ n = 2 ∨ n = 3 ∨ n = 4 ∨ n = 5 ∨ n = 6 ∨ n = 7 ∨ n = 8 ∨ n = 9 := by omega
      rcases this with rfl | rfl | rfl | rfl | rfl | rfl | rfl | rfl | rfl | rfl <;> rfl
    · rw [if_neg (by omega), dif_neg h]
      have h0 : 0 < k := by
        rcases Nat.eq_zero_or_pos k with h0 | h0
        · subst h0; omega
        · exact h0
      have e1 : wrap64 (Int.tdiv (n : Int) 10) = ((n / 10 : Nat) : Int) := by
        rw [Int.tdiv_eq_ediv_of_nonneg (by omega)]
        unfold wrap64
        omega
      have e2 : Int.tmod (n : Int) 10 = ((n % 10 : Nat) : Int) := by
        rw [Int.tmod_eq_emod_of_nonneg (by omega)]
        omega
      have hlt : n % 10 < 10 ^ k := Nat.lt_of_lt_of_le (Nat.mod_lt _ (by omega)) (by have := Nat.pow_le_pow_right (show 0 < 10 by omega) h0; simpa using this)
      rw [e1, e2, dec_f k (n / 10) (by rw [Nat.pow_succ] at hn; omega) (by omega) h0, Option.bind_some, dec_f k (n % 10) hlt (by omega) h0, Option.bind_some]
      have s1 := dec_size (n / 10) (by omega)
      have s2 := dec_size (n % 10) (by omega)
      rw [if_pos (by rw [ba_size, ba_size]; omega), ba_app]
      congr 2
      congr 1
      rw [decDigits, dif_pos (by omega)]
theorem rwords_f (st : Int) : Pr.stowageref27_Words.f st = some (BA (wordsL st), if wordsL st = [] then 5 else 0) := by
  unfold Pr.stowageref27_Words.f wordsL BA
  by_cases h0 : st = 200
  · subst h0; rfl
  by_cases h1 : st = 204
  · subst h1; rfl
  by_cases h2 : st = 206
  · subst h2; rfl
  by_cases h3 : st = 400
  · subst h3; rfl
  by_cases h4 : st = 404
  · subst h4; rfl
  by_cases h5 : st = 405
  · subst h5; rfl
  by_cases h6 : st = 409
  · subst h6; rfl
  by_cases h7 : st = 413
  · subst h7; rfl
  by_cases h8 : st = 416
  · subst h8; rfl
  by_cases h9 : st = 503
  · subst h9; rfl
  simp only [if_neg h0, if_neg h1, if_neg h2, if_neg h3, if_neg h4, if_neg h5, if_neg h6, if_neg h7, if_neg h8, if_neg h9]
  rfl
end Go.Proofs.YtmgpbcpggnlkkaaGreatDoor
end
section
/- The reference of chapter 27: what its printed functions answer (part 3: headers, what is wrong, heads). -/
namespace Go.Proofs.YtmgpbcpggnlkkaaGreatDoor
open Go.RowKit Go.Lib Go.Proofs.YtmgpbcpggnlkkaaGreatDoorW.PrintWords Go.Proofs.YtmgpbcpggnlkkaaGreatDoorW.PrintLast Go.Proofs.YtmgpbcpggnlkkaaGreatDoorW.PrintMore
set_option linter.unusedVariables false
set_option linter.unusedSimpArgs false
theorem ba_of (s : ByteArray) : ∃ l : Bs, s = BA l := ⟨s.data.toList, bs_mk rfl⟩
/-- Values: no blank at either end. -/
def edgeP (v : Bs) : Bool := v.isEmpty || (v.getD 0 0 != 32 && v.getD (v.length - 1) 0 != 32)
theorem drop_while_le (p : UInt8 → Bool) : ∀ l : Bs, (l.dropWhile p).length ≤ l.length
  | [] => by simp
  | c :: r => by
    have := drop_while_le p r
    rw [List.dropWhile_cons]
    split <;> simp <;> omega
theorem trim_edge (v : Bs) : (trimS v [32] == v) = edgeP v := by
  have h32 : ∀ c : UInt8, ([32] : Bs).contains c = (c == 32) := fun c => by rw [Bool.eq_iff_iff]; simp
  rw [Bool.eq_iff_iff, beq_iff_eq]
  unfold edgeP
  cases hv : v with
  | nil => simp [trimS, trimLeftS, trimRightS]
  | cons c r =>
    rw [← hv]
    have hpos : 0 < v.length := by rw [hv]; simp
    have e0 : v.getD 0 0 = c := by rw [hv]; rfl
    have hne : v.isEmpty = false := by rw [hv]; rfl
    rw [hne, Bool.false_or, Bool.and_eq_true, bne_iff_ne, bne_iff_ne]
    have hl1 : v.length - 1 < v.length := by omega
    have el : v.getD (v.length - 1) 0 = v[v.length - 1] := by simp [hl1]
    have hR : (trimRightS v [32]).length ≤ v.length := by
      unfold trimRightS
      rw [List.length_reverse]
      have := drop_while_le (([32] : Bs).contains ·) v.reverse
      simpa using this
    have hL : ∀ w : Bs, (trimLeftS w [32]).length ≤ w.length := fun w => drop_while_le _ w
    constructor
    · intro h
      have hlen : (trimS v [32]).length = v.length := by rw [h]
      have hle := hL (trimRightS v [32])
      have hlen2 : (trimLeftS (trimRightS v [32]) [32]).length = v.length := hlen
      constructor
      · intro hc
        have hRv : trimRightS v [32] <+: v := by
          unfold trimRightS
          have := List.dropWhile_suffix (l := v.reverse) (([32] : Bs).contains ·)
          have h2 := List.reverse_prefix.2 this
          rwa [List.reverse_reverse] at h2
        have hRe : trimRightS v [32] = v := hRv.eq_of_length (by omega)
        rw [hRe, hv] at hlen2
        unfold trimLeftS at hlen2
        rw [List.dropWhile_cons] at hlen2
        have hc32 : c = 32 := by rw [← e0]; exact hc
        subst hc32
        rw [if_pos (by simp)] at hlen2
        have := drop_while_le (([32] : Bs).contains ·) r
        rw [show (32 :: r : Bs).length = r.length + 1 from rfl] at hlen2
        omega
      · intro hc
        have : v.reverse = 32 :: (v.take (v.length - 1)).reverse := by
          have h3 : v = v.take (v.length - 1) ++ [v[v.length - 1]] := by
            rw [List.take_append_getElem]
            rw [List.take_of_length_le (by omega)]
          conv => lhs; rw [h3]
          rw [List.reverse_append, ← el, hc]
          rfl
        have hR2 : (trimRightS v [32]).length ≤ v.length - 1 := by
          unfold trimRightS
          rw [List.length_reverse, this, List.dropWhile_cons, if_pos (by simp)]
          have := drop_while_le (([32] : Bs).contains ·) (v.take (v.length - 1)).reverse
          rw [List.length_reverse, List.length_take] at this
          omega
        omega
    · rintro ⟨h0, h1⟩
      have hRe : trimRightS v [32] = v := by
        rw [Lib.trimRightS_take v [32] v.length (Nat.le_refl _) (fun j b hj hb => by rw [List.getElem?_eq_none hj] at hb; cases hb) (fun b _ hb => by
          rw [h32]
          rw [List.getElem?_eq_getElem hl1] at hb
          cases hb
          rw [← el]
          exact beq_eq_false_iff_ne.2 h1), List.take_length]
      unfold trimS
      rw [hRe, Lib.trimLeftS_drop v [32] 0 (by omega) (fun j b hj => absurd hj (Nat.not_lt_zero j)) (fun b hb => by
        rw [h32]
        rw [hv] at hb
        cases hb
        rw [← e0]
        exact beq_eq_false_iff_ne.2 h0), List.drop_zero]
theorem may_l1 (n v : Bs) (hn : n.length ≤ 1000000) (hv : v.length ≤ 1000000) : ∀ (d k j : Nat), j + d = v.length → d + 1 ≤ k →
    Pr.stowageref27_may.l1 k (j : Int) (BA n) (BA v) = some ((v.drop j).all valC && (decide (1 ≤ n.length) && (decide (n.length ≤ 40) && (!(n == cl14) && (decide (v.length ≤ 1000) && edgeP v))))) := by
  intro d
  induction d with
  | zero =>
    intro k j hj hk
    obtain ⟨k, rfl⟩ : ∃ n, k = n + 1 := ⟨k - 1, by omega⟩
    simp only [Pr.stowageref27_may.l1]
    have e : v.drop j = [] := List.drop_of_length_le (by omega)
    rw [ba_size, if_neg (by omega), e, ba_size, ba_toList]
    by_cases h1 : 1 ≤ n.length
    case neg => rw [if_neg (by omega), decide_eq_false h1]; simp
    rw [if_pos (by omega), decide_eq_true h1]
    by_cases h2 : n.length ≤ 40
    case neg => rw [if_neg (by omega), decide_eq_false h2]; simp
    rw [if_pos (by omega), decide_eq_true h2]
    by_cases h3 : n = ([99, 111, 110, 116, 101, 110, 116, 45, 108, 101, 110, 103, 116, 104] : List UInt8)
    case pos => rw [if_pos h3, h3]; simp [cl14]
    have h3b : (n == cl14) = false := beq_eq_false_iff_ne.2 h3
    rw [if_neg h3, h3b]
    by_cases h4 : v.length ≤ 1000
    case neg => rw [if_neg (by omega), decide_eq_false h4]; simp
    rw [if_pos (by omega), decide_eq_true h4]
    by_cases h5 : v.length = 0
    · rw [if_pos (by omega)]
      have : v = [] := List.eq_nil_of_length_eq_zero h5
      subst this
      rfl
    · rw [if_neg (by omega), if_pos (by omega)]
      have hb0 := ba_bt v 0 (by omega)
      have hbl := ba_bt v (v.length - 1) (by omega)
      rw [show ((0 : Nat) : Int) = 0 from rfl] at hb0
      rw [hb0]
      have hne : v.isEmpty = false := by
        rw [List.isEmpty_eq_false_iff]
        intro h
        exact h5 (by rw [h]; rfl)
      have g0 : v.getD 0 0 = v[0]'(by omega) := by simp [show 0 < v.length by omega]
      have gl : v.getD (v.length - 1) 0 = v[v.length - 1]'(by omega) := by simp [show v.length - 1 < v.length by omega]
      unfold edgeP
      rw [hne, g0, gl]
      by_cases h6 : v[0]'(by omega) = 32
      · rw [if_pos (by rw [h6]; rfl), h6]
        simp
      · rw [if_neg (fun h => h6 (by apply UInt8.toNat_inj.1; show (v[0]'(by omega)).toNat = 32; omega)), wdown v.length v.length (Nat.le_refl _) (by omega) (by omega), if_pos (by omega), if_pos (by omega), hbl]
        have h6b : ((v[0]'(by omega)) != 32) = true := by simpa using h6
        rw [h6b]
        simp only [List.all_nil, Bool.true_and, Bool.false_or, Bool.not_false]
        congr 1
        rw [Bool.eq_iff_iff, bne_iff_ne, bne_iff_ne]
        constructor
        · intro h he
          exact h (by rw [he]; rfl)
        · intro h he
          exact h (by apply UInt8.toNat_inj.1; show (v[v.length - 1]'(by omega)).toNat = 32; omega)
  | succ d ih =>
    intro k j hj hk
    obtain ⟨k, rfl⟩ : ∃ n, k = n + 1 := ⟨k - 1, by omega⟩
    have hjl : j < v.length := by omega
    simp only [Pr.stowageref27_may.l1]
    rw [ba_size, if_pos (by omega), if_pos (by omega), ba_bt v j hjl, List.drop_eq_getElem_cons hjl, List.all_cons, valC_int]
    by_cases h1 : ((v[j]).toNat : Int) < 32
    · rw [if_pos h1, decide_eq_false (by omega)]
      simp
    · rw [if_neg h1, decide_eq_true (by omega)]
      by_cases h2 : 126 < ((v[j]).toNat : Int)
      · rw [if_pos h2, decide_eq_false (by omega)]
        simp
      · rw [if_neg h2, decide_eq_true (by omega), wup j v.length (by omega) (by omega), ih k (j + 1) (by omega) (by omega)]
        simp
theorem may_l0 (n v : Bs) (hn : n.length ≤ 1000000) (hv : v.length ≤ 1000000) : ∀ (d k j : Nat), j + d = n.length → 2 * d + v.length + 2 ≤ k →
    Pr.stowageref27_may.l0 k (j : Int) (BA n) (BA v) = some ((n.drop j).all nameC && (v.all valC && (decide (1 ≤ n.length) && (decide (n.length ≤ 40) && (!(n == cl14) && (decide (v.length ≤ 1000) && edgeP v)))))) := by
  intro d
  induction d with
  | zero =>
    intro k j hj hk
    obtain ⟨k, rfl⟩ : ∃ n, k = n + 1 := ⟨k - 1, by omega⟩
    simp only [Pr.stowageref27_may.l0]
    have e : n.drop j = [] := List.drop_of_length_le (by omega)
    have h := may_l1 n v hn hv v.length k 0 (by omega) (by omega)
    rw [ba_size, if_neg (by omega), e, show (0 : Int) = ((0 : Nat) : Int) from rfl, h]
    simp
  | succ d ih =>
    intro k j hj hk
    obtain ⟨k, rfl⟩ : ∃ n, k = n + 1 := ⟨k - 1, by omega⟩
    obtain ⟨k, rfl⟩ : ∃ n, k = n + 1 := ⟨k - 1, by omega⟩
    have hjl : j < n.length := by omega
    have hstep : Pr.stowageref27_may.l0 (k + 1 + 1) (j : Int) (BA n) (BA v) = Pr.stowageref27_may.j1 (k + 1) (j : Int) (!(nameC n[j])) (BA n) (BA v) := by
      conv => lhs; rw [Pr.stowageref27_may.l0]
      rw [ba_size, if_pos (by omega), if_pos (by omega), ba_bt n j hjl, nameC_int]
      generalize ((n[j]).toNat : Int) = x
      by_cases h1 : x < 97 <;> by_cases h2 : 122 < x <;> by_cases h3 : x < 48 <;> by_cases h4 : 57 < x <;> by_cases h5 : x = 45 <;> first | (exfalso; omega) | (simp [h1, h2, h3, h4, h5]; done) | (simp [h1, h2, h3, h4, h5]; omega) | (simp only [h1, h2, h3, h4, if_true, if_false]; congr 1; rw [Bool.eq_iff_iff]; simp; omega)
    rw [hstep, List.drop_eq_getElem_cons hjl, List.all_cons]
    simp only [Pr.stowageref27_may.j1]
    cases hc : nameC n[j] with
    | false => simp
    | true =>
      rw [if_neg (by decide), wup j n.length (by omega) (by omega), ih k (j + 1) (by omega) (by omega)]
      simp
theorem rmay_f (n v : Bs) (hn : n.length ≤ 1000000) (hv : v.length ≤ 1000000) (k : Nat) (hk : 2 * n.length + v.length + 2 ≤ k) : Pr.stowageref27_may.f k (BA n) (BA v) = some (mayP (n, v)) := by
  unfold Pr.stowageref27_may.f mayP
  rw [trim_edge]
  have h := may_l0 n v hn hv n.length k 0 (by omega) hk
  rw [show (0 : Int) = ((0 : Nat) : Int) from rfl, h, List.drop_zero]
theorem rwrong_l0 (st : Int) (l : List SPair) (b : List Int) (size : Int) (hl : l.length ≤ 1000000) (hsz : ∀ p ∈ l, p.f0.size ≤ 100000 ∧ p.f1.size ≤ 100000) : ∀ (d k j : Nat), j + d = l.length → d + 300010 ≤ k →
    Pr.stowageref27_wrong.l0 k size (j : Int) st l b = some (if ((l.drop j).map pairL).all mayP then (if size > 1048576 then 3 else 0) else 4) := by
  intro d
  induction d with
  | zero =>
    intro k j hj hk
    obtain ⟨k, rfl⟩ : ∃ n, k = n + 1 := ⟨k - 1, by omega⟩
    unfold Pr.stowageref27_wrong.l0
    have e : l.drop j = [] := List.drop_of_length_le (by omega)
    rw [if_neg (by omega), e]
    simp only [List.map_nil, List.all_nil, if_true]
    split <;> rfl
  | succ d ih =>
    intro k j hj hk
    obtain ⟨k, rfl⟩ : ∃ n, k = n + 1 := ⟨k - 1, by omega⟩
    have hjl : j < l.length := by omega
    have hs := hsz l[j] (List.getElem_mem hjl)
    obtain ⟨n, hn⟩ := ba_of l[j].f0
    obtain ⟨v, hv⟩ := ba_of l[j].f1
    have hp : pairL l[j] = (n, v) := by unfold pairL; rw [hn, hv, ba_list, ba_list]
    rw [hn, ba_size, hv, ba_size] at hs
    unfold Pr.stowageref27_wrong.l0
    rw [if_pos (by omega), if_pos (by omega), rdP l j hjl, hn, hv, rmay_f n v (by omega) (by omega) k (by omega), Option.bind_some, List.drop_eq_getElem_cons hjl, List.map_cons, List.all_cons, hp]
    cases hc : mayP (n, v) with
    | true => rw [if_pos rfl, wup j l.length (by omega) (by omega), ih k (j + 1) (by omega) (by omega), Bool.true_and]
    | false => simp
theorem rwrong_f (st : Int) (l : List SPair) (b : List Int) (size : Int) (hl : l.length ≤ 1000000) (hsz : ∀ p ∈ l, p.f0.size ≤ 100000 ∧ p.f1.size ≤ 100000) (k : Nat) (hk : l.length + 300010 ≤ k) :
    Pr.stowageref27_wrong.f k st l b size = some (if wrongL st (l.map pairL) = 0 then (if size > 1048576 then 3 else 0) else wrongL st (l.map pairL)) := by
  unfold Pr.stowageref27_wrong.f wrongL
  rw [rwords_f, Option.bind_some]
  dsimp only
  by_cases h1 : wordsL st = []
  · simp only [h1, if_true]
    rfl
  · simp only [if_neg h1, List.length_map]
    rw [if_pos trivial]
    by_cases h2 : 32 < l.length
    · rw [if_pos (by omega), if_pos h2]
      rfl
    · rw [if_neg (by omega), if_neg h2]
      have h := rwrong_l0 st l b size hl hsz l.length k 0 (by omega) (by omega)
      rw [show (0 : Int) = ((0 : Nat) : Int) from rfl, h, List.drop_zero]
      cases hc : (l.map pairL).all mayP with
      | true => simp
      | false => simp
theorem rhead_l0 (st : Int) (l : List SPair) (b : List Int) (size : Nat) (hl : l.length ≤ 1000) (hz : size ≤ 1048576) (hsz : ∀ p ∈ l, p.f0.size ≤ 2000 ∧ p.f1.size ≤ 2000) : ∀ (d k j : Nat) (a : Bs), j + d = l.length → d + 20 ≤ k → a.length ≤ 1000 + 5000 * j →
    Pr.stowageref27_head.l0 k (size : Int) (BA a) (j : Int) st l b = some (BA (a ++ hdrs (l.drop j) ++ lineN size ++ four)) := by
  intro d
  induction d with
  | zero =>
    intro k j a hj hk ha
    obtain ⟨k, rfl⟩ : ∃ n, k = n + 1 := ⟨k - 1, by omega⟩
    unfold Pr.stowageref27_head.l0
    have e : l.drop j = [] := List.drop_of_length_le (by omega)
    have hd := dec_size size (by omega)
    have hpw : size < 10 ^ k := Nat.lt_of_lt_of_le (show size < 10 ^ 10 by omega) (Nat.pow_le_pow_right (by omega) (by omega))
    rw [if_neg (by omega), ba_size, if_pos (by omega), dec_f k size hpw (by omega) (by omega), Option.bind_some, ba_size, if_pos (by omega), if_pos (by omega), e]
    have e1 : (⟨#[99, 111, 110, 116, 101, 110, 116, 45, 108, 101, 110, 103, 116, 104, 58, 32]⟩ : ByteArray) = BA (cl14 ++ [58, 32]) := rfl
    have e2 : (⟨#[13, 10, 13, 10]⟩ : ByteArray) = BA four := rfl
    rw [e1, e2, ba_app, ba_app, ba_app]
    unfold lineN hdrs
    simp
  | succ d ih =>
    intro k j a hj hk ha
    obtain ⟨k, rfl⟩ : ∃ n, k = n + 1 := ⟨k - 1, by omega⟩
    have hjl : j < l.length := by omega
    have hs := hsz l[j] (List.getElem_mem hjl)
    obtain ⟨n, hn⟩ := ba_of l[j].f0
    obtain ⟨v, hv⟩ := ba_of l[j].f1
    have hp : pairL l[j] = (n, v) := by unfold pairL; rw [hn, hv, ba_list, ba_list]
    rw [hn, ba_size, hv, ba_size] at hs
    unfold Pr.stowageref27_head.l0
    have e1 : (⟨#[58, 32]⟩ : ByteArray) = BA [58, 32] := rfl
    have e2 : (⟨#[13, 10]⟩ : ByteArray) = BA crlf := rfl
    rw [if_pos (by omega), if_pos (by omega), rdP l j hjl, hn, hv, ba_size, ba_size, ba_size, if_pos (by omega), if_pos (by omega), if_pos (by omega), if_pos (by omega), e1, e2, ba_app, ba_app, ba_app, ba_app, wup j l.length (by omega) (by omega)]
    have hcl : crlf.length = 2 := rfl
    rw [ih k (j + 1) _ (by omega) (by omega) (by simp only [List.length_append, List.length_cons, List.length_nil]; omega), hdrs_step l j hjl, hp]
    unfold hdr
    simp
theorem rhead_f (st : Int) (l : List SPair) (b : List Int) (size : Nat) (hst : wordsL st ≠ []) (hl : l.length ≤ 1000) (hz : size ≤ 1048576) (hsz : ∀ p ∈ l, p.f0.size ≤ 2000 ∧ p.f1.size ≤ 2000) (k : Nat) (hk : l.length + 20 ≤ k) :
    Pr.stowageref27_head.f k st l b (size : Int) = some (BA (headL st (l.map pairL) size)) := by
  obtain ⟨s, rfl, h1, h2⟩ := sts_nat hst
  unfold Pr.stowageref27_head.f
  have hpw : s < 10 ^ k := Nat.lt_of_lt_of_le (show s < 10 ^ 10 by omega) (Nat.pow_le_pow_right (by omega) (by omega))
  have hd := dec_size s (by omega)
  have hw := words_len (s : Int)
  rw [rwords_f, Option.bind_some]
  dsimp only
  rw [dec_f k s hpw (by omega) (by omega), Option.bind_some, ba_size, ba_size, if_pos (by omega), if_pos (by omega), if_pos (by omega), if_pos (by omega)]
  have e1 : (⟨#[72, 84, 84, 80, 47, 49, 46, 49, 32]⟩ : ByteArray) = BA (([72, 84, 84, 80, 47, 49, 46, 49] : List UInt8) ++ [32]) := rfl
  have e2 : (⟨#[13, 10]⟩ : ByteArray) = BA crlf := rfl
  have e3 : (⟨#[32]⟩ : ByteArray) = BA [32] := rfl
  have hcl : crlf.length = 2 := rfl
  rw [e1, e2, e3, ba_app, ba_app, ba_app, ba_app]
  have h := rhead_l0 (s : Int) l b size hl hz hsz l.length k 0 (((([72, 84, 84, 80, 47, 49, 46, 49] : List UInt8) ++ [32] ++ decDigits s) ++ [32]) ++ wordsL (s : Int) ++ crlf) (by omega) (by omega) (by simp only [List.length_append, List.length_cons, List.length_nil]; omega)
  rw [show (0 : Int) = ((0 : Nat) : Int) from rfl, h, head_form, List.drop_zero]
  unfold line0
  rw [show itoa (s : Int) = decDigits s from Lib.itoa_nonneg s]
  simp
end Go.Proofs.YtmgpbcpggnlkkaaGreatDoor
end
section
namespace Go.Proofs.YtmgpbcpggnlkkaaGreatDoor.Pr
open Go.RowKit Go.Proofs.YtmgpbcpggnlkkaaGreatDoorW.PrintWords Go.Proofs.YtmgpbcpggnlkkaaGreatDoorW.PrintLast Go.Proofs.YtmgpbcpggnlkkaaGreatDoorW.PrintMore
attribute [local go_sem] max2_int min2_int max_two min_two max_three min_three max_four min_four -- for this text's walks alone
set_option linter.unusedVariables false
set_option linter.unusedSimpArgs false

/-! ### response_Bytes: function 14 -/
def response_Bytes.f (k : Nat) (a0_0 : Int) (l0_1 : List (S51)) (l0_2 : List Int) : Option (List Int × Int) := (response_wrong.f k a0_0 l0_1 l0_2).bind fun t224 => (if t224 = 0 then (if (l0_2.length : Int) > 1048576 then (some (([] : List Int), 3)) else ((response_head.f a0_0 l0_1 l0_2 (l0_2.length : Int)).bind fun t225 => (if t225.length + l0_2.length < 140737488355328 then (some ((t225 ++ l0_2), 0)) else (none)))) else (some (([] : List Int), t224)))
theorem response_Bytes.mono : ∀ a0 a1 a2 k, LeO (response_Bytes.f k a0 a1 a2) (response_Bytes.f (k + 1) a0 a1 a2) := by
 intro a0 a1 a2 k
 unfold response_Bytes.f
 repeat' first
   | (with_reducible exact response_wrong.mono _ _ _ _)
   | (with_reducible exact LeO.refl _)
   | (with_reducible exact LeO.none _)
   | (with_reducible refine LeO.ite ?_ ?_)
   | (with_reducible refine LeO.bind ?_ (fun _ => ?_))
   | exact response_wrong.mono _ _ _ _
   | exact LeO.none _
   | refine LeO.ite ?_ ?_
   | refine LeO.bind ?_ (fun _ => ?_)
def response_Bytes.T6 : Bool × List (List Nat × List Nat) := (true, [([], []), ([], []), ([1], [1]), ([2], [2]), ([0, 3], [0, 3]), ([], []), ([5], [5]), ([4, 6, 4], [4, 6]), ([7, 7, 0, 1, 2, 3, 4, 5, 6, 7], [7]), ([8, 0, 1, 2, 3, 4, 5, 6, 7, 8], [])])
def response_Bytes.B6 : List Nat := [0, 0, 2, 6, 15, 0, 32, 127, 255, 511]
theorem response_Bytes.tab6 : rtab .any (opsOf Tryz.f14 6) = response_Bytes.T6 := by kernel_rfl
theorem response_Bytes.bits6 : waitsOk response_Bytes.T6.2 response_Bytes.B6 = true := by kernel_rfl
set_option maxHeartbeats 8000000 in
set_option maxRecDepth 100000 in
theorem response_Bytes.calls (k : Nat) (a0_0 : Int) (A0_1 : Option Addr) (c0_1 : Nat) (l0_1 : List (S51)) (A0_2 : Option Addr) (c0_2 : Nat) (l0_2 : List Int) (r1 : List Int) (r2 : Int) (w : World) (hG : GM w) (hr0_1 : Kd.C k51 w A0_1 l0_1.length l0_1) (hc0_1 : l0_1.length ≤ c0_1) (hr0_2 : Kd.C (Kd.int .u8) w A0_2 l0_2.length l0_2) (hc0_2 : l0_2.length ≤ c0_2) (h : response_Bytes.f k a0_0 l0_1 l0_2 = some (r1, r2)) :
  Calls Tryz.prog 14 #[.agg #[.int .i64 a0_0, .slice A0_1 l0_1.length c0_1, .slice A0_2 l0_2.length c0_2]] w fun e w' => ∃ v0_ : Value, e = .returned (.tuple #[v0_, .int .i64 r2]) ∧ Kd.R (Kd.int .u8) 5 w' w.heap.size (fun _ => True) v0_ r1 ∧ Below w.heap.size w w' := by
 have hu26 := Tryz.underlying26
 have HR0_1 := Aside0.mk hr0_1
 have HC0_1 := Aside0.mk hc0_1
 clear hr0_1 hc0_1
 have HR0_2 := Aside0.mk hr0_2
 have HC0_2 := Aside0.mk hc0_2
 clear hr0_2 hc0_2
 have HB := Aside0.mk (Below.refl w.heap.size w)
 have HG := Aside0.mk hG
 clear hG
 have H : ((response_wrong.f k a0_0 l0_1 l0_2).bind fun t224 => (if t224 = 0 then (if (l0_2.length : Int) > 1048576 then (some (([] : List Int), 3)) else ((response_head.f a0_0 l0_1 l0_2 (l0_2.length : Int)).bind fun t225 => (if t225.length + l0_2.length < 140737488355328 then (some ((t225 ++ l0_2), 0)) else (none)))) else (some (([] : List Int), t224)))) = some (r1, r2) := h
 clear h
 replace H := Option.bind_eq_some_iff.mp H
 obtain ⟨t224, A20, H⟩ := H
 replace H : (if t224 = 0 then (if (l0_2.length : Int) > 1048576 then (some (([] : List Int), 3)) else ((response_head.f a0_0 l0_1 l0_2 (l0_2.length : Int)).bind fun t225 => (if t225.length + l0_2.length < 140737488355328 then (some ((t225 ++ l0_2), 0)) else (none)))) else (some (([] : List Int), t224))) = some (r1, r2) := H
 have A2 := Aside0.mk A20
 clear A20
 by_cases c3 : t224 = 0
 ·rw [if_pos c3] at H
  have c3b0 : (t224 == 0) = true := beq_iff_eq.mpr c3
  have c3b1 : (t224 != 0) = false := bne_eq_false_iff_eq.mpr c3
  clear c3
  by_cases c4 : (l0_2.length : Int) > 1048576
  ·rw [if_pos c4] at H
   have c4b0 : decide (1048576 < (l0_2.length : Int)) = true := decide_eq_true c4
   have c4b1 : decide (1048576 < l0_2.length) = true := decide_eq_true (by omega)
   clear c4
   simp only [Option.some.injEq, Prod.mk.injEq] at H
   obtain ⟨rfl, rfl⟩ := H
   go_enter Tryz.func14, Tryz.ntmps14
   go_wp2_with (first|((with_reducible refine gate_dst (N := 1) rfl ?_); refine box_event ?hg (N := 1) ?hd (cs := #[.int .i64 a0_0, .slice A0_1 l0_1.length c0_1, .slice A0_2 l0_2.length c0_2]) (t := 26) ?hr ?_; (case hd => rfl); (case hg => rfl); (case hr => first|(go_simp; done)|(go_simp; rfl)); intro gb223 hg w5 hbox hb; have n0_ := Aside0.mk (below_step (by repeat (first|(with_reducible first|exact HB.out|apply below_alloc|apply pw_below_drewN|apply below_drew1)|exact HB.out)) hb); have n1_ := Aside0.mk (hbox); have n2_ := Aside0.mk ((by rw [hg]; exact (below_size (by repeat (first|(with_reducible first|exact HB.out|apply below_alloc|apply pw_below_drewN|apply below_drew1)|exact HB.out))) : w.heap.size ≤ gb223)); have n3_ := Aside0.mk ((by rw [hg]; exact (below_size (by repeat (first|(with_reducible first|exact HB.out|apply below_alloc|apply pw_below_drewN|apply below_drew1)|exact HB.out))) : w.heap.size ≤ gb223)); clear HB; have HB := n0_; have BK223 := n1_; have GW223 := n2_; have GE223 := n3_; clear n0_ n1_ n2_ n3_; clear hb hbox hg; have hcz6_0 : w5.cell? ⟨gb223, 0, none⟩ = some (.int .i64 a0_0) := (blk_cell BK223.out 0).trans rfl; have hcz6_1 : w5.cell? ⟨gb223, 1, none⟩ = some (.slice A0_1 l0_1.length c0_1) := (blk_cell BK223.out 1).trans rfl; have hcz6_2 : w5.cell? ⟨gb223, 2, none⟩ = some (.slice A0_2 l0_2.length c0_2) := (blk_cell BK223.out 2).trans rfl; have hfz6_0 := blk_frozen BK223.out 0; have hfz6_1 := blk_frozen BK223.out 1; have hfz6_2 := blk_frozen BK223.out 2)|((with_reducible refine gate_callee (f := 29) rfl ?_); refine goesL_ (some 6) rfl rfl Tryz.func29 (by kernel_rfl) rfl #[.agg #[.int .i64 a0_0, .slice A0_1 l0_1.length c0_1, .slice A0_2 l0_2.length c0_2]] rfl (by (try simp only [List.map_toArray, List.map_cons, List.map_nil]); first|done|rfl|(simp only [List.length_drop, List.length_take]; rfl)) ?_; (with_reducible refine (response_wrong.calls k a0_0 _ _ l0_1 _ _ l0_2 t224 _ ?side1 ?side2 ?side3 ?side4 A2.out).mono ?_); (case side1 => repeat (first|exact (Kd.C_below HR0_1.out HB.out)|(with_reducible refine Kd.C_alloc ?_ _)|(with_reducible refine Kd.C_drewN ?_ _)|(with_reducible refine Kd.C_drew ?_))); (case side2 => exact HC0_1.out); (case side3 => repeat (first|exact (Kd.C_below HR0_2.out HB.out)|(with_reducible refine Kd.C_alloc ?_ _)|(with_reducible refine Kd.C_drewN ?_ _)|(with_reducible refine Kd.C_drew ?_))); (case side4 => exact HC0_2.out); rintro e w7 ⟨rfl, hb⟩; refine ⟨_, rfl, ?_⟩; have n0_ := Aside0.mk (blk_below (g := gb223) (o := .cells #[.int .i64 a0_0, .slice A0_1 l0_1.length c0_1, .slice A0_2 l0_2.length c0_2] 26 (0, 0)) (by (with_reducible repeat (first|refine blk_drewN ?_ _|refine blk_drew ?_|refine blk_alloc ?_ _)); exact BK223.out) hb); have n1_ := Aside0.mk (below_step (by repeat (first|(with_reducible first|exact HB.out|apply below_alloc|apply pw_below_drewN|apply below_drew1|refine below_set ?_ GE223.out)|exact HB.out)) hb); clear BK223; clear HB; have BK223 := n0_; have HB := n1_; clear n0_ n1_; (try clear hb); (try clear hb2); (try clear hk); (try clear hi); have hcz8_0 : w7.cell? ⟨gb223, 0, none⟩ = some (.int .i64 a0_0) := (blk_cell BK223.out 0).trans rfl; have hcz8_1 : w7.cell? ⟨gb223, 1, none⟩ = some (.slice A0_1 l0_1.length c0_1) := (blk_cell BK223.out 1).trans rfl; have hcz8_2 : w7.cell? ⟨gb223, 2, none⟩ = some (.slice A0_2 l0_2.length c0_2) := (blk_cell BK223.out 2).trans rfl; have hfz8_0 := blk_frozen BK223.out 0; have hfz8_1 := blk_frozen BK223.out 1; have hfz8_2 := blk_frozen BK223.out 2))
   go_ret2
   exact ⟨_, by first|rfl|(simp [errW_none, errW_some] <;> rfl)|(simp [*, errW_none, errW_some] <;> rfl), by first|exact Kd.R_nil _ _ _ _ _|exact Kd.N_nil _ _ _ _ _|exact Kd.V_nil _ _ _ _ _|exact Kd.Q_nil _ _ _ _ _|exact Kd.S_nil _ _ _ _ _, by repeat (first|(with_reducible first|exact HB.out|apply below_alloc|apply pw_below_drewN|apply below_drew1|refine below_set ?_ GE223.out)|exact HB.out)⟩
  ·rw [if_neg c4] at H
   have c4b0 : decide (1048576 < (l0_2.length : Int)) = false := decide_eq_false c4
   have c4b1 : decide (1048576 < l0_2.length) = false := decide_eq_false (by omega)
   clear c4
   replace H := Option.bind_eq_some_iff.mp H
   obtain ⟨t225, A90, H⟩ := H
   replace H : (if t225.length + l0_2.length < 140737488355328 then (some ((t225 ++ l0_2), 0)) else (none)) = some (r1, r2) := H
   have A9 := Aside0.mk A90
   clear A90
   by_cases c10 : t225.length + l0_2.length < 140737488355328
   ·rw [if_pos c10] at H
    have LMc10 := Aside0.mk c10
    clear c10
    obtain ⟨y228, hy228⟩ : ∃ y_ : List Int, y_ = (t225 ++ l0_2) := ⟨_, rfl⟩
    replace H : (some (y228, 0)) = some (r1, r2) := by first|(rw [hy228]; with_reducible exact H)|(have H2_ := (Option.bind_some _ _).symm.trans H; rw [hy228]; with_reducible exact H2_)|(have H2_ := (Option.bind_some _ _).symm.trans H; with_reducible exact H2_)|with_reducible exact H|(rw [hy228]; exact H)|exact H
    have Ny228 := Aside0.mk hy228
    clear hy228
    simp only [Option.some.injEq, Prod.mk.injEq] at H
    obtain ⟨rfl, rfl⟩ := H
    go_enter Tryz.func14, Tryz.ntmps14
    try go_wp2_with (first|((with_reducible refine gate_dst (N := 1) rfl ?_); refine box_event ?hg (N := 1) ?hd (cs := #[.int .i64 a0_0, .slice A0_1 l0_1.length c0_1, .slice A0_2 l0_2.length c0_2]) (t := 26) ?hr ?_; (case hd => rfl); (case hg => rfl); (case hr => first|(go_simp; done)|(go_simp; rfl)); intro gb223 hg w11 hbox hb; have n0_ := Aside0.mk (below_step (by repeat (first|(with_reducible first|exact HB.out|apply below_alloc|apply pw_below_drewN|apply below_drew1)|exact HB.out)) hb); have n1_ := Aside0.mk (hbox); have n2_ := Aside0.mk ((by rw [hg]; exact (below_size (by repeat (first|(with_reducible first|exact HB.out|apply below_alloc|apply pw_below_drewN|apply below_drew1)|exact HB.out))) : w.heap.size ≤ gb223)); have n3_ := Aside0.mk ((by rw [hg]; exact (below_size (by repeat (first|(with_reducible first|exact HB.out|apply below_alloc|apply pw_below_drewN|apply below_drew1)|exact HB.out))) : w.heap.size ≤ gb223)); clear HB; have HB := n0_; have BK223 := n1_; have GW223 := n2_; have GE223 := n3_; clear n0_ n1_ n2_ n3_; clear hb hbox hg; have hcz12_0 : w11.cell? ⟨gb223, 0, none⟩ = some (.int .i64 a0_0) := (blk_cell BK223.out 0).trans rfl; have hcz12_1 : w11.cell? ⟨gb223, 1, none⟩ = some (.slice A0_1 l0_1.length c0_1) := (blk_cell BK223.out 1).trans rfl; have hcz12_2 : w11.cell? ⟨gb223, 2, none⟩ = some (.slice A0_2 l0_2.length c0_2) := (blk_cell BK223.out 2).trans rfl; have hfz12_0 := blk_frozen BK223.out 0; have hfz12_1 := blk_frozen BK223.out 1; have hfz12_2 := blk_frozen BK223.out 2)|((with_reducible refine gate_callee (f := 29) rfl ?_); refine goesL_ (some 6) rfl rfl Tryz.func29 (by kernel_rfl) rfl #[.agg #[.int .i64 a0_0, .slice A0_1 l0_1.length c0_1, .slice A0_2 l0_2.length c0_2]] rfl (by (try simp only [List.map_toArray, List.map_cons, List.map_nil]); first|done|rfl|(simp only [List.length_drop, List.length_take]; rfl)) ?_; (with_reducible refine (response_wrong.calls k a0_0 _ _ l0_1 _ _ l0_2 t224 _ ?side1 ?side2 ?side3 ?side4 A2.out).mono ?_); (case side1 => repeat (first|exact (Kd.C_below HR0_1.out HB.out)|(with_reducible refine Kd.C_alloc ?_ _)|(with_reducible refine Kd.C_drewN ?_ _)|(with_reducible refine Kd.C_drew ?_))); (case side2 => exact HC0_1.out); (case side3 => repeat (first|exact (Kd.C_below HR0_2.out HB.out)|(with_reducible refine Kd.C_alloc ?_ _)|(with_reducible refine Kd.C_drewN ?_ _)|(with_reducible refine Kd.C_drew ?_))); (case side4 => exact HC0_2.out); rintro e w13 ⟨rfl, hb⟩; refine ⟨_, rfl, ?_⟩; have n0_ := Aside0.mk (blk_below (g := gb223) (o := .cells #[.int .i64 a0_0, .slice A0_1 l0_1.length c0_1, .slice A0_2 l0_2.length c0_2] 26 (0, 0)) (by (with_reducible repeat (first|refine blk_drewN ?_ _|refine blk_drew ?_|refine blk_alloc ?_ _)); exact BK223.out) hb); have n1_ := Aside0.mk (below_step (by repeat (first|(with_reducible first|exact HB.out|apply below_alloc|apply pw_below_drewN|apply below_drew1|refine below_set ?_ GE223.out)|exact HB.out)) hb); clear BK223; clear HB; have BK223 := n0_; have HB := n1_; clear n0_ n1_; (try clear hb); (try clear hb2); (try clear hk); (try clear hi); have hcz14_0 : w13.cell? ⟨gb223, 0, none⟩ = some (.int .i64 a0_0) := (blk_cell BK223.out 0).trans rfl; have hcz14_1 : w13.cell? ⟨gb223, 1, none⟩ = some (.slice A0_1 l0_1.length c0_1) := (blk_cell BK223.out 1).trans rfl; have hcz14_2 : w13.cell? ⟨gb223, 2, none⟩ = some (.slice A0_2 l0_2.length c0_2) := (blk_cell BK223.out 2).trans rfl; have hfz14_0 := blk_frozen BK223.out 0; have hfz14_1 := blk_frozen BK223.out 1; have hfz14_2 := blk_frozen BK223.out 2))
    have n0_ := Aside0.mk (blk_drew BK223.out)
    have n1_ := Aside0.mk (below_drew1 HB.out)
    clear BK223
    clear HB
    have BK223 := n0_
    have HB := n1_
    clear n0_ n1_
    refine start_ (n := 10) (S := fun w' => w'.cell? ⟨gb223, 0, none⟩ = some (.int .i64 a0_0) ∧ w'.cell? ⟨gb223, 1, none⟩ = some (.slice A0_1 l0_1.length c0_1) ∧ w'.cell? ⟨gb223, 2, none⟩ = some (.slice A0_2 l0_2.length c0_2)) (ds := []) #[false, false, false, false, false, false, false, false, false, false] (by kernel_rfl) rfl rfl ⟨(blk_cell BK223.out 0).trans rfl, (blk_cell BK223.out 1).trans rfl, (blk_cell BK223.out 2).trans rfl⟩ (fun hHeld => ?_); refine with_tabW response_Bytes.tab6 response_Bytes.bits6 (fun HT_ HW_ => ?_)
    generalize w13.drew = w15 at BK223 HB hHeld ⊢
    refine pure_ (i := 1) (N := some 15) (v := ?_) (a' := ?_) #[false, true, false, false, false, false, false, false, false, false] rfl rfl (any_of HT_.out (by kernel_rfl)) (fun _ _ _ h => h) (Or.inl ⟨by rfl, ?_⟩) ?_ ?_
    rotate_left
    ·intro w'
     go_simp
     with_reducible rfl
    rotate_left
    ·simp only [Act.put, List.setIfInBounds_toArray, List.set_cons_zero, List.set_cons_succ, i64_w, i32_w]
     rfl
    refine pure_ (i := 5) (N := some 19) (v := ?_) (a' := ?_) #[false, true, false, false, false, true, false, false, false, false] rfl rfl (any_of HT_.out (by kernel_rfl)) (fun _ _ _ h => h) (Or.inl ⟨by rfl, ?_⟩) ?_ ?_
    rotate_left
    ·intro w'
     go_simp
     with_reducible rfl
    rotate_left
    ·simp only [Act.put, List.setIfInBounds_toArray, List.set_cons_zero, List.set_cons_succ, i64_w, i32_w]
     rfl
    refine take_ (i := 0) (N := some 14) (v := ?_) (a' := ?_) #[true, true, false, false, false, true, false, false, false, false] rfl rfl (take_ofW HT_.out HW_.out (by kernel_rfl)) (fun _ _ _ h => h) (Or.inl ⟨by rfl, ?_⟩) hHeld ?_ ?_
    rotate_left
    ·rintro w' ⟨s0, s1, s2⟩
     go_simp
     with_reducible rfl
    rotate_left
    ·simp only [Act.put, List.setIfInBounds_toArray, List.set_cons_zero, List.set_cons_succ, i64_w, i32_w]
     rfl
    refine take_ (i := 2) (N := some 16) (v := ?_) (a' := ?_) #[true, true, true, false, false, true, false, false, false, false] rfl rfl (take_ofW HT_.out HW_.out (by kernel_rfl)) (fun _ _ _ h => h) (Or.inl ⟨by rfl, ?_⟩) hHeld ?_ ?_
    rotate_left
    ·rintro w' ⟨s0, s1, s2⟩
     go_simp
     with_reducible rfl
    rotate_left
    ·simp only [Act.put, List.setIfInBounds_toArray, List.set_cons_zero, List.set_cons_succ, i64_w, i32_w]
     rfl
    refine pure_ (i := 3) (N := some 17) (v := ?_) (a' := ?_) #[true, true, true, true, false, true, false, false, false, false] rfl rfl (any_of HT_.out (by kernel_rfl)) (fun _ _ _ h => h) (Or.inl ⟨by rfl, ?_⟩) ?_ ?_
    rotate_left
    ·intro w'
     go_simp
     with_reducible rfl
    rotate_left
    ·simp only [Act.put, List.setIfInBounds_toArray, List.set_cons_zero, List.set_cons_succ, i64_w, i32_w]
     rfl
    refine take_ (i := 6) (N := some 20) (v := ?_) (a' := ?_) #[true, true, true, true, false, true, true, false, false, false] rfl rfl (take_ofW HT_.out HW_.out (by kernel_rfl)) (fun _ _ _ h => h) (Or.inl ⟨by rfl, ?_⟩) hHeld ?_ ?_
    rotate_left
    ·rintro w' ⟨s0, s1, s2⟩
     go_simp
     with_reducible rfl
    rotate_left
    ·simp only [Act.put, List.setIfInBounds_toArray, List.set_cons_zero, List.set_cons_succ, i64_w, i32_w]
     rfl
    refine one_ (i := 4) (N := some 18) #[true, true, true, true, true, true, true, false, false, false] rfl rfl (one_of HT_.out (by kernel_rfl)) (by decide) (fun K hK => ?_)
    refine goes_ Tryz.func30 (by kernel_rfl) rfl #[.agg #[.int .i64 a0_0, .slice A0_1 l0_1.length c0_1, .slice A0_2 l0_2.length c0_2], .int .i64 (l0_2.length : Int)] (by rfl) rfl rfl (by (try simp only [List.map_toArray, List.map_cons, List.map_nil]); first|done|rfl|(simp only [List.length_drop, List.length_take]; rfl)) ?_
    with_reducible refine (response_head.calls a0_0 _ _ l0_1 _ _ l0_2 (l0_2.length : Int) t225 _ ?side1 ?side2 ?side3 ?side4 ?side5 A9.out).mono ?_
    (case side1 => first|exact HG.out|exact GM.below (by repeat (first|(with_reducible first|exact HB.out|apply below_alloc|apply pw_below_drewN|apply below_drew1|refine below_set ?_ GE223.out)|exact HB.out)) HG.out|(repeat (first|exact HG.out|apply GM.drewN|apply GM.drew)))
    (case side2 => repeat (first|exact (Kd.C_below HR0_1.out HB.out)|(with_reducible refine Kd.C_alloc ?_ _)|(with_reducible refine Kd.C_drewN ?_ _)|(with_reducible refine Kd.C_drew ?_)))
    (case side3 => exact HC0_1.out)
    (case side4 => repeat (first|exact (Kd.C_below HR0_2.out HB.out)|(with_reducible refine Kd.C_alloc ?_ _)|(with_reducible refine Kd.C_drewN ?_ _)|(with_reducible refine Kd.C_drew ?_)))
    (case side5 => exact HC0_2.out)
    rintro e w16 ⟨v226, rfl, ho0, hb⟩
    refine ⟨_, rfl, ?_⟩
    have n0_ := Aside0.mk (Kd.R_lower ho0 (below_size (by repeat (first|(with_reducible first|exact HB.out|apply below_alloc|apply pw_below_drewN|apply below_drew1|refine below_set ?_ GE223.out)|exact HB.out))))
    have n1_ := Aside0.mk (blk_below (g := gb223) (o := .cells #[.int .i64 a0_0, .slice A0_1 l0_1.length c0_1, .slice A0_2 l0_2.length c0_2] 26 (0, 0)) (by (with_reducible repeat (first|refine blk_drewN ?_ _|refine blk_drew ?_|refine blk_alloc ?_ _)); exact BK223.out) hb)
    have n2_ := Aside0.mk (below_step (by repeat (first|(with_reducible first|exact HB.out|apply below_alloc|apply pw_below_drewN|apply below_drew1|refine below_set ?_ GE223.out)|exact HB.out)) hb)
    clear BK223
    clear HB
    have HO227 := n0_
    have BK223 := n1_
    have HB := n2_
    clear n0_ n1_ n2_
    (try clear hb)
    (try clear hb2)
    (try clear hk)
    (try clear hi)
    (try clear ho0)
    refine hK.out _ _ ⟨(blk_cell BK223.out 0).trans rfl, (blk_cell BK223.out 1).trans rfl, (blk_cell BK223.out 2).trans rfl⟩ (fun hHeld => ?_)
    clear hK K
    refine norm_ (a' := ?_) ?_ ?_
    rotate_left
    ·show Act.put _ (some 18) _ = _
     simp only [Act.put, List.setIfInBounds_toArray, List.set_cons_zero, List.set_cons_succ, i64_w, i32_w]
     rfl
    refine one_ (i := 7) (N := some 21) #[true, true, true, true, true, true, true, true, false, false] rfl rfl (one_of HT_.out (by kernel_rfl)) (by decide) (fun K hK => ?_)
    refine Kd.R_append_rows_step (Kd.int .u8) (w0 := w) w.heap.size (by rfl) (.tmp 18) (.tmp 20) 22 5 (.int .u8 0) 1 rfl Tryz.underlying22 info5 rfl (by decide) (by omega) v226 t225 l0_2 _ _ _ (fun _ => True) (fun _ => False) rfl rfl ?aO ?aR (fun _ _ h => h) (fun _ h => h.elim) ?aF ?aB ?aS ?aL ?_
    (case aR => repeat (first|exact (Kd.C_below HR0_2.out HB.out)|(with_reducible refine Kd.C_alloc ?_ _)|(with_reducible refine Kd.C_drewN ?_ _)|(with_reducible refine Kd.C_drew ?_)))
    (case aB => exact (by repeat (first|(with_reducible first|exact HB.out|apply below_alloc|apply pw_below_drewN|apply below_drew1|refine below_set ?_ GE223.out)|exact HB.out)))
    (case aF => exact (fun _ _ => trivial))
    (case aO => exact (by (with_reducible repeat (first|apply Kd.R_alloc|apply Kd.R_drewN|apply Kd.R_drew)); exact HO227.out))
    (case aS => exact (below_size (by repeat (first|(with_reducible first|exact HB.out|apply below_alloc|apply pw_below_drewN|apply below_drew1|refine below_set ?_ GE223.out)|exact HB.out))))
    (case aL => have := LMc10.out; omega)
    intro v229 w17 ho hb hg hat
    rw [← Ny228.out] at ho
    have n0_ := Aside0.mk (blk_grown (g := gb223) (o := .cells #[.int .i64 a0_0, .slice A0_1 l0_1.length c0_1, .slice A0_2 l0_2.length c0_2] 26 (0, 0)) (by (with_reducible repeat (first|refine blk_drewN ?_ _|refine blk_drew ?_|refine blk_alloc ?_ _)); exact BK223.out) hg (Kd.R_ne HO227.out BK223.out (by decide)))
    have n1_ := Aside0.mk (hb)
    have n2_ := Aside0.mk (ho)
    clear BK223
    clear HB
    clear HO227
    have BK223 := n0_
    have HB := n1_
    have HO230 := n2_
    clear n0_ n1_ n2_
    clear ho hb hg hat
    refine hK.out _ _ ⟨(blk_cell BK223.out 0).trans rfl, (blk_cell BK223.out 1).trans rfl, (blk_cell BK223.out 2).trans rfl⟩ (fun hHeld => ?_)
    clear hK K
    refine norm_ (a' := ?_) ?_ ?_
    rotate_left
    ·show Act.put _ (some 21) _ = _
     simp only [Act.put, List.setIfInBounds_toArray, List.set_cons_zero, List.set_cons_succ, i64_w, i32_w]
     rfl
    refine pure_ (i := 8) (N := some 2) (v := ?_) (a' := ?_) #[true, true, true, true, true, true, true, true, true, false] rfl rfl (any_of HT_.out (by kernel_rfl)) (fun _ _ _ h => h) (Or.inl ⟨by rfl, ?_⟩) ?_ ?_
    rotate_left
    ·intro w'
     go_simp
     with_reducible rfl
    rotate_left
    ·simp only [Act.put, List.setIfInBounds_toArray, List.set_cons_zero, List.set_cons_succ, i64_w, i32_w]
     rfl
    refine pure_ (i := 9) (N := some 3) (v := ?_) (a' := ?_) #[true, true, true, true, true, true, true, true, true, true] rfl rfl (any_of HT_.out (by kernel_rfl)) (fun _ _ _ h => h) (Or.inl ⟨by rfl, ?_⟩) ?_ ?_
    rotate_left
    ·intro w'
     go_simp
     with_reducible rfl
    rotate_left
    ·simp only [Act.put, List.setIfInBounds_toArray, List.set_cons_zero, List.set_cons_succ, i64_w, i32_w]
     rfl
    refine done_ (done_of HT_.out (by kernel_rfl)) ?_
    try go_wp2
    go_ret2
    exact ⟨_, by first|rfl|(simp [errW_none, errW_some] <;> rfl)|(simp [*, errW_none, errW_some] <;> rfl), by (with_reducible repeat (first|apply Kd.R_alloc|apply Kd.R_drewN|apply Kd.R_drew)); exact HO230.out, by repeat (first|(with_reducible first|exact HB.out|apply below_alloc|apply pw_below_drewN|apply below_drew1|refine below_set ?_ GE223.out)|exact HB.out)⟩
   ·rw [if_neg c10] at H
    exact absurd H (by simp)
 ·rw [if_neg c3] at H
  have c3b0 : (t224 == 0) = false := beq_eq_false_iff_ne.mpr c3
  have c3b1 : (t224 != 0) = true := bne_iff_ne.mpr c3
  simp only [Option.some.injEq, Prod.mk.injEq] at H
  obtain ⟨rfl, rfl⟩ := H
  go_enter Tryz.func14, Tryz.ntmps14
  go_wp2_with (first|((with_reducible refine gate_dst (N := 1) rfl ?_); refine box_event ?hg (N := 1) ?hd (cs := #[.int .i64 a0_0, .slice A0_1 l0_1.length c0_1, .slice A0_2 l0_2.length c0_2]) (t := 26) ?hr ?_; (case hd => rfl); (case hg => rfl); (case hr => first|(go_simp; done)|(go_simp; rfl)); intro gb223 hg w18 hbox hb; have n0_ := Aside0.mk (below_step (by repeat (first|(with_reducible first|exact HB.out|apply below_alloc|apply pw_below_drewN|apply below_drew1)|exact HB.out)) hb); have n1_ := Aside0.mk (hbox); have n2_ := Aside0.mk ((by rw [hg]; exact (below_size (by repeat (first|(with_reducible first|exact HB.out|apply below_alloc|apply pw_below_drewN|apply below_drew1)|exact HB.out))) : w.heap.size ≤ gb223)); have n3_ := Aside0.mk ((by rw [hg]; exact (below_size (by repeat (first|(with_reducible first|exact HB.out|apply below_alloc|apply pw_below_drewN|apply below_drew1)|exact HB.out))) : w.heap.size ≤ gb223)); clear HB; have HB := n0_; have BK223 := n1_; have GW223 := n2_; have GE223 := n3_; clear n0_ n1_ n2_ n3_; clear hb hbox hg; have hcz19_0 : w18.cell? ⟨gb223, 0, none⟩ = some (.int .i64 a0_0) := (blk_cell BK223.out 0).trans rfl; have hcz19_1 : w18.cell? ⟨gb223, 1, none⟩ = some (.slice A0_1 l0_1.length c0_1) := (blk_cell BK223.out 1).trans rfl; have hcz19_2 : w18.cell? ⟨gb223, 2, none⟩ = some (.slice A0_2 l0_2.length c0_2) := (blk_cell BK223.out 2).trans rfl; have hfz19_0 := blk_frozen BK223.out 0; have hfz19_1 := blk_frozen BK223.out 1; have hfz19_2 := blk_frozen BK223.out 2)|((with_reducible refine gate_callee (f := 29) rfl ?_); refine goesL_ (some 6) rfl rfl Tryz.func29 (by kernel_rfl) rfl #[.agg #[.int .i64 a0_0, .slice A0_1 l0_1.length c0_1, .slice A0_2 l0_2.length c0_2]] rfl (by (try simp only [List.map_toArray, List.map_cons, List.map_nil]); first|done|rfl|(simp only [List.length_drop, List.length_take]; rfl)) ?_; (with_reducible refine (response_wrong.calls k a0_0 _ _ l0_1 _ _ l0_2 t224 _ ?side1 ?side2 ?side3 ?side4 A2.out).mono ?_); (case side1 => repeat (first|exact (Kd.C_below HR0_1.out HB.out)|(with_reducible refine Kd.C_alloc ?_ _)|(with_reducible refine Kd.C_drewN ?_ _)|(with_reducible refine Kd.C_drew ?_))); (case side2 => exact HC0_1.out); (case side3 => repeat (first|exact (Kd.C_below HR0_2.out HB.out)|(with_reducible refine Kd.C_alloc ?_ _)|(with_reducible refine Kd.C_drewN ?_ _)|(with_reducible refine Kd.C_drew ?_))); (case side4 => exact HC0_2.out); rintro e w20 ⟨rfl, hb⟩; refine ⟨_, rfl, ?_⟩; have n0_ := Aside0.mk (blk_below (g := gb223) (o := .cells #[.int .i64 a0_0, .slice A0_1 l0_1.length c0_1, .slice A0_2 l0_2.length c0_2] 26 (0, 0)) (by (with_reducible repeat (first|refine blk_drewN ?_ _|refine blk_drew ?_|refine blk_alloc ?_ _)); exact BK223.out) hb); have n1_ := Aside0.mk (below_step (by repeat (first|(with_reducible first|exact HB.out|apply below_alloc|apply pw_below_drewN|apply below_drew1|refine below_set ?_ GE223.out)|exact HB.out)) hb); clear BK223; clear HB; have BK223 := n0_; have HB := n1_; clear n0_ n1_; (try clear hb); (try clear hb2); (try clear hk); (try clear hi)))
  go_ret2
  exact ⟨_, by first|rfl|(simp [errW_none, errW_some] <;> rfl)|(simp [*, errW_none, errW_some] <;> rfl), by first|exact Kd.R_nil _ _ _ _ _|exact Kd.N_nil _ _ _ _ _|exact Kd.V_nil _ _ _ _ _|exact Kd.Q_nil _ _ _ _ _|exact Kd.S_nil _ _ _ _ _, by repeat (first|(with_reducible first|exact HB.out|apply below_alloc|apply pw_below_drewN|apply below_drew1|refine below_set ?_ GE223.out)|exact HB.out)⟩

end Go.Proofs.YtmgpbcpggnlkkaaGreatDoor.Pr
end
