/- Texts of this proof, put together: Ra27, Rb27. -/
import Derived.Lib.AtoiAll
import Derived.Lib.ItoaNum
import Derived.Lib.Split
import Derived.Lib.SlTrimSet
import Derived.Lib.Strings
import Derived.Lib.IndexBytes
section
/- Response: the plain side: what a head is, and how it is read. -/
namespace Go.Proofs.YtmgpbcpggnlkkaaGreatDoor
open Go.Lib
set_option linter.unusedVariables false
set_option linter.unusedSimpArgs false
abbrev Bs := List UInt8
def crlf : Bs := [13, 10]
def four : Bs := [13, 10, 13, 10]
def wordsL (st : Int) : Bs :=
  if st = 200 then ([79, 75] : List UInt8) else if st = 204 then ([78, 111, 32, 67, 111, 110, 116, 101, 110, 116] : List UInt8) else if st = 206 then ([80, 97, 114, 116, 105, 97, 108, 32, 67, 111, 110, 116, 101, 110, 116] : List UInt8) else if st = 400 then ([66, 97, 100, 32, 82, 101, 113, 117, 101, 115, 116] : List UInt8) else if st = 404 then ([78, 111, 116, 32, 70, 111, 117, 110, 100] : List UInt8)
  else if st = 405 then ([77, 101, 116, 104, 111, 100, 32, 78, 111, 116, 32, 65, 108, 108, 111, 119, 101, 100] : List UInt8) else if st = 409 then ([67, 111, 110, 102, 108, 105, 99, 116] : List UInt8) else if st = 413 then ([67, 111, 110, 116, 101, 110, 116, 32, 84, 111, 111, 32, 76, 97, 114, 103, 101] : List UInt8) else if st = 416 then ([82, 97, 110, 103, 101, 32, 78, 111, 116, 32, 83, 97, 116, 105, 115, 102, 105, 97, 98, 108, 101] : List UInt8) else if st = 503 then ([83, 101, 114, 118, 105, 99, 101, 32, 85, 110, 97, 118, 97, 105, 108, 97, 98, 108, 101] : List UInt8) else []
def stsL : List Int := [200, 204, 206, 400, 404, 405, 409, 413, 416, 503]
theorem wordsL_mem {st : Int} (h : wordsL st ≠ []) : st ∈ stsL := by
  unfold wordsL at h
  unfold stsL
  by_cases h1 : st = 200 <;> by_cases h2 : st = 204 <;> by_cases h3 : st = 206 <;> by_cases h4 : st = 400 <;> by_cases h5 : st = 404 <;> by_cases h6 : st = 405 <;> by_cases h7 : st = 409 <;> by_cases h8 : st = 413 <;> by_cases h9 : st = 416 <;> by_cases h10 : st = 503 <;> simp_all
def nameC (c : UInt8) : Bool := (decide (97 ≤ c) && decide (c ≤ 122)) || ((decide (48 ≤ c) && decide (c ≤ 57)) || decide (c = 45))
def valC (c : UInt8) : Bool := decide (32 ≤ c) && decide (c ≤ 126)
def cl14 : Bs := ([99, 111, 110, 116, 101, 110, 116, 45, 108, 101, 110, 103, 116, 104] : List UInt8)
def mayP (p : Bs × Bs) : Bool := p.1.all nameC && (p.2.all valC && (decide (1 ≤ p.1.length) && (decide (p.1.length ≤ 40) && (!(p.1 == cl14) && (decide (p.2.length ≤ 1000) && (trimS p.2 [32] == p.2))))))
def hdr (p : Bs × Bs) : Bs := p.1 ++ [58, 32] ++ p.2
def line0 (st : Int) : Bs := ([72, 84, 84, 80, 47, 49, 46, 49] : List UInt8) ++ 32 :: (itoa st ++ 32 :: wordsL st)
def lineN (n : Nat) : Bs := cl14 ++ [58, 32] ++ decDigits n
def hLines (st : Int) (hs : List (Bs × Bs)) (n : Nat) : List Bs := line0 st :: (hs.map hdr ++ [lineN n])
def ends (ls : List Bs) : Bs := ls.flatMap fun l => l ++ crlf
def headL (st : Int) (hs : List (Bs × Bs)) (n : Nat) : Bs := ends (hLines st hs n) ++ crlf
def wrongL (st : Int) (hs : List (Bs × Bs)) : Int := if wordsL st = [] then 5 else if 32 < hs.length then 8 else if hs.all mayP then 0 else 4
structure ValidH (st : Int) (hs : List (Bs × Bs)) (n : Nat) : Prop where
  st : wordsL st ≠ []
  len : hs.length ≤ 32
  may : ∀ p ∈ hs, mayP p = true
  n : n ≤ 1048576
/-- Lines without their last end. -/
def joinC : List Bs → Bs
  | [] => []
  | [l] => l
  | l :: r => l ++ crlf ++ joinC r
theorem ends_join : ∀ (ls : List Bs), ls ≠ [] → ends ls = joinC ls ++ crlf
  | [], h => absurd rfl h
  | [l], _ => by simp [ends, joinC]
  | l :: m :: r, _ => by
    have := ends_join (m :: r) (by simp)
    unfold ends at this ⊢
    rw [List.flatMap_cons, this]
    simp [joinC]
theorem no_pre (c : UInt8) (l sub : Bs) (h : c ≠ 13) (hs : ∃ r, sub = 13 :: r) : sub.isPrefixOf (c :: l) = false := by
  obtain ⟨r, rfl⟩ := hs
  simp [List.isPrefixOf, Ne.symm h]
theorem idx_cons (c : UInt8) (l sub : Bs) (h : sub.isPrefixOf (c :: l) = false) : index (c :: l) sub = if index l sub = -1 then -1 else index l sub + 1 := by
  conv => lhs; unfold index
  rw [if_neg (by rw [h]; simp)]
  by_cases h2 : index l sub = -1
  · rw [if_pos (by rw [h2]; rfl), if_pos h2]
  · rw [if_neg (by simpa using h2), if_neg h2]
theorem idx_app (sub : Bs) (hs : ∃ r, sub = 13 :: r) : ∀ (a l : Bs) (i : Nat), (∀ c ∈ a, c ≠ 13) → index l sub = i → index (a ++ l) sub = ((a.length + i : Nat) : Int)
  | [], l, i, _, h => by simpa using h
  | c :: a, l, i, ha, h => by
    have ih := idx_app sub hs a l i (fun x hx => ha x (List.mem_cons_of_mem _ hx)) h
    rw [List.cons_append, idx_cons c _ _ (no_pre c _ _ (ha c (List.mem_cons_self ..)) hs), ih, if_neg (by omega), List.length_cons]
    omega
theorem idx_none (sub : Bs) (hs : ∃ r, sub = 13 :: r) : ∀ (a : Bs), (∀ c ∈ a, c ≠ 13) → index a sub = -1
  | [], _ => by
    obtain ⟨r, rfl⟩ := hs
    rfl
  | c :: a, ha => by
    rw [idx_cons c _ _ (no_pre c _ _ (ha c (List.mem_cons_self ..)) hs), idx_none sub hs a (fun x hx => ha x (List.mem_cons_of_mem _ hx)), if_pos rfl]
theorem idx_crlf (r : Bs) : index (crlf ++ r) crlf = ((0 : Nat) : Int) := by
  unfold crlf index
  simp [List.isPrefixOf]
/-- Lines, taken apart. -/
theorem split_join : ∀ (ls : List Bs), ls ≠ [] → (∀ l ∈ ls, ∀ c ∈ l, c ≠ 13) → split (joinC ls) crlf = ls
  | [], h, _ => absurd rfl h
  | [l], _, hn => by
    have h := idx_none crlf ⟨[10], rfl⟩ l (hn l (by simp))
    unfold split joinC
    rw [count_miss h]
    rfl
  | l :: m :: r, _, hn => by
    have ih := split_join (m :: r) (by simp) (fun x hx => hn x (List.mem_cons_of_mem _ hx))
    have hi : index (joinC (l :: m :: r)) crlf = ((l.length : Nat) : Int) := by
      have := idx_app crlf ⟨[10], rfl⟩ l (crlf ++ joinC (m :: r)) 0 (hn l (by simp)) (idx_crlf _)
      simpa [joinC, List.append_assoc] using this
    have hd : (joinC (l :: m :: r)).drop (l.length + crlf.length) = joinC (m :: r) := by
      show (l ++ crlf ++ joinC (m :: r)).drop (l.length + crlf.length) = _
      rw [show l.length + crlf.length = (l ++ crlf).length by simp, List.drop_left]
    have ht : (joinC (l :: m :: r)).take l.length = l := by
      show (l ++ crlf ++ joinC (m :: r)).take l.length = _
      rw [List.append_assoc, List.take_left]
    unfold split at ih ⊢
    rw [count_hit (by decide) hi, hd, Nat.add_comm 1]
    unfold splitK
    rw [if_neg (by rw [hi, beq_iff_eq]; omega), hi, Int.toNat_natCast, Nat.add_zero, ht, hd, ih]
/-! ### cut -/
theorem cut_at (sub : Bs) (a b : Bs) (h : index (a ++ (sub ++ b)) sub = ((a.length : Nat) : Int)) : cut (a ++ (sub ++ b)) sub = (a, b, true) := by
  unfold cut
  rw [if_pos (by omega), h, Int.toNat_natCast, List.take_left]
  have : (a ++ (sub ++ b)).drop (a.length + sub.length) = b := by
    rw [← List.append_assoc, show a.length + sub.length = (a ++ sub).length by simp, List.drop_left]
  rw [this]
theorem idx_first (x : UInt8) (t : Bs) : ∀ (a b : Bs), (∀ c ∈ a, c ≠ x) → index (a ++ ((x :: t) ++ b)) (x :: t) = ((a.length : Nat) : Int)
  | [], b, _ => by
    unfold index
    simp
  | c :: a, b, ha => by
    have ih := idx_first x t a b (fun y hy => ha y (List.mem_cons_of_mem _ hy))
    have hne := ha c (List.mem_cons_self ..)
    rw [List.cons_append, idx_cons c _ _ (by simp [List.isPrefixOf, Ne.symm hne]), ih, if_neg (by omega), List.length_cons]
    omega
theorem cut_first (x : UInt8) (t a b : Bs) (ha : ∀ c ∈ a, c ≠ x) : cut (a ++ ((x :: t) ++ b)) (x :: t) = (a, b, true) := cut_at _ a b (idx_first x t a b ha)
/-! ### decimal digits -/
theorem dec_digit (c : UInt8) (k : Nat) (hk : k < 10) (h : c = UInt8.ofNat (48 + k)) : c.toNat = 48 + k := by
  subst h
  simp
  omega
theorem dec_all : ∀ (n : Nat), ∀ c ∈ decDigits n, 48 ≤ c.toNat ∧ c.toNat ≤ 57 := by
  intro n
  induction n using Nat.strongRecOn with
  | ind n ih =>
    intro c hc
    rw [decDigits] at hc
    split at hc
    · rename_i h
      have := dec_digit c n h (by simpa using hc)
      omega
    · rename_i h
      rcases List.mem_append.1 hc with hc | hc
      · exact ih (n / 10) (by omega) c hc
      · have := dec_digit c (n % 10) (by omega) (by simpa using hc)
        omega
theorem dec_ne (n : Nat) : decDigits n ≠ [] := by
  rw [decDigits]
  split <;> simp
theorem parse_app : ∀ (a b : Bs) (acc u : Nat), parseUint10 acc a = .ok u → parseUint10 acc (a ++ b) = parseUint10 u b
  | [], b, acc, u, h => by
    simp only [parseUint10, NumEnd.ok.injEq] at h
    rw [List.nil_append, h]
  | c :: a, b, acc, u, h => by
    simp only [List.cons_append, parseUint10] at h ⊢
    split at h
    · rename_i hc
      rw [if_pos hc]
      split at h
      · cases h
      · rename_i h1
        rw [if_neg h1]
        split at h
        · cases h
        · rename_i h2
          rw [if_neg h2]
          exact parse_app a b _ u h
    · cases h
theorem parse_dec : ∀ (n : Nat), n ≤ 1000000000000 → parseUint10 0 (decDigits n) = .ok n := by
  intro n
  induction n using Nat.strongRecOn with
  | ind n ih =>
    intro hn
    rw [decDigits]
    split
    · rename_i h
      have e : (UInt8.ofNat (48 + n)).toNat = 48 + n := dec_digit _ n h rfl
      unfold parseUint10
      rw [if_pos (by omega), if_neg (by omega), if_neg (by omega), e]
      unfold parseUint10
      congr 1
      omega
    · rename_i h
      rw [parse_app _ _ 0 (n / 10) (ih (n / 10) (by omega) (by omega))]
      have e : (UInt8.ofNat (48 + n % 10)).toNat = 48 + n % 10 := dec_digit _ (n % 10) (by omega) rfl
      unfold parseUint10
      rw [if_pos (by omega), if_neg (by omega), if_neg (by omega), e]
      unfold parseUint10
      congr 1
      omega
theorem atoi_dec (n : Nat) (hn : n ≤ 1000000000000) : atoiAll (decDigits n) = .ok (n : Int) := by
  have h1 := parse_dec n hn
  have h2 := dec_all n
  have h3 := dec_ne n
  generalize decDigits n = l at h1 h2 h3
  cases l with
  | nil => exact absurd rfl h3
  | cons c r =>
    have hc := h2 c (List.mem_cons_self ..)
    have hm : parseMag (c :: r) = .ok n := by unfold parseMag; rw [if_neg (by simp)]; exact h1
    unfold atoiAll
    simp only
    rw [if_neg (by omega), hm]
    simp only
    rw [if_neg (by omega), if_neg (by omega), if_neg (by omega)]
theorem itoa_sts : ∀ st ∈ stsL, atoiAll (itoa st) = .ok st ∧ (∀ c ∈ itoa st, c ≠ 32 ∧ c ≠ 13) ∧ (itoa st).length = 3 ∧ (∀ c ∈ wordsL st, c ≠ 13) := by
  decide +kernel
end Go.Proofs.YtmgpbcpggnlkkaaGreatDoor
end
section
/- Response: the plain side: a head is read, an answer is read. -/
namespace Go.Proofs.YtmgpbcpggnlkkaaGreatDoor
open Go.Lib
set_option linter.unusedVariables false
set_option linter.unusedSimpArgs false
def atoiV (l : Bs) : Int := match atoiAll l with | .ok v => v | .«syntax» => 0 | .range => atoiSat l
def okMsg : Bs := ([72, 84, 84, 80, 47, 49, 46, 49] : List UInt8)
def parts (t : Bs) : List Bs := split (trimSuffix t four) crlf
def hdOf (l : Bs) : Bs × Bs := ((cut l [58, 32]).1, (cut l [58, 32]).2.1)
/-- What the program reads of a head; none: it is none. -/
def parseP (t : Bs) : Option (Int × List (Bs × Bs) × Nat) :=
  if (cut ((parts t).headD []) [32]).1 = okMsg ∧ 2 ≤ (parts t).length then
    match atoiAll (cut ((parts t).getLastD []) [58, 32]).2.1 with
    | .ok n => if (cut ((parts t).getLastD []) [58, 32]).1 = cl14 ∧ 0 ≤ n ∧ n ≤ 1048576 ∧ wrongL (atoiV (cut (cut ((parts t).headD []) [32]).2.1 [32]).1) ((((parts t).drop 1).take ((parts t).length - 2)).map hdOf) = 0 ∧ headL (atoiV (cut (cut ((parts t).headD []) [32]).2.1 [32]).1) ((((parts t).drop 1).take ((parts t).length - 2)).map hdOf) n.toNat = t
      then some (atoiV (cut (cut ((parts t).headD []) [32]).2.1 [32]).1, (((parts t).drop 1).take ((parts t).length - 2)).map hdOf, n.toNat) else none
    | _ => none
  else none
theorem wrongL_zero {st : Int} {hs : List (Bs × Bs)} (h : wrongL st hs = 0) : wordsL st ≠ [] ∧ hs.length ≤ 32 ∧ ∀ p ∈ hs, mayP p = true := by
  unfold wrongL at h
  split at h
  · cases h
  · rename_i h1
    split at h
    · cases h
    · rename_i h2
      split at h
      · rename_i h3
        exact ⟨h1, by omega, List.all_eq_true.1 h3⟩
      · cases h
theorem wrongL_ok {st : Int} {hs : List (Bs × Bs)} {n : Nat} (h : ValidH st hs n) : wrongL st hs = 0 := by
  unfold wrongL
  rw [if_neg h.st, if_neg (by have := h.len; omega), if_pos (List.all_eq_true.2 h.may)]
theorem parseP_some {t : Bs} {st : Int} {hs : List (Bs × Bs)} {n : Nat} (h : parseP t = some (st, hs, n)) : ValidH st hs n ∧ headL st hs n = t := by
  unfold parseP at h
  split at h
  · split at h
    · split at h
      · rename_i m _ hc
        simp only [Option.some.injEq, Prod.mk.injEq] at h
        obtain ⟨rfl, rfl, rfl⟩ := h
        obtain ⟨_, h0, h1, h2, h3⟩ := hc
        obtain ⟨a, b, c⟩ := wrongL_zero h2
        exact ⟨⟨a, b, c, by omega⟩, h3⟩
      · cases h
    · cases h
  · cases h
theorem name_ne {p : Bs × Bs} (h : mayP p = true) : (∀ c ∈ p.1, c ≠ 58 ∧ c ≠ 13) ∧ (∀ c ∈ p.2, c ≠ 13) ∧ 1 ≤ p.1.length := by
  unfold mayP at h
  simp only [Bool.and_eq_true, List.all_eq_true, decide_eq_true_eq] at h
  refine ⟨fun c hc => ?_, fun c hc => ?_, h.2.2.1⟩
  · have := h.1 c hc
    constructor <;> rintro rfl <;> revert this <;> decide
  · have := h.2.1 c hc
    rintro rfl
    revert this
    decide
theorem dec_no (n : Nat) (c : UInt8) (hc : c ∈ decDigits n) : c ≠ 13 := by
  have := dec_all n c hc
  rintro rfl
  revert this
  decide
theorem lines_no {st : Int} {hs : List (Bs × Bs)} {n : Nat} (h : ValidH st hs n) : ∀ l ∈ hLines st hs n, ∀ c ∈ l, c ≠ 13 := by
  intro l hl c hc
  obtain ⟨_, h1, _, h2⟩ := itoa_sts st (wordsL_mem h.st)
  unfold hLines at hl
  rcases List.mem_cons.1 hl with rfl | hl
  · unfold line0 at hc
    rcases List.mem_append.1 hc with hc | hc
    · rintro rfl; revert hc; decide
    · rcases List.mem_cons.1 hc with rfl | hc
      · decide
      · rcases List.mem_append.1 hc with hc | hc
        · exact (h1 c hc).2
        · rcases List.mem_cons.1 hc with rfl | hc
          · decide
          · exact h2 c hc
  · rcases List.mem_append.1 hl with hl | hl
    · obtain ⟨p, hp, rfl⟩ := List.mem_map.1 hl
      obtain ⟨a, b, _⟩ := name_ne (h.may p hp)
      unfold hdr at hc
      rcases List.mem_append.1 hc with hc | hc
      · rcases List.mem_append.1 hc with hc | hc
        · exact (a c hc).2
        · rintro rfl; revert hc; decide
      · exact b c hc
    · obtain rfl : l = lineN n := by simpa using hl
      unfold lineN at hc
      rcases List.mem_append.1 hc with hc | hc
      · rintro rfl; revert hc; decide
      · exact dec_no n c hc
theorem headL_join (st : Int) (hs : List (Bs × Bs)) (n : Nat) : headL st hs n = joinC (hLines st hs n) ++ four := by
  unfold headL
  rw [ends_join _ (by unfold hLines; simp), List.append_assoc]
  rfl
theorem parts_head {st : Int} {hs : List (Bs × Bs)} {n : Nat} (h : ValidH st hs n) : parts (headL st hs n) = hLines st hs n := by
  unfold parts trimSuffix
  rw [headL_join, if_pos (by unfold hasSuffix; rw [List.isSuffixOf_iff_suffix]; exact List.suffix_append _ _)]
  rw [show (joinC (hLines st hs n) ++ four).length - four.length = (joinC (hLines st hs n)).length by simp, List.take_left]
  exact split_join _ (by unfold hLines; simp) (lines_no h)
theorem hdOf_hdr {p : Bs × Bs} (h : mayP p = true) : hdOf (hdr p) = p := by
  unfold hdOf hdr
  have := cut_first 58 [32] p.1 p.2 (fun c hc => ((name_ne h).1 c hc).1)
  rw [List.append_assoc, this]
theorem parseP_head {st : Int} {hs : List (Bs × Bs)} {n : Nat} (h : ValidH st hs n) : parseP (headL st hs n) = some (st, hs, n) := by
  obtain ⟨hi1, hi2, _, _⟩ := itoa_sts st (wordsL_mem h.st)
  have c1 : cut (line0 st) [32] = (okMsg, itoa st ++ 32 :: wordsL st, true) := by
    have := cut_first 32 [] okMsg (itoa st ++ 32 :: wordsL st) (by decide)
    exact this
  have c2 : cut (itoa st ++ 32 :: wordsL st) [32] = (itoa st, wordsL st, true) := cut_first 32 [] (itoa st) (wordsL st) (fun c hc => (hi2 c hc).1)
  have c3 : cut (lineN n) [58, 32] = (cl14, decDigits n, true) := by
    have := cut_first 58 [32] cl14 (decDigits n) (by decide)
    unfold lineN
    rw [List.append_assoc]
    exact this
  have e1 : (hLines st hs n).headD [] = line0 st := rfl
  have e2 : (hLines st hs n).getLastD [] = lineN n := by
    unfold hLines
    rw [List.getLastD_cons, List.getLastD_concat]
  have e3 : (((hLines st hs n).drop 1).take ((hLines st hs n).length - 2)).map hdOf = hs := by
    unfold hLines
    rw [List.drop_one, List.tail_cons, show (line0 st :: (hs.map hdr ++ [lineN n])).length - 2 = (hs.map hdr).length by simp, List.take_left, List.map_map]
    conv => rhs; rw [← List.map_id hs]
    apply List.map_congr_left
    intro p hp
    exact hdOf_hdr (h.may p hp)
  have e4 : atoiV (itoa st) = st := by unfold atoiV; rw [hi1]
  unfold parseP
  rw [parts_head h, e1, e2, e3, c1, c2, c3]
  simp only
  rw [e4, if_pos ⟨trivial, by unfold hLines; simp⟩, atoi_dec n (by have := h.n; omega)]
  simp only
  rw [Int.toNat_natCast, if_pos ⟨trivial, by omega, by have := h.n; omega, wrongL_ok h, rfl⟩]
def readP (b : Bs) : (Int × List (Bs × Bs) × Bs) × Int × Int :=
  if index b four < 0 then ((0, [], []), 0, 9) else
  match parseP (b.take ((index b four).toNat + 4)) with
  | none => ((0, [], []), 0, 4)
  | some (st, hs, n) => if b.length - ((index b four).toNat + 4) < n then ((0, [], []), 0, 9) else ((st, hs, (b.drop ((index b four).toNat + 4)).take n), ((index b four).toNat + 4 + n : Nat), 0)
end Go.Proofs.YtmgpbcpggnlkkaaGreatDoor
end
