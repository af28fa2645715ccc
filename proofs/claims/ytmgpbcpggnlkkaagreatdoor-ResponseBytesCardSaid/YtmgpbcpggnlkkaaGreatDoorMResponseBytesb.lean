/- Texts of this proof, put together: Ra27, Rb27. -/
import Derived.Lib.AtoiAll
import Derived.Lib.ItoaNum
import Derived.Lib.Split
import Derived.Lib.SlTrimSet
import Derived.Lib.Strings
import Derived.Lib.IndexBytes
section
/- Response: the plain side: what a head is, and how it is read. -/
namespace Go.Proofs.YtmgpbcpggnlkkaaGreatDoor
open Go.Lib
set_option linter.unusedVariables false
set_option linter.unusedSimpArgs false
abbrev Bs := List UInt8
def crlf : Bs := [13, 10]
def four : Bs := [13, 10, 13, 10]
def wordsL (st : Int) : Bs :=
  if st = 200 then ([79, 75] : List UInt8) else if st = 204 then ([78, 111, 32, 67, 111, 110, 116, 101, 110, 116] : List UInt8) else if st = 206 then ([80, 97, 114, 116, 105, 97, 108, 32, 67, 111, 110, 116, 101, 110, 116] : List UInt8) else if st = 400 then ([66, 97, 100, 32, 82, 101, 113, 117, 101, 115, 116] : List UInt8) else if st = 404 then ([78, 111, 116, 32, 70, 111, 117, 110, 100] : List UInt8)
  else if st = 405 then ([77, 101, 116, 104, 111, 100, 32, 78, 111, 116, 32, 65, 108, 108, 111, 119, 101, 100] : List UInt8) else if st = 409 then ([67, 111, 110, 102, 108, 105, 99, 116] : List UInt8) else if st = 413 then ([67, 111, 110, 116, 101, 110, 116, 32, 84, 111, 111, 32, 76, 97, 114, 103, 101] : List UInt8) else if st = 416 then ([82, 97, 110, 103, 101, 32, 78, 111, 116, 32, 83, 97, 116, 105, 115, 102, 105, 97, 98, 108, 101] : List UInt8) else if st = 503 then ([83, 101, 114, 118, 105, 99, 101, 32, 85, 110, 97, 118, 97, 105, 108, 97, 98, 108, 101] : List UInt8) else []
def stsL : List Int := [200, 204, 206, 400, 404, 405, 409, 413, 416, 503]
theorem wordsL_mem {st : Int} (h : wordsL st ≠ []) : st ∈ stsL := by
  unfold wordsL at h
  unfold stsL
  by_cases h1 : st = 200 <;> by_cases h2 : st = 204 <;> by_cases h3 : st = 206 <;> by_cases h4 : st = 400 <;> by_cases h5 : st = 404 <;> by_cases h6 : st = 405 <;> by_cases h7 : st = 409 <;> by_cases h8 : st = 413 <;> by_cases h9 : st = 416 <;> by_cases h10 : st = 503 <;> simp_all
def nameC (c : UInt8) : Bool := (decide (97 ≤ c) && decide (c ≤ 122)) || ((decide (48 ≤ c) && decide (c ≤ 57)) || decide (c = 45))
def valC (c : UInt8) : Bool := decide (32 ≤ c) && decide (c ≤ 126)
def cl14 : Bs := ([99, 111, 110, 116, 101, 110, 116, 45, 108, 101, 110, 103, 116, 104] : List UInt8)
def mayP (p : Bs × Bs) : Bool := p.1.all nameC && (p.2.all valC && (decide (1 ≤ p.1.length) && (decide (p.1.length ≤ 40) && (!(p.1 == cl14) && (decide (p.2.length ≤ 1000) && (trimS p.2 [32] == p.2))))))
def hdr (p : Bs × Bs) : Bs := p.1 ++ [58, 32] ++ p.2
def line0 (st : Int) : Bs := ([72, 84, 84, 80, 47, 49, 46, 49] : List UInt8) ++ 32 :: (itoa st ++ 32 :: wordsL st)
def lineN (n : Nat) : Bs := cl14 ++ [58, 32] ++ decDigits n
def hLines (st : Int) (hs : List (Bs × Bs)) (n : Nat) : List Bs := line0 st :: (hs.map hdr ++ [lineN n])
def ends (ls : List Bs) : Bs := ls.flatMap fun l => l ++ crlf
def headL (st : Int) (hs : List (Bs × Bs)) (n : Nat) : Bs := ends (hLines st hs n) ++ crlf
def wrongL (st : Int) (hs : List (Bs × Bs)) : Int := if wordsL st = [] then 5 else if 32 < hs.length then 8 else if hs.all mayP then 0 else 4
structure ValidH (st : Int) (hs : List (Bs × Bs)) (n : Nat) : Prop where
  st : wordsL st ≠ []
  len : hs.length ≤ 32
  may : ∀ p ∈ hs, mayP p = true
  n : n ≤ 1048576
/-- Lines without their last end. -/
def joinC : List Bs → Bs
  | [] => []
  | [l] => l
  | l :: r => l ++ crlf ++ joinC r
theorem ends_join : ∀ (ls : List Bs), ls ≠ [] → ends ls = joinC ls ++ crlf
  | [], h => absurd rfl h
  | [l], _ => by simp [ends, joinC]
  | l :: m :: r, _ => by
    have := ends_join (m :: r) (by simp)
    unfold ends at this ⊢
    rw [List.flatMap_cons, this]
    simp [joinC]
/-! ### cut -/
/-! ### decimal digits -/
theorem itoa_sts : ∀ st ∈ stsL, atoiAll (itoa st) = .ok st ∧ (∀ c ∈ itoa st, c ≠ 32 ∧ c ≠ 13) ∧ (itoa st).length = 3 ∧ (∀ c ∈ wordsL st, c ≠ 13) := by
  decide +kernel
end Go.Proofs.YtmgpbcpggnlkkaaGreatDoor
end
section
/- Response: the plain side: a head is read, an answer is read. -/
namespace Go.Proofs.YtmgpbcpggnlkkaaGreatDoor
open Go.Lib
set_option linter.unusedVariables false
set_option linter.unusedSimpArgs false
def atoiV (l : Bs) : Int := match atoiAll l with | .ok v => v | .«syntax» => 0 | .range => atoiSat l
def okMsg : Bs := ([72, 84, 84, 80, 47, 49, 46, 49] : List UInt8)
def parts (t : Bs) : List Bs := split (trimSuffix t four) crlf
def hdOf (l : Bs) : Bs × Bs := ((cut l [58, 32]).1, (cut l [58, 32]).2.1)
/-- What the program reads of a head; none: it is none. -/
def parseP (t : Bs) : Option (Int × List (Bs × Bs) × Nat) :=
  if (cut ((parts t).headD []) [32]).1 = okMsg ∧ 2 ≤ (parts t).length then
    match atoiAll (cut ((parts t).getLastD []) [58, 32]).2.1 with
    | .ok n => if (cut ((parts t).getLastD []) [58, 32]).1 = cl14 ∧ 0 ≤ n ∧ n ≤ 1048576 ∧ wrongL (atoiV (cut (cut ((parts t).headD []) [32]).2.1 [32]).1) ((((parts t).drop 1).take ((parts t).length - 2)).map hdOf) = 0 ∧ headL (atoiV (cut (cut ((parts t).headD []) [32]).2.1 [32]).1) ((((parts t).drop 1).take ((parts t).length - 2)).map hdOf) n.toNat = t
      then some (atoiV (cut (cut ((parts t).headD []) [32]).2.1 [32]).1, (((parts t).drop 1).take ((parts t).length - 2)).map hdOf, n.toNat) else none
    | _ => none
  else none
theorem wrongL_zero {st : Int} {hs : List (Bs × Bs)} (h : wrongL st hs = 0) : wordsL st ≠ [] ∧ hs.length ≤ 32 ∧ ∀ p ∈ hs, mayP p = true := by
  unfold wrongL at h
  split at h
  · cases h
  · rename_i h1
    split at h
    · cases h
    · rename_i h2
      split at h
      · rename_i h3
        exact ⟨h1, by omega, List.all_eq_true.1 h3⟩
      · cases h
theorem parseP_some {t : Bs} {st : Int} {hs : List (Bs × Bs)} {n : Nat} (h : parseP t = some (st, hs, n)) : ValidH st hs n ∧ headL st hs n = t := by
  unfold parseP at h
  split at h
  · split at h
    · split at h
      · rename_i m _ hc
        simp only [Option.some.injEq, Prod.mk.injEq] at h
        obtain ⟨rfl, rfl, rfl⟩ := h
        obtain ⟨_, h0, h1, h2, h3⟩ := hc
        obtain ⟨a, b, c⟩ := wrongL_zero h2
        exact ⟨⟨a, b, c, by omega⟩, h3⟩
      · cases h
    · cases h
  · cases h
theorem headL_join (st : Int) (hs : List (Bs × Bs)) (n : Nat) : headL st hs n = joinC (hLines st hs n) ++ four := by
  unfold headL
  rw [ends_join _ (by unfold hLines; simp), List.append_assoc]
  rfl
/-- An answer's bytes. -/
def bytesP (st : Int) (hs : List (Bs × Bs)) (body : Bs) : Bs × Int :=
  if wrongL st hs = 0 then (if 1048576 < body.length then ([], 3) else (headL st hs body.length ++ body, 0)) else ([], wrongL st hs)
def readP (b : Bs) : (Int × List (Bs × Bs) × Bs) × Int × Int :=
  if index b four < 0 then ((0, [], []), 0, 9) else
  match parseP (b.take ((index b four).toNat + 4)) with
  | none => ((0, [], []), 0, 4)
  | some (st, hs, n) => if b.length - ((index b four).toNat + 4) < n then ((0, [], []), 0, 9) else ((st, hs, (b.drop ((index b four).toNat + 4)).take n), ((index b four).toNat + 4 + n : Nat), 0)
end Go.Proofs.YtmgpbcpggnlkkaaGreatDoor
end
