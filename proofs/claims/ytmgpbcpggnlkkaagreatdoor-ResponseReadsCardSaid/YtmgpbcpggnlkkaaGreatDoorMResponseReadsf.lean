/- Texts of this proof, put together: Push. -/
import Derived.Test.YtmgpbcpggnlkkaaGreatDoorProg
import Derived.Test.YtmgpbcpggnlkkaaGreatDoorMResponseReadsc
import Derived.Test.YtmgpbcpggnlkkaaGreatDoorMResponseReadse
import Derived.Laws.AppendOwnNone
import Derived.DataReads
section
/- append of a whole slice of bytes (nil or not) to a row of the call's own. -/
namespace Go.Proofs.YtmgpbcpggnlkkaaGreatDoor
open Go.RowKit
set_option linter.unusedVariables false
set_option linter.unusedSimpArgs false
/-- A slice value and the cells that it shows. -/
def Src (w : World) (u : Value) (ys : List Value) : Prop := (∃ A c, u = .slice A 0 c ∧ (A = none → c = 0) ∧ ys = []) ∨ ∃ b off c, u = .slice (some ⟨b, off, none⟩) ys.length c ∧ ys.length ≤ c ∧ ∀ j x, ys[j]? = some x → w.cell? ⟨b, off + j, none⟩ = some x
theorem Src.block {w w' : World} {u : Value} {ys : List Value} (h : Src w u ys) (hb : Below w.heap.size w w') : Src w' u ys := by
  rcases h with h | ⟨b, off, c, hu, hle, hc⟩
  · exact .inl h
  · exact .inr ⟨b, off, c, hu, hle, fun j x hj => below_cell hb (hc j x hj)⟩
/-- What is left of a slice behind k elements (the form of the walk: at the end of the room the address stays). -/
theorem Src.drop {w : World} {b off n c k : Nat} {ys : List Value} (h : Src w (.slice (some ⟨b, off, none⟩) n c) ys) (hk : k ≤ n) :
    Src w (.slice (if c = k then some ⟨b, off, none⟩ else some ⟨b, off + k, none⟩) (n - k) (c - k)) (ys.drop k) := by
  rcases h with ⟨A', c', h, _, rfl⟩ | ⟨b', off', c', hu, hle, hc⟩
  · injection h with h1 h2 h3
    subst h2
    obtain rfl : k = 0 := by omega
    refine .inl ⟨_, _, rfl, fun e => ?_, by simp⟩
    split at e <;> cases e
  · injection hu with h1 h2 h3
    injection h1 with h1
    injection h1 with h1 h4
    subst h1 h4 h3
    have hl : (ys.drop k).length = n - k := by simp; omega
    by_cases e : c = k
    · rw [if_pos e]
      refine .inr ⟨b, off, c - k, by rw [hl], by rw [hl]; omega, fun j x hj => ?_⟩
      have := (List.getElem?_eq_some_iff.1 hj).1
      omega
    · rw [if_neg e]
      refine .inr ⟨b, off + k, c - k, by rw [hl], by rw [hl]; omega, fun j x hj => ?_⟩
      rw [Nat.add_assoc]
      exact hc (k + j) x (by rw [List.getElem?_drop] at hj; exact hj)
/-- A list of bytes that came in, as the row's frame tells it. -/
theorem src_of_row {w : World} {a : Option Addr} {len cap : Nat} {zs : List Int} (h : (a = none ∧ len = 0 ∧ cap = 0 ∧ zs = []) ∨
    ∃ x, a = some x ∧ len ≤ cap ∧ cap ≤ maxLen ∧ zs.length = cap ∧ (∀ i, i < zs.length → w.cell? (x.add i) = some (.int .u8 (zs.getD i 0))) ∧ ∀ n ∈ zs, (Lit.int .u8 n).wf = true) :
    ∃ l : List UInt8, l.length = len ∧ Src w (.slice a len cap) (Lib.byteCells l) := by
  rcases h with ⟨rfl, rfl, rfl, rfl⟩ | ⟨x, rfl, hle, hm, hz, hc, hw⟩
  · exact ⟨[], rfl, .inl ⟨none, 0, rfl, fun _ => rfl, rfl⟩⟩
  · have hlen : ((zs.take len).map fun z => z.toNat.toUInt8).length = len := by simp; omega
    refine ⟨_, hlen, ?_⟩
    by_cases h0 : len = 0
    · subst h0
      exact .inl ⟨some x, cap, rfl, fun e => (by cases e), (by simp [Lib.byteCells])⟩
    · have hsp : x.spot = none := World.cell?_spot (hc 0 (by omega))
      obtain ⟨b, off, sp⟩ := x
      simp only at hsp
      subst hsp
      refine .inr ⟨b, off, cap, by simp only [Lib.byteCells, List.length_map]; rw [List.length_take]; congr 1; omega, by simp [Lib.byteCells]; omega, fun j v hj => ?_⟩
      have hj' : j < len := by have := (List.getElem?_eq_some_iff.1 hj).1; simp [Lib.byteCells] at this; omega
      have hcj := hc j (by omega)
      have hadd : (⟨b, off, none⟩ : Addr).add j = ⟨b, off + j, none⟩ := by unfold Addr.add; split <;> simp_all
      rw [hadd] at hcj
      rw [hcj, ← hj]
      have hjz : j < zs.length := by omega
      have hwf := hw zs[j] (List.getElem_mem hjz)
      simp [Lit.wf, IntKind.min, IntKind.max, IntKind.signed, IntKind.bits] at hwf
      simp [Lib.byteCells, hj', hjz]
      omega
end Go.Proofs.YtmgpbcpggnlkkaaGreatDoor
end
