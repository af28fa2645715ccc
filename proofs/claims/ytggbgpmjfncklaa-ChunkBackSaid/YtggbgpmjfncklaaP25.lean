/- The statements on bodies in chunks: their walks. -/
import Derived.Test.YtggbgpmjfncklaaProg
import Derived.Test.YtggbgpmjfncklaaOver
import Derived.Test.YtggbgpmjfncklaaO25
namespace Go.Proofs.Ytggbgpmjfncklaa
open Go.RowKit
set_option linter.unusedVariables false
set_option linter.unusedSimpArgs false
/-- '[]byte(s)' as a source. -/
theorem conv_src {s : ByteArray} {w1 : World} {B c : Nat} (hc : s.size ≤ c) (hcell : ∀ k, k < s.size → w1.cell? ⟨B, k, none⟩ = some (.int .u8 ((s.data.toList[k]?.getD 0).toNat : Int))) : Src w1 (.slice (some ⟨B, 0, none⟩) s.size c) (Lib.byteCells s.data.toList) := by
  have hl : (Lib.byteCells s.data.toList).length = s.size := by simp [Lib.byteCells]
  refine .inr ⟨B, 0, c, by rw [hl], by omega, fun j x hj => ?_⟩
  have hj' : j < s.size := by have := (List.getElem?_eq_some_iff.1 hj).1; omega
  rw [Nat.zero_add, hcell j hj', ← hj]
  simp [Lib.byteCells, hj']
theorem Out.src {B : Nat} {w : World} {x : Value} {l : List UInt8} (h : Out B w x l) : Src w x (Lib.byteCells l) := by
  rcases h with ⟨rfl, rfl⟩ | ⟨g, c, rfl, h⟩
  · exact .inl ⟨none, 0, rfl, fun _ => rfl, rfl⟩
  · refine .inr ⟨g, 0, l.length, by rw [bc_len], by rw [bc_len]; exact Nat.le_refl _, fun j y hj => ?_⟩
    have := h.cells (g := g) rfl j y hj
    rw [Nat.zero_add]
    cases j <;> simpa [Addr.add] using this
theorem row_src {B n : Nat} {w : World} {x : Value} {l : List UInt8} (hn : n = l.length) (h : w.ownsRow B 5 1 x n (Lib.byteCells l)) : Src w x (Lib.byteCells l) := by
  subst hn
  rcases Go.Joins.ownsRow_forms h with ⟨rfl, h0⟩ | ⟨g, cap, rfl⟩
  · have : l = [] := List.eq_nil_of_length_eq_zero h0
    subst this
    exact .inl ⟨none, 0, rfl, fun _ => rfl, rfl⟩
  · have hc := ownsRow_cap h
    refine .inr ⟨g, 0, cap, by rw [bc_len], by rw [bc_len]; exact hc, fun j y hj => ?_⟩
    have := h.cells (g := g) rfl j y hj
    rw [Nat.zero_add]
    cases j <;> simpa [Addr.add] using this
theorem Out.over {B : Nat} {w : World} {x : Value} {l : List UInt8} (h : Out B w x l) (hl : l.length ≤ 1000000) : Calls Try.prog 11 #[x] w fun e w' => e = .returned (.tuple #[]) ∧ Below B w w' := by
  rcases h with ⟨rfl, rfl⟩ | ⟨g, c, rfl, h⟩
  · exact over_nil B w
  · have hA : ArrB w g (fun j => l.getD j 0) l.length := fun j hj => by
      have hx := h.cells (g := g) rfl j (.int .u8 (l[j].toNat : Int)) (by simp [Lib.byteCells, hj])
      have hadd : (⟨g, 0, none⟩ : Addr).add j = ⟨g, j, none⟩ := by unfold Addr.add; split <;> simp_all
      rw [hadd] at hx
      refine ⟨by rw [hx]; simp [UB, hj], ?_⟩
      rcases h.2 with ⟨hh, _⟩ | ⟨g', c', cur, hv, _, hg, _⟩
      · cases hh
      · injection hv with h1 _ _
        injection h1 with h1
        injection h1 with h1
        subst h1
        exact Go.Joins.unfrozen_of_block hg j
    have hg : B ≤ g := (h.lt g rfl).1
    exact over_any B g _ _ _ w hg hA (Nat.le_refl _) (by omega)
theorem Out.below {B : Nat} {w w' : World} {x : Value} {l : List UInt8} (h : Out B w x l) (hb : Below w.heap.size w w') : Out B w' x l := by
  rcases h with h | ⟨g, c, hx, h⟩
  · exact .inl h
  · exact .inr ⟨g, c, hx, ownsRow_below h hb⟩
set_option maxHeartbeats 400000 in
theorem decodes_any (s want : ByteArray) (took : Nat) (w : World) (hs : s.size ≤ 1000) (hR : runD dec0 s.data.toList 0 = (want.data.toList, took, 0)) :
    Calls Try.prog 16 #[.string s, .string want, .int .i64 (took : Int)] w fun e w' => e = .returned (.bool true) ∧ Below w.heap.size w w' := by
  obtain ⟨w1, c1, hcv, hc1, hb, hsz, hcell⟩ := conv_bytes (P := Try.prog) w 9 22 5 s Try.underlying9 Try.underlying22 Try.underlying5
  have hsrc := conv_src hc1 hcell
  have hdc := decode_any _ _ w1 (by rw [← bs_len]; omega) hsrc
  rw [hR] at hdc
  clear hR hcell hsrc
  go_enter Try.func16, Try.ntmps16
  go_wp2_with fail
  refine hdc.mono ?_
  rintro e w2 ⟨⟨x, rfl, hx⟩, hb2⟩
  have hq := src_str (P := Try.prog) hx.src 22 9 5 Try.underlying22 Try.underlying5 Try.underlying9
  rw [← bs_mk (a := want) rfl] at hq
  have hB := bstep hb hb2 (Nat.le_refl _)
  go_wp2
  go_ret
  exact ⟨rfl, hB⟩
set_option maxHeartbeats 400000 in
theorem fails_any (s : ByteArray) (err : Int) (w : World) (hs : s.size ≤ 1000) (hR : runD dec0 s.data.toList 0 = ([], 0, err)) :
    Calls Try.prog 17 #[.string s, .int .i64 err] w fun e w' => e = .returned (.bool true) ∧ Below w.heap.size w w' := by
  obtain ⟨w1, c1, hcv, hc1, hb, hsz, hcell⟩ := conv_bytes (P := Try.prog) w 9 22 5 s Try.underlying9 Try.underlying22 Try.underlying5
  have hsrc := conv_src hc1 hcell
  have hdc := decode_any _ _ w1 (by rw [← bs_len]; omega) hsrc
  rw [hR] at hdc
  clear hR hcell hsrc
  go_enter Try.func17, Try.ntmps17
  go_wp2_with fail
  refine hdc.mono ?_
  rintro e w2 ⟨⟨x, rfl, hx⟩, hb2⟩
  have hB := bstep hb hb2 (Nat.le_refl _)
  obtain ⟨A, c, hform⟩ := src_form hx.src
  subst hform
  clear hx
  go_wp2
  go_ret
  exact ⟨rfl, hB⟩
set_option maxHeartbeats 400000 in
theorem encodes_any (s want : ByteArray) (size : Int) (w : World) (hs : s.size ≤ 1000) (h1 : -9223372036854775808 ≤ size) (h2 : size ≤ 9223372036854775807) (hR : encV s.data.toList size = (want.data.toList, 0)) :
    Calls Try.prog 18 #[.string s, .int .i64 size, .string want] w fun e w' => e = .returned (.bool true) ∧ Below w.heap.size w w' := by
  obtain ⟨w1, c1, hcv, hc1, hb, hsz, hcell⟩ := conv_bytes (P := Try.prog) w 9 22 5 s Try.underlying9 Try.underlying22 Try.underlying5
  have hsrc := conv_src hc1 hcell
  have hdc := pEncode_any _ _ size w1 (by rw [← bs_len]; omega) hsrc h1 h2
  rw [hR] at hdc
  clear hR hcell hsrc
  go_enter Try.func18, Try.ntmps18
  go_wp2_with fail
  refine hdc.mono ?_
  rintro e w2 ⟨⟨x, rfl, hx⟩, hb2⟩
  have hq := src_str (P := Try.prog) hx.src 22 9 5 Try.underlying22 Try.underlying5 Try.underlying9
  rw [← bs_mk (a := want) rfl] at hq
  have hB := bstep hb hb2 (Nat.le_refl _)
  go_wp2
  go_ret
  exact ⟨rfl, hB⟩
theorem awake25_any (w : World) : Calls Try.prog 13 #[] w fun e w' => e = .returned (.bool true) ∧ Below w.heap.size w w' := by
  have h1 := fun W => decodes_any (⟨#[51, 13, 10, 97, 98, 99, 13, 10, 48, 13, 10, 13, 10]⟩ : ByteArray) (⟨#[97, 98, 99]⟩ : ByteArray) 13 W (by decide) (by kernel_rfl)
  have h2 := fun W => encodes_any (⟨#[97, 98, 99]⟩ : ByteArray) (⟨#[50, 13, 10, 97, 98, 13, 10, 49, 13, 10, 99, 13, 10, 48, 13, 10, 13, 10]⟩ : ByteArray) 2 W (by decide) (by decide) (by decide) (by
    have e1 : encV [97, 98, 99] 2 = (([50, 13, 10, 97, 98, 13, 10, 49, 13, 10, 99, 13, 10, 48, 13, 10, 13, 10] : List UInt8), 0) := by
      simp [encV, encC, hexL, tailE, hexD]
    exact e1)
  go_enter Try.func13, Try.ntmps13
  go_wp2_with fail
  refine (h1 _).mono ?_
  rintro e w1 ⟨rfl, hb1⟩
  go_wp2_with fail
  refine (h2 _).mono ?_
  rintro e w2 ⟨rfl, hb2⟩
  go_wp2
  go_ret
  exact ⟨rfl, bstep hb1 hb2 (Nat.le_refl _)⟩
end Go.Proofs.Ytggbgpmjfncklaa
