/- Texts of this proof, put together: Ar27. -/
import Derived.Test.YtmgpbcpggnlkkaaDoorMResponseBackm
import Derived.Test.YtmgpbcpggnlkkaaDoorMResponseBackp
section
/- Answers, and bytes, that came in. -/
namespace Go.Proofs.YtmgpbcpggnlkkaaDoor
open Go.ChangeShapes Go.WideShapes Go.ChangeAt Go.RowKit Go.Proofs.YtmgpbcpggnlkkaaDoorW.PrintWords
set_option linter.unusedVariables false
def IsNums (w : World) (v : Value) : Prop := ∃ (A : Option Addr) (c : Nat) (l : Bs), v = .slice A (Pr.numsL l).length c ∧ (Pr.numsL l).length ≤ c ∧ Kd.C (Kd.int .u8) w A (Pr.numsL l).length (Pr.numsL l)
abbrev zResp : Value := .agg #[.int .i64 0, .slice none 0 0, .slice none 0 0]
theorem nums_wf {l : List Int} (h : ∀ y ∈ l, (Lit.int .u8 y).wf = true) : ∃ B : Bs, l = Pr.numsL B := by
  refine ⟨Lib.bytesOf l, (Pr.nums_bytes ?_).symm⟩
  unfold Pr.isBytes
  rw [List.all_eq_true]
  intro y hy
  have := h y hy
  simp [Lit.wf, IntKind.min, IntKind.max, IntKind.signed, IntKind.bits] at this
  simp
  omega
set_option maxRecDepth 10000 in
theorem open_nums {H : Type} {enc : TypeId × Value → H} {w : World} {base b0 : Nat} {held : Bool} {r : Reach} {v : Value} {d : DataW H} {p : List MemPlace} (hv : Value.okWide Tryd.prog w r b0 25 v) (h : DataW.Trod enc Tryd.prog w base (fun _ => true) held 25 v d p) : IsNums w v := by
  obtain ⟨A, c, xs, h1, h2, h3, _, h4⟩ := open_row Tryd.underlying25 (by kernel_rfl) (opens_int Tryd.underlying5) hv h
  obtain ⟨B, rfl⟩ := nums_wf h4
  exact ⟨A, c, B, h1, h2, h3⟩
def IsResp (w : World) (v : Value) : Prop := ∃ (st : Int) (A1 : Option Addr) (c1 : Nat) (hs : List SPair) (A2 : Option Addr) (c2 : Nat) (b : Bs), v = .agg #[.int .i64 st, .slice A1 hs.length c1, .slice A2 (Pr.numsL b).length c2] ∧ hs.length ≤ c1 ∧ Kd.C Pr.k32 w A1 hs.length hs ∧ (Pr.numsL b).length ≤ c2 ∧ Kd.C (Kd.int .u8) w A2 (Pr.numsL b).length (Pr.numsL b)
set_option maxRecDepth 10000 in
theorem open_resp {H : Type} {enc : TypeId × Value → H} {w : World} {base b0 : Nat} {held : Bool} {r : Reach} {v : Value} {d : DataW H} {p : List MemPlace} (hv : Value.okWide Tryd.prog w r b0 30 v) (h : DataW.Trod enc Tryd.prog w base (fun _ => true) held 30 v d p) : IsResp w v := by
  obtain ⟨cs, x, rfl, hk, hg⟩ := open_agg (α := Int × (List SPair × List Int)) Tryd.underlying30
    (opens_struct (fun x => x) (fun x => x) (fun _ => rfl) Tryd.underlying30 (by kernel_rfl)
      (opensF_cons rfl (by kernel_rfl) (opens_int Tryd.underlying3) (opensF_cons rfl (by kernel_rfl) (opens_slice 32 Tryd.underlying28 (by kernel_rfl) opens_pairK) (opensF_one rfl (by kernel_rfl) (opens_slice 5 Tryd.underlying25 (by kernel_rfl) (opens_int Tryd.underlying5)))))) hv h
  obtain ⟨st, hs, b⟩ := x
  obtain ⟨c1, c2, rfl, hk1, c3, c4, rfl, hk2, hk3⟩ := hk
  obtain ⟨A1, e1, rfl, h1, h2⟩ := hk2
  obtain ⟨A2, e2, rfl, h3, h4⟩ := hk3
  obtain ⟨_, _, _, hb⟩ := hg
  obtain ⟨B, rfl⟩ := nums_wf hb
  obtain rfl : c1 = [.int .i64 st] := hk1
  exact ⟨st, A1, e1, hs, A2, e2, B, rfl, h1, h2, h3, h4⟩
end Go.Proofs.YtmgpbcpggnlkkaaDoor
end
