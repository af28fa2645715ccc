/- Texts of this proof, put together: Ar27. -/
import Derived.Test.YtmgpbcpggnlkkaaGreatDoorMResponseBytesr
import Derived.Test.YtmgpbcpggnlkkaaGreatDoorMResponseBytesp
section
/- Answers, and bytes, that came in. -/
namespace Go.Proofs.YtmgpbcpggnlkkaaGreatDoor
open Go.ChangeShapes Go.WideShapes Go.ChangeAt Go.RowKit Go.Proofs.YtmgpbcpggnlkkaaGreatDoorW.PrintWords
set_option linter.unusedVariables false
abbrev zResp : Value := .agg #[.int .i64 0, .slice none 0 0, .slice none 0 0]
theorem nums_wf {l : List Int} (h : ∀ y ∈ l, (Lit.int .u8 y).wf = true) : ∃ B : Bs, l = Pr.numsL B := by
  refine ⟨Lib.bytesOf l, (Pr.nums_bytes ?_).symm⟩
  unfold Pr.isBytes
  rw [List.all_eq_true]
  intro y hy
  have := h y hy
  simp [Lit.wf, IntKind.min, IntKind.max, IntKind.signed, IntKind.bits] at this
  simp
  omega
def IsResp (w : World) (v : Value) : Prop := ∃ (st : Int) (A1 : Option Addr) (c1 : Nat) (hs : List SPair) (A2 : Option Addr) (c2 : Nat) (b : Bs), v = .agg #[.int .i64 st, .slice A1 hs.length c1, .slice A2 (Pr.numsL b).length c2] ∧ hs.length ≤ c1 ∧ Kd.C Pr.k51 w A1 hs.length hs ∧ (Pr.numsL b).length ≤ c2 ∧ Kd.C (Kd.int .u8) w A2 (Pr.numsL b).length (Pr.numsL b)
set_option maxRecDepth 10000 in
theorem open_resp {H : Type} {enc : TypeId × Value → H} {w : World} {base b0 : Nat} {held : Bool} {r : Reach} {v : Value} {d : DataW H} {p : List MemPlace} (hv : Value.okWide Tryz.prog w r b0 26 v) (h : DataW.Trod enc Tryz.prog w base (fun _ => true) held 26 v d p) : IsResp w v := by
  obtain ⟨cs, x, rfl, hk, hg⟩ := open_agg (α := Int × (List SPair × List Int)) Tryz.underlying26
    (opens_struct (fun x => x) (fun x => x) (fun _ => rfl) Tryz.underlying26 (by kernel_rfl)
      (opensF_cons rfl (by kernel_rfl) (opens_int Tryz.underlying3) (opensF_cons rfl (by kernel_rfl) (opens_slice 51 Tryz.underlying24 (by kernel_rfl) opens_pairK) (opensF_one rfl (by kernel_rfl) (opens_slice 5 Tryz.underlying22 (by kernel_rfl) (opens_int Tryz.underlying5)))))) hv h
  obtain ⟨st, hs, b⟩ := x
  obtain ⟨c1, c2, rfl, hk1, c3, c4, rfl, hk2, hk3⟩ := hk
  obtain ⟨A1, e1, rfl, h1, h2⟩ := hk2
  obtain ⟨A2, e2, rfl, h3, h4⟩ := hk3
  obtain ⟨_, _, _, hb⟩ := hg
  obtain ⟨B, rfl⟩ := nums_wf hb
  obtain rfl : c1 = [.int .i64 st] := hk1
  exact ⟨st, A1, e1, hs, A2, e2, B, rfl, h1, h2, h3, h4⟩
end Go.Proofs.YtmgpbcpggnlkkaaGreatDoor
end
