/- Texts of this proof, put together: Args. -/
import Derived.Test.YtahkcfhiecfgeaaProg
import Derived.Test.YtahkcfhiecfgeaaMTopSteadyi
import Derived.OpenShut
import Derived.ChangeSlices
import Derived.WideShapes
import Derived.ProofKit
section
/- Arguments that came in, opened: lists of bytes, arrays of bytes. -/
namespace Go.Proofs.Ytahkcfhiecfgeaa
open Go.ChangeShapes Go.WideShapes Go.ChangeAt Go.RowKit
set_option linter.unusedVariables false
set_option linter.unusedSimpArgs false
def u8of : Option Value → UInt8
  | some (.int .u8 k) => k.toNat.toUInt8
  | _ => 0
section
variable {H : Type} {enc : TypeId × Value → H} {P : Program} {w : World} {base b0 : Nat} {held : Bool} {r : Reach} {t e : TypeId} {v : Value} {d : DataW H} {p : List MemPlace}
theorem open_bytes (ht : P.underlying t = some (.slice e)) (he : P.underlying e = some (.int .u8)) (hce : P.cellsOf e = 1) (hv : Value.okWide P w r b0 t v) (h : DataW.Trod enc P w base (fun _ => true) held t v d p) : ∃ l : List UInt8, Src w v (Lib.byteCells l) := by
  obtain ⟨a0, len0, cap0, rfl⟩ := okWide_slice ht hv
  obtain ⟨fuel, hf⟩ := h
  rcases open_ints ht he hce hf with ⟨hcs, _⟩ | ⟨x, l, c, zs, hcs, _, hl, hm, hz, _, hcell, hwz⟩
  · simp [Value.cells] at hcs
    obtain ⟨rfl, rfl, rfl⟩ := hcs
    exact ⟨[], .inl ⟨none, 0, rfl, fun _ => rfl, rfl⟩⟩
  · simp [Value.cells] at hcs
    obtain ⟨rfl, rfl, rfl⟩ := hcs
    obtain ⟨l, rfl, h⟩ := src_of_row (.inr ⟨_, rfl, hl, hm, by simpa using hz, hcell, hwz⟩)
    exact ⟨l, h⟩
theorem open_bytesA {n : Nat} (ht : P.underlying t = some (.array n e)) (he : P.underlying e = some (.int .u8)) (hce : P.cellsOf e = 1) (hct : P.cellsOf t = n) (hv : Value.okWide P w r b0 t v) (h : DataW.Trod enc P w base (fun _ => true) held t v d p) : ∃ dl : List UInt8, dl.length = n ∧ v = .agg (Lib.byteCells dl).toArray := by
  simp only [Value.okWide, ht] at hv
  obtain ⟨cs, rfl, hsz, _⟩ := hv
  obtain ⟨fuel, hf⟩ := h
  obtain ⟨xs, m, _, hx, hl, hn, hel⟩ := DataW.trod_array ht hf
  have hcs : cs.size = n := by rw [hsz, hct]
  have hb : ∀ i, i < n → ∃ c : UInt8, cs[i]? = some (.int .u8 (c.toNat : Int)) := fun i hi => by
    have h1 := hel i hi
    rw [hce, Nat.mul_one] at h1
    obtain ⟨y, hy⟩ : ∃ y, xs[i]? = some y := ⟨xs[i]'(by omega), List.getElem?_eq_getElem (by omega)⟩
    rw [hy] at h1
    obtain ⟨k, hk, _, hw⟩ := DataW.trod_int he h1
    have hlt : i < cs.size := by omega
    have hk2 : cs[i]? = some (.int .u8 k) := by
      have h2 : ((Value.agg cs).cells.toList.drop i).take 1 = [cs[i]] := by
        show (cs.toList.drop i).take 1 = [cs[i]]
        rw [List.drop_eq_getElem_cons (by simpa using hlt)]
        simp
      rw [h2] at hk
      injection hk with hk
      rw [Array.getElem?_eq_getElem hlt, hk]
    simp [Lit.wf, IntKind.min, IntKind.max, IntKind.signed, IntKind.bits] at hw
    exact ⟨k.toNat.toUInt8, by rw [hk2]; congr 2; simp; omega⟩
  refine ⟨(List.range n).map fun i => u8of cs[i]?, by simp, ?_⟩
  congr 1
  apply Array.ext
  · simp [Lib.byteCells, hcs]
  · intro i h1 h2
    obtain ⟨c, hc⟩ := hb i (by omega)
    have h3 : cs[i] = .int .u8 (c.toNat : Int) := by rw [Array.getElem?_eq_getElem h1] at hc; injection hc
    rw [h3]
    simp [Lib.byteCells, h3, h1, u8of]
end
end Go.Proofs.Ytahkcfhiecfgeaa
end
