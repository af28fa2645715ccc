/- Texts of this proof, put together: Kit. -/
import Derived.Test.YtmgpbcpggnlkkaaGreatDoorProg
import Derived.Test.YtmgpbcpggnlkkaaGreatDoorMResponseBytesc
import Derived.Test.YtmgpbcpggnlkkaaGreatDoorMResponseBytese
import Derived.Test.YtmgpbcpggnlkkaaGreatDoorMResponseBytesf
import Derived.Laws.CopyOwn
import Derived.Deep.RegionHeld3
import Derived.Deep.MidRow
import Derived.BigRegion
import Derived.BigQuiet
section
/- stowagekit: lists of bytes that are lent. -/
namespace Go.Proofs.YtmgpbcpggnlkkaaGreatDoor
open Go.RowKit
set_option linter.unusedVariables false
set_option linter.unusedSimpArgs false
theorem arrB_row {w : World} {B : Nat} {L : List UInt8} {t : TypeId} (h : w.heap[B]? = some (.cells (Lib.byteCells L).toArray t (0, 0))) : ArrB w B (fun j => L.getD j 0) L.length := fun j hj => by
  refine ⟨?_, by unfold World.frozen?; rw [h]; simp⟩
  rw [cell_of_row _ _ j _ _ (0, 0) h]
  simp [Lib.byteCells, hj, UB]
theorem src_string {P : Program} {w : World} {b o c : Nat} {l : List UInt8} (h : Src w (.slice (some ⟨b, o, none⟩) l.length c) (Lib.byteCells l)) (src dst e : TypeId) (hs : P.underlying src = some (.slice e)) (he : P.underlying e = some (.int .u8)) (hd : P.underlying dst = some .string) :
    (convert src dst (.slice (some ⟨b, o, none⟩) l.length c)).run P w = .ok (.string ⟨l.toArray⟩) w := by
  refine run_convert_bytes_back w src dst e ⟨b, o, none⟩ c l hs he hd fun j hj => ?_
  rcases h with ⟨_, _, _, _, h⟩ | ⟨b', o', c', hu, _, hc⟩
  · simp [Lib.byteCells] at h
    subst h
    simp at hj
  · injection hu with h1 _ _
    injection h1 with h1
    injection h1 with h1 h2
    subst h1 h2
    have hx := hc j (.int .u8 (l[j].toNat : Int)) (by simp [Lib.byteCells, hj])
    cases j <;> simpa [Addr.add] using hx
end Go.Proofs.YtmgpbcpggnlkkaaGreatDoor
end
