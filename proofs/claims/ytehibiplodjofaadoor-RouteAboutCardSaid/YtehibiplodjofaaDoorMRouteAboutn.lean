/- Texts of this proof, put together: H08. -/
import Derived.Test.YtehibiplodjofaaDoorProg
import Derived.Test.YtehibiplodjofaaDoorMRouteAboutc
import Derived.Deep.WholeRow
section
/- SHA-256's tables, the eight bytes of a number. -/
namespace Go.Proofs.YtehibiplodjofaaDoor
open Go.RowKit
set_option linter.unusedVariables false
set_option linter.unusedSimpArgs false
def shaK : List UInt32 := [0x428a2f98, 0x71374491, 0xb5c0fbcf, 0xe9b5dba5, 0x3956c25b, 0x59f111f1, 0x923f82a4, 0xab1c5ed5,
  0xd807aa98, 0x12835b01, 0x243185be, 0x550c7dc3, 0x72be5d74, 0x80deb1fe, 0x9bdc06a7, 0xc19bf174,
  0xe49b69c1, 0xefbe4786, 0x0fc19dc6, 0x240ca1cc, 0x2de92c6f, 0x4a7484aa, 0x5cb0a9dc, 0x76f988da,
  0x983e5152, 0xa831c66d, 0xb00327c8, 0xbf597fc7, 0xc6e00bf3, 0xd5a79147, 0x06ca6351, 0x14292967,
  0x27b70a85, 0x2e1b2138, 0x4d2c6dfc, 0x53380d13, 0x650a7354, 0x766a0abb, 0x81c2c92e, 0x92722c85,
  0xa2bfe8a1, 0xa81a664b, 0xc24b8b70, 0xc76c51a3, 0xd192e819, 0xd6990624, 0xf40e3585, 0x106aa070,
  0x19a4c116, 0x1e376c08, 0x2748774c, 0x34b0bcb5, 0x391c0cb3, 0x4ed8aa4a, 0x5b9cca4f, 0x682e6ff3,
  0x748f82ee, 0x78a5636f, 0x84c87814, 0x8cc70208, 0x90befffa, 0xa4506ceb, 0xbef9a3f7, 0xc67178f2]
def shaKc : Array Value := (shaK.map U).toArray
def sha0 : S8 := ⟨0x6a09e667, 0xbb67ae85, 0x3c6ef372, 0xa54ff53a, 0x510e527f, 0x9b05688c, 0x1f83d9ab, 0x5be0cd19⟩
set_option maxRecDepth 100000 in
set_option maxHeartbeats 4000000 in
theorem constants_any (w : World) : Calls Tryd.prog 62 #[] w fun e w' => e = .returned (.agg shaKc) ∧ Below w.heap.size w w' := by
  have hx : ∀ w : World, (results Tryd.f62 #[.pointer (some ⟨w.heap.size, 0, none⟩), .agg shaKc]).run Tryd.prog (w.alloc (.cells shaKc 106)) = .ok (.agg shaKc) (w.alloc (.cells shaKc 106)) := fun w =>
    results_cell_row (show Tryd.f62.results = #[.cell 0 106] from by kernel_rfl) _ _ w.heap.size 106 shaKc (0, 0) _ rfl (heap_alloc_new w _) Tryd.underlying106 rfl (by kernel_rfl)
  go_enter Tryd.func62, Tryd.ntmps62
  go_wp2_with (first
    | (refine wpList_build rfl 106 _ rfl (by kernel_rfl) ?_
       generalize hk : (Program.built _ _ _).getD #[] = kc
       obtain rfl : kc = shaKc := by rw [← hk]; kernel_rfl
       clear hk)
    | (refine wpList_store_row rfl 106 _ _ rfl w.heap.size shaKc rfl rfl 106 _ (heap_alloc_new _ _) (by kernel_rfl) (by kernel_rfl) (by kernel_rfl) ?_
       rw [World.setRow_alloc_new]))
  refine bodyPost_ret (v := .agg shaKc) (hx w) rfl ⟨rfl, (Below.refl _ w).alloc (Nat.le_refl _) _⟩
end Go.Proofs.YtehibiplodjofaaDoor
end
