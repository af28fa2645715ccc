/- Texts of this proof, put together: Ws20. -/
import Derived.Test.YtahkcfhiecfgeaaMTopSteadyq
import Derived.Test.YtahkcfhiecfgeaaMTopSteadyg
section
/- TopSteady: the walk, over lists of entries that came in. -/
namespace Go.Proofs.Ytahkcfhiecfgeaa
open Go.ChangeShapes Go.WideShapes Go.ChangeAt Go.RowKit Go.Proofs.YtahkcfhiecfgeaaW.PrintWords
set_option linter.unusedVariables false
def IsLists (w : World) (v : Value) : Prop := ∃ (A : Option Addr) (c : Nat) (l : List (List Pr.S47)), v = .slice A l.length c ∧ l.length ≤ c ∧ Kd.C (Kd.slice 47 Pr.k47) w A l.length l
theorem open_lists {H : Type} {enc : TypeId × Value → H} {w : World} {base b0 : Nat} {held : Bool} {r : Reach} {v : Value} {d : DataW H} {p : List MemPlace} (hv : Value.okWide Try.prog w r b0 53 v) (h : DataW.Trod enc Try.prog w base (fun _ => true) held 53 v d p) : IsLists w v := by
  obtain ⟨G, hG⟩ := opens_entK (enc := enc) (w := w) (base := base) (spare := fun _ => true) (held := held)
  obtain ⟨A, c, xs, h1, h2, h3, _, _⟩ := open_row Try.underlying53 (by kernel_rfl) (opens_slice 47 Try.underlying22 (by kernel_rfl) hG) hv h
  exact ⟨A, c, xs, h1, h2, h3⟩
theorem steady_walk (v : Value) (a1 : ByteArray) (a2 : Int) (w : World) (h : IsLists w v) (hMax : ∃ m, w.cell? ⟨0, 0, none⟩ = some (.int .i64 m)) : Calls Try.prog 7 #[v, .string a1, .int .i64 a2] w fun e w' => e = .returned (.bool true) ∧ Below w.heap.size w w' := by
  obtain ⟨A, c, l, rfl, hc, hr⟩ := h
  exact Pr.stowagetop_TopSteady.calls 1000000 A c l a1 a2 true w hMax hr hc (steady_f 1000000 (Nat.le_refl _) l a1 a2)
end Go.Proofs.Ytahkcfhiecfgeaa
end
