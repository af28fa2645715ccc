/- Texts of this proof, put together: Pr20, Hq20. -/
import Derived.Test.YtdaokkajbooiaaaProg
import Derived.Test.YtdaokkajbooiaaaMTopTokensr
import Derived.RegionTactic
import Derived.Test.YtdaokkajbooiaaaMTopTokensp
section
/- Listing: the reference's 'page'. -/
namespace Go.Proofs.Ytdaokkajbooiaaa
open Go.RowKit Go.Proofs.YtdaokkajbooiaaaW.PrintWords
set_option linter.unusedVariables false
set_option linter.unusedSimpArgs false
def cutM (most : Nat) (li : List Itm) : Bool := decide (most < li.length)
def cutNext (most : Nat) (li : List Itm) : Bs := if cutM most li then (li.getD (most - 1) itm0).name else []
def cutVer (vers : Bool) (most : Nat) (li : List Itm) : Bs := if cutM most li && vers && !(li.getD (most - 1) itm0).common then (li.getD (most - 1) itm0).v.id else []
end Go.Proofs.Ytdaokkajbooiaaa
end
section
/- stowageref20.Keys and Versions, by hand, in the print's form. -/
namespace Go.Proofs.Ytdaokkajbooiaaa.Pr
open Go.RowKit Go.Proofs.YtdaokkajbooiaaaW.PrintWords Go.Proofs.YtdaokkajbooiaaaW.PrintLast Go.Proofs.YtdaokkajbooiaaaW.PrintMore
set_option linter.unusedVariables false
set_option linter.unusedSimpArgs false
def itmL (x : SI) : Itm := ⟨x.f0.data.toList, x.f1, verL x.f2, x.f3⟩
def cutOut (vers : Bool) (m : Nat) (q : List Itm) : List SI × Bool × ByteArray × ByteArray × Int := ((q.take m).map itmS, cutM m q, BA (cutNext m q), BA (cutVer vers m q), 0)
def stowageref20_Keys.f (k : Nat) (l : List SE) (p d after : ByteArray) (most : Int) : Option (List SI × Bool × ByteArray × ByteArray × Int) :=
  (stowageref20_wrong.f k l [p, d, after] most).bind fun e => if e = 0 then (stowageref20_Listed.f k l p d false).bind fun li => (if li.length ≤ 1000000 ∧ 1 ≤ most ∧ most ≤ 1000 then some (cutOut false most.toNat (behindR after.data.toList (⟨#[]⟩ : ByteArray).data.toList false (li.map itmL))) else none) else some ([], false, ⟨#[]⟩, ⟨#[]⟩, e)
theorem stowageref20_Keys.mono : ∀ a0 a1 a2 a3 a4 k, LeO (stowageref20_Keys.f k a0 a1 a2 a3 a4) (stowageref20_Keys.f (k + 1) a0 a1 a2 a3 a4) := fun _ _ _ _ _ k =>
  LeO.bind (stowageref20_wrong.mono _ _ _ _) (fun _ => LeO.ite (LeO.bind (stowageref20_Listed.mono _ _ _ _ _) (fun _ => LeO.refl _)) (LeO.refl _))
def stowageref20_Versions.f (k : Nat) (l : List SE) (p d after version : ByteArray) (most : Int) : Option (List SI × Bool × ByteArray × ByteArray × Int) :=
  (stowageref20_wrong.f k l [p, d, after, version] most).bind fun e => if e = 0 then (stowageref20_Listed.f k l p d true).bind fun li => (if li.length ≤ 1000000 ∧ 1 ≤ most ∧ most ≤ 1000 then some (cutOut true most.toNat (behindR after.data.toList version.data.toList false (li.map itmL))) else none) else some ([], false, ⟨#[]⟩, ⟨#[]⟩, e)
theorem stowageref20_Versions.mono : ∀ a0 a1 a2 a3 a4 a5 k, LeO (stowageref20_Versions.f k a0 a1 a2 a3 a4 a5) (stowageref20_Versions.f (k + 1) a0 a1 a2 a3 a4 a5) := fun _ _ _ _ _ _ k =>
  LeO.bind (stowageref20_wrong.mono _ _ _ _) (fun _ => LeO.ite (LeO.bind (stowageref20_Listed.mono _ _ _ _ _) (fun _ => LeO.refl _)) (LeO.refl _))
end Go.Proofs.Ytdaokkajbooiaaa.Pr
end
