/-
  DERIVED. GIVEN WITH THE SEED: THE CARDS: each row of YtehibiplodjofaaDoorRows.lean that lists a variable, with what it lists TIED to the program's text (the seventh form; the later family's looks); each row that meets fmt, with fmt's text TOLD by the authors' own Lean function (tested against real Go, not proved from fmt's source: count such statements apart). THE CARD IS WHAT COUNTS. Prove the row's statement (the work); the ties are given (YtehibiplodjofaaDoorTie.lean); close each card by the builder's one call (the guide's Derived/Test/ToyasCard.lean, 'card_holds'). Laid BY PROGRAM, IN A SANDBOX (cutbox-door.mjs). By AI agents, Wed Nov 11 2026. No macro, syntax, notation, axiom, sorry.
-/
import Derived.Test.YtehibiplodjofaaDoorRows
import GoSem.ClaimSeven
namespace Go.Proofs.YtehibiplodjofaaDoor
namespace Rows

/-- THE TIED CARD OF 'stowagelaw29.RouteKnown'. -/
def routeKnownCard : Claim7 := { stood := { row := routeKnownRow, standIns := [], harness := (true, "9ac8ea4addb33d0de7aa7c306c3cd94cf9d0bdfab7075e4a8b297653cd572af9"), looks := false }, kinds := [], alts := [], laidByText := true, laidKinds := [.data, .pinned], laidTests := true, laidLooks := .later }
def RouteKnownCardSaid : Prop := Claim7.holds Tryd.pinned (.plain (OpenSpec.ofChange routeKnownSpec)) routeKnownCard

/-- THE TIED CARD OF 'stowagelaw29.RouteOne'. -/
def routeOneCard : Claim7 := { stood := { row := routeOneRow, standIns := [], harness := (true, "9ac8ea4addb33d0de7aa7c306c3cd94cf9d0bdfab7075e4a8b297653cd572af9"), looks := false }, kinds := [], alts := [], laidByText := true, laidKinds := [.data, .pinned], laidTests := true, laidLooks := .later }
def RouteOneCardSaid : Prop := Claim7.holds Tryd.pinned (.plain (OpenSpec.ofChange routeOneSpec)) routeOneCard

/-- THE TIED CARD OF 'stowagelaw29.RouteAbout'. -/
def routeAboutCard : Claim7 := { stood := { row := routeAboutRow, standIns := [], harness := (true, "9ac8ea4addb33d0de7aa7c306c3cd94cf9d0bdfab7075e4a8b297653cd572af9"), looks := false }, kinds := [], alts := [], laidByText := true, laidKinds := [.data, .pinned], laidTests := true, laidLooks := .later }
def RouteAboutCardSaid : Prop := Claim7.holds Tryd.pinned (.plain (OpenSpec.ofChange routeAboutSpec)) routeAboutCard

/-- THE SECOND FORM's CARD OF 'stowagelaw29.RouteKnown'. -/
def routeKnownUptoCard : Claim7 := { stood := { row := routeKnownUptoRow, standIns := [], harness := (true, "9ac8ea4addb33d0de7aa7c306c3cd94cf9d0bdfab7075e4a8b297653cd572af9"), looks := false }, kinds := [], alts := [], laidByText := true, laidKinds := [.data, .pinned], laidTests := true, laidLooks := .later }
def RouteKnownUptoCardSaid : Prop := Claim7.holds Tryd.pinned (.plain (OpenSpec.upto routeKnownSpec)) routeKnownUptoCard

/-- THE SECOND FORM's CARD OF 'stowagelaw29.RouteOne'. -/
def routeOneUptoCard : Claim7 := { stood := { row := routeOneUptoRow, standIns := [], harness := (true, "9ac8ea4addb33d0de7aa7c306c3cd94cf9d0bdfab7075e4a8b297653cd572af9"), looks := false }, kinds := [], alts := [], laidByText := true, laidKinds := [.data, .pinned], laidTests := true, laidLooks := .later }
def RouteOneUptoCardSaid : Prop := Claim7.holds Tryd.pinned (.plain (OpenSpec.upto routeOneSpec)) routeOneUptoCard

/-- THE SECOND FORM's CARD OF 'stowagelaw29.RouteAbout'. -/
def routeAboutUptoCard : Claim7 := { stood := { row := routeAboutUptoRow, standIns := [], harness := (true, "9ac8ea4addb33d0de7aa7c306c3cd94cf9d0bdfab7075e4a8b297653cd572af9"), looks := false }, kinds := [], alts := [], laidByText := true, laidKinds := [.data, .pinned], laidTests := true, laidLooks := .later }
def RouteAboutUptoCardSaid : Prop := Claim7.holds Tryd.pinned (.plain (OpenSpec.upto routeAboutSpec)) routeAboutUptoCard
end Rows
end Go.Proofs.YtehibiplodjofaaDoor
