/-
  DERIVED. GIVEN WITH THE SEED: THE CARDS: each row of YthnhfbdoielekaaDoorRows.lean that lists a variable, with what it lists TIED to the program's text (the seventh form; the later family's looks); each row that meets fmt, with fmt's text TOLD by the authors' own Lean function (tested against real Go, not proved from fmt's source: count such statements apart). THE CARD IS WHAT COUNTS. Prove the row's statement (the work); the ties are given (YthnhfbdoielekaaDoorTie.lean); close each card by the builder's one call (the guide's Derived/Test/ToyasCard.lean, 'card_holds'). Laid BY PROGRAM, IN A SANDBOX (cutbox-door.mjs). By AI agents, Wed Nov 11 2026. No macro, syntax, notation, axiom, sorry.
-/
import Derived.Test.YthnhfbdoielekaaDoorRows
import GoSem.ClaimSeven
namespace Go.Proofs.YthnhfbdoielekaaDoor
namespace Rows

/-- THE TIED CARD OF 'stowagelaw24.PercentAsks'. -/
def percentAsksCard : Claim7 := { stood := { row := percentAsksRow, standIns := [], harness := (true, "5fb1a6826d45eb2c47970cae81e272c1d39d7366414a7bd77e6f61a05c86b64a"), looks := false }, kinds := [], alts := [], laidByText := true, laidKinds := [.data, .pinned], laidTests := true, laidLooks := .later }
def PercentAsksCardSaid : Prop := Claim7.holds Tryd.pinned (.plain (OpenSpec.ofChange percentAsksSpec)) percentAsksCard

/-- THE TIED CARD OF 'stowagelaw24.PercentKnown'. -/
def percentKnownCard : Claim7 := { stood := { row := percentKnownRow, standIns := [], harness := (true, "5fb1a6826d45eb2c47970cae81e272c1d39d7366414a7bd77e6f61a05c86b64a"), looks := false }, kinds := [], alts := [], laidByText := true, laidKinds := [.data, .pinned], laidTests := true, laidLooks := .later }
def PercentKnownCardSaid : Prop := Claim7.holds Tryd.pinned (.plain (OpenSpec.ofChange percentKnownSpec)) percentKnownCard

/-- THE TIED CARD OF 'stowagelaw24.PercentBack'. -/
def percentBackCard : Claim7 := { stood := { row := percentBackRow, standIns := [], harness := (true, "5fb1a6826d45eb2c47970cae81e272c1d39d7366414a7bd77e6f61a05c86b64a"), looks := false }, kinds := [], alts := [], laidByText := true, laidKinds := [.data, .pinned], laidTests := true, laidLooks := .later }
def PercentBackCardSaid : Prop := Claim7.holds Tryd.pinned (.plain (OpenSpec.ofChange percentBackSpec)) percentBackCard

/-- THE TIED CARD OF 'stowagelaw24.PercentPairs'. -/
def percentPairsCard : Claim7 := { stood := { row := percentPairsRow, standIns := [], harness := (true, "5fb1a6826d45eb2c47970cae81e272c1d39d7366414a7bd77e6f61a05c86b64a"), looks := false }, kinds := [], alts := [], laidByText := true, laidKinds := [.data, .pinned], laidTests := true, laidLooks := .later }
def PercentPairsCardSaid : Prop := Claim7.holds Tryd.pinned (.plain (OpenSpec.ofChange percentPairsSpec)) percentPairsCard

/-- THE SECOND FORM's CARD OF 'stowagelaw24.PercentAsks'. -/
def percentAsksUptoCard : Claim7 := { stood := { row := percentAsksUptoRow, standIns := [], harness := (true, "5fb1a6826d45eb2c47970cae81e272c1d39d7366414a7bd77e6f61a05c86b64a"), looks := false }, kinds := [], alts := [], laidByText := true, laidKinds := [.data, .pinned], laidTests := true, laidLooks := .later }
def PercentAsksUptoCardSaid : Prop := Claim7.holds Tryd.pinned (.plain (OpenSpec.upto percentAsksSpec)) percentAsksUptoCard

/-- THE SECOND FORM's CARD OF 'stowagelaw24.PercentKnown'. -/
def percentKnownUptoCard : Claim7 := { stood := { row := percentKnownUptoRow, standIns := [], harness := (true, "5fb1a6826d45eb2c47970cae81e272c1d39d7366414a7bd77e6f61a05c86b64a"), looks := false }, kinds := [], alts := [], laidByText := true, laidKinds := [.data, .pinned], laidTests := true, laidLooks := .later }
def PercentKnownUptoCardSaid : Prop := Claim7.holds Tryd.pinned (.plain (OpenSpec.upto percentKnownSpec)) percentKnownUptoCard

/-- THE SECOND FORM's CARD OF 'stowagelaw24.PercentBack'. -/
def percentBackUptoCard : Claim7 := { stood := { row := percentBackUptoRow, standIns := [], harness := (true, "5fb1a6826d45eb2c47970cae81e272c1d39d7366414a7bd77e6f61a05c86b64a"), looks := false }, kinds := [], alts := [], laidByText := true, laidKinds := [.data, .pinned], laidTests := true, laidLooks := .later }
def PercentBackUptoCardSaid : Prop := Claim7.holds Tryd.pinned (.plain (OpenSpec.upto percentBackSpec)) percentBackUptoCard

/-- THE SECOND FORM's CARD OF 'stowagelaw24.PercentPairs'. -/
def percentPairsUptoCard : Claim7 := { stood := { row := percentPairsUptoRow, standIns := [], harness := (true, "5fb1a6826d45eb2c47970cae81e272c1d39d7366414a7bd77e6f61a05c86b64a"), looks := false }, kinds := [], alts := [], laidByText := true, laidKinds := [.data, .pinned], laidTests := true, laidLooks := .later }
def PercentPairsUptoCardSaid : Prop := Claim7.holds Tryd.pinned (.plain (OpenSpec.upto percentPairsSpec)) percentPairsUptoCard
end Rows
end Go.Proofs.YthnhfbdoielekaaDoor
