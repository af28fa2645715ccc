/-
  DERIVED. GIVEN WITH THE SEED: THE CARDS: each row of YtmgpbcpggnlkkaaDoorRows.lean that lists a variable, with what it lists TIED to the program's text (the seventh form; the later family's looks); each row that meets fmt, with fmt's text TOLD by the authors' own Lean function (tested against real Go, not proved from fmt's source: count such statements apart). THE CARD IS WHAT COUNTS. Prove the row's statement (the work); the ties are given (YtmgpbcpggnlkkaaDoorTie.lean); close each card by the builder's one call (the guide's Derived/Test/ToyasCard.lean, 'card_holds'). Laid BY PROGRAM, IN A SANDBOX (cutbox-door.mjs). By AI agents, Wed Nov 11 2026. No macro, syntax, notation, axiom, sorry.
-/
import Derived.Test.YtmgpbcpggnlkkaaDoorRows
import GoSem.ClaimSeven
namespace Go.Proofs.YtmgpbcpggnlkkaaDoor
namespace Rows

/-- THE TIED CARD OF 'stowagelaw27.ResponseKnown'. -/
def responseKnownCard : Claim7 := { stood := { row := responseKnownRow, standIns := [], harness := (true, "f4f66faf1edd82c3c480c716d6e5c9ee6ca2a4c25e6ad2483edf64b6b05ed342"), looks := true }, kinds := [], alts := [], laidByText := true, laidKinds := [.data, .data, .data, .data, .sentinel, .sentinel, .pinned], laidTests := true, laidLooks := .later }
def ResponseKnownCardSaid : Prop := Claim7.holds Tryd.pinned (.plain (OpenSpec.ofChange responseKnownSpec)) responseKnownCard

/-- THE TIED CARD OF 'stowagelaw27.ResponseBack'. -/
def responseBackCard : Claim7 := { stood := { row := responseBackRow, standIns := [], harness := (true, "f4f66faf1edd82c3c480c716d6e5c9ee6ca2a4c25e6ad2483edf64b6b05ed342"), looks := true }, kinds := [], alts := [], laidByText := true, laidKinds := [.data, .data, .data, .data, .sentinel, .sentinel, .pinned], laidTests := true, laidLooks := .later }
def ResponseBackCardSaid : Prop := Claim7.holds Tryd.pinned (.plain (OpenSpec.ofChange responseBackSpec)) responseBackCard

/-- THE SECOND FORM's CARD OF 'stowagelaw27.ResponseKnown'. -/
def responseKnownUptoCard : Claim7 := { stood := { row := responseKnownUptoRow, standIns := [], harness := (true, "f4f66faf1edd82c3c480c716d6e5c9ee6ca2a4c25e6ad2483edf64b6b05ed342"), looks := true }, kinds := [], alts := [], laidByText := true, laidKinds := [.data, .data, .data, .data, .sentinel, .sentinel, .pinned], laidTests := true, laidLooks := .later }
def ResponseKnownUptoCardSaid : Prop := Claim7.holds Tryd.pinned (.plain (OpenSpec.upto responseKnownSpec)) responseKnownUptoCard

/-- THE SECOND FORM's CARD OF 'stowagelaw27.ResponseBack'. -/
def responseBackUptoCard : Claim7 := { stood := { row := responseBackUptoRow, standIns := [], harness := (true, "f4f66faf1edd82c3c480c716d6e5c9ee6ca2a4c25e6ad2483edf64b6b05ed342"), looks := true }, kinds := [], alts := [], laidByText := true, laidKinds := [.data, .data, .data, .data, .sentinel, .sentinel, .pinned], laidTests := true, laidLooks := .later }
def ResponseBackUptoCardSaid : Prop := Claim7.holds Tryd.pinned (.plain (OpenSpec.upto responseBackSpec)) responseBackUptoCard
end Rows
end Go.Proofs.YtmgpbcpggnlkkaaDoor
