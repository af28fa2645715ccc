/-
  DERIVED. GIVEN WITH THE SEED: THE CARDS: each row of YtmgpbcpggnlkkaaGreatDoorRows.lean that lists a variable, with what it lists TIED to the program's text (the seventh form; the later family's looks); each row that meets fmt, with fmt's text TOLD by the authors' own Lean function (tested against real Go, not proved from fmt's source: count such statements apart). THE CARD IS WHAT COUNTS. Prove the row's statement (the work); the ties are given (YtmgpbcpggnlkkaaGreatDoorTie.lean); close each card by the builder's one call (the guide's Derived/Test/ToyasCard.lean, 'card_holds'). Laid BY PROGRAM, IN A SANDBOX (cutbox-door.mjs). By AI agents, Wed Nov 11 2026. No macro, syntax, notation, axiom, sorry.
-/
import Derived.Test.YtmgpbcpggnlkkaaGreatDoorRows
import GoSem.ClaimSeven
namespace Go.Proofs.YtmgpbcpggnlkkaaGreatDoor
namespace Rows

/-- THE TIED CARD OF 'stowagelaw27.ResponseReads'. -/
def responseReadsCard : Claim7 := { stood := { row := responseReadsRow, standIns := [], harness := (true, "583fc147f38c31355e91a9e77679a1f5012f19c61dcaf0f29fe741c6d8379299"), looks := true }, kinds := [], alts := [], laidByText := true, laidKinds := [.data, .data, .data, .data, .sentinel, .sentinel, .pinned], laidTests := true, laidLooks := .later }
def ResponseReadsCardSaid : Prop := Claim7.holds Tryz.pinned (.plain (OpenSpec.ofChange responseReadsSpec)) responseReadsCard

/-- THE TIED CARD OF 'stowagelaw27.ResponseBytes'. -/
def responseBytesCard : Claim7 := { stood := { row := responseBytesRow, standIns := [], harness := (true, "583fc147f38c31355e91a9e77679a1f5012f19c61dcaf0f29fe741c6d8379299"), looks := true }, kinds := [], alts := [], laidByText := true, laidKinds := [.data, .data, .data, .data, .sentinel, .sentinel, .pinned], laidTests := true, laidLooks := .later }
def ResponseBytesCardSaid : Prop := Claim7.holds Tryz.pinned (.plain (OpenSpec.ofChange responseBytesSpec)) responseBytesCard

/-- THE SECOND FORM's CARD OF 'stowagelaw27.ResponseReads'. -/
def responseReadsUptoCard : Claim7 := { stood := { row := responseReadsUptoRow, standIns := [], harness := (true, "583fc147f38c31355e91a9e77679a1f5012f19c61dcaf0f29fe741c6d8379299"), looks := true }, kinds := [], alts := [], laidByText := true, laidKinds := [.data, .data, .data, .data, .sentinel, .sentinel, .pinned], laidTests := true, laidLooks := .later }
def ResponseReadsUptoCardSaid : Prop := Claim7.holds Tryz.pinned (.plain (OpenSpec.upto responseReadsSpec)) responseReadsUptoCard

/-- THE SECOND FORM's CARD OF 'stowagelaw27.ResponseBytes'. -/
def responseBytesUptoCard : Claim7 := { stood := { row := responseBytesUptoRow, standIns := [], harness := (true, "583fc147f38c31355e91a9e77679a1f5012f19c61dcaf0f29fe741c6d8379299"), looks := true }, kinds := [], alts := [], laidByText := true, laidKinds := [.data, .data, .data, .data, .sentinel, .sentinel, .pinned], laidTests := true, laidLooks := .later }
def ResponseBytesUptoCardSaid : Prop := Claim7.holds Tryz.pinned (.plain (OpenSpec.upto responseBytesSpec)) responseBytesUptoCard
end Rows
end Go.Proofs.YtmgpbcpggnlkkaaGreatDoor
