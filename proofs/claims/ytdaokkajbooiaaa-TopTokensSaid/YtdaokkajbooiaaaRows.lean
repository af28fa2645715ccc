/-
  No cell of these rows narrows 'for every input' (looked for: loops, veiled, ifaces, maps, wideKeys, modest, calm, conditions, laid).
  DERIVED. THE GIVEN ROWS OF THIS SEAT. 6 by the template 'for every input the law returns true; each argument reads behind the call as it read before'; 0 by the template 'total and deterministic' (their statements: YtdaokkajbooiaaaTotals.lean).
  GIVEN WITH THE SEED: the statements are not yours to turn. If you find one false, say at which input.
  Laid BY PROGRAM, IN A SANDBOX (cutbox-rows.mjs): the forced cells as the released guide's own fill.sh prints them over the translation 7e7fa068b7279376… (all of the seat's roots in one cut). By AI agents, Wed Nov 11 2026. No macro, syntax, notation, axiom, sorry.
-/
import Derived.Test.YtdaokkajbooiaaaChecked
import GoSem.Claim
import GoSem.ClaimJoined
import GoSem.ClaimMapViews
import Derived.JoinedTies
import Derived.KernelRfl
namespace Go.Proofs.Ytdaokkajbooiaaa
/- THE CELL 'sum', in the pinned program and in every row, IS THE sha256 OF THE DUMP (.gsa) THAT YtdaokkajbooiaaaProg.lean LOADS. Nothing in Lean hashes anything: it is a label: what it is worth is what the hold of that sum in a sandbox is worth. -/
noncomputable def Try.pinned : Pinned := { name := "ytdaokkajbooiaaa", sum := "7e7fa068b7279376e04df40f3a9354f9c53f88b3c6d99cc362dd2d83799d1f7e", checked := Try.checked }
namespace Rows
def none {H : Type} : Left H := { results := [], args := [] }

/-- 'stowagelaw20.ListingTells': WHATEVER THE INPUT: true; the input reads as it did. -/
def listingTellsSpec : ChangeSpec := { name := "listingTells", fn := fun _ => fun
  | [d1, d2, d3, d4, d5, d6] => { results := [.lit (.bool true)], args := [d1, d2, d3, d4, d5, d6] }
  | _ => none }
def listingTellsRow : OpenClaim := { program := "ytdaokkajbooiaaa", sum := "7e7fa068b7279376e04df40f3a9354f9c53f88b3c6d99cc362dd2d83799d1f7e", func := "stowage/stowagelaw20.ListingTells", spec := "listingTells", inPlace := ["internal/bytealg.IndexByteString", "internal/bytealg.IndexString"], unfollowed := true, recurses := true, named := ["internal/bytealg.MaxLen"], apart := false }
def ListingTellsSaid : Prop := listingTellsRow.holds Try.pinned (OpenSpec.ofChange listingTellsSpec)

/-- ITS FALSE NEIGHBOUR: 'it returns false'. Refute it at one input. -/
def listingTellsWrong : ChangeSpec := { name := "listingTells", fn := fun _ => fun
  | [d1, d2, d3, d4, d5, d6] => { results := [.lit (.bool false)], args := [d1, d2, d3, d4, d5, d6] }
  | _ => none }
def ListingTellsWrongFalsely : Prop := listingTellsRow.holds Try.pinned (OpenSpec.ofChange listingTellsWrong)

/-- 'stowagelaw20.ListingKnown': WHATEVER THE INPUT: true; the input reads as it did. -/
def listingKnownSpec : ChangeSpec := { name := "listingKnown", fn := fun _ => fun
  | [] => { results := [.lit (.bool true)], args := [] }
  | _ => none }
def listingKnownRow : OpenClaim := { program := "ytdaokkajbooiaaa", sum := "7e7fa068b7279376e04df40f3a9354f9c53f88b3c6d99cc362dd2d83799d1f7e", func := "stowage/stowagelaw20.ListingKnown", spec := "listingKnown", inPlace := ["internal/bytealg.IndexByteString", "internal/bytealg.IndexString"], unfollowed := true, recurses := true, named := ["internal/bytealg.MaxLen"], apart := false }
def ListingKnownSaid : Prop := listingKnownRow.holds Try.pinned (OpenSpec.ofChange listingKnownSpec)

/-- ITS FALSE NEIGHBOUR: 'it returns false'. Refute it at one input. -/
def listingKnownWrong : ChangeSpec := { name := "listingKnown", fn := fun _ => fun
  | [] => { results := [.lit (.bool false)], args := [] }
  | _ => none }
def ListingKnownWrongFalsely : Prop := listingKnownRow.holds Try.pinned (OpenSpec.ofChange listingKnownWrong)

/-- 'stowagelaw20.ListingPages': WHATEVER THE INPUT: true; the input reads as it did. -/
def listingPagesSpec : ChangeSpec := { name := "listingPages", fn := fun _ => fun
  | [d1, d2, d3, d4] => { results := [.lit (.bool true)], args := [d1, d2, d3, d4] }
  | _ => none }
def listingPagesRow : OpenClaim := { program := "ytdaokkajbooiaaa", sum := "7e7fa068b7279376e04df40f3a9354f9c53f88b3c6d99cc362dd2d83799d1f7e", func := "stowage/stowagelaw20.ListingPages", spec := "listingPages", inPlace := ["internal/bytealg.IndexByteString", "internal/bytealg.IndexString"], unfollowed := true, recurses := true, named := ["internal/bytealg.MaxLen"], apart := false }
def ListingPagesSaid : Prop := listingPagesRow.holds Try.pinned (OpenSpec.ofChange listingPagesSpec)

/-- ITS FALSE NEIGHBOUR: 'it returns false'. Refute it at one input. -/
def listingPagesWrong : ChangeSpec := { name := "listingPages", fn := fun _ => fun
  | [d1, d2, d3, d4] => { results := [.lit (.bool false)], args := [d1, d2, d3, d4] }
  | _ => none }
def ListingPagesWrongFalsely : Prop := listingPagesRow.holds Try.pinned (OpenSpec.ofChange listingPagesWrong)

/-- 'stowagelaw20.ListingWhole': WHATEVER THE INPUT: true; the input reads as it did. -/
def listingWholeSpec : ChangeSpec := { name := "listingWhole", fn := fun _ => fun
  | [d1, d2, d3] => { results := [.lit (.bool true)], args := [d1, d2, d3] }
  | _ => none }
def listingWholeRow : OpenClaim := { program := "ytdaokkajbooiaaa", sum := "7e7fa068b7279376e04df40f3a9354f9c53f88b3c6d99cc362dd2d83799d1f7e", func := "stowage/stowagelaw20.ListingWhole", spec := "listingWhole", inPlace := ["internal/bytealg.IndexByteString", "internal/bytealg.IndexString"], unfollowed := true, recurses := true, named := ["internal/bytealg.MaxLen"], apart := false }
def ListingWholeSaid : Prop := listingWholeRow.holds Try.pinned (OpenSpec.ofChange listingWholeSpec)

/-- ITS FALSE NEIGHBOUR: 'it returns false'. Refute it at one input. -/
def listingWholeWrong : ChangeSpec := { name := "listingWhole", fn := fun _ => fun
  | [d1, d2, d3] => { results := [.lit (.bool false)], args := [d1, d2, d3] }
  | _ => none }
def ListingWholeWrongFalsely : Prop := listingWholeRow.holds Try.pinned (OpenSpec.ofChange listingWholeWrong)

/-- 'stowagelaw21.TokenTells': WHATEVER THE INPUT: true; the input reads as it did. -/
def tokenTellsSpec : ChangeSpec := { name := "tokenTells", fn := fun _ => fun
  | [d1, d2, d3] => { results := [.lit (.bool true)], args := [d1, d2, d3] }
  | _ => none }
def tokenTellsRow : OpenClaim := { program := "ytdaokkajbooiaaa", sum := "7e7fa068b7279376e04df40f3a9354f9c53f88b3c6d99cc362dd2d83799d1f7e", func := "stowage/stowagelaw21.TokenTells", spec := "tokenTells", inPlace := ["internal/abi.NoEscape", "internal/bytealg.IndexByteString", "internal/bytealg.IndexString"], unfollowed := true, recurses := true, named := ["internal/bytealg.MaxLen"], apart := false }
def TokenTellsSaid : Prop := tokenTellsRow.holds Try.pinned (OpenSpec.ofChange tokenTellsSpec)

/-- ITS FALSE NEIGHBOUR: 'it returns false'. Refute it at one input. -/
def tokenTellsWrong : ChangeSpec := { name := "tokenTells", fn := fun _ => fun
  | [d1, d2, d3] => { results := [.lit (.bool false)], args := [d1, d2, d3] }
  | _ => none }
def TokenTellsWrongFalsely : Prop := tokenTellsRow.holds Try.pinned (OpenSpec.ofChange tokenTellsWrong)

/-- 'stowagetop.TopTokens': WHATEVER THE INPUT: true; the input reads as it did. -/
def topTokensSpec : ChangeSpec := { name := "topTokens", fn := fun _ => fun
  | [d1, d2, d3, d4] => { results := [.lit (.bool true)], args := [d1, d2, d3, d4] }
  | _ => none }
def topTokensRow : OpenClaim := { program := "ytdaokkajbooiaaa", sum := "7e7fa068b7279376e04df40f3a9354f9c53f88b3c6d99cc362dd2d83799d1f7e", func := "stowage/stowagetop.TopTokens", spec := "topTokens", inPlace := ["internal/abi.NoEscape", "internal/bytealg.IndexByteString", "internal/bytealg.IndexString"], unfollowed := true, recurses := true, named := ["internal/bytealg.MaxLen"], apart := false }
def TopTokensSaid : Prop := topTokensRow.holds Try.pinned (OpenSpec.ofChange topTokensSpec)

/-- ITS FALSE NEIGHBOUR: 'it returns false'. Refute it at one input. -/
def topTokensWrong : ChangeSpec := { name := "topTokens", fn := fun _ => fun
  | [d1, d2, d3, d4] => { results := [.lit (.bool false)], args := [d1, d2, d3, d4] }
  | _ => none }
def TopTokensWrongFalsely : Prop := topTokensRow.holds Try.pinned (OpenSpec.ofChange topTokensWrong)

/- THE SECOND FORM. 'bulk': how many values and letters a reading holds, each counted each time it is reached (what is shared counts as often as it is met; a slice's spare places count too). A statement '..UptoSaid' is the law's where the arguments, and the package variables that the reading takes, are together of bulk at most 1048576: NARROWER than '..Said'. Prove '..Said' where nothing that the law and all that it calls make is longer than what came in: it says more and counts as full. Else prove '..UptoSaid'. A law counts once. -/
mutual
def uptoBulk {H : Type} : DataW H → Nat
  | .lit (.string bytes) => bytes.length + 1
  | .lit _ => 1
  | .nil => 1
  | .ptr d => uptoBulk d + 1
  | .slice elems spare => uptoBulkAll elems + uptoBulkAll spare + 1
  | .agg parts => uptoBulkAll parts + 1
  | .iface _ d => uptoBulk d + 1
  | .map entries => uptoBulkEntries entries + 1
  | .held _ => 1
def uptoBulkAll {H : Type} : List (DataW H) → Nat
  | [] => 0
  | d :: r => uptoBulk d + uptoBulkAll r
def uptoBulkEntries {H : Type} : List (Lit × DataW H) → Nat
  | [] => 0
  | x :: r => uptoBulkEntry x + uptoBulkEntries r
def uptoBulkEntry {H : Type} : Lit × DataW H → Nat
  | (.string bytes, d) => bytes.length + uptoBulk d + 1
  | (_, d) => uptoBulk d + 1
 end
def uptoSmall : (H : Type) → List (DataW H) → Bool := fun _ ds => decide (uptoBulkAll ds ≤ 1048576)
def OpenSpec.upto (s : _root_.Go.ChangeSpec) : _root_.Go.OpenSpec := { _root_.Go.OpenSpec.ofChange s with cond := some uptoSmall }

/-- 'stowagelaw20.ListingTells', WHERE WHAT IT READS IS OF BULK AT MOST 1048576: true; the input reads as it did. -/
def listingTellsUptoRow : OpenClaim := { program := "ytdaokkajbooiaaa", sum := "7e7fa068b7279376e04df40f3a9354f9c53f88b3c6d99cc362dd2d83799d1f7e", func := "stowage/stowagelaw20.ListingTells", spec := "listingTells", inPlace := ["internal/bytealg.IndexByteString", "internal/bytealg.IndexString"], unfollowed := true, recurses := true, named := ["internal/bytealg.MaxLen"], apart := false, narrowed := true }
def ListingTellsUptoSaid : Prop := listingTellsUptoRow.holds Try.pinned (OpenSpec.upto listingTellsSpec)

/-- 'stowagelaw20.ListingKnown', WHERE WHAT IT READS IS OF BULK AT MOST 1048576: true; the input reads as it did. -/
def listingKnownUptoRow : OpenClaim := { program := "ytdaokkajbooiaaa", sum := "7e7fa068b7279376e04df40f3a9354f9c53f88b3c6d99cc362dd2d83799d1f7e", func := "stowage/stowagelaw20.ListingKnown", spec := "listingKnown", inPlace := ["internal/bytealg.IndexByteString", "internal/bytealg.IndexString"], unfollowed := true, recurses := true, named := ["internal/bytealg.MaxLen"], apart := false, narrowed := true }
def ListingKnownUptoSaid : Prop := listingKnownUptoRow.holds Try.pinned (OpenSpec.upto listingKnownSpec)

/-- 'stowagelaw20.ListingPages', WHERE WHAT IT READS IS OF BULK AT MOST 1048576: true; the input reads as it did. -/
def listingPagesUptoRow : OpenClaim := { program := "ytdaokkajbooiaaa", sum := "7e7fa068b7279376e04df40f3a9354f9c53f88b3c6d99cc362dd2d83799d1f7e", func := "stowage/stowagelaw20.ListingPages", spec := "listingPages", inPlace := ["internal/bytealg.IndexByteString", "internal/bytealg.IndexString"], unfollowed := true, recurses := true, named := ["internal/bytealg.MaxLen"], apart := false, narrowed := true }
def ListingPagesUptoSaid : Prop := listingPagesUptoRow.holds Try.pinned (OpenSpec.upto listingPagesSpec)

/-- 'stowagelaw20.ListingWhole', WHERE WHAT IT READS IS OF BULK AT MOST 1048576: true; the input reads as it did. -/
def listingWholeUptoRow : OpenClaim := { program := "ytdaokkajbooiaaa", sum := "7e7fa068b7279376e04df40f3a9354f9c53f88b3c6d99cc362dd2d83799d1f7e", func := "stowage/stowagelaw20.ListingWhole", spec := "listingWhole", inPlace := ["internal/bytealg.IndexByteString", "internal/bytealg.IndexString"], unfollowed := true, recurses := true, named := ["internal/bytealg.MaxLen"], apart := false, narrowed := true }
def ListingWholeUptoSaid : Prop := listingWholeUptoRow.holds Try.pinned (OpenSpec.upto listingWholeSpec)

/-- 'stowagelaw21.TokenTells', WHERE WHAT IT READS IS OF BULK AT MOST 1048576: true; the input reads as it did. -/
def tokenTellsUptoRow : OpenClaim := { program := "ytdaokkajbooiaaa", sum := "7e7fa068b7279376e04df40f3a9354f9c53f88b3c6d99cc362dd2d83799d1f7e", func := "stowage/stowagelaw21.TokenTells", spec := "tokenTells", inPlace := ["internal/abi.NoEscape", "internal/bytealg.IndexByteString", "internal/bytealg.IndexString"], unfollowed := true, recurses := true, named := ["internal/bytealg.MaxLen"], apart := false, narrowed := true }
def TokenTellsUptoSaid : Prop := tokenTellsUptoRow.holds Try.pinned (OpenSpec.upto tokenTellsSpec)

/-- 'stowagetop.TopTokens', WHERE WHAT IT READS IS OF BULK AT MOST 1048576: true; the input reads as it did. -/
def topTokensUptoRow : OpenClaim := { program := "ytdaokkajbooiaaa", sum := "7e7fa068b7279376e04df40f3a9354f9c53f88b3c6d99cc362dd2d83799d1f7e", func := "stowage/stowagetop.TopTokens", spec := "topTokens", inPlace := ["internal/abi.NoEscape", "internal/bytealg.IndexByteString", "internal/bytealg.IndexString"], unfollowed := true, recurses := true, named := ["internal/bytealg.MaxLen"], apart := false, narrowed := true }
def TopTokensUptoSaid : Prop := topTokensUptoRow.holds Try.pinned (OpenSpec.upto topTokensSpec)

end Rows
end Go.Proofs.Ytdaokkajbooiaaa
