/-
  DERIVED. GIVEN WITH THE SEED: THE CARDS: each row of YtghllbkjghnmhaaGreatDoorRows.lean that lists a variable, with what it lists TIED to the program's text (the seventh form; the later family's looks); each row that meets fmt, with fmt's text TOLD by the authors' own Lean function (tested against real Go, not proved from fmt's source: count such statements apart). THE CARD IS WHAT COUNTS. Prove the row's statement (the work); the ties are given (YtghllbkjghnmhaaGreatDoorTie.lean); close each card by the builder's one call (the guide's Derived/Test/ToyasCard.lean, 'card_holds'). Laid BY PROGRAM, IN A SANDBOX (cutbox-door.mjs). By AI agents, Wed Nov 11 2026. No macro, syntax, notation, axiom, sorry.
-/
import Derived.Test.YtghllbkjghnmhaaGreatDoorRows
import GoSem.ClaimSeven
namespace Go.Proofs.YtghllbkjghnmhaaGreatDoor
namespace Rows

/-- THE TIED CARD OF 'columbariumlaw24.EntryPlays'. -/
def entryPlaysCard : Claim7 := { stood := { row := entryPlaysRow, standIns := [], harness := (true, "619b3cec4117f218164d0e4fc2b05b7028f87086f170c3add705e54d57679376"), looks := true }, kinds := [], alts := [], laidByText := true, laidKinds := [.data, .widerDeep, .data, .data, .data], laidTests := true, laidLooks := .later }
def EntryPlaysCardSaid : Prop := Claim7.holds Tryz.pinned (.plain (OpenSpec.ofChange entryPlaysSpec)) entryPlaysCard

/-- THE TIED CARD OF 'columbariumlaw26.CompactFollows'. -/
def compactFollowsCard : Claim7 := { stood := { row := compactFollowsRow, standIns := [], harness := (true, "619b3cec4117f218164d0e4fc2b05b7028f87086f170c3add705e54d57679376"), looks := true }, kinds := [], alts := [], laidByText := true, laidKinds := [.data, .widerDeep, .data, .data, .data], laidTests := true, laidLooks := .later }
def CompactFollowsCardSaid : Prop := Claim7.holds Tryz.pinned (.plain (OpenSpec.ofChange compactFollowsSpec)) compactFollowsCard

/-- THE SECOND FORM's CARD OF 'columbariumlaw24.EntryPlays'. -/
def entryPlaysUptoCard : Claim7 := { stood := { row := entryPlaysUptoRow, standIns := [], harness := (true, "619b3cec4117f218164d0e4fc2b05b7028f87086f170c3add705e54d57679376"), looks := true }, kinds := [], alts := [], laidByText := true, laidKinds := [.data, .widerDeep, .data, .data, .data], laidTests := true, laidLooks := .later }
def EntryPlaysUptoCardSaid : Prop := Claim7.holds Tryz.pinned (.plain (OpenSpec.upto entryPlaysSpec)) entryPlaysUptoCard

/-- THE SECOND FORM's CARD OF 'columbariumlaw26.CompactFollows'. -/
def compactFollowsUptoCard : Claim7 := { stood := { row := compactFollowsUptoRow, standIns := [], harness := (true, "619b3cec4117f218164d0e4fc2b05b7028f87086f170c3add705e54d57679376"), looks := true }, kinds := [], alts := [], laidByText := true, laidKinds := [.data, .widerDeep, .data, .data, .data], laidTests := true, laidLooks := .later }
def CompactFollowsUptoCardSaid : Prop := Claim7.holds Tryz.pinned (.plain (OpenSpec.upto compactFollowsSpec)) compactFollowsUptoCard
end Rows
end Go.Proofs.YtghllbkjghnmhaaGreatDoor
