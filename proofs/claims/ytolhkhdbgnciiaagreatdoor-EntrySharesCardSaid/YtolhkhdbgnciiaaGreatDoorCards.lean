/-
  DERIVED. GIVEN WITH THE SEED: THE CARDS: each row of YtolhkhdbgnciiaaGreatDoorRows.lean that lists a variable, with what it lists TIED to the program's text (the seventh form; the later family's looks); each row that meets fmt, with fmt's text TOLD by the authors' own Lean function (tested against real Go, not proved from fmt's source: count such statements apart). THE CARD IS WHAT COUNTS. Prove the row's statement (the work); the ties are given (YtolhkhdbgnciiaaGreatDoorTie.lean); close each card by the builder's one call (the guide's Derived/Test/ToyasCard.lean, 'card_holds'). Laid BY PROGRAM, IN A SANDBOX (cutbox-door.mjs). By AI agents, Wed Nov 11 2026. No macro, syntax, notation, axiom, sorry.
-/
import Derived.Test.YtolhkhdbgnciiaaGreatDoorRows
import GoSem.ClaimSeven
namespace Go.Proofs.YtolhkhdbgnciiaaGreatDoor
namespace Rows

/-- THE TIED CARD OF 'columbariumlaw24.EntryOnce'. -/
def entryOnceCard : Claim7 := { stood := { row := entryOnceRow, standIns := [], harness := (true, "0f3107695fff511d3bc61653d6dc9e1d65516ab92abead704dc5710afb423c3f"), looks := true }, kinds := [], alts := [], laidByText := true, laidKinds := [.data, .widerDeep, .data, .data, .data], laidTests := true, laidLooks := .later }
def EntryOnceCardSaid : Prop := Claim7.holds Tryz.pinned (.plain (OpenSpec.ofChange entryOnceSpec)) entryOnceCard

/-- THE TIED CARD OF 'columbariumlaw24.EntryShares'. -/
def entrySharesCard : Claim7 := { stood := { row := entrySharesRow, standIns := [], harness := (true, "0f3107695fff511d3bc61653d6dc9e1d65516ab92abead704dc5710afb423c3f"), looks := true }, kinds := [], alts := [], laidByText := true, laidKinds := [.data, .widerDeep, .data, .data, .data], laidTests := true, laidLooks := .later }
def EntrySharesCardSaid : Prop := Claim7.holds Tryz.pinned (.plain (OpenSpec.ofChange entrySharesSpec)) entrySharesCard

/-- THE TIED CARD OF 'columbariumlaw24.EntryGone'. -/
def entryGoneCard : Claim7 := { stood := { row := entryGoneRow, standIns := [], harness := (true, "0f3107695fff511d3bc61653d6dc9e1d65516ab92abead704dc5710afb423c3f"), looks := true }, kinds := [], alts := [], laidByText := true, laidKinds := [.data, .widerDeep, .data, .data, .data], laidTests := true, laidLooks := .later }
def EntryGoneCardSaid : Prop := Claim7.holds Tryz.pinned (.plain (OpenSpec.ofChange entryGoneSpec)) entryGoneCard

/-- THE TIED CARD OF 'columbariumlaw24.EntryPlays'. -/
def entryPlaysCard : Claim7 := { stood := { row := entryPlaysRow, standIns := [], harness := (true, "0f3107695fff511d3bc61653d6dc9e1d65516ab92abead704dc5710afb423c3f"), looks := true }, kinds := [], alts := [], laidByText := true, laidKinds := [.data, .widerDeep, .data, .data, .data], laidTests := true, laidLooks := .later }
def EntryPlaysCardSaid : Prop := Claim7.holds Tryz.pinned (.plain (OpenSpec.ofChange entryPlaysSpec)) entryPlaysCard

/-- THE SECOND FORM's CARD OF 'columbariumlaw24.EntryOnce'. -/
def entryOnceUptoCard : Claim7 := { stood := { row := entryOnceUptoRow, standIns := [], harness := (true, "0f3107695fff511d3bc61653d6dc9e1d65516ab92abead704dc5710afb423c3f"), looks := true }, kinds := [], alts := [], laidByText := true, laidKinds := [.data, .widerDeep, .data, .data, .data], laidTests := true, laidLooks := .later }
def EntryOnceUptoCardSaid : Prop := Claim7.holds Tryz.pinned (.plain (OpenSpec.upto entryOnceSpec)) entryOnceUptoCard

/-- THE SECOND FORM's CARD OF 'columbariumlaw24.EntryShares'. -/
def entrySharesUptoCard : Claim7 := { stood := { row := entrySharesUptoRow, standIns := [], harness := (true, "0f3107695fff511d3bc61653d6dc9e1d65516ab92abead704dc5710afb423c3f"), looks := true }, kinds := [], alts := [], laidByText := true, laidKinds := [.data, .widerDeep, .data, .data, .data], laidTests := true, laidLooks := .later }
def EntrySharesUptoCardSaid : Prop := Claim7.holds Tryz.pinned (.plain (OpenSpec.upto entrySharesSpec)) entrySharesUptoCard

/-- THE SECOND FORM's CARD OF 'columbariumlaw24.EntryGone'. -/
def entryGoneUptoCard : Claim7 := { stood := { row := entryGoneUptoRow, standIns := [], harness := (true, "0f3107695fff511d3bc61653d6dc9e1d65516ab92abead704dc5710afb423c3f"), looks := true }, kinds := [], alts := [], laidByText := true, laidKinds := [.data, .widerDeep, .data, .data, .data], laidTests := true, laidLooks := .later }
def EntryGoneUptoCardSaid : Prop := Claim7.holds Tryz.pinned (.plain (OpenSpec.upto entryGoneSpec)) entryGoneUptoCard

/-- THE SECOND FORM's CARD OF 'columbariumlaw24.EntryPlays'. -/
def entryPlaysUptoCard : Claim7 := { stood := { row := entryPlaysUptoRow, standIns := [], harness := (true, "0f3107695fff511d3bc61653d6dc9e1d65516ab92abead704dc5710afb423c3f"), looks := true }, kinds := [], alts := [], laidByText := true, laidKinds := [.data, .widerDeep, .data, .data, .data], laidTests := true, laidLooks := .later }
def EntryPlaysUptoCardSaid : Prop := Claim7.holds Tryz.pinned (.plain (OpenSpec.upto entryPlaysSpec)) entryPlaysUptoCard
end Rows
end Go.Proofs.YtolhkhdbgnciiaaGreatDoor
