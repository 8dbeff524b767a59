/-
  DERIVED. GIVEN WITH THE SEED: THE CARDS: each row of YtcagljjbiodcoaaDoorRows.lean that lists a variable, with what it lists TIED to the program's text (the seventh form; the later family's looks); each row that meets fmt, with fmt's text TOLD by the authors' own Lean function (tested against real Go, not proved from fmt's source: count such statements apart). THE CARD IS WHAT COUNTS. Prove the row's statement (the work); the ties are given (YtcagljjbiodcoaaDoorTie.lean); close each card by the builder's one call (the guide's Derived/Test/ToyasCard.lean, 'card_holds'). Laid BY PROGRAM, IN A SANDBOX (cutbox-door.mjs). By AI agents, Wed Nov 11 2026. No macro, syntax, notation, axiom, sorry.
-/
import Derived.Test.YtcagljjbiodcoaaDoorRows
import GoSem.ClaimSeven
namespace Go.Proofs.YtcagljjbiodcoaaDoor
namespace Rows

/-- THE TIED CARD OF 'columbariumlaw23.ClockTells'. -/
def clockTellsCard : Claim7 := { stood := { row := clockTellsRow, standIns := [], harness := (true, "00264202878bc40094be248139b8b72c148509ed993831a564c8af0bc3a9c46a"), looks := false }, kinds := [], alts := [], laidByText := true, laidKinds := [.data, .widerDeep], laidTests := true, laidLooks := .later }
def ClockTellsCardSaid : Prop := Claim7.holds Tryd.pinned (.plain (OpenSpec.ofChange clockTellsSpec)) clockTellsCard

/-- THE TIED CARD OF 'columbariumlaw23.ClockOver'. -/
def clockOverCard : Claim7 := { stood := { row := clockOverRow, standIns := [], harness := (true, "00264202878bc40094be248139b8b72c148509ed993831a564c8af0bc3a9c46a"), looks := false }, kinds := [], alts := [], laidByText := true, laidKinds := [.data, .widerDeep], laidTests := true, laidLooks := .later }
def ClockOverCardSaid : Prop := Claim7.holds Tryd.pinned (.plain (OpenSpec.ofChange clockOverSpec)) clockOverCard

/-- THE TIED CARD OF 'columbariumlaw23.ClockTicks'. -/
def clockTicksCard : Claim7 := { stood := { row := clockTicksRow, standIns := [], harness := (true, "00264202878bc40094be248139b8b72c148509ed993831a564c8af0bc3a9c46a"), looks := false }, kinds := [], alts := [], laidByText := true, laidKinds := [.data, .widerDeep], laidTests := true, laidLooks := .later }
def ClockTicksCardSaid : Prop := Claim7.holds Tryd.pinned (.plain (OpenSpec.ofChange clockTicksSpec)) clockTicksCard

/-- THE TIED CARD OF 'columbariumlaw13.HeadApart'. -/
def headApartCard : Claim7 := { stood := { row := headApartRow, standIns := [], harness := (true, "00264202878bc40094be248139b8b72c148509ed993831a564c8af0bc3a9c46a"), looks := false }, kinds := [], alts := [], laidByText := true, laidKinds := [.data, .widerDeep, .data, .data, .data, .data], laidTests := true, laidLooks := .later }
def HeadApartCardSaid : Prop := Claim7.holds Tryd.pinned (.plain (OpenSpec.ofChange headApartSpec)) headApartCard

/-- THE TIED CARD OF 'columbariumlaw14.ListsSorted'. -/
def listsSortedCard : Claim7 := { stood := { row := listsSortedRow, standIns := [], harness := (true, "00264202878bc40094be248139b8b72c148509ed993831a564c8af0bc3a9c46a"), looks := false }, kinds := [], alts := [], laidByText := true, laidKinds := [.data, .widerDeep], laidTests := true, laidLooks := .later }
def ListsSortedCardSaid : Prop := Claim7.holds Tryd.pinned (.plain (OpenSpec.ofChange listsSortedSpec)) listsSortedCard

/-- THE TIED CARD OF 'columbariumlaw14.ListsBack'. -/
def listsBackCard : Claim7 := { stood := { row := listsBackRow, standIns := [], harness := (true, "00264202878bc40094be248139b8b72c148509ed993831a564c8af0bc3a9c46a"), looks := false }, kinds := [], alts := [], laidByText := true, laidKinds := [.data, .widerDeep], laidTests := true, laidLooks := .later }
def ListsBackCardSaid : Prop := Claim7.holds Tryd.pinned (.plain (OpenSpec.ofChange listsBackSpec)) listsBackCard

/-- THE TIED CARD OF 'columbariumlaw14.ListsPlays'. -/
def listsPlaysCard : Claim7 := { stood := { row := listsPlaysRow, standIns := [], harness := (true, "00264202878bc40094be248139b8b72c148509ed993831a564c8af0bc3a9c46a"), looks := false }, kinds := [], alts := [], laidByText := true, laidKinds := [.data, .widerDeep], laidTests := true, laidLooks := .later }
def ListsPlaysCardSaid : Prop := Claim7.holds Tryd.pinned (.plain (OpenSpec.ofChange listsPlaysSpec)) listsPlaysCard

/-- THE SECOND FORM's CARD OF 'columbariumlaw23.ClockTells'. -/
def clockTellsUptoCard : Claim7 := { stood := { row := clockTellsUptoRow, standIns := [], harness := (true, "00264202878bc40094be248139b8b72c148509ed993831a564c8af0bc3a9c46a"), looks := false }, kinds := [], alts := [], laidByText := true, laidKinds := [.data, .widerDeep], laidTests := true, laidLooks := .later }
def ClockTellsUptoCardSaid : Prop := Claim7.holds Tryd.pinned (.plain (OpenSpec.upto clockTellsSpec)) clockTellsUptoCard

/-- THE SECOND FORM's CARD OF 'columbariumlaw23.ClockOver'. -/
def clockOverUptoCard : Claim7 := { stood := { row := clockOverUptoRow, standIns := [], harness := (true, "00264202878bc40094be248139b8b72c148509ed993831a564c8af0bc3a9c46a"), looks := false }, kinds := [], alts := [], laidByText := true, laidKinds := [.data, .widerDeep], laidTests := true, laidLooks := .later }
def ClockOverUptoCardSaid : Prop := Claim7.holds Tryd.pinned (.plain (OpenSpec.upto clockOverSpec)) clockOverUptoCard

/-- THE SECOND FORM's CARD OF 'columbariumlaw23.ClockTicks'. -/
def clockTicksUptoCard : Claim7 := { stood := { row := clockTicksUptoRow, standIns := [], harness := (true, "00264202878bc40094be248139b8b72c148509ed993831a564c8af0bc3a9c46a"), looks := false }, kinds := [], alts := [], laidByText := true, laidKinds := [.data, .widerDeep], laidTests := true, laidLooks := .later }
def ClockTicksUptoCardSaid : Prop := Claim7.holds Tryd.pinned (.plain (OpenSpec.upto clockTicksSpec)) clockTicksUptoCard

/-- THE SECOND FORM's CARD OF 'columbariumlaw13.HeadApart'. -/
def headApartUptoCard : Claim7 := { stood := { row := headApartUptoRow, standIns := [], harness := (true, "00264202878bc40094be248139b8b72c148509ed993831a564c8af0bc3a9c46a"), looks := false }, kinds := [], alts := [], laidByText := true, laidKinds := [.data, .widerDeep, .data, .data, .data, .data], laidTests := true, laidLooks := .later }
def HeadApartUptoCardSaid : Prop := Claim7.holds Tryd.pinned (.plain (OpenSpec.upto headApartSpec)) headApartUptoCard

/-- THE SECOND FORM's CARD OF 'columbariumlaw14.ListsSorted'. -/
def listsSortedUptoCard : Claim7 := { stood := { row := listsSortedUptoRow, standIns := [], harness := (true, "00264202878bc40094be248139b8b72c148509ed993831a564c8af0bc3a9c46a"), looks := false }, kinds := [], alts := [], laidByText := true, laidKinds := [.data, .widerDeep], laidTests := true, laidLooks := .later }
def ListsSortedUptoCardSaid : Prop := Claim7.holds Tryd.pinned (.plain (OpenSpec.upto listsSortedSpec)) listsSortedUptoCard

/-- THE SECOND FORM's CARD OF 'columbariumlaw14.ListsBack'. -/
def listsBackUptoCard : Claim7 := { stood := { row := listsBackUptoRow, standIns := [], harness := (true, "00264202878bc40094be248139b8b72c148509ed993831a564c8af0bc3a9c46a"), looks := false }, kinds := [], alts := [], laidByText := true, laidKinds := [.data, .widerDeep], laidTests := true, laidLooks := .later }
def ListsBackUptoCardSaid : Prop := Claim7.holds Tryd.pinned (.plain (OpenSpec.upto listsBackSpec)) listsBackUptoCard

/-- THE SECOND FORM's CARD OF 'columbariumlaw14.ListsPlays'. -/
def listsPlaysUptoCard : Claim7 := { stood := { row := listsPlaysUptoRow, standIns := [], harness := (true, "00264202878bc40094be248139b8b72c148509ed993831a564c8af0bc3a9c46a"), looks := false }, kinds := [], alts := [], laidByText := true, laidKinds := [.data, .widerDeep], laidTests := true, laidLooks := .later }
def ListsPlaysUptoCardSaid : Prop := Claim7.holds Tryd.pinned (.plain (OpenSpec.upto listsPlaysSpec)) listsPlaysUptoCard
end Rows
end Go.Proofs.YtcagljjbiodcoaaDoor
