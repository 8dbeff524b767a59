/-
  DERIVED. GIVEN WITH THE SEED: THE CARDS: each row of YtellbfamofilaaaGreatDoorRows.lean that lists a variable, with what it lists TIED to the program's text (the seventh form; the later family's looks); each row that meets fmt, with fmt's text TOLD by the authors' own Lean function (tested against real Go, not proved from fmt's source: count such statements apart). THE CARD IS WHAT COUNTS. Prove the row's statement (the work); the ties are given (YtellbfamofilaaaGreatDoorTie.lean); close each card by the builder's one call (the guide's Derived/Test/ToyasCard.lean, 'card_holds'). Laid BY PROGRAM, IN A SANDBOX (cutbox-door.mjs). By AI agents, Wed Nov 11 2026. No macro, syntax, notation, axiom, sorry.
-/
import Derived.Test.YtellbfamofilaaaGreatDoorRows
import GoSem.ClaimSeven
namespace Go.Proofs.YtellbfamofilaaaGreatDoor
namespace Rows

/-- THE TIED CARD OF 'columbariumlaw21.NodeHeld'. -/
def nodeHeldCard : Claim7 := { stood := { row := nodeHeldRow, standIns := [], harness := (true, "c40ed4fcfbfe39a1b99ee3f0c59beaee49a2c31054aa0340ec93d134df80ca4e"), looks := true }, kinds := [], alts := [], laidByText := true, laidKinds := [.data, .widerDeep, .data, .data, .data], laidTests := true, laidLooks := .later }
def NodeHeldCardSaid : Prop := Claim7.holds Tryz.pinned (.plain (OpenSpec.ofChange nodeHeldSpec)) nodeHeldCard

/-- THE TIED CARD OF 'columbariumlaw21.NodeShares'. -/
def nodeSharesCard : Claim7 := { stood := { row := nodeSharesRow, standIns := [], harness := (true, "c40ed4fcfbfe39a1b99ee3f0c59beaee49a2c31054aa0340ec93d134df80ca4e"), looks := true }, kinds := [], alts := [], laidByText := true, laidKinds := [.data, .widerDeep, .data, .data, .data], laidTests := true, laidLooks := .later }
def NodeSharesCardSaid : Prop := Claim7.holds Tryz.pinned (.plain (OpenSpec.ofChange nodeSharesSpec)) nodeSharesCard

/-- THE TIED CARD OF 'columbariumlaw22.ChainShares'. -/
def chainSharesCard : Claim7 := { stood := { row := chainSharesRow, standIns := [], harness := (true, "c40ed4fcfbfe39a1b99ee3f0c59beaee49a2c31054aa0340ec93d134df80ca4e"), looks := true }, kinds := [], alts := [], laidByText := true, laidKinds := [.data, .widerDeep, .data, .data, .data], laidTests := true, laidLooks := .later }
def ChainSharesCardSaid : Prop := Claim7.holds Tryz.pinned (.plain (OpenSpec.ofChange chainSharesSpec)) chainSharesCard

/-- THE TIED CARD OF 'columbariumlaw22.ChainNames'. -/
def chainNamesCard : Claim7 := { stood := { row := chainNamesRow, standIns := [], harness := (true, "c40ed4fcfbfe39a1b99ee3f0c59beaee49a2c31054aa0340ec93d134df80ca4e"), looks := true }, kinds := [], alts := [], laidByText := true, laidKinds := [.data, .widerDeep, .data, .data, .data], laidTests := true, laidLooks := .later }
def ChainNamesCardSaid : Prop := Claim7.holds Tryz.pinned (.plain (OpenSpec.ofChange chainNamesSpec)) chainNamesCard

/-- THE TIED CARD OF 'columbariumlaw22.ChainBack'. -/
def chainBackCard : Claim7 := { stood := { row := chainBackRow, standIns := [], harness := (true, "c40ed4fcfbfe39a1b99ee3f0c59beaee49a2c31054aa0340ec93d134df80ca4e"), looks := true }, kinds := [], alts := [], laidByText := true, laidKinds := [.data, .widerDeep, .data, .data, .data], laidTests := true, laidLooks := .later }
def ChainBackCardSaid : Prop := Claim7.holds Tryz.pinned (.plain (OpenSpec.ofChange chainBackSpec)) chainBackCard

/-- THE TIED CARD OF 'columbariumlaw22.ChainPlays'. -/
def chainPlaysCard : Claim7 := { stood := { row := chainPlaysRow, standIns := [], harness := (true, "c40ed4fcfbfe39a1b99ee3f0c59beaee49a2c31054aa0340ec93d134df80ca4e"), looks := true }, kinds := [], alts := [], laidByText := true, laidKinds := [.data, .widerDeep, .data, .data, .data], laidTests := true, laidLooks := .later }
def ChainPlaysCardSaid : Prop := Claim7.holds Tryz.pinned (.plain (OpenSpec.ofChange chainPlaysSpec)) chainPlaysCard

/-- THE SECOND FORM's CARD OF 'columbariumlaw21.NodeHeld'. -/
def nodeHeldUptoCard : Claim7 := { stood := { row := nodeHeldUptoRow, standIns := [], harness := (true, "c40ed4fcfbfe39a1b99ee3f0c59beaee49a2c31054aa0340ec93d134df80ca4e"), looks := true }, kinds := [], alts := [], laidByText := true, laidKinds := [.data, .widerDeep, .data, .data, .data], laidTests := true, laidLooks := .later }
def NodeHeldUptoCardSaid : Prop := Claim7.holds Tryz.pinned (.plain (OpenSpec.upto nodeHeldSpec)) nodeHeldUptoCard

/-- THE SECOND FORM's CARD OF 'columbariumlaw21.NodeShares'. -/
def nodeSharesUptoCard : Claim7 := { stood := { row := nodeSharesUptoRow, standIns := [], harness := (true, "c40ed4fcfbfe39a1b99ee3f0c59beaee49a2c31054aa0340ec93d134df80ca4e"), looks := true }, kinds := [], alts := [], laidByText := true, laidKinds := [.data, .widerDeep, .data, .data, .data], laidTests := true, laidLooks := .later }
def NodeSharesUptoCardSaid : Prop := Claim7.holds Tryz.pinned (.plain (OpenSpec.upto nodeSharesSpec)) nodeSharesUptoCard

/-- THE SECOND FORM's CARD OF 'columbariumlaw22.ChainShares'. -/
def chainSharesUptoCard : Claim7 := { stood := { row := chainSharesUptoRow, standIns := [], harness := (true, "c40ed4fcfbfe39a1b99ee3f0c59beaee49a2c31054aa0340ec93d134df80ca4e"), looks := true }, kinds := [], alts := [], laidByText := true, laidKinds := [.data, .widerDeep, .data, .data, .data], laidTests := true, laidLooks := .later }
def ChainSharesUptoCardSaid : Prop := Claim7.holds Tryz.pinned (.plain (OpenSpec.upto chainSharesSpec)) chainSharesUptoCard

/-- THE SECOND FORM's CARD OF 'columbariumlaw22.ChainNames'. -/
def chainNamesUptoCard : Claim7 := { stood := { row := chainNamesUptoRow, standIns := [], harness := (true, "c40ed4fcfbfe39a1b99ee3f0c59beaee49a2c31054aa0340ec93d134df80ca4e"), looks := true }, kinds := [], alts := [], laidByText := true, laidKinds := [.data, .widerDeep, .data, .data, .data], laidTests := true, laidLooks := .later }
def ChainNamesUptoCardSaid : Prop := Claim7.holds Tryz.pinned (.plain (OpenSpec.upto chainNamesSpec)) chainNamesUptoCard

/-- THE SECOND FORM's CARD OF 'columbariumlaw22.ChainBack'. -/
def chainBackUptoCard : Claim7 := { stood := { row := chainBackUptoRow, standIns := [], harness := (true, "c40ed4fcfbfe39a1b99ee3f0c59beaee49a2c31054aa0340ec93d134df80ca4e"), looks := true }, kinds := [], alts := [], laidByText := true, laidKinds := [.data, .widerDeep, .data, .data, .data], laidTests := true, laidLooks := .later }
def ChainBackUptoCardSaid : Prop := Claim7.holds Tryz.pinned (.plain (OpenSpec.upto chainBackSpec)) chainBackUptoCard

/-- THE SECOND FORM's CARD OF 'columbariumlaw22.ChainPlays'. -/
def chainPlaysUptoCard : Claim7 := { stood := { row := chainPlaysUptoRow, standIns := [], harness := (true, "c40ed4fcfbfe39a1b99ee3f0c59beaee49a2c31054aa0340ec93d134df80ca4e"), looks := true }, kinds := [], alts := [], laidByText := true, laidKinds := [.data, .widerDeep, .data, .data, .data], laidTests := true, laidLooks := .later }
def ChainPlaysUptoCardSaid : Prop := Claim7.holds Tryz.pinned (.plain (OpenSpec.upto chainPlaysSpec)) chainPlaysUptoCard
end Rows
end Go.Proofs.YtellbfamofilaaaGreatDoor
