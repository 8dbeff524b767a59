/-
  DERIVED. GIVEN WITH THE SEED: THE CARDS: each row of YtmemoopkgjgmiaaGreatDoorRows.lean that lists a variable, with what it lists TIED to the program's text (the seventh form; the later family's looks); each row that meets fmt, with fmt's text TOLD by the authors' own Lean function (tested against real Go, not proved from fmt's source: count such statements apart). THE CARD IS WHAT COUNTS. Prove the row's statement (the work); the ties are given (YtmemoopkgjgmiaaGreatDoorTie.lean); close each card by the builder's one call (the guide's Derived/Test/ToyasCard.lean, 'card_holds'). Laid BY PROGRAM, IN A SANDBOX (cutbox-door.mjs). By AI agents, Wed Nov 11 2026. No macro, syntax, notation, axiom, sorry.
-/
import Derived.Test.YtmemoopkgjgmiaaGreatDoorRows
import GoSem.ClaimSeven
namespace Go.Proofs.YtmemoopkgjgmiaaGreatDoor
namespace Rows

/-- THE TIED CARD OF 'columbariumlaw20.IndexPlays'. -/
def indexPlaysCard : Claim7 := { stood := { row := indexPlaysRow, standIns := [], harness := (true, "4cc1806c6cf9f354c6d5eb1ac53c5af01547e4b11168f715a2048ac83dd927f7"), looks := true }, kinds := [], alts := [], laidByText := true, laidKinds := [.data, .widerDeep, .data, .data, .data], laidTests := true, laidLooks := .later }
def IndexPlaysCardSaid : Prop := Claim7.holds Tryz.pinned (.plain (OpenSpec.ofChange indexPlaysSpec)) indexPlaysCard

/-- THE TIED CARD OF 'columbariumlaw16.RegionRuns'. -/
def regionRunsCard : Claim7 := { stood := { row := regionRunsRow, standIns := [], harness := (true, "4cc1806c6cf9f354c6d5eb1ac53c5af01547e4b11168f715a2048ac83dd927f7"), looks := true }, kinds := [], alts := [], laidByText := true, laidKinds := [.data, .handle, .widerDeep, .data, .data, .data], laidTests := true, laidLooks := .later }
def RegionRunsCardSaid : Prop := Claim7.holds Tryz.pinned (.plain (OpenSpec.ofChange regionRunsSpec)) regionRunsCard

/-- THE TIED CARD OF 'columbariumlaw16.RegionRestores'. -/
def regionRestoresCard : Claim7 := { stood := { row := regionRestoresRow, standIns := [], harness := (true, "4cc1806c6cf9f354c6d5eb1ac53c5af01547e4b11168f715a2048ac83dd927f7"), looks := true }, kinds := [], alts := [], laidByText := true, laidKinds := [.data, .handle, .widerDeep, .data, .data, .data], laidTests := true, laidLooks := .later }
def RegionRestoresCardSaid : Prop := Claim7.holds Tryz.pinned (.plain (OpenSpec.ofChange regionRestoresSpec)) regionRestoresCard

/-- THE TIED CARD OF 'columbariumlaw16.RegionAgrees'. -/
def regionAgreesCard : Claim7 := { stood := { row := regionAgreesRow, standIns := [], harness := (true, "4cc1806c6cf9f354c6d5eb1ac53c5af01547e4b11168f715a2048ac83dd927f7"), looks := true }, kinds := [], alts := [], laidByText := true, laidKinds := [.data, .handle, .widerDeep, .data, .data, .data], laidTests := true, laidLooks := .later }
def RegionAgreesCardSaid : Prop := Claim7.holds Tryz.pinned (.plain (OpenSpec.ofChange regionAgreesSpec)) regionAgreesCard

/-- THE TIED CARD OF 'columbariumlaw16.RegionBack'. -/
def regionBackCard : Claim7 := { stood := { row := regionBackRow, standIns := [], harness := (true, "4cc1806c6cf9f354c6d5eb1ac53c5af01547e4b11168f715a2048ac83dd927f7"), looks := true }, kinds := [], alts := [], laidByText := true, laidKinds := [.data, .handle, .widerDeep, .data, .data, .data], laidTests := true, laidLooks := .later }
def RegionBackCardSaid : Prop := Claim7.holds Tryz.pinned (.plain (OpenSpec.ofChange regionBackSpec)) regionBackCard

/-- THE TIED CARD OF 'columbariumlaw21.NodeHeld'. -/
def nodeHeldCard : Claim7 := { stood := { row := nodeHeldRow, standIns := [], harness := (true, "4cc1806c6cf9f354c6d5eb1ac53c5af01547e4b11168f715a2048ac83dd927f7"), looks := true }, kinds := [], alts := [], laidByText := true, laidKinds := [.data, .widerDeep, .data, .data, .data], laidTests := true, laidLooks := .later }
def NodeHeldCardSaid : Prop := Claim7.holds Tryz.pinned (.plain (OpenSpec.ofChange nodeHeldSpec)) nodeHeldCard

/-- THE TIED CARD OF 'columbariumlaw21.NodeShares'. -/
def nodeSharesCard : Claim7 := { stood := { row := nodeSharesRow, standIns := [], harness := (true, "4cc1806c6cf9f354c6d5eb1ac53c5af01547e4b11168f715a2048ac83dd927f7"), looks := true }, kinds := [], alts := [], laidByText := true, laidKinds := [.data, .widerDeep, .data, .data, .data], laidTests := true, laidLooks := .later }
def NodeSharesCardSaid : Prop := Claim7.holds Tryz.pinned (.plain (OpenSpec.ofChange nodeSharesSpec)) nodeSharesCard

/-- THE TIED CARD OF 'columbariumlaw21.NodeGone'. -/
def nodeGoneCard : Claim7 := { stood := { row := nodeGoneRow, standIns := [], harness := (true, "4cc1806c6cf9f354c6d5eb1ac53c5af01547e4b11168f715a2048ac83dd927f7"), looks := true }, kinds := [], alts := [], laidByText := true, laidKinds := [.data, .widerDeep, .data, .data, .data], laidTests := true, laidLooks := .later }
def NodeGoneCardSaid : Prop := Claim7.holds Tryz.pinned (.plain (OpenSpec.ofChange nodeGoneSpec)) nodeGoneCard

/-- THE TIED CARD OF 'columbariumlaw22.ChainShares'. -/
def chainSharesCard : Claim7 := { stood := { row := chainSharesRow, standIns := [], harness := (true, "4cc1806c6cf9f354c6d5eb1ac53c5af01547e4b11168f715a2048ac83dd927f7"), looks := true }, kinds := [], alts := [], laidByText := true, laidKinds := [.data, .widerDeep, .data, .data, .data], laidTests := true, laidLooks := .later }
def ChainSharesCardSaid : Prop := Claim7.holds Tryz.pinned (.plain (OpenSpec.ofChange chainSharesSpec)) chainSharesCard

/-- THE TIED CARD OF 'columbariumlaw22.ChainNames'. -/
def chainNamesCard : Claim7 := { stood := { row := chainNamesRow, standIns := [], harness := (true, "4cc1806c6cf9f354c6d5eb1ac53c5af01547e4b11168f715a2048ac83dd927f7"), looks := true }, kinds := [], alts := [], laidByText := true, laidKinds := [.data, .widerDeep, .data, .data, .data], laidTests := true, laidLooks := .later }
def ChainNamesCardSaid : Prop := Claim7.holds Tryz.pinned (.plain (OpenSpec.ofChange chainNamesSpec)) chainNamesCard

/-- THE TIED CARD OF 'columbariumlaw22.ChainBack'. -/
def chainBackCard : Claim7 := { stood := { row := chainBackRow, standIns := [], harness := (true, "4cc1806c6cf9f354c6d5eb1ac53c5af01547e4b11168f715a2048ac83dd927f7"), looks := true }, kinds := [], alts := [], laidByText := true, laidKinds := [.data, .widerDeep, .data, .data, .data], laidTests := true, laidLooks := .later }
def ChainBackCardSaid : Prop := Claim7.holds Tryz.pinned (.plain (OpenSpec.ofChange chainBackSpec)) chainBackCard

/-- THE TIED CARD OF 'columbariumlaw22.ChainPlays'. -/
def chainPlaysCard : Claim7 := { stood := { row := chainPlaysRow, standIns := [], harness := (true, "4cc1806c6cf9f354c6d5eb1ac53c5af01547e4b11168f715a2048ac83dd927f7"), looks := true }, kinds := [], alts := [], laidByText := true, laidKinds := [.data, .widerDeep, .data, .data, .data], laidTests := true, laidLooks := .later }
def ChainPlaysCardSaid : Prop := Claim7.holds Tryz.pinned (.plain (OpenSpec.ofChange chainPlaysSpec)) chainPlaysCard

/-- THE SECOND FORM's CARD OF 'columbariumlaw20.IndexPlays'. -/
def indexPlaysUptoCard : Claim7 := { stood := { row := indexPlaysUptoRow, standIns := [], harness := (true, "4cc1806c6cf9f354c6d5eb1ac53c5af01547e4b11168f715a2048ac83dd927f7"), looks := true }, kinds := [], alts := [], laidByText := true, laidKinds := [.data, .widerDeep, .data, .data, .data], laidTests := true, laidLooks := .later }
def IndexPlaysUptoCardSaid : Prop := Claim7.holds Tryz.pinned (.plain (OpenSpec.upto indexPlaysSpec)) indexPlaysUptoCard

/-- THE SECOND FORM's CARD OF 'columbariumlaw16.RegionRuns'. -/
def regionRunsUptoCard : Claim7 := { stood := { row := regionRunsUptoRow, standIns := [], harness := (true, "4cc1806c6cf9f354c6d5eb1ac53c5af01547e4b11168f715a2048ac83dd927f7"), looks := true }, kinds := [], alts := [], laidByText := true, laidKinds := [.data, .handle, .widerDeep, .data, .data, .data], laidTests := true, laidLooks := .later }
def RegionRunsUptoCardSaid : Prop := Claim7.holds Tryz.pinned (.plain (OpenSpec.upto regionRunsSpec)) regionRunsUptoCard

/-- THE SECOND FORM's CARD OF 'columbariumlaw16.RegionRestores'. -/
def regionRestoresUptoCard : Claim7 := { stood := { row := regionRestoresUptoRow, standIns := [], harness := (true, "4cc1806c6cf9f354c6d5eb1ac53c5af01547e4b11168f715a2048ac83dd927f7"), looks := true }, kinds := [], alts := [], laidByText := true, laidKinds := [.data, .handle, .widerDeep, .data, .data, .data], laidTests := true, laidLooks := .later }
def RegionRestoresUptoCardSaid : Prop := Claim7.holds Tryz.pinned (.plain (OpenSpec.upto regionRestoresSpec)) regionRestoresUptoCard

/-- THE SECOND FORM's CARD OF 'columbariumlaw16.RegionAgrees'. -/
def regionAgreesUptoCard : Claim7 := { stood := { row := regionAgreesUptoRow, standIns := [], harness := (true, "4cc1806c6cf9f354c6d5eb1ac53c5af01547e4b11168f715a2048ac83dd927f7"), looks := true }, kinds := [], alts := [], laidByText := true, laidKinds := [.data, .handle, .widerDeep, .data, .data, .data], laidTests := true, laidLooks := .later }
def RegionAgreesUptoCardSaid : Prop := Claim7.holds Tryz.pinned (.plain (OpenSpec.upto regionAgreesSpec)) regionAgreesUptoCard

/-- THE SECOND FORM's CARD OF 'columbariumlaw16.RegionBack'. -/
def regionBackUptoCard : Claim7 := { stood := { row := regionBackUptoRow, standIns := [], harness := (true, "4cc1806c6cf9f354c6d5eb1ac53c5af01547e4b11168f715a2048ac83dd927f7"), looks := true }, kinds := [], alts := [], laidByText := true, laidKinds := [.data, .handle, .widerDeep, .data, .data, .data], laidTests := true, laidLooks := .later }
def RegionBackUptoCardSaid : Prop := Claim7.holds Tryz.pinned (.plain (OpenSpec.upto regionBackSpec)) regionBackUptoCard

/-- THE SECOND FORM's CARD OF 'columbariumlaw21.NodeHeld'. -/
def nodeHeldUptoCard : Claim7 := { stood := { row := nodeHeldUptoRow, standIns := [], harness := (true, "4cc1806c6cf9f354c6d5eb1ac53c5af01547e4b11168f715a2048ac83dd927f7"), looks := true }, kinds := [], alts := [], laidByText := true, laidKinds := [.data, .widerDeep, .data, .data, .data], laidTests := true, laidLooks := .later }
def NodeHeldUptoCardSaid : Prop := Claim7.holds Tryz.pinned (.plain (OpenSpec.upto nodeHeldSpec)) nodeHeldUptoCard

/-- THE SECOND FORM's CARD OF 'columbariumlaw21.NodeShares'. -/
def nodeSharesUptoCard : Claim7 := { stood := { row := nodeSharesUptoRow, standIns := [], harness := (true, "4cc1806c6cf9f354c6d5eb1ac53c5af01547e4b11168f715a2048ac83dd927f7"), looks := true }, kinds := [], alts := [], laidByText := true, laidKinds := [.data, .widerDeep, .data, .data, .data], laidTests := true, laidLooks := .later }
def NodeSharesUptoCardSaid : Prop := Claim7.holds Tryz.pinned (.plain (OpenSpec.upto nodeSharesSpec)) nodeSharesUptoCard

/-- THE SECOND FORM's CARD OF 'columbariumlaw21.NodeGone'. -/
def nodeGoneUptoCard : Claim7 := { stood := { row := nodeGoneUptoRow, standIns := [], harness := (true, "4cc1806c6cf9f354c6d5eb1ac53c5af01547e4b11168f715a2048ac83dd927f7"), looks := true }, kinds := [], alts := [], laidByText := true, laidKinds := [.data, .widerDeep, .data, .data, .data], laidTests := true, laidLooks := .later }
def NodeGoneUptoCardSaid : Prop := Claim7.holds Tryz.pinned (.plain (OpenSpec.upto nodeGoneSpec)) nodeGoneUptoCard

/-- THE SECOND FORM's CARD OF 'columbariumlaw22.ChainShares'. -/
def chainSharesUptoCard : Claim7 := { stood := { row := chainSharesUptoRow, standIns := [], harness := (true, "4cc1806c6cf9f354c6d5eb1ac53c5af01547e4b11168f715a2048ac83dd927f7"), looks := true }, kinds := [], alts := [], laidByText := true, laidKinds := [.data, .widerDeep, .data, .data, .data], laidTests := true, laidLooks := .later }
def ChainSharesUptoCardSaid : Prop := Claim7.holds Tryz.pinned (.plain (OpenSpec.upto chainSharesSpec)) chainSharesUptoCard

/-- THE SECOND FORM's CARD OF 'columbariumlaw22.ChainNames'. -/
def chainNamesUptoCard : Claim7 := { stood := { row := chainNamesUptoRow, standIns := [], harness := (true, "4cc1806c6cf9f354c6d5eb1ac53c5af01547e4b11168f715a2048ac83dd927f7"), looks := true }, kinds := [], alts := [], laidByText := true, laidKinds := [.data, .widerDeep, .data, .data, .data], laidTests := true, laidLooks := .later }
def ChainNamesUptoCardSaid : Prop := Claim7.holds Tryz.pinned (.plain (OpenSpec.upto chainNamesSpec)) chainNamesUptoCard

/-- THE SECOND FORM's CARD OF 'columbariumlaw22.ChainBack'. -/
def chainBackUptoCard : Claim7 := { stood := { row := chainBackUptoRow, standIns := [], harness := (true, "4cc1806c6cf9f354c6d5eb1ac53c5af01547e4b11168f715a2048ac83dd927f7"), looks := true }, kinds := [], alts := [], laidByText := true, laidKinds := [.data, .widerDeep, .data, .data, .data], laidTests := true, laidLooks := .later }
def ChainBackUptoCardSaid : Prop := Claim7.holds Tryz.pinned (.plain (OpenSpec.upto chainBackSpec)) chainBackUptoCard

/-- THE SECOND FORM's CARD OF 'columbariumlaw22.ChainPlays'. -/
def chainPlaysUptoCard : Claim7 := { stood := { row := chainPlaysUptoRow, standIns := [], harness := (true, "4cc1806c6cf9f354c6d5eb1ac53c5af01547e4b11168f715a2048ac83dd927f7"), looks := true }, kinds := [], alts := [], laidByText := true, laidKinds := [.data, .widerDeep, .data, .data, .data], laidTests := true, laidLooks := .later }
def ChainPlaysUptoCardSaid : Prop := Claim7.holds Tryz.pinned (.plain (OpenSpec.upto chainPlaysSpec)) chainPlaysUptoCard
end Rows
end Go.Proofs.YtmemoopkgjgmiaaGreatDoor
