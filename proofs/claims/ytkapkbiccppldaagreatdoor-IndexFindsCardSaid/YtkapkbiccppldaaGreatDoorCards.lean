/-
  DERIVED. GIVEN WITH THE SEED: THE CARDS: each row of YtkapkbiccppldaaGreatDoorRows.lean that lists a variable, with what it lists TIED to the program's text (the seventh form; the later family's looks); each row that meets fmt, with fmt's text TOLD by the authors' own Lean function (tested against real Go, not proved from fmt's source: count such statements apart). THE CARD IS WHAT COUNTS. Prove the row's statement (the work); the ties are given (YtkapkbiccppldaaGreatDoorTie.lean); close each card by the builder's one call (the guide's Derived/Test/ToyasCard.lean, 'card_holds'). Laid BY PROGRAM, IN A SANDBOX (cutbox-door.mjs). By AI agents, Wed Nov 11 2026. No macro, syntax, notation, axiom, sorry.
-/
import Derived.Test.YtkapkbiccppldaaGreatDoorRows
import GoSem.ClaimSeven
namespace Go.Proofs.YtkapkbiccppldaaGreatDoor
namespace Rows

/-- THE TIED CARD OF 'columbariumlaw15.SlabBlocks'. -/
def slabBlocksCard : Claim7 := { stood := { row := slabBlocksRow, standIns := [], harness := (true, "0ccafe196cc1747ee087a7eadb183d06cce4d5f351445ab3427afae79d1f992a"), looks := false }, kinds := [], alts := [], laidByText := true, laidKinds := [.data, .widerDeep, .data, .data, .data], laidTests := true, laidLooks := .later }
def SlabBlocksCardSaid : Prop := Claim7.holds Tryz.pinned (.plain (OpenSpec.ofChange slabBlocksSpec)) slabBlocksCard

/-- THE TIED CARD OF 'columbariumlaw15.SlabOnce'. -/
def slabOnceCard : Claim7 := { stood := { row := slabOnceRow, standIns := [], harness := (true, "0ccafe196cc1747ee087a7eadb183d06cce4d5f351445ab3427afae79d1f992a"), looks := false }, kinds := [], alts := [], laidByText := true, laidKinds := [.data, .widerDeep, .data, .data, .data], laidTests := true, laidLooks := .later }
def SlabOnceCardSaid : Prop := Claim7.holds Tryz.pinned (.plain (OpenSpec.ofChange slabOnceSpec)) slabOnceCard

/-- THE TIED CARD OF 'columbariumlaw15.SlabBack'. -/
def slabBackCard : Claim7 := { stood := { row := slabBackRow, standIns := [], harness := (true, "0ccafe196cc1747ee087a7eadb183d06cce4d5f351445ab3427afae79d1f992a"), looks := false }, kinds := [], alts := [], laidByText := true, laidKinds := [.data, .widerDeep, .data, .data, .data], laidTests := true, laidLooks := .later }
def SlabBackCardSaid : Prop := Claim7.holds Tryz.pinned (.plain (OpenSpec.ofChange slabBackSpec)) slabBackCard

/-- THE TIED CARD OF 'columbariumlaw15.SlabPlays'. -/
def slabPlaysCard : Claim7 := { stood := { row := slabPlaysRow, standIns := [], harness := (true, "0ccafe196cc1747ee087a7eadb183d06cce4d5f351445ab3427afae79d1f992a"), looks := false }, kinds := [], alts := [], laidByText := true, laidKinds := [.data, .widerDeep, .data, .data, .data], laidTests := true, laidLooks := .later }
def SlabPlaysCardSaid : Prop := Claim7.holds Tryz.pinned (.plain (OpenSpec.ofChange slabPlaysSpec)) slabPlaysCard

/-- THE TIED CARD OF 'columbariumlaw17.RingRound'. -/
def ringRoundCard : Claim7 := { stood := { row := ringRoundRow, standIns := [], harness := (true, "0ccafe196cc1747ee087a7eadb183d06cce4d5f351445ab3427afae79d1f992a"), looks := false }, kinds := [], alts := [], laidByText := true, laidKinds := [.data, .widerDeep, .data, .data, .data], laidTests := true, laidLooks := .later }
def RingRoundCardSaid : Prop := Claim7.holds Tryz.pinned (.plain (OpenSpec.ofChange ringRoundSpec)) ringRoundCard

/-- THE TIED CARD OF 'columbariumlaw17.RingLast'. -/
def ringLastCard : Claim7 := { stood := { row := ringLastRow, standIns := [], harness := (true, "0ccafe196cc1747ee087a7eadb183d06cce4d5f351445ab3427afae79d1f992a"), looks := false }, kinds := [], alts := [], laidByText := true, laidKinds := [.data, .widerDeep, .data, .data, .data], laidTests := true, laidLooks := .later }
def RingLastCardSaid : Prop := Claim7.holds Tryz.pinned (.plain (OpenSpec.ofChange ringLastSpec)) ringLastCard

/-- THE TIED CARD OF 'columbariumlaw20.IndexBack'. -/
def indexBackCard : Claim7 := { stood := { row := indexBackRow, standIns := [], harness := (true, "0ccafe196cc1747ee087a7eadb183d06cce4d5f351445ab3427afae79d1f992a"), looks := false }, kinds := [], alts := [], laidByText := true, laidKinds := [.data, .widerDeep, .data, .data, .data], laidTests := true, laidLooks := .later }
def IndexBackCardSaid : Prop := Claim7.holds Tryz.pinned (.plain (OpenSpec.ofChange indexBackSpec)) indexBackCard

/-- THE TIED CARD OF 'columbariumlaw20.IndexFinds'. -/
def indexFindsCard : Claim7 := { stood := { row := indexFindsRow, standIns := [], harness := (true, "0ccafe196cc1747ee087a7eadb183d06cce4d5f351445ab3427afae79d1f992a"), looks := false }, kinds := [], alts := [], laidByText := true, laidKinds := [.data, .widerDeep, .data, .data, .data], laidTests := true, laidLooks := .later }
def IndexFindsCardSaid : Prop := Claim7.holds Tryz.pinned (.plain (OpenSpec.ofChange indexFindsSpec)) indexFindsCard

/-- THE TIED CARD OF 'columbariumlaw17.RingPlays'. -/
def ringPlaysCard : Claim7 := { stood := { row := ringPlaysRow, standIns := [], harness := (true, "0ccafe196cc1747ee087a7eadb183d06cce4d5f351445ab3427afae79d1f992a"), looks := false }, kinds := [], alts := [], laidByText := true, laidKinds := [.data, .widerDeep, .data, .data, .data], laidTests := true, laidLooks := .later }
def RingPlaysCardSaid : Prop := Claim7.holds Tryz.pinned (.plain (OpenSpec.ofChange ringPlaysSpec)) ringPlaysCard

/-- THE TIED CARD OF 'columbariumlaw15.SlabClean'. -/
def slabCleanCard : Claim7 := { stood := { row := slabCleanRow, standIns := [], harness := (true, "0ccafe196cc1747ee087a7eadb183d06cce4d5f351445ab3427afae79d1f992a"), looks := false }, kinds := [], alts := [], laidByText := true, laidKinds := [.data, .widerDeep, .data, .data, .data], laidTests := true, laidLooks := .later }
def SlabCleanCardSaid : Prop := Claim7.holds Tryz.pinned (.plain (OpenSpec.ofChange slabCleanSpec)) slabCleanCard

/-- THE TIED CARD OF 'columbariumlaw20.IndexPlays'. -/
def indexPlaysCard : Claim7 := { stood := { row := indexPlaysRow, standIns := [], harness := (true, "0ccafe196cc1747ee087a7eadb183d06cce4d5f351445ab3427afae79d1f992a"), looks := false }, kinds := [], alts := [], laidByText := true, laidKinds := [.data, .widerDeep, .data, .data, .data], laidTests := true, laidLooks := .later }
def IndexPlaysCardSaid : Prop := Claim7.holds Tryz.pinned (.plain (OpenSpec.ofChange indexPlaysSpec)) indexPlaysCard

/-- THE SECOND FORM's CARD OF 'columbariumlaw15.SlabBlocks'. -/
def slabBlocksUptoCard : Claim7 := { stood := { row := slabBlocksUptoRow, standIns := [], harness := (true, "0ccafe196cc1747ee087a7eadb183d06cce4d5f351445ab3427afae79d1f992a"), looks := false }, kinds := [], alts := [], laidByText := true, laidKinds := [.data, .widerDeep, .data, .data, .data], laidTests := true, laidLooks := .later }
def SlabBlocksUptoCardSaid : Prop := Claim7.holds Tryz.pinned (.plain (OpenSpec.upto slabBlocksSpec)) slabBlocksUptoCard

/-- THE SECOND FORM's CARD OF 'columbariumlaw15.SlabOnce'. -/
def slabOnceUptoCard : Claim7 := { stood := { row := slabOnceUptoRow, standIns := [], harness := (true, "0ccafe196cc1747ee087a7eadb183d06cce4d5f351445ab3427afae79d1f992a"), looks := false }, kinds := [], alts := [], laidByText := true, laidKinds := [.data, .widerDeep, .data, .data, .data], laidTests := true, laidLooks := .later }
def SlabOnceUptoCardSaid : Prop := Claim7.holds Tryz.pinned (.plain (OpenSpec.upto slabOnceSpec)) slabOnceUptoCard

/-- THE SECOND FORM's CARD OF 'columbariumlaw15.SlabBack'. -/
def slabBackUptoCard : Claim7 := { stood := { row := slabBackUptoRow, standIns := [], harness := (true, "0ccafe196cc1747ee087a7eadb183d06cce4d5f351445ab3427afae79d1f992a"), looks := false }, kinds := [], alts := [], laidByText := true, laidKinds := [.data, .widerDeep, .data, .data, .data], laidTests := true, laidLooks := .later }
def SlabBackUptoCardSaid : Prop := Claim7.holds Tryz.pinned (.plain (OpenSpec.upto slabBackSpec)) slabBackUptoCard

/-- THE SECOND FORM's CARD OF 'columbariumlaw15.SlabPlays'. -/
def slabPlaysUptoCard : Claim7 := { stood := { row := slabPlaysUptoRow, standIns := [], harness := (true, "0ccafe196cc1747ee087a7eadb183d06cce4d5f351445ab3427afae79d1f992a"), looks := false }, kinds := [], alts := [], laidByText := true, laidKinds := [.data, .widerDeep, .data, .data, .data], laidTests := true, laidLooks := .later }
def SlabPlaysUptoCardSaid : Prop := Claim7.holds Tryz.pinned (.plain (OpenSpec.upto slabPlaysSpec)) slabPlaysUptoCard

/-- THE SECOND FORM's CARD OF 'columbariumlaw17.RingRound'. -/
def ringRoundUptoCard : Claim7 := { stood := { row := ringRoundUptoRow, standIns := [], harness := (true, "0ccafe196cc1747ee087a7eadb183d06cce4d5f351445ab3427afae79d1f992a"), looks := false }, kinds := [], alts := [], laidByText := true, laidKinds := [.data, .widerDeep, .data, .data, .data], laidTests := true, laidLooks := .later }
def RingRoundUptoCardSaid : Prop := Claim7.holds Tryz.pinned (.plain (OpenSpec.upto ringRoundSpec)) ringRoundUptoCard

/-- THE SECOND FORM's CARD OF 'columbariumlaw17.RingLast'. -/
def ringLastUptoCard : Claim7 := { stood := { row := ringLastUptoRow, standIns := [], harness := (true, "0ccafe196cc1747ee087a7eadb183d06cce4d5f351445ab3427afae79d1f992a"), looks := false }, kinds := [], alts := [], laidByText := true, laidKinds := [.data, .widerDeep, .data, .data, .data], laidTests := true, laidLooks := .later }
def RingLastUptoCardSaid : Prop := Claim7.holds Tryz.pinned (.plain (OpenSpec.upto ringLastSpec)) ringLastUptoCard

/-- THE SECOND FORM's CARD OF 'columbariumlaw20.IndexBack'. -/
def indexBackUptoCard : Claim7 := { stood := { row := indexBackUptoRow, standIns := [], harness := (true, "0ccafe196cc1747ee087a7eadb183d06cce4d5f351445ab3427afae79d1f992a"), looks := false }, kinds := [], alts := [], laidByText := true, laidKinds := [.data, .widerDeep, .data, .data, .data], laidTests := true, laidLooks := .later }
def IndexBackUptoCardSaid : Prop := Claim7.holds Tryz.pinned (.plain (OpenSpec.upto indexBackSpec)) indexBackUptoCard

/-- THE SECOND FORM's CARD OF 'columbariumlaw20.IndexFinds'. -/
def indexFindsUptoCard : Claim7 := { stood := { row := indexFindsUptoRow, standIns := [], harness := (true, "0ccafe196cc1747ee087a7eadb183d06cce4d5f351445ab3427afae79d1f992a"), looks := false }, kinds := [], alts := [], laidByText := true, laidKinds := [.data, .widerDeep, .data, .data, .data], laidTests := true, laidLooks := .later }
def IndexFindsUptoCardSaid : Prop := Claim7.holds Tryz.pinned (.plain (OpenSpec.upto indexFindsSpec)) indexFindsUptoCard

/-- THE SECOND FORM's CARD OF 'columbariumlaw17.RingPlays'. -/
def ringPlaysUptoCard : Claim7 := { stood := { row := ringPlaysUptoRow, standIns := [], harness := (true, "0ccafe196cc1747ee087a7eadb183d06cce4d5f351445ab3427afae79d1f992a"), looks := false }, kinds := [], alts := [], laidByText := true, laidKinds := [.data, .widerDeep, .data, .data, .data], laidTests := true, laidLooks := .later }
def RingPlaysUptoCardSaid : Prop := Claim7.holds Tryz.pinned (.plain (OpenSpec.upto ringPlaysSpec)) ringPlaysUptoCard

/-- THE SECOND FORM's CARD OF 'columbariumlaw15.SlabClean'. -/
def slabCleanUptoCard : Claim7 := { stood := { row := slabCleanUptoRow, standIns := [], harness := (true, "0ccafe196cc1747ee087a7eadb183d06cce4d5f351445ab3427afae79d1f992a"), looks := false }, kinds := [], alts := [], laidByText := true, laidKinds := [.data, .widerDeep, .data, .data, .data], laidTests := true, laidLooks := .later }
def SlabCleanUptoCardSaid : Prop := Claim7.holds Tryz.pinned (.plain (OpenSpec.upto slabCleanSpec)) slabCleanUptoCard

/-- THE SECOND FORM's CARD OF 'columbariumlaw20.IndexPlays'. -/
def indexPlaysUptoCard : Claim7 := { stood := { row := indexPlaysUptoRow, standIns := [], harness := (true, "0ccafe196cc1747ee087a7eadb183d06cce4d5f351445ab3427afae79d1f992a"), looks := false }, kinds := [], alts := [], laidByText := true, laidKinds := [.data, .widerDeep, .data, .data, .data], laidTests := true, laidLooks := .later }
def IndexPlaysUptoCardSaid : Prop := Claim7.holds Tryz.pinned (.plain (OpenSpec.upto indexPlaysSpec)) indexPlaysUptoCard
end Rows
end Go.Proofs.YtkapkbiccppldaaGreatDoor
