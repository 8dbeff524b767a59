/-
  DERIVED. GIVEN WITH THE SEED: THE CARDS: each row of YtgoogihfggndpaaGreatDoorRows.lean that lists a variable, with what it lists TIED to the program's text (the seventh form; the later family's looks); each row that meets fmt, with fmt's text TOLD by the authors' own Lean function (tested against real Go, not proved from fmt's source: count such statements apart). THE CARD IS WHAT COUNTS. Prove the row's statement (the work); the ties are given (YtgoogihfggndpaaGreatDoorTie.lean); close each card by the builder's one call (the guide's Derived/Test/ToyasCard.lean, 'card_holds'). Laid BY PROGRAM, IN A SANDBOX (cutbox-door.mjs). By AI agents, Wed Nov 11 2026. No macro, syntax, notation, axiom, sorry.
-/
import Derived.Test.YtgoogihfggndpaaGreatDoorRows
import GoSem.ClaimSeven
namespace Go.Proofs.YtgoogihfggndpaaGreatDoor
namespace Rows

/-- THE TIED CARD OF 'columbariumlaw16.RegionRestores'. -/
def regionRestoresCard : Claim7 := { stood := { row := regionRestoresRow, standIns := [], harness := (true, "ea47d34c1e88e5ed126b4f3d9daca0c8d633c4013c587786a1b61c56f864ab8b"), looks := true }, kinds := [], alts := [], laidByText := true, laidKinds := [.data, .handle, .widerDeep, .data, .data, .data], laidTests := true, laidLooks := .later }
def RegionRestoresCardSaid : Prop := Claim7.holds Tryz.pinned (.plain (OpenSpec.ofChange regionRestoresSpec)) regionRestoresCard

/-- THE TIED CARD OF 'columbariumlaw16.RegionBack'. -/
def regionBackCard : Claim7 := { stood := { row := regionBackRow, standIns := [], harness := (true, "ea47d34c1e88e5ed126b4f3d9daca0c8d633c4013c587786a1b61c56f864ab8b"), looks := true }, kinds := [], alts := [], laidByText := true, laidKinds := [.data, .handle, .widerDeep, .data, .data, .data], laidTests := true, laidLooks := .later }
def RegionBackCardSaid : Prop := Claim7.holds Tryz.pinned (.plain (OpenSpec.ofChange regionBackSpec)) regionBackCard

/-- THE TIED CARD OF 'columbariumlaw21.NodeHeld'. -/
def nodeHeldCard : Claim7 := { stood := { row := nodeHeldRow, standIns := [], harness := (true, "ea47d34c1e88e5ed126b4f3d9daca0c8d633c4013c587786a1b61c56f864ab8b"), looks := true }, kinds := [], alts := [], laidByText := true, laidKinds := [.data, .widerDeep, .data, .data, .data], laidTests := true, laidLooks := .later }
def NodeHeldCardSaid : Prop := Claim7.holds Tryz.pinned (.plain (OpenSpec.ofChange nodeHeldSpec)) nodeHeldCard

/-- THE TIED CARD OF 'columbariumlaw21.NodeShares'. -/
def nodeSharesCard : Claim7 := { stood := { row := nodeSharesRow, standIns := [], harness := (true, "ea47d34c1e88e5ed126b4f3d9daca0c8d633c4013c587786a1b61c56f864ab8b"), looks := true }, kinds := [], alts := [], laidByText := true, laidKinds := [.data, .widerDeep, .data, .data, .data], laidTests := true, laidLooks := .later }
def NodeSharesCardSaid : Prop := Claim7.holds Tryz.pinned (.plain (OpenSpec.ofChange nodeSharesSpec)) nodeSharesCard

/-- THE TIED CARD OF 'columbariumlaw21.NodeGone'. -/
def nodeGoneCard : Claim7 := { stood := { row := nodeGoneRow, standIns := [], harness := (true, "ea47d34c1e88e5ed126b4f3d9daca0c8d633c4013c587786a1b61c56f864ab8b"), looks := true }, kinds := [], alts := [], laidByText := true, laidKinds := [.data, .widerDeep, .data, .data, .data], laidTests := true, laidLooks := .later }
def NodeGoneCardSaid : Prop := Claim7.holds Tryz.pinned (.plain (OpenSpec.ofChange nodeGoneSpec)) nodeGoneCard

/-- THE SECOND FORM's CARD OF 'columbariumlaw16.RegionRestores'. -/
def regionRestoresUptoCard : Claim7 := { stood := { row := regionRestoresUptoRow, standIns := [], harness := (true, "ea47d34c1e88e5ed126b4f3d9daca0c8d633c4013c587786a1b61c56f864ab8b"), looks := true }, kinds := [], alts := [], laidByText := true, laidKinds := [.data, .handle, .widerDeep, .data, .data, .data], laidTests := true, laidLooks := .later }
def RegionRestoresUptoCardSaid : Prop := Claim7.holds Tryz.pinned (.plain (OpenSpec.upto regionRestoresSpec)) regionRestoresUptoCard

/-- THE SECOND FORM's CARD OF 'columbariumlaw16.RegionBack'. -/
def regionBackUptoCard : Claim7 := { stood := { row := regionBackUptoRow, standIns := [], harness := (true, "ea47d34c1e88e5ed126b4f3d9daca0c8d633c4013c587786a1b61c56f864ab8b"), looks := true }, kinds := [], alts := [], laidByText := true, laidKinds := [.data, .handle, .widerDeep, .data, .data, .data], laidTests := true, laidLooks := .later }
def RegionBackUptoCardSaid : Prop := Claim7.holds Tryz.pinned (.plain (OpenSpec.upto regionBackSpec)) regionBackUptoCard

/-- THE SECOND FORM's CARD OF 'columbariumlaw21.NodeHeld'. -/
def nodeHeldUptoCard : Claim7 := { stood := { row := nodeHeldUptoRow, standIns := [], harness := (true, "ea47d34c1e88e5ed126b4f3d9daca0c8d633c4013c587786a1b61c56f864ab8b"), looks := true }, kinds := [], alts := [], laidByText := true, laidKinds := [.data, .widerDeep, .data, .data, .data], laidTests := true, laidLooks := .later }
def NodeHeldUptoCardSaid : Prop := Claim7.holds Tryz.pinned (.plain (OpenSpec.upto nodeHeldSpec)) nodeHeldUptoCard

/-- THE SECOND FORM's CARD OF 'columbariumlaw21.NodeShares'. -/
def nodeSharesUptoCard : Claim7 := { stood := { row := nodeSharesUptoRow, standIns := [], harness := (true, "ea47d34c1e88e5ed126b4f3d9daca0c8d633c4013c587786a1b61c56f864ab8b"), looks := true }, kinds := [], alts := [], laidByText := true, laidKinds := [.data, .widerDeep, .data, .data, .data], laidTests := true, laidLooks := .later }
def NodeSharesUptoCardSaid : Prop := Claim7.holds Tryz.pinned (.plain (OpenSpec.upto nodeSharesSpec)) nodeSharesUptoCard

/-- THE SECOND FORM's CARD OF 'columbariumlaw21.NodeGone'. -/
def nodeGoneUptoCard : Claim7 := { stood := { row := nodeGoneUptoRow, standIns := [], harness := (true, "ea47d34c1e88e5ed126b4f3d9daca0c8d633c4013c587786a1b61c56f864ab8b"), looks := true }, kinds := [], alts := [], laidByText := true, laidKinds := [.data, .widerDeep, .data, .data, .data], laidTests := true, laidLooks := .later }
def NodeGoneUptoCardSaid : Prop := Claim7.holds Tryz.pinned (.plain (OpenSpec.upto nodeGoneSpec)) nodeGoneUptoCard
end Rows
end Go.Proofs.YtgoogihfggndpaaGreatDoor
