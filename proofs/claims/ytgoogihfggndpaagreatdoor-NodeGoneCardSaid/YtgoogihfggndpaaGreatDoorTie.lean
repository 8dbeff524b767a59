/-
  DERIVED. GIVEN WITH THE SEED: THE PROGRAM's TIES (one call each: nine closed facts by the kernel) AND EACH ROW's TIE, after the 31st guide's Derived/Test/Toyas{Tie, Card}.lean. No idea stands in it: it is a product of the set-up. Laid BY PROGRAM, IN A SANDBOX (cutbox-door.mjs). By AI agents, Wed Nov 11 2026. No macro, syntax, notation, axiom, sorry.
-/
import Derived.Test.YtgoogihfggndpaaGreatDoorRows
import Derived.LaidByTextLater
import Derived.SevenTiedAt
import Derived.LaidSub
import Derived.LaidOnce
namespace Go.Proofs.YtgoogihfggndpaaGreatDoor
open Go
set_option maxRecDepth 100000
theorem seatTie1 : Tryz.prog.laidByTextLater [("columbarium/class.sizes", Rows.laid_columbarium_class_sizes), ("errors.errorType", Rows.laid_errors_errorType), ("columbarium/memory.fields", Rows.laid_columbarium_memory_fields), ("columbarium/head.nowhere", Rows.laid_columbarium_head_nowhere), ("columbarium/head.common", Rows.laid_columbarium_head_common), ("columbarium/head.own", Rows.laid_columbarium_head_own)] [.data, .handle, .widerDeep, .data, .data, .data] true :=
  Program.laidByTextLater_by_one 52 8 22 (by kernel_rfl) (by kernel_rfl) (by kernel_rfl) (by kernel_rfl) (by kernel_rfl) (by kernel_rfl) (fun _ _ => by kernel_rfl)
theorem noOwnUnsafe : Tryz.pinned.checked.prog.headLifts.contains "ownunsafe" = false := by kernel_rfl
theorem tie : Tryz.prog.laidByTextLater [("columbarium/class.sizes", Rows.laid_columbarium_class_sizes), ("errors.errorType", Rows.laid_errors_errorType), ("columbarium/memory.fields", Rows.laid_columbarium_memory_fields), ("columbarium/head.nowhere", Rows.laid_columbarium_head_nowhere), ("columbarium/head.common", Rows.laid_columbarium_head_common), ("columbarium/head.own", Rows.laid_columbarium_head_own)] [.data, .handle, .widerDeep, .data, .data, .data] true :=
  Program.laidByTextLater.sub seatTie1 ["columbarium/class.sizes", "errors.errorType", "columbarium/memory.fields", "columbarium/head.nowhere", "columbarium/head.common", "columbarium/head.own"] (by kernel_rfl) (by kernel_rfl)
theorem regionRestores_row_tie : Rows.regionRestoresRow.laidByTextAt .later Tryz.pinned [.data, .handle, .widerDeep, .data, .data, .data] true :=
  OpenClaim.laidByTextAt_later rfl rfl tie noOwnUnsafe
theorem regionBack_row_tie : Rows.regionBackRow.laidByTextAt .later Tryz.pinned [.data, .handle, .widerDeep, .data, .data, .data] true :=
  OpenClaim.laidByTextAt_later rfl rfl tie noOwnUnsafe
theorem tie2 : Tryz.prog.laidByTextLater [("columbarium/class.sizes", Rows.laid_columbarium_class_sizes), ("columbarium/memory.fields", Rows.laid_columbarium_memory_fields), ("columbarium/head.nowhere", Rows.laid_columbarium_head_nowhere), ("columbarium/head.common", Rows.laid_columbarium_head_common), ("columbarium/head.own", Rows.laid_columbarium_head_own)] [.data, .widerDeep, .data, .data, .data] true :=
  Program.laidByTextLater.sub seatTie1 ["columbarium/class.sizes", "columbarium/memory.fields", "columbarium/head.nowhere", "columbarium/head.common", "columbarium/head.own"] (by kernel_rfl) (by kernel_rfl)
theorem nodeHeld_row_tie : Rows.nodeHeldRow.laidByTextAt .later Tryz.pinned [.data, .widerDeep, .data, .data, .data] true :=
  OpenClaim.laidByTextAt_later rfl rfl tie2 noOwnUnsafe
theorem nodeShares_row_tie : Rows.nodeSharesRow.laidByTextAt .later Tryz.pinned [.data, .widerDeep, .data, .data, .data] true :=
  OpenClaim.laidByTextAt_later rfl rfl tie2 noOwnUnsafe
theorem nodeGone_row_tie : Rows.nodeGoneRow.laidByTextAt .later Tryz.pinned [.data, .widerDeep, .data, .data, .data] true :=
  OpenClaim.laidByTextAt_later rfl rfl tie2 noOwnUnsafe
theorem regionRestoresUpto_row_tie : Rows.regionRestoresUptoRow.laidByTextAt .later Tryz.pinned [.data, .handle, .widerDeep, .data, .data, .data] true :=
  OpenClaim.laidByTextAt_later rfl rfl tie noOwnUnsafe
theorem regionBackUpto_row_tie : Rows.regionBackUptoRow.laidByTextAt .later Tryz.pinned [.data, .handle, .widerDeep, .data, .data, .data] true :=
  OpenClaim.laidByTextAt_later rfl rfl tie noOwnUnsafe
theorem nodeHeldUpto_row_tie : Rows.nodeHeldUptoRow.laidByTextAt .later Tryz.pinned [.data, .widerDeep, .data, .data, .data] true :=
  OpenClaim.laidByTextAt_later rfl rfl tie2 noOwnUnsafe
theorem nodeSharesUpto_row_tie : Rows.nodeSharesUptoRow.laidByTextAt .later Tryz.pinned [.data, .widerDeep, .data, .data, .data] true :=
  OpenClaim.laidByTextAt_later rfl rfl tie2 noOwnUnsafe
theorem nodeGoneUpto_row_tie : Rows.nodeGoneUptoRow.laidByTextAt .later Tryz.pinned [.data, .widerDeep, .data, .data, .data] true :=
  OpenClaim.laidByTextAt_later rfl rfl tie2 noOwnUnsafe
end Go.Proofs.YtgoogihfggndpaaGreatDoor
