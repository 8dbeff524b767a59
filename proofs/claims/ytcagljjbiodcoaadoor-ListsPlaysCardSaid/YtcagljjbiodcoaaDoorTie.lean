/-
  DERIVED. GIVEN WITH THE SEED: THE PROGRAM's TIES (one call each: nine closed facts by the kernel) AND EACH ROW's TIE, after the 31st guide's Derived/Test/Toyas{Tie, Card}.lean. No idea stands in it: it is a product of the set-up. Laid BY PROGRAM, IN A SANDBOX (cutbox-door.mjs). By AI agents, Wed Nov 11 2026. No macro, syntax, notation, axiom, sorry.
-/
import Derived.Test.YtcagljjbiodcoaaDoorRows
import Derived.LaidByTextLater
import Derived.SevenTiedAt
import Derived.LaidSub
import Derived.LaidOnce
namespace Go.Proofs.YtcagljjbiodcoaaDoor
open Go
set_option maxRecDepth 100000
theorem seatTie1 : Tryd.prog.laidByTextLater [("columbarium/class.sizes", Rows.laid_columbarium_class_sizes), ("columbarium/memory.fields", Rows.laid_columbarium_memory_fields), ("columbarium/head.nowhere", Rows.laid_columbarium_head_nowhere), ("columbarium/head.common", Rows.laid_columbarium_head_common), ("columbarium/head.own", Rows.laid_columbarium_head_own), ("columbarium/head.sizes", Rows.laid_columbarium_head_sizes)] [.data, .widerDeep, .data, .data, .data, .data] true :=
  Program.laidByTextLater_by_one 50 8 22 (by kernel_rfl) (by kernel_rfl) (by kernel_rfl) (by kernel_rfl) (by kernel_rfl) (by kernel_rfl) (fun _ _ => by kernel_rfl)
theorem noOwnUnsafe : Tryd.pinned.checked.prog.headLifts.contains "ownunsafe" = false := by kernel_rfl
theorem tie : Tryd.prog.laidByTextLater [("columbarium/class.sizes", Rows.laid_columbarium_class_sizes), ("columbarium/memory.fields", Rows.laid_columbarium_memory_fields)] [.data, .widerDeep] true :=
  Program.laidByTextLater.sub seatTie1 ["columbarium/class.sizes", "columbarium/memory.fields"] (by kernel_rfl) (by kernel_rfl)
theorem clockTells_row_tie : Rows.clockTellsRow.laidByTextAt .later Tryd.pinned [.data, .widerDeep] true :=
  OpenClaim.laidByTextAt_later rfl rfl tie noOwnUnsafe
theorem clockOver_row_tie : Rows.clockOverRow.laidByTextAt .later Tryd.pinned [.data, .widerDeep] true :=
  OpenClaim.laidByTextAt_later rfl rfl tie noOwnUnsafe
theorem clockTicks_row_tie : Rows.clockTicksRow.laidByTextAt .later Tryd.pinned [.data, .widerDeep] true :=
  OpenClaim.laidByTextAt_later rfl rfl tie noOwnUnsafe
theorem listsSorted_row_tie : Rows.listsSortedRow.laidByTextAt .later Tryd.pinned [.data, .widerDeep] true :=
  OpenClaim.laidByTextAt_later rfl rfl tie noOwnUnsafe
theorem listsBack_row_tie : Rows.listsBackRow.laidByTextAt .later Tryd.pinned [.data, .widerDeep] true :=
  OpenClaim.laidByTextAt_later rfl rfl tie noOwnUnsafe
theorem listsPlays_row_tie : Rows.listsPlaysRow.laidByTextAt .later Tryd.pinned [.data, .widerDeep] true :=
  OpenClaim.laidByTextAt_later rfl rfl tie noOwnUnsafe
theorem tie2 : Tryd.prog.laidByTextLater [("columbarium/class.sizes", Rows.laid_columbarium_class_sizes), ("columbarium/memory.fields", Rows.laid_columbarium_memory_fields), ("columbarium/head.nowhere", Rows.laid_columbarium_head_nowhere), ("columbarium/head.common", Rows.laid_columbarium_head_common), ("columbarium/head.own", Rows.laid_columbarium_head_own), ("columbarium/head.sizes", Rows.laid_columbarium_head_sizes)] [.data, .widerDeep, .data, .data, .data, .data] true :=
  Program.laidByTextLater.sub seatTie1 ["columbarium/class.sizes", "columbarium/memory.fields", "columbarium/head.nowhere", "columbarium/head.common", "columbarium/head.own", "columbarium/head.sizes"] (by kernel_rfl) (by kernel_rfl)
theorem headApart_row_tie : Rows.headApartRow.laidByTextAt .later Tryd.pinned [.data, .widerDeep, .data, .data, .data, .data] true :=
  OpenClaim.laidByTextAt_later rfl rfl tie2 noOwnUnsafe
theorem clockTellsUpto_row_tie : Rows.clockTellsUptoRow.laidByTextAt .later Tryd.pinned [.data, .widerDeep] true :=
  OpenClaim.laidByTextAt_later rfl rfl tie noOwnUnsafe
theorem clockOverUpto_row_tie : Rows.clockOverUptoRow.laidByTextAt .later Tryd.pinned [.data, .widerDeep] true :=
  OpenClaim.laidByTextAt_later rfl rfl tie noOwnUnsafe
theorem clockTicksUpto_row_tie : Rows.clockTicksUptoRow.laidByTextAt .later Tryd.pinned [.data, .widerDeep] true :=
  OpenClaim.laidByTextAt_later rfl rfl tie noOwnUnsafe
theorem headApartUpto_row_tie : Rows.headApartUptoRow.laidByTextAt .later Tryd.pinned [.data, .widerDeep, .data, .data, .data, .data] true :=
  OpenClaim.laidByTextAt_later rfl rfl tie2 noOwnUnsafe
theorem listsSortedUpto_row_tie : Rows.listsSortedUptoRow.laidByTextAt .later Tryd.pinned [.data, .widerDeep] true :=
  OpenClaim.laidByTextAt_later rfl rfl tie noOwnUnsafe
theorem listsBackUpto_row_tie : Rows.listsBackUptoRow.laidByTextAt .later Tryd.pinned [.data, .widerDeep] true :=
  OpenClaim.laidByTextAt_later rfl rfl tie noOwnUnsafe
theorem listsPlaysUpto_row_tie : Rows.listsPlaysUptoRow.laidByTextAt .later Tryd.pinned [.data, .widerDeep] true :=
  OpenClaim.laidByTextAt_later rfl rfl tie noOwnUnsafe
end Go.Proofs.YtcagljjbiodcoaaDoor
