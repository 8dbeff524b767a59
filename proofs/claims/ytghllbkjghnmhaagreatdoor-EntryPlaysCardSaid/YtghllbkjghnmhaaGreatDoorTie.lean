/-
  DERIVED. GIVEN WITH THE SEED: THE PROGRAM's TIES (one call each: nine closed facts by the kernel) AND EACH ROW's TIE, after the 31st guide's Derived/Test/Toyas{Tie, Card}.lean. No idea stands in it: it is a product of the set-up. Laid BY PROGRAM, IN A SANDBOX (cutbox-door.mjs). By AI agents, Wed Nov 11 2026. No macro, syntax, notation, axiom, sorry.
-/
import Derived.Test.YtghllbkjghnmhaaGreatDoorRows
import Derived.LaidByTextLater
import Derived.SevenTiedAt
import Derived.LaidSub
import Derived.LaidOnce
namespace Go.Proofs.YtghllbkjghnmhaaGreatDoor
open Go
set_option maxRecDepth 100000
theorem seatTie1 : Tryz.prog.laidByTextLater [("columbarium/class.sizes", Rows.laid_columbarium_class_sizes), ("columbarium/memory.fields", Rows.laid_columbarium_memory_fields), ("columbarium/head.nowhere", Rows.laid_columbarium_head_nowhere), ("columbarium/head.common", Rows.laid_columbarium_head_common), ("columbarium/head.own", Rows.laid_columbarium_head_own)] [.data, .widerDeep, .data, .data, .data] true :=
  Program.laidByTextLater_by_one 45 8 22 (by kernel_rfl) (by kernel_rfl) (by kernel_rfl) (by kernel_rfl) (by kernel_rfl) (by kernel_rfl) (fun _ _ => by kernel_rfl)
theorem noOwnUnsafe : Tryz.pinned.checked.prog.headLifts.contains "ownunsafe" = false := by kernel_rfl
theorem tie : Tryz.prog.laidByTextLater [("columbarium/class.sizes", Rows.laid_columbarium_class_sizes), ("columbarium/memory.fields", Rows.laid_columbarium_memory_fields), ("columbarium/head.nowhere", Rows.laid_columbarium_head_nowhere), ("columbarium/head.common", Rows.laid_columbarium_head_common), ("columbarium/head.own", Rows.laid_columbarium_head_own)] [.data, .widerDeep, .data, .data, .data] true :=
  Program.laidByTextLater.sub seatTie1 ["columbarium/class.sizes", "columbarium/memory.fields", "columbarium/head.nowhere", "columbarium/head.common", "columbarium/head.own"] (by kernel_rfl) (by kernel_rfl)
theorem entryPlays_row_tie : Rows.entryPlaysRow.laidByTextAt .later Tryz.pinned [.data, .widerDeep, .data, .data, .data] true :=
  OpenClaim.laidByTextAt_later rfl rfl tie noOwnUnsafe
theorem compactFollows_row_tie : Rows.compactFollowsRow.laidByTextAt .later Tryz.pinned [.data, .widerDeep, .data, .data, .data] true :=
  OpenClaim.laidByTextAt_later rfl rfl tie noOwnUnsafe
theorem entryPlaysUpto_row_tie : Rows.entryPlaysUptoRow.laidByTextAt .later Tryz.pinned [.data, .widerDeep, .data, .data, .data] true :=
  OpenClaim.laidByTextAt_later rfl rfl tie noOwnUnsafe
theorem compactFollowsUpto_row_tie : Rows.compactFollowsUptoRow.laidByTextAt .later Tryz.pinned [.data, .widerDeep, .data, .data, .data] true :=
  OpenClaim.laidByTextAt_later rfl rfl tie noOwnUnsafe
end Go.Proofs.YtghllbkjghnmhaaGreatDoor
