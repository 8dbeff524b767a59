/- The six listed variables of layer 16's statements: the five tables, and errors.errorType, a handle. -/
import Derived.Test.YtgoogihfggndpaaGreatDoorLaid15
import Derived.LaidHandle
import Derived.LaidSub
import Derived.Stop.Joined
namespace Go.Proofs.YtgoogihfggndpaaGreatDoor
set_option linter.unusedVariables false
set_option linter.unusedSimpArgs false
open Go.Lib Go

def laidE : List (String × DataW Unit) := [("columbarium/class.sizes", Rows.laid_columbarium_class_sizes), ("errors.errorType", Rows.laid_errors_errorType), ("columbarium/memory.fields", Rows.laid_columbarium_memory_fields), ("columbarium/head.nowhere", Rows.laid_columbarium_head_nowhere), ("columbarium/head.common", Rows.laid_columbarium_head_common), ("columbarium/head.own", Rows.laid_columbarium_head_own)]
theorem laidE_plain : (laidE.filter fun x => x.2.handleName?.isNone) = laid5 := by rfl
theorem laidE_handle : (laidE.filter fun x => x.2.handleName?.isSome) = [("errors.errorType", Rows.laid_errors_errorType)] := by rfl
theorem tabsE_of_laid {W : World} (h : laidMetH Tryz.prog laidE W) : TabM W ∧ Tabs W := by
  have h1 := (laidMetH_iff.1 h).1
  rw [laidE_plain] at h1
  exact tabs5_of_laid (by rw [MakeChecks.laidMetH_plain _ _ _ (by kernel_rfl)]; exact h1)
/-- A world that meets the condition: the handle laid, then the tables. -/
noncomputable def laidW0 (os : Os) : World :=
  let w0 := World.holding Tryz.prog os ⟨#[], #[], []⟩
  { w0 with heap := w0.heap.modify 3 fun
      | .cells _ t frozen => .cells #[.iface 289 (.agg #[typeHandle Tryz.prog 149])] t frozen
      | o => o }
noncomputable def laidWE (os : Os) : World := (laidW0 os).layVars Tryz.prog laid5
theorem laidWE_os (os : Os) : (laidWE os).os = os := World.layVars_os _ _ _
theorem laidWE_met0 (os : Os) : laidMet Tryz.prog laid5 (laidWE os) := by
  have e1 : (laid5.filter fun x => (laid5.map (·.1)).contains x.1) = laid5 := List.filter_eq_self.2 fun x hx => List.contains_iff_mem.2 (List.mem_map.2 ⟨x, hx, rfl⟩)
  have e2 : (laid5.filter fun x => !(laid5.map (·.1)).contains x.1) = [] := List.filter_eq_nil_iff.2 fun x hx => by rw [List.contains_iff_mem.2 (List.mem_map.2 ⟨x, hx, rfl⟩)]; simp
  exact laidMet_layVars (w0 := laidW0 os) (laid5.map (·.1)) [] (by rw [e1]; rfl) (by rw [e1]; kernel_rfl) (by rw [e1]; kernel_rfl) (by rw [e2]; exact LaidIn.none)
theorem laidWE_met (os : Os) (args : Array Value) : laidMetH Tryz.prog laidE ((laidWE os).forCall (fun _ _ => 0) ⟨#[], args, []⟩).memory := by
  refine laidMetH.of_heap (w := laidWE os) (by simp [World.memory, World.forCall, Input.heap]) ?_
  refine laidMetH_of_parts ?_ (by kernel_rfl)
  rw [laidE_plain]
  exact laidWE_met0 os
end Go.Proofs.YtgoogihfggndpaaGreatDoor
