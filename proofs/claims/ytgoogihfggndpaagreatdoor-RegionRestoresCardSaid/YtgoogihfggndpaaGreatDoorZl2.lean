/- errors.errorType's cell, as laid; region.errno of a slab that may not be. -/
import Derived.Test.YtgoogihfggndpaaGreatDoorZl
namespace Go.Proofs.YtgoogihfggndpaaGreatDoor
set_option linter.unusedVariables false
set_option linter.unusedSimpArgs false
open Go.RowKit

def ErrC (w : World) : Prop := w.cell? ⟨3, 0, none⟩ = some (.iface 289 (.agg #[.pointer (some ⟨gsz, 149, none⟩)]))
theorem ErrC.fr {w w' : World} {S : List Nat} (h : ErrC w) (hf : Fr S w w') (hS : 3 ∉ S) : ErrC w' := by
  have hlt : 3 < w.heap.size := by
    rcases Nat.lt_or_ge 3 w.heap.size with h1 | h1
    · exact h1
    · unfold ErrC at h; simp [World.cell?, Array.getElem?_eq_none h1] at h
  exact (hf.cell (p := ⟨3, 0, none⟩) hlt hS).trans h
theorem error_row : ((List.range Tryz.prog.types.size).all fun ty => !Tryz.prog.rowNamed ty [101, 114, 114, 111, 114] || ty == 149) = true := by kernel_rfl
theorem errC_of_laid {W : World} (h : laidMetH Tryz.prog laidE W) : ErrC W := by
  have h1 := (laidMetH_iff.1 h).2
  rw [laidE_handle] at h1
  have h2 := h1 _ (List.mem_singleton.2 rfl)
  have e0 : ((Rows.laid_errors_errorType : DataW Unit).funcsIn?) = none := by kernel_rfl
  dsimp only at h2
  rw [e0] at h2
  obtain ⟨name, u, ty, k1, k2, k3, k4, k5⟩ := h2
  have e1 : name = [101, 114, 114, 111, 114] := Option.some.inj (k1.symm.trans (by kernel_rfl))
  have e2 : u = 289 := Option.some.inj (k2.symm.trans (by kernel_rfl))
  subst e1 e2
  have e3 : ty = 149 := by
    have := List.all_eq_true.1 error_row ty (List.mem_range.2 k3)
    rw [k4] at this
    simpa using this
  subst e3
  have hg : Tryz.prog.globalNamed "errors.errorType" = some 3 := by kernel_rfl
  unfold World.var? at k5
  rw [hg] at k5
  simp only [Option.bind_some] at k5
  unfold ErrC
  cases hh : W.heap[3]? with
  | none => rw [hh] at k5; cases k5
  | some o =>
    rw [hh] at k5
    cases o with
    | cells cs t fz =>
      simp only [Option.some.injEq] at k5
      subst k5
      simp [World.cell?, hh, typeHandle, gsz]
    | _ => cases k5
theorem tabsErr_of_laid {W : World} (h : laidMetH Tryz.prog laidE W) : (TabM W ∧ Tabs W) ∧ ErrC W := ⟨tabsE_of_laid h, errC_of_laid h⟩
set_option maxRecDepth 100000 in
theorem zerrno {w : World} (x : Int) (hE : ErrC w) : Calls Tryz.prog 102 #[.iface 225 (.agg #[.int .i64 x])] w fun e w' => e = .returned (.int .i64 41) ∧ Fr [] w w' := by
  have F0 := Lib.hid ((Fr.refl [] w).alloc (.cells #[.int .i64 0] 225))
  have B0 := Lib.hid (Blk.new w 225 #[.int .i64 0])
  have HA := Lib.hid (As_w x w.heap.size (.int .i64 0) (hE.fr F0.out (by simp)) (B0.out.cell 0) (B0.out.frozen 0))
  clear hE
  go_enter Tryz.func102, Tryz.ntmps102
  go_wp2_with fail
  with_reducible refine HA.out.mono ?_
  rintro e w1 ⟨rfl, f1⟩
  go_wp2_with fail
  go_ret
  exact ⟨rfl, F0.out.step f1 (fun k hk => .inr (by simp at hk; omega))⟩
end Go.Proofs.YtgoogihfggndpaaGreatDoor
