/- The six listed variables of HeadApart's row, as its condition gives them, are the cells that the walk reads. -/
import Derived.Test.YtcagljjbiodcoaaDoorLaid12
import Derived.Test.YtcagljjbiodcoaaDoorLaid13
namespace Go.Proofs.YtcagljjbiodcoaaDoor
set_option linter.unusedVariables false
open Go.Lib

def laid6 : List (String × DataW Unit) := [("columbarium/class.sizes", Rows.laid_columbarium_class_sizes), ("columbarium/memory.fields", Rows.laid_columbarium_memory_fields), ("columbarium/head.nowhere", Rows.laid_columbarium_head_nowhere), ("columbarium/head.common", Rows.laid_columbarium_head_common), ("columbarium/head.own", Rows.laid_columbarium_head_own), ("columbarium/head.sizes", Rows.laid_columbarium_head_sizes)]
theorem tabs6_of_laid {W : World} (h : laidMetH Tryd.prog laid6 W) : TabM W ∧ Tabs W := by
  rw [MakeChecks.laidMetH_plain _ _ _ (by kernel_rfl)] at h
  obtain ⟨ps, ⟨k1, u1, b1, j1, r1, s1, kg1, kt1, kv1, kd1, ⟨k2, u2, b2, j2, r2, s2, kg2, kt2, kv2, kd2, ⟨g1, t1, c1, f1, p1, q1, hg1, ht1, hv1, hd1, ⟨g2, t2, c2, f2, p2, q2, hg2, ht2, hv2, hd2, ⟨g3, t3, c3, f3, p3, q3, hg3, ht3, hv3, hd3, ⟨g4, t4, c4, f4, p4, q4, hg4, ht4, hv4, hd4, _, _⟩, _⟩, _⟩, _⟩, _⟩, _⟩, _, _⟩ := h
  obtain rfl := Option.some.inj (gCls.symm.trans kg1)
  obtain rfl := Option.some.inj (gFld.symm.trans kg2)
  obtain rfl := Option.some.inj (tCls.symm.trans kt1)
  obtain rfl := Option.some.inj (tFld.symm.trans kt2)
  obtain rfl := Option.some.inj (gNow.symm.trans hg1)
  obtain rfl := Option.some.inj (gCom.symm.trans hg2)
  obtain rfl := Option.some.inj (gOwn.symm.trans hg3)
  obtain rfl := Option.some.inj (gSiz.symm.trans hg4)
  obtain rfl := Option.some.inj (tNow.symm.trans ht1)
  obtain rfl := Option.some.inj (tCom.symm.trans ht2)
  obtain rfl := Option.some.inj (tOwn.symm.trans ht3)
  obtain rfl := Option.some.inj (tSiz.symm.trans ht4)
  exact ⟨tabM_of kv1 kd1 kv2 kd2, tabs_of hv1 hd1 hv2 hd2 hv3 hd3 hv4 hd4⟩
end Go.Proofs.YtcagljjbiodcoaaDoor
