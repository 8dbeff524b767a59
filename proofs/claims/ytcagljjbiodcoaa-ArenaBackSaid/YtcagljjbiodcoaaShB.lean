/- The library's bytes.Contains at this program. -/
import Derived.Test.YtcagljjbiodcoaaChecked
import Derived.Shelf.LaysM
import Derived.Shelf.Bytes.SlIndexWhole
import Derived.Shelf.Bytes.SlIndexSmall
namespace Go.Proofs.Ytcagljjbiodcoaa
set_option linter.unusedVariables false
open Go.Shelf
def bytesRen : Go.Shelf.Ren := ⟨fun | 186 => 40 | 185 => 46 | 187 => 50 | 115 => 51 | 253 => 52 | 224 => 53 | 254 => 54 | 255 => 55 | 291 => 56 | n => n, fun | 37 => 28 | 4 => 4 | 3 => 3 | 0 => 0 | 5 => 5 | 46 => 79 | 9 => 9 | 146 => 81 | 51 => 80 | n => n, fun | 1 => 0 | n => n⟩
theorem bytesLays : Go.Proofs.LaysM.n186 Try.prog bytesRen := {
  mixed := by kernel_rfl
  f115 := Try.func51.trans (congrArg some (by kernel_rfl))
  f185 := Try.func46.trans (congrArg some (by kernel_rfl))
  f186 := Try.func40.trans (congrArg some (by kernel_rfl))
  f187 := Try.func50.trans (congrArg some (by kernel_rfl))
  f224 := Try.func53.trans (congrArg some (by kernel_rfl))
  f253 := Try.func52.trans (congrArg some (by kernel_rfl))
  f254 := Try.func54.trans (congrArg some (by kernel_rfl))
  f255 := Try.func55.trans (congrArg some (by kernel_rfl))
  f291 := Try.func56.trans (congrArg some (by kernel_rfl))
  t0 := Try.underlying0
  a0 := Try.isAgg0
  z0 := Try.sizeOf0
  v0 := Try.zeroValue0
  t3 := Try.underlying3
  a3 := Try.isAgg3
  z3 := Try.sizeOf3
  v3 := Try.zeroValue3
  t4 := Try.underlying4
  a4 := Try.isAgg4
  z4 := Try.sizeOf4
  v4 := Try.zeroValue4
  t5 := Try.underlying5
  a5 := Try.isAgg5
  z5 := Try.sizeOf5
  v5 := Try.zeroValue5
  t9 := Try.underlying9
  a9 := Try.isAgg9
  z9 := Try.sizeOf9
  v9 := Try.zeroValue9
  t37 := Try.underlying28
  a37 := Try.isAgg28
  z37 := Try.sizeOf28
  v37 := Try.zeroValue28
  t46 := Try.underlying79
  a46 := Try.isAgg79
  z46 := Try.sizeOf79
  v46 := Try.zeroValue79
  t51 := Try.underlying80
  a51 := Try.isAgg80
  z51 := Try.sizeOf80
  v51 := Try.zeroValue80
  t146 := Try.underlying81
  a146 := Try.isAgg81
  z146 := Try.sizeOf81
  v146 := Try.zeroValue81
  g1 := by kernel_rfl
  i0 := by kernel_rfl
  i3 := by kernel_rfl
  i4 := by kernel_rfl
  i5 := by kernel_rfl
  i9 := by kernel_rfl
  i37 := by kernel_rfl
  i46 := by kernel_rfl
  i51 := by kernel_rfl
  i146 := by kernel_rfl
  m1 := by kernel_rfl
  s1_3 := fun w h => Go.Proofs.cell_of_shapedOpen_int (zero := #[.int .i64 0]) (t := 3) h (of_decide_eq_true (by kernel_rfl)) (by kernel_rfl) rfl (by kernel_rfl) (by kernel_rfl) Try.underlying3 }
end Go.Proofs.Ytcagljjbiodcoaa
