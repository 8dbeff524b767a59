/- The walk of HeadWhere. -/
import Derived.Test.YtagnelfnjlfhnaaDoorHeads
namespace Go.Proofs.YtagnelfnjlfhnaaDoor
set_option linter.unusedVariables false
open Go.RowKit

theorem walk_where (w : World) (hT : Tabs w) (tag f : Int) : Calls Tryd.prog 4 #[.int .i64 tag, .int .i64 f] w fun e w' => e = .returned (.bool true) ∧ Fr [] w w' := by
  have h1 := fun W h => where_any W h tag f
  have h2 := fun W => xwhere_any W tag f
  have h3 := fun W h => size_any W h tag
  have h4 := fun W => xsize_any W tag
  have h5 := heads_any
  generalize whZ tag f = x at *
  obtain ⟨a, b⟩ := x
  generalize szZ tag = s at *
  simp only [twoV] at h1 h2
  go_enter Tryd.func4, Tryd.ntmps4
  go_wp2_with fail
  with_reducible refine (h1 _ hT).mono ?_
  rintro e w1 ⟨rfl, f1⟩
  have hT1 := hT.fr f1 (by simp)
  go_wp2_with fail
  with_reducible refine (h2 _).mono ?_
  rintro e w2 ⟨rfl, f2⟩
  have hT2 := hT1.fr f2 (by simp)
  have F2 := f1.trans f2
  clear f1 f2 hT1
  go_wp2_with fail
  with_reducible refine (h3 _ hT2).mono ?_
  rintro e w' ⟨rfl, rfl⟩
  go_wp2_with fail
  with_reducible refine (h4 _).mono ?_
  rintro e w3 ⟨rfl, f3⟩
  have hT3 := hT2.fr f3 (by simp)
  have F3 := F2.trans f3
  clear F2 f3 hT2
  go_wp2_with fail
  with_reducible refine (h5 _ hT3).mono ?_
  rintro e w4 ⟨rfl, f4⟩
  have F4 := F3.trans f4
  go_wp2_with fail
  go_ret
  exact ⟨rfl, F4⟩
end Go.Proofs.YtagnelfnjlfhnaaDoor
