/- Where and Size: head's and the document's. -/
import Derived.Test.YtcagljjbiodcoaaDoorH13
namespace Go.Proofs.YtcagljjbiodcoaaDoor
set_option linter.unusedVariables false
open Go.RowKit
def twoV (x : Nat × Nat) : Value := .tuple #[.int .i64 x.1, .int .i64 x.2]

theorem where_any (w : World) (hT : Tabs w) (tag f : Int) :
    Calls Tryd.prog 30 #[.int .i64 tag, .int .i64 f] w fun e w' => e = .returned (twoV (whZ tag f)) ∧ Fr [] w w' := by
  have hp := place_any w hT tag f
  generalize whZ tag f = x at *
  obtain ⟨a, b⟩ := x
  unfold rowV at hp
  simp only at hp
  go_enter Tryd.func30, Tryd.ntmps30
  go_wp2_with fail
  refine hp.mono ?_
  rintro e w1 ⟨rfl, f1⟩
  go_wp2_with fail
  go_region
  go_wp2_with fail
  go_returns
  exact ⟨rfl, by repeat (first | exact f1 | apply Fr.alloc | apply Fr.drew | apply Fr.drewN | (refine Fr.setCell ?_ (Or.inr f1.size) _))⟩

end Go.Proofs.YtcagljjbiodcoaaDoor
