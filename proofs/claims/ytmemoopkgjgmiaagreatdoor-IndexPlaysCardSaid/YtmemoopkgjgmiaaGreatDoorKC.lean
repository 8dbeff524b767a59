/- Several texts in one. -/
import Derived.Test.YtmemoopkgjgmiaaGreatDoorGG
/- head.lying, touched, Load of a tag, Get: at any place. -/
namespace Go.Proofs.YtmemoopkgjgmiaaGreatDoor
set_option linter.unusedVariables false
set_option linter.unusedSimpArgs false
open Go.RowKit

section
variable {w : World} {q : MH} {t : TM}
theorem kindL_some {ks : List Nat} {x : Int} (h : kindL ks x 4 ≠ 0) : 0 ≤ x ∧ x + 4 ≤ 4 * ks.length := by
  unfold kindL at h
  split at h
  · exact absurd rfl h
  · next hc =>
    have hf : fitsB (4 * ks.length) x 4 = true := by
      cases hb : fitsB (4 * ks.length) x 4
      · exact absurd (.inr hb) hc
      · rfl
    unfold fitsB at hf
    simp at hf
    omega
end
end Go.Proofs.YtmemoopkgjgmiaaGreatDoor

/- head.Get at any place. -/
namespace Go.Proofs.YtmemoopkgjgmiaaGreatDoor
set_option linter.unusedVariables false
set_option linter.unusedSimpArgs false
open Go.RowKit

def zHB : HB := { tag := 0, cls := 0, used := false, label := 0, name := 0, next := 0, prev := 0, refs := 0, expiry := 0, typ := 0, size := 0, hash := 0 }
end Go.Proofs.YtmemoopkgjgmiaaGreatDoor
