/- Heads as bytes, in plain words. -/
import Derived.Test.YtcagljjbiodcoaaDoorH13f
import Derived.Test.YtcagljjbiodcoaaDoorPut
namespace Go.Proofs.YtcagljjbiodcoaaDoor
set_option linter.unusedVariables false

def HB.encTo (x : HB) : Nat → List Nat
  | 0 => List.replicate (szZ x.tag) 0
  | k + 1 => putTo (x.encTo k) (whZ x.tag k).1 (x.num k) (whZ x.tag k).2
def HB.enc (x : HB) : List Nat := x.encTo 12
theorem encTo_len (x : HB) : ∀ k, (x.encTo k).length = szZ x.tag
  | 0 => by simp [HB.encTo]
  | k + 1 => by rw [HB.encTo, putTo_len, encTo_len x k]
theorem encTo_byte (x : HB) : ∀ k, ∀ b ∈ x.encTo k, b < 256
  | 0 => fun b hb => by rw [List.eq_of_mem_replicate hb]; decide
  | k + 1 => putTo_byte _ (encTo_byte x k) _ _ _
end Go.Proofs.YtcagljjbiodcoaaDoor
