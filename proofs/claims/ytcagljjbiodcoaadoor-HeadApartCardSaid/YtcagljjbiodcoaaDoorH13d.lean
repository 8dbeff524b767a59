/- Which heads may be: number, lacks, Right (head's and the document's). -/
import Derived.Test.YtcagljjbiodcoaaDoorH13c
namespace Go.Proofs.YtcagljjbiodcoaaDoor
set_option linter.unusedVariables false
open Go.RowKit

def HB.num (x : HB) (f : Nat) : Nat := x.nums[f]?.getD 0

end Go.Proofs.YtcagljjbiodcoaaDoor
