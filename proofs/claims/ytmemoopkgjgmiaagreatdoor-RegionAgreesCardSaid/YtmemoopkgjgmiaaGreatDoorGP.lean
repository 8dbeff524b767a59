/- Several texts in one. -/
import Derived.Test.YtmemoopkgjgmiaaGreatDoorGA
import Derived.Lib.IndexMore
import Derived.Lib.Bytes
/- Bytes that lie somewhere in others: plain words, and the library's. -/
namespace Go.Proofs.YtmemoopkgjgmiaaGreatDoor
set_option linter.unusedVariables false
set_option linter.unusedSimpArgs false
open Go.RowKit

end Go.Proofs.YtmemoopkgjgmiaaGreatDoor
