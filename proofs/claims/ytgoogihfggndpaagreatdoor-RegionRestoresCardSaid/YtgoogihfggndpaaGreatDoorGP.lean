/- Several texts in one. -/
import Derived.Test.YtgoogihfggndpaaGreatDoorGA
import Derived.Lib.IndexMore
import Derived.Lib.Bytes
/- Bytes that lie somewhere in others: plain words, and the library's. -/
namespace Go.Proofs.YtgoogihfggndpaaGreatDoor
set_option linter.unusedVariables false
set_option linter.unusedSimpArgs false
open Go.RowKit

end Go.Proofs.YtgoogihfggndpaaGreatDoor
