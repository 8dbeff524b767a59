/- Walks: ref09.Same where both are the same. -/
import Derived.Test.YtgoogihfggndpaaGreatDoorW11s
import Derived.Laws.StructEq
namespace Go.Proofs.YtgoogihfggndpaaGreatDoor
set_option linter.unusedVariables false
set_option linter.unusedSimpArgs false
open Go.RowKit

end Go.Proofs.YtgoogihfggndpaaGreatDoor
