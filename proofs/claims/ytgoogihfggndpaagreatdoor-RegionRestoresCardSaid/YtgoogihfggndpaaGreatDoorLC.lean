/- Several texts in one. -/
import Derived.Test.YtgoogihfggndpaaGreatDoorRows
import Derived.Test.YtgoogihfggndpaaGreatDoorGA
import Derived.WalkKit
import Derived.ProofKit
import Derived.OpenShut
import Derived.ShutString
import Derived.ChangeOld
import Derived.Below
import Derived.Test.YtgoogihfggndpaaGreatDoorLB
import Derived.Test.YtgoogihfggndpaaGreatDoorGD
import Derived.Test.YtgoogihfggndpaaGreatDoorGI
import Derived.Deep.RegionHeld3
import Derived.Test.YtgoogihfggndpaaGreatDoorGQ
/- Opening the acts of layer 16's statements. -/
namespace Go.Proofs.YtgoogihfggndpaaGreatDoor
open Go.ChangeShapes Go.WideShapes Go.ChangeAt Go.RowKit
set_option linter.unusedVariables false
set_option linter.unusedSimpArgs false

end Go.Proofs.YtgoogihfggndpaaGreatDoor

/- Layer 16: a memory behind acts. -/
namespace Go.Proofs.YtgoogihfggndpaaGreatDoor
set_option linter.unusedVariables false
set_option linter.unusedSimpArgs false
open Go.RowKit

section
variable {w0 wb W W' : World} {q : MH} {S : SS}
end
end Go.Proofs.YtgoogihfggndpaaGreatDoor

/- Layer 16: played. -/
namespace Go.Proofs.YtgoogihfggndpaaGreatDoor
set_option linter.unusedVariables false
set_option linter.unusedSimpArgs false
open Go.RowKit

end Go.Proofs.YtgoogihfggndpaaGreatDoor

/- Layer 16: the runs of a memory with slabs tile it, and tell each place's kind. -/
namespace Go.Proofs.YtgoogihfggndpaaGreatDoor
set_option linter.unusedVariables false
set_option linter.unusedSimpArgs false
open Go.RowKit

section
variable {t : TM} {S : SS}
end
end Go.Proofs.YtgoogihfggndpaaGreatDoor
