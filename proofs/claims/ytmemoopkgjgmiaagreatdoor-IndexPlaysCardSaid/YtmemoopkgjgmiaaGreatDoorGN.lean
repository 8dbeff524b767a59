/- Several texts in one. -/
import Derived.Test.YtmemoopkgjgmiaaGreatDoorGA
import Derived.Test.YtmemoopkgjgmiaaGreatDoorGI
import Derived.Test.YtmemoopkgjgmiaaGreatDoorGJ
import Derived.Test.YtmemoopkgjgmiaaGreatDoorGM
import Derived.Test.YtmemoopkgjgmiaaGreatDoorGD
/- Runs of a memory with slabs: pieces that tile it, each joined to the last one if that is of its kind. Plain words. -/
namespace Go.Proofs.YtmemoopkgjgmiaaGreatDoor
set_option linter.unusedVariables false
set_option linter.unusedSimpArgs false
open Go.RowKit

end Go.Proofs.YtmemoopkgjgmiaaGreatDoor

/- The memory's slabs: which blocks are live, how much room there is, which runs. -/
namespace Go.Proofs.YtmemoopkgjgmiaaGreatDoor
set_option linter.unusedVariables false
set_option linter.unusedSimpArgs false
open Go.RowKit

section
variable {w : World} {q : MH} {t : TM} {S : SS} {B : Nat}
end
end Go.Proofs.YtmemoopkgjgmiaaGreatDoor

/- Package slab: Live, Room; the memory's runs. -/
namespace Go.Proofs.YtmemoopkgjgmiaaGreatDoor
set_option linter.unusedVariables false
set_option linter.unusedSimpArgs false
open Go.RowKit

section
variable {w : World} {q : MH} {t : TM} {S : SS} {B : Nat}
end
end Go.Proofs.YtmemoopkgjgmiaaGreatDoor
