/- Several texts in one. -/
import Derived.Test.YtmemoopkgjgmiaaGreatDoorGJ
import Derived.Deep.RegionLaw
import Derived.Test.YtmemoopkgjgmiaaGreatDoorGI
/- The document's slabs: Take of a free slab. -/
namespace Go.Proofs.YtmemoopkgjgmiaaGreatDoor
set_option linter.unusedVariables false
set_option linter.unusedSimpArgs false
open Go.RowKit

section
variable {w : World} {p gl a s : Nat} {B : List Nat} {S : SS}
end
end Go.Proofs.YtmemoopkgjgmiaaGreatDoor

/- The document's slabs: Take of a free slab. -/
namespace Go.Proofs.YtmemoopkgjgmiaaGreatDoor
set_option linter.unusedVariables false
set_option linter.unusedSimpArgs false
open Go.RowKit

section
variable {w : World} {p gl a s : Nat} {B : List Nat} {S : SS}
end
end Go.Proofs.YtmemoopkgjgmiaaGreatDoor

/- The document's slabs: Take, whole. -/
namespace Go.Proofs.YtmemoopkgjgmiaaGreatDoor
set_option linter.unusedVariables false
set_option linter.unusedSimpArgs false
open Go.RowKit

section
variable {w : World} {p gl a s : Nat} {B : List Nat} {S : SS}
end
end Go.Proofs.YtmemoopkgjgmiaaGreatDoor

/- The document's slabs: Is, Free, Room. -/
namespace Go.Proofs.YtmemoopkgjgmiaaGreatDoor
set_option linter.unusedVariables false
set_option linter.unusedSimpArgs false
open Go.RowKit

section
variable {w : World} {p gl a s : Nat} {B : List Nat} {S : SS}
end
end Go.Proofs.YtmemoopkgjgmiaaGreatDoor
