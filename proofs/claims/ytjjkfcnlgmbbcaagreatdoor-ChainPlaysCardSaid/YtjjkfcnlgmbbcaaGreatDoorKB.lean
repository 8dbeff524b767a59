/- Several texts in one. -/
import Derived.Test.YtjjkfcnlgmbbcaaGreatDoorKA
import Derived.Test.YtjjkfcnlgmbbcaaGreatDoorGI
namespace Go.Proofs.YtjjkfcnlgmbbcaaGreatDoor
set_option linter.unusedVariables false
set_option linter.unusedSimpArgs false
open Go.RowKit
section
variable {t u v : TM} {L L' : Nat → Prop} {E E' : Nat → HB} {R : List Nat} {b : Nat} {S : SS} {x n : Nat}
def LvP(S:SS)(x:Nat):Prop:= ∃n,Lv 7 S x n
end
end Go.Proofs.YtjjkfcnlgmbbcaaGreatDoor
