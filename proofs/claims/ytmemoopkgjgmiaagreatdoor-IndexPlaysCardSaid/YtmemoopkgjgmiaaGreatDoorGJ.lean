/- Several texts in one. -/
import Derived.Test.YtmemoopkgjgmiaaGreatDoorGA
import Derived.Test.YtmemoopkgjgmiaaGreatDoorGH
import Derived.Test.YtmemoopkgjgmiaaGreatDoorGB
import Derived.Test.YtmemoopkgjgmiaaGreatDoorGI
import Derived.Test.YtmemoopkgjgmiaaGreatDoorGD
import Derived.BigQuiet
import Derived.Deep.RegionLaw
/- The document's slabs in memory: rows of numbers that belong to it. -/
namespace Go.Proofs.YtmemoopkgjgmiaaGreatDoor
set_option linter.unusedVariables false
set_option linter.unusedSimpArgs false
open Go.RowKit

end Go.Proofs.YtmemoopkgjgmiaaGreatDoor

/- The document's classes: Size, Blocks. -/
namespace Go.Proofs.YtmemoopkgjgmiaaGreatDoor
set_option linter.unusedVariables false
set_option linter.unusedSimpArgs false
open Go.RowKit

section
variable {w : World}
end
end Go.Proofs.YtmemoopkgjgmiaaGreatDoor

/- The document's layout: Right, Runs, Base, SlabAt, Slab. -/
namespace Go.Proofs.YtmemoopkgjgmiaaGreatDoor
set_option linter.unusedVariables false
set_option linter.unusedSimpArgs false
open Go.RowKit

section
variable {w : World}
theorem OwnR.made {base g : Nat} {l : List Rn} {n : Nat} (hn : l.length = n) (hb : base ≤ g) (h : Blk w g 175 (rCells l).toArray) (hl : n ≤ 1048576) : OwnR w base (.slice (some ⟨g, 0, none⟩) n n) l := by
  subst hn
  refine ⟨by rw [rCells_len]; omega, .inr ⟨g, l.length, (rCells l).toArray, rfl, hb, h, Nat.le_refl _, by unfold maxLen; omega, by simp [rCells_len]; omega, ?_⟩⟩
  simp only [List.toList_toArray]
  exact List.take_of_length_le (by rw [rCells_len]; omega)
end
end Go.Proofs.YtmemoopkgjgmiaaGreatDoor

/- The document's layout: Base, SlabAt, Slab. -/
namespace Go.Proofs.YtmemoopkgjgmiaaGreatDoor
set_option linter.unusedVariables false
set_option linter.unusedSimpArgs false
open Go.RowKit

section
variable {w : World}
end
end Go.Proofs.YtmemoopkgjgmiaaGreatDoor

/- The document's slabs: Begin, Block. -/
namespace Go.Proofs.YtmemoopkgjgmiaaGreatDoor
set_option linter.unusedVariables false
set_option linter.unusedSimpArgs false
open Go.RowKit

section
variable {w : World} {p gl a s : Nat} {B : List Nat} {S : SS}
end
end Go.Proofs.YtmemoopkgjgmiaaGreatDoor

/- The document's slabs: one slab's rows; take. -/
namespace Go.Proofs.YtmemoopkgjgmiaaGreatDoor
set_option linter.unusedVariables false
set_option linter.unusedSimpArgs false
open Go.RowKit

section
variable {w w' : World} {p gl a s : Nat} {B S' : List Nat} {S : SS}
theorem SS.set_set (S : SS) (i c c' : Nat) (F F' L L' : List Nat) : (S.set i c F L).set i c' F' L' = S.set i c' F' L' := by
  unfold SS.set
  dsimp only
  rw [up_up, up_up, up_up]
end
end Go.Proofs.YtmemoopkgjgmiaaGreatDoor

/- The document's slabs: take. -/
namespace Go.Proofs.YtmemoopkgjgmiaaGreatDoor
set_option linter.unusedVariables false
set_option linter.unusedSimpArgs false
open Go.RowKit

theorem step_app {P : Program} {ops : Array Oper} {o : Oper} {a : Act} {w : World} {K : Act → World → Prop} {Q : Exit → Act → World → Prop} {E : Prop}
    (hg : o.guard = none) (s x : Operand) (t : TypeId) (hop : o.op = Op.call { callee := Callee.builtin Builtin.append, args := #[s, x], argTypes := #[t, t] }) (hty : o.type = t)
    (vs vx v' : Value) (w' : World) (hs : a.eval s = vs) (hx : a.eval x = vx) (hrun : (Builtin.append_ #[t, t] t #[vs, vx]).run P w = .ok v' w')
    (hK : K (a.put o.dst v') w') : if Region.wanted o (yielded ops a.tmps) = true then Oper.wp P o a w K Q else E := by
  have hw : Region.wanted o (yielded ops a.tmps) = true := by simp [Region.wanted, hg]
  rw [if_pos hw]
  subst hty
  unfold Oper.wp
  simp [execOp, hop, resolve, invoke, builtin, hs, hx, hrun, Result.andThen]
  exact hK
theorem cutG {G H : Prop} (f : G → H) (g : G) : H := f g
section
variable {w : World} {p gl a s : Nat} {B : List Nat} {S : SS}
end
end Go.Proofs.YtmemoopkgjgmiaaGreatDoor

/- The document's slabs: Take. -/
namespace Go.Proofs.YtmemoopkgjgmiaaGreatDoor
set_option linter.unusedVariables false
set_option linter.unusedSimpArgs false
open Go.RowKit

section
variable {w : World} {p gl a s : Nat} {B : List Nat} {S : SS}
end
end Go.Proofs.YtmemoopkgjgmiaaGreatDoor
