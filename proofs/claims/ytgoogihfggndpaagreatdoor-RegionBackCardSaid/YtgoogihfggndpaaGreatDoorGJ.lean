/- Several texts in one. -/
import Derived.Test.YtgoogihfggndpaaGreatDoorGA
import Derived.Test.YtgoogihfggndpaaGreatDoorGH
import Derived.Test.YtgoogihfggndpaaGreatDoorGB
import Derived.Test.YtgoogihfggndpaaGreatDoorGI
import Derived.Test.YtgoogihfggndpaaGreatDoorGD
/- The document's slabs in memory: rows of numbers that belong to it. -/
namespace Go.Proofs.YtgoogihfggndpaaGreatDoor
set_option linter.unusedVariables false
set_option linter.unusedSimpArgs false
open Go.RowKit

end Go.Proofs.YtgoogihfggndpaaGreatDoor

/- The document's classes: Size, Blocks. -/
namespace Go.Proofs.YtgoogihfggndpaaGreatDoor
set_option linter.unusedVariables false
set_option linter.unusedSimpArgs false
open Go.RowKit

section
variable {w : World}
end
end Go.Proofs.YtgoogihfggndpaaGreatDoor

/- The document's layout: Right, Runs, Base, SlabAt, Slab. -/
namespace Go.Proofs.YtgoogihfggndpaaGreatDoor
set_option linter.unusedVariables false
set_option linter.unusedSimpArgs false
open Go.RowKit

section
variable {w : World}
/-- The document's parts of an arena but for the last one. -/
def rrun3 (a : Nat) : List Rn := [(0, 8, 1), (8, 120, 2), (128, 16 * a, 3)]
def rrun4 (a s : Nat) : List Rn := rrun3 a ++ [(128 + 16 * a, 4 * s, 4)]
def rpad (a s : Nat) : Nat := lbase a s - (128 + 16 * a + 4 * s)
def rrun5 (a s : Nat) : List Rn := if 0 < rpad a s then rrun4 a s ++ [(128 + 16 * a + 4 * s, rpad a s, 8)] else rrun4 a s
def rruns (a s : Nat) : List Rn := rrun5 a s ++ [(lbase a s, 1024 * a, 7)]
theorem OwnR.made {base g : Nat} {l : List Rn} {n : Nat} (hn : l.length = n) (hb : base ≤ g) (h : Blk w g 84 (rCells l).toArray) (hl : n ≤ 1048576) : OwnR w base (.slice (some ⟨g, 0, none⟩) n n) l := by
  subst hn
  refine ⟨by rw [rCells_len]; omega, .inr ⟨g, l.length, (rCells l).toArray, rfl, hb, h, Nat.le_refl _, by unfold maxLen; omega, by simp [rCells_len]; omega, ?_⟩⟩
  simp only [List.toList_toArray]
  exact List.take_of_length_le (by rw [rCells_len]; omega)
theorem ownR_base {w : World} {base base' : Nat} {v : Value} {l : List Rn} (hb : base ≤ base') (h : OwnR w base' v l) : OwnR w base v l := by
  obtain ⟨h1, h2⟩ := h
  refine ⟨h1, h2.imp id ?_⟩
  rintro ⟨g, cap, cs, e, hg, r⟩
  exact ⟨g, cap, cs, e, by omega, r⟩
theorem Blk.new2 (w : World) (o : Obj) (t : TypeId) (cs : Array Value) : Blk ((w.alloc o).alloc (.cells cs t)) (w.heap.size + 1) t cs := by
  have := Blk.new (w.alloc o) t cs
  rwa [World.size_alloc] at this
end
end Go.Proofs.YtgoogihfggndpaaGreatDoor

/- The document's layout: Base, SlabAt, Slab. -/
namespace Go.Proofs.YtgoogihfggndpaaGreatDoor
set_option linter.unusedVariables false
set_option linter.unusedSimpArgs false
open Go.RowKit

section
variable {w : World}
end
end Go.Proofs.YtgoogihfggndpaaGreatDoor

/- The document's slabs: Begin, Block. -/
namespace Go.Proofs.YtgoogihfggndpaaGreatDoor
set_option linter.unusedVariables false
set_option linter.unusedSimpArgs false
open Go.RowKit

section
variable {w : World} {p gl a s : Nat} {B : List Nat} {S : SS}
end
end Go.Proofs.YtgoogihfggndpaaGreatDoor

/- The document's slabs: one slab's rows; take. -/
namespace Go.Proofs.YtgoogihfggndpaaGreatDoor
set_option linter.unusedVariables false
set_option linter.unusedSimpArgs false
open Go.RowKit

section
variable {w w' : World} {p gl a s : Nat} {B S' : List Nat} {S : SS}
theorem SS.set_set (S : SS) (i c c' : Nat) (F F' L L' : List Nat) : (S.set i c F L).set i c' F' L' = S.set i c' F' L' := by
  unfold SS.set
  dsimp only
  rw [up_up, up_up, up_up]
end
end Go.Proofs.YtgoogihfggndpaaGreatDoor
