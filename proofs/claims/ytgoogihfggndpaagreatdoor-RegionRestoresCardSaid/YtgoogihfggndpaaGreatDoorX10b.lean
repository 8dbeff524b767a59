/- Package columbariumref10: Read, Write, Zero, Move. -/
import Derived.Test.YtgoogihfggndpaaGreatDoorX10
import Derived.Deep.RegionLaw
namespace Go.Proofs.YtgoogihfggndpaaGreatDoor
set_option linter.unusedVariables false
set_option linter.unusedSimpArgs false
open Go.RowKit

theorem RowB.sub {w : World} {g cap : Nat} {l : List Nat} (h : RowB w g cap l) (hb : ∀ b ∈ l, b < 256) (hl : l.length ≤ 1048576) (x m : Nat) (hE : x + m ≤ l.length) (o : Nat) (ho : m = 0 ∨ o = x) : Byt w (some ⟨g, o, none⟩) ((l.drop x).take m) := by
  refine ⟨fun i hi => ?_, fun b hm => hb b (List.mem_of_mem_drop (List.mem_of_mem_take hm)), by simp; omega⟩
  simp at hi
  refine ⟨g, o, rfl, ?_, h.lt⟩
  have : o = x := by omega
  rw [this, h.cell _ (by omega), List.getElem?_take_of_lt (by omega), List.getElem?_drop]

end Go.Proofs.YtgoogihfggndpaaGreatDoor
