/- Several texts in one. -/
import Derived.Test.YtgoogihfggndpaaGreatDoorGI
import Derived.Test.YtgoogihfggndpaaGreatDoorGP
import Derived.Test.YtgoogihfggndpaaGreatDoorGA
import Derived.Test.YtgoogihfggndpaaGreatDoorGN
/- Slabs whose live blocks hold a text: what a memory has. Plain words and contracts. -/
namespace Go.Proofs.YtgoogihfggndpaaGreatDoor
set_option linter.unusedVariables false
set_option linter.unusedSimpArgs false
open Go.RowKit

section
variable {wb W W' : World} {q : MH} {z : TM} {S : SS} {P : Nat → Prop}
end
end Go.Proofs.YtgoogihfggndpaaGreatDoor

/- What a memory with slabs has among its bytes; where free blocks lie. Plain words. -/
namespace Go.Proofs.YtgoogihfggndpaaGreatDoor
set_option linter.unusedVariables false
set_option linter.unusedSimpArgs false
open Go.RowKit

theorem FrL.by_ {t : TM} {s : Nat} : ∀ {l : List Nat}, FrL t s l → ∀ x ∈ l, ∃ n, ByOn t x s (lnkB n) ∧ (n = 0 ∨ n ∈ l)
  | [], _, x, hx => by cases hx
  | y :: l, h, x, hx => by
    rcases List.mem_cons.1 hx with rfl | hx
    · refine ⟨l.headD 0, h.2.1, ?_⟩
      rcases l with _ | ⟨z, l⟩
      · exact .inl rfl
      · exact .inr (by simp)
    · obtain ⟨n, h1, h2⟩ := FrL.by_ h.2.2 x hx
      exact ⟨n, h1, h2.imp id (List.mem_cons_of_mem _)⟩
end Go.Proofs.YtgoogihfggndpaaGreatDoor
