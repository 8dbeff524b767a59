/- A row of strings that came in. -/
import Derived.Test.YtellbfamofilaaaGreatDoorRows
import Derived.Test.YtellbfamofilaaaGreatDoorGA
import Derived.WalkKit
import Derived.ProofKit
import Derived.OpenShut
import Derived.ShutString
import Derived.ChangeOld
import Derived.Below
namespace Go.Proofs.YtellbfamofilaaaGreatDoor
open Go.ChangeShapes Go.WideShapes Go.ChangeAt Go.RowKit
set_option linter.unusedVariables false
set_option linter.unusedSimpArgs false

theorem strOf_of' (s : ByteArray) : strOf (s.data.toList.map UInt8.toNat) = s := by
  unfold strOf
  rw [List.map_map]
  have : ∀ l : List UInt8, l.map (UInt8.ofNat ∘ UInt8.toNat) = l := fun l => by
    induction l with
    | nil => rfl
    | cons x l ih => simp [ih]
  rw [this]
/-- A slice at a reads as these strings. -/
structure StrA (w : World) (a : Option Addr) (l : List (List Nat)) : Prop where
  at_ : ∀ i, i < l.length → ∃ g o, a = some ⟨g, o, none⟩ ∧ w.cell? ⟨g, o + i, none⟩ = some (.string (strOf (l[i]?.getD []))) ∧ g < w.heap.size
  lt : ∀ s ∈ l, ∀ b ∈ s, b < 256
  each : ∀ s ∈ l, s.length ≤ 9223372036854775807
  len : l.length ≤ 9223372036854775807
theorem StrA.fr {w w' : World} {a : Option Addr} {l : List (List Nat)} (h : StrA w a l) (hf : Fr [] w w') : StrA w' a l :=
  ⟨fun i hi => by
    obtain ⟨g, o, ha, hc, hg⟩ := h.at_ i hi
    exact ⟨g, o, ha, (hf.cell (p := ⟨g, o + i, none⟩) hg (by simp)).trans hc, Nat.lt_of_lt_of_le hg hf.size⟩, h.lt, h.each, h.len⟩
end Go.Proofs.YtellbfamofilaaaGreatDoor
