/- Opening the acts of layer 11's statements. -/
import Derived.Test.YtgkpbmgbaonbhaaRows
import Derived.Test.YtgkpbmgbaonbhaaLaw11b
import Derived.Test.YtgkpbmgbaonbhaaOpen
import Derived.WalkKit
import Derived.ProofKit
import Derived.OpenShut
import Derived.ShutString
import Derived.ChangeOld
import Derived.Below
namespace Go.Proofs.Ytgkpbmgbaonbhaa
open Go.ChangeShapes Go.WideShapes Go.ChangeAt Go.RowKit
open Go.ChangeMaps (open_string shut_string)
set_option linter.unusedVariables false

theorem own : ownKnob Try.prog.godebug = none := by kernel_rfl
theorem laidOut : laidOutB Try.prog = true := by kernel_rfl

theorem open_acts {H : Type} {enc : TypeId × Value → H} {w : World} {base : Nat} {spare : Nat → Bool} {held : Bool} {a : Option Addr} {len cap : Nat} {d : DataW H} {p : List MemPlace}
    (h : DataW.Trod enc Try.prog w base spare held 22 (.slice a len cap) d p) : len ≤ maxLen ∧ ∃ l, Acts w a len l := by
  obtain ⟨fuel, hf⟩ := h
  rcases open_slice_fields Try.underlying22 Try.underlying29 (by kernel_rfl) (by kernel_rfl) hf with hcs | ⟨ad, len', cap', hcs, hl, hm, hi⟩
  · simp [Value.cells] at hcs
    obtain ⟨rfl, rfl, rfl⟩ := hcs
    exact ⟨Nat.zero_le _, [], rfl, fun h => by omega⟩
  · simp [Value.cells] at hcs
    obtain ⟨rfl, rfl, rfl⟩ := hcs
    refine ⟨by omega, ?_⟩
    obtain ⟨b, off, spot⟩ := ad
    by_cases h0 : len = 0
    · subst h0; exact ⟨[], rfl, fun h => by omega⟩
    have hspot : spot = none := by
      obtain ⟨n, hf⟩ := hi 0 (by omega)
      obtain ⟨v0, y0, c0, t0⟩ := hf 0 _ rfl
      simpa [Addr.add] using World.cell?_spot c0
    subst hspot
    have hadd : ∀ n, (⟨b, off, none⟩ : Addr).add n = ⟨b, off + n, none⟩ := fun n => by unfold Addr.add; split <;> simp_all
    have hval : ∀ i, i < len → ∃ q : Int × Int × Int × Int, w.cell? ⟨b, off + i * 4, none⟩ = some (.int .i64 q.1) ∧ w.cell? ⟨b, off + i * 4 + 1, none⟩ = some (.int .i64 q.2.1) ∧ w.cell? ⟨b, off + i * 4 + 2, none⟩ = some (.int .i64 q.2.2.1) ∧ w.cell? ⟨b, off + i * 4 + 3, none⟩ = some (.int .i64 q.2.2.2) := by
      intro i him
      obtain ⟨n, hf⟩ := hi i him
      obtain ⟨v0, y0, c0, t0⟩ := hf 0 _ rfl
      obtain ⟨v1, y1, c1, t1⟩ := hf 1 _ rfl
      obtain ⟨v2, y2, c2, t2⟩ := hf 2 _ rfl
      obtain ⟨v3, y3, c3, t3⟩ := hf 3 _ rfl
      obtain ⟨q0, g0, _, _⟩ := DataW.trod_int Try.underlying3 t0
      obtain ⟨q1, g1, _, _⟩ := DataW.trod_int Try.underlying3 t1
      obtain ⟨q2, g2, _, _⟩ := DataW.trod_int Try.underlying3 t2
      obtain ⟨q3, g3, _, _⟩ := DataW.trod_int Try.underlying3 t3
      simp at g0 g1 g2 g3
      subst g0 g1 g2 g3
      rw [hadd] at c0 c1 c2 c3
      exact ⟨(q0, q1, q2, q3), c0, c1, c2, c3⟩
    obtain ⟨l, hl2, hp⟩ := list_of _ len hval
    refine ⟨l, hl2, fun _ => ⟨b, off, rfl, ?_, hp⟩⟩
    obtain ⟨q, c0, _⟩ := hval 0 (by omega)
    exact cell_lt c0

end Go.Proofs.Ytgkpbmgbaonbhaa
