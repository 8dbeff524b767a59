/- Right: the document's, whole. -/
import Derived.Test.YtagnelfnjlfhnaaDoorH13h
namespace Go.Proofs.YtagnelfnjlfhnaaDoor
set_option linter.unusedVariables false
open Go.RowKit

set_option maxRecDepth 100000 in
set_option maxHeartbeats 8000000 in
theorem xright_any (w : World) (x : HB) (hx : x.Ok) :
    Calls Tryd.prog 14 #[x.val] w fun e w' => e = .returned (.bool x.right) ∧ Fr [] w w' := by
  by_cases h : (0 ≤ x.tag ∧ x.tag ≤ 2) ∧ (0 ≤ x.size ∧ x.size ≤ 480)
  · have := xright_in w x hx h.1 h.2
    have e : x.right = (!x.lackTo 12 && rightT x.tag x.cls x.label x.used) := by
      rw [HB.right, show decide (0 ≤ x.tag ∧ x.tag ≤ 2 ∧ 0 ≤ x.size ∧ x.size ≤ 480) = true by simp; omega, Bool.true_and]
    rwa [e]
  · have e : x.right = false := by
      rw [HB.right, show decide (0 ≤ x.tag ∧ x.tag ≤ 2 ∧ 0 ≤ x.size ∧ x.size ≤ 480) = false by simp; omega, Bool.false_and, Bool.false_and]
    rw [e]
    clear e hx
    obtain ⟨tag, cls, used, label, name, next, prev, refs, expiry, typ, size, hash⟩ := x
    simp only [HB.val, HB.cells] at *
    by_cases h0 : tag < 0
    · have b0 : decide (tag < 0) = true := by simpa using h0
      clear h
      go_enter Tryd.func14, Tryd.ntmps14
      go_wp2_with fail
      go_returns
      exact ⟨rfl, by repeat (first | exact Fr.refl _ _ | apply Fr.alloc | apply Fr.drew | apply Fr.drewN | (refine Fr.setCell ?_ (Or.inr (by simp)) _))⟩
    have b0 : decide (tag < 0) = false := by simpa using h0
    by_cases h1 : 2 < tag
    · have b1 : decide (2 < tag) = true := by simpa using h1
      clear h
      go_enter Tryd.func14, Tryd.ntmps14
      go_wp2_with fail
      go_returns
      exact ⟨rfl, by repeat (first | exact Fr.refl _ _ | apply Fr.alloc | apply Fr.drew | apply Fr.drewN | (refine Fr.setCell ?_ (Or.inr (by simp)) _))⟩
    have b1 : decide (2 < tag) = false := by simpa using h1
    by_cases h2 : size < 0
    · have b2 : decide (size < 0) = true := by simpa using h2
      clear h
      go_enter Tryd.func14, Tryd.ntmps14
      go_wp2_with fail
      go_returns
      exact ⟨rfl, by repeat (first | exact Fr.refl _ _ | apply Fr.alloc | apply Fr.drew | apply Fr.drewN | (refine Fr.setCell ?_ (Or.inr (by simp)) _))⟩
    have b2 : decide (size < 0) = false := by simpa using h2
    have b3 : decide (480 < size) = true := by simp; omega
    clear h
    go_enter Tryd.func14, Tryd.ntmps14
    go_wp2_with fail
    go_returns
    exact ⟨rfl, by repeat (first | exact Fr.refl _ _ | apply Fr.alloc | apply Fr.drew | apply Fr.drewN | (refine Fr.setCell ?_ (Or.inr (by simp)) _))⟩
end Go.Proofs.YtagnelfnjlfhnaaDoor
