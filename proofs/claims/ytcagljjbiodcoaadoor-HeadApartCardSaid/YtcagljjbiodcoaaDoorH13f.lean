/- Right: head's. -/
import Derived.Test.YtcagljjbiodcoaaDoorH13e
import Derived.Deep.Light
namespace Go.Proofs.YtcagljjbiodcoaaDoor
set_option linter.unusedVariables false
open Go.RowKit

def rightT (tag cls label : Int) (used : Bool) : Bool :=
  if tag = 0 then decide (cls = 0) && !used && decide (label = 0)
     else decide (1 ≤ cls ∧ cls ≤ 9) && if tag = 1 then decide (label = 0) else !used && decide (1 ≤ label ∧ label ≤ 63)
def HB.right (x : HB) : Bool :=
  decide (0 ≤ x.tag ∧ x.tag ≤ 2 ∧ 0 ≤ x.size ∧ x.size ≤ 480) && !x.lackTo 12 && rightT x.tag x.cls x.label x.used

theorem ret_bool {a b : Bool} (h : a = b) : Ending.returned (.bool a) = .returned (.bool b) := by rw [h]

set_option maxRecDepth 100000 in
set_option maxHeartbeats 8000000 in
theorem right_in (w : World) (tag cls size label : Int) (used : Bool) (name next prev refs expiry typ hash : Nat) (ht : tag = 0 ∨ tag = 1 ∨ tag = 2) (h2 : 0 ≤ size) (h3 : size ≤ 480)
    (hl : ∀ W, Tabs W → Calls Tryd.prog 62 #[.agg #[.int .i64 tag, .int .i64 cls, .bool used, .int .i64 label, .int .u32 name, .int .u32 next, .int .u32 prev, .int .u32 refs, .int .u64 expiry, .int .u16 typ, .int .i64 size, .int .u32 hash]] W fun e w' => e = .returned (.bool false) ∧ Fr [] W w') (hT : Tabs w) :
    Calls Tryd.prog 25 #[.agg #[.int .i64 tag, .int .i64 cls, .bool used, .int .i64 label, .int .u32 name, .int .u32 next, .int .u32 prev, .int .u32 refs, .int .u64 expiry, .int .u16 typ, .int .i64 size, .int .u32 hash]] w fun e w' => e = .returned (.bool (rightT tag cls label used)) ∧ Fr [] w w' := by
  have hi := fun w => is_any w tag
  have hr : ∃ r, r = rightT tag cls label used := ⟨_, rfl⟩
  obtain ⟨r, hr⟩ := hr
  rw [← hr]
  have HR := Lib.hid hr
  clear hr
  have b2 : decide (size < 0) = false := by simp; omega
  have b3 : decide (480 < size) = false := by simp; omega
  rcases ht with rfl | rfl | rfl
  all_goals
    first | rw [show (decide (0 ≤ (0 : Int)) && decide ((0 : Int) < 3)) = true from rfl] at hi | rw [show (decide (0 ≤ (1 : Int)) && decide ((1 : Int) < 3)) = true from rfl] at hi | rw [show (decide (0 ≤ (2 : Int)) && decide ((2 : Int) < 3)) = true from rfl] at hi
    go_enter Tryd.func25, Tryd.ntmps25
    go_wp2_with (go_at_call 61; refine (hi _).mono ?_; rintro e w' ⟨rfl, rfl⟩)
    with_reducible refine (hl _ (hT.alloc _)).mono ?_
    rintro e w1 ⟨rfl, f1⟩
    have c0 := f1.cell (p := ⟨w.heap.size, 0, none⟩) (by simp) (by simp)
    have c1 := f1.cell (p := ⟨w.heap.size, 1, none⟩) (by simp) (by simp)
    have c2 := f1.cell (p := ⟨w.heap.size, 2, none⟩) (by simp) (by simp)
    have c3 := f1.cell (p := ⟨w.heap.size, 3, none⟩) (by simp) (by simp)
    simp at c0 c1 c2 c3
    have f2 : Fr [] w w1 := ((Fr.refl [] w).alloc _).trans f1
    clear f1 hl hi
    go_wp2_with fail
    all_goals
      go_returns
      refine ⟨ret_bool ?_, f2⟩
      go_light
      rw [HR.out, rightT]
      clear HR c0 c1 c2 c3 f2 hT
      rw [Bool.eq_iff_iff]
      cases used <;> first | (simp_all; done) | (simp_all; omega) | (simp; omega)

set_option maxRecDepth 100000 in
set_option maxHeartbeats 8000000 in
theorem right_any (w : World) (hT : Tabs w) (x : HB) (hx : x.Ok) :
    Calls Tryd.prog 25 #[x.val] w fun e w' => e = .returned (.bool x.right) ∧ Fr [] w w' := by
  have hi := fun w => is_any w x.tag
  have hl : ∀ W, Tabs W → Calls Tryd.prog 62 #[x.val] W fun e w' => e = .returned (.bool (x.lackTo 12)) ∧ Fr [] W w' := fun W h => lacks_any W h x hx
  have hr : x.right = x.right := rfl
  conv at hr => rhs; unfold HB.right
  generalize x.right = r at *
  generalize x.lackTo 12 = L at *
  obtain ⟨tag, cls, used, label, name, next, prev, refs, expiry, typ, size, hash⟩ := x
  simp only [HB.val, HB.cells] at *
  by_cases ht : 0 ≤ tag ∧ tag ≤ 2
  · have b1 : (decide (0 ≤ tag) && decide (tag < 3)) = true := by simp; omega
    by_cases h2 : size < 0
    · have b2 : decide (size < 0) = true := by simpa using h2
      have hr2 : r = false := by rw [hr]; simp; omega
      rw [hr2]
      rw [b1] at hi
      clear hr hr2 ht hl
      go_enter Tryd.func25, Tryd.ntmps25
      go_wp2_with (go_at_call 61; refine (hi _).mono ?_; rintro e w' ⟨rfl, rfl⟩)
      go_returns
      exact ⟨rfl, by repeat (first | exact Fr.refl _ _ | apply Fr.alloc | apply Fr.drew | apply Fr.drewN | (refine Fr.setCell ?_ (Or.inr (by simp)) _))⟩
    · have b2 : decide (size < 0) = false := by simpa using h2
      by_cases h3 : 480 < size
      · have b3 : decide (480 < size) = true := by simpa using h3
        have hr2 : r = false := by rw [hr]; simp; omega
        rw [hr2]
        rw [b1] at hi
        clear hr hr2 ht hl
        go_enter Tryd.func25, Tryd.ntmps25
        go_wp2_with (go_at_call 61; refine (hi _).mono ?_; rintro e w' ⟨rfl, rfl⟩)
        go_returns
        exact ⟨rfl, by repeat (first | exact Fr.refl _ _ | apply Fr.alloc | apply Fr.drew | apply Fr.drewN | (refine Fr.setCell ?_ (Or.inr (by simp)) _))⟩
      · cases L
        · have : r = rightT tag cls label used := by rw [hr]; simp; omega
          rw [this]
          exact right_in w tag cls size label used name next prev refs expiry typ hash (by omega) (by omega) (by omega) hl hT
        · have b3 : decide (480 < size) = false := by simpa using h3
          have hr2 : r = false := by rw [hr]; simp
          rw [hr2]
          rw [b1] at hi
          clear hr hr2 ht
          go_enter Tryd.func25, Tryd.ntmps25
          go_wp2_with (go_at_call 61; refine (hi _).mono ?_; rintro e w' ⟨rfl, rfl⟩)
          with_reducible refine (hl _ (hT.alloc _)).mono ?_
          rintro e w1 ⟨rfl, f1⟩
          have f2 : Fr [] w w1 := ((Fr.refl [] w).alloc _).trans f1
          clear f1 hl hi
          go_wp2_with fail
          go_returns
          exact ⟨rfl, f2⟩
  · have b1 : (decide (0 ≤ tag) && decide (tag < 3)) = false := by simp; omega
    have hr2 : r = false := by rw [hr]; simp; omega
    rw [hr2]
    rw [b1] at hi
    clear hr hr2 ht hl
    go_enter Tryd.func25, Tryd.ntmps25
    go_wp2_with (go_at_call 61; refine (hi _).mono ?_; rintro e w' ⟨rfl, rfl⟩)
    go_returns
    exact ⟨rfl, by repeat (first | exact Fr.refl _ _ | apply Fr.alloc | apply Fr.drew | apply Fr.drewN | (refine Fr.setCell ?_ (Or.inr (by simp)) _))⟩
end Go.Proofs.YtcagljjbiodcoaaDoor
