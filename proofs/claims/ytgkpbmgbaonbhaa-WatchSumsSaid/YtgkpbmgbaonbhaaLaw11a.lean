/- Walks: what the statements of layer 11 ask beside: the page's example ('watches'). -/
import Derived.Test.YtgkpbmgbaonbhaaL11
namespace Go.Proofs.Ytgkpbmgbaonbhaa
set_option linter.unusedVariables false
open Go.RowKit

theorem sum_all (w : World) (p b : Nat) (ks : List Nat) (lk ft k : Int) (h : IsW w p b ks lk ft) :
    Calls Try.prog 15 #[.pointer (some ⟨p, 0, none⟩), .int .i64 k] w fun e w' => e = .returned (.int .i64 (sumL ks k)) ∧ Fr [] w w' := callsIn_wide.1 (sum_in 4 (by omega) w p b ks lk ft k h)
theorem runs_all (w : World) (p b : Nat) (ks : List Nat) (lk ft : Int) (h : IsW w p b ks lk ft) :
    Calls Try.prog 22 #[.pointer (some ⟨p, 0, none⟩)] w fun e w' => ∃ v, e = .returned v ∧ w'.ownsRow w.heap.size 48 3 v (runs ks).length (xCells ((runs ks).map scale4)) ∧ Fr [] w w' :=
  (callsIn_wide.1 (runs_in 4 (by omega) w p b ks lk ft h)).mono fun e w' ⟨v, h1, h2, h3⟩ => ⟨v, h1, runCells_x _ ▸ h2, h3⟩

theorem markE_ok (sz : Nat) (x y k : Int) (h : markE sz x y k = 0) : (0 ≤ k ∧ k ≤ 8) ∧ (0 ≤ x ∧ 0 ≤ y ∧ x ≤ sz ∧ y ≤ sz - x) ∧ x % 4 = 0 ∧ y % 4 = 0 := by
  unfold markE at h
  split at h
  · cases h
  · split at h
    · cases h
    · split at h
      · cases h
      · rename_i h1 h2 h3
        have hB : fitsB sz x y = true := by cases hf : fitsB sz x y <;> simp_all
        unfold fitsB at hB
        simp at hB
        omega

theorem ks_ex : setR (List.replicate 4 0) 1 3 5 = [0, 5, 5, 0] := by decide

set_option maxHeartbeats 2000000 in
theorem watches_any (w : World) : Calls Try.prog 8 #[] w fun e w' => e = .returned (.bool true) ∧ Below w.heap.size w w' := by
  go_enter Try.func8, Try.ntmps8
  go_wp2_with fail
  refine (new_yes w 4 (by omega) (by omega)).mono ?_
  rintro e w1 ⟨p, b, rfl, h1, hp, hb, f1⟩
  go_wp2_with fail
  refine (mark_ok w1 p b _ _ _ 4 8 1 3 5 h1 (by omega) (by simp) (by omega) (by omega) (by omega)).mono ?_
  rintro e w2 ⟨rfl, h2, f2⟩
  rw [ks_ex] at h2
  have hm1 := look_some w2 p b _ _ _ 8 4 5 h2 (by omega) (by omega) (by omega) (by omega)
  rw [show mayL [0, 5, 5, 0] 8 4 5 = true by decide] at hm1
  go_wp2_with fail
  refine hm1.mono ?_
  rintro e w3 ⟨rfl, h3, f3⟩
  clear hm1
  have hm1 := look_some w3 p b _ _ _ 8 8 5 h3 (by omega) (by omega) (by simp) (by simp)
  rw [show mayL [0, 5, 5, 0] 8 8 5 = false by decide] at hm1
  go_wp2_with fail
  refine hm1.mono ?_
  rintro e w4 ⟨rfl, h4, f4⟩
  clear hm1
  go_wp2_with fail
  refine (runs_all w4 p b _ _ _ h4).mono ?_
  rintro e w5 ⟨v, rfl, h5, f5⟩
  have h6 := h4.fr f5 (by simp) (by simp)
  rw [show runs [0, 5, 5, 0] = [(0, 1, 0), (1, 2, 5), (3, 1, 0)] by decide] at h5
  obtain ⟨g, cap, rfl⟩ := ownsRow_succ h5
  have c1 : w5.cell? ⟨g, 3, none⟩ = some (.int .i64 4) := by rw [h5.cellAt 3 (by decide)]; rfl
  have c2 : w5.cell? ⟨g, 4, none⟩ = some (.int .i64 8) := by rw [h5.cellAt 4 (by decide)]; rfl
  have c3 : w5.cell? ⟨g, 5, none⟩ = some (.int .i64 5) := by rw [h5.cellAt 5 (by decide)]; rfl
  have l1 := looks_some w5 p b _ _ _ h6
  have l2 := faults_some w5 p b _ _ _ h6
  have l3 := sum_all w5 p b _ _ _ 5 h6
  rw [show sumL [0, 5, 5, 0] 5 = 8 by decide] at l3
  go_wp2_with (first | (go_at_call 19; refine l1.mono ?_; rintro e w' ⟨rfl, rfl⟩) | (go_at_call 20; refine l2.mono ?_; rintro e w' ⟨rfl, rfl⟩) | (go_at_call 15; fail))
  refine l3.mono ?_
  rintro e w6 ⟨rfl, f6⟩
  have l4 := kind_all w6 p b _ _ _ 4 8 (h6.fr f6 (by simp) (by simp))
  rw [show kindL [0, 5, 5, 0] 4 8 = 5 by decide] at l4
  go_wp2_with (go_at_call 13; refine l4.mono ?_; rintro e w' ⟨rfl, rfl⟩)
  go_ret
  refine ⟨rfl, ?_⟩
  exact ((((((f1.step f2 (by simp; omega)).step f3 (by simp; omega)).step f4 (by simp; omega)).step f5 (by simp)).step f6 (by simp))).below (Nat.le_refl _) (by simp)
end Go.Proofs.Ytgkpbmgbaonbhaa
