/- Package num: widths, places, numbers that lie in bytes. -/
import Derived.Test.YtcagljjbiodcoaaDoorChecked
import Derived.Test.YtcagljjbiodcoaaDoorBytes
import Derived.WalkKit
import Derived.ProofKit
import Derived.BigQuiet
import Derived.Handy
namespace Go.Proofs.YtcagljjbiodcoaaDoor
set_option linter.unusedVariables false
open Go.RowKit

def widB (w : Int) : Bool := w == 1 || w == 2 || w == 4 || w == 8
theorem width_any (w : World) (n : Int) : Calls Tryd.prog 117 #[.int .i64 n] w fun e w' => e = .returned (.bool (widB n)) ∧ w' = w := by
  by_cases h0 : 0 < n
  · by_cases h1 : n ≤ 8
    · obtain ⟨k, rfl⟩ : ∃ k : Nat, n = k := ⟨n.toNat, by omega⟩
      rcases k with _ | _ | _ | _ | _ | _ | _ | _ | _ | k <;> try omega
      all_goals
        go_enter Tryd.func117, Tryd.ntmps117
        go_wp2
        go_ret
        exact ⟨rfl, rfl⟩
    · have h2 : decide (0 < n) = true := by simpa using h0
      have h3 : decide (n ≤ 8) = false := by simpa using h1
      have h4 : widB n = false := by simp [widB]; omega
      rw [h4]
      clear h4
      go_enter Tryd.func117, Tryd.ntmps117
      go_wp2
      go_ret
      exact ⟨rfl, rfl⟩
  · have h2 : decide (0 < n) = false := by simpa using h0
    have h4 : widB n = false := by simp [widB]; omega
    rw [h4]
    clear h4
    go_enter Tryd.func117, Tryd.ntmps117
    go_wp2
    go_ret
    exact ⟨rfl, rfl⟩

theorem divides_any (w : World) (k : Nat) (n : Int) (hk : 0 < k) (h0 : 0 ≤ n) : Calls Tryd.prog 126 #[.int .i64 k, .int .i64 n] w fun e w' => e = .returned (.bool (n % k == 0)) ∧ w' = w := by
  have h1 : ((k : Int) == 0) = false := by simp; omega
  have h2 : (0 : Int) < k := by omega
  go_enter Tryd.func126, Tryd.ntmps126
  go_wp2
  go_ret
  exact ⟨rfl, rfl⟩

/-- Why a number of w bytes can't lie at place x of n bytes. -/
def placeE (n x w : Int) : Nat := if widB w = false then 2 else if x < 0 ∨ n < x ∨ n - x < w then 6 else if x % w ≠ 0 then 9 else 0
theorem widB_cases {n : Int} (h : widB n = true) : ∃ k : Nat, n = k ∧ (k = 1 ∨ k = 2 ∨ k = 4 ∨ k = 8) := by
  simp [widB] at h
  exact ⟨n.toNat, by omega, by omega⟩

theorem place_e (w : World) (n : Nat) (x wd : Int) (hn : n ≤ 1099511627776) : Calls Tryd.prog 116 #[.int .i64 n, .int .i64 x, .int .i64 wd] w fun e w' => e = .returned (.int .i64 (placeE n x wd)) ∧ w' = w := by
  have hw := fun w => width_any w wd
  unfold placeE
  rcases hB : widB wd with _ | _
  · rw [if_pos rfl]
    rw [hB] at hw
    clear hB
    go_enter Tryd.func116, Tryd.ntmps116
    go_wp2_with (go_at_call 117; refine (hw _).mono ?_; rintro e w' ⟨rfl, rfl⟩)
    go_ret
    exact ⟨rfl, rfl⟩
  · obtain ⟨k, rfl, hk⟩ := widB_cases hB
    have hk0 : 0 < k := by omega
    rw [hB] at hw
    rw [if_neg (by simp)]
    clear hB
    by_cases h0 : x < 0
    · have b0 : decide (x < 0) = true := by simpa using h0
      rw [if_pos (by omega)]
      go_enter Tryd.func116, Tryd.ntmps116
      go_wp2_with (go_at_call 117; refine (hw _).mono ?_; rintro e w' ⟨rfl, rfl⟩)
      go_ret
      exact ⟨rfl, rfl⟩
    have b0 : decide (x < 0) = false := by simpa using h0
    by_cases h1 : (n : Int) < x
    · have b1 : decide ((n : Int) < x) = true := by simpa using h1
      rw [if_pos (by omega)]
      go_enter Tryd.func116, Tryd.ntmps116
      go_wp2_with (go_at_call 117; refine (hw _).mono ?_; rintro e w' ⟨rfl, rfl⟩)
      go_ret
      exact ⟨rfl, rfl⟩
    have b1 : decide ((n : Int) < x) = false := by simpa using h1
    have hs : IntKind.i64.wrap (n - x) = n - x := IntWalk.i64_in _ (by omega)
    by_cases h2 : (n : Int) - x < k
    · have b2 : decide ((n : Int) - x < k) = true := by simpa using h2
      rw [if_pos (by omega)]
      go_enter Tryd.func116, Tryd.ntmps116
      go_wp2_with (go_at_call 117; refine (hw _).mono ?_; rintro e w' ⟨rfl, rfl⟩)
      go_ret
      exact ⟨rfl, rfl⟩
    have b2 : decide ((n : Int) - x < k) = false := by simpa using h2
    rw [if_neg (by omega)]
    have hd := fun w => divides_any w k x hk0 (by omega)
    by_cases h3 : x % k = 0
    · rw [if_neg (by omega)]
      have b3 : (x % k == 0) = true := by simpa using h3
      rw [b3] at hd
      clear b3 h3
      go_enter Tryd.func116, Tryd.ntmps116
      go_wp2_with (first | (go_at_call 117; refine (hw _).mono ?_; rintro e w' ⟨rfl, rfl⟩) | (go_at_call 126; refine (hd _).mono ?_; rintro e w' ⟨rfl, rfl⟩))
      go_ret
      exact ⟨rfl, rfl⟩
    · rw [if_pos h3]
      have b3 : (x % k == 0) = false := by simpa using h3
      rw [b3] at hd
      clear b3 h3
      go_enter Tryd.func116, Tryd.ntmps116
      go_wp2_with (first | (go_at_call 117; refine (hw _).mono ?_; rintro e w' ⟨rfl, rfl⟩) | (go_at_call 126; refine (hd _).mono ?_; rintro e w' ⟨rfl, rfl⟩))
      go_ret
      exact ⟨rfl, rfl⟩
end Go.Proofs.YtcagljjbiodcoaaDoor
