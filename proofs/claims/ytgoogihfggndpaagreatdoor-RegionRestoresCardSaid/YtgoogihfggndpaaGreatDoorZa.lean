/- Which config may be: any numbers. -/
import Derived.Test.YtgoogihfggndpaaGreatDoorGB
import Derived.Test.YtgoogihfggndpaaGreatDoorGJ
import Derived.BigQuiet
namespace Go.Proofs.YtgoogihfggndpaaGreatDoor
set_option linter.unusedVariables false
set_option linter.unusedSimpArgs false
open Go.RowKit

/-- May a config be? -/
def CfZ (a s : Int) : Prop := 7 ≤ a ∧ a ≤ 64 ∧ s % 2 = 0 ∧ 32 * a ≤ s ∧ s ≤ 8192
theorem CfZ.nat {a s : Int} (h : CfZ a s) : ∃ x y : Nat, a = x ∧ s = y ∧ Cfg x y := by
  obtain ⟨h1, h2, h3, h4, h5⟩ := h
  exact ⟨a.toNat, s.toNat, by omega, by omega, ⟨by omega, by omega, by omega, by omega, by omega⟩⟩
theorem tmod2 (s : Int) : (s.tmod 2 == 0) = (s % 2 == 0) := by
  rw [Bool.eq_iff_iff, beq_iff_eq, beq_iff_eq]
  have := Int.tmod_eq_emod (a := s) (b := 2)
  split at this <;> omega
section
variable {w : World}
set_option maxRecDepth 100000 in
set_option maxHeartbeats 2000000 in
theorem lright_no (hM : TabM w) (a s : Int) (hc : ¬ CfZ a s) : Calls Tryz.prog 95 #[.agg #[.int .i64 a, .int .i64 s]] w fun e w' => e = .returned (.bool false) ∧ Fr [] w w' := by
  have hE : ∀ w, (Op.equalIn 10000 23 (.agg #[.int .i64 a, .int .i64 s]) (.agg #[.int .i64 0, .int .i64 0])).run Tryz.prog w = .ok (a == 0 && s == 0) w := fun w => by
    rw [eq_cfg]
  have hB := fun n => blocks_1 ((w.alloc (.cells #[.int .i64 a, .int .i64 s] 23)).drewN n) ((hM.alloc _).fr ((Fr.refl [] _).drewN n) (by simp))
  have ht := tmod2 s
  by_cases h0 : a = 0 ∧ s = 0
  · obtain ⟨rfl, rfl⟩ := h0
    have e0 : (((0 : Int) == 0) && ((0 : Int) == 0)) = true := by simp
    rw [e0] at hE
    clear hc hB ht
    go_enter Tryz.func95, Tryz.ntmps95
    go_wp2_with fail
    go_ret
    exact ⟨rfl, (Fr.refl [] w).alloc _⟩
  · have e0 : ((a == 0) && (s == 0)) = false := by
      rw [Bool.and_eq_false_iff]
      simp only [beq_eq_false_iff_ne, ne_eq]
      omega
    rw [e0] at hE
    by_cases h1 : a < 7
    · have b1 : decide (a < 7) = true := by simpa using h1
      clear hc hB ht e0 h0
      go_enter Tryz.func95, Tryz.ntmps95
      go_wp2_with fail
      go_ret
      exact ⟨rfl, (Fr.refl [] w).alloc _⟩
    · have b1 : decide (a < 7) = false := by simpa using h1
      by_cases h2 : 64 < a
      · have b2 : decide (64 < a) = true := by simpa using h2
        clear hc hB ht e0 h0
        go_enter Tryz.func95, Tryz.ntmps95
        go_wp2_with fail
        go_ret
        exact ⟨rfl, (Fr.refl [] w).alloc _⟩
      · have b2 : decide (64 < a) = false := by simpa using h2
        have wm : IntKind.i64.wrap (a * 32) = a * 32 := IntWalk.i64_in _ (by omega)
        by_cases h3 : s % 2 = 0
        · have b3 : (s.tmod 2 == 0) = true := by rw [ht]; simpa using h3
          by_cases h4 : a * 32 ≤ s
          · have b4 : decide (a * 32 ≤ s) = true := by simpa using h4
            have b5 : decide (s ≤ 8192) = false := by
              have : ¬ s ≤ 8192 := fun h => hc ⟨by omega, by omega, h3, by omega, h⟩
              simpa using this
            clear hc ht e0 h0 h1 h2 h3 h4
            go_enter Tryz.func95, Tryz.ntmps95
            go_wp2_with fail
            go_quiet ((go_at_call 140; exact Calls.quiet_of_same (hB _)))
            go_wp2_with fail
            go_ret
            exact ⟨rfl, ((Fr.refl [] w).alloc _).drewN _⟩
          · have b4 : decide (a * 32 ≤ s) = false := by simpa using h4
            clear hc ht e0 h0 h1 h2 h3 h4
            go_enter Tryz.func95, Tryz.ntmps95
            go_wp2_with fail
            go_quiet ((go_at_call 140; exact Calls.quiet_of_same (hB _)))
            go_wp2_with fail
            go_ret
            exact ⟨rfl, ((Fr.refl [] w).alloc _).drewN _⟩
        · have b3 : (s.tmod 2 == 0) = false := by rw [ht]; simpa using h3
          clear hc ht e0 h0 h1 h2 h3
          go_enter Tryz.func95, Tryz.ntmps95
          go_wp2_with fail
          go_quiet ((go_at_call 140; exact Calls.quiet_of_same (hB _)))
          go_wp2_with fail
          go_ret
          exact ⟨rfl, ((Fr.refl [] w).alloc _).drewN _⟩
set_option maxRecDepth 100000 in
set_option maxHeartbeats 2000000 in
theorem xright9_no (a s : Int) (hc : ¬ CfZ a s) : Calls Tryz.prog 8 #[.agg #[.int .i64 a, .int .i64 s]] w fun e w' => e = .returned (.bool false) ∧ Fr [] w w' := by
  have ht := tmod2 s
  by_cases h1 : 7 ≤ a
  · have b1 : decide (7 ≤ a) = true := by simpa using h1
    by_cases h2 : a ≤ 64
    · have b2 : decide (a ≤ 64) = true := by simpa using h2
      have wm : IntKind.i64.wrap (32 * a) = 32 * a := IntWalk.i64_in _ (by omega)
      by_cases h3 : s % 2 = 0
      · have b3 : (s.tmod 2 == 0) = true := by rw [ht]; simpa using h3
        by_cases h4 : 32 * a ≤ s
        · have b4 : decide (32 * a ≤ s) = true := by simpa using h4
          have b5 : decide (s ≤ 8192) = false := by
            have : ¬ s ≤ 8192 := fun h => hc ⟨by omega, by omega, h3, by omega, h⟩
            simpa using this
          clear hc ht h1 h2 h3 h4
          go_enter Tryz.func8, Tryz.ntmps8
          go_wp2_with fail
          go_ret
          exact ⟨rfl, (Fr.refl [] w).alloc _⟩
        · have b4 : decide (32 * a ≤ s) = false := by simpa using h4
          clear hc ht h1 h2 h3 h4
          go_enter Tryz.func8, Tryz.ntmps8
          go_wp2_with fail
          go_ret
          exact ⟨rfl, (Fr.refl [] w).alloc _⟩
      · have b3 : (s.tmod 2 == 0) = false := by rw [ht]; simpa using h3
        clear hc ht h1 h2 h3
        go_enter Tryz.func8, Tryz.ntmps8
        go_wp2_with fail
        go_ret
        exact ⟨rfl, (Fr.refl [] w).alloc _⟩
    · have b2 : decide (a ≤ 64) = false := by simpa using h2
      clear hc ht h1 h2
      go_enter Tryz.func8, Tryz.ntmps8
      go_wp2_with fail
      go_ret
      exact ⟨rfl, (Fr.refl [] w).alloc _⟩
  · have b1 : decide (7 ≤ a) = false := by simpa using h1
    clear hc ht h1
    go_enter Tryz.func8, Tryz.ntmps8
    go_wp2_with fail
    go_ret
    exact ⟨rfl, (Fr.refl [] w).alloc _⟩
end
end Go.Proofs.YtgoogihfggndpaaGreatDoor
