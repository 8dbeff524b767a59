/- Package arena: New, Len, Get, Put; num.Fits. -/
import Derived.Test.YtcagljjbiodcoaaDoorNumL
import Derived.Test.YtcagljjbiodcoaaDoorRowB
import Derived.Deep.RegionHeld3
import Derived.WalkSpells
import Derived.Lib.SliceRun
namespace Go.Proofs.YtcagljjbiodcoaaDoor
set_option linter.unusedVariables false
open Go.RowKit

def fitsN (v : Nat) (w : Int) : Bool := widB w && decide (v < 256 ^ w.toNat)
theorem fits_any (w : World) (v : Nat) (hv : v < 18446744073709551616) (n : Int) : Calls Tryd.prog 92 #[.int .u64 v, .int .i64 n] w fun e w' => e = .returned (.bool (fitsN v n)) ∧ Fr [] w w' := by
  have hw := fun w => width_any w n
  by_cases h8 : n = 8
  · subst h8
    have e : fitsN v 8 = true := by
      simp [fitsN, widB]; exact hv
    rw [e]
    clear e hw
    go_enter Tryd.func92, Tryd.ntmps92
    go_wp2_with fail
    go_ret
    exact ⟨rfl, Fr.refl _ _⟩
  have b8 : (n == 8) = false := by simpa using h8
  unfold fitsN
  rcases hB : widB n with _ | _
  · rw [hB] at hw
    rw [Bool.false_and]
    clear hB h8
    go_enter Tryd.func92, Tryd.ntmps92
    go_wp2_with (go_at_call 117; with_reducible refine (hw _).mono ?_; rintro e w' ⟨rfl, rfl⟩)
    go_ret
    exact ⟨rfl, Fr.refl _ _⟩
  · rw [hB] at hw
    obtain ⟨k, rfl, hk⟩ := widB_cases hB
    have hk8 : k ≤ 7 := by omega
    have hp : (2 : Nat) ^ (8 * k) = 256 ^ k := by rw [Nat.pow_mul]
    have hq : ((v : Int) / 2 ^ (8 * k) == 0) = decide (v < 256 ^ k) := by
      have e1 : ((v : Int) / 2 ^ (8 * k)) = ((v / 256 ^ k : Nat) : Int) := by
        rw [← hp]; push_cast; rfl
      rw [e1, Bool.eq_iff_iff, beq_iff_eq, decide_eq_true_eq]
      rw [show ((v / 256 ^ k : Nat) : Int) = 0 ↔ v / 256 ^ k = 0 by omega]
      rw [Nat.div_eq_zero_iff]
      have : 0 < 256 ^ k := Nat.pow_pos (by decide)
      omega
    rw [Bool.true_and, Int.toNat_natCast]
    cases hd : decide (v < 256 ^ k)
    all_goals
      rw [hd] at hq
      have hq' : ((v / 256 ^ k : Nat) : Int) = (v : Int) / 2 ^ (8 * k) := by
        rw [← hp]; push_cast; rfl
      clear hB h8 hd hk hp hq'
      go_enter Tryd.func92, Tryd.ntmps92
      go_wp2_with (go_at_call 117; with_reducible refine (hw _).mono ?_; rintro e w' ⟨rfl, rfl⟩)
      go_ret
      exact ⟨rfl, Fr.refl _ _⟩

def amayB (n : Int) : Bool := decide (16 ≤ n ∧ n ≤ 1048576 ∧ n % 16 = 0)
theorem amay_any (w : World) (n : Int) : Calls Tryd.prog 88 #[.int .i64 n] w fun e w' => e = .returned (.bool (amayB n)) ∧ w' = w := by
  by_cases h1 : 16 ≤ n
  · by_cases h2 : n ≤ 1048576
    · have b1 : decide (16 ≤ n) = true := by simpa using h1
      have b2 : decide (n ≤ 1048576) = true := by simpa using h2
      have e : amayB n = (n % 16 == 0) := by
        rw [amayB, Bool.eq_iff_iff, decide_eq_true_eq, beq_iff_eq]; omega
      rw [e]
      clear e
      go_enter Tryd.func88, Tryd.ntmps88
      go_wp2_with fail
      go_ret
      exact ⟨rfl, rfl⟩
    · have b1 : decide (16 ≤ n) = true := by simpa using h1
      have b2 : decide (n ≤ 1048576) = false := by simpa using h2
      have e : amayB n = false := by simp [amayB]; omega
      rw [e]
      clear e
      go_enter Tryd.func88, Tryd.ntmps88
      go_wp2_with fail
      go_ret
      exact ⟨rfl, rfl⟩
  · have b1 : decide (16 ≤ n) = false := by simpa using h1
    have e : amayB n = false := by simp [amayB]; omega
    rw [e]
    clear e
    go_enter Tryd.func88, Tryd.ntmps88
    go_wp2_with fail
    go_ret
    exact ⟨rfl, rfl⟩

theorem anone_nil (w : World) : Calls Tryd.prog 90 #[.pointer none] w fun e w' => e = .returned (.bool true) ∧ w' = w := by
  go_enter Tryd.func90, Tryd.ntmps90
  go_wp2
  go_ret
  exact ⟨rfl, rfl⟩
theorem anone_zero (w : World) (p : Nat) (h : w.cell? ⟨p, 0, none⟩ = some (.slice none 0 0)) :
    Calls Tryd.prog 90 #[.pointer (some ⟨p, 0, none⟩)] w fun e w' => e = .returned (.bool true) ∧ w' = w := by
  have e1 := fun (w : World) => Lib.run_eql_slice_nil (P := Tryd.prog) w 63 5 none 0 0 0 0 Tryd.underlying63
  go_enter Tryd.func90, Tryd.ntmps90
  go_wp2
  go_ret
  exact ⟨rfl, rfl⟩
theorem anone_some (w : World) (p : Nat) (b n c : Nat) (h : w.cell? ⟨p, 0, none⟩ = some (.slice (some ⟨b, 0, none⟩) n c)) :
    Calls Tryd.prog 90 #[.pointer (some ⟨p, 0, none⟩)] w fun e w' => e = .returned (.bool false) ∧ w' = w := by
  have e1 := fun (w : World) => Lib.run_eql_slice_nil (P := Tryd.prog) w 63 5 (some ⟨b, 0, none⟩) n c 0 0 Tryd.underlying63
  go_enter Tryd.func90, Tryd.ntmps90
  go_wp2
  go_ret
  exact ⟨rfl, rfl⟩
theorem IsA.none {w : World} {p g cap : Nat} {l : List Nat} (h : IsA w p g cap l) : Calls Tryd.prog 90 #[.pointer (some ⟨p, 0, none⟩)] w fun e w' => e = .returned (.bool false) ∧ w' = w :=
  anone_some w p g l.length cap (h.st.cell 0)

theorem anew_no (w : World) (n : Int) (h : amayB n = false) : Calls Tryd.prog 48 #[.int .i64 n] w fun e w' => e = .returned (.pointer none) ∧ w' = w := by
  have hm := fun w => amay_any w n
  rw [h] at hm
  clear h
  go_enter Tryd.func48, Tryd.ntmps48
  go_wp2_with (go_at_call 88; with_reducible refine (hm _).mono ?_; rintro e w' ⟨rfl, rfl⟩)
  go_ret
  exact ⟨rfl, rfl⟩
theorem anew_yes (w : World) (n : Nat) (h : amayB n = true) : Calls Tryd.prog 48 #[.int .i64 n] w fun e w' => ∃ p g, e = .returned (.pointer (some ⟨p, 0, none⟩)) ∧ IsA w' p g n (List.replicate n 0) ∧ w.heap.size ≤ p ∧ w.heap.size ≤ g ∧ Fr [] w w' := by
  have hm := fun w => amay_any w n
  have hn : n ≤ 1048576 := by simp [amayB] at h; omega
  rw [h] at hm
  have hmk := run_make_bytes (P := Tryd.prog) 63 5 Tryd.underlying63 info_u8 .i64 .i64 n (by omega)
  clear h
  go_enter Tryd.func48, Tryd.ntmps48
  go_wp2_with (go_at_call 88; with_reducible refine (hm _).mono ?_; rintro e w' ⟨rfl, rfl⟩)
  go_ret
  refine ⟨w'.heap.size + 1, w'.heap.size, rfl, ⟨?_, ?_, fun b hb => by rw [List.eq_of_mem_replicate hb]; omega, by simp; omega⟩, by omega, by omega, ((Fr.refl [] _).alloc _).alloc _⟩
  · have := Blk.new (w'.alloc (.cells (bytes (List.replicate n 0)) 5)) 131 #[.slice (some ⟨w'.heap.size, 0, none⟩) n n]
    rw [World.size_alloc] at this
    rw [List.length_replicate]
    exact this
  · have := (RowB.of (Blk.new w' 5 (bytes (List.replicate n 0)))).alloc (.cells #[.slice (some ⟨w'.heap.size, 0, none⟩) n n] 131)
    rw [List.length_replicate] at this
    exact this
end Go.Proofs.YtcagljjbiodcoaaDoor
