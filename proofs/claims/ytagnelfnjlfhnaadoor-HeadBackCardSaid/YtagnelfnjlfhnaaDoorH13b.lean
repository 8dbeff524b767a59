/- Where and Size: head's and the document's. -/
import Derived.Test.YtagnelfnjlfhnaaDoorH13
namespace Go.Proofs.YtagnelfnjlfhnaaDoor
set_option linter.unusedVariables false
open Go.RowKit
def twoV (x : Nat × Nat) : Value := .tuple #[.int .i64 x.1, .int .i64 x.2]

theorem where_any (w : World) (hT : Tabs w) (tag f : Int) :
    Calls Tryd.prog 15 #[.int .i64 tag, .int .i64 f] w fun e w' => e = .returned (twoV (whZ tag f)) ∧ Fr [] w w' := by
  have hp := place_any w hT tag f
  generalize whZ tag f = x at *
  obtain ⟨a, b⟩ := x
  unfold rowV at hp
  simp only at hp
  go_enter Tryd.func15, Tryd.ntmps15
  go_wp2_with fail
  refine hp.mono ?_
  rintro e w1 ⟨rfl, f1⟩
  go_wp2_with fail
  go_region
  go_wp2_with fail
  go_returns
  exact ⟨rfl, by repeat (first | exact f1 | apply Fr.alloc | apply Fr.drew | apply Fr.drewN | (refine Fr.setCell ?_ (Or.inr f1.size) _))⟩

theorem xsize_any (w : World) (tag : Int) : Calls Tryd.prog 18 #[.int .i64 tag] w fun e w' => e = .returned (.int .i64 (szZ tag)) ∧ Fr [] w w' := by
  unfold szZ
  by_cases h : 0 ≤ tag ∧ tag ≤ 2
  · rw [if_pos h]
    obtain rfl | rfl | rfl : tag = 0 ∨ tag = 1 ∨ tag = 2 := by omega
    all_goals
      go_enter Tryd.func18, Tryd.ntmps18
      go_wp2_with fail
      go_returns
      exact ⟨rfl, by repeat (first | exact Fr.refl _ _ | apply Fr.alloc | apply Fr.drew | apply Fr.drewN | (refine Fr.setCell ?_ (Or.inr (by simp)) _))⟩
  · rw [if_neg h]
    by_cases h0 : tag < 0
    · go_enter Tryd.func18, Tryd.ntmps18
      go_wp2_with fail
      go_returns
      exact ⟨rfl, by repeat (first | exact Fr.refl _ _ | apply Fr.alloc | apply Fr.drew | apply Fr.drewN | (refine Fr.setCell ?_ (Or.inr (by simp)) _))⟩
    · have h1 : decide (tag < 0) = false := by simpa using h0
      have h2 : decide (2 < tag) = true := by simp; omega
      go_enter Tryd.func18, Tryd.ntmps18
      go_wp2_with fail
      go_returns
      exact ⟨rfl, by repeat (first | exact Fr.refl _ _ | apply Fr.alloc | apply Fr.drew | apply Fr.drewN | (refine Fr.setCell ?_ (Or.inr (by simp)) _))⟩

theorem xwhere_no (w : World) (tag f : Int) (h : ¬ (0 ≤ tag ∧ tag ≤ 2 ∧ 0 ≤ f ∧ f ≤ 11)) :
    Calls Tryd.prog 16 #[.int .i64 tag, .int .i64 f] w fun e w' => e = .returned (twoV (0, 0)) ∧ Fr [] w w' := by
  by_cases h0 : tag < 0
  · go_enter Tryd.func16, Tryd.ntmps16
    go_wp2_with fail
    go_returns
    exact ⟨rfl, by repeat (first | exact Fr.refl _ _ | apply Fr.alloc | apply Fr.drew | apply Fr.drewN | (refine Fr.setCell ?_ (Or.inr (by simp)) _))⟩
  · have h1 : decide (tag < 0) = false := by simpa using h0
    by_cases h2 : 2 < tag
    · have h3 : decide (2 < tag) = true := by simpa using h2
      go_enter Tryd.func16, Tryd.ntmps16
      go_wp2_with fail
      go_returns
      exact ⟨rfl, by repeat (first | exact Fr.refl _ _ | apply Fr.alloc | apply Fr.drew | apply Fr.drewN | (refine Fr.setCell ?_ (Or.inr (by simp)) _))⟩
    · have h3 : decide (2 < tag) = false := by simpa using h2
      by_cases h4 : f < 0
      · have h5 : decide (f < 0) = true := by simpa using h4
        go_enter Tryd.func16, Tryd.ntmps16
        go_wp2_with fail
        go_returns
        exact ⟨rfl, by repeat (first | exact Fr.refl _ _ | apply Fr.alloc | apply Fr.drew | apply Fr.drewN | (refine Fr.setCell ?_ (Or.inr (by simp)) _))⟩
      · have h5 : decide (f < 0) = false := by simpa using h4
        have h6 : decide (11 < f) = true := by simp; omega
        go_enter Tryd.func16, Tryd.ntmps16
        go_wp2_with fail
        go_returns
        exact ⟨rfl, by repeat (first | exact Fr.refl _ _ | apply Fr.alloc | apply Fr.drew | apply Fr.drewN | (refine Fr.setCell ?_ (Or.inr (by simp)) _))⟩

theorem xwhere_com (w : World) (tag : Int) (k : Nat) (ht : 0 ≤ tag ∧ tag ≤ 2) (hk : k < 5) :
    Calls Tryd.prog 16 #[.int .i64 tag, .int .i64 k] w fun e w' => e = .returned (twoV (wh tag.toNat k)) ∧ Fr [] w w' := by
  have h1 : decide (tag < 0) = false := by simp; omega
  have h3 : decide (2 < tag) = false := by simp; omega
  rcases k with _ | _ | _ | _ | _ | k <;> try omega
  all_goals
    go_enter Tryd.func16, Tryd.ntmps16
    go_wp2_with fail
    go_returns
    exact ⟨rfl, by repeat (first | exact Fr.refl _ _ | apply Fr.alloc | apply Fr.drew | apply Fr.drewN | (refine Fr.setCell ?_ (Or.inr (by simp)) _))⟩

set_option maxHeartbeats 4000000 in
theorem xwhere_own (w : World) (k : Nat) (hk : k < 6) :
    Calls Tryd.prog 16 #[.int .i64 1, .int .i64 ((k : Int) + 5)] w fun e w' => e = .returned (twoV (wh 1 (k + 5))) ∧ Fr [] w w' := by
  rcases k with _ | _ | _ | _ | _ | _ | k <;> try omega
  all_goals
    go_enter Tryd.func16, Tryd.ntmps16
    go_wp2_with fail
    go_region <;> (go_wp2_with fail; go_returns; exact ⟨rfl, by repeat (first | exact Fr.refl _ _ | apply Fr.alloc | apply Fr.drew | apply Fr.drewN | (refine Fr.setCell ?_ (Or.inr (by simp)) _))⟩)

theorem xwhere_off (w : World) (tag f : Int) (h : 5 ≤ f ∧ f ≤ 11 ∧ (tag = 0 ∨ tag = 1 ∧ f = 11 ∨ tag = 2 ∧ f ≤ 9)) :
    Calls Tryd.prog 16 #[.int .i64 tag, .int .i64 f] w fun e w' => e = .returned (twoV (0, 0)) ∧ Fr [] w w' := by
  have h2 : decide (f < 0) = false := by simp; omega
  have h3 : decide (11 < f) = false := by simp; omega
  have h5 : decide (f < 4) = false := by simp; omega
  have h6 : (f == 4) = false := by simp; omega
  obtain ⟨hf1, hf2, h⟩ := h
  rcases h with rfl | ⟨rfl, rfl⟩ | ⟨rfl, h⟩
  · go_enter Tryd.func16, Tryd.ntmps16
    go_wp2_with fail
    go_returns
    exact ⟨rfl, by repeat (first | exact Fr.refl _ _ | apply Fr.alloc | apply Fr.drew | apply Fr.drewN | (refine Fr.setCell ?_ (Or.inr (by simp)) _))⟩
  · go_enter Tryd.func16, Tryd.ntmps16
    go_wp2_with fail
    go_returns
    exact ⟨rfl, by repeat (first | exact Fr.refl _ _ | apply Fr.alloc | apply Fr.drew | apply Fr.drewN | (refine Fr.setCell ?_ (Or.inr (by simp)) _))⟩
  · have h7 : (f == 11) = false := by simp; omega
    have h8 : (f == 10) = false := by simp; omega
    go_enter Tryd.func16, Tryd.ntmps16
    go_wp2_with fail
    go_returns
    exact ⟨rfl, by repeat (first | exact Fr.refl _ _ | apply Fr.alloc | apply Fr.drew | apply Fr.drewN | (refine Fr.setCell ?_ (Or.inr (by simp)) _))⟩
theorem xwhere_refs (w : World) : Calls Tryd.prog 16 #[.int .i64 2, .int .i64 11] w fun e w' => e = .returned (twoV (8, 4)) ∧ Fr [] w w' := by
  go_enter Tryd.func16, Tryd.ntmps16
  go_wp2_with fail
  go_returns
  exact ⟨rfl, by repeat (first | exact Fr.refl _ _ | apply Fr.alloc | apply Fr.drew | apply Fr.drewN | (refine Fr.setCell ?_ (Or.inr (by simp)) _))⟩
theorem xwhere_hash (w : World) : Calls Tryd.prog 16 #[.int .i64 2, .int .i64 10] w fun e w' => e = .returned (twoV (12, 4)) ∧ Fr [] w w' := by
  go_enter Tryd.func16, Tryd.ntmps16
  go_wp2_with fail
  go_returns
  exact ⟨rfl, by repeat (first | exact Fr.refl _ _ | apply Fr.alloc | apply Fr.drew | apply Fr.drewN | (refine Fr.setCell ?_ (Or.inr (by simp)) _))⟩

theorem xwhere_any (w : World) (tag f : Int) :
    Calls Tryd.prog 16 #[.int .i64 tag, .int .i64 f] w fun e w' => e = .returned (twoV (whZ tag f)) ∧ Fr [] w w' := by
  unfold whZ
  by_cases h : 0 ≤ tag ∧ tag ≤ 2 ∧ 0 ≤ f ∧ f ≤ 11
  · rw [if_pos h]
    obtain ⟨t, rfl⟩ : ∃ t : Nat, tag = t := ⟨tag.toNat, by omega⟩
    obtain ⟨k, rfl⟩ : ∃ k : Nat, f = k := ⟨f.toNat, by omega⟩
    rw [Int.toNat_natCast, Int.toNat_natCast]
    by_cases h5 : k < 5
    · have := xwhere_com w t k (by omega) h5
      rwa [Int.toNat_natCast] at this
    · by_cases h1 : t = 1 ∧ k ≤ 10
      · obtain ⟨rfl, h1⟩ := h1
        obtain ⟨j, rfl⟩ : ∃ j, k = j + 5 := ⟨k - 5, by omega⟩
        exact xwhere_own w j (by omega)
      · by_cases h2 : t = 2 ∧ 10 ≤ k
        · obtain ⟨rfl, h2⟩ := h2
          have : k = 10 ∨ k = 11 := by omega
          rcases this with rfl | rfl
          · exact xwhere_hash w
          · exact xwhere_refs w
        · have e : wh t k = (0, 0) := by
            unfold wh
            rw [if_neg h5]
            split
            · have : k = 11 := by omega
              subst this; rfl
            · rw [if_neg (by omega), if_neg (by omega)]
          rw [e]
          exact xwhere_off w t k (by omega)
  · rw [if_neg h]
    exact xwhere_no w tag f h
end Go.Proofs.YtagnelfnjlfhnaaDoor
