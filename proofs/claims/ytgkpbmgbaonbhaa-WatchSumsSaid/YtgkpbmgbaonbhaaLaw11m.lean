/- The walk of WatchMarks. -/
import Derived.Test.YtgkpbmgbaonbhaaLaw11b
namespace Go.Proofs.Ytgkpbmgbaonbhaa
set_option linter.unusedVariables false
open Go.RowKit

/-- The kinds behind a Mark, whatever it is handed. -/
def newK (ks : List Nat) (x y k : Int) : List Nat := if markE (4 * ks.length) x y k = 0 then setR ks (x / 4).toNat ((x + y) / 4).toNat k.toNat else ks
theorem newK_length (ks : List Nat) (x y k : Int) : (newK ks x y k).length = ks.length := by unfold newK; split; exact setR_length _ _ _ _; rfl

theorem mark_all (w : World) (p b : Nat) (ks : List Nat) (lk ft x y k : Int) (h : IsW w p b ks lk ft) :
    Calls Try.prog 17 #[.pointer (some ⟨p, 0, none⟩), .int .i64 x, .int .i64 y, .int .i64 k] w fun e w' => e = .returned (.int .i64 (markE (4 * ks.length) x y k)) ∧ IsW w' p b (newK ks x y k) lk ft ∧ Fr [b] w w' := by
  unfold newK
  by_cases hE : markE (4 * ks.length) x y k = 0
  · rw [if_pos hE, hE]
    obtain ⟨⟨j1, j2⟩, ⟨j3, j4, j5, j6⟩, j7, j8⟩ := markE_ok _ _ _ _ hE
    obtain ⟨kk, rfl⟩ : ∃ a : Nat, k = a := ⟨k.toNat, by omega⟩
    exact mark_ok w p b ks lk ft x y _ _ kk h (by omega) (by omega) (by omega) (by omega) (by omega)
  · rw [if_neg hE]
    exact (mark_bad w p b ks lk ft x y k h hE).mono fun e w' ⟨h1, h2⟩ => ⟨h1, h2 ▸ h, h2 ▸ Fr.refl _ _⟩

theorem kindY_one (ks : List Nat) (i : Nat) : kindY ks i (i + 1) = ks[i]?.getD 0 := by
  unfold kindY
  rw [oneK_yes ks i (i + 1) (fun x hx => by rw [show i + x = i by omega])]
  rfl
theorem kindL_one (ks : List Nat) (at_ : Int) : kindL ks at_ 1 = if 0 ≤ at_ ∧ at_ < 4 * ks.length then ks[(at_ / 4).toNat]?.getD 0 else 0 := by
  unfold kindL
  by_cases h : 0 ≤ at_ ∧ at_ < 4 * ks.length
  · rw [if_pos h, if_neg (by unfold fitsB; simp; omega), show ((at_ + 1 + 3) / 4).toNat = (at_ / 4).toNat + 1 by omega, kindY_one]
  · rw [if_neg h, if_pos (by right; unfold fitsB; simp; omega)]
theorem newK_in (ks : List Nat) (x y k at_ : Int) (hE : markE (4 * ks.length) x y k = 0) (h1 : x ≤ at_) (h2 : at_ - x < y) : kindL (newK ks x y k) at_ 1 = k.toNat := by
  obtain ⟨⟨j1, j2⟩, ⟨j3, j4, j5, j6⟩, j7, j8⟩ := markE_ok _ _ _ _ hE
  rw [kindL_one, newK_length, if_pos (by omega)]
  unfold newK
  rw [if_pos hE, setR_get _ _ _ _ _ (by omega), if_pos (by omega)]
  rfl
theorem newK_out (ks : List Nat) (x y k at_ : Int) (h : markE (4 * ks.length) x y k = 0 → ¬ (x ≤ at_ ∧ at_ - x < y ∧ at_ < 4 * ks.length)) : kindL (newK ks x y k) at_ 1 = kindL ks at_ 1 := by
  rw [kindL_one, kindL_one, newK_length]
  by_cases h0 : 0 ≤ at_ ∧ at_ < 4 * ks.length
  · rw [if_pos h0, if_pos h0]
    unfold newK
    by_cases hE : markE (4 * ks.length) x y k = 0
    · obtain ⟨⟨j1, j2⟩, ⟨j3, j4, j5, j6⟩, j7, j8⟩ := markE_ok _ _ _ _ hE
      have := h hE
      rw [if_pos hE, setR_get _ _ _ _ _ (by omega), if_neg (by omega)]
      rfl
    · rw [if_neg hE]
  · rw [if_neg h0, if_neg h0]
theorem newK_all (ks : List Nat) (x y k : Int) (hE : markE (4 * ks.length) x y k = 0) (hy : 0 < y) : kindL (newK ks x y k) x y = k.toNat := by
  obtain ⟨⟨j1, j2⟩, ⟨j3, j4, j5, j6⟩, j7, j8⟩ := markE_ok _ _ _ _ hE
  unfold kindL
  rw [newK_length, if_neg (by unfold fitsB; simp; omega)]
  have hg : ∀ z, (x / 4).toNat ≤ z → z < ((x + y) / 4).toNat → (newK ks x y k)[z]?.getD 0 = k.toNat := fun z h1 h2 => by
    unfold newK
    rw [if_pos hE, setR_get _ _ _ _ _ (by omega), if_pos (by omega)]
    rfl
  unfold kindY
  rw [oneK_yes _ _ _ (fun z hz => by rw [hg _ (by omega) (by omega), hg _ (by omega) (by omega)]), if_pos rfl]
  exact hg _ (by omega) (by omega)

theorem mayB_false {n : Int} (h : mayB n = false) : n < 4 ∨ 1048576 < n ∨ n % 4 ≠ 0 := by unfold mayB at h; simp at h; omega

set_option maxHeartbeats 2000000 in
theorem marks_a (w : World) (n at_ : Int) (a : Option Addr) (len cap : Nat) (hlen : len ≤ 9223372036854775807) (h : (1024 < n ∧ n ≤ 1048576) ∨ 60 < len) :
    Calls Try.prog 4 #[.int .i64 n, .slice a len cap, .int .i64 at_] w fun e w' => e = .returned (.bool true) ∧ Below w.heap.size w w' := by
  have hw := watches_any w
  have h3 : (¬ 1024 < n ∧ 60 < len) ∨ (1024 < n ∧ n ≤ 1048576) ∨ (1024 < n ∧ 1048576 < n ∧ 60 < len) := by omega
  clear h
  rcases h3 with ⟨g1, g2⟩ | ⟨g1, g2⟩ | ⟨g1, g2, g3⟩
  all_goals
    go_enter Try.func4, Try.ntmps4
    go_wp2_with (go_at_call 8; refine hw.mono ?_; rintro e w' ⟨rfl, hB⟩)
    go_ret
    exact ⟨rfl, hB⟩

set_option maxHeartbeats 2000000 in
theorem marks_b (w : World) (n at_ : Int) (a : Option Addr) (len cap : Nat) (hlen : len ≤ 60) (h : mayB n = false) :
    Calls Try.prog 4 #[.int .i64 n, .slice a len cap, .int .i64 at_] w fun e w' => e = .returned (.bool true) ∧ Below w.heap.size w w' := by
  have hw := watches_any w
  have hn := mayB_false h
  by_cases hA : 1024 < n ∧ n ≤ 1048576
  · exact marks_a w n at_ a len cap (by omega) (.inl hA)
  have h1 := new_no w n hn
  have h2 := xmay w n
  rw [h] at h2
  clear h hn
  have h3 : (¬ 1024 < n) ∨ (1024 < n ∧ 1048576 < n) := by omega
  clear hA
  rcases h3 with g1 | ⟨g1, g2⟩
  all_goals
    go_enter Try.func4, Try.ntmps4
    go_wp2_with (first | (go_at_call 8; refine hw.mono ?_; rintro e w' ⟨rfl, hB⟩) | (go_at_call 9; refine h1.mono ?_; rintro e w' ⟨rfl, rfl⟩) | (go_at_call 24; refine h2.mono ?_; rintro e w' ⟨rfl, rfl⟩))
    go_ret
    exact ⟨rfl, hB⟩
end Go.Proofs.Ytgkpbmgbaonbhaa
