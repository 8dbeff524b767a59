/- The walk of WatchLooks. -/
import Derived.Test.YtgkpbmgbaonbhaaLaw11m
import Derived.Deep.RegionHeld3
namespace Go.Proofs.Ytgkpbmgbaonbhaa
open Go.RowKit
set_option linter.unusedVariables false

/-- What is wanted behind t bytes. -/
def wantT (ks : List Nat) (x wd k : Int) : Nat → Bool
  | 0 => x % wd == 0
  | t + 1 => wantT ks x wd k t && ((kindL ks (x + t) 1 : Nat) : Int) == k
theorem wantT_iff (ks : List Nat) (x wd k : Int) : ∀ t, wantT ks x wd k t = true ↔ x % wd = 0 ∧ ∀ i : Nat, i < t → ((kindL ks (x + i) 1 : Nat) : Int) = k
  | 0 => by simp [wantT]
  | t + 1 => by
    rw [wantT, Bool.and_eq_true, wantT_iff ks x wd k t, beq_iff_eq]
    constructor
    · rintro ⟨⟨h1, h2⟩, h3⟩
      exact ⟨h1, fun i hi => if h : i < t then h2 i h else by rw [show i = t by omega]; exact h3⟩
    · rintro ⟨h1, h2⟩
      exact ⟨⟨h1, fun i hi => h2 i (by omega)⟩, h2 t (by omega)⟩
theorem want_is (ks : List Nat) (x wd k : Int) (hk : k ≠ 0) (hw : wd = 1 ∨ wd = 2 ∨ wd = 4 ∨ wd = 8) (h0 : 0 ≤ x) (h1 : x < 4 * ks.length) : wantT ks x wd k wd.toNat = mayL ks x wd k := by
  rw [Bool.eq_iff_iff, wantT_iff]
  unfold mayL
  rw [decide_eq_true_iff]
  obtain ⟨a, rfl⟩ : ∃ a : Nat, x = a := ⟨x.toNat, by omega⟩
  obtain ⟨m, rfl⟩ : ∃ m : Nat, wd = m := ⟨wd.toNat, by omega⟩
  rw [Int.toNat_natCast]
  have key : (∀ i : Nat, i < m → ((kindL ks ((a : Int) + i) 1 : Nat) : Int) = k) ↔ ((kindL ks a m : Nat) : Int) = k := by
    have e1 : ∀ i : Nat, kindL ks ((a : Int) + i) 1 = if a + i < 4 * ks.length then ks[(a + i) / 4]?.getD 0 else 0 := fun i => by
      rw [kindL_one]
      by_cases h : a + i < 4 * ks.length
      · rw [if_pos h, if_pos (by omega), show (((a : Int) + i) / 4).toNat = (a + i) / 4 by omega]
      · rw [if_neg h, if_neg (by omega)]
    have e2 : kindL ks a m = if a + m ≤ 4 * ks.length then kindY (exp4 ks) a (a + m) else 0 := by
      rw [kindL_exp]
      unfold xkind
      rw [exp4_len]
      by_cases h : a + m ≤ 4 * ks.length
      · rw [if_pos h, if_neg (by unfold fitsB; simp; omega), Int.toNat_natCast, show ((a : Int) + m).toNat = a + m by omega]
      · rw [if_neg h, if_pos (by right; unfold fitsB; simp; omega)]
    rw [e2]
    constructor
    · intro h
      have hf : a + m ≤ 4 * ks.length := by
        rcases Nat.lt_or_ge (4 * ks.length) (a + m) with hl | hl
        · have := h (m - 1) (by omega)
          rw [e1, if_neg (by omega)] at this
          exact absurd this.symm hk
        · exact hl
      rw [if_pos hf]
      have hb : ∀ i, i < m → (((exp4 ks)[a + i]?.getD 0 : Nat) : Int) = k := fun i hi => by
        have := h i hi
        rw [e1, if_pos (by omega)] at this
        rw [exp4_at]; exact this
      unfold kindY
      rw [oneK_yes _ _ _ (fun i hi => by have h2 := hb i (by omega); have h3 := hb 0 (by omega); rw [Nat.add_zero] at h3; omega), if_pos rfl]
      have := hb 0 (by omega)
      rwa [Nat.add_zero] at this
    · intro h i hi
      by_cases hf : a + m ≤ 4 * ks.length
      · rw [if_pos hf] at h
        unfold kindY at h
        by_cases ho : oneK (exp4 ks) a (a + m) = true
        · rw [if_pos ho] at h
          rw [oneK_iff] at ho
          rw [e1, if_pos (by omega), ← exp4_at, ho i (by omega)]
          exact h
        · rw [if_neg ho] at h
          exact absurd h.symm hk
      · rw [if_neg hf] at h
        exact absurd h.symm hk
  rw [key]
  constructor
  · rintro ⟨h1, h2⟩; exact ⟨hw, h1, hk, h2⟩
  · rintro ⟨_, h1, _, h2⟩; exact ⟨h1, h2⟩
theorem mayL_no (ks : List Nat) (x wd k : Int) (h : k = 0 ∨ ¬ (wd = 1 ∨ wd = 2 ∨ wd = 4 ∨ wd = 8) ∨ x < 0 ∨ 4 * (ks.length : Int) ≤ x) : mayL ks x wd k = false := by
  unfold mayL
  refine decide_eq_false ?_
  rintro ⟨h1, h2, h3, h4⟩
  rcases h with h | h | h
  · exact h3 h
  · exact h h1
  · unfold kindL at h4
    rw [if_pos (by right; unfold fitsB; simp; omega)] at h4
    exact h3 h4.symm

/-- One watch, at each round's head of a loop of marks. -/
def MarksRel (B : World) (p b m len : Nat) (i : Value) (wr : World) : Prop :=
  ∃ t : Nat, t ≤ len ∧ i = .int .i64 t ∧ ∃ ks, IsW wr p b ks 0 0 ∧ ks.length = m ∧ Below B.heap.size B wr

set_option maxHeartbeats 2000000 in
theorem looks_a (w : World) (n x wd k : Int) (a : Option Addr) (len cap : Nat) (hlen : len ≤ 9223372036854775807) (h : 1024 < n ∨ mayB n = false ∨ 60 < len) :
    Calls Try.prog 6 #[.int .i64 n, .slice a len cap, .int .i64 x, .int .i64 wd, .int .i64 k] w fun e w' => e = .returned (.bool true) ∧ Below w.heap.size w w' := by
  have hw := watches_any w
  have h2 := xmay w n
  by_cases h1 : 1024 < n
  · clear h
    go_enter Try.func6, Try.ntmps6
    go_wp2_with (go_at_call 8; refine hw.mono ?_; rintro e w' ⟨rfl, hB⟩)
    go_ret
    exact ⟨rfl, hB⟩
  · cases hm : mayB n
    · rw [hm] at h2
      clear h hm
      go_enter Try.func6, Try.ntmps6
      go_wp2_with (first | (go_at_call 8; refine hw.mono ?_; rintro e w' ⟨rfl, hB⟩) | (go_at_call 24; refine h2.mono ?_; rintro e w' ⟨rfl, rfl⟩))
      go_ret
      exact ⟨rfl, hB⟩
    · rw [hm] at h2 h
      have h3 : 60 < len := by simp at h; omega
      clear h hm
      go_enter Try.func6, Try.ntmps6
      go_wp2_with (first | (go_at_call 8; refine hw.mono ?_; rintro e w' ⟨rfl, hB⟩) | (go_at_call 24; refine h2.mono ?_; rintro e w' ⟨rfl, rfl⟩))
      go_ret
      exact ⟨rfl, hB⟩
end Go.Proofs.Ytgkpbmgbaonbhaa
