/- Walks: package watch: may, Look. -/
import Derived.Test.YtcagljjbiodcoaaDoorW11a
namespace Go.Proofs.YtcagljjbiodcoaaDoor
set_option linter.unusedVariables false
open Go.RowKit

theorem kind_all (w : World) (p b : Nat) (ks : List Nat) (lk ft x y : Int) (h : IsW w p b ks lk ft) :
    Calls Tryd.prog 121 #[.pointer (some ⟨p, 0, none⟩), .int .i64 x, .int .i64 y] w fun e w' => e = .returned (.int .i64 (kindL ks x y)) ∧ w = w' := by
  unfold kindL
  by_cases hb : y < 1 ∨ fitsB (4 * ks.length) x y = false
  · rw [if_pos hb]; exact kind_no w p b ks lk ft x y h hb
  · rw [if_neg hb]
    exact kind_yes w p b ks lk ft x y h (by omega) (by cases hf : fitsB (4 * ks.length) x y <;> simp_all)

/-- May a touch be? -/
def mayL (ks : List Nat) (x wd k : Int) : Bool := decide ((wd = 1 ∨ wd = 2 ∨ wd = 4 ∨ wd = 8) ∧ x % wd = 0 ∧ k ≠ 0 ∧ (kindL ks x wd : Int) = k)

theorem tmod0 (x : Int) (n : Nat) : (x.tmod n = 0) ↔ (x % n = 0) := by
  rw [← Int.dvd_iff_tmod_eq_zero, ← Int.dvd_iff_emod_eq_zero]

set_option maxHeartbeats 400000 in
theorem may_1 (w : World) (p b : Nat) (ks : List Nat) (lk ft x k : Int) (n : Nat) (hn : n = 1 ∨ n = 2 ∨ n = 4 ∨ n = 8) (h : IsW w p b ks lk ft) :
    Calls Tryd.prog 120 #[.pointer (some ⟨p, 0, none⟩), .int .i64 x, .int .i64 n, .int .i64 k] w fun e w' => e = .returned (.bool (mayL ks x n k)) ∧ w = w' := by
  have hk := kind_all w p b ks lk ft x n h
  have hb : bits .and .i64 (n : Int) ((n : Int) - 1) = 0 := by rcases hn with rfl | rfl | rfl | rfl <;> decide
  have hm := tmod0 x n
  have H : (n : Int) = 1 ∨ (n : Int) = 2 ∨ (n : Int) = 4 ∨ (n : Int) = 8 := by omega
  by_cases ht : (x.tmod n != 0) = true
  · go_enter Tryd.func120, Tryd.ntmps120
    go_wp2_with (go_at_call 121; refine hk.mono ?_; rintro e w' ⟨rfl, rfl⟩)
    go_ret
    exact ⟨ret_false (fun hh => by simp at ht; exact ht (hm.2 hh.2.1)), rfl⟩
  · rw [Bool.not_eq_true] at ht
    by_cases hk0 : k = 0
    · go_enter Tryd.func120, Tryd.ntmps120
      go_wp2_with (go_at_call 121; refine hk.mono ?_; rintro e w' ⟨rfl, rfl⟩)
      go_ret
      exact ⟨ret_false (fun hh => hh.2.2.1 hk0), rfl⟩
    · have hkb : (k != 0) = true := by simpa using hk0
      go_enter Tryd.func120, Tryd.ntmps120
      go_wp2_with (go_at_call 121; refine hk.mono ?_; rintro e w' ⟨rfl, rfl⟩)
      go_ret
      refine ⟨?_, rfl⟩
      have hx : x % n = 0 := hm.1 (by simpa using ht)
      have : mayL ks x n k = ((kindL ks x n : Int) == k) := by
        unfold mayL
        rw [Bool.eq_iff_iff, decide_eq_true_iff, beq_iff_eq]
        exact ⟨fun hh => hh.2.2.2, fun hh => ⟨H, hx, hk0, hh⟩⟩
      rw [this]
      rfl

set_option maxHeartbeats 400000 in
theorem may_2 (w : World) (p b : Nat) (ks : List Nat) (lk ft x k n : Int) (hn : ¬ (n = 1 ∨ n = 2 ∨ n = 4 ∨ n = 8)) :
    Calls Tryd.prog 120 #[.pointer (some ⟨p, 0, none⟩), .int .i64 x, .int .i64 n, .int .i64 k] w fun e w' => e = .returned (.bool (mayL ks x n k)) ∧ w = w' := by
  have hr : mayL ks x n k = false := decide_eq_false fun hh => hn hh.1
  rw [hr]
  by_cases h1 : n < 1
  · go_enter Tryd.func120, Tryd.ntmps120
    go_wp2_with fail
    go_ret
    exact ⟨rfl, rfl⟩
  by_cases h8 : 8 < n
  · go_enter Tryd.func120, Tryd.ntmps120
    go_wp2_with fail
    go_ret
    exact ⟨rfl, rfl⟩
  have h9 : n = 3 ∨ n = 5 ∨ n = 6 ∨ n = 7 := by omega
  have hb : (bits .and .i64 n (n - 1) != 0) = true := by rcases h9 with rfl | rfl | rfl | rfl <;> decide
  clear hn hr h9
  go_enter Tryd.func120, Tryd.ntmps120
  go_wp2_with fail
  go_ret
  exact ⟨rfl, rfl⟩

theorem may_all (w : World) (p b : Nat) (ks : List Nat) (lk ft x n k : Int) (h : IsW w p b ks lk ft) :
    Calls Tryd.prog 120 #[.pointer (some ⟨p, 0, none⟩), .int .i64 x, .int .i64 n, .int .i64 k] w fun e w' => e = .returned (.bool (mayL ks x n k)) ∧ w = w' := by
  by_cases hn : n = 1 ∨ n = 2 ∨ n = 4 ∨ n = 8
  · obtain ⟨m, rfl⟩ : ∃ m : Nat, n = m := ⟨n.toNat, by omega⟩
    exact may_1 w p b ks lk ft x k m (by omega) h
  · exact may_2 w p b ks lk ft x k n hn

theorem IsW.setLk {w : World} {p b : Nat} {ks : List Nat} {lk ft : Int} (h : IsW w p b ks lk ft) (v : Int) : IsW (w.setCell ⟨p, 1, none⟩ (.int .i64 v)) p b ks v ft :=
  ⟨h.st.set 1 _, h.row.far (p := ⟨p, 1, none⟩) h.ne.symm _, h.len, h.le⟩
theorem IsW.setFt {w : World} {p b : Nat} {ks : List Nat} {lk ft : Int} (h : IsW w p b ks lk ft) (v : Int) : IsW (w.setCell ⟨p, 2, none⟩ (.int .i64 v)) p b ks lk v :=
  ⟨h.st.set 2 _, h.row.far (p := ⟨p, 2, none⟩) h.ne.symm _, h.len, h.le⟩

set_option maxHeartbeats 400000 in
theorem look_some (w : World) (p b : Nat) (ks : List Nat) (lk ft x n k : Int) (h : IsW w p b ks lk ft) (h0 : 0 ≤ lk) (h1 : lk ≤ 1099511627776) (h2 : 0 ≤ ft) (h3 : ft ≤ 1099511627776) :
    Calls Tryd.prog 100 #[.pointer (some ⟨p, 0, none⟩), .int .i64 x, .int .i64 n, .int .i64 k] w fun e w' =>
      e = .returned (.bool (mayL ks x n k)) ∧ IsW w' p b ks (lk + 1) (ft + if mayL ks x n k then 0 else 1) ∧ Fr [p] w w' := by
  have hn := none_some w p b _ _ (h.st.cell 0)
  have hc := h.st.cell 1
  have hf := h.st.frozen 1
  have H1 := h.setLk (lk + 1)
  have hm := may_all _ p b ks _ _ x n k H1
  have hc2 := h.st.cell 2
  have hf2 := h.st.frozen 2
  have H2 := (h.setLk (lk + 1)).setFt (ft + 1)
  have HF1 : Fr [p] w (w.setCell ⟨p, 1, none⟩ (.int .i64 (lk + 1))) := (Fr.refl _ _).setCell (.inl (by simp)) _
  have HF2 : Fr [p] w ((w.setCell ⟨p, 1, none⟩ (.int .i64 (lk + 1))).setCell ⟨p, 2, none⟩ (.int .i64 (ft + 1))) := ((Fr.refl _ _).setCell (.inl (by simp)) _).setCell (.inl (by simp)) _
  clear h
  cases hmm : mayL ks x n k
  · rw [hmm] at hm
    clear hmm
    go_enter Tryd.func100, Tryd.ntmps100
    go_wp2_with (first | (go_at_call 97; refine hn.mono ?_; rintro e w' ⟨rfl, rfl⟩) | (go_at_call 120; refine hm.mono ?_; rintro e w' ⟨rfl, rfl⟩))
    go_ret
    exact ⟨rfl, H2, HF2⟩
  · rw [hmm] at hm
    clear hmm
    go_enter Tryd.func100, Tryd.ntmps100
    go_wp2_with (first | (go_at_call 97; refine hn.mono ?_; rintro e w' ⟨rfl, rfl⟩) | (go_at_call 120; refine hm.mono ?_; rintro e w' ⟨rfl, rfl⟩))
    go_ret
    exact ⟨rfl, by simpa using H1, HF1⟩
end Go.Proofs.YtcagljjbiodcoaaDoor
