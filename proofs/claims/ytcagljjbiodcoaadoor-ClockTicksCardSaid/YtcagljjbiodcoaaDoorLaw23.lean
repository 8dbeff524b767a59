/- The laws of the clock: the reference's answers, the page's example. -/
import Derived.Test.YtcagljjbiodcoaaDoorClk
import Derived.Test.YtcagljjbiodcoaaDoorTmN
import Derived.Test.YtcagljjbiodcoaaDoorOpenN
namespace Go.Proofs.YtcagljjbiodcoaaDoor
set_option linter.unusedVariables false
open Go.RowKit

theorem csum_big {a b m : Nat} (h : m ≤ a ∨ m - a < b) : csum a b m = m := by unfold csum; omega
theorem csum_small {a b m : Nat} (h : a < m) (h2 : b ≤ m - a) : csum a b m = a + b := by unfold csum; omega
theorem xend_any (w : World) (a b : Nat) : Calls Tryd.prog 13 #[.int .u64 a, .int .u64 b] w fun e w' => e = .returned (.int .u64 (cend a b)) ∧ w' = w := by
  unfold cend
  by_cases h0 : b = 0
  · have b0 : ((b : Int) == 0) = true := by simp; omega
    rw [if_pos h0]
    clear h0
    go_enter Tryd.func13, Tryd.ntmps13
    go_wp2_with fail
    go_ret
    exact ⟨rfl, rfl⟩
  · have b0 : ((b : Int) == 0) = false := by simp; omega
    rw [if_neg h0]
    clear h0
    by_cases h1 : 9223372036854775808 ≤ a
    · have b1 : decide ((9223372036854775808 : Int) ≤ a) = true := by simp; omega
      rw [csum_big (.inl h1)]
      clear h1
      go_enter Tryd.func13, Tryd.ntmps13
      go_wp2_with fail
      go_ret
      exact ⟨rfl, rfl⟩
    · have b1 : decide ((9223372036854775808 : Int) ≤ a) = false := by simp; omega
      have hw := u64_nat (9223372036854775808 - a) (by omega)
      rw [show ((9223372036854775808 - a : Nat) : Int) = 9223372036854775808 - a by omega] at hw
      by_cases h2 : 9223372036854775808 - a < b
      · have b2 : decide ((9223372036854775808 : Int) - a < b) = true := by simp; omega
        rw [csum_big (.inr h2)]
        clear h1 h2
        go_enter Tryd.func13, Tryd.ntmps13
        go_wp2_with fail
        go_ret
        exact ⟨rfl, rfl⟩
      · have b2 : decide ((9223372036854775808 : Int) - a < b) = false := by simp; omega
        have hw2 := u64_nat (a + b) (by omega)
        rw [Int.natCast_add] at hw2
        rw [csum_small (by omega) (by omega), Int.natCast_add]
        clear h1 h2
        go_enter Tryd.func13, Tryd.ntmps13
        go_wp2_with fail
        go_ret
        exact ⟨rfl, rfl⟩
theorem xtick_any (w : World) (a b : Nat) : Calls Tryd.prog 19 #[.int .u64 a, .int .u64 b] w fun e w' => e = .returned (.int .u64 (csum a b 4611686018427387904)) ∧ w' = w := by
  by_cases h1 : 4611686018427387904 ≤ a
  · have b1 : decide ((4611686018427387904 : Int) ≤ a) = true := by simp; omega
    rw [csum_big (.inl h1)]
    clear h1
    go_enter Tryd.func19, Tryd.ntmps19
    go_wp2_with fail
    go_ret
    exact ⟨rfl, rfl⟩
  · have b1 : decide ((4611686018427387904 : Int) ≤ a) = false := by simp; omega
    have hw := u64_nat (4611686018427387904 - a) (by omega)
    rw [show ((4611686018427387904 - a : Nat) : Int) = 4611686018427387904 - a by omega] at hw
    by_cases h2 : 4611686018427387904 - a < b
    · have b2 : decide ((4611686018427387904 : Int) - a < b) = true := by simp; omega
      rw [csum_big (.inr h2)]
      clear h1 h2
      go_enter Tryd.func19, Tryd.ntmps19
      go_wp2_with fail
      go_ret
      exact ⟨rfl, rfl⟩
    · have b2 : decide ((4611686018427387904 : Int) - a < b) = false := by simp; omega
      have hw2 := u64_nat (a + b) (by omega)
      rw [Int.natCast_add] at hw2
      rw [csum_small (by omega) (by omega), Int.natCast_add]
      clear h1 h2
      go_enter Tryd.func19, Tryd.ntmps19
      go_wp2_with fail
      go_ret
      exact ⟨rfl, rfl⟩
theorem xover_any (w : World) (a b : Nat) : Calls Tryd.prog 15 #[.int .u64 a, .int .u64 b] w fun e w' => e = .returned (.bool (cover a b)) ∧ w' = w := by
  unfold cover
  by_cases h0 : b = 0
  · have b0 : decide ((0 : Int) < b) = false := by simp; omega
    have b00 : decide (0 < b) = false := by simp; omega
    have : decide (b ≠ 0 ∧ b ≤ a) = false := by simp; omega
    rw [this]
    clear h0 this
    go_enter Tryd.func15, Tryd.ntmps15
    go_wp2_with fail
    go_ret
    exact ⟨rfl, rfl⟩
  · have b0 : decide ((0 : Int) < b) = true := by simp; omega
    have b00 : decide (0 < b) = true := by simp; omega
    have : decide (b ≠ 0 ∧ b ≤ a) = decide (b ≤ a) := by simp; omega
    rw [this]
    clear h0 this
    go_enter Tryd.func15, Tryd.ntmps15
    go_wp2_with fail
    go_ret
    exact ⟨by simp, rfl⟩
theorem xleft_any (w : World) (a b : Nat) (hb : b < 18446744073709551616) : Calls Tryd.prog 11 #[.int .u64 a, .int .u64 b] w fun e w' => e = .returned (.tuple #[.int .u64 (cleft a b), .bool (b != 0)]) ∧ w' = w := by
  unfold cleft
  by_cases h0 : b = 0
  · have b0 : ((b : Int) == 0) = true := by simp; omega
    rw [if_pos h0, show (b != 0) = false by simp; omega]
    clear h0
    go_enter Tryd.func11, Tryd.ntmps11
    go_wp2_with fail
    go_ret2
    exact ⟨rfl, rfl⟩
  · have b0 : ((b : Int) == 0) = false := by simp; omega
    rw [if_neg h0, show (b != 0) = true by simp; omega]
    clear h0
    by_cases h1 : b ≤ a
    · have b1 : decide (b ≤ a) = true := by simp; omega
      have b2 : decide ((b : Int) ≤ a) = true := by simp; omega
      rw [show b - min a b = 0 by omega]
      clear h1
      go_enter Tryd.func11, Tryd.ntmps11
      go_wp2_with fail
      go_ret2
      exact ⟨rfl, rfl⟩
    · have b1 : decide (b ≤ a) = false := by simp; omega
      have b2 : decide ((b : Int) ≤ a) = false := by simp; omega
      have hw := u64_nat (b - a) (by omega)
      rw [show ((b - a : Nat) : Int) = b - a by omega] at hw
      rw [show b - min a b = b - a by omega, show ((b - a : Nat) : Int) = b - a by omega]
      clear h1
      go_enter Tryd.func11, Tryd.ntmps11
      go_wp2_with fail
      go_ret2
      exact ⟨rfl, rfl⟩

theorem cfg_7 : Cfg 7 224 := ⟨by decide, by decide, by decide, by decide, by decide⟩
theorem tick0 {w : World} {q : MH} {t : TM} (h : IsT w q t) (n : Nat) (c : Nat) (v : Nat) (hc : t.rt 16 = c) (hv : csum c n 4611686018427387904 = v) (u : Int) (hu : u = n) (y : Int) (hy : y = v) :
    Calls Tryd.prog 20 #[.pointer (some ⟨q.m, 0, none⟩), .int .u64 u] w fun e w' => e = .returned (.int .u64 y) ∧ IsT w' q (t.setRt 16 v) ∧ Fr q.blocks w w' := by
  subst hc hv hu hy
  exact tick_any h n
set_option maxRecDepth 100000 in
theorem ends_any (w : World) (hM : TabM w) : Calls Tryd.prog 16 #[] w fun e w' => e = .returned (.bool true) ∧ Fr [] w w' := by
  have hn : ∀ W, TabM W → Calls Tryd.prog 17 #[.agg #[.int .i64 7, .int .i64 224]] W (NewT W 7 224) := fun W h => tnew W h 7 224 cfg_7
  unfold NewT at hn
  have h0 := newT_rt 7 224 16 (by decide)
  have hb : ∀ W q, IsT W q (newT 7 224) → _ := fun W q h => cbegin_any h
  have hl : ∀ W, Calls Tryd.prog 10 #[.int .u64 6, .int .u64 8] W fun e w' => e = .returned (.tuple #[.int .u64 2, .bool true]) ∧ Fr [] W w' := fun W => left_any W 6 8 (by decide)
  have t1 : ∀ W q, IsT W q ((newT 7 224).setRt 16 0) → Calls Tryd.prog 20 #[.pointer (some ⟨q.m, 0, none⟩), .int .u64 5] W fun e w' => e = .returned (.int .u64 5) ∧ IsT w' q (((newT 7 224).setRt 16 0).setRt 16 5) ∧ Fr q.blocks W w' := fun W q h => tick0 h 5 0 5 rfl (by decide) 5 rfl 5 rfl
  have t2 : ∀ W q, IsT W q (((newT 7 224).setRt 16 0).setRt 16 5) → Calls Tryd.prog 20 #[.pointer (some ⟨q.m, 0, none⟩), .int .u64 2] W fun e w' => e = .returned (.int .u64 7) ∧ IsT w' q ((((newT 7 224).setRt 16 0).setRt 16 5).setRt 16 7) ∧ Fr q.blocks W w' := fun W q h => tick0 h 2 5 7 rfl (by decide) 2 rfl 7 rfl
  have hnow : ∀ W q, IsT W q ((((newT 7 224).setRt 16 0).setRt 16 5).setRt 16 7) → Calls Tryd.prog 21 #[.pointer (some ⟨q.m, 0, none⟩)] W fun e w' => e = .returned (.int .u64 7) ∧ IsT w' q ((((newT 7 224).setRt 16 0).setRt 16 5).setRt 16 7) ∧ Fr q.blocks W w' := fun W q h => now_any h
  have he : ∀ W, Calls Tryd.prog 12 #[.int .u64 5, .int .u64 3] W fun e w' => e = .returned (.int .u64 8) ∧ Fr [] W w' := fun W => end_any W 5 3
  have o1 : ∀ W, Calls Tryd.prog 14 #[.int .u64 7, .int .u64 8] W fun e w' => e = .returned (.bool false) ∧ w' = W := fun W => over_any W 7 8
  have o2 : ∀ W, Calls Tryd.prog 14 #[.int .u64 8, .int .u64 8] W fun e w' => e = .returned (.bool true) ∧ w' = W := fun W => over_any W 8 8
  have o3 : ∀ W, Calls Tryd.prog 14 #[.int .u64 8, .int .u64 0] W fun e w' => e = .returned (.bool false) ∧ w' = W := fun W => over_any W 8 0
  generalize (((newT 7 224).setRt 16 0).setRt 16 5).setRt 16 7 = z3 at *
  generalize ((newT 7 224).setRt 16 0).setRt 16 5 = z2 at *
  generalize (newT 7 224).setRt 16 0 = z1 at *
  generalize newT 7 224 = z0 at *
  clear h0
  go_enter Tryd.func16, Tryd.ntmps16
  go_wp2_with fail
  with_reducible refine (hn _ hM).mono ?_
  rintro e w1 ⟨q, rfl, q1, hq, f1⟩
  go_wp2_with fail
  with_reducible refine (hb _ _ q1).mono ?_
  rintro e w2 ⟨rfl, q2, f2⟩
  go_wp2_with fail
  with_reducible refine (t1 _ _ q2).mono ?_
  rintro e w3 ⟨rfl, q3, f3⟩
  go_wp2_with fail
  with_reducible refine (t2 _ _ q3).mono ?_
  rintro e w4 ⟨rfl, q4, f4⟩
  go_wp2_with fail
  with_reducible refine (hl _).mono ?_
  rintro e w5 ⟨rfl, f5⟩
  have q5 := q4.fr0 f5
  go_wp2_with fail
  with_reducible refine (hnow _ _ q5).mono ?_
  rintro e w6 ⟨rfl, q6, f6⟩
  go_wp2_with fail
  with_reducible refine (he _).mono ?_
  rintro e w7 ⟨rfl, f7⟩
  go_wp2_with fail
  with_reducible refine (o1 _).mono ?_
  rintro e w' ⟨rfl, rfl⟩
  go_wp2_with fail
  with_reducible refine (o2 _).mono ?_
  rintro e w' ⟨rfl, rfl⟩
  go_wp2_with fail
  with_reducible refine (o3 _).mono ?_
  rintro e w' ⟨rfl, rfl⟩
  go_wp2_with fail
  go_ret
  have F1 := (((((f2.trans f3).trans f4).trans f5.nil).trans f6).trans f7.nil)
  exact ⟨rfl, f1.step F1 (fun x hx => .inr (hq x hx))⟩

theorem walk_tells (w : World) (hM : TabM w) (a b c : Nat) (hc : c < 18446744073709551616) :
    Calls Tryd.prog 3 #[.int .u64 a, .int .u64 b, .int .u64 c] w fun e w' => e = .returned (.bool true) ∧ Fr [] w w' := by
  have h1 := fun W => left_any W a c hc
  have h2 := fun W => xleft_any W a c hc
  have h3 := fun W => end_any W a b
  have h4 := fun W => xend_any W a b
  have h5 := fun W => over_any W a c
  have h6 := fun W => xover_any W a c
  have h7 := ends_any
  generalize cleft a c = x at *
  generalize (c != 0) = y at *
  generalize cend a b = z at *
  generalize cover a c = u at *
  go_enter Tryd.func3, Tryd.ntmps3
  go_wp2_with fail
  with_reducible refine (h1 _).mono ?_
  rintro e w1 ⟨rfl, f1⟩
  go_wp2_with fail
  with_reducible refine (h2 _).mono ?_
  rintro e w' ⟨rfl, rfl⟩
  go_wp2_with fail
  with_reducible refine (h3 _).mono ?_
  rintro e w2 ⟨rfl, f2⟩
  go_wp2_with fail
  with_reducible refine (h4 _).mono ?_
  rintro e w' ⟨rfl, rfl⟩
  go_wp2_with fail
  with_reducible refine (h5 _).mono ?_
  rintro e w' ⟨rfl, rfl⟩
  go_wp2_with fail
  with_reducible refine (h6 _).mono ?_
  rintro e w' ⟨rfl, rfl⟩
  have hM2 := (hM.fr f1 (by simp)).fr f2 (by simp)
  go_wp2_with fail
  with_reducible refine (h7 _ hM2).mono ?_
  rintro e w3 ⟨rfl, f3⟩
  go_wp2_with fail
  go_ret
  exact ⟨rfl, (f1.trans f2).trans f3⟩

theorem cleft_sum (a b : Nat) : cleft a (a + b) = b := by unfold cleft; split <;> omega
theorem walk_over (w : World) (hM : TabM w) (a b c : Nat) :
    Calls Tryd.prog 4 #[.int .u64 a, .int .u64 b, .int .u64 c] w fun e w' => e = .returned (.bool true) ∧ Fr [] w w' := by
  have h7 := ends_any
  by_cases h1 : 4611686018427387904 < a
  · have b1 : decide ((4611686018427387904 : Int) < a) = true := by simp; omega
    clear h1
    go_enter Tryd.func4, Tryd.ntmps4
    go_wp2_with fail
    with_reducible refine (h7 _ hM).mono ?_
    rintro e w3 ⟨rfl, f3⟩
    go_wp2_with fail
    go_ret
    exact ⟨rfl, f3⟩
  have b1 : decide ((4611686018427387904 : Int) < a) = false := by simp; omega
  by_cases h2 : 4611686018427387904 < b
  · have b2 : decide ((4611686018427387904 : Int) < b) = true := by simp; omega
    clear h1 h2
    go_enter Tryd.func4, Tryd.ntmps4
    go_wp2_with fail
    with_reducible refine (h7 _ hM).mono ?_
    rintro e w3 ⟨rfl, f3⟩
    go_wp2_with fail
    go_ret
    exact ⟨rfl, f3⟩
  have b2 : decide ((4611686018427387904 : Int) < b) = false := by simp; omega
  by_cases h3 : 4611686018427387904 < c
  · have b3 : decide ((4611686018427387904 : Int) < c) = true := by simp; omega
    clear h1 h2 h3
    go_enter Tryd.func4, Tryd.ntmps4
    go_wp2_with fail
    with_reducible refine (h7 _ hM).mono ?_
    rintro e w3 ⟨rfl, f3⟩
    go_wp2_with fail
    go_ret
    exact ⟨rfl, f3⟩
  have b3 : decide ((4611686018427387904 : Int) < c) = false := by simp; omega
  have hw := u64_nat (a + c) (by omega)
  rw [Int.natCast_add] at hw
  by_cases h0 : b = 0
  · have b0 : ((b : Int) == 0) = true := by simp; omega
    have he : ∀ W, Calls Tryd.prog 12 #[.int .u64 a, .int .u64 b] W fun e w' => e = .returned (.int .u64 0) ∧ Fr [] W w' := fun W => by
      have := end_any W a b
      rw [show cend a b = 0 by unfold cend; rw [if_pos h0]] at this
      exact this
    have hl : ∀ W, Calls Tryd.prog 10 #[.int .u64 a, .int .u64 0] W fun e w' => e = .returned (.tuple #[.int .u64 0, .bool false]) ∧ Fr [] W w' := fun W => left_any W a 0 (by decide)
    have ho : ∀ W, Calls Tryd.prog 14 #[.int .u64 ((a : Int) + c), .int .u64 0] W fun e w' => e = .returned (.bool false) ∧ w' = W := fun W => by
      have := over_any W (a + c) 0
      rw [Int.natCast_add] at this
      exact this
    clear h0 h1 h2 h3
    go_enter Tryd.func4, Tryd.ntmps4
    go_wp2_with fail
    with_reducible refine (he _).mono ?_
    rintro e w1 ⟨rfl, f1⟩
    go_wp2_with fail
    with_reducible refine (hl _).mono ?_
    rintro e w2 ⟨rfl, f2⟩
    go_wp2_with fail
    with_reducible refine (ho _).mono ?_
    rintro e w' ⟨rfl, rfl⟩
    have hM2 := (hM.fr f1 (by simp)).fr f2 (by simp)
    go_wp2_with fail
    with_reducible refine (h7 _ hM2).mono ?_
    rintro e w3 ⟨rfl, f3⟩
    go_wp2_with fail
    go_ret
    exact ⟨rfl, (f1.trans f2).trans f3⟩
  have b0 : ((b : Int) == 0) = false := by simp; omega
  obtain ⟨E, hE⟩ : ∃ E, E = a + b := ⟨_, rfl⟩
  obtain ⟨o, ho⟩ : ∃ o, o = decide (b ≤ c) := ⟨_, rfl⟩
  obtain ⟨z, hz⟩ : ∃ z, z = cleft (a + c) E := ⟨_, rfl⟩
  have he : ∀ W, Calls Tryd.prog 12 #[.int .u64 a, .int .u64 b] W fun e w' => e = .returned (.int .u64 E) ∧ Fr [] W w' := fun W => by
    have := end_any W a b
    rw [show cend a b = E by unfold cend; rw [if_neg h0, csum_small (by omega) (by omega), hE]] at this
    exact this
  have hl : ∀ W, Calls Tryd.prog 10 #[.int .u64 a, .int .u64 E] W fun e w' => e = .returned (.tuple #[.int .u64 b, .bool true]) ∧ Fr [] W w' := fun W => by
    have := left_any W a E (by omega)
    rw [hE, cleft_sum, show (a + b != 0) = true by rw [bne_iff_ne]; omega, ← hE] at this
    exact this
  have hl2 : ∀ W, Calls Tryd.prog 10 #[.int .u64 ((a : Int) + c), .int .u64 E] W fun e w' => e = .returned (.tuple #[.int .u64 z, .bool true]) ∧ Fr [] W w' := fun W => by
    have := left_any W (a + c) E (by omega)
    rw [Int.natCast_add, ← hz, show (E != 0) = true by rw [bne_iff_ne]; omega] at this
    exact this
  have hv : ∀ W, Calls Tryd.prog 14 #[.int .u64 ((a : Int) + c), .int .u64 E] W fun e w' => e = .returned (.bool o) ∧ w' = W := fun W => by
    have := over_any W (a + c) E
    rw [Int.natCast_add, show cover (a + c) E = o by unfold cover; rw [ho, Bool.eq_iff_iff, decide_eq_true_eq, decide_eq_true_eq]; omega] at this
    exact this
  have hv2 : ∀ W, Calls Tryd.prog 14 #[.int .u64 a, .int .u64 E] W fun e w' => e = .returned (.bool false) ∧ w' = W := fun W => by
    have := over_any W a E
    rw [show cover a E = false by unfold cover; rw [decide_eq_false_iff_not]; omega] at this
    exact this
  have hz0 : ((z : Int) == 0) = o := by
    rw [hz, ho]
    unfold cleft
    rw [if_neg (by omega), Bool.eq_iff_iff]
    simp
    omega
  have hoc : decide ((b : Int) ≤ c) = o := by rw [ho]; simp
  have hoc2 : decide (b ≤ c) = o := ho.symm
  clear ho hz hE h0 h1 h2 h3
  cases o
  all_goals
    go_enter Tryd.func4, Tryd.ntmps4
    go_wp2_with fail
    with_reducible refine (he _).mono ?_
    rintro e w1 ⟨rfl, f1⟩
    go_wp2_with fail
    with_reducible refine (hl _).mono ?_
    rintro e w2 ⟨rfl, f2⟩
    go_wp2_with fail
    with_reducible refine (hl2 _).mono ?_
    rintro e w3 ⟨rfl, f3⟩
    go_wp2_with fail
    with_reducible refine (hv _).mono ?_
    rintro e w' ⟨rfl, rfl⟩
    go_wp2_with fail
    with_reducible refine (hv _).mono ?_
    rintro e w' ⟨rfl, rfl⟩
    go_wp2_with fail
    with_reducible refine (hv2 _).mono ?_
    rintro e w' ⟨rfl, rfl⟩
    have hM2 := ((hM.fr f1 (by simp)).fr f2 (by simp)).fr f3 (by simp)
    go_wp2_with fail
    with_reducible refine (h7 _ hM2).mono ?_
    rintro e w4 ⟨rfl, f4⟩
    go_wp2_with fail
    go_ret
    exact ⟨rfl, ((f1.trans f2).trans f3).trans f4⟩

theorem walk_tellsW (w : World) (hM : TabM w) (a : Int) (wa : (Lit.int .u64 a).wf = true) (b : Int) (wb : (Lit.int .u64 b).wf = true) (c : Int) (wc : (Lit.int .u64 c).wf = true) :
    Calls Tryd.prog 3 #[.int .u64 a, .int .u64 b, .int .u64 c] w fun e w' => e = .returned (.bool true) ∧ Fr [] w w' := by
  obtain ⟨a, rfl, _⟩ := lit_u64 wa
  obtain ⟨b, rfl, _⟩ := lit_u64 wb
  obtain ⟨c, rfl, hc⟩ := lit_u64 wc
  exact walk_tells w hM a b c hc
theorem walk_overW (w : World) (hM : TabM w) (a : Int) (wa : (Lit.int .u64 a).wf = true) (b : Int) (wb : (Lit.int .u64 b).wf = true) (c : Int) (wc : (Lit.int .u64 c).wf = true) :
    Calls Tryd.prog 4 #[.int .u64 a, .int .u64 b, .int .u64 c] w fun e w' => e = .returned (.bool true) ∧ Fr [] w w' := by
  obtain ⟨a, rfl, _⟩ := lit_u64 wa
  obtain ⟨b, rfl, _⟩ := lit_u64 wb
  obtain ⟨c, rfl, hc⟩ := lit_u64 wc
  exact walk_over w hM a b c

/-- A memory whose clock says c, without a fault. -/
def IsC (w : World) (q : MH) (c : Nat) : Prop := ∃ t, IsT w q t ∧ t.rt 16 = c ∧ t.ft = 0
theorem IsC.fr0 {w w' : World} {q : MH} {c : Nat} (h : IsC w q c) (hf : Fr [] w w') : IsC w' q c := by
  obtain ⟨t, h1, h2⟩ := h
  exact ⟨t, h1.fr0 hf, h2⟩
theorem IsC.begin {w : World} {q : MH} {c : Nat} (h : IsC w q c) : Calls Tryd.prog 18 #[.pointer (some ⟨q.m, 0, none⟩)] w fun e w' => e = .returned (.int .i64 0) ∧ IsC w' q 0 ∧ Fr q.blocks w w' := by
  obtain ⟨t, h1, h2, h3⟩ := h
  exact (cbegin_any h1).mono fun e w' ⟨he, hT, hf⟩ => ⟨he, ⟨_, hT, rfl, h3⟩, hf⟩
theorem IsC.tick {w : World} {q : MH} {c : Nat} (h : IsC w q c) (n : Nat) (v : Nat) (hv : csum c n 4611686018427387904 = v) :
    Calls Tryd.prog 20 #[.pointer (some ⟨q.m, 0, none⟩), .int .u64 n] w fun e w' => e = .returned (.int .u64 v) ∧ IsC w' q v ∧ Fr q.blocks w w' := by
  obtain ⟨t, h1, h2, h3⟩ := h
  subst h2 hv
  exact (tick_any h1 n).mono fun e w' ⟨he, hT, hf⟩ => ⟨he, ⟨_, hT, rfl, h3⟩, hf⟩
theorem IsC.now {w : World} {q : MH} {c : Nat} (h : IsC w q c) : Calls Tryd.prog 21 #[.pointer (some ⟨q.m, 0, none⟩)] w fun e w' => e = .returned (.int .u64 c) ∧ IsC w' q c ∧ Fr q.blocks w w' := by
  obtain ⟨t, h1, h2, h3⟩ := h
  subst h2
  exact (now_any h1).mono fun e w' ⟨he, hT, hf⟩ => ⟨he, ⟨_, hT, rfl, h3⟩, hf⟩
theorem IsC.faults {w : World} {q : MH} {c : Nat} (h : IsC w q c) : Calls Tryd.prog 22 #[.pointer (some ⟨q.m, 0, none⟩)] w fun e w' => e = .returned (.int .i64 0) ∧ Fr [] w w' := by
  obtain ⟨t, h1, h2, h3⟩ := h
  have := tfaults h1
  rw [h3] at this
  exact this

def tickRel (w : World) (q : MH) (l : List Nat) (v i : Value) (W : World) : Prop := ∃ k c : Nat, k ≤ l.length ∧ i = .int .i64 k ∧ v = .int .u64 c ∧ IsC W q c ∧ TabM W ∧ Fr [] w W
set_option maxHeartbeats 1000000 in
theorem walk_ticks (w : World) (hM : TabM w) (a : Option Addr) (c : Nat) (l : List Int) (h : NumA .u64 w a c l) :
    Calls Tryd.prog 5 #[.slice a l.length c] w fun e w' => e = .returned (.bool true) ∧ Fr [] w w' := by
  have h7 := ends_any
  have hlm := h.len
  unfold maxLen at hlm
  by_cases h60 : 60 < l.length
  · have b1 : decide ((60 : Int) < l.length) = true := by simp; omega
    have b2 : decide (60 < l.length) = true := by simp; omega
    generalize l.length = n at *
    clear h60 h
    go_enter Tryd.func5, Tryd.ntmps5
    go_wp2_with fail
    with_reducible refine (h7 _ hM).mono ?_
    rintro e w3 ⟨rfl, f3⟩
    go_wp2_with fail
    go_ret
    exact ⟨rfl, f3⟩
  have b1 : decide ((60 : Int) < l.length) = false := by simp; omega
  have b2 : decide (60 < l.length) = false := by simp; omega
  have hn : ∀ W, TabM W → Calls Tryd.prog 17 #[.agg #[.int .i64 7, .int .i64 224]] W (NewT W 7 224) := fun W h => tnew W h 7 224 cfg_7
  unfold NewT at hn
  have hz : ∀ W q, IsT W q (newT 7 224) → IsC W q 0 := fun W q h => ⟨_, h, newT_rt 7 224 16 (by decide), rfl⟩
  generalize newT 7 224 = z0 at *
  have HZ := Lib.hid hz
  have HH := Lib.hid h
  obtain ⟨ns, hns⟩ : ∃ ns : List Nat, ns.length = l.length := ⟨List.replicate l.length 0, by simp⟩
  have HR := Lib.hid (show ∀ q v i W, tickRel w q ns v i W = ∃ k c : Nat, k ≤ ns.length ∧ i = .int .i64 k ∧ v = .int .u64 c ∧ IsC W q c ∧ TabM W ∧ Fr [] w W from fun _ _ _ _ => rfl)
  rw [← hns] at b1 b2 hlm ⊢
  have HN := Lib.hid hns
  generalize tickRel w = R at *
  generalize ns.length = n at *
  clear h60 h hz hns
  go_enter Tryd.func5, Tryd.ntmps5
  go_wp2_with fail
  with_reducible refine (hn _ hM).mono ?_
  rintro e w1 ⟨q, rfl, q1, hq, f1⟩
  have c1 := HZ.out _ _ q1
  go_wp2_with fail
  with_reducible refine c1.begin.mono ?_
  rintro e w2 ⟨rfl, c2, f2⟩
  have f2' := f1.step f2 (fun x hx => .inr (hq x hx))
  have hM2 := hM.fr f2' (by simp)
  clear f2 f1 c1 q1 hn
  go_wp2_with fail
  go_loopw [4, 5] (fun v i W => R q ns v i W) (fun _ i _ => n - (intOf i).toNat)
  case atStart => rw [HR.out]; exact ⟨0, 0, by omega, rfl, rfl, c2, hM2, f2'⟩
  case round =>
    rw [HR.out] at hrel
    obtain ⟨k, c, hk, rfl, rfl, hc, hMr, hF⟩ := hrel
    clear c2 f2' hM2
    by_cases hlt : k < n
    · obtain ⟨g, o, rfl, hcell, hg⟩ := (HH.out.fr hF).at_ k (by rw [← HN.out]; exact hlt)
      have hwf := HH.out.wf (l[k]?.getD 0) (by
        have : k < l.length := by rw [← HN.out]; exact hlt
        rw [List.getElem?_eq_getElem this]; exact List.getElem_mem _)
      generalize l[k]?.getD 0 = u at *
      obtain ⟨u, rfl, hu⟩ := lit_u64 hwf
      obtain ⟨v, hv⟩ : ∃ v, csum c u 4611686018427387904 = v := ⟨_, rfl⟩
      have hxt : ∀ W, Calls Tryd.prog 19 #[.int .u64 c, .int .u64 u] W fun e w' => e = .returned (.int .u64 v) ∧ w' = W := fun W => hv ▸ xtick_any W c u
      have HV := Lib.hid hv
      clear hv hwf
      go_wp2_with fail
      with_reducible refine (hxt _).mono ?_
      rintro e w' ⟨rfl, rfl⟩
      go_wp2_with fail
      with_reducible refine (hc.tick u v HV.out).mono ?_
      rintro e w3 ⟨rfl, c3, f3⟩
      go_wp2_with fail
      with_reducible refine c3.now.mono ?_
      rintro e w4 ⟨rfl, c4, f4⟩
      have F4 := hF.step (f3.trans f4) (fun x hx => .inr (hq x hx))
      have hM4 := hM.fr F4 (by simp)
      clear hF f3 f4 hMr hcell
      go_wp2_with fail
      rw [HR.out]
      exact ⟨⟨k + 1, v, by omega, by go_num, rfl, c4, hM4, F4⟩, by simp [intOf]; omega⟩
    · obtain rfl : k = n := by omega
      go_wp2_with fail
      with_reducible refine hc.faults.mono ?_
      rintro e w3 ⟨rfl, f3⟩
      have hM3 := hMr.fr f3 (by simp)
      go_wp2_with fail
      with_reducible refine (h7 _ hM3).mono ?_
      rintro e w4 ⟨rfl, f4⟩
      go_wp2_with fail
      go_ret
      exact ⟨rfl, (hF.trans f3).trans f4⟩
end Go.Proofs.YtcagljjbiodcoaaDoor
