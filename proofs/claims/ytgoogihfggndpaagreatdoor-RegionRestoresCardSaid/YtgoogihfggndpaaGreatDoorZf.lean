/- ref09.HeadAt, ref08.Index. -/
import Derived.Test.YtgoogihfggndpaaGreatDoorZe
import Derived.Test.YtgoogihfggndpaaGreatDoorGJ
import Derived.Test.YtgoogihfggndpaaGreatDoorLB
namespace Go.Proofs.YtgoogihfggndpaaGreatDoor
set_option linter.unusedVariables false
set_option linter.unusedSimpArgs false
open Go.RowKit

section
variable {w : World}
set_option maxRecDepth 100000 in
theorem xheadat9 (a s i : Nat) (h : Cfg a s) (hi : i < a) : Calls Tryz.prog 110 #[.agg #[.int .i64 a, .int .i64 s], .int .i64 i] w fun e w' => e = .returned (.int .i64 (hdAt i : Nat)) ∧ Fr [] w w' := by
  have hr := Lib.hid (fun W => xright9 (w := W) a s h)
  have F0 := Lib.hid ((Fr.refl [] w).alloc (.cells #[.int .i64 a, .int .i64 s] 23))
  have B0 := Lib.hid (Blk.new w 23 #[.int .i64 a, .int .i64 s])
  have ha := h.a2
  have b1 : decide ((i : Int) < 0) = false := by simp
  have b2 : decide ((a : Int) ≤ i) = false := by simp; omega
  have b2' : decide (a ≤ i) = false := by simp; omega
  have w1 : IntKind.i64.wrap (16 * (i : Int)) = 16 * (i : Int) := IntWalk.i64_in _ (by omega)
  have w2 : IntKind.i64.wrap (128 + 16 * (i : Int)) = ((hdAt i : Nat) : Int) := by rw [IntWalk.i64_in _ (by omega)]; unfold hdAt; omega
  generalize hdAt i = r at *
  clear ha hi h
  go_enter Tryz.func110, Tryz.ntmps110
  (have d0 := B0.out.cell 0; have d1 := B0.out.cell 1; simp at d0 d1)
  go_wp2_with fail
  with_reducible refine (hr.out _).mono ?_
  rintro e w1 ⟨rfl, f⟩
  have B1 := Lib.hid (B0.out.fr f (by simp))
  have F1 := Lib.hid (F0.out.trans f)
  clear f
  clear d0 d1
  (have d0 := B1.out.cell 0; have d1 := B1.out.cell 1; simp at d0 d1)
  go_wp2_with fail
  go_ret
  exact ⟨rfl, F1.out⟩
set_option maxHeartbeats 1000000 in
theorem xindex8 (c b f : Nat) (hc : 1 ≤ c ∧ c ≤ 9) (x : Int) (hx : x = (f : Int) - b) :
    Calls Tryz.prog 115 #[.int .i64 c, .int .i64 x] w fun e w' => e = .returned (match idxN b c f with | some k => .tuple #[.int .i64 k, .bool true] | none => .tuple #[.int .i64 0, .bool false]) ∧ w' = w := by
  have hk := Lib.hid (fun W => xblocks8 (w := W) (c : Int))
  have hs := Lib.hid (fun W => xsize8 (w := W) (c : Int))
  rw [nbkZ_nat c hc.2] at hk
  rw [cszZ_nat c hc.2] at hs
  have hz := csz_tab c hc.1 hc.2
  have hsz := csz_mul c hc.2
  have HI := Lib.hid (fun k (hk : k < nbk c) (he : ((k * csz c : Nat) : Int) = x) => (show idxN b c f = some k from by
    unfold idxN
    have h1 : f - b = k * csz c := by omega
    have h2 : 0 < csz c := by omega
    rw [if_pos ⟨by omega, by rw [h1, Nat.mul_mod_left], by rw [h1, Nat.mul_div_cancel _ h2]; exact hk⟩, h1, Nat.mul_div_cancel _ h2]))
  have HN := Lib.hid (fun (hk : ∀ k, k < nbk c → ((k * csz c : Nat) : Int) ≠ x) => (show idxN b c f = none from by
    rcases h : idxN b c f with _ | k
    · rfl
    · obtain ⟨h1, h2⟩ := idxN_lt h
      refine absurd ?_ (hk k h1)
      rw [h2] at hx
      have : csz c * k = k * csz c := Nat.mul_comm _ _
      omega))
  have hn32 : nbk c ≤ 32 := by omega
  have hc512 : csz c ≤ 512 := by omega
  obtain ⟨E, hE⟩ : ∃ E : Ending, Ending.returned (match idxN b c f with | some k => .tuple #[.int .i64 k, .bool true] | none => .tuple #[.int .i64 0, .bool false]) = E := ⟨_, rfl⟩
  rw [hE]
  have HI' := Lib.hid (fun k (hk : k < nbk c) (he : ((k * csz c : Nat) : Int) = x) => (show Ending.returned (.tuple #[.int .i64 k, .bool true]) = E from by rw [← hE, HI.out k hk he]))
  have HN' := Lib.hid (fun (hk : ∀ k, k < nbk c → ((k * csz c : Nat) : Int) ≠ x) => (show Ending.returned (.tuple #[.int .i64 0, .bool false]) = E from by rw [← hE, HN.out hk]))
  clear HI HN hE
  generalize nbk c = n at *
  generalize csz c = z at *
  clear hx hz hsz hc
  go_enter Tryz.func115, Tryz.ntmps115
  go_wp2_with fail
  go_loopw [6] (fun v W => ∃ i : Nat, i ≤ n ∧ v = .int .i64 i ∧ (∀ k, k < i → ((k * z : Nat) : Int) ≠ x) ∧ W = w) (fun v _ => n - (intOf v).toNat)
  case atStart => exact ⟨0, Nat.zero_le _, rfl, fun k hk => absurd hk (Nat.not_lt_zero _), rfl⟩
  case round =>
    obtain ⟨i, hi, rfl, hno, rfl⟩ := hrel
    have HNo := Lib.hid hno
    clear hno
    go_wp2_with fail
    with_reducible refine (hk.out _).mono ?_
    rintro e w1 ⟨rfl, rfl⟩
    by_cases hlt : i < n
    · have b1 : decide ((i : Int) < n) = true := by simp; omega
      have b1' : decide (i < n) = true := by simp; omega
      have hm : i * z ≤ 32 * 512 := Nat.mul_le_mul (by omega) hc512
      have wm : IntKind.i64.wrap ((i : Int) * z) = ((i * z : Nat) : Int) := by rw [IntWalk.i64_in _ (by rw [← Int.natCast_mul]; omega)]; simp
      have wi : IntKind.i64.wrap ((i : Int) + 1) = (i : Int) + 1 := IntWalk.i64_in _ (by omega)
      generalize hq : i * z = q at *
      have Hq := Lib.hid hq
      go_wp2_with fail
      with_reducible refine (hs.out _).mono ?_
      rintro e w2 ⟨rfl, rfl⟩
      by_cases he : ((q : Nat) : Int) = x
      · have b2 : (((q : Nat) : Int) == x) = true := by simpa using he
        go_wp2_with fail
        go_ret2
        exact ⟨HI'.out i hlt (by rw [Hq.out]; exact he), rfl⟩
      · have b2 : (((q : Nat) : Int) == x) = false := by simpa using he
        go_wp2_with fail
        go_roundw
        case rel => exact ⟨i + 1, by omega, by go_num, fun k hk => by
          rcases Nat.lt_succ_iff_lt_or_eq.1 hk with h | h
          · exact HNo.out k h
          · subst h; rw [Hq.out]; exact he, trivial⟩
        case measure => simp [intOf]; omega
    · obtain rfl : i = n := by omega
      have b1 : decide ((i : Int) < i) = false := by simp
      have b1' : decide (i < i) = false := by simp
      go_wp2_with fail
      go_ret2
      exact ⟨HN'.out HNo.out, rfl⟩
end
end Go.Proofs.YtgoogihfggndpaaGreatDoor
