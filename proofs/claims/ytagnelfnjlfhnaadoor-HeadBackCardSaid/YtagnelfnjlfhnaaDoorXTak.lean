/- ref13's taken and with. -/
import Derived.Test.YtagnelfnjlfhnaaDoorHeads
import Derived.Test.YtagnelfnjlfhnaaDoorH13i
namespace Go.Proofs.YtagnelfnjlfhnaaDoor
set_option linter.unusedVariables false
open Go.RowKit

theorem ldTo_front (l : List Nat) (a : Nat) : ∀ n, ldTo l a (n + 1) = l[a]?.getD 0 + 256 * ldTo l (a + 1) n
  | 0 => by simp [ldTo]
  | n + 1 => by
    rw [ldTo, ldTo_front l a n, ldTo, Nat.pow_succ, Nat.mul_add, show a + 1 + n = a + (n + 1) by omega, Nat.mul_left_comm 256, Nat.mul_comm 256 (256 ^ n)]
    omega

set_option maxHeartbeats 1000000 in
theorem taken_any (w : World) (g o c : Nat) (l : List Nat) (x k : Nat) (hk : k ≤ 8) (hx : x + k ≤ l.length) (hl : l.length ≤ 1099511627776)
    (hcell : ∀ i, i < l.length → w.cell? ⟨g, o + i, none⟩ = some (.int .u8 ((l[i]?.getD 0 : Nat) : Int))) (hby : ∀ b ∈ l, b < 256) :
    Calls Tryd.prog 33 #[.slice (some ⟨g, o, none⟩) l.length c, .int .i64 x, .int .i64 k] w fun e w' => e = .returned (.int .u64 (ldTo l x k)) ∧ w' = w := by
  have HC := Lib.hid hcell
  have HB := Lib.hid hby
  clear hcell hby
  generalize hn : l.length = n at *
  have HN := Lib.hid hn
  clear hn
  go_enter Tryd.func33, Tryd.ntmps33
  go_wp2
  go_loop [7, 8] (fun v i => ∃ j : Nat, j ≤ k ∧ i = .int .i64 ((j : Int) - 1) ∧ v = .int .u64 (ldTo l (x + j) (k - j))) (fun _ i => (intOf i + 1).toNat)
  case atStart => exact ⟨k, by omega, rfl, by rw [Nat.sub_self]; rfl⟩
  case round =>
    obtain ⟨j, hj, rfl, rfl⟩ := hrel
    by_cases h0 : 0 < j
    · obtain ⟨i, rfl⟩ : ∃ i, j = i + 1 := ⟨j - 1, by omega⟩
      have hc := HC.out (x + i) (by omega)
      have hlo := ldTo_lt l HB.out (x + i) (k - i)
      have hfr := ldTo_front l (x + i) (k - (i + 1))
      have e1 : k - (i + 1) + 1 = k - i := by omega
      rw [e1, show x + i + 1 = x + (i + 1) by omega] at hfr
      have hp : (256 : Nat) ^ (k - i) ≤ 256 ^ 8 := Nat.pow_le_pow_right (by decide) (by omega)
      have h64 : ldTo l (x + i) (k - i) < 18446744073709551616 := by omega
      have e2 : ((i + 1 : Nat) : Int) - 1 = i := by omega
      rw [e2]
      generalize l[x + i]?.getD 0 = b at *
      obtain ⟨v', hv'⟩ : ∃ v', v' = ldTo l (x + i) (k - i) := ⟨_, rfl⟩
      rw [← hv'] at hfr h64
      generalize ldTo l (x + (i + 1)) (k - (i + 1)) = v at *
      have HV := Lib.hid hv'
      have HF := Lib.hid hfr
      have H64 := Lib.hid h64
      clear hv' hfr h64 hlo hp e1 e2
      go_wp2
      refine ⟨⟨i, by omega, by go_num, ?_⟩, by simp [intOf] <;> omega⟩
      rw [← HV.out, HF.out]
      refine congrArg (Value.int IntKind.u64) ?_
      have hf := HF.out
      have h6 := H64.out
      have hw : ∀ z : Int, IntKind.u64.wrap z = z % 18446744073709551616 := fun _ => rfl
      rw [hw, hw, hw]
      omega
    · obtain rfl : j = 0 := by omega
      go_wp2
      go_ret
      exact ⟨rfl, rfl⟩
end Go.Proofs.YtagnelfnjlfhnaaDoor
