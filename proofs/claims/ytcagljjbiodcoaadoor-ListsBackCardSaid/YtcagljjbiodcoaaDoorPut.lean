/- Numbers that lie in bytes, in plain words. -/
import Derived.Test.YtcagljjbiodcoaaDoorBase
import Derived.IntWalk
namespace Go.Proofs.YtcagljjbiodcoaaDoor
set_option linter.unusedVariables false
open Go.RowKit

/-- The low n bytes of v are laid from place a on. -/
def putTo (l : List Nat) (a v : Nat) : Nat → List Nat
  | 0 => l
  | i + 1 => (putTo l a v i).set (a + i) (v / 256 ^ i % 256)
/-- The number that lies in n bytes from place a on. -/
def ldTo (l : List Nat) (a : Nat) : Nat → Nat
  | 0 => 0
  | i + 1 => ldTo l a i + l[a + i]?.getD 0 * 256 ^ i
theorem putTo_len (l : List Nat) (a v : Nat) : ∀ n, (putTo l a v n).length = l.length
  | 0 => rfl
  | n + 1 => by rw [putTo, List.length_set, putTo_len l a v n]
theorem putTo_byte (l : List Nat) (hl : ∀ b ∈ l, b < 256) (a v : Nat) : ∀ n, ∀ b ∈ putTo l a v n, b < 256
  | 0 => hl
  | n + 1 => fun b hb => (List.mem_or_eq_of_mem_set hb).elim (putTo_byte l hl a v n b) (fun e => e ▸ Nat.mod_lt _ (by decide))
theorem putTo_get (l : List Nat) (a v : Nat) : ∀ n, a + n ≤ l.length → ∀ i, (putTo l a v n)[i]?.getD 0 = if a ≤ i ∧ i < a + n then v / 256 ^ (i - a) % 256 else l[i]?.getD 0
  | 0, _, i => by rw [if_neg (by omega)]; rfl
  | n + 1, h, i => by
    rw [putTo, List.getElem?_set]
    by_cases e : a + n = i
    · subst e
      rw [if_pos rfl, if_pos (by rw [putTo_len]; omega), if_pos (by omega), show a + n - a = n by omega]; rfl
    · rw [if_neg e, putTo_get l a v n (by omega) i]
      by_cases c : a ≤ i ∧ i < a + n
      · rw [if_pos c, if_pos (by omega)]
      · rw [if_neg c, if_neg (by omega)]
theorem ldTo_lt (l : List Nat) (hl : ∀ b ∈ l, b < 256) (a : Nat) : ∀ n, ldTo l a n < 256 ^ n
  | 0 => by simp [ldTo]
  | n + 1 => by
    have h1 := ldTo_lt l hl a n
    have h2 : l[a + n]?.getD 0 ≤ 255 := by
      rcases h : l[a + n]? with _ | b
      · simp
      · have := hl b (List.mem_of_getElem? h)
        simp; omega
    rw [ldTo, Nat.pow_succ]
    have h3 : l[a + n]?.getD 0 * 256 ^ n ≤ 255 * 256 ^ n := Nat.mul_le_mul_right _ h2
    omega
theorem ldTo_congr (l m : List Nat) (a : Nat) : ∀ n, (∀ i, i < n → l[a + i]?.getD 0 = m[a + i]?.getD 0) → ldTo l a n = ldTo m a n
  | 0, _ => rfl
  | n + 1, h => by rw [ldTo, ldTo, ldTo_congr l m a n (fun i hi => h i (by omega)), h n (by omega)]
theorem mod_pow_succ (v n : Nat) : v % 256 ^ (n + 1) = v % 256 ^ n + v / 256 ^ n % 256 * 256 ^ n := by
  rw [Nat.pow_succ, Nat.mod_mul, Nat.mul_comm (256 ^ n)]
theorem ldTo_put (l : List Nat) (a v : Nat) (n : Nat) (h : a + n ≤ l.length) : ∀ j, j ≤ n → ldTo (putTo l a v n) a j = v % 256 ^ j
  | 0, _ => by simp [ldTo, Nat.mod_one]
  | j + 1, hj => by
    rw [ldTo, ldTo_put l a v n h j (by omega), putTo_get l a v n h, if_pos (by omega), show a + j - a = j by omega, mod_pow_succ]
/-- Bytes come back out of their number. -/
theorem ldTo_byte (l : List Nat) (hl : ∀ b ∈ l, b < 256) (a : Nat) : ∀ n, ∀ i, i < n → ldTo l a n / 256 ^ i % 256 = l[a + i]?.getD 0
  | 0, i, hi => by omega
  | n + 1, i, hi => by
    have h1 := ldTo_lt l hl a n
    have h2 : l[a + n]?.getD 0 < 256 := by
      rcases h : l[a + n]? with _ | b
      · simp
      · have := hl b (List.mem_of_getElem? h)
        simpa using this
    rw [ldTo]
    by_cases e : i = n
    · subst e
      rw [Nat.add_mul_div_right _ _ (Nat.pow_pos (by decide)), Nat.div_eq_of_lt h1, Nat.zero_add, Nat.mod_eq_of_lt h2]
    · have hp : 256 ^ n = 256 ^ i * (256 * 256 ^ (n - i - 1)) := by
        rw [← Nat.mul_assoc, ← Nat.pow_succ, ← Nat.pow_add]; congr 1; omega
      rw [hp, show l[a + n]?.getD 0 * (256 ^ i * (256 * 256 ^ (n - i - 1))) = 256 ^ i * (256 * (l[a + n]?.getD 0 * 256 ^ (n - i - 1))) by
        rw [Nat.mul_left_comm, Nat.mul_left_comm _ 256], Nat.add_mul_div_left _ _ (Nat.pow_pos (by decide)), Nat.add_mul_mod_self_left]
      exact ldTo_byte l hl a n i (by omega)
theorem ldTo_front (l : List Nat) (a : Nat) : ∀ n, ldTo l a (n + 1) = l[a]?.getD 0 + 256 * ldTo l (a + 1) n
  | 0 => by simp [ldTo]
  | n + 1 => by
    rw [ldTo, ldTo_front l a n, ldTo, Nat.pow_succ, Nat.mul_add, show a + 1 + n = a + (n + 1) by omega, Nat.mul_left_comm 256, Nat.mul_comm 256 (256 ^ n)]
    omega
theorem ldTo_of (l : List Nat) (a v : Nat) : ∀ n, (∀ j, j < n → l[a + j]?.getD 0 = v / 256 ^ j % 256) → ldTo l a n = v % 256 ^ n
  | 0, _ => by simp [ldTo, Nat.mod_one]
  | n + 1, h => by rw [ldTo, ldTo_of l a v n (fun j hj => h j (by omega)), h n (by omega), mod_pow_succ]
/-- A number as a word of 64 bits. -/
def w64 (z : Int) : Nat := (z % 18446744073709551616).toNat
theorem u64_w64 (z : Int) : IntKind.u64.wrap z = (w64 z : Int) := by
  have : IntKind.u64.wrap z = z % 18446744073709551616 := rfl
  rw [this, w64]; omega
theorem u64_nat (n : Nat) (h : n < 18446744073709551616) : IntKind.u64.wrap (n : Int) = (n : Int) := by
  have : IntKind.u64.wrap (n : Int) = (n : Int) % 18446744073709551616 := rfl
  rw [this]; omega
theorem u32_mod (n : Nat) : IntKind.u32.wrap (n : Int) = ((n % 4294967296 : Nat) : Int) := by
  have : IntKind.u32.wrap (n : Int) = (n : Int) % 4294967296 := rfl
  rw [this]; omega
theorem u16_mod (n : Nat) : IntKind.u16.wrap (n : Int) = ((n % 65536 : Nat) : Int) := by
  have : IntKind.u16.wrap (n : Int) = (n : Int) % 65536 := rfl
  rw [this]; omega
theorem ldTo_lt64 (l : List Nat) (hl : ∀ b ∈ l, b < 256) (a n : Nat) (hn : n ≤ 8) : ldTo l a n < 18446744073709551616 := by
  have h1 := ldTo_lt l hl a n
  have h2 : (256 : Nat) ^ n ≤ 256 ^ 8 := Nat.pow_le_pow_right (by decide) hn
  omega
end Go.Proofs.YtcagljjbiodcoaaDoor
