/- ref16: number. -/
import Derived.Test.YtgoogihfggndpaaGreatDoorLB
namespace Go.Proofs.YtgoogihfggndpaaGreatDoor
set_option linter.unusedVariables false
set_option linter.unusedSimpArgs false
open Go.RowKit

theorem ldTo_lt32 {l : List Nat} {x k : Nat} (hk : k ≤ 4) (hb : ∀ b ∈ l, b < 256) : ldTo l x k < 4294967296 := by
  have h1 := ldTo_lt l hb x k
  have : 256 ^ k ≤ 256 ^ 4 := Nat.pow_le_pow_right (by decide) hk
  omega
set_option maxHeartbeats 1000000 in
theorem xnum16 {w : World} (ad : Option Addr) (c : Nat) (l : List Nat) (hb : Byt w ad l) (x k : Nat) (hk : k ≤ 4) (hx : x + k ≤ l.length) : Calls Tryz.prog 112 #[.slice ad l.length c, .int .i64 x, .int .i64 k] w fun e w' => e = .returned (.int .i64 (imN l x k)) ∧ w' = w := by
  have HB := Lib.hid hb
  have hlen := hb.len
  have wk : IntKind.i64.wrap ((k : Int) - 1) = (k : Int) - 1 := IntWalk.i64_in _ (by omega)
  clear hb
  go_enter Tryz.func112, Tryz.ntmps112
  go_wp2_with fail
  go_loopw [7, 8] (fun u v W => ∃ i : Nat, i ≤ k ∧ v = .int .i64 ((i : Int) - 1) ∧ u = .int .i64 (ldTo l (x + i) (k - i)) ∧ W = w) (fun _ v _ => (intOf v + 1).toNat)
  case atStart => exact ⟨k, Nat.le_refl _, rfl, by simp [ldTo], rfl⟩
  case round =>
    obtain ⟨i, hi, rfl, rfl, rfl⟩ := hrel
    rcases i with _ | i
    · have b1 : decide ((0 : Int) ≤ ((0 : Nat) : Int) - 1) = false := by simp
      have b1' : decide ((0 : Int) ≤ 0 - 1) = false := by simp
      go_wp2_with fail
      go_ret
      exact ⟨by simp [imN], rfl⟩
    · have hE : ((i + 1 : Nat) : Int) - 1 = (i : Int) := by omega
      rw [hE]
      have b1 : decide ((0 : Int) ≤ (i : Int)) = true := by simp
      obtain ⟨g, o, rfl, hc, hg⟩ := HB.out.at_ (x + i) (by omega)
      have hlt := ldTo_lt32 (l := l) (x := x + (i + 1)) (k := k - (i + 1)) (by omega) HB.out.byte
      have hby : l[x + i]?.getD 0 < 256 := by
        rw [List.getElem?_eq_getElem (by omega)]
        exact HB.out.byte _ (List.getElem_mem _)
      have hS : ldTo l (x + i) (k - i) = l[x + i]?.getD 0 + 256 * ldTo l (x + (i + 1)) (k - (i + 1)) := by
        rw [show k - i = (k - (i + 1)) + 1 by omega, ldTo_front, show x + (i + 1) = x + i + 1 by omega]
      have HS := Lib.hid hS
      clear hS
      generalize l[x + i]?.getD 0 = y at *
      generalize ldTo l (x + (i + 1)) (k - (i + 1)) = z at *
      have w1 : IntKind.i64.wrap (256 * (z : Int)) = 256 * (z : Int) := IntWalk.i64_in _ (by omega)
      have w2 : IntKind.i64.wrap ((x : Int) + i) = (x : Int) + i := IntWalk.i64_in _ (by omega)
      have w3 : IntKind.i64.wrap (256 * (z : Int) + y) = 256 * (z : Int) + y := IntWalk.i64_in _ (by omega)
      have w4 : IntKind.i64.wrap ((i : Int) - 1) = (i : Int) - 1 := IntWalk.i64_in _ (by omega)
      have w5 : IntKind.i64.wrap (y : Int) = y := IntWalk.i64_in _ (by omega)
      have i0 : (0 : Int) ≤ (x : Int) + i := by omega
      have i1 : (x : Int) + i < l.length := by omega
      have hcx : wr.cell? ⟨g, o + ((x : Int) + i).toNat, none⟩ = some (.int .u8 y) := by rw [show ((x : Int) + i).toNat = x + i by omega]; exact hc
      go_wp2_with fail
      go_roundw
      case rel => exact ⟨i, by omega, rfl, by rw [HS.out]; congr 1; omega, trivial⟩
      case measure => simp [intOf]
end Go.Proofs.YtgoogihfggndpaaGreatDoor
