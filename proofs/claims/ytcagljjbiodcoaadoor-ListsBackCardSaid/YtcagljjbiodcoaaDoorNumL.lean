/- num.Load. -/
import Derived.Test.YtcagljjbiodcoaaDoorNum
namespace Go.Proofs.YtcagljjbiodcoaaDoor
set_option linter.unusedVariables false
open Go.RowKit

def ldV (l : List Nat) (x w : Int) : Nat := if placeE l.length x w = 0 then ldTo l x.toNat w.toNat else 0

theorem or_byte (v b j : Nat) (hj : j < 8) (hb : b < 256) (hv : v < 256 ^ j) : bits BinOp.or IntKind.u64 (v : Int) (IntKind.u64.wrap ((b : Int) * 2 ^ (8 * j))) = ((v + b * 256 ^ j : Nat) : Int) := by
  have hp : (256 : Nat) ^ j = 2 ^ (8 * j) := by rw [Nat.pow_mul]
  have hp7 : (256 : Nat) ^ j ≤ 256 ^ 7 := Nat.pow_le_pow_right (by decide) (by omega)
  have hm : b * 256 ^ j ≤ 255 * 256 ^ 7 := Nat.mul_le_mul (by omega) hp7
  have e1 : ((b : Int) * 2 ^ (8 * j)) = ((b * 256 ^ j : Nat) : Int) := by rw [hp]; push_cast; rfl
  have e2 : IntKind.u64.wrap ((b * 256 ^ j : Nat) : Int) = ((b * 256 ^ j : Nat) : Int) := by
    have : IntKind.u64.wrap ((b * 256 ^ j : Nat) : Int) = ((b * 256 ^ j : Nat) : Int) % 18446744073709551616 := rfl
    rw [this]; omega
  have hv7 : v < 256 ^ 7 := Nat.lt_of_lt_of_le hv hp7
  rw [e1, e2]
  have e3 : ((v ||| (b * 256 ^ j) : Nat)) = v + b * 256 ^ j := by
    rw [hp, ← Nat.shiftLeft_eq, Nat.or_comm, ← Nat.shiftLeft_add_eq_or_of_lt (by rw [← hp]; exact hv), Nat.add_comm]
  have e4 : bits BinOp.or IntKind.u64 (v : Int) ((b * 256 ^ j : Nat) : Int) = IntKind.u64.wrap ((BitVec.ofInt 64 (v : Int) ||| BitVec.ofInt 64 ((b * 256 ^ j : Nat) : Int)).toNat : Int) := rfl
  rw [e4, BitVec.ofInt_natCast, BitVec.ofInt_natCast, BitVec.toNat_or, BitVec.toNat_ofNat, BitVec.toNat_ofNat, Nat.mod_eq_of_lt (by omega), Nat.mod_eq_of_lt (by omega), e3]
  have : IntKind.u64.wrap ((v + b * 256 ^ j : Nat) : Int) = ((v + b * 256 ^ j : Nat) : Int) % 18446744073709551616 := rfl
  rw [this]; omega

theorem load_bad (w : World) (a : Option Addr) (c : Nat) (l : List Nat) (h : l.length ≤ 1099511627776) (x wd : Int) (hb : placeE l.length x wd ≠ 0) :
    Calls Tryd.prog 91 #[.slice a l.length c, .int .i64 x, .int .i64 wd] w fun e w' => e = .returned (.tuple #[.int .u64 0, .int .i64 (placeE l.length x wd)]) ∧ w' = w := by
  have hp := fun w => place_e w l.length x wd h
  generalize placeE l.length x wd = E at *
  have he : ((E : Int) != 0) = true := by simp; omega
  generalize l.length = n at *
  clear hb
  go_enter Tryd.func91, Tryd.ntmps91
  go_wp2_with (go_at_call 116; refine (hp _).mono ?_; rintro e w' ⟨rfl, rfl⟩)
  go_ret2
  exact ⟨rfl, rfl⟩

set_option maxHeartbeats 1000000 in
theorem load_ok (w : World) (g o c : Nat) (l : List Nat) (x k : Nat) (hk : k = 1 ∨ k = 2 ∨ k = 4 ∨ k = 8) (hx : x + k ≤ l.length) (hl : l.length ≤ 1099511627776)
    (hcell : ∀ i, i < l.length → w.cell? ⟨g, o + i, none⟩ = some (.int .u8 ((l[i]?.getD 0 : Nat) : Int))) (hby : ∀ b ∈ l, b < 256) (hp : ∀ w, Calls Tryd.prog 116 #[.int .i64 l.length, .int .i64 x, .int .i64 k] w fun e w' => e = .returned (.int .i64 0) ∧ w' = w) :
    Calls Tryd.prog 91 #[.slice (some ⟨g, o, none⟩) l.length c, .int .i64 x, .int .i64 k] w fun e w' => e = .returned (.tuple #[.int .u64 (ldTo l x k), .int .i64 0]) ∧ w' = w := by
  have HC := Lib.hid hcell
  have HB := Lib.hid hby
  clear hcell hby
  have hk8 : k ≤ 8 := by omega
  generalize hn : l.length = n at *
  have HN := Lib.hid hn
  clear hn hk
  go_enter Tryd.func91, Tryd.ntmps91
  go_wp2_with (go_at_call 116; refine (hp _).mono ?_; rintro e w' ⟨rfl, rfl⟩)
  go_loop [9, 20] (fun v i => ∃ j : Nat, j ≤ k ∧ i = .int .i64 j ∧ v = .int .u64 (ldTo l x j)) (fun _ i => k - (intOf i).toNat)
  case atStart => exact ⟨0, by omega, rfl, rfl⟩
  case round =>
    obtain ⟨j, hj, rfl, rfl⟩ := hrel
    by_cases hlt : j < k
    · have hc := HC.out (x + j) (by omega)
      have hlo := ldTo_lt l HB.out x j
      generalize hb : l[x + j]?.getD 0 = b at *
      have hbb : b < 256 := by
        rw [← hb]
        rcases h : l[x + j]? with _ | c
        · simp
        · exact HB.out c (List.mem_of_getElem? h)
      have hs : ldTo l x (j + 1) = ldTo l x j + b * 256 ^ j := by rw [ldTo, hb]
      obtain ⟨v', hv'⟩ : ∃ v', v' = ldTo l x (j + 1) := ⟨_, rfl⟩
      rw [← hv'] at hs
      have HW := Lib.hid hv'
      clear hv'
      generalize ldTo l x j = v at *
      have HS := Lib.hid hs
      have HV := Lib.hid hlo
      clear hs hb hlo
      go_wp2
      refine ⟨⟨j + 1, by omega, by go_num, ?_⟩, by simp [intOf]; omega⟩
      rw [or_byte v b j (by omega) hbb HV.out, ← HS.out, ← HW.out]
    · obtain rfl : j = k := by omega
      go_wp2
      go_ret2
      exact ⟨rfl, rfl⟩

theorem load_any (w : World) (a : Option Addr) (c : Nat) (l : List Nat) (h : Byt w a l) (x wd : Int) :
    Calls Tryd.prog 91 #[.slice a l.length c, .int .i64 x, .int .i64 wd] w fun e w' => e = .returned (.tuple #[.int .u64 (ldV l x wd), .int .i64 (placeE l.length x wd)]) ∧ w' = w := by
  unfold ldV
  by_cases hE : placeE l.length x wd = 0
  · rw [if_pos hE]
    have hp := fun w => place_e w l.length x wd h.len
    rw [hE] at hp ⊢
    unfold placeE at hE
    rcases hB : widB wd with _ | _
    · rw [hB] at hE; simp at hE
    · obtain ⟨k, rfl, hk⟩ := widB_cases hB
      rw [hB] at hE
      simp only [Bool.true_eq_false, if_false] at hE
      by_cases h1 : x < 0 ∨ (l.length : Int) < x ∨ (l.length : Int) - x < k
      · rw [if_pos h1] at hE; simp at hE
      · obtain ⟨y, rfl⟩ : ∃ y : Nat, x = y := ⟨x.toNat, by omega⟩
        obtain ⟨g, o, rfl, h0, hlt⟩ := h.at_ 0 (by omega)
        rw [Int.toNat_natCast, Int.toNat_natCast]
        exact load_ok w g o c l y k hk (by omega) h.len (fun i hi => by
          obtain ⟨g', o', e, hc, _⟩ := h.at_ i hi
          injection e with e
          injection e with e1 e2 e3
          subst e1; subst e2
          exact hc) h.byte hp
  · rw [if_neg hE]
    exact load_bad w a c l h.len x wd hE
end Go.Proofs.YtcagljjbiodcoaaDoor
