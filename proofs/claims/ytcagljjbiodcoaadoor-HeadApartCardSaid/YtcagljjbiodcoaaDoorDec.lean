/- head.Decode. -/
import Derived.Test.YtcagljjbiodcoaaDoorEnc
namespace Go.Proofs.YtcagljjbiodcoaaDoor
set_option linter.unusedVariables false
open Go.RowKit

def HB.zero : HB := { tag := 0, cls := 0, used := false, label := 0, name := 0, next := 0, prev := 0, refs := 0, expiry := 0, typ := 0, size := 0, hash := 0 }
def zeroC : Array Value := #[.int .i64 0, .int .i64 0, .bool false, .int .i64 0, .int .u32 0, .int .u32 0, .int .u32 0, .int .u32 0, .int .u64 0, .int .u16 0, .int .i64 0, .int .u32 0]
def decN (b : List Nat) (t : Int) (f : Nat) : Nat := if (whZ t f).2 = 0 then 0 else ldTo b (whZ t f).1 (whZ t f).2
/-- Which head bytes are, and why they are none. -/
def dec (b : List Nat) : Nat × HB :=
  if b.length = 0 then (3, HB.zero)
  else if 2 < b[0]?.getD 0 then (4, HB.zero)
  else if b.length < szZ (b[0]?.getD 0 : Nat) then (3, HB.zero)
  else if 1 < decN b (b[0]?.getD 0 : Nat) 2 ∨ (HB.ofNums (decN b (b[0]?.getD 0 : Nat))).right = false then (4, HB.zero)
  else (0, HB.ofNums (decN b (b[0]?.getD 0 : Nat)))

theorem wrap64_in (n : Int) : -9223372036854775808 ≤ IntKind.i64.wrap n ∧ IntKind.i64.wrap n ≤ 9223372036854775807 := by
  rw [IntKind.wrap_i64]; omega
theorem ofNums_ok (n : Nat → Nat) (h : ∀ k, n k < 18446744073709551616) : (HB.ofNums n).Ok := by
  constructor <;> simp only [HB.ofNums] <;> first | exact wrap64_in _ | exact Nat.mod_lt _ (by decide) | exact h _
theorem zero_ok : HB.zero.Ok := by constructor <;> simp [HB.zero]
theorem decN_lt (b : List Nat) (hb : ∀ x ∈ b, x < 256) (t : Int) (f : Nat) : decN b t f < 18446744073709551616 := by
  unfold decN
  split
  · omega
  · exact ldTo_lt64 b hb _ _ (wh_in t f).1

/-- A field of a block lies rightly in bytes that have its head. -/
theorem wh_place (n : Nat) (t : Int) (f : Nat) (hn : szZ t ≤ n) (h : (whZ t f).2 ≠ 0) : placeE n (whZ t f).1 (whZ t f).2 = 0 := by
  have hi := (wh_in t f).2.resolve_left h
  have h3 : widB ((whZ t f).2 : Nat) = true ∧ ((whZ t f).1 : Int) % ((whZ t f).2 : Nat) = 0 := by
    unfold whZ at h ⊢
    by_cases hr : 0 ≤ t ∧ t ≤ 2 ∧ 0 ≤ (f : Int) ∧ (f : Int) ≤ 11
    · rw [if_pos hr] at h ⊢
      obtain ⟨k, rfl⟩ : ∃ k : Nat, t = k := ⟨t.toNat, by omega⟩
      rw [Int.toNat_natCast, Int.toNat_natCast] at h ⊢
      revert h
      rcases k with _ | _ | _ | k <;> try omega
      all_goals (rcases f with _ | _ | _ | _ | _ | _ | _ | _ | _ | _ | _ | _ | f <;> first | omega | decide)
    · rw [if_neg hr] at h
      simp at h
  unfold placeE
  rw [h3.1, if_neg (by simp), if_neg (by omega), if_neg (by simpa using h3.2)]

def numsA (n : Nat → Nat) (k : Nat) : Array Value := ((List.range 12).map fun i => Value.int .u64 ((if i < k then n i else 0 : Nat) : Int)).toArray
theorem numsA_get (n : Nat → Nat) (k i : Nat) (hi : i < 12) : (numsA n k)[i]? = some (.int .u64 ((if i < k then n i else 0 : Nat) : Int)) := by
  simp [numsA, hi]
theorem numsA_set (n : Nat → Nat) (k : Nat) (hk : k < 12) : (numsA n k).setIfInBounds k (.int .u64 (n k : Int)) = numsA n (k + 1) := by
  apply Array.ext_getElem?
  intro i
  rw [Array.getElem?_setIfInBounds]
  by_cases hi : i < 12
  · rw [numsA_get n _ i hi, numsA_get n _ i hi]
    by_cases e : k = i
    · subst e
      rw [if_pos rfl, if_pos (by simp [numsA]; omega), if_pos (by omega)]
    · rw [if_neg e]
      by_cases c : i < k
      · rw [if_pos c, if_pos (by omega)]
      · rw [if_neg c, if_neg (by omega)]
  · rw [if_neg (by omega), Array.getElem?_eq_none (by simp [numsA]; omega), Array.getElem?_eq_none (by simp [numsA]; omega)]
theorem numsA_0 (n : Nat → Nat) : numsA n 0 = #[.int .u64 0, .int .u64 0, .int .u64 0, .int .u64 0, .int .u64 0, .int .u64 0, .int .u64 0, .int .u64 0, .int .u64 0, .int .u64 0, .int .u64 0, .int .u64 0] := by
  simp [numsA, List.range, List.range.loop]
theorem numsA_12 (n : Nat → Nat) : numsA n 12 = #[.int .u64 (n 0 : Int), .int .u64 (n 1 : Int), .int .u64 (n 2 : Int), .int .u64 (n 3 : Int), .int .u64 (n 4 : Int), .int .u64 (n 5 : Int), .int .u64 (n 6 : Int), .int .u64 (n 7 : Int), .int .u64 (n 8 : Int), .int .u64 (n 9 : Int), .int .u64 (n 10 : Int), .int .u64 (n 11 : Int)] := by
  simp [numsA, List.range, List.range.loop]
theorem ofNums_12 (n : Nat → Nat) : (HB.ofNums fun i => [n 0, n 1, n 2, n 3, n 4, n 5, n 6, n 7, n 8, n 9, n 10, n 11][i]?.getD 0) = HB.ofNums n := by
  simp [HB.ofNums]
theorem block_any (w : World) (n : Nat → Nat) : Calls Tryd.prog 68 #[.agg (numsA n 12)] w fun e w' => e = .returned (HB.ofNums n).val ∧ Fr [] w w' := by
  rw [numsA_12, ← ofNums_12]
  exact block_in w _ _ _ _ _ _ _ _ _ _ _ _
end Go.Proofs.YtcagljjbiodcoaaDoor
