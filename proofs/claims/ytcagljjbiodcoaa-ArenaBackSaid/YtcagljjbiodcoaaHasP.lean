/- Bytes that lie somewhere in others: plain words, and the library's. -/
import Derived.Test.YtcagljjbiodcoaaBytes
import Derived.Lib.IndexMore
import Derived.Lib.Bytes
namespace Go.Proofs.Ytcagljjbiodcoaa
set_option linter.unusedVariables false
open Go.RowKit

def hasB (l b : List Nat) : Bool := (List.range (l.length + 1)).any fun i => (l.drop i).take b.length == b
theorem hasB_iff (l b : List Nat) : hasB l b = true ↔ ∃ i, i ≤ l.length ∧ (l.drop i).take b.length = b := by
  unfold hasB
  rw [List.any_eq_true]
  constructor
  · rintro ⟨i, hi, h⟩
    exact ⟨i, by have := List.mem_range.1 hi; omega, by simpa using h⟩
  · rintro ⟨i, hi, h⟩
    exact ⟨i, List.mem_range.2 (by omega), by simpa using h⟩
theorem map_u8 (l : List Nat) : Lib.bytesOf (l.map fun k : Nat => (k : Int)) = l.map UInt8.ofNat := by
  unfold Lib.bytesOf
  rw [List.map_map]
  rfl
theorem u8_inj (l m : List Nat) (hl : ∀ b ∈ l, b < 256) (hm : ∀ b ∈ m, b < 256) (h : l.map UInt8.ofNat = m.map UInt8.ofNat) : l = m := by
  have := congrArg (List.map UInt8.toNat) h
  rw [List.map_map, List.map_map] at this
  rw [List.map_congr_left (g := id) (fun b hb => by simp [Nat.mod_eq_of_lt (hl b hb)]), List.map_congr_left (l := m) (g := id) (fun b hb => by simp [Nat.mod_eq_of_lt (hm b hb)])] at this
  simpa using this
theorem occ_iff (l b : List Nat) (hl : ∀ x ∈ l, x < 256) (hb : ∀ x ∈ b, x < 256) (i : Nat) : Lib.occAt (l.map UInt8.ofNat) (b.map UInt8.ofNat) i = true ↔ (l.drop i).take b.length = b := by
  unfold Lib.occAt
  rw [List.isPrefixOf_iff_prefix, List.prefix_iff_eq_take, List.length_map, ← List.map_drop, ← List.map_take]
  constructor
  · intro h
    exact (u8_inj _ _ hb (fun x hx => hl x (List.mem_of_mem_drop (List.mem_of_mem_take hx))) h).symm
  · intro h
    rw [h]
theorem contains_has (l b : List Nat) (hl : ∀ x ∈ l, x < 256) (hb : ∀ x ∈ b, x < 256) :
    Lib.contains (Lib.bytesOf (l.map fun k : Nat => (k : Int))) (Lib.bytesOf (b.map fun k : Nat => (k : Int))) = hasB l b := by
  rw [map_u8, map_u8]
  unfold Lib.contains
  rw [Bool.eq_iff_iff, hasB_iff, decide_eq_true_eq]
  rcases Lib.index_spec (l.map UInt8.ofNat) (b.map UInt8.ofNat) with ⟨h1, h2⟩ | ⟨i, h1, h2, h3, h4⟩
  · rw [h1]
    constructor
    · intro h; omega
    · rintro ⟨i, hi, h⟩
      have := h2 i (by simpa using hi)
      rw [(occ_iff l b hl hb i).2 h] at this
      cases this
  · rw [h1]
    constructor
    · intro _
      exact ⟨i, by simpa using h2, (occ_iff l b hl hb i).1 h3⟩
    · intro _; omega
end Go.Proofs.Ytcagljjbiodcoaa
