/- Whether an image may be one: bytes 8 to 20, or three numbers. -/
import Derived.Test.YtgoogihfggndpaaGreatDoorZd
import Derived.Test.YtgoogihfggndpaaGreatDoorLD
namespace Go.Proofs.YtgoogihfggndpaaGreatDoor
set_option linter.unusedVariables false
set_option linter.unusedSimpArgs false
open Go.RowKit

theorem l12_new (a s : Nat) (h : Cfg a s) : l12 a s = (newT a s).bytes := newG_bytes (g := 1129270338) (by decide) h
theorem take_eq {l m : List Nat} {n : Nat} (hl : n + 20 ≤ l.length + 20 ∧ 20 ≤ l.length) (hm : 20 ≤ m.length) : (l.drop 8).take 12 = (m.drop 8).take 12 ↔ ∀ i, 8 ≤ i → i < 20 → l[i]?.getD 0 = m[i]?.getD 0 := by
  constructor
  · intro h i h1 h2
    have := congrArg (fun x : List Nat => x[i - 8]?.getD 0) h
    rw [List.getElem?_take_of_lt (by omega), List.getElem?_take_of_lt (by omega), List.getElem?_drop, List.getElem?_drop, show 8 + (i - 8) = i by omega] at this
    exact this
  · intro h
    refine List.ext_getElem (by simp; omega) (fun i h1 h2 => ?_)
    simp at h1 h2
    have := h (8 + i) (by omega) (by omega)
    rw [List.getElem?_eq_getElem (by omega), List.getElem?_eq_getElem (by omega)] at this
    simpa using this
theorem ldTo_same {l m : List Nat} (hl : ∀ b ∈ l, b < 256) (hm : ∀ b ∈ m, b < 256) (x n : Nat) : ldTo l x n = ldTo m x n ↔ ∀ i, i < n → l[x + i]?.getD 0 = m[x + i]?.getD 0 :=
  ⟨fun h i hi => by rw [← ldTo_byte l hl x n i hi, ← ldTo_byte m hm x n i hi, h], fun h => ldTo_congr l m x n h⟩
theorem ok_12 {l : List Nat} {a s : Nat} (h : Cfg a s) (hb : ∀ b ∈ l, b < 256) : okI l a s ↔ (l.length = lsize a s ∧ (l.drop 8).take 12 = ((l12 a s).drop 8).take 12) := by
  unfold okI
  refine and_congr_right fun hl => ?_
  have h240 : 240 ≤ lsize a s := by
    have := lsize_4 a s
    have := cfg_sizes h
    omega
  have hok := newT_ok h
  have hlen : (newT a s).bytes.length = lsize a s := TM.bytes_len _
  rw [take_eq (n := 0) ⟨by omega, by omega⟩ (by rw [l12_len]; omega), l12_new a s h]
  have hr : ∀ k, k < 3 → (newT a s).rt k = imN (newT a s).bytes (8 + 4 * k) 4 := fun k hk => by
    exact ((imN_ld (l := (newT a s).bytes) (x := 8 + 4 * k) (k := 4) (.inr rfl) (by omega) (by omega)).symm.trans (im_rt a s h hk)).symm
  have hk : ∀ k, k < 3 → (imN l (8 + 4 * k) 4 = (newT a s).rt k ↔ ∀ i, i < 4 → l[8 + 4 * k + i]?.getD 0 = (newT a s).bytes[8 + 4 * k + i]?.getD 0) := fun k hk => by
    rw [hr k hk]
    exact ldTo_same hb (TM.byte_lt hok) (8 + 4 * k) 4
  constructor
  · intro hh i h1 h2
    have := (hk ((i - 8) / 4) (by omega)).1 (hh _ (by omega)) ((i - 8) % 4) (Nat.mod_lt _ (by decide))
    rw [show 8 + 4 * ((i - 8) / 4) + (i - 8) % 4 = i by omega] at this
    exact this
  · intro hh k h3
    exact (hk k h3).2 fun i hi => hh _ (by omega) (by omega)
end Go.Proofs.YtgoogihfggndpaaGreatDoor
