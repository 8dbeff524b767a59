/- A row of strings that came in. -/
import Derived.Test.YtgoogihfggndpaaGreatDoorRows
import Derived.Test.YtgoogihfggndpaaGreatDoorGA
import Derived.WalkKit
import Derived.ProofKit
import Derived.OpenShut
import Derived.ShutString
import Derived.ChangeOld
import Derived.Below
namespace Go.Proofs.YtgoogihfggndpaaGreatDoor
open Go.ChangeShapes Go.WideShapes Go.ChangeAt Go.RowKit
set_option linter.unusedVariables false
set_option linter.unusedSimpArgs false

theorem strOf_of' (s : ByteArray) : strOf (s.data.toList.map UInt8.toNat) = s := by
  unfold strOf
  rw [List.map_map]
  have : ∀ l : List UInt8, l.map (UInt8.ofNat ∘ UInt8.toNat) = l := fun l => by
    induction l with
    | nil => rfl
    | cons x l ih => simp [ih]
  rw [this]
/-- A slice at a reads as these strings. -/
structure StrA (w : World) (a : Option Addr) (l : List (List Nat)) : Prop where
  at_ : ∀ i, i < l.length → ∃ g o, a = some ⟨g, o, none⟩ ∧ w.cell? ⟨g, o + i, none⟩ = some (.string (strOf (l[i]?.getD []))) ∧ g < w.heap.size
  lt : ∀ s ∈ l, ∀ b ∈ s, b < 256
  each : ∀ s ∈ l, s.length ≤ 9223372036854775807
  len : l.length ≤ 9223372036854775807
theorem StrA.fr {w w' : World} {a : Option Addr} {l : List (List Nat)} (h : StrA w a l) (hf : Fr [] w w') : StrA w' a l :=
  ⟨fun i hi => by
    obtain ⟨g, o, ha, hc, hg⟩ := h.at_ i hi
    exact ⟨g, o, ha, (hf.cell (p := ⟨g, o + i, none⟩) hg (by simp)).trans hc, Nat.lt_of_lt_of_le hg hf.size⟩, h.lt, h.each, h.len⟩
set_option maxRecDepth 100000 in
theorem open_strs {H : Type} {enc : TypeId × Value → H} {w : World} {base b0 : Nat} {spare : Nat → Bool} {held : Bool} {r : Reach} {v : Value} {d : DataW H} {p : List MemPlace}
    (hv : Value.okWide Tryz.prog w r b0 70 v) (h : DataW.Trod enc Tryz.prog w base spare held 70 v d p) : ∃ a c l, v = .slice a l.length c ∧ StrA w a l := by
  obtain ⟨a0, len, cap, rfl⟩ := okWide_slice Tryz.underlying70 hv
  obtain ⟨fuel, hf⟩ := h
  rcases Go.Deep.open_slice Tryz.underlying70 hf with h0 | ⟨a, len', cap', m, n, D, Pl, hcs, hb, hl, hm, hmm, hx, hi⟩
  · have hcs := h0.1
    simp [Value.cells] at hcs
    obtain ⟨rfl, rfl, rfl⟩ := hcs
    exact ⟨none, 0, [], rfl, fun i hi => by simp at hi, fun d hd => by simp at hd, fun d hd => by simp at hd, by simp⟩
  · simp [Value.cells] at hcs
    obtain ⟨rfl, rfl, rfl⟩ := hcs
    by_cases h0 : len = 0
    · subst h0
      exact ⟨_, _, [], rfl, fun i hi => by simp at hi, fun d hd => by simp at hd, fun d hd => by simp at hd, by simp⟩
    obtain ⟨b, off, spot⟩ := a
    have k0 : Tryz.prog.cellsOf 9 = 1 := by kernel_rfl
    have hval0 : ∀ i, i < len → ∃ d : List Nat, ((∀ b ∈ d, b < 256) ∧ d.length ≤ 9223372036854775807) ∧ w.cell? ((⟨b, off, spot⟩ : Addr).add i) = some (.string (strOf d)) := fun i him => by
      obtain ⟨cs', hc, ht⟩ := hi i (by rw [hmm]; split <;> omega)
      rw [k0] at hc
      obtain ⟨q4, g4, _, w4⟩ := DataW.trod_string Tryz.underlying9 ht
      subst g4
      obtain ⟨_, hcl, hat⟩ := World.cells?_some hc
      refine ⟨q4.data.toList.map UInt8.toNat, ⟨fun x hx => ?_, ?_⟩, ?_⟩
      · obtain ⟨y, _, rfl⟩ := List.mem_map.1 hx
        exact y.toNat_lt
      · rw [List.length_map]
        unfold maxLen at w4
        exact w4
      · have := hat 0 (by decide)
        rw [strOf_of']
        simpa [Addr.add] using this
    have hspot : spot = none := by
      obtain ⟨d, _, hd⟩ := hval0 0 (by omega)
      simpa [Addr.add] using World.cell?_spot hd
    subst hspot
    have hadd : ∀ n, (⟨b, off, none⟩ : Addr).add n = ⟨b, off + n, none⟩ := fun n => by unfold Addr.add; split <;> simp_all
    have hval : ∀ i, i < len → ∃ d : List Nat, w.cell? ⟨b, off + i, none⟩ = some (.string (strOf d)) ∧ ((∀ b ∈ d, b < 256) ∧ d.length ≤ 9223372036854775807) := fun i him => by
      obtain ⟨d, ok, hd⟩ := hval0 i him
      exact ⟨d, by rwa [hadd] at hd, ok⟩
    obtain ⟨l, hl2, hp⟩ := list_of _ len hval
    refine ⟨_, _, l, by rw [hl2], fun i hi => ⟨b, off, rfl, ?_, cell_lt (hp i hi).1⟩, fun d hd => ?_, fun d hd => ?_, by rw [hl2]; unfold maxLen at hm; omega⟩
    · rw [(hp i hi).1, List.getElem?_eq_getElem hi]; rfl
    · obtain ⟨j, hj, rfl⟩ := List.mem_iff_getElem.1 hd
      exact (hp j hj).2.1
    · obtain ⟨j, hj, rfl⟩ := List.mem_iff_getElem.1 hd
      exact (hp j hj).2.2
end Go.Proofs.YtgoogihfggndpaaGreatDoor
