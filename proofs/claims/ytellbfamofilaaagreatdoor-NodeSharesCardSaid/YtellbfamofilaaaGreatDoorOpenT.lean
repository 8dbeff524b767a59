/- A row of rows of strings that came in. -/
import Derived.Test.YtellbfamofilaaaGreatDoorOpenS
namespace Go.Proofs.YtellbfamofilaaaGreatDoor
open Go.ChangeShapes Go.WideShapes Go.ChangeAt Go.RowKit
set_option linter.unusedVariables false
set_option linter.unusedSimpArgs false

theorem trod_strs {H : Type} {enc : TypeId × Value → H} {w : World} {base : Nat} {spare : Nat → Bool} {held : Bool} {fuel : Nat} {v : Value} {x : DataW H × List MemPlace} (hf : DataW.trod enc Tryz.prog w base spare held fuel 43 [v] = some x) : ∃ a c l, v = .slice a l.length c ∧ StrA w a l := by
  rcases Go.Deep.open_slice1 Tryz.underlying43 (by kernel_rfl) hf with ⟨h0, _⟩ | ⟨ad, len, cap, m, n, V, D, Pl, hcs, hb, hl, hm, hmm, hx, hi⟩
  · simp at h0
    exact ⟨none, 0, [], h0, fun i hi => by simp at hi, fun d hd => by simp at hd, fun d hd => by simp at hd, by simp⟩
  · simp at hcs
    by_cases h0 : len = 0
    · subst h0
      exact ⟨_, _, [], hcs, fun i hi => by simp at hi, fun d hd => by simp at hd, fun d hd => by simp at hd, by simp⟩
    obtain ⟨b, off, spot⟩ := ad
    have hval0 : ∀ i, i < len → ∃ d : List Nat, ((∀ b ∈ d, b < 256) ∧ d.length ≤ 9223372036854775807) ∧ w.cell? ((⟨b, off, spot⟩ : Addr).add i) = some (.string (strOf d)) := fun i him => by
      obtain ⟨hc, ht⟩ := hi i (by rw [hmm]; split <;> omega)
      obtain ⟨q4, g4, _, w4⟩ := DataW.trod_string Tryz.underlying9 ht
      simp at g4
      refine ⟨q4.data.toList.map UInt8.toNat, ⟨fun x hx => ?_, ?_⟩, ?_⟩
      · obtain ⟨y, _, rfl⟩ := List.mem_map.1 hx
        exact y.toNat_lt
      · rw [List.length_map]
        unfold maxLen at w4
        exact w4
      · rw [strOf_of', hc, g4]
    have hspot : spot = none := by
      obtain ⟨d, _, hd⟩ := hval0 0 (by omega)
      simpa [Addr.add] using World.cell?_spot hd
    subst hspot
    have hadd : ∀ n, (⟨b, off, none⟩ : Addr).add n = ⟨b, off + n, none⟩ := fun n => by unfold Addr.add; split <;> simp_all
    have hval : ∀ i, i < len → ∃ d : List Nat, w.cell? ⟨b, off + i, none⟩ = some (.string (strOf d)) ∧ ((∀ b ∈ d, b < 256) ∧ d.length ≤ 9223372036854775807) := fun i him => by
      obtain ⟨d, ok, hd⟩ := hval0 i him
      exact ⟨d, by rwa [hadd] at hd, ok⟩
    obtain ⟨l, hl2, hp⟩ := list_of _ len hval
    refine ⟨_, _, l, by rw [hl2, hcs], fun i hi => ⟨b, off, rfl, ?_, cell_lt (hp i hi).1⟩, fun d hd => ?_, fun d hd => ?_, by rw [hl2]; unfold maxLen at hm; omega⟩
    · rw [(hp i hi).1, List.getElem?_eq_getElem hi]; rfl
    · obtain ⟨j, hj, rfl⟩ := List.mem_iff_getElem.1 hd
      exact (hp j hj).2.1
    · obtain ⟨j, hj, rfl⟩ := List.mem_iff_getElem.1 hd
      exact (hp j hj).2.2
/-- A row's part: where it lies, its room, its strings. -/
structure StP where
  a : Option Addr
  c : Nat
  l : List (List Nat)
/-- A slice at a reads as these rows of strings. -/
structure StrB (w : World) (a : Option Addr) (l : List StP) : Prop where
  at_ : ∀ i (h : i < l.length), ∃ g o, a = some ⟨g, o, none⟩ ∧ w.cell? ⟨g, o + i, none⟩ = some (.slice l[i].a l[i].l.length l[i].c) ∧ g < w.heap.size
  each : ∀ s ∈ l, StrA w s.a s.l
  len : l.length ≤ 9223372036854775807
theorem StrB.fr {w w' : World} {a : Option Addr} {l : List StP} (h : StrB w a l) (hf : Fr [] w w') : StrB w' a l :=
  ⟨fun i hi => by
    obtain ⟨g, o, ha, hc, hg⟩ := h.at_ i hi
    exact ⟨g, o, ha, (hf.cell (p := ⟨g, o + i, none⟩) hg (by simp)).trans hc, Nat.lt_of_lt_of_le hg hf.size⟩, fun s hs => (h.each s hs).fr hf, h.len⟩
set_option maxRecDepth 100000 in
theorem open_strss {H : Type} {enc : TypeId × Value → H} {w : World} {base b0 : Nat} {spare : Nat → Bool} {held : Bool} {r : Reach} {v : Value} {d : DataW H} {p : List MemPlace}
    (hv : Value.okWide Tryz.prog w r b0 42 v) (h : DataW.Trod enc Tryz.prog w base spare held 42 v d p) : ∃ a c l, v = .slice a l.length c ∧ StrB w a l := by
  obtain ⟨a0, len, cap, rfl⟩ := okWide_slice Tryz.underlying42 hv
  obtain ⟨fuel, hf⟩ := h
  rcases Go.Deep.open_slice1 Tryz.underlying42 (by kernel_rfl) hf with ⟨h0, _⟩ | ⟨ad, len', cap', m, n, V, D, Pl, hcs, hb, hl, hm, hmm, hx, hi⟩
  · simp [Value.cells] at h0
    obtain ⟨rfl, rfl, rfl⟩ := h0
    exact ⟨none, 0, [], rfl, fun i hi => by simp at hi, fun d hd => by simp at hd, by simp⟩
  · simp [Value.cells] at hcs
    obtain ⟨rfl, rfl, rfl⟩ := hcs
    by_cases h0 : len = 0
    · subst h0
      exact ⟨_, _, [], rfl, fun i hi => by simp at hi, fun d hd => by simp at hd, by simp⟩
    obtain ⟨b, off, spot⟩ := ad
    have hval0 : ∀ i, i < len → ∃ s : StP, StrA w s.a s.l ∧ w.cell? ((⟨b, off, spot⟩ : Addr).add i) = some (.slice s.a s.l.length s.c) := fun i him => by
      obtain ⟨hc, ht⟩ := hi i (by rw [hmm]; split <;> omega)
      obtain ⟨a1, c1, l1, e, hs⟩ := trod_strs ht
      exact ⟨⟨a1, c1, l1⟩, hs, by rw [hc, e]⟩
    have hspot : spot = none := by
      obtain ⟨d, _, hd⟩ := hval0 0 (by omega)
      simpa [Addr.add] using World.cell?_spot hd
    subst hspot
    have hadd : ∀ n, (⟨b, off, none⟩ : Addr).add n = ⟨b, off + n, none⟩ := fun n => by unfold Addr.add; split <;> simp_all
    have hval : ∀ i, i < len → ∃ s : StP, w.cell? ⟨b, off + i, none⟩ = some (.slice s.a s.l.length s.c) ∧ StrA w s.a s.l := fun i him => by
      obtain ⟨d, ok, hd⟩ := hval0 i him
      exact ⟨d, by rwa [hadd] at hd, ok⟩
    obtain ⟨l, hl2, hp⟩ := list_of _ len hval
    refine ⟨_, _, l, by rw [hl2], fun i hi => ⟨b, off, rfl, (hp i hi).1, cell_lt (hp i hi).1⟩, fun d hd => ?_, by rw [hl2]; unfold maxLen at hm; omega⟩
    obtain ⟨j, hj, rfl⟩ := List.mem_iff_getElem.1 hd
    exact (hp j hj).2
end Go.Proofs.YtellbfamofilaaaGreatDoor
