/- Several texts in one. -/
import Derived.Test.YtellbfamofilaaaGreatDoorRows
import Derived.Test.YtellbfamofilaaaGreatDoorGA
import Derived.WalkKit
import Derived.ProofKit
import Derived.OpenShut
import Derived.ShutString
import Derived.ChangeOld
import Derived.Below
import Derived.Test.YtellbfamofilaaaGreatDoorMA
/- A row of strings that came in. -/
namespace Go.Proofs.YtellbfamofilaaaGreatDoor
open Go.ChangeShapes Go.WideShapes Go.ChangeAt Go.RowKit
set_option linter.unusedVariables false
set_option linter.unusedSimpArgs false

theorem strOf_of' (s : ByteArray) : strOf (s.data.toList.map UInt8.toNat) = s := by
  unfold strOf
  rw [List.map_map]
  have : ∀ l : List UInt8, l.map (UInt8.ofNat ∘ UInt8.toNat) = l := fun l => by
    induction l with
    | nil => rfl
    | cons x l ih => simp [ih]
  rw [this]
/-- A slice at a reads as these strings. -/
structure StrA (w : World) (a : Option Addr) (l : List (List Nat)) : Prop where
  at_ : ∀ i, i < l.length → ∃ g o, a = some ⟨g, o, none⟩ ∧ w.cell? ⟨g, o + i, none⟩ = some (.string (strOf (l[i]?.getD []))) ∧ g < w.heap.size
  lt : ∀ s ∈ l, ∀ b ∈ s, b < 256
  each : ∀ s ∈ l, s.length ≤ 9223372036854775807
  len : l.length ≤ 9223372036854775807
theorem StrA.fr {w w' : World} {a : Option Addr} {l : List (List Nat)} (h : StrA w a l) (hf : Fr [] w w') : StrA w' a l :=
  ⟨fun i hi => by
    obtain ⟨g, o, ha, hc, hg⟩ := h.at_ i hi
    exact ⟨g, o, ha, (hf.cell (p := ⟨g, o + i, none⟩) hg (by simp)).trans hc, Nat.lt_of_lt_of_le hg hf.size⟩, h.lt, h.each, h.len⟩
set_option maxRecDepth 100000 in
theorem open_strs {H : Type} {enc : TypeId × Value → H} {w : World} {base b0 : Nat} {spare : Nat → Bool} {held : Bool} {r : Reach} {v : Value} {d : DataW H} {p : List MemPlace}
    (hv : Value.okWide Tryz.prog w r b0 43 v) (h : DataW.Trod enc Tryz.prog w base spare held 43 v d p) : ∃ a c l, v = .slice a l.length c ∧ StrA w a l := by
  obtain ⟨a0, len, cap, rfl⟩ := okWide_slice Tryz.underlying43 hv
  obtain ⟨fuel, hf⟩ := h
  rcases Go.Deep.open_slice Tryz.underlying43 hf with h0 | ⟨a, len', cap', m, n, D, Pl, hcs, hb, hl, hm, hmm, hx, hi⟩
  · have hcs := h0.1
    simp [Value.cells] at hcs
    obtain ⟨rfl, rfl, rfl⟩ := hcs
    exact ⟨none, 0, [], rfl, fun i hi => by simp at hi, fun d hd => by simp at hd, fun d hd => by simp at hd, by simp⟩
  · simp [Value.cells] at hcs
    obtain ⟨rfl, rfl, rfl⟩ := hcs
    by_cases h0 : len = 0
    · subst h0
      exact ⟨_, _, [], rfl, fun i hi => by simp at hi, fun d hd => by simp at hd, fun d hd => by simp at hd, by simp⟩
    obtain ⟨b, off, spot⟩ := a
    have k0 : Tryz.prog.cellsOf 9 = 1 := by kernel_rfl
    have hval0 : ∀ i, i < len → ∃ d : List Nat, ((∀ b ∈ d, b < 256) ∧ d.length ≤ 9223372036854775807) ∧ w.cell? ((⟨b, off, spot⟩ : Addr).add i) = some (.string (strOf d)) := fun i him => by
      obtain ⟨cs', hc, ht⟩ := hi i (by rw [hmm]; split <;> omega)
      rw [k0] at hc
      obtain ⟨q4, g4, _, w4⟩ := DataW.trod_string Tryz.underlying9 ht
      subst g4
      obtain ⟨_, hcl, hat⟩ := World.cells?_some hc
      refine ⟨q4.data.toList.map UInt8.toNat, ⟨fun x hx => ?_, ?_⟩, ?_⟩
      · obtain ⟨y, _, rfl⟩ := List.mem_map.1 hx
        exact y.toNat_lt
      · rw [List.length_map]
        unfold maxLen at w4
        exact w4
      · have := hat 0 (by decide)
        rw [strOf_of']
        simpa [Addr.add] using this
    have hspot : spot = none := by
      obtain ⟨d, _, hd⟩ := hval0 0 (by omega)
      simpa [Addr.add] using World.cell?_spot hd
    subst hspot
    have hadd : ∀ n, (⟨b, off, none⟩ : Addr).add n = ⟨b, off + n, none⟩ := fun n => by unfold Addr.add; split <;> simp_all
    have hval : ∀ i, i < len → ∃ d : List Nat, w.cell? ⟨b, off + i, none⟩ = some (.string (strOf d)) ∧ ((∀ b ∈ d, b < 256) ∧ d.length ≤ 9223372036854775807) := fun i him => by
      obtain ⟨d, ok, hd⟩ := hval0 i him
      exact ⟨d, by rwa [hadd] at hd, ok⟩
    obtain ⟨l, hl2, hp⟩ := list_of _ len hval
    refine ⟨_, _, l, by rw [hl2], fun i hi => ⟨b, off, rfl, ?_, cell_lt (hp i hi).1⟩, fun d hd => ?_, fun d hd => ?_, by rw [hl2]; unfold maxLen at hm; omega⟩
    · rw [(hp i hi).1, List.getElem?_eq_getElem hi]; rfl
    · obtain ⟨j, hj, rfl⟩ := List.mem_iff_getElem.1 hd
      exact (hp j hj).2.1
    · obtain ⟨j, hj, rfl⟩ := List.mem_iff_getElem.1 hd
      exact (hp j hj).2.2
end Go.Proofs.YtellbfamofilaaaGreatDoor

/- A row of rows of strings that came in. -/
namespace Go.Proofs.YtellbfamofilaaaGreatDoor
open Go.ChangeShapes Go.WideShapes Go.ChangeAt Go.RowKit
set_option linter.unusedVariables false
set_option linter.unusedSimpArgs false

end Go.Proofs.YtellbfamofilaaaGreatDoor

/- Opening the acts of layer 21's statements. -/
namespace Go.Proofs.YtellbfamofilaaaGreatDoor
open Go.ChangeShapes Go.WideShapes Go.ChangeAt Go.RowKit
set_option linter.unusedVariables false
set_option linter.unusedSimpArgs false

/-- An act. -/
structure A21 where
  k : Int
  n : Int
  s : List Nat
def A21.cells (d : A21) : List Value := [.int .i64 d.k, .int .i64 d.n, .string (strOf d.s)]
structure A21.Ok (d : A21) : Prop where
  k : -9223372036854775808 ≤ d.k ∧ d.k ≤ 9223372036854775807
  n : -9223372036854775808 ≤ d.n ∧ d.n ≤ 9223372036854775807
  b : ∀ y ∈ d.s, y < 256
  l : d.s.length ≤ 9223372036854775807
theorem list3 {α : Type} {l : List α} (h : l.length = 3) : ∃ a b c, l = [a, b, c] := by
  match l, h with
  | [a, b, c], _ => exact ⟨a, b, c, rfl⟩
section
variable {H : Type} {enc : TypeId × Value → H} {w : World} {base b0 : Nat} {spare : Nat → Bool} {held : Bool} {r : Reach} {v : Value} {d : DataW H} {p : List MemPlace}
end
end Go.Proofs.YtellbfamofilaaaGreatDoor

/- Opening the acts of layer 22's statements. -/
namespace Go.Proofs.YtellbfamofilaaaGreatDoor
open Go.ChangeShapes Go.WideShapes Go.ChangeAt Go.RowKit
set_option linter.unusedVariables false
set_option linter.unusedSimpArgs false

theorem trod_strs2 {H : Type} {enc : TypeId × Value → H} {w : World} {base : Nat} {spare : Nat → Bool} {held : Bool} {fuel : Nat} {v : Value} {x : DataW H × List MemPlace} (hf : DataW.trod enc Tryz.prog w base spare held fuel 43 [v] = some x) : ∃ a c l, v = .slice a l.length c ∧ l.length ≤ c ∧ StrA w a l := by
  rcases Go.Deep.open_slice1 Tryz.underlying43 (by kernel_rfl) hf with ⟨h0, _⟩ | ⟨ad, len, cap, m, n, V, D, Pl, hcs, hb, hl, hm, hmm, hx, hi⟩
  · simp at h0
    exact ⟨none, 0, [], h0, Nat.zero_le _, fun i hi => by simp at hi, fun d hd => by simp at hd, fun d hd => by simp at hd, by simp⟩
  · simp at hcs
    by_cases h0 : len = 0
    · subst h0
      exact ⟨_, _, [], hcs, Nat.zero_le _, fun i hi => by simp at hi, fun d hd => by simp at hd, fun d hd => by simp at hd, by simp⟩
    obtain ⟨b, off, spot⟩ := ad
    have hval0 : ∀ i, i < len → ∃ d : List Nat, ((∀ b ∈ d, b < 256) ∧ d.length ≤ 9223372036854775807) ∧ w.cell? ((⟨b, off, spot⟩ : Addr).add i) = some (.string (strOf d)) := fun i him => by
      obtain ⟨hc, ht⟩ := hi i (by rw [hmm]; split <;> omega)
      obtain ⟨q4, g4, _, w4⟩ := DataW.trod_string Tryz.underlying9 ht
      simp at g4
      refine ⟨q4.data.toList.map UInt8.toNat, ⟨fun x hx => ?_, ?_⟩, ?_⟩
      · obtain ⟨y, _, rfl⟩ := List.mem_map.1 hx
        exact y.toNat_lt
      · rw [List.length_map]
        unfold maxLen at w4
        exact w4
      · rw [strOf_of', hc, g4]
    have hspot : spot = none := by
      obtain ⟨d, _, hd⟩ := hval0 0 (by omega)
      simpa [Addr.add] using World.cell?_spot hd
    subst hspot
    have hadd : ∀ n, (⟨b, off, none⟩ : Addr).add n = ⟨b, off + n, none⟩ := fun n => by unfold Addr.add; split <;> simp_all
    have hval : ∀ i, i < len → ∃ d : List Nat, w.cell? ⟨b, off + i, none⟩ = some (.string (strOf d)) ∧ ((∀ b ∈ d, b < 256) ∧ d.length ≤ 9223372036854775807) := fun i him => by
      obtain ⟨d, ok, hd⟩ := hval0 i him
      exact ⟨d, by rwa [hadd] at hd, ok⟩
    obtain ⟨l, hl2, hp⟩ := list_of _ len hval
    refine ⟨_, _, l, by rw [hl2, hcs], by rw [hl2]; exact hl, fun i hi => ⟨b, off, rfl, ?_, cell_lt (hp i hi).1⟩, fun d hd => ?_, fun d hd => ?_, by rw [hl2]; unfold maxLen at hm; omega⟩
    · rw [(hp i hi).1, List.getElem?_eq_getElem hi]; rfl
    · obtain ⟨j, hj, rfl⟩ := List.mem_iff_getElem.1 hd
      exact (hp j hj).2.1
    · obtain ⟨j, hj, rfl⟩ := List.mem_iff_getElem.1 hd
      exact (hp j hj).2.2
/-- An act: its kind, its number, its name's slice and labels. -/
structure A22 where
  k : Int
  n : Int
  a : Option Addr
  c : Nat
  l : List (List Nat)
def A22.cells (d : A22) : List Value := [.int .i64 d.k, .int .i64 d.n, .slice d.a d.l.length d.c]
structure A22.Ok (w : World) (d : A22) : Prop where
  k : -9223372036854775808 ≤ d.k ∧ d.k ≤ 9223372036854775807
  n : -9223372036854775808 ≤ d.n ∧ d.n ≤ 9223372036854775807
  s : StrA w d.a d.l
  c : d.l.length ≤ d.c
/-- An act that lies from a place on. -/
def Row22 (w : World) (b o : Nat) (d : A22) : Prop := ∀ j, j < 3 → w.cell? ⟨b, o + j, none⟩ = d.cells[j]?
structure ActA22 (w : World) (a : Option Addr) (c : Nat) (l : List A22) : Prop where
  row : 0 < l.length → ∃ b off, a = some ⟨b, off, none⟩ ∧ b < w.heap.size ∧ ∀ i (h : i < l.length), Row22 w b (off + i * 3) l[i]
  each : ∀ d ∈ l, d.Ok w
  len : l.length ≤ 9223372036854775807
theorem ActA22.fr {w w' : World} {a : Option Addr} {c : Nat} {l : List A22} (h : ActA22 w a c l) (hf : Fr [] w w') : ActA22 w' a c l := by
  refine ⟨fun h0 => ?_, fun d hd => ⟨(h.each d hd).k, (h.each d hd).n, (h.each d hd).s.fr hf, (h.each d hd).c⟩, h.len⟩
  obtain ⟨b, off, ha, hb, hr⟩ := h.row h0
  exact ⟨b, off, ha, Nat.lt_of_lt_of_le hb hf.size, fun i hi j hj => (hf.cell (p := ⟨b, off + i * 3 + j, none⟩) hb (by simp)).trans (hr i hi j hj)⟩
section
variable {H : Type} {enc : TypeId × Value → H} {w : World} {base b0 : Nat} {spare : Nat → Bool} {held : Bool} {r : Reach} {v : Value} {d : DataW H} {p : List MemPlace}
set_option maxRecDepth 100000 in
theorem trod_a22 {fuel : Nat} {cs : List Value} {x : DataW H × List MemPlace} (hf : DataW.trod enc Tryz.prog w base spare held fuel 56 cs = some x) : ∃ d : A22, cs = d.cells ∧ d.Ok w := by
  obtain ⟨ys, n, rfl, hx, hl, hyl, hp⟩ := DataW.trod_struct Tryz.underlying56 hf
  have hg : ∀ i, i < 3 → ∃ y, ys[i]? = some y := fun i hi => ⟨_, List.getElem?_eq_getElem (by rw [hyl]; exact hi)⟩
  have k0 : Tryz.prog.cellsOf 56 = 3 := by kernel_rfl
  have k1 : Tryz.prog.cellsOf 3 = 1 := by kernel_rfl
  have k4 : Tryz.prog.cellsOf 43 = 1 := by kernel_rfl
  rw [k0] at hl
  obtain ⟨c0, c1, c2, rfl⟩ := list3 hl
  obtain ⟨y0, e0⟩ := hg 0 (by decide)
  obtain ⟨y1, e1⟩ := hg 1 (by decide)
  obtain ⟨y2, e2⟩ := hg 2 (by decide)
  have t0 := (hp 0 _ rfl).trans e0
  have t1 := (hp 1 _ rfl).trans e1
  have t2 := (hp 2 _ rfl).trans e2
  simp only [List.getElem_toArray, List.getElem_cons_zero, List.getElem_cons_succ, k1, k4, List.drop_succ_cons, List.drop_zero, List.take_succ_cons, List.take_zero] at t0 t1 t2
  obtain ⟨q0, g0, _, w0⟩ := DataW.trod_int Tryz.underlying3 t0
  obtain ⟨q1, g1, _, w1⟩ := DataW.trod_int Tryz.underlying3 t1
  obtain ⟨q2, m2, s2, e2, hc2, hs2⟩ := trod_strs2 t2
  simp at g0 g1
  subst g0 g1 e2
  exact ⟨⟨q0, q1, q2, m2, s2⟩, rfl, ⟨lit_i64 w0, lit_i64 w1, hs2, hc2⟩⟩
set_option maxRecDepth 100000 in
theorem open_acts22 (hv : Value.okWide Tryz.prog w r b0 51 v) (h : DataW.Trod enc Tryz.prog w base spare held 51 v d p) : ∃ a c l, v = .slice a l.length c ∧ ActA22 w a c l := by
  obtain ⟨a0, len, cap, rfl⟩ := okWide_slice Tryz.underlying51 hv
  obtain ⟨fuel, hf⟩ := h
  rcases Go.Deep.open_slice Tryz.underlying51 hf with h0 | ⟨a, len', cap', m, n, D, Pl, hcs, hb, hl, hm, hmm, hx, hi⟩
  · have hcs := h0.1
    simp [Value.cells] at hcs
    obtain ⟨rfl, rfl, rfl⟩ := hcs
    exact ⟨none, 0, [], rfl, fun h => by simp at h, fun d hd => by simp at hd, by simp⟩
  · simp [Value.cells] at hcs
    obtain ⟨rfl, rfl, rfl⟩ := hcs
    by_cases h0 : len = 0
    · subst h0
      exact ⟨_, _, [], rfl, fun h => by simp at h, fun d hd => by simp at hd, by simp⟩
    obtain ⟨b, off, spot⟩ := a
    have k0 : Tryz.prog.cellsOf 56 = 3 := by kernel_rfl
    have hval0 : ∀ i, i < len → ∃ d : A22, d.Ok w ∧ ∀ j, j < 3 → w.cell? (((⟨b, off, spot⟩ : Addr).add (i * 3)).add j) = d.cells[j]? := fun i him => by
      obtain ⟨cs', hc, ht⟩ := hi i (by rw [hmm]; split <;> omega)
      rw [k0] at hc
      obtain ⟨d, rfl, ok⟩ := trod_a22 ht
      obtain ⟨_, hcl, hat⟩ := World.cells?_some hc
      exact ⟨d, ok, fun j hj => hat j hj⟩
    have hspot : spot = none := by
      obtain ⟨d, _, hd⟩ := hval0 0 (by omega)
      have := hd 0 (by decide)
      have c0 : w.cell? (((⟨b, off, spot⟩ : Addr).add (0 * 3)).add 0) = some (.int .i64 d.k) := this
      simpa [Addr.add] using World.cell?_spot c0
    subst hspot
    have hadd : ∀ n, (⟨b, off, none⟩ : Addr).add n = ⟨b, off + n, none⟩ := fun n => by unfold Addr.add; split <;> simp_all
    have hadd2 : ∀ n j, (⟨b, off + n, none⟩ : Addr).add j = ⟨b, off + n + j, none⟩ := fun n j => by unfold Addr.add; split <;> simp_all
    have hval : ∀ i, i < len → ∃ d : A22, Row22 w b (off + i * 3) d ∧ d.Ok w := fun i him => by
      obtain ⟨d, ok, hd⟩ := hval0 i him
      exact ⟨d, fun j hj => by have := hd j hj; rwa [hadd, hadd2] at this, ok⟩
    obtain ⟨l, hl2, hp⟩ := list_of _ len hval
    refine ⟨_, _, l, by rw [hl2], fun _ => ⟨b, off, rfl, ?_, fun i h => (hp i h).1⟩, fun d hd => ?_, by rw [hl2]; unfold maxLen at hm; omega⟩
    · obtain ⟨q, hq, _⟩ := hval 0 (by omega)
      exact cell_lt (hq 0 (by decide))
    · obtain ⟨j, hj, rfl⟩ := List.mem_iff_getElem.1 hd
      exact (hp j hj).2
end
end Go.Proofs.YtellbfamofilaaaGreatDoor

/- The document's fold: Label, Lower. -/
namespace Go.Proofs.YtellbfamofilaaaGreatDoor
set_option linter.unusedVariables false
set_option linter.unusedSimpArgs false
open Go.RowKit

end Go.Proofs.YtellbfamofilaaaGreatDoor
