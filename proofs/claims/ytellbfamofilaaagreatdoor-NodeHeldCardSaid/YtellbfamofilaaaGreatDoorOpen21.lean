/- Opening the acts of layer 21's statements. -/
import Derived.Test.YtellbfamofilaaaGreatDoorOpenS
import Derived.Test.YtellbfamofilaaaGreatDoorGA
namespace Go.Proofs.YtellbfamofilaaaGreatDoor
open Go.ChangeShapes Go.WideShapes Go.ChangeAt Go.RowKit
set_option linter.unusedVariables false
set_option linter.unusedSimpArgs false

/-- An act. -/
structure A21 where
  k : Int
  n : Int
  s : List Nat
def A21.cells (d : A21) : List Value := [.int .i64 d.k, .int .i64 d.n, .string (strOf d.s)]
structure A21.Ok (d : A21) : Prop where
  k : -9223372036854775808 ≤ d.k ∧ d.k ≤ 9223372036854775807
  n : -9223372036854775808 ≤ d.n ∧ d.n ≤ 9223372036854775807
  b : ∀ y ∈ d.s, y < 256
  l : d.s.length ≤ 9223372036854775807
/-- An act that lies from a place on. -/
def Row21 (w : World) (b o : Nat) (d : A21) : Prop := ∀ j, j < 3 → w.cell? ⟨b, o + j, none⟩ = d.cells[j]?
structure ActA21 (w : World) (a : Option Addr) (c : Nat) (l : List A21) : Prop where
  row : 0 < l.length → ∃ b off, a = some ⟨b, off, none⟩ ∧ b < w.heap.size ∧ ∀ i (h : i < l.length), Row21 w b (off + i * 3) l[i]
  each : ∀ d ∈ l, d.Ok
  len : l.length ≤ 9223372036854775807
theorem ActA21.fr {w w' : World} {a : Option Addr} {c : Nat} {l : List A21} {S : List Nat} (h : ActA21 w a c l) (hf : Fr S w w') (hS : ∀ k ∈ S, w.heap.size ≤ k) : ActA21 w' a c l := by
  refine ⟨fun h0 => ?_, h.each, h.len⟩
  obtain ⟨b, off, ha, hb, hr⟩ := h.row h0
  have hn : b ∉ S := fun hm => by have := hS b hm; omega
  exact ⟨b, off, ha, Nat.lt_of_lt_of_le hb hf.size, fun i hi j hj => (hf.cell (p := ⟨b, off + i * 3 + j, none⟩) hb hn).trans (hr i hi j hj)⟩
theorem list3 {α : Type} {l : List α} (h : l.length = 3) : ∃ a b c, l = [a, b, c] := by
  match l, h with
  | [a, b, c], _ => exact ⟨a, b, c, rfl⟩
section
variable {H : Type} {enc : TypeId × Value → H} {w : World} {base b0 : Nat} {spare : Nat → Bool} {held : Bool} {r : Reach} {v : Value} {d : DataW H} {p : List MemPlace}
set_option maxRecDepth 100000 in
theorem trod_a21 {fuel : Nat} {cs : List Value} {x : DataW H × List MemPlace} (hf : DataW.trod enc Tryz.prog w base spare held fuel 30 cs = some x) : ∃ d : A21, cs = d.cells ∧ d.Ok := by
  obtain ⟨ys, n, rfl, hx, hl, hyl, hp⟩ := DataW.trod_struct Tryz.underlying30 hf
  have hg : ∀ i, i < 3 → ∃ y, ys[i]? = some y := fun i hi => ⟨_, List.getElem?_eq_getElem (by rw [hyl]; exact hi)⟩
  have k0 : Tryz.prog.cellsOf 30 = 3 := by kernel_rfl
  have k1 : Tryz.prog.cellsOf 3 = 1 := by kernel_rfl
  have k4 : Tryz.prog.cellsOf 9 = 1 := by kernel_rfl
  rw [k0] at hl
  obtain ⟨c0, c1, c2, rfl⟩ := list3 hl
  obtain ⟨y0, e0⟩ := hg 0 (by decide)
  obtain ⟨y1, e1⟩ := hg 1 (by decide)
  obtain ⟨y2, e2⟩ := hg 2 (by decide)
  have t0 := (hp 0 _ rfl).trans e0
  have t1 := (hp 1 _ rfl).trans e1
  have t2 := (hp 2 _ rfl).trans e2
  simp only [List.getElem_toArray, List.getElem_cons_zero, List.getElem_cons_succ, k1, k4, List.drop_succ_cons, List.drop_zero, List.take_succ_cons, List.take_zero] at t0 t1 t2
  obtain ⟨q0, g0, _, w0⟩ := DataW.trod_int Tryz.underlying3 t0
  obtain ⟨q1, g1, _, w1⟩ := DataW.trod_int Tryz.underlying3 t1
  obtain ⟨q2, g2, _, w2⟩ := DataW.trod_string Tryz.underlying9 t2
  simp at g0 g1 g2
  subst g0 g1 g2
  refine ⟨⟨q0, q1, q2.data.toList.map UInt8.toNat⟩, ?_, ⟨lit_i64 w0, lit_i64 w1, fun x hx => ?_, ?_⟩⟩
  · show _ = [_, _, Value.string (strOf _)]
    rw [strOf_of']
  · obtain ⟨y, _, rfl⟩ := List.mem_map.1 hx
    exact y.toNat_lt
  · rw [List.length_map]
    unfold maxLen at w2
    exact w2
set_option maxRecDepth 100000 in
theorem open_acts21 (hv : Value.okWide Tryz.prog w r b0 22 v) (h : DataW.Trod enc Tryz.prog w base spare held 22 v d p) : ∃ a c l, v = .slice a l.length c ∧ ActA21 w a c l := by
  obtain ⟨a0, len, cap, rfl⟩ := okWide_slice Tryz.underlying22 hv
  obtain ⟨fuel, hf⟩ := h
  rcases Go.Deep.open_slice Tryz.underlying22 hf with h0 | ⟨a, len', cap', m, n, D, Pl, hcs, hb, hl, hm, hmm, hx, hi⟩
  · have hcs := h0.1
    simp [Value.cells] at hcs
    obtain ⟨rfl, rfl, rfl⟩ := hcs
    exact ⟨none, 0, [], rfl, fun h => by simp at h, fun d hd => by simp at hd, by simp⟩
  · simp [Value.cells] at hcs
    obtain ⟨rfl, rfl, rfl⟩ := hcs
    by_cases h0 : len = 0
    · subst h0
      exact ⟨_, _, [], rfl, fun h => by simp at h, fun d hd => by simp at hd, by simp⟩
    obtain ⟨b, off, spot⟩ := a
    have k0 : Tryz.prog.cellsOf 30 = 3 := by kernel_rfl
    have hval0 : ∀ i, i < len → ∃ d : A21, d.Ok ∧ ∀ j, j < 3 → w.cell? (((⟨b, off, spot⟩ : Addr).add (i * 3)).add j) = d.cells[j]? := fun i him => by
      obtain ⟨cs', hc, ht⟩ := hi i (by rw [hmm]; split <;> omega)
      rw [k0] at hc
      obtain ⟨d, rfl, ok⟩ := trod_a21 ht
      obtain ⟨_, hcl, hat⟩ := World.cells?_some hc
      exact ⟨d, ok, fun j hj => hat j hj⟩
    have hspot : spot = none := by
      obtain ⟨d, _, hd⟩ := hval0 0 (by omega)
      have := hd 0 (by decide)
      have c0 : w.cell? (((⟨b, off, spot⟩ : Addr).add (0 * 3)).add 0) = some (.int .i64 d.k) := this
      simpa [Addr.add] using World.cell?_spot c0
    subst hspot
    have hadd : ∀ n, (⟨b, off, none⟩ : Addr).add n = ⟨b, off + n, none⟩ := fun n => by unfold Addr.add; split <;> simp_all
    have hadd2 : ∀ n j, (⟨b, off + n, none⟩ : Addr).add j = ⟨b, off + n + j, none⟩ := fun n j => by unfold Addr.add; split <;> simp_all
    have hval : ∀ i, i < len → ∃ d : A21, Row21 w b (off + i * 3) d ∧ d.Ok := fun i him => by
      obtain ⟨d, ok, hd⟩ := hval0 i him
      exact ⟨d, fun j hj => by have := hd j hj; rwa [hadd, hadd2] at this, ok⟩
    obtain ⟨l, hl2, hp⟩ := list_of _ len hval
    refine ⟨_, _, l, by rw [hl2], fun _ => ⟨b, off, rfl, ?_, fun i h => (hp i h).1⟩, fun d hd => ?_, by rw [hl2]; unfold maxLen at hm; omega⟩
    · obtain ⟨q, hq, _⟩ := hval 0 (by omega)
      exact cell_lt (hq 0 (by decide))
    · obtain ⟨j, hj, rfl⟩ := List.mem_iff_getElem.1 hd
      exact (hp j hj).2
end
end Go.Proofs.YtellbfamofilaaaGreatDoor
