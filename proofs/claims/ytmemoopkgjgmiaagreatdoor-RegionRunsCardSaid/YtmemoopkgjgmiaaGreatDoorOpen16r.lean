/- Opening the runs of layer 16's statements. -/
import Derived.Test.YtmemoopkgjgmiaaGreatDoorRows
import Derived.Test.YtmemoopkgjgmiaaGreatDoorGA
import Derived.WalkKit
import Derived.ProofKit
import Derived.OpenShut
import Derived.ShutString
import Derived.ChangeOld
import Derived.Below
namespace Go.Proofs.YtmemoopkgjgmiaaGreatDoor
open Go.ChangeShapes Go.WideShapes Go.ChangeAt Go.RowKit
set_option linter.unusedVariables false
set_option linter.unusedSimpArgs false

/-- An act. -/
structure A16r where
  x : Int
  m : Int
  j : Int
def A16r.cells (d : A16r) : Array Value := #[.int .i64 d.x, .int .i64 d.m, .int .i64 d.j]
structure A16r.Ok (d : A16r) : Prop where
  x : -9223372036854775808 ≤ d.x ∧ d.x ≤ 9223372036854775807
  m : -9223372036854775808 ≤ d.m ∧ d.m ≤ 9223372036854775807
  j : -9223372036854775808 ≤ d.j ∧ d.j ≤ 9223372036854775807
/-- An act that lies from a place on. -/
structure Row16r (w : World) (b o : Nat) (d : A16r) : Prop where
  c0 : w.cell? ⟨b, o, none⟩ = some (.int .i64 d.x)
  c1 : w.cell? ⟨b, o + 1, none⟩ = some (.int .i64 d.m)
  c2 : w.cell? ⟨b, o + 2, none⟩ = some (.int .i64 d.j)
structure ActA16r (w : World) (a : Option Addr) (c : Nat) (l : List A16r) : Prop where
  row : 0 < l.length → ∃ b off, a = some ⟨b, off, none⟩ ∧ b < w.heap.size ∧ ∀ i (h : i < l.length), Row16r w b (off + i * 3) l[i]
  each : ∀ d ∈ l, d.Ok
  len : l.length ≤ 9223372036854775807
theorem ActA16r.fr {w w' : World} {a : Option Addr} {c : Nat} {l : List A16r} {S : List Nat} (h : ActA16r w a c l) (hf : Fr S w w') (hS : ∀ k ∈ S, w.heap.size ≤ k) : ActA16r w' a c l := by
  refine ⟨fun h0 => ?_, h.each, h.len⟩
  obtain ⟨b, off, ha, hb, hr⟩ := h.row h0
  have hn : b ∉ S := fun hm => by have := hS b hm; omega
  refine ⟨b, off, ha, Nat.lt_of_lt_of_le hb hf.size, fun i hi => ?_⟩
  have r := hr i hi
  exact ⟨(hf.cell (p := ⟨b, off + i * 3, none⟩) hb hn).trans r.c0, (hf.cell (p := ⟨b, off + i * 3 + 1, none⟩) hb hn).trans r.c1, (hf.cell (p := ⟨b, off + i * 3 + 2, none⟩) hb hn).trans r.c2⟩
set_option maxRecDepth 100000 in
theorem open_acts16r {H : Type} {enc : TypeId × Value → H} {w : World} {base b0 : Nat} {spare : Nat → Bool} {held : Bool} {r : Reach} {v : Value} {d : DataW H} {p : List MemPlace}
    (hv : Value.okWide Tryz.prog w r b0 54 v) (h : DataW.Trod enc Tryz.prog w base spare held 54 v d p) : ∃ a c l, v = .slice a l.length c ∧ ActA16r w a c l := by
  obtain ⟨a0, len, cap, rfl⟩ := okWide_slice Tryz.underlying54 hv
  obtain ⟨fuel, hf⟩ := h
  rcases open_slice_fields Tryz.underlying54 Tryz.underlying175 (by kernel_rfl) (by kernel_rfl) hf with hcs | ⟨ad, len', cap', hcs, hl, hm, hi⟩
  · simp [Value.cells] at hcs
    obtain ⟨rfl, rfl, rfl⟩ := hcs
    exact ⟨none, 0, [], rfl, fun h => by simp at h, fun d hd => by simp at hd, by simp⟩
  · simp [Value.cells] at hcs
    obtain ⟨rfl, rfl, rfl⟩ := hcs
    by_cases h0 : len = 0
    · subst h0
      exact ⟨_, _, [], rfl, fun h => by simp at h, fun d hd => by simp at hd, by simp⟩
    obtain ⟨b, off, spot⟩ := ad
    have hspot : spot = none := by
      obtain ⟨n, hf⟩ := hi 0 (by omega)
      obtain ⟨v0, y0, c0, t0⟩ := hf 0 _ rfl
      simpa [Addr.add] using World.cell?_spot c0
    subst hspot
    have hadd : ∀ n, (⟨b, off, none⟩ : Addr).add n = ⟨b, off + n, none⟩ := fun n => by unfold Addr.add; split <;> simp_all
    have hval : ∀ i, i < len → ∃ q : A16r, Row16r w b (off + i * 3) q ∧ q.Ok := by
      intro i him
      obtain ⟨n, hf⟩ := hi i him
      obtain ⟨v0, y0, c0, t0⟩ := hf 0 _ rfl
      obtain ⟨v1, y1, c1, t1⟩ := hf 1 _ rfl
      obtain ⟨v2, y2, c2, t2⟩ := hf 2 _ rfl
      obtain ⟨q0, g0, _, w0⟩ := DataW.trod_int Tryz.underlying3 t0
      obtain ⟨q1, g1, _, w1⟩ := DataW.trod_int Tryz.underlying3 t1
      obtain ⟨q2, g2, _, w2⟩ := DataW.trod_int Tryz.underlying3 t2
      simp at g0 g1 g2
      subst g0 g1 g2
      have z0 := lit_i64 w0
      have z1 := lit_i64 w1
      have z2 := lit_i64 w2
      rw [hadd] at c0 c1 c2
      exact ⟨⟨q0, q1, q2⟩, ⟨c0, c1, c2⟩, ⟨z0, z1, z2⟩⟩
    obtain ⟨l, hl2, hp⟩ := list_of _ len hval
    refine ⟨_, _, l, by rw [hl2], fun _ => ⟨b, off, rfl, ?_, fun i h => (hp i h).1⟩, fun d hd => ?_, by rw [hl2]; unfold maxLen at hm; omega⟩
    · obtain ⟨q, hq, _⟩ := hval 0 (by omega)
      exact cell_lt hq.c0
    · obtain ⟨j, hj, rfl⟩ := List.mem_iff_getElem.1 hd
      exact (hp j hj).2
end Go.Proofs.YtmemoopkgjgmiaaGreatDoor
