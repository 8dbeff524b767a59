/- Opening the acts of layer 10's statements. -/
import Derived.Test.YtcagljjbiodcoaaRows
import Derived.Test.YtcagljjbiodcoaaAct10
import Derived.Test.YtcagljjbiodcoaaOpen
import Derived.Test.YtcagljjbiodcoaaOpenN
import Derived.WalkKit
import Derived.ProofKit
import Derived.OpenShut
import Derived.ShutString
import Derived.ChangeOld
import Derived.Below
namespace Go.Proofs.Ytcagljjbiodcoaa
open Go.ChangeShapes Go.WideShapes Go.ChangeAt Go.RowKit
set_option linter.unusedVariables false

theorem bytl_of {H : Type} {enc : TypeId × Value → H} {w : World} {base : Nat} {spare : Nat → Bool} {held : Bool} {fuel : Nat} {v : Value} {y : DataW H × List MemPlace}
    (hf : DataW.trod enc Try.prog w base spare held fuel 28 [v] = some y) : ∃ a c b, v = .slice a b.length c ∧ BytL w a b := by
  rcases open_ints Try.underlying28 Try.underlying5 (by kernel_rfl) hf with ⟨hcs, hx⟩ | ⟨ad, len, cap, zs, hcs, _, hl, hm, hz, hx, hcell, hwz⟩
  · simp at hcs
    subst hcs
    exact ⟨none, 0, [], rfl, fun i hi => by simp at hi, fun b hb => by simp at hb, by simp⟩
  · simp at hcs
    subst hcs
    have hzl : len ≤ zs.length := by rw [hz]; split <;> omega
    have hrange : ∀ z ∈ zs, 0 ≤ z ∧ z < 256 := fun z hz => by
      have := hwz z hz
      simp only [Lit.wf, IntKind.min, IntKind.max, IntKind.signed, IntKind.bits, Bool.and_eq_true, decide_eq_true_eq] at this
      simp at this
      omega
    obtain ⟨b, off, spot⟩ := ad
    refine ⟨some ⟨b, off, spot⟩, cap, (zs.take len).map Int.toNat, by simp [Nat.min_eq_left hzl], fun i hi => ?_, fun x hx => ?_, by unfold maxLen at hm; simp; omega⟩
    · have hil : i < len := by simpa [Nat.min_eq_left hzl] using hi
      have hc := hcell i (by omega)
      have hspot : spot = none := by
        have := World.cell?_spot (hcell 0 (by omega))
        simpa [Addr.add] using this
      subst hspot
      have hadd : (⟨b, off, none⟩ : Addr).add i = ⟨b, off + i, none⟩ := by unfold Addr.add; split <;> simp_all
      rw [hadd] at hc
      refine ⟨b, off, rfl, ?_, cell_lt hc⟩
      rw [hc]
      have hz0 := hrange (zs[i]'(by omega)) (List.getElem_mem _)
      have e : (((zs.take len).map Int.toNat)[i]?.getD 0 : Nat) = (zs[i]'(by omega)).toNat := by
        rw [List.getElem?_map, List.getElem?_take_of_lt hil, List.getElem?_eq_getElem (by omega)]; rfl
      rw [e, List.getD_eq_getElem?_getD, List.getElem?_eq_getElem (by omega), Option.getD_some, Int.toNat_of_nonneg hz0.1]
    · obtain ⟨z, hz1, rfl⟩ := List.mem_map.1 hx
      have := hrange z (List.mem_of_mem_take hz1)
      omega

/-- A slice of acts that came in. -/
structure ActA10 (w : World) (a : Option Addr) (c : Nat) (l : List A10) : Prop where
  acts : Acts10 w a l
  len : l.length ≤ 9223372036854775807

set_option maxRecDepth 100000 in
theorem open_acts10 {H : Type} {enc : TypeId × Value → H} {w : World} {base b0 : Nat} {spare : Nat → Bool} {held : Bool} {r : Reach} {v : Value} {d : DataW H} {p : List MemPlace}
    (hv : Value.okWide Try.prog w r b0 41 v) (h : DataW.Trod enc Try.prog w base spare held 41 v d p) : ∃ a c l, v = .slice a l.length c ∧ ActA10 w a c l := by
  obtain ⟨a0, len, cap, rfl⟩ := okWide_slice Try.underlying41 hv
  obtain ⟨fuel, hf⟩ := h
  rcases open_slice_fields Try.underlying41 Try.underlying48 (by kernel_rfl) (by kernel_rfl) hf with hcs | ⟨ad, len', cap', hcs, hl, hm, hi⟩
  · simp [Value.cells] at hcs
    obtain ⟨rfl, rfl, rfl⟩ := hcs
    exact ⟨none, 0, [], rfl, ⟨fun h => by simp at h, fun d hd => by simp at hd⟩, by simp⟩
  · simp [Value.cells] at hcs
    obtain ⟨rfl, rfl, rfl⟩ := hcs
    by_cases h0 : len = 0
    · subst h0
      exact ⟨_, _, [], rfl, ⟨fun h => by simp at h, fun d hd => by simp at hd⟩, by simp⟩
    obtain ⟨b, off, spot⟩ := ad
    have hspot : spot = none := by
      obtain ⟨n, hf⟩ := hi 0 (by omega)
      obtain ⟨v0, y0, c0, t0⟩ := hf 0 _ rfl
      simpa [Addr.add] using World.cell?_spot c0
    subst hspot
    have hadd : ∀ n, (⟨b, off, none⟩ : Addr).add n = ⟨b, off + n, none⟩ := fun n => by unfold Addr.add; split <;> simp_all
    have hval : ∀ i, i < len → ∃ q : A10, Row10 w b (off + i * 7) q ∧ q.v < 18446744073709551616 ∧ BytL w q.a q.b := by
      intro i him
      obtain ⟨n, hf⟩ := hi i him
      obtain ⟨v0, y0, c0, t0⟩ := hf 0 _ rfl
      obtain ⟨v1, y1, c1, t1⟩ := hf 1 _ rfl
      obtain ⟨v2, y2, c2, t2⟩ := hf 2 _ rfl
      obtain ⟨v3, y3, c3, t3⟩ := hf 3 _ rfl
      obtain ⟨v4, y4, c4, t4⟩ := hf 4 _ rfl
      obtain ⟨v5, y5, c5, t5⟩ := hf 5 _ rfl
      obtain ⟨v6, y6, c6, t6⟩ := hf 6 _ rfl
      obtain ⟨q0, g0, _, _⟩ := DataW.trod_int Try.underlying3 t0
      obtain ⟨q1, g1, _, _⟩ := DataW.trod_int Try.underlying3 t1
      obtain ⟨q2, g2, _, _⟩ := DataW.trod_int Try.underlying3 t2
      obtain ⟨q3, g3, _, _⟩ := DataW.trod_int Try.underlying3 t3
      obtain ⟨q4, g4, _, _⟩ := DataW.trod_int Try.underlying3 t4
      obtain ⟨q5, g5, _, w5⟩ := DataW.trod_int Try.underlying32 t5
      simp at g0 g1 g2 g3 g4 g5
      subst g0 g1 g2 g3 g4 g5
      obtain ⟨a6, cc6, b6, rfl, hb6⟩ := bytl_of t6
      obtain ⟨k5, rfl, hk5⟩ := lit_u64 w5
      rw [hadd] at c0 c1 c2 c3 c4 c5 c6
      exact ⟨⟨q0, q1, q2, q3, q4, k5, a6, cc6, b6⟩, ⟨c0, c1, c2, c3, c4, c5, c6⟩, hk5, hb6⟩
    obtain ⟨l, hl2, hp⟩ := list_of _ len hval
    refine ⟨_, _, l, by rw [hl2], ⟨fun _ => ⟨b, off, rfl, ?_, fun i h => (hp i h).1⟩, fun d hd => ?_⟩, by rw [hl2]; unfold maxLen at hm; omega⟩
    · obtain ⟨q, hq, _⟩ := hval 0 (by omega)
      exact cell_lt hq.c0
    · obtain ⟨j, hj, rfl⟩ := List.mem_iff_getElem.1 hd
      exact (hp j hj).2

theorem array7 {α : Type} {cs : Array α} (h : cs.size = 7) : ∃ c0 c1 c2 c3 c4 c5 c6, cs = #[c0, c1, c2, c3, c4, c5, c6] := by
  obtain ⟨l⟩ := cs
  match l, h with
  | [a0, a1, a2, a3, a4, a5, a6], _ => exact ⟨a0, a1, a2, a3, a4, a5, a6, rfl⟩

set_option maxRecDepth 100000 in
theorem open_act10 {H : Type} {enc : TypeId × Value → H} {w : World} {base b0 : Nat} {spare : Nat → Bool} {held : Bool} {r : Reach} {v : Value} {d : DataW H} {p : List MemPlace}
    (hv : Value.okWide Try.prog w r b0 48 v) (h : DataW.Trod enc Try.prog w base spare held 48 v d p) : ∃ x : A10, v = .agg x.cells ∧ x.v < 18446744073709551616 ∧ BytL w x.a x.b := by
  obtain ⟨cs, rfl, hsz⟩ := okWide_struct Try.underlying48 hv
  obtain ⟨c0, c1, c2, c3, c4, c5, c6, rfl⟩ := array7 (hsz.trans (by kernel_rfl))
  obtain ⟨fuel, hf⟩ := h
  obtain ⟨ys, n, rfl, hx, hl, hyl, hp⟩ := DataW.trod_struct Try.underlying48 hf
  have hg : ∀ i, i < 7 → ∃ y, ys[i]? = some y := fun i hi => ⟨_, List.getElem?_eq_getElem (by rw [hyl]; exact hi)⟩
  have k1 : Try.prog.cellsOf 3 = 1 := by kernel_rfl
  have k2 : Try.prog.cellsOf 32 = 1 := by kernel_rfl
  have k3 : Try.prog.cellsOf 28 = 1 := by kernel_rfl
  obtain ⟨y0, e0⟩ := hg 0 (by decide)
  obtain ⟨y1, e1⟩ := hg 1 (by decide)
  obtain ⟨y2, e2⟩ := hg 2 (by decide)
  obtain ⟨y3, e3⟩ := hg 3 (by decide)
  obtain ⟨y4, e4⟩ := hg 4 (by decide)
  obtain ⟨y5, e5⟩ := hg 5 (by decide)
  obtain ⟨y6, e6⟩ := hg 6 (by decide)
  have t0 := (hp 0 _ rfl).trans e0
  have t1 := (hp 1 _ rfl).trans e1
  have t2 := (hp 2 _ rfl).trans e2
  have t3 := (hp 3 _ rfl).trans e3
  have t4 := (hp 4 _ rfl).trans e4
  have t5 := (hp 5 _ rfl).trans e5
  have t6 := (hp 6 _ rfl).trans e6
  simp only [Value.cells, k1, k2, k3, List.drop_succ_cons, List.drop_zero, List.take_succ_cons, List.take_zero] at t0 t1 t2 t3 t4 t5 t6
  obtain ⟨q0, g0, _, _⟩ := DataW.trod_int Try.underlying3 t0
  obtain ⟨q1, g1, _, _⟩ := DataW.trod_int Try.underlying3 t1
  obtain ⟨q2, g2, _, _⟩ := DataW.trod_int Try.underlying3 t2
  obtain ⟨q3, g3, _, _⟩ := DataW.trod_int Try.underlying3 t3
  obtain ⟨q4, g4, _, _⟩ := DataW.trod_int Try.underlying3 t4
  obtain ⟨q5, g5, _, w5⟩ := DataW.trod_int Try.underlying32 t5
  simp [k1, k2, k3] at g0 g1 g2 g3 g4 g5 t6
  subst g0 g1 g2 g3 g4 g5
  obtain ⟨a6, cc6, b6, rfl, hb6⟩ := bytl_of t6
  obtain ⟨k5, rfl, hk5⟩ := lit_u64 w5
  exact ⟨⟨q0, q1, q2, q3, q4, k5, a6, cc6, b6⟩, rfl, hk5, hb6⟩

structure BytC (w : World) (a : Option Addr) (c : Nat) (l : List Nat) : Prop where
  b : BytL w a l
theorem open_bytl {H : Type} {enc : TypeId × Value → H} {w : World} {base b0 : Nat} {spare : Nat → Bool} {held : Bool} {r : Reach} {v : Value} {d : DataW H} {p : List MemPlace}
    (hv : Value.okWide Try.prog w r b0 28 v) (h : DataW.Trod enc Try.prog w base spare held 28 v d p) : ∃ a c l, v = .slice a l.length c ∧ BytC w a c l := by
  obtain ⟨a0, len, cap, rfl⟩ := okWide_slice Try.underlying28 hv
  obtain ⟨fuel, hf⟩ := h
  obtain ⟨a, c, b, e, hb⟩ := bytl_of (v := .slice a0 len cap) hf
  exact ⟨a, c, b, e, ⟨hb⟩⟩
end Go.Proofs.Ytcagljjbiodcoaa
