/- Opening slices of bytes and heads that came in. -/
import Derived.Test.YtcagljjbiodcoaaDoorRows
import Derived.Test.YtcagljjbiodcoaaDoorDec
import Derived.Test.YtcagljjbiodcoaaDoorOpen
import Derived.WalkKit
import Derived.ProofKit
import Derived.OpenShut
import Derived.ShutString
import Derived.ChangeOld
import Derived.Below
namespace Go.Proofs.YtcagljjbiodcoaaDoor
open Go.ChangeShapes Go.WideShapes Go.ChangeAt Go.RowKit
set_option linter.unusedVariables false

/-- A slice at a reads as the bytes l, as many as they may be. -/
structure BytA (w : World) (a : Option Addr) (c : Nat) (l : List Nat) : Prop where
  at_ : ∀ i, i < l.length → ∃ g o, a = some ⟨g, o, none⟩ ∧ w.cell? ⟨g, o + i, none⟩ = some (.int .u8 ((l[i]?.getD 0 : Nat) : Int)) ∧ g < w.heap.size
  byte : ∀ b ∈ l, b < 256
  len : l.length ≤ 9223372036854775807
  cap : l.length ≤ c
theorem BytA.byt {w : World} {a : Option Addr} {c : Nat} {l : List Nat} (h : BytA w a c l) (hl : l.length ≤ 1099511627776) : Byt w a l := ⟨h.at_, h.byte, hl⟩

set_option maxRecDepth 100000 in
theorem open_bytes {H : Type} {enc : TypeId × Value → H} {w : World} {base b0 : Nat} {spare : Nat → Bool} {held : Bool} {r : Reach} {v : Value} {d : DataW H} {p : List MemPlace}
    (hv : Value.okWide Tryd.prog w r b0 63 v) (h : DataW.Trod enc Tryd.prog w base spare held 63 v d p) : ∃ a c l, v = .slice a l.length c ∧ BytA w a c l := by
  obtain ⟨a0, len, cap, rfl⟩ := okWide_slice Tryd.underlying63 hv
  obtain ⟨fuel, hf⟩ := h
  rcases open_ints Tryd.underlying63 Tryd.underlying5 (by kernel_rfl) hf with ⟨hcs, hx⟩ | ⟨ad, len', cap', zs, hcs, _, hl, hm, hz, hx, hcell, hwz⟩
  · simp [Value.cells] at hcs
    obtain ⟨rfl, rfl, rfl⟩ := hcs
    exact ⟨none, 0, [], rfl, fun i hi => by simp at hi, fun b hb => by simp at hb, by simp, by simp⟩
  · simp [Value.cells] at hcs
    obtain ⟨rfl, rfl, rfl⟩ := hcs
    have hzl : len ≤ zs.length := by rw [hz]; split <;> omega
    have hrange : ∀ z ∈ zs, 0 ≤ z ∧ z < 256 := fun z hz => by
      have := hwz z hz
      simp only [Lit.wf, IntKind.min, IntKind.max, IntKind.signed, IntKind.bits, Bool.and_eq_true, decide_eq_true_eq] at this
      simp at this
      omega
    obtain ⟨b, off, spot⟩ := ad
    refine ⟨some ⟨b, off, spot⟩, cap, (zs.take len).map Int.toNat, by simp [Nat.min_eq_left hzl], fun i hi => ?_, fun x hx => ?_, by unfold maxLen at hm; simp; omega, by simp; omega⟩
    · have hil : i < len := by simpa [Nat.min_eq_left hzl] using hi
      have hc := hcell i (by omega)
      have hspot : spot = none := by
        have := World.cell?_spot (hcell 0 (by omega))
        simpa [Addr.add] using this
      subst hspot
      have hadd : (⟨b, off, none⟩ : Addr).add i = ⟨b, off + i, none⟩ := by unfold Addr.add; split <;> simp_all
      rw [hadd] at hc
      refine ⟨b, off, rfl, ?_, cell_lt hc⟩
      rw [hc]
      have hz0 := hrange (zs[i]'(by omega)) (List.getElem_mem _)
      have e : (((zs.take len).map Int.toNat)[i]?.getD 0 : Nat) = (zs[i]'(by omega)).toNat := by
        rw [List.getElem?_map, List.getElem?_take_of_lt hil, List.getElem?_eq_getElem (by omega)]; rfl
      rw [e, List.getD_eq_getElem?_getD, List.getElem?_eq_getElem (by omega), Option.getD_some, Int.toNat_of_nonneg hz0.1]
    · obtain ⟨z, hz1, rfl⟩ := List.mem_map.1 hx
      have := hrange z (List.mem_of_mem_take hz1)
      omega

theorem array12 {α : Type} {cs : Array α} (h : cs.size = 12) : ∃ c0 c1 c2 c3 c4 c5 c6 c7 c8 c9 c10 c11, cs = #[c0, c1, c2, c3, c4, c5, c6, c7, c8, c9, c10, c11] := by
  obtain ⟨l⟩ := cs
  match l, h with
  | [a0, a1, a2, a3, a4, a5, a6, a7, a8, a9, a10, a11], _ => exact ⟨a0, a1, a2, a3, a4, a5, a6, a7, a8, a9, a10, a11, rfl⟩

theorem wf_i64 {n : Int} (h : (Lit.int .i64 n).wf = true) : -9223372036854775808 ≤ n ∧ n ≤ 9223372036854775807 := by
  simp only [Lit.wf, IntKind.min, IntKind.max, IntKind.signed, IntKind.bits, Bool.and_eq_true, decide_eq_true_eq, if_true] at h
  simp at h
  omega
theorem wf_u32 {n : Int} (h : (Lit.int .u32 n).wf = true) : ∃ k : Nat, n = k ∧ k < 4294967296 := by
  simp only [Lit.wf, IntKind.min, IntKind.max, IntKind.signed, IntKind.bits, Bool.and_eq_true, decide_eq_true_eq] at h
  simp at h
  exact ⟨n.toNat, by omega, by omega⟩
theorem wf_u64 {n : Int} (h : (Lit.int .u64 n).wf = true) : ∃ k : Nat, n = k ∧ k < 18446744073709551616 := by
  simp only [Lit.wf, IntKind.min, IntKind.max, IntKind.signed, IntKind.bits, Bool.and_eq_true, decide_eq_true_eq] at h
  simp at h
  exact ⟨n.toNat, by omega, by omega⟩
theorem wf_u16 {n : Int} (h : (Lit.int .u16 n).wf = true) : ∃ k : Nat, n = k ∧ k < 65536 := by
  simp only [Lit.wf, IntKind.min, IntKind.max, IntKind.signed, IntKind.bits, Bool.and_eq_true, decide_eq_true_eq] at h
  simp at h
  exact ⟨n.toNat, by omega, by omega⟩

set_option maxRecDepth 100000 in
theorem open_block {H : Type} {enc : TypeId × Value → H} {w : World} {base b0 : Nat} {spare : Nat → Bool} {held : Bool} {r : Reach} {v : Value} {d : DataW H} {p : List MemPlace}
    (hv : Value.okWide Tryd.prog w r b0 43 v) (h : DataW.Trod enc Tryd.prog w base spare held 43 v d p) : ∃ x : HB, v = x.val ∧ x.Ok := by
  obtain ⟨cs, rfl, hsz⟩ := okWide_struct Tryd.underlying43 hv
  obtain ⟨c0, c1, c2, c3, c4, c5, c6, c7, c8, c9, c10, c11, rfl⟩ := array12 (hsz.trans (by kernel_rfl))
  obtain ⟨fuel, hf⟩ := h
  obtain ⟨ys, n, rfl, hx, hl, hyl, hp⟩ := DataW.trod_struct Tryd.underlying43 hf
  have hg : ∀ i, i < 12 → ∃ y, ys[i]? = some y := fun i hi => ⟨_, List.getElem?_eq_getElem (by rw [hyl]; exact hi)⟩
  have k1 : Tryd.prog.cellsOf 3 = 1 := by kernel_rfl
  have k2 : Tryd.prog.cellsOf 4 = 1 := by kernel_rfl
  have k3 : Tryd.prog.cellsOf 40 = 1 := by kernel_rfl
  have k4 : Tryd.prog.cellsOf 22 = 1 := by kernel_rfl
  have k5 : Tryd.prog.cellsOf 41 = 1 := by kernel_rfl
  obtain ⟨y0, e0⟩ := hg 0 (by decide)
  obtain ⟨y1, e1⟩ := hg 1 (by decide)
  obtain ⟨y2, e2⟩ := hg 2 (by decide)
  obtain ⟨y3, e3⟩ := hg 3 (by decide)
  obtain ⟨y4, e4⟩ := hg 4 (by decide)
  obtain ⟨y5, e5⟩ := hg 5 (by decide)
  obtain ⟨y6, e6⟩ := hg 6 (by decide)
  obtain ⟨y7, e7⟩ := hg 7 (by decide)
  obtain ⟨y8, e8⟩ := hg 8 (by decide)
  obtain ⟨y9, e9⟩ := hg 9 (by decide)
  obtain ⟨y10, e10⟩ := hg 10 (by decide)
  obtain ⟨y11, e11⟩ := hg 11 (by decide)
  have t0 := (hp 0 _ rfl).trans e0
  have t1 := (hp 1 _ rfl).trans e1
  have t2 := (hp 2 _ rfl).trans e2
  have t3 := (hp 3 _ rfl).trans e3
  have t4 := (hp 4 _ rfl).trans e4
  have t5 := (hp 5 _ rfl).trans e5
  have t6 := (hp 6 _ rfl).trans e6
  have t7 := (hp 7 _ rfl).trans e7
  have t8 := (hp 8 _ rfl).trans e8
  have t9 := (hp 9 _ rfl).trans e9
  have t10 := (hp 10 _ rfl).trans e10
  have t11 := (hp 11 _ rfl).trans e11
  simp only [Value.cells, k1, k2, k3, k4, k5, List.drop_succ_cons, List.drop_zero, List.take_succ_cons, List.take_zero] at t0 t1 t2 t3 t4 t5 t6 t7 t8 t9 t10 t11
  obtain ⟨q0, g0, _, w0⟩ := DataW.trod_int Tryd.underlying3 t0
  obtain ⟨q1, g1, _, w1⟩ := DataW.trod_int Tryd.underlying3 t1
  obtain ⟨q2, g2, _⟩ := DataW.trod_bool Tryd.underlying4 t2
  obtain ⟨q3, g3, _, w3⟩ := DataW.trod_int Tryd.underlying3 t3
  obtain ⟨q4, g4, _, w4⟩ := DataW.trod_int Tryd.underlying40 t4
  obtain ⟨q5, g5, _, w5⟩ := DataW.trod_int Tryd.underlying40 t5
  obtain ⟨q6, g6, _, w6⟩ := DataW.trod_int Tryd.underlying40 t6
  obtain ⟨q7, g7, _, w7⟩ := DataW.trod_int Tryd.underlying40 t7
  obtain ⟨q8, g8, _, w8⟩ := DataW.trod_int Tryd.underlying22 t8
  obtain ⟨q9, g9, _, w9⟩ := DataW.trod_int Tryd.underlying41 t9
  obtain ⟨q10, g10, _, w10⟩ := DataW.trod_int Tryd.underlying3 t10
  obtain ⟨q11, g11, _, w11⟩ := DataW.trod_int Tryd.underlying40 t11
  simp [k1, k2, k3, k4, k5] at g0 g1 g2 g3 g4 g5 g6 g7 g8 g9 g10 g11
  subst g0 g1 g2 g3 g4 g5 g6 g7 g8 g9 g10 g11
  obtain ⟨m4, rfl, b4⟩ := wf_u32 w4
  obtain ⟨m5, rfl, b5⟩ := wf_u32 w5
  obtain ⟨m6, rfl, b6⟩ := wf_u32 w6
  obtain ⟨m7, rfl, b7⟩ := wf_u32 w7
  obtain ⟨m8, rfl, b8⟩ := wf_u64 w8
  obtain ⟨m9, rfl, b9⟩ := wf_u16 w9
  obtain ⟨m11, rfl, b11⟩ := wf_u32 w11
  exact ⟨{ tag := q0, cls := q1, used := q2, label := q3, name := m4, next := m5, prev := m6, refs := m7, expiry := m8, typ := m9, size := q10, hash := m11 }, rfl, ⟨wf_i64 w0, wf_i64 w1, wf_i64 w3, b4, b5, b6, b7, b8, b9, wf_i64 w10, b11⟩⟩
end Go.Proofs.YtcagljjbiodcoaaDoor
