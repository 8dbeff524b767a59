/- Opening slices of bytes and heads that came in. -/
import Derived.Test.YtgoogihfggndpaaGreatDoorRows
import Derived.Test.YtgoogihfggndpaaGreatDoorGF
import Derived.Test.YtgoogihfggndpaaGreatDoorGA
import Derived.WalkKit
import Derived.ProofKit
import Derived.OpenShut
import Derived.ShutString
import Derived.ChangeOld
import Derived.Below
namespace Go.Proofs.YtgoogihfggndpaaGreatDoor
open Go.ChangeShapes Go.WideShapes Go.ChangeAt Go.RowKit
set_option linter.unusedVariables false
set_option linter.unusedSimpArgs false

/-- A slice at a reads as the bytes l, as many as they may be. -/
structure BytA (w : World) (a : Option Addr) (c : Nat) (l : List Nat) : Prop where
  at_ : ∀ i, i < l.length → ∃ g o, a = some ⟨g, o, none⟩ ∧ w.cell? ⟨g, o + i, none⟩ = some (.int .u8 ((l[i]?.getD 0 : Nat) : Int)) ∧ g < w.heap.size
  byte : ∀ b ∈ l, b < 256
  len : l.length ≤ 9223372036854775807
  cap : l.length ≤ c
theorem BytA.byt {w : World} {a : Option Addr} {c : Nat} {l : List Nat} (h : BytA w a c l) (hl : l.length ≤ 1099511627776) : Byt w a l := ⟨h.at_, h.byte, hl⟩

set_option maxRecDepth 100000 in
theorem open_bytes {H : Type} {enc : TypeId × Value → H} {w : World} {base b0 : Nat} {spare : Nat → Bool} {held : Bool} {r : Reach} {v : Value} {d : DataW H} {p : List MemPlace}
    (hv : Value.okWide Tryz.prog w r b0 24 v) (h : DataW.Trod enc Tryz.prog w base spare held 24 v d p) : ∃ a c l, v = .slice a l.length c ∧ BytA w a c l := by
  obtain ⟨a0, len, cap, rfl⟩ := okWide_slice Tryz.underlying24 hv
  obtain ⟨fuel, hf⟩ := h
  rcases open_ints Tryz.underlying24 Tryz.underlying5 (by kernel_rfl) hf with ⟨hcs, hx⟩ | ⟨ad, len', cap', zs, hcs, _, hl, hm, hz, hx, hcell, hwz⟩
  · simp [Value.cells] at hcs
    obtain ⟨rfl, rfl, rfl⟩ := hcs
    exact ⟨none, 0, [], rfl, fun i hi => by simp at hi, fun b hb => by simp at hb, by simp, by simp⟩
  · simp [Value.cells] at hcs
    obtain ⟨rfl, rfl, rfl⟩ := hcs
    have hzl : len ≤ zs.length := by rw [hz]; split <;> omega
    have hrange : ∀ z ∈ zs, 0 ≤ z ∧ z < 256 := fun z hz => by
      have := hwz z hz
      simp only [Lit.wf, IntKind.min, IntKind.max, IntKind.signed, IntKind.bits, Bool.and_eq_true, decide_eq_true_eq] at this
      simp at this
      omega
    obtain ⟨b, off, spot⟩ := ad
    refine ⟨some ⟨b, off, spot⟩, cap, (zs.take len).map Int.toNat, by simp [Nat.min_eq_left hzl], fun i hi => ?_, fun x hx => ?_, by unfold maxLen at hm; simp; omega, by simp; omega⟩
    · have hil : i < len := by simpa [Nat.min_eq_left hzl] using hi
      have hc := hcell i (by omega)
      have hspot : spot = none := by
        have := World.cell?_spot (hcell 0 (by omega))
        simpa [Addr.add] using this
      subst hspot
      have hadd : (⟨b, off, none⟩ : Addr).add i = ⟨b, off + i, none⟩ := by unfold Addr.add; split <;> simp_all
      rw [hadd] at hc
      refine ⟨b, off, rfl, ?_, cell_lt hc⟩
      rw [hc]
      have hz0 := hrange (zs[i]'(by omega)) (List.getElem_mem _)
      have e : (((zs.take len).map Int.toNat)[i]?.getD 0 : Nat) = (zs[i]'(by omega)).toNat := by
        rw [List.getElem?_map, List.getElem?_take_of_lt hil, List.getElem?_eq_getElem (by omega)]; rfl
      rw [e, List.getD_eq_getElem?_getD, List.getElem?_eq_getElem (by omega), Option.getD_some, Int.toNat_of_nonneg hz0.1]
    · obtain ⟨z, hz1, rfl⟩ := List.mem_map.1 hx
      have := hrange z (List.mem_of_mem_take hz1)
      omega

theorem wf_i64 {n : Int} (h : (Lit.int .i64 n).wf = true) : -9223372036854775808 ≤ n ∧ n ≤ 9223372036854775807 := by
  simp only [Lit.wf, IntKind.min, IntKind.max, IntKind.signed, IntKind.bits, Bool.and_eq_true, decide_eq_true_eq, if_true] at h
  simp at h
  omega
end Go.Proofs.YtgoogihfggndpaaGreatDoor
