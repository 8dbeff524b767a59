/- Numbers and slices of numbers that came in. -/
import Derived.Test.YtcagljjbiodcoaaDoorRows
import Derived.Test.YtcagljjbiodcoaaDoorBase
import Derived.Test.YtcagljjbiodcoaaDoorOpen
import Derived.WalkKit
import Derived.ProofKit
import Derived.OpenShut
import Derived.ShutString
import Derived.ChangeOld
import Derived.Below
namespace Go.Proofs.YtcagljjbiodcoaaDoor
open Go.ChangeShapes Go.WideShapes Go.ChangeAt Go.RowKit
set_option linter.unusedVariables false

theorem lit_i64 {n : Int} (h : (Lit.int .i64 n).wf = true) : -9223372036854775808 ≤ n ∧ n ≤ 9223372036854775807 := by
  simp only [Lit.wf, IntKind.min, IntKind.max, IntKind.signed, IntKind.bits, Bool.and_eq_true, decide_eq_true_eq, if_true] at h
  simp at h
  omega
theorem lit_u32 {n : Int} (h : (Lit.int .u32 n).wf = true) : ∃ k : Nat, n = k ∧ k < 4294967296 := by
  simp only [Lit.wf, IntKind.min, IntKind.max, IntKind.signed, IntKind.bits, Bool.and_eq_true, decide_eq_true_eq] at h
  simp at h
  exact ⟨n.toNat, by omega, by omega⟩
theorem lit_u64 {n : Int} (h : (Lit.int .u64 n).wf = true) : ∃ k : Nat, n = k ∧ k < 18446744073709551616 := by
  simp only [Lit.wf, IntKind.min, IntKind.max, IntKind.signed, IntKind.bits, Bool.and_eq_true, decide_eq_true_eq] at h
  simp at h
  exact ⟨n.toNat, by omega, by omega⟩

/-- A slice at a reads as these numbers of a kind. -/
structure NumA (k : IntKind) (w : World) (a : Option Addr) (c : Nat) (l : List Int) : Prop where
  at_ : ∀ i, i < l.length → ∃ g o, a = some ⟨g, o, none⟩ ∧ w.cell? ⟨g, o + i, none⟩ = some (.int k (l[i]?.getD 0)) ∧ g < w.heap.size
  wf : ∀ b ∈ l, (Lit.int k b).wf = true
  len : l.length ≤ maxLen
  cap : l.length ≤ c
theorem NumA.fr {k : IntKind} {w w' : World} {a : Option Addr} {c : Nat} {l : List Int} (h : NumA k w a c l) (hf : Fr [] w w') : NumA k w' a c l :=
  ⟨fun i hi => by
    obtain ⟨g, o, ha, hc, hg⟩ := h.at_ i hi
    exact ⟨g, o, ha, (hf.cell (p := ⟨g, o + i, none⟩) hg (by simp)).trans hc, Nat.lt_of_lt_of_le hg hf.size⟩, h.wf, h.len, h.cap⟩

theorem open_nums {H : Type} {enc : TypeId × Value → H} {P : Program} {w : World} {base b0 : Nat} {spare : Nat → Bool} {held : Bool} {r : Reach} {v : Value} {d : DataW H} {p : List MemPlace} {t e : TypeId} {k : IntKind}
    (ht : P.underlying t = some (.slice e)) (he : P.underlying e = some (.int k)) (hc1 : P.cellsOf e = 1)
    (hv : Value.okWide P w r b0 t v) (h : DataW.Trod enc P w base spare held t v d p) : ∃ a c l, v = .slice a l.length c ∧ NumA k w a c l := by
  obtain ⟨a0, len, cap, rfl⟩ := okWide_slice ht hv
  obtain ⟨fuel, hf⟩ := h
  rcases open_ints ht he hc1 hf with ⟨hcs, hx⟩ | ⟨ad, len', cap', zs, hcs, _, hl, hm, hz, hx, hcell, hwz⟩
  · simp [Value.cells] at hcs
    obtain ⟨rfl, rfl, rfl⟩ := hcs
    exact ⟨none, 0, [], rfl, fun i hi => by simp at hi, fun b hb => by simp at hb, by simp [maxLen], by simp⟩
  · simp [Value.cells] at hcs
    obtain ⟨rfl, rfl, rfl⟩ := hcs
    have hzl : len ≤ zs.length := by rw [hz]; split <;> omega
    obtain ⟨b, off, spot⟩ := ad
    refine ⟨some ⟨b, off, spot⟩, cap, zs.take len, by simp [Nat.min_eq_left hzl], fun i hi => ?_, fun x hx => hwz x (List.mem_of_mem_take hx), by simp; omega, by simp; omega⟩
    have hil : i < len := by simpa [Nat.min_eq_left hzl] using hi
    have hc := hcell i (by omega)
    have hspot : spot = none := by
      have := World.cell?_spot (hcell 0 (by omega))
      simpa [Addr.add] using this
    subst hspot
    have hadd : (⟨b, off, none⟩ : Addr).add i = ⟨b, off + i, none⟩ := by unfold Addr.add; split <;> simp_all
    rw [hadd] at hc
    refine ⟨b, off, rfl, ?_, cell_lt hc⟩
    rw [hc, List.getElem?_take_of_lt hil, List.getD_eq_getElem?_getD]
end Go.Proofs.YtcagljjbiodcoaaDoor
