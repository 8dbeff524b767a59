/- Slices that read as bytes; bytes as strings. -/
import Derived.Test.YtcagljjbiodcoaaDoorChecked
import Derived.Test.YtcagljjbiodcoaaDoorPut
import Derived.WalkKit
import Derived.ProofKit
import Derived.BigQuiet
import Derived.Handy
import Derived.Laws.BytesArg
namespace Go.Proofs.YtcagljjbiodcoaaDoor
set_option linter.unusedVariables false
open Go.RowKit

/-- A slice at a reads as the bytes l. -/
structure Byt (w : World) (a : Option Addr) (l : List Nat) : Prop where
  at_ : ∀ i, i < l.length → ∃ g o, a = some ⟨g, o, none⟩ ∧ w.cell? ⟨g, o + i, none⟩ = some (.int .u8 ((l[i]?.getD 0 : Nat) : Int)) ∧ g < w.heap.size
  byte : ∀ b ∈ l, b < 256
  len : l.length ≤ 1099511627776
theorem Byt.fr {w w' : World} {a : Option Addr} {l : List Nat} {S : List Nat} (h : Byt w a l) (hf : Fr S w w') (hS : ∀ g o, a = some ⟨g, o, none⟩ → g ∉ S) : Byt w' a l :=
  ⟨fun i hi => by
    obtain ⟨g, o, e, hc, hg⟩ := h.at_ i hi
    exact ⟨g, o, e, (hf.cell (p := ⟨g, o + i, none⟩) hg (hS g o e)).trans hc, Nat.lt_of_lt_of_le hg hf.size⟩, h.byte, h.len⟩
theorem Blk.byt {w : World} {g : Nat} {l : List Nat} (h : Blk w g 5 (bytes l)) (hb : ∀ b ∈ l, b < 256) (hl : l.length ≤ 1099511627776) : Byt w (some ⟨g, 0, none⟩) l :=
  ⟨fun i hi => ⟨g, 0, rfl, by rw [Nat.zero_add, h.cell, bytes_get l i hi], h.lt⟩, hb, hl⟩
theorem info_u8 : (Tryd.prog.info? 5).map (fun i => (i.zero, i.size, i.bytes)) = some (some (.int .u8 0), 1, 1) := by kernel_rfl
/-- Bytes as a string. -/
def strOf (l : List Nat) : ByteArray := ⟨(l.map UInt8.ofNat).toArray⟩
theorem strOf_list (l : List Nat) : (strOf l).toList = l.map UInt8.ofNat := by
  rw [ByteArray.toList_eq]; simp [strOf]
theorem strOf_eq (l m : List Nat) (hl : ∀ b ∈ l, b < 256) (hm : ∀ b ∈ m, b < 256) : ((strOf l).toList == (strOf m).toList) = (l == m) := by
  rw [strOf_list, strOf_list, Bool.eq_iff_iff, beq_iff_eq, beq_iff_eq]
  constructor
  · intro h
    have := congrArg (List.map UInt8.toNat) h
    rw [List.map_map, List.map_map] at this
    rw [List.map_congr_left (g := id) (fun b hb => by simp [Nat.mod_eq_of_lt (hl b hb)]), List.map_congr_left (l := m) (g := id) (fun b hb => by simp [Nat.mod_eq_of_lt (hm b hb)])] at this
    simpa using this
  · rintro rfl; rfl
theorem conv_str (w : World) (a : Option Addr) (c : Nat) (l : List Nat) (h : Byt w a l) :
    (convert 63 9 (.slice a l.length c)).run Tryd.prog w = .ok (.string (strOf l)) w := by
  have e : strOf l = strOfNums (l.map fun k : Nat => (k : Int)) := by
    unfold strOf strOfNums
    rw [List.map_map]
    rfl
  rcases l with _ | ⟨x, l⟩
  · rcases a with _ | ⟨g, o, pp⟩
    · exact run_convert_bytes_nil w _ _ Tryd.underlying63 Tryd.underlying5 _ _ _ Tryd.underlying9
    · show (convert 63 9 (.slice (some ⟨g, o, pp⟩) 0 c)).run Tryd.prog w = _
      rw [run_convert_bytes_string w _ _ 5 _ 0 c Tryd.underlying63 Tryd.underlying5 Tryd.underlying9]
      simp [Conv.bytesToString, loadCells]
      rfl
  · obtain ⟨g, o, rfl, hc, hg⟩ := h.at_ 0 (by simp)
    rw [e]
    refine run_convert_bytes_arg w _ _ Tryd.underlying63 Tryd.underlying5 g o _ c _ (by simp) (fun i hi => ?_) _ Tryd.underlying9
    obtain ⟨g', o', e', hc', _⟩ := h.at_ i hi
    injection e' with e'
    injection e' with e1 e2
    subst e1; subst e2
    rw [hc']
    have : ((x :: l).map fun k : Nat => (k : Int)).getD i 0 = (((x :: l)[i]?.getD 0 : Nat) : Int) := by
      rw [List.getD_eq_getElem?_getD, List.getElem?_map]
      rcases (x :: l)[i]? with _ | y <;> rfl
    rw [this]
end Go.Proofs.YtcagljjbiodcoaaDoor
