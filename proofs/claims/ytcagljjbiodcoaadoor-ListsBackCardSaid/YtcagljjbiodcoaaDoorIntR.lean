/- Rows of numbers: of its own (a slice), by a function (a block). -/
import Derived.Test.YtcagljjbiodcoaaDoorBase
import Derived.Test.YtcagljjbiodcoaaDoorProg
import Derived.RangeFuncBox
import Derived.Deep.OwnRows
namespace Go.Proofs.YtcagljjbiodcoaaDoor
set_option linter.unusedVariables false
open Go.RowKit

def intC (l : List Nat) : List Value := l.map fun k : Nat => Value.int .i64 (k : Int)
/-- A block begins with these numbers. -/
def RowI (w : World) (g cap : Nat) (l : List Nat) : Prop := ∃ cur, Blk w g 3 cur ∧ cur.size = cap ∧ l.length ≤ cap ∧ cur.toList.take l.length = intC l
section
variable {w w' : World} {g cap : Nat} {l : List Nat} {S : List Nat}
theorem RowI.fr (h : RowI w g cap l) (hf : Fr S w w') (hg : g ∉ S) : RowI w' g cap l := by
  obtain ⟨cur, hb, h1, h2, h3⟩ := h
  exact ⟨cur, hb.fr hf hg, h1, h2, h3⟩
theorem RowI.drew (h : RowI w g cap l) : RowI w.drew g cap l := h.fr (S := []) (Fr.refl _ _).drew (by simp)
theorem RowI.drewN (h : RowI w g cap l) (n : Nat) : RowI (w.drewN n) g cap l := h.fr (S := []) ((Fr.refl _ _).drewN n) (by simp)
theorem RowI.lt (h : RowI w g cap l) : g < w.heap.size := by
  obtain ⟨cur, hb, _⟩ := h
  exact hb.lt
theorem RowI.le (h : RowI w g cap l) : l.length ≤ cap := by
  obtain ⟨cur, hb, h1, h2, _⟩ := h
  exact h2
theorem RowI.cell (h : RowI w g cap l) (j : Nat) (hj : j < l.length) : w.cell? ⟨g, j, none⟩ = some (.int .i64 (l[j] : Int)) := by
  obtain ⟨cur, hb, h1, h2, h3⟩ := h
  rw [hb.cell, ← Array.getElem?_toList]
  have e : (cur.toList.take l.length)[j]? = (intC l)[j]? := by rw [h3]
  rw [List.getElem?_take_of_lt hj] at e
  rw [e]
  simp [intC, hj]
theorem own_int {base : Nat} {v : Value} (h : w.ownsRow base 3 1 v l.length (intC l)) : (l = [] ∧ v = .slice none 0 0) ∨ ∃ g cap, v = .slice (some ⟨g, 0, none⟩) l.length cap ∧ base ≤ g ∧ RowI w g cap l := by
  obtain ⟨h1, ⟨h2, h3⟩ | ⟨g, cap, cur, rfl, hb, hg, r1, r2, r3, r4⟩⟩ := h
  · exact .inl ⟨List.length_eq_zero_iff.1 h3, h2⟩
  · rw [Nat.mul_one] at r3 r4
    exact .inr ⟨g, cap, rfl, hb, cur, hg, r3, r1, r4⟩
end
/-- A slice's numbers lie in a block of its own, from base on. -/
def RowV (w : World) (base : Nat) (ad : Option Addr) (cap : Nat) (l : List Nat) : Prop := 0 < l.length → ∃ g, ad = some ⟨g, 0, none⟩ ∧ base ≤ g ∧ RowI w g cap l
theorem own_row {w : World} {l : List Nat} {base : Nat} {v : Value} (h : w.ownsRow base 3 1 v l.length (intC l)) : ∃ ad cap, v = .slice ad l.length cap ∧ RowV w base ad cap l := by
  rcases own_int h with ⟨rfl, rfl⟩ | ⟨g, cap, rfl, hb, hr⟩
  · exact ⟨none, 0, rfl, fun h => absurd h (by simp)⟩
  · exact ⟨_, cap, rfl, fun _ => ⟨g, rfl, hb, hr⟩⟩
theorem RowV.fr {w w' : World} {base cap : Nat} {ad : Option Addr} {l : List Nat} {S : List Nat} (h : RowV w base ad cap l) (hf : Fr S w w') (hS : ∀ k ∈ S, k < base) : RowV w' base ad cap l := fun h0 => by
  obtain ⟨g, e, hb, hr⟩ := h h0
  exact ⟨g, e, hb, hr.fr hf (fun hm => by have := hS _ hm; omega)⟩
/-- A block of n numbers, told by a function. -/
def intsF (n : Nat) (f : Nat → Int) : Array Value := ((List.range n).map fun i => Value.int .i64 (f i)).toArray
theorem intsF_size (n : Nat) (f : Nat → Int) : (intsF n f).size = n := by simp [intsF]
theorem intsF_get (n : Nat) (f : Nat → Int) (i : Nat) (h : i < n) : (intsF n f)[i]? = some (.int .i64 (f i)) := by simp [intsF, h]
theorem intsF_congr {n : Nat} {f k : Nat → Int} (h : ∀ i, i < n → f i = k i) : intsF n f = intsF n k := by
  unfold intsF
  congr 1
  exact List.map_congr_left fun i hi => by rw [h i (List.mem_range.1 hi)]
theorem intsF_set (n : Nat) (f k : Nat → Int) (i : Nat) (v : Int) (h : ∀ j, j < n → k j = if j = i then v else f j) : (intsF n f).setIfInBounds i (.int .i64 v) = intsF n k := by
  apply Array.ext
  · simp [intsF]
  · intro j h1 h2
    have hj : j < n := by rw [intsF_size] at h2; exact h2
    rw [Array.getElem_setIfInBounds (by rw [intsF_size]; exact hj)]
    simp only [intsF, List.getElem_toArray, List.getElem_map, List.getElem_range]
    rw [h j hj]
    by_cases e : i = j
    · rw [if_pos e, if_pos e.symm]
    · rw [if_neg e, if_neg (fun k => e k.symm)]
theorem Blk.setF {w : World} {g n : Nat} {t : TypeId} {f : Nat → Int} (h : Blk w g t (intsF n f)) (k : Nat → Int) (i : Nat) (v : Int) (hk : ∀ j, j < n → k j = if j = i then v else f j) : Blk (w.setCell ⟨g, i, none⟩ (.int .i64 v)) g t (intsF n k) := by
  have := h.set i (.int .i64 v)
  rw [intsF_set n f k i v hk] at this
  exact this
theorem Blk.cellF {w : World} {g n : Nat} {t : TypeId} {f : Nat → Int} (h : Blk w g t (intsF n f)) (i : Nat) (hi : i < n) : w.cell? ⟨g, i, none⟩ = some (.int .i64 (f i)) := (h.cell i).trans (intsF_get n f i hi)
theorem madeCells_F (n : Nat) : madeCells #[.int .i64 0] n = intsF n (fun _ => 0) := by
  apply Array.ext
  · simp [madeCells, intsF]
  · intro i h1 h2
    simp [madeCells, intsF, Nat.mod_one]
/-- make([]int, n) at whatever world. -/
theorem run_make_F {P : Program} (t e : TypeId) (ht : P.underlying t = some (.slice e)) (hinfo : (P.info? e).map (fun i => (i.zero, i.size, i.bytes)) = some (some (.int .i64 0), 1, 8))
    (kl kc : IntKind) (n : Nat) (h : n ≤ 1048576) (w : World) :
    (Instr.makeSlice t (.int kl (n : Int)) (.int kc (n : Int))).run P w = .ok (.slice (some ⟨w.heap.size, 0, none⟩) n n) (w.alloc (.cells (intsF n (fun _ => 0)) e)) := by
  rw [← madeCells_F]
  exact run_make_row' t e (.int .i64 0) 8 ht hinfo rfl kl kc n (by omega) (by omega) w
theorem info_int : (Tryd.prog.info? 3).map (fun i => (i.zero, i.size, i.bytes)) = some (some (.int .i64 0), 1, 8) := by kernel_rfl
theorem intsF_zero (n : Nat) : Array.replicate n (Value.int .i64 0) = intsF n (fun _ => 0) := by
  apply Array.ext
  · simp [intsF]
  · intro j h1 h2
    simp [intsF]
end Go.Proofs.YtcagljjbiodcoaaDoor
