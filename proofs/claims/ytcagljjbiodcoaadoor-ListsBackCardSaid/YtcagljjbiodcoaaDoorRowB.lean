/- A row of bytes in memory, maybe with room behind it; an arena (a struct whose one field is such a slice). Generic but for the numbers of types. -/
import Derived.Test.YtcagljjbiodcoaaDoorBase
import Derived.Test.YtcagljjbiodcoaaDoorBytes
namespace Go.Proofs.YtcagljjbiodcoaaDoor
set_option linter.unusedVariables false
open Go.RowKit

/-- Block g begins with the bytes l; it has room for cap. -/
def RowB (w : World) (g cap : Nat) (l : List Nat) : Prop :=
  ∃ cur : Array Value, Blk w g 5 cur ∧ cur.size = cap ∧ l.length ≤ cap ∧ ∀ i, i < l.length → cur[i]? = some (.int .u8 ((l[i]?.getD 0 : Nat) : Int))
section
variable {w w' : World} {g cap : Nat} {l : List Nat}
theorem RowB.of (h : Blk w g 5 (bytes l)) : RowB w g l.length l := ⟨_, h, bytes_size l, Nat.le_refl _, fun i hi => bytes_get l i hi⟩
theorem RowB.cell (h : RowB w g cap l) (i : Nat) (hi : i < l.length) : w.cell? ⟨g, i, none⟩ = some (.int .u8 ((l[i]?.getD 0 : Nat) : Int)) := by
  obtain ⟨cur, hb, _, _, hc⟩ := h
  rw [hb.cell, hc i hi]
theorem RowB.frozen (h : RowB w g cap l) (i : Nat) : w.frozen? ⟨g, i, none⟩ = false := by
  obtain ⟨cur, hb, _⟩ := h
  exact hb.frozen i
theorem RowB.le (h : RowB w g cap l) : l.length ≤ cap := by
  obtain ⟨cur, _, _, hc, _⟩ := h
  exact hc
theorem RowB.lt (h : RowB w g cap l) : g < w.heap.size := by
  obtain ⟨cur, hb, _⟩ := h
  exact hb.lt
theorem RowB.fr {S : List Nat} (h : RowB w g cap l) (hf : Fr S w w') (hg : g ∉ S) : RowB w' g cap l := by
  obtain ⟨cur, hb, hc⟩ := h
  exact ⟨cur, hb.fr hf hg, hc⟩
theorem RowB.drew (h : RowB w g cap l) : RowB w.drew g cap l := h
theorem RowB.alloc (h : RowB w g cap l) (o : Obj) : RowB (w.alloc o) g cap l := by
  obtain ⟨cur, hb, hc⟩ := h
  exact ⟨cur, hb.alloc o, hc⟩
theorem RowB.far (h : RowB w g cap l) {p : Addr} (hp : g ≠ p.block) (u : Value) : RowB (w.setCell p u) g cap l := by
  obtain ⟨cur, hb, hc⟩ := h
  exact ⟨cur, hb.far hp u, hc⟩
theorem RowB.set (h : RowB w g cap l) (i k : Nat) (hi : i < l.length) : RowB (w.setCell ⟨g, i, none⟩ (.int .u8 (k : Int))) g cap (l.set i k) := by
  obtain ⟨cur, hb, hs, hl, hc⟩ := h
  refine ⟨_, hb.set i _, by rw [Array.size_setIfInBounds, hs], by rw [List.length_set]; exact hl, fun j hj => ?_⟩
  rw [List.length_set] at hj
  rw [Array.getElem?_setIfInBounds, List.getElem?_set]
  by_cases e : i = j
  · subst e
    rw [if_pos rfl, if_pos rfl, if_pos (by omega), if_pos hi]; rfl
  · rw [if_neg e, if_neg e]; exact hc j hj
theorem RowB.byt (h : RowB w g cap l) (hb : ∀ b ∈ l, b < 256) (hl : l.length ≤ 1099511627776) : Byt w (some ⟨g, 0, none⟩) l :=
  ⟨fun i hi => ⟨g, 0, rfl, by rw [Nat.zero_add]; exact h.cell i hi, h.lt⟩, hb, hl⟩
end

/-- An arena that somebody made: its struct in block p, its bytes in block g. -/
structure IsA (w : World) (p g cap : Nat) (l : List Nat) : Prop where
  st : Blk w p 131 #[.slice (some ⟨g, 0, none⟩) l.length cap]
  row : RowB w g cap l
  byte : ∀ b ∈ l, b < 256
  len : l.length ≤ 1048576
theorem IsA.ne {w : World} {p g cap : Nat} {l : List Nat} (h : IsA w p g cap l) : p ≠ g := by
  obtain ⟨cur, hb, _⟩ := h.row
  exact h.st.ne_ hb (by decide)
theorem IsA.fr {w w' : World} {p g cap : Nat} {l : List Nat} {S : List Nat} (h : IsA w p g cap l) (hf : Fr S w w') (hp : p ∉ S) (hg : g ∉ S) : IsA w' p g cap l :=
  ⟨h.st.fr hf hp, h.row.fr hf hg, h.byte, h.len⟩
theorem IsA.set {w : World} {p g cap : Nat} {l : List Nat} (h : IsA w p g cap l) (i k : Nat) (hi : i < l.length) (hk : k < 256) : IsA (w.setCell ⟨g, i, none⟩ (.int .u8 (k : Int))) p g cap (l.set i k) := by
  refine ⟨?_, h.row.set i k hi, fun x hx => (List.mem_or_eq_of_mem_set hx).elim (h.byte x) (fun e => e ▸ hk), by rw [List.length_set]; exact h.len⟩
  rw [List.length_set]
  exact h.st.far (p := ⟨g, i, none⟩) h.ne _
theorem IsA.byt {w : World} {p g cap : Nat} {l : List Nat} (h : IsA w p g cap l) : Byt w (some ⟨g, 0, none⟩) l := h.row.byt h.byte (by have := h.len; omega)
end Go.Proofs.YtcagljjbiodcoaaDoor
