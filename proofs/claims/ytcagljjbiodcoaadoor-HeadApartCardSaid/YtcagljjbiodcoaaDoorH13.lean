/- Where fields of heads lie: the tables as the program's variables lay them, and the walks of place, Where and Size (head and its document's answer). -/
import Derived.Test.YtcagljjbiodcoaaDoorChecked
import Derived.Test.YtcagljjbiodcoaaDoorBase
import Derived.WalkKit
import Derived.ProofKit
import Derived.BigQuiet
import Derived.Handy
namespace Go.Proofs.YtcagljjbiodcoaaDoor
set_option linter.unusedVariables false
open Go.RowKit

def commonL : List (Nat × Nat) := [(0, 1), (1, 1), (2, 1), (3, 1), (4, 4)]
def ownL : List (Nat × Nat) := [(8, 4), (12, 4), (16, 8), (24, 2), (26, 2), (28, 4)]
/-- Where a field lies, and how wide it is. -/
def wh (tag f : Nat) : Nat × Nat :=
  if f < 5 then commonL[f]?.getD (0, 0) else if tag = 1 then ownL[f - 5]?.getD (0, 0) else if tag = 2 ∧ f = 11 then (8, 4) else if tag = 2 ∧ f = 10 then (12, 4) else (0, 0)
def whZ (tag f : Int) : Nat × Nat := if 0 ≤ tag ∧ tag ≤ 2 ∧ 0 ≤ f ∧ f ≤ 11 then wh tag.toNat f.toNat else (0, 0)
def sz (tag : Nat) : Nat := [8, 32, 16][tag]?.getD 0
def szZ (tag : Int) : Nat := if 0 ≤ tag ∧ tag ≤ 2 then sz tag.toNat else 0

def intsA (l : List Int) : Array Value := (l.map (Value.int .i64)).toArray
def nowT : Array Value := intsA [0, 0]
def sizT : Array Value := intsA [8, 32, 16]
def comT : Array Value := intsA [0, 1, 1, 1, 2, 1, 3, 1, 4, 4]
def ownT : Array Value := intsA [8, 4, 12, 4, 16, 8, 24, 2, 26, 2, 28, 4]

/-- head's variables hold what the program's text lays. -/
structure Tabs (w : World) : Prop where
  now : ∀ i, w.cell? ⟨1, i, none⟩ = nowT[i]?
  siz : ∀ i, w.cell? ⟨4, i, none⟩ = sizT[i]?
  com : ∀ i, w.cell? ⟨2, i, none⟩ = comT[i]?
  own : ∀ i, w.cell? ⟨3, i, none⟩ = ownT[i]?
  size : 5 ≤ w.heap.size
theorem Tabs.of {w w' : World} (h : Tabs w) (hs : w.heap.size ≤ w'.heap.size) (hc : ∀ p : Addr, p.block < 5 → w'.cell? p = w.cell? p) : Tabs w' :=
  ⟨fun i => (hc ⟨1, i, none⟩ (by simp)).trans (h.now i), fun i => (hc ⟨4, i, none⟩ (by simp)).trans (h.siz i), fun i => (hc ⟨2, i, none⟩ (by simp)).trans (h.com i), fun i => (hc ⟨3, i, none⟩ (by simp)).trans (h.own i), Nat.le_trans h.size hs⟩
theorem Tabs.below {w w' : World} {B : Nat} (h : Tabs w) (hb : Below B w w') (hB : 5 ≤ B) : Tabs w' :=
  h.of hb.size fun p hp => hb.cell (by omega)
theorem Tabs.fr {w w' : World} {S : List Nat} (h : Tabs w) (hf : Fr S w w') (hS : ∀ k ∈ S, 5 ≤ k) : Tabs w' :=
  h.of hf.size fun p hp => hf.cell (by have := h.size; omega) (fun hm => by have := hS _ hm; omega)

theorem Tabs.alloc {w : World} (h : Tabs w) (o : Obj) : Tabs (w.alloc o) := h.fr ((Fr.refl [] w).alloc o) (by simp)

theorem is_any (w : World) (tag : Int) : Calls Tryd.prog 61 #[.int .i64 tag] w fun e w' => e = .returned (.bool (decide (0 ≤ tag) && decide (tag < 3))) ∧ w' = w := by
  by_cases h0 : 0 ≤ tag
  · have h1 : decide (0 ≤ tag) = true := by simpa using h0
    rw [h1, Bool.true_and]
    go_enter Tryd.func61, Tryd.ntmps61
    go_wp2
    go_ret
    exact ⟨rfl, rfl⟩
  · have h1 : decide (0 ≤ tag) = false := by simpa using h0
    rw [h1, Bool.false_and]
    go_enter Tryd.func61, Tryd.ntmps61
    go_wp2
    go_ret
    exact ⟨rfl, rfl⟩

theorem size_no (w : World) (tag : Int) (h : tag < 0 ∨ 2 < tag) : Calls Tryd.prog 65 #[.int .i64 tag] w fun e w' => e = .returned (.int .i64 0) ∧ w' = w := by
  have h1 : (decide (0 ≤ tag) && decide (tag < 3)) = false := by simp; omega
  have hi := is_any w tag
  rw [h1] at hi
  go_enter Tryd.func65, Tryd.ntmps65
  go_wp2_with (go_at_call 61; refine hi.mono ?_; rintro e w' ⟨rfl, rfl⟩)
  go_ret
  exact ⟨rfl, rfl⟩
theorem size_yes (w : World) (hT : Tabs w) (tag : Nat) (h : tag < 3) : Calls Tryd.prog 65 #[.int .i64 tag] w fun e w' => e = .returned (.int .i64 (sz tag)) ∧ w' = w := by
  have h1 : (decide (0 ≤ (tag : Int)) && decide ((tag : Int) < 3)) = true := by simp; omega
  have hi := is_any w tag
  rw [h1] at hi
  have hc : w.cell? ⟨4, tag, none⟩ = some (.int .i64 (sz tag)) := by
    rw [hT.siz]; rcases tag with _ | _ | _ | t <;> first | rfl | omega
  have h2 : (0 : Int) ≤ tag := by omega
  have h3 : (tag : Int) < 3 := by omega
  go_enter Tryd.func65, Tryd.ntmps65
  go_wp2_with (go_at_call 61; refine hi.mono ?_; rintro e w' ⟨rfl, rfl⟩)
  go_ret
  exact ⟨rfl, rfl⟩
theorem size_any (w : World) (hT : Tabs w) (tag : Int) : Calls Tryd.prog 65 #[.int .i64 tag] w fun e w' => e = .returned (.int .i64 (szZ tag)) ∧ w' = w := by
  unfold szZ
  by_cases h : 0 ≤ tag ∧ tag ≤ 2
  · rw [if_pos h]
    obtain ⟨t, rfl⟩ : ∃ t : Nat, tag = t := ⟨tag.toNat, by omega⟩
    exact size_yes w hT t (by omega)
  · rw [if_neg h]
    exact size_no w tag (by omega)

theorem wh_common (tag f : Nat) (h : f < 5) : comT[f * 2]? = some (.int .i64 (wh tag f).1) ∧ comT[f * 2 + 1]? = some (.int .i64 (wh tag f).2) := by
  rcases f with _ | _ | _ | _ | _ | f <;> first | exact ⟨rfl, rfl⟩ | omega
theorem wh_own (k : Nat) (h : k < 6) : ownT[k * 2]? = some (.int .i64 (wh 1 (k + 5)).1) ∧ ownT[k * 2 + 1]? = some (.int .i64 (wh 1 (k + 5)).2) := by
  rcases k with _ | _ | _ | _ | _ | _ | f <;> first | exact ⟨rfl, rfl⟩ | omega
def rowV (x : Nat × Nat) : Value := .agg #[.int .i64 x.1, .int .i64 x.2]


theorem place_no (w : World) (hT : Tabs w) (tag f : Int) (h : ¬ (0 ≤ tag ∧ tag ≤ 2 ∧ 0 ≤ f ∧ f ≤ 11)) :
    Calls Tryd.prog 59 #[.int .i64 tag, .int .i64 f] w fun e w' => e = .returned (rowV (0, 0)) ∧ Fr [] w w' := by
  have hi := fun w => is_any w tag
  have n0 : ∀ o, (w.alloc o).cell? ⟨1, 0, none⟩ = some (.int .i64 0) := fun o => (hT.alloc o).now 0
  have n1 : ∀ o, (w.alloc o).cell? ⟨1, 1, none⟩ = some (.int .i64 0) := fun o => (hT.alloc o).now 1
  have hs := hT.size
  by_cases h0 : 0 ≤ tag ∧ tag ≤ 2
  · have h1 : (decide (0 ≤ tag) && decide (tag < 3)) = true := by simp; omega
    rw [h1] at hi
    by_cases h2 : f < 0
    · have h3 : decide (f < 0) = true := by simpa using h2
      go_enter Tryd.func59, Tryd.ntmps59
      go_wp2_with (go_at_call 61; refine (hi _).mono ?_; rintro e w' ⟨rfl, rfl⟩)
      go_returns
      exact ⟨rfl, by repeat (first | exact Fr.refl _ _ | apply Fr.alloc | apply Fr.drew | apply Fr.drewN | (refine Fr.setCell ?_ (Or.inr (by simp)) _))⟩
    · have h3 : decide (f < 0) = false := by simpa using h2
      have h4 : decide (12 ≤ f) = true := by simp; omega
      go_enter Tryd.func59, Tryd.ntmps59
      go_wp2_with (go_at_call 61; refine (hi _).mono ?_; rintro e w' ⟨rfl, rfl⟩)
      go_returns
      exact ⟨rfl, by repeat (first | exact Fr.refl _ _ | apply Fr.alloc | apply Fr.drew | apply Fr.drewN | (refine Fr.setCell ?_ (Or.inr (by simp)) _))⟩
  · have h1 : (decide (0 ≤ tag) && decide (tag < 3)) = false := by simp; omega
    rw [h1] at hi
    go_enter Tryd.func59, Tryd.ntmps59
    go_wp2_with (go_at_call 61; refine (hi _).mono ?_; rintro e w' ⟨rfl, rfl⟩)
    go_returns
    exact ⟨rfl, by repeat (first | exact Fr.refl _ _ | apply Fr.alloc | apply Fr.drew | apply Fr.drewN | (refine Fr.setCell ?_ (Or.inr (by simp)) _))⟩

theorem place_com (w : World) (hT : Tabs w) (tag f : Nat) (ht : tag ≤ 2) (hf : f < 5) :
    Calls Tryd.prog 59 #[.int .i64 tag, .int .i64 f] w fun e w' => e = .returned (rowV (wh tag f)) ∧ Fr [] w w' := by
  have hi := fun w => is_any w tag
  have h1 : (decide (0 ≤ (tag : Int)) && decide ((tag : Int) < 3)) = true := by simp; omega
  rw [h1] at hi
  have n0 : ∀ o, (w.alloc o).cell? ⟨2, f * 2, none⟩ = some (.int .i64 (wh tag f).1) := fun o => ((hT.alloc o).com _).trans (wh_common tag f hf).1
  have n1 : ∀ o, (w.alloc o).cell? ⟨2, f * 2 + 1, none⟩ = some (.int .i64 (wh tag f).2) := fun o => ((hT.alloc o).com _).trans (wh_common tag f hf).2
  have h2 : (0 : Int) ≤ f := by omega
  have h3 : decide (12 ≤ (f : Int)) = false := by simp; omega
  have h4 : (f : Int) < 5 := by omega
  go_enter Tryd.func59, Tryd.ntmps59
  go_wp2_with (go_at_call 61; refine (hi _).mono ?_; rintro e w' ⟨rfl, rfl⟩)
  go_returns
  exact ⟨rfl, by repeat (first | exact Fr.refl _ _ | apply Fr.alloc | apply Fr.drew | apply Fr.drewN | (refine Fr.setCell ?_ (Or.inr (by simp)) _))⟩

theorem place_own (w : World) (hT : Tabs w) (k : Nat) (hk : k < 6) :
    Calls Tryd.prog 59 #[.int .i64 1, .int .i64 ((k : Int) + 5)] w fun e w' => e = .returned (rowV (wh 1 (k + 5))) ∧ Fr [] w w' := by
  have hi := fun w => is_any w 1
  rw [show (decide (0 ≤ (1 : Int)) && decide ((1 : Int) < 3)) = true from rfl] at hi
  have n0 : ∀ o, (w.alloc o).cell? ⟨3, k * 2, none⟩ = some (.int .i64 (wh 1 (k + 5)).1) := fun o => ((hT.alloc o).own _).trans (wh_own k hk).1
  have n1 : ∀ o, (w.alloc o).cell? ⟨3, k * 2 + 1, none⟩ = some (.int .i64 (wh 1 (k + 5)).2) := fun o => ((hT.alloc o).own _).trans (wh_own k hk).2
  have h0 : (0 : Int) ≤ k := by omega
  have h4 : (k : Int) < 6 := by omega
  obtain ⟨f, hf⟩ : ∃ f : Int, f = k + 5 := ⟨_, rfl⟩
  rw [← hf]
  have h2 : decide (f < 0) = false := by simp; omega
  have h3 : decide (12 ≤ f) = false := by simp; omega
  have h5 : decide (f < 5) = false := by simp; omega
  have h6 : IntKind.i64.wrap (f - 5) = k := (IntWalk.i64_in _ (by omega)).trans (by omega)
  go_enter Tryd.func59, Tryd.ntmps59
  go_wp2_with (go_at_call 61; refine (hi _).mono ?_; rintro e w' ⟨rfl, rfl⟩)
  go_returns
  exact ⟨rfl, by repeat (first | exact Fr.refl _ _ | apply Fr.alloc | apply Fr.drew | apply Fr.drewN | (refine Fr.setCell ?_ (Or.inr (by simp)) _))⟩

theorem place_refs (w : World) : Calls Tryd.prog 59 #[.int .i64 2, .int .i64 11] w fun e w' => e = .returned (rowV (8, 4)) ∧ Fr [] w w' := by
  have hi := fun w => is_any w 2
  rw [show (decide (0 ≤ (2 : Int)) && decide ((2 : Int) < 3)) = true from rfl] at hi
  go_enter Tryd.func59, Tryd.ntmps59
  go_wp2_with (go_at_call 61; refine (hi _).mono ?_; rintro e w' ⟨rfl, rfl⟩)
  go_returns
  exact ⟨rfl, by repeat (first | exact Fr.refl _ _ | apply Fr.alloc | apply Fr.drew | apply Fr.drewN | (refine Fr.setCell ?_ (Or.inr (by simp)) _))⟩

theorem place_hash (w : World) : Calls Tryd.prog 59 #[.int .i64 2, .int .i64 10] w fun e w' => e = .returned (rowV (12, 4)) ∧ Fr [] w w' := by
  have hi := fun w => is_any w 2
  rw [show (decide (0 ≤ (2 : Int)) && decide ((2 : Int) < 3)) = true from rfl] at hi
  go_enter Tryd.func59, Tryd.ntmps59
  go_wp2_with (go_at_call 61; refine (hi _).mono ?_; rintro e w' ⟨rfl, rfl⟩)
  go_returns
  exact ⟨rfl, by repeat (first | exact Fr.refl _ _ | apply Fr.alloc | apply Fr.drew | apply Fr.drewN | (refine Fr.setCell ?_ (Or.inr (by simp)) _))⟩

theorem place_off (w : World) (hT : Tabs w) (tag f : Int) (h : 5 ≤ f ∧ f ≤ 11 ∧ (tag = 0 ∨ tag = 1 ∧ f = 11 ∨ tag = 2 ∧ f ≤ 9)) :
    Calls Tryd.prog 59 #[.int .i64 tag, .int .i64 f] w fun e w' => e = .returned (rowV (0, 0)) ∧ Fr [] w w' := by
  have hi := fun w => is_any w tag
  have n0 : ∀ o, (w.alloc o).cell? ⟨1, 0, none⟩ = some (.int .i64 0) := fun o => (hT.alloc o).now 0
  have n1 : ∀ o, (w.alloc o).cell? ⟨1, 1, none⟩ = some (.int .i64 0) := fun o => (hT.alloc o).now 1
  have h1 : (decide (0 ≤ tag) && decide (tag < 3)) = true := by simp; omega
  rw [h1] at hi
  have h2 : decide (f < 0) = false := by simp; omega
  have h3 : decide (12 ≤ f) = false := by simp; omega
  have h5 : decide (f < 5) = false := by simp; omega
  obtain ⟨hf1, hf2, h⟩ := h
  rcases h with rfl | ⟨rfl, rfl⟩ | ⟨rfl, h⟩
  · go_enter Tryd.func59, Tryd.ntmps59
    go_wp2_with (go_at_call 61; refine (hi _).mono ?_; rintro e w' ⟨rfl, rfl⟩)
    go_returns
    exact ⟨rfl, by repeat (first | exact Fr.refl _ _ | apply Fr.alloc | apply Fr.drew | apply Fr.drewN | (refine Fr.setCell ?_ (Or.inr (by simp)) _))⟩
  · go_enter Tryd.func59, Tryd.ntmps59
    go_wp2_with (go_at_call 61; refine (hi _).mono ?_; rintro e w' ⟨rfl, rfl⟩)
    go_returns
    exact ⟨rfl, by repeat (first | exact Fr.refl _ _ | apply Fr.alloc | apply Fr.drew | apply Fr.drewN | (refine Fr.setCell ?_ (Or.inr (by simp)) _))⟩
  · have h7 : (f == 11) = false := by simp; omega
    have h8 : (f == 10) = false := by simp; omega
    go_enter Tryd.func59, Tryd.ntmps59
    go_wp2_with (go_at_call 61; refine (hi _).mono ?_; rintro e w' ⟨rfl, rfl⟩)
    go_returns
    exact ⟨rfl, by repeat (first | exact Fr.refl _ _ | apply Fr.alloc | apply Fr.drew | apply Fr.drewN | (refine Fr.setCell ?_ (Or.inr (by simp)) _))⟩

theorem place_any (w : World) (hT : Tabs w) (tag f : Int) :
    Calls Tryd.prog 59 #[.int .i64 tag, .int .i64 f] w fun e w' => e = .returned (rowV (whZ tag f)) ∧ Fr [] w w' := by
  unfold whZ
  by_cases h : 0 ≤ tag ∧ tag ≤ 2 ∧ 0 ≤ f ∧ f ≤ 11
  · rw [if_pos h]
    obtain ⟨t, rfl⟩ : ∃ t : Nat, tag = t := ⟨tag.toNat, by omega⟩
    obtain ⟨k, rfl⟩ : ∃ k : Nat, f = k := ⟨f.toNat, by omega⟩
    rw [Int.toNat_natCast, Int.toNat_natCast]
    by_cases h5 : k < 5
    · exact place_com w hT t k (by omega) h5
    · by_cases h1 : t = 1 ∧ k ≤ 10
      · obtain ⟨rfl, h1⟩ := h1
        obtain ⟨j, rfl⟩ : ∃ j, k = j + 5 := ⟨k - 5, by omega⟩
        exact place_own w hT j (by omega)
      · by_cases h2 : t = 2 ∧ 10 ≤ k
        · obtain ⟨rfl, h2⟩ := h2
          have : k = 10 ∨ k = 11 := by omega
          rcases this with rfl | rfl
          · exact place_hash w
          · exact place_refs w
        · have e : wh t k = (0, 0) := by
            unfold wh
            rw [if_neg h5]
            split
            · have : k = 11 := by omega
              subst this; rfl
            · rw [if_neg (by omega), if_neg (by omega)]
          rw [e]
          exact place_off w hT t k (by omega)
  · rw [if_neg h]
    exact place_no w hT tag f h
end Go.Proofs.YtcagljjbiodcoaaDoor
