/- WatchSums: the plain laws, and the walk's first part. -/
import Derived.Test.YtgkpbmgbaonbhaaLaw11k
namespace Go.Proofs.Ytgkpbmgbaonbhaa
open Go.RowKit
set_option linter.unusedVariables false

/-- A row of ints. -/
def ints (l : List Int) : Array Value := (l.map (Value.int .i64)).toArray
theorem ints_get (l : List Int) (i : Nat) (h : i < l.length) : (ints l)[i]? = some (.int .i64 (l[i]?.getD 0)) := by simp [ints, h]
theorem ints_set (l : List Int) (i : Nat) (k : Int) : (ints l).setIfInBounds i (.int .i64 k) = ints (l.set i k) := by simp [ints, List.map_set]

/-- A row of the watch, the i-th, as the document has it: where it begins is what lies before it; it is not empty, of a kind, of another kind than the one before it; and all its bytes are of its kind. -/
structure RunAt (ks : List Nat) (i : Nat) (r : Nat × Nat × Nat) : Prop where
  pos : r.1 = lenRuns ((runs ks).take i)
  one : 1 ≤ r.2.1
  le : r.2.2 ≤ 8
  len : r.1 + r.2.1 ≤ ks.length
  ne : 0 < i → ((runs ks)[i - 1]?.getD (0, 0, 0)).2.2 ≠ r.2.2
  kind : kindL ks (4 * r.1) (4 * r.2.1) = r.2.2

theorem runs_split (ks : List Nat) : ∀ i, i < (runs ks).length → ∃ f, f < ks.length ∧ runs ks = (runs ks).take i ++ runsFrom ks f ∧ f = lenRuns ((runs ks).take i) ∧ (0 < i → ks[f]?.getD 0 ≠ ((runs ks)[i - 1]?.getD (0, 0, 0)).2.2)
  | 0, h => ⟨0, by have := runs_len ks; omega, by simp [runs_from], by simp [lenRuns], fun h => by omega⟩
  | i + 1, h => by
    obtain ⟨f, h1, h2, h3, _⟩ := runs_split ks i (by omega)
    have hs := runsFrom_step ks f h1
    have hlt := runEnd_lt ks f h1
    have hle := runEnd_le ks f (by omega)
    have hget : (runs ks)[i]? = some (f, runEnd ks f - f, ks[f]?.getD 0) := by
      rw [h2, List.getElem?_append_right (by simp; omega), hs, List.length_take, Nat.min_eq_left (by omega), Nat.sub_self]
      rfl
    have htk : (runs ks).take (i + 1) = (runs ks).take i ++ [(f, runEnd ks f - f, ks[f]?.getD 0)] := by
      rw [List.take_add_one, hget]; rfl
    have hcat : runs ks = (runs ks).take (i + 1) ++ runsFrom ks (runEnd ks f) := by
      rw [htk, List.append_assoc, List.singleton_append, ← hs]; exact h2
    have hfl : runEnd ks f < ks.length := by
      rcases Nat.lt_or_ge (runEnd ks f) ks.length with hl | hl
      · exact hl
      · rw [runsFrom_done ks _ hl, List.append_nil] at hcat
        have := congrArg List.length hcat
        rw [List.length_take] at this
        omega
    refine ⟨runEnd ks f, hfl, hcat, ?_, fun _ => ?_⟩
    · rw [htk, lenRuns_append, ← h3]; simp [lenRuns]; omega
    · rw [show i + 1 - 1 = i by omega, hget]
      exact runEnd_stop ks f hfl
theorem run_at (ks : List Nat) (h8 : ∀ k ∈ ks, k ≤ 8) (i : Nat) (h : i < (runs ks).length) : RunAt ks i (runs ks)[i] := by
  obtain ⟨f, h1, h2, h3, h4⟩ := runs_split ks i h
  have hlt := runEnd_lt ks f h1
  have hle := runEnd_le ks f (by omega)
  have hget : (runs ks)[i]? = some (f, runEnd ks f - f, ks[f]?.getD 0) := by
    rw [h2, List.getElem?_append_right (by simp; omega), runsFrom_step ks f h1, List.length_take, Nat.min_eq_left (by omega), Nat.sub_self]
    rfl
  rw [List.getElem?_eq_getElem h] at hget
  have e : (runs ks)[i] = (f, runEnd ks f - f, ks[f]?.getD 0) := by simpa using hget
  rw [e]
  refine ⟨h3, by simp only; omega, at_le8 h8 f, by simp only; omega, fun hi => (h4 hi).symm, ?_⟩
  simp only
  unfold kindL
  rw [if_neg (by unfold fitsB; simp; omega)]
  have e1 : ((4 * (f : Int)) / 4).toNat = f := by omega
  have e2 : ((4 * (f : Int) + 4 * ((runEnd ks f - f : Nat) : Int) + 3) / 4).toNat = runEnd ks f := by omega
  rw [e1, e2]
  unfold kindY
  rw [oneK_yes ks f (runEnd ks f) (fun x hx => runEnd_in ks f (f + x) (by omega) (by omega)), if_pos rfl]
theorem lenRuns_all (ks : List Nat) : lenRuns (runs ks) = ks.length := by rw [runs_from, lenRuns_from ks ks.length 0 (by omega) (by omega)]; omega

/-- The sums of all kinds behind some rows. -/
def sumsOf (l : List (Nat × Nat × Nat)) : List Int := (List.range 9).map fun k : Nat => ((4 * sumRuns (k : Int) l : Nat) : Int)
theorem sumsOf_len (l : List (Nat × Nat × Nat)) : (sumsOf l).length = 9 := by simp [sumsOf]
theorem sumsOf_get (l : List (Nat × Nat × Nat)) (k : Nat) (h : k < 9) : (sumsOf l)[k]?.getD 0 = ((4 * sumRuns (k : Int) l : Nat) : Int) := by simp [sumsOf, h]
theorem sumsOf_nil : sumsOf [] = [0, 0, 0, 0, 0, 0, 0, 0, 0] := by decide
theorem sumsOf_snoc (l : List (Nat × Nat × Nat)) (r : Nat × Nat × Nat) (h : r.2.2 ≤ 8) : sumsOf (l ++ [r]) = (sumsOf l).set r.2.2 (((4 * sumRuns (r.2.2 : Int) l : Nat) : Int) + 4 * (r.2.1 : Int)) := by
  apply List.ext_getElem
  · simp [sumsOf]
  · intro k h1 h2
    rw [sumsOf_len] at h1
    simp only [sumsOf, List.getElem_set, List.getElem_map, List.getElem_range, sumRuns_snoc]
    by_cases e : r.2.2 = k
    · subst e; rw [if_pos rfl, if_pos rfl]; omega
    · rw [if_neg e, if_neg (by omega)]; rfl
/-- All kinds' sums together. -/
def allTo (l : List (Nat × Nat × Nat)) : Nat → Nat
  | 0 => 0
  | k + 1 => allTo l k + 4 * sumRuns (k : Int) l
theorem allTo_cons (r : Nat × Nat × Nat) (l : List (Nat × Nat × Nat)) : ∀ k : Nat, allTo (r :: l) k = allTo l k + if r.2.2 < k then 4 * r.2.1 else 0
  | 0 => by simp [allTo]
  | k + 1 => by
    rw [allTo, allTo, allTo_cons r l k, sumRuns]
    by_cases e : r.2.2 = k
    · rw [if_pos (show ((r.2.2 : Nat) : Int) = ((k : Nat) : Int) by omega), if_neg (by omega), if_pos (by omega)]; omega
    · rw [if_neg (show ¬ ((r.2.2 : Nat) : Int) = ((k : Nat) : Int) by omega)]
      by_cases e2 : r.2.2 < k
      · rw [if_pos e2, if_pos (by omega)]; omega
      · rw [if_neg e2, if_neg (by omega)]; omega
theorem allTo_all : ∀ l : List (Nat × Nat × Nat), (∀ r ∈ l, r.2.2 ≤ 8) → allTo l 9 = 4 * lenRuns l
  | [], _ => by simp [allTo, sumRuns, lenRuns]
  | r :: l, h => by
    rw [allTo_cons, allTo_all l (fun x hx => h x (by simp [hx])), if_pos (by have := h r (by simp); omega), lenRuns]
    omega
theorem runs_le8 (ks : List Nat) (h8 : ∀ k ∈ ks, k ≤ 8) : ∀ r ∈ runs ks, r.2.2 ≤ 8 := fun r hr => by
  obtain ⟨i, hi, rfl⟩ := List.getElem_of_mem hr
  exact (run_at ks h8 i hi).le
theorem sumL_nine (ks : List Nat) (h8 : ∀ k ∈ ks, k ≤ 8) : sumL ks 9 = 0 := by
  unfold sumL
  have : ∀ l : List (Nat × Nat × Nat), (∀ r ∈ l, r.2.2 ≤ 8) → sumRuns 9 l = 0 := by
    intro l
    induction l with
    | nil => intro _; rfl
    | cons r l ih =>
      intro h
      rw [sumRuns, ih (fun x hx => h x (by simp [hx])), if_neg (by have := h r (by simp); omega)]
  rw [this _ (runs_le8 ks h8)]

set_option maxRecDepth 100000 in
set_option maxHeartbeats 2000000 in
theorem sums_a (w : World) (n : Int) (a : Option Addr) (len cap : Nat) (hlen : len ≤ 9223372036854775807) (h : (1024 < n ∧ n ≤ 1048576) ∨ 60 < len) :
    Calls Try.prog 5 #[.int .i64 n, .slice a len cap] w fun e w' => e = .returned (.bool true) ∧ Below w.heap.size w w' := by
  have hw := watches_any w
  have h3 : (¬ 1024 < n ∧ 60 < len) ∨ (1024 < n ∧ n ≤ 1048576) ∨ (1024 < n ∧ 1048576 < n ∧ 60 < len) := by omega
  clear h
  rcases h3 with ⟨g1, g2⟩ | ⟨g1, g2⟩ | ⟨g1, g2, g3⟩
  all_goals
    go_enter Try.func5, Try.ntmps5
    go_wp2_with (go_at_call 8; refine hw.mono ?_; rintro e w' ⟨rfl, hB⟩)
    go_ret
    exact ⟨rfl, hB⟩

set_option maxRecDepth 100000 in
set_option maxHeartbeats 2000000 in
theorem sums_b (w : World) (n : Int) (a : Option Addr) (len cap : Nat) (hlen : len ≤ 60) (h : mayB n = false) :
    Calls Try.prog 5 #[.int .i64 n, .slice a len cap] w fun e w' => e = .returned (.bool true) ∧ Below w.heap.size w w' := by
  have hw := watches_any w
  have hn := mayB_false h
  by_cases hA : 1024 < n ∧ n ≤ 1048576
  · exact sums_a w n a len cap (by omega) (.inl hA)
  have h1 := new_no w n hn
  have h2 := xmay w n
  rw [h] at h2
  clear h hn
  have h3 : (¬ 1024 < n) ∨ (1024 < n ∧ 1048576 < n) := by omega
  clear hA
  rcases h3 with g1 | ⟨g1, g2⟩
  all_goals
    go_enter Try.func5, Try.ntmps5
    go_wp2_with (first | (go_at_call 8; refine hw.mono ?_; rintro e w' ⟨rfl, hB⟩) | (go_at_call 9; refine h1.mono ?_; rintro e w' ⟨rfl, rfl⟩) | (go_at_call 24; refine h2.mono ?_; rintro e w' ⟨rfl, rfl⟩))
    go_ret
    exact ⟨rfl, hB⟩
end Go.Proofs.Ytgkpbmgbaonbhaa
