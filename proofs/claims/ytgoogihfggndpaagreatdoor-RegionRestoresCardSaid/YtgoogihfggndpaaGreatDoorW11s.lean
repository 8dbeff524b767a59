/- Walks: columbariumref11's Runs, ref09.Same. -/
import Derived.Test.YtgoogihfggndpaaGreatDoorGM
import Derived.Test.YtgoogihfggndpaaGreatDoorW11r
import Derived.Deep.RegionHeld3
namespace Go.Proofs.YtgoogihfggndpaaGreatDoor
set_option linter.unusedVariables false
set_option linter.unusedSimpArgs false
open Go.RowKit

/-- The rows of the first t bytes, as the document gathers them: where, how long, of which kind. -/
def step1 (l : List (Nat × Nat × Nat)) (i x : Nat) (same : Bool) : List (Nat × Nat × Nat) :=
  if same then l.dropLast ++ [((l.getLast?.getD (0, 0, 0)).1, (l.getLast?.getD (0, 0, 0)).2.1 + 1, (l.getLast?.getD (0, 0, 0)).2.2)] else l ++ [(i, 1, x)]
def gath (K : List Nat) : Nat → List (Nat × Nat × Nat)
  | 0 => []
  | t + 1 => step1 (gath K t) t (K[t]?.getD 0) (decide (0 < t) && K[t]?.getD 0 == K[t - 1]?.getD 0)

theorem gath_len (K : List Nat) : ∀ t, (gath K t).length ≤ t
  | 0 => by simp [gath]
  | t + 1 => by
    have := gath_len K t
    unfold gath step1
    split
    · rename_i h
      have : 0 < t := by simp at h; exact h.1
      simp; omega
    · simp; omega
theorem gath_pos (K : List Nat) : ∀ t, 0 < t → 0 < (gath K t).length
  | 0, h => by omega
  | t + 1, _ => by
    unfold gath step1
    split <;> simp

/-- The rows as cells, unscaled. -/
def xCells (l : List (Nat × Nat × Nat)) : List Value := l.flatMap fun r => [.int .i64 r.1, .int .i64 r.2.1, .int .i64 r.2.2]
theorem xCells_snoc (l : List (Nat × Nat × Nat)) (r : Nat × Nat × Nat) : xCells (l ++ [r]) = xCells l ++ [.int .i64 r.1, .int .i64 r.2.1, .int .i64 r.2.2] := by simp [xCells]
theorem xCells_len (l : List (Nat × Nat × Nat)) : (xCells l).length = 3 * l.length := by
  induction l with
  | nil => rfl
  | cons x l ih => simp only [xCells, List.flatMap_cons, List.length_append, List.length_cons, List.length_nil] at ih ⊢; omega

theorem step1_true (m : List (Nat × Nat × Nat)) (r : Nat × Nat × Nat) (i x : Nat) : step1 (m ++ [r]) i x true = m ++ [(r.1, r.2.1 + 1, r.2.2)] := by simp [step1]
theorem gath_lens (K : List Nat) : ∀ t, ∀ r ∈ gath K t, r.2.1 ≤ t
  | 0, r, h => by simp [gath] at h
  | t + 1, r, h => by
    have ih := gath_lens K t
    unfold gath step1 at h
    split at h
    · rcases List.mem_append.1 h with h | h
      · have := ih r (List.dropLast_subset _ h); omega
      · simp only [List.mem_singleton] at h
        subst h
        cases hl : (gath K t).getLast? with
        | none => simp
        | some x => have := ih x (List.mem_of_getLast? hl); simp only [Option.getD_some]; omega
    · rcases List.mem_append.1 h with h | h
      · have := ih r h; omega
      · simp only [List.mem_singleton] at h; subst h; simp only; omega
theorem xCells_set (m : List (Nat × Nat × Nat)) (r : Nat × Nat × Nat) (v : Int) (hv : v = (r.2.1 : Int) + 1) : (xCells (m ++ [r])).set (m.length * 3 + 1) (.int .i64 v) = xCells (m ++ [(r.1, r.2.1 + 1, r.2.2)]) := by
  subst hv
  rw [xCells_snoc, xCells_snoc, List.set_append_right _ _ (by rw [xCells_len]; omega), xCells_len, show m.length * 3 + 1 - 3 * m.length = 1 by omega]
  simp

set_option maxHeartbeats 2000000 in
theorem xruns (w : World) (p b : Nat) (K : List Nat) (lk ft : Int) (h : IsX w p b K lk ft) :
    Calls Tryz.prog 16 #[.pointer (some ⟨p, 0, none⟩)] w fun e w' => ∃ v, e = .returned v ∧ w'.ownsRow w.heap.size 84 3 v (gath K K.length).length (xCells (gath K K.length)) ∧ Fr [] w w' := by
  obtain ⟨i0, hi, hz0, hz1, hz2⟩ := info_parts info_run
  have hl := h.len
  have hc := h.st.cell 0
  go_enter Tryz.func16, Tryz.ntmps16
  go_wp2
  go_loopw [3, 4] (fun v i wr => ∃ t : Nat, t ≤ K.length ∧ i = .int .i64 t ∧ wr.ownsRow w.heap.size 84 3 v (gath K t).length (xCells (gath K t)) ∧ Below w.heap.size w wr) (fun _ v _ => K.length - (intOf v).toNat)
  case atStart => exact ⟨0, Nat.zero_le _, rfl, World.ownsRow_nil _ _ _ _, Below.refl _ _⟩
  case round =>
    obtain ⟨t, ht, rfl, hown, hB⟩ := hrel
    have hS := (h.st.below hB h.st.lt).cell 0
    by_cases hlt : t < K.length
    · have hct := (h.row.below hB h.row.lt).cell t
      rw [bytes_get _ _ hlt] at hct
      have hgl := gath_len K t
      have hst : gath K (t + 1) = step1 (gath K t) t (K[t]?.getD 0) (decide (0 < t) && K[t]?.getD 0 == K[t - 1]?.getD 0) := rfl
      have hpos := gath_pos K t
      have hlens := gath_lens K t
      have hkt := at_le8 h.le t
      generalize hkk : K[t]?.getD 0 = kt at *
      have KK := Lib.hid hkk
      clear hkk
      generalize hgg : gath K t = l at *
      clear hgg
      by_cases h0 : 0 < t
      · have hcp := (h.row.below hB h.row.lt).cell (t - 1)
        rw [bytes_get _ _ (by omega)] at hcp
        generalize hkp : K[t - 1]?.getD 0 = kp at *
        have KP := Lib.hid hkp
        have hg2 : (0 : Int) ≤ t := by omega
        have hg3 : (t : Int) < K.length := by omega
        have hg4 : (0 : Int) ≤ (t : Int) - 1 := by omega
        have hg5 : (t : Int) - 1 < K.length := by omega
        have hg6 : ((t : Int) - 1).toNat = t - 1 := by omega
        have hl1 := hpos h0
        clear hkp hpos
        by_cases he : kt = kp
        · have hb : ((kt : Int) == kp) = true := by simp [he]
          have hst2 : gath K (t + 1) = step1 l t kt true := by rw [hst, he]; simp [h0]
          have HST := Lib.hid hst2
          clear he hst hst2
          obtain ⟨m, r, hlr⟩ : ∃ m r, l = m ++ [r] := ⟨l.dropLast, l.getLast (by intro e; simp [e] at hl1), (List.dropLast_concat_getLast _).symm⟩
          subst hlr
          rw [List.length_append, List.length_singleton] at hown
          obtain ⟨g, cap, rfl⟩ := ownsRow_succ hown
          have hml : m.length + 1 ≤ t := by simpa using hgl
          have hcr := hown.cellAt (m.length * 3 + 1) (by omega)
          have hfr := hown.frozenAt (m.length * 3 + 1)
          rw [show (xCells (m ++ [r]))[m.length * 3 + 1]? = some (.int .i64 r.2.1) by
            rw [xCells_snoc, List.getElem?_append_right (by rw [xCells_len]; omega), xCells_len, show m.length * 3 + 1 - 3 * m.length = 1 by omega]; rfl] at hcr
          clear hgl
          have hrl : r.2.1 ≤ t := hlens r (by simp)
          clear hlens
          go_wp2
          go_quiet (fail)
          go_wp2
          go_roundw
          case rel =>
            have ho := (hown.stored (m.length * 3 + 1) (.int .i64 ((r.2.1 : Int) + 1))).1
            rw [xCells_set m r _ rfl] at ho
            refine ⟨t + 1, by omega, by go_num, ?_, (bdrewN hB _).setCell (p := ⟨g, m.length * 3 + 1, none⟩) (hown.lt g rfl).1 _⟩
            rw [HST.out, step1_true, List.length_append, List.length_singleton]
            exact ho
          case measure => simp [intOf]; omega
        · have hb : ((kt : Int) == kp) = false := by simp; omega
          have hst2 : gath K (t + 1) = step1 l t kt false := by rw [hst, show (kt == kp) = false from by simpa using he, Bool.and_false]
          have HST := Lib.hid hst2
          clear he hst hst2
          go_wp2
          go_quiet (fail)
          go_wp2_with (at_builtin; refine wpList_append_own _ rfl _ _ 37 rfl w.heap.size 84 i0 (.agg #[.int .i64 0, .int .i64 0, .int .i64 0]) 3 24 Tryz.underlying37 hi hz0 hz1 hz2 rfl (by decide) _ _ _ rfl (hown.alloc _) ⟨wr.heap.size, 0, none⟩ 1 1 [.int .i64 t, .int .i64 1, .int .i64 kt] rfl rfl (cells_new3 _ _ _ _ _) (by simp [Value.oneCell']) (by unfold maxLen; omega) (by omega) (by have := hB.size; simp; omega) ?_; intro v' w1 hown' hgrow _)
          go_roundw
          case rel =>
            refine ⟨t + 1, by omega, by go_num, ?_, ((bdrewN hB _).alloc hB.size _).grown hgrow (by have := hB.size; simp; omega) (fun g hg => (hown.lt g hg).1)⟩
            rw [HST.out]
            simpa [step1, xCells_snoc] using hown'
          case measure => simp [intOf]; omega
      · have ht0 : t = 0 := by omega
        subst ht0
        have hst2 : gath K (0 + 1) = step1 l 0 kt false := by rw [hst]; rfl
        have HST := Lib.hid hst2
        clear hst hst2 hpos hlens
        go_wp2
        go_quiet (fail)
        go_wp2_with (at_builtin; refine wpList_append_own _ rfl _ _ 37 rfl w.heap.size 84 i0 (.agg #[.int .i64 0, .int .i64 0, .int .i64 0]) 3 24 Tryz.underlying37 hi hz0 hz1 hz2 rfl (by decide) _ _ _ rfl (hown.alloc _) ⟨wr.heap.size, 0, none⟩ 1 1 [.int .i64 0, .int .i64 1, .int .i64 kt] rfl rfl (cells_new3 _ _ _ _ _) (by simp [Value.oneCell']) (by unfold maxLen; omega) (by omega) (by have := hB.size; simp; omega) ?_; intro v' w1 hown' hgrow _)
        go_roundw
        case rel =>
          refine ⟨1, by omega, by go_num, ?_, ((bdrewN hB _).alloc hB.size _).grown hgrow (by have := hB.size; simp; omega) (fun g hg => (hown.lt g hg).1)⟩
          rw [HST.out]
          simpa [step1, xCells_snoc] using hown'
        case measure => simp [intOf]; omega
    · go_wp2
      go_ret
      have : t = K.length := by omega
      subst this
      exact ⟨_, rfl, hown, Fr.of_below hB⟩
end Go.Proofs.YtgoogihfggndpaaGreatDoor
