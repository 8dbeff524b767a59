/- The plain laws of layer 11: what the grains tell is what the bytes tell. No program in sight but for the functions' words. -/
import Derived.Test.YtgkpbmgbaonbhaaW11t
namespace Go.Proofs.Ytgkpbmgbaonbhaa
set_option linter.unusedVariables false
open Go.RowKit

/-- Each grain is four bytes. -/
def exp4 (ks : List Nat) : List Nat := ks.flatMap fun k => [k, k, k, k]
theorem exp4_len (ks : List Nat) : (exp4 ks).length = 4 * ks.length := by
  induction ks with
  | nil => rfl
  | cons k l ih => simp only [exp4, List.flatMap_cons, List.length_append, List.length_cons, List.length_nil] at ih ⊢; omega
theorem exp4_get (ks : List Nat) : ∀ i, (exp4 ks)[i]? = ks[i / 4]? := by
  induction ks with
  | nil => intro i; simp [exp4]
  | cons k l ih =>
    intro i
    have e : exp4 (k :: l) = k :: k :: k :: k :: exp4 l := rfl
    rw [e]
    match i with
    | 0 => rfl
    | 1 => rfl
    | 2 => rfl
    | 3 => rfl
    | i + 4 =>
      rw [show (i + 4) / 4 = i / 4 + 1 by omega]
      simpa using ih i
theorem exp4_at (ks : List Nat) (i : Nat) : (exp4 ks)[i]?.getD 0 = ks[i / 4]?.getD 0 := by rw [exp4_get]
theorem exp4_le (ks : List Nat) (h : ∀ k ∈ ks, k ≤ 8) : ∀ k ∈ exp4 ks, k ≤ 8 := by
  intro k hk
  simp only [exp4, List.mem_flatMap] at hk
  obtain ⟨x, hx, hk⟩ := hk
  have := h x hx
  simp at hk; omega
theorem exp4_zero (m : Nat) : exp4 (List.replicate m 0) = List.replicate (4 * m) 0 := by
  apply List.ext_getElem?
  intro i
  rw [exp4_get, List.getElem?_replicate, List.getElem?_replicate]
  split <;> split <;> first | rfl | omega
theorem exp4_setR (ks : List Nat) (i j k : Nat) : exp4 (setR ks i j k) = setR (exp4 ks) (4 * i) (4 * j) k := by
  apply List.ext_getElem?
  intro x
  rw [exp4_get]
  by_cases hx : x < (exp4 ks).length
  · have hx4 : x / 4 < ks.length := by rw [exp4_len] at hx; omega
    rw [setR_get _ _ _ _ _ hx, setR_get _ _ _ _ _ hx4, exp4_at]
    by_cases h : i ≤ x / 4 ∧ x / 4 < j
    · rw [if_pos h, if_pos (by omega)]
    · rw [if_neg h, if_neg (by omega)]
  · rw [List.getElem?_eq_none (by rw [setR_length]; rw [exp4_len] at hx; omega), List.getElem?_eq_none (by rw [setR_length]; omega)]
theorem setR_le (ks : List Nat) (i j k : Nat) (hk : k ≤ 8) (h : ∀ x ∈ ks, x ≤ 8) : ∀ x ∈ setR ks i j k, x ≤ 8 := by
  intro x hx
  simp only [setR, List.mem_map, List.mem_range] at hx
  obtain ⟨a, _, rfl⟩ := hx
  split
  · exact hk
  · exact at_le8 h a

theorem oneK_iff (ks : List Nat) (i j : Nat) : oneK ks i j = true ↔ ∀ x, x < j - i → ks[i + x]?.getD 0 = ks[i]?.getD 0 := by
  simp only [oneK, List.all_eq_true, List.mem_range, beq_iff_eq]
theorem kindY_exp (ks : List Nat) (a m : Nat) (hm : 1 ≤ m) : kindY ks (a / 4) ((a + m + 3) / 4) = kindY (exp4 ks) a (a + m) := by
  unfold kindY
  have : oneK ks (a / 4) ((a + m + 3) / 4) = oneK (exp4 ks) a (a + m) := by
    rw [Bool.eq_iff_iff, oneK_iff, oneK_iff]
    constructor
    · intro h x hx
      rw [exp4_at, exp4_at]
      have := h ((a + x) / 4 - a / 4) (by omega)
      rw [show a / 4 + ((a + x) / 4 - a / 4) = (a + x) / 4 by omega] at this
      exact this
    · intro h x hx
      have := h (4 * (a / 4 + x) - a) (by omega)
      rw [exp4_at, exp4_at] at this
      rw [← this]
      by_cases h0 : x = 0
      · subst h0; rw [show 4 * (a / 4 + 0) - a = 0 by omega]; rfl
      · rw [show a + (4 * (a / 4 + x) - a) = 4 * (a / 4 + x) by omega, show 4 * (a / 4 + x) / 4 = a / 4 + x by omega]
  rw [this, exp4_at]
theorem kindL_exp (ks : List Nat) (x y : Int) : kindL ks x y = xkind (exp4 ks) x y := by
  unfold kindL xkind
  rw [exp4_len]
  by_cases h : y < 1 ∨ fitsB (4 * ks.length) x y = false
  · rw [if_pos h, if_pos h]
  · rw [if_neg h, if_neg h]
    have h1 : 1 ≤ y := by omega
    have hB : fitsB (4 * ks.length) x y = true := by cases hf : fitsB (4 * ks.length) x y <;> simp_all
    have h2 : 0 ≤ x := by unfold fitsB at hB; simp at hB; omega
    obtain ⟨a, rfl⟩ : ∃ a : Nat, x = a := ⟨x.toNat, by omega⟩
    obtain ⟨m, rfl⟩ : ∃ m : Nat, y = m := ⟨y.toNat, by omega⟩
    rw [show ((a : Int) / 4).toNat = a / 4 by omega, show (((a : Int) + m + 3) / 4).toNat = (a + m + 3) / 4 by omega, Int.toNat_natCast, show ((a : Int) + m).toNat = a + m by omega]
    exact kindY_exp ks a m (by omega)
theorem mayL_exp (ks : List Nat) (x wd k : Int) : mayL ks x wd k = xmayL (exp4 ks) x wd k := by
  unfold mayL xmayL
  rw [decide_eq_decide, kindL_exp]
  constructor
  · rintro ⟨h1, h2, h3, h4⟩
    refine ⟨h1, ?_, h2, h3, h4⟩
    cases hf : fitsB (exp4 ks).length x wd
    · unfold xkind at h4
      rw [if_pos (.inr hf)] at h4
      exact absurd h4.symm h3
    · rfl
  · rintro ⟨h1, _, h2, h3, h4⟩
    exact ⟨h1, h2, h3, h4⟩

/-! ### the rows -/
theorem gath_inv (K : List Nat) : ∀ t, 0 < t → t ≤ K.length → ∃ G f, f < t ∧ t ≤ runEnd K f ∧ gath K t = G ++ [(f, t - f, K[f]?.getD 0)] ∧ runs K = G ++ runsFrom K f
  | 0, h, _ => by omega
  | 1, _, h => ⟨[], 0, by omega, runEnd_lt K 0 (by omega), by simp [gath, step1], by simp [runs_from]⟩
  | t + 2, _, h => by
    obtain ⟨G, f, h1, h2, h3, h4⟩ := gath_inv K (t + 1) (by omega) (by omega)
    have e : gath K (t + 2) = step1 (gath K (t + 1)) (t + 1) (K[t + 1]?.getD 0) (decide (0 < t + 1) && K[t + 1]?.getD 0 == K[t]?.getD 0) := rfl
    have hp : K[t]?.getD 0 = K[f]?.getD 0 := runEnd_in K f t (by omega) (by omega)
    by_cases hs : K[t + 1]?.getD 0 = K[f]?.getD 0
    · refine ⟨G, f, by omega, ?_, ?_, h4⟩
      · rcases Nat.lt_or_ge (t + 1) (runEnd K f) with hl | hl
        · exact hl
        · have hre : runEnd K f = t + 1 := by omega
          have := runEnd_stop K f (by omega)
          rw [hre] at this
          exact absurd hs this
      · rw [e, hp, hs, show (decide (0 < t + 1) && K[f]?.getD 0 == K[f]?.getD 0) = true by simp, h3, step1_true]
        simp only [List.append_cancel_left_eq, List.cons.injEq, Prod.mk.injEq, and_true, true_and]
        omega
    · have hre : runEnd K f = t + 1 := by
        rcases Nat.lt_or_ge (t + 1) (runEnd K f) with hl | hl
        · exact absurd (runEnd_in K f (t + 1) (by omega) hl) hs
        · omega
      refine ⟨G ++ [(f, t + 1 - f, K[f]?.getD 0)], t + 1, by omega, runEnd_lt K (t + 1) (by omega), ?_, ?_⟩
      · rw [e, hp, show (decide (0 < t + 1) && K[t + 1]?.getD 0 == K[f]?.getD 0) = false by simpa using hs, h3]
        simp [step1]
      · rw [h4, runsFrom_step K f (by omega), hre]
        simp
theorem gath_all (K : List Nat) : gath K K.length = runs K := by
  rcases Nat.eq_zero_or_pos K.length with h0 | h0
  · rw [h0, runs, h0]; rfl
  · obtain ⟨G, f, h1, h2, h3, h4⟩ := gath_inv K K.length h0 (Nat.le_refl _)
    have h5 := runEnd_le K f (by omega)
    have h6 : runEnd K f = K.length := by omega
    rw [h3, h4, runsFrom_step K f (by omega), h6, runsFrom_done K K.length (Nat.le_refl _)]

def scale4 (r : Nat × Nat × Nat) : Nat × Nat × Nat := (4 * r.1, 4 * r.2.1, r.2.2)
theorem runEnd_exp (ks : List Nat) (f : Nat) (hf : f < ks.length) : runEnd (exp4 ks) (4 * f) = 4 * runEnd ks f := by
  have h1 := runEnd_lt ks f hf
  have h2 := runEnd_le ks f (by omega)
  apply runEnd_eq
  · omega
  · rw [exp4_len]; omega
  · intro i h3 h4
    rw [exp4_at, exp4_at, show 4 * f / 4 = f by omega]
    exact runEnd_in ks f (i / 4) (by omega) (by omega)
  · rcases Nat.lt_or_ge (runEnd ks f) ks.length with hl | hl
    · right
      rw [exp4_at, exp4_at, show 4 * f / 4 = f by omega, show 4 * runEnd ks f / 4 = runEnd ks f by omega]
      exact runEnd_stop ks f hl
    · left; rw [exp4_len]; omega
theorem runsFrom_exp (ks : List Nat) : ∀ (d f : Nat), ks.length - f ≤ d → runsFrom (exp4 ks) (4 * f) = (runsFrom ks f).map scale4
  | 0, f, h => by rw [runsFrom_done ks f (by omega), runsFrom_done _ _ (by rw [exp4_len]; omega)]; rfl
  | d + 1, f, h => by
    by_cases hf : f < ks.length
    · have h1 := runEnd_lt ks f hf
      rw [runsFrom_step ks f hf, runsFrom_step _ _ (by rw [exp4_len]; omega), runEnd_exp ks f hf, runsFrom_exp ks d (runEnd ks f) (by omega), List.map_cons, exp4_at, show 4 * f / 4 = f by omega]
      simp only [scale4, List.cons.injEq, Prod.mk.injEq, true_and, and_true]
      omega
    · rw [runsFrom_done ks f (by omega), runsFrom_done _ _ (by rw [exp4_len]; omega)]; rfl
theorem runs_exp (ks : List Nat) : gath (exp4 ks) (exp4 ks).length = (runs ks).map scale4 := by
  rw [gath_all, runs_from, runs_from]
  exact runsFrom_exp ks ks.length 0 (by omega)
theorem runCells_x (l : List (Nat × Nat × Nat)) : runCells l = xCells (l.map scale4) := by
  induction l with
  | nil => rfl
  | cons r l ih =>
    simp only [runCells, xCells, List.map_cons, List.flatMap_cons] at ih ⊢
    rw [ih]
    simp [scale4]

theorem cnt_append (k : Int) (a b : List Nat) : cnt k (a ++ b) = cnt k a + cnt k b := by simp [cnt]
theorem cnt_exp (k : Int) (ks : List Nat) : cnt k (exp4 ks) = 4 * cnt k ks := by
  induction ks with
  | nil => rfl
  | cons x l ih =>
    have e : exp4 (x :: l) = [x, x, x, x] ++ exp4 l := rfl
    rw [e, cnt_append, ih, show x :: l = [x] ++ l from rfl, cnt_append]
    by_cases h : (x : Int) = k <;> simp [cnt, h] <;> omega
theorem cnt_same (k : Int) (x : Nat) : ∀ (l : List Nat), (∀ y ∈ l, y = x) → cnt k l = if (x : Int) = k then l.length else 0
  | [], _ => by simp [cnt]
  | y :: l, h => by
    have hy : y = x := h y (by simp)
    subst hy
    rw [show y :: l = [y] ++ l from rfl, cnt_append, cnt_same k y l (fun z hz => h z (by simp [hz]))]
    by_cases hk : (y : Int) = k
    · simp [cnt, hk]; omega
    · simp [cnt, hk]
theorem sumRuns_from (k : Int) (ks : List Nat) : ∀ (d f : Nat), ks.length - f ≤ d → f ≤ ks.length → sumRuns k (runsFrom ks f) = cnt k (ks.drop f)
  | 0, f, h, hf => by rw [runsFrom_done ks f (by omega), List.drop_of_length_le (by omega)]; rfl
  | d + 1, f, h, hf => by
    by_cases hl : f < ks.length
    · have h1 := runEnd_lt ks f hl
      have h2 := runEnd_le ks f (by omega)
      rw [runsFrom_step ks f hl, sumRuns, sumRuns_from k ks d (runEnd ks f) (by omega) h2]
      have e : ks.drop f = (ks.drop f).take (runEnd ks f - f) ++ ks.drop (runEnd ks f) := by
        have := (List.take_append_drop (runEnd ks f - f) (ks.drop f)).symm
        rwa [List.drop_drop, show f + (runEnd ks f - f) = runEnd ks f by omega] at this
      rw [e, cnt_append, cnt_same k (ks[f]?.getD 0) ((ks.drop f).take (runEnd ks f - f)) ?_]
      · simp only [List.length_take, List.length_drop]
        rw [show min (runEnd ks f - f) (ks.length - f) = runEnd ks f - f by omega]
      · intro y hy
        obtain ⟨i, hi, rfl⟩ := List.getElem_of_mem hy
        simp only [List.length_take, List.length_drop] at hi
        have := runEnd_in ks f (f + i) (by omega) (by omega)
        rw [List.getElem?_eq_getElem (by omega)] at this
        simpa using this
    · rw [runsFrom_done ks f (by omega), List.drop_of_length_le (by omega)]; rfl
theorem sumL_exp (ks : List Nat) (k : Int) : sumL ks k = cnt k (exp4 ks) := by
  rw [cnt_exp, sumL, runs_from, sumRuns_from k ks ks.length 0 (by omega) (by omega)]
  rfl
end Go.Proofs.Ytgkpbmgbaonbhaa
