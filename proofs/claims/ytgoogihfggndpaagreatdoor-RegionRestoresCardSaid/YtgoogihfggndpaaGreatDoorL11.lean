/- The plain laws of layer 11: what the grains tell is what the bytes tell. No program in sight but for the functions' words. -/
import Derived.Test.YtgoogihfggndpaaGreatDoorW11t
namespace Go.Proofs.YtgoogihfggndpaaGreatDoor
set_option linter.unusedVariables false
set_option linter.unusedSimpArgs false
open Go.RowKit

/-- Each grain is four bytes. -/
def exp4 (ks : List Nat) : List Nat := ks.flatMap fun k => [k, k, k, k]
theorem exp4_len (ks : List Nat) : (exp4 ks).length = 4 * ks.length := by
  induction ks with
  | nil => rfl
  | cons k l ih => simp only [exp4, List.flatMap_cons, List.length_append, List.length_cons, List.length_nil] at ih ⊢; omega
theorem exp4_get (ks : List Nat) : ∀ i, (exp4 ks)[i]? = ks[i / 4]? := by
  induction ks with
  | nil => intro i; simp [exp4]
  | cons k l ih =>
    intro i
    have e : exp4 (k :: l) = k :: k :: k :: k :: exp4 l := rfl
    rw [e]
    match i with
    | 0 => rfl
    | 1 => rfl
    | 2 => rfl
    | 3 => rfl
    | i + 4 =>
      rw [show (i + 4) / 4 = i / 4 + 1 by omega]
      simpa using ih i
theorem exp4_at (ks : List Nat) (i : Nat) : (exp4 ks)[i]?.getD 0 = ks[i / 4]?.getD 0 := by rw [exp4_get]
theorem exp4_zero (m : Nat) : exp4 (List.replicate m 0) = List.replicate (4 * m) 0 := by
  apply List.ext_getElem?
  intro i
  rw [exp4_get, List.getElem?_replicate, List.getElem?_replicate]
  split <;> split <;> first | rfl | omega
theorem exp4_setR (ks : List Nat) (i j k : Nat) : exp4 (setR ks i j k) = setR (exp4 ks) (4 * i) (4 * j) k := by
  apply List.ext_getElem?
  intro x
  rw [exp4_get]
  by_cases hx : x < (exp4 ks).length
  · have hx4 : x / 4 < ks.length := by rw [exp4_len] at hx; omega
    rw [setR_get _ _ _ _ _ hx, setR_get _ _ _ _ _ hx4, exp4_at]
    by_cases h : i ≤ x / 4 ∧ x / 4 < j
    · rw [if_pos h, if_pos (by omega)]
    · rw [if_neg h, if_neg (by omega)]
  · rw [List.getElem?_eq_none (by rw [setR_length]; rw [exp4_len] at hx; omega), List.getElem?_eq_none (by rw [setR_length]; omega)]
/-! ### the rows -/
theorem gath_inv (K : List Nat) : ∀ t, 0 < t → t ≤ K.length → ∃ G f, f < t ∧ t ≤ runEnd K f ∧ gath K t = G ++ [(f, t - f, K[f]?.getD 0)] ∧ runs K = G ++ runsFrom K f
  | 0, h, _ => by omega
  | 1, _, h => ⟨[], 0, by omega, runEnd_lt K 0 (by omega), by simp [gath, step1], by simp [runs_from]⟩
  | t + 2, _, h => by
    obtain ⟨G, f, h1, h2, h3, h4⟩ := gath_inv K (t + 1) (by omega) (by omega)
    have e : gath K (t + 2) = step1 (gath K (t + 1)) (t + 1) (K[t + 1]?.getD 0) (decide (0 < t + 1) && K[t + 1]?.getD 0 == K[t]?.getD 0) := rfl
    have hp : K[t]?.getD 0 = K[f]?.getD 0 := runEnd_in K f t (by omega) (by omega)
    by_cases hs : K[t + 1]?.getD 0 = K[f]?.getD 0
    · refine ⟨G, f, by omega, ?_, ?_, h4⟩
      · rcases Nat.lt_or_ge (t + 1) (runEnd K f) with hl | hl
        · exact hl
        · have hre : runEnd K f = t + 1 := by omega
          have := runEnd_stop K f (by omega)
          rw [hre] at this
          exact absurd hs this
      · rw [e, hp, hs, show (decide (0 < t + 1) && K[f]?.getD 0 == K[f]?.getD 0) = true by simp, h3, step1_true]
        simp only [List.append_cancel_left_eq, List.cons.injEq, Prod.mk.injEq, and_true, true_and]
        omega
    · have hre : runEnd K f = t + 1 := by
        rcases Nat.lt_or_ge (t + 1) (runEnd K f) with hl | hl
        · exact absurd (runEnd_in K f (t + 1) (by omega) hl) hs
        · omega
      refine ⟨G ++ [(f, t + 1 - f, K[f]?.getD 0)], t + 1, by omega, runEnd_lt K (t + 1) (by omega), ?_, ?_⟩
      · rw [e, hp, show (decide (0 < t + 1) && K[t + 1]?.getD 0 == K[f]?.getD 0) = false by simpa using hs, h3]
        simp [step1]
      · rw [h4, runsFrom_step K f (by omega), hre]
        simp
theorem gath_all (K : List Nat) : gath K K.length = runs K := by
  rcases Nat.eq_zero_or_pos K.length with h0 | h0
  · rw [h0, runs, h0]; rfl
  · obtain ⟨G, f, h1, h2, h3, h4⟩ := gath_inv K K.length h0 (Nat.le_refl _)
    have h5 := runEnd_le K f (by omega)
    have h6 : runEnd K f = K.length := by omega
    rw [h3, h4, runsFrom_step K f (by omega), h6, runsFrom_done K K.length (Nat.le_refl _)]

def scale4 (r : Nat × Nat × Nat) : Nat × Nat × Nat := (4 * r.1, 4 * r.2.1, r.2.2)
theorem runEnd_exp (ks : List Nat) (f : Nat) (hf : f < ks.length) : runEnd (exp4 ks) (4 * f) = 4 * runEnd ks f := by
  have h1 := runEnd_lt ks f hf
  have h2 := runEnd_le ks f (by omega)
  apply runEnd_eq
  · omega
  · rw [exp4_len]; omega
  · intro i h3 h4
    rw [exp4_at, exp4_at, show 4 * f / 4 = f by omega]
    exact runEnd_in ks f (i / 4) (by omega) (by omega)
  · rcases Nat.lt_or_ge (runEnd ks f) ks.length with hl | hl
    · right
      rw [exp4_at, exp4_at, show 4 * f / 4 = f by omega, show 4 * runEnd ks f / 4 = runEnd ks f by omega]
      exact runEnd_stop ks f hl
    · left; rw [exp4_len]; omega
theorem runsFrom_exp (ks : List Nat) : ∀ (d f : Nat), ks.length - f ≤ d → runsFrom (exp4 ks) (4 * f) = (runsFrom ks f).map scale4
  | 0, f, h => by rw [runsFrom_done ks f (by omega), runsFrom_done _ _ (by rw [exp4_len]; omega)]; rfl
  | d + 1, f, h => by
    by_cases hf : f < ks.length
    · have h1 := runEnd_lt ks f hf
      rw [runsFrom_step ks f hf, runsFrom_step _ _ (by rw [exp4_len]; omega), runEnd_exp ks f hf, runsFrom_exp ks d (runEnd ks f) (by omega), List.map_cons, exp4_at, show 4 * f / 4 = f by omega]
      simp only [scale4, List.cons.injEq, Prod.mk.injEq, true_and, and_true]
      omega
    · rw [runsFrom_done ks f (by omega), runsFrom_done _ _ (by rw [exp4_len]; omega)]; rfl
theorem runs_exp (ks : List Nat) : gath (exp4 ks) (exp4 ks).length = (runs ks).map scale4 := by
  rw [gath_all, runs_from, runs_from]
  exact runsFrom_exp ks ks.length 0 (by omega)
end Go.Proofs.YtgoogihfggndpaaGreatDoor
