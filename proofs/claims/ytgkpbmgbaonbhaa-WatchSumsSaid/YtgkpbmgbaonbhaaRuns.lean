/- Plain: the runs of a list: rows of one kind. No program in sight. -/
namespace Go.Proofs.Ytgkpbmgbaonbhaa
set_option linter.unusedVariables false

/-- Where the row that begins at f ends. -/
def rowLen (k : Nat) : List Nat → Nat
  | [] => 0
  | x :: l => if x = k then rowLen k l + 1 else 0
def runEnd (ks : List Nat) (f : Nat) : Nat := f + rowLen (ks[f]?.getD 0) (ks.drop f)

theorem rowLen_le (k : Nat) : ∀ l : List Nat, rowLen k l ≤ l.length
  | [] => Nat.le_refl _
  | x :: l => by simp only [rowLen]; split <;> simp; exact rowLen_le k l
theorem rowLen_in (k : Nat) : ∀ (l : List Nat) (i : Nat), i < rowLen k l → l[i]? = some k
  | [], i, h => by simp [rowLen] at h
  | x :: l, i, h => by
    simp only [rowLen] at h
    split at h
    · cases i with
      | zero => simp_all
      | succ i => exact rowLen_in k l i (by omega)
    · omega
theorem rowLen_end (k : Nat) : ∀ (l : List Nat), rowLen k l < l.length → l[rowLen k l]? ≠ some k
  | [], h => by simp at h
  | x :: l, h => by
    simp only [rowLen] at h ⊢
    split at h
    · rename_i e
      rw [if_pos e]
      simp only [List.length_cons, Nat.add_lt_add_iff_right] at h
      exact rowLen_end k l h
    · rename_i e
      rw [if_neg e]
      simpa using e
/-- The row's end, told by what it is. -/
theorem rowLen_eq (k : Nat) (l : List Nat) (n : Nat) (hn : n ≤ l.length) (h : ∀ i, i < n → l[i]? = some k) (he : n = l.length ∨ l[n]? ≠ some k) : rowLen k l = n := by
  have h1 := rowLen_le k l
  rcases Nat.lt_trichotomy (rowLen k l) n with hl | hl | hl
  · exact absurd (h _ hl) (rowLen_end k l (by omega))
  · exact hl
  · have := rowLen_in k l n hl
    rcases he with he | he
    · omega
    · exact absurd this he

theorem runEnd_eq (ks : List Nat) (f n : Nat) (hfn : f ≤ n) (hn : n ≤ ks.length) (h : ∀ i, f ≤ i → i < n → ks[i]?.getD 0 = ks[f]?.getD 0)
    (he : n = ks.length ∨ ks[n]?.getD 0 ≠ ks[f]?.getD 0) : runEnd ks f = n := by
  have : rowLen (ks[f]?.getD 0) (ks.drop f) = n - f := by
    apply rowLen_eq
    · simp; omega
    · intro i hi
      rw [List.getElem?_drop]
      have := h (f + i) (by omega) (by omega)
      rw [← this, List.getElem?_eq_getElem (by omega)]
      rfl
    · rcases he with he | he
      · left; simp; omega
      · by_cases hl : n < ks.length
        · right
          rw [List.getElem?_drop, show f + (n - f) = n by omega, List.getElem?_eq_getElem hl]
          rw [List.getElem?_eq_getElem hl] at he
          simp at he
          simpa using he
        · left; simp; omega
  unfold runEnd
  omega
theorem runEnd_le (ks : List Nat) (f : Nat) (hf : f ≤ ks.length) : runEnd ks f ≤ ks.length := by
  unfold runEnd
  have := rowLen_le (ks[f]?.getD 0) (ks.drop f)
  simp at this
  omega
theorem runEnd_in (ks : List Nat) (f i : Nat) (h1 : f ≤ i) (h2 : i < runEnd ks f) : ks[i]?.getD 0 = ks[f]?.getD 0 := by
  unfold runEnd at h2
  have := rowLen_in (ks[f]?.getD 0) (ks.drop f) (i - f) (by omega)
  rw [List.getElem?_drop, show f + (i - f) = i by omega] at this
  rw [this]; rfl
theorem runEnd_stop (ks : List Nat) (f : Nat) (h : runEnd ks f < ks.length) : ks[runEnd ks f]?.getD 0 ≠ ks[f]?.getD 0 := by
  unfold runEnd at h ⊢
  have := rowLen_end (ks[f]?.getD 0) (ks.drop f) (by simp; omega)
  rw [List.getElem?_drop] at this
  intro e
  apply this
  rw [List.getElem?_eq_getElem h] at e ⊢
  simpa using e
theorem runEnd_lt (ks : List Nat) (f : Nat) (h : f < ks.length) : f < runEnd ks f := by
  rcases Nat.lt_or_ge f (runEnd ks f) with h1 | h1
  · exact h1
  · have h2 : runEnd ks f = f := by have : f ≤ runEnd ks f := by unfold runEnd; omega
                                    omega
    have := runEnd_stop ks f (by omega)
    rw [h2] at this
    exact absurd rfl this

/-- The rows from f on: where, how long, which kind. -/
def runsAux (ks : List Nat) : Nat → Nat → List (Nat × Nat × Nat)
  | 0, _ => []
  | n + 1, f => if f < ks.length then (f, runEnd ks f - f, ks[f]?.getD 0) :: runsAux ks n (runEnd ks f) else []
def runs (ks : List Nat) : List (Nat × Nat × Nat) := runsAux ks ks.length 0

theorem runsAux_more (ks : List Nat) : ∀ (n f : Nat), ks.length ≤ n + f → runsAux ks (n + 1) f = runsAux ks n f
  | 0, f, h => by simp [runsAux]; omega
  | n + 1, f, h => by
    show (if f < ks.length then _ else _) = (if f < ks.length then _ else _)
    by_cases hf : f < ks.length
    · rw [if_pos hf, if_pos hf, runsAux_more ks n (runEnd ks f) (by have := runEnd_lt ks f hf; omega)]
    · rw [if_neg hf, if_neg hf]
theorem runsAux_any (ks : List Nat) (f : Nat) : ∀ (d n : Nat), ks.length ≤ n + f → runsAux ks (n + d) f = runsAux ks n f
  | 0, _, _ => rfl
  | d + 1, n, h => by rw [← Nat.add_assoc, runsAux_more ks (n + d) f (by omega), runsAux_any ks f d n h]
/-- From f on, the fuel out of sight. -/
def runsFrom (ks : List Nat) (f : Nat) : List (Nat × Nat × Nat) := runsAux ks (ks.length - f) f
theorem runsFrom_step (ks : List Nat) (f : Nat) (hf : f < ks.length) : runsFrom ks f = (f, runEnd ks f - f, ks[f]?.getD 0) :: runsFrom ks (runEnd ks f) := by
  have h1 := runEnd_lt ks f hf
  have h2 := runEnd_le ks f (by omega)
  unfold runsFrom
  obtain ⟨m, hm⟩ : ∃ m, ks.length - f = m + 1 := ⟨ks.length - f - 1, by omega⟩
  rw [hm, runsAux, if_pos hf]
  congr 1
  have := runsAux_any ks (runEnd ks f) (m - (ks.length - runEnd ks f)) (ks.length - runEnd ks f) (by omega)
  rw [← this]
  congr 1
  omega
theorem runsFrom_done (ks : List Nat) (f : Nat) (hf : ks.length ≤ f) : runsFrom ks f = [] := by
  unfold runsFrom
  rw [show ks.length - f = 0 by omega]
  rfl
theorem runs_from (ks : List Nat) : runs ks = runsFrom ks 0 := rfl

/-- How much there is of a kind, by the rows. -/
def sumRuns (k : Int) : List (Nat × Nat × Nat) → Nat
  | [] => 0
  | r :: l => (if (r.2.2 : Int) = k then r.2.1 else 0) + sumRuns k l
theorem sumRuns_snoc (k : Int) (l : List (Nat × Nat × Nat)) (r : Nat × Nat × Nat) : sumRuns k (l ++ [r]) = sumRuns k l + if (r.2.2 : Int) = k then r.2.1 else 0 := by
  induction l with
  | nil => simp [sumRuns]
  | cons x l ih => simp only [List.cons_append, sumRuns, ih]; omega
def lenRuns : List (Nat × Nat × Nat) → Nat
  | [] => 0
  | r :: l => r.2.1 + lenRuns l
theorem lenRuns_append (l m : List (Nat × Nat × Nat)) : lenRuns (l ++ m) = lenRuns l + lenRuns m := by
  induction l with
  | nil => simp [lenRuns]
  | cons x l ih => simp only [List.cons_append, lenRuns, ih]; omega
theorem lenRuns_from (ks : List Nat) : ∀ (d f : Nat), ks.length - f ≤ d → f ≤ ks.length → lenRuns (runsFrom ks f) = ks.length - f
  | 0, f, h, hf => by rw [runsFrom_done ks f (by omega)]; simp [lenRuns]; omega
  | d + 1, f, h, hf => by
    by_cases hl : f < ks.length
    · have h1 := runEnd_lt ks f hl
      have h2 := runEnd_le ks f (by omega)
      rw [runsFrom_step ks f hl, lenRuns, lenRuns_from ks d (runEnd ks f) (by omega) h2]
      simp only
      omega
    · rw [runsFrom_done ks f (by omega)]; simp [lenRuns]; omega
theorem sumRuns_le (k : Int) (l : List (Nat × Nat × Nat)) : sumRuns k l ≤ lenRuns l := by
  induction l with
  | nil => simp [sumRuns]
  | cons x l ih => simp only [sumRuns, lenRuns]; split <;> omega
theorem runs_len (ks : List Nat) : (runs ks).length ≤ ks.length := by
  rw [runs_from]
  have : ∀ (d f : Nat), ks.length - f ≤ d → f ≤ ks.length → (runsFrom ks f).length ≤ ks.length - f := by
    intro d
    induction d with
    | zero => intro f h hf; rw [runsFrom_done ks f (by omega)]; simp
    | succ d ih =>
      intro f h hf
      by_cases hl : f < ks.length
      · have h1 := runEnd_lt ks f hl
        have h2 := runEnd_le ks f (by omega)
        rw [runsFrom_step ks f hl]
        have := ih (runEnd ks f) (by omega) h2
        simp only [List.length_cons]
        omega
      · rw [runsFrom_done ks f (by omega)]; simp
  have := this ks.length 0 (by omega) (by omega)
  omega
end Go.Proofs.Ytgkpbmgbaonbhaa
