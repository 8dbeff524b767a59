/- Plain laws of heads and bytes: heads come back from their bytes, and bytes from their heads. -/
import Derived.Test.YtcagljjbiodcoaaDoorDec
namespace Go.Proofs.YtcagljjbiodcoaaDoor
set_option linter.unusedVariables false
open Go.RowKit

theorem wh_disj' : ∀ t, t < 3 → ∀ f, f < 12 → ∀ g, g < 12 → f = g ∨ (wh t f).2 = 0 ∨ (wh t g).2 = 0 ∨ (wh t f).1 + (wh t f).2 ≤ (wh t g).1 ∨ (wh t g).1 + (wh t g).2 ≤ (wh t f).1 := by decide +kernel
theorem wh_disj (t : Nat) (ht : t < 3) (f : Nat) (hf : f < 12) (g : Nat) (hg : g < 12) (hne : f ≠ g) (j : Nat) (hj : j < (wh t f).2) : ¬ ((wh t g).1 ≤ (wh t f).1 + j ∧ (wh t f).1 + j < (wh t g).1 + (wh t g).2) := by
  have := wh_disj' t ht f hf g hg
  omega
theorem wh_cover' : ∀ t, t < 3 → ∀ i, i < sz t → ∃ f ∈ List.range 12, ∃ j ∈ List.range (wh t f).2, i = (wh t f).1 + j := by decide +kernel
theorem wh_cover (t : Nat) (ht : t < 3) (i : Nat) (hi : i < sz t) : ∃ f, f < 12 ∧ ∃ j, j < (wh t f).2 ∧ i = (wh t f).1 + j := by
  obtain ⟨f, hf, j, hj, e⟩ := wh_cover' t ht i hi
  exact ⟨f, List.mem_range.1 hf, j, List.mem_range.1 hj, e⟩
theorem wh_fit : ∀ t, t < 3 → ∀ f, f < 12 → (wh t f).2 = 0 ∨ (wh t f).1 + (wh t f).2 ≤ sz t := by decide +kernel
theorem whZ_nat (t k : Nat) (ht : t < 3) (hk : k < 12) : whZ t k = wh t k := by unfold whZ; rw [if_pos (by omega), Int.toNat_natCast, Int.toNat_natCast]
theorem szZ_nat (t : Nat) (ht : t < 3) : szZ t = sz t := by unfold szZ; rw [if_pos (by omega), Int.toNat_natCast]

theorem enc_get (x : HB) (t : Nat) (ht : t < 3) (hx : x.tag = t) : ∀ k, k ≤ 12 → ∀ f, f < k → ∀ j, j < (wh t f).2 → (x.encTo k)[(wh t f).1 + j]?.getD 0 = x.num f / 256 ^ j % 256
  | 0, _, f, hf, _, _ => by omega
  | k + 1, hk, f, hf, j, hj => by
    rw [HB.encTo, hx, whZ_nat t k ht (by omega)]
    by_cases h0 : (wh t k).2 = 0
    · rw [h0]
      by_cases e : f = k
      · subst e; omega
      · exact enc_get x t ht hx k (by omega) f (by omega) j hj
    · have hfit := (wh_fit t ht k (by omega)).resolve_left h0
      rw [putTo_get _ _ _ _ (by rw [encTo_len, hx, szZ_nat t ht]; exact hfit)]
      by_cases e : f = k
      · subst e
        rw [if_pos (by omega), Nat.add_sub_cancel_left]
      · rw [if_neg (wh_disj t ht f (by omega) k (by omega) e j hj)]
        exact enc_get x t ht hx k (by omega) f (by omega) j hj

theorem w64_wrap (n : Nat) (h : n < 18446744073709551616) : w64 (IntKind.i64.wrap (n : Int)) = n := by
  rw [IntKind.wrap_i64, w64]; omega
theorem wrap_w64 (z : Int) (h : -9223372036854775808 ≤ z ∧ z ≤ 9223372036854775807) : IntKind.i64.wrap (w64 z : Int) = z := by
  rw [IntKind.wrap_i64, w64]; omega

theorem ofNums_num (x : HB) (hx : x.Ok) : HB.ofNums x.num = x := by
  obtain ⟨tag, cls, used, label, name, next, prev, refs, expiry, typ, size, hash⟩ := x
  obtain ⟨h1, h2, h3, h4, h5, h6, h7, h8, h9, h10, h11⟩ := hx
  simp only at h1 h2 h3 h4 h5 h6 h7 h8 h9 h10 h11
  simp only [HB.ofNums, HB.num, HB.nums, List.getElem?_cons_zero, List.getElem?_cons_succ, Option.getD_some, wrap_w64 _ h1, wrap_w64 _ h2, wrap_w64 _ h3, wrap_w64 _ h10, Nat.mod_eq_of_lt h4, Nat.mod_eq_of_lt h5, Nat.mod_eq_of_lt h6, Nat.mod_eq_of_lt h7, Nat.mod_eq_of_lt h9, Nat.mod_eq_of_lt h11]
  cases used <;> rfl

theorem lack_num (x : HB) : ∀ k, x.lackTo k = false → ∀ f, f < k → (whZ x.tag f).2 = 0 → x.num f = 0
  | 0, _, f, hf, _ => by omega
  | k + 1, h, f, hf, hw => by
    simp only [HB.lackTo, Bool.or_eq_false_iff] at h
    by_cases e : f = k
    · subst e
      have := h.2
      simp [HB.lackAt, hw] at this
      exact this
    · exact lack_num x k h.1 f (by omega) hw

/-- A right head's numbers fit their fields. -/
theorem num_fit (x : HB) (hx : x.Ok) (t : Nat) (ht : t < 3) (htag : x.tag = t) (hr : x.right = true) (f : Nat) (hf : f < 12) (hw : (wh t f).2 ≠ 0) : x.num f < 256 ^ (wh t f).2 := by
  obtain ⟨tag, cls, used, label, name, next, prev, refs, expiry, typ, size, hash⟩ := x
  obtain ⟨h1, h2, h3, h4, h5, h6, h7, h8, h9, h10, h11⟩ := hx
  simp only at h1 h2 h3 h4 h5 h6 h7 h8 h9 h10 h11 htag
  subst htag
  have hcl : 0 ≤ cls ∧ cls ≤ 9 ∧ 0 ≤ label ∧ label ≤ 63 ∧ 0 ≤ size ∧ size ≤ 480 := by
    simp only [HB.right, rightT, Bool.and_eq_true, decide_eq_true_eq] at hr
    obtain ⟨⟨⟨_, _, hs⟩, _⟩, hr⟩ := hr
    split at hr
    · simp at hr; omega
    · rw [Bool.and_eq_true] at hr
      obtain ⟨hr1, hr⟩ := hr
      split at hr <;> simp at hr hr1 <;> omega
  have hv : ∀ z : Int, 0 ≤ z → z ≤ 480 → w64 z ≤ 480 := fun z _ _ => by unfold w64; omega
  have hv2 : ∀ z : Int, 0 ≤ z → z ≤ 63 → w64 z ≤ 63 := fun z _ _ => by unfold w64; omega
  have c1 := hv2 cls (by omega) (by omega)
  have c2 := hv2 label (by omega) (by omega)
  have c3 := hv size (by omega) (by omega)
  have c4 := hv2 (t : Int) (by omega) (by omega)
  have c5 : (if used = true then 1 else 0 : Nat) ≤ 1 := by split <;> omega
  revert hw
  rcases t with _ | _ | _ | t <;> try omega
  all_goals
    rcases f with _ | _ | _ | _ | _ | _ | _ | _ | _ | _ | _ | _ | f <;> try omega
    all_goals
      simp only [HB.num, HB.nums, List.getElem?_cons_zero, List.getElem?_cons_succ, Option.getD_some]
      simp [wh, commonL, ownL]
      try first | omega | decide

theorem dec_enc (x : HB) (hx : x.Ok) (hr : x.right = true) (s : List Nat) (hs : ∀ b ∈ s, b < 256) : dec (x.enc ++ s) = (0, x) := by
  have htg : 0 ≤ x.tag ∧ x.tag ≤ 2 := by
    simp only [HB.right, Bool.and_eq_true, decide_eq_true_eq] at hr
    omega
  have hlk : x.lackTo 12 = false := by
    simp only [HB.right, Bool.and_eq_true] at hr
    simpa using hr.1.2
  obtain ⟨t, htag⟩ : ∃ t : Nat, x.tag = t := ⟨x.tag.toNat, by omega⟩
  have ht : t < 3 := by omega
  have hlen : x.enc.length = sz t := by rw [HB.enc, encTo_len, htag, szZ_nat t ht]
  have hN : ∀ f, f < 12 → decN (x.enc ++ s) t f = x.num f := fun f hf => by
    unfold decN
    rw [whZ_nat t f ht hf]
    by_cases h0 : (wh t f).2 = 0
    · rw [if_pos h0]
      exact (lack_num x 12 hlk f hf (by rw [htag, whZ_nat t f ht hf]; exact h0)).symm
    · rw [if_neg h0]
      have hfit := (wh_fit t ht f hf).resolve_left h0
      rw [ldTo_of _ _ (x.num f) _ (fun j hj => by
        rw [List.getElem?_append_left (by omega)]
        exact enc_get x t ht htag 12 (by omega) f hf j hj)]
      exact Nat.mod_eq_of_lt (num_fit x hx t ht htag hr f hf h0)
  have hsz : 8 ≤ sz t := by
    rcases t with _ | _ | _ | t <;> first | omega | decide
  have hb0 : (x.enc ++ s)[0]?.getD 0 = t := by
    have h1 : wh t 0 = (0, 1) := by
      rcases t with _ | _ | _ | t <;> first | omega | rfl
    have h2 := enc_get x t ht htag 12 (by omega) 0 (by omega) 0 (by rw [h1]; decide)
    rw [h1] at h2
    rw [List.getElem?_append_left (by omega), show x.enc = x.encTo 12 from rfl]
    have h3 : (x.encTo 12)[0]?.getD 0 = x.num 0 / 256 ^ 0 % 256 := h2
    rw [h3]
    have h4 : x.num 0 = t := by
      show w64 x.tag = t
      rw [htag, w64]; omega
    rw [h4]; omega
  have hof : HB.ofNums (decN (x.enc ++ s) t) = x := by
    rw [← ofNums_12, hN 0 (by omega), hN 1 (by omega), hN 2 (by omega), hN 3 (by omega), hN 4 (by omega), hN 5 (by omega), hN 6 (by omega), hN 7 (by omega), hN 8 (by omega), hN 9 (by omega), hN 10 (by omega), hN 11 (by omega), ofNums_12, ofNums_num x hx]
  have h2 : x.num 2 ≤ 1 := by
    show (if x.used then 1 else 0 : Nat) ≤ 1
    split <;> omega
  unfold dec
  rw [if_neg (by rw [List.length_append]; omega), hb0, if_neg (by omega), if_neg (by rw [List.length_append, szZ_nat t ht]; omega), hof, hr, if_neg (by rw [hN 2 (by omega)]; simp; omega)]

/-- What bytes' head is, and what it says of the bytes. -/
theorem enc_dec (b : List Nat) (hb : ∀ x ∈ b, x < 256) (h : (dec b).1 = 0) : (dec b).2.Ok ∧ (dec b).2.right = true ∧ (dec b).2.enc.length ≤ b.length ∧ (dec b).2.enc = b.take (dec b).2.enc.length := by
  unfold dec at h ⊢
  by_cases h0 : b.length = 0
  · rw [if_pos h0] at h; simp at h
  rw [if_neg h0] at h ⊢
  by_cases h2 : 2 < b[0]?.getD 0
  · rw [if_pos h2] at h; simp at h
  rw [if_neg h2] at h ⊢
  by_cases h3 : b.length < szZ (b[0]?.getD 0 : Nat)
  · rw [if_pos h3] at h; simp at h
  rw [if_neg h3] at h ⊢
  by_cases h4 : 1 < decN b (b[0]?.getD 0 : Nat) 2 ∨ (HB.ofNums (decN b (b[0]?.getD 0 : Nat))).right = false
  · rw [if_pos h4] at h; simp at h
  rw [if_neg h4]
  have htv : ∃ t, t = b[0]?.getD 0 := ⟨_, rfl⟩
  obtain ⟨t, htv⟩ := htv
  rw [← htv] at h2 h3 h4 ⊢
  have ht : t < 3 := by omega
  rw [szZ_nat t ht] at h3
  have hlt := decN_lt b hb (t : Int)
  have hok := ofNums_ok _ hlt
  have hright : (HB.ofNums (decN b (t : Int))).right = true := by
    rcases e : (HB.ofNums (decN b (t : Int))).right with _ | _
    · exact absurd (.inr e) h4
    · rfl
  have hfl : ∀ f, f < 12 → decN b t f = if (wh t f).2 = 0 then 0 else ldTo b (wh t f).1 (wh t f).2 := fun f hf => by unfold decN; rw [whZ_nat t f ht hf]
  have hfw : ∀ f, f < 12 → decN b t f < 256 ^ (wh t f).2 := fun f hf => by
    rw [hfl f hf]
    split
    · exact Nat.pow_pos (by decide)
    · exact ldTo_lt b hb _ _
  have hn0 : decN b t 0 = t := by
    have h1 : wh t 0 = (0, 1) := by
      rcases t with _ | _ | _ | t <;> first | omega | rfl
    rw [hfl 0 (by omega), h1, if_neg (by decide), htv]
    simp [ldTo]
  have htag : (HB.ofNums (decN b (t : Int))).tag = t := by
    show IntKind.i64.wrap (decN b t 0 : Int) = t
    rw [hn0, IntKind.wrap_i64]; omega
  have hnum : ∀ f, f < 12 → (HB.ofNums (decN b (t : Int))).num f = decN b t f := fun f hf => by
    have hm : ∀ f, f < 12 → ∀ m, 256 ^ (wh t f).2 ≤ m → decN b t f % m = decN b t f := fun f hf m hm => Nat.mod_eq_of_lt (Nat.lt_of_lt_of_le (hfw f hf) hm)
    have hp : ∀ f, f = 4 ∨ f = 5 ∨ f = 6 ∨ f = 10 ∨ f = 11 → 256 ^ (wh t f).2 ≤ 4294967296 := fun f hf => by
      rcases t with _ | _ | _ | t <;> first | omega | (rcases hf with rfl | rfl | rfl | rfl | rfl <;> decide)
    have hp8 : 256 ^ (wh t 8).2 ≤ 65536 := by
      rcases t with _ | _ | _ | t <;> first | omega | decide
    have hu : (if (decN b t 2 == 1) = true then 1 else 0 : Nat) = decN b t 2 := by
      by_cases e : decN b t 2 = 1
      · simp [e]
      · have : ¬ 1 < decN b t 2 := fun h => h4 (.inl h)
        have e0 : decN b t 2 = 0 := by omega
        simp [e0]
    rcases f with _ | _ | _ | _ | _ | _ | _ | _ | _ | _ | _ | _ | f <;> try omega
    · exact w64_wrap _ (hlt 0)
    · exact w64_wrap _ (hlt 1)
    · exact hu
    · exact w64_wrap _ (hlt 3)
    · exact hm 4 (by omega) _ (hp 4 (by omega))
    · exact hm 5 (by omega) _ (hp 5 (by omega))
    · exact hm 6 (by omega) _ (hp 6 (by omega))
    · rfl
    · exact hm 8 (by omega) _ hp8
    · exact w64_wrap _ (hlt 9)
    · exact hm 10 (by omega) _ (hp 10 (by omega))
    · exact hm 11 (by omega) _ (hp 11 (by omega))
  generalize HB.ofNums (decN b (t : Int)) = y at *
  have hlen : y.enc.length = sz t := by rw [HB.enc, encTo_len, htag, szZ_nat t ht]
  refine ⟨hok, hright, by show y.enc.length ≤ _; omega, ?_⟩
  show y.enc = b.take y.enc.length
  rw [hlen]
  apply List.ext_getElem?
  intro i
  by_cases hi : i < sz t
  · obtain ⟨f, hf, j, hj, rfl⟩ := wh_cover t ht i hi
    have h1 := enc_get y t ht htag 12 (by omega) f hf j hj
    rw [hnum f hf, hfl f hf, if_neg (by omega), ldTo_byte b hb _ _ j hj] at h1
    rw [List.getElem?_take_of_lt hi, List.getElem?_eq_getElem (by omega), List.getElem?_eq_getElem (by omega)]
    have h2 : y.enc[(wh t f).1 + j]?.getD 0 = b[(wh t f).1 + j]?.getD 0 := h1
    rw [List.getElem?_eq_getElem (by omega), List.getElem?_eq_getElem (by omega)] at h2
    simpa using h2
  · rw [List.getElem?_eq_none (by omega), List.getElem?_eq_none (by rw [List.length_take]; omega)]
end Go.Proofs.YtcagljjbiodcoaaDoor
