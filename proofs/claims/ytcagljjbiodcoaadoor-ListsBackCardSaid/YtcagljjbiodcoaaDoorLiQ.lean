/- Lists of slabs in a memory: which slab is in which list; inserting and removing. Plain words. -/
import Derived.Test.YtcagljjbiodcoaaDoorLiW
namespace Go.Proofs.YtcagljjbiodcoaaDoor
set_option linter.unusedVariables false
open Go.RowKit

def hd1 : List Nat → Nat
  | [] => 0
  | x :: _ => x + 1
def pvF (p : Nat) (l : List Nat) : Nat := if l = [] then p else pv l
theorem pvF_cons (p y : Nat) (l : List Nat) : pvF p (y :: l) = pvF (y + 1) l := by
  unfold pvF
  rw [if_neg (by simp)]
  by_cases h : l = []
  · rw [if_pos h, h]; rfl
  · rw [if_neg h]
    unfold pv
    obtain ⟨z, l', e2⟩ : ∃ z l', l = l' ++ [z] := ⟨l.getLast h, l.dropLast, (List.dropLast_concat_getLast h).symm⟩
    rw [e2, ← List.cons_append, List.getLast?_append, List.getLast?_append]
    rfl
/-- A chain, place by place. -/
theorem Lk_iff {t : TM} : ∀ {l : List Nat} {p s : Nat}, Lk t p s l ↔ s = hd1 l ∧ ∀ l1 y l2, l = l1 ++ y :: l2 → y < t.a ∧ t.hd y 4 = pvF p l1 ∧ t.hd y 3 = hd1 l2
  | [], p, s => ⟨fun h => ⟨h, fun l1 y l2 e => by simp at e⟩, fun h => h.1⟩
  | x :: l, p, s => by
    constructor
    · rintro ⟨h0, h1, h2, h3⟩
      obtain ⟨e1, e2⟩ := Lk_iff.1 h3
      refine ⟨h0, fun l1 y l2 e => ?_⟩
      rcases l1 with _ | ⟨z, l1⟩
      · simp at e
        obtain ⟨rfl, rfl⟩ := e
        exact ⟨h1, by rw [h2]; rfl, e1⟩
      · simp at e
        obtain ⟨rfl, rfl⟩ := e
        obtain ⟨a1, a2, a3⟩ := e2 l1 y l2 rfl
        exact ⟨a1, by rw [pvF_cons]; exact a2, a3⟩
    · rintro ⟨h0, h⟩
      obtain ⟨a1, a2, a3⟩ := h [] x l rfl
      refine ⟨h0, a1, a2, Lk_iff.2 ⟨a3, fun l1 y l2 e => ?_⟩⟩
      obtain ⟨b1, b2, b3⟩ := h (x :: l1) y l2 (by rw [e]; rfl)
      exact ⟨b1, by rw [pvF_cons] at b2; exact b2, b3⟩
theorem pvF0 (l : List Nat) : pvF 0 l = pv l := by
  unfold pvF
  split
  · next h => rw [h]; rfl
  · rfl
theorem pv_app (l m : List Nat) (h : m ≠ []) : pv (l ++ m) = pv m := by
  obtain ⟨z, l', e2⟩ : ∃ z l', m = l' ++ [z] := ⟨m.getLast h, m.dropLast, (List.dropLast_concat_getLast h).symm⟩
  rw [e2, ← List.append_assoc, pv_snoc, pv_snoc]
theorem hd1_app (l m : List Nat) (h : l ≠ []) : hd1 (l ++ m) = hd1 l := by
  rcases l with _ | ⟨x, l⟩
  · exact absurd rfl h
  · rfl
theorem pv_cons_app (x : Nat) (r : List Nat) (h : r ≠ []) : pv (x :: r) = pv r := pv_app [x] r h
theorem split3 {l1 l2 m1 m2 : List Nat} {x y : Nat} (h : l1 ++ x :: l2 = m1 ++ y :: m2) : (l1 = m1 ∧ x = y ∧ l2 = m2) ∨ (∃ r, l1 = m1 ++ y :: r ∧ m2 = r ++ x :: l2) ∨ (∃ r, l2 = r ++ y :: m2 ∧ m1 = l1 ++ x :: r) := by
  rcases List.append_eq_append_iff.1 h with ⟨a, h1, h2⟩ | ⟨a, h1, h2⟩
  · rcases a with _ | ⟨z, a⟩
    · simp at h1 h2; exact .inl ⟨h1.symm, h2.1, h2.2⟩
    · simp at h2
      obtain ⟨rfl, rfl⟩ := h2
      exact .inr (.inr ⟨a, rfl, h1⟩)
  · rcases a with _ | ⟨z, a⟩
    · simp at h1 h2; exact .inl ⟨h1, h2.1.symm, h2.2.symm⟩
    · simp at h2
      obtain ⟨rfl, rfl⟩ := h2
      exact .inr (.inl ⟨a, h1, rfl⟩)
theorem split2 {l1 l2 m1 m2 : List Nat} {y : Nat} (h : l1 ++ l2 = m1 ++ y :: m2) : (∃ r, l1 = m1 ++ y :: r ∧ m2 = r ++ l2) ∨ (∃ r, l2 = r ++ y :: m2 ∧ m1 = l1 ++ r) := by
  rcases List.append_eq_append_iff.1 h with ⟨a, h1, h2⟩ | ⟨a, h1, h2⟩
  · exact .inr ⟨a, h2, h1⟩
  · rcases a with _ | ⟨z, a⟩
    · simp at h1 h2; exact .inr ⟨[], by simp [h2], by simp [h1]⟩
    · simp at h2
      obtain ⟨rfl, rfl⟩ := h2
      exact .inl ⟨a, h1, rfl⟩

/-- What link writes. -/
def TM.after (t : TM) (c p n : Nat) : TM := if 0 < p then t.setHd (p - 1) 3 n else t.setRt (3 + c) n
def TM.lnk (t : TM) (c x p n : Nat) : TM :=
  let t2 := (t.setHd x 4 p).setHd x 3 n
  (if 0 < n then t2.setHd (n - 1) 4 (x + 1) else t2).after c p (x + 1)
/-- What a removal writes. -/
def TM.unl (t : TM) (c x p n : Nat) : TM :=
  let t2 := t.after c p n
  ((if 0 < n then t2.setHd (n - 1) 4 p else t2).setHd x 3 0).setHd x 4 0
theorem after_rt (t : TM) (c p n f : Nat) : (t.after c p n).rt f = if p = 0 ∧ f = 3 + c then n else t.rt f := by
  unfold TM.after
  by_cases h : 0 < p
  · rw [if_pos h, if_neg (by omega)]; rfl
  · rw [if_neg h, TM.setRt_rt]
    by_cases h2 : f = 3 + c
    · rw [if_pos h2, if_pos ⟨by omega, h2⟩]
    · rw [if_neg h2, if_neg (fun e => h2 e.2)]
theorem after_hd (t : TM) (c p n y r : Nat) : (t.after c p n).hd y r = if 0 < p ∧ y = p - 1 ∧ r = 3 then n else t.hd y r := by
  unfold TM.after
  by_cases h : 0 < p
  · rw [if_pos h, TM.setHd_hd]
    by_cases h2 : y = p - 1 ∧ r = 3
    · rw [if_pos h2, if_pos ⟨h, h2⟩]
    · rw [if_neg h2, if_neg (fun e => h2 e.2)]
  · rw [if_neg h, if_neg (fun e => h e.1)]; rfl
theorem after_a (t : TM) (c p n : Nat) : (t.after c p n).a = t.a := by unfold TM.after; split <;> rfl
theorem lnk_rt (t : TM) (c x p n f : Nat) : (t.lnk c x p n).rt f = if p = 0 ∧ f = 3 + c then x + 1 else t.rt f := by
  unfold TM.lnk
  rw [after_rt]
  congr 1
  split <;> rfl
theorem lnk_hd (t : TM) (c x p n y r : Nat) : (t.lnk c x p n).hd y r = if 0 < p ∧ y = p - 1 ∧ r = 3 then x + 1 else if 0 < n ∧ y = n - 1 ∧ r = 4 then x + 1 else if y = x ∧ r = 3 then n else if y = x ∧ r = 4 then p else t.hd y r := by
  unfold TM.lnk
  rw [after_hd]
  congr 1
  by_cases h : 0 < n
  · rw [if_pos h, TM.setHd_hd, TM.setHd_hd, TM.setHd_hd]
    by_cases h2 : y = n - 1 ∧ r = 4
    · rw [if_pos h2, if_pos ⟨h, h2⟩]
    · rw [if_neg h2, if_neg (show ¬ (0 < n ∧ y = n - 1 ∧ r = 4) from fun e => h2 e.2)]
  · rw [if_neg h, TM.setHd_hd, TM.setHd_hd, if_neg (show ¬ (0 < n ∧ y = n - 1 ∧ r = 4) from fun e => h e.1)]
theorem lnk_a (t : TM) (c x p n : Nat) : (t.lnk c x p n).a = t.a := by
  unfold TM.lnk
  rw [after_a]
  split <;> rfl
theorem unl_rt (t : TM) (c x p n f : Nat) : (t.unl c x p n).rt f = if p = 0 ∧ f = 3 + c then n else t.rt f := by
  unfold TM.unl
  rw [← after_rt]
  show (if 0 < n then _ else _ : TM).rt f = _
  split <;> rfl
theorem unl_hd (t : TM) (c x p n y r : Nat) : (t.unl c x p n).hd y r = if y = x ∧ (r = 3 ∨ r = 4) then 0 else if 0 < n ∧ y = n - 1 ∧ r = 4 then p else if 0 < p ∧ y = p - 1 ∧ r = 3 then n else t.hd y r := by
  unfold TM.unl
  rw [TM.setHd_hd, TM.setHd_hd]
  by_cases h1 : y = x ∧ r = 4
  · rw [if_pos h1, if_pos ⟨h1.1, .inr h1.2⟩]
  · rw [if_neg h1]
    by_cases h2 : y = x ∧ r = 3
    · rw [if_pos h2, if_pos ⟨h2.1, .inl h2.2⟩]
    · rw [if_neg h2, if_neg (show ¬ (y = x ∧ (r = 3 ∨ r = 4)) from fun e => e.2.elim (fun e3 => h2 ⟨e.1, e3⟩) (fun e4 => h1 ⟨e.1, e4⟩))]
      by_cases h : 0 < n
      · rw [if_pos h, TM.setHd_hd, after_hd]
        by_cases h3 : y = n - 1 ∧ r = 4
        · rw [if_pos h3, if_pos ⟨h, h3⟩]
        · rw [if_neg h3, if_neg (show ¬ (0 < n ∧ y = n - 1 ∧ r = 4) from fun e => h3 e.2)]
      · rw [if_neg h, after_hd, if_neg (show ¬ (0 < n ∧ y = n - 1 ∧ r = 4) from fun e => h e.1)]
theorem unl_a (t : TM) (c x p n : Nat) : (t.unl c x p n).a = t.a := by
  unfold TM.unl
  show (if 0 < n then _ else _ : TM).a = _
  split
  · exact after_a t c p n
  · exact after_a t c p n
theorem pv_pos {l : List Nat} (h : 0 < pv l) : ∃ l' y, l = l' ++ [y] ∧ pv l = y + 1 := by
  have h0 : l ≠ [] := fun e => by rw [e] at h; exact absurd h (by decide)
  refine ⟨l.dropLast, l.getLast h0, (List.dropLast_concat_getLast h0).symm, ?_⟩
  conv => lhs; rw [← List.dropLast_concat_getLast h0]
  exact pv_snoc _ _
theorem hd1_pos {l : List Nat} (h : 0 < hd1 l) : ∃ y l', l = y :: l' ∧ hd1 l = y + 1 := by
  rcases l with _ | ⟨y, l⟩
  · exact absurd h (by decide)
  · exact ⟨y, l, rfl, rfl⟩

/-- A slab is put between two parts of a list. -/
theorem Lk_ins {t : TM} {c x : Nat} {l1 l2 : List Nat} (h : Lk t 0 (t.rt (3 + c)) (l1 ++ l2)) (hx : x < t.a) (h1 : x ∉ l1) (h2 : x ∉ l2) (hd : ∀ y ∈ l1, y ∉ l2) (hn1 : l1.Nodup) (hn2 : l2.Nodup) :
    Lk (t.lnk c x (pv l1) (hd1 l2)) 0 ((t.lnk c x (pv l1) (hd1 l2)).rt (3 + c)) (l1 ++ x :: l2) := by
  obtain ⟨e0, e⟩ := Lk_iff.1 h
  rw [Lk_iff]
  have k1 : ∀ y, 0 < pv l1 → y = pv l1 - 1 → y ∈ l1 := fun y hp hy => by
    obtain ⟨l', z, e1, e2⟩ := pv_pos hp
    rw [hy, e2, e1]; simp
  have k2 : ∀ y, 0 < hd1 l2 → y = hd1 l2 - 1 → y ∈ l2 := fun y hp hy => by
    obtain ⟨z, l', e1, e2⟩ := hd1_pos hp
    rw [hy, e2, e1]; simp
  constructor
  · rw [lnk_rt]
    rcases l1 with _ | ⟨z, l1⟩
    · rw [if_pos ⟨rfl, rfl⟩]; rfl
    · rw [if_neg (by
        intro h
        have : pv (z :: l1) = 0 := h.1
        obtain ⟨l', y, e1⟩ : ∃ l' y, z :: l1 = l' ++ [y] := ⟨(z :: l1).dropLast, (z :: l1).getLast (by simp), (List.dropLast_concat_getLast (by simp)).symm⟩
        rw [e1, pv_snoc] at this
        omega), e0]
      rfl
  · intro m1 y m2 em
    rw [lnk_a, pvF0]
    rw [lnk_hd, lnk_hd]
    rcases split3 em with ⟨rfl, rfl, rfl⟩ | ⟨r, rfl, rfl⟩ | ⟨r, rfl, rfl⟩
    · refine ⟨hx, ?_, ?_⟩
      · rw [if_neg (by omega), if_neg (fun h => h2 (k2 _ h.1 h.2.1)), if_neg (by omega), if_pos ⟨rfl, rfl⟩]
      · rw [if_neg (fun h => h1 (k1 _ h.1 h.2.1)), if_neg (by omega), if_pos ⟨rfl, rfl⟩]
    · obtain ⟨a1, a2, a3⟩ := e m1 y (r ++ l2) (by simp)
      have hyx : y ≠ x := fun e => h1 (by rw [← e]; simp)
      have hy2 : y ∉ l2 := hd y (by simp)
      refine ⟨a1, ?_, ?_⟩
      · rw [if_neg (by omega), if_neg (fun h => hy2 (k2 _ h.1 h.2.1)), if_neg (fun h => hyx h.1), if_neg (fun h => hyx h.1), a2, pvF0]
      · rcases r with _ | ⟨z, r⟩
        · rw [if_pos ⟨by rw [pv_snoc]; omega, by rw [pv_snoc]; omega, rfl⟩]
          rfl
        · rw [if_neg (fun h => ?_), if_neg (by omega), if_neg (fun h => hyx h.1), if_neg (fun h => hyx h.1), a3]
          · rfl
          · have hl : pv (m1 ++ y :: z :: r) = pv (z :: r) := by
              rw [show m1 ++ y :: z :: r = (m1 ++ [y]) ++ (z :: r) by simp]
              exact pv_app _ _ (by simp)
            obtain ⟨l', u, e1, e2⟩ := pv_pos (l := z :: r) (by rw [← hl]; exact h.1)
            have hyu : y = u := by have := h.2.1; rw [hl, e2] at this; omega
            have : y ∈ z :: r := by rw [e1, hyu]; simp
            have hnd := (List.nodup_append.1 hn1).2.1
            exact (List.nodup_cons.1 hnd).1 this
    · obtain ⟨a1, a2, a3⟩ := e (l1 ++ r) y m2 (by simp)
      have hyx : y ≠ x := fun e => h2 (by rw [← e]; simp)
      have hy1 : y ∉ l1 := fun hm => hd y hm (by simp)
      refine ⟨a1, ?_, ?_⟩
      · rcases r with _ | ⟨z, r⟩
        · rw [if_neg (by omega), if_pos ⟨by simp [hd1], by simp [hd1], rfl⟩, pv_snoc]
        · rw [if_neg (by omega), if_neg (fun hh => ?_), if_neg (fun h => hyx h.1), if_neg (fun h => hyx h.1), a2, pvF0, show l1 ++ x :: z :: r = (l1 ++ [x]) ++ (z :: r) by simp, pv_app (l1 ++ [x]) (z :: r) (by simp), pv_app l1 (z :: r) (by simp)]
          have hyz : y = z := by have := hh.2.1; simp [hd1] at this; omega
          subst hyz
          rw [List.cons_append] at hn2
          exact (List.nodup_cons.1 hn2).1 (by simp)
      · rw [if_neg (fun h => hy1 (k1 _ h.1 h.2.1)), if_neg (by omega), if_neg (fun h => hyx h.1), if_neg (fun h => hyx h.1), a3]
end Go.Proofs.YtcagljjbiodcoaaDoor
