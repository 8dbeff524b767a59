/- Lists of slabs in a memory: plain words. -/
import Derived.Test.YtcagljjbiodcoaaDoorTm
namespace Go.Proofs.YtcagljjbiodcoaaDoor
set_option linter.unusedVariables false
open Go.RowKit

/-- The list l hangs at the pointer s, behind p. -/
def Lk (t : TM) : Nat → Nat → List Nat → Prop
  | _, s, [] => s = 0
  | p, s, x :: l => s = x + 1 ∧ x < t.a ∧ t.hd x 4 = p ∧ Lk t (x + 1) (t.hd x 3) l
theorem Lk.lt {t : TM} : ∀ {l : List Nat} {p s : Nat}, Lk t p s l → ∀ x ∈ l, x < t.a
  | [], _, _, _, x, hx => by cases hx
  | y :: l, p, s, ⟨_, h1, _, h2⟩, x, hx => by
    rcases List.mem_cons.1 hx with rfl | hx
    · exact h1
    · exact h2.lt x hx
/-- What lies elsewhere may turn. -/
theorem Lk.same {t u : TM} (ha : u.a = t.a) : ∀ {l : List Nat} {p s : Nat}, Lk t p s l → (∀ x ∈ l, u.hd x 3 = t.hd x 3 ∧ u.hd x 4 = t.hd x 4) → Lk u p s l
  | [], _, _, h, _ => h
  | y :: l, p, s, ⟨h0, h1, h2, h3⟩, hx => by
    obtain ⟨e1, e2⟩ := hx y (List.mem_cons_self ..)
    exact ⟨h0, by rw [ha]; exact h1, by rw [e2]; exact h2, by rw [e1]; exact h3.same ha (fun x hm => hx x (List.mem_cons_of_mem _ hm))⟩
/-- The pointer behind the first ones. -/
theorem Lk.split {t : TM} : ∀ {l m : List Nat} {p s : Nat}, Lk t p s (l ++ m) → ∃ p' s', Lk t p' s' m ∧ (l = [] → p' = p ∧ s' = s) ∧ (∀ x l', l = l' ++ [x] → p' = x + 1 ∧ s' = t.hd x 3)
  | [], m, p, s, h => ⟨p, s, h, fun _ => ⟨rfl, rfl⟩, fun x l' e => by simp at e⟩
  | y :: l, m, p, s, ⟨_, _, _, h⟩ => by
    obtain ⟨p', s', h1, h2, h3⟩ := h.split
    refine ⟨p', s', h1, fun e => (by cases e), fun x l' e => ?_⟩
    rcases l with _ | ⟨z, l⟩
    · rcases l' with _ | ⟨z', l'⟩
      · simp at e
        obtain ⟨e1, e2⟩ := h2 rfl
        rw [e1, e2, e]
        exact ⟨rfl, rfl⟩
      · simp at e
    · rcases l' with _ | ⟨z', l'⟩
      · simp at e
      · injection e with e1 e2
        exact h3 x l' e2

/-- Which slabs are in which list. -/
structure Lists (t : TM) (ls : Nat → List Nat) : Prop where
  ln : ∀ c, c ≤ 9 → Lk t 0 (t.rt (3 + c)) (ls c)
  sorted : ∀ c, c ≤ 9 → (ls c).Pairwise (· < ·)
  apart : ∀ c d, c ≤ 9 → d ≤ 9 → c ≠ d → ∀ x ∈ ls c, x ∉ ls d
  out : ∀ x, x < t.a → (∀ c, c ≤ 9 → x ∉ ls c) → t.hd x 3 = 0 ∧ t.hd x 4 = 0
end Go.Proofs.YtcagljjbiodcoaaDoor
