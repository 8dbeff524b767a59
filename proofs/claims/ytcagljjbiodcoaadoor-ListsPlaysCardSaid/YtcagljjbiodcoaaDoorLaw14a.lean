/- Layer 14: acts on lists; ListsSorted. -/
import Derived.Test.YtcagljjbiodcoaaDoorGD
import Derived.Test.YtcagljjbiodcoaaDoorOpen14
import Derived.Deep.RegionHeld3
import Derived.Deep.RegionWith
import Derived.BigQuiet
namespace Go.Proofs.YtcagljjbiodcoaaDoor
set_option linter.unusedVariables false
open Go.RowKit

/-- A memory with lists, made since w0. -/
structure S14 (w0 : World) (q : MH) (a : Nat) (W : World) : Prop where
  x : ∃ t inn, IsT W q t ∧ LS t inn ∧ t.a = a
  f : Fr [] w0 W
  hq : ∀ k ∈ q.blocks, w0.heap.size ≤ k
theorem S14.drew {w0 W : World} {q : MH} {a : Nat} (h : S14 w0 q a W) : S14 w0 q a W.drew := by
  obtain ⟨t, inn, h1, h2, h3⟩ := h.x
  exact ⟨⟨t, inn, h1.drew, h2, h3⟩, h.f.drew, h.hq⟩
theorem s14_ins {w0 W : World} {q : MH} {a : Nat} (h : S14 w0 q a W) (c x : Int) :
    Calls Tryd.prog 33 #[.pointer (some ⟨q.m, 0, none⟩), .int .i64 c, .int .i64 x] W fun e w' => ∃ r : Nat, e = .returned (.int .i64 r) ∧ S14 w0 q a w' := by
  obtain ⟨⟨t, inn, hi, hl, ha⟩, hf, hq⟩ := h
  exact (liins hi hl c x).mono fun e w' ⟨he, t', h1, h2, h3, h4⟩ => ⟨_, he, ⟨t', _, h1, h2, h3.a.trans ha⟩, hf.step h4 (fun k hk => .inr (hq k hk)), hq⟩
theorem s14_rem {w0 W : World} {q : MH} {a : Nat} (h : S14 w0 q a W) (c x : Int) :
    Calls Tryd.prog 34 #[.pointer (some ⟨q.m, 0, none⟩), .int .i64 c, .int .i64 x] W fun e w' => ∃ r : Nat, e = .returned (.int .i64 r) ∧ S14 w0 q a w' := by
  obtain ⟨⟨t, inn, hi, hl, ha⟩, hf, hq⟩ := h
  exact (lirem hi hl c x).mono fun e w' ⟨he, t', h1, h2, h3, h4⟩ => ⟨_, he, ⟨t', _, h1, h2, h3.a.trans ha⟩, hf.step h4 (fun k hk => .inr (hq k hk)), hq⟩
theorem s14_beg {w0 W : World} {q : MH} {a s : Nat} (h : IsT W q (newT a s)) (hf : Fr [] w0 W) (hq : ∀ k ∈ q.blocks, w0.heap.size ≤ k) :
    Calls Tryd.prog 32 #[.pointer (some ⟨q.m, 0, none⟩)] W fun e w' => e = .returned (.int .i64 0) ∧ S14 w0 q a w' :=
  (libegin h).mono fun e w' ⟨he, hi, hf'⟩ => ⟨he, ⟨_, _, hi, beg_LS _ _ (Nat.le_refl _), beg_a _ _⟩, hf.step hf' (fun k hk => .inr (hq k hk)), hq⟩
theorem cfg16 : Cfg 16 512 := ⟨by decide, by decide, by decide, by decide, by decide⟩

/-- How often each slab was seen, in the lists below c and the first ones of list c. -/
def seenF (inn : Nat → Int) (c : Nat) (l : List Nat) (j : Nat) (i : Nat) : Int := if (0 ≤ inn i ∧ inn i < c) ∨ i ∈ l.take j then 1 else 0
theorem seen_0 (inn : Nat → Int) (c i : Nat) (l : List Nat) : seenF inn c l 0 i = seenF inn c [] 0 i := by simp [seenF]
theorem seen_step (inn : Nat → Int) (c : Nat) (l : List Nat) (j : Nat) (h : j < l.length) (hn : l.Pairwise (· < ·)) (hc : ∀ y ∈ l, inn y = (c : Int)) :
    seenF inn c l j l[j] = 0 ∧ ∀ i, seenF inn c l (j + 1) i = if i = l[j] then 1 else seenF inn c l j i := by
  have hm : l[j] ∈ l := List.getElem_mem _
  have hnt : l[j] ∉ l.take j := fun hm => by
    obtain ⟨k, hk, e⟩ := List.mem_iff_getElem.1 hm
    rw [List.length_take] at hk
    rw [List.getElem_take] at e
    have := List.pairwise_iff_getElem.1 hn k j (by omega) h (by omega)
    omega
  constructor
  · unfold seenF
    rw [if_neg]
    rintro (hh | hh)
    · have := hc _ hm; omega
    · exact hnt hh
  · intro i
    have ht : ∀ x, x ∈ l.take (j + 1) ↔ x ∈ l.take j ∨ x = l[j] := fun x => by
      rw [← List.take_append_getElem h, List.mem_append, List.mem_singleton]
    unfold seenF
    by_cases e : i = l[j]
    · rw [if_pos e, if_pos (.inr ((ht i).2 (.inr e)))]
    · rw [if_neg e]
      by_cases h1 : (0 ≤ inn i ∧ inn i < c) ∨ i ∈ l.take j
      · rw [if_pos h1, if_pos (h1.imp id fun h => (ht i).2 (.inl h))]
      · rw [if_neg h1, if_neg (fun h2 => h1 (h2.imp id fun h => ((ht i).1 h).resolve_right e))]
theorem seen_all (inn : Nat → Int) (a c : Nat) (i : Nat) (h : i < a) : seenF inn c (lst a inn c) (lst a inn c).length i = seenF inn (c + 1) [] 0 i := by
  unfold seenF
  rw [List.take_length]
  have : (i ∈ lst a inn c) ↔ inn i = (c : Int) := ⟨fun hm => (lst_lt hm).2, fun e => lst_mem h e⟩
  by_cases h1 : (0 ≤ inn i ∧ inn i < c) ∨ i ∈ lst a inn c
  · rw [if_pos h1, if_pos (.inl (by
      rcases h1 with h1 | h1
      · omega
      · have := this.1 h1; omega))]
  · rw [if_neg h1, if_neg (fun h2 => h1 (by
      rcases h2 with h2 | h2
      · by_cases e : inn i = (c : Int)
        · exact .inr (this.2 e)
        · exact .inl (by omega)
      · simp at h2))]
theorem seen_le (inn : Nat → Int) (c : Nat) (l : List Nat) (j i : Nat) : seenF inn c l j i ≤ 1 := by unfold seenF; split <;> omega
end Go.Proofs.YtcagljjbiodcoaaDoor
