/- Heads of blocks in a memory: what lies where; head.lying, Load, Store, touched. -/
import Derived.Test.YtcagljjbiodcoaaDoorTb
import Derived.Test.YtcagljjbiodcoaaDoorDec3
namespace Go.Proofs.YtcagljjbiodcoaaDoor
set_option linter.unusedVariables false
open Go.RowKit

/-- Numbers of the fields below m of a head of a tag lie at x; its bytes are of a kind. -/
structure HeadTo (t : TM) (x tag kind : Nat) (n : Nat → Nat) (m : Nat) : Prop where
  tg : tag ≤ 2
  base : lbase t.a t.s ≤ x
  al : x % 8 = 0
  fit : x + sz tag ≤ lsize t.a t.s
  k0 : kind ≠ 0
  kinds : ∀ g, x / 4 ≤ g → g < (x + sz tag) / 4 → kindAt t g = kind
  byte : ∀ f, f < m → (wh tag f).2 ≠ 0 → ∀ j, j < (wh tag f).2 → byteAt t (x + (wh tag f).1 + j) = nb (n f) j
  lt : ∀ f, f < m → (wh tag f).2 ≠ 0 → n f < 256 ^ (wh tag f).2
theorem sz_le (tag : Nat) (h : tag ≤ 2) : sz tag % 4 = 0 ∧ 8 ≤ sz tag ∧ sz tag ≤ 32 := by
  have : ∀ tag, tag < 3 → sz tag % 4 = 0 ∧ 8 ≤ sz tag ∧ sz tag ≤ 32 := by decide
  exact this tag (by omega)
theorem wh_ok (tag f : Nat) (h : tag ≤ 2) (hf : f < 12) (h0 : (wh tag f).2 ≠ 0) : ((wh tag f).2 = 1 ∨ (wh tag f).2 = 2 ∨ (wh tag f).2 = 4 ∨ (wh tag f).2 = 8) ∧ (wh tag f).1 % (wh tag f).2 = 0 ∧ (wh tag f).1 + (wh tag f).2 ≤ sz tag := by
  have : ∀ tag, tag < 3 → ∀ f, f < 12 → (wh tag f).2 ≠ 0 → ((wh tag f).2 = 1 ∨ (wh tag f).2 = 2 ∨ (wh tag f).2 = 4 ∨ (wh tag f).2 = 8) ∧ (wh tag f).1 % (wh tag f).2 = 0 ∧ (wh tag f).1 + (wh tag f).2 ≤ sz tag := by decide
  exact this tag (by omega) f hf h0
def apartB (a b : Nat × Nat) : Bool := a.2 == 0 || b.2 == 0 || decide (a.1 + a.2 ≤ b.1) || decide (b.1 + b.2 ≤ a.1)
theorem wh_apart (tag f g : Nat) (h : tag ≤ 2) (hf : f < 12) (hg : g < 12) (hne : f ≠ g) (h0 : (wh tag f).2 ≠ 0) (h1 : (wh tag g).2 ≠ 0) : (wh tag f).1 + (wh tag f).2 ≤ (wh tag g).1 ∨ (wh tag g).1 + (wh tag g).2 ≤ (wh tag f).1 := by
  have key : (List.range 3).all (fun tag => (List.range 12).all fun f => (List.range 12).all fun g => f == g || apartB (wh tag f) (wh tag g)) = true := by decide +kernel
  have k1 := List.all_eq_true.1 key tag (List.mem_range.2 (by omega))
  have k2 := List.all_eq_true.1 k1 f (List.mem_range.2 hf)
  have k3 := List.all_eq_true.1 k2 g (List.mem_range.2 hg)
  simp [apartB] at k3
  omega
/-- The bytes of a field, whatever they are: a place of its kind. -/
theorem HeadTo.place {t : TM} {x tag kind : Nat} {n : Nat → Nat} {m : Nat} (h : HeadTo t x tag kind n m) (f : Nat) (hf : f < 12) (h0 : (wh tag f).2 ≠ 0) (v : Nat) (hv : v < 256 ^ (wh tag f).2)
    (hb : ∀ j, j < (wh tag f).2 → byteAt t (x + (wh tag f).1 + j) = nb v j) : At t (x + (wh tag f).1) (wh tag f).2 kind v := by
  obtain ⟨h1, h2, h3⟩ := wh_ok tag f h.tg hf h0
  have hs := sz_le tag h.tg
  have hal := h.al
  have hfit := h.fit
  refine ⟨h1, ?_, h.k0, by omega, hv, fun g hg1 hg2 => h.kinds g ?_ ?_, hb⟩
  · rcases h1 with e | e | e | e <;> rw [e] at h2 ⊢ <;> omega
  · omega
  · rcases h1 with e | e | e | e <;> rw [e] at h2 h3 hg2 <;> omega
theorem HeadTo.at {t : TM} {x tag kind : Nat} {n : Nat → Nat} {m : Nat} (h : HeadTo t x tag kind n m) (f : Nat) (hf : f < 12) (hm : f < m) (h0 : (wh tag f).2 ≠ 0) : At t (x + (wh tag f).1) (wh tag f).2 kind (n f) :=
  h.place f hf h0 (n f) (h.lt f hm h0) (h.byte f hm h0)

/-- A number that has these bytes. -/
def rdN (b : Nat → Nat) : Nat → Nat
  | 0 => 0
  | k + 1 => rdN b k + b k * 256 ^ k
theorem rdN_lt (b : Nat → Nat) (hb : ∀ j, b j < 256) : ∀ k, rdN b k < 256 ^ k
  | 0 => by simp [rdN]
  | k + 1 => by
    have h1 := rdN_lt b hb k
    have h2 := hb k
    rw [rdN, Nat.pow_succ]
    have h3 : b k * 256 ^ k ≤ 255 * 256 ^ k := Nat.mul_le_mul_right _ (by omega)
    omega
theorem rdN_nb (b : Nat → Nat) (hb : ∀ j, b j < 256) : ∀ k j, j < k → nb (rdN b k) j = b j
  | 0, j, h => by omega
  | k + 1, j, h => by
    have hp : ∀ i, 0 < 256 ^ i := fun i => Nat.pow_pos (by decide)
    unfold nb
    rw [rdN]
    by_cases e : j = k
    · subst e
      rw [Nat.add_mul_div_right _ _ (hp j), Nat.div_eq_of_lt (rdN_lt b hb j), Nat.zero_add, Nat.mod_eq_of_lt (hb j)]
    · have ih := rdN_nb b hb k j (by omega)
      unfold nb at ih
      obtain ⟨d, rfl⟩ : ∃ d, k = j + 1 + d := ⟨k - j - 1, by omega⟩
      rw [show b (j + 1 + d) * 256 ^ (j + 1 + d) = b (j + 1 + d) * 256 ^ d * 256 * 256 ^ j by rw [Nat.pow_add, Nat.pow_succ]; ac_rfl,
        Nat.add_mul_div_right _ _ (hp j), Nat.add_mul_mod_self_right, ih]
theorem byteAt_lt {t : TM} (h : t.Ok) (i : Nat) : byteAt t i < 256 := by
  unfold byteAt rootB headB
  repeat' split
  all_goals first | exact nb_lt _ _ | exact h.bt _ | decide
/-- Any aligned place of a kind in a block holds some number. -/
theorem HeadTo.some {t : TM} {x tag kind : Nat} {n : Nat → Nat} {m : Nat} (h : HeadTo t x tag kind n m) (hok : t.Ok) (f : Nat) (hf : f < 12) (h0 : (wh tag f).2 ≠ 0) : ∃ v, At t (x + (wh tag f).1) (wh tag f).2 kind v :=
  ⟨rdN (fun j => byteAt t (x + (wh tag f).1 + j)) (wh tag f).2, h.place f hf h0 _ (rdN_lt _ (fun j => byteAt_lt hok _) _) (fun j hj => (rdN_nb _ (fun j => byteAt_lt hok _) _ j hj).symm)⟩
/-- One field's number is written. -/
theorem HeadTo.set {t : TM} {x tag kind : Nat} {n : Nat → Nat} {m : Nat} (h : HeadTo t x tag kind n m) (hok : t.Ok) (hm12 : m ≤ 12) (f : Nat) (hf : f < 12) (h0 : (wh tag f).2 ≠ 0) (v : Nat) (hv : v < 256 ^ (wh tag f).2) :
    HeadTo (t.setB (x + (wh tag f).1) (wh tag f).2 v) x tag kind (up n f v) m := by
  obtain ⟨h1, h2, h3⟩ := wh_ok tag f h.tg hf h0
  have hbase := h.base
  refine ⟨h.tg, h.base, h.al, h.fit, h.k0, h.kinds, fun g hg hg0 j hj => ?_, fun g hg hg0 => ?_⟩
  · rw [setB_byte hok _ _ _ (by omega)]
    by_cases e : g = f
    · subst e
      rw [if_pos (by omega), up_same]
      congr 1
      omega
    · rw [up_ne _ _ e, if_neg, h.byte g hg hg0 j hj]
      have := wh_apart tag f g h.tg hf (by omega) (Ne.symm e) h0 hg0
      omega
  · by_cases e : g = f
    · subst e; rw [up_same]; exact hv
    · rw [up_ne _ _ e]; exact h.lt g hg hg0
theorem HeadTo.more {t : TM} {x tag kind : Nat} {n : Nat → Nat} {m : Nat} (h : HeadTo t x tag kind n m) (h0 : (wh tag m).2 = 0) : HeadTo t x tag kind n (m + 1) :=
  ⟨h.tg, h.base, h.al, h.fit, h.k0, h.kinds, fun g hg hg0 => by
    by_cases e : g = m
    · subst e; exact absurd h0 hg0
    · exact h.byte g (by omega) hg0, fun g hg hg0 => by
    by_cases e : g = m
    · subst e; exact absurd h0 hg0
    · exact h.lt g (by omega) hg0⟩
/-- The next field's number is written. -/
theorem HeadTo.next {t : TM} {x tag kind : Nat} {n : Nat → Nat} {m : Nat} (h : HeadTo t x tag kind n m) (hok : t.Ok) (hm : m < 12) (h0 : (wh tag m).2 ≠ 0) (hv : n m < 256 ^ (wh tag m).2) :
    HeadTo (t.setB (x + (wh tag m).1) (wh tag m).2 (n m)) x tag kind n (m + 1) := by
  obtain ⟨h1, h2, h3⟩ := wh_ok tag m h.tg hm h0
  have hbase := h.base
  refine ⟨h.tg, h.base, h.al, h.fit, h.k0, h.kinds, fun g hg hg0 j hj => ?_, fun g hg hg0 => ?_⟩
  · rw [setB_byte hok _ _ _ (by omega)]
    by_cases e : g = m
    · subst e
      rw [if_pos (by omega)]
      congr 1
      omega
    · rw [if_neg, h.byte g (by omega) hg0 j hj]
      have := wh_apart tag m g h.tg hm (by omega) (Ne.symm e) h0 hg0
      omega
  · by_cases e : g = m
    · subst e; exact hv
    · exact h.lt g (by omega) hg0

/-- A memory, and the tables of heads. -/
structure IsH (w : World) (q : MH) (t : TM) : Prop where
  m : IsT w q t
  tabs : Tabs w
  hi : ∀ k ∈ q.blocks, 5 ≤ k
theorem IsH.step {w w' : World} {q : MH} {t t' : TM} (h : IsH w q t) (ht : IsT w' q t') (hf : Fr q.blocks w w') : IsH w' q t' := ⟨ht, h.tabs.fr hf h.hi, h.hi⟩
theorem IsH.fr0 {w w' : World} {q : MH} {t : TM} (h : IsH w q t) (hf : Fr [] w w') : IsH w' q t := ⟨h.m.fr0 hf, h.tabs.fr hf (by simp), h.hi⟩
theorem IsH.alloc {w : World} {q : MH} {t : TM} (h : IsH w q t) (o : Obj) : IsH (w.alloc o) q t := h.fr0 ((Fr.refl [] w).alloc o)
end Go.Proofs.YtcagljjbiodcoaaDoor
