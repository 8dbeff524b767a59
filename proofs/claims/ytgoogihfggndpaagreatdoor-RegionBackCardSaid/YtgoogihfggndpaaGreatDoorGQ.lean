/- Several texts in one. -/
import Derived.Test.YtgoogihfggndpaaGreatDoorGI
import Derived.Test.YtgoogihfggndpaaGreatDoorGP
import Derived.Test.YtgoogihfggndpaaGreatDoorGA
import Derived.Test.YtgoogihfggndpaaGreatDoorGN
/- Slabs whose live blocks hold a text: what a memory has. Plain words and contracts. -/
namespace Go.Proofs.YtgoogihfggndpaaGreatDoor
set_option linter.unusedVariables false
set_option linter.unusedSimpArgs false
open Go.RowKit

section
variable {wb W W' : World} {q : MH} {z : TM} {S : SS} {P : Nat → Prop}
end
end Go.Proofs.YtgoogihfggndpaaGreatDoor

/- What a memory with slabs has among its bytes; where free blocks lie. Plain words. -/
namespace Go.Proofs.YtgoogihfggndpaaGreatDoor
set_option linter.unusedVariables false
set_option linter.unusedSimpArgs false
open Go.RowKit

theorem byteAt_slab {t : TM} (h : t.Ok) {i : Nat} (hi : lbase t.a t.s ≤ i) (hi2 : i < lsize t.a t.s) : ∃ k, k < t.a ∧ sla t k ≤ i ∧ i < sla t k + 1024 := by
  refine ⟨(i - lbase t.a t.s) / 1024, ?_, ?_, ?_⟩
  · unfold lsize at hi2; omega
  · unfold sla; omega
  · unfold sla; omega
/-- Where a place lies in its slab: a block, or what is left. -/
theorem in_slab {t : TM} {S : SS} (hok : t.Ok) (hs : SlI t S) {k i : Nat} (hk : k < t.a) (h1 : sla t k ≤ i) (h2 : i < sla t k + 1024) (h0 : S.cls k ≠ 0) :
    (∃ x, (x ∈ S.fr k ∨ x ∈ S.lv k) ∧ x ≤ i ∧ i < x + csz (S.cls k)) ∨ sla t k + csz (S.cls k) * nbk (S.cls k) ≤ i := by
  have h := hs.each k hk
  obtain ⟨c1, c2, c3, c4, c5, c6, c7⟩ := csz_tab (S.cls k) (by omega) h.c9
  rcases Nat.lt_or_ge i (sla t k + csz (S.cls k) * nbk (S.cls k)) with hl | hl
  · left
    have hj : (i - sla t k) / csz (S.cls k) < nbk (S.cls k) := by
      rw [Nat.div_lt_iff_lt_mul (by omega), Nat.mul_comm]
      omega
    refine ⟨adr t k (S.cls k) ((i - sla t k) / csz (S.cls k)), h.mem' h0 hj, ?_, ?_⟩
    · unfold adr
      have := Nat.mul_div_le (i - sla t k) (csz (S.cls k))
      omega
    · unfold adr
      have := Nat.lt_mul_div_succ (i - sla t k) (show 0 < csz (S.cls k) by omega)
      rw [Nat.mul_add, Nat.mul_one] at this
      omega
  · exact .inr hl
theorem FrL.by_ {t : TM} {s : Nat} : ∀ {l : List Nat}, FrL t s l → ∀ x ∈ l, ∃ n, ByOn t x s (lnkB n) ∧ (n = 0 ∨ n ∈ l)
  | [], _, x, hx => by cases hx
  | y :: l, h, x, hx => by
    rcases List.mem_cons.1 hx with rfl | hx
    · refine ⟨l.headD 0, h.2.1, ?_⟩
      rcases l with _ | ⟨z, l⟩
      · exact .inl rfl
      · exact .inr (by simp)
    · obtain ⟨n, h1, h2⟩ := FrL.by_ h.2.2 x hx
      exact ⟨n, h1, h2.imp id (List.mem_cons_of_mem _)⟩
end Go.Proofs.YtgoogihfggndpaaGreatDoor
