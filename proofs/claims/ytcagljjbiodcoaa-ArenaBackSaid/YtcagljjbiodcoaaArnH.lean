/- Package arena: Has. -/
import Derived.Test.YtcagljjbiodcoaaArnX
import Derived.Test.YtcagljjbiodcoaaShB
import Derived.Test.YtcagljjbiodcoaaHasP
namespace Go.Proofs.Ytcagljjbiodcoaa
set_option linter.unusedVariables false
open Go.RowKit

theorem mapGetD (l : List Nat) (i : Nat) : (l.map fun k : Nat => (k : Int)).getD i 0 = ((l[i]?.getD 0 : Nat) : Int) := by
  rw [List.getD_eq_getElem?_getD, List.getElem?_map]
  rcases l[i]? with _ | y <;> rfl
theorem addA (g o i : Nat) : (⟨g, o, none⟩ : Addr).add i = ⟨g, o + i, none⟩ := by unfold Addr.add; split <;> simp_all

theorem contains_any (w : World) (g cap : Nat) (l : List Nat) (h : RowB w g cap l) (hb : ∀ b ∈ l, b < 256) (hl : l.length ≤ 1048576) (a : Option Addr) (c : Nat) (m : List Nat) (hm : Byt w a m)
    (ml : Int) (hml : w.cell? ⟨0, 0, none⟩ = some (.int .i64 ml)) :
    Calls Try.prog 40 #[.slice (some ⟨g, 0, none⟩) l.length cap, .slice a m.length c] w fun e w' => e = .returned (.bool (hasB l m)) ∧ ∃ q, w' = w.drewN q := by
  by_cases h0 : m = []
  · subst h0
    have e : hasB l [] = true := (hasB_iff l []).2 ⟨0, Nat.zero_le _, rfl⟩
    rw [e]
    exact (Any.bytes_Contains_none (P := Try.prog) (ρ := bytesRen) { bytesLays with } (some ⟨g, 0, none⟩) a l.length cap c w).mono fun e w' ⟨h1, h2⟩ => ⟨h1, 0, h2⟩
  · obtain ⟨ga, oa, rfl, _, _⟩ := hm.at_ 0 (List.length_pos_iff.2 h0)
    have key := Any.bytes_Contains_at (P := Try.prog) (ρ := bytesRen) { bytesLays with } ⟨g, 0, none⟩ ⟨ga, oa, none⟩ l.length cap m.length c (l.map fun k : Nat => (k : Int)) (m.map fun k : Nat => (k : Int)) ml w (by simp) (by simp)
      (fun x hx => by obtain ⟨y, hy, rfl⟩ := List.mem_map.1 hx; have := hb y hy; omega) (fun x hx => by obtain ⟨y, hy, rfl⟩ := List.mem_map.1 hx; have := hm.byte y hy; omega)
      (fun i hi => by rw [addA, mapGetD, Nat.zero_add]; exact h.cell i hi)
      (fun i hi => by
        obtain ⟨g', o', e, hc, _⟩ := hm.at_ i hi
        injection e with e
        injection e with e1 e2
        subst e1 e2
        rw [addA, mapGetD]; exact hc) h.le (by omega) (by have := hm.len; omega) hml
    rw [contains_has l m hb hm.byte] at key
    exact key

theorem ahas_any (w : World) (p g cap : Nat) (l : List Nat) (h : IsA w p g cap l) (a : Option Addr) (c : Nat) (m : List Nat) (hm : Byt w a m) (ml : Int) (hml : w.cell? ⟨0, 0, none⟩ = some (.int .i64 ml)) :
    Calls Try.prog 23 #[.pointer (some ⟨p, 0, none⟩), .slice a m.length c] w fun e w' => e = .returned (.bool (hasB l m)) ∧ Fr [] w w' := by
  have hn := h.none
  have hk := contains_any w g cap l h.row h.byte h.len a c m hm ml hml
  have hc := h.st.cell 0
  simp at hc
  generalize hasB l m = r at *
  generalize l.length = n at *
  generalize m.length = k at *
  clear h hm
  go_enter Try.func23, Try.ntmps23
  go_wp2_with fail
  with_reducible refine hn.mono ?_
  rintro e w' ⟨rfl, rfl⟩
  go_wp2_with fail
  with_reducible refine hk.mono ?_
  rintro e w' ⟨rfl, q, rfl⟩
  go_wp2_with fail
  go_ret
  exact ⟨rfl, (Fr.refl [] _).drewN _⟩
end Go.Proofs.Ytcagljjbiodcoaa
