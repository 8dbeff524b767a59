/- Walks: ref09.Same where both are the same. -/
import Derived.Test.YtgkpbmgbaonbhaaW11s
import Derived.Laws.StructEq
namespace Go.Proofs.Ytgkpbmgbaonbhaa
set_option linter.unusedVariables false
open Go.RowKit

theorem xCells_get (l : List (Nat × Nat × Nat)) : ∀ (i : Nat) (hi : i < l.length),
    (xCells l)[i * 3]? = some (.int .i64 (l[i]).1) ∧ (xCells l)[i * 3 + 1]? = some (.int .i64 (l[i]).2.1) ∧ (xCells l)[i * 3 + 2]? = some (.int .i64 (l[i]).2.2) := by
  induction l with
  | nil => intro i hi; simp at hi
  | cons r l ih =>
    intro i hi
    have e : xCells (r :: l) = .int .i64 r.1 :: .int .i64 r.2.1 :: .int .i64 r.2.2 :: xCells l := rfl
    cases i with
    | zero => rw [e]; simp
    | succ i =>
      have := ih i (by simpa using hi)
      rw [e, show (i + 1) * 3 = i * 3 + 3 by omega]
      simpa using this

set_option maxHeartbeats 1000000 in
theorem same_yes (w : World) (b1 b2 : Nat) (v1 v2 : Value) (l : List (Nat × Nat × Nat)) (hl : l.length ≤ 1048576) (h1 : w.ownsRow b1 48 3 v1 l.length (xCells l)) (h2 : w.ownsRow b2 48 3 v2 l.length (xCells l)) :
    Calls Try.prog 21 #[v1, v2] w fun e w' => e = .returned (.bool true) ∧ ∃ n, w' = w.drewN n := by
  have hs : ∃ a1 c1 a2 c2, v1 = .slice a1 l.length c1 ∧ v2 = .slice a2 l.length c2 ∧ (0 < l.length → ∃ g1 g2, a1 = some ⟨g1, 0, none⟩ ∧ a2 = some ⟨g2, 0, none⟩) := by
    rcases h1.2 with ⟨rfl, h0⟩ | ⟨g1, c1, _, rfl, _⟩
    · rcases h2.2 with ⟨rfl, _⟩ | ⟨g2, c2, _, rfl, _⟩
      · exact ⟨none, 0, none, 0, by rw [h0], by rw [h0], fun h => by omega⟩
      · exact ⟨none, 0, _, c2, by rw [h0], rfl, fun h => by omega⟩
    · rcases h2.2 with ⟨rfl, h0⟩ | ⟨g2, c2, _, rfl, _⟩
      · exact ⟨_, c1, none, 0, rfl, by rw [h0], fun h => by omega⟩
      · exact ⟨_, c1, _, c2, rfl, rfl, fun _ => ⟨g1, g2, rfl, rfl⟩⟩
  obtain ⟨a1, c1, a2, c2, rfl, rfl, hp⟩ := hs
  have HP := Lib.hid hp
  have H1 := Lib.hid h1
  have H2 := Lib.hid h2
  clear hp h1 h2
  have hb0 : ((l.length : Int) != l.length) = false := by simp
  go_enter Try.func21, Try.ntmps21
  go_wp2
  go_loopw [5] (fun v wr => ∃ t : Nat, t ≤ l.length ∧ v = .int .i64 t ∧ ∃ n, wr = w.drewN n) (fun v _ => l.length - (intOf v).toNat)
  case atStart => exact ⟨0, Nat.zero_le _, rfl, 0, rfl⟩
  case round =>
    obtain ⟨t, ht, rfl, n, rfl⟩ := hrel
    by_cases hlt : t < l.length
    · obtain ⟨g1, g2, e1, e2⟩ := HP.out (by omega)
      subst e1
      subst e2
      obtain ⟨x1, x2, x3⟩ := xCells_get l t hlt
      have q1 := H1.out.cellAt (t * 3) (by omega)
      have q2 := H1.out.cellAt (t * 3 + 1) (by omega)
      have q3 := H1.out.cellAt (t * 3 + 2) (by omega)
      have r1 := H2.out.cellAt (t * 3) (by omega)
      have r2 := H2.out.cellAt (t * 3 + 1) (by omega)
      have r3 := H2.out.cellAt (t * 3 + 2) (by omega)
      rw [x1] at q1 r1
      rw [x2] at q2 r2
      rw [x3] at q3 r3
      generalize l[t] = r at *
      clear x1 x2 x3
      have hg2 : (0 : Int) ≤ t := by omega
      have hg3 : (t : Int) < l.length := by omega
      go_wp2
      go_quiet (fail)
      go_wp2
      go_roundw
      case rel => exact ⟨t + 1, by omega, by go_num, by first | exact ⟨_, rfl⟩ | exact ⟨_, World.drewN_drewN _ _ _⟩⟩
      case measure => simp [intOf]; omega
    · go_wp2
      go_ret
      exact ⟨rfl, _, rfl⟩
end Go.Proofs.Ytgkpbmgbaonbhaa
