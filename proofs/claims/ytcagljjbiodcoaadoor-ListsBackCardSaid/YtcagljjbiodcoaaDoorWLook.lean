/- watch.Look, whatever the counts. -/
import Derived.Test.YtcagljjbiodcoaaDoorW11b
namespace Go.Proofs.YtcagljjbiodcoaaDoor
set_option linter.unusedVariables false
open Go.RowKit

set_option maxHeartbeats 400000 in
theorem look_all (w : World) (p b : Nat) (ks : List Nat) (lk ft x n k : Int) (h : IsW w p b ks lk ft) :
    Calls Tryd.prog 100 #[.pointer (some ⟨p, 0, none⟩), .int .i64 x, .int .i64 n, .int .i64 k] w fun e w' =>
      e = .returned (.bool (mayL ks x n k)) ∧ (∃ lk', IsW w' p b ks lk' (if mayL ks x n k then ft else wrap64 (ft + 1))) ∧ Fr [p] w w' := by
  have hn := none_some w p b _ _ (h.st.cell 0)
  have hc := h.st.cell 1
  have hf := h.st.frozen 1
  have hlk := IntWalk.i64_left (lk + 1)
  have H1 := h.setLk (wrap64 (lk + 1))
  have hft := IntWalk.i64_left (ft + 1)
  have H2 := (h.setLk (wrap64 (lk + 1))).setFt (wrap64 (ft + 1))
  generalize wrap64 (lk + 1) = lk' at *
  generalize wrap64 (ft + 1) = ft' at *
  have hm := may_all _ p b ks _ _ x n k H1
  have hc2 := h.st.cell 2
  have hf2 := h.st.frozen 2
  have HF1 : Fr [p] w (w.setCell ⟨p, 1, none⟩ (.int .i64 lk')) := (Fr.refl _ _).setCell (.inl (by simp)) _
  have HF2 : Fr [p] w ((w.setCell ⟨p, 1, none⟩ (.int .i64 lk')).setCell ⟨p, 2, none⟩ (.int .i64 ft')) := ((Fr.refl _ _).setCell (.inl (by simp)) _).setCell (.inl (by simp)) _
  clear h
  cases hmm : mayL ks x n k
  · rw [hmm] at hm
    clear hmm
    go_enter Tryd.func100, Tryd.ntmps100
    go_wp2_with (first | (go_at_call 97; refine hn.mono ?_; rintro e w' ⟨rfl, rfl⟩) | (go_at_call 120; refine hm.mono ?_; rintro e w' ⟨rfl, rfl⟩))
    go_ret
    exact ⟨rfl, ⟨_, H2⟩, HF2⟩
  · rw [hmm] at hm
    clear hmm
    go_enter Tryd.func100, Tryd.ntmps100
    go_wp2_with (first | (go_at_call 97; refine hn.mono ?_; rintro e w' ⟨rfl, rfl⟩) | (go_at_call 120; refine hm.mono ?_; rintro e w' ⟨rfl, rfl⟩))
    go_ret
    exact ⟨rfl, ⟨_, H1⟩, HF1⟩
end Go.Proofs.YtcagljjbiodcoaaDoor
