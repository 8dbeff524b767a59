/- Layer 10: any act on both arenas; few acts. -/
import Derived.Test.YtcagljjbiodcoaaLaw10e
namespace Go.Proofs.Ytcagljjbiodcoaa
set_option linter.unusedVariables false
open Go.RowKit

theorem act_any (w : World) (p g cap B q : Nat) (l : List Nat) (h : Duo w p g cap B q l) (hG : Glb w) (d : A10) (hv : d.v < 18446744073709551616) (hb : Byt w d.a d.b) (hb3 : d.b.length ≤ 3000) (hlow : d.b ≠ [] → ∀ g' o', d.a = some ⟨g', o', none⟩ → g' ≠ g ∧ g' ≠ q) :
    Calls Try.prog 18 #[.pointer (some ⟨p, 0, none⟩), .pointer (some ⟨q, 0, none⟩), .agg d.cells] w (ActP w p g cap B q l.length) := by
  by_cases k2 : d.k = 2
  · exact act_get w p g cap B q l h d k2
  by_cases k3 : d.k = 3
  · exact act_read w p g cap B q l h d k3
  by_cases k4 : d.k = 4
  · exact act_write w p g cap B q l h d k4 hv hb hb3 hlow
  by_cases k5 : d.k = 5
  · exact act_zero w p g cap B q l h d k5 hv hb hb3 hlow
  by_cases k6 : d.k = 6
  · exact act_move w p g cap B q l h d k6 hv hb hb3 hlow
  by_cases k7 : d.k = 7
  · exact act_view w p g cap B q l h d k7 hv
  by_cases k8 : d.k = 8
  · exact act_has w p g cap B q l h hG d k8 hb
  exact act_put w p g cap B q l h d ⟨k2, k3, k4, k5, k6, k7, k8⟩ hv hb hb3 hlow

end Go.Proofs.Ytcagljjbiodcoaa
