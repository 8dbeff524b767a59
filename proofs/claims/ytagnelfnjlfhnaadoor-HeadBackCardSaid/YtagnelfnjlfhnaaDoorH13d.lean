/- Which heads may be: number, lacks, Right (head's and the document's). -/
import Derived.Test.YtagnelfnjlfhnaaDoorH13c
namespace Go.Proofs.YtagnelfnjlfhnaaDoor
set_option linter.unusedVariables false
open Go.RowKit

def HB.num (x : HB) (f : Nat) : Nat := x.nums[f]?.getD 0

set_option maxRecDepth 100000 in
set_option maxHeartbeats 8000000 in
theorem xnumber (w : World) (x : HB) (hx : x.Ok) (f : Nat) (hf : f < 12) :
    Calls Tryd.prog 28 #[x.val, .int .i64 f] w fun e w' => e = .returned (.int .u64 (x.num f)) ∧ Fr [] w w' := by
  obtain ⟨tag, cls, used, label, name, next, prev, refs, expiry, typ, size, hash⟩ := x
  obtain ⟨h1, h2, h3, h4, h5, h6, h7, h8, h9, h10, h11⟩ := hx
  simp only at h1 h2 h3 h4 h5 h6 h7 h8 h9 h10 h11
  have e1 := u64_w64 tag
  have e2 := u64_w64 cls
  have e3 := u64_w64 label
  have e4 := u64_w64 size
  have m0 := u64_nat name (by omega)
  have m1 := u64_nat next (by omega)
  have m2 := u64_nat prev (by omega)
  have m3 := u64_nat typ (by omega)
  have m4 := u64_nat hash (by omega)
  have m5 := u64_nat refs (by omega)
  clear h1 h2 h3 h4 h5 h6 h7 h8 h9 h10 h11
  simp only [HB.val, HB.cells, HB.num, HB.nums]
  generalize w64 tag = t at *
  generalize w64 cls = c at *
  generalize w64 label = l at *
  generalize w64 size = s at *
  cases used <;> (rcases f with _ | _ | _ | _ | _ | _ | _ | _ | _ | _ | _ | _ | f <;> try omega)
  all_goals
    go_enter Tryd.func28, Tryd.ntmps28
    go_wp2_with fail
    go_returns
    exact ⟨rfl, by repeat (first | exact Fr.refl _ _ | apply Fr.alloc | apply Fr.drew | apply Fr.drewN | (refine Fr.setCell ?_ (Or.inr (by simp)) _))⟩
end Go.Proofs.YtagnelfnjlfhnaaDoor
