/- ref13.with: a head with a field of a number. -/
import Derived.Test.YtagnelfnjlfhnaaDoorHBlk
namespace Go.Proofs.YtagnelfnjlfhnaaDoor
set_option linter.unusedVariables false
open Go.RowKit

def HB.setN (x : HB) (n : Nat) : Nat → HB
  | 0 => { x with tag := wrap64 n }
  | 1 => { x with cls := wrap64 n }
  | 2 => { x with used := n == 1 }
  | 3 => { x with label := wrap64 n }
  | 4 => { x with name := n % 4294967296 }
  | 5 => { x with next := n % 4294967296 }
  | 6 => { x with prev := n % 4294967296 }
  | 7 => { x with expiry := n }
  | 8 => { x with typ := n % 65536 }
  | 9 => { x with size := wrap64 n }
  | 10 => { x with hash := n % 4294967296 }
  | _ => { x with refs := n % 4294967296 }

set_option maxRecDepth 100000 in
set_option maxHeartbeats 8000000 in
theorem with_any (w : World) (x : HB) (n f : Nat) (hf : f < 12) :
    Calls Tryd.prog 32 #[x.val, .int .i64 f, .int .u64 n] w fun e w' => e = .returned (x.setN n f).val ∧ Fr [] w w' := by
  obtain ⟨tag, cls, used, label, name, next, prev, refs, expiry, typ, size, hash⟩ := x
  have hu := u32_mod n
  have hv := u16_mod n
  have hi := IntWalk.i64_left n
  rcases f with _ | _ | _ | _ | _ | _ | _ | _ | _ | _ | _ | _ | f <;> try omega
  all_goals
    simp only [HB.val, HB.cells, HB.setN]
    generalize n % 4294967296 = m at *
    generalize n % 65536 = p at *
    generalize wrap64 (n : Int) = q at *
    go_enter Tryd.func32, Tryd.ntmps32
    go_wp2_with fail
    go_returns
    first | exact ⟨rfl, (by repeat (first | exact Fr.refl _ _ | apply Fr.alloc | apply Fr.drew | apply Fr.drewN | (refine Fr.setCell ?_ (Or.inr (by simp)) _)))⟩ | (refine ⟨?_, (by repeat (first | exact Fr.refl _ _ | apply Fr.alloc | apply Fr.drew | apply Fr.drewN | (refine Fr.setCell ?_ (Or.inr (by simp)) _)))⟩; rw [show ((n : Int) == 1) = (n == 1) by rw [Bool.eq_iff_iff]; simp; omega])
end Go.Proofs.YtagnelfnjlfhnaaDoor
