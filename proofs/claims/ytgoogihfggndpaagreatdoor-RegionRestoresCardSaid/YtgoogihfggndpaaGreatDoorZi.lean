/- memory.New, memory.From, region.Restore of a config that may not be, or of an image that is none by its first numbers. -/
import Derived.Test.YtgoogihfggndpaaGreatDoorZa
import Derived.Test.YtgoogihfggndpaaGreatDoorLD
import Derived.Test.YtgoogihfggndpaaGreatDoorLB
namespace Go.Proofs.YtgoogihfggndpaaGreatDoor
set_option linter.unusedVariables false
set_option linter.unusedSimpArgs false
open Go.RowKit

section
variable {w : World}
theorem mnew_no (hM : TabM w) (a s : Int) (hc : ¬ CfZ a s) : Calls Tryz.prog 39 #[.agg #[.int .i64 a, .int .i64 s]] w fun e w' => e = .returned (.pointer none) ∧ Fr [] w w' := by
  have F0 := Lib.hid ((Fr.refl [] w).alloc (.cells #[.int .i64 a, .int .i64 s] 23))
  have hr := fun W (h : TabM W) => lright_no (w := W) h a s hc
  have hr0 := hr _ (hM.fr F0.out (by simp))
  clear hM hc hr
  go_enter Tryz.func39, Tryz.ntmps39
  go_wp2_with fail
  with_reducible refine hr0.mono ?_
  rintro e w1 ⟨rfl, f1⟩
  go_wp2_with fail
  go_ret
  exact ⟨rfl, F0.out.trans f1⟩
theorem mfrom_no (hM : TabM w) (a s : Int) (hc : ¬ CfZ a s) (v : Value) : Calls Tryz.prog 44 #[.agg #[.int .i64 a, .int .i64 s], v] w fun e w' => e = .returned (.tuple #[.pointer none, .int .i64 40]) ∧ Fr [] w w' := by
  have F0 := Lib.hid ((Fr.refl [] w).alloc (.cells #[.int .i64 a, .int .i64 s] 23))
  have hr0 := mnew_no (hM.fr F0.out (by simp)) a s hc
  clear hM hc
  go_enter Tryz.func44, Tryz.ntmps44
  go_wp2_with fail
  with_reducible refine hr0.mono ?_
  rintro e w1 ⟨rfl, f1⟩
  go_wp2_with fail
  go_ret2
  exact ⟨rfl, F0.out.trans f1⟩
theorem zrest_no (hM : TabM w) (a s : Int) (hc : ¬ CfZ a s) (v : Value) : Calls Tryz.prog 10 #[.agg #[.int .i64 a, .int .i64 s], v] w fun e w' => e = .returned (.tuple #[.pointer none, .int .i64 40]) ∧ Fr [] w w' := by
  have F0 := Lib.hid ((Fr.refl [] w).alloc (.cells #[.int .i64 a, .int .i64 s] 23))
  have hr0 := mfrom_no (hM.fr F0.out (by simp)) a s hc v
  clear hM hc
  go_enter Tryz.func10, Tryz.ntmps10
  go_wp2_with fail
  with_reducible refine hr0.mono ?_
  rintro e w1 ⟨rfl, f1⟩
  go_wp2_with fail
  go_ret2
  exact ⟨rfl, F0.out.trans f1⟩
theorem zrest_image (hM : TabM w) (a s : Nat) (hc : Cfg a s) (ad : Option Addr) (c : Nat) (l : List Nat) (hb : Byt w ad l) (hI : ¬ okI l a s) : Calls Tryz.prog 10 #[.agg #[.int .i64 a, .int .i64 s], .slice ad l.length c] w fun e w' => e = .returned (.tuple #[.pointer none, .int .i64 41]) ∧ Fr [] w w' := by
  have F0 := Lib.hid ((Fr.refl [] w).alloc (.cells #[.int .i64 a, .int .i64 s] 23))
  have hfr := mfrom (hM.fr F0.out (by simp)) a s hc ad c l (hb.fr F0.out (by simp))
  unfold FromP at hfr
  have HI := Lib.hid hI
  clear hM hb hc hI
  generalize l.length = n at *
  go_enter Tryz.func10, Tryz.ntmps10
  go_wp2_with fail
  with_reducible refine hfr.mono ?_
  rintro e w1 ⟨f1, ⟨hy, q, rfl, h1, hq⟩ | ⟨hno, rfl⟩⟩
  · exact absurd hy HI.out
  go_wp2_with fail
  go_ret2
  exact ⟨rfl, F0.out.trans f1⟩
end
end Go.Proofs.YtgoogihfggndpaaGreatDoor
