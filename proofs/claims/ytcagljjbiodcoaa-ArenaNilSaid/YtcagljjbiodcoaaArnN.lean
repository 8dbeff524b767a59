/- An arena that isn't there, or that nobody made. -/
import Derived.Test.YtcagljjbiodcoaaArnX
namespace Go.Proofs.Ytcagljjbiodcoaa
set_option linter.unusedVariables false
open Go.RowKit

/-- There is no arena behind a pointer. -/
def NoA (a : Option Addr) (w : World) : Prop := ∀ W, Fr [] w W → Calls Try.prog 25 #[.pointer a] W fun e w' => e = .returned (.bool true) ∧ w' = W
theorem NoA.fr {a : Option Addr} {w w' : World} (h : NoA a w) (hf : Fr [] w w') : NoA a w' := fun W hW => h W (hf.trans hW)
theorem NoA.at {a : Option Addr} {w : World} (h : NoA a w) : Calls Try.prog 25 #[.pointer a] w fun e w' => e = .returned (.bool true) ∧ w' = w := h w (Fr.refl _ _)
theorem noA_nil (w : World) : NoA none w := fun W _ => anone_nil W
theorem noA_zero (w : World) (p : Nat) (hp : p < w.heap.size) (h : w.cell? ⟨p, 0, none⟩ = some (.slice none 0 0)) : NoA (some ⟨p, 0, none⟩) w := fun W hW =>
  anone_zero W p ((hW.cell (p := ⟨p, 0, none⟩) hp (by simp)).trans h)

section
variable (w : World) (a : Option Addr) (h : NoA a w)
include h
theorem nlen_any : Calls Try.prog 14 #[.pointer a] w fun e w' => e = .returned (.int .i64 0) ∧ w' = w := by
  have hn := h.at
  clear h
  go_enter Try.func14, Try.ntmps14
  go_wp2_with fail
  with_reducible refine hn.mono ?_
  rintro e w' ⟨rfl, rfl⟩
  go_wp2_with fail
  go_ret
  exact ⟨rfl, rfl⟩
theorem nget_any (x wd : Int) : Calls Try.prog 12 #[.pointer a, .int .i64 x, .int .i64 wd] w fun e w' => e = .returned (.tuple #[.int .u64 0, .int .i64 1]) ∧ w' = w := by
  have hn := h.at
  clear h
  go_enter Try.func12, Try.ntmps12
  go_wp2_with fail
  with_reducible refine hn.mono ?_
  rintro e w' ⟨rfl, rfl⟩
  go_wp2_with fail
  go_ret2
  exact ⟨rfl, rfl⟩
theorem nput_any (x wd : Int) (v : Nat) : Calls Try.prog 11 #[.pointer a, .int .i64 x, .int .i64 wd, .int .u64 v] w fun e w' => e = .returned (.int .i64 1) ∧ w' = w := by
  have hn := h.at
  clear h
  go_enter Try.func11, Try.ntmps11
  go_wp2_with fail
  with_reducible refine hn.mono ?_
  rintro e w' ⟨rfl, rfl⟩
  go_wp2_with fail
  go_ret
  exact ⟨rfl, rfl⟩
theorem npart_any (x m : Int) : Calls Try.prog 29 #[.pointer a, .int .i64 x, .int .i64 m] w fun e w' => e = .returned (.tuple #[.slice none 0 0, .int .i64 1]) ∧ w' = w := by
  have hn := h.at
  clear h
  go_enter Try.func29, Try.ntmps29
  go_wp2_with fail
  with_reducible refine hn.mono ?_
  rintro e w' ⟨rfl, rfl⟩
  go_wp2_with fail
  go_ret2
  exact ⟨rfl, rfl⟩
theorem nview_any (x m : Int) : Calls Try.prog 15 #[.pointer a, .int .i64 x, .int .i64 m] w fun e w' => e = .returned (.tuple #[.slice none 0 0, .int .i64 1]) ∧ w' = w := by
  have hp := npart_any w a h x m
  clear h
  go_enter Try.func15, Try.ntmps15
  go_wp2_with fail
  with_reducible refine hp.mono ?_
  rintro e w' ⟨rfl, rfl⟩
  go_wp2_with fail
  go_ret2
  exact ⟨rfl, rfl⟩
theorem nread_any (x m : Int) : Calls Try.prog 19 #[.pointer a, .int .i64 x, .int .i64 m] w fun e w' => e = .returned (.tuple #[.slice none 0 0, .int .i64 1]) ∧ Fr [] w w' := by
  have hp := npart_any w a h x m
  have hc : ∀ w, Calls Try.prog 26 #[.slice none 0 0] w fun e w' => e = .returned (.slice none 0 0) ∧ Fr [] w w' := fun w =>
    (clone_any w none 0 [] ⟨fun i hi => by simp at hi, by simp, by simp⟩).mono fun e w' ⟨v, he, _, hv, _, hf⟩ => ⟨by rw [he, hv rfl], hf⟩
  clear h
  go_enter Try.func19, Try.ntmps19
  go_wp2_with fail
  with_reducible refine hp.mono ?_
  rintro e w' ⟨rfl, rfl⟩
  go_wp2_with fail
  with_reducible refine (hc _).mono ?_
  rintro e w1 ⟨rfl, f1⟩
  go_wp2_with fail
  go_ret2
  exact ⟨rfl, f1⟩
theorem nwritten_any (x m : Int) (fn : Fn) (vs us : Array Value) :
    Calls Try.prog 38 #[.pointer a, .int .i64 x, .int .i64 m, .func fn vs us] w fun e w' => e = .returned (.int .i64 1) ∧ w' = w := by
  have hp := npart_any w a h x m
  clear h
  go_enter Try.func38, Try.ntmps38
  go_wp2_with fail
  with_reducible refine hp.mono ?_
  rintro e w' ⟨rfl, rfl⟩
  go_wp2_with fail
  go_ret
  exact ⟨rfl, rfl⟩
theorem nzero_any (x m : Int) : Calls Try.prog 21 #[.pointer a, .int .i64 x, .int .i64 m] w fun e w' => e = .returned (.int .i64 1) ∧ w' = w := by
  have hp := nwritten_any w a h x m
  clear h
  go_enter Try.func21, Try.ntmps21
  go_wp2_with fail
  with_reducible refine (hp _ _ _).mono ?_
  rintro e w' ⟨rfl, rfl⟩
  go_wp2_with fail
  go_ret
  exact ⟨rfl, rfl⟩
theorem nwrite_any (x : Int) (b : Option Addr) (m c : Nat) (hm : m ≤ maxLen) : Calls Try.prog 20 #[.pointer a, .int .i64 x, .slice b m c] w fun e w' => e = .returned (.int .i64 1) ∧ w' = w := by
  have hp := nwritten_any w a h x m
  clear h
  unfold maxLen at hm
  go_enter Try.func20, Try.ntmps20
  go_wp2_with fail
  with_reducible refine (hp _ _ _).mono ?_
  rintro e w' ⟨rfl, rfl⟩
  go_wp2_with fail
  go_ret
  exact ⟨rfl, rfl⟩
theorem nmove_any (x y m : Int) : Calls Try.prog 22 #[.pointer a, .int .i64 x, .int .i64 y, .int .i64 m] w fun e w' => e = .returned (.int .i64 1) ∧ w' = w := by
  have hp := npart_any w a h x m
  clear h
  go_enter Try.func22, Try.ntmps22
  go_wp2_with fail
  with_reducible refine hp.mono ?_
  rintro e w' ⟨rfl, rfl⟩
  go_wp2_with fail
  go_ret
  exact ⟨rfl, rfl⟩
theorem nhas_any (b : Option Addr) (m c : Nat) : Calls Try.prog 23 #[.pointer a, .slice b m c] w fun e w' => e = .returned (.bool false) ∧ w' = w := by
  have hn := h.at
  clear h
  go_enter Try.func23, Try.ntmps23
  go_wp2_with fail
  with_reducible refine hn.mono ?_
  rintro e w' ⟨rfl, rfl⟩
  go_wp2_with fail
  go_ret
  exact ⟨rfl, rfl⟩
theorem nimage_any : Calls Try.prog 10 #[.pointer a] w fun e w' => e = .returned (.slice none 0 0) ∧ w' = w := by
  have hn := h.at
  clear h
  go_enter Try.func10, Try.ntmps10
  go_wp2_with fail
  with_reducible refine hn.mono ?_
  rintro e w' ⟨rfl, rfl⟩
  go_wp2_with fail
  go_ret
  exact ⟨rfl, rfl⟩
end
end Go.Proofs.Ytcagljjbiodcoaa
