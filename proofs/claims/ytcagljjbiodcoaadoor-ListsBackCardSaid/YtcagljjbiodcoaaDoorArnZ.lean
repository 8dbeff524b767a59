/- Package arena: Write, Zero, Move. -/
import Derived.Test.YtcagljjbiodcoaaDoorArnX
namespace Go.Proofs.YtcagljjbiodcoaaDoor
set_option linter.unusedVariables false
open Go.RowKit

theorem written_no (w : World) (p g cap : Nat) (l : List Nat) (h : IsA w p g cap l) (x m : Int) (hE : partE l.length x m ≠ 0) (fn : Fn) (vs us : Array Value) :
    Calls Tryd.prog 123 #[.pointer (some ⟨p, 0, none⟩), .int .i64 x, .int .i64 m, .func fn vs us] w fun e w' => e = .returned (.int .i64 6) ∧ w' = w := by
  have hp := part_no w p g cap l h x m hE
  clear h
  go_enter Tryd.func123, Tryd.ntmps123
  go_wp2_with fail
  with_reducible refine hp.mono ?_
  rintro e w' ⟨rfl, rfl⟩
  go_wp2_with fail
  go_ret
  exact ⟨rfl, rfl⟩
theorem azero_no (w : World) (p g cap : Nat) (l : List Nat) (h : IsA w p g cap l) (x m : Int) (hE : partE l.length x m ≠ 0) :
    Calls Tryd.prog 107 #[.pointer (some ⟨p, 0, none⟩), .int .i64 x, .int .i64 m] w fun e w' => e = .returned (.int .i64 6) ∧ w' = w := by
  have hp := written_no w p g cap l h x m hE
  clear h
  go_enter Tryd.func107, Tryd.ntmps107
  go_wp2_with fail
  with_reducible refine (hp _ _ _).mono ?_
  rintro e w' ⟨rfl, rfl⟩
  go_wp2_with fail
  go_ret
  exact ⟨rfl, rfl⟩

theorem zero_u8a (w : World) : (zeroValue 5).run Tryd.prog w = .ok (.int .u8 0) w := by kernel_rfl
/-- The closure of Zero. -/
theorem zero1 (w : World) (p g cap : Nat) (l : List Nat) (h : IsA w p g cap l) (x m : Nat) (hE : x + m ≤ l.length) :
    Calls Tryd.prog 124 #[.slice (some ⟨g, partO x m, none⟩) m m] w fun e w' => e = .returned (.tuple #[]) ∧ IsA w' p g cap (spl l x (List.replicate m 0)) ∧ Fr [g] w w' := by
  have hw : IsA (w.setCells g (partO x m) (List.replicate m (.int .u8 0))) p g cap (spl l x (List.replicate m 0)) := by
    have := h.setCells (partO x m) (List.replicate m 0) (by unfold partO; rw [List.length_replicate]; split <;> omega) (by simp)
    have e : cellsB (List.replicate m 0) = List.replicate m (.int .u8 0) := by simp [cellsB]
    rw [e] at this
    have e2 : spl l (partO x m) (List.replicate m 0) = spl l x (List.replicate m 0) := by
      unfold partO; split
      · next hm => subst hm; simp [spl]
      · rfl
    rw [e2] at this
    exact this
  have hf : Fr [g] w (w.setCells g (partO x m) (List.replicate m (.int .u8 0))) := (Fr.refl _ _).setCells (.inl (by simp)) _ _
  have hlen := h.len
  have hcl : ∀ ty, (Builtin.clear_ #[63] ty #[.slice (some ⟨g, partO x m, none⟩) m m]).run Tryd.prog w = .ok (.tuple #[]) (w.setCells g (partO x m) (List.replicate m (.int .u8 0))) := fun ty => by
    by_cases h0 : m = 0
    · subst h0
      simp [Builtin.clear_, run_underlying Tryd.underlying63, World.setCells]
    · exact Lib.run_clear_slice w 63 5 ty (.int .u8 0) Tryd.underlying63 zero_u8a rfl rfl g (partO x m) m m (by omega)
        (fun j hj => by rw [h.row.cell (partO x m + j) (by unfold partO; split <;> omega)]; rfl) (fun j _ => h.row.frozen _)
  generalize spl l x (List.replicate m 0) = l' at *
  generalize partO x m = o at *
  have HW := Lib.hid hw
  have HF := Lib.hid hf
  generalize w.setCells g o (List.replicate m (.int .u8 0)) = w1 at *
  clear h hw hf
  go_enter Tryd.func124, Tryd.ntmps124
  go_wp2_with fail
  go_end0
  exact ⟨rfl, HW.out, HF.out⟩
theorem azero_yes (w : World) (p g cap : Nat) (l : List Nat) (h : IsA w p g cap l) (x m : Nat) (hE : x + m ≤ l.length) :
    Calls Tryd.prog 107 #[.pointer (some ⟨p, 0, none⟩), .int .i64 x, .int .i64 m] w fun e w' => e = .returned (.int .i64 0) ∧ IsA w' p g cap (spl l x (List.replicate m 0)) ∧ Fr [g] w w' := by
  have hp := part_yes w p g cap l h x m hE
  have hz := zero1 w p g cap l h x m hE
  generalize spl l x (List.replicate m 0) = l' at *
  generalize partO x m = o at *
  clear h
  have hw : Calls Tryd.prog 123 #[.pointer (some ⟨p, 0, none⟩), .int .i64 x, .int .i64 m, .func (.func 124) #[] #[]] w fun e w' => e = .returned (.int .i64 0) ∧ IsA w' p g cap l' ∧ Fr [g] w w' := by
    go_enter Tryd.func123, Tryd.ntmps123
    go_wp2_with fail
    with_reducible refine hp.mono ?_
    rintro e w' ⟨rfl, rfl⟩
    go_wp2_with fail
    with_reducible refine hz.mono ?_
    rintro e w1 ⟨rfl, h1, f1⟩
    go_wp2_with fail
    go_ret
    exact ⟨rfl, h1, f1⟩
  go_enter Tryd.func107, Tryd.ntmps107
  go_wp2_with fail
  with_reducible refine hw.mono ?_
  rintro e w1 ⟨rfl, h1, f1⟩
  go_wp2_with fail
  go_ret
  exact ⟨rfl, h1, f1⟩

end Go.Proofs.YtcagljjbiodcoaaDoor
