/- Package arena: Write, Zero, Move. -/
import Derived.Test.YtcagljjbiodcoaaArnX
namespace Go.Proofs.Ytcagljjbiodcoaa
set_option linter.unusedVariables false
open Go.RowKit

theorem written_no (w : World) (p g cap : Nat) (l : List Nat) (h : IsA w p g cap l) (x m : Int) (hE : partE l.length x m ≠ 0) (fn : Fn) (vs us : Array Value) :
    Calls Try.prog 38 #[.pointer (some ⟨p, 0, none⟩), .int .i64 x, .int .i64 m, .func fn vs us] w fun e w' => e = .returned (.int .i64 6) ∧ w' = w := by
  have hp := part_no w p g cap l h x m hE
  clear h
  go_enter Try.func38, Try.ntmps38
  go_wp2_with fail
  with_reducible refine hp.mono ?_
  rintro e w' ⟨rfl, rfl⟩
  go_wp2_with fail
  go_ret
  exact ⟨rfl, rfl⟩
theorem azero_no (w : World) (p g cap : Nat) (l : List Nat) (h : IsA w p g cap l) (x m : Int) (hE : partE l.length x m ≠ 0) :
    Calls Try.prog 21 #[.pointer (some ⟨p, 0, none⟩), .int .i64 x, .int .i64 m] w fun e w' => e = .returned (.int .i64 6) ∧ w' = w := by
  have hp := written_no w p g cap l h x m hE
  clear h
  go_enter Try.func21, Try.ntmps21
  go_wp2_with fail
  with_reducible refine (hp _ _ _).mono ?_
  rintro e w' ⟨rfl, rfl⟩
  go_wp2_with fail
  go_ret
  exact ⟨rfl, rfl⟩
theorem awrite_no (w : World) (p g cap : Nat) (l : List Nat) (h : IsA w p g cap l) (x : Int) (m c : Nat) (a : Option Addr) (hE : partE l.length x m ≠ 0) (hm : m ≤ maxLen) :
    Calls Try.prog 20 #[.pointer (some ⟨p, 0, none⟩), .int .i64 x, .slice a m c] w fun e w' => e = .returned (.int .i64 6) ∧ w' = w := by
  have hp := written_no w p g cap l h x m hE
  clear h
  unfold maxLen at hm
  go_enter Try.func20, Try.ntmps20
  go_wp2_with fail
  with_reducible refine (hp _ _ _).mono ?_
  rintro e w' ⟨rfl, rfl⟩
  go_wp2_with fail
  go_ret
  exact ⟨rfl, rfl⟩

theorem zero_u8a (w : World) : (zeroValue 5).run Try.prog w = .ok (.int .u8 0) w := by kernel_rfl
/-- The closure of Zero. -/
theorem zero1 (w : World) (p g cap : Nat) (l : List Nat) (h : IsA w p g cap l) (x m : Nat) (hE : x + m ≤ l.length) :
    Calls Try.prog 39 #[.slice (some ⟨g, partO x m, none⟩) m m] w fun e w' => e = .returned (.tuple #[]) ∧ IsA w' p g cap (spl l x (List.replicate m 0)) ∧ Fr [g] w w' := by
  have hw : IsA (w.setCells g (partO x m) (List.replicate m (.int .u8 0))) p g cap (spl l x (List.replicate m 0)) := by
    have := h.setCells (partO x m) (List.replicate m 0) (by unfold partO; rw [List.length_replicate]; split <;> omega) (by simp)
    have e : cellsB (List.replicate m 0) = List.replicate m (.int .u8 0) := by simp [cellsB]
    rw [e] at this
    have e2 : spl l (partO x m) (List.replicate m 0) = spl l x (List.replicate m 0) := by
      unfold partO; split
      · next hm => subst hm; simp [spl]
      · rfl
    rw [e2] at this
    exact this
  have hf : Fr [g] w (w.setCells g (partO x m) (List.replicate m (.int .u8 0))) := (Fr.refl _ _).setCells (.inl (by simp)) _ _
  have hlen := h.len
  have hcl : ∀ ty, (Builtin.clear_ #[28] ty #[.slice (some ⟨g, partO x m, none⟩) m m]).run Try.prog w = .ok (.tuple #[]) (w.setCells g (partO x m) (List.replicate m (.int .u8 0))) := fun ty => by
    by_cases h0 : m = 0
    · subst h0
      simp [Builtin.clear_, run_underlying Try.underlying28, World.setCells]
    · exact Lib.run_clear_slice w 28 5 ty (.int .u8 0) Try.underlying28 zero_u8a rfl rfl g (partO x m) m m (by omega)
        (fun j hj => by rw [h.row.cell (partO x m + j) (by unfold partO; split <;> omega)]; rfl) (fun j _ => h.row.frozen _)
  generalize spl l x (List.replicate m 0) = l' at *
  generalize partO x m = o at *
  have HW := Lib.hid hw
  have HF := Lib.hid hf
  generalize w.setCells g o (List.replicate m (.int .u8 0)) = w1 at *
  clear h hw hf
  go_enter Try.func39, Try.ntmps39
  go_wp2_with fail
  go_end0
  exact ⟨rfl, HW.out, HF.out⟩
theorem azero_yes (w : World) (p g cap : Nat) (l : List Nat) (h : IsA w p g cap l) (x m : Nat) (hE : x + m ≤ l.length) :
    Calls Try.prog 21 #[.pointer (some ⟨p, 0, none⟩), .int .i64 x, .int .i64 m] w fun e w' => e = .returned (.int .i64 0) ∧ IsA w' p g cap (spl l x (List.replicate m 0)) ∧ Fr [g] w w' := by
  have hp := part_yes w p g cap l h x m hE
  have hz := zero1 w p g cap l h x m hE
  generalize spl l x (List.replicate m 0) = l' at *
  generalize partO x m = o at *
  clear h
  have hw : Calls Try.prog 38 #[.pointer (some ⟨p, 0, none⟩), .int .i64 x, .int .i64 m, .func (.func 39) #[] #[]] w fun e w' => e = .returned (.int .i64 0) ∧ IsA w' p g cap l' ∧ Fr [g] w w' := by
    go_enter Try.func38, Try.ntmps38
    go_wp2_with fail
    with_reducible refine hp.mono ?_
    rintro e w' ⟨rfl, rfl⟩
    go_wp2_with fail
    with_reducible refine hz.mono ?_
    rintro e w1 ⟨rfl, h1, f1⟩
    go_wp2_with fail
    go_ret
    exact ⟨rfl, h1, f1⟩
  go_enter Try.func21, Try.ntmps21
  go_wp2_with fail
  with_reducible refine hw.mono ?_
  rintro e w1 ⟨rfl, h1, f1⟩
  go_wp2_with fail
  go_ret
  exact ⟨rfl, h1, f1⟩

/-- Bytes are laid into a part. -/
theorem into_any (w : World) (p g cap : Nat) (l : List Nat) (h : IsA w p g cap l) (x c : Nat) (a : Option Addr) (m : List Nat) (hm : Byt w a m) (hE : x + m.length ≤ l.length) :
    Calls Try.prog 37 #[.slice a m.length c, .slice (some ⟨g, partO x m.length, none⟩) m.length m.length] w fun e w' => e = .returned (.tuple #[]) ∧ IsA w' p g cap (spl l x m) ∧ Fr [g] w w' := by
  have hmin : Nat.min m.length m.length = m.length := Nat.min_self _
  have hlen := h.len
  by_cases h0 : m = []
  · subst h0
    have e : spl l x [] = l := by simp [spl]
    rw [e]
    have hcp : ∀ ty, (Builtin.copy_ #[28, 71] ty #[.slice (some ⟨g, 0, none⟩) 0 0, .slice a 0 c]).run Try.prog w = .ok (goInt 0) w := fun ty => run_copy_none w _ _ ty 5 _ _ _ _ _ _ Try.underlying28 (by kernel_rfl) (by rfl)
    unfold partO
    rw [if_pos (by rfl)]
    have HA := Lib.hid h
    clear h
    show Calls _ _ #[.slice a 0 c, .slice (some ⟨g, 0, none⟩) 0 0] _ _
    go_enter Try.func37, Try.ntmps37
    go_wp2_with fail
    go_end0
    exact ⟨rfl, HA.out, Fr.refl _ _⟩
  · have hpos : 0 < m.length := List.length_pos_iff.2 h0
    have hO : partO x m.length = x := by unfold partO; rw [if_neg (by omega)]
    rw [hO]
    obtain ⟨ga, oa, ha, _⟩ := hm.at_ 0 hpos
    have hcp : ∀ ty, (Builtin.copy_ #[28, 71] ty #[.slice (some ⟨g, x, none⟩) m.length m.length, .slice a m.length c]).run Try.prog w = .ok (goInt m.length) (w.setCells g x (cellsB m)) := fun ty => by
      have hcl : (cellsB m).length = m.length := by simp [cellsB]
      rw [ha]
      have := run_copy_cells (P := Try.prog) w 28 71 ty 5 g x m.length m.length ⟨ga, oa, none⟩ m.length c (cellsB m) Try.underlying28 (by kernel_rfl) (by rw [hcl, hmin]) (fun j v hv => by
        have hj : j < m.length := by
          have := (List.getElem?_eq_some_iff.1 hv).1
          rw [hcl] at this; exact this
        obtain ⟨g', o', e', hc', _⟩ := hm.at_ j hj
        rw [ha] at e'
        injection e' with e'
        injection e' with e1 e2
        subst e1 e2
        have hadd : (⟨ga, oa, none⟩ : Addr).add j = ⟨ga, oa + j, none⟩ := by unfold Addr.add; split <;> simp_all
        rw [hadd, hc', ← hv, cellsB, List.getElem?_map, List.getElem?_eq_getElem hj]
        rfl) (fun j hj => by rw [hcl] at hj; rw [h.row.cell (x + j) (by omega)]; rfl) (fun j _ => h.row.frozen _) (fun v hv => by
          obtain ⟨k, _, rfl⟩ := List.mem_map.1 hv
          rfl)
      rw [hcl] at this
      exact this
    have HW := Lib.hid (h.setCells x m hE hm.byte)
    have HF := Lib.hid (show Fr [g] w (w.setCells g x (cellsB m)) from (Fr.refl _ _).setCells (.inl (by simp)) _ _)
    generalize w.setCells g x (cellsB m) = w1 at *
    generalize spl l x m = l' at *
    generalize m.length = n at *
    clear h hm ha
    go_enter Try.func37, Try.ntmps37
    go_wp2_with fail
    go_end0
    exact ⟨rfl, HW.out, HF.out⟩
theorem written_src (w : World) (p g cap : Nat) (l : List Nat) (h : IsA w p g cap l) (x c : Nat) (a : Option Addr) (m : List Nat) (hm : Byt w a m) (hE : x + m.length ≤ l.length) :
    Calls Try.prog 38 #[.pointer (some ⟨p, 0, none⟩), .int .i64 x, .int .i64 m.length, .func (.func 37) #[.slice a m.length c] #[]] w fun e w' => e = .returned (.int .i64 0) ∧ IsA w' p g cap (spl l x m) ∧ Fr [g] w w' := by
  have hp := part_yes w p g cap l h x m.length hE
  have hz := into_any w p g cap l h x c a m hm hE
  generalize spl l x m = l' at *
  generalize partO x m.length = o at *
  generalize m.length = n at *
  clear h hm
  go_enter Try.func38, Try.ntmps38
  go_wp2_with fail
  with_reducible refine hp.mono ?_
  rintro e w' ⟨rfl, rfl⟩
  go_wp2_with fail
  with_reducible refine hz.mono ?_
  rintro e w1 ⟨rfl, h1, f1⟩
  go_wp2_with fail
  go_ret
  exact ⟨rfl, h1, f1⟩
theorem awrite_yes (w : World) (p g cap : Nat) (l : List Nat) (h : IsA w p g cap l) (x c : Nat) (a : Option Addr) (m : List Nat) (hm : Byt w a m) (hE : x + m.length ≤ l.length) :
    Calls Try.prog 20 #[.pointer (some ⟨p, 0, none⟩), .int .i64 x, .slice a m.length c] w fun e w' => e = .returned (.int .i64 0) ∧ IsA w' p g cap (spl l x m) ∧ Fr [g] w w' := by
  have hz := written_src w p g cap l h x c a m hm hE
  have hlen := hm.len
  generalize spl l x m = l' at *
  generalize m.length = n at *
  clear h hm
  go_enter Try.func20, Try.ntmps20
  go_wp2_with fail
  with_reducible refine hz.mono ?_
  rintro e w1 ⟨rfl, h1, f1⟩
  go_wp2_with fail
  go_ret
  exact ⟨rfl, h1, f1⟩
theorem amove_no1 (w : World) (p g cap : Nat) (l : List Nat) (h : IsA w p g cap l) (x y m : Int) (hE : partE l.length x m ≠ 0) :
    Calls Try.prog 22 #[.pointer (some ⟨p, 0, none⟩), .int .i64 x, .int .i64 y, .int .i64 m] w fun e w' => e = .returned (.int .i64 6) ∧ w' = w := by
  have hp := part_no w p g cap l h x m hE
  clear h
  go_enter Try.func22, Try.ntmps22
  go_wp2_with fail
  with_reducible refine hp.mono ?_
  rintro e w' ⟨rfl, rfl⟩
  go_wp2_with fail
  go_ret
  exact ⟨rfl, rfl⟩
theorem amove_no2 (w : World) (p g cap : Nat) (l : List Nat) (h : IsA w p g cap l) (x m : Nat) (y : Int) (hx : x + m ≤ l.length) (hE : partE l.length y m ≠ 0) :
    Calls Try.prog 22 #[.pointer (some ⟨p, 0, none⟩), .int .i64 x, .int .i64 y, .int .i64 m] w fun e w' => e = .returned (.int .i64 6) ∧ w' = w := by
  have hp := part_yes w p g cap l h x m hx
  have hw := written_no w p g cap l h y m hE
  generalize partO x m = o at *
  clear h
  go_enter Try.func22, Try.ntmps22
  go_wp2_with fail
  with_reducible refine hp.mono ?_
  rintro e w' ⟨rfl, rfl⟩
  go_wp2_with fail
  with_reducible refine (hw _ _ _).mono ?_
  rintro e w' ⟨rfl, rfl⟩
  go_wp2_with fail
  go_ret
  exact ⟨rfl, rfl⟩
theorem amove_yes (w : World) (p g cap : Nat) (l : List Nat) (h : IsA w p g cap l) (x y m : Nat) (hx : x + m ≤ l.length) (hy : y + m ≤ l.length) :
    Calls Try.prog 22 #[.pointer (some ⟨p, 0, none⟩), .int .i64 x, .int .i64 y, .int .i64 m] w fun e w' => e = .returned (.int .i64 0) ∧ IsA w' p g cap (spl l y ((l.drop x).take m)) ∧ Fr [g] w w' := by
  have hp := part_yes w p g cap l h x m hx
  have hl : ((l.drop x).take m).length = m := by simp; omega
  have hw := written_src w p g cap l h y m (some ⟨g, partO x m, none⟩) _ (h.part x m hx) (by rw [hl]; exact hy)
  rw [hl] at hw
  generalize spl l y ((l.drop x).take m) = l' at *
  generalize partO x m = o at *
  clear h hl
  go_enter Try.func22, Try.ntmps22
  go_wp2_with fail
  with_reducible refine hp.mono ?_
  rintro e w' ⟨rfl, rfl⟩
  go_wp2_with fail
  with_reducible refine hw.mono ?_
  rintro e w1 ⟨rfl, h1, f1⟩
  go_wp2_with fail
  go_ret
  exact ⟨rfl, h1, f1⟩
end Go.Proofs.Ytcagljjbiodcoaa
