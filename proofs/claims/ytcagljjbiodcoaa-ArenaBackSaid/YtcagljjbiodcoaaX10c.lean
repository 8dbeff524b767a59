/- Package columbariumref10: Zero, Move. -/
import Derived.Test.YtcagljjbiodcoaaX10b
namespace Go.Proofs.Ytcagljjbiodcoaa
set_option linter.unusedVariables false
open Go.RowKit

theorem xzero_no (w : World) (B p : Nat) (l : List Nat) (h : IsXR w B p l) (x m : Int) (hE : partE l.length x m ≠ 0) :
    Calls Try.prog 33 #[.pointer (some ⟨p, 0, none⟩), .int .i64 x, .int .i64 m] w fun e w' => e = .returned (.int .i64 6) ∧ w' = w := by
  have hf := xfits10 w B p l h x m false (by simpa using hE)
  clear h
  go_enter Try.func33, Try.ntmps33
  go_wp2_with fail
  with_reducible refine hf.mono ?_
  rintro e w' ⟨rfl, rfl⟩
  go_wp2_with fail
  go_ret
  exact ⟨rfl, rfl⟩
theorem xzero_yes (w : World) (B p : Nat) (l : List Nat) (h : IsXR w B p l) (hB : B ≤ w.heap.size) (x m : Nat) (hE : x + m ≤ l.length) :
    Calls Try.prog 33 #[.pointer (some ⟨p, 0, none⟩), .int .i64 x, .int .i64 m] w fun e w' => e = .returned (.int .i64 0) ∧ IsXR w' B p (spl l x (List.replicate m 0)) ∧ Fr [p] w w' := by
  have hf := xfits10 w B p l h x m true (by unfold partE; rw [if_neg (by omega)]; rfl)
  have hm : m ≤ 1048576 := by obtain ⟨_, _, _, _, h7⟩ := h; omega
  have hmk := run_make_bytes (P := Try.prog) 28 5 Try.underlying28 info_u8 .i64 .i64 m (by omega)
  have f1 : Fr [] w (w.alloc (.cells (bytes (List.replicate m 0)) 5)) := (Fr.refl [] w).alloc _
  have hby : Byt (w.alloc (.cells (bytes (List.replicate m 0)) 5)) (some ⟨w.heap.size, 0, none⟩) (List.replicate m 0) := Blk.byt (Blk.new w _ _) (fun b hb => by rw [List.eq_of_mem_replicate hb]; omega) (by simp; omega)
  have hw := xwrite_yes _ B p l (h.fr0 f1) (Nat.le_trans hB f1.size) x m _ _ hby (by simpa using hE)
  rw [List.length_replicate] at hw
  have HF := Lib.hid f1
  generalize spl l x (List.replicate m 0) = l' at *
  clear h hby f1 hE
  go_enter Try.func33, Try.ntmps33
  go_wp2_with fail
  with_reducible refine hf.mono ?_
  rintro e w' ⟨rfl, rfl⟩
  go_wp2_with fail
  with_reducible refine hw.mono ?_
  rintro e w2 ⟨rfl, h2, f2⟩
  go_wp2_with fail
  go_ret
  exact ⟨rfl, h2, (HF.out.mono (fun _ hm => by simp at hm)).trans f2⟩

theorem xmove_no1 (w : World) (B p : Nat) (l : List Nat) (h : IsXR w B p l) (x y m : Int) (hE : partE l.length x m ≠ 0) :
    Calls Try.prog 34 #[.pointer (some ⟨p, 0, none⟩), .int .i64 x, .int .i64 y, .int .i64 m] w fun e w' => e = .returned (.int .i64 6) ∧ w' = w := by
  have hr := xread_no w B p l h x m hE
  clear h
  go_enter Try.func34, Try.ntmps34
  go_wp2_with fail
  with_reducible refine hr.mono ?_
  rintro e w' ⟨rfl, rfl⟩
  go_wp2_with fail
  go_ret
  exact ⟨rfl, rfl⟩
theorem xmove_no2 (w : World) (B p : Nat) (l : List Nat) (h : IsXR w B p l) (x m : Nat) (y : Int) (hx : x + m ≤ l.length) (hE : partE l.length y m ≠ 0) :
    Calls Try.prog 34 #[.pointer (some ⟨p, 0, none⟩), .int .i64 x, .int .i64 y, .int .i64 m] w fun e w' => e = .returned (.int .i64 6) ∧ Fr [] w w' := by
  have hr := xread_yes w B p l h x m hx
  have hf := fun W hW => xfits10 W B p l hW y m false (by simpa using hE)
  have HX := Lib.hid h
  clear h
  go_enter Try.func34, Try.ntmps34
  go_wp2_with fail
  with_reducible refine hr.mono ?_
  rintro e w1 ⟨v, rfl, g, cap, rfl, hg, hrow, f1⟩
  go_wp2_with fail
  with_reducible refine (hf _ (HX.out.fr0 f1)).mono ?_
  rintro e w' ⟨rfl, rfl⟩
  go_wp2_with fail
  go_ret
  exact ⟨rfl, f1⟩
theorem xmove_yes (w : World) (B p : Nat) (l : List Nat) (h : IsXR w B p l) (hB : B ≤ w.heap.size) (x y m : Nat) (hx : x + m ≤ l.length) (hy : y + m ≤ l.length) :
    Calls Try.prog 34 #[.pointer (some ⟨p, 0, none⟩), .int .i64 x, .int .i64 y, .int .i64 m] w fun e w' => e = .returned (.int .i64 0) ∧ IsXR w' B p (spl l y ((l.drop x).take m)) ∧ Fr [p] w w' := by
  have hr := xread_yes w B p l h x m hx
  have hf := fun W hW => xfits10 W B p l hW y m true (by unfold partE; rw [if_neg (by omega)]; rfl)
  have hl : ((l.drop x).take m).length = m := by simp; omega
  have hbb : ∀ b ∈ (l.drop x).take m, b < 256 := fun b hb => by obtain ⟨_, _, h5, _⟩ := h; exact h5 b (List.mem_of_mem_drop (List.mem_of_mem_take hb))
  have hm : m ≤ 1048576 := by obtain ⟨_, _, _, _, h7⟩ := h; omega
  have hw := fun W (hW : IsXR W B p l) hB' a c hby => xwrite_yes W B p l hW hB' y c a ((l.drop x).take m) hby (by rw [hl]; exact hy)
  rw [hl] at hw
  have HX := Lib.hid h
  have HB := Lib.hid hbb
  have HL := Lib.hid hl
  generalize spl l y ((l.drop x).take m) = l' at *
  generalize (l.drop x).take m = ms at *
  clear h hbb hx hy
  go_enter Try.func34, Try.ntmps34
  go_wp2_with fail
  with_reducible refine hr.mono ?_
  rintro e w1 ⟨v, rfl, g, cap, rfl, hg, hrow, f1⟩
  rw [HL.out]
  go_wp2_with fail
  with_reducible refine (hf _ (HX.out.fr0 f1)).mono ?_
  rintro e w' ⟨rfl, rfl⟩
  go_wp2_with fail
  have hby := hrow.byt HB.out (by rw [HL.out]; omega)
  with_reducible refine (hw _ (HX.out.fr0 f1) (Nat.le_trans hB f1.size) _ _ hby).mono ?_
  rintro e w2 ⟨rfl, h2, f2⟩
  go_wp2_with fail
  go_ret
  exact ⟨rfl, h2, (f1.mono (fun _ hm => by simp at hm)).trans f2⟩
end Go.Proofs.Ytcagljjbiodcoaa
