/- layout.Runs, whole. -/
import Derived.Test.YtcagljjbiodcoaaDoorLayR
import Derived.Deep.RegionHeld3
namespace Go.Proofs.YtcagljjbiodcoaaDoor
set_option linter.unusedVariables false
open Go.RowKit

def l1 : List Rn := layStep [] 8 1
def l2 : List Rn := layStep l1 128 2
def l3 (a : Nat) : List Rn := layStep l2 (lslots a) 3
def l4 (a s : Nat) : List Rn := layStep (l3 a) (lslots a + 4 * s) 4
def l5 (a s : Nat) : List Rn := layStep (l4 a s) (lbase a s) 8
/-- The parts of an arena of a config. -/
def lruns (a s : Nat) : List Rn := layStep (l5 a s) (lsize a s) 7

theorem layStep_len (l : List Rn) (e k : Nat) : (layStep l e k).length ≤ l.length + 1 := by unfold layStep; split <;> simp
theorem layStep_end (l : List Rn) (e k : Nat) (h : lastEnd l ≤ e) : lastEnd (layStep l e k) = e := by
  unfold layStep
  by_cases c : lastEnd l < e
  · rw [if_pos c]
    generalize lastEnd l = x at *
    simp [lastEnd]
    omega
  · rw [if_neg c]; omega

theorem l_ends (a s : Nat) (h : Cfg a s) : lastEnd l1 = 8 ∧ lastEnd l2 = 128 ∧ lastEnd (l3 a) = lslots a ∧ lastEnd (l4 a s) = lslots a + 4 * s ∧ lastEnd (l5 a s) = lbase a s ∧ lastEnd (lruns a s) = lsize a s := by
  obtain ⟨a1, a2, s1, s2, s3⟩ := h
  have e1 : lastEnd l1 = 8 := layStep_end _ _ _ (by decide)
  have e2 : lastEnd l2 = 128 := layStep_end _ _ _ (by rw [e1]; omega)
  have e3 : lastEnd (l3 a) = lslots a := layStep_end _ _ _ (by rw [e2]; unfold lslots; omega)
  have e4 : lastEnd (l4 a s) = lslots a + 4 * s := layStep_end _ _ _ (by rw [e3]; omega)
  have e5 : lastEnd (l5 a s) = lbase a s := layStep_end _ _ _ (by rw [e4]; unfold lslots lbase; omega)
  exact ⟨e1, e2, e3, e4, e5, layStep_end _ _ _ (by rw [e5]; unfold lsize; omega)⟩
theorem l_lens (a s : Nat) : l1.length ≤ 1 ∧ l2.length ≤ 2 ∧ (l3 a).length ≤ 3 ∧ (l4 a s).length ≤ 4 ∧ (l5 a s).length ≤ 5 ∧ (lruns a s).length ≤ 6 := by
  have e1 : l1.length ≤ 1 := layStep_len _ _ _
  have e2 : l2.length ≤ 2 := Nat.le_trans (layStep_len _ _ _) (by omega)
  have e3 : (l3 a).length ≤ 3 := Nat.le_trans (layStep_len _ _ _) (by omega)
  have e4 : (l4 a s).length ≤ 4 := Nat.le_trans (layStep_len _ _ _) (by omega)
  have e5 : (l5 a s).length ≤ 5 := Nat.le_trans (layStep_len _ _ _) (by omega)
  exact ⟨e1, e2, e3, e4, e5, Nat.le_trans (layStep_len _ _ _) (by omega)⟩

def RunsP (w : World) (l : List Rn) (e : Ending) (w' : World) : Prop := ∃ v, e = .returned v ∧ OwnR w' w.heap.size v l ∧ Fr [] w w'

set_option maxRecDepth 100000 in
set_option maxHeartbeats 4000000 in
theorem lruns_any (w : World) (hM : TabM w) (a s : Nat) (h : Cfg a s) : Calls Tryd.prog 94 #[cfgV a s] w (RunsP w (lruns a s)) := by
  have hr := fun W h' => lright W h' a s h
  have hsl := fun W => lslots_any W a s h
  have hba := fun W h' => lbase_any W h' a s h
  have hsi := fun W h' => lsize_any W h' a s h
  obtain ⟨n1, n2, n3, n4, n5, n6⟩ := l_lens a s
  obtain ⟨e1, e2, e3, e4, e5, e6⟩ := l_ends a s h
  have hszl := lsize_le a s h
  have hbl := lbase_le a s h
  have hc := h
  have ha2 := h.a2
  have hs3 := h.s3
  have hslb : lslots a ≤ 2000 := by unfold lslots; omega
  -- one call of the closure, by what it is handed
  have y1 : ∀ W base B v, Blk W B 136 #[v] → OwnR W base v [] → base ≤ W.heap.size → Calls Tryd.prog 118 #[.int .i64 8, .int .i64 1, .pointer (some ⟨B, 0, none⟩)] W fun e' w' => e' = .returned (.tuple #[]) ∧ LayP W base B l1 w' := fun W base B v hB hO hb => lay_any W base B v [] hB hO hb 8 1 (by omega) (by decide) (by simp)
  have y2 : ∀ W base B v, Blk W B 136 #[v] → OwnR W base v l1 → base ≤ W.heap.size → Calls Tryd.prog 118 #[.int .i64 128, .int .i64 2, .pointer (some ⟨B, 0, none⟩)] W fun e' w' => e' = .returned (.tuple #[]) ∧ LayP W base B l2 w' := fun W base B v hB hO hb => lay_any W base B v l1 hB hO hb 128 2 (by omega) (by omega) (by omega)
  have y3 : ∀ W base B v, Blk W B 136 #[v] → OwnR W base v l2 → base ≤ W.heap.size → Calls Tryd.prog 118 #[.int .i64 (lslots a), .int .i64 3, .pointer (some ⟨B, 0, none⟩)] W fun e' w' => e' = .returned (.tuple #[]) ∧ LayP W base B (l3 a) w' := fun W base B v hB hO hb => lay_any W base B v l2 hB hO hb (lslots a) 3 (by omega) (by omega) (by omega)
  have y4 : ∀ W base B v, Blk W B 136 #[v] → OwnR W base v (l3 a) → base ≤ W.heap.size → Calls Tryd.prog 118 #[.int .i64 ((lslots a : Int) + (s : Int) * 4), .int .i64 4, .pointer (some ⟨B, 0, none⟩)] W fun e' w' => e' = .returned (.tuple #[]) ∧ LayP W base B (l4 a s) w' := fun W base B v hB hO hb => by
    have := lay_any W base B v (l3 a) hB hO hb (lslots a + 4 * s) 4 (by omega) (by omega) (by omega)
    rw [show ((lslots a + 4 * s : Nat) : Int) = (lslots a : Int) + (s : Int) * 4 by omega] at this
    exact this
  have y5 : ∀ W base B v, Blk W B 136 #[v] → OwnR W base v (l4 a s) → base ≤ W.heap.size → Calls Tryd.prog 118 #[.int .i64 (lbase a s), .int .i64 8, .pointer (some ⟨B, 0, none⟩)] W fun e' w' => e' = .returned (.tuple #[]) ∧ LayP W base B (l5 a s) w' := fun W base B v hB hO hb => lay_any W base B v (l4 a s) hB hO hb (lbase a s) 8 (by omega) (by omega) (by omega)
  have y6 : ∀ W base B v, Blk W B 136 #[v] → OwnR W base v (l5 a s) → base ≤ W.heap.size → Calls Tryd.prog 118 #[.int .i64 (lsize a s), .int .i64 7, .pointer (some ⟨B, 0, none⟩)] W fun e' w' => e' = .returned (.tuple #[]) ∧ LayP W base B (lruns a s) w' := fun W base B v hB hO hb => lay_any W base B v (l5 a s) hB hO hb (lsize a s) 7 (by omega) (by omega) (by omega)
  have u1 : IntKind.i64.wrap ((s : Int) * 4) = (s : Int) * 4 := IntWalk.i64_in _ (by omega)
  have u2 : IntKind.i64.wrap ((lslots a : Int) + (s : Int) * 4) = (lslots a : Int) + (s : Int) * 4 := IntWalk.i64_in _ (by omega)
  obtain ⟨P, hP⟩ : ∃ P, P = RunsP w (lruns a s) := ⟨_, rfl⟩
  rw [← hP]
  have HP := Lib.hid hP
  have U1 := Lib.hid u1
  have U2 := Lib.hid u2
  clear hP n1 n2 n3 n4 n5 n6 e1 e2 e3 e4 e5 e6 h hc u1 u2
  generalize lslots a = sl at *
  generalize lbase a s = ba at *
  generalize lsize a s = si at *
  generalize l3 a = L3 at *
  generalize l4 a s = L4 at *
  generalize l5 a s = L5 at *
  generalize lruns a s = L6 at *
  generalize l1 = L1 at *
  generalize l2 = L2 at *
  unfold cfgV at *
  go_enter Tryd.func94, Tryd.ntmps94
  go_wp2_with fail
  with_reducible refine (hr _ (hM.alloc _)).mono ?_
  rintro e w1 ⟨rfl, f1⟩
  have hM1 := (hM.alloc (.cells #[.int .i64 a, .int .i64 s] 33)).fr f1 (by simp)
  have hC1 := (Blk.new w 33 #[.int .i64 a, .int .i64 s]).fr f1 (by simp)
  have hF1 := ((Fr.refl [] w).alloc (.cells #[.int .i64 a, .int .i64 s] 33)).trans f1
  have hCB : w.heap.size < w1.heap.size := hC1.lt
  have hMz := hM1.size
  obtain ⟨W0, hW0⟩ : ∃ W0, W0 = w1.alloc (.cells #[.slice none 0 0] 136) := ⟨_, rfl⟩
  have hB0 : Blk W0 w1.heap.size 136 #[.slice none 0 0] := by rw [hW0]; exact Blk.new _ _ _
  have hO0 : OwnR W0 W0.heap.size (.slice none 0 0) [] := World.ownsRow_nil _ _ _ _
  have hC0 : Blk W0 w.heap.size 33 #[.int .i64 a, .int .i64 s] := by rw [hW0]; exact hC1.alloc _
  have hM0 : TabM W0 := by rw [hW0]; exact hM1.alloc _
  have hF0 : Fr [] w W0 := by rw [hW0]; exact hF1.alloc _
  have hz0 : W0.heap.size = w1.heap.size + 1 := by rw [hW0, World.size_alloc]
  have HW0 := Lib.hid hW0
  clear f1 hr hC1 hF1 hM hM1 hW0
  go_wp2_with fail
  rw [← HW0.out]
  with_reducible refine (y1 _ _ _ _ hB0 hO0 (Nat.le_refl _)).mono ?_
  rintro e W1 ⟨rfl, v1, hB1, hO1, fr1, _⟩
  have hFB1 : Fr [w1.heap.size] W0 W1 := fr1 W0 (Fr.refl _ _) (Nat.le_refl _)
  clear hB0 hO0 fr1 y1
  go_wp2_with fail
  with_reducible refine (y2 _ _ _ _ hB1 hO1 hFB1.size).mono ?_
  rintro e W2 ⟨rfl, v2, hB2, hO2, fr2, _⟩
  have hFB2 : Fr [w1.heap.size] W0 W2 := fr2 W0 hFB1 (Nat.le_refl _)
  have hC2 := hC0.fr hFB2 (by simp; omega)
  have c0 := hC2.cell 0
  have c1 := hC2.cell 1
  simp at c0 c1
  clear hB1 hO1 fr2 y2 hFB1
  go_wp2_with fail
  with_reducible refine (hsl _).mono ?_
  rintro e W3 ⟨rfl, f3⟩
  have hB3 := hB2.fr f3 (by simp)
  have hO3 : OwnR W3 W0.heap.size v2 L2 := own_keep hO2 f3
  have hFB3 := hFB2.trans (f3.mono (S' := [w1.heap.size]) (fun _ hm => by simp at hm))
  clear hB2 hO2 hFB2 hC2 c0 c1 f3
  go_wp2_with fail
  with_reducible refine (y3 _ _ _ _ hB3 hO3 hFB3.size).mono ?_
  rintro e W4 ⟨rfl, v4, hB4, hO4, fr4, _⟩
  have hFB4 : Fr [w1.heap.size] W0 W4 := fr4 W0 hFB3 (Nat.le_refl _)
  have hC4 := hC0.fr hFB4 (by simp; omega)
  have c0 := hC4.cell 0
  have c1 := hC4.cell 1
  simp at c0 c1
  clear hB3 hO3 fr4 y3 hFB3
  go_wp2_with fail
  have u1 := U1.out
  have u2 := U2.out
  have hB5 := hB4.drew
  have hO5 : OwnR W4.drew W0.heap.size v4 L3 := hO4
  have hFB5 := hFB4.drew
  clear hB4 hO4 hFB4 hC4
  go_region_held3 (fun w' => w'.cell? ⟨w.heap.size, 0, none⟩ = some (.int .i64 a) ∧ w'.cell? ⟨w.heap.size, 1, none⟩ = some (.int .i64 s)) (exact ⟨c0, c1⟩)
    (first
      | (go_at_call 115; (with_reducible refine (hsl _).mono ?_); rintro e W6 ⟨rfl, f6⟩; have hB6 := hB5.fr f6 (by simp); have hO6 : OwnR W6 W0.heap.size v4 L3 := own_keep hO5 f6; have hFB6 := hFB5.trans (f6.mono (S' := [w1.heap.size]) (fun _ hm => by simp at hm)); have hC6 := hC0.fr hFB6 (by simp; omega); have c0 := hC6.cell 0; have c1 := hC6.cell 1; simp at c0 c1)
      | (go_at_call 118; (with_reducible refine (y4 _ _ _ _ hB6 hO6 hFB6.size).mono ?_); rintro e W7 ⟨rfl, v7, hB7, hO7, fr7, _⟩; have hFB7 : Fr [w1.heap.size] W0 W7 := fr7 W0 hFB6 (Nat.le_refl _); have hC7 := hC0.fr hFB7 (by simp; omega); have c0 := hC7.cell 0; have c1 := hC7.cell 1; simp at c0 c1))
  clear hB5 hO5 hFB5 hB6 hO6 hFB6 hC6 u1 u2 f6 fr7
  go_wp2_with fail
  with_reducible refine (hba _ (hM0.fr hFB7 (by simp; omega))).mono ?_
  rintro e W8 ⟨rfl, f8⟩
  have hB8 := hB7.fr f8 (by simp)
  have hO8 : OwnR W8 W0.heap.size v7 L4 := own_keep hO7 f8
  have hFB8 := hFB7.trans (f8.mono (S' := [w1.heap.size]) (fun _ hm => by simp at hm))
  clear hB7 hO7 hFB7 hC7 c0 c1 f8
  go_wp2_with fail
  with_reducible refine (y5 _ _ _ _ hB8 hO8 hFB8.size).mono ?_
  rintro e W9 ⟨rfl, v9, hB9, hO9, fr9, _⟩
  have hFB9 : Fr [w1.heap.size] W0 W9 := fr9 W0 hFB8 (Nat.le_refl _)
  have hC9 := hC0.fr hFB9 (by simp; omega)
  have c0 := hC9.cell 0
  have c1 := hC9.cell 1
  simp at c0 c1
  clear hB8 hO8 fr9 y5 hFB8
  go_wp2_with fail
  with_reducible refine (hsi _ (hM0.fr hFB9 (by simp; omega))).mono ?_
  rintro e W10 ⟨rfl, f10⟩
  have hB10 := hB9.fr f10 (by simp)
  have hO10 : OwnR W10 W0.heap.size v9 L5 := own_keep hO9 f10
  have hFB10 := hFB9.trans (f10.mono (S' := [w1.heap.size]) (fun _ hm => by simp at hm))
  clear hB9 hO9 hFB9 hC9 c0 c1 f10
  go_wp2_with fail
  with_reducible refine (y6 _ _ _ _ hB10 hO10 hFB10.size).mono ?_
  rintro e W11 ⟨rfl, v11, hB11, hO11, fr11, _⟩
  have hFB11 : Fr [w1.heap.size] W0 W11 := fr11 W0 hFB10 (Nat.le_refl _)
  have d0 := hB11.cell 0
  simp at d0
  obtain ⟨A11, k11, hv11⟩ := own_slice hO11
  generalize L6.length = n11 at hv11
  subst hv11
  go_wp2_with fail
  rw [HP.out]
  refine ⟨_, rfl, ⟨hO11.1, ?_⟩, hF0.step hFB11 (by simp; omega)⟩
  rcases hO11.2 with h2 | ⟨g', cap', cur', h1, hb', h3⟩
  · exact .inl h2
  · exact .inr ⟨g', cap', cur', h1, by omega, h3⟩
end Go.Proofs.YtcagljjbiodcoaaDoor
