/- Package columbariumref10. -/
import Derived.Test.YtgoogihfggndpaaGreatDoorX01
namespace Go.Proofs.YtgoogihfggndpaaGreatDoor
set_option linter.unusedVariables false
set_option linter.unusedSimpArgs false
open Go.RowKit

/-- The reference's arena: its struct in block p, its bytes in some block from B on. -/
def IsXR (w : World) (B p : Nat) (l : List Nat) : Prop :=
  B ≤ p ∧ (∃ g cap, B ≤ g ∧ Blk w p 159 #[.slice (some ⟨g, 0, none⟩) l.length cap] ∧ RowB w g cap l) ∧ (∀ b ∈ l, b < 256) ∧ 1 ≤ l.length ∧ l.length ≤ 1048576
section
variable {w w' : World} {B p : Nat} {l : List Nat}
theorem IsXR.fr {S : List Nat} (h : IsXR w B p l) (hf : Fr S w w') (hS : ∀ k ∈ S, k < B) : IsXR w' B p l := by
  obtain ⟨h1, ⟨g, cap, h2, h3, h4⟩, h5⟩ := h
  exact ⟨h1, ⟨g, cap, h2, h3.fr hf (fun hm => by have := hS _ hm; omega), h4.fr hf (fun hm => by have := hS _ hm; omega)⟩, h5⟩
theorem IsXR.fr0 (h : IsXR w B p l) (hf : Fr [] w w') : IsXR w' B p l := h.fr hf (by simp)
theorem IsXR.lt (h : IsXR w B p l) : p < w.heap.size := by
  obtain ⟨h1, ⟨g, cap, h2, h3, h4⟩, h5⟩ := h
  exact h3.lt
end

theorem xmay10 (w : World) (n : Int) : Calls Tryz.prog 120 #[.int .i64 n] w fun e w' => e = .returned (.bool (amayB n)) ∧ w' = w := by
  by_cases h1 : 16 ≤ n
  · by_cases h2 : n ≤ 1048576
    · have b1 : decide (16 ≤ n) = true := by simpa using h1
      have b2 : decide (n ≤ 1048576) = true := by simpa using h2
      have e : amayB n = (n % 16 == 0) := by
        rw [amayB, Bool.eq_iff_iff, decide_eq_true_eq, beq_iff_eq]; omega
      rw [e]
      clear e
      go_enter Tryz.func120, Tryz.ntmps120
      go_wp2_with fail
      go_ret
      exact ⟨rfl, rfl⟩
    · have b1 : decide (16 ≤ n) = true := by simpa using h1
      have b2 : decide (n ≤ 1048576) = false := by simpa using h2
      have e : amayB n = false := by simp [amayB]; omega
      rw [e]
      clear e
      go_enter Tryz.func120, Tryz.ntmps120
      go_wp2_with fail
      go_ret
      exact ⟨rfl, rfl⟩
  · have b1 : decide (16 ≤ n) = false := by simpa using h1
    have e : amayB n = false := by simp [amayB]; omega
    rw [e]
    clear e
    go_enter Tryz.func120, Tryz.ntmps120
    go_wp2_with fail
    go_ret
    exact ⟨rfl, rfl⟩
theorem xnew10_yes (w : World) (n : Nat) (h : amayB n = true) : Calls Tryz.prog 50 #[.int .i64 n] w fun e w' => ∃ p, e = .returned (.pointer (some ⟨p, 0, none⟩)) ∧ IsXR w' w.heap.size p (List.replicate n 0) ∧ Fr [] w w' := by
  have hm := fun w => xmay10 w n
  have hn : n ≤ 1048576 := by simp [amayB] at h; omega
  have hn1 : 1 ≤ n := by simp [amayB] at h; omega
  rw [h] at hm
  have hmk := run_make_bytes (P := Tryz.prog) 24 5 Tryz.underlying24 info_u8 .i64 .i64 n (by omega)
  clear h
  go_enter Tryz.func50, Tryz.ntmps50
  go_wp2_with (go_at_call 120; with_reducible refine (hm _).mono ?_; rintro e w' ⟨rfl, rfl⟩)
  go_ret
  refine ⟨w'.heap.size + 1, rfl, ⟨by omega, ⟨w'.heap.size, n, Nat.le_refl _, ?_, ?_⟩, fun b hb => by rw [List.eq_of_mem_replicate hb]; omega, by simpa using hn1, by simpa using hn⟩, ((Fr.refl [] _).alloc _).alloc _⟩
  · have := Blk.new (w'.alloc (.cells (bytes (List.replicate n 0)) 5)) 159 #[.slice (some ⟨w'.heap.size, 0, none⟩) n n]
    rw [World.size_alloc] at this
    rw [List.length_replicate]
    exact this
  · have := (RowB.of (Blk.new w' 5 (bytes (List.replicate n 0)))).alloc (.cells #[.slice (some ⟨w'.heap.size, 0, none⟩) n n] 159)
    rw [List.length_replicate] at this
    exact this

theorem xput10 (w : World) (B p : Nat) (l : List Nat) (h : IsXR w B p l) (hB : B ≤ w.heap.size) (x wd : Int) (v : Nat) (hv : v < 18446744073709551616) :
    Calls Tryz.prog 53 #[.pointer (some ⟨p, 0, none⟩), .int .i64 x, .int .i64 wd, .int .u64 v] w fun e w' => e = .returned (.int .i64 (putE l x wd v)) ∧ IsXR w' B p (putL l x wd v) ∧ Fr [p] w w' := by
  have h0 := h
  obtain ⟨h1, ⟨g, cap, h2, h3, h4⟩, h5, h6, h7⟩ := h
  have hc := h3.cell 0
  have hfz := h3.frozen 0
  simp at hc
  have hby : Byt w (some ⟨g, 0, none⟩) l := h4.byt h5 (by omega)
  by_cases hE : putE l x wd v = 0
  · have hE2 := hE
    unfold putE at hE2
    have hP : placeE l.length x wd = 0 ∧ fitsN v wd = true := by
      by_cases hc : placeE l.length x wd ≠ 2 ∧ fitsN v wd = false
      · rw [if_pos hc] at hE2; omega
      · rw [if_neg hc] at hE2
        refine ⟨hE2, ?_⟩
        rcases e : fitsN v wd with _ | _
        · exact absurd ⟨by omega, e⟩ hc
        · rfl
    have hp := hP.1
    unfold placeE at hp
    rcases hW : widB wd with _ | _
    · rw [hW] at hp; simp at hp
    obtain ⟨k, rfl, hk⟩ := widB_cases hW
    rw [hW] at hp
    simp only [Bool.true_eq_false, if_false] at hp
    by_cases hh : x < 0 ∨ (l.length : Int) < x ∨ (l.length : Int) - x < k
    · rw [if_pos hh] at hp; simp at hp
    obtain ⟨y, rfl⟩ : ∃ y : Nat, x = y := ⟨x.toNat, by omega⟩
    have hm := fun w => xmay_any w l.length y k (by omega)
    have hw := fun w => xwidth_any w k
    have hf := fun w => xfits_any w v hv k
    rw [hP.1] at hm
    rw [hW] at hw
    rw [hP.2] at hf
    have hs := xstore_ok w g 0 cap l hby y k v hv (by omega) (by omega) h7 hm hw hf
    have HL := Lib.hid (show putL l y k v = putTo l y v k by unfold putL; rw [hE, if_pos rfl, Int.toNat_natCast, Int.toNat_natCast])
    have HN := Lib.hid (putTo_len l y v k)
    have HBy := Lib.hid (putTo_byte l h5 y v k)
    rw [hE]
    generalize putL l y k v = l2 at *
    generalize putTo l y v k = l3 at *
    have HX := Lib.hid h0
    have H3 := Lib.hid h3
    generalize hn : l.length = n at *
    clear h0 h3 h4 hby h5 hE hE2 hP hp hm hw hf hh hk hW
    go_enter Tryz.func53, Tryz.ntmps53
    go_wp2_with fail
    with_reducible refine hs.mono ?_
    rintro e w1 ⟨u, rfl, hO, f1⟩
    obtain ⟨g', cap', hu, hg', hr'⟩ := hO.slice (by
      intro hu
      rw [hu] at hO
      obtain ⟨q1, ⟨q2, q3⟩ | ⟨_, _, _, q2, _⟩⟩ := hO
      · rw [HN.out] at q3; omega
      · cases q2)
    subst hu
    have H31 := H3.out.fr f1 (by simp)
    have hfz1 := H31.frozen 0
    have hc1 := H31.cell 0
    simp at hc1
    clear hc hfz hs
    go_wp2_with fail
    go_ret
    have e3 := HL.out
    subst e3
    refine ⟨rfl, ⟨h1, ⟨g', cap', by omega, ?_, ?_⟩, HBy.out, by rw [HN.out]; omega, by rw [HN.out]; omega⟩, f1.mono (by simp) |>.setCell (.inl (by simp)) _⟩
    · exact H31.set 0 _
    · have hlt := H3.out.lt
      exact hr'.far (p := ⟨p, 0, none⟩) (show g' ≠ p by omega) _
  · have hs := xstore_bad w (some ⟨g, 0, none⟩) cap l (by omega) x wd v hv hE
    have HL := Lib.hid (show putL l x wd v = l by unfold putL; rw [if_neg hE])
    have b0 : ((putE l x wd v : Int) == 0) = false := by simp; omega
    generalize putE l x wd v = E at *
    generalize putL l x wd v = l2 at *
    have HX := Lib.hid h0
    generalize l.length = n at *
    clear h0 h3 h4 hby h5 hE
    go_enter Tryz.func53, Tryz.ntmps53
    go_wp2_with fail
    with_reducible refine hs.mono ?_
    rintro e w' ⟨rfl, rfl⟩
    go_wp2_with fail
    go_ret
    have e3 := HL.out
    subst e3
    exact ⟨rfl, HX.out, Fr.refl _ _⟩
end Go.Proofs.YtgoogihfggndpaaGreatDoor
