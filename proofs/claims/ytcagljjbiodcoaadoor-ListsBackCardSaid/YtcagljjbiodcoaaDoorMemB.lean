/- Package memory: rows of bytes: row, Zero, Image. -/
import Derived.Test.YtcagljjbiodcoaaDoorMem
import Derived.Test.YtcagljjbiodcoaaDoorArnZ
namespace Go.Proofs.YtcagljjbiodcoaaDoor
set_option linter.unusedVariables false
open Go.RowKit

set_option maxRecDepth 100000 in
theorem mrow_yes (w : World) (q : MH) (z : MS) (h : IsM w q z) (x n k : Nat) (hE : x + n ≤ z.l.length) (hm : ∀ i, i < n → mayL z.ks ((x + i : Nat) : Int) 1 k = true) :
    Calls Tryd.prog 106 #[.pointer (some ⟨q.m, 0, none⟩), .int .i64 x, .int .i64 n, .int .i64 k] w fun e w' => e = .returned (.bool true) ∧ IsM w' q z ∧ Fr [q.pw] w w' := by
  have hn := h.none
  have hlen := alen_any w q.pa q.ga q.cap z.l h.ar
  have HL := Lib.hid (fun W hM (i : Nat) (hi : i < n) => by
    have := look_m W q z hM ((x + i : Nat) : Int) 1 k
    have e : z.look ((x + i : Nat) : Int) 1 k = z := by unfold MS.look; rw [hm i hi, if_pos rfl]
    rw [hm i hi, e] at this
    exact this)
  have c0 := h.st.cell 0
  have c1 := h.st.cell 1
  simp at c0 c1
  have HM := Lib.hid h
  have hmax := h.ar.byt
  have hsz : z.l.length ≤ 1099511627776 := by
    have := h.size
    obtain ⟨a1, a2, a3, a4, a5⟩ := h.cfg
    unfold lsize lbase at this
    omega
  generalize z.l.length = m at *
  have b1 : decide ((n : Int) < 0) = false := by simp
  have b2 : decide ((x : Int) < 0) = false := by simp
  have b3 : decide ((m : Int) < x) = false := by simp; omega
  have b3' : decide (m < x) = false := by simp; omega
  have b4 : decide ((m : Int) - x < n) = false := by simp; omega
  have w1 : IntKind.i64.wrap ((m : Int) - x) = (m : Int) - x := IntWalk.i64_in _ (by omega)
  clear h hmax
  go_enter Tryd.func106, Tryd.ntmps106
  go_wp2_with fail
  with_reducible refine hn.mono ?_
  rintro e w' ⟨rfl, rfl⟩
  go_wp2_with fail
  with_reducible refine hlen.mono ?_
  rintro e w' ⟨rfl, rfl⟩
  go_wp2_with fail
  with_reducible refine hlen.mono ?_
  rintro e w' ⟨rfl, rfl⟩
  go_wp2_with fail
  clear c0 c1 hn hlen
  go_loopw [49] (fun v W => ∃ j : Nat, j ≤ n ∧ v = .int .i64 j ∧ IsM W q z ∧ Fr [q.pw] w' W) (fun v _ => n - (intOf v).toNat)
  case atStart => exact ⟨0, by omega, rfl, HM.out, Fr.refl _ _⟩
  case round =>
    obtain ⟨j, hj, rfl, hI, hF⟩ := hrel
    have HI := Lib.hid hI
    have HF := Lib.hid hF
    have c0 := hI.st.cell 0
    simp at c0
    clear hI hF
    by_cases e : j < n
    · have hw := HL.out _ HI.out j e
      rw [show ((x + j : Nat) : Int) = (x : Int) + j from Int.natCast_add x j] at hw
      have b5 : decide ((j : Int) < n) = true := by simp; omega
      have b5' : decide (j < n) = true := by simp; omega
      have w2 : IntKind.i64.wrap ((x : Int) + j) = (x : Int) + j := IntWalk.i64_in _ (by omega)
      have w3 : IntKind.i64.wrap ((j : Int) + 1) = (j : Int) + 1 := IntWalk.i64_in _ (by omega)
      go_wp2_with fail
      with_reducible refine hw.mono ?_
      rintro e w2 ⟨rfl, h2, f2⟩
      have H2 := Lib.hid h2
      have F2 := Lib.hid (HF.out.trans f2)
      clear h2 f2 hw c0
      go_wp2_with fail

      exact ⟨⟨j + 1, by omega, by go_num, H2.out, F2.out⟩, by simp [intOf]; omega⟩
    · obtain rfl : j = n := by omega
      have b5 : decide ((j : Int) < j) = false := by simp
      have b5' : decide (j < j) = false := by simp
      go_wp2_with fail
      go_ret
      exact ⟨rfl, HI.out, HF.out⟩
theorem mzero_yes (w : World) (q : MH) (z : MS) (h : IsM w q z) (x n k : Nat) (hE : x + n ≤ z.l.length) (hm : ∀ i, i < n → mayL z.ks ((x + i : Nat) : Int) 1 k = true) :
    Calls Tryd.prog 71 #[.pointer (some ⟨q.m, 0, none⟩), .int .i64 x, .int .i64 n, .int .i64 k] w fun e w' => e = .returned (.bool true) ∧ IsM w' q { z with l := spl z.l x (List.replicate n 0) } ∧ Fr [q.pw, q.ga] w w' := by
  have hr := mrow_yes w q z h x n k hE hm
  have HZ := Lib.hid (fun W (hM : IsM W q z) => azero_yes W q.pa q.ga q.cap z.l hM.ar x n hE)
  have hl2 : (spl z.l x (List.replicate n 0)).length = z.l.length := spl_len _ _ _ (by rw [List.length_replicate]; exact hE)
  have HIS := Lib.hid (show ∀ W W', IsM W q z → Fr [q.ga] W W' → IsA W' q.pa q.ga q.cap (spl z.l x (List.replicate n 0)) → IsM W' q { z with l := spl z.l x (List.replicate n 0) } from fun W W' hM hf hA => by
    obtain ⟨lk, hw⟩ := hM.wt
    obtain ⟨n1, n2, n3, n4, n5, n6, n7, n8, n9, n10⟩ := hM.nes
    exact ⟨hM.st.fr hf (by simp; omega), ⟨lk, hw.fr hf (by simp; omega) (by simp; omega)⟩, hA, hM.ne, hM.cfg, hl2.trans hM.size, hl2.trans hM.grains⟩)
  generalize spl z.l x (List.replicate n 0) = l' at *
  clear h
  go_enter Tryd.func71, Tryd.ntmps71
  go_wp2_with fail
  with_reducible refine hr.mono ?_
  rintro e w1 ⟨rfl, h1, f1⟩
  have c1 := h1.st.cell 1
  simp at c1
  have H1 := Lib.hid h1
  clear h1 hr
  go_wp2_with fail
  with_reducible refine (HZ.out _ H1.out).mono ?_
  rintro e w2 ⟨rfl, h2, f2⟩
  have H2 := Lib.hid (HIS.out _ _ H1.out f2 h2)
  have F2 := Lib.hid ((f1.mono (S' := [q.pw, q.ga]) (fun k hk => .inl (by simp at hk; simp [hk]))).trans (f2.mono (S' := [q.pw, q.ga]) (fun k hk => .inl (by simp at hk; simp [hk]))))
  clear h2 f1 f2
  go_wp2_with fail
  go_ret
  exact ⟨rfl, H2.out, F2.out⟩
theorem mimage (w : World) (q : MH) (z : MS) (h : IsM w q z) :
    Calls Tryd.prog 37 #[.pointer (some ⟨q.m, 0, none⟩)] w fun e w' => ∃ v, e = .returned v ∧ FreshB w z.l v w' := by
  have hn := h.none
  have hi := aimage_any w q.pa q.ga q.cap z.l h.ar
  have c1 := h.st.cell 1
  simp at c1
  clear h
  go_enter Tryd.func37, Tryd.ntmps37
  go_wp2_with fail
  with_reducible refine hn.mono ?_
  rintro e w' ⟨rfl, rfl⟩
  go_wp2_with fail
  with_reducible refine hi.mono ?_
  rintro e w2 ⟨v, rfl, f2⟩
  go_wp2_with fail
  go_ret
  exact ⟨v, rfl, f2⟩
end Go.Proofs.YtcagljjbiodcoaaDoor
