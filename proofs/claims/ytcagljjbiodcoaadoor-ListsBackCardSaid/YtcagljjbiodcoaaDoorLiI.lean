/- Package lists: Insert, Remove. -/
import Derived.Test.YtcagljjbiodcoaaDoorLiS
namespace Go.Proofs.YtcagljjbiodcoaaDoor
set_option linter.unusedVariables false
open Go.RowKit

variable {w : World} {q : MH} {t : TM} {inn : Nat → Int}
theorem liins_no (h : IsT w q t) (c x : Int) (hr : rightE t.a c x ≠ 0) :
    Calls Tryd.prog 33 #[.pointer (some ⟨q.m, 0, none⟩), .int .i64 c, .int .i64 x] w fun e w' => e = .returned (.int .i64 (rightE t.a c x)) ∧ Fr [] w w' := by
  have hR := liright h c x
  generalize rightE t.a c x = r at *
  have b1 : ((r : Int) == 0) = false := by simp; omega
  have b2 : ((r : Int) != 0) = true := by simp; omega
  clear h hr
  go_enter Tryd.func33, Tryd.ntmps33
  go_wp2_with fail
  with_reducible refine hR.mono ?_
  rintro e w1 ⟨rfl, f1⟩
  clear hR
  go_wp2_with fail
  go_ret
  exact ⟨rfl, f1⟩
theorem lirem_no (h : IsT w q t) (c x : Int) (hr : rightE t.a c x ≠ 0) :
    Calls Tryd.prog 34 #[.pointer (some ⟨q.m, 0, none⟩), .int .i64 c, .int .i64 x] w fun e w' => e = .returned (.int .i64 (rightE t.a c x)) ∧ Fr [] w w' := by
  have hR := liright h c x
  generalize rightE t.a c x = r at *
  have b1 : ((r : Int) == 0) = false := by simp; omega
  have b2 : ((r : Int) != 0) = true := by simp; omega
  clear h hr
  go_enter Tryd.func34, Tryd.ntmps34
  go_wp2_with fail
  with_reducible refine hR.mono ?_
  rintro e w1 ⟨rfl, f1⟩
  clear hR
  go_wp2_with fail
  go_ret
  exact ⟨rfl, f1⟩
theorem rightE_ok {a c x : Nat} (hc : c ≤ 9) (hx : x < a) : rightE a c x = 0 := by
  unfold rightE
  rw [if_neg (by omega), if_neg (by omega)]
theorem liins_st (h : IsT w q t) (hl : LS t inn) (c x : Nat) (hc : c ≤ 9) (hx : x < t.a) (hn : 0 ≤ inn x) :
    Calls Tryd.prog 33 #[.pointer (some ⟨q.m, 0, none⟩), .int .i64 c, .int .i64 x] w fun e w' => e = .returned (.int .i64 8) ∧ IsT w' q t ∧ Fr q.blocks w w' := by
  have hR := liright h c x
  rw [rightE_ok hc hx] at hR
  have HW := Lib.hid (fun W hW d hd => liwithin (w := W) (q := q) (t := t) (inn := inn) hW hl d x hd hx)
  obtain ⟨k, hk, hkk⟩ : ∃ k : Nat, k ≤ 9 ∧ inn x = (k : Int) := ⟨(inn x).toNat, by have := hl.le x hx; omega, by omega⟩
  have HT := Lib.hid h
  clear h hc hn hl hx
  go_enter Tryd.func33, Tryd.ntmps33
  go_wp2_with fail
  with_reducible refine hR.mono ?_
  rintro e w1 ⟨rfl, f1⟩
  have H1 := Lib.hid (HT.out.fr0 f1)
  have F1 := Lib.hid (f1.nil (S := q.blocks))
  clear hR f1
  go_wp2_with fail
  go_loopw [21] (fun v W => ∃ j : Nat, j ≤ k ∧ v = .int .i64 j ∧ IsT W q t ∧ Fr q.blocks w W) (fun v _ => 10 - (intOf v).toNat)
  case atStart => exact ⟨0, by omega, rfl, H1.out, F1.out⟩
  case round =>
    obtain ⟨j, hj, rfl, hI, hF⟩ := hrel
    have hw := HW.out _ hI j (by omega)
    have HF := Lib.hid hF
    have b0 : decide ((j : Int) < 10) = true := by simp; omega
    have b0' : decide (j < 10) = true := by simp; omega
    clear hI hF
    generalize pv (loL inn x j) = p at *
    by_cases e : j = k
    · rw [decide_eq_true (show inn x = (j : Int) by rw [hkk, e])] at hw
      clear e hj hkk
      go_wp2_with fail
      with_reducible refine hw.mono ?_
      rintro e w2 ⟨rfl, h2, f2⟩
      have H2 := Lib.hid h2
      have F2 := Lib.hid (HF.out.trans f2)
      clear h2 f2 hw
      go_wp2_with fail
      go_ret
      exact ⟨rfl, H2.out, F2.out⟩
    · rw [decide_eq_false (show ¬ inn x = (j : Int) by rw [hkk]; omega)] at hw
      have w1 : IntKind.i64.wrap ((j : Int) + 1) = (j : Int) + 1 := IntWalk.i64_in _ (by omega)
      clear hkk
      go_wp2_with fail
      with_reducible refine hw.mono ?_
      rintro e w2 ⟨rfl, h2, f2⟩
      have H2 := Lib.hid h2
      have F2 := Lib.hid (HF.out.trans f2)
      clear h2 f2 hw
      go_wp2_with fail
      exact ⟨⟨j + 1, by omega, by go_num, H2.out, F2.out⟩, by simp [intOf]; omega⟩
theorem liins_yes (h : IsT w q t) (hl : LS t inn) (c x : Nat) (hc : c ≤ 9) (hx : x < t.a) (hn : inn x < 0) :
    Calls Tryd.prog 33 #[.pointer (some ⟨q.m, 0, none⟩), .int .i64 c, .int .i64 x] w fun e w' => e = .returned (.int .i64 0) ∧ IsT w' q (t.lnk c x (pv (loL inn x c)) (hd1 (hiL t.a inn x c))) ∧ Fr q.blocks w w' := by
  have hR := liright h c x
  rw [rightE_ok hc hx] at hR
  have HW := Lib.hid (fun W hW d hd => by
    have := liwithin (w := W) (q := q) (t := t) (inn := inn) hW hl d x hd hx
    rw [decide_eq_false (by omega)] at this
    exact this)
  have HF1 := Lib.hid (fun W hW => lifirst (w := W) (q := q) (t := t) hW c hc c rfl)
  have hb := hl.behind hc hx (c := c) (by omega)
  have hpa : pv (loL inn x c) ≤ t.a := by
    by_cases h0 : loL inn x c = []
    · rw [h0]; exact Nat.zero_le _
    · have := pv_mem (pv_ne h0) rfl
      have := (loL_lt this).1
      omega
  have hna : hd1 (hiL t.a inn x c) ≤ t.a := by
    by_cases h0 : 0 < hd1 (hiL t.a inn x c)
    · have := (hiL_lt (hd1_mem h0 rfl)).2.1
      omega
    · omega
  have HL := Lib.hid (fun W hW => lilink (w := W) (q := q) (t := t) hW c x (pv (loL inn x c)) (hd1 (hiL t.a inn x c)) hc hx hpa hna)
  have HP := Lib.hid (fun W hW (h0 : 0 < pv (loL inn x c)) => lipart (w := W) (q := q) (t := t) hW (pv (loL inn x c) - 1) 3 (by omega) (by decide) 8 4 rfl rfl)
  have HT := Lib.hid h
  have ha64 := (tm_small h.ok).1
  have hpp : pv (loL inn x c) = pv (loL inn x c) := rfl
  generalize t.lnk c x (pv (loL inn x c)) (hd1 (hiL t.a inn x c)) = t' at *
  generalize hpe : pv (loL inn x c) = p at *
  generalize hd1 (hiL t.a inn x c) = n at *
  clear h hn hl hpp hna
  go_enter Tryd.func33, Tryd.ntmps33
  go_wp2_with fail
  with_reducible refine hR.mono ?_
  rintro e w1 ⟨rfl, f1⟩
  have H1 := Lib.hid (HT.out.fr0 f1)
  have F1 := Lib.hid (f1.nil (S := q.blocks))
  clear hR f1
  go_wp2_with fail
  go_loopw [21] (fun v W => ∃ j : Nat, j ≤ 10 ∧ v = .int .i64 j ∧ IsT W q t ∧ Fr q.blocks w W) (fun v _ => 10 - (intOf v).toNat)
  case atStart => exact ⟨0, by omega, rfl, H1.out, F1.out⟩
  case round =>
    obtain ⟨j, hj, rfl, hI, hF⟩ := hrel
    have HF := Lib.hid hF
    by_cases e : j < 10
    · have hw := HW.out _ hI j (by omega)
      have b0 : decide ((j : Int) < 10) = true := by simp; omega
      have b0' : decide (j < 10) = true := by simp; omega
      have w1 : IntKind.i64.wrap ((j : Int) + 1) = (j : Int) + 1 := IntWalk.i64_in _ (by omega)
      clear hI hF hb
      generalize pv (loL inn x j) = pj at *
      go_wp2_with fail
      with_reducible refine hw.mono ?_
      rintro e w2 ⟨rfl, h2, f2⟩
      have H2 := Lib.hid h2
      have F2 := Lib.hid (HF.out.trans f2)
      clear h2 f2 hw
      go_wp2_with fail
      exact ⟨⟨j + 1, by omega, by go_num, H2.out, F2.out⟩, by simp [intOf]; omega⟩
    · obtain rfl : j = 10 := by omega
      have hw := HW.out _ hI c hc
      rw [hpe] at hw
      clear hI hF hj e
      by_cases h0 : 0 < p
      · have b1 : decide ((0 : Int) < p) = true := by simp; omega
        have b1' : decide (0 < p) = true := by simp; omega
        rw [if_pos h0] at hb
        have e1 : (((p - 1 : Nat) : Int)) = (p : Int) - 1 := by omega
        have w1 : IntKind.i64.wrap ((p : Int) - 1) = (p : Int) - 1 := IntWalk.i64_in _ (by omega)
        have hp3 := Lib.hid (fun W hW => by have := HP.out W hW h0; rw [hb, e1] at this; exact this)
        clear hb hx hc h0 hpa
        go_wp2_with fail
        with_reducible refine hw.mono ?_
        rintro e w2 ⟨rfl, h2, f2⟩
        have H2 := Lib.hid h2
        have F2 := Lib.hid (HF.out.trans f2)
        clear h2 f2 hw
        go_wp2_with fail
        with_reducible refine (HF1.out _ H2.out).mono ?_
        rintro e w3 ⟨rfl, h3, f3⟩
        have F3 := Lib.hid (F2.out.trans f3)
        clear f3
        go_wp2_with fail
        with_reducible refine (hp3.out _ h3).mono ?_
        rintro e w4 ⟨rfl, h4, f4⟩
        have F4 := Lib.hid (F3.out.trans f4)
        clear f4 h3
        go_wp2_with fail
        with_reducible refine (HL.out _ h4).mono ?_
        rintro e w5 ⟨rfl, h5, f5⟩
        have H5 := Lib.hid h5
        have F5 := Lib.hid (F4.out.trans f5)
        clear f5 h4 h5
        go_wp2_with fail
        go_ret
        exact ⟨rfl, H5.out, F5.out⟩
      · have b1 : decide ((0 : Int) < p) = false := by simp; omega
        have b1' : decide (0 < p) = false := by simp; omega
        rw [if_neg h0] at hb
        have hf1 := Lib.hid (fun W hW => by have := HF1.out W hW; rw [hb] at this; exact this)
        clear hb hx hc h0 hpa HF1
        go_wp2_with fail
        with_reducible refine hw.mono ?_
        rintro e w2 ⟨rfl, h2, f2⟩
        have H2 := Lib.hid h2
        have F2 := Lib.hid (HF.out.trans f2)
        clear h2 f2 hw
        go_wp2_with fail
        with_reducible refine (hf1.out _ H2.out).mono ?_
        rintro e w3 ⟨rfl, h3, f3⟩
        have F3 := Lib.hid (F2.out.trans f3)
        clear f3
        go_wp2_with fail
        with_reducible refine (HL.out _ h3).mono ?_
        rintro e w5 ⟨rfl, h5, f5⟩
        have H5 := Lib.hid h5
        have F5 := Lib.hid (F3.out.trans f5)
        clear f5 h3 h5
        go_wp2_with fail
        go_ret
        exact ⟨rfl, H5.out, F5.out⟩
theorem lirem_none (h : IsT w q t) (hl : LS t inn) (c x : Nat) (hc : c ≤ 9) (hx : x < t.a) (hn : inn x ≠ (c : Int)) :
    Calls Tryd.prog 34 #[.pointer (some ⟨q.m, 0, none⟩), .int .i64 c, .int .i64 x] w fun e w' => e = .returned (.int .i64 7) ∧ IsT w' q t ∧ Fr q.blocks w w' := by
  have hR := liright h c x
  rw [rightE_ok hc hx] at hR
  have HW := Lib.hid (fun W hW => by
    have := liwithin (w := W) (q := q) (t := t) (inn := inn) hW hl c x hc hx
    rw [decide_eq_false hn] at this
    exact this)
  have HT := Lib.hid h
  generalize pv (loL inn x c) = p at *
  clear h hn hl
  go_enter Tryd.func34, Tryd.ntmps34
  go_wp2_with fail
  with_reducible refine hR.mono ?_
  rintro e w1 ⟨rfl, f1⟩
  have H1 := Lib.hid (HT.out.fr0 f1)
  have F1 := Lib.hid (f1.nil (S := q.blocks))
  clear hR f1
  go_wp2_with fail
  with_reducible refine (HW.out _ H1.out).mono ?_
  rintro e w2 ⟨rfl, h2, f2⟩
  have H2 := Lib.hid h2
  have F2 := Lib.hid (F1.out.trans f2)
  clear f2 h2
  go_wp2_with fail
  go_ret
  exact ⟨rfl, H2.out, F2.out⟩
theorem lirem_yes (h : IsT w q t) (hl : LS t inn) (c x : Nat) (hc : c ≤ 9) (hx : x < t.a) (hn : inn x = (c : Int)) :
    Calls Tryd.prog 34 #[.pointer (some ⟨q.m, 0, none⟩), .int .i64 c, .int .i64 x] w fun e w' => e = .returned (.int .i64 0) ∧ IsT w' q (t.unl c x (pv (loL inn x c)) (hd1 (hiL t.a inn x c))) ∧ Fr q.blocks w w' := by
  have hR := liright h c x
  rw [rightE_ok hc hx] at hR
  have HW := Lib.hid (fun W hW => by
    have := liwithin (w := W) (q := q) (t := t) (inn := inn) hW hl c x hc hx
    rw [decide_eq_true hn] at this
    exact this)
  have hcut := lst_cut t.a inn x c hx
  rw [if_pos hn] at hcut
  have hb := (hl.next hc hcut).1
  have hpa : pv (loL inn x c) ≤ t.a := by
    by_cases h0 : loL inn x c = []
    · rw [h0]; exact Nat.zero_le _
    · have := pv_mem (pv_ne h0) rfl
      have := (loL_lt this).1
      omega
  have hna : hd1 (hiL t.a inn x c) ≤ t.a := by
    by_cases h0 : 0 < hd1 (hiL t.a inn x c)
    · have := (hiL_lt (hd1_mem h0 rfl)).2.1
      omega
    · omega
  have ha64 := (tm_small h.ok).1
  have HP := Lib.hid (fun W hW => by
    have := lipart (w := W) (q := q) (t := t) hW x 3 hx (by decide) 8 4 rfl rfl
    rw [hb] at this
    exact this)
  have HT := Lib.hid h
  generalize hpe : pv (loL inn x c) = p at *
  generalize hne : hd1 (hiL t.a inn x c) = n at *
  have HA := Lib.hid (fun W hW => liafter (w := W) (q := q) (t := t) hW c p n hc hpa (by omega))
  have u1 := u64_nat p (by omega)
  by_cases h0 : 0 < n
  · have b1 : decide ((0 : Int) < n) = true := by simp; omega
    have b1' : decide (0 < n) = true := by simp; omega
    have w1 : IntKind.i64.wrap ((n : Int) - 1) = (n : Int) - 1 := IntWalk.i64_in _ (by omega)
    have hput3 := Lib.hid (fun W hW => liput (w := W) (q := q) (t := t.after c p n) hW (n - 1) 4 p (by rw [after_a]; omega) (by decide) (show p < 4294967296 by omega) 12 4 p rfl rfl rfl ((n : Int) - 1) (by omega))
    have hput4 := Lib.hid (fun W hW => liput (w := W) (q := q) (t := (t.after c p n).setHd (n - 1) 4 p) hW x 3 0 (show x < (t.after c p n).a by rw [after_a]; exact hx) (by decide) (by decide) 8 4 0 rfl rfl rfl x rfl)
    have hput5 := Lib.hid (fun W hW => liput (w := W) (q := q) (t := ((t.after c p n).setHd (n - 1) 4 p).setHd x 3 0) hW x 4 0 (show x < (t.after c p n).a by rw [after_a]; exact hx) (by decide) (by decide) 12 4 0 rfl rfl rfl x rfl)
    have e : t.unl c x p n = (((t.after c p n).setHd (n - 1) 4 p).setHd x 3 0).setHd x 4 0 := by unfold TM.unl; dsimp only; rw [if_pos h0]
    rw [e]
    generalize (((t.after c p n).setHd (n - 1) 4 p).setHd x 3 0).setHd x 4 0 = t4 at *
    generalize ((t.after c p n).setHd (n - 1) 4 p).setHd x 3 0 = t3 at *
    generalize (t.after c p n).setHd (n - 1) 4 p = t2 at *
    generalize t.after c p n = t1 at *
    clear h hn hl hcut hb hpa hna e hx h0 hc
    go_enter Tryd.func34, Tryd.ntmps34
    go_wp2_with fail
    with_reducible refine hR.mono ?_
    rintro e w1 ⟨rfl, f1⟩
    have H1 := Lib.hid (HT.out.fr0 f1)
    have F1 := Lib.hid (f1.nil (S := q.blocks))
    clear hR f1
    go_wp2_with fail
    with_reducible refine (HW.out _ H1.out).mono ?_
    rintro e w2 ⟨rfl, h2, f2⟩
    have H2 := Lib.hid h2
    have F2 := Lib.hid (F1.out.trans f2)
    clear f2 h2
    go_wp2_with fail
    with_reducible refine (HP.out _ H2.out).mono ?_
    rintro e w3 ⟨rfl, h3, f3⟩
    have F3 := Lib.hid (F2.out.trans f3)
    clear f3
    go_wp2_with fail
    with_reducible refine (HA.out _ h3).mono ?_
    rintro e w4 ⟨rfl, h4, f4⟩
    have F4 := Lib.hid (F3.out.trans f4)
    clear f4 h3
    go_wp2_with fail
    with_reducible refine (hput3.out _ h4).mono ?_
    rintro e w5 ⟨rfl, h5, f5⟩
    have F5 := Lib.hid (F4.out.trans f5)
    clear f5 h4
    go_wp2_with fail
    with_reducible refine (hput4.out _ h5).mono ?_
    rintro e w6 ⟨rfl, h6, f6⟩
    have F6 := Lib.hid (F5.out.trans f6)
    clear f6 h5
    go_wp2_with fail
    with_reducible refine (hput5.out _ h6).mono ?_
    rintro e w7 ⟨rfl, h7, f7⟩
    have H7 := Lib.hid h7
    have F7 := Lib.hid (F6.out.trans f7)
    clear f7 h6 h7
    go_wp2_with fail
    go_ret
    exact ⟨rfl, H7.out, F7.out⟩
  · have b1 : decide ((0 : Int) < n) = false := by simp; omega
    have b1' : decide (0 < n) = false := by simp; omega
    have hput4 := Lib.hid (fun W hW => liput (w := W) (q := q) (t := (t.after c p n)) hW x 3 0 (show x < (t.after c p n).a by rw [after_a]; exact hx) (by decide) (by decide) 8 4 0 rfl rfl rfl x rfl)
    have hput5 := Lib.hid (fun W hW => liput (w := W) (q := q) (t := ((t.after c p n)).setHd x 3 0) hW x 4 0 (show x < (t.after c p n).a by rw [after_a]; exact hx) (by decide) (by decide) 12 4 0 rfl rfl rfl x rfl)
    have e : t.unl c x p n = (((t.after c p n)).setHd x 3 0).setHd x 4 0 := by unfold TM.unl; dsimp only; rw [if_neg h0]
    rw [e]
    generalize (((t.after c p n)).setHd x 3 0).setHd x 4 0 = t4 at *
    generalize ((t.after c p n)).setHd x 3 0 = t3 at *
    generalize t.after c p n = t1 at *
    clear h hn hl hcut hb hpa hna e hx h0 hc
    go_enter Tryd.func34, Tryd.ntmps34
    go_wp2_with fail
    with_reducible refine hR.mono ?_
    rintro e w1 ⟨rfl, f1⟩
    have H1 := Lib.hid (HT.out.fr0 f1)
    have F1 := Lib.hid (f1.nil (S := q.blocks))
    clear hR f1
    go_wp2_with fail
    with_reducible refine (HW.out _ H1.out).mono ?_
    rintro e w2 ⟨rfl, h2, f2⟩
    have H2 := Lib.hid h2
    have F2 := Lib.hid (F1.out.trans f2)
    clear f2 h2
    go_wp2_with fail
    with_reducible refine (HP.out _ H2.out).mono ?_
    rintro e w3 ⟨rfl, h3, f3⟩
    have F3 := Lib.hid (F2.out.trans f3)
    clear f3
    go_wp2_with fail
    with_reducible refine (HA.out _ h3).mono ?_
    rintro e w4 ⟨rfl, h4, f4⟩
    have F4 := Lib.hid (F3.out.trans f4)
    clear f4 h3
    go_wp2_with fail
    with_reducible refine (hput4.out _ h4).mono ?_
    rintro e w6 ⟨rfl, h6, f6⟩
    have F6 := Lib.hid (F4.out.trans f6)
    clear f6 h4
    go_wp2_with fail
    with_reducible refine (hput5.out _ h6).mono ?_
    rintro e w7 ⟨rfl, h7, f7⟩
    have H7 := Lib.hid h7
    have F7 := Lib.hid (F6.out.trans f7)
    clear f7 h6 h7
    go_wp2_with fail
    go_ret
    exact ⟨rfl, H7.out, F7.out⟩
end Go.Proofs.YtcagljjbiodcoaaDoor
