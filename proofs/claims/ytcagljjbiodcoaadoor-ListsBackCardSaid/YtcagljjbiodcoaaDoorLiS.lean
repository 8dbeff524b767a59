/- Package lists: after, link, right, First, Insert, Remove. -/
import Derived.Test.YtcagljjbiodcoaaDoorLiR
namespace Go.Proofs.YtcagljjbiodcoaaDoor
set_option linter.unusedVariables false
open Go.RowKit

theorem after_ok {t : TM} (h : t.Ok) (c p n : Nat) (hc : c ≤ 9) (hn : n < 4294967296) : (t.after c p n).Ok := by
  unfold TM.after
  split
  · exact setHd_ok h _ _ _ hn
  · exact setRt_ok h _ _ (by unfold fldW; rw [if_neg (by omega)]; exact hn)
section
variable {w : World} {q : MH} {t : TM}
theorem liafter (h : IsT w q t) (c p n : Nat) (hc : c ≤ 9) (hp : p ≤ t.a) (hn : n < 4294967296) :
    Calls Tryd.prog 77 #[.pointer (some ⟨q.m, 0, none⟩), .int .i64 c, .int .i64 p, .int .i64 n] w fun e w' => e = .returned (.tuple #[]) ∧ IsT w' q (t.after c p n) ∧ Fr q.blocks w w' := by
  have ha := (tm_small h.ok).1
  have u1 := u64_nat n (by omega)
  by_cases h0 : 0 < p
  · have b1 : decide ((0 : Int) < p) = true := by simp; omega
    have b1' : decide (0 < p) = true := by simp; omega
    have w1 : IntKind.i64.wrap ((p : Int) - 1) = (p : Int) - 1 := IntWalk.i64_in _ (by omega)
    have hput := liput h (p - 1) 3 n (by omega) (by decide) hn 8 4 n rfl rfl rfl ((p : Int) - 1) (by omega)
    have e : t.after c p n = t.setHd (p - 1) 3 n := by unfold TM.after; rw [if_pos h0]
    rw [e]
    generalize t.setHd (p - 1) 3 n = t' at *
    clear h e hp hn ha h0
    go_enter Tryd.func77, Tryd.ntmps77
    go_wp2_with fail
    with_reducible refine hput.mono ?_
    rintro e w1 ⟨rfl, h1, f1⟩
    have H1 := Lib.hid h1
    clear h1 hput
    go_wp2_with fail
    refine bodyPost_ret (results_none rfl _ _ _) rfl ?_
    exact ⟨rfl, H1.out, f1⟩
  · have b1 : decide ((0 : Int) < p) = false := by simp; omega
    have b1' : decide (0 < p) = false := by simp; omega
    have w1 : IntKind.i64.wrap (3 + (c : Int)) = 3 + (c : Int) := IntWalk.i64_in _ (by omega)
    have hput := tsetroot h (3 + c) (by omega) n (by unfold fldW; rw [if_neg (by omega)]; exact hn) (3 + (c : Int)) (by omega) n rfl
    have e : t.after c p n = t.setRt (3 + c) n := by unfold TM.after; rw [if_neg h0]
    rw [e]
    generalize t.setRt (3 + c) n = t' at *
    clear h e hp hn ha h0
    go_enter Tryd.func77, Tryd.ntmps77
    go_wp2_with fail
    with_reducible refine hput.mono ?_
    rintro e w1 ⟨rfl, h1, f1⟩
    have H1 := Lib.hid h1
    clear h1 hput
    go_wp2_with fail
    go_end0
    exact ⟨rfl, H1.out, f1⟩
theorem lilink (h : IsT w q t) (c x p n : Nat) (hc : c ≤ 9) (hx : x < t.a) (hp : p ≤ t.a) (hn : n ≤ t.a) :
    Calls Tryd.prog 72 #[.pointer (some ⟨q.m, 0, none⟩), .int .i64 c, .int .i64 x, .int .i64 p, .int .i64 n] w fun e w' => e = .returned (.tuple #[]) ∧ IsT w' q (t.lnk c x p n) ∧ Fr q.blocks w w' := by
  have ha := (tm_small h.ok).1
  have u1 := u64_nat n (by omega)
  have u2 := u64_nat p (by omega)
  have u3 : IntKind.u64.wrap ((x : Int) + 1) = (x : Int) + 1 := u64_nat (x + 1) (by omega)
  have w2 : IntKind.i64.wrap ((x : Int) + 1) = (x : Int) + 1 := IntWalk.i64_in _ (by omega)
  have hput1 := liput h x 4 p hx (by decide) (show p < 4294967296 by omega) 12 4 p rfl rfl rfl x rfl
  have hput2 := Lib.hid (fun W hW => liput (w := W) (q := q) (t := t.setHd x 4 p) hW x 3 n hx (by decide) (show n < 4294967296 by omega) 8 4 n rfl rfl rfl x rfl)
  have hx1 : ((x : Int) + 1) = ((x + 1 : Nat) : Int) := rfl
  by_cases h0 : 0 < n
  · have b1 : decide ((0 : Int) < n) = true := by simp; omega
    have b1' : decide (0 < n) = true := by simp; omega
    have w1 : IntKind.i64.wrap ((n : Int) - 1) = (n : Int) - 1 := IntWalk.i64_in _ (by omega)
    have hput3 := Lib.hid (fun W hW => liput (w := W) (q := q) (t := (t.setHd x 4 p).setHd x 3 n) hW (n - 1) 4 (x + 1) (show n - 1 < t.a by omega) (by decide) (show x + 1 < 4294967296 by omega) 12 4 ((x : Int) + 1) rfl rfl rfl ((n : Int) - 1) (by omega))
    have hput4 := Lib.hid (fun W hW => liafter (w := W) (q := q) (t := ((t.setHd x 4 p).setHd x 3 n).setHd (n - 1) 4 (x + 1)) hW c p (x + 1) hc (show p ≤ t.a from hp) (by omega))
    have e : t.lnk c x p n = (((t.setHd x 4 p).setHd x 3 n).setHd (n - 1) 4 (x + 1)).after c p (x + 1) := by unfold TM.lnk; dsimp only; rw [if_pos h0]
    rw [e]
    rw [← hx1] at hput4
    generalize (((t.setHd x 4 p).setHd x 3 n).setHd (n - 1) 4 (x + 1)).after c p (x + 1) = t4 at *
    generalize ((t.setHd x 4 p).setHd x 3 n).setHd (n - 1) 4 (x + 1) = t3 at *
    generalize (t.setHd x 4 p).setHd x 3 n = t2 at *
    generalize t.setHd x 4 p = t1 at *
    clear h e hp hn ha h0 hx1 hx
    go_enter Tryd.func72, Tryd.ntmps72
    go_wp2_with fail
    with_reducible refine hput1.mono ?_
    rintro e w1 ⟨rfl, h1, f1⟩
    clear hput1
    go_wp2_with fail
    with_reducible refine (hput2.out _ h1).mono ?_
    rintro e w2 ⟨rfl, h2, f2⟩
    have F2 := Lib.hid (f1.trans f2)
    clear hput2 h1 f1 f2
    go_wp2_with fail
    with_reducible refine (hput3.out _ h2).mono ?_
    rintro e w3 ⟨rfl, h3, f3⟩
    have F3 := Lib.hid (F2.out.trans f3)
    clear hput3 h2 f3
    go_wp2_with fail
    with_reducible refine (hput4.out _ h3).mono ?_
    rintro e w4 ⟨rfl, h4, f4⟩
    have H4 := Lib.hid h4
    have F4 := Lib.hid (F3.out.trans f4)
    clear hput4 h3 f4 h4
    go_wp2_with fail
    go_end0
    exact ⟨rfl, H4.out, F4.out⟩
  · have b1 : decide ((0 : Int) < n) = false := by simp; omega
    have b1' : decide (0 < n) = false := by simp; omega
    have hput4 := Lib.hid (fun W hW => liafter (w := W) (q := q) (t := ((t.setHd x 4 p).setHd x 3 n)) hW c p (x + 1) hc (show p ≤ t.a from hp) (by omega))
    have e : t.lnk c x p n = (((t.setHd x 4 p).setHd x 3 n)).after c p (x + 1) := by unfold TM.lnk; dsimp only; rw [if_neg h0]
    rw [e]
    rw [← hx1] at hput4
    generalize (((t.setHd x 4 p).setHd x 3 n)).after c p (x + 1) = t4 at *
    generalize (t.setHd x 4 p).setHd x 3 n = t2 at *
    generalize t.setHd x 4 p = t1 at *
    clear h e hp hn ha h0 hx1 hx
    go_enter Tryd.func72, Tryd.ntmps72
    go_wp2_with fail
    with_reducible refine hput1.mono ?_
    rintro e w1 ⟨rfl, h1, f1⟩
    clear hput1
    go_wp2_with fail
    with_reducible refine (hput2.out _ h1).mono ?_
    rintro e w2 ⟨rfl, h2, f2⟩
    have F2 := Lib.hid (f1.trans f2)
    clear hput2 h1 f1 f2
    go_wp2_with fail
    with_reducible refine (hput4.out _ h2).mono ?_
    rintro e w4 ⟨rfl, h4, f4⟩
    have H4 := Lib.hid h4
    have F4 := Lib.hid (F2.out.trans f4)
    clear hput4 h2 f4 h4
    go_wp2_with fail
    go_end0
    exact ⟨rfl, H4.out, F4.out⟩

def rightE (a : Nat) (c x : Int) : Nat := if ¬ (0 ≤ c ∧ c ≤ 9) then 2 else if ¬ (0 ≤ x ∧ x < a) then 6 else 0
theorem liright (h : IsT w q t) (c x : Int) : Calls Tryd.prog 74 #[.pointer (some ⟨q.m, 0, none⟩), .int .i64 c, .int .i64 x] w fun e w' => e = .returned (.int .i64 (rightE t.a c x)) ∧ Fr [] w w' := by
  have hma := limade h
  have hi := fun W => liis W c
  have HT := Lib.hid h
  have hh := fun W hW => lihas (w := W) (q := q) (t := t) hW x
  unfold rightE
  by_cases h1 : 0 ≤ c ∧ c ≤ 9
  · rw [decide_eq_true h1] at hi
    rw [if_neg (fun h => h h1)]
    by_cases h2 : 0 ≤ x ∧ x < (t.a : Int)
    · rw [decide_eq_true h2] at hh
      rw [if_neg (fun h => h h2)]
      generalize t.a = a at *
      clear h h1 h2
      go_enter Tryd.func74, Tryd.ntmps74
      go_wp2_with fail
      with_reducible refine hma.mono ?_
      rintro e w1 ⟨rfl, f1⟩
      have H1 := Lib.hid (HT.out.fr0 f1)
      clear hma
      go_wp2_with fail
      with_reducible refine (hi _).mono ?_
      rintro e w2 ⟨rfl, rfl⟩
      go_wp2_with fail
      with_reducible refine (hh _ H1.out).mono ?_
      rintro e w3 ⟨rfl, f3⟩
      have F3 := Lib.hid (f1.trans f3)
      clear f1 f3
      go_wp2_with fail
      go_ret
      exact ⟨rfl, F3.out⟩
    · rw [decide_eq_false h2] at hh
      rw [if_pos h2]
      generalize t.a = a at *
      clear h h1 h2
      go_enter Tryd.func74, Tryd.ntmps74
      go_wp2_with fail
      with_reducible refine hma.mono ?_
      rintro e w1 ⟨rfl, f1⟩
      have H1 := Lib.hid (HT.out.fr0 f1)
      clear hma
      go_wp2_with fail
      with_reducible refine (hi _).mono ?_
      rintro e w2 ⟨rfl, rfl⟩
      go_wp2_with fail
      with_reducible refine (hh _ H1.out).mono ?_
      rintro e w3 ⟨rfl, f3⟩
      have F3 := Lib.hid (f1.trans f3)
      clear f1 f3
      go_wp2_with fail
      go_ret
      exact ⟨rfl, F3.out⟩
  · rw [decide_eq_false h1] at hi
    rw [if_pos h1]
    clear h h1 hh HT
    go_enter Tryd.func74, Tryd.ntmps74
    go_wp2_with fail
    with_reducible refine hma.mono ?_
    rintro e w1 ⟨rfl, f1⟩
    clear hma
    go_wp2_with fail
    with_reducible refine (hi _).mono ?_
    rintro e w2 ⟨rfl, rfl⟩
    go_wp2_with fail
    go_ret
    exact ⟨rfl, f1⟩
end
variable {w : World} {q : MH} {t : TM} {inn : Nat → Int}
theorem liwithin (h : IsT w q t) (hl : LS t inn) (c x : Nat) (hc : c ≤ 9) (hx : x < t.a) :
    Calls Tryd.prog 75 #[.pointer (some ⟨q.m, 0, none⟩), .int .i64 c, .int .i64 x] w fun e w' => e = .returned (.tuple #[.bool (decide (inn x = (c : Int))), .int .i64 (pv (loL inn x c))]) ∧ IsT w' q t ∧ Fr q.blocks w w' := by
  have := callsIn_wide.1 (within_in 4 (Nat.le_refl 4) w q t h c hc (lst t.a inn c) (hl.ln c hc) (lst_sorted t.a inn c) x)
  rw [wth_lst t.a inn x c hx] at this
  exact this
def firstV (t : TM) (inn : Nat → Int) (c : Int) : Int := if 0 ≤ c ∧ c ≤ 9 then (hd1 (lst t.a inn c.toNat) : Int) - 1 else -1
theorem hd1_le (a : Nat) (inn : Nat → Int) (c : Nat) : hd1 (lst a inn c) ≤ a := by
  rcases h : lst a inn c with _ | ⟨x, l⟩
  · exact Nat.zero_le _
  · have := (lst_lt (a := a) (inn := inn) (c := c) (y := x) (by rw [h]; simp)).1
    exact this
theorem lifst (h : IsT w q t) (hl : LS t inn) (c : Int) :
    Calls Tryd.prog 36 #[.pointer (some ⟨q.m, 0, none⟩), .int .i64 c] w fun e w' => e = .returned (.int .i64 (firstV t inn c)) ∧ IsT w' q t ∧ Fr q.blocks w w' := by
  have hma := limade h
  have HT := Lib.hid h
  have hi := fun W => liis W c
  unfold firstV
  by_cases h1 : 0 ≤ c ∧ c ≤ 9
  · rw [decide_eq_true h1] at hi
    rw [if_pos h1]
    have hf := fun W hW => lifirst (w := W) (q := q) (t := t) hW c.toNat (by omega) c (by omega)
    rw [hl.root (by omega : c.toNat ≤ 9)] at hf
    have hb := hd1_le t.a inn c.toNat
    have ha := (tm_small h.ok).1
    generalize hd1 (lst t.a inn c.toNat) = v at *
    have w1 : IntKind.i64.wrap ((v : Int) - 1) = (v : Int) - 1 := IntWalk.i64_in _ (by omega)
    clear h h1 hl hb ha
    go_enter Tryd.func36, Tryd.ntmps36
    go_wp2_with fail
    with_reducible refine hma.mono ?_
    rintro e w1 ⟨rfl, f1⟩
    have H1 := Lib.hid (HT.out.fr0 f1)
    clear hma
    go_wp2_with fail
    with_reducible refine (hi _).mono ?_
    rintro e w2 ⟨rfl, rfl⟩
    go_wp2_with fail
    with_reducible refine (hf _ H1.out).mono ?_
    rintro e w3 ⟨rfl, h3, f3⟩
    have H3 := Lib.hid h3
    have F3 := Lib.hid (f1.nil.trans f3)
    clear f1 f3 h3
    go_wp2_with fail
    go_ret
    exact ⟨rfl, H3.out, F3.out⟩
  · rw [decide_eq_false h1] at hi
    rw [if_neg h1]
    clear h h1 hl
    go_enter Tryd.func36, Tryd.ntmps36
    go_wp2_with fail
    with_reducible refine hma.mono ?_
    rintro e w1 ⟨rfl, f1⟩
    clear hma
    go_wp2_with fail
    with_reducible refine (hi _).mono ?_
    rintro e w2 ⟨rfl, rfl⟩
    go_wp2_with fail
    go_ret
    exact ⟨rfl, HT.out.fr0 f1, f1.nil⟩
end Go.Proofs.YtcagljjbiodcoaaDoor
