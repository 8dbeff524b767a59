/- Package lists: a head's parts, a list's first slab; link, after. -/
import Derived.Test.YtcagljjbiodcoaaDoorTmN
namespace Go.Proofs.YtcagljjbiodcoaaDoor
set_option linter.unusedVariables false
open Go.RowKit

theorem field_a (a s : Int) (w : World) : (Instr.field 33 (.agg #[.int .i64 a, .int .i64 s]) 0).run Tryd.prog w = .ok (.int .i64 a) w := by kernel_rfl
theorem tm_small {t : TM} (h : t.Ok) : t.a ≤ 64 ∧ 7 ≤ t.a := ⟨h.cfg.a2, h.cfg.a1⟩
theorem lin_any (w : World) (hM : TabM w) (a s : Nat) (hc : Cfg a s) (i n x k : Nat) (hi : i < n) (hb : x + i * k ≤ 1099511627776 ∧ i * k ≤ 1099511627776) :
    Calls Tryd.prog 125 #[cfgV a s, .int .i64 i, .int .i64 n, .int .i64 x, .int .i64 k] w fun e w' => e = .returned (.int .i64 ((x : Int) + (i : Int) * k)) ∧ Fr [] w w' := by
  have hr := fun W h => lright W h a s hc
  have b1 : decide ((i : Int) < 0) = false := by simp
  have b2 : decide ((n : Int) ≤ i) = false := by simp; omega
  have b2' : decide (n ≤ i) = false := by simp; omega
  obtain ⟨hb1, hb2⟩ := hb
  have w1 : IntKind.i64.wrap ((i : Int) * k) = (i : Int) * k := IntWalk.i64_in _ (by
    have : ((i * k : Nat) : Int) = (i : Int) * k := Int.natCast_mul i k
    omega)
  have w2 : IntKind.i64.wrap ((x : Int) + (i : Int) * k) = (x : Int) + (i : Int) * k := IntWalk.i64_in _ (by
    have : ((i * k : Nat) : Int) = (i : Int) * k := Int.natCast_mul i k
    omega)
  have hM1 := Lib.hid hM
  have hr' : ∀ W, TabM W → Calls Tryd.prog 47 #[.agg #[.int .i64 a, .int .i64 s]] W fun e w' => e = .returned (.bool true) ∧ Fr [] W w' := hr
  unfold cfgV
  clear hc hb1 hb2 hr hM
  go_enter Tryd.func125, Tryd.ntmps125
  go_wp2_with fail
  with_reducible refine (hr' _ (hM1.out.fr ((Fr.refl [] w).alloc _) (by simp))).mono ?_
  rintro e w1 ⟨rfl, f1⟩
  have F1 := Lib.hid (((Fr.refl [] w).alloc (.cells #[.int .i64 a, .int .i64 s] 33)).trans f1)
  clear f1 hr'
  go_wp2_with fail
  go_ret
  exact ⟨rfl, F1.out⟩
theorem lhead_any (w : World) (hM : TabM w) (a s : Nat) (hc : Cfg a s) (i : Nat) (hi : i < a) :
    Calls Tryd.prog 108 #[cfgV a s, .int .i64 i] w fun e w' => e = .returned (.int .i64 (hdAt i)) ∧ Fr [] w w' := by
  have h2 := hc.a2
  have hl : ∀ W, TabM W → Calls Tryd.prog 125 #[.agg #[.int .i64 a, .int .i64 s], .int .i64 i, .int .i64 a, .int .i64 128, .int .i64 16] W fun e w' => e = .returned (.int .i64 (hdAt i)) ∧ Fr [] W w' := fun W h => by
    have := lin_any W h a s hc i a 128 16 hi (by omega)
    refine this.mono fun e w' ⟨he, hf⟩ => ⟨?_, hf⟩
    rw [he]
    unfold hdAt
    rw [show ((128 + 16 * i : Nat) : Int) = ((128 : Nat) : Int) + (i : Int) * ((16 : Nat) : Int) by omega]
  have hM1 := Lib.hid hM
  generalize hdAt i = z at *
  unfold cfgV
  clear hc hM
  go_enter Tryd.func108, Tryd.ntmps108
  go_wp2_with fail
  with_reducible refine (hl _ (hM1.out.fr ((Fr.refl [] w).alloc _) (by simp))).mono ?_
  rintro e w1 ⟨rfl, f1⟩
  go_wp2_with fail
  go_ret
  exact ⟨rfl, ((Fr.refl [] w).alloc _).trans f1⟩
section
variable {w : World} {q : MH} {t : TM}
theorem tcfg (h : IsT w q t) : Calls Tryd.prog 52 #[.pointer (some ⟨q.m, 0, none⟩)] w fun e w' => e = .returned (.agg #[.int .i64 t.a, .int .i64 t.s]) ∧ Fr [] w w' := tconfig h
set_option maxRecDepth 100000 in
theorem limade (h : IsT w q t) : Calls Tryd.prog 70 #[.pointer (some ⟨q.m, 0, none⟩)] w fun e w' => e = .returned (.bool true) ∧ Fr [] w w' := by
  have hc := tcfg h
  have ha := (tm_small h.ok).2
  have b : decide ((0 : Int) < t.a) = true := by simp; omega
  have b' : decide (0 < t.a) = true := by simp; omega
  have hfd := field_a t.a t.s
  generalize t.a = a at *
  generalize t.s = s at *
  clear h
  go_enter Tryd.func70, Tryd.ntmps70
  go_wp2_with fail
  with_reducible refine hc.mono ?_
  rintro e w1 ⟨rfl, f1⟩
  go_wp2_with fail
  go_ret
  exact ⟨rfl, f1⟩
theorem liis (w : World) (c : Int) : Calls Tryd.prog 79 #[.int .i64 c] w fun e w' => e = .returned (.bool (decide (0 ≤ c ∧ c ≤ 9))) ∧ w' = w := by
  by_cases h1 : 0 ≤ c
  · have b1 : decide (0 ≤ c) = true := by simpa using h1
    by_cases h2 : c ≤ 9
    · have b2 : decide (c ≤ 9) = true := by simpa using h2
      rw [decide_eq_true (show 0 ≤ c ∧ c ≤ 9 from ⟨h1, h2⟩)]
      clear h1 h2
      go_enter Tryd.func79, Tryd.ntmps79
      go_wp2_with fail
      go_ret
      exact ⟨rfl, rfl⟩
    · have b2 : decide (c ≤ 9) = false := by simpa using h2
      rw [decide_eq_false (fun h : 0 ≤ c ∧ c ≤ 9 => h2 h.2)]
      clear h1 h2
      go_enter Tryd.func79, Tryd.ntmps79
      go_wp2_with fail
      go_ret
      exact ⟨rfl, rfl⟩
  · have b1 : decide (0 ≤ c) = false := by simpa using h1
    rw [decide_eq_false (fun h : 0 ≤ c ∧ c ≤ 9 => h1 h.1)]
    clear h1
    go_enter Tryd.func79, Tryd.ntmps79
    go_wp2_with fail
    go_ret
    exact ⟨rfl, rfl⟩
set_option maxRecDepth 100000 in
theorem lihas (h : IsT w q t) (i : Int) : Calls Tryd.prog 86 #[.pointer (some ⟨q.m, 0, none⟩), .int .i64 i] w fun e w' => e = .returned (.bool (decide (0 ≤ i ∧ i < t.a))) ∧ Fr [] w w' := by
  have hc := tcfg h
  have hfd := field_a t.a t.s
  generalize t.a = a at *
  generalize t.s = s at *
  clear h
  by_cases h1 : 0 ≤ i
  · have b1 : decide (0 ≤ i) = true := by simpa using h1
    by_cases h2 : i < a
    · have b2 : decide (i < a) = true := by simpa using h2
      rw [decide_eq_true (show 0 ≤ i ∧ i < a from ⟨h1, h2⟩)]
      clear h1 h2
      go_enter Tryd.func86, Tryd.ntmps86
      go_wp2_with fail
      with_reducible refine hc.mono ?_
      rintro e w1 ⟨rfl, f1⟩
      go_wp2_with fail
      go_ret
      exact ⟨rfl, f1⟩
    · have b2 : decide (i < a) = false := by simpa using h2
      rw [decide_eq_false (fun h : 0 ≤ i ∧ i < a => h2 h.2)]
      clear h1 h2
      go_enter Tryd.func86, Tryd.ntmps86
      go_wp2_with fail
      with_reducible refine hc.mono ?_
      rintro e w1 ⟨rfl, f1⟩
      go_wp2_with fail
      go_ret
      exact ⟨rfl, f1⟩
  · have b1 : decide (0 ≤ i) = false := by simpa using h1
    rw [decide_eq_false (fun h : 0 ≤ i ∧ i < a => h1 h.1)]
    clear h1
    go_enter Tryd.func86, Tryd.ntmps86
    go_wp2_with fail
    go_ret
    exact ⟨rfl, Fr.refl _ _⟩
theorem lipart (h : IsT w q t) (i p : Nat) (hi : i < t.a) (hp : p < 5) (x k : Int) (hx : x = hdA p) (hk : k = hdW p) :
    Calls Tryd.prog 76 #[.pointer (some ⟨q.m, 0, none⟩), .int .i64 i, .int .i64 x, .int .i64 k] w fun e w' => e = .returned (.int .i64 (t.hd i p)) ∧ IsT w' q t ∧ Fr q.blocks w w' := by
  have hc := tcfg h
  have hat := at_hd h.ok i p hi hp
  have hh : ∀ W, TabM W → Calls Tryd.prog 108 #[.agg #[.int .i64 t.a, .int .i64 t.s], .int .i64 i] W fun e w' => e = .returned (.int .i64 (hdAt i)) ∧ Fr [] W w' := fun W hW => lhead_any W hW t.a t.s h.ok.cfg i hi
  have hl := hdA_le p hp
  have ha := (tm_small h.ok).1
  have hv : t.hd i p < 4294967296 := by
    have := h.ok.hd i p
    rcases hl.2.1 with e | e <;> rw [e] at this <;> omega
  have hld : ∀ W, IsT W q t → Calls Tryd.prog 69 #[.pointer (some ⟨q.m, 0, none⟩), .int .i64 ((hdAt i : Int) + x), .int .i64 k, .int .i64 3] W fun e w'' => e = .returned (.int .u64 (t.hd i p)) ∧ IsT w'' q t ∧ Fr q.blocks W w'' := fun W hW => by
    have := tload hW hat
    rw [Int.natCast_add] at this
    rw [hx, hk]
    exact this
  have hw1 : IntKind.i64.wrap ((hdAt i : Int) + x) = (hdAt i : Int) + x := IntWalk.i64_in _ (by unfold hdAt; omega)
  have hw2 : IntKind.i64.wrap ((t.hd i p : Nat) : Int) = ((t.hd i p : Nat) : Int) := IntWalk.i64_in _ (by omega)
  have HI := Lib.hid h
  generalize t.hd i p = v at *
  generalize hdAt i = z at *
  generalize t.a = a at *
  generalize t.s = s at *
  clear h hx hk hat hl
  go_enter Tryd.func76, Tryd.ntmps76
  go_wp2_with fail
  with_reducible refine hc.mono ?_
  rintro e w1 ⟨rfl, f1⟩
  have H1 := Lib.hid (HI.out.fr0 f1)
  go_wp2_with fail
  with_reducible refine (hh _ H1.out.tab).mono ?_
  rintro e w2 ⟨rfl, f2⟩
  have H2 := Lib.hid (H1.out.fr0 f2)
  go_wp2_with fail
  with_reducible refine (hld _ H2.out).mono ?_
  rintro e w3 ⟨rfl, h3, f3⟩
  have H3 := Lib.hid h3
  have F3 := Lib.hid ((f1.trans f2).nil.trans f3)
  clear h3 f1 f2 f3
  go_wp2_with fail
  go_ret
  exact ⟨rfl, H3.out, F3.out⟩
theorem liput (h : IsT w q t) (i p v : Nat) (hi : i < t.a) (hp : p < 5) (hv : v < 256 ^ hdW p) (x k y : Int) (hx : x = hdA p) (hk : k = hdW p) (hy : y = v) (i' : Int) (hi' : i' = i) :
    Calls Tryd.prog 78 #[.pointer (some ⟨q.m, 0, none⟩), .int .i64 i', .int .i64 x, .int .i64 k, .int .u64 y] w fun e w' => e = .returned (.tuple #[]) ∧ IsT w' q (t.setHd i p v) ∧ Fr q.blocks w w' := by
  subst hi' hy
  have hc := tcfg h
  have hat := at_hd h.ok i p hi hp
  have hh : ∀ W, TabM W → Calls Tryd.prog 108 #[.agg #[.int .i64 t.a, .int .i64 t.s], .int .i64 i] W fun e w' => e = .returned (.int .i64 (hdAt i)) ∧ Fr [] W w' := fun W hW => lhead_any W hW t.a t.s h.ok.cfg i hi
  have hl := hdA_le p hp
  have ha := (tm_small h.ok).1
  have hst : ∀ W, IsT W q t → Calls Tryd.prog 60 #[.pointer (some ⟨q.m, 0, none⟩), .int .i64 ((hdAt i : Int) + x), .int .i64 k, .int .i64 3, .int .u64 v] W fun e w'' => e = .returned (.bool true) ∧ IsT w'' q (t.setHd i p v) ∧ Fr q.blocks W w'' := fun W hW => by
    have := tstore hW hat hv (setHd_ok hW.ok i p v hv) (setHd_sto hW.ok i p v hi hp hv)
    rw [Int.natCast_add] at this
    rw [hx, hk]
    exact this
  have hw1 : IntKind.i64.wrap ((hdAt i : Int) + x) = (hdAt i : Int) + x := IntWalk.i64_in _ (by unfold hdAt; omega)
  have HI := Lib.hid h
  generalize t.setHd i p v = t' at *
  generalize hdAt i = z at *
  generalize t.a = a at *
  generalize t.s = s at *
  clear h hx hk hat hl hv
  go_enter Tryd.func78, Tryd.ntmps78
  go_wp2_with fail
  with_reducible refine hc.mono ?_
  rintro e w1 ⟨rfl, f1⟩
  have H1 := Lib.hid (HI.out.fr0 f1)
  go_wp2_with fail
  with_reducible refine (hh _ H1.out.tab).mono ?_
  rintro e w2 ⟨rfl, f2⟩
  have H2 := Lib.hid (H1.out.fr0 f2)
  go_wp2_with fail
  with_reducible refine (hst _ H2.out).mono ?_
  rintro e w3 ⟨rfl, h3, f3⟩
  have H3 := Lib.hid h3
  have F3 := Lib.hid ((f1.trans f2).nil.trans f3)
  clear h3 f1 f2 f3
  go_wp2_with fail
  go_end0
  exact ⟨rfl, H3.out, F3.out⟩
theorem lifirst (h : IsT w q t) (c : Nat) (hc : c ≤ 9) (c' : Int) (ec : c' = c) :
    Calls Tryd.prog 73 #[.pointer (some ⟨q.m, 0, none⟩), .int .i64 c'] w fun e w' => e = .returned (.int .i64 (t.rt (3 + c))) ∧ IsT w' q t ∧ Fr q.blocks w w' := by
  subst ec
  have hr := troot h (3 + c) (by omega) (3 + c) (by omega)
  have hw1 : IntKind.i64.wrap (3 + (c : Int)) = 3 + (c : Int) := IntWalk.i64_in _ (by omega)
  have hv : t.rt (3 + c) < 4294967296 := by
    have := h.ok.rt (3 + c)
    rw [show fldW (3 + c) = 4 by unfold fldW; rw [if_neg (by omega)]] at this
    omega
  have hw2 : IntKind.i64.wrap ((t.rt (3 + c) : Nat) : Int) = ((t.rt (3 + c) : Nat) : Int) := IntWalk.i64_in _ (by omega)
  generalize t.rt (3 + c) = v at *
  clear h
  go_enter Tryd.func73, Tryd.ntmps73
  go_wp2_with fail
  with_reducible refine hr.mono ?_
  rintro e w1 ⟨rfl, h1, f1⟩
  have H1 := Lib.hid h1
  clear h1 hr
  go_wp2_with fail
  go_ret
  exact ⟨rfl, H1.out, f1⟩
end
end Go.Proofs.YtcagljjbiodcoaaDoor
