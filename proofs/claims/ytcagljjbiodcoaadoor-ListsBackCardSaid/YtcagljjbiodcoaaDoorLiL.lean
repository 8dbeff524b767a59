/- Package lists: All, whole; layer 14's lines. -/
import Derived.Test.YtcagljjbiodcoaaDoorLiI
import Derived.Test.YtcagljjbiodcoaaDoorLiB
import Derived.Test.YtcagljjbiodcoaaDoorLiA
import Derived.Test.YtcagljjbiodcoaaDoorTmN
namespace Go.Proofs.YtcagljjbiodcoaaDoor
set_option linter.unusedVariables false
open Go.RowKit

def lstI (a : Nat) (inn : Nat → Int) (c : Int) : List Nat := if 0 ≤ c ∧ c ≤ 9 then lst a inn c.toNat else []
variable {w : World} {q : MH} {t : TM} {inn : Nat → Int}
theorem liall_no (h : IsT w q t) (c : Int) (hc : ¬ (0 ≤ c ∧ c ≤ 9)) :
    Calls Tryd.prog 35 #[.pointer (some ⟨q.m, 0, none⟩), .int .i64 c] w fun e w' => e = .returned (.slice none 0 0) ∧ Fr [] w w' := by
  have hma := limade h
  have hi := fun W => liis W c
  rw [decide_eq_false hc] at hi
  clear h hc
  go_enter Tryd.func35, Tryd.ntmps35
  go_wp2_with fail
  with_reducible refine hma.mono ?_
  rintro e w1 ⟨rfl, f1⟩
  clear hma
  go_wp2_with fail
  with_reducible refine (hi _).mono ?_
  rintro e w2 ⟨rfl, rfl⟩
  go_wp2_with fail
  go_ret
  exact ⟨rfl, f1⟩
theorem liall (h : IsT w q t) (hl : LS t inn) (c : Int) :
    Calls Tryd.prog 35 #[.pointer (some ⟨q.m, 0, none⟩), .int .i64 c] w fun e w' => ∃ v, e = .returned v ∧ w'.ownsRow w.heap.size 3 1 v (lstI t.a inn c).length (intC (lstI t.a inn c)) ∧ IsT w' q t ∧ Fr q.blocks w w' := by
  unfold lstI
  by_cases hc : 0 ≤ c ∧ c ≤ 9
  · rw [if_pos hc]
    obtain ⟨k, rfl⟩ : ∃ k : Nat, c = k := ⟨c.toNat, by omega⟩
    rw [Int.toNat_natCast]
    have hlen := lst_len t.a inn k
    have ha := (tm_small h.ok).1
    exact callsIn_wide.1 (all_in 4 (Nat.le_refl 4) w q t h k (by omega) (lst t.a inn k) (hl.ln k (by omega)) (lst_sorted t.a inn k) (by omega))
  · rw [if_neg hc]
    refine (liall_no h c hc).mono fun e w' ⟨he, hf⟩ => ⟨_, he, World.ownsRow_nil _ _ _ _, h.fr0 hf, hf.nil⟩

def insE (a : Nat) (inn : Nat → Int) (c x : Int) : Nat := if rightE a c x ≠ 0 then rightE a c x else if 0 ≤ inn x.toNat then 8 else 0
def insI (a : Nat) (inn : Nat → Int) (c x : Int) : Nat → Int := if insE a inn c x = 0 then up inn x.toNat c else inn
def remE (a : Nat) (inn : Nat → Int) (c x : Int) : Nat := if rightE a c x ≠ 0 then rightE a c x else if inn x.toNat ≠ c then 7 else 0
def remI (a : Nat) (inn : Nat → Int) (c x : Int) : Nat → Int := if remE a inn c x = 0 then up inn x.toNat (-1) else inn
/-- A memory behind a call: the lists that it says, and all else as it was. -/
def LisP (q : MH) (t : TM) (inn : Nat → Int) (S : List Nat) (w : World) (r : Int) (e : Ending) (w' : World) : Prop := e = .returned (.int .i64 r) ∧ ∃ t', IsT w' q t' ∧ LS t' inn ∧ Lis t t' ∧ Fr S w w'
theorem rightE_nz {a : Nat} {c x : Int} (h : rightE a c x = 0) : ∃ c' x' : Nat, c = c' ∧ x = x' ∧ c' ≤ 9 ∧ x' < a := by
  unfold rightE at h
  by_cases h1 : 0 ≤ c ∧ c ≤ 9
  · rw [if_neg (fun k => k h1)] at h
    by_cases h2 : 0 ≤ x ∧ x < (a : Int)
    · exact ⟨c.toNat, x.toNat, by omega, by omega, by omega, by omega⟩
    · rw [if_pos h2] at h; cases h
  · rw [if_pos h1] at h; cases h
theorem liins (h : IsT w q t) (hl : LS t inn) (c x : Int) :
    Calls Tryd.prog 33 #[.pointer (some ⟨q.m, 0, none⟩), .int .i64 c, .int .i64 x] w (LisP q t (insI t.a inn c x) q.blocks w (insE t.a inn c x)) := by
  by_cases hr : rightE t.a c x = 0
  · obtain ⟨c, x, rfl, rfl, hc, hx⟩ := rightE_nz hr
    by_cases hn : 0 ≤ inn x
    · have hE : insE t.a inn c x = 8 := by unfold insE; rw [if_neg (fun k => k hr), Int.toNat_natCast, if_pos hn]
      unfold insI
      rw [hE, if_neg (by decide)]
      exact (liins_st h hl c x hc hx hn).mono fun e w' ⟨he, hi, hf⟩ => ⟨he, t, hi, hl, Lis.refl t, hf⟩
    · have hE : insE t.a inn c x = 0 := by unfold insE; rw [if_neg (fun k => k hr), Int.toNat_natCast, if_neg hn]
      unfold insI
      rw [hE, if_pos rfl, Int.toNat_natCast]
      exact (liins_yes h hl c x hc hx (by omega)).mono fun e w' ⟨he, hi, hf⟩ => ⟨he, _, hi, hl.ins hc hx (by omega), lis_lnk _ _ _ _ _ hc, hf⟩
  · have hE : insE t.a inn c x = rightE t.a c x := by unfold insE; rw [if_pos hr]
    unfold insI
    rw [hE, if_neg hr]
    exact (liins_no h c x hr).mono fun e w' ⟨he, hf⟩ => ⟨he, t, h.fr0 hf, hl, Lis.refl t, hf.nil⟩
theorem lirem (h : IsT w q t) (hl : LS t inn) (c x : Int) :
    Calls Tryd.prog 34 #[.pointer (some ⟨q.m, 0, none⟩), .int .i64 c, .int .i64 x] w (LisP q t (remI t.a inn c x) q.blocks w (remE t.a inn c x)) := by
  by_cases hr : rightE t.a c x = 0
  · obtain ⟨c, x, rfl, rfl, hc, hx⟩ := rightE_nz hr
    by_cases hn : inn x = (c : Int)
    · have hE : remE t.a inn c x = 0 := by unfold remE; rw [if_neg (fun k => k hr), Int.toNat_natCast, if_neg (fun k => k hn)]
      unfold remI
      rw [hE, if_pos rfl, Int.toNat_natCast]
      exact (lirem_yes h hl c x hc hx hn).mono fun e w' ⟨he, hi, hf⟩ => ⟨he, _, hi, hl.del hc hx hn, lis_unl _ _ _ _ _ hc, hf⟩
    · have hE : remE t.a inn c x = 7 := by unfold remE; rw [if_neg (fun k => k hr), Int.toNat_natCast, if_pos hn]
      unfold remI
      rw [hE, if_neg (by decide)]
      exact (lirem_none h hl c x hc hx hn).mono fun e w' ⟨he, hi, hf⟩ => ⟨he, t, hi, hl, Lis.refl t, hf⟩
  · have hE : remE t.a inn c x = rightE t.a c x := by unfold remE; rw [if_pos hr]
    unfold remI
    rw [hE, if_neg hr]
    exact (lirem_no h c x hr).mono fun e w' ⟨he, hf⟩ => ⟨he, t, h.fr0 hf, hl, Lis.refl t, hf.nil⟩

def i71 : Nat → Int := innB 7 7
def i72 : Nat → Int := up i71 0 (-1)
def i73 : Nat → Int := up i72 0 3
theorem cfg7 : Cfg 7 224 := ⟨by decide, by decide, by decide, by decide, by decide⟩
theorem remE7 : remE 7 i71 0 0 = 0 := by decide
theorem remI7 : remI 7 i71 0 0 = i72 := by unfold remI; rw [remE7]; rfl
theorem insE7 : insE 7 i72 3 0 = 0 := by decide
theorem insI7 : insI 7 i72 3 0 = i73 := by unfold insI; rw [insE7]; rfl
theorem insE73 : insE 7 i73 0 0 = 8 := by decide
theorem insI73 : insI 7 i73 0 0 = i73 := by unfold insI; rw [insE73]; rfl
theorem lst730 : lst 7 i73 0 = [1, 2, 3, 4, 5, 6] := by decide
theorem lst733 : lst 7 i73 3 = [0] := by decide
theorem lst734 : lst 7 i73 4 = [] := by decide
structure L7 (w0 : World) (q : MH) (inn : Nat → Int) (W : World) : Prop where
  x : ∃ t, IsT W q t ∧ LS t inn ∧ t.a = 7 ∧ t.ft = 0
  f : Fr q.blocks w0 W
theorem l7_begin (w0 : World) (q : MH) (h : IsT w0 q (newT 7 224)) : Calls Tryd.prog 32 #[.pointer (some ⟨q.m, 0, none⟩)] w0 fun e w' => e = .returned (.int .i64 0) ∧ L7 w0 q i71 w' :=
  (libegin h).mono fun e w' ⟨he, hi, hf⟩ => ⟨he, ⟨_, hi, beg_LS _ _ (Nat.le_refl _), beg_a _ _, (lis_beg _ _).ft⟩, hf⟩
theorem l7_rem (w0 W : World) (q : MH) (h : L7 w0 q i71 W) : Calls Tryd.prog 34 #[.pointer (some ⟨q.m, 0, none⟩), .int .i64 0, .int .i64 0] W fun e w' => e = .returned (.int .i64 0) ∧ L7 w0 q i72 w' := by
  obtain ⟨⟨t, hi, hl, ha, hft⟩, hf⟩ := h
  have := lirem hi hl 0 0
  rw [ha, remI7, remE7] at this
  exact this.mono fun e w' ⟨he, t', h1, h2, h3, h4⟩ => ⟨he, ⟨t', h1, h2, h3.a.trans ha, h3.ft.trans hft⟩, hf.trans h4⟩
theorem l7_ins (w0 W : World) (q : MH) (h : L7 w0 q i72 W) : Calls Tryd.prog 33 #[.pointer (some ⟨q.m, 0, none⟩), .int .i64 3, .int .i64 0] W fun e w' => e = .returned (.int .i64 0) ∧ L7 w0 q i73 w' := by
  obtain ⟨⟨t, hi, hl, ha, hft⟩, hf⟩ := h
  have := liins hi hl 3 0
  rw [ha, insI7, insE7] at this
  exact this.mono fun e w' ⟨he, t', h1, h2, h3, h4⟩ => ⟨he, ⟨t', h1, h2, h3.a.trans ha, h3.ft.trans hft⟩, hf.trans h4⟩
theorem l7_ins2 (w0 W : World) (q : MH) (h : L7 w0 q i73 W) : Calls Tryd.prog 33 #[.pointer (some ⟨q.m, 0, none⟩), .int .i64 0, .int .i64 0] W fun e w' => e = .returned (.int .i64 8) ∧ L7 w0 q i73 w' := by
  obtain ⟨⟨t, hi, hl, ha, hft⟩, hf⟩ := h
  have := liins hi hl 0 0
  rw [ha, insI73, insE73] at this
  exact this.mono fun e w' ⟨he, t', h1, h2, h3, h4⟩ => ⟨he, ⟨t', h1, h2, h3.a.trans ha, h3.ft.trans hft⟩, hf.trans h4⟩
theorem l7_fst (w0 W : World) (q : MH) (h : L7 w0 q i73 W) (c r : Int) (hr : (if 0 ≤ c ∧ c ≤ 9 then (hd1 (lst 7 i73 c.toNat) : Int) - 1 else -1) = r) : Calls Tryd.prog 36 #[.pointer (some ⟨q.m, 0, none⟩), .int .i64 c] W fun e w' => e = .returned (.int .i64 r) ∧ L7 w0 q i73 w' := by
  obtain ⟨⟨t, hi, hl, ha, hft⟩, hf⟩ := h
  have := lifst hi hl c
  unfold firstV at this
  rw [ha, hr] at this
  exact this.mono fun e w' ⟨he, h1, h4⟩ => ⟨he, ⟨t, h1, hl, ha, hft⟩, hf.trans h4⟩
theorem l7_all (w0 W : World) (q : MH) (h : L7 w0 q i73 W) : Calls Tryd.prog 35 #[.pointer (some ⟨q.m, 0, none⟩), .int .i64 0] W fun e w' => ∃ g cap, e = .returned (.slice (some ⟨g, 0, none⟩) 6 cap) ∧ L7 w0 q i73 w' := by
  obtain ⟨⟨t, hi, hl, ha, hft⟩, hf⟩ := h
  have := liall hi hl 0
  unfold lstI at this
  rw [ha, if_pos (by decide), show (0 : Int).toNat = 0 from rfl, lst730] at this
  exact this.mono fun e w' ⟨v, he, hr, h1, h4⟩ => by
    obtain ⟨g, cap, rfl⟩ := ownsRow_succ (k := 5) hr
    exact ⟨g, cap, he, ⟨t, h1, hl, ha, hft⟩, hf.trans h4⟩
theorem l7_faults (w0 W : World) (q : MH) (h : L7 w0 q i73 W) : Calls Tryd.prog 22 #[.pointer (some ⟨q.m, 0, none⟩)] W fun e w' => e = .returned (.int .i64 0) ∧ Fr q.blocks w0 w' := by
  obtain ⟨⟨t, hi, hl, ha, hft⟩, hf⟩ := h
  have := tfaults hi
  rw [hft] at this
  exact this.mono fun e w' ⟨he, h4⟩ => ⟨he, hf.step h4 (by simp)⟩
set_option maxRecDepth 100000 in
theorem lines14 (w : World) (hM : TabM w) : Calls Tryd.prog 31 #[] w fun e w' => e = .returned (.bool true) ∧ Fr [] w w' := by
  have hn := (show Calls Tryd.prog 17 #[.agg #[.int .i64 7, .int .i64 224]] w (NewT w 7 224) from tnew w hM 7 224 cfg7)
  have HFR := Lib.hid (show ∀ (q : MH) W W', (∀ k ∈ q.blocks, w.heap.size ≤ k) → Fr [] w W → Fr q.blocks W W' → Fr [] w W' from fun q W W' hq h1 h2 => h1.step h2 (fun k hk => .inr (hq k hk)))
  go_enter Tryd.func31, Tryd.ntmps31
  go_wp2_with fail
  with_reducible refine hn.mono ?_
  rintro e w1 ⟨q, rfl, h1, hq, f1⟩
  have HB := Lib.hid (l7_begin w1 q h1)
  clear hn h1
  go_wp2_with fail
  with_reducible refine HB.out.mono ?_
  rintro e w2 ⟨rfl, h2⟩
  go_wp2_with fail
  with_reducible refine (l7_rem _ _ _ h2).mono ?_
  rintro e w3 ⟨rfl, h3⟩
  go_wp2_with fail
  with_reducible refine (l7_ins _ _ _ h3).mono ?_
  rintro e w4 ⟨rfl, h4⟩
  go_wp2_with fail
  with_reducible refine (l7_ins2 _ _ _ h4).mono ?_
  rintro e w5 ⟨rfl, h5⟩
  clear HB h2 h3 h4
  go_wp2_with fail
  with_reducible refine (l7_fst _ _ _ h5 0 1 (by decide)).mono ?_
  rintro e w6 ⟨rfl, h6⟩
  go_wp2_with fail
  with_reducible refine (l7_fst _ _ _ h6 3 0 (by decide)).mono ?_
  rintro e w7 ⟨rfl, h7⟩
  go_wp2_with fail
  with_reducible refine (l7_fst _ _ _ h7 4 (-1) (by decide)).mono ?_
  rintro e w8 ⟨rfl, h8⟩
  go_wp2_with fail
  with_reducible refine (l7_all _ _ _ h8).mono ?_
  rintro e w9 ⟨g, cap, rfl, h9⟩
  clear h5 h6 h7 h8
  go_wp2_with fail
  with_reducible refine (l7_faults _ _ _ h9).mono ?_
  rintro e w10 ⟨rfl, f10⟩
  go_wp2_with fail
  go_ret
  exact ⟨rfl, HFR.out q _ _ hq f1 f10⟩
end Go.Proofs.YtcagljjbiodcoaaDoor
