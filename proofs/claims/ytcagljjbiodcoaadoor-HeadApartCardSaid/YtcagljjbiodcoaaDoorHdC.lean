/- Heads of blocks in a memory: contracts of head.lying, Load, Store. -/
import Derived.Test.YtcagljjbiodcoaaDoorHd
namespace Go.Proofs.YtcagljjbiodcoaaDoor
set_option linter.unusedVariables false
open Go.RowKit

/-- A head as lying finds it: a live one by its tag, any other one as a free one. -/
def Lies (tag kind : Nat) (n : Nat → Nat) : Prop := (kind = 5 ∧ n 0 = tag) ∨ (kind ≠ 5 ∧ tag = 0)
section
variable {w : World} {q : MH} {t : TM} {x tag kind : Nat} {n : Nat → Nat} {m : Nat}

theorem hlying (h : IsH w q t) (hh : HeadTo t x tag kind n m) (hm : 0 < m) (hk : Lies tag kind n) :
    Calls Tryd.prog 66 #[.pointer (some ⟨q.m, 0, none⟩), .int .i64 x] w fun e w' => e = .returned (.tuple #[.int .i64 tag, .int .i64 kind]) ∧ IsH w' q t ∧ Fr q.blocks w w' := by
  have hs := sz_le tag hh.tg
  have h8 := hh.al
  have hfit := hh.fit
  have hkd := tkind4 h.m x (by omega) (by omega)
  rw [hh.kinds (x / 4) (Nat.le_refl _) (by omega)] at hkd
  have HI := Lib.hid h
  rcases hk with ⟨rfl, h0⟩ | ⟨h5, rfl⟩
  · have hw0 : wh tag 0 = (0, 1) := by
      have : ∀ tag, tag < 3 → wh tag 0 = (0, 1) := by decide
      exact this tag (by have := hh.tg; omega)
    have ha := hh.at 0 (by decide) hm (by rw [hw0]; decide)
    rw [hw0, h0] at ha
    have hld := fun W (hW : IsT W q t) => tload hW ha
    have ht2 := hh.tg
    have hcv : IntKind.i64.wrap (tag : Int) = tag := IntWalk.i64_in _ (by omega)
    clear h hh ha h0 hw0
    rw [Nat.add_zero] at hld
    go_enter Tryd.func66, Tryd.ntmps66
    go_wp2_with fail
    have hkd' : Calls Tryd.prog 101 #[.pointer (some ⟨q.m, 0, none⟩), .int .i64 x, .int .i64 4] w fun e w' => e = .returned (.int .i64 5) ∧ w' = w := hkd
    with_reducible refine hkd'.mono ?_
    rintro e w' ⟨rfl, rfl⟩
    go_wp2_with fail
    have hld' : Calls Tryd.prog 69 #[.pointer (some ⟨q.m, 0, none⟩), .int .i64 x, .int .i64 1, .int .i64 5] w' fun e w'' => e = .returned (.int .u64 tag) ∧ IsT w'' q t ∧ Fr q.blocks w' w'' := hld w' HI.out.m
    with_reducible refine hld'.mono ?_
    rintro e w1 ⟨rfl, h1, f1⟩
    go_wp2_with fail
    go_ret2
    exact ⟨rfl, HI.out.step h1 f1, f1⟩
  · have hb : ((kind : Int) != 5) = true := by simp; omega
    clear h hh hs hfit
    go_enter Tryd.func66, Tryd.ntmps66
    go_wp2_with fail
    with_reducible refine hkd.mono ?_
    rintro e w' ⟨rfl, rfl⟩
    go_wp2_with fail
    go_ret2
    exact ⟨rfl, HI.out, Fr.refl _ _⟩

/-- A field's number; nought where there is no such field. -/
def hvN (tag : Nat) (n : Nat → Nat) (f : Int) : Nat := if (whZ tag f).2 = 0 then 0 else n f.toNat
theorem whZ_some {tag : Nat} {f : Int} (h : (whZ tag f).2 ≠ 0) : ∃ k : Nat, f = k ∧ k < 12 ∧ whZ tag f = wh tag k := by
  unfold whZ at h ⊢
  split at h
  · next e => exact ⟨f.toNat, by omega, by omega, by rw [if_pos e, Int.toNat_natCast]⟩
  · exact absurd rfl h

theorem hload (h : IsH w q t) (hh : HeadTo t x tag kind n 12) (hk : Lies tag kind n) (f : Int) :
    Calls Tryd.prog 28 #[.pointer (some ⟨q.m, 0, none⟩), .int .i64 x, .int .i64 f] w fun e w' => e = .returned (.int .u64 (hvN tag n f)) ∧ IsH w' q t ∧ Fr q.blocks w w' := by
  have hly := hlying h hh (by decide) hk
  have hpl := fun W hW => place_any W hW tag f
  have hlt := h.m.lt
  have HI := Lib.hid h
  unfold hvN
  by_cases h0 : (whZ tag f).2 = 0
  · rw [if_pos h0]
    rw [wh_zero tag f h0] at hpl
    clear h hh hk h0
    simp only [rowV] at hpl
    go_enter Tryd.func28, Tryd.ntmps28
    go_wp2_with fail
    with_reducible refine hly.mono ?_
    rintro e w1 ⟨rfl, h1, f1⟩
    go_wp2_with fail
    with_reducible refine (hpl _ h1.tabs).mono ?_
    rintro e w2 ⟨rfl, f2⟩
    have h2 := h1.fr0 f2
    have n0 := (h2.alloc (.cells #[.int .i64 0, .int .i64 0] 101)).tabs.now 0
    have n1 := (h2.alloc (.cells #[.int .i64 0, .int .i64 0] 101)).tabs.now 1
    have hE : ∀ w, (Op.equalIn 10000 101 (.agg #[.int .i64 0, .int .i64 0]) (.agg #[.int .i64 0, .int .i64 0])).run Tryd.prog w = .ok true w := fun w => eq_row 0 0 0 0 w
    simp [nowT, intsA] at n0 n1
    have H2 := Lib.hid h2
    clear h1 h2 hpl hly
    go_wp2_with fail
    go_ret
    exact ⟨rfl, H2.out.alloc _, (f1.trans f2.nil).alloc _⟩
  · rw [if_neg h0]
    obtain ⟨k, rfl, hk12, hwk⟩ := whZ_some h0
    rw [hwk] at h0 hpl
    have ha := hh.at k hk12 hk12 h0
    have hld := fun W (hW : IsT W q t) => tload hW ha
    obtain ⟨hk1, hk2, hk3⟩ := wh_ok tag k hh.tg hk12 h0
    have hs := sz_le tag hh.tg
    have hfit := hh.fit
    have hls : lsize t.a t.s ≤ 1099511627776 := by
      have := h.m.ok.cfg
      obtain ⟨c1, c2, c3, c4, c5⟩ := this
      unfold lsize lbase; omega
    rw [Int.toNat_natCast]
    clear h hh hk ha hwk
    generalize wh tag k = ab at *
    obtain ⟨a, b⟩ := ab
    simp only [rowV] at hpl
    simp only at h0 hld hk1 hk2 hk3
    generalize n k = v at *
    have hb0 : ((b : Int) == 0) = false := by simp; omega
    have hw1 : IntKind.i64.wrap ((x : Int) + a) = (x : Int) + a := IntWalk.i64_in _ (by omega)
    have hld' : ∀ W, IsT W q t → Calls Tryd.prog 69 #[.pointer (some ⟨q.m, 0, none⟩), .int .i64 ((x : Int) + a), .int .i64 b, .int .i64 kind] W fun e w'' => e = .returned (.int .u64 v) ∧ IsT w'' q t ∧ Fr q.blocks W w'' := fun W hW => by
      have := hld W hW
      rw [Int.natCast_add] at this
      exact this
    clear hld hs hfit hk1 hk2 hk3
    go_enter Tryd.func28, Tryd.ntmps28
    go_wp2_with fail
    with_reducible refine hly.mono ?_
    rintro e w1 ⟨rfl, h1, f1⟩
    go_wp2_with fail
    with_reducible refine (hpl _ h1.tabs).mono ?_
    rintro e w2 ⟨rfl, f2⟩
    have h2 := h1.fr0 f2
    have n0 := (h2.alloc (.cells #[.int .i64 a, .int .i64 b] 101)).tabs.now 0
    have n1 := (h2.alloc (.cells #[.int .i64 a, .int .i64 b] 101)).tabs.now 1
    have hE : ∀ w, (Op.equalIn 10000 101 (.agg #[.int .i64 a, .int .i64 b]) (.agg #[.int .i64 0, .int .i64 0])).run Tryd.prog w = .ok false w := fun w => by rw [eq_row, hb0, Bool.and_false]
    simp [nowT, intsA] at n0 n1
    have H2 := Lib.hid (h2.alloc (.cells #[.int .i64 a, .int .i64 b] 101))
    clear h1 h2 hpl hly
    go_wp2_with fail
    with_reducible refine (hld' _ H2.out.m).mono ?_
    rintro e w3 ⟨rfl, h3, f3⟩
    go_wp2_with fail
    go_ret
    exact ⟨rfl, H2.out.step h3 f3, ((f1.trans f2.nil).alloc _).trans f3⟩

/-- A number that a field doesn't take is not written. -/
theorem At.sto_bad {t : TM} {x k kind v : Nat} (h : At t x k kind v) {v' : Nat} (hv : ¬ v' < 256 ^ k) : t.ms.sto x k kind v' = t.ms ∧ t.ms.stB x k kind v' = false := by
  have hk : widB k = true := by have := h.wid; simp [widB]; omega
  have hf : fitsN v' k = false := by simp [fitsN, hk]; omega
  have hp : placeE t.ms.l.length x k ≠ 2 := by
    rw [placeE_ok _ _ _ h.wid h.div (by show _ ≤ t.bytes.length; rw [TM.bytes_len]; exact h.fit)]; decide
  have hE : putE t.ms.l x k v' = 2 := by unfold putE; rw [if_pos ⟨hp, hf⟩]
  constructor
  · unfold MS.sto
    rw [h.may, if_pos rfl, if_pos rfl]
    unfold putL
    rw [hE, if_neg (by decide)]
  · unfold MS.stB
    rw [h.may, hE]
    rfl
theorem tstore_bad (h : IsT w q t) {k v v' : Nat} (ha : At t x k kind v) (hv : ¬ v' < 256 ^ k) (h64 : v' < 18446744073709551616) :
    Calls Tryd.prog 60 #[.pointer (some ⟨q.m, 0, none⟩), .int .i64 x, .int .i64 k, .int .i64 kind, .int .u64 v'] w fun e w' => e = .returned (.bool false) ∧ IsT w' q t ∧ Fr q.blocks w w' := by
  refine (mstore w q t.ms h.m x k kind v' h64).mono fun e w' ⟨he, hm, hf⟩ => ?_
  obtain ⟨e1, e2⟩ := ha.sto_bad hv
  rw [e2] at he
  rw [e1] at hm
  exact ⟨he, ⟨h.ok, hm, h.tab.fr hf.pwga h.hi, h.hi⟩, hf.pwga⟩

/-- Whether a field takes a number. -/
def hstB (tag : Nat) (f : Int) (v : Nat) : Bool := (whZ tag f).2 != 0 && decide (v < 256 ^ (whZ tag f).2)
def TM.hst (t : TM) (x tag : Nat) (f : Int) (v : Nat) : TM := if hstB tag f v then t.setB (x + (whZ tag f).1) (whZ tag f).2 v else t
theorem HeadTo.hst {n : Nat → Nat} (hh : HeadTo t x tag kind n 12) (hok : t.Ok) (f : Int) (v : Nat) : HeadTo (t.hst x tag f v) x tag kind (if hstB tag f v then up n f.toNat v else n) 12 ∧ (t.hst x tag f v).Ok := by
  unfold TM.hst
  by_cases hb : hstB tag f v = true
  · rw [if_pos hb, if_pos hb]
    simp [hstB] at hb
    obtain ⟨k, rfl, hk, hw⟩ := whZ_some hb.1
    rw [hw] at hb ⊢
    rw [Int.toNat_natCast]
    exact ⟨hh.set hok (Nat.le_refl _) k hk hb.1 v hb.2, setB_ok hok _ _ _⟩
  · rw [if_neg hb, if_neg hb]
    exact ⟨hh, hok⟩

theorem hstore (h : IsH w q t) (hh : HeadTo t x tag kind n 12) (hk : Lies tag kind n) (f : Int) (v : Nat) (hv : v < 18446744073709551616) :
    Calls Tryd.prog 29 #[.pointer (some ⟨q.m, 0, none⟩), .int .i64 x, .int .i64 f, .int .u64 v] w fun e w' => e = .returned (.bool (hstB tag f v)) ∧ IsH w' q (t.hst x tag f v) ∧ Fr q.blocks w w' := by
  have hly := hlying h hh (by decide) hk
  have hpl := fun W hW => place_any W hW tag f
  have HI := Lib.hid h
  by_cases h0 : (whZ tag f).2 = 0
  · have e1 : hstB tag f v = false := by simp [hstB, h0]
    have e2 : t.hst x tag f v = t := by unfold TM.hst; rw [e1]; rfl
    rw [e1, e2]
    rw [wh_zero tag f h0] at hpl
    clear h hh hk h0 e1 e2
    simp only [rowV] at hpl
    go_enter Tryd.func29, Tryd.ntmps29
    go_wp2_with fail
    with_reducible refine hly.mono ?_
    rintro e w1 ⟨rfl, h1, f1⟩
    go_wp2_with fail
    with_reducible refine (hpl _ h1.tabs).mono ?_
    rintro e w2 ⟨rfl, f2⟩
    have h2 := h1.fr0 f2
    have n0 := (h2.alloc (.cells #[.int .i64 0, .int .i64 0] 101)).tabs.now 0
    have n1 := (h2.alloc (.cells #[.int .i64 0, .int .i64 0] 101)).tabs.now 1
    have hE : ∀ w, (Op.equalIn 10000 101 (.agg #[.int .i64 0, .int .i64 0]) (.agg #[.int .i64 0, .int .i64 0])).run Tryd.prog w = .ok true w := fun w => eq_row 0 0 0 0 w
    simp [nowT, intsA] at n0 n1
    have H2 := Lib.hid h2
    clear h1 h2 hpl hly
    go_wp2_with fail
    go_ret
    exact ⟨rfl, H2.out.alloc _, (f1.trans f2.nil).alloc _⟩
  · have e0 : ∀ b, decide (v < 256 ^ (whZ tag f).2) = b → hstB tag f v = b := fun b hb => by unfold hstB; rw [hb]; simp [h0]
    obtain ⟨k, rfl, hk12, hwk⟩ := whZ_some h0
    have ha := hh.at k hk12 hk12 (by rw [← hwk]; exact h0)
    have hld : ∀ W, IsT W q t → Calls Tryd.prog 60 #[.pointer (some ⟨q.m, 0, none⟩), .int .i64 (x + (wh tag k).1 : Nat), .int .i64 (wh tag k).2, .int .i64 kind, .int .u64 v] W fun e w'' => e = .returned (.bool (hstB tag k v)) ∧ IsT w'' q (t.hst x tag k v) ∧ Fr q.blocks W w'' := fun W hW => by
      by_cases hvb : v < 256 ^ (wh tag k).2
      · have e1 := e0 true (by rw [hwk]; simpa using hvb)
        have e2 : t.hst x tag k v = t.setB (x + (wh tag k).1) (wh tag k).2 v := by unfold TM.hst; rw [e1, hwk]; rfl
        rw [e1, e2]
        exact tstore hW ha hvb (setB_ok hW.ok _ _ _) (setB_sto hW.ok ha (by have := hh.base; omega) v hvb)
      · have e1 := e0 false (by rw [hwk]; simpa using hvb)
        have e2 : t.hst x tag k v = t := by unfold TM.hst; rw [e1]; rfl
        rw [e1, e2]
        exact tstore_bad hW ha hvb hv
    obtain ⟨hk1, hk2, hk3⟩ := wh_ok tag k hh.tg hk12 (by rw [← hwk]; exact h0)
    have hs := sz_le tag hh.tg
    have hfit := hh.fit
    have hls : lsize t.a t.s ≤ 1099511627776 := by
      obtain ⟨c1, c2, c3, c4, c5⟩ := h.m.ok.cfg
      unfold lsize lbase; omega
    rw [hwk] at h0 hpl
    clear h hh hk ha hwk e0
    generalize hstB tag k v = r at *
    generalize t.hst x tag k v = t' at *
    generalize wh tag k = ab at *
    obtain ⟨a, b⟩ := ab
    simp only [rowV] at hpl
    simp only at h0 hld hk1 hk2 hk3
    have hb0 : ((b : Int) == 0) = false := by simp; omega
    have hw1 : IntKind.i64.wrap ((x : Int) + a) = (x : Int) + a := IntWalk.i64_in _ (by omega)
    have hld' : ∀ W, IsT W q t → Calls Tryd.prog 60 #[.pointer (some ⟨q.m, 0, none⟩), .int .i64 ((x : Int) + a), .int .i64 b, .int .i64 kind, .int .u64 v] W fun e w'' => e = .returned (.bool r) ∧ IsT w'' q t' ∧ Fr q.blocks W w'' := fun W hW => by
      have := hld W hW
      rw [Int.natCast_add] at this
      exact this
    clear hld hs hfit hk1 hk2 hk3
    go_enter Tryd.func29, Tryd.ntmps29
    go_wp2_with fail
    with_reducible refine hly.mono ?_
    rintro e w1 ⟨rfl, h1, f1⟩
    go_wp2_with fail
    with_reducible refine (hpl _ h1.tabs).mono ?_
    rintro e w2 ⟨rfl, f2⟩
    have h2 := h1.fr0 f2
    have n0 := (h2.alloc (.cells #[.int .i64 a, .int .i64 b] 101)).tabs.now 0
    have n1 := (h2.alloc (.cells #[.int .i64 a, .int .i64 b] 101)).tabs.now 1
    have hE : ∀ w, (Op.equalIn 10000 101 (.agg #[.int .i64 a, .int .i64 b]) (.agg #[.int .i64 0, .int .i64 0])).run Tryd.prog w = .ok false w := fun w => by rw [eq_row, hb0, Bool.and_false]
    simp [nowT, intsA] at n0 n1
    have H2 := Lib.hid (h2.alloc (.cells #[.int .i64 a, .int .i64 b] 101))
    clear h1 h2 hpl hly
    go_wp2_with fail
    with_reducible refine (hld' _ H2.out.m).mono ?_
    rintro e w3 ⟨rfl, h3, f3⟩
    go_wp2_with fail
    go_ret
    exact ⟨rfl, H2.out.step h3 f3, ((f1.trans f2.nil).alloc _).trans f3⟩
end
end Go.Proofs.YtcagljjbiodcoaaDoor
