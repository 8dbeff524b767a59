/- Several texts in one. -/
import Derived.Test.YtkapkbiccppldaaGreatDoorGG
import Derived.Test.YtkapkbiccppldaaGreatDoorGI
/- Package ring: its root's fields, its neighbours: the small functions. -/
namespace Go.Proofs.YtkapkbiccppldaaGreatDoor
set_option linter.unusedVariables false
set_option linter.unusedSimpArgs false
open Go.RowKit

section
variable {w : World} {q : MH} {t : TM}
def ptV (m f : Nat) : Value := .agg #[.pointer (some ⟨m, 0, none⟩), .int .i64 f]
theorem rmade (h : IsT w q t) : Calls Tryz.prog 214 #[.pointer (some ⟨q.m, 0, none⟩)] w fun e w' => e = .returned (.bool true) ∧ Fr [] w w' := by
  have hc := tconfig h
  have ha := h.ok.cfg.a1
  have hq := fun W => eq_cfg0 t.a t.s ha W
  unfold cfgV at hc
  clear h
  generalize t.a = a at *
  generalize t.s = s at *
  go_enter Tryz.func214, Tryz.ntmps214
  go_wp2_with fail
  with_reducible refine hc.mono ?_
  rintro e w1 ⟨rfl, f1⟩
  have F1 := Lib.hid f1
  clear f1 hc
  go_wp2_with fail
  go_ret
  exact ⟨rfl, F1.out⟩
theorem rhand (w : World) (m : Nat) : Calls Tryz.prog 128 #[.pointer (some ⟨m, 0, none⟩)] w fun e w' => e = .returned (ptV m 13) ∧ Fr [] w w' := by
  unfold ptV
  go_enter Tryz.func128, Tryz.ntmps128
  go_wp2_with fail
  go_returns
  exact ⟨rfl, (Fr.refl [] w).alloc _⟩
theorem rbroom (w : World) (m : Nat) : Calls Tryz.prog 137 #[.pointer (some ⟨m, 0, none⟩)] w fun e w' => e = .returned (ptV m 14) ∧ Fr [] w w' := by
  unfold ptV
  go_enter Tryz.func137, Tryz.ntmps137
  go_wp2_with fail
  go_returns
  exact ⟨rfl, (Fr.refl [] w).alloc _⟩
theorem rpat (h : IsH w q t) (f : Nat) (hf : f < 16) : Calls Tryz.prog 129 #[ptV q.m f] w fun e w' => e = .returned (.int .i64 (t.rt f)) ∧ IsH w' q t ∧ Fr q.blocks w w' := by
  have hw : fldW f = 4 := by unfold fldW; rw [if_neg (by omega)]
  have hlt := h.ok.rt f
  rw [hw] at hlt
  have hw64 : IntKind.i64.wrap (t.rt f : Int) = t.rt f := IntWalk.i64_in _ (by have : (256 : Nat) ^ 4 = 4294967296 := rfl; omega)
  have HT := Lib.hid (fun W (hW : IsH W q t) => (show Calls Tryz.prog 159 #[.pointer (some ⟨q.m, 0, none⟩), .int .i64 f] W fun e w' => e = .returned (.int .u64 (t.rt f)) ∧ IsT w' q t ∧ Fr q.blocks W w' from troot hW.m f (by omega) f rfl))
  have H0 := Lib.hid (h.alloc (.cells #[.pointer (some ⟨q.m, 0, none⟩), .int .i64 f] 152))
  have F0 := Lib.hid (((Fr.refl [] w).alloc (.cells #[.pointer (some ⟨q.m, 0, none⟩), .int .i64 f] 152)).nil (S := q.blocks))
  unfold ptV
  clear h
  generalize t.rt f = v at *
  go_enter Tryz.func129, Tryz.ntmps129
  go_wp2_with fail
  with_reducible refine (HT.out _ H0.out).mono ?_
  rintro e w1 ⟨rfl, h1, f1⟩
  have H1 := Lib.hid (H0.out.step h1 f1)
  have F1 := Lib.hid (F0.out.trans f1)
  clear h1 f1
  go_wp2_with fail
  go_ret
  exact ⟨rfl, H1.out, F1.out⟩
theorem rpset (h : IsH w q t) (f : Nat) (hf : f < 16) (x : Nat) (hx : x < 4294967296) : Calls Tryz.prog 132 #[ptV q.m f, .int .i64 x] w fun e w' => e = .returned (.tuple #[]) ∧ IsH w' q (t.setRt f x) ∧ Fr q.blocks w w' := by
  have hw : fldW f = 4 := by unfold fldW; rw [if_neg (by omega)]
  have hw64 : IntKind.u64.wrap (x : Int) = x := IntWalk.u64_in _ (by omega)
  have HT := Lib.hid (fun W (hW : IsH W q t) => (show Calls Tryz.prog 187 #[.pointer (some ⟨q.m, 0, none⟩), .int .i64 f, .int .u64 x] W fun e w' => e = .returned (.bool true) ∧ IsT w' q (t.setRt f x) ∧ Fr q.blocks W w' from tsetroot hW.m f (by omega) x (by rw [hw]; exact hx) f rfl x rfl))
  have H0 := Lib.hid (h.alloc (.cells #[.pointer (some ⟨q.m, 0, none⟩), .int .i64 f] 152))
  have F0 := Lib.hid (((Fr.refl [] w).alloc (.cells #[.pointer (some ⟨q.m, 0, none⟩), .int .i64 f] 152)).nil (S := q.blocks))
  unfold ptV
  clear h
  go_enter Tryz.func132, Tryz.ntmps132
  go_wp2_with fail
  with_reducible refine (HT.out _ H0.out).mono ?_
  rintro e w1 ⟨rfl, h1, f1⟩
  have H1 := Lib.hid (H0.out.step h1 f1)
  have F1 := Lib.hid (F0.out.trans f1)
  clear h1 f1
  go_wp2_with fail
  go_end0
  exact ⟨rfl, H1.out, F1.out⟩
theorem rlen (h : IsH w q t) : Calls Tryz.prog 68 #[.pointer (some ⟨q.m, 0, none⟩)] w fun e w' => e = .returned (.int .i64 (t.rt 15)) ∧ IsH w' q t ∧ Fr q.blocks w w' := by
  have hlt := h.ok.rt 15
  have hw64 : IntKind.i64.wrap (t.rt 15 : Int) = t.rt 15 := IntWalk.i64_in _ (by have : (256 : Nat) ^ fldW 15 = 4294967296 := rfl; omega)
  have HT := (show Calls Tryz.prog 159 #[.pointer (some ⟨q.m, 0, none⟩), .int .i64 15] w fun e w' => e = .returned (.int .u64 (t.rt 15)) ∧ IsT w' q t ∧ Fr q.blocks w w' from troot h.m 15 (by omega) 15 rfl)
  have H0 := Lib.hid h
  clear h
  generalize t.rt 15 = v at *
  go_enter Tryz.func68, Tryz.ntmps68
  go_wp2_with fail
  with_reducible refine HT.mono ?_
  rintro e w1 ⟨rfl, h1, f1⟩
  have H1 := Lib.hid (H0.out.step h1 f1)
  have F1 := Lib.hid f1
  clear h1 f1 HT
  go_wp2_with fail
  go_ret
  exact ⟨rfl, H1.out, F1.out⟩
theorem rnext (h : IsH w q t) {x tag : Nat} {N : Nat → Nat} (hh : HeadTo t x tag 5 N 12) (hN : N 0 = tag) (h5 : (wh tag 5).2 = 4) : Calls Tryz.prog 127 #[.pointer (some ⟨q.m, 0, none⟩), .int .i64 x] w fun e w' => e = .returned (.int .i64 (N 5)) ∧ IsH w' q t ∧ Fr q.blocks w w' := by
  have hl := hload h hh (.inl ⟨rfl, hN⟩) 5
  have e : hvN tag N 5 = N 5 := by
    unfold hvN
    have ht := hh.tg
    have : whZ tag 5 = wh tag 5 := by unfold whZ; rw [if_pos (by omega), Int.toNat_natCast]; rfl
    rw [this, if_neg (by omega)]
    rfl
  rw [e] at hl
  have hlt := hh.lt 5 (by decide) (by omega)
  rw [h5] at hlt
  have hw64 : IntKind.i64.wrap (N 5 : Int) = N 5 := IntWalk.i64_in _ (by have : (256 : Nat) ^ 4 = 4294967296 := rfl; omega)
  clear h hh
  generalize N 5 = v at *
  go_enter Tryz.func127, Tryz.ntmps127
  go_wp2_with fail
  with_reducible refine hl.mono ?_
  rintro e w1 ⟨rfl, h1, f1⟩
  have H1 := Lib.hid h1
  have F1 := Lib.hid f1
  clear h1 f1 hl
  go_wp2_with fail
  go_ret
  exact ⟨rfl, H1.out, F1.out⟩
theorem rprev (h : IsH w q t) {x tag : Nat} {N : Nat → Nat} (hh : HeadTo t x tag 5 N 12) (hN : N 0 = tag) (h6 : (wh tag 6).2 = 4) : Calls Tryz.prog 133 #[.pointer (some ⟨q.m, 0, none⟩), .int .i64 x] w fun e w' => e = .returned (.int .i64 (N 6)) ∧ IsH w' q t ∧ Fr q.blocks w w' := by
  have hl := hload h hh (.inl ⟨rfl, hN⟩) 6
  have e : hvN tag N 6 = N 6 := by
    unfold hvN
    have ht := hh.tg
    have : whZ tag 6 = wh tag 6 := by unfold whZ; rw [if_pos (by omega), Int.toNat_natCast]; rfl
    rw [this, if_neg (by omega)]
    rfl
  rw [e] at hl
  have hlt := hh.lt 6 (by decide) (by omega)
  rw [h6] at hlt
  have hw64 : IntKind.i64.wrap (N 6 : Int) = N 6 := IntWalk.i64_in _ (by have : (256 : Nat) ^ 4 = 4294967296 := rfl; omega)
  clear h hh
  generalize N 6 = v at *
  go_enter Tryz.func133, Tryz.ntmps133
  go_wp2_with fail
  with_reducible refine hl.mono ?_
  rintro e w1 ⟨rfl, h1, f1⟩
  have H1 := Lib.hid h1
  have F1 := Lib.hid f1
  clear h1 f1 hl
  go_wp2_with fail
  go_ret
  exact ⟨rfl, H1.out, F1.out⟩
/-- A field of a head is stored. -/
theorem whZ_5 (tag : Nat) (ht : tag ≤ 2) : whZ tag 5 = wh tag 5 := by unfold whZ; rw [if_pos (by omega), Int.toNat_natCast]; rfl
theorem whZ_6 (tag : Nat) (ht : tag ≤ 2) : whZ tag 6 = wh tag 6 := by unfold whZ; rw [if_pos (by omega), Int.toNat_natCast]; rfl
theorem wh1 : wh 1 5 = (8, 4) ∧ wh 1 6 = (12, 4) := by decide
def TM.nxt (t : TM) (x v : Nat) : TM := t.setB (x + 8) 4 v
def TM.prv (t : TM) (x v : Nat) : TM := t.setB (x + 12) 4 v
theorem hst_nxt (t : TM) (x v : Nat) (hv : v < 4294967296) : t.hst x 1 5 v = t.nxt x v := by
  unfold TM.hst hstB
  rw [whZ_5 1 (by decide), wh1.1, if_pos (by simpa using hv)]
  rfl
theorem hst_prv (t : TM) (x v : Nat) (hv : v < 4294967296) : t.hst x 1 6 v = t.prv x v := by
  unfold TM.hst hstB
  rw [whZ_6 1 (by decide), wh1.2, if_pos (by simpa using hv)]
  rfl
theorem HeadTo.nxt {x : Nat} {N : Nat → Nat} (hh : HeadTo t x 1 5 N 12) (hok : t.Ok) (v : Nat) (hv : v < 4294967296) : HeadTo (t.nxt x v) x 1 5 (up N 5 v) 12 ∧ (t.nxt x v).Ok := by
  have := hh.hst hok 5 v
  rw [hst_nxt t x v hv] at this
  have hb : hstB 1 5 v = true := by unfold hstB; rw [whZ_5 1 (by decide), wh1.1]; simpa using hv
  rw [hb, if_pos rfl] at this
  exact this
theorem HeadTo.prv {x : Nat} {N : Nat → Nat} (hh : HeadTo t x 1 5 N 12) (hok : t.Ok) (v : Nat) (hv : v < 4294967296) : HeadTo (t.prv x v) x 1 5 (up N 6 v) 12 ∧ (t.prv x v).Ok := by
  have := hh.hst hok 6 v
  rw [hst_prv t x v hv] at this
  have hb : hstB 1 6 v = true := by unfold hstB; rw [whZ_6 1 (by decide), wh1.2]; simpa using hv
  rw [hb, if_pos rfl] at this
  exact this
theorem hstN (h : IsH w q t) {x : Nat} {N : Nat → Nat} (hh : HeadTo t x 1 5 N 12) (hN : N 0 = 1) (v : Nat) (hv : v < 4294967296) : Calls Tryz.prog 194 #[.pointer (some ⟨q.m, 0, none⟩), .int .i64 x, .int .i64 5, .int .u64 v] w fun e w' => e = .returned (.bool true) ∧ IsH w' q (t.nxt x v) ∧ Fr q.blocks w w' := by
  have := hstore h hh (.inl ⟨rfl, hN⟩) 5 v (by omega)
  rw [hst_nxt t x v hv, show hstB 1 5 v = true from by unfold hstB; rw [whZ_5 1 (by decide), wh1.1]; simpa using hv] at this
  exact this
theorem hstP (h : IsH w q t) {x : Nat} {N : Nat → Nat} (hh : HeadTo t x 1 5 N 12) (hN : N 0 = 1) (v : Nat) (hv : v < 4294967296) : Calls Tryz.prog 194 #[.pointer (some ⟨q.m, 0, none⟩), .int .i64 x, .int .i64 6, .int .u64 v] w fun e w' => e = .returned (.bool true) ∧ IsH w' q (t.prv x v) ∧ Fr q.blocks w w' := by
  have := hstore h hh (.inl ⟨rfl, hN⟩) 6 v (by omega)
  rw [hst_prv t x v hv, show hstB 1 6 v = true from by unfold hstB; rw [whZ_6 1 (by decide), wh1.2]; simpa using hv] at this
  exact this
theorem rjoin (h : IsH w q t) {a b : Nat} {N M : Nat → Nat} (ha : HeadTo t a 1 5 N 12) (hN : N 0 = 1) (hb : HeadTo (t.nxt a b) b 1 5 M 12) (hM : M 0 = 1) (ha4 : a < 4294967296) (hb4 : b < 4294967296) : Calls Tryz.prog 130 #[.pointer (some ⟨q.m, 0, none⟩), .int .i64 a, .int .i64 b] w fun e w' => e = .returned (.tuple #[]) ∧ IsH w' q ((t.nxt a b).prv b a) ∧ Fr q.blocks w w' := by
  have h1 := hstN h ha hN b hb4
  have H2 := Lib.hid (fun W (hW : IsH W q (t.nxt a b)) => hstP hW hb hM a ha4)
  have e1 : IntKind.u64.wrap (b : Int) = b := IntWalk.u64_in _ (by omega)
  have e2 : IntKind.u64.wrap (a : Int) = a := IntWalk.u64_in _ (by omega)
  clear h ha hb
  go_enter Tryz.func130, Tryz.ntmps130
  go_wp2_with fail
  with_reducible refine h1.mono ?_
  rintro e w1 ⟨rfl, k1, f1⟩
  have K1 := Lib.hid k1
  have F1 := Lib.hid f1
  clear k1 f1 h1
  go_wp2_with fail
  with_reducible refine (H2.out _ K1.out).mono ?_
  rintro e w2 ⟨rfl, k2, f2⟩
  have K2 := Lib.hid k2
  have F2 := Lib.hid (F1.out.trans f2)
  clear k2 f2
  go_wp2_with fail
  go_end0
  exact ⟨rfl, K2.out, F2.out⟩
theorem ralone (h : IsH w q t) {a : Nat} {N : Nat → Nat} (ha : HeadTo t a 1 5 N 12) (hN : N 0 = 1) : Calls Tryz.prog 139 #[.pointer (some ⟨q.m, 0, none⟩), .int .i64 a] w fun e w' => e = .returned (.tuple #[]) ∧ IsH w' q ((t.nxt a 0).prv a 0) ∧ Fr q.blocks w w' := by
  have h1 := (show Calls Tryz.prog 194 #[.pointer (some ⟨q.m, 0, none⟩), .int .i64 a, .int .i64 5, .int .u64 0] w fun e w' => e = .returned (.bool true) ∧ IsH w' q (t.nxt a 0) ∧ Fr q.blocks w w' from hstN h ha hN 0 (by decide))
  have H2 := Lib.hid (fun W (hW : IsH W q (t.nxt a 0)) => (show Calls Tryz.prog 194 #[.pointer (some ⟨q.m, 0, none⟩), .int .i64 a, .int .i64 6, .int .u64 0] W fun e w' => e = .returned (.bool true) ∧ IsH w' q ((t.nxt a 0).prv a 0) ∧ Fr q.blocks W w' from hstP hW (ha.nxt h.ok 0 (by decide)).1 (by rw [up_ne _ _ (by decide)]; exact hN) 0 (by decide)))
  clear h ha
  go_enter Tryz.func139, Tryz.ntmps139
  go_wp2_with fail
  with_reducible refine h1.mono ?_
  rintro e w1 ⟨rfl, k1, f1⟩
  have K1 := Lib.hid k1
  have F1 := Lib.hid f1
  clear k1 f1 h1
  go_wp2_with fail
  with_reducible refine (H2.out _ K1.out).mono ?_
  rintro e w2 ⟨rfl, k2, f2⟩
  have K2 := Lib.hid k2
  have F2 := Lib.hid (F1.out.trans f2)
  clear k2 f2
  go_wp2_with fail
  go_end0
  exact ⟨rfl, K2.out, F2.out⟩
theorem rcount (h : IsH w q t) (d : Int) (n : Nat) (hn : (t.rt 15 : Int) + d = n) (hd : -1 ≤ d ∧ d ≤ 1) (hn4 : n < 4294967296) : Calls Tryz.prog 134 #[.pointer (some ⟨q.m, 0, none⟩), .int .i64 d] w fun e w' => e = .returned (.tuple #[]) ∧ IsH w' q (t.setRt 15 n) ∧ Fr q.blocks w w' := by
  have h1 := rlen h
  have hlt := h.ok.rt 15
  have e1 : IntKind.i64.wrap ((t.rt 15 : Int) + d) = n := by rw [hn]; exact IntWalk.i64_in _ (by omega)
  have e2 : IntKind.u64.wrap (n : Int) = n := IntWalk.u64_in _ (by omega)
  have H2 := Lib.hid (fun W (hW : IsH W q t) => (show Calls Tryz.prog 187 #[.pointer (some ⟨q.m, 0, none⟩), .int .i64 15, .int .u64 n] W fun e w' => e = .returned (.bool true) ∧ IsT w' q (t.setRt 15 n) ∧ Fr q.blocks W w' from tsetroot hW.m 15 (by omega) n (show n < 256 ^ 4 by have : (256 : Nat) ^ 4 = 4294967296 := rfl; omega) 15 rfl n rfl))
  clear h hn hlt
  generalize t.rt 15 = v at *
  go_enter Tryz.func134, Tryz.ntmps134
  go_wp2_with fail
  with_reducible refine h1.mono ?_
  rintro e w1 ⟨rfl, k1, f1⟩
  have K1 := Lib.hid k1
  have F1 := Lib.hid f1
  clear k1 f1 h1
  go_wp2_with fail
  with_reducible refine (H2.out _ K1.out).mono ?_
  rintro e w2 ⟨rfl, k2, f2⟩
  have K2 := Lib.hid (K1.out.step k2 f2)
  have F2 := Lib.hid (F1.out.trans f2)
  clear k2 f2
  go_wp2_with fail
  go_end0
  exact ⟨rfl, K2.out, F2.out⟩
end
end Go.Proofs.YtkapkbiccppldaaGreatDoor

/- Package ring: is a place that of an entry? -/
namespace Go.Proofs.YtkapkbiccppldaaGreatDoor
set_option linter.unusedVariables false
set_option linter.unusedSimpArgs false
open Go.RowKit

section
variable {w : World} {q : MH} {t : TM}
theorem num_nxt (X : HB) (v : Nat) : ({X with next := v} : HB).num = up X.num 5 v := by
  funext f
  unfold up
  by_cases h : f = 5
  · subst h; rfl
  · rw [if_neg h]
    show ({X with next := v} : HB).nums[f]?.getD 0 = X.nums[f]?.getD 0
    unfold HB.nums
    rcases f with _ | _ | _ | _ | _ | _ | f
    all_goals first | rfl | (exact absurd rfl h)
theorem num_prv (X : HB) (v : Nat) : ({X with prev := v} : HB).num = up X.num 6 v := by
  funext f
  unfold up
  by_cases h : f = 6
  · subst h; rfl
  · rw [if_neg h]
    show ({X with prev := v} : HB).nums[f]?.getD 0 = X.nums[f]?.getD 0
    unfold HB.nums
    rcases f with _ | _ | _ | _ | _ | _ | _ | f
    all_goals first | rfl | (exact absurd rfl h)
/-- An entry's head, whole. -/
structure EntH (t : TM) (x : Nat) (X : HB) : Prop where
  h : HeadTo t x 1 5 X.num 12
  ok : X.Ok
  r : X.right = true
  tag : X.tag = 1
theorem EntH.n0 {x : Nat} {X : HB} (h : EntH t x X) : X.num 0 = 1 := by
  show X.nums[0]?.getD 0 = 1
  unfold HB.nums
  rw [h.tag]
  rfl
theorem rentry (h : IsH w q t) {x : Nat} {X : HB} (hx : EntH t x X) : Calls Tryz.prog 126 #[.pointer (some ⟨q.m, 0, none⟩), .int .i64 x] w fun e w' => e = .returned (.int .i64 0) ∧ IsH w' q t ∧ Fr q.blocks w w' := by
  have hm := rmade h.m
  have HG := Lib.hid (fun W (hW : IsH W q t) => (show Calls Tryz.prog 72 #[.pointer (some ⟨q.m, 0, none⟩), .int .i64 x] W fun e w' => e = .returned (.tuple #[.agg #[.int .i64 1, .int .i64 X.cls, .bool X.used, .int .i64 X.label, .int .u32 X.name, .int .u32 X.next, .int .u32 X.prev, .int .u32 X.refs, .int .u64 X.expiry, .int .u16 X.typ, .int .i64 X.size, .int .u32 X.hash], .int .i64 0]) ∧ IsH w' q t ∧ Fr q.blocks W w' from by
    have := hget W q t hW x 1 5 X hx.h hx.ok hx.r hx.tag (.inl ⟨rfl, hx.n0⟩) (.inl rfl)
    unfold GetP HB.val HB.cells at this
    rw [hx.tag] at this
    exact this))
  have H0 := Lib.hid h
  clear h hx
  go_enter Tryz.func126, Tryz.ntmps126
  go_wp2_with fail
  with_reducible refine hm.mono ?_
  rintro e w1 ⟨rfl, f1⟩
  have H1 := Lib.hid (H0.out.fr0 f1)
  have F1 := Lib.hid (f1.nil (S := q.blocks))
  clear hm f1
  go_wp2_with fail
  with_reducible refine (HG.out _ H1.out).mono ?_
  rintro e w2 ⟨rfl, h2, f2⟩
  have H2 := Lib.hid h2
  have F2 := Lib.hid (F1.out.trans f2)
  clear h2 f2
  go_wp2_with fail
  go_ret
  exact ⟨rfl, H2.out.fr0 ((Fr.refl [] w2).alloc _), F2.out.alloc _⟩
end
end Go.Proofs.YtkapkbiccppldaaGreatDoor

/- Package ring: both pointers, a ring that is begun. -/
namespace Go.Proofs.YtkapkbiccppldaaGreatDoor
set_option linter.unusedVariables false
set_option linter.unusedSimpArgs false
open Go.RowKit

section
variable {w : World} {q : MH} {t : TM}
def bothC (m : Nat) : Array Value := #[.pointer (some ⟨m, 0, none⟩), .int .i64 13, .pointer (some ⟨m, 0, none⟩), .int .i64 14]
theorem rboth (w : World) (m : Nat) : Calls Tryz.prog 131 #[.pointer (some ⟨m, 0, none⟩)] w fun e w' => ∃ b, e = .returned (.slice (some ⟨b, 0, none⟩) 2 2) ∧ Blk w' b 152 (bothC m) ∧ w.heap.size ≤ b ∧ Fr [] w w' := by
  have HH := Lib.hid (fun W => rhand W m)
  have HB := Lib.hid (fun W => rbroom W m)
  unfold ptV at HH HB
  unfold bothC
  go_enter Tryz.func131, Tryz.ntmps131
  go_wp2_with fail
  with_reducible refine (HH.out _).mono ?_
  rintro e w1 ⟨rfl, f1⟩
  go_wp2_with fail
  with_reducible refine (HB.out _).mono ?_
  rintro e w2 ⟨rfl, f2⟩
  go_wp2_with fail
  go_ret
  exact ⟨_, rfl, Blk.new _ _ _, Nat.le_trans f1.size f2.size, (f1.trans f2).alloc _⟩
theorem rbegin (h : IsH w q t) : Calls Tryz.prog 124 #[.pointer (some ⟨q.m, 0, none⟩)] w fun e w' => e = .returned (.int .i64 0) ∧ IsH w' q (((t.setRt 13 0).setRt 14 0).setRt 15 0) ∧ Fr q.blocks w w' := by
  have hm := rmade h.m
  have HB := Lib.hid (fun W => rboth W q.m)
  unfold bothC at HB
  have HP := Lib.hid (fun W (u : TM) (hW : IsH W q u) => And.intro (show Calls Tryz.prog 132 #[.agg #[.pointer (some ⟨q.m, 0, none⟩), .int .i64 13], .int .i64 0] W fun e w' => e = .returned (.tuple #[]) ∧ IsH w' q (u.setRt 13 0) ∧ Fr q.blocks W w' from rpset hW 13 (by decide) 0 (by decide)) (show Calls Tryz.prog 132 #[.agg #[.pointer (some ⟨q.m, 0, none⟩), .int .i64 14], .int .i64 0] W fun e w' => e = .returned (.tuple #[]) ∧ IsH w' q (u.setRt 14 0) ∧ Fr q.blocks W w' from rpset hW 14 (by decide) 0 (by decide)))
  have H0 := Lib.hid h
  clear h
  go_enter Tryz.func124, Tryz.ntmps124
  go_wp2_with fail
  with_reducible refine hm.mono ?_
  rintro e w1 ⟨rfl, f1⟩
  have H1 := Lib.hid (H0.out.fr0 f1)
  have F1 := Lib.hid (f1.nil (S := q.blocks))
  clear hm f1
  go_wp2_with fail
  with_reducible refine (HB.out _).mono ?_
  rintro e w2 ⟨b, rfl, hb, hsz, f2⟩
  have H2 := Lib.hid (H1.out.fr0 f2)
  have F2 := Lib.hid (F1.out.trans (f2.nil (S := q.blocks)))
  have hnb : b ∉ q.blocks := fun hk => Nat.lt_irrefl _ (Nat.lt_of_lt_of_le (H1.out.m.lt b hk) hsz)
  have hb2 := hb.alloc (.cells #[.pointer (some ⟨q.m, 0, none⟩), .int .i64 13] 152)
  have H3 := Lib.hid (H2.out.alloc (.cells #[.pointer (some ⟨q.m, 0, none⟩), .int .i64 13] 152))
  have F3 := Lib.hid (F2.out.alloc (.cells #[.pointer (some ⟨q.m, 0, none⟩), .int .i64 13] 152))
  clear f2
  have hc0 := hb.cell 0
  have hc1 := hb.cell 1
  have hc2 := hb.cell 2
  have hc3 := hb.cell 3
  simp at hc0 hc1 hc2 hc3
  go_wp2_with fail
  refine wp_loop_rounds 3 ?_
  rw [rounds_succ]
  go_wp2_with fail
  with_reducible refine (HP.out _ _ H3.out).1.mono ?_
  rintro e w4 ⟨rfl, h4, f4⟩
  have hb4 := hb2.fr f4 hnb
  have H4 := Lib.hid (h4.alloc (.cells #[.pointer (some ⟨q.m, 0, none⟩), .int .i64 14] 152))
  have F4 := Lib.hid ((F3.out.trans f4).alloc (.cells #[.pointer (some ⟨q.m, 0, none⟩), .int .i64 14] 152))
  clear hc0 hc1 hc2 hc3 f4 hb2 h4 hb
  have hc0 := hb4.cell 0
  have hc1 := hb4.cell 1
  have hc2 := hb4.cell 2
  have hc3 := hb4.cell 3
  simp at hc0 hc1 hc2 hc3
  go_wp2_with fail
  rw [rounds_succ]
  go_wp2_with fail
  with_reducible refine (HP.out _ _ H4.out).2.mono ?_
  rintro e w5 ⟨rfl, h5, f5⟩
  have H5 := Lib.hid h5
  have F5 := Lib.hid (F4.out.trans f5)
  clear hc0 hc1 hc2 hc3 f5 h5 hb4
  go_wp2_with fail
  rw [rounds_succ]
  go_wp2_with fail
  with_reducible refine (show Calls Tryz.prog 187 #[.pointer (some ⟨q.m, 0, none⟩), .int .i64 15, .int .u64 0] w5 fun e w' => e = .returned (.bool true) ∧ IsT w' q (((t.setRt 13 0).setRt 14 0).setRt 15 0) ∧ Fr q.blocks w5 w' from tsetroot H5.out.m 15 (by decide) 0 (by decide) 15 rfl 0 rfl).mono ?_
  rintro e w6 ⟨rfl, h6, f6⟩
  have H6 := Lib.hid (H5.out.step h6 f6)
  have F6 := Lib.hid (F5.out.trans f6)
  clear h6 f6
  go_wp2_with fail
  go_ret
  exact ⟨rfl, H6.out, F6.out⟩
end
end Go.Proofs.YtkapkbiccppldaaGreatDoor

/- Package ring: renamed. -/
namespace Go.Proofs.YtkapkbiccppldaaGreatDoor
set_option linter.unusedVariables false
set_option linter.unusedSimpArgs false
open Go.RowKit

section
variable {w : World} {q : MH} {t : TM}
theorem rren_yy (h : IsH w q t) (fr to : Nat) (hfr : fr < 4294967296) (hto : to < 4294967296) (e1 : t.rt 13 = fr) (e2 : t.rt 14 = fr) : Calls Tryz.prog 138 #[.pointer (some ⟨q.m, 0, none⟩), .int .i64 fr, .int .i64 to] w fun e w' => e = .returned (.tuple #[]) ∧ IsH w' q ((t.setRt 13 to).setRt 14 to) ∧ Fr q.blocks w w' := by
  have HB := Lib.hid (fun W => rboth W q.m)
  unfold bothC at HB
  have HA13 := Lib.hid (fun W (hW : IsH W q t) => (show Calls Tryz.prog 129 #[.agg #[.pointer (some ⟨q.m, 0, none⟩), .int .i64 13]] W fun e w' => e = .returned (.int .i64 (fr : Nat)) ∧ IsH w' q t ∧ Fr q.blocks W w' from by
    have := rpat hW 13 (by decide)
    rw [show (t).rt 13 = fr from e1] at this
    exact this))
  have HP13 := Lib.hid (fun W (hW : IsH W q t) => (show Calls Tryz.prog 132 #[.agg #[.pointer (some ⟨q.m, 0, none⟩), .int .i64 13], .int .i64 to] W fun e w' => e = .returned (.tuple #[]) ∧ IsH w' q (t.setRt 13 to) ∧ Fr q.blocks W w' from rpset hW 13 (by decide) to hto))
  have HA14 := Lib.hid (fun W (hW : IsH W q (t.setRt 13 to)) => (show Calls Tryz.prog 129 #[.agg #[.pointer (some ⟨q.m, 0, none⟩), .int .i64 14]] W fun e w' => e = .returned (.int .i64 (fr : Nat)) ∧ IsH w' q (t.setRt 13 to) ∧ Fr q.blocks W w' from by
    have := rpat hW 14 (by decide)
    rw [show ((t.setRt 13 to)).rt 14 = fr from e2] at this
    exact this))
  have HP14 := Lib.hid (fun W (hW : IsH W q (t.setRt 13 to)) => (show Calls Tryz.prog 132 #[.agg #[.pointer (some ⟨q.m, 0, none⟩), .int .i64 14], .int .i64 to] W fun e w' => e = .returned (.tuple #[]) ∧ IsH w' q ((t.setRt 13 to).setRt 14 to) ∧ Fr q.blocks W w' from rpset hW 14 (by decide) to hto))
  have H0 := Lib.hid h
  clear h e1 e2
  go_enter Tryz.func138, Tryz.ntmps138
  go_wp2_with fail
  with_reducible refine (HB.out _).mono ?_
  rintro e w2 ⟨b, rfl, hb, hsz, f2⟩
  have H2 := Lib.hid (H0.out.fr0 f2)
  have F2 := Lib.hid (f2.nil (S := q.blocks))
  have hnb : b ∉ q.blocks := fun hk => Nat.lt_irrefl _ (Nat.lt_of_lt_of_le (H0.out.m.lt b hk) hsz)
  have pv1 := Blk.new w2 152 #[.pointer (some ⟨q.m, 0, none⟩), .int .i64 13]
  have pn1 : w2.heap.size ∉ q.blocks := fun hk => Nat.lt_irrefl _ (H2.out.m.lt _ hk)
  have A1 := Lib.hid (H2.out.alloc (.cells #[.pointer (some ⟨q.m, 0, none⟩), .int .i64 13] 152))
  have B1 := Lib.hid (F2.out.alloc (.cells #[.pointer (some ⟨q.m, 0, none⟩), .int .i64 13] 152))
  have C1 := hb.alloc (.cells #[.pointer (some ⟨q.m, 0, none⟩), .int .i64 13] 152)
  have hc0 := hb.cell 0
  have hc1 := hb.cell 1
  have hc2 := hb.cell 2
  have hc3 := hb.cell 3
  simp at hc0 hc1 hc2 hc3
  go_wp2_with fail
  refine wp_loop_rounds 3 ?_
  rw [rounds_succ]
  go_wp2_with fail
  with_reducible refine (HA13.out _ A1.out).mono ?_
  rintro e x1 ⟨rfl, h4, f4⟩
  have hb1 := C1.fr f4 hnb
  have p0 := pv1.fr f4 pn1
  have p1 := p0.cell 0
  have p2 := p0.cell 1
  simp at p1 p2
  have J1 := Lib.hid h4
  have L1 := Lib.hid (B1.out.trans f4)
  clear f4 h4 hc0 hc1 hc2 hc3 pv1 C1
  go_wp2_with fail
  with_reducible refine (HP13.out _ J1.out).mono ?_
  rintro e y1 ⟨rfl, h5, f5⟩
  have hb1' := hb1.fr f5 hnb
  have M1 := Lib.hid h5
  have N1 := Lib.hid (L1.out.trans f5)
  clear f5 h5 p0 p1 p2 hb1
  go_wp2_with fail
  have pv2 := Blk.new y1 152 #[.pointer (some ⟨q.m, 0, none⟩), .int .i64 14]
  have pn2 : y1.heap.size ∉ q.blocks := fun hk => Nat.lt_irrefl _ (M1.out.m.lt _ hk)
  have A2 := Lib.hid (M1.out.alloc (.cells #[.pointer (some ⟨q.m, 0, none⟩), .int .i64 14] 152))
  have B2 := Lib.hid (N1.out.alloc (.cells #[.pointer (some ⟨q.m, 0, none⟩), .int .i64 14] 152))
  have C2 := hb1'.alloc (.cells #[.pointer (some ⟨q.m, 0, none⟩), .int .i64 14] 152)
  have hc0 := hb1'.cell 0
  have hc1 := hb1'.cell 1
  have hc2 := hb1'.cell 2
  have hc3 := hb1'.cell 3
  simp at hc0 hc1 hc2 hc3
  rw [rounds_succ]
  go_wp2_with fail
  with_reducible refine (HA14.out _ A2.out).mono ?_
  rintro e x2 ⟨rfl, h4, f4⟩
  have hb2 := C2.fr f4 hnb
  have p0 := pv2.fr f4 pn2
  have p1 := p0.cell 0
  have p2 := p0.cell 1
  simp at p1 p2
  have J2 := Lib.hid h4
  have L2 := Lib.hid (B2.out.trans f4)
  clear f4 h4 hc0 hc1 hc2 hc3 pv2 C2
  go_wp2_with fail
  with_reducible refine (HP14.out _ J2.out).mono ?_
  rintro e y2 ⟨rfl, h5, f5⟩
  have hb2' := hb2.fr f5 hnb
  have M2 := Lib.hid h5
  have N2 := Lib.hid (L2.out.trans f5)
  clear f5 h5 p0 p1 p2 hb2
  go_wp2_with fail
  rw [rounds_succ]
  go_wp2_with fail
  go_end0
  exact ⟨rfl, M2.out, N2.out⟩
theorem rren_yn (h : IsH w q t) (fr to : Nat) (hfr : fr < 4294967296) (hto : to < 4294967296) (e1 : t.rt 13 = fr) (e2 : t.rt 14 ≠ fr) : Calls Tryz.prog 138 #[.pointer (some ⟨q.m, 0, none⟩), .int .i64 fr, .int .i64 to] w fun e w' => e = .returned (.tuple #[]) ∧ IsH w' q (t.setRt 13 to) ∧ Fr q.blocks w w' := by
  have HB := Lib.hid (fun W => rboth W q.m)
  unfold bothC at HB
  have HA13 := Lib.hid (fun W (hW : IsH W q t) => (show Calls Tryz.prog 129 #[.agg #[.pointer (some ⟨q.m, 0, none⟩), .int .i64 13]] W fun e w' => e = .returned (.int .i64 (fr : Nat)) ∧ IsH w' q t ∧ Fr q.blocks W w' from by
    have := rpat hW 13 (by decide)
    rw [show (t).rt 13 = fr from e1] at this
    exact this))
  have HP13 := Lib.hid (fun W (hW : IsH W q t) => (show Calls Tryz.prog 132 #[.agg #[.pointer (some ⟨q.m, 0, none⟩), .int .i64 13], .int .i64 to] W fun e w' => e = .returned (.tuple #[]) ∧ IsH w' q (t.setRt 13 to) ∧ Fr q.blocks W w' from rpset hW 13 (by decide) to hto))
  obtain ⟨v14, hv14⟩ : ∃ v : Nat, v = t.rt 14 := ⟨_, rfl⟩
  have hw14 : ¬ ((v14 : Int) = fr) := by omega
  have HA14 := Lib.hid (fun W (hW : IsH W q (t.setRt 13 to)) => (show Calls Tryz.prog 129 #[.agg #[.pointer (some ⟨q.m, 0, none⟩), .int .i64 14]] W fun e w' => e = .returned (.int .i64 (v14 : Nat)) ∧ IsH w' q (t.setRt 13 to) ∧ Fr q.blocks W w' from by
    have := rpat hW 14 (by decide)
    rw [show ((t.setRt 13 to)).rt 14 = v14 from hv14.symm] at this
    exact this))
  have H0 := Lib.hid h
  clear h e1 e2
  go_enter Tryz.func138, Tryz.ntmps138
  go_wp2_with fail
  with_reducible refine (HB.out _).mono ?_
  rintro e w2 ⟨b, rfl, hb, hsz, f2⟩
  have H2 := Lib.hid (H0.out.fr0 f2)
  have F2 := Lib.hid (f2.nil (S := q.blocks))
  have hnb : b ∉ q.blocks := fun hk => Nat.lt_irrefl _ (Nat.lt_of_lt_of_le (H0.out.m.lt b hk) hsz)
  have pv1 := Blk.new w2 152 #[.pointer (some ⟨q.m, 0, none⟩), .int .i64 13]
  have pn1 : w2.heap.size ∉ q.blocks := fun hk => Nat.lt_irrefl _ (H2.out.m.lt _ hk)
  have A1 := Lib.hid (H2.out.alloc (.cells #[.pointer (some ⟨q.m, 0, none⟩), .int .i64 13] 152))
  have B1 := Lib.hid (F2.out.alloc (.cells #[.pointer (some ⟨q.m, 0, none⟩), .int .i64 13] 152))
  have C1 := hb.alloc (.cells #[.pointer (some ⟨q.m, 0, none⟩), .int .i64 13] 152)
  have hc0 := hb.cell 0
  have hc1 := hb.cell 1
  have hc2 := hb.cell 2
  have hc3 := hb.cell 3
  simp at hc0 hc1 hc2 hc3
  go_wp2_with fail
  refine wp_loop_rounds 3 ?_
  rw [rounds_succ]
  go_wp2_with fail
  with_reducible refine (HA13.out _ A1.out).mono ?_
  rintro e x1 ⟨rfl, h4, f4⟩
  have hb1 := C1.fr f4 hnb
  have p0 := pv1.fr f4 pn1
  have p1 := p0.cell 0
  have p2 := p0.cell 1
  simp at p1 p2
  have J1 := Lib.hid h4
  have L1 := Lib.hid (B1.out.trans f4)
  clear f4 h4 hc0 hc1 hc2 hc3 pv1 C1
  go_wp2_with fail
  with_reducible refine (HP13.out _ J1.out).mono ?_
  rintro e y1 ⟨rfl, h5, f5⟩
  have hb1' := hb1.fr f5 hnb
  have M1 := Lib.hid h5
  have N1 := Lib.hid (L1.out.trans f5)
  clear f5 h5 p0 p1 p2 hb1
  go_wp2_with fail
  have pv2 := Blk.new y1 152 #[.pointer (some ⟨q.m, 0, none⟩), .int .i64 14]
  have pn2 : y1.heap.size ∉ q.blocks := fun hk => Nat.lt_irrefl _ (M1.out.m.lt _ hk)
  have A2 := Lib.hid (M1.out.alloc (.cells #[.pointer (some ⟨q.m, 0, none⟩), .int .i64 14] 152))
  have B2 := Lib.hid (N1.out.alloc (.cells #[.pointer (some ⟨q.m, 0, none⟩), .int .i64 14] 152))
  have C2 := hb1'.alloc (.cells #[.pointer (some ⟨q.m, 0, none⟩), .int .i64 14] 152)
  have hc0 := hb1'.cell 0
  have hc1 := hb1'.cell 1
  have hc2 := hb1'.cell 2
  have hc3 := hb1'.cell 3
  simp at hc0 hc1 hc2 hc3
  rw [rounds_succ]
  go_wp2_with fail
  with_reducible refine (HA14.out _ A2.out).mono ?_
  rintro e x2 ⟨rfl, h4, f4⟩
  have hb2 := C2.fr f4 hnb
  have p0 := pv2.fr f4 pn2
  have p1 := p0.cell 0
  have p2 := p0.cell 1
  simp at p1 p2
  have J2 := Lib.hid h4
  have L2 := Lib.hid (B2.out.trans f4)
  clear f4 h4 hc0 hc1 hc2 hc3 pv2 C2
  go_wp2_with fail
  clear p0 p1 p2
  rw [rounds_succ]
  go_wp2_with fail
  go_end0
  exact ⟨rfl, J2.out, L2.out⟩
theorem rren_ny (h : IsH w q t) (fr to : Nat) (hfr : fr < 4294967296) (hto : to < 4294967296) (e1 : t.rt 13 ≠ fr) (e2 : t.rt 14 = fr) : Calls Tryz.prog 138 #[.pointer (some ⟨q.m, 0, none⟩), .int .i64 fr, .int .i64 to] w fun e w' => e = .returned (.tuple #[]) ∧ IsH w' q (t.setRt 14 to) ∧ Fr q.blocks w w' := by
  have HB := Lib.hid (fun W => rboth W q.m)
  unfold bothC at HB
  obtain ⟨v13, hv13⟩ : ∃ v : Nat, v = t.rt 13 := ⟨_, rfl⟩
  have hw13 : ¬ ((v13 : Int) = fr) := by omega
  have HA13 := Lib.hid (fun W (hW : IsH W q t) => (show Calls Tryz.prog 129 #[.agg #[.pointer (some ⟨q.m, 0, none⟩), .int .i64 13]] W fun e w' => e = .returned (.int .i64 (v13 : Nat)) ∧ IsH w' q t ∧ Fr q.blocks W w' from by
    have := rpat hW 13 (by decide)
    rw [show (t).rt 13 = v13 from hv13.symm] at this
    exact this))
  have HA14 := Lib.hid (fun W (hW : IsH W q t) => (show Calls Tryz.prog 129 #[.agg #[.pointer (some ⟨q.m, 0, none⟩), .int .i64 14]] W fun e w' => e = .returned (.int .i64 (fr : Nat)) ∧ IsH w' q t ∧ Fr q.blocks W w' from by
    have := rpat hW 14 (by decide)
    rw [show (t).rt 14 = fr from e2] at this
    exact this))
  have HP14 := Lib.hid (fun W (hW : IsH W q t) => (show Calls Tryz.prog 132 #[.agg #[.pointer (some ⟨q.m, 0, none⟩), .int .i64 14], .int .i64 to] W fun e w' => e = .returned (.tuple #[]) ∧ IsH w' q (t.setRt 14 to) ∧ Fr q.blocks W w' from rpset hW 14 (by decide) to hto))
  have H0 := Lib.hid h
  clear h e1 e2
  go_enter Tryz.func138, Tryz.ntmps138
  go_wp2_with fail
  with_reducible refine (HB.out _).mono ?_
  rintro e w2 ⟨b, rfl, hb, hsz, f2⟩
  have H2 := Lib.hid (H0.out.fr0 f2)
  have F2 := Lib.hid (f2.nil (S := q.blocks))
  have hnb : b ∉ q.blocks := fun hk => Nat.lt_irrefl _ (Nat.lt_of_lt_of_le (H0.out.m.lt b hk) hsz)
  have pv1 := Blk.new w2 152 #[.pointer (some ⟨q.m, 0, none⟩), .int .i64 13]
  have pn1 : w2.heap.size ∉ q.blocks := fun hk => Nat.lt_irrefl _ (H2.out.m.lt _ hk)
  have A1 := Lib.hid (H2.out.alloc (.cells #[.pointer (some ⟨q.m, 0, none⟩), .int .i64 13] 152))
  have B1 := Lib.hid (F2.out.alloc (.cells #[.pointer (some ⟨q.m, 0, none⟩), .int .i64 13] 152))
  have C1 := hb.alloc (.cells #[.pointer (some ⟨q.m, 0, none⟩), .int .i64 13] 152)
  have hc0 := hb.cell 0
  have hc1 := hb.cell 1
  have hc2 := hb.cell 2
  have hc3 := hb.cell 3
  simp at hc0 hc1 hc2 hc3
  go_wp2_with fail
  refine wp_loop_rounds 3 ?_
  rw [rounds_succ]
  go_wp2_with fail
  with_reducible refine (HA13.out _ A1.out).mono ?_
  rintro e x1 ⟨rfl, h4, f4⟩
  have hb1 := C1.fr f4 hnb
  have p0 := pv1.fr f4 pn1
  have p1 := p0.cell 0
  have p2 := p0.cell 1
  simp at p1 p2
  have J1 := Lib.hid h4
  have L1 := Lib.hid (B1.out.trans f4)
  clear f4 h4 hc0 hc1 hc2 hc3 pv1 C1
  go_wp2_with fail
  clear p0 p1 p2
  have pv2 := Blk.new x1 152 #[.pointer (some ⟨q.m, 0, none⟩), .int .i64 14]
  have pn2 : x1.heap.size ∉ q.blocks := fun hk => Nat.lt_irrefl _ (J1.out.m.lt _ hk)
  have A2 := Lib.hid (J1.out.alloc (.cells #[.pointer (some ⟨q.m, 0, none⟩), .int .i64 14] 152))
  have B2 := Lib.hid (L1.out.alloc (.cells #[.pointer (some ⟨q.m, 0, none⟩), .int .i64 14] 152))
  have C2 := hb1.alloc (.cells #[.pointer (some ⟨q.m, 0, none⟩), .int .i64 14] 152)
  have hc0 := hb1.cell 0
  have hc1 := hb1.cell 1
  have hc2 := hb1.cell 2
  have hc3 := hb1.cell 3
  simp at hc0 hc1 hc2 hc3
  rw [rounds_succ]
  go_wp2_with fail
  with_reducible refine (HA14.out _ A2.out).mono ?_
  rintro e x2 ⟨rfl, h4, f4⟩
  have hb2 := C2.fr f4 hnb
  have p0 := pv2.fr f4 pn2
  have p1 := p0.cell 0
  have p2 := p0.cell 1
  simp at p1 p2
  have J2 := Lib.hid h4
  have L2 := Lib.hid (B2.out.trans f4)
  clear f4 h4 hc0 hc1 hc2 hc3 pv2 C2
  go_wp2_with fail
  with_reducible refine (HP14.out _ J2.out).mono ?_
  rintro e y2 ⟨rfl, h5, f5⟩
  have hb2' := hb2.fr f5 hnb
  have M2 := Lib.hid h5
  have N2 := Lib.hid (L2.out.trans f5)
  clear f5 h5 p0 p1 p2 hb2
  go_wp2_with fail
  rw [rounds_succ]
  go_wp2_with fail
  go_end0
  exact ⟨rfl, M2.out, N2.out⟩
theorem rren_nn (h : IsH w q t) (fr to : Nat) (hfr : fr < 4294967296) (hto : to < 4294967296) (e1 : t.rt 13 ≠ fr) (e2 : t.rt 14 ≠ fr) : Calls Tryz.prog 138 #[.pointer (some ⟨q.m, 0, none⟩), .int .i64 fr, .int .i64 to] w fun e w' => e = .returned (.tuple #[]) ∧ IsH w' q t ∧ Fr q.blocks w w' := by
  have HB := Lib.hid (fun W => rboth W q.m)
  unfold bothC at HB
  obtain ⟨v13, hv13⟩ : ∃ v : Nat, v = t.rt 13 := ⟨_, rfl⟩
  have hw13 : ¬ ((v13 : Int) = fr) := by omega
  have HA13 := Lib.hid (fun W (hW : IsH W q t) => (show Calls Tryz.prog 129 #[.agg #[.pointer (some ⟨q.m, 0, none⟩), .int .i64 13]] W fun e w' => e = .returned (.int .i64 (v13 : Nat)) ∧ IsH w' q t ∧ Fr q.blocks W w' from by
    have := rpat hW 13 (by decide)
    rw [show (t).rt 13 = v13 from hv13.symm] at this
    exact this))
  obtain ⟨v14, hv14⟩ : ∃ v : Nat, v = t.rt 14 := ⟨_, rfl⟩
  have hw14 : ¬ ((v14 : Int) = fr) := by omega
  have HA14 := Lib.hid (fun W (hW : IsH W q t) => (show Calls Tryz.prog 129 #[.agg #[.pointer (some ⟨q.m, 0, none⟩), .int .i64 14]] W fun e w' => e = .returned (.int .i64 (v14 : Nat)) ∧ IsH w' q t ∧ Fr q.blocks W w' from by
    have := rpat hW 14 (by decide)
    rw [show (t).rt 14 = v14 from hv14.symm] at this
    exact this))
  have H0 := Lib.hid h
  clear h e1 e2
  go_enter Tryz.func138, Tryz.ntmps138
  go_wp2_with fail
  with_reducible refine (HB.out _).mono ?_
  rintro e w2 ⟨b, rfl, hb, hsz, f2⟩
  have H2 := Lib.hid (H0.out.fr0 f2)
  have F2 := Lib.hid (f2.nil (S := q.blocks))
  have hnb : b ∉ q.blocks := fun hk => Nat.lt_irrefl _ (Nat.lt_of_lt_of_le (H0.out.m.lt b hk) hsz)
  have pv1 := Blk.new w2 152 #[.pointer (some ⟨q.m, 0, none⟩), .int .i64 13]
  have pn1 : w2.heap.size ∉ q.blocks := fun hk => Nat.lt_irrefl _ (H2.out.m.lt _ hk)
  have A1 := Lib.hid (H2.out.alloc (.cells #[.pointer (some ⟨q.m, 0, none⟩), .int .i64 13] 152))
  have B1 := Lib.hid (F2.out.alloc (.cells #[.pointer (some ⟨q.m, 0, none⟩), .int .i64 13] 152))
  have C1 := hb.alloc (.cells #[.pointer (some ⟨q.m, 0, none⟩), .int .i64 13] 152)
  have hc0 := hb.cell 0
  have hc1 := hb.cell 1
  have hc2 := hb.cell 2
  have hc3 := hb.cell 3
  simp at hc0 hc1 hc2 hc3
  go_wp2_with fail
  refine wp_loop_rounds 3 ?_
  rw [rounds_succ]
  go_wp2_with fail
  with_reducible refine (HA13.out _ A1.out).mono ?_
  rintro e x1 ⟨rfl, h4, f4⟩
  have hb1 := C1.fr f4 hnb
  have p0 := pv1.fr f4 pn1
  have p1 := p0.cell 0
  have p2 := p0.cell 1
  simp at p1 p2
  have J1 := Lib.hid h4
  have L1 := Lib.hid (B1.out.trans f4)
  clear f4 h4 hc0 hc1 hc2 hc3 pv1 C1
  go_wp2_with fail
  clear p0 p1 p2
  have pv2 := Blk.new x1 152 #[.pointer (some ⟨q.m, 0, none⟩), .int .i64 14]
  have pn2 : x1.heap.size ∉ q.blocks := fun hk => Nat.lt_irrefl _ (J1.out.m.lt _ hk)
  have A2 := Lib.hid (J1.out.alloc (.cells #[.pointer (some ⟨q.m, 0, none⟩), .int .i64 14] 152))
  have B2 := Lib.hid (L1.out.alloc (.cells #[.pointer (some ⟨q.m, 0, none⟩), .int .i64 14] 152))
  have C2 := hb1.alloc (.cells #[.pointer (some ⟨q.m, 0, none⟩), .int .i64 14] 152)
  have hc0 := hb1.cell 0
  have hc1 := hb1.cell 1
  have hc2 := hb1.cell 2
  have hc3 := hb1.cell 3
  simp at hc0 hc1 hc2 hc3
  rw [rounds_succ]
  go_wp2_with fail
  with_reducible refine (HA14.out _ A2.out).mono ?_
  rintro e x2 ⟨rfl, h4, f4⟩
  have hb2 := C2.fr f4 hnb
  have p0 := pv2.fr f4 pn2
  have p1 := p0.cell 0
  have p2 := p0.cell 1
  simp at p1 p2
  have J2 := Lib.hid h4
  have L2 := Lib.hid (B2.out.trans f4)
  clear f4 h4 hc0 hc1 hc2 hc3 pv2 C2
  go_wp2_with fail
  clear p0 p1 p2
  rw [rounds_succ]
  go_wp2_with fail
  go_end0
  exact ⟨rfl, J2.out, L2.out⟩
/-- What names one names another one. -/
def TM.rnm (t : TM) (fr to : Nat) : TM := if t.rt 14 = fr then (if t.rt 13 = fr then t.setRt 13 to else t).setRt 14 to else (if t.rt 13 = fr then t.setRt 13 to else t)
theorem rren (h : IsH w q t) (fr to : Nat) (hfr : fr < 4294967296) (hto : to < 4294967296) : Calls Tryz.prog 138 #[.pointer (some ⟨q.m, 0, none⟩), .int .i64 fr, .int .i64 to] w fun e w' => e = .returned (.tuple #[]) ∧ IsH w' q (t.rnm fr to) ∧ Fr q.blocks w w' := by
  unfold TM.rnm
  by_cases e1 : t.rt 13 = fr
  · by_cases e2 : t.rt 14 = fr
    · rw [if_pos e1, if_pos e2]; exact rren_yy h fr to hfr hto e1 e2
    · rw [if_pos e1, if_neg e2]; exact rren_yn h fr to hfr hto e1 e2
  · by_cases e2 : t.rt 14 = fr
    · rw [if_neg e1, if_pos e2]; exact rren_ny h fr to hfr hto e1 e2
    · rw [if_neg e1, if_neg e2]; exact rren_nn h fr to hfr hto e1 e2
end
end Go.Proofs.YtkapkbiccppldaaGreatDoor

/- Entries' heads, all of them; links, paths, rings in plain words. -/
namespace Go.Proofs.YtkapkbiccppldaaGreatDoor
set_option linter.unusedVariables false
set_option linter.unusedSimpArgs false
open Go.RowKit

section
variable {w : World} {q : MH} {t u : TM}
theorem HeadTo.out {x tag kind : Nat} {N : Nat → Nat} {m y n : Nat} (h : HeadTo t x tag kind N m) (ha : u.a = t.a) (hs : u.s = t.s) (o : Out t u y n) (hd : x + 32 ≤ y ∨ y + n ≤ x) (hm : m ≤ 12) : HeadTo u x tag kind N m := by
  have z := sz_le tag h.tg
  have al := h.al
  have hb := h.base
  refine ⟨h.tg, by rw [ha, hs]; exact h.base, h.al, by rw [ha, hs]; exact h.fit, h.k0, fun g g1 g2 => ?_, fun f hf h0 j hj => ?_, h.lt⟩
  · rw [o.kd_ g (by omega) (by omega)]; exact h.kinds g g1 g2
  · have wk := wh_ok tag f h.tg (by omega) h0
    rw [o.by_ _ (by omega) (by omega)]
    exact h.byte f hf h0 j hj
theorem right_nxt (X : HB) (ht : X.tag = 1) (v : Nat) : ({X with next := v} : HB).right = X.right := by
  unfold HB.right
  have hw : ((whZ X.tag 5).2 == 0) = false := by rw [ht]; rfl
  have hw' : ((whZ X.tag (5 : Nat)).2 == 0) = false := hw
  have : ({X with next := v} : HB).lackTo 12 = X.lackTo 12 := by
    simp only [HB.lackTo]
    unfold HB.lackAt
    rw [num_nxt]
    simp only [up, hw, hw', Bool.and_false]
    simp [hw, hw']
  rw [this]
theorem right_prv (X : HB) (ht : X.tag = 1) (v : Nat) : ({X with prev := v} : HB).right = X.right := by
  unfold HB.right
  have hw : ((whZ X.tag 6).2 == 0) = false := by rw [ht]; rfl
  have hw' : ((whZ X.tag (6 : Nat)).2 == 0) = false := hw
  have : ({X with prev := v} : HB).lackTo 12 = X.lackTo 12 := by
    simp only [HB.lackTo]
    unfold HB.lackAt
    rw [num_prv]
    simp only [up, hw, hw', Bool.and_false]
    simp [hw, hw']
  rw [this]
theorem EntH.nxt {x : Nat} {X : HB} (h : EntH t x X) (hok : t.Ok) (v : Nat) (hv : v < 4294967296) : EntH (t.nxt x v) x {X with next := v} :=
  ⟨by rw [num_nxt]; exact (h.h.nxt hok v hv).1, ⟨h.ok.tag, h.ok.cls, h.ok.label, h.ok.name, hv, h.ok.prev, h.ok.refs, h.ok.expiry, h.ok.typ, h.ok.size, h.ok.hash⟩, by rw [right_nxt X h.tag]; exact h.r, h.tag⟩
theorem EntH.prv {x : Nat} {X : HB} (h : EntH t x X) (hok : t.Ok) (v : Nat) (hv : v < 4294967296) : EntH (t.prv x v) x {X with prev := v} :=
  ⟨by rw [num_prv]; exact (h.h.prv hok v hv).1, ⟨h.ok.tag, h.ok.cls, h.ok.label, h.ok.name, h.ok.next, hv, h.ok.refs, h.ok.expiry, h.ok.typ, h.ok.size, h.ok.hash⟩, by rw [right_prv X h.tag]; exact h.r, h.tag⟩
theorem EntH.out {x : Nat} {X : HB} {y n : Nat} (h : EntH t x X) (ha : u.a = t.a) (hs : u.s = t.s) (o : Out t u y n) (hd : x + 32 ≤ y ∨ y + n ≤ x) : EntH u x X :=
  ⟨h.h.out ha hs o hd (Nat.le_refl _), h.ok, h.r, h.tag⟩
theorem EntH.lt {x : Nat} {X : HB} (h : EntH t x X) (hok : t.Ok) : x < 1048576 ∧ 240 ≤ x := by
  have hc := cfg_sizes hok.cfg
  have hb := h.h.base
  have hf := h.h.fit
  have z := sz_le 1 (by decide)
  have := sla_ok hok 0 (by have := hok.cfg.a1; omega)
  omega
theorem nxt_as (t : TM) (x v : Nat) : (t.nxt x v).a = t.a ∧ (t.nxt x v).s = t.s := ⟨rfl, rfl⟩
theorem prv_as (t : TM) (x v : Nat) : (t.prv x v).a = t.a ∧ (t.prv x v).s = t.s := ⟨rfl, rfl⟩
/-- The heads of entries, all of them. -/
structure Ents (t : TM) (L : Nat → Prop) (E : Nat → HB) : Prop where
  ok : t.Ok
  e : ∀ x, L x → EntH t x (E x)
  ap : ∀ x y, L x → L y → x ≠ y → x + 32 ≤ y ∨ y + 32 ≤ x
variable {L : Nat → Prop} {E : Nat → HB}
def nxE (E : Nat → HB) (x v : Nat) : Nat → HB := up E x {E x with next := v}
def pvE (E : Nat → HB) (x v : Nat) : Nat → HB := up E x {E x with prev := v}
theorem Ents.nxt (h : Ents t L E) {x : Nat} (hx : L x) (v : Nat) (hv : v < 4294967296) : Ents (t.nxt x v) L (nxE E x v) := by
  have hX := h.e x hx
  have hb := hX.h.base
  refine ⟨(hX.h.nxt h.ok v hv).2, fun y hy => ?_, h.ap⟩
  by_cases hyx : y = x
  · subst hyx; unfold nxE; rw [up_same]; exact hX.nxt h.ok v hv
  · unfold nxE; rw [up_ne _ _ hyx]
    have := h.ap y x hy hx hyx
    exact (h.e y hy).out rfl rfl (setB_out h.ok (x + 8) 4 v (by omega)) (by omega)
theorem Ents.prv (h : Ents t L E) {x : Nat} (hx : L x) (v : Nat) (hv : v < 4294967296) : Ents (t.prv x v) L (pvE E x v) := by
  have hX := h.e x hx
  have hb := hX.h.base
  refine ⟨(hX.h.prv h.ok v hv).2, fun y hy => ?_, h.ap⟩
  by_cases hyx : y = x
  · subst hyx; unfold pvE; rw [up_same]; exact hX.prv h.ok v hv
  · unfold pvE; rw [up_ne _ _ hyx]
    have := h.ap y x hy hx hyx
    exact (h.e y hy).out rfl rfl (setB_out h.ok (x + 12) 4 v (by omega)) (by omega)
end
end Go.Proofs.YtkapkbiccppldaaGreatDoor

/- Links, paths, rings in plain words. -/
namespace Go.Proofs.YtkapkbiccppldaaGreatDoor
set_option linter.unusedVariables false
set_option linter.unusedSimpArgs false
open Go.RowKit

section
variable {E E' : Nat → HB}
/-- Two that are neighbours. -/
def Lnk (E : Nat → HB) (x y : Nat) : Prop := (E x).next = y ∧ (E y).prev = x
def Seg (E : Nat → HB) : Nat → List Nat → Nat → Prop
  | a, [], z => Lnk E a z
  | a, y :: l, z => Lnk E a y ∧ Seg E y l z
def Cyc (E : Nat → HB) : List Nat → Prop
  | [] => True
  | h :: l => Seg E h l h
theorem seg_app (E : Nat → HB) : ∀ (A : List Nat) (a x : Nat) (B : List Nat) (z : Nat), Seg E a (A ++ x :: B) z ↔ Seg E a A x ∧ Seg E x B z := by
  intro A
  induction A with
  | nil => intro a x B z; exact Iff.rfl
  | cons y A ih => intro a x B z; show Lnk E a y ∧ Seg E y (A ++ x :: B) z ↔ (Lnk E a y ∧ Seg E y A x) ∧ Seg E x B z; rw [ih, and_assoc]
theorem cyc_rot1 (E : Nat → HB) (h : Nat) (l : List Nat) : Cyc E (h :: l) ↔ Cyc E (l ++ [h]) := by
  cases l with
  | nil => exact Iff.rfl
  | cons y l => show Lnk E h y ∧ Seg E y l h ↔ Seg E y (l ++ [h]) y; rw [seg_app]; exact and_comm
theorem cyc_rot (E : Nat → HB) : ∀ (A B : List Nat), Cyc E (A ++ B) ↔ Cyc E (B ++ A) := by
  intro A
  induction A with
  | nil => intro B; rw [List.append_nil]; exact Iff.rfl
  | cons x A ih => intro B; rw [List.cons_append, cyc_rot1, List.append_assoc, ih, List.append_assoc]; exact Iff.rfl
/-- Links that hang on what didn't change. -/
theorem Seg.same : ∀ {l : List Nat} {a z : Nat}, Seg E a l z → (∀ x, x = a ∨ x ∈ l → (E' x).next = (E x).next) → (∀ x, x ∈ l ∨ x = z → (E' x).prev = (E x).prev) → Seg E' a l z := by
  intro l
  induction l with
  | nil => intro a z h hn hp; exact ⟨by rw [hn a (.inl rfl)]; exact h.1, by rw [hp z (.inr rfl)]; exact h.2⟩
  | cons y l ih =>
    intro a z h hn hp
    refine ⟨⟨by rw [hn a (.inl rfl)]; exact h.1.1, by rw [hp y (.inl (List.mem_cons_self ..))]; exact h.1.2⟩, ih h.2 (fun x hx => hn x (.inr ?_)) (fun x hx => hp x ?_)⟩
    · rcases hx with rfl | hx
      · exact List.mem_cons_self ..
      · exact List.mem_cons_of_mem _ hx
    · rcases hx with hx | rfl
      · exact .inl (List.mem_cons_of_mem _ hx)
      · exact .inr rfl
theorem Cyc.same {R : List Nat} (h : Cyc E R) (he : ∀ x ∈ R, (E' x).next = (E x).next ∧ (E' x).prev = (E x).prev) : Cyc E' R := by
  cases R with
  | nil => trivial
  | cons a l =>
    refine Seg.same h (fun x hx => (he x ?_).1) (fun x hx => (he x ?_).2)
    · rcases hx with rfl | hx
      · exact List.mem_cons_self ..
      · exact List.mem_cons_of_mem _ hx
    · rcases hx with hx | rfl
      · exact List.mem_cons_of_mem _ hx
      · exact List.mem_cons_self ..
theorem Seg.nx : ∀ {l : List Nat} {a z : Nat}, Seg E a l z → (E a).next = l.headD z := by
  intro l a z h
  cases l with
  | nil => exact h.1
  | cons y l => exact h.1.1
theorem Seg.pv : ∀ {l : List Nat} {a z : Nat}, Seg E a l z → (E z).prev = (a :: l).getLast (List.cons_ne_nil _ _) := by
  intro l
  induction l with
  | nil => intro a z h; exact h.2
  | cons y l ih => intro a z h; rw [ih h.2, List.getLast_cons (List.cons_ne_nil _ _)]
/-- Two are joined. -/
def jnE (E : Nat → HB) (a b : Nat) : Nat → HB := pvE (nxE E a b) b a
theorem jn_next (E : Nat → HB) (a b x : Nat) : (jnE E a b x).next = if x = a then b else (E x).next := by
  unfold jnE pvE nxE up
  by_cases h1 : x = b
  · subst h1; rw [if_pos rfl]
    show (if x = a then ({E a with next := x} : HB) else E x).next = _
    by_cases h2 : x = a
    · rw [if_pos h2, if_pos h2]
    · rw [if_neg h2, if_neg h2]
  · rw [if_neg h1]
    by_cases h2 : x = a
    · rw [if_pos h2, if_pos h2]
    · rw [if_neg h2, if_neg h2]
theorem jn_prev (E : Nat → HB) (a b x : Nat) : (jnE E a b x).prev = if x = b then a else (E x).prev := by
  unfold jnE pvE nxE up
  by_cases h1 : x = b
  · rw [if_pos h1, if_pos h1]
  · rw [if_neg h1, if_neg h1]
    by_cases h2 : x = a
    · rw [if_pos h2, h2]
    · rw [if_neg h2]
/-- The last one's next is changed, and the prev of the one behind. -/
theorem seg_last (E : Nat → HB) : ∀ {l : List Nat} {a z : Nat}, Seg E a l z → (a :: l).Nodup → ∀ y, y ∉ l → Seg (jnE E ((a :: l).getLast (List.cons_ne_nil _ _)) y) a l y := by
  intro l
  induction l with
  | nil => intro a z h _ y _; exact ⟨by rw [jn_next]; exact if_pos rfl, by rw [jn_prev]; exact if_pos rfl⟩
  | cons b l ih =>
    intro a z h hn y hy
    have hn' := List.nodup_cons.1 hn
    have hab : a ≠ (b :: l).getLast (List.cons_ne_nil _ _) := fun e => hn'.1 (e ▸ List.getLast_mem _)
    have hby : b ≠ y := fun e => hy (e ▸ List.mem_cons_self ..)
    refine ⟨⟨?_, ?_⟩, ?_⟩
    · rw [List.getLast_cons (List.cons_ne_nil _ _), jn_next, if_neg hab]; exact h.1.1
    · rw [List.getLast_cons (List.cons_ne_nil _ _), jn_prev, if_neg hby]; exact h.1.2
    · rw [List.getLast_cons (List.cons_ne_nil _ _)]
      exact ih h.2 hn'.2 y (fun m => hy (List.mem_cons_of_mem _ m))
end
end Go.Proofs.YtkapkbiccppldaaGreatDoor

/- The ring's state; what changes it, in plain words. -/
namespace Go.Proofs.YtkapkbiccppldaaGreatDoor
set_option linter.unusedVariables false
set_option linter.unusedSimpArgs false
open Go.RowKit

section
variable {t u : TM} {L : Nat → Prop} {E E' : Nat → HB} {R : List Nat} {b : Nat}
theorem Ents.join (h : Ents t L E) {a c : Nat} (ha : L a) (hc : L c) : Ents ((t.nxt a c).prv c a) L (jnE E a c) := by
  have l1 := (h.e a ha).lt h.ok
  have l2 := (h.e c hc).lt h.ok
  exact (h.nxt ha c (by omega)).prv hc a (by omega)
theorem EntH.same {x : Nat} {X : HB} (h : EntH t x X) (ha : u.a = t.a) (hs : u.s = t.s) (o : Out t u x 0) : EntH u x X := by
  refine ⟨⟨h.h.tg, by rw [ha, hs]; exact h.h.base, h.h.al, by rw [ha, hs]; exact h.h.fit, h.h.k0, fun g g1 g2 => ?_, fun f hf h0 j hj => ?_, h.h.lt⟩, h.ok, h.r, h.tag⟩
  · have hb := h.h.base
    have al := h.h.al
    rw [o.kd_ g (by omega) (by omega)]; exact h.h.kinds g g1 g2
  · have hb := h.h.base
    rw [o.by_ _ (by omega) (by omega)]
    exact h.h.byte f hf h0 j hj
theorem Ents.setRt (h : Ents t L E) (f v : Nat) (hv : v < 256 ^ fldW f) : Ents (t.setRt f v) L E :=
  ⟨setRt_ok h.ok f v hv, fun x hx => (h.e x hx).same rfl rfl (setRt_out h.ok f v hv x 0), h.ap⟩
theorem nodup_lt : ∀ (N : Nat) (l : List Nat), l.Nodup → (∀ x ∈ l, x < N) → l.length ≤ N := by
  intro N
  induction N with
  | zero => intro l _ h; cases l with
    | nil => exact Nat.le_refl _
    | cons a l => exact absurd (h a (List.mem_cons_self ..)) (Nat.not_lt_zero _)
  | succ N ih =>
    intro l hn h
    have h1 := ih (l.erase N) (hn.erase N) (fun x hx => by
      have h2 := h x (List.mem_of_mem_erase hx)
      have h3 : x ≠ N := fun e => by subst e; exact hn.not_mem_erase hx
      omega)
    have := List.length_erase_le (a := N) (l := l)
    by_cases hm : N ∈ l
    · have := List.length_erase_of_mem hm
      omega
    · rw [List.erase_of_not_mem hm] at h1
      omega
/-- The ring: its entries from the hand on, and the broom's. -/
structure RgI (t : TM) (L : Nat → Prop) (E : Nat → HB) (R : List Nat) (b : Nat) : Prop where
  ents : Ents t L E
  sub : ∀ x ∈ R, L x
  nd : R.Nodup
  hand : t.rt 13 = R.headD 0
  broom : t.rt 14 = b
  cnt : t.rt 15 = R.length
  bin : R ≠ [] → b ∈ R
  bnil : R = [] → b = 0
  cyc : Cyc E R
  out : ∀ x, L x → x ∉ R → (E x).next = 0 ∧ (E x).prev = 0
theorem RgI.ne0 (h : RgI t L E R b) {x : Nat} (hx : L x) : x ≠ 0 := by
  have := (h.ents.e x hx).lt h.ents.ok
  omega
/-- Who is in a ring has a next one. -/
theorem cyc_nx {A B : List Nat} {x : Nat} (h : Cyc E (A ++ x :: B)) : (E x).next = (B ++ A).headD x ∧ (E x).prev = (x :: (B ++ A)).getLast (List.cons_ne_nil _ _) := by
  rw [cyc_rot] at h
  exact ⟨Seg.nx (l := B ++ A) h, Seg.pv (l := B ++ A) h⟩
theorem RgI.nx0 (h : RgI t L E R b) {x : Nat} (hx : L x) : (E x).next = 0 ↔ x ∉ R := by
  constructor
  · intro h0 hm
    obtain ⟨A, B, rfl⟩ := List.append_of_mem hm
    have := (cyc_nx h.cyc).1
    rw [h0] at this
    cases hc : B ++ A with
    | nil => rw [hc] at this; exact h.ne0 hx this.symm
    | cons n C =>
      rw [hc] at this
      have hn : n ∈ B ++ A := hc ▸ List.mem_cons_self ..
      have hL : L n := h.sub n (List.mem_append.2 ((List.mem_append.1 hn).elim (fun q => .inr (List.mem_cons_of_mem _ q)) .inl))
      exact h.ne0 hL this.symm
  · intro hm
    exact (h.out x hx hm).1
/-- One is put into an empty ring. -/
theorem RgI.ins0 (h : RgI t L E [] b) {x : Nat} (hx : L x) : RgI (((((t.nxt x x).prv x x).setRt 13 x).setRt 14 x).setRt 15 1) L (jnE E x x) [x] x := by
  have l1 := (h.ents.e x hx).lt h.ents.ok
  have w4 : ∀ f, 1048576 ≤ 256 ^ fldW f := fun f => by rcases fldW_pow f with e | e <;> rw [e] <;> decide
  have e1 := (((h.ents.join hx hx).setRt 13 x (by have := w4 13; omega)).setRt 14 x (by have := w4 14; omega)).setRt 15 1 (by have := w4 15; omega)
  refine ⟨e1, fun y hy => by rw [List.mem_singleton.1 hy]; exact hx, List.pairwise_singleton _ _, rfl, rfl, rfl, fun _ => List.mem_singleton.2 rfl, fun e => (nomatch e), ?_, fun y hy hn => ?_⟩
  · exact ⟨by rw [jn_next]; exact if_pos rfl, by rw [jn_prev]; exact if_pos rfl⟩
  · have hne : y ≠ x := fun e => hn (List.mem_singleton.2 e)
    rw [jn_next, jn_prev, if_neg hne, if_neg hne]
    exact h.out y hy (fun m => nomatch m)
/-- One is put behind the others. -/
theorem RgI.ins (h : RgI t L E R b) (h0 : R ≠ []) {x : Nat} (hx : L x) (hn : x ∉ R) :
    RgI (((((t.nxt (E (R.headD 0)).prev x).prv x (E (R.headD 0)).prev).nxt x (R.headD 0)).prv (R.headD 0) x).setRt 15 (R.length + 1)) L (jnE (jnE E (E (R.headD 0)).prev x) x (R.headD 0)) (R ++ [x]) b := by
  cases R with
  | nil => exact absurd rfl h0
  | cons a T =>
    have hp : (E a).prev = (a :: T).getLast (List.cons_ne_nil _ _) := Seg.pv (l := T) h.cyc
    show RgI (((((t.nxt (E a).prev x).prv x (E a).prev).nxt x a).prv a x).setRt 15 (T.length + 1 + 1)) L (jnE (jnE E (E a).prev x) x a) (a :: T ++ [x]) b
    have hpm : (E a).prev ∈ a :: T := hp ▸ List.getLast_mem _
    have hx1 : x ≠ a := fun e => hn (e ▸ List.mem_cons_self ..)
    have hx2 : x ∉ T := fun m => hn (List.mem_cons_of_mem _ m)
    have hnd := List.nodup_cons.1 h.nd
    have hlen : T.length + 2 < 4294967296 := by
      have := nodup_lt 1048576 _ h.nd (fun y hy => ((h.ents.e y (h.sub y hy)).lt h.ents.ok).1)
      rw [List.length_cons] at this
      omega
    have w15 : 256 ^ fldW 15 = 4294967296 := rfl
    have e1 := ((h.ents.join (h.sub _ hpm) hx).join hx (h.sub a (List.mem_cons_self ..))).setRt 15 (T.length + 1 + 1) (by omega)
    refine ⟨e1, fun y hy => ?_, ?_, h.hand, h.broom, by show T.length + 1 + 1 = (T ++ [x]).length + 1; rw [List.length_append]; rfl, fun _ => List.mem_append.2 (.inl (h.bin (List.cons_ne_nil _ _))), fun e => (nomatch e), ?_, fun y hy hm => ?_⟩
    · rcases List.mem_append.1 hy with m | m
      · exact h.sub y m
      · rw [List.mem_singleton.1 m]; exact hx
    · refine List.nodup_append.2 ⟨h.nd, List.pairwise_singleton _ _, fun y hy z hz e => ?_⟩
      rw [List.mem_singleton.1 hz] at e
      exact hn (e ▸ hy)
    · have s1 : Seg (jnE E (E a).prev x) a T x := by rw [hp]; exact seg_last E h.cyc h.nd x hx2
      show Seg _ a (T ++ x :: []) a
      rw [seg_app]
      refine ⟨Seg.same s1 (fun y hy => ?_) (fun y hy => ?_), by rw [jn_next]; exact if_pos rfl, by rw [jn_prev]; exact if_pos rfl⟩
      · rw [jn_next, if_neg]
        rintro rfl
        rcases hy with e | m
        · exact hx1 e
        · exact hx2 m
      · rw [jn_prev, if_neg]
        rintro rfl
        rcases hy with m | e
        · exact hnd.1 m
        · exact hx1 e.symm
    · have m1 : y ∉ a :: T := fun m => hm (List.mem_append.2 (.inl m))
      have m2 : y ≠ x := fun e => hm (List.mem_append.2 (.inr (List.mem_singleton.2 e)))
      have m3 : y ≠ (E a).prev := fun e => m1 (e ▸ hpm)
      have m4 : y ≠ a := fun e => m1 (e ▸ List.mem_cons_self ..)
      rw [jn_next, jn_prev, if_neg m2, if_neg m4, jn_next, jn_prev, if_neg m3, if_neg m2]
      exact h.out y hy m1
end
end Go.Proofs.YtkapkbiccppldaaGreatDoor

/- The ring's state: one is taken out; the hand goes on. -/
namespace Go.Proofs.YtkapkbiccppldaaGreatDoor
set_option linter.unusedVariables false
set_option linter.unusedSimpArgs false
open Go.RowKit

section
variable {t u : TM} {L : Nat → Prop} {E E' : Nat → HB} {b : Nat}
def alE (E : Nat → HB) (x : Nat) : Nat → HB := pvE (nxE E x 0) x 0
theorem al_next (E : Nat → HB) (x y : Nat) : (alE E x y).next = if y = x then 0 else (E y).next := by
  unfold alE pvE nxE up
  by_cases h : y = x
  · rw [if_pos h, if_pos h, if_pos rfl]
  · rw [if_neg h, if_neg h, if_neg h]
theorem al_prev (E : Nat → HB) (x y : Nat) : (alE E x y).prev = if y = x then 0 else (E y).prev := by
  unfold alE pvE nxE up
  by_cases h : y = x
  · rw [if_pos h, if_pos h]
  · rw [if_neg h, if_neg h, if_neg h]
theorem Ents.alone (h : Ents t L E) {x : Nat} (hx : L x) : Ents ((t.nxt x 0).prv x 0) L (alE E x) := (h.nxt hx 0 (by decide)).prv hx 0 (by decide)
theorem Ents.rnm (h : Ents t L E) (fr to : Nat) (hto : to < 4294967296) : Ents (t.rnm fr to) L E := by
  have w3 : to < 256 ^ fldW 13 := hto
  have w4 : to < 256 ^ fldW 14 := hto
  unfold TM.rnm
  split <;> split
  · exact (h.setRt 13 to w3).setRt 14 to w4
  · exact h.setRt 14 to w4
  · exact h.setRt 13 to w3
  · exact h
theorem rnm_rt (t : TM) (fr to : Nat) : (t.rnm fr to).rt 13 = (if t.rt 13 = fr then to else t.rt 13) ∧ (t.rnm fr to).rt 14 = (if t.rt 14 = fr then to else t.rt 14) ∧ (t.rnm fr to).rt 15 = t.rt 15 := by
  unfold TM.rnm
  split <;> split <;> exact ⟨rfl, rfl, rfl⟩
/-- All the changes that a removal makes. -/
def TM.rem (t : TM) (x n p to : Nat) (k : Nat) : TM := ((((((t.rnm x to).nxt p n).prv n p).nxt x 0).prv x 0)).setRt 15 k
theorem rem_rt (t : TM) (x n p to k : Nat) : (t.rem x n p to k).rt 13 = (t.rnm x to).rt 13 ∧ (t.rem x n p to k).rt 14 = (t.rnm x to).rt 14 ∧ (t.rem x n p to k).rt 15 = k := ⟨rfl, rfl, rfl⟩
/-- One is taken out. -/
theorem RgI.rem {A B : List Nat} {x : Nat} (h : RgI t L E (A ++ x :: B) b) :
    RgI (t.rem x (E x).next (E x).prev (if (E x).next = x then 0 else (E x).next) (A ++ B).length) L (alE (jnE E (E x).prev (E x).next) x) (A ++ B) (if b = x then (B ++ A).headD 0 else b) := by
  have hnx := cyc_nx h.cyc
  have hnd := h.nd
  have hc := h.cyc
  rw [cyc_rot] at hc
  have hnd' : (x :: (B ++ A)).Nodup := by
    have := (List.perm_append_comm (l₁ := A) (l₂ := x :: B)).nodup_iff.1 hnd
    exact this
  have hxn := List.nodup_cons.1 hnd'
  have hxA : x ∉ A := fun m => hxn.1 (List.mem_append.2 (.inr m))
  have hxB : x ∉ B := fun m => hxn.1 (List.mem_append.2 (.inl m))
  have hL : ∀ y, y ∈ A ++ B → L y := fun y hy => h.sub y (List.mem_append.2 ((List.mem_append.1 hy).imp id (List.mem_cons_of_mem _)))
  have hLx : L x := h.sub x (List.mem_append.2 (.inr (List.mem_cons_self ..)))
  have hlen := nodup_lt 1048576 _ h.nd (fun y hy => ((h.ents.e y (h.sub y hy)).lt h.ents.ok).1)
  have hl2 : (A ++ x :: B).length = (A ++ B).length + 1 := by rw [List.length_append, List.length_append, List.length_cons]; omega
  have hnL : L (E x).next := by
    rw [hnx.1]
    cases hC : B ++ A with
    | nil => exact hLx
    | cons n C => exact hL n (by rw [List.mem_append, or_comm, ← List.mem_append, hC]; exact List.mem_cons_self ..)
  have hpL : L (E x).prev := by
    rw [hnx.2]
    have := List.getLast_mem (l := x :: (B ++ A)) (List.cons_ne_nil _ _)
    rcases List.mem_cons.1 this with e | m
    · rw [e]; exact hLx
    · exact hL _ (by rw [List.mem_append, or_comm, ← List.mem_append]; exact m)
  have l1 := (h.ents.e _ hnL).lt h.ents.ok
  have e1 := (((h.ents.rnm x (if (E x).next = x then 0 else (E x).next) (by split <;> omega)).join hpL hnL).alone hLx).setRt 15 (A ++ B).length (by have w15 : 256 ^ fldW 15 = 4294967296 := rfl; omega)
  -- who was the hand's, and the broom's
  have hto : (if (E x).next = x then 0 else (E x).next) = (B ++ A).headD 0 := by
    rw [hnx.1]
    cases hC : B ++ A with
    | nil => exact if_pos rfl
    | cons n C =>
      show (if n = x then 0 else n) = n
      have : n ≠ x := fun e => hxn.1 (by rw [hC, ← e]; exact List.mem_cons_self ..)
      rw [if_neg this]
  refine ⟨e1, hL, ?_, ?_, ?_, rfl, fun hne => ?_, fun he => ?_, ?_, fun y hy hm => ?_⟩
  · have := (List.perm_append_comm (l₁ := A) (l₂ := B)).nodup_iff.2 hxn.2
    exact this
  · show (t.rnm x _).rt 13 = _
    rw [(rnm_rt t x _).1, h.hand, hto]
    cases A with
    | nil => show (if x = x then (B ++ []).headD 0 else x) = B.headD 0; rw [if_pos rfl, List.append_nil]
    | cons a A =>
      have hax : a ≠ x := fun e => hxA (e ▸ List.mem_cons_self ..)
      show (if a = x then (B ++ a :: A).headD 0 else a) = a
      rw [if_neg hax]
  · show (t.rnm x _).rt 14 = _
    rw [(rnm_rt t x _).2.1, h.broom, hto]
  · by_cases hb : b = x
    · rw [if_pos hb]
      cases hC : B ++ A with
      | nil =>
        have := List.append_eq_nil_iff.1 hC
        exact absurd (by rw [this.1, this.2]; rfl) hne
      | cons n C => show n ∈ A ++ B; rw [List.mem_append, or_comm, ← List.mem_append, hC]; exact List.mem_cons_self ..
    · rw [if_neg hb]
      have := h.bin (fun e => nomatch (List.append_eq_nil_iff.1 e).2)
      rcases List.mem_append.1 this with m | m
      · exact List.mem_append.2 (.inl m)
      · rcases List.mem_cons.1 m with e | m
        · exact absurd e hb
        · exact List.mem_append.2 (.inr m)
  · have hab := List.append_eq_nil_iff.1 he
    have hb := h.bin (fun e => nomatch (List.append_eq_nil_iff.1 e).2)
    rw [hab.1, hab.2] at hb
    rw [if_pos (List.mem_singleton.1 hb), hab.1, hab.2]
    rfl
  · rw [cyc_rot]
    have hc' : Seg E x (B ++ A) x := hc
    rw [hnx.1, hnx.2]
    cases hC : B ++ A with
    | nil => trivial
    | cons n C =>
      rw [hC] at hc' hxn
      have hnC := List.nodup_cons.1 hxn.2
      have s1 := seg_last E hc'.2 hxn.2 n hnC.1
      rw [List.getLast_cons (List.cons_ne_nil _ _)]
      show Seg (alE (jnE E ((n :: C).getLast _) n) x) n C n
      refine Seg.same s1 (fun y hy => ?_) (fun y hy => ?_)
      · rw [al_next, if_neg]
        rintro rfl
        rcases hy with e | m
        · exact hxn.1 (e ▸ List.mem_cons_self ..)
        · exact hxn.1 (List.mem_cons_of_mem _ m)
      · rw [al_prev, if_neg]
        rintro rfl
        rcases hy with m | e
        · exact hxn.1 (List.mem_cons_of_mem _ m)
        · exact hxn.1 (e ▸ List.mem_cons_self ..)
  · rw [al_next, al_prev]
    by_cases hyx : y = x
    · rw [if_pos hyx, if_pos hyx]; exact ⟨rfl, rfl⟩
    · rw [if_neg hyx, if_neg hyx]
      have hyR : y ∉ A ++ x :: B := fun m => by
        rcases List.mem_append.1 m with m | m
        · exact hm (List.mem_append.2 (.inl m))
        · rcases List.mem_cons.1 m with e | m
          · exact hyx e
          · exact hm (List.mem_append.2 (.inr m))
      have o := h.out y hy hyR
      have hp : y ≠ (E x).prev := fun e => by
        rw [hnx.2] at e
        have := List.getLast_mem (l := x :: (B ++ A)) (List.cons_ne_nil _ _)
        rw [← e] at this
        rcases List.mem_cons.1 this with e | m
        · exact hyx e
        · exact hm (by rw [List.mem_append, or_comm, ← List.mem_append]; exact m)
      have hn : y ≠ (E x).next := fun e => by
        rw [hnx.1] at e
        cases hC : B ++ A with
        | nil => rw [hC] at e; exact hyx e
        | cons n C =>
          rw [hC] at e
          exact hm (by rw [List.mem_append, or_comm, ← List.mem_append, hC, e]; exact List.mem_cons_self ..)
      rw [jn_next, jn_prev, if_neg hp, if_neg hn]
      exact o
end
end Go.Proofs.YtkapkbiccppldaaGreatDoor

/- Package ring: Insert, Remove: the walks. -/
namespace Go.Proofs.YtkapkbiccppldaaGreatDoor
set_option linter.unusedVariables false
set_option linter.unusedSimpArgs false
open Go.RowKit

section
variable {w : World} {q : MH} {t : TM} {L : Nat → Prop} {E : Nat → HB} {R : List Nat} {b : Nat}
theorem gnext (h : IsH w q t) (g : Ents t L E) {x : Nat} (hx : L x) : Calls Tryz.prog 127 #[.pointer (some ⟨q.m, 0, none⟩), .int .i64 x] w fun e w' => e = .returned (.int .i64 (E x).next) ∧ IsH w' q t ∧ Fr q.blocks w w' :=
  rnext h (g.e x hx).h (g.e x hx).n0 (by rw [wh1.1])
theorem gprev (h : IsH w q t) (g : Ents t L E) {x : Nat} (hx : L x) : Calls Tryz.prog 133 #[.pointer (some ⟨q.m, 0, none⟩), .int .i64 x] w fun e w' => e = .returned (.int .i64 (E x).prev) ∧ IsH w' q t ∧ Fr q.blocks w w' :=
  rprev h (g.e x hx).h (g.e x hx).n0 (by rw [wh1.2])
theorem gjoin (h : IsH w q t) (g : Ents t L E) {a c : Nat} (ha : L a) (hc : L c) : Calls Tryz.prog 130 #[.pointer (some ⟨q.m, 0, none⟩), .int .i64 a, .int .i64 c] w fun e w' => e = .returned (.tuple #[]) ∧ IsH w' q ((t.nxt a c).prv c a) ∧ Fr q.blocks w w' := by
  have l1 := (g.e a ha).lt g.ok
  have l2 := (g.e c hc).lt g.ok
  have g1 := (g.nxt ha c (by omega)).e c hc
  exact rjoin h (g.e a ha).h (g.e a ha).n0 g1.h g1.n0 (by omega) (by omega)
theorem galone (h : IsH w q t) (g : Ents t L E) {x : Nat} (hx : L x) : Calls Tryz.prog 139 #[.pointer (some ⟨q.m, 0, none⟩), .int .i64 x] w fun e w' => e = .returned (.tuple #[]) ∧ IsH w' q ((t.nxt x 0).prv x 0) ∧ Fr q.blocks w w' :=
  ralone h (g.e x hx).h (g.e x hx).n0
theorem gins_st (h : IsH w q t) (g : RgI t L E R b) {x : Nat} (hx : L x) (hm : x ∈ R) : Calls Tryz.prog 42 #[.pointer (some ⟨q.m, 0, none⟩), .int .i64 x] w fun e w' => e = .returned (.int .i64 8) ∧ IsH w' q t ∧ Fr q.blocks w w' := by
  have HE := rentry h (g.ents.e x hx)
  have HN := Lib.hid (fun W (hW : IsH W q t) => gnext hW g.ents hx)
  have hn : ¬ (((E x).next : Int) = 0) := fun e => (g.nx0 hx).1 (by omega) hm
  clear g h
  generalize (E x).next = n at *
  go_enter Tryz.func42, Tryz.ntmps42
  go_wp2_with fail
  with_reducible refine HE.mono ?_
  rintro e w1 ⟨rfl, h1, f1⟩
  have H1 := Lib.hid h1
  have F1 := Lib.hid f1
  clear h1 f1 HE
  go_wp2_with fail
  with_reducible refine (HN.out _ H1.out).mono ?_
  rintro e w2 ⟨rfl, h2, f2⟩
  have H2 := Lib.hid h2
  have F2 := Lib.hid (F1.out.trans f2)
  clear h2 f2
  go_wp2_with fail
  go_ret
  exact ⟨rfl, H2.out, F2.out⟩
theorem gins_1 (h : IsH w q t) (g : RgI t L E R b) (h0 : R ≠ []) {x : Nat} (hx : L x) (hm : x ∉ R) : Calls Tryz.prog 42 #[.pointer (some ⟨q.m, 0, none⟩), .int .i64 x] w fun e w' => e = .returned (.int .i64 0) ∧ IsH w' q (((((t.nxt (E (R.headD 0)).prev x).prv x (E (R.headD 0)).prev).nxt x (R.headD 0)).prv (R.headD 0) x).setRt 15 (R.length + 1)) ∧ Fr q.blocks w w' := by
  have HE := rentry h (g.ents.e x hx)
  have HN := Lib.hid (fun W (hW : IsH W q t) => (show Calls Tryz.prog 127 #[.pointer (some ⟨q.m, 0, none⟩), .int .i64 x] W fun e w' => e = .returned (.int .i64 0) ∧ IsH w' q t ∧ Fr q.blocks W w' from by
    have := gnext hW g.ents hx
    rw [(g.nx0 hx).2 hm] at this
    exact this))
  obtain ⟨a, ha⟩ : ∃ a, a = R.headD 0 := ⟨_, rfl⟩
  have haR : a ∈ R := by
    cases R with
    | nil => exact absurd rfl h0
    | cons y T => rw [ha]; exact List.mem_cons_self ..
  have haL := g.sub a haR
  have hpL : L (E a).prev := by
    obtain ⟨A, B, hAB⟩ := List.append_of_mem haR
    have hc := g.cyc
    rw [hAB] at hc
    rw [(cyc_nx hc).2]
    have := List.getLast_mem (l := a :: (B ++ A)) (List.cons_ne_nil _ _)
    rcases List.mem_cons.1 this with e | m
    · rw [e]; exact haL
    · refine g.sub _ ?_
      rw [hAB]
      rcases List.mem_append.1 m with m | m
      · exact List.mem_append.2 (.inr (List.mem_cons_of_mem _ m))
      · exact List.mem_append.2 (.inl m)
  rw [← ha]
  have ha0 : ¬ ((a : Int) = 0) := by have := g.ne0 haL; omega
  have HH := Lib.hid (fun W => rhand W q.m)
  unfold ptV at HH
  have HA := Lib.hid (fun W (hW : IsH W q t) => (show Calls Tryz.prog 129 #[.agg #[.pointer (some ⟨q.m, 0, none⟩), .int .i64 13]] W fun e w' => e = .returned (.int .i64 a) ∧ IsH w' q t ∧ Fr q.blocks W w' from by
    have := rpat hW 13 (by decide)
    rw [g.hand, ← ha] at this
    exact this))
  have HP := Lib.hid (fun W (hW : IsH W q t) => gprev hW g.ents haL)
  have HJ := Lib.hid (fun W (hW : IsH W q t) => gjoin hW g.ents hpL hx)
  have HK := Lib.hid (fun W hW => gjoin (w := W) (q := q) hW (g.ents.join hpL hx) hx haL)
  have hlen := nodup_lt 1048576 _ g.nd (fun y hy => ((g.ents.e y (g.sub y hy)).lt g.ents.ok).1)
  have HC := Lib.hid (fun W (hW : IsH W q ((((t.nxt (E a).prev x).prv x (E a).prev).nxt x a).prv a x)) => (show Calls Tryz.prog 134 #[.pointer (some ⟨q.m, 0, none⟩), .int .i64 1] W fun e w' => e = .returned (.tuple #[]) ∧ IsH w' q (((((t.nxt (E a).prev x).prv x (E a).prev).nxt x a).prv a x).setRt 15 (R.length + 1)) ∧ Fr q.blocks W w' from rcount hW 1 (R.length + 1) (by show ((t.rt 15 : Nat) : Int) + 1 = _; rw [g.cnt]; omega) (by omega) (by omega)))
  have H0 := Lib.hid h
  clear g h hlen hpL haL haR ha
  generalize (E a).prev = p at *
  go_enter Tryz.func42, Tryz.ntmps42
  go_wp2_with fail
  with_reducible refine HE.mono ?_
  rintro e w1 ⟨rfl, h1, f1⟩
  have H1 := Lib.hid h1
  have F1 := Lib.hid (f1)
  clear h1 f1
  go_wp2_with fail
  with_reducible refine (HN.out _ H1.out).mono ?_
  rintro e w2 ⟨rfl, h2, f2⟩
  have H2 := Lib.hid h2
  have F2 := Lib.hid (F1.out.trans f2)
  clear h2 f2
  go_wp2_with fail
  with_reducible refine (HH.out _).mono ?_
  rintro e w3 ⟨rfl, f3⟩
  have H3 := Lib.hid (H2.out.fr0 f3)
  have F3 := Lib.hid (F2.out.trans (f3.nil (S := q.blocks)))
  clear f3
  go_wp2_with fail
  with_reducible refine (HA.out _ H3.out).mono ?_
  rintro e w4 ⟨rfl, h4, f4⟩
  have H4 := Lib.hid h4
  have F4 := Lib.hid (F3.out.trans f4)
  clear h4 f4
  go_wp2_with fail
  with_reducible refine (HP.out _ H4.out).mono ?_
  rintro e w5 ⟨rfl, h5, f5⟩
  have H5 := Lib.hid h5
  have F5 := Lib.hid (F4.out.trans f5)
  clear h5 f5
  go_wp2_with fail
  with_reducible refine (HJ.out _ H5.out).mono ?_
  rintro e w6 ⟨rfl, h6, f6⟩
  have H6 := Lib.hid h6
  have F6 := Lib.hid (F5.out.trans f6)
  clear h6 f6
  go_wp2_with fail
  with_reducible refine (HK.out _ H6.out).mono ?_
  rintro e w7 ⟨rfl, h7, f7⟩
  have H7 := Lib.hid h7
  have F7 := Lib.hid (F6.out.trans f7)
  clear h7 f7
  go_wp2_with fail
  with_reducible refine (HC.out _ H7.out).mono ?_
  rintro e w8 ⟨rfl, h8, f8⟩
  have H8 := Lib.hid h8
  have F8 := Lib.hid (F7.out.trans f8)
  clear h8 f8
  go_wp2_with fail
  go_ret
  exact ⟨rfl, H8.out, F8.out⟩
theorem gins_0 (h : IsH w q t) (g : RgI t L E [] b) {x : Nat} (hx : L x) : Calls Tryz.prog 42 #[.pointer (some ⟨q.m, 0, none⟩), .int .i64 x] w fun e w' => e = .returned (.int .i64 0) ∧ IsH w' q (((((t.nxt x x).prv x x).setRt 13 x).setRt 14 x).setRt 15 1) ∧ Fr q.blocks w w' := by
  have HE := rentry h (g.ents.e x hx)
  have lx := (g.ents.e x hx).lt g.ents.ok
  have HN := Lib.hid (fun W (hW : IsH W q t) => (show Calls Tryz.prog 127 #[.pointer (some ⟨q.m, 0, none⟩), .int .i64 x] W fun e w' => e = .returned (.int .i64 0) ∧ IsH w' q t ∧ Fr q.blocks W w' from by
    have := gnext hW g.ents hx
    rw [(g.nx0 hx).2 (fun m => nomatch m)] at this
    exact this))
  have HH := Lib.hid (fun W => rhand W q.m)
  have HB := Lib.hid (fun W => rboth W q.m)
  unfold ptV at HH
  unfold bothC at HB
  have HA := Lib.hid (fun W (hW : IsH W q t) => (show Calls Tryz.prog 129 #[.agg #[.pointer (some ⟨q.m, 0, none⟩), .int .i64 13]] W fun e w' => e = .returned (.int .i64 0) ∧ IsH w' q t ∧ Fr q.blocks W w' from by
    have := rpat hW 13 (by decide)
    rw [g.hand] at this
    exact this))
  have HJ := Lib.hid (fun W (hW : IsH W q t) => gjoin hW g.ents hx hx)
  have HS13 := Lib.hid (fun W (hW : IsH W q ((t.nxt x x).prv x x)) => (show Calls Tryz.prog 132 #[.agg #[.pointer (some ⟨q.m, 0, none⟩), .int .i64 13], .int .i64 x] W fun e w' => e = .returned (.tuple #[]) ∧ IsH w' q (((t.nxt x x).prv x x).setRt 13 x) ∧ Fr q.blocks W w' from rpset hW 13 (by decide) x (by omega)))
  have HS14 := Lib.hid (fun W (hW : IsH W q (((t.nxt x x).prv x x).setRt 13 x)) => (show Calls Tryz.prog 132 #[.agg #[.pointer (some ⟨q.m, 0, none⟩), .int .i64 14], .int .i64 x] W fun e w' => e = .returned (.tuple #[]) ∧ IsH w' q ((((t.nxt x x).prv x x).setRt 13 x).setRt 14 x) ∧ Fr q.blocks W w' from rpset hW 14 (by decide) x (by omega)))
  have HC := Lib.hid (fun W (hW : IsH W q ((((t.nxt x x).prv x x).setRt 13 x).setRt 14 x)) => (show Calls Tryz.prog 134 #[.pointer (some ⟨q.m, 0, none⟩), .int .i64 1] W fun e w' => e = .returned (.tuple #[]) ∧ IsH w' q (((((t.nxt x x).prv x x).setRt 13 x).setRt 14 x).setRt 15 1) ∧ Fr q.blocks W w' from rcount hW 1 1 (by show ((t.rt 15 : Nat) : Int) + 1 = _; rw [g.cnt]; rfl) (by omega) (by omega)))
  have H0 := Lib.hid h
  clear g h lx
  go_enter Tryz.func42, Tryz.ntmps42
  go_wp2_with fail
  with_reducible refine HE.mono ?_
  rintro e w1 ⟨rfl, h1, f1⟩
  have H1 := Lib.hid h1
  have F1 := Lib.hid (f1)
  clear h1 f1
  go_wp2_with fail
  with_reducible refine (HN.out _ H1.out).mono ?_
  rintro e w2 ⟨rfl, h2, f2⟩
  have H2 := Lib.hid h2
  have F2 := Lib.hid (F1.out.trans f2)
  clear h2 f2
  go_wp2_with fail
  with_reducible refine (HH.out _).mono ?_
  rintro e w3 ⟨rfl, f3⟩
  have H3 := Lib.hid (H2.out.fr0 f3)
  have F3 := Lib.hid (F2.out.trans (f3.nil (S := q.blocks)))
  clear f3
  go_wp2_with fail
  with_reducible refine (HA.out _ H3.out).mono ?_
  rintro e w4 ⟨rfl, h4, f4⟩
  have H4 := Lib.hid h4
  have F4 := Lib.hid (F3.out.trans f4)
  clear h4 f4
  go_wp2_with fail
  with_reducible refine (HJ.out _ H4.out).mono ?_
  rintro e w5 ⟨rfl, h5, f5⟩
  have H5 := Lib.hid h5
  have F5 := Lib.hid (F4.out.trans f5)
  clear h5 f5
  go_wp2_with fail
  with_reducible refine (HB.out _).mono ?_
  rintro e w6 ⟨b6, rfl, hb, hsz, f6⟩
  have H6 := Lib.hid (H5.out.fr0 f6)
  have F6 := Lib.hid (F5.out.trans (f6.nil (S := q.blocks)))
  have hnb : b6 ∉ q.blocks := fun hk => Nat.lt_irrefl _ (Nat.lt_of_lt_of_le (H5.out.m.lt b6 hk) hsz)
  have hb2 := hb.alloc (.cells #[.pointer (some ⟨q.m, 0, none⟩), .int .i64 13] 152)
  have H7 := Lib.hid (H6.out.alloc (.cells #[.pointer (some ⟨q.m, 0, none⟩), .int .i64 13] 152))
  have F7 := Lib.hid (F6.out.alloc (.cells #[.pointer (some ⟨q.m, 0, none⟩), .int .i64 13] 152))
  clear f6
  have hc0 := hb.cell 0
  have hc1 := hb.cell 1
  have hc2 := hb.cell 2
  have hc3 := hb.cell 3
  simp at hc0 hc1 hc2 hc3
  go_wp2_with fail
  refine wp_loop_rounds 3 ?_
  rw [rounds_succ]
  go_wp2_with fail
  with_reducible refine (HS13.out _ H7.out).mono ?_
  rintro e w8 ⟨rfl, h8, f8⟩
  have hb4 := hb2.fr f8 hnb
  have H8 := Lib.hid (h8.alloc (.cells #[.pointer (some ⟨q.m, 0, none⟩), .int .i64 14] 152))
  have F8 := Lib.hid ((F7.out.trans f8).alloc (.cells #[.pointer (some ⟨q.m, 0, none⟩), .int .i64 14] 152))
  clear hc0 hc1 hc2 hc3 f8 hb2 h8 hb
  have hc0 := hb4.cell 0
  have hc1 := hb4.cell 1
  have hc2 := hb4.cell 2
  have hc3 := hb4.cell 3
  simp at hc0 hc1 hc2 hc3
  go_wp2_with fail
  rw [rounds_succ]
  go_wp2_with fail
  with_reducible refine (HS14.out _ H8.out).mono ?_
  rintro e w9 ⟨rfl, h9, f9⟩
  have H9 := Lib.hid h9
  have F9 := Lib.hid (F8.out.trans f9)
  clear hc0 hc1 hc2 hc3 f9 h9 hb4
  go_wp2_with fail
  rw [rounds_succ]
  go_wp2_with fail
  with_reducible refine (HC.out _ H9.out).mono ?_
  rintro e w10 ⟨rfl, h10, f10⟩
  have H10 := Lib.hid h10
  have F10 := Lib.hid (F9.out.trans f10)
  clear h10 f10
  go_wp2_with fail
  go_ret
  exact ⟨rfl, H10.out, F10.out⟩
end
end Go.Proofs.YtkapkbiccppldaaGreatDoor

/- Package ring: Remove. -/
namespace Go.Proofs.YtkapkbiccppldaaGreatDoor
set_option linter.unusedVariables false
set_option linter.unusedSimpArgs false
open Go.RowKit

section
variable {w : World} {q : MH} {t : TM} {L : Nat → Prop} {E : Nat → HB} {R : List Nat} {b : Nat}
theorem grem_1 (h : IsH w q t) (g : Ents t L E) {x n p : Nat} (hx : L x) (en : (E x).next = n) (ep : (E x).prev = p) (hnL : L n) (hpL : L p) (h0 : n ≠ 0) (hn : n = x) (k : Nat) (hk : t.rt 15 = k + 1) (hk4 : k < 4294967296) : Calls Tryz.prog 47 #[.pointer (some ⟨q.m, 0, none⟩), .int .i64 x] w fun e w' => e = .returned (.int .i64 0) ∧ IsH w' q (t.rem x n p 0 k) ∧ Fr q.blocks w w' := by
  have lx := (g.e x hx).lt g.ok
  have ln := (g.e n hnL).lt g.ok
  have HE := rentry h (g.e x hx)
  have HN := Lib.hid (fun W (hW : IsH W q t) => gnext hW g hx)
  have gr := g.rnm x 0 (by omega)
  have HR := Lib.hid (fun W (hW : IsH W q t) => (show Calls Tryz.prog 138 #[.pointer (some ⟨q.m, 0, none⟩), .int .i64 x, .int .i64 0] W fun e w' => e = .returned (.tuple #[]) ∧ IsH w' q (t.rnm x 0) ∧ Fr q.blocks W w' from rren hW x 0 (by omega) (by omega)))
  have HP := Lib.hid (fun W hW => gprev (w := W) (q := q) hW gr hx)
  rw [en] at HN
  rw [ep] at HP
  have HJ := Lib.hid (fun W hW => gjoin (w := W) (q := q) hW gr hpL hnL)
  have HL := Lib.hid (fun W hW => galone (w := W) (q := q) hW (gr.join hpL hnL) hx)
  have HC := Lib.hid (fun W (hW : IsH W q (((((t.rnm x 0).nxt p n).prv n p).nxt x 0).prv x 0)) => (show Calls Tryz.prog 134 #[.pointer (some ⟨q.m, 0, none⟩), .int .i64 (-1)] W fun e w' => e = .returned (.tuple #[]) ∧ IsH w' q (t.rem x n p 0 k) ∧ Fr q.blocks W w' from rcount hW (-1) k (by show (((t.rnm x 0).rt 15 : Nat) : Int) + -1 = _; rw [(rnm_rt t x 0).2.2, hk]; omega) (by omega) hk4))
  have z0 : ¬ ((n : Int) = 0) := by omega
  
  have H0 := Lib.hid h
  clear g h lx ln gr hk hk4 en ep hnL hpL h0
  subst hn
  go_enter Tryz.func47, Tryz.ntmps47
  go_wp2_with fail
  with_reducible refine HE.mono ?_
  rintro e w1 ⟨rfl, h1, f1⟩
  have H1 := Lib.hid h1
  have F1 := Lib.hid (f1)
  clear h1 f1
  go_wp2_with fail
  with_reducible refine (HN.out _ H1.out).mono ?_
  rintro e w2 ⟨rfl, h2, f2⟩
  have H2 := Lib.hid h2
  have F2 := Lib.hid (F1.out.trans f2)
  clear h2 f2
  go_wp2_with fail
  with_reducible refine (HR.out _ H2.out).mono ?_
  rintro e w3 ⟨rfl, h3, f3⟩
  have H3 := Lib.hid h3
  have F3 := Lib.hid (F2.out.trans f3)
  clear h3 f3
  go_wp2_with fail
  with_reducible refine (HP.out _ H3.out).mono ?_
  rintro e w4 ⟨rfl, h4, f4⟩
  have H4 := Lib.hid h4
  have F4 := Lib.hid (F3.out.trans f4)
  clear h4 f4
  go_wp2_with fail
  with_reducible refine (HJ.out _ H4.out).mono ?_
  rintro e w5 ⟨rfl, h5, f5⟩
  have H5 := Lib.hid h5
  have F5 := Lib.hid (F4.out.trans f5)
  clear h5 f5
  go_wp2_with fail
  with_reducible refine (HL.out _ H5.out).mono ?_
  rintro e w6 ⟨rfl, h6, f6⟩
  have H6 := Lib.hid h6
  have F6 := Lib.hid (F5.out.trans f6)
  clear h6 f6
  go_wp2_with fail
  with_reducible refine (HC.out _ H6.out).mono ?_
  rintro e w7 ⟨rfl, h7, f7⟩
  have H7 := Lib.hid h7
  have F7 := Lib.hid (F6.out.trans f7)
  clear h7 f7
  go_wp2_with fail
  go_ret
  exact ⟨rfl, H7.out, F7.out⟩
theorem grem_2 (h : IsH w q t) (g : Ents t L E) {x n p : Nat} (hx : L x) (en : (E x).next = n) (ep : (E x).prev = p) (hnL : L n) (hpL : L p) (h0 : n ≠ 0) (hn : n ≠ x) (k : Nat) (hk : t.rt 15 = k + 1) (hk4 : k < 4294967296) : Calls Tryz.prog 47 #[.pointer (some ⟨q.m, 0, none⟩), .int .i64 x] w fun e w' => e = .returned (.int .i64 0) ∧ IsH w' q (t.rem x n p n k) ∧ Fr q.blocks w w' := by
  have lx := (g.e x hx).lt g.ok
  have ln := (g.e n hnL).lt g.ok
  have HE := rentry h (g.e x hx)
  have HN := Lib.hid (fun W (hW : IsH W q t) => gnext hW g hx)
  have gr := g.rnm x n (by omega)
  have HR := Lib.hid (fun W (hW : IsH W q t) => (show Calls Tryz.prog 138 #[.pointer (some ⟨q.m, 0, none⟩), .int .i64 x, .int .i64 n] W fun e w' => e = .returned (.tuple #[]) ∧ IsH w' q (t.rnm x n) ∧ Fr q.blocks W w' from rren hW x n (by omega) (by omega)))
  have HP := Lib.hid (fun W hW => gprev (w := W) (q := q) hW gr hx)
  rw [en] at HN
  rw [ep] at HP
  have HJ := Lib.hid (fun W hW => gjoin (w := W) (q := q) hW gr hpL hnL)
  have HL := Lib.hid (fun W hW => galone (w := W) (q := q) hW (gr.join hpL hnL) hx)
  have HC := Lib.hid (fun W (hW : IsH W q (((((t.rnm x n).nxt p n).prv n p).nxt x 0).prv x 0)) => (show Calls Tryz.prog 134 #[.pointer (some ⟨q.m, 0, none⟩), .int .i64 (-1)] W fun e w' => e = .returned (.tuple #[]) ∧ IsH w' q (t.rem x n p n k) ∧ Fr q.blocks W w' from rcount hW (-1) k (by show (((t.rnm x n).rt 15 : Nat) : Int) + -1 = _; rw [(rnm_rt t x n).2.2, hk]; omega) (by omega) hk4))
  have z0 : ¬ ((n : Int) = 0) := by omega
  have z1 : ¬ ((n : Int) = x) := by omega
  have H0 := Lib.hid h
  clear g h lx ln gr hk hk4 en ep hnL hpL h0
  clear hn
  go_enter Tryz.func47, Tryz.ntmps47
  go_wp2_with fail
  with_reducible refine HE.mono ?_
  rintro e w1 ⟨rfl, h1, f1⟩
  have H1 := Lib.hid h1
  have F1 := Lib.hid (f1)
  clear h1 f1
  go_wp2_with fail
  with_reducible refine (HN.out _ H1.out).mono ?_
  rintro e w2 ⟨rfl, h2, f2⟩
  have H2 := Lib.hid h2
  have F2 := Lib.hid (F1.out.trans f2)
  clear h2 f2
  go_wp2_with fail
  with_reducible refine (HR.out _ H2.out).mono ?_
  rintro e w3 ⟨rfl, h3, f3⟩
  have H3 := Lib.hid h3
  have F3 := Lib.hid (F2.out.trans f3)
  clear h3 f3
  go_wp2_with fail
  with_reducible refine (HP.out _ H3.out).mono ?_
  rintro e w4 ⟨rfl, h4, f4⟩
  have H4 := Lib.hid h4
  have F4 := Lib.hid (F3.out.trans f4)
  clear h4 f4
  go_wp2_with fail
  with_reducible refine (HJ.out _ H4.out).mono ?_
  rintro e w5 ⟨rfl, h5, f5⟩
  have H5 := Lib.hid h5
  have F5 := Lib.hid (F4.out.trans f5)
  clear h5 f5
  go_wp2_with fail
  with_reducible refine (HL.out _ H5.out).mono ?_
  rintro e w6 ⟨rfl, h6, f6⟩
  have H6 := Lib.hid h6
  have F6 := Lib.hid (F5.out.trans f6)
  clear h6 f6
  go_wp2_with fail
  with_reducible refine (HC.out _ H6.out).mono ?_
  rintro e w7 ⟨rfl, h7, f7⟩
  have H7 := Lib.hid h7
  have F7 := Lib.hid (F6.out.trans f7)
  clear h7 f7
  go_wp2_with fail
  go_ret
  exact ⟨rfl, H7.out, F7.out⟩
end
end Go.Proofs.YtkapkbiccppldaaGreatDoor

/- The ring's changes leave the slabs as they are. -/
namespace Go.Proofs.YtkapkbiccppldaaGreatDoor
set_option linter.unusedVariables false
set_option linter.unusedSimpArgs false
open Go.RowKit

section
variable {t u : TM} {S : SS} {x n : Nat}
theorem LS.same' {inn : Nat → Int} (h : LS t inn) (ha : u.a = t.a) (hr : ∀ c, c ≤ 9 → u.rt (3 + c) = t.rt (3 + c)) (hh : ∀ y r, r = 3 ∨ r = 4 → u.hd y r = t.hd y r) : LS u inn := by
  refine ⟨fun c hc => ?_, fun x hx hn => ?_, fun x hx => h.le x (by rw [← ha]; exact hx)⟩
  · rw [ha, hr c hc]
    exact Lk.same (t := t) (u := u) ha (h.ln c hc) (fun y _ => ⟨hh y 3 (.inl rfl), hh y 4 (.inr rfl)⟩)
  · rw [hh x 3 (.inl rfl), hh x 4 (.inr rfl)]; exact h.out x (by rw [← ha]; exact hx) hn
theorem SlI.inner (hs : SlI t S) (hok : t.Ok) (h : Lv t.a S x n) (ea : u.a = t.a) (es : u.s = t.s) (er : ∀ c, c ≤ 9 → u.rt (3 + c) = t.rt (3 + c)) (eh : u.hd = t.hd) (ek : u.kd = t.kd) (o0 : Out t u x n) : SlI u S := by
  obtain ⟨b1, b2, b3, b4, b5, b6, b7⟩ := lv_at hs hok h
  obtain ⟨i, hi, hx, rfl⟩ := h
  have e1 := hs.each i hi
  have h0 := e1.none (.inr hx)
  obtain ⟨a1, a2, a3, a4, a5, a6, a7⟩ := e1.at_ hok hi (.inr hx)
  obtain ⟨c1, c2, c3, c4, c5, c6, c7⟩ := csz_tab (S.cls i) (by omega) e1.c9
  obtain ⟨z1, z2, z3, z4, z5⟩ := sla_ok hok i hi
  have hkd : ∀ g, kindAt u g = kindAt t g := fun g => by unfold kindAt; rw [ea, es, ek]
  have hK : ∀ {y m k : Nat}, KdOn t y m k → KdOn u y m k := fun hk g g1 g2 => by rw [hkd]; exact hk g g1 g2
  have hsla : ∀ j, sla u j = sla t j := sla_as ea es
  refine ⟨hs.ls.same' ea er (fun _ _ _ => by rw [eh]), fun j hj => ?_⟩
  have hj' : j < t.a := by rw [← ea]; exact hj
  by_cases e : j = i
  · subst e
    refine ⟨by rw [eh]; exact e1.h0, by rw [eh]; exact e1.h1, by rw [eh]; exact e1.h2, e1.c9, fun e => absurd e h0, fun h0 => ?_, e1.so, fun y hy => hK (e1.live y hy), ?_, fun h0 => by rw [hsla]; exact hK (e1.pk h0), fun _ => ?_⟩
    · have : adr u j (S.cls j) = adr t j (S.cls j) := by funext k; exact adr_as ea es j _ k
      rw [this]; exact e1.perm h0
    · refine e1.free.out o0 (fun y hy => ?_)
      obtain ⟨q1, q2, q3, q4, q5, q6, q7⟩ := e1.at_ hok hi (x := y) (.inl hy)
      have hne : y ≠ x := fun e => (List.nodup_append.1 (e1.nodup h0)).2.2 y hy x hx e
      exact ⟨q4, by omega, (e1.apart (.inl hy) (.inr hx) hne)⟩
    · rw [hsla]
      exact (e1.pb h0).out o0 (by omega) (by omega)
  · refine (hs.each j hj').other hok hj' ea es (fun _ _ => by rw [eh]) o0 ?_
    have := sla_apart t e
    omega
theorem SlI.root (hs : SlI t S) (hok : t.Ok) (f v : Nat) (hv : v < 256 ^ fldW f) (hf : f < 3 ∨ 12 < f) : SlI (t.setRt f v) S := by
  refine ⟨hs.ls.same' rfl (fun c hc => ?_) (fun _ _ _ => rfl), fun j hj => ?_⟩
  · rw [TM.setRt_rt, if_neg (by omega)]
  · exact (hs.each j hj).other hok hj rfl rfl (fun _ _ => rfl) (setRt_out hok f v hv (sla t j + 1024) 0) (.inl (Nat.le_refl _))
theorem SlI.rnxt (hs : SlI t S) (hok : t.Ok) (h : Lv t.a S x n) (v : Nat) : SlI (t.nxt x v) S := by
  obtain ⟨b1, b2, b3, b4, b5, b6, b7⟩ := lv_at hs hok h
  exact hs.inner hok h rfl rfl (fun _ _ => rfl) rfl rfl ((setB_out hok (x + 8) 4 v (by omega)).wide (by omega) (by omega))
theorem SlI.rprv (hs : SlI t S) (hok : t.Ok) (h : Lv t.a S x n) (v : Nat) : SlI (t.prv x v) S := by
  obtain ⟨b1, b2, b3, b4, b5, b6, b7⟩ := lv_at hs hok h
  exact hs.inner hok h rfl rfl (fun _ _ => rfl) rfl rfl ((setB_out hok (x + 12) 4 v (by omega)).wide (by omega) (by omega))
end
end Go.Proofs.YtkapkbiccppldaaGreatDoor

/- Package ring: Remove of one that is in no ring. -/
namespace Go.Proofs.YtkapkbiccppldaaGreatDoor
set_option linter.unusedVariables false
set_option linter.unusedSimpArgs false
open Go.RowKit

section
variable {w : World} {q : MH} {t : TM} {L : Nat → Prop} {E : Nat → HB} {R : List Nat} {b : Nat}
theorem grem_no (h : IsH w q t) (g : RgI t L E R b) {x : Nat} (hx : L x) (hm : x ∉ R) : Calls Tryz.prog 47 #[.pointer (some ⟨q.m, 0, none⟩), .int .i64 x] w fun e w' => e = .returned (.int .i64 7) ∧ IsH w' q t ∧ Fr q.blocks w w' := by
  have HE := rentry h (g.ents.e x hx)
  have HN := Lib.hid (fun W (hW : IsH W q t) => (show Calls Tryz.prog 127 #[.pointer (some ⟨q.m, 0, none⟩), .int .i64 x] W fun e w' => e = .returned (.int .i64 0) ∧ IsH w' q t ∧ Fr q.blocks W w' from by
    have := gnext hW g.ents hx
    rw [(g.nx0 hx).2 hm] at this
    exact this))
  clear g h
  go_enter Tryz.func47, Tryz.ntmps47
  go_wp2_with fail
  with_reducible refine HE.mono ?_
  rintro e w1 ⟨rfl, h1, f1⟩
  have H1 := Lib.hid h1
  have F1 := Lib.hid f1
  clear h1 f1 HE
  go_wp2_with fail
  with_reducible refine (HN.out _ H1.out).mono ?_
  rintro e w2 ⟨rfl, h2, f2⟩
  have H2 := Lib.hid h2
  have F2 := Lib.hid (F1.out.trans f2)
  clear h2 f2
  go_wp2_with fail
  go_ret
  exact ⟨rfl, H2.out, F2.out⟩
end
end Go.Proofs.YtkapkbiccppldaaGreatDoor

/- Package ring: a pointer goes on: Turn, Brush. -/
namespace Go.Proofs.YtkapkbiccppldaaGreatDoor
set_option linter.unusedVariables false
set_option linter.unusedSimpArgs false
open Go.RowKit

section
variable {w : World} {q : MH} {t : TM} {L : Nat → Prop} {E : Nat → HB} {R : List Nat} {b : Nat}
theorem ron_no (h : IsH w q t) (f : Nat) (hf : f < 16) (h0 : t.rt f = 0) : Calls Tryz.prog 135 #[ptV q.m f] w fun e w' => e = .returned (.int .i64 0) ∧ IsH w' q t ∧ Fr q.blocks w w' := by
  have HA := Lib.hid (fun W (hW : IsH W q t) => (show Calls Tryz.prog 129 #[.agg #[.pointer (some ⟨q.m, 0, none⟩), .int .i64 f]] W fun e w' => e = .returned (.int .i64 0) ∧ IsH w' q t ∧ Fr q.blocks W w' from by
    have := rpat hW f hf
    rw [h0] at this
    exact this))
  have H0 := Lib.hid (h.alloc (.cells #[.pointer (some ⟨q.m, 0, none⟩), .int .i64 f] 152))
  have F0 := Lib.hid (((Fr.refl [] w).alloc (.cells #[.pointer (some ⟨q.m, 0, none⟩), .int .i64 f] 152)).nil (S := q.blocks))
  clear h h0
  unfold ptV
  go_enter Tryz.func135, Tryz.ntmps135
  go_wp2_with fail
  with_reducible refine (HA.out _ H0.out).mono ?_
  rintro e w1 ⟨rfl, h1, f1⟩
  have H1 := Lib.hid h1
  have F1 := Lib.hid (F0.out.trans f1)
  clear h1 f1
  go_wp2_with fail
  go_ret
  exact ⟨rfl, H1.out, F1.out⟩
theorem ron_yes (h : IsH w q t) (g : Ents t L E) (f : Nat) (hf : f < 16) {x : Nat} (hx : L x) (he : t.rt f = x) : Calls Tryz.prog 135 #[ptV q.m f] w fun e w' => e = .returned (.int .i64 x) ∧ IsH w' q (t.setRt f (E x).next) ∧ Fr q.blocks w w' := by
  have lx := (g.e x hx).lt g.ok
  have ln := (g.e x hx).ok.next
  have HA := Lib.hid (fun W (hW : IsH W q t) => (show Calls Tryz.prog 129 #[.agg #[.pointer (some ⟨q.m, 0, none⟩), .int .i64 f]] W fun e w' => e = .returned (.int .i64 x) ∧ IsH w' q t ∧ Fr q.blocks W w' from by
    have := rpat hW f hf
    rw [he] at this
    exact this))
  have HN := Lib.hid (fun W (hW : IsH W q t) => gnext hW g hx)
  have HS := Lib.hid (fun W (hW : IsH W q t) => (show Calls Tryz.prog 132 #[.agg #[.pointer (some ⟨q.m, 0, none⟩), .int .i64 f], .int .i64 (E x).next] W fun e w' => e = .returned (.tuple #[]) ∧ IsH w' q (t.setRt f (E x).next) ∧ Fr q.blocks W w' from rpset hW f hf _ ln))
  have H0 := Lib.hid (h.alloc (.cells #[.pointer (some ⟨q.m, 0, none⟩), .int .i64 f] 152))
  have F0 := Lib.hid (((Fr.refl [] w).alloc (.cells #[.pointer (some ⟨q.m, 0, none⟩), .int .i64 f] 152)).nil (S := q.blocks))
  have B0 := Lib.hid (Blk.new w 152 #[.pointer (some ⟨q.m, 0, none⟩), .int .i64 f])
  have nb0 : w.heap.size ∉ q.blocks := fun hk => Nat.lt_irrefl _ (h.m.lt _ hk)
  have x0 : ¬ ((x : Int) = 0) := by omega
  clear h g lx ln he hx
  generalize (E x).next = n at *
  unfold ptV
  go_enter Tryz.func135, Tryz.ntmps135
  generalize hw0 : w.alloc (.cells #[.pointer (some ⟨q.m, 0, none⟩), .int .i64 f] 152) = w0 at *
  generalize hg0 : w.heap.size = g0 at *
  have d0 := B0.out.cell 0
  have d1 := B0.out.cell 1
  simp at d0 d1
  go_wp2_with fail
  with_reducible refine (HA.out _ H0.out).mono ?_
  rintro e w1 ⟨rfl, h1, f1⟩
  have H1 := Lib.hid h1
  have F1 := Lib.hid (F0.out.trans f1)
  have B1 := Lib.hid (B0.out.fr f1 nb0)
  clear h1 f1 d0 d1
  go_wp2_with fail
  have hD := Lib.hid (H1.out.fr0 ((Fr.refl [] w1).drew))
  have hY := (show w1.drew.cell? ⟨g0, 0, none⟩ = some (.pointer (some ⟨q.m, 0, none⟩)) ∧ w1.drew.cell? ⟨g0, 1, none⟩ = some (.int .i64 f) from ⟨B1.out.drew.cell 0, B1.out.drew.cell 1⟩)
  refine wp_region_held_drew (S := fun W => W.cell? ⟨g0, 0, none⟩ = some (.pointer (some ⟨q.m, 0, none⟩)) ∧ W.cell? ⟨g0, 1, none⟩ = some (.int .i64 f)) (by kernel_rfl) (hY) (fun hHeld => ?_)
  refine wpAnyH_take (i := 0) (oi := ?ooa0) (v := ?vva0) ?hia0 (by kernel_rfl) (by kernel_rfl) (by kernel_rfl) ?hqa0 (Or.inl ⟨?hwa0, ?hha0⟩) hHeld ?rra0
  case hia0 => (simp only [List.getElem?_toArray, List.getElem?_cons_zero, List.getElem?_cons_succ]; rfl)
  case hqa0 => exact fun _ _ _ h => h
  case hwa0 => rfl
  case hha0 => (intro w hSw; (try dsimp only at hSw); go_simp; try with_reducible rfl)
  try simp only [Act.put, List.setIfInBounds_toArray, List.set_cons_zero, List.set_cons_succ]
  refine wpAnyH_take (i := 1) (oi := ?ooa1) (v := ?vva1) ?hia1 (by kernel_rfl) (by kernel_rfl) (by kernel_rfl) ?hqa1 (Or.inl ⟨?hwa1, ?hha1⟩) hHeld ?rra1
  case hia1 => (simp only [List.getElem?_toArray, List.getElem?_cons_zero, List.getElem?_cons_succ]; rfl)
  case hqa1 => exact fun _ _ _ h => h
  case hwa1 => rfl
  case hha1 => (intro w hSw; (try dsimp only at hSw); go_simp; try with_reducible rfl)
  try simp only [Act.put, List.setIfInBounds_toArray, List.set_cons_zero, List.set_cons_succ]
  refine wpAnyH_take (i := 2) (oi := ?ooa2) (v := ?vva2) ?hia2 (by kernel_rfl) (by kernel_rfl) (by kernel_rfl) ?hqa2 (Or.inl ⟨?hwa2, ?hha2⟩) hHeld ?rra2
  case hia2 => (simp only [List.getElem?_toArray, List.getElem?_cons_zero, List.getElem?_cons_succ]; rfl)
  case hqa2 => exact fun _ _ _ h => h
  case hwa2 => rfl
  case hha2 => (intro w hSw; (try dsimp only at hSw); go_simp; try with_reducible rfl)
  try simp only [Act.put, List.setIfInBounds_toArray, List.set_cons_zero, List.set_cons_succ]
  refine wpAnyH_take (i := 3) (oi := ?ooa3) (v := ?vva3) ?hia3 (by kernel_rfl) (by kernel_rfl) (by kernel_rfl) ?hqa3 (Or.inl ⟨?hwa3, ?hha3⟩) hHeld ?rra3
  case hia3 => (simp only [List.getElem?_toArray, List.getElem?_cons_zero, List.getElem?_cons_succ]; rfl)
  case hqa3 => exact fun _ _ _ h => h
  case hwa3 => rfl
  case hha3 => (intro w hSw; (try dsimp only at hSw); go_simp; try with_reducible rfl)
  try simp only [Act.put, List.setIfInBounds_toArray, List.set_cons_zero, List.set_cons_succ]
  refine wpAnyH_ready (rs := [4]) (by kernel_rfl) (by simp) ?_
  refine AllReadyH.cons (o := ?ooa4) ?hia4 (fun K hK => ?hca4) AllReadyH.nil
  case hia4 => (simp only [List.getElem?_toArray, List.getElem?_cons_zero, List.getElem?_cons_succ]; rfl)
  go_simp
  with_reducible refine (HN.out _ hD.out).mono ?_
  rintro e w2 ⟨rfl, h2, f2⟩
  have H2 := Lib.hid h2
  have F2 := Lib.hid (F1.out.drew.trans f2)
  have B2 := Lib.hid (B1.out.drew.fr f2 nb0)
  have hY := And.intro (B2.out.cell 0) (B2.out.cell 1)
  clear h2 f2
  go_wp2_with fail
  refine hK.out _ _ (hY) (fun hHeld => ?_)
  clear hK K
  try simp only [Act.put, List.setIfInBounds_toArray, List.set_cons_zero, List.set_cons_succ]
  refine wpAnyH_ready (rs := [5]) (by kernel_rfl) (by simp) ?_
  refine AllReadyH.cons (o := ?ooa5) ?hia5 (fun K hK => ?hca5) AllReadyH.nil
  case hia5 => (simp only [List.getElem?_toArray, List.getElem?_cons_zero, List.getElem?_cons_succ]; rfl)
  go_simp
  with_reducible refine (HS.out _ H2.out).mono ?_
  rintro e w3 ⟨rfl, h3, f3⟩
  have H3 := Lib.hid h3
  have F3 := Lib.hid (F2.out.trans f3)
  have B3 := Lib.hid (B2.out.fr f3 nb0)
  have hY := And.intro (B3.out.cell 0) (B3.out.cell 1)
  clear h3 f3
  go_wp2_with fail
  refine hK.out _ _ (hY) (fun hHeld => ?_)
  clear hK K
  try simp only [Act.put, List.setIfInBounds_toArray, List.set_cons_zero, List.set_cons_succ]
  refine wpAnyH_done (by kernel_rfl) ?_ _
  go_wp2_with fail
  go_ret
  exact ⟨rfl, H3.out, F3.out⟩
end
end Go.Proofs.YtkapkbiccppldaaGreatDoor

/- Package ring: Hand, Broom, Turn, Brush. -/
namespace Go.Proofs.YtkapkbiccppldaaGreatDoor
set_option linter.unusedVariables false
set_option linter.unusedSimpArgs false
open Go.RowKit

section
variable {w : World} {q : MH} {t : TM} {L : Nat → Prop} {E : Nat → HB} {R : List Nat} {b : Nat}
theorem gHand (h : IsH w q t) : Calls Tryz.prog 65 #[.pointer (some ⟨q.m, 0, none⟩)] w fun e w' => e = .returned (.int .i64 (t.rt 13)) ∧ IsH w' q t ∧ Fr q.blocks w w' := by
  have HH := Lib.hid (fun W => rhand W q.m)
  unfold ptV at HH
  have HA := Lib.hid (fun W (hW : IsH W q t) => (show Calls Tryz.prog 129 #[.agg #[.pointer (some ⟨q.m, 0, none⟩), .int .i64 13]] W fun e w' => e = .returned (.int .i64 (t.rt 13)) ∧ IsH w' q t ∧ Fr q.blocks W w' from rpat hW 13 (by decide)))
  have H0 := Lib.hid h
  clear h
  generalize t.rt 13 = v at *
  go_enter Tryz.func65, Tryz.ntmps65
  go_wp2_with fail
  with_reducible refine (HH.out _).mono ?_
  rintro e w1 ⟨rfl, f1⟩
  have H1 := Lib.hid (H0.out.fr0 f1)
  have F1 := Lib.hid (f1.nil (S := q.blocks))
  clear f1
  go_wp2_with fail
  with_reducible refine (HA.out _ H1.out).mono ?_
  rintro e w2 ⟨rfl, h2, f2⟩
  have H2 := Lib.hid h2
  have F2 := Lib.hid (F1.out.trans f2)
  clear h2 f2
  go_wp2_with fail
  go_ret
  exact ⟨rfl, H2.out, F2.out⟩
theorem gBroom (h : IsH w q t) : Calls Tryz.prog 67 #[.pointer (some ⟨q.m, 0, none⟩)] w fun e w' => e = .returned (.int .i64 (t.rt 14)) ∧ IsH w' q t ∧ Fr q.blocks w w' := by
  have HH := Lib.hid (fun W => rbroom W q.m)
  unfold ptV at HH
  have HA := Lib.hid (fun W (hW : IsH W q t) => (show Calls Tryz.prog 129 #[.agg #[.pointer (some ⟨q.m, 0, none⟩), .int .i64 14]] W fun e w' => e = .returned (.int .i64 (t.rt 14)) ∧ IsH w' q t ∧ Fr q.blocks W w' from rpat hW 14 (by decide)))
  have H0 := Lib.hid h
  clear h
  generalize t.rt 14 = v at *
  go_enter Tryz.func67, Tryz.ntmps67
  go_wp2_with fail
  with_reducible refine (HH.out _).mono ?_
  rintro e w1 ⟨rfl, f1⟩
  have H1 := Lib.hid (H0.out.fr0 f1)
  have F1 := Lib.hid (f1.nil (S := q.blocks))
  clear f1
  go_wp2_with fail
  with_reducible refine (HA.out _ H1.out).mono ?_
  rintro e w2 ⟨rfl, h2, f2⟩
  have H2 := Lib.hid h2
  have F2 := Lib.hid (F1.out.trans f2)
  clear h2 f2
  go_wp2_with fail
  go_ret
  exact ⟨rfl, H2.out, F2.out⟩
theorem gTurn_0 (h : IsH w q t) (h0 : t.rt 13 = 0) : Calls Tryz.prog 43 #[.pointer (some ⟨q.m, 0, none⟩)] w fun e w' => e = .returned (.int .i64 0) ∧ IsH w' q t ∧ Fr q.blocks w w' := by
  have HH := Lib.hid (fun W => rhand W q.m)
  have HO := Lib.hid (fun W (hW : IsH W q t) => (show Calls Tryz.prog 135 #[.agg #[.pointer (some ⟨q.m, 0, none⟩), .int .i64 13]] W fun e w' => e = .returned (.int .i64 0) ∧ IsH w' q t ∧ Fr q.blocks W w' from ron_no hW 13 (by decide) h0))
  unfold ptV at HH
  have H0 := Lib.hid h
  clear h h0
  go_enter Tryz.func43, Tryz.ntmps43
  go_wp2_with fail
  with_reducible refine (HH.out _).mono ?_
  rintro e w1 ⟨rfl, f1⟩
  have H1 := Lib.hid (H0.out.fr0 f1)
  have F1 := Lib.hid (f1.nil (S := q.blocks))
  clear f1
  go_wp2_with fail
  with_reducible refine (HO.out _ H1.out).mono ?_
  rintro e w2 ⟨rfl, h2, f2⟩
  have H2 := Lib.hid h2
  have F2 := Lib.hid (F1.out.trans f2)
  clear h2 f2
  go_wp2_with fail
  go_ret
  exact ⟨rfl, H2.out, F2.out⟩
theorem gTurn_1 (h : IsH w q t) (g : Ents t L E) {x : Nat} (hx : L x) (he : t.rt 13 = x) : Calls Tryz.prog 43 #[.pointer (some ⟨q.m, 0, none⟩)] w fun e w' => e = .returned (.int .i64 x) ∧ IsH w' q (t.setRt 13 (E x).next) ∧ Fr q.blocks w w' := by
  have HH := Lib.hid (fun W => rhand W q.m)
  have HO := Lib.hid (fun W (hW : IsH W q t) => (show Calls Tryz.prog 135 #[.agg #[.pointer (some ⟨q.m, 0, none⟩), .int .i64 13]] W fun e w' => e = .returned (.int .i64 x) ∧ IsH w' q (t.setRt 13 (E x).next) ∧ Fr q.blocks W w' from ron_yes hW g 13 (by decide) hx he))
  unfold ptV at HH
  have H0 := Lib.hid h
  clear h g hx he
  generalize (E x).next = n at *
  go_enter Tryz.func43, Tryz.ntmps43
  go_wp2_with fail
  with_reducible refine (HH.out _).mono ?_
  rintro e w1 ⟨rfl, f1⟩
  have H1 := Lib.hid (H0.out.fr0 f1)
  have F1 := Lib.hid (f1.nil (S := q.blocks))
  clear f1
  go_wp2_with fail
  with_reducible refine (HO.out _ H1.out).mono ?_
  rintro e w2 ⟨rfl, h2, f2⟩
  have H2 := Lib.hid h2
  have F2 := Lib.hid (F1.out.trans f2)
  clear h2 f2
  go_wp2_with fail
  go_ret
  exact ⟨rfl, H2.out, F2.out⟩
theorem gBrush_0 (h : IsH w q t) (h0 : t.rt 14 = 0) : Calls Tryz.prog 45 #[.pointer (some ⟨q.m, 0, none⟩)] w fun e w' => e = .returned (.int .i64 0) ∧ IsH w' q t ∧ Fr q.blocks w w' := by
  have HH := Lib.hid (fun W => rbroom W q.m)
  have HO := Lib.hid (fun W (hW : IsH W q t) => (show Calls Tryz.prog 135 #[.agg #[.pointer (some ⟨q.m, 0, none⟩), .int .i64 14]] W fun e w' => e = .returned (.int .i64 0) ∧ IsH w' q t ∧ Fr q.blocks W w' from ron_no hW 14 (by decide) h0))
  unfold ptV at HH
  have H0 := Lib.hid h
  clear h h0
  go_enter Tryz.func45, Tryz.ntmps45
  go_wp2_with fail
  with_reducible refine (HH.out _).mono ?_
  rintro e w1 ⟨rfl, f1⟩
  have H1 := Lib.hid (H0.out.fr0 f1)
  have F1 := Lib.hid (f1.nil (S := q.blocks))
  clear f1
  go_wp2_with fail
  with_reducible refine (HO.out _ H1.out).mono ?_
  rintro e w2 ⟨rfl, h2, f2⟩
  have H2 := Lib.hid h2
  have F2 := Lib.hid (F1.out.trans f2)
  clear h2 f2
  go_wp2_with fail
  go_ret
  exact ⟨rfl, H2.out, F2.out⟩
theorem gBrush_1 (h : IsH w q t) (g : Ents t L E) {x : Nat} (hx : L x) (he : t.rt 14 = x) : Calls Tryz.prog 45 #[.pointer (some ⟨q.m, 0, none⟩)] w fun e w' => e = .returned (.int .i64 x) ∧ IsH w' q (t.setRt 14 (E x).next) ∧ Fr q.blocks w w' := by
  have HH := Lib.hid (fun W => rbroom W q.m)
  have HO := Lib.hid (fun W (hW : IsH W q t) => (show Calls Tryz.prog 135 #[.agg #[.pointer (some ⟨q.m, 0, none⟩), .int .i64 14]] W fun e w' => e = .returned (.int .i64 x) ∧ IsH w' q (t.setRt 14 (E x).next) ∧ Fr q.blocks W w' from ron_yes hW g 14 (by decide) hx he))
  unfold ptV at HH
  have H0 := Lib.hid h
  clear h g hx he
  generalize (E x).next = n at *
  go_enter Tryz.func45, Tryz.ntmps45
  go_wp2_with fail
  with_reducible refine (HH.out _).mono ?_
  rintro e w1 ⟨rfl, f1⟩
  have H1 := Lib.hid (H0.out.fr0 f1)
  have F1 := Lib.hid (f1.nil (S := q.blocks))
  clear f1
  go_wp2_with fail
  with_reducible refine (HO.out _ H1.out).mono ?_
  rintro e w2 ⟨rfl, h2, f2⟩
  have H2 := Lib.hid h2
  have F2 := Lib.hid (F1.out.trans f2)
  clear h2 f2
  go_wp2_with fail
  go_ret
  exact ⟨rfl, H2.out, F2.out⟩
end
end Go.Proofs.YtkapkbiccppldaaGreatDoor

/- The ring's state: the hand goes on, the broom goes on. -/
namespace Go.Proofs.YtkapkbiccppldaaGreatDoor
set_option linter.unusedVariables false
set_option linter.unusedSimpArgs false
open Go.RowKit

section
variable {t u : TM} {L : Nat → Prop} {E : Nat → HB} {R : List Nat} {b : Nat}
theorem RgI.turn {a : Nat} {T : List Nat} (h : RgI t L E (a :: T) b) : RgI (t.setRt 13 (E a).next) L E (T ++ [a]) b := by
  have ha : L a := h.sub a (List.mem_cons_self ..)
  have hx : (E a).next < 4294967296 := (h.ents.e a ha).ok.next
  have hn : (E a).next = T.headD a := Seg.nx (l := T) h.cyc
  have hm : ∀ y, y ∈ T ++ [a] ↔ y ∈ a :: T := fun y => by rw [List.mem_append, List.mem_singleton, List.mem_cons, or_comm]
  refine ⟨h.ents.setRt 13 _ hx, fun y hy => h.sub y ((hm y).1 hy), (List.perm_append_comm (l₁ := [a]) (l₂ := T)).nodup_iff.1 h.nd, ?_, h.broom, ?_, fun _ => (hm b).2 (h.bin (List.cons_ne_nil _ _)), fun e => ?_, (cyc_rot1 E a T).1 h.cyc, fun y hy m => h.out y hy (fun m' => m ((hm y).2 m'))⟩
  · show (E a).next = _
    rw [hn]
    cases T with
    | nil => rfl
    | cons y T => rfl
  · show t.rt 15 = _
    rw [h.cnt, List.length_append]; rfl
  · exact absurd e (fun e => nomatch (List.append_eq_nil_iff.1 e).2)
theorem RgI.brush (h : RgI t L E R b) (h0 : R ≠ []) : RgI (t.setRt 14 (E b).next) L E R (E b).next := by
  have hb := h.bin h0
  have hx : (E b).next < 4294967296 := (h.ents.e b (h.sub b hb)).ok.next
  refine ⟨h.ents.setRt 14 _ hx, h.sub, h.nd, h.hand, rfl, h.cnt, fun _ => ?_, fun e => absurd e h0, h.cyc, h.out⟩
  obtain ⟨A, B, rfl⟩ := List.append_of_mem hb
  rw [(cyc_nx h.cyc).1]
  cases hC : B ++ A with
  | nil => exact hb
  | cons n C =>
    have : n ∈ B ++ A := hC ▸ List.mem_cons_self ..
    exact List.mem_append.2 ((List.mem_append.1 this).elim (fun m => .inr (List.mem_cons_of_mem _ m)) .inl)
end
end Go.Proofs.YtkapkbiccppldaaGreatDoor
