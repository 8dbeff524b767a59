/- Several texts in one. -/
import Derived.Test.YtellbfamofilaaaGreatDoorME
import Derived.Test.YtellbfamofilaaaGreatDoorKG
import Derived.Test.YtellbfamofilaaaGreatDoorGI
/- node: a world of nodes, from outside: places, parents, references, labels. -/
namespace Go.Proofs.YtellbfamofilaaaGreatDoor
set_option linter.unusedVariables false
set_option linter.unusedSimpArgs false
open Go.RowKit

/-- The nodes l of a memory: the parent, the references and the label of each; fr slabs are free. -/
def NP (w0 : World) (q : MH) (u0 : TM) (l : List Nat) (par refs : Nat → Nat) (B : Nat → List Nat) (fr : Nat) (W : World) : Prop :=
  ∃ S L u E B0, NI w0 q S L l u E B0 W ∧ AllN S l ∧ RtQ u0 u ∧ (∀ y ∈ l, (E y).name = par y ∧ (E y).refs = refs y ∧ B0 y = B y) ∧ (lst 7 S.inn 0).length = fr
section
variable {w0 W W' : World} {q : MH} {u0 : TM} {l : List Nat} {par refs : Nat → Nat} {B : Nat → List Nat} {fr x p : Nat} {b : List Nat}
theorem NP.fr0 (h : NP w0 q u0 l par refs B fr W) (hf : Fr [] W W') : NP w0 q u0 l par refs B fr W' := by
  obtain ⟨S, L, u, E, B0, g, r⟩ := h
  exact ⟨S, L, u, E, B0, g.fr0 hf, r⟩
theorem NP.nd (h : NP w0 q u0 l par refs B fr W) : l.Nodup := by
  obtain ⟨S, L, u, E, B0, g, r⟩ := h
  exact g.nd
theorem NP.few (h : NP w0 q u0 l par refs B fr W) : l.length ≤ 224 := by
  obtain ⟨S, L, u, E, B0, g, r⟩ := h
  exact g.few
theorem NP.rng (h : NP w0 q u0 l par refs B fr W) (hx : x ∈ l) : x ≠ 0 ∧ x < 1048576 := by
  obtain ⟨S, L, u, E, B0, g, r⟩ := h
  exact g.lt hx
theorem NP.up (h : NP w0 q u0 l par refs B fr W) (hx : x ∈ l) : par x = 0 ∨ par x ∈ l := by
  obtain ⟨S, L, u, E, B0, g, _, _, r, _⟩ := h
  rw [← (r x hx).1]
  exact g.up x hx
theorem NP.lab (h : NP w0 q u0 l par refs B fr W) (hx : x ∈ l) : labOk (B x) = true ∧ (B x).map lowB = B x := by
  obtain ⟨S, L, u, E, B0, g, _, _, r, _⟩ := h
  rw [← (r x hx).2.2]
  exact g.lb x hx
theorem NP.empty (h : NP w0 q u0 [] par refs B fr W) : fr = 7 := by
  obtain ⟨S, L, u, E, B0, g, ha, _, _, r⟩ := h
  rw [← r]
  exact free_all (full_none g.wb.fl (fun x n hx => by have := ha x n hx; simp at this))
def fndP (l : List Nat) (par : Nat → Nat) (B : Nat → List Nat) (up : Nat) (s : List Nat) : Option Nat := l.find? fun z => par z == up && B z == s
theorem fndN_P {l : List Nat} {E : Nat → HB} {B0 B : Nat → List Nat} {par refs : Nat → Nat} (h : ∀ y ∈ l, (E y).name = par y ∧ (E y).refs = refs y ∧ B0 y = B y) (p : Nat) (s : List Nat) : fndN l E B0 p s = fndP l par B p s := by
  unfold fndN fndP
  induction l with
  | nil => rfl
  | cons a l ih =>
    have ha := h a (by simp)
    rw [List.find?_cons, List.find?_cons, ha.1, ha.2.2, ih (fun y hy => h y (List.mem_cons_of_mem _ hy))]
theorem p_find (h : NP w0 q u0 l par refs B fr W) (hp : p = 0 ∨ p ∈ l) (hb : ∀ k ∈ b, k < 256) :
    Calls Tryz.prog 21 #[.pointer (some ⟨q.m, 0, none⟩), .int .i64 p, .string (strOf b)] W fun e w' => e = .returned (if labOk b then ansN (fndP l par B p (b.map lowB)) else ansN none) ∧ NP w0 q u0 l par refs B fr w' ∧ Fr q.blocks W w' := by
  obtain ⟨S, L, u, E, B0, g, ha, hr, r, hf⟩ := h
  have := nfind g p hp b hb
  rw [fndN_P r] at this
  exact this.mono fun e w' ⟨h1, h2, h3⟩ => ⟨h1, ⟨S, L, u, E, B0, g.same h2 h3, ha, hr, r, hf⟩, h3⟩
theorem p_refs (h : NP w0 q u0 l par refs B fr W) (hx : x ∈ l) : Calls Tryz.prog 12 #[.pointer (some ⟨q.m, 0, none⟩), .int .i64 x] W fun e w' => e = .returned (.int .i64 (refs x)) ∧ NP w0 q u0 l par refs B fr w' ∧ Fr q.blocks W w' := by
  obtain ⟨S, L, u, E, B0, g, ha, hr, r, hf⟩ := h
  have hm := (g.mem x).1 hx
  have := nrefs g.wb.h (g.wb.ix.e x hm.1) hm.2
  rw [(r x hx).2.1] at this
  exact this.mono fun e w' ⟨h1, h2, h3⟩ => ⟨h1, ⟨S, L, u, E, B0, g.same h2 h3, ha, hr, r, hf⟩, h3⟩
theorem p_count (h : NP w0 q u0 l par refs B fr W) : Calls Tryz.prog 18 #[.pointer (some ⟨q.m, 0, none⟩)] W fun e w' => e = .returned (.int .i64 l.length) ∧ NP w0 q u0 l par refs B fr w' ∧ Fr q.blocks W w' := by
  obtain ⟨S, L, u, E, B0, g, ha, hr, r, hf⟩ := h
  have := ncount g.wb.h
  rw [g.cnt] at this
  exact this.mono fun e w' ⟨h1, h2, h3⟩ => ⟨h1, ⟨S, L, u, E, B0, g.same h2 h3, ha, hr, r, hf⟩, h3⟩
theorem p_label (h : NP w0 q u0 l par refs B fr W) (hx : x ∈ l) : Calls Tryz.prog 24 #[.pointer (some ⟨q.m, 0, none⟩), .int .i64 x] W fun e w' => e = .returned (.tuple #[.string (strOf (B x)), .int .i64 0]) ∧ NP w0 q u0 l par refs B fr w' ∧ Fr q.blocks W w' := by
  obtain ⟨S, L, u, E, B0, g, ha, hr, r, hf⟩ := h
  have hm := (g.mem x).1 hx
  have ct := g.wb.ct x hm.1
  obtain ⟨c, hc, c1, c9, hlv, hfit⟩ := ct.n
  obtain ⟨b1, b2, b3, b4, b5, b6, b7⟩ := g.wb.at_ hlv
  have hsz : sz (E x).tag.toNat = 16 := by rw [hm.2]; rfl
  have hon := ct.on
  rw [hsz] at hon hfit
  have l2 := ct.l2 hm.2
  have := nlabel g.wb.h (g.wb.ix.e x hm.1) hm.2 (B0 x) l2.1 l2.2.2 ct.lt hon (csz c) hfit b3 b2 b6 b7
  rw [(r x hx).2.2] at this
  exact this.mono fun e w' ⟨h1, h2, h3⟩ => ⟨h1, ⟨S, L, u, E, B0, g.same h2 h3, ha, hr, r, hf⟩, h3⟩
theorem p_hold (h : NP w0 q u0 l par refs B fr W) (hx : x ∈ l) (hr1 : refs x + 1 < 4294967296) : Calls Tryz.prog 13 #[.pointer (some ⟨q.m, 0, none⟩), .int .i64 x] W fun e w' => e = .returned (.int .i64 0) ∧ NP w0 q u0 l par (_root_.Go.Proofs.YtellbfamofilaaaGreatDoor.up refs x (refs x + 1)) B fr w' ∧ Fr q.blocks W w' := by
  obtain ⟨S, L, u, E, B0, g, ha, hr, r, hf⟩ := h
  have hm := (g.mem x).1 hx
  have := wb_hold g.wb hm.1 hm.2 (by rw [(r x hx).2.1]; exact hr1)
  refine this.mono fun e w' ⟨h1, h2, v, h3, h4, h5⟩ => ⟨h1, ⟨S, L, v, _, B0, g.re h3 (up_refs E x _) h4 (by rw [h5]), ha, hr.trans (RtQ.eq h5), fun y hy => ?_, hf⟩, h2⟩
  refine ⟨(up_refs E x _ y).2.1.trans (r y hy).1, ?_, (r y hy).2.2⟩
  by_cases e : y = x
  · rw [e, up_same, up_same, ← (r x hx).2.1]
  · rw [up_ne _ _ e, up_ne _ _ e]; exact (r y hy).2.1
end
end Go.Proofs.YtellbfamofilaaaGreatDoor

/- node: Let, Free, Faults, Image of a world of nodes; a new one. -/
namespace Go.Proofs.YtellbfamofilaaaGreatDoor
set_option linter.unusedVariables false
set_option linter.unusedSimpArgs false
open Go.RowKit

theorem Rem.congr {own par par' : Nat → Nat} {l m : List Nat} (h : Rem own par' l m) (hp : ∀ z ∈ l, par' z = par z) : Rem own par l m := by
  induction h with
  | refl => exact .refl _
  | step h1 hx h0 hz ih => exact .step ih hx h0 (fun z hm => by rw [← hp z (h1.sub.subset hm)]; exact hz z hm)
/-- The first state of the memory of nodes. -/
structure P0 (u0 : TM) : Prop where
  ok : u0.Ok
  a : u0.a = 7
  s : u0.s = 224
  sl : SlI u0 SS.zero
  z : u0.sl = fun _ => 0
  ft : u0.ft = 0
  r : u0.rt 17 = 0
section
variable {w0 W W' : World} {q : MH} {u0 : TM} {l : List Nat} {par refs own : Nat → Nat} {B : Nat → List Nat} {fr x p : Nat} {b : List Nat}
theorem p_let (h : NP w0 q u0 l par refs B fr W) (hx : x ∈ l) (hr : ∀ y ∈ l, refs y = own y + bel par l y + (if y = x then 1 else 0)) (hn : ∀ y ∈ l, y ≠ x → own y = 0 → ∃ z ∈ l, par z = y) :
    Calls Tryz.prog 14 #[.pointer (some ⟨q.m, 0, none⟩), .int .i64 x] W fun e w' => ∃ k l1 refs1 fr1, e = .returned (.tuple #[.int .i64 (k : Nat), .int .i64 0]) ∧ Fr q.blocks W w' ∧ NP w0 q u0 l1 par refs1 B fr1 w' ∧ Rem own par l l1 ∧ k + l1.length = l.length ∧ (∀ y ∈ l1, refs1 y = own y + bel par l1 y) ∧ Firm own par l1 := by
  obtain ⟨S, L, u, E, B0, g, ha, hrt, r, hf⟩ := h
  have hnm : ∀ z ∈ l, (E z).name = par z := fun z hz => (r z hz).1
  have hI : LetI l E own x 0 l E := ⟨.refl l, Nat.zero_add _, fun y => ⟨rfl, rfl, rfl⟩, .inr hx, fun y hy => by rw [(r y hy).2.1, hr y hy, bel_congr hnm], fun y hy h1 h2 => by
    obtain ⟨z, hz, e⟩ := hn y hy h1 h2
    exact ⟨z, hz, by rw [hnm z hz]; exact e⟩⟩
  refine (nlet g own hx hI).mono fun e w' ⟨k, S1, L1, l1, u1, E1, h1, h2, h3, h4, h5, h6⟩ => ⟨k, l1, fun y => (E1 y).refs, _, h1, h2, ⟨S1, L1, u1, E1, B0, h3, h5 ha, hrt.trans h6, fun y hy => ?_, rfl⟩, h4.rem.congr hnm, h4.n, fun y hy => ?_, fun y hy h0 => ?_⟩
  · have hy' := h4.rem.sub.subset hy
    exact ⟨(h4.he y).2.1.trans (hnm y hy'), rfl, (r y hy').2.2⟩
  · show (E1 y).refs = _
    rw [h4.rf y hy, bel_congr (fun z hz => hnm z (h4.rem.sub.subset hz))]
  · obtain ⟨z, hz, e⟩ := h4.nf y hy h0
    exact ⟨z, hz, by rw [← hnm z (h4.rem.sub.subset hz)]; exact e⟩
theorem p_free (h : NP w0 q u0 l par refs B fr W) : Calls Tryz.prog 22 #[.pointer (some ⟨q.m, 0, none⟩)] W fun e w' => e = .returned (.int .i64 fr) ∧ NP w0 q u0 l par refs B fr w' ∧ Fr q.blocks W w' := by
  obtain ⟨S, L, u, E, B0, g, rest⟩ := h
  have ha := liall g.wb.h.m g.wb.sl.ls 0
  have e0 : lstI u.a S.inn 0 = lst 7 S.inn 0 := by unfold lstI; rw [if_pos (by decide), g.wb.a]; rfl
  rw [e0] at ha
  have HM := Lib.hid (fun w' (k1 : IsT w' q u) (k2 : Fr q.blocks W w') => (show NP w0 q u0 l par refs B fr w' from ⟨S, L, u, E, B0, g.same (g.wb.h.step k1 k2) k2, rest⟩))
  have hfr : (lst 7 S.inn 0).length = fr := rest.2.2.2
  clear g e0 rest
  generalize lst 7 S.inn 0 = ll at *
  have HL := Lib.hid hfr
  clear hfr
  go_enter Tryz.func22, Tryz.ntmps22
  go_wp2_with fail
  with_reducible refine ha.mono ?_
  rintro e w1 ⟨v, rfl, hv, k1, f1⟩
  have H1 := Lib.hid (HM.out _ k1 f1)
  have F1 := Lib.hid f1
  obtain ⟨ad, cap, rfl, hrow⟩ := own_row hv
  clear hrow hv k1 f1 HM ha
  go_wp2_with fail
  go_ret
  exact ⟨by rw [← HL.out]; rfl, H1.out, F1.out⟩
theorem p_flt (h : NP w0 q u0 l par refs B fr W) : Calls Tryz.prog 19 #[.pointer (some ⟨q.m, 0, none⟩)] W fun e w' => e = .returned (.int .i64 0) ∧ NP w0 q u0 l par refs B fr w' ∧ Fr q.blocks W w' := by
  have h' := h
  obtain ⟨S, L, u, E, B0, g, rest⟩ := h
  have := tfaults g.wb.h.m
  rw [g.wb.ft] at this
  exact this.mono fun e w' ⟨he, k⟩ => ⟨he, h'.fr0 k, k.nil⟩
theorem nbegin {u : TM} (h : IsH W q u) : Calls Tryz.prog 48 #[.pointer (some ⟨q.m, 0, none⟩)] W fun e w' => e = .returned (.int .i64 0) ∧ IsH w' q (u.setRt 17 0) ∧ Fr q.blocks W w' := by
  have HM := Lib.hid (nmade h.m)
  have HS := Lib.hid (fun V (hV : IsT V q u) => tsetroot hV 17 (by decide) 0 (by decide) 17 rfl 0 rfl)
  have H0 := Lib.hid h
  clear h
  go_enter Tryz.func48, Tryz.ntmps48
  go_wp2_with fail
  with_reducible refine HM.out.mono ?_
  rintro e w1 ⟨rfl, f1⟩
  have K1 := Lib.hid (H0.out.fr0 f1)
  have F1 := Lib.hid (f1.nil (S := q.blocks))
  clear f1 HM
  go_wp2_with fail
  with_reducible refine (HS.out _ K1.out.m).mono ?_
  rintro e w2 ⟨rfl, k2, f2⟩
  have K2 := Lib.hid (K1.out.step k2 f2)
  have F2 := Lib.hid (F1.out.trans f2)
  clear k2 f2
  go_wp2_with fail
  go_ret
  exact ⟨rfl, K2.out, F2.out⟩
theorem fresh21 (w : World) (hM : TabM w) (hT : Tabs w) : Calls Tryz.prog 11 #[] w fun e w' => ∃ (q : MH) (u0 : TM), e = .returned (.pointer (some ⟨q.m, 0, none⟩)) ∧ NP w q u0 [] (fun _ => 0) (fun _ => 0) (fun _ => []) 7 w' ∧ P0 u0 ∧ (∀ k ∈ q.blocks, w.heap.size ≤ k) ∧ Fr [] w w' := by
  have hn := (show Calls Tryz.prog 45 #[.agg #[.int .i64 7, .int .i64 224]] w (NewH w 7 224) from hnew w hM hT 7 224 cfg7)
  go_enter Tryz.func11, Tryz.ntmps11
  go_wp2_with fail
  with_reducible refine hn.mono ?_
  rintro e w1 ⟨q, rfl, h1, hq, f1⟩
  have HB := Lib.hid (m_begin20 h1 cfg7)
  have HQ := Lib.hid hq
  have F1 := Lib.hid f1
  clear h1 hq f1 hn
  go_wp2_with fail
  with_reducible refine HB.out.mono ?_
  rintro e w2 ⟨rfl, f2, u, h2, s2, a2, b2, c2, d2⟩
  have HG := Lib.hid (ibegin h2 d2)
  have OK := Lib.hid h2.m.ok
  have S2 := Lib.hid (And.intro s2 (And.intro a2 (And.intro b2 (And.intro c2 d2))))
  have F2 := Lib.hid (F1.out.step f2 (fun k hk => .inr (HQ.out k hk)))
  clear h2 HB s2 a2 b2 c2 d2 f2
  go_wp2_with fail
  with_reducible refine HG.out.mono ?_
  rintro e w3 ⟨rfl, h3, f3⟩
  have HBe := Lib.hid (nbegin h3)
  have F3 := Lib.hid (F2.out.step f3 (fun k hk => .inr (HQ.out k hk)))
  clear h3 HG f3
  go_wp2_with fail
  with_reducible refine HBe.out.mono ?_
  rintro e w4 ⟨rfl, h4, f4⟩
  have H4 := Lib.hid h4
  have F4 := Lib.hid (F3.out.step f4 (fun k hk => .inr (HQ.out k hk)))
  clear h4 HBe f4
  go_wp2_with fail
  go_ret
  obtain ⟨s2, a2, b2, c2, d2⟩ := S2.out
  have hsl : SlI (u.setRt 17 0) SS.zero := by
    have ho := setRt_out OK.out 17 0 (by decide)
    refine ⟨s2.ls.same' rfl (fun c hc => ?_) (fun _ _ _ => rfl), fun j hj => (s2.each j hj).other OK.out hj rfl rfl (fun _ _ => rfl) (ho (sla u j + 1024) 0) (.inl (Nat.le_refl _))⟩
    show (if 3 + c = 17 then 0 else u.rt (3 + c)) = u.rt (3 + c)
    rw [if_neg (by omega)]
  have hwb : WB w q SS.zero (fun _ => False) (u.setRt 17 0) (fun _ => HB.zero) (fun _ => []) w4 := by
    refine ⟨H4.out, hsl, ⟨fun x hx => hx.elim, fun i _ => .inl (by show u.sl i = 0; rw [d2]), ?_, ?_⟩, ⟨⟨by decide, fun y => ?_, fun s _ h0 => absurd (by show u.sl _ = 0; rw [d2]) h0⟩, ⟨0, by decide, .inl (by show u.sl 0 = 0; rw [d2])⟩, fun s s' _ _ h0 => absurd (by show u.sl s = 0; rw [d2]) h0⟩, fun x hx => hx.elim, a2, b2, c2, F4.out, HQ.out, fun i _ h => absurd rfl h⟩
    · show 0 < u.s; omega
    · show u.s ≤ 32768; omega
    · unfold hmE; show _ % u.s < 224; rw [b2]; exact Nat.mod_lt _ (by decide)
  have hni : NI w q SS.zero (fun _ => False) [] (u.setRt 17 0) (fun _ => HB.zero) (fun _ => []) w4 := by
    refine ⟨hwb, List.nodup_nil, fun x => ⟨fun h => (nomatch h), fun h => h.1.elim⟩, (show up u.rt 17 0 17 = 0 from up_same _ _ _), fun x hx => ⟨fun ⟨s, hs, e⟩ => hx (by rw [← e]; show u.sl s = 0; rw [d2]), fun h => h.elim⟩, ?_, ?_, ?_, ?_⟩
    all_goals (intro x hx; exact (nomatch hx))
  have hal : AllN SS.zero [] := fun y m h => by
    obtain ⟨i, hi, hm, _⟩ := h
    exact (nomatch hm)
  exact ⟨q, u.setRt 17 0, rfl, ⟨SS.zero, fun _ => False, u.setRt 17 0, fun _ => HB.zero, fun _ => [], hni, hal, RtQ.refl _, fun y hy => (nomatch hy), rfl⟩, ⟨H4.out.m.ok, a2, b2, hsl, d2, c2, (show up u.rt 17 0 17 = 0 from up_same _ _ _)⟩, HQ.out, F4.out⟩
end
end Go.Proofs.YtellbfamofilaaaGreatDoor

/- law21: made. -/
namespace Go.Proofs.YtellbfamofilaaaGreatDoor
set_option linter.unusedVariables false
set_option linter.unusedSimpArgs false
open Go.RowKit

def refN (refs : Nat → Nat) (x p : Nat) (y : Nat) : Nat := if y = x then 0 else refs y + (if y = p then 1 else 0)
theorem lv_in7 {t : TM} {S : SS} (hs : SlI t S) (hok : t.Ok) : ∀ i, i < t.a → ∀ y ∈ S.lv i, lbase t.a t.s + 1024 * i ≤ y ∧ y < lbase t.a t.s + 1024 * i + 1024 := fun i hi y hy => by
  obtain ⟨h1, h2, h3, h4, h5, h6, h7⟩ := (hs.each i hi).at_ hok hi (.inr hy)
  have h0 := (hs.each i hi).none (.inr hy)
  obtain ⟨c1, c2, c3, c4, c5, c6, c7⟩ := csz_tab (S.cls i) (by omega) (hs.each i hi).c9
  unfold sla at h1 h5
  omega
section
variable {w0 W W' : World} {q : MH} {u0 : TM} {l : List Nat} {par refs own : Nat → Nat} {B : Nat → List Nat} {fr x p : Nat} {b : List Nat}
theorem NP.full7 (h : NP w0 q u0 l par refs B 0 W) : 7 ≤ l.length := by
  obtain ⟨S, L, u, E, B0, g, ha, hrt, r, hf⟩ := h
  have hin := lv_in7 g.wb.sl g.wb.h.m.ok
  rw [g.wb.a, g.wb.s] at hin
  have hne : ∀ i, i < 7 → ∃ y, y ∈ S.lv i := fun i hi => by
    have hc : S.cls i ≠ 0 := fun e => by
      have hm : i ∈ lst 7 S.inn 0 := by
        unfold lst
        rw [List.mem_filter, List.mem_range]
        refine ⟨hi, ?_⟩
        unfold SS.inn
        rw [if_pos e]
        rfl
      rw [List.length_eq_zero_iff.1 hf] at hm
      cases hm
    obtain ⟨y, t, e⟩ := List.exists_cons_of_ne_nil (g.wb.fl i hi hc)
    exact ⟨y, by rw [e]; simp⟩
  have hch : ∃ f : Nat → Nat, ∀ i, i < 7 → f i ∈ S.lv i := by
    refine ⟨fun i => if h : i < 7 then Classical.choose (hne i h) else 0, fun i hi => ?_⟩
    show (if h : i < 7 then Classical.choose (hne i h) else 0) ∈ _
    rw [dif_pos hi]
    exact Classical.choose_spec (hne i hi)
  obtain ⟨f, hff⟩ := hch
  have hnd : ((List.range 7).map f).Nodup := by
    rw [List.Nodup, List.pairwise_map]
    refine List.Pairwise.imp_of_mem (fun {a b} ha hb hne e => ?_) (List.nodup_range (n := 7))
    have h1 := hin a (List.mem_range.1 ha) _ (hff a (List.mem_range.1 ha))
    have h2 := hin b (List.mem_range.1 hb) _ (hff b (List.mem_range.1 hb))
    rw [e] at h1
    omega
  have := sub_len2 hnd (m := l) (fun y hy => by
    obtain ⟨i, hi, e⟩ := List.mem_map.1 hy
    have hi' := List.mem_range.1 hi
    rw [← e]
    exact ha _ _ ⟨i, hi', hff i hi', rfl⟩)
  rw [List.length_map, List.length_range] at this
  exact this
/-- What made answers. -/
def MadeP (w0 : World) (q : MH) (u0 : TM) (l : List Nat) (par refs : Nat → Nat) (B : Nat → List Nat) (p : Nat) (b : List Nat) (x : Nat) (w' : World) : Prop :=
  (x = 0 ∧ ∃ fr1, NP w0 q u0 l par refs B fr1 w' ∧ (labOk b = true → fndP l par B p (b.map lowB) = none → fr1 = 0)) ∨ (x ≠ 0 ∧ x ∉ l ∧ labOk b = true ∧ fndP l par B p (b.map lowB) = none ∧ ∃ fr1, NP w0 q u0 (l ++ [x]) (up par x p) (refN refs x p) (up B x (b.map lowB)) fr1 w')
theorem p_made (h : NP w0 q u0 l par refs B fr W) (hp : p = 0 ∨ p ∈ l) (hb : ∀ k ∈ b, k < 256) (hrf : p ≠ 0 → refs p + 1 < 4294967296) :
    Calls Tryz.prog 15 #[.pointer (some ⟨q.m, 0, none⟩), .int .i64 p, .string (strOf b)] W fun e w' => ∃ x : Nat, e = .returned (.int .i64 x) ∧ x < 1048576 ∧ Fr q.blocks W w' ∧ MadeP w0 q u0 l par refs B p b x w' := by
  have h0 := h
  obtain ⟨S, L, u, E, B0, g, ha, hrt, r, hf⟩ := h
  have HCl := (nclass g.wb.h.m.tab b hb)
  have H0 := Lib.hid h0
  by_cases hk : labOk b = true
  · rw [if_pos hk] at HCl
    have hlen := labOk_len hk
    have hc := clsN_ok (16 + b.length) (by omega)
    have HT := Lib.hid (fun V (hV : NI w0 q S L l u E B0 V) => wb_take hV.wb (clsN (16 + b.length)) ⟨hc.1, hc.2.1⟩)
    have G0 := Lib.hid g
    have HM := Lib.hid (fun V x S' v (hS : Sla u v) (hw : WB w0 q S' L v E B0 V) (hfx : Fx v S' L x (clsN (16 + b.length))) (ht : TakeL 7 S S' x (csz (clsN (16 + b.length)))) =>
      (show Calls Tryz.prog 57 #[.pointer (some ⟨q.m, 0, none⟩), .int .i64 x, .int .i64 p, .string (strOf b)] V fun e w' => Fr q.blocks V w' ∧ ((e = .returned (.int .i64 0) ∧ MadeP w0 q u0 l par refs B p b x w') ∨ (e = .returned (.int .i64 8) ∧ NI w0 q S' L l v E B0 w' ∧ ∃ z, fndN l E B0 p (b.map lowB) = some z)) from by
        have gi : NI w0 q S' L l v E B0 V := g.re hw (fun y => ⟨rfl, rfl, rfl⟩) hS.sl (hS.rt 17 (.inr (by decide)))
        cases hfn : fndN l E B0 p (b.map lowB) with
        | some z => exact (nmake_no gi hfx hp hb hk hfn).mono fun e w' ⟨h1, h2, h3⟩ => ⟨h2, .inr ⟨h1, h3, z, rfl⟩⟩
        | none =>
          refine (nmake_yes gi hfx hp hb hk hfn (fun hp0 => by rw [(r p (hp.resolve_left hp0)).2.1]; exact hrf hp0)).mono fun e w' ⟨h1, h2, v', E', B', h3, h4, h5⟩ => ⟨h2, .inl ⟨h1, .inr ?_⟩⟩
          have hxl : x ∉ l := fun hm => hfx.no ((g.mem x).1 hm).1
          have hx0 : x ≠ 0 := (h3.lt (List.mem_append_right _ (List.mem_singleton.2 rfl))).1
          refine ⟨hx0, hxl, hk, by rw [← fndN_P r]; exact hfn, _, ⟨S', _, v', E', B', h3, fun y m hy => ?_, hrt.trans ((RtQ.sla hS).trans h5), fun y hy => ?_, rfl⟩⟩
          · rcases ht.all y m hy with k | k
            · exact List.mem_append_right _ (List.mem_singleton.2 k)
            · exact List.mem_append_left _ (ha y m k)
          · rw [List.mem_append, List.mem_singleton] at hy
            by_cases e : y = x
            · subst e
              rw [h4.nm, h4.rf, h4.bx, up_same, up_same]
              refine ⟨rfl, ?_, rfl⟩
              unfold refN
              rw [if_pos rfl]
            · have hy' := hy.resolve_right e
              rw [(h4.ee y e).2.1, h4.rr y e (g.lt hy').1, h4.bb y e, up_ne _ _ e, up_ne _ _ e]
              refine ⟨(r y hy').1, ?_, (r y hy').2.2⟩
              unfold refN
              rw [if_neg e, (r y hy').2.1]))
    have HGv := Lib.hid (fun V x S' v (hS : Sla u v) (hV : NI w0 q S' L l v E B0 V) (hfx : Fx v S' L x (clsN (16 + b.length))) (ht : TakeL 7 S S' x (csz (clsN (16 + b.length)))) (hz : ∃ z, fndN l E B0 p (b.map lowB) = some z) =>
      (show Calls Tryz.prog 58 #[.pointer (some ⟨q.m, 0, none⟩), .int .i64 x] V fun e w' => e = .returned (.int .i64 0) ∧ Fr q.blocks V w' ∧ MadeP w0 q u0 l par refs B p b 0 w' from by
        have hx0 : x ≠ 0 := by have h1 := (hV.wb.at_ hfx.lv).1; have h2 := hV.wb.base; omega
        refine (wb_give hV.wb hfx.lv (fun i hi e => hfx.no ((hV.inx x hx0).1 ⟨i, hi, e⟩))).mono fun e w' ⟨h1, h2, S2, v2, h3, h4, h5⟩ => ⟨h1, h2, .inl ⟨rfl, _, ⟨S2, L, v2, E, B0, ?_, fun y m hy => ?_, hrt.trans ((RtQ.sla hS).trans (RtQ.sla h3)), r, rfl⟩, fun _ hno => ?_⟩⟩
        · have hLe : (fun y => L y ∧ y ≠ x) = L := funext fun y => propext ⟨fun k => k.1, fun k => ⟨k, fun e => hfx.no (e ▸ k)⟩⟩
          rw [hLe] at h4
          exact hV.re h4 (fun y => ⟨rfl, rfl, rfl⟩) h3.sl (h3.rt 17 (.inr (by decide)))
        · have hy' := (h5 y m).1 hy
          rcases ht.all y m hy'.1 with k | k
          · exact absurd k hy'.2
          · exact ha y m k
        · obtain ⟨z, hz⟩ := hz
          rw [fndN_P r, hno] at hz
          cases hz))
    have HFl := Lib.hid (fun V v (hS : Sla u v) (hw : WB w0 q S L v E B0 V) (h5 : hd1 (lst 7 S.inn 0) = 0) => (show MadeP w0 q u0 l par refs B p b 0 V from by
      have hl0 : lst 7 S.inn 0 = [] := by
        cases hl : lst 7 S.inn 0 with
        | nil => rfl
        | cons a t => rw [hl] at h5; cases h5
      exact .inl ⟨rfl, _, ⟨S, L, v, E, B0, g.re hw (fun y => ⟨rfl, rfl, rfl⟩) hS.sl (hS.rt 17 (.inr (by decide))), ha, hrt.trans (RtQ.sla hS), r, rfl⟩, fun _ _ => by rw [hl0]; rfl⟩))
    have HX := Lib.hid (fun V x S' v (hV : NI w0 q S' L l v E B0 V) (hfx : Fx v S' L x (clsN (16 + b.length))) => (show x < 1048576 from by
      have h1 := (hV.wb.at_ hfx.lv).2.2.2.2.2.1
      have h2 := hV.wb.cz
      have h3 : lsize 7 224 ≤ 1048576 := by decide
      have h4 := (hV.wb.at_ hfx.lv).2.2.2.1
      omega))
    generalize strOf b = s at *
    have hcl := hc
    generalize clsN (16 + b.length) = cl at *
    clear hk g ha hrt r hf hp hb hrf h0 hlen hc hcl
    go_enter Tryz.func15, Tryz.ntmps15
    go_wp2_with fail
    with_reducible refine HCl.mono ?_
    rintro e w1 ⟨rfl, f1⟩
    have K1 := Lib.hid (G0.out.fr0 f1)
    have F1 := Lib.hid (f1.nil (S := q.blocks))
    clear f1 HCl H0 G0
    go_wp2_with fail
    with_reducible refine (HT.out _ K1.out).mono ?_
    rintro e w2 ⟨x, rr, rfl, f2, ht⟩
    have F2 := Lib.hid (F1.out.trans f2)
    clear f2 HT F1
    rcases ht with ⟨rfl, rfl, hd0, v, hS, hw⟩ | ⟨rfl, S', v, hS, hw, hfx, htk⟩
    · have D2 := Lib.hid (HFl.out _ v hS hw hd0)
      clear hd0 hS hw HFl HGv HM
      go_wp2_with fail
      go_ret
      exact ⟨0, rfl, by decide, F2.out, D2.out⟩
    · have HMk := Lib.hid (HM.out _ x S' v hS hw hfx htk)
      have hS' := Lib.hid hS
      have hfx' := Lib.hid hfx
      have htk' := Lib.hid htk
      have hw' := Lib.hid (HX.out _ x S' v (K1.out.re hw (fun y => ⟨rfl, rfl, rfl⟩) hS.sl (hS.rt 17 (.inr (by decide)))) hfx)
      clear hS hw hfx htk HM HFl HX
      go_wp2_with fail
      with_reducible refine HMk.out.mono ?_
      rintro e w3 ⟨f3, ⟨rfl, hmd⟩ | ⟨rfl, hni, hz⟩⟩
      · have D3 := Lib.hid hmd
        have F3 := Lib.hid (F2.out.trans f3)
        clear hmd f3 F2 HMk HGv
        go_wp2_with fail
        go_ret
        exact ⟨x, rfl, hw'.out, F3.out, D3.out⟩
      · have HG2 := Lib.hid (HGv.out _ x S' v hS'.out hni hfx'.out htk'.out hz)
        have F3 := Lib.hid (F2.out.trans f3)
        clear hni hz f3 F2 HMk HGv
        go_wp2_with fail
        with_reducible refine HG2.out.mono ?_
        rintro e w4 ⟨rfl, f4, hmd⟩
        have D4 := Lib.hid hmd
        have F4 := Lib.hid (F3.out.trans f4)
        clear hmd f4 F3 HG2
        go_wp2_with fail
        go_ret
        exact ⟨0, rfl, by decide, F4.out, D4.out⟩
  · rw [if_neg hk] at HCl
    generalize strOf b = s at *
    have HB := Lib.hid (fun h1 : labOk b = true => hk h1)
    clear hk g ha hrt r hf hp hb hrf h0
    go_enter Tryz.func15, Tryz.ntmps15
    go_wp2_with fail
    with_reducible refine HCl.mono ?_
    rintro e w1 ⟨rfl, f1⟩
    have K1 := Lib.hid (H0.out.fr0 f1)
    have F1 := Lib.hid f1
    clear f1 HCl H0
    go_wp2_with fail
    go_ret
    exact ⟨0, rfl, by decide, F1.out.nil, .inl ⟨rfl, _, K1.out, fun h => absurd h HB.out⟩⟩
end
end Go.Proofs.YtellbfamofilaaaGreatDoor

/- law21: goes. -/
namespace Go.Proofs.YtellbfamofilaaaGreatDoor
set_option linter.unusedVariables false
set_option linter.unusedSimpArgs false
open Go.RowKit

section
variable {w0 W W' : World} {q : MH} {u0 : TM} {l : List Nat} {par refs own : Nat → Nat} {B : Nat → List Nat} {fr x p a : Nat} {b : List Nat}
theorem g_made1 (h : NP w0 q u0 [] par refs B fr W) : Calls Tryz.prog 15 #[.pointer (some ⟨q.m, 0, none⟩), .int .i64 0, .string ⟨#[65]⟩] W fun e w' => ∃ a fr1, e = .returned (.int .i64 (a : Nat)) ∧ a ≠ 0 ∧ a < 1048576 ∧ Fr q.blocks W w' ∧ NP w0 q u0 [a] (up par a 0) (refN refs a 0) (up B a [97]) fr1 w' := by
  have := p_made (b := [65]) (p := 0) h (.inl rfl) (by decide) (fun h => absurd rfl h)
  refine this.mono fun e w' ⟨x, h1, h2, h3, h4⟩ => ?_
  rcases h4 with ⟨hx, fr1, hn, hf⟩ | ⟨hx, hxl, _, _, fr1, hn⟩
  · have := hf (by decide) rfl
    subst this
    exact absurd hn.full7 (by decide)
  · exact ⟨x, fr1, h1, hx, h2, h3, hn⟩
theorem g_made2 (h : NP w0 q u0 [a] par refs B fr W) (hpa : par a = 0) (hr : refs a < 10) : Calls Tryz.prog 15 #[.pointer (some ⟨q.m, 0, none⟩), .int .i64 a, .string ⟨#[119, 119, 119]⟩] W fun e w' => ∃ x fr1, e = .returned (.int .i64 (x : Nat)) ∧ x ≠ 0 ∧ x ≠ a ∧ x < 1048576 ∧ Fr q.blocks W w' ∧ NP w0 q u0 [a, x] (up par x a) (refN refs x a) (up B x [119, 119, 119]) fr1 w' := by
  have ha := (h.rng (List.mem_singleton.2 rfl)).1
  have := p_made (b := [119, 119, 119]) (p := a) h (.inr (List.mem_singleton.2 rfl)) (by decide) (fun _ => by omega)
  refine this.mono fun e w' ⟨x, h1, h2, h3, h4⟩ => ?_
  rcases h4 with ⟨hx, fr1, hn, hf⟩ | ⟨hx, hxl, _, _, fr1, hn⟩
  · have := hf (by decide) (by
      unfold fndP
      rw [List.find?_cons, hpa, show ((0 : Nat) == a) = false from by simp; omega]
      rfl)
    subst this
    exact absurd hn.full7 (by simp)
  · exact ⟨x, fr1, h1, hx, fun e => hxl (by rw [e]; exact List.mem_singleton.2 rfl), h2, h3, hn⟩
theorem g_let (h : NP w0 q u0 [a, x] par refs B fr W) (hpa : par a = 0) (hpx : par x = a) (hra : refs a = 1) (hrx : refs x = 1) (hxa : x ≠ a) : Calls Tryz.prog 14 #[.pointer (some ⟨q.m, 0, none⟩), .int .i64 x] W fun e w' => e = .returned (.tuple #[.int .i64 2, .int .i64 0]) ∧ Fr q.blocks W w' ∧ ∃ refs1, NP w0 q u0 [] par refs1 B 7 w' := by
  have ha := (h.rng (x := a) (by simp)).1
  have hx := (h.rng (x := x) (by simp)).1
  have hm : ∀ y, y ∈ [a, x] → y = a ∨ y = x := fun y hy => by simpa using hy
  refine (p_let (own := fun _ => 0) h (x := x) (by simp) (fun y hy => ?_) (fun y hy hne _ => ?_)).mono fun e w' ⟨k, l1, refs1, fr1, h1, h2, h3, h4, h5, h6, h7⟩ => ?_
  · have hb : bel par [a, x] y = (if 0 = y then 1 else 0) + (if a = y then 1 else 0) := by
      unfold bel
      simp [List.countP_cons, hpa, hpx]
      omega
    rw [hb]
    rcases hm y hy with e | e
    · subst e; rw [hra, if_neg (by omega), if_pos rfl, if_neg (by omega)]
    · subst e; rw [hrx, if_neg (by omega), if_neg (by omega), if_pos rfl]
  · rcases hm y hy with e | e
    · exact ⟨x, by simp, by rw [hpx, e]⟩
    · exact absurd e hne
  · have hs := h4.sub.subset
    have hxn : x ∉ l1 := fun hm1 => by
      obtain ⟨z, hz, e⟩ := h7 x hm1 rfl
      rcases hm z (hs hz) with k | k
      · rw [k, hpa] at e; omega
      · rw [k, hpx] at e; omega
    have han : a ∉ l1 := fun hm1 => by
      obtain ⟨z, hz, e⟩ := h7 a hm1 rfl
      rcases hm z (hs hz) with k | k
      · rw [k, hpa] at e; omega
      · exact hxn (k ▸ hz)
    have hl : l1 = [] := by
      cases l1 with
      | nil => rfl
      | cons y t =>
        rcases hm y (hs (by simp)) with k | k
        · exact absurd (by simp [k]) han
        · exact absurd (by simp [k]) hxn
    subst hl
    have hk : k = 2 := by simpa using h5
    subst hk
    have := h3.empty
    subst this
    exact ⟨h1, h2, refs1, h3⟩
set_option maxRecDepth 100000 in
set_option maxHeartbeats 4000000 in
theorem goes21 (w : World) (hM : TabM w) (hT : Tabs w) : Calls Tryz.prog 10 #[] w fun e w' => e = .returned (.bool true) ∧ Fr [] w w' := by
  have HF := Lib.hid (fresh21 w hM hT)
  clear hM hT
  go_enter Tryz.func10, Tryz.ntmps10
  go_wp2_with fail
  with_reducible refine HF.out.mono ?_
  rintro e w1 ⟨q, u0, rfl, n1, -, hq, f1⟩
  have HQ := Lib.hid hq
  have F1 := Lib.hid f1
  have H1 := Lib.hid (g_made1 n1)
  clear n1 hq f1 HF
  go_wp2_with fail
  with_reducible refine H1.out.mono ?_
  rintro e w2 ⟨a, fr2, rfl, ha, hal, f2, n2⟩
  have F2 := Lib.hid (F1.out.step f2 (fun k hk => .inr (HQ.out k hk)))
  have H2 := Lib.hid (g_made2 n2 (up_same _ _ _) (by unfold refN; rw [if_pos rfl]; decide))
  clear n2 f2 H1 F1
  go_wp2_with fail
  with_reducible refine H2.out.mono ?_
  rintro e w3 ⟨x, fr3, rfl, hx, hxa, hxl, f3, n3⟩
  have F3 := Lib.hid (F2.out.step f3 (fun k hk => .inr (HQ.out k hk)))
  have hpa : up (up (fun _ => 0) a 0) x a a = 0 := by rw [up_ne _ _ (Ne.symm hxa), up_same]
  have hpx : up (up (fun _ => 0) a 0) x a x = a := up_same _ _ _
  have hra : refN (refN (fun _ => 0) a 0) x a a = 1 := by unfold refN; rw [if_neg (Ne.symm hxa), if_pos rfl, if_pos rfl]
  have hrx : refN (refN (fun _ => 0) a 0) x a x = 0 := by unfold refN; rw [if_pos rfl]
  have hba : up (up (fun _ => []) a [97]) x [119, 119, 119] a = [97] := by rw [up_ne _ _ (Ne.symm hxa), up_same]
  have hbx : up (up (fun _ => []) a [97]) x [119, 119, 119] x = [119, 119, 119] := up_same _ _ _
  generalize up (up (fun _ => 0) a 0) x a = par at *
  generalize refN (refN (fun _ => 0) a 0) x a = refs at *
  generalize up (up (fun _ => []) a [97]) x [119, 119, 119] = B at *
  have H3 := Lib.hid (p_hold n3 (x := x) (by simp) (by rw [hrx]; decide))
  clear n3 f3 H2 F2
  go_wp2_with fail
  with_reducible refine H3.out.mono ?_
  rintro e w4 ⟨rfl, n4, f4⟩
  have F4 := Lib.hid (F3.out.step f4 (fun k hk => .inr (HQ.out k hk)))
  have hra' : up refs x (refs x + 1) a = 1 := by rw [up_ne _ _ (Ne.symm hxa)]; exact hra
  have hrx' : up refs x (refs x + 1) x = 1 := by rw [up_same, hrx]
  generalize up refs x (refs x + 1) = refs at *
  have H4 := Lib.hid (show Calls Tryz.prog 24 #[.pointer (some ⟨q.m, 0, none⟩), .int .i64 a] w4 fun e w' => e = .returned (.tuple #[.string ⟨#[97]⟩, .int .i64 0]) ∧ NP w q u0 [a, x] par refs B fr3 w' ∧ Fr q.blocks w4 w' from by
    have := p_label n4 (x := a) (by simp)
    rw [hba] at this
    exact this)
  have H5 := Lib.hid (fun V (hV : NP w q u0 [a, x] par refs B fr3 V) => (show Calls Tryz.prog 21 #[.pointer (some ⟨q.m, 0, none⟩), .int .i64 a, .string ⟨#[87, 87, 87]⟩] V fun e w' => e = .returned (.tuple #[.int .i64 x, .bool true]) ∧ NP w q u0 [a, x] par refs B fr3 w' ∧ Fr q.blocks V w' from by
    have := p_find hV (p := a) (b := [87, 87, 87]) (.inr (by simp)) (by decide)
    have hfd : fndP [a, x] par B a [119, 119, 119] = some x := by
      unfold fndP
      rw [List.find?_cons, hpa, hba, show (((0 : Nat) == a) && ([97] == [119, 119, 119])) = false from by simp]
      rw [List.find?_cons, hpx, hbx, beq_self_eq_true, beq_self_eq_true]
      rfl
    rw [show ([87, 87, 87] : List Nat).map lowB = [119, 119, 119] from rfl, hfd, if_pos (by decide)] at this
    exact this))
  have H6 := Lib.hid (fun V (hV : NP w q u0 [a, x] par refs B fr3 V) => (show Calls Tryz.prog 12 #[.pointer (some ⟨q.m, 0, none⟩), .int .i64 a] V fun e w' => e = .returned (.int .i64 1) ∧ NP w q u0 [a, x] par refs B fr3 w' ∧ Fr q.blocks V w' from by
    have := p_refs hV (x := a) (by simp)
    rw [hra'] at this
    exact this))
  have H7 := Lib.hid (fun V (hV : NP w q u0 [a, x] par refs B fr3 V) => (show Calls Tryz.prog 18 #[.pointer (some ⟨q.m, 0, none⟩)] V fun e w' => e = .returned (.int .i64 2) ∧ NP w q u0 [a, x] par refs B fr3 w' ∧ Fr q.blocks V w' from p_count hV))
  have H8 := Lib.hid (fun V (hV : NP w q u0 [a, x] par refs B fr3 V) => g_let hV hpa hpx hra' hrx' hxa)
  have H9 := Lib.hid (fun V refs1 (hV : NP w q u0 [] par refs1 B 7 V) => (show Calls Tryz.prog 18 #[.pointer (some ⟨q.m, 0, none⟩)] V fun e w' => e = .returned (.int .i64 0) ∧ NP w q u0 [] par refs1 B 7 w' ∧ Fr q.blocks V w' from p_count hV))
  have H10 := Lib.hid (fun V refs1 (hV : NP w q u0 [] par refs1 B 7 V) => (show Calls Tryz.prog 22 #[.pointer (some ⟨q.m, 0, none⟩)] V fun e w' => e = .returned (.int .i64 7) ∧ NP w q u0 [] par refs1 B 7 w' ∧ Fr q.blocks V w' from p_free hV))
  have H11 := Lib.hid (fun V refs1 (hV : NP w q u0 [] par refs1 B 7 V) => p_flt hV)
  clear n4 f4 hra hrx hra' hrx' hba hbx hpa hpx H3 F3
  have b1 : decide ((0 : Int) < (a : Int)) = true := decide_eq_true (by omega)
  have b2 : decide ((0 : Int) < (x : Int)) = true := decide_eq_true (by omega)
  have b1' : decide (0 < a) = true := decide_eq_true (by omega)
  have b2' : decide (0 < x) = true := decide_eq_true (by omega)
  clear ha hx hxa hal hxl
  go_wp2_with fail
  with_reducible refine H4.out.mono ?_
  rintro e w5 ⟨rfl, n5, f5⟩
  have N5 := Lib.hid n5
  have F5 := Lib.hid (F4.out.step f5 (fun k hk => .inr (HQ.out k hk)))
  clear n5 f5 H4 F4
  go_wp2_with fail
  with_reducible refine (H5.out _ N5.out).mono ?_
  rintro e w6 ⟨rfl, n6, f6⟩
  have N6 := Lib.hid n6
  have F6 := Lib.hid (F5.out.step f6 (fun k hk => .inr (HQ.out k hk)))
  clear n6 f6 H5 F5 N5
  go_wp2_with fail
  with_reducible refine (H6.out _ N6.out).mono ?_
  rintro e w7 ⟨rfl, n7, f7⟩
  have N7 := Lib.hid n7
  have F7 := Lib.hid (F6.out.step f7 (fun k hk => .inr (HQ.out k hk)))
  clear n7 f7 H6 F6 N6
  go_wp2_with fail
  with_reducible refine (H7.out _ N7.out).mono ?_
  rintro e w8 ⟨rfl, n8, f8⟩
  have N8 := Lib.hid n8
  have F8 := Lib.hid (F7.out.step f8 (fun k hk => .inr (HQ.out k hk)))
  clear n8 f8 H7 F7 N7
  go_wp2_with fail
  with_reducible refine (H8.out _ N8.out).mono ?_
  rintro e w9 ⟨rfl, f9, refs1, n9⟩
  have N9 := Lib.hid n9
  have F9 := Lib.hid (F8.out.step f9 (fun k hk => .inr (HQ.out k hk)))
  clear n9 f9 H8 F8 N8
  go_wp2_with fail
  with_reducible refine (H9.out _ _ N9.out).mono ?_
  rintro e w10 ⟨rfl, n10, f10⟩
  have N10 := Lib.hid n10
  have F10 := Lib.hid (F9.out.step f10 (fun k hk => .inr (HQ.out k hk)))
  clear n10 f10 H9 F9 N9
  go_wp2_with fail
  with_reducible refine (H10.out _ _ N10.out).mono ?_
  rintro e w11 ⟨rfl, n11, f11⟩
  have N11 := Lib.hid n11
  have F11 := Lib.hid (F10.out.step f11 (fun k hk => .inr (HQ.out k hk)))
  clear n11 f11 H10 F10 N10
  go_wp2_with fail
  with_reducible refine (H11.out _ _ N11.out).mono ?_
  rintro e w12 ⟨rfl, n12, f12⟩
  have F12 := Lib.hid (F11.out.step f12 (fun k hk => .inr (HQ.out k hk)))
  clear n12 f12 H11 F11 N11
  go_wp2_with fail
  go_ret
  exact ⟨rfl, F12.out⟩
end
end Go.Proofs.YtellbfamofilaaaGreatDoor
