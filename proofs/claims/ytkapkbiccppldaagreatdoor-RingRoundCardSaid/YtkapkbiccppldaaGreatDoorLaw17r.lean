/- RingRound: the walk. -/
import Derived.Test.YtkapkbiccppldaaGreatDoorKB
import Derived.Test.YtkapkbiccppldaaGreatDoorGD
import Derived.Deep.QuietTactic
import Derived.BigQuiet
namespace Go.Proofs.YtkapkbiccppldaaGreatDoor
set_option linter.unusedVariables false
set_option linter.unusedSimpArgs false
open Go.RowKit

section
variable {w0 W W' : World} {q : MH} {S S' : SS} {R D : List Nat} {b x n j : Nat} {t u v : TM} {E E' : Nat → HB} {ft : Int}
/-- The memory behind so many insertions. -/
def KR (w0 : World) (q : MH) (j : Nat) (W : World) : Prop := ∃ S R b, GX w0 q S R b 0 W ∧ One1 S ∧ (∀ y, LvP S y ↔ y ∈ R) ∧ R.length = j
def KX (w0 : World) (q : MH) (j x : Nat) (W : World) : Prop := ∃ S R b, GX w0 q S R b 0 W ∧ One1 S ∧ (∀ y, LvP S y ↔ y = x ∨ y ∈ R) ∧ x ∉ R ∧ R.length = j
theorem KR.f (h : KR w0 q j W) : Fr [] w0 W := by
  obtain ⟨S, R, b, h, _⟩ := h
  exact h.f
theorem kr_entry (h : KR w0 q j W) (hj : j < 224) : Calls Tryz.prog 41 #[.pointer (some ⟨q.m, 0, none⟩), .int .i64 1] W fun e w' => ∃ x : Nat, e = .returned (.int .i64 x) ∧ 0 < x ∧ KX w0 q j x w' := by
  obtain ⟨S, R, b, h, h1, hL, hl⟩ := h
  have h0 : (takeS 7 (lbase 7 224) S 1).2.1 = 0 := by
    obtain ⟨u, E, g, e⟩ := h
    exact one1_room g.h.m.ok g.sl g.a h1 (fun y hy => (hL y).1 hy) (by omega)
  refine (x_entry h 1).mono fun e w' ⟨x, he, _, hE⟩ => ?_
  obtain ⟨g, l1, l2, l3, l4⟩ := hE.got h0
  exact ⟨x, he, l3, _, R, b, g, one1_take h1, fun y => by rw [l4, hL], fun hm => l2 ((hL x).2 hm), hl⟩
theorem kr_ins (h : KX w0 q j x W) : Calls Tryz.prog 42 #[.pointer (some ⟨q.m, 0, none⟩), .int .i64 x] W fun e w' => e = .returned (.int .i64 0) ∧ KR w0 q (j + 1) w' := by
  obtain ⟨S, R, b, h, h1, hL, hn, hl⟩ := h
  exact (x_ins h ((hL x).2 (.inl rfl)) hn).mono fun e w' ⟨he, g, _⟩ => ⟨he, S, _, _, g, h1, fun y => by rw [hL, List.mem_append, List.mem_singleton, or_comm], by rw [List.length_append, hl]; rfl⟩
theorem kr_turn (h : KR w0 q j W) : Calls Tryz.prog 43 #[.pointer (some ⟨q.m, 0, none⟩)] W fun e w' => ∃ y : Nat, e = .returned (.int .i64 y) ∧ KR w0 q j w' := by
  obtain ⟨S, R, b, h, h1, hL, hl⟩ := h
  cases R with
  | nil => exact (x_turn0 h).mono fun e w' ⟨he, g, _⟩ => ⟨0, he, S, _, _, g, h1, hL, hl⟩
  | cons a T => exact (x_turn1 h).mono fun e w' ⟨he, g, _⟩ => ⟨a, he, S, _, _, g, h1, fun y => by rw [hL, List.mem_append, List.mem_singleton, List.mem_cons, or_comm], by rw [← hl, List.length_append]; rfl⟩
/-- All, and then the rounds may begin. -/
theorem kr_all (h : KR w0 q j W) : Calls Tryz.prog 44 #[.pointer (some ⟨q.m, 0, none⟩)] W fun e w' => ∃ v R D S E, e = .returned v ∧ Rw w' W.heap.size v R ∧ R.length = j ∧ D.length = j ∧ D.Perm R ∧ R.Nodup ∧ Cyc E D ∧ Rnd w0 q S R D E 0 w' ∧ ∀ k ∈ q.blocks, k < W.heap.size := by
  obtain ⟨S, R, b, ⟨u, E, g, e⟩, h1, hL, hl⟩ := h
  refine (u_all g).mono fun e' w' ⟨v, he, r, g', _⟩ => ?_
  by_cases h0 : R = []
  · subst h0
    refine ⟨v, [], [], S, E, he, r, hl, hl, List.Perm.refl _, List.Pairwise.nil, trivial, ⟨u, ?_, e⟩, g.h.m.lt⟩
    have := g'.rg.bnil rfl
    subst this
    exact g'
  · obtain ⟨A, B, rfl⟩ := List.append_of_mem (g.rg.bin h0)
    have hp : (b :: B ++ A).Perm (A ++ b :: B) := List.perm_append_comm
    refine ⟨v, _, b :: B ++ A, S, E, he, r, hl, by rw [hp.length_eq]; exact hl, hp, g.rg.nd, (cyc_rot E A (b :: B)).1 g.rg.cyc, ⟨u, ?_, e⟩, g.h.m.lt⟩
    simp only [List.drop_zero, List.take_zero, List.append_nil]
    exact g'
theorem GU.own {v : Value} {base : Nat} (h : GU w0 q S R b u E W) (hf : Fr (ownS v) W W') (hv : ∀ g, v.ownBlock = some g → base ≤ g) (hb : ∀ k ∈ q.blocks, k < base) (h0 : 5 ≤ base) (hw : w0.heap.size ≤ base) : GU w0 q S R b u E W' := by
  have hS : ∀ k ∈ ownS v, base ≤ k := fun k hk => hv k (ownS_mem hk)
  refine ⟨⟨h.h.m.fr hf (fun k hk hm => ?_) (fun k hk hm => ?_), h.h.tabs.fr hf (fun k hk => ?_), h.h.hi⟩, h.sl, h.rg, h.a, h.s, h.f.step hf (fun k hk => .inr (Nat.le_trans hw (hS k hk))), h.hq⟩
  · have := hS k hm; have := hb k hk; omega
  · have := hS k hm; omega
  · have := hS k hk; omega
structure H2 (base : Nat) (v1 v2 : Value) (A B : List Nat) (W : World) : Prop where
  a : Rw W base v1 A
  s : Rw W base v2 B
  d : Dj v1 v2
theorem count_snoc (l : List Nat) (x : Nat) (k : Nat) (hk : k < l.length) : (l.take (k + 1)).count x = (l.take k).count x + if l[k] = x then 1 else 0 := by
  rw [List.take_add_one, List.getElem?_eq_getElem hk, Option.toList_some, List.count_append, List.count_singleton]
  by_cases h : l[k] = x
  · rw [if_pos h, if_pos (by simpa using h)]
  · rw [if_neg h, if_neg (by simpa using h)]
theorem count_one {l m : List Nat} (h : l.Perm m) (hn : m.Nodup) {x : Nat} (hx : x ∈ m) : l.count x = 1 := by
  rw [h.count_eq]
  clear h
  induction m with
  | nil => exact nomatch hx
  | cons a m ih =>
    have hc := List.nodup_cons.1 hn
    rw [List.count_cons]
    rcases List.mem_cons.1 hx with e | hm
    · rw [e, List.count_eq_zero.2 hc.1]; simp
    · rw [ih hc.2 hm, if_neg]
      simp only [beq_iff_eq]
      exact fun e => hc.1 (e ▸ hm)
theorem take_snoc {l : List Nat} {i : Nat} (hi : i < l.length) : l.take (i + 1) = l.take i ++ [l[i]] := by
  rw [List.take_add_one, List.getElem?_eq_getElem hi]; rfl
set_option maxRecDepth 100000 in
set_option maxHeartbeats 8000000 in
theorem walk_rround (w : World) (hM : TabM w) (hT : Tabs w) (n k : Int) : Calls Tryz.prog 7 #[.int .i64 n, .int .i64 k] w fun e w' => e = .returned (.bool true) ∧ Fr [] w w' := by
  have HL := Lib.hid (fun (W : World) (hf : Fr [] w W) => turns17 W (hM.fr hf (by simp)) (hT.fr hf (by simp)))
  have hgx := hT.size
  by_cases hr : 0 ≤ n ∧ n ≤ 100 ∧ 0 ≤ k ∧ k ≤ 300
  · obtain ⟨n1, n2, k1, k2⟩ := hr
    obtain ⟨N, rfl⟩ : ∃ N : Nat, n = N := ⟨n.toNat, by omega⟩
    obtain ⟨K, rfl⟩ : ∃ K : Nat, k = K := ⟨k.toNat, by omega⟩
    have b1 : decide ((N : Int) < 0) = false := by simp
    have b2 : decide ((100 : Int) < N) = false := by simp; omega
    have b2' : decide (100 < N) = false := by simp; omega
    have b3 : decide ((K : Int) < 0) = false := by simp
    have b4 : decide ((300 : Int) < K) = false := by simp; omega
    have b4' : decide (300 < K) = false := by simp; omega
    have hF := fresh17 w hM hT
    clear hM hT
    go_enter Tryz.func7, Tryz.ntmps7
    go_wp2_with fail
    with_reducible refine hF.mono ?_
    rintro e w1 ⟨q, rfl, g1⟩
    have START := Lib.hid (show KR w q 0 w1 from ⟨_, _, _, g1, fun i hi => Nat.zero_le _, fun y => ⟨fun h => absurd h (lvP_zero y), fun h => nomatch h⟩, rfl⟩)
    clear g1 hF b1 b2 b2' b3 b4 b4'
    go_wp2_with fail
    go_loopw [6] (fun v W => ∃ j : Nat, j ≤ N ∧ v = .int .i64 j ∧ Hid (KR w q j W)) (fun v _ => N - (intOf v).toNat)
    case atStart => exact ⟨0, by omega, rfl, START⟩
    case round =>
      clear START
      obtain ⟨j, hj, rfl, hK⟩ := hrel
      by_cases hlt : j < N
      · have b1 : decide ((j : Int) < N) = true := by simp; omega
        have b1' : decide (j < N) = true := by simp; omega
        have w3 : IntKind.i64.wrap ((j : Int) + 1) = (j : Int) + 1 := IntWalk.i64_in _ (by omega)
        have hE := kr_entry hK.out (by omega)
        clear hK
        go_wp2_with fail
        with_reducible refine hE.mono ?_
        rintro e w2 ⟨x, rfl, hx, h2⟩
        have b2 : decide ((0 : Int) < x) = true := by simp; omega
        have b2' : decide (0 < x) = true := by simp; omega
        have hI := kr_ins h2
        clear h2 hE
        go_wp2_with fail
        with_reducible refine hI.mono ?_
        rintro e w3 ⟨rfl, h3⟩
        have H3 := Lib.hid h3
        clear h3 hI
        go_wp2_with fail
        go_roundw
        case rel => exact ⟨j + 1, by omega, by go_num, H3⟩
        case measure => simp [intOf]; omega
      · obtain rfl : j = N := by omega
        have b1 : decide ((j : Int) < j) = false := by simp
        have b1' : decide (j < j) = false := by simp
        clear hlt
        go_wp2_with fail
        go_loopw [8] (fun v W => ∃ i : Nat, i ≤ K ∧ v = .int .i64 i ∧ Hid (KR w q j W)) (fun v _ => K - (intOf v).toNat)
        case atStart => exact ⟨0, by omega, rfl, hK⟩
        case round =>
          clear hK
          obtain ⟨i, hi, rfl, hK⟩ := hrel
          by_cases hlt : i < K
          · have b2 : decide ((i : Int) < K) = true := by simp; omega
            have b2' : decide (i < K) = true := by simp; omega
            have w3 : IntKind.i64.wrap ((i : Int) + 1) = (i : Int) + 1 := IntWalk.i64_in _ (by omega)
            have hE := kr_turn hK.out
            clear hK
            go_wp2_with fail
            with_reducible refine hE.mono ?_
            rintro e w2 ⟨x, rfl, h2⟩
            have H2 := Lib.hid h2
            clear h2 hE
            go_wp2_with fail
            go_roundw
            case rel => exact ⟨i + 1, by omega, by go_num, H2⟩
            case measure => simp [intOf]; omega
          · obtain rfl : i = K := by omega
            have b2 : decide ((i : Int) < i) = false := by simp
            have b2' : decide (i < i) = false := by simp
            have hA := kr_all hK.out
            have hw1 := hK.out.f.size
            clear hlt hK
            go_wp2_with fail
            with_reducible refine hA.mono ?_
            rintro e w4 ⟨v, R, D, S, E, rfl, hrow, hRl, hDl, hperm, hnd, hcyc, hrnd, hqb⟩
            obtain ⟨ad, cap, rfl, hrv⟩ := own_row hrow
            have hwas : 0 < R.length → ∃ g, ad = some ⟨g, 0, none⟩ ∧ g ∉ q.blocks ∧ RowI w4 g cap R := fun h0 => by
              obtain ⟨g, e, hg, hr⟩ := hrv h0
              exact ⟨g, e, fun hm => by have := hqb g hm; omega, hr⟩
            have HWAS := Lib.hid hwas
            have hq4 : ∀ k ∈ q.blocks, k < w4.heap.size := by
              obtain ⟨u, g, _⟩ := hrnd.g
              exact g.h.m.lt
            have HQ4 := Lib.hid hq4
            have hw4 : w.heap.size ≤ w4.heap.size := by
              obtain ⟨u, g, _⟩ := hrnd.g
              exact g.f.size
            have HGX := Lib.hid (show 5 ≤ w4.heap.size from Nat.le_trans hgx hw4)
            have HRND := Lib.hid hrnd
            have HP := Lib.hid hperm
            have HND := Lib.hid hnd
            have HCY := Lib.hid hcyc
            have HRL := Lib.hid hRl
            have HDL := Lib.hid hDl
            have ROWS := Lib.hid (show H2 w4.heap.size (.slice none 0 0) (.slice none 0 0) (R.take 0) (D.take 0) w4 from ⟨Rw.nil _ _, Rw.nil _ _, Dj.nilL _⟩)
            clear hA hrow hrv hwas hq4 hrnd hperm hnd hcyc hqb
            have hlen : R.length = j := hRl
            rw [hlen]
            clear hRl hDl hlen
            go_wp2_with fail
            go_loopw [10, 11, 12] (fun u1 u2 u3 W => ∃ i : Nat, i ≤ j ∧ u3 = .int .i64 i ∧ Hid (Rnd w q S R D E i W) ∧ Hid (H2 w4.heap.size u1 u2 (R.take i) (D.take i) W) ∧ Hid (Fr q.blocks w4 W)) (fun _ _ v _ => j - (intOf v).toNat)
            case atStart => exact ⟨0, by omega, rfl, HRND, ROWS, Lib.hid (Fr.refl _ _)⟩
            case round =>
              clear HRND ROWS
              obtain ⟨i, hi, rfl, hK, hH, hF⟩ := hrel
              by_cases hlt : i < j
              · have b2 : decide ((i : Int) < j) = true := by simp; omega
                have b2' : decide (i < j) = true := by simp; omega
                have w3 : IntKind.i64.wrap ((i : Int) + 1) = (i : Int) + 1 := IntWalk.i64_in _ (by omega)
                have hiR : i < R.length := by rw [HRL.out]; exact hlt
                have hiD : i < D.length := by rw [HDL.out]; exact hlt
                have hE := hK.out.turn hiR
                have hR0 : R ≠ [] := fun e => by rw [e] at hiR; exact absurd hiR (Nat.not_lt_zero _)
                have HBR := Lib.hid (fun V hV => rnd_brush (W := V) (w0 := w) (q := q) (S := S) (R := R) (E := E) (D := D) (i := i) hV hiD hR0 HCY.out)
                have TS1 := Lib.hid (take_snoc hiR)
                have TS2 := Lib.hid (take_snoc hiD)
                have l1 : (R.take i).length ≤ 1048576 := by rw [List.length_take]; omega
                have l2 : (D.take i).length ≤ 1048576 := by rw [List.length_take]; omega
                generalize R[i] = x at *
                generalize D[i] = y at *
                generalize R.take i = RA at hH TS1 l1
                generalize D.take i = DA at hH TS2 l2
                clear hK
                go_wp2_with fail
                with_reducible refine hE.mono ?_
                rintro e w5 ⟨rfl, h5, f5⟩
                have H5 := Lib.hid h5
                have F5 := Lib.hid (hF.out.trans f5)
                have ra := Lib.hid (hH.out.a.frq f5 HQ4.out)
                have rs := Lib.hid (hH.out.s.frq f5 HQ4.out)
                have hs5 := F5.out.size
                clear hE h5 f5
                go_wp2_with (first | (at_builtin; refine wpList_append2 rfl _ _ rfl rfl w4.heap.size _ _ rfl x w5 rfl ra.out rfl l1 hs5 ?_; intro g1 q1 W1 hO1 hF1 hob1) | fail)
                have hm1 : ∀ g ∈ ownS u10, w4.heap.size ≤ g := fun g hg => (ra.out.lt g (ownS_mem hg)).1
                have H6 := Lib.hid (show ∃ u, GU w q S (R.drop (i + 1) ++ R.take (i + 1)) ((D.drop i ++ D.take i).headD 0) u E W1 ∧ u.ft = 0 from by
                  obtain ⟨u, g, e⟩ := H5.out
                  exact ⟨u, g.own hF1 (fun g hg => (ra.out.lt g hg).1) HQ4.out HGX.out hw4, e⟩)
                have F6 := Lib.hid (F5.out.step hF1 (fun g hg => .inr (hm1 g hg)))
                have rs1 := Lib.hid (rs.out.dj hF1 hH.out.d)
                have d1 := Lib.hid (Rw.djN (n := RA.length + 1) (cap := q1) rs.out hob1 hH.out.d)
                have RA1 := Lib.hid (show Rw W1 w4.heap.size (.slice (some ⟨g1, 0, none⟩) (RA.length + 1) q1) (R.take (i + 1)) from by
                  rw [TS1.out]; exact hO1)
                clear hO1 hF1 hob1 H5 F5 hF hs5 ra rs
                have hB := HBR.out _ H6.out
                have hs6 := F6.out.size
                clear HBR H6
                go_wp2_with fail
                with_reducible refine hB.mono ?_
                rintro e w6 ⟨rfl, h6, f6⟩
                have H7 := Lib.hid h6
                have F7 := Lib.hid (F6.out.trans f6)
                have RA2 := Lib.hid (RA1.out.frq f6 HQ4.out)
                have rs2 := Lib.hid (rs1.out.frq f6 HQ4.out)
                have hs7 := F7.out.size
                clear hB h6 f6 RA1 rs1 F6 hs6
                go_wp2_with (first | (at_builtin; refine wpList_append2 rfl _ _ rfl rfl w4.heap.size _ _ rfl y w6 rfl rs2.out rfl l2 hs7 ?_; intro g2 q2 W2 hO2 hF2 hob2) | fail)
                have hm2 : ∀ g ∈ ownS u11, w4.heap.size ≤ g := fun g hg => (rs2.out.lt g (ownS_mem hg)).1
                have H8 := Lib.hid (show Rnd w q S R D E (i + 1) W2 from by
                  obtain ⟨u, g, e⟩ := H7.out.g
                  exact ⟨u, g.own hF2 (fun g hg => (rs2.out.lt g hg).1) HQ4.out HGX.out hw4, e⟩)
                have F8 := Lib.hid (F7.out.step hF2 (fun g hg => .inr (hm2 g hg)))
                have RB1 := Lib.hid (show Rw W2 w4.heap.size (.slice (some ⟨g2, 0, none⟩) (DA.length + 1) q2) (D.take (i + 1)) from by
                  rw [TS2.out]; exact hO2)
                have RA3 := Lib.hid (RA2.out.dj hF2 d1.out.symm)
                have d2 := Lib.hid (Rw.djN (n := DA.length + 1) (cap := q2) RA2.out hob2 d1.out.symm)
                clear hO2 hF2 hob2
                go_wp2_with fail
                go_roundw
                case rel => exact ⟨i + 1, by omega, by go_num, H8, Lib.hid ⟨RA3.out, RB1.out, d2.out.symm⟩, F8⟩
                case measure => simp [intOf]; omega
              · obtain rfl : i = j := by omega
                have b2 : decide ((i : Int) < i) = false := by simp
                have b2' : decide (i < i) = false := by simp
                clear hlt
                obtain ⟨v1, hv1⟩ : ∃ v, v = u10 := ⟨_, rfl⟩
                have hR1 := hH.out.a
                have hD1 := hH.out.s
                rw [List.take_of_length_le (by rw [HRL.out]; exact Nat.le_refl _)] at hR1
                rw [List.take_of_length_le (by rw [HDL.out]; exact Nat.le_refl _)] at hD1
                obtain ⟨ad1, cap1, e1, hr1⟩ := own_row hR1
                obtain ⟨ad2, cap2, e2, hr2⟩ := own_row hD1
                rw [HRL.out] at e1
                rw [HDL.out] at e2
                subst e1 e2
                have WAS := Lib.hid (show ∀ V, Fr q.blocks w4 V → RowV V 0 ad cap R from fun V hV h0 => by
                  obtain ⟨g, e, hg, hr⟩ := HWAS.out h0
                  exact ⟨g, e, Nat.zero_le _, hr.fr hV hg⟩)
                have HQl := Lib.hid (show ∀ k ∈ q.blocks, k < w4.heap.size from HQ4.out)
                have hSame := fun V b0 d c0 (hV : RowV V b0 d c0 R) (hf : Fr q.blocks w4 V) => r14same (l := R) hV (WAS.out V hf) (by rw [HRL.out]; omega)
                rw [HRL.out] at hSame
                have SAME := Lib.hid hSame
                have HR1 := Lib.hid hr1
                have HR2 := Lib.hid hr2
                have HALL := Lib.hid (fun V (hV : Rnd w q S R D E i V) => (show Calls Tryz.prog 44 #[.pointer (some ⟨q.m, 0, none⟩)] V fun e w' => ∃ ad cap, e = .returned (.slice ad i cap) ∧ RowV w' V.heap.size ad cap R ∧ GX w q S R ((D.drop i ++ D.take i).headD 0) 0 w' ∧ Fr q.blocks V w' from by
                  obtain ⟨u, g, e⟩ := hV.g
                  rw [List.drop_of_length_le (by rw [HRL.out]; exact Nat.le_refl _), List.take_of_length_le (by rw [HRL.out]; exact Nat.le_refl _), List.nil_append] at g
                  refine (u_all g).mono fun e' w' ⟨v, he, hv, g', hf⟩ => ?_
                  obtain ⟨ad, cap, rfl, hr⟩ := own_row hv
                  exact ⟨ad, cap, by rw [he, HRL.out], hr, ⟨u, E, g', e⟩, hf⟩))
                have HF := Lib.hid hF.out
                have c1 : ((i : Int) != i) = false := by simp
                have hS1 := SAME.out _ _ _ _ HR1.out hF.out
                have HRN := Lib.hid (fun V (hV : Fr [] wr V) => (show Rnd w q S R D E i V from by
                  obtain ⟨u, g, e⟩ := hK.out.g
                  exact ⟨u, g.fr0 hV, e⟩))
                clear hv1 hR1 hD1 hH hK hF hr1 hr2 hSame HWAS
                go_wp2_with fail
                with_reducible refine hS1.mono ?_
                rintro e w7 ⟨rfl, f7⟩
                have H7 := Lib.hid (HRN.out _ f7)
                have F7 := Lib.hid f7
                clear hS1 f7 HRN
                go_wp2_with fail
                with_reducible refine (HALL.out _ H7.out).mono ?_
                rintro e w8 ⟨adA, capA, rfl, rA, g8, f8⟩
                have F8 := Lib.hid (F7.out.nil.trans f8)
                have G8 := Lib.hid g8
                have hS2 := SAME.out _ _ _ _ rA (HF.out.trans F8.out)
                clear rA g8 f8 H7 HALL
                go_wp2_with fail
                with_reducible refine hS2.mono ?_
                rintro e w9 ⟨rfl, f9⟩
                have G9 := Lib.hid (G8.out.fr0 f9)
                have F9 := Lib.hid (F8.out.trans f9.nil)
                have W9 := Lib.hid (WAS.out _ (HF.out.trans F9.out))
                have B9 := Lib.hid (HR2.out.fr F9.out HQl.out)
                clear hS2 f9 SAME G8 F8 WAS HR1 HR2 F7 HF
                go_wp2_with fail
                go_loopw [13] (fun v W => ∃ s : Nat, s ≤ i ∧ v = .int .i64 s ∧ Hid (Fr [] w9 W)) (fun v _ => i - (intOf v).toNat)
                case atStart => exact ⟨0, by omega, rfl, Lib.hid (Fr.refl _ _)⟩
                case round =>
                  obtain ⟨s, hs, rfl, hF⟩ := hrel
                  by_cases hlt : s < i
                  · have b2 : decide ((s : Int) < i) = true := by simp; omega
                    have b2' : decide (s < i) = true := by simp; omega
                    have w3 : IntKind.i64.wrap ((s : Int) + 1) = (s : Int) + 1 := IntWalk.i64_in _ (by omega)
                    have hsR : s < R.length := by rw [HRL.out]; exact hlt
                    obtain ⟨gw, rfl, _, rw9⟩ := W9.out (by omega)
                    obtain ⟨gb, rfl, _, rb9⟩ := B9.out (by rw [HDL.out]; omega)
                    have RW := Lib.hid rw9
                    have RB := Lib.hid rb9
                    have CNT := Lib.hid (count_one HP.out HND.out (List.getElem_mem hsR))
                    have CW := Lib.hid (fun V (hV : Fr [] w9 V) q => ((rw9.fr hV (by simp)).drewN q).cell s hsR)
                    generalize R[s] = x at *
                    have hs0 : (0 : Int) ≤ s := by omega
                    have hs1 : (s : Int) < i := by omega
                    clear hlt rw9 rb9
                    go_wp2_with fail
                    go_loopw [14, 15] (fun u v W => ∃ k : Nat, k ≤ i ∧ u = .int .i64 ((D.take k).count x : Nat) ∧ v = .int .i64 k ∧ Hid (Fr [] w9 W)) (fun _ v _ => i - (intOf v).toNat)
                    case atStart => exact ⟨0, by omega, rfl, rfl, hF⟩
                    case round =>
                      clear hF
                      obtain ⟨k, hk, rfl, rfl, hF⟩ := hrel
                      by_cases hlt : k < i
                      · have b3 : decide ((k : Int) < i) = true := by simp; omega
                        have b3' : decide (k < i) = true := by simp; omega
                        have w4 : IntKind.i64.wrap ((k : Int) + 1) = (k : Int) + 1 := IntWalk.i64_in _ (by omega)
                        have hkD : k < D.length := by rw [HDL.out]; exact hlt
                        have cw := CW.out _ hF.out
                        have cb := fun q => ((RB.out.fr hF.out (by simp)).drewN q).cell k hkD
                        have hc := count_snoc D x k hkD
                        have hcl : (D.take k).count x ≤ k := by have := List.count_le_length (a := x) (l := D.take k); rw [List.length_take] at this; omega
                        have hk0 : (0 : Int) ≤ k := by omega
                        have hk1 : (k : Int) < i := by omega
                        generalize D[k] = y at *
                        generalize (D.take k).count x = c at *
                        have w5 : IntKind.i64.wrap ((c : Int) + 1) = (c : Int) + 1 := IntWalk.i64_in _ (by omega)
                        by_cases hxy : y = x
                        · subst hxy
                          have e1 : ((y : Int) == y) = true := by simp
                          rw [if_pos rfl] at hc
                          have HC := Lib.hid hc
                          clear hc
                          go_wp2_with fail
                          go_quiet (fail)
                          go_wp2_with fail
                          rename_i nq
                          go_roundw
                          case rel => exact ⟨k + 1, by omega, by rw [HC.out]; go_num, by go_num, Lib.hid (hF.out.drewN nq)⟩
                          case measure => simp [intOf]; omega
                        · have e1 : ((y : Int) == x) = false := by simp; omega
                          rw [if_neg hxy] at hc
                          have HC := Lib.hid hc
                          clear hc
                          go_wp2_with fail
                          go_quiet (fail)
                          go_wp2_with fail
                          rename_i nq
                          go_roundw
                          case rel => exact ⟨k + 1, by omega, by rw [HC.out]; rfl, by go_num, Lib.hid (hF.out.drewN nq)⟩
                          case measure => simp [intOf]; omega
                      · have ek : k = i := by omega
                        have b3 : decide ((k : Int) < i) = false := by simp; omega
                        have b3' : decide (k < i) = false := by simp; omega
                        have e1 : (D.take k).count x = 1 := by rw [List.take_of_length_le (by rw [HDL.out, ek]; exact Nat.le_refl _)]; exact CNT.out
                        have e2 : (((1 : Nat) : Int) != 1) = false := rfl
                        rw [e1]
                        clear hlt e1
                        go_wp2_with fail
                        go_roundw
                        case rel => exact ⟨s + 1, by omega, by go_num, hF⟩
                        case measure => simp [intOf]; omega
                  · have b2 : decide ((s : Int) < i) = false := by simp; omega
                    have b2' : decide (s < i) = false := by simp; omega
                    have hfl := x_flt (G9.out.fr0 hF.out)
                    clear hlt
                    go_wp2_with fail
                    with_reducible refine hfl.mono ?_
                    rintro e w10 ⟨rfl, g10, _⟩
                    have G10 := Lib.hid g10
                    have hTn := HL.out _ g10.f
                    clear g10 hfl
                    go_wp2_with fail
                    with_reducible refine hTn.mono ?_
                    rintro e w11 ⟨rfl, f11⟩
                    go_wp2_with fail
                    go_ret
                    exact ⟨rfl, G10.out.f.trans f11⟩
  · have hcase : ∃ x1 x2 x3 x4 : Bool, decide (n < 0) = x1 ∧ decide (100 < n) = x2 ∧ decide (k < 0) = x3 ∧ decide (300 < k) = x4 ∧ (x1 = true ∨ x2 = true ∨ x3 = true ∨ x4 = true) := by
      refine ⟨_, _, _, _, rfl, rfl, rfl, rfl, ?_⟩
      simp only [decide_eq_true_eq]
      omega
    clear hr hM hT
    obtain ⟨x1, x2, x3, x4, t1, t2, t3, t4, t5⟩ := hcase
    rcases x1 with _ | _
    · rcases x2 with _ | _
      · rcases x3 with _ | _
        · rcases x4 with _ | _
          · simp at t5
          · clear t5
            go_enter Tryz.func7, Tryz.ntmps7
            go_wp2_with fail
            with_reducible refine (HL.out _ (Fr.refl _ _)).mono ?_
            rintro e w1 ⟨rfl, f1⟩
            go_wp2_with fail
            go_ret
            exact ⟨rfl, f1⟩
        · clear t5
          go_enter Tryz.func7, Tryz.ntmps7
          go_wp2_with fail
          with_reducible refine (HL.out _ (Fr.refl _ _)).mono ?_
          rintro e w1 ⟨rfl, f1⟩
          go_wp2_with fail
          go_ret
          exact ⟨rfl, f1⟩
      · clear t5
        go_enter Tryz.func7, Tryz.ntmps7
        go_wp2_with fail
        with_reducible refine (HL.out _ (Fr.refl _ _)).mono ?_
        rintro e w1 ⟨rfl, f1⟩
        go_wp2_with fail
        go_ret
        exact ⟨rfl, f1⟩
    · clear t5
      go_enter Tryz.func7, Tryz.ntmps7
      go_wp2_with fail
      with_reducible refine (HL.out _ (Fr.refl _ _)).mono ?_
      rintro e w1 ⟨rfl, f1⟩
      go_wp2_with fail
      go_ret
      exact ⟨rfl, f1⟩
theorem walk_rroundW (w : World) (h : TabM w ∧ Tabs w) (n k : Int) : Calls Tryz.prog 7 #[.int .i64 n, .int .i64 k] w fun e w' => e = .returned (.bool true) ∧ Fr [] w w' := walk_rround w h.1 h.2 n k
end
end Go.Proofs.YtkapkbiccppldaaGreatDoor
