/- Layer 20: IndexFinds. -/
import Derived.Test.YtkapkbiccppldaaGreatDoorKI
import Derived.Test.YtkapkbiccppldaaGreatDoorKH
import Derived.Test.YtkapkbiccppldaaGreatDoorGA
import Derived.Lib.MinMax
namespace Go.Proofs.YtkapkbiccppldaaGreatDoor
set_option linter.unusedVariables false
set_option linter.unusedSimpArgs false
open Go.RowKit

/-- The two rows of the walk's own. -/
structure R2 (base : Nat) (v1 v2 : Value) (I O : List RB) (W : World) : Prop where
  a : Rk W base v1 I
  b : Rk W base v2 O
  d : Dj v1 v2
theorem R2.fr0 {base : Nat} {v1 v2 : Value} {I O : List RB} {W W' : World} (h : R2 base v1 v2 I O W) (hf : Fr [] W W') : R2 base v1 v2 I O W' := ⟨h.a.fr0 hf, h.b.fr0 hf, h.d⟩
theorem R2.frq {base : Nat} {v1 v2 : Value} {I O : List RB} {W W' : World} {S : List Nat} (h : R2 base v1 v2 I O W) (hf : Fr S W W') (hS : ∀ k ∈ S, k < base) : R2 base v1 v2 I O W' := ⟨h.a.frq hf hS, h.b.frq hf hS, h.d⟩
theorem cutB_len {L : List RB} {k : Nat} (h : k < L.length) : (cutB L k).length + 1 = L.length := by
  unfold cutB
  rw [List.length_append, List.length_take, List.length_drop]
  omega
section
set_option maxRecDepth 100000 in
set_option maxHeartbeats 8000000 in
theorem walk_ifinds (w : World) (hM : TabM w) (hT : Tabs w) (a : Option Addr) (c : Nat) (l : List A20) (h : ActA20 w a c l) :
    Calls Tryz.prog 10 #[.slice a l.length c] w fun e w' => e = .returned (.bool true) ∧ Fr [] w w' := by
  have HL := Lib.hid (fun (W : World) (hf : Fr [] w W) => names20 W (hM.fr hf (by simp)) (hT.fr hf (by simp)))
  by_cases hgd : 120 < l.length
  · have b1 : decide ((120 : Int) < l.length) = true := by simp only [decide_eq_true_eq]; omega
    have b1' : decide (120 < l.length) = true := by simp only [decide_eq_true_eq]; omega
    have hL := HL.out _ (Fr.refl _ w)
    generalize l.length = n at *
    clear hgd h
    go_enter Tryz.func10, Tryz.ntmps10
    go_wp2_with fail
    with_reducible refine hL.mono ?_
    rintro e w1 ⟨rfl, f1⟩
    go_wp2_with fail
    go_ret
    exact ⟨rfl, f1⟩
  have b1 : decide ((120 : Int) < l.length) = false := by simp only [decide_eq_false_iff_not]; omega
  have b1' : decide (120 < l.length) = false := by simp only [decide_eq_false_iff_not]; omega
  have HA := Lib.hid h
  have hFW := few20 a c l h
  have HFR := Lib.hid (fun (W : World) (hf : Fr [] w W) => fresh20 W (hM.fr hf (by simp)) (hT.fr hf (by simp)))
  have HFL := Lib.hid (show fewL l = true → ∀ d ∈ l, d.b.few = true from fun hf d hd => by
    obtain ⟨i, hi, rfl⟩ := List.mem_iff_getElem.1 hd
    unfold fewL at hf
    rw [Bool.and_eq_true, List.all_eq_true] at hf
    exact hf.1 _ (List.mem_take_iff_getElem.2 ⟨i, by omega, rfl⟩))
  generalize hf1 : fewL l = f1 at *
  generalize hnn : l.length = n at *
  have HN := Lib.hid hnn
  have hn120 : n ≤ 120 := by omega
  clear hgd h hM hT hnn hf1
  go_enter Tryz.func10, Tryz.ntmps10
  go_wp2_with fail
  with_reducible refine hFW.mono ?_
  rintro e w1 ⟨rfl, g1⟩
  have F1 := Lib.hid g1
  clear g1 hFW
  cases f1 with
  | false =>
    have hL := HL.out _ F1.out
    clear HFR HFL HA
    go_wp2_with fail
    with_reducible refine hL.mono ?_
    rintro e w2 ⟨rfl, f2⟩
    go_wp2_with fail
    go_ret
    exact ⟨rfl, F1.out.trans f2⟩
  | true =>
  have HFEW := Lib.hid (show ∀ d ∈ l, d.b.few = true from HFL.out (by first | exact rfl | trivial))
  clear HFL
  go_wp2_with fail
  with_reducible refine (HFR.out _ F1.out).mono ?_
  rintro e w2 ⟨q, u0, rfl, g2, h0⟩
  have START := Lib.hid (And.intro (f_start g2 h0) (show R2 w2.heap.size (.slice none 0 0) (.slice none 0 0) [] [] w2 from ⟨Rk.nil _ _, Rk.nil _ _, Dj.nilL _⟩))
  have HLT := Lib.hid (fun k (hk : k ∈ q.blocks) => (show k < w2.heap.size from START.out.1.lt k hk))
  have HOWN := Lib.hid (fun W W' I O v (hW : FI w1 q I O W) (hf : Fr (ownS v) W W') (hv : ∀ g, v.ownBlock = some g → w2.heap.size ≤ g) => (show FI w1 q I O W' from hW.frL hf (fun k hk => by
    have h1 := hv k (ownS_mem hk)
    have h2 := g2.gx
    have h3 := g2.f.size
    exact ⟨fun hm => by have := HLT.out k hm; omega, by omega, by omega⟩)))
  have HSZ := Lib.hid (fun W I O (hW : FI w1 q I O W) => (show w1.heap.size ≤ W.heap.size from hW.f.size))
  have FQ := Lib.hid (fun W (hW : Fr [] w1 W) => F1.out.trans hW)
  clear g2 h0 HFR
  go_wp2_with fail
  go_loopw [4, 5, 6] (fun v1 v2 v W => ∃ (j : Nat) (I O : List RB) (a1 a2 : Value), a1 = v1 ∧ a2 = v2 ∧ j ≤ n ∧ v = .int .i64 j ∧ I.length ≤ j ∧ O.length ≤ j ∧ FI w1 q I O W ∧ R2 w2.heap.size a1 a2 I O W ∧ w2.heap.size ≤ W.heap.size) (fun _ _ v _ => n - (intOf v).toNat)
  case atStart => exact ⟨0, [], [], _, _, rfl, rfl, by omega, rfl, by simp, by simp, START.out.1, START.out.2, Nat.le_refl _⟩
  case round =>
    clear START
    obtain ⟨j, I, O, v1, v2, rfl, rfl, hj, rfl, hI, hO, hK, hR, hbs⟩ := hrel
    have HK := Lib.hid hK
    have HR := Lib.hid hR
    obtain ⟨ad1, cap1, ev1, hr1⟩ := hR.a.row
    obtain ⟨ad2, cap2, ev2, hr2⟩ := hR.b.row
    subst ev1 ev2
    have HR1 := Lib.hid hr1
    have HR2 := Lib.hid hr2
    clear hK hR hr1 hr2
    by_cases hlt : j < n
    · have b1 : decide ((j : Int) < n) = true := by simp; omega
      have b1' : decide (j < n) = true := by simp; omega
      have w3 : IntKind.i64.wrap ((j : Int) + 1) = (j : Int) + 1 := IntWalk.i64_in _ (by omega)
      obtain ⟨B, off, rfl, hBl, hr⟩ := HA.out.row (by rw [HN.out]; omega)
      have hlt' : j < l.length := by rw [HN.out]; exact hlt
      have hrj := hr j hlt'
      have hok := HA.out.each _ (List.getElem_mem hlt')
      have hfew := HFEW.out _ (List.getElem_mem hlt')
      have FW := FQ.out _ HK.out.f
      generalize l[j]'hlt' = y at *
      obtain ⟨yk, yn, ⟨ya, yd, ym, yt, yl, yh⟩⟩ := y
      have cY0 := (FW.cell (p := ⟨B, off + j * 8 + 0, none⟩) hBl (by simp)).trans (hrj 0 (by decide))
      have cY1 := (FW.cell (p := ⟨B, off + j * 8 + 1, none⟩) hBl (by simp)).trans (hrj 1 (by decide))
      have cY2 := (FW.cell (p := ⟨B, off + j * 8 + 2, none⟩) hBl (by simp)).trans (hrj 2 (by decide))
      have cY3 := (FW.cell (p := ⟨B, off + j * 8 + 3, none⟩) hBl (by simp)).trans (hrj 3 (by decide))
      have cY4 := (FW.cell (p := ⟨B, off + j * 8 + 4, none⟩) hBl (by simp)).trans (hrj 4 (by decide))
      have cY5 := (FW.cell (p := ⟨B, off + j * 8 + 5, none⟩) hBl (by simp)).trans (hrj 5 (by decide))
      have cY6 := (FW.cell (p := ⟨B, off + j * 8 + 6, none⟩) hBl (by simp)).trans (hrj 6 (by decide))
      have cY7 := (FW.cell (p := ⟨B, off + j * 8 + 7, none⟩) hBl (by simp)).trans (hrj 7 (by decide))
      simp only [A20.cells, List.getElem?_cons_zero, List.getElem?_cons_succ, Nat.add_zero] at cY0 cY1 cY2 cY3 cY4 cY5 cY6 cY7
      have hg2 : (0 : Int) ≤ j := by omega
      have hg3 : (j : Int) < n := by omega
      have f0 : Fr [] wr (wr.alloc (.cells #[.int .i64 yk, .int .i64 yn, .int .i64 ya, .bool yd, .int .u32 ym, .int .u16 yt, .string (strOf yl), .int .u32 yh] 81)) := (Fr.refl [] wr).alloc _
      have K0 := Lib.hid (HK.out.fr0 f0)
      have R0 := Lib.hid (HR.out.fr0 f0)
      have S0 := Lib.hid (Nat.le_trans hbs f0.size)
      clear hr hrj FW HFEW HA
      by_cases hk : yk < 2 ∨ 3 < yk
      · obtain ⟨x1, h1⟩ : ∃ b : Bool, decide (yk < 2) = b := ⟨_, rfl⟩
        obtain ⟨x2, h2⟩ : ∃ b : Bool, decide (3 < yk) = b := ⟨_, rfl⟩
        have hx12 : x1 = true ∨ (x1 = false ∧ x2 = true) := by
          rw [← h1, ← h2]
          simp
          omega
        have hblk := f_blk K0.out ya yd ym yt yl yh hok.b hfew
        clear hok hfew hk f0 K0 HK HR
        rcases hx12 with rfl | ⟨rfl, rfl⟩
        all_goals
          go_wp2_with fail
          with_reducible refine hblk.mono ?_
          rintro e w4 ⟨x, rfl, f4, hxm, hx⟩
          have S4 := Lib.hid (Nat.le_trans S0.out f4.size)
          have R4 := Lib.hid ((R0.out.frq f4 HLT.out).fr0 ((Fr.refl [] w4).alloc (.cells #[.int .i64 x, .bool yd, .int .u32 ym, .int .u16 yt, .string (strOf yl), .int .u32 yh] 77)))
          have B4 := Lib.hid (Blk.new w4 77 #[.int .i64 x, .bool yd, .int .u32 ym, .int .u16 yt, .string (strOf yl), .int .u32 yh])
          have F4 := Lib.hid ((Fr.refl [] w4).alloc (.cells #[.int .i64 x, .bool yd, .int .u32 ym, .int .u16 yt, .string (strOf yl), .int .u32 yh] 77))
          clear hblk f4
          rcases hx with ⟨rfl, h4⟩ | ⟨hx, h4⟩
          · have b5 : decide ((0 : Int) < ((0 : Nat) : Int)) = false := rfl
            have H4 := Lib.hid (h4.fr0 F4.out)
            clear h4
            go_wp2_with fail
            go_roundw
            case rel => exact ⟨j + 1, I, O, _, _, rfl, rfl, by omega, by go_num, by omega, by omega, H4.out, R4.out, Nat.le_trans S4.out F4.out.size⟩
            case measure => simp [intOf]; omega
          · have b5 : decide ((0 : Int) < (x : Int)) = true := by simp; omega
            have b5' : decide (0 < x) = true := by simp; omega
            have hI5 := f_ins x (h4.fr0 F4.out) rfl
            have hql : w4.heap.size ∉ q.blocks := fun hm => by have := HLT.out _ hm; have := S4.out; omega
            clear h4
            go_wp2_with fail
            with_reducible refine hI5.mono ?_
            rintro e w5 ⟨rc, rfl, f5, hc⟩
            have R5 := Lib.hid (R4.out.frq f5 HLT.out)
            have B5 := Lib.hid (B4.out.fr f5 hql)
            have hS5 := Nat.le_trans (Nat.le_trans S4.out F4.out.size) f5.size
            clear hI5 f5
            rcases hc with ⟨hne, h5⟩ | ⟨rfl, h5⟩
            · have b6 : ((rc : Int) == 0) = false := by rw [beq_eq_false_iff_ne]; omega
              have b6' : (rc == 0) = false := by rw [beq_eq_false_iff_ne]; omega
              have H5 := Lib.hid h5
              clear h5 hne
              go_wp2_with fail
              go_roundw
              case rel => exact ⟨j + 1, I, O, _, _, rfl, rfl, by omega, by go_num, by omega, by omega, H5.out, R5.out, hS5⟩
              case measure => simp [intOf]; omega
            · have b6 : (((0 : Nat) : Int) == 0) = true := rfl
              have H5 := Lib.hid h5
              have c0 := B5.out.cell 0
              have c1 := B5.out.cell 1
              have c2 := B5.out.cell 2
              have c3 := B5.out.cell 3
              have c4 := B5.out.cell 4
              have c5 := B5.out.cell 5
              simp only [List.getElem?_toArray, List.getElem?_cons_zero, List.getElem?_cons_succ] at c0 c1 c2 c3 c4 c5
              have hl5 : I.length ≤ 1000000 := by omega
              clear h5
              go_wp2_with (first | (at_builtin; refine wpList_appK rfl _ _ rfl rfl w2.heap.size _ _ rfl ⟨x, yd, ym, yt, yl, yh⟩ w5 rfl R5.out.a rfl hl5 hS5 ?_; intro g1 q1 W1 hO1 hF1 hob1) | fail)
              have H6 := Lib.hid (HOWN.out _ _ _ _ _ H5.out hF1 (fun g e => (R5.out.a.lt g e).1))
              have R6 := Lib.hid (show R2 w2.heap.size (.slice (some ⟨g1, 0, none⟩) (I.length + 1) q1) (.slice ad2 O.length cap2) (I ++ [⟨x, yd, ym, yt, yl, yh⟩]) O W1 from ⟨hO1, R5.out.b.dj hF1 R5.out.d, Rk.djN R5.out.b hob1 R5.out.d⟩)
              have S6 := Lib.hid (Nat.le_trans hS5 hF1.size)
              clear hO1 hF1 hob1 c0 c1 c2 c3 c4 c5 hS5
              go_roundw
              case rel => exact ⟨j + 1, _, O, _, _, rfl, rfl, by omega, by go_num, by rw [List.length_append]; simp; omega, by omega, H6.out, R6.out, S6.out⟩
              case measure => simp [intOf]; omega
      · have h1 : decide (yk < 2) = false := by simp; omega
        have h2 : decide (3 < yk) = false := by simp; omega
        clear hok hfew
        by_cases hno : I.length = 0 ∨ yn < 0
        · obtain ⟨x1, h3, h3'⟩ : ∃ b : Bool, decide ((0 : Int) < I.length) = b ∧ decide (0 < I.length) = b := ⟨decide (0 < I.length), by simp, rfl⟩
          obtain ⟨x2, h4⟩ : ∃ b : Bool, decide (0 ≤ yn) = b := ⟨_, rfl⟩
          have hx12 : x1 = false ∨ (x1 = true ∧ x2 = false) := by
            rw [← h3', ← h4]
            rcases hno with e | e
            · exact .inl (decide_eq_false (by omega))
            · by_cases h0 : I.length = 0
              · exact .inl (decide_eq_false (by omega))
              · exact .inr ⟨decide_eq_true (by omega), decide_eq_false (by omega)⟩
          clear hno hk
          rcases hx12 with rfl | ⟨rfl, rfl⟩
          all_goals
            go_wp2_with fail
            go_roundw
            case rel => exact ⟨j + 1, I, O, _, _, rfl, rfl, by omega, by go_num, by omega, by omega, K0.out, R0.out, S0.out⟩
            case measure => simp [intOf]; omega
        · have hI0 : 0 < I.length := by omega
          have hyn : 0 ≤ yn := by omega
          have hkI := nthZ_lt yn I.length hI0
          have t0 : yn.tmod I.length = ((nthZ yn I.length : Nat) : Int) := by
            unfold nthZ
            have := Int.tmod_nonneg (I.length : Int) hyn
            omega
          have t1 := (tmod_in yn I.length hI0 (by omega)).1
          rw [t0] at t1
          have h3 : decide ((0 : Int) < I.length) = true := by simp; omega
          have h3' : decide (0 < I.length) = true := by simp; omega
          have h4 : decide (0 ≤ yn) = true := by simp; omega
          have t4 : ((I.length : Int) == 0) = false := beq_eq_false_iff_ne.2 (by omega)
          have t4' : (I.length == 0) = false := beq_eq_false_iff_ne.2 (by omega)
          generalize nthZ yn I.length = k at *
          obtain ⟨x, hx, hdel⟩ := f_del K0.out k hkI
          obtain ⟨g1, rfl, hb1, hrow⟩ := HR1.out hI0
          have hg1q : g1 ∉ q.blocks := fun hm => by have := HLT.out _ hm; omega
          have CC := Lib.hid (fun V S (hV : Fr S wr V) (hS : g1 ∉ S) => (show V.cell? ⟨g1, k * 6, none⟩ = some (.int .i64 I[k].at_) ∧ V.cell? ⟨g1, k * 6 + 1, none⟩ = some (.bool I[k].nd) ∧ V.cell? ⟨g1, k * 6 + 2, none⟩ = some (.int .u32 I[k].nm) ∧ V.cell? ⟨g1, k * 6 + 3, none⟩ = some (.int .u16 I[k].ty) ∧ V.cell? ⟨g1, k * 6 + 4, none⟩ = some (.string (strOf I[k].lab)) ∧ V.cell? ⟨g1, k * 6 + 5, none⟩ = some (.int .u32 I[k].hs) from by
            have hr := hrow.fr hV hS
            exact ⟨hr.cell k hkI 0 (by decide), hr.cell k hkI 1 (by decide), hr.cell k hkI 2 (by decide), hr.cell k hkI 3 (by decide), hr.cell k hkI 4 (by decide), hr.cell k hkI 5 (by decide)⟩))
          generalize hel : I[k] = el at *
          obtain ⟨ea, ed, em, et, eb, eh⟩ := el
          simp only at hx CC
          subst hx
          have d0 := (CC.out _ _ f0 (by simp)).1
          have k0 : (0 : Int) ≤ k := by omega
          have k1 : (k : Int) < I.length := by omega
          have hI8 : I.length ≤ 1000000 := by omega
          have hO8 : O.length ≤ 1000000 := by omega
          have FW0 := Lib.hid (f0.nil (S := q.blocks))
          clear hno hk hrow f0 HK HR
          go_wp2_with fail
          with_reducible refine hdel.mono ?_
          rintro e w5 ⟨rfl, f5, h5⟩
          have H5 := Lib.hid h5
          have R5 := Lib.hid (R0.out.frq f5 HLT.out)
          have hS5 := Nat.le_trans S0.out f5.size
          obtain ⟨c0, c1, c2, c3, c4, c5⟩ := CC.out _ _ (FW0.out.trans f5) hg1q
          clear hdel f5 h5 d0 FW0
          go_wp2_with (first | (at_builtin; refine wpList_appK rfl _ _ rfl rfl w2.heap.size _ _ rfl ⟨x, ed, em, et, eb, eh⟩ w5 rfl R5.out.b rfl hO8 hS5 ?_; intro g2 q2 W1 hO1 hF1 hob1) | fail)
          have H6 := Lib.hid (HOWN.out _ _ _ _ _ H5.out hF1 (fun g e => (R5.out.b.lt g e).1))
          have hra := R5.out.a.dj hF1 R5.out.d.symm
          have RO := Lib.hid hO1
          have S6 := Lib.hid (Nat.le_trans hS5 hF1.size)
          have u0 : (0 : Int) ≤ k := by omega
          have u3 : (k : Int) + 1 ≤ I.length := by omega
          have u3' : k + 1 ≤ I.length := by omega
          have u5 : IntKind.i64.wrap ((k : Int) + 1) = (k : Int) + 1 := IntWalk.i64_in _ (by omega)
          have u6 : (0 : Int) ≤ (k : Int) + 1 := by omega
          have u8 : ((k : Int) + 1).toNat = k + 1 := by omega
          obtain ⟨ad3, cap3, ev3, hr3⟩ := hra.row
          obtain ⟨g3, e3, _, hrow3⟩ := hr3 hI0
          injection ev3 with ev3 _ ev4
          rw [e3] at ev3
          injection ev3 with ev3
          injection ev3 with ev3
          subst ev3 ev4
          have HRW := Lib.hid hrow3
          have hcl := cutB_len hkI
          clear hO1 hF1 hob1 c0 c1 c2 c3 c4 c5 hS5 hra hr3 hrow3 R5 R0 H5 CC e3 hel
          as_aux_lemma =>
            obtain ⟨va1, wa1, vb1, wd1, E11, E21, O91, fc1⟩ := cut_runB HRW.out hkI (by omega)
            have hcap1 := HRW.out.le
            have HE11 := Lib.hid E11
            have HE21 := Lib.hid E21
            have HO91 := Lib.hid O91
            have u1 : (k : Int) ≤ cap1 := by omega
            have u1' : k ≤ cap1 := by omega
            have u4 : (I.length : Int) ≤ cap1 := by omega
            have u4' : I.length ≤ cap1 := by omega
            clear E11 E21 O91
            generalize hc2 : (if cap1 - (k + 1) = 0 then (some ⟨g1, 0, none⟩ : Option Addr) else some ⟨g1, (k + 1) * 6, none⟩) = adx1 at *
            have hc3 : (if cap1 = k + 1 then (some ⟨g1, 0, none⟩ : Option Addr) else some ⟨g1, (k + 1) * 6, none⟩) = adx1 := by
              rw [← hc2]
              by_cases e : cap1 = k + 1
              · rw [if_pos e, if_pos (by omega)]
              · rw [if_neg e, if_neg (by omega)]
            go_wp2_with fail
            refine wp_region_held_drew (S := fun _ => True) (by kernel_rfl) (trivial) (fun hHeld => ?_)
            refine wpAnyH_take (i := 1) (oi := ?ooc10) (v := ?vvc10) ?hic10 (by kernel_rfl) (by kernel_rfl) (by kernel_rfl) ?hqc10 (Or.inl ⟨?hwc10, ?hhc10⟩) hHeld ?rrc10
            case hic10 => (simp only [List.getElem?_toArray, List.getElem?_cons_zero, List.getElem?_cons_succ]; rfl)
            case hqc10 => exact fun _ _ _ h => h
            case hwc10 => rfl
            case hhc10 => (intro w hSw; (try dsimp only at hSw); go_simp; try with_reducible rfl)
            try simp only [Act.put, List.setIfInBounds_toArray, List.set_cons_zero, List.set_cons_succ]
            refine wpAnyH_take (i := 2) (oi := ?ooc11) (v := ?vvc11) ?hic11 (by kernel_rfl) (by kernel_rfl) (by kernel_rfl) ?hqc11 (Or.inl ⟨?hwc11, ?hhc11⟩) hHeld ?rrc11
            case hic11 => (simp only [List.getElem?_toArray, List.getElem?_cons_zero, List.getElem?_cons_succ]; rfl)
            case hqc11 => exact fun _ _ _ h => h
            case hwc11 => rfl
            case hhc11 => (intro w hSw; (try dsimp only at hSw); go_simp; try with_reducible rfl)
            try simp only [Act.put, List.setIfInBounds_toArray, List.set_cons_zero, List.set_cons_succ]
            refine wpAnyH_take (i := 3) (oi := ?ooc12) (v := ?vvc12) ?hic12 (by kernel_rfl) (by kernel_rfl) (by kernel_rfl) ?hqc12 (Or.inl ⟨?hwc12, ?hhc12⟩) hHeld ?rrc12
            case hic12 => (simp only [List.getElem?_toArray, List.getElem?_cons_zero, List.getElem?_cons_succ]; rfl)
            case hqc12 => exact fun _ _ _ h => h
            case hwc12 => rfl
            case hhc12 => (intro w hSw; (try dsimp only at hSw); go_simp; try with_reducible rfl)
            try simp only [Act.put, List.setIfInBounds_toArray, List.set_cons_zero, List.set_cons_succ]
            refine wpAnyH_take (i := 5) (oi := ?ooc13) (v := ?vvc13) ?hic13 (by kernel_rfl) (by kernel_rfl) (by kernel_rfl) ?hqc13 (Or.inl ⟨?hwc13, ?hhc13⟩) hHeld ?rrc13
            case hic13 => (simp only [List.getElem?_toArray, List.getElem?_cons_zero, List.getElem?_cons_succ]; rfl)
            case hqc13 => exact fun _ _ _ h => h
            case hwc13 => rfl
            case hhc13 => (intro w hSw; (try dsimp only at hSw); go_simp; try with_reducible rfl)
            try simp only [Act.put, List.setIfInBounds_toArray, List.set_cons_zero, List.set_cons_succ]
            refine wpAnyH_take (i := 6) (oi := ?ooc14) (v := ?vvc14) ?hic14 (by kernel_rfl) (by kernel_rfl) (by kernel_rfl) ?hqc14 (Or.inl ⟨?hwc14, ?hhc14⟩) hHeld ?rrc14
            case hic14 => (simp only [List.getElem?_toArray, List.getElem?_cons_zero, List.getElem?_cons_succ]; rfl)
            case hqc14 => exact fun _ _ _ h => h
            case hwc14 => rfl
            case hhc14 => (intro w hSw; (try dsimp only at hSw); go_simp; try with_reducible rfl)
            try simp only [Act.put, List.setIfInBounds_toArray, List.set_cons_zero, List.set_cons_succ]
            refine wpAnyH_take (i := 7) (oi := ?ooc15) (v := ?vvc15) ?hic15 (by kernel_rfl) (by kernel_rfl) (by kernel_rfl) ?hqc15 (Or.inl ⟨?hwc15, ?hhc15⟩) hHeld ?rrc15
            case hic15 => (simp only [List.getElem?_toArray, List.getElem?_cons_zero, List.getElem?_cons_succ]; rfl)
            case hqc15 => exact fun _ _ _ h => h
            case hwc15 => rfl
            case hhc15 => (intro w hSw; (try dsimp only at hSw); go_simp; try with_reducible rfl)
            try simp only [Act.put, List.setIfInBounds_toArray, List.set_cons_zero, List.set_cons_succ]
            refine wpAnyH_take (i := 8) (oi := ?ooc16) (v := ?vvc16) ?hic16 (by kernel_rfl) (by kernel_rfl) (by kernel_rfl) ?hqc16 (Or.inl ⟨?hwc16, ?hhc16⟩) hHeld ?rrc16
            case hic16 => (simp only [List.getElem?_toArray, List.getElem?_cons_zero, List.getElem?_cons_succ]; rfl)
            case hqc16 => exact fun _ _ _ h => h
            case hwc16 => rfl
            case hhc16 => (intro w hSw; (try dsimp only at hSw); go_simp; try with_reducible rfl)
            try simp only [Act.put, List.setIfInBounds_toArray, List.set_cons_zero, List.set_cons_succ]
            refine wpAnyH_ready (rs := [0]) (by kernel_rfl) (by simp) ?_
            refine AllReadyH.cons (o := ?ooc17) ?hic17 (fun K hK => ?hcc17) AllReadyH.nil
            case hic17 => (simp only [List.getElem?_toArray, List.getElem?_cons_zero, List.getElem?_cons_succ]; rfl)
            go_simp
            refine hK.out _ _ (trivial) (fun hHeld => ?_)
            clear hK K
            try simp only [Act.put, List.setIfInBounds_toArray, List.set_cons_zero, List.set_cons_succ]
            refine wpAnyH_ready (rs := [4]) (by kernel_rfl) (by simp) ?_
            refine AllReadyH.cons (o := ?ooc18) ?hic18 (fun K hK => ?hcc18) AllReadyH.nil
            case hic18 => (simp only [List.getElem?_toArray, List.getElem?_cons_zero, List.getElem?_cons_succ]; rfl)
            refine oper_app (.tmp 93) (.tmp 96) 84 rfl rfl _ _ _ _ (by simp [Act.eval, Act.put]) (by simp [Act.eval, Act.put]) HE11.out ?_
            refine hK.out _ _ (trivial) (fun hHeld => ?_)
            clear hK K
            try simp only [Act.put, List.setIfInBounds_toArray, List.set_cons_zero, List.set_cons_succ]
            refine wpAnyH_ready (rs := [9]) (by kernel_rfl) (by simp) ?_
            refine AllReadyH.cons (o := ?ooc19) ?hic19 (fun K hK => ?hcc19) AllReadyH.nil
            case hic19 => (simp only [List.getElem?_toArray, List.getElem?_cons_zero, List.getElem?_cons_succ]; rfl)
            refine oper_app (.tmp 97) (.tmp 101) 84 rfl rfl _ _ _ _ (by simp [Act.eval, Act.put]) (by simp [Act.eval, Act.put, hc3]) HE21.out ?_
            refine hK.out _ _ (trivial) (fun hHeld => ?_)
            clear hK K
            try simp only [Act.put, List.setIfInBounds_toArray, List.set_cons_zero, List.set_cons_succ]
            refine wpAnyH_take (i := 10) (oi := ?ooc110) (v := ?vvc110) ?hic110 (by kernel_rfl) (by kernel_rfl) (by kernel_rfl) ?hqc110 (Or.inl ⟨?hwc110, ?hhc110⟩) hHeld ?rrc110
            case hic110 => (simp only [List.getElem?_toArray, List.getElem?_cons_zero, List.getElem?_cons_succ]; rfl)
            case hqc110 => exact fun _ _ _ h => h
            case hwc110 => rfl
            case hhc110 => (intro w hSw; (try dsimp only at hSw); go_simp; try with_reducible rfl)
            try simp only [Act.put, List.setIfInBounds_toArray, List.set_cons_zero, List.set_cons_succ]
            refine wpAnyH_done (by kernel_rfl) ?_ _
            try simp only [Act.put, List.getElem_toArray, List.getElem_cons_zero, List.getElem_cons_succ, List.setIfInBounds_toArray, List.set_cons_zero, List.set_cons_succ]
            have R9 := Lib.hid (show R2 w2.heap.size vb1 (.slice (some ⟨g2, 0, none⟩) (O.length + 1) q2) (cutB I k) (O ++ [⟨x, ed, em, et, eb, eh⟩]) wd1 from
              ⟨HO91.out.lo S6.out, RO.out.fr0 fc1, (Rk.dj_lt RO.out HO91.out (Nat.le_refl _)).symm⟩)
            have H9 := Lib.hid (H6.out.fr0 fc1)
            have S9 := Lib.hid (Nat.le_trans S6.out fc1.size)
            clear HO91 fc1 HE11 HE21 u1 u1' u4 u4' hc2 hc3
            go_wp2_with fail
            go_roundw
            case rel => exact ⟨j + 1, _, _, _, _, rfl, rfl, by omega, by go_num, by omega, by rw [List.length_append]; simp; omega, H9.out, R9.out, S9.out⟩
            case measure => simp [intOf]; omega
    · have b1 : decide ((j : Int) < n) = false := by simp; omega
      have b1' : decide (j < n) = false := by simp; omega
      have HND := Lib.hid (show (I.map RB.at_).Nodup from by
        obtain ⟨S, L, u, E, B, _, r⟩ := HK.out
        exact r.nd)
      have HM2 := Lib.hid (And.intro HK.out (And.intro HR.out hbs))
      have hI8 : I.length ≤ 1000000 := by omega
      have hO8 : O.length ≤ 1000000 := by omega
      clear HFEW HA hlt HR1 HR2 HK HR HOWN HSZ hbs
      go_wp2_with fail
      go_loopw [10] (fun v W => ∃ p : Nat, p ≤ I.length ∧ v = .int .i64 p ∧ FI w1 q I O W ∧ R2 w2.heap.size (.slice ad1 I.length cap1) (.slice ad2 O.length cap2) I O W ∧ w2.heap.size ≤ W.heap.size) (fun v _ => I.length - (intOf v).toNat)
      case atStart => exact ⟨0, by omega, rfl, HM2.out.1, HM2.out.2.1, HM2.out.2.2⟩
      case round =>
        clear HM2
        obtain ⟨p, hp, rfl, hK, hR, hbs⟩ := hrel
        have HK := Lib.hid hK
        have HR := Lib.hid hR
        obtain ⟨ad3, cap3, ev3, hr3⟩ := hR.a.row
        injection ev3 with ev3 _ ev4
        subst ev3 ev4
        have hg2 : (0 : Int) ≤ p := by omega
        have w3 : IntKind.i64.wrap ((p : Int) + 1) = (p : Int) + 1 := IntWalk.i64_in _ (by omega)
        clear hK hR
        by_cases hlt2 : p < I.length
        · have b2 : decide ((p : Int) < I.length) = true := by simp; omega
          have b2' : decide (p < I.length) = true := by simp; omega
          have hg3 : (p : Int) < I.length := by omega
          obtain ⟨g1, rfl, hb1, hrow⟩ := hr3 (by omega)
          have hg1q : g1 ∉ q.blocks := fun hm => by have := HLT.out _ hm; omega
          have c0 := hrow.cell p hlt2 0 (by decide)
          have c1 := hrow.cell p hlt2 1 (by decide)
          have c2 := hrow.cell p hlt2 2 (by decide)
          have c3 := hrow.cell p hlt2 3 (by decide)
          have c4 := hrow.cell p hlt2 4 (by decide)
          have c5 := hrow.cell p hlt2 5 (by decide)
          have hmem := List.getElem_mem hlt2
          have hok : I[p].Ok := by
            obtain ⟨S, L, u, E, B, _, r⟩ := HK.out
            obtain ⟨x, k, _⟩ := r.i _ hmem
            exact k.ok
          generalize I[p] = el at *
          obtain ⟨ba, bd, bm, bt, bl, bh⟩ := el
          simp only [RB.cl, List.getElem?_cons_zero, List.getElem?_cons_succ, Nat.add_zero] at c0 c1 c2 c3 c4 c5
          have f0 : Fr [] wr (wr.alloc (.cells #[.int .i64 ba, .bool bd, .int .u32 bm, .int .u16 bt, .string (strOf bl), .int .u32 bh] 77)) := (Fr.refl [] wr).alloc _
          have B0 := Lib.hid (Blk.new wr 77 #[.int .i64 ba, .bool bd, .int .u32 bm, .int .u16 bt, .string (strOf bl), .int .u32 bh])
          have K0 := Lib.hid (HK.out.fr0 f0)
          have R0 := Lib.hid (HR.out.fr0 f0)
          have S0 := Lib.hid (Nat.le_trans hbs f0.size)
          have RW0 := Lib.hid (hrow.fr f0 (by simp))
          have hql : wr.heap.size ∉ q.blocks := fun hm => by have := HLT.out _ hm; omega
          have HPL := Lib.hid (fun V (hV : FI w1 q I O V) => f_in hV hmem ba rfl)
          have HAL := Lib.hid (fun V z (hr : RowK V g1 cap1 I) h => w_alike V (some ⟨g1, 0, none⟩) cap1 I (fun _ => ⟨g1, rfl, hr⟩) (by omega) HND.out z ba bd bm bt bl bh h)
          clear hrow f0 hr3 HK HR
          cases bd with
          | false =>
            have hent := f_entry K0.out ba bm bt bl bh hmem
            clear hmem hok
            go_wp2_with fail
            with_reducible refine hent.mono ?_
            rintro e w5 ⟨z, rfl, f5, h5, hz⟩
            have Z5 := Lib.hid hz
            have hpl := HPL.out _ h5
            have B5 := Lib.hid (B0.out.fr f5 hql)
            have R5 := Lib.hid (R0.out.frq f5 HLT.out)
            have RW5 := Lib.hid (RW0.out.fr f5 hg1q)
            have S5 := Lib.hid (Nat.le_trans S0.out f5.size)
            have d0 := B5.out.cell 0
            have d1 := B5.out.cell 1
            simp only [List.getElem?_toArray, List.getElem?_cons_zero, List.getElem?_cons_succ] at d0 d1
            clear hent h5 f5 hz c0 c1 c2 c3 c4 c5
            go_wp2_with fail
            with_reducible refine hpl.mono ?_
            rintro e w6 ⟨i, rfl, f6, h6⟩
            have H6 := Lib.hid h6
            have B6 := Lib.hid (B5.out.fr f6 hql)
            have R6 := Lib.hid (R5.out.frq f6 HLT.out)
            have S6 := Lib.hid (Nat.le_trans S5.out f6.size)
            have hal := HAL.out _ z (RW5.out.fr f6 hg1q) Z5.out
            have d0 := B6.out.cell 0
            have d1 := B6.out.cell 1
            have d2 := B6.out.cell 2
            have d3 := B6.out.cell 3
            have d4 := B6.out.cell 4
            have d5 := B6.out.cell 5
            simp only [List.getElem?_toArray, List.getElem?_cons_zero, List.getElem?_cons_succ] at d0 d1 d2 d3 d4 d5
            clear hpl h6 f6
            go_wp2_with fail
            with_reducible refine hal.mono ?_
            rintro e w7 ⟨rfl, f7⟩
            have H7 := Lib.hid (H6.out.fr0 f7)
            have R7 := Lib.hid (R6.out.fr0 f7)
            have S7 := Lib.hid (Nat.le_trans S6.out f7.size)
            clear hal f7 d0 d1 d2 d3 d4 d5
            go_wp2_with fail
            go_roundw
            case rel => exact ⟨p + 1, by omega, by go_num, H7.out, R7.out, S7.out⟩
            case measure => simp [intOf]; omega
          | true =>
            have hent := f_any K0.out bm bt bh hok.nm hok.ty hok.hs
            have HNO := Lib.hid (fun V (hV : FI w1 q I O V) => f_node hV ba bm bt bl bh hmem)
            clear hmem hok
            go_wp2_with fail
            with_reducible refine hent.mono ?_
            rintro e w4 ⟨z0, k0, rfl, f4, h4⟩
            have hno := HNO.out _ h4
            have B4 := Lib.hid (B0.out.fr f4 hql)
            have R4 := Lib.hid (R0.out.frq f4 HLT.out)
            have RW4 := Lib.hid (RW0.out.fr f4 hg1q)
            have S4 := Lib.hid (Nat.le_trans S0.out f4.size)
            have d1 := B4.out.cell 1
            have d2 := B4.out.cell 2
            have d4 := B4.out.cell 4
            have d5 := B4.out.cell 5
            simp only [List.getElem?_toArray, List.getElem?_cons_zero, List.getElem?_cons_succ] at d1 d2 d4 d5
            clear hent h4 f4 c0 c1 c2 c3 c4 c5
            go_wp2_with fail
            with_reducible refine hno.mono ?_
            rintro e w5 ⟨z, rfl, f5, h5, hz⟩
            have Z5 := Lib.hid hz
            have hpl := HPL.out _ h5
            have B5 := Lib.hid (B4.out.fr f5 hql)
            have R5 := Lib.hid (R4.out.frq f5 HLT.out)
            have RW5 := Lib.hid (RW4.out.fr f5 hg1q)
            have S5 := Lib.hid (Nat.le_trans S4.out f5.size)
            have d0 := B5.out.cell 0
            simp only [List.getElem?_toArray, List.getElem?_cons_zero, List.getElem?_cons_succ] at d0
            clear hno h5 f5 hz d1 d2 d4 d5
            go_wp2_with fail
            with_reducible refine hpl.mono ?_
            rintro e w6 ⟨i, rfl, f6, h6⟩
            have H6 := Lib.hid h6
            have B6 := Lib.hid (B5.out.fr f6 hql)
            have R6 := Lib.hid (R5.out.frq f6 HLT.out)
            have S6 := Lib.hid (Nat.le_trans S5.out f6.size)
            have hal := HAL.out _ z (RW5.out.fr f6 hg1q) Z5.out
            have d0 := B6.out.cell 0
            have d1 := B6.out.cell 1
            have d2 := B6.out.cell 2
            have d3 := B6.out.cell 3
            have d4 := B6.out.cell 4
            have d5 := B6.out.cell 5
            simp only [List.getElem?_toArray, List.getElem?_cons_zero, List.getElem?_cons_succ] at d0 d1 d2 d3 d4 d5
            clear hpl h6 f6
            go_wp2_with fail
            with_reducible refine hal.mono ?_
            rintro e w7 ⟨rfl, f7⟩
            have H7 := Lib.hid (H6.out.fr0 f7)
            have R7 := Lib.hid (R6.out.fr0 f7)
            have S7 := Lib.hid (Nat.le_trans S6.out f7.size)
            clear hal f7 d0 d1 d2 d3 d4 d5
            go_wp2_with fail
            go_roundw
            case rel => exact ⟨p + 1, by omega, by go_num, H7.out, R7.out, S7.out⟩
            case measure => simp [intOf]; omega
        · have b2 : decide ((p : Int) < I.length) = false := by simp; omega
          have b2' : decide (p < I.length) = false := by simp; omega
          have HM3 := Lib.hid (And.intro HK.out (And.intro HR.out hbs))
          clear hlt2 HK HR hr3 HND hbs
          go_wp2_with fail
          go_loopw [16] (fun v W => ∃ r : Nat, r ≤ O.length ∧ v = .int .i64 r ∧ FI w1 q I O W ∧ R2 w2.heap.size (.slice ad1 I.length cap1) (.slice ad2 O.length cap2) I O W) (fun v _ => O.length - (intOf v).toNat)
          case atStart => exact ⟨0, by omega, rfl, HM3.out.1, HM3.out.2.1⟩
          case round =>
            clear HM3
            obtain ⟨r, hr, rfl, hK, hR⟩ := hrel
            have hg4 : (0 : Int) ≤ r := by omega
            have w4 : IntKind.i64.wrap ((r : Int) + 1) = (r : Int) + 1 := IntWalk.i64_in _ (by omega)
            by_cases hlt3 : r < O.length
            · have b3 : decide ((r : Int) < O.length) = true := by simp; omega
              have b3' : decide (r < O.length) = true := by simp; omega
              have hg5 : (r : Int) < O.length := by omega
              obtain ⟨ad3, cap3, ev3, hr3⟩ := hR.b.row
              injection ev3 with ev3 _ ev4
              subst ev3 ev4
              obtain ⟨g1, rfl, hb1, hrow⟩ := hr3 (by omega)
              have c0 := hrow.cell r hlt3 0 (by decide)
              have hou := f_out hK (List.getElem_mem hlt3) _ rfl
              have HR := Lib.hid hR
              generalize O[r] = el at *
              obtain ⟨ba, bd, bm, bt, bl, bh⟩ := el
              simp only [RB.cl, List.getElem?_cons_zero, Nat.add_zero] at c0 hou
              clear hrow hr3 hK hR
              go_wp2_with fail
              with_reducible refine hou.mono ?_
              rintro e w5 ⟨rfl, f5, h5⟩
              have H5 := Lib.hid h5
              have R5 := Lib.hid (HR.out.frq f5 HLT.out)
              clear hou h5 f5
              go_wp2_with fail
              go_roundw
              case rel => exact ⟨r + 1, by omega, by go_num, H5.out, R5.out⟩
              case measure => simp [intOf]; omega
            · have b3 : decide ((r : Int) < O.length) = false := by simp; omega
              have b3' : decide (r < O.length) = false := by simp; omega
              have hfl := f_flt hK
              clear hK hR hlt3
              go_wp2_with fail
              with_reducible refine hfl.mono ?_
              rintro e w5 ⟨rfl, f5, h5⟩
              have F5 := Lib.hid (FQ.out _ h5.f)
              have hL := HL.out _ F5.out
              clear hfl f5 h5
              go_wp2_with fail
              with_reducible refine hL.mono ?_
              rintro e w6 ⟨rfl, f6⟩
              go_wp2_with fail
              go_ret
              exact ⟨rfl, F5.out.trans f6⟩
theorem walk_ifindsW (w : World) (h : TabM w ∧ Tabs w) (a : Option Addr) (c : Nat) (l : List A20) (hl : ActA20 w a c l) : Calls Tryz.prog 10 #[.slice a l.length c] w fun e w' => e = .returned (.bool true) ∧ Fr [] w w' := walk_ifinds w h.1 h.2 a c l hl
end
end Go.Proofs.YtkapkbiccppldaaGreatDoor
