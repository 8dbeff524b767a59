/- Layer 16: RegionBack. -/
import Derived.Test.YtgoogihfggndpaaGreatDoorLD
import Derived.Test.YtgoogihfggndpaaGreatDoorKT
import Derived.Test.YtgoogihfggndpaaGreatDoorGA
namespace Go.Proofs.YtgoogihfggndpaaGreatDoor
set_option linter.unusedVariables false
set_option linter.unusedSimpArgs false
open Go.RowKit

/-- Within a region: what holds behind every operation may be made stronger. -/
theorem wpAnyH_strong {P : Program} {md : Region.Mode} {ops : Array Oper} {Q : Exit → Act → World → Prop} {S S' : World → Prop} (hS : ∀ w, S' w → S w) :
    ∀ (fuel : Nat) (listed : Array Bool) (a : Act) (w : World), wpAnyH P md ops Q S' fuel listed a w → wpAnyH P md ops Q S fuel listed a w
  | 0, _, _, _, h => h
  | f + 1, _, _, _, h => ⟨h.1, fun i hi => wpOp_mono (fun a' w' h' => ⟨hS _ h'.1, wpAnyH_strong hS f _ a' w' h'.2⟩) (h.2 i hi)⟩
set_option maxRecDepth 100000 in
set_option maxHeartbeats 8000000 in
theorem walk_rback (w : World) (hM : TabM w) (hT : Tabs w) (a : Option Addr) (c : Nat) (l : List A16) (h : ActA16 w a c l) (a2 : Option Addr) (c2 : Nat) (l2 : List A16) (h2 : ActA16 w a2 c2 l2) :
    Calls Tryz.prog 4 #[.slice a l.length c, .slice a2 l2.length c2] w fun e w' => e = .returned (.bool true) ∧ Fr [] w w' := by
  have HL := Lib.hid (fun W (hf : Fr [] w W) => maps16 W (hM.fr hf (by simp)) (hT.fr hf (by simp)))
  by_cases hgd : 100 < l.length
  · have b1 : decide ((100 : Int) < l.length) = true := by simp; omega
    have b1' : decide (100 < l.length) = true := by simp; omega
    clear hgd h h2
    generalize l.length = m at *
    generalize l2.length = m2 at *
    go_enter Tryz.func4, Tryz.ntmps4
    go_wp2_with fail
    with_reducible refine (HL.out _ (Fr.refl _ _)).mono ?_
    rintro e w1 ⟨rfl, f1⟩
    go_wp2_with fail
    go_ret
    exact ⟨rfl, f1⟩
  · have b1 : decide ((100 : Int) < l.length) = false := by simp; omega
    have b1' : decide (100 < l.length) = false := by simp; omega
    by_cases hgd2 : 100 < l2.length
    · have b2 : decide ((100 : Int) < l2.length) = true := by simp; omega
      have b2' : decide (100 < l2.length) = true := by simp; omega
      clear hgd hgd2 h h2
      generalize l.length = m at *
      generalize l2.length = m2 at *
      go_enter Tryz.func4, Tryz.ntmps4
      go_wp2_with fail
      with_reducible refine (HL.out _ (Fr.refl _ _)).mono ?_
      rintro e w1 ⟨rfl, f1⟩
      go_wp2_with fail
      go_ret
      exact ⟨rfl, f1⟩
    · have b2 : decide ((100 : Int) < l2.length) = false := by simp; omega
      have b2' : decide (100 < l2.length) = false := by simp; omega
      have hp := xplayed w hM hT a c l h (by omega)
      have HA := Lib.hid h2
      clear h hM hT hgd h2
      generalize l.length = m at *
      generalize hN : l2.length = N at *
      have HN := Lib.hid hN
      clear hN
      go_enter Tryz.func4, Tryz.ntmps4
      go_wp2_with fail
      with_reducible refine hp.mono ?_
      rintro e w3 ⟨q, wb, S, rfl, hP⟩
      obtain ⟨u, k1, k3, k7, k8, k9, k10⟩ := hP.x
      have hlu : u.bytes.length = 8320 := by
        have : u.bytes.length = lsize u.a u.s := TM.bytes_len _
        rw [k7, k8] at this
        exact this
      have HR := Lib.hid (fun V (hV : Fr [] w3 V) ad c hb => d_rest hP k1 k3 k7 k8 k9 k10 hV ad c hb)
      have HI := Lib.hid (fun V (hV : Fr [] w3 V) => (show Calls Tryz.prog 13 #[.pointer (some ⟨q.m, 0, none⟩)] V fun e w' => ∃ g cap, e = .returned (.slice (some ⟨g, 0, none⟩) 8320 cap) ∧ Byt w' (some ⟨g, 0, none⟩) u.bytes ∧ Fr [] V w' from by
        have := timage (k1.fr0 hV).m
        rw [hlu] at this
        exact this.mono fun e w' ⟨g, cap, he, _, hr, hf⟩ => ⟨g, cap, he, hr.byt (TM.byte_lt k1.m.ok) (by rw [hlu]; omega), hf⟩))
      have hcf : Calls Tryz.prog 18 #[.pointer (some ⟨q.m, 0, none⟩)] w3 fun e w' => e = .returned (.agg #[.int .i64 7, .int .i64 226]) ∧ Fr [] w3 w' := by
        have := tconfig k1.m
        rw [k7, k8] at this
        exact this
      have HG := Lib.hid hP.g
      clear hp hP k1 k3 k7 k8 k9 k10
      go_wp2_with fail
      with_reducible refine hcf.mono ?_
      rintro e w4 ⟨rfl, f4⟩
      have F4 := Lib.hid f4
      clear f4 hcf
      go_wp2_with fail
      with_reducible refine (HI.out _ F4.out).mono ?_
      rintro e w5 ⟨g5, cap5, rfl, hb5, f5⟩
      have hrs := HR.out _ (F4.out.trans f5) _ cap5 hb5
      clear HI HR hb5 f5 hlu
      go_wp2_with fail
      with_reducible refine hrs.mono ?_
      rintro e w6 ⟨q', rfl, hP6⟩
      have HP6 := Lib.hid hP6
      obtain ⟨L, hL⟩ := d_runs hP6
      have HLR := Lib.hid hL
      have HS := Lib.hid (fun W a1 c1 a2 c2 (h1 : ZB W a1 L) (h2 : ZB W a2 L) => zsame9 (c1 := c1) (c2 := c2) h1 h2)
      have hr1 := (hL _ (Fr.refl [] w6)).1
      have b3 : ((0 : Int) != 0) = false := by simp
      clear hrs hL hP6
      generalize L.length = rl at *
      go_wp2_with fail
      with_reducible refine hr1.mono ?_
      rintro e w7 ⟨ad7, cp7, rfl, hz7, f7⟩
      have F7 := Lib.hid f7
      have Z7 := Lib.hid hz7
      have hr2 := (HLR.out _ F7.out).2
      clear hr1 f7 hz7
      go_wp2_with fail
      with_reducible refine hr2.mono ?_
      rintro e w8 ⟨ad8, cp8, rfl, hz8, f8⟩
      have F8 := Lib.hid (F7.out.trans f8)
      have hsm := HS.out _ _ cp7 _ cp8 (Z7.out.fr0 f8) hz8
      clear hr2 f8 hz8
      go_wp2_with fail
      with_reducible refine hsm.mono ?_
      rintro e w9 ⟨rfl, f9⟩
      have HP9 := Lib.hid (HP6.out.fr0 (F8.out.trans f9))
      clear hsm f9 HLR HS Z7
      go_wp2_with fail
      go_loopw [8] (fun v W => ∃ (j : Nat) (S : SS), j ≤ N ∧ v = .int .i64 j ∧ P2 w q q' S W) (fun v _ => N - (intOf v).toNat)
      case atStart => exact ⟨0, S, by omega, rfl, HP9.out⟩
      case round =>
        clear HP9 HP6 F7 F8 F4
        obtain ⟨j, S, hj, rfl, hP⟩ := hrel
        have HP := Lib.hid hP
        clear hP
        by_cases hlt : j < N
        · obtain ⟨B, off, rfl, hBl, hr⟩ := HA.out.row (by rw [HN.out]; omega)
          have hlt' : j < l2.length := by rw [HN.out]; exact hlt
          have hrj := hr j hlt'
          have e0 := (HP.out.g.cell (p := ⟨B, off + j * 2, none⟩) hBl (by simp)).trans hrj.c0
          have HE1 := Lib.hid (fun W (hf : Fr [] w W) => (hf.cell (p := ⟨B, off + j * 2 + 1, none⟩) hBl (by simp)).trans hrj.c1)
          have e1 := HE1.out _ HP.out.g
          generalize l2[j]'hlt' = y at *
          obtain ⟨yk, yn⟩ := y
          simp only at e0 e1 HE1
          have g2 : (0 : Int) ≤ j := by omega
          have g3 : (j : Int) < N := by omega
          have b6 : decide ((j : Int) < N) = true := by simp; omega
          have b6' : decide (j < N) = true := by simp; omega
          have wj : IntKind.i64.wrap ((j : Int) + 1) = (j : Int) + 1 := IntWalk.i64_in _ (by omega)
          have HPa := Lib.hid (HP.out.fr0 ((Fr.refl [] _).alloc (.cells #[.int .i64 yk, .int .i64 yn] 48)))
          clear hr hrj
          by_cases hk : yk < 3
          · have b5 : decide (yk < 3) = true := by simpa using hk
            have ht := d_take HPa.out yn
            have hlt0 := HP.out.lt
            have HB := Lib.hid (fun W0 W' (hf : Fr q.blocks (W0.alloc (.cells #[.int .i64 yk, .int .i64 yn] 48)) W') (hq : ∀ k ∈ q.blocks, k < W0.heap.size) => (Blk.new W0 48 #[.int .i64 yk, .int .i64 yn]).fr hf (fun hm => by have := hq _ hm; omega))
            clear hk
            go_wp2_with fail
            with_reducible refine ht.mono ?_
            rintro e w10 ⟨x, r, rfl, f10, hnx⟩
            have d1 := (HB.out _ _ f10 hlt0).cell 1
            simp only [List.getElem?_toArray, List.getElem?_cons_zero, List.getElem?_cons_succ] at d1
            have HX := Lib.hid hnx
            clear ht hnx f10 hlt0 HB
            go_wp2_with fail
            with_reducible refine (HX.out _ (Fr.refl _ _)).mono ?_
            rintro e w11 ⟨rfl, S', hP'⟩
            have z1 : ((x : Int) != x) = false := by simp
            have z2 : ((r : Int) != r) = false := by simp
            go_wp2_with fail
            go_roundw
            case rel => exact ⟨j + 1, S', by omega, by go_num, hP'⟩
            case measure => simp [intOf]; omega
          · have b5 : decide (yk < 3) = false := by simpa using hk
            clear hk
            have hlv := d_live HPa.out
            have hlt0 := HP.out.lt
            have HB := Lib.hid (fun W0 W' (hf : Fr q.blocks (W0.alloc (.cells #[.int .i64 yk, .int .i64 yn] 48)) W') (hq : ∀ k ∈ q.blocks, k < W0.heap.size) => (Blk.new W0 48 #[.int .i64 yk, .int .i64 yn]).fr hf (fun hm => by have := hq _ hm; omega))
            go_wp2_with fail
            with_reducible refine hlv.mono ?_
            rintro e w10 ⟨v, rfl, hR, h32, f10, hP10⟩
            have d1 := (HB.out _ _ f10 hlt0).cell 1
            simp only [List.getElem?_toArray, List.getElem?_cons_zero, List.getElem?_cons_succ] at d1
            obtain ⟨ad, cap, rfl, hrow⟩ := own_row hR
            have HP10 := Lib.hid hP10
            have hmem : ∀ x, x ∈ S.lv 0 → Lv 7 S x (csz (S.cls 0)) := fun x hx => ⟨0, by omega, hx, rfl⟩
            have hgv0 := fun x (hx : x ∈ S.lv 0) => d_give HP10.out x _ (hmem x hx)
            clear hmem hlv HB f10 hP10 hR HPa hlt0
            generalize S.lv 0 = LV at *
            by_cases hL0 : 0 < LV.length
            · obtain ⟨g, rfl, hgb, hri⟩ := hrow hL0
              have b7 : decide ((0 : Int) < LV.length) = true := by simp; omega
              have b7' : decide (0 < LV.length) = true := by simp; omega
              by_cases hy : 0 ≤ yn
              · have b8 : decide (0 ≤ yn) = true := by simpa using hy
                obtain ⟨y, rfl⟩ : ∃ y : Nat, yn = y := ⟨yn.toNat, by omega⟩
                have hkl : y % LV.length < LV.length := Nat.mod_lt _ hL0
                have hc := hri.cell (y % LV.length) hkl
                have hcap := hri.le
                have hgv := hgv0 _ (List.getElem_mem hkl)
                generalize LV[y % LV.length] = z at *
                have hR1 : (y : Int).tmod LV.length = ((y % LV.length : Nat) : Int) := rfl
                have hR2 : (y : Int) % LV.length = ((y % LV.length : Nat) : Int) := rfl
                clear hgv0
                generalize LV.length = m at *
                generalize y % m = k at *
                have k0 : (0 : Int) ≤ k := by omega
                have k1 : (k : Int) < m := by omega
                have z1 : ((m : Int) == 0) = false := by simp; omega
                have z2 : ¬ m = 0 := by omega
                have b9 : decide ((0 : Int) ≤ y) = true := by simp
                clear hy hri hrow hL0
                go_wp2_with fail
                with_reducible refine hgv.mono ?_
                rintro e w12 ⟨rfl, hnx⟩
                have hnx' := hnx _ (Fr.refl _ _)
                have z3 : ((0 : Int) != 0) = false := by simp
                clear hgv hnx
                go_wp2_with fail
                with_reducible refine hnx'.mono ?_
                rintro e w13 ⟨rfl, S', hP'⟩
                go_wp2_with fail
                go_roundw
                case rel => exact ⟨j + 1, S', by omega, by go_num, hP'⟩
                case measure => simp [intOf]; omega
              · have b8 : decide (0 ≤ yn) = false := by simpa using hy
                clear hy hri hrow hgv0
                go_wp2_with fail
                go_roundw
                case rel => exact ⟨j + 1, S, by omega, by go_num, HP10.out⟩
                case measure => simp [intOf]; omega
            · obtain hm : LV.length = 0 := by omega
              rw [hm]
              have b7 : decide ((0 : Int) < ((0 : Nat) : Int)) = false := by simp
              have b7' : decide ((0 : Int) < 0) = false := by simp
              have b7'' : decide ((0 : Nat) < 0) = false := by simp
              clear hm hL0 hrow hgv0
              go_wp2_with fail
              go_roundw
              case rel => exact ⟨j + 1, S, by omega, by go_num, HP10.out⟩
              case measure => simp [intOf]; omega
        · obtain rfl : j = N := by omega
          have b6 : decide ((j : Int) < j) = false := by simp
          have b6' : decide (j < j) = false := by simp
          clear hlt
          obtain ⟨img, hil, hib, hi1, hi2⟩ := d_img HP.out
          have HI1 := Lib.hid hi1
          have HI2 := Lib.hid hi2
          have HCV := Lib.hid (show ∀ W g cw, RowB W g cw img → (convert 24 9 (.slice (some ⟨g, 0, none⟩) 8320 cw)).run Tryz.prog W = .ok (.string (strOf img)) W from fun W g cw hr => by
            have := conv_str W _ cw _ (hr.byt hib (by omega))
            rw [hil] at this
            exact this)
          have HP2 := Lib.hid (fun V hV => HP.out.fr0 (W' := V) hV)
          have HA1 := Lib.hid (fun V (hV : P2 w q q' S V) => m_agree hV.m1 hV.fu)
          have HA2 := Lib.hid (fun V (hV : P2 w q q' S V) => m_agree hV.m2 hV.fu)
          have HFl := Lib.hid (fun V (hV : P2 w q q' S V) => d_flt hV)
          have HLp := Lib.hid (fun V (hV : P2 w q q' S V) => HL.out V hV.g)
          generalize strOf img = str at *
          have e5' : (str.toList == str.toList) = true := by simp
          have e6 : ((0 : Int) == 0) = true := by simp
          clear hi1 hi2 hil hib HL
          go_wp2_with fail
          refine wp_region_held_drew (S := fun _ => True) (by kernel_rfl) (trivial) (fun yH => ?_)
          refine tkY 0 yH (h := ?_)
          refine tkY 3 yH (h := ?_)
          refine wpAnyH_ready (rs := [1]) (by kernel_rfl) (by simp) ?_
          refine AllReadyH.cons (o := ?ooa2) ?hia2 (fun K hK => ?hca2) AllReadyH.nil
          case hia2 => (simp only [List.getElem?_toArray, List.getElem?_cons_zero, List.getElem?_cons_succ]; rfl)
          go_simp
          with_reducible refine (HI1.out _ (Fr.refl _ _).drew).mono ?_
          rintro e w12 ⟨g1, cp1, rfl, hr1, f1⟩
          have F12 := Lib.hid ((Fr.refl [] _).drew.trans f1)
          have HR1 := Lib.hid hr1
          clear hr1 f1
          go_wp2_with fail
          refine hK.out _ _ (trivial) (fun yH => ?_)
          clear hK K
          try simp only [Act.put, List.setIfInBounds_toArray, List.set_cons_zero, List.set_cons_succ]
          clear yH
          refine wpAnyH_strong (S' := fun W => (convert 24 9 (.slice (some ⟨g1, 0, none⟩) 8320 cp1)).run Tryz.prog W = .ok (.string str) W) (fun _ _ => trivial) _ _ _ _ ?_
          have yH : (fun W => (convert 24 9 (.slice (some ⟨g1, 0, none⟩) 8320 cp1)).run Tryz.prog W = .ok (.string str) W) w12 := HCV.out _ _ _ HR1.out
          refine tkY 2 yH (h := ?_)
          refine wpAnyH_ready (rs := [4]) (by kernel_rfl) (by simp) ?_
          refine AllReadyH.cons (o := ?oob1) ?hib1 (fun K hK => ?hcb1) AllReadyH.nil
          case hib1 => (simp only [List.getElem?_toArray, List.getElem?_cons_zero, List.getElem?_cons_succ]; rfl)
          go_simp
          with_reducible refine (HI2.out _ F12.out).mono ?_
          rintro e w13 ⟨g2, cp2, rfl, hr2, f2⟩
          have P13 := Lib.hid (HP2.out _ (F12.out.trans f2))
          have HR13 := Lib.hid (HR1.out.fr f2 (by simp))
          have hY := HCV.out _ _ _ HR13.out
          have hs2 := HCV.out _ _ _ hr2
          clear hr2 f2
          go_wp2_with fail
          refine hK.out _ _ (hY) (fun yH => ?_)
          clear hK K
          try simp only [Act.put, List.setIfInBounds_toArray, List.set_cons_zero, List.set_cons_succ]
          refine wpAnyH_ready (rs := [5]) (by kernel_rfl) (by simp) ?_
          refine AllReadyH.cons (o := ?oob2) ?hib2 (fun K hK => ?hcb2) AllReadyH.nil
          case hib2 => (simp only [List.getElem?_toArray, List.getElem?_cons_zero, List.getElem?_cons_succ]; rfl)
          go_simp
          refine hK.out _ _ (hY) (fun yH => ?_)
          clear hK K
          try simp only [Act.put, List.setIfInBounds_toArray, List.set_cons_zero, List.set_cons_succ]
          refine tkY 6 yH (h := ?_)
          refine tkY 7 yH (h := ?_)
          refine tkY 8 yH (h := ?_)
          refine wpAnyH_ready (rs := [9]) (by kernel_rfl) (by simp) ?_
          refine AllReadyH.cons (o := ?oob6) ?hib6 (fun K hK => ?hcb6) AllReadyH.nil
          case hib6 => (simp only [List.getElem?_toArray, List.getElem?_cons_zero, List.getElem?_cons_succ]; rfl)
          go_simp
          with_reducible refine (HA1.out _ P13.out).mono ?_
          rintro e w14 ⟨rfl, f3⟩
          have P14 := Lib.hid (P13.out.fr0 f3)
          have HR14 := Lib.hid (HR13.out.fr f3 (by simp))
          have hY := HCV.out _ _ _ HR14.out
          clear f3
          go_wp2_with fail
          refine hK.out _ _ (hY) (fun yH => ?_)
          clear hK K
          try simp only [Act.put, List.setIfInBounds_toArray, List.set_cons_zero, List.set_cons_succ]
          refine tkY 10 yH (h := ?_)
          refine tkY 11 yH (h := ?_)
          refine tkY 12 yH (h := ?_)
          refine wpAnyH_ready (rs := [13]) (by kernel_rfl) (by simp) ?_
          refine AllReadyH.cons (o := ?oob10) ?hib10 (fun K hK => ?hcb10) AllReadyH.nil
          case hib10 => (simp only [List.getElem?_toArray, List.getElem?_cons_zero, List.getElem?_cons_succ]; rfl)
          go_simp
          with_reducible refine (HA2.out _ P14.out).mono ?_
          rintro e w15 ⟨rfl, f4⟩
          have P15 := Lib.hid (P14.out.fr0 f4)
          have HR15 := Lib.hid (HR14.out.fr f4 (by simp))
          have hY := HCV.out _ _ _ HR15.out
          clear f4
          go_wp2_with fail
          refine hK.out _ _ (hY) (fun yH => ?_)
          clear hK K
          try simp only [Act.put, List.setIfInBounds_toArray, List.set_cons_zero, List.set_cons_succ]
          refine tkY 14 yH (h := ?_)
          refine tkY 15 yH (h := ?_)
          refine tkY 16 yH (h := ?_)
          refine wpAnyH_ready (rs := [17]) (by kernel_rfl) (by simp) ?_
          refine AllReadyH.cons (o := ?oob14) ?hib14 (fun K hK => ?hcb14) AllReadyH.nil
          case hib14 => (simp only [List.getElem?_toArray, List.getElem?_cons_zero, List.getElem?_cons_succ]; rfl)
          go_simp
          with_reducible refine (HFl.out _ P15.out).mono ?_
          rintro e w16 ⟨rfl, f5⟩
          have P16' := Lib.hid (P15.out.fr0 f5)
          have HR16 := Lib.hid (HR15.out.fr f5 (by simp))
          have hY := HCV.out _ _ _ HR16.out
          clear f5
          go_wp2_with fail
          refine hK.out _ _ (hY) (fun yH => ?_)
          clear hK K
          try simp only [Act.put, List.setIfInBounds_toArray, List.set_cons_zero, List.set_cons_succ]
          refine tkY 18 yH (h := ?_)
          refine tkY 19 yH (h := ?_)
          refine tkY 20 yH (h := ?_)
          refine wpAnyH_ready (rs := [21]) (by kernel_rfl) (by simp) ?_
          refine AllReadyH.cons (o := ?oob18) ?hib18 (fun K hK => ?hcb18) AllReadyH.nil
          case hib18 => (simp only [List.getElem?_toArray, List.getElem?_cons_zero, List.getElem?_cons_succ]; rfl)
          go_simp
          with_reducible refine (HLp.out _ P16'.out).mono ?_
          rintro e w17 ⟨rfl, f6⟩
          have P17 := Lib.hid (P16'.out.fr0 f6)
          have hY := HCV.out _ _ _ (HR16.out.fr f6 (by simp))
          clear f6
          go_wp2_with fail
          refine hK.out _ _ (hY) (fun yH => ?_)
          clear hK K
          try simp only [Act.put, List.setIfInBounds_toArray, List.set_cons_zero, List.set_cons_succ]
          refine tkY 22 yH (h := ?_)
          refine tkY 23 yH (h := ?_)
          refine wpAnyH_done (by kernel_rfl) ?_ _
          go_wp2_with fail
          go_ret
          exact ⟨rfl, P17.out.g⟩
theorem walk_rbackW (w : World) (h : TabM w ∧ Tabs w) (a : Option Addr) (c : Nat) (l : List A16) (hl : ActA16 w a c l) (a2 : Option Addr) (c2 : Nat) (l2 : List A16) (hl2 : ActA16 w a2 c2 l2) : Calls Tryz.prog 4 #[.slice a l.length c, .slice a2 l2.length c2] w fun e w' => e = .returned (.bool true) ∧ Fr [] w w' := walk_rback w h.1 h.2 a c l hl a2 c2 l2 hl2
end Go.Proofs.YtgoogihfggndpaaGreatDoor
