/- IndexBack: the walk. -/
import Derived.Test.YtkapkbiccppldaaGreatDoorKH
import Derived.Test.YtkapkbiccppldaaGreatDoorKG
import Derived.Test.YtkapkbiccppldaaGreatDoorTk
-- @short
import Derived.Lib.MinMax
import Derived.BigQuiet
namespace Go.Proofs.YtkapkbiccppldaaGreatDoor
set_option linter.unusedVariables false
set_option linter.unusedSimpArgs false
open Go.RowKit

section
variable {w0 W W' : World} {q : MH}
set_option maxRecDepth 100000 in
set_option maxHeartbeats 4000000 in
theorem walk_iback (w : World) (hM : TabM w) (hT : Tabs w) (a : Option Addr) (c : Nat) (l : List A20) (h : ActA20 w a c l) (ba : Int) (bn : Bool) (bm bt : Nat) (bl : List Nat) (bh : Nat) (hb : RB.Ok ⟨ba, bn, bm, bt, bl, bh⟩) :
    Calls Tryz.prog 9 #[.slice a l.length c, .agg #[.int .i64 ba, .bool bn, .int .u32 bm, .int .u16 bt, .string (strOf bl), .int .u32 bh]] w fun e w' => e = .returned (.bool true) ∧ Fr [] w w' := by
  have HL := Lib.hid (fun (W : World) (hf : Fr [] w W) => names20 W (hM.fr hf (by simp)) (hT.fr hf (by simp)))
  have F0 := Lib.hid ((Fr.refl [] w).alloc (.cells #[.int .i64 ba, .bool bn, .int .u32 bm, .int .u16 bt, .string (strOf bl), .int .u32 bh] 77))
  by_cases hgd : 120 < l.length
  · have b1 : decide ((120 : Int) < l.length) = true := by simp only [decide_eq_true_eq]; omega
    have b1' : decide (120 < l.length) = true := by simp only [decide_eq_true_eq]; omega
    have hL := HL.out _ F0.out
    generalize l.length = n at *
    clear hgd h
    go_enter Tryz.func9, Tryz.ntmps9
    go_wp2_with fail
    with_reducible refine hL.mono ?_
    rintro e w1 ⟨rfl, f1⟩
    go_wp2_with fail
    go_ret
    exact ⟨rfl, F0.out.trans f1⟩
  have b1 : decide ((120 : Int) < l.length) = false := by simp only [decide_eq_false_iff_not]; omega
  have b1' : decide (120 < l.length) = false := by simp only [decide_eq_false_iff_not]; omega
  have HA := Lib.hid h
  have HB0 := Lib.hid (Blk.new w 77 #[.int .i64 ba, .bool bn, .int .u32 bm, .int .u16 bt, .string (strOf bl), .int .u32 bh])
  have HFW := Lib.hid (fun W (hf : Fr [] w W) => few20 a c l (h.fr hf (by simp)))
  have HFR := Lib.hid (fun (W : World) (hf : Fr [] w W) => fresh20 W (hM.fr hf (by simp)) (hT.fr hf (by simp)))
  -- the one act
  have HONE := Lib.hid (show ∀ V g, Blk V g 81 #[.int .i64 0, .int .i64 0, .int .i64 ba, .bool bn, .int .u32 bm, .int .u16 bt, .string (strOf bl), .int .u32 bh] → Calls Tryz.prog 48 #[.int .i64 0, .slice (some ⟨g, 0, none⟩) 1 1] V fun e w' => e = .returned (.bool (fewL [⟨0, 0, ⟨ba, bn, bm, bt, bl, bh⟩⟩])) ∧ Fr [] V w' from fun V g hV =>
    few20 (some ⟨g, 0, none⟩) 1 [⟨0, 0, ⟨ba, bn, bm, bt, bl, bh⟩⟩] ⟨fun _ => ⟨g, 0, rfl, hV.lt, fun i hi j hj => by
      obtain rfl : i = 0 := by simp at hi; omega
      rw [show 0 + 0 * 8 + j = j by omega, hV.cell, List.getElem?_toArray]
      rfl⟩, fun d hd => by
        simp only [List.mem_singleton] at hd
        subst hd
        exact ⟨by show (-9223372036854775808 : Int) ≤ 0 ∧ (0 : Int) ≤ 9223372036854775807; omega, by show (-9223372036854775808 : Int) ≤ 0 ∧ (0 : Int) ≤ 9223372036854775807; omega, hb⟩, by simp⟩)
  have HFB := Lib.hid (show fewL [⟨0, 0, ⟨ba, bn, bm, bt, bl, bh⟩⟩] = RB.few ⟨ba, bn, bm, bt, bl, bh⟩ from by simp [fewL])
  have HFL := Lib.hid (show fewL l = true → ∀ d ∈ l, d.b.few = true from fun hf d hd => by
    obtain ⟨i, hi, rfl⟩ := List.mem_iff_getElem.1 hd
    unfold fewL at hf
    rw [Bool.and_eq_true, List.all_eq_true] at hf
    exact hf.1 _ (List.mem_take_iff_getElem.2 ⟨i, by omega, rfl⟩))
  generalize hf1 : fewL l = f1 at *
  generalize hf2 : fewL [⟨0, 0, ⟨ba, bn, bm, bt, bl, bh⟩⟩] = f2 at *
  have HOKB := Lib.hid hb
  generalize hnn : l.length = n at *
  have HN := Lib.hid hnn
  have hn120 : n ≤ 120 := by omega
  clear hgd h hM hT hnn hf1 hf2 hb
  go_enter Tryz.func9, Tryz.ntmps9
  go_wp2_with fail
  with_reducible refine (HFW.out _ F0.out).mono ?_
  rintro e w1 ⟨rfl, g1⟩
  have F1 := Lib.hid (F0.out.trans g1)
  have B1 := Lib.hid (HB0.out.fr g1 (by simp))
  clear g1 F0 HB0 HFW
  cases f1 with
  | false =>
    have hL := HL.out _ F1.out
    clear HFR HONE HFB HFL HA
    go_wp2_with fail
    with_reducible refine hL.mono ?_
    rintro e w2 ⟨rfl, f2⟩
    go_wp2_with fail
    go_ret
    exact ⟨rfl, F1.out.trans f2⟩
  | true =>
  have c0 := B1.out.cell 0
  have c1 := B1.out.cell 1
  have c2 := B1.out.cell 2
  have c3 := B1.out.cell 3
  have c4 := B1.out.cell 4
  have c5 := B1.out.cell 5
  simp only [List.getElem?_toArray, List.getElem?_cons_zero, List.getElem?_cons_succ] at c0 c1 c2 c3 c4 c5
  go_wp2_with fail
  have hone := HONE.out _ _ (Blk.new w1 81 #[.int .i64 0, .int .i64 0, .int .i64 ba, .bool bn, .int .u32 bm, .int .u16 bt, .string (strOf bl), .int .u32 bh])
  with_reducible refine hone.mono ?_
  rintro e w2 ⟨rfl, g2⟩
  have F2 := Lib.hid (F1.out.trans (((Fr.refl [] w1).alloc (.cells #[.int .i64 0, .int .i64 0, .int .i64 ba, .bool bn, .int .u32 bm, .int .u16 bt, .string (strOf bl), .int .u32 bh] 81)).trans g2))
  have B2 := Lib.hid ((B1.out.alloc (.cells #[.int .i64 0, .int .i64 0, .int .i64 ba, .bool bn, .int .u32 bm, .int .u16 bt, .string (strOf bl), .int .u32 bh] 81)).fr g2 (by simp))
  clear g2 hone HONE F1 B1 c0 c1 c2 c3 c4 c5
  cases f2 with
  | false =>
    have hL := HL.out _ F2.out
    clear HFR HFB HFL HA
    go_wp2_with fail
    with_reducible refine hL.mono ?_
    rintro e w3 ⟨rfl, f3⟩
    go_wp2_with fail
    go_ret
    exact ⟨rfl, F2.out.trans f3⟩
  | true =>
  have HFEW := Lib.hid (show ∀ d ∈ l, d.b.few = true from HFL.out (by first | exact rfl | trivial))
  have HFWB := Lib.hid (show RB.few ⟨ba, bn, bm, bt, bl, bh⟩ = true from HFB.out.symm)
  clear HFL HFB
  go_wp2_with fail
  with_reducible refine (HFR.out _ F2.out).mono ?_
  rintro e w3 ⟨q, u0, rfl, g3, h0⟩
  have START := Lib.hid (show GE w2 q w3 from ⟨_, _, _, _, _, g3⟩)
  have HQ := Lib.hid (show ∀ k ∈ q.blocks, w2.heap.size ≤ k from g3.hq)
  have FQ := Lib.hid (fun W (hW : Fr [] w2 W) => F2.out.trans hW)
  clear g3 h0 HFR
  go_wp2_with fail
  go_loopw [6] (fun v W => ∃ j : Nat, j ≤ n ∧ v = .int .i64 j ∧ Hid (GE w2 q W)) (fun v _ => n - (intOf v).toNat)
  case atStart => exact ⟨0, by omega, rfl, START⟩
  case round =>
    clear START
    obtain ⟨j, hj, rfl, hK⟩ := hrel
    by_cases hlt : j < n
    · have b1 : decide ((j : Int) < n) = true := by simp; omega
      have b1' : decide (j < n) = true := by simp; omega
      have w3 : IntKind.i64.wrap ((j : Int) + 1) = (j : Int) + 1 := IntWalk.i64_in _ (by omega)
      obtain ⟨B, off, rfl, hBl, hr⟩ := HA.out.row (by rw [HN.out]; omega)
      have hlt' : j < l.length := by rw [HN.out]; exact hlt
      have hrj := hr j hlt'
      have hok := HA.out.each _ (List.getElem_mem hlt')
      have hfew := HFEW.out _ (List.getElem_mem hlt')
      have FW := FQ.out _ hK.out.f
      generalize l[j]'hlt' = y at *
      obtain ⟨yk, yn, ⟨ya, yd, ym, yt, yl, yh⟩⟩ := y
      have cY2 := (FW.cell (p := ⟨B, off + j * 8 + 2, none⟩) hBl (by simp)).trans (hrj 2 (by decide))
      have cY3 := (FW.cell (p := ⟨B, off + j * 8 + 3, none⟩) hBl (by simp)).trans (hrj 3 (by decide))
      have cY4 := (FW.cell (p := ⟨B, off + j * 8 + 4, none⟩) hBl (by simp)).trans (hrj 4 (by decide))
      have cY5 := (FW.cell (p := ⟨B, off + j * 8 + 5, none⟩) hBl (by simp)).trans (hrj 5 (by decide))
      have cY6 := (FW.cell (p := ⟨B, off + j * 8 + 6, none⟩) hBl (by simp)).trans (hrj 6 (by decide))
      have cY7 := (FW.cell (p := ⟨B, off + j * 8 + 7, none⟩) hBl (by simp)).trans (hrj 7 (by decide))
      simp only [A20.cells, List.getElem?_cons_zero, List.getElem?_cons_succ] at cY2 cY3 cY4 cY5 cY6 cY7
      have hg2 : (0 : Int) ≤ j := by omega
      have hg3 : (j : Int) < n := by omega
      have hblk := ge_blk hK.out ya yd ym yt yl yh hok.b hfew
      clear hr hrj hok hfew FW hK HFEW HA
      generalize strOf yl = sy at *
      go_wp2_with fail
      with_reducible refine hblk.mono ?_
      rintro e w4 ⟨x, rfl, hx⟩
      have F4 := Lib.hid ((Fr.refl [] w4).alloc (.cells #[.int .i64 x, .bool yd, .int .u32 ym, .int .u16 yt, .string sy, .int .u32 yh] 77))
      clear hblk
      rcases hx with ⟨rfl, h4⟩ | ⟨hx, h4⟩
      · have b5 : decide ((0 : Int) < ((0 : Nat) : Int)) = false := rfl
        have H4 := Lib.hid (h4.fr0 F4.out)
        clear h4
        go_wp2_with fail
        go_roundw
        case rel => exact ⟨j + 1, by omega, by go_num, H4⟩
        case measure => simp [intOf]; omega
      · have b5 : decide ((0 : Int) < (x : Int)) = true := by simp; omega
        have b5' : decide (0 < x) = true := by simp; omega
        have hI := ge_ins (h4.fr0 F4.out)
        clear h4
        go_wp2_with fail
        with_reducible refine hI.mono ?_
        rintro e w5 ⟨rc, rfl, h5⟩
        have H5 := Lib.hid h5
        clear h5 hI
        go_wp2_with fail
        go_roundw
        case rel => exact ⟨j + 1, by omega, by go_num, H5⟩
        case measure => simp [intOf]; omega
    · have b1 : decide ((j : Int) < n) = false := by simp; omega
      have b1' : decide (j < n) = false := by simp; omega
      have B3 := B2.out.fr hK.out.f (by simp)
      have c0 := B3.cell 0
      have c1 := B3.cell 1
      have c2 := B3.cell 2
      have c3 := B3.cell 3
      have c4 := B3.cell 4
      have c5 := B3.cell 5
      simp only [List.getElem?_toArray, List.getElem?_cons_zero, List.getElem?_cons_succ] at c0 c1 c2 c3 c4 c5
      have hblk := ge_blk hK.out ba bn bm bt bl bh HOKB.out HFWB.out
      clear hK HFWB HOKB B3 HFEW HA hlt
      generalize strOf bl = sb at *
      go_wp2_with fail
      with_reducible refine hblk.mono ?_
      rintro e w4 ⟨x, rfl, hx⟩
      have F4 := Lib.hid ((Fr.refl [] w4).alloc (.cells #[.int .i64 x, .bool bn, .int .u32 bm, .int .u16 bt, .string sb, .int .u32 bh] 77))
      have B4 := Lib.hid (Blk.new w4 77 #[.int .i64 x, .bool bn, .int .u32 bm, .int .u16 bt, .string sb, .int .u32 bh])
      clear hblk c0 c1 c2 c3 c4 c5
      rcases hx with ⟨rfl, h4⟩ | ⟨hx, h4⟩
      · have b5 : (((0 : Nat) : Int) == 0) = true := rfl
        have hF := FQ.out _ (h4.fr0 ((Fr.refl [] w4).alloc (.cells #[.int .i64 0, .bool bn, .int .u32 bm, .int .u16 bt, .string sb, .int .u32 bh] 77))).f
        have hL := HL.out _ hF
        have HF := Lib.hid hF
        clear h4 hF
        go_wp2_with fail
        with_reducible refine hL.mono ?_
        rintro e w5 ⟨rfl, f5⟩
        go_wp2_with fail
        go_ret
        exact ⟨rfl, HF.out.trans f5⟩
      · have b5 : ((x : Int) == 0) = false := by rw [beq_eq_false_iff_ne]; omega
        have b5' : (x == 0) = false := by rw [beq_eq_false_iff_ne]; omega
        obtain ⟨S, L, u, E, B, hG0, hLx, hnx⟩ := h4
        have hql : w4.heap.size ∉ q.blocks := fun hm => by
          have := hG0.h.m.lt _ hm
          omega
        have hG := hG0.fr0 F4.out
        have HQL := Lib.hid (fun k (hk : k ∈ q.blocks) => hG.h.m.lt k hk)
        have DC := Lib.hid (fun V (hV : Fr q.blocks (w4.alloc (.cells #[.int .i64 x, .bool bn, .int .u32 bm, .int .u16 bt, .string sb, .int .u32 bh] 77)) V) => (show V.cell? ⟨w4.heap.size, 0, none⟩ = some (.int .i64 x) from (B4.out.fr hV hql).cell 0))
        have hIM := ix_image hG
        have HIM2 := Lib.hid (fun V (hV : GI w2 q S L u E B V) => ix_image hV)
        have hbt := hG.h.m.m.ar.byte
        have hln := hG.blen
        have HCV := Lib.hid (show ∀ W g cw, RowB W g cw u.bytes → (convert 44 9 (.slice (some ⟨g, 0, none⟩) u.bytes.length cw)).run Tryz.prog W = .ok (.string (strOf u.bytes)) W from fun W g cw hr => conv_str W _ cw _ (hr.byt hbt (by omega)))
        have HG := Lib.hid hG
        have HINS := Lib.hid (fun V (hV : GI w2 q S L u E B V) => bk_ins hV hLx hnx)
        have HNO := Lib.hid (fun V (hV : GI w2 q S L u E B V) => bk_no hV hLx hnx)
        generalize strOf u.bytes = str at *
        obtain ⟨nb, hnb⟩ : ∃ n, u.bytes.length = n := ⟨_, rfl⟩
        rw [hnb] at hIM HIM2 HCV
        clear hG0 hG hbt hln hnb hLx hnx hql
        go_wp2_with fail
        with_reducible refine hIM.mono ?_
        rintro e w5 ⟨gw, cw, rfl, hgw, hrw, f5⟩
        have G5 := Lib.hid (HG.out.fr0 f5)
        have F5 := Lib.hid (f5.nil (S := q.blocks))
        have RW := Lib.hid hrw
        have hgq := Lib.hid (show gw ∉ q.blocks from fun hm => by have := HQL.out gw hm; omega)
        have d0 := DC.out _ F5.out
        clear hrw f5 hIM HG hgw
        go_wp2_with fail
        with_reducible refine (HINS.out _ G5.out).mono ?_
        rintro e w6 ⟨f6, ⟨rfl, g6⟩ | ⟨rfl, T, g6, hdel⟩⟩
        · -- it is full
          have G6 := Lib.hid g6
          have RW6 := Lib.hid (RW.out.fr f6 hgq.out)
          clear g6 f6 HINS HNO RW G5 DC d0
          go_wp2_with fail
          have hY := HCV.out _ _ _ RW6.out.drew
          have G6d := Lib.hid (G6.out.fr0 (Fr.refl [] w6).drew)
          have RW6d := Lib.hid RW6.out.drew
          refine wp_region_held_drew (S := fun W => (convert 44 9 (.slice (some ⟨gw, 0, none⟩) nb cw)).run Tryz.prog W = .ok (.string str) W) (by kernel_rfl) (hY) (fun yH => ?_)
          refine tkY 0 yH (h := ?_)
          refine tkY 1 yH (h := ?_)
          refine tkY 2 yH (h := ?_)
          refine tkY 3 yH (h := ?_)
          refine tkY 6 yH (h := ?_)
          refine tkY 7 yH (h := ?_)
          refine wpAnyH_ready (rs := [4]) (by kernel_rfl) (by simp) ?_
          refine AllReadyH.cons (o := ?oof6) ?hif6 (fun K hK => ?hcf6) AllReadyH.nil
          case hif6 => (simp only [List.getElem?_toArray, List.getElem?_cons_zero, List.getElem?_cons_succ]; rfl)
          go_simp
          with_reducible refine (HIM2.out _ G6d.out).mono ?_
          rintro e W2 ⟨g3, c4, rfl, hgg3, hr3, f3⟩
          have G11 := Lib.hid (G6d.out.fr0 f3)
          have RW11 := Lib.hid (RW6d.out.fr f3 (by simp))
          have hs3 := HCV.out _ _ _ hr3
          have hY := HCV.out _ _ _ RW11.out
          have hL := HL.out _ (FQ.out _ G11.out.f)
          clear hr3 f3 hgg3
          go_wp2_with fail
          refine hK.out _ _ (hY) (fun yH => ?_)
          clear hK K
          try simp only [Act.put, List.setIfInBounds_toArray, List.set_cons_zero, List.set_cons_succ]
          refine wpAnyH_ready (rs := [5]) (by kernel_rfl) (by simp) ?_
          refine AllReadyH.cons (o := ?oof7) ?hif7 (fun K hK => ?hcf7) AllReadyH.nil
          case hif7 => (simp only [List.getElem?_toArray, List.getElem?_cons_zero, List.getElem?_cons_succ]; rfl)
          go_simp
          refine hK.out _ _ (hY) (fun yH => ?_)
          clear hK K
          try simp only [Act.put, List.setIfInBounds_toArray, List.set_cons_zero, List.set_cons_succ]
          refine tkY 8 yH (h := ?_)
          refine tkY 9 yH (h := ?_)
          refine tkY 10 yH (h := ?_)
          refine wpAnyH_ready (rs := [11]) (by kernel_rfl) (by simp) ?_
          refine AllReadyH.cons (o := ?oof11) ?hif11 (fun K hK => ?hcf11) AllReadyH.nil
          case hif11 => (simp only [List.getElem?_toArray, List.getElem?_cons_zero, List.getElem?_cons_succ]; rfl)
          go_simp
          with_reducible refine hL.mono ?_
          rintro e W4 ⟨rfl, f4⟩
          have F12 := Lib.hid ((FQ.out _ G11.out.f).trans f4)
          have hY := HCV.out _ _ _ (RW11.out.fr f4 (by simp))
          clear f4
          go_wp2_with fail
          refine hK.out _ _ (hY) (fun yH => ?_)
          clear hK K
          try simp only [Act.put, List.setIfInBounds_toArray, List.set_cons_zero, List.set_cons_succ]
          refine tkY 12 yH (h := ?_)
          refine tkY 13 yH (h := ?_)
          refine wpAnyH_done (by kernel_rfl) ?_ _
          try simp only [Act.put, List.getElem_toArray, List.getElem_cons_zero, List.getElem_cons_succ, List.setIfInBounds_toArray, List.set_cons_zero, List.set_cons_succ]
          go_wp2_with fail
          go_ret
          exact ⟨rfl, F12.out⟩
        · have F6 := Lib.hid (F5.out.trans f6)
          have G6 := Lib.hid g6
          have HD := Lib.hid hdel
          have RW6 := Lib.hid (RW.out.fr f6 hgq.out)
          have d1 := DC.out _ F6.out
          clear g6 f6 HINS RW G5 hdel d0 F5
          go_wp2_with fail
          with_reducible refine (HD.out _ G6.out).mono ?_
          rintro e w7 ⟨rfl, f7, g7⟩
          have F7 := Lib.hid (F6.out.trans f7)
          have G7 := Lib.hid g7
          have RW7 := Lib.hid (RW6.out.fr f7 hgq.out)
          have d2 := DC.out _ F7.out
          clear g7 f7 HD G6 RW6 F6 d1
          go_wp2_with fail
          with_reducible refine (HNO.out _ G7.out).mono ?_
          rintro e w8 ⟨rfl, f8, g8⟩
          have G8 := Lib.hid g8
          have RW8 := Lib.hid (RW7.out.fr f8 hgq.out)
          clear g8 f8 HNO G7 RW7 F7 d2 DC
          go_wp2_with fail
          have hY := HCV.out _ _ _ RW8.out.drew
          have G8d := Lib.hid (G8.out.fr0 (Fr.refl [] w8).drew)
          have RW8d := Lib.hid RW8.out.drew
          refine wp_region_held_drew (S := fun W => (convert 44 9 (.slice (some ⟨gw, 0, none⟩) nb cw)).run Tryz.prog W = .ok (.string str) W) (by kernel_rfl) (hY) (fun yH => ?_)
          refine tkY 0 yH (h := ?_)
          refine tkY 3 yH (h := ?_)
          refine tkY 4 yH (h := ?_)
          refine wpAnyH_ready (rs := [1]) (by kernel_rfl) (by simp) ?_
          refine AllReadyH.cons (o := ?oog3) ?hig3 (fun K hK => ?hcg3) AllReadyH.nil
          case hig3 => (simp only [List.getElem?_toArray, List.getElem?_cons_zero, List.getElem?_cons_succ]; rfl)
          go_simp
          with_reducible refine (HIM2.out _ G8d.out).mono ?_
          rintro e W2 ⟨g3, c4, rfl, hgg3, hr3, f3⟩
          have G11 := Lib.hid (G8d.out.fr0 f3)
          have RW11 := Lib.hid (RW8d.out.fr f3 (by simp))
          have hs3 := HCV.out _ _ _ hr3
          have hY := HCV.out _ _ _ RW11.out
          have hL := HL.out _ (FQ.out _ G11.out.f)
          clear hr3 f3 hgg3
          go_wp2_with fail
          refine hK.out _ _ (hY) (fun yH => ?_)
          clear hK K
          try simp only [Act.put, List.setIfInBounds_toArray, List.set_cons_zero, List.set_cons_succ]
          refine wpAnyH_ready (rs := [2]) (by kernel_rfl) (by simp) ?_
          refine AllReadyH.cons (o := ?oog4) ?hig4 (fun K hK => ?hcg4) AllReadyH.nil
          case hig4 => (simp only [List.getElem?_toArray, List.getElem?_cons_zero, List.getElem?_cons_succ]; rfl)
          go_simp
          refine hK.out _ _ (hY) (fun yH => ?_)
          clear hK K
          try simp only [Act.put, List.setIfInBounds_toArray, List.set_cons_zero, List.set_cons_succ]
          refine tkY 5 yH (h := ?_)
          refine tkY 6 yH (h := ?_)
          refine wpAnyH_ready (rs := [7]) (by kernel_rfl) (by simp) ?_
          refine AllReadyH.cons (o := ?oog7) ?hig7 (fun K hK => ?hcg7) AllReadyH.nil
          case hig7 => (simp only [List.getElem?_toArray, List.getElem?_cons_zero, List.getElem?_cons_succ]; rfl)
          go_simp
          with_reducible refine hL.mono ?_
          rintro e W4 ⟨rfl, f4⟩
          have F12 := Lib.hid ((FQ.out _ G11.out.f).trans f4)
          have hY := HCV.out _ _ _ (RW11.out.fr f4 (by simp))
          clear f4
          go_wp2_with fail
          refine hK.out _ _ (hY) (fun yH => ?_)
          clear hK K
          try simp only [Act.put, List.setIfInBounds_toArray, List.set_cons_zero, List.set_cons_succ]
          refine tkY 8 yH (h := ?_)
          refine tkY 9 yH (h := ?_)
          refine wpAnyH_done (by kernel_rfl) ?_ _
          try simp only [Act.put, List.getElem_toArray, List.getElem_cons_zero, List.getElem_cons_succ, List.setIfInBounds_toArray, List.set_cons_zero, List.set_cons_succ]
          go_wp2_with fail
          go_ret
          exact ⟨rfl, F12.out⟩
theorem walk_ibackW (w : World) (h : TabM w ∧ Tabs w) (a : Option Addr) (c : Nat) (l : List A20) (hl : ActA20 w a c l) (b : RB) (hb : b.Ok) : Calls Tryz.prog 9 #[.slice a l.length c, .agg b.cells] w fun e w' => e = .returned (.bool true) ∧ Fr [] w w' := by
  obtain ⟨ba, bn, bm, bt, bl, bh⟩ := b
  exact walk_iback w h.1 h.2 a c l hl ba bn bm bt bl bh hb
end
end Go.Proofs.YtkapkbiccppldaaGreatDoor
