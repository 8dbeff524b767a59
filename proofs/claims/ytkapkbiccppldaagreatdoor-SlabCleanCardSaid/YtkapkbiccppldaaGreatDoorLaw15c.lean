/- Layer 15: SlabClean. -/
import Derived.Test.YtkapkbiccppldaaGreatDoorGQ
import Derived.Test.YtkapkbiccppldaaGreatDoorGN
import Derived.Lib.MinMax
import Derived.Lib.SlBytesConst
namespace Go.Proofs.YtkapkbiccppldaaGreatDoor
set_option linter.unusedVariables false
set_option linter.unusedSimpArgs false
open Go.RowKit

set_option maxRecDepth 100000 in
set_option maxHeartbeats 8000000 in
theorem walk_sclean (w : World) (hM : TabM w) (hT : Tabs w) (ml : Int) (hml : w.cell? ⟨5, 0, none⟩ = some (.int .i64 ml)) (a : Option Addr) (c : Nat) (l : List A15) (h : ActA15 w a c l) :
    Calls Tryz.prog 12 #[.slice a l.length c] w fun e w' => e = .returned (.bool true) ∧ Fr [] w w' := by
  have HL := Lib.hid (fun W (hf : Fr [] w W) => takes15 W (hM.fr hf (by simp)) (hT.fr hf (by simp)))
  by_cases hgd : 200 < l.length
  · have hL := HL.out w (Fr.refl _ _)
    have b1 : decide ((200 : Int) < l.length) = true := by simp; omega
    have b1' : decide (200 < l.length) = true := by simp; omega
    clear hgd h
    generalize l.length = n at *
    go_enter Tryz.func12, Tryz.ntmps12
    go_wp2_with fail
    with_reducible refine hL.mono ?_
    rintro e w1 ⟨rfl, f1⟩
    go_wp2_with fail
    go_ret
    exact ⟨rfl, f1⟩
  · have b1 : decide ((200 : Int) < l.length) = false := by simp; omega
    have b1' : decide (200 < l.length) = false := by simp; omega
    have HA := Lib.hid h
    have HG := Lib.hid (show 5 ≤ w.heap.size from by have := hM.size; have := hT.size; omega)
    have HML := Lib.hid (fun W (hf : Fr [] w W) => (show W.cell? ⟨5, 0, none⟩ = some (.int .i64 ml) from (hf.cell (p := ⟨5, 0, none⟩) (cell_lt hml) (by simp)).trans hml))
    generalize hnn : l.length = n at *
    have HN := Lib.hid hnn
    have hn200 : n ≤ 200 := by omega
    have hn := (show Calls Tryz.prog 15 #[.agg #[.int .i64 7, .int .i64 224]] w (NewH w 7 224) from hnew w hM hT 7 224 cfg7)
    clear h hnn hM hT hgd hml
    go_enter Tryz.func12, Tryz.ntmps12
    go_wp2_with fail
    with_reducible refine hn.mono ?_
    rintro e w1 ⟨q, rfl, h1, hq, f1⟩
    have HB := Lib.hid (z_begin h1 cfg7)
    have HQ := Lib.hid hq
    have F1 := Lib.hid f1
    clear hn h1 f1 hq
    go_wp2_with fail
    with_reducible refine HB.out.mono ?_
    rintro e wb ⟨rfl, z, k1, k2, k3, k4⟩
    have hZ := z15_new k3
    have hza : z.a = 7 := k3.a
    have HZ := Lib.hid hZ
    have hgb : 5 ≤ wb.heap.size := Nat.le_trans HG.out (Nat.le_trans F1.out.size k4.size)
    have HC0 := Lib.hid (show C15 wb wb q z SS.zero (fun _ => False) from ⟨⟨z, k1, k2, Sla.refl z, fun x n hx => by obtain ⟨i, hi, hm, _⟩ := hx; cases hm⟩, Fr.refl _ _, k1.m.lt, hgb⟩)
    have F2 := Lib.hid (show Fr [] w wb from F1.out.step k4 (fun k hk => .inr (HQ.out k hk)))
    have HFW := Lib.hid (fun W (hf : Fr q.blocks wb W) => (show Fr [] w W from F2.out.step hf (fun k hk => .inr (HQ.out k hk))))
    clear k1 k2 k3 k4 hZ HB F1
    go_wp2_with fail
    go_loopw [4, 5] (fun v i W => ∃ (j : Nat) (L : List Nat) (u : Value) (S : SS), u = v ∧ j ≤ n ∧ i = .int .i64 j ∧ L.length ≤ j ∧ C15 wb W q z S (fun _ => False) ∧ Rw W wb.heap.size u L) (fun _ i _ => n - (intOf i).toNat)
    case atStart => exact ⟨0, [], _, _, rfl, by omega, rfl, by simp, HC0.out, Rw.nil _ _⟩
    case round =>
      clear HC0
      obtain ⟨j, L, v, S, rfl, hj, rfl, hL, hK, hR⟩ := hrel
      have HK := Lib.hid hK
      have HR := Lib.hid hR
      clear hK hR
      by_cases hlt : j < n
      · obtain ⟨B, off, rfl, hBl, hr⟩ := HA.out.row (by rw [HN.out]; omega)
        have hlt' : j < l.length := by rw [HN.out]; exact hlt
        have hrj := hr j hlt'
        have fw := HFW.out _ HK.out.f
        have e0 := (fw.cell (p := ⟨B, off + j * 2, none⟩) hBl (by simp)).trans hrj.c0
        have e1 := (fw.cell (p := ⟨B, off + j * 2 + 1, none⟩) hBl (by simp)).trans hrj.c1
        generalize l[j]'hlt' = y at *
        obtain ⟨yk, yn⟩ := y
        simp only at e0 e1
        have hg2 : (0 : Int) ≤ j := by omega
        have hg3 : (j : Int) < n := by omega
        have b6 : decide ((j : Int) < n) = true := by simp; omega
        have b6' : decide (j < n) = true := by simp; omega
        have wj : IntKind.i64.wrap ((j : Int) + 1) = (j : Int) + 1 := IntWalk.i64_in _ (by omega)
        clear hr hrj fw
        by_cases hk : yk < 3
        · have b5 : decide (yk < 3) = true := by simpa using hk
          have ht := c_take HK.out yn
          clear hk
          go_wp2_with fail
          with_reducible refine ht.mono ?_
          rintro e w4 ⟨xx, r, rfl, f4, hc⟩
          have HR4 := Lib.hid (HR.out.frq f4 HK.out.lt)
          clear ht e0 e1 f4 HR
          rcases hc with ⟨h0, hk4⟩ | ⟨h0, S', hx, hk4⟩
          · have b7 : ((r : Int) == 0) = false := by simp; exact h0
            have H4 := Lib.hid hk4
            clear hk4 h0 HK
            go_wp2_with fail
            go_roundw
            case rel => exact ⟨j + 1, L, _, _, rfl, by omega, by go_num, by omega, H4.out, HR4.out⟩
            case measure => simp [intOf]; omega
          · subst h0
            have H4 := Lib.hid hk4
            have HX := Lib.hid hx
            have hsz : wb.heap.size ≤ w4.heap.size := hk4.f.size
            clear hk4 hx HK
            go_wp2_with (at_builtin; refine wpList_append2 rfl _ _ rfl rfl wb.heap.size _ L rfl xx w4 rfl HR4.out rfl (by omega) hsz ?_; intro g1 cap1 W1 hO1 hF1 hob1)
            have H5 := Lib.hid (H4.out.own hF1 (fun g e => (HR4.out.lt g e).1))
            have hs6 : wb.heap.size ≤ W1.heap.size := H5.out.f.size
            have hbW := c_write xx (H5.out.fr0 ((Fr.refl [] W1).alloc (.cells (bytes txt) 5 (31, 32)))) HX.out W1.heap.size 31 (byt_mk W1 txt (by decide) (by decide) (31, 32)) hs6
            rw [show bytes txt = #[.int .u8 115, .int .u8 111, .int .u8 109, .int .u8 101, .int .u8 116, .int .u8 104, .int .u8 105, .int .u8 110, .int .u8 103, .int .u8 32, .int .u8 104, .int .u8 101, .int .u8 114, .int .u8 101, .int .u8 44, .int .u8 32, .int .u8 111, .int .u8 102, .int .u8 32, .int .u8 116, .int .u8 104, .int .u8 105, .int .u8 114, .int .u8 116, .int .u8 121, .int .u8 32, .int .u8 98, .int .u8 121, .int .u8 116, .int .u8 101, .int .u8 115] from rfl] at hbW
            have kc : (convert 44 44 (.slice (some ⟨W1.heap.size, 0, none⟩) 31 31)).run Tryz.prog (W1.alloc (.cells #[.int .u8 115, .int .u8 111, .int .u8 109, .int .u8 101, .int .u8 116, .int .u8 104, .int .u8 105, .int .u8 110, .int .u8 103, .int .u8 32, .int .u8 104, .int .u8 101, .int .u8 114, .int .u8 101, .int .u8 44, .int .u8 32, .int .u8 111, .int .u8 102, .int .u8 32, .int .u8 116, .int .u8 104, .int .u8 105, .int .u8 114, .int .u8 116, .int .u8 121, .int .u8 32, .int .u8 98, .int .u8 121, .int .u8 116, .int .u8 101, .int .u8 115] 5)) = .ok (.slice (some ⟨W1.heap.size, 0, none⟩) 31 31) (W1.alloc (.cells #[.int .u8 115, .int .u8 111, .int .u8 109, .int .u8 101, .int .u8 116, .int .u8 104, .int .u8 105, .int .u8 110, .int .u8 103, .int .u8 32, .int .u8 104, .int .u8 101, .int .u8 114, .int .u8 101, .int .u8 44, .int .u8 32, .int .u8 111, .int .u8 102, .int .u8 32, .int .u8 116, .int .u8 104, .int .u8 105, .int .u8 114, .int .u8 116, .int .u8 121, .int .u8 32, .int .u8 98, .int .u8 121, .int .u8 116, .int .u8 101, .int .u8 115] 5 (31, 32))) := Lib.run_convert_bytes_const (P := Tryz.prog) W1 44 5 _ 31 31 Tryz.underlying44 Tryz.underlying5
            have HO1 := Lib.hid (show Rw (W1.alloc (.cells #[.int .u8 115, .int .u8 111, .int .u8 109, .int .u8 101, .int .u8 116, .int .u8 104, .int .u8 105, .int .u8 110, .int .u8 103, .int .u8 32, .int .u8 104, .int .u8 101, .int .u8 114, .int .u8 101, .int .u8 44, .int .u8 32, .int .u8 111, .int .u8 102, .int .u8 32, .int .u8 116, .int .u8 104, .int .u8 105, .int .u8 114, .int .u8 116, .int .u8 121, .int .u8 32, .int .u8 98, .int .u8 121, .int .u8 116, .int .u8 101, .int .u8 115] 5 (31, 32))) wb.heap.size (.slice (some ⟨g1, 0, none⟩) (L.length + 1) cap1) (L ++ [xx]) from Rw.fr0 (W := W1) hO1 ((Fr.refl [] W1).alloc _))
            have HLT := Lib.hid H5.out.lt
            clear hO1 hF1 hob1 H4 hs6 HR4 H5
            go_wp2_with fail
            rw [kc]
            go_wp2_with fail
            with_reducible refine hbW.mono ?_
            rintro e w6 ⟨rfl, h6, f6⟩
            have H6 := Lib.hid h6
            have HR6 := Lib.hid (HO1.out.frq f6 HLT.out)
            clear h6 f6 hbW HO1 HLT kc
            go_wp2_with fail
            go_roundw
            case rel => exact ⟨j + 1, L ++ [xx], _, _, rfl, by omega, by go_num, by simp; omega, H6.out, HR6.out⟩
            case measure => simp [intOf]; omega
        · have b5 : decide (yk < 3) = false := by simpa using hk
          obtain ⟨ad, cap, rfl, hrow⟩ := own_row HR.out
          have hpl := xplace wr yk yn ad cap L _ hrow (by omega)
          have HGV := Lib.hid (fun W x (hK : C15 wb W q z S (fun _ => False)) => c_give hK x)
          generalize placeZ yk yn L = zz at *
          clear hrow hk
          go_wp2_with fail
          with_reducible refine hpl.mono ?_
          rintro e w4 ⟨rfl, f4⟩
          have HR4 := Lib.hid (HR.out.fr0 f4)
          have HK4 := Lib.hid (HK.out.fr0 f4)
          clear hpl f4 HR HK e0 e1
          go_wp2_with fail
          with_reducible refine (HGV.out _ _ HK4.out).mono ?_
          rintro e w5 ⟨r, rfl, f5, S', h5⟩
          have HR5 := Lib.hid (HR4.out.frq f5 HK4.out.lt)
          have H5 := Lib.hid h5
          clear h5 f5 HGV HR4 HK4
          go_wp2_with fail
          go_roundw
          case rel => exact ⟨j + 1, L, _, _, rfl, by omega, by go_num, by omega, H5.out, HR5.out⟩
          case measure => simp [intOf]; omega
      · have b6 : decide ((j : Int) < n) = false := by simp; omega
        have b6' : decide (j < n) = false := by simp; omega
        obtain ⟨u, k1, k2, k3, k4⟩ := HK.out.x
        have hua : u.a = 7 := k3.a.trans hza
        have fw := HFW.out _ HK.out.f
        have FW := Lib.hid fw
        have hh := mhas (k1.m.fr0 ((Fr.refl [] wr).alloc (.cells (bytes txt9) 5 (9, 10)))) (some ⟨wr.heap.size, 0, none⟩) 9 txt9 (byt_mk wr txt9 (by decide) (by decide) (9, 10)) ml (HML.out _ (fw.alloc _))
        rw [show txt9.length = 9 from rfl, show bytes txt9 = #[.int .u8 115, .int .u8 111, .int .u8 109, .int .u8 101, .int .u8 116, .int .u8 104, .int .u8 105, .int .u8 110, .int .u8 103] from rfl] at hh
        have kc : (convert 44 44 (.slice (some ⟨wr.heap.size, 0, none⟩) 9 9)).run Tryz.prog (wr.alloc (.cells #[.int .u8 115, .int .u8 111, .int .u8 109, .int .u8 101, .int .u8 116, .int .u8 104, .int .u8 105, .int .u8 110, .int .u8 103] 5)) = .ok (.slice (some ⟨wr.heap.size, 0, none⟩) 9 9) (wr.alloc (.cells #[.int .u8 115, .int .u8 111, .int .u8 109, .int .u8 101, .int .u8 116, .int .u8 104, .int .u8 105, .int .u8 110, .int .u8 103] 5 (9, 10))) := Lib.run_convert_bytes_const (P := Tryz.prog) wr 44 5 _ 9 9 Tryz.underlying44 Tryz.underlying5
        have hbool : hasB u.bytes txt9 = decide (0 < lvN S 7) := by
          by_cases h0 : lvN S 7 = 0
          · rw [has_no k1.ok k2 (fun i hi => lvN_zero h0 i (by omega)) k3 HZ.out, h0]; rfl
          · obtain ⟨i, x, hi, hx⟩ := lvN_pos (S := S) (k := 7) (by omega)
            have hlv : Lv u.a S x (csz (S.cls i)) := ⟨i, by omega, hx, rfl⟩
            rw [has_yes k1.ok k2 hlv (k4 x _ (by rw [← k3.a]; exact hlv) id)]
            simp; omega
        rw [hbool] at hh
        have HI := Lib.hid k1
        have HS := Lib.hid k2
        have hlvv := Lib.hid (fun W (hW : IsH W q u) => xlive hW k2 hua)
        have hqlt := k1.m.lt
        generalize hln : lvN S 7 = lv at *
        have hx1 : ∀ b : Bool, (b != b) = false := fun b => by cases b <;> rfl
        have hd2 : (decide ((0 : Int) < lv)) = decide (0 < lv) := by rw [Bool.eq_iff_iff]; simp
        clear hlt HA HR HK k1 k2 k3 k4 hbool fw
        go_wp2_with fail
        with_reducible refine hh.mono ?_
        rintro e w4 ⟨rfl, f4⟩
        have f4' : Fr [] wr w4 := ((Fr.refl [] wr).alloc _).trans f4
        have HI4 := Lib.hid (HI.out.fr0 f4')
        have FW4 := Lib.hid (FW.out.trans f4')
        clear hh kc f4 f4' HI
        go_wp2_with fail
        with_reducible refine (hlvv.out _ HI4.out).mono ?_
        rintro e w5 ⟨rfl, h5, f5⟩
        have HI5 := Lib.hid h5
        have FW5 := Lib.hid (show Fr [] w w5 from FW4.out.step f5 (fun k hk => .inr (HQ.out k hk)))
        clear h5 f5 HI4 FW4 hlvv FW
        have hmr := mruns HI5.out.m
        generalize hd3 : decide (0 < lv) = dl at *
        have hdl : (dl == dl) = true := by simp
        go_wp2_with fail
        with_reducible refine hmr.mono ?_
        rintro e w6 ⟨vr, rfl, orr, f6⟩
        have HI6 := Lib.hid (HI5.out.fr0 f6)
        have FW6 := Lib.hid (FW5.out.trans f6)
        have hok := HI5.out.ok
        have hs := HS.out
        have hks : u.kinds.length = lsize u.a u.s / 4 := u.kinds_len
        have hsz4 := lsize_4 u.a u.s
        have hszm : lsize u.a u.s ≤ 1048576 := by
          obtain ⟨c1, c2, c3, c4, c5⟩ := hok.cfg
          unfold lsize lbase; omega
        have hkg : ∀ g, g < u.kinds.length → u.kinds[g]?.getD 0 = kindAt u g := fun g hg => u.kinds_get g (by omega)
        have hFK : ∀ y ∈ frees u.a S, y % 16 = 0 ∧ y < lsize u.a u.s ∧ u.kinds[y / 4]?.getD 0 = 6 := fun y hy => by
          obtain ⟨i, hi, hm⟩ := mem_frees.1 hy
          have h1 := hs.each i hi
          obtain ⟨a1, a2, a3, a4, a5, a6, a7⟩ := h1.at_ hok hi (.inl hm)
          obtain ⟨c1, c2, c3, c4, c5, c6, c7⟩ := csz_tab (S.cls i) (by have := h1.none (.inl hm); omega) h1.c9
          refine ⟨a3, by omega, ?_⟩
          rw [hkg _ (by omega)]
          exact h1.free.kd y hm (y / 4) (by omega) (by omega)
        have hlen0 : 0 < (runs u.kinds).length := by
          rw [runs_from, runsFrom_step _ 0 (by have := cfg_sizes hok.cfg; omega)]
          simp
        obtain ⟨gR, cR, rfl, hgR, hrR⟩ := OwnR.rowR (w := w6) (l := (runs u.kinds).map sc4) orr (by rw [List.length_map]; exact hlen0)
        have hgq : gR ∉ q.blocks := fun hm => by have := HI5.out.m.lt gR hm; omega
        have HRR := Lib.hid hrR
        have hlm : ((runs u.kinds).map sc4).length = (runs u.kinds).length := List.length_map _
        have hcR := hrR.le
        rw [hlm] at hcR
        have hFn : cF (frees u.a S) (lsize u.a u.s) = (frees u.a S).length := cF_all (frees_nodup hok hs u.a (Nat.le_refl _)) (fun y hy => (hFK y hy).2.1)
        have hrs : rsum 7 S 10 = (frees u.a S).length := by
          rw [hua]
          exact rsum_10 (fun i hi => ⟨(hs.each i (by omega)).c9, fun h0 => ((hs.each i (by omega)).z h0).1⟩)
        have hFle : ∀ x, cF (frees u.a S) x ≤ x := fun x => by
          unfold cF
          exact Nat.le_trans (List.length_filter_le _ _) (by simp)
        have HFL := Lib.hid hFle
        have HFR := Lib.hid hFK
        have HRS := Lib.hid (And.intro hFn hrs)
        have HKG := Lib.hid hkg
        have HROOM := Lib.hid (fun W (hW : IsH W q u) (k : Nat) (hk : 1 ≤ k ∧ k ≤ 9) => (show Calls Tryz.prog 34 #[.pointer (some ⟨q.m, 0, none⟩), .int .i64 k] W fun e w' => e = .returned (.int .i64 (roomN 7 S k)) ∧ IsH w' q u ∧ Fr q.blocks W w' from by
          have := sroom hW hs (k : Int)
          rw [if_neg (by unfold cszZ; rw [if_pos (by omega), Int.toNat_natCast]; obtain ⟨c1, c2, c3, c4, c5, c6, c7⟩ := csz_tab k hk.1 hk.2; omega), Int.toNat_natCast, roomS_eq (fun i hi h0 => (hs.each i hi).len h0) k hk.1, hua] at this
          exact this))
        have HSB := Lib.hid (fun W (hW : IsH W q u) (y : Nat) => sblock hW hs (y : Int))
        clear hmr orr hrR f6 hFn hrs hFle hFK hkg hlm
        rw [show ((runs u.kinds).map sc4).length = (runs u.kinds).length from List.length_map _]
        have hrb := runs_len u.kinds
        generalize hrn : (runs u.kinds).length = rn at *
        have hrb2 : rn ≤ 1048576 := by omega
        go_wp2_with fail
        go_loopw [8, 10] (fun fr i W => ∃ (k f : Nat), k ≤ rn ∧ i = .int .i64 k ∧ f ≤ u.kinds.length ∧ (runs u.kinds).drop k = runsFrom u.kinds f ∧ (f < u.kinds.length → f = 0 ∨ u.kinds[f - 1]?.getD 0 ≠ u.kinds[f]?.getD 0) ∧ fr = .int .i64 (cF (frees u.a S) (4 * f) : Nat) ∧ IsH W q u ∧ Fr q.blocks w6 W) (fun _ i _ => rn - (intOf i).toNat)
        case atStart => exact ⟨0, 0, by omega, rfl, by omega, by rw [List.drop_zero, runs_from], fun _ => .inl rfl, rfl, HI6.out, Fr.refl _ _⟩
        case round =>
          obtain ⟨k, f, hk, rfl, hf, hdr, hbd, rfl, hI, hF⟩ := hrel
          have HI7 := Lib.hid hI
          have F7 := Lib.hid hF
          clear hI hF HI6
          have k0 : (0 : Int) ≤ k := by omega
          by_cases hkr : k < rn
          · have hfl : f < u.kinds.length := by
              rcases Nat.lt_or_ge f u.kinds.length with h | h
              · exact h
              · rw [runsFrom_done _ _ h] at hdr
                have := congrArg List.length hdr
                rw [List.length_drop] at this
                simp at this
                omega
            have hst := runsFrom_step u.kinds f hfl
            have hlt2 := runEnd_lt u.kinds f hfl
            have hle2 := runEnd_le u.kinds f (by omega)
            rw [hst] at hdr
            have hget : (runs u.kinds)[k]? = some (f, runEnd u.kinds f - f, u.kinds[f]?.getD 0) := by
              rw [← List.head?_drop, hdr]; rfl
            have hdr2 : (runs u.kinds).drop (k + 1) = runsFrom u.kinds (runEnd u.kinds f) := by
              rw [← List.drop_drop, hdr]; rfl
            have hcells := (HRR.out.fr F7.out hgq).cells (k := k) (r := (4 * f, 4 * (runEnd u.kinds f - f), u.kinds[f]?.getD 0)) (by rw [List.getElem?_map, hget]; rfl)
            obtain ⟨c0, c1, c2⟩ := hcells
            simp only at c0 c1 c2
            have hbd2 : runEnd u.kinds f < u.kinds.length → runEnd u.kinds f = 0 ∨ u.kinds[runEnd u.kinds f - 1]?.getD 0 ≠ u.kinds[runEnd u.kinds f]?.getD 0 := fun hlt => .inr (by
              rw [runEnd_in u.kinds f (runEnd u.kinds f - 1) (by omega) (by omega)]
              exact fun h => runEnd_stop u.kinds f hlt h.symm)
            have hin := fun g g1 g2 => runEnd_in u.kinds f g g1 g2
            have HDR := Lib.hid (And.intro hdr2 hbd2)
            have HGE := Lib.hid (show ((runs u.kinds).map sc4)[k]? = some (4 * f, 4 * (runEnd u.kinds f - f), u.kinds[f]?.getD 0) from by rw [List.getElem?_map, hget]; rfl)
            clear hst hdr hget hdr2 hbd2
            generalize runEnd u.kinds f = e at *
            have k1 : (k : Int) < rn := by omega
            have k2 : decide ((k : Int) < rn) = true := by simp; omega
            have k2' : decide (k < rn) = true := by simp; omega
            have wk : IntKind.i64.wrap ((k : Int) + 1) = (k : Int) + 1 := IntWalk.i64_in _ (by omega)
            by_cases h6 : u.kinds[f]?.getD 0 = 6
            · have q6 : (((u.kinds[f]?.getD 0 : Nat) : Int) != 6) = false := by simp [h6]
              have hlow : ∀ y, 4 * f ≤ y → y < 4 * e → ∃ i x, i < u.a ∧ x ∈ S.fr i ∧ x ≤ y ∧ y < x + csz (S.cls i) := fun y y1 y2 =>
                free_at hok hs (by omega) (by rw [← HKG.out (y / 4) (by omega), hin (y / 4) (by omega) (by omega), h6])
              have h16 : (4 * f) % 16 = 0 := by
                obtain ⟨i, x, hi, hx, x1, x2⟩ := hlow (4 * f) (Nat.le_refl _) (by omega)
                have h1 := hs.each i hi
                obtain ⟨a1, a2, a3, a4, a5, a6, a7⟩ := h1.at_ hok hi (.inl hx)
                by_cases hxe : x = 4 * f
                · omega
                · exfalso
                  rcases hbd hfl with h | h
                  · omega
                  · apply h
                    rw [h6, HKG.out (f - 1) (by omega)]
                    exact h1.free.kd x hx (f - 1) (by omega) (by omega)
              have HLOW := Lib.hid hlow
              clear hlow hbd hin h6
              generalize u.kinds[f]?.getD 0 = kf at *
              have e4 : IntKind.i64.wrap (((4 * f : Nat) : Int) + ((4 * (e - f) : Nat) : Int)) = ((4 * e : Nat) : Int) := by rw [IntWalk.i64_in _ (by omega)]; omega
              have hz4 : 4 * e ≤ 1048576 := by omega
              generalize hL4 : 4 * (e - f) = lf at *
              generalize hE4 : 4 * e = ee at *
              generalize hF4 : 4 * f = ff at *
              generalize hcf : cF (frees u.a S) ff = cf at *
              have HCF := Lib.hid hcf
              clear hcf
              go_wp2_with fail
              go_loopw [8, 11] (fun fr at_ W => ∃ d : Nat, at_ = .int .i64 (ff + 8 * d : Nat) ∧ fr = .int .i64 (cF (frees u.a S) (ff + 8 * d) : Nat) ∧ (d = 0 ∨ ff + 8 * d < ee + 8) ∧ IsH W q u ∧ Fr q.blocks w6 W) (fun _ at_ _ => ee + 8 - (intOf at_).toNat)
              case atStart => exact ⟨0, rfl, by rw [Nat.mul_zero, Nat.add_zero, HCF.out], .inl rfl, HI7.out, F7.out⟩
              case round =>
                clear HI7 F7 c0 c1 c2
                obtain ⟨d, rfl, rfl, hd, hI, hF⟩ := hrel
                have HI8 := Lib.hid hI
                have F8 := Lib.hid hF
                obtain ⟨c0, c1, c2⟩ := (HRR.out.fr hF hgq).cells (k := k) (r := (ff, lf, kf)) HGE.out
                simp only at c0 c1 c2
                clear hI hF
                have hdb : ff + 8 * d ≤ 1048592 := by omega
                generalize hy : ff + 8 * d = y at *
                have y8 : y % 8 = 0 := by omega
                by_cases hye : y < ee
                · have y1 : decide ((y : Int) < ee) = true := by simp; omega
                  have y1' : decide (y < ee) = true := by simp; omega
                  have wy : IntKind.i64.wrap ((y : Int) + 8) = ((y + 8 : Nat) : Int) := IntWalk.i64_in _ (by omega)
                  obtain ⟨i, x, hi, hx, x1, x2⟩ := HLOW.out y (by omega) hye
                  have hblk := free_blk hok hs hi hx x1 x2
                  have hsb := HSB.out _ HI8.out.drew y
                  have hY := And.intro c0 c1
                  rw [hblk] at hsb
                  simp only at hsb
                  obtain ⟨nx, hn1, hat⟩ := free_load hok hs hi hx x1 x2 y8
                  have HLD := Lib.hid (fun W (hW : IsH W q u) => (show Calls Tryz.prog 71 #[.pointer (some ⟨q.m, 0, none⟩), .int .i64 y, .int .i64 8, .int .i64 6] W fun e w' => e = .returned (.int .u64 (if y = x then nx * 4294967296 else 0 : Nat)) ∧ IsT w' q u ∧ Fr q.blocks W w' from tload hW.m hat))
                  have hst := free_start hok hs hi hx x1 x2
                  have hc8 := cF_8 (F := frees u.a S) (fun y hy => (HFR.out y hy).1) y8
                  have hle8 := HFL.out y
                  have hi7 : i < 7 := by omega
                  have i1 : decide ((i : Int) < 0) = false := by simp
                  have i2 : decide ((6 : Int) < i) = false := by simp; omega
                  have i2' : decide (6 < i) = false := by simp; omega
                  have HGT := Lib.hid (fun W (hW : IsH W q u) => free_get hW hs hi hx)
                  generalize hcy : cF (frees u.a S) y = cy at *
                  by_cases hxy : y = x
                  · rw [if_pos (hst.2 hxy)] at hc8
                    rw [if_pos hxy] at HLD
                    clear hst
                    subst hxy
                    have b1 : ((y : Int) == y) = true := by simp
                    have wc : IntKind.i64.wrap ((cy : Int) + 1) = ((cy + 1 : Nat) : Int) := IntWalk.i64_in _ (by omega)
                    have r1 : ((nx * 4294967296 : Nat) : Int).tmod 4294967296 = 0 := by
                      rw [Int.tmod_eq_emod_of_nonneg (by omega)]
                      omega
                    have HC8 := Lib.hid hc8
                    clear hc8 hat hblk hd
                    generalize nx * 4294967296 = nn at *
                    go_wp2_with fail
                    refine wp_region_held_drew (S := fun W => W.cell? ⟨gR, k * 3, none⟩ = some (.int .i64 ff) ∧ W.cell? ⟨gR, k * 3 + 1, none⟩ = some (.int .i64 lf)) (by kernel_rfl) (hY) (fun hHeld => ?_)
                    refine wpAnyH_take (i := 0) (oi := ?ooc0) (v := ?vvc0) ?hic0 (by kernel_rfl) (by kernel_rfl) (by kernel_rfl) ?hqc0 (Or.inl ⟨?hwc0, ?hhc0⟩) hHeld ?rrc0
                    case hic0 => (simp only [List.getElem?_toArray, List.getElem?_cons_zero, List.getElem?_cons_succ]; rfl)
                    case hqc0 => exact fun _ _ _ h => h
                    case hwc0 => rfl
                    case hhc0 => (intro w hSw; (try dsimp only at hSw); go_simp; try with_reducible rfl)
                    try simp only [Act.put, List.setIfInBounds_toArray, List.set_cons_zero, List.set_cons_succ]
                    refine wpAnyH_take (i := 1) (oi := ?ooc1) (v := ?vvc1) ?hic1 (by kernel_rfl) (by kernel_rfl) (by kernel_rfl) ?hqc1 (Or.inl ⟨?hwc1, ?hhc1⟩) hHeld ?rrc1
                    case hic1 => (simp only [List.getElem?_toArray, List.getElem?_cons_zero, List.getElem?_cons_succ]; rfl)
                    case hqc1 => exact fun _ _ _ h => h
                    case hwc1 => rfl
                    case hhc1 => (intro w hSw; (try dsimp only at hSw); go_simp; try with_reducible rfl)
                    try simp only [Act.put, List.setIfInBounds_toArray, List.set_cons_zero, List.set_cons_succ]
                    refine wpAnyH_take (i := 2) (oi := ?ooc2) (v := ?vvc2) ?hic2 (by kernel_rfl) (by kernel_rfl) (by kernel_rfl) ?hqc2 (Or.inl ⟨?hwc2, ?hhc2⟩) hHeld ?rrc2
                    case hic2 => (simp only [List.getElem?_toArray, List.getElem?_cons_zero, List.getElem?_cons_succ]; rfl)
                    case hqc2 => exact fun _ _ _ h => h
                    case hwc2 => rfl
                    case hhc2 => (intro w hSw; (try dsimp only at hSw); go_simp; try with_reducible rfl)
                    try simp only [Act.put, List.setIfInBounds_toArray, List.set_cons_zero, List.set_cons_succ]
                    refine wpAnyH_take (i := 3) (oi := ?ooc3) (v := ?vvc3) ?hic3 (by kernel_rfl) (by kernel_rfl) (by kernel_rfl) ?hqc3 (Or.inl ⟨?hwc3, ?hhc3⟩) hHeld ?rrc3
                    case hic3 => (simp only [List.getElem?_toArray, List.getElem?_cons_zero, List.getElem?_cons_succ]; rfl)
                    case hqc3 => exact fun _ _ _ h => h
                    case hwc3 => rfl
                    case hhc3 => (intro w hSw; (try dsimp only at hSw); go_simp; try with_reducible rfl)
                    try simp only [Act.put, List.setIfInBounds_toArray, List.set_cons_zero, List.set_cons_succ]
                    refine wpAnyH_take (i := 4) (oi := ?ooc4) (v := ?vvc4) ?hic4 (by kernel_rfl) (by kernel_rfl) (by kernel_rfl) ?hqc4 (Or.inl ⟨?hwc4, ?hhc4⟩) hHeld ?rrc4
                    case hic4 => (simp only [List.getElem?_toArray, List.getElem?_cons_zero, List.getElem?_cons_succ]; rfl)
                    case hqc4 => exact fun _ _ _ h => h
                    case hwc4 => rfl
                    case hhc4 => (intro w hSw; (try dsimp only at hSw); go_simp; try with_reducible rfl)
                    try simp only [Act.put, List.setIfInBounds_toArray, List.set_cons_zero, List.set_cons_succ]
                    refine wpAnyH_take (i := 5) (oi := ?ooc5) (v := ?vvc5) ?hic5 (by kernel_rfl) (by kernel_rfl) (by kernel_rfl) ?hqc5 (Or.inl ⟨?hwc5, ?hhc5⟩) hHeld ?rrc5
                    case hic5 => (simp only [List.getElem?_toArray, List.getElem?_cons_zero, List.getElem?_cons_succ]; rfl)
                    case hqc5 => exact fun _ _ _ h => h
                    case hwc5 => rfl
                    case hhc5 => (intro w hSw; (try dsimp only at hSw); go_simp; try with_reducible rfl)
                    try simp only [Act.put, List.setIfInBounds_toArray, List.set_cons_zero, List.set_cons_succ]
                    refine wpAnyH_take (i := 6) (oi := ?ooc6) (v := ?vvc6) ?hic6 (by kernel_rfl) (by kernel_rfl) (by kernel_rfl) ?hqc6 (Or.inl ⟨?hwc6, ?hhc6⟩) hHeld ?rrc6
                    case hic6 => (simp only [List.getElem?_toArray, List.getElem?_cons_zero, List.getElem?_cons_succ]; rfl)
                    case hqc6 => exact fun _ _ _ h => h
                    case hwc6 => rfl
                    case hhc6 => (intro w hSw; (try dsimp only at hSw); go_simp; try with_reducible rfl)
                    try simp only [Act.put, List.setIfInBounds_toArray, List.set_cons_zero, List.set_cons_succ]
                    refine wpAnyH_take (i := 7) (oi := ?ooc7) (v := ?vvc7) ?hic7 (by kernel_rfl) (by kernel_rfl) (by kernel_rfl) ?hqc7 (Or.inl ⟨?hwc7, ?hhc7⟩) hHeld ?rrc7
                    case hic7 => (simp only [List.getElem?_toArray, List.getElem?_cons_zero, List.getElem?_cons_succ]; rfl)
                    case hqc7 => exact fun _ _ _ h => h
                    case hwc7 => rfl
                    case hhc7 => (intro w hSw; (try dsimp only at hSw); go_simp; try with_reducible rfl)
                    try simp only [Act.put, List.setIfInBounds_toArray, List.set_cons_zero, List.set_cons_succ]
                    refine wpAnyH_take (i := 8) (oi := ?ooc8) (v := ?vvc8) ?hic8 (by kernel_rfl) (by kernel_rfl) (by kernel_rfl) ?hqc8 (Or.inl ⟨?hwc8, ?hhc8⟩) hHeld ?rrc8
                    case hic8 => (simp only [List.getElem?_toArray, List.getElem?_cons_zero, List.getElem?_cons_succ]; rfl)
                    case hqc8 => exact fun _ _ _ h => h
                    case hwc8 => rfl
                    case hhc8 => (intro w hSw; (try dsimp only at hSw); go_simp; try with_reducible rfl)
                    try simp only [Act.put, List.setIfInBounds_toArray, List.set_cons_zero, List.set_cons_succ]
                    refine wpAnyH_take (i := 9) (oi := ?ooc9) (v := ?vvc9) ?hic9 (by kernel_rfl) (by kernel_rfl) (by kernel_rfl) ?hqc9 (Or.inl ⟨?hwc9, ?hhc9⟩) hHeld ?rrc9
                    case hic9 => (simp only [List.getElem?_toArray, List.getElem?_cons_zero, List.getElem?_cons_succ]; rfl)
                    case hqc9 => exact fun _ _ _ h => h
                    case hwc9 => rfl
                    case hhc9 => (intro w hSw; (try dsimp only at hSw); go_simp; try with_reducible rfl)
                    try simp only [Act.put, List.setIfInBounds_toArray, List.set_cons_zero, List.set_cons_succ]
                    refine wpAnyH_take (i := 10) (oi := ?ooc10) (v := ?vvc10) ?hic10 (by kernel_rfl) (by kernel_rfl) (by kernel_rfl) ?hqc10 (Or.inl ⟨?hwc10, ?hhc10⟩) hHeld ?rrc10
                    case hic10 => (simp only [List.getElem?_toArray, List.getElem?_cons_zero, List.getElem?_cons_succ]; rfl)
                    case hqc10 => exact fun _ _ _ h => h
                    case hwc10 => rfl
                    case hhc10 => (intro w hSw; (try dsimp only at hSw); go_simp; try with_reducible rfl)
                    try simp only [Act.put, List.setIfInBounds_toArray, List.set_cons_zero, List.set_cons_succ]
                    refine wpAnyH_take (i := 11) (oi := ?ooc11) (v := ?vvc11) ?hic11 (by kernel_rfl) (by kernel_rfl) (by kernel_rfl) ?hqc11 (Or.inl ⟨?hwc11, ?hhc11⟩) hHeld ?rrc11
                    case hic11 => (simp only [List.getElem?_toArray, List.getElem?_cons_zero, List.getElem?_cons_succ]; rfl)
                    case hqc11 => exact fun _ _ _ h => h
                    case hwc11 => rfl
                    case hhc11 => (intro w hSw; (try dsimp only at hSw); go_simp; try with_reducible rfl)
                    try simp only [Act.put, List.setIfInBounds_toArray, List.set_cons_zero, List.set_cons_succ]
                    refine wpAnyH_take (i := 12) (oi := ?ooc12) (v := ?vvc12) ?hic12 (by kernel_rfl) (by kernel_rfl) (by kernel_rfl) ?hqc12 (Or.inl ⟨?hwc12, ?hhc12⟩) hHeld ?rrc12
                    case hic12 => (simp only [List.getElem?_toArray, List.getElem?_cons_zero, List.getElem?_cons_succ]; rfl)
                    case hqc12 => exact fun _ _ _ h => h
                    case hwc12 => rfl
                    case hhc12 => (intro w hSw; (try dsimp only at hSw); go_simp; try with_reducible rfl)
                    try simp only [Act.put, List.setIfInBounds_toArray, List.set_cons_zero, List.set_cons_succ]
                    refine wpAnyH_done (by kernel_rfl) ?_ _
                    go_wp2_with fail
                    with_reducible refine hsb.mono ?_
                    rintro e w9 ⟨rfl, h9, f9⟩
                    have H9 := Lib.hid h9
                    have F9 := Lib.hid (F8.out.drew.trans f9)
                    have hld := HLD.out _ h9
                    clear hsb h9 f9 HI8 F8
                    go_wp2_with fail
                    with_reducible refine hld.mono ?_
                    rintro e w10 ⟨rfl, h10, f10⟩
                    have H10 := Lib.hid (H9.out.step h10 f10)
                    have F10 := Lib.hid (F9.out.trans f10)
                    clear hld h10 f10 H9 F9
                    obtain ⟨n1, hn2, hgt⟩ := HGT.out _ H10.out
                    unfold GetP at hgt
                    rw [show (HB.lnk n1).val = .agg #[.int .i64 0, .int .i64 0, .bool false, .int .i64 0, .int .u32 n1, .int .u32 0, .int .u32 0, .int .u32 0, .int .u64 0, .int .u16 0, .int .i64 0, .int .u32 0] from rfl] at hgt
                    go_wp2_with fail
                    with_reducible refine hgt.mono ?_
                    rintro e w11 ⟨rfl, h11, f11⟩
                    have H11 := Lib.hid h11
                    have F11 := Lib.hid (F10.out.trans f11)
                    clear hgt h11 f11 H10 F10
                    go_wp2_with fail
                    go_roundw
                    case rel => exact ⟨d + 1, by rw [← hy]; rfl, by rw [show ff + 8 * (d + 1) = y + 8 by omega, HC8.out]; rfl, .inr (by omega), H11.out.fr0 ((Fr.refl [] w11).alloc _), F11.out.alloc _⟩
                    case measure => simp [intOf]; omega
                  · have b1 : ((x : Int) == y) = false := beq_eq_false_iff_ne.2 (by omega)
                    rw [if_neg (fun h => hxy (hst.1 h))] at hc8
                    rw [if_neg hxy] at HLD
                    have HC8 := Lib.hid hc8
                    clear hc8 hst hat hblk hd HGT
                    go_wp2_with fail
                    refine wp_region_held_drew (S := fun W => W.cell? ⟨gR, k * 3, none⟩ = some (.int .i64 ff) ∧ W.cell? ⟨gR, k * 3 + 1, none⟩ = some (.int .i64 lf)) (by kernel_rfl) (hY) (fun hHeld => ?_)
                    refine wpAnyH_take (i := 0) (oi := ?ood0) (v := ?vvd0) ?hid0 (by kernel_rfl) (by kernel_rfl) (by kernel_rfl) ?hqd0 (Or.inl ⟨?hwd0, ?hhd0⟩) hHeld ?rrd0
                    case hid0 => (simp only [List.getElem?_toArray, List.getElem?_cons_zero, List.getElem?_cons_succ]; rfl)
                    case hqd0 => exact fun _ _ _ h => h
                    case hwd0 => rfl
                    case hhd0 => (intro w hSw; (try dsimp only at hSw); go_simp; try with_reducible rfl)
                    try simp only [Act.put, List.setIfInBounds_toArray, List.set_cons_zero, List.set_cons_succ]
                    refine wpAnyH_take (i := 1) (oi := ?ood1) (v := ?vvd1) ?hid1 (by kernel_rfl) (by kernel_rfl) (by kernel_rfl) ?hqd1 (Or.inl ⟨?hwd1, ?hhd1⟩) hHeld ?rrd1
                    case hid1 => (simp only [List.getElem?_toArray, List.getElem?_cons_zero, List.getElem?_cons_succ]; rfl)
                    case hqd1 => exact fun _ _ _ h => h
                    case hwd1 => rfl
                    case hhd1 => (intro w hSw; (try dsimp only at hSw); go_simp; try with_reducible rfl)
                    try simp only [Act.put, List.setIfInBounds_toArray, List.set_cons_zero, List.set_cons_succ]
                    refine wpAnyH_take (i := 2) (oi := ?ood2) (v := ?vvd2) ?hid2 (by kernel_rfl) (by kernel_rfl) (by kernel_rfl) ?hqd2 (Or.inl ⟨?hwd2, ?hhd2⟩) hHeld ?rrd2
                    case hid2 => (simp only [List.getElem?_toArray, List.getElem?_cons_zero, List.getElem?_cons_succ]; rfl)
                    case hqd2 => exact fun _ _ _ h => h
                    case hwd2 => rfl
                    case hhd2 => (intro w hSw; (try dsimp only at hSw); go_simp; try with_reducible rfl)
                    try simp only [Act.put, List.setIfInBounds_toArray, List.set_cons_zero, List.set_cons_succ]
                    refine wpAnyH_take (i := 3) (oi := ?ood3) (v := ?vvd3) ?hid3 (by kernel_rfl) (by kernel_rfl) (by kernel_rfl) ?hqd3 (Or.inl ⟨?hwd3, ?hhd3⟩) hHeld ?rrd3
                    case hid3 => (simp only [List.getElem?_toArray, List.getElem?_cons_zero, List.getElem?_cons_succ]; rfl)
                    case hqd3 => exact fun _ _ _ h => h
                    case hwd3 => rfl
                    case hhd3 => (intro w hSw; (try dsimp only at hSw); go_simp; try with_reducible rfl)
                    try simp only [Act.put, List.setIfInBounds_toArray, List.set_cons_zero, List.set_cons_succ]
                    refine wpAnyH_take (i := 4) (oi := ?ood4) (v := ?vvd4) ?hid4 (by kernel_rfl) (by kernel_rfl) (by kernel_rfl) ?hqd4 (Or.inl ⟨?hwd4, ?hhd4⟩) hHeld ?rrd4
                    case hid4 => (simp only [List.getElem?_toArray, List.getElem?_cons_zero, List.getElem?_cons_succ]; rfl)
                    case hqd4 => exact fun _ _ _ h => h
                    case hwd4 => rfl
                    case hhd4 => (intro w hSw; (try dsimp only at hSw); go_simp; try with_reducible rfl)
                    try simp only [Act.put, List.setIfInBounds_toArray, List.set_cons_zero, List.set_cons_succ]
                    refine wpAnyH_take (i := 5) (oi := ?ood5) (v := ?vvd5) ?hid5 (by kernel_rfl) (by kernel_rfl) (by kernel_rfl) ?hqd5 (Or.inl ⟨?hwd5, ?hhd5⟩) hHeld ?rrd5
                    case hid5 => (simp only [List.getElem?_toArray, List.getElem?_cons_zero, List.getElem?_cons_succ]; rfl)
                    case hqd5 => exact fun _ _ _ h => h
                    case hwd5 => rfl
                    case hhd5 => (intro w hSw; (try dsimp only at hSw); go_simp; try with_reducible rfl)
                    try simp only [Act.put, List.setIfInBounds_toArray, List.set_cons_zero, List.set_cons_succ]
                    refine wpAnyH_take (i := 6) (oi := ?ood6) (v := ?vvd6) ?hid6 (by kernel_rfl) (by kernel_rfl) (by kernel_rfl) ?hqd6 (Or.inl ⟨?hwd6, ?hhd6⟩) hHeld ?rrd6
                    case hid6 => (simp only [List.getElem?_toArray, List.getElem?_cons_zero, List.getElem?_cons_succ]; rfl)
                    case hqd6 => exact fun _ _ _ h => h
                    case hwd6 => rfl
                    case hhd6 => (intro w hSw; (try dsimp only at hSw); go_simp; try with_reducible rfl)
                    try simp only [Act.put, List.setIfInBounds_toArray, List.set_cons_zero, List.set_cons_succ]
                    refine wpAnyH_take (i := 7) (oi := ?ood7) (v := ?vvd7) ?hid7 (by kernel_rfl) (by kernel_rfl) (by kernel_rfl) ?hqd7 (Or.inl ⟨?hwd7, ?hhd7⟩) hHeld ?rrd7
                    case hid7 => (simp only [List.getElem?_toArray, List.getElem?_cons_zero, List.getElem?_cons_succ]; rfl)
                    case hqd7 => exact fun _ _ _ h => h
                    case hwd7 => rfl
                    case hhd7 => (intro w hSw; (try dsimp only at hSw); go_simp; try with_reducible rfl)
                    try simp only [Act.put, List.setIfInBounds_toArray, List.set_cons_zero, List.set_cons_succ]
                    refine wpAnyH_take (i := 8) (oi := ?ood8) (v := ?vvd8) ?hid8 (by kernel_rfl) (by kernel_rfl) (by kernel_rfl) ?hqd8 (Or.inl ⟨?hwd8, ?hhd8⟩) hHeld ?rrd8
                    case hid8 => (simp only [List.getElem?_toArray, List.getElem?_cons_zero, List.getElem?_cons_succ]; rfl)
                    case hqd8 => exact fun _ _ _ h => h
                    case hwd8 => rfl
                    case hhd8 => (intro w hSw; (try dsimp only at hSw); go_simp; try with_reducible rfl)
                    try simp only [Act.put, List.setIfInBounds_toArray, List.set_cons_zero, List.set_cons_succ]
                    refine wpAnyH_take (i := 9) (oi := ?ood9) (v := ?vvd9) ?hid9 (by kernel_rfl) (by kernel_rfl) (by kernel_rfl) ?hqd9 (Or.inl ⟨?hwd9, ?hhd9⟩) hHeld ?rrd9
                    case hid9 => (simp only [List.getElem?_toArray, List.getElem?_cons_zero, List.getElem?_cons_succ]; rfl)
                    case hqd9 => exact fun _ _ _ h => h
                    case hwd9 => rfl
                    case hhd9 => (intro w hSw; (try dsimp only at hSw); go_simp; try with_reducible rfl)
                    try simp only [Act.put, List.setIfInBounds_toArray, List.set_cons_zero, List.set_cons_succ]
                    refine wpAnyH_take (i := 10) (oi := ?ood10) (v := ?vvd10) ?hid10 (by kernel_rfl) (by kernel_rfl) (by kernel_rfl) ?hqd10 (Or.inl ⟨?hwd10, ?hhd10⟩) hHeld ?rrd10
                    case hid10 => (simp only [List.getElem?_toArray, List.getElem?_cons_zero, List.getElem?_cons_succ]; rfl)
                    case hqd10 => exact fun _ _ _ h => h
                    case hwd10 => rfl
                    case hhd10 => (intro w hSw; (try dsimp only at hSw); go_simp; try with_reducible rfl)
                    try simp only [Act.put, List.setIfInBounds_toArray, List.set_cons_zero, List.set_cons_succ]
                    refine wpAnyH_take (i := 11) (oi := ?ood11) (v := ?vvd11) ?hid11 (by kernel_rfl) (by kernel_rfl) (by kernel_rfl) ?hqd11 (Or.inl ⟨?hwd11, ?hhd11⟩) hHeld ?rrd11
                    case hid11 => (simp only [List.getElem?_toArray, List.getElem?_cons_zero, List.getElem?_cons_succ]; rfl)
                    case hqd11 => exact fun _ _ _ h => h
                    case hwd11 => rfl
                    case hhd11 => (intro w hSw; (try dsimp only at hSw); go_simp; try with_reducible rfl)
                    try simp only [Act.put, List.setIfInBounds_toArray, List.set_cons_zero, List.set_cons_succ]
                    refine wpAnyH_take (i := 12) (oi := ?ood12) (v := ?vvd12) ?hid12 (by kernel_rfl) (by kernel_rfl) (by kernel_rfl) ?hqd12 (Or.inl ⟨?hwd12, ?hhd12⟩) hHeld ?rrd12
                    case hid12 => (simp only [List.getElem?_toArray, List.getElem?_cons_zero, List.getElem?_cons_succ]; rfl)
                    case hqd12 => exact fun _ _ _ h => h
                    case hwd12 => rfl
                    case hhd12 => (intro w hSw; (try dsimp only at hSw); go_simp; try with_reducible rfl)
                    try simp only [Act.put, List.setIfInBounds_toArray, List.set_cons_zero, List.set_cons_succ]
                    refine wpAnyH_done (by kernel_rfl) ?_ _
                    go_wp2_with fail
                    with_reducible refine hsb.mono ?_
                    rintro e w9 ⟨rfl, h9, f9⟩
                    have H9 := Lib.hid h9
                    have F9 := Lib.hid (F8.out.drew.trans f9)
                    have hld := HLD.out _ h9
                    clear hsb h9 f9 HI8 F8
                    go_wp2_with fail
                    with_reducible refine hld.mono ?_
                    rintro e w10 ⟨rfl, h10, f10⟩
                    have H10 := Lib.hid (H9.out.step h10 f10)
                    have F10 := Lib.hid (F9.out.trans f10)
                    clear hld h10 f10 H9 F9
                    go_wp2_with fail
                    go_roundw
                    case rel => exact ⟨d + 1, by rw [← hy]; rfl, by rw [show ff + 8 * (d + 1) = y + 8 by omega, HC8.out, Nat.add_zero], .inr (by omega), H10.out, F10.out⟩
                    case measure => simp [intOf]; omega
                · have y1 : decide ((y : Int) < ee) = false := by simp; omega
                  have y1' : decide (y < ee) = false := by simp; omega
                  have hgap : cF (frees u.a S) y = cF (frees u.a S) ee := by
                    rw [show y = ee + (y - ee) by omega]
                    exact cF_gap (fun z z1 z2 hz => by
                      have := (HFR.out z hz).1
                      omega)
                  have HGP := Lib.hid hgap
                  have hY := And.intro c0 c1
                  clear hgap
                  generalize hcy : cF (frees u.a S) y = cy at *
                  go_wp2_with fail
                  refine wp_region_held_drew (S := fun W => W.cell? ⟨gR, k * 3, none⟩ = some (.int .i64 ff) ∧ W.cell? ⟨gR, k * 3 + 1, none⟩ = some (.int .i64 lf)) (by kernel_rfl) (hY) (fun hHeld => ?_)
                  refine wpAnyH_take (i := 0) (oi := ?ooe0) (v := ?vve0) ?hie0 (by kernel_rfl) (by kernel_rfl) (by kernel_rfl) ?hqe0 (Or.inl ⟨?hwe0, ?hhe0⟩) hHeld ?rre0
                  case hie0 => (simp only [List.getElem?_toArray, List.getElem?_cons_zero, List.getElem?_cons_succ]; rfl)
                  case hqe0 => exact fun _ _ _ h => h
                  case hwe0 => rfl
                  case hhe0 => (intro w hSw; (try dsimp only at hSw); go_simp; try with_reducible rfl)
                  try simp only [Act.put, List.setIfInBounds_toArray, List.set_cons_zero, List.set_cons_succ]
                  refine wpAnyH_take (i := 1) (oi := ?ooe1) (v := ?vve1) ?hie1 (by kernel_rfl) (by kernel_rfl) (by kernel_rfl) ?hqe1 (Or.inl ⟨?hwe1, ?hhe1⟩) hHeld ?rre1
                  case hie1 => (simp only [List.getElem?_toArray, List.getElem?_cons_zero, List.getElem?_cons_succ]; rfl)
                  case hqe1 => exact fun _ _ _ h => h
                  case hwe1 => rfl
                  case hhe1 => (intro w hSw; (try dsimp only at hSw); go_simp; try with_reducible rfl)
                  try simp only [Act.put, List.setIfInBounds_toArray, List.set_cons_zero, List.set_cons_succ]
                  refine wpAnyH_take (i := 2) (oi := ?ooe2) (v := ?vve2) ?hie2 (by kernel_rfl) (by kernel_rfl) (by kernel_rfl) ?hqe2 (Or.inl ⟨?hwe2, ?hhe2⟩) hHeld ?rre2
                  case hie2 => (simp only [List.getElem?_toArray, List.getElem?_cons_zero, List.getElem?_cons_succ]; rfl)
                  case hqe2 => exact fun _ _ _ h => h
                  case hwe2 => rfl
                  case hhe2 => (intro w hSw; (try dsimp only at hSw); go_simp; try with_reducible rfl)
                  try simp only [Act.put, List.setIfInBounds_toArray, List.set_cons_zero, List.set_cons_succ]
                  refine wpAnyH_take (i := 3) (oi := ?ooe3) (v := ?vve3) ?hie3 (by kernel_rfl) (by kernel_rfl) (by kernel_rfl) ?hqe3 (Or.inl ⟨?hwe3, ?hhe3⟩) hHeld ?rre3
                  case hie3 => (simp only [List.getElem?_toArray, List.getElem?_cons_zero, List.getElem?_cons_succ]; rfl)
                  case hqe3 => exact fun _ _ _ h => h
                  case hwe3 => rfl
                  case hhe3 => (intro w hSw; (try dsimp only at hSw); go_simp; try with_reducible rfl)
                  try simp only [Act.put, List.setIfInBounds_toArray, List.set_cons_zero, List.set_cons_succ]
                  refine wpAnyH_take (i := 4) (oi := ?ooe4) (v := ?vve4) ?hie4 (by kernel_rfl) (by kernel_rfl) (by kernel_rfl) ?hqe4 (Or.inl ⟨?hwe4, ?hhe4⟩) hHeld ?rre4
                  case hie4 => (simp only [List.getElem?_toArray, List.getElem?_cons_zero, List.getElem?_cons_succ]; rfl)
                  case hqe4 => exact fun _ _ _ h => h
                  case hwe4 => rfl
                  case hhe4 => (intro w hSw; (try dsimp only at hSw); go_simp; try with_reducible rfl)
                  try simp only [Act.put, List.setIfInBounds_toArray, List.set_cons_zero, List.set_cons_succ]
                  refine wpAnyH_take (i := 5) (oi := ?ooe5) (v := ?vve5) ?hie5 (by kernel_rfl) (by kernel_rfl) (by kernel_rfl) ?hqe5 (Or.inl ⟨?hwe5, ?hhe5⟩) hHeld ?rre5
                  case hie5 => (simp only [List.getElem?_toArray, List.getElem?_cons_zero, List.getElem?_cons_succ]; rfl)
                  case hqe5 => exact fun _ _ _ h => h
                  case hwe5 => rfl
                  case hhe5 => (intro w hSw; (try dsimp only at hSw); go_simp; try with_reducible rfl)
                  try simp only [Act.put, List.setIfInBounds_toArray, List.set_cons_zero, List.set_cons_succ]
                  refine wpAnyH_take (i := 6) (oi := ?ooe6) (v := ?vve6) ?hie6 (by kernel_rfl) (by kernel_rfl) (by kernel_rfl) ?hqe6 (Or.inl ⟨?hwe6, ?hhe6⟩) hHeld ?rre6
                  case hie6 => (simp only [List.getElem?_toArray, List.getElem?_cons_zero, List.getElem?_cons_succ]; rfl)
                  case hqe6 => exact fun _ _ _ h => h
                  case hwe6 => rfl
                  case hhe6 => (intro w hSw; (try dsimp only at hSw); go_simp; try with_reducible rfl)
                  try simp only [Act.put, List.setIfInBounds_toArray, List.set_cons_zero, List.set_cons_succ]
                  refine wpAnyH_take (i := 7) (oi := ?ooe7) (v := ?vve7) ?hie7 (by kernel_rfl) (by kernel_rfl) (by kernel_rfl) ?hqe7 (Or.inl ⟨?hwe7, ?hhe7⟩) hHeld ?rre7
                  case hie7 => (simp only [List.getElem?_toArray, List.getElem?_cons_zero, List.getElem?_cons_succ]; rfl)
                  case hqe7 => exact fun _ _ _ h => h
                  case hwe7 => rfl
                  case hhe7 => (intro w hSw; (try dsimp only at hSw); go_simp; try with_reducible rfl)
                  try simp only [Act.put, List.setIfInBounds_toArray, List.set_cons_zero, List.set_cons_succ]
                  refine wpAnyH_take (i := 8) (oi := ?ooe8) (v := ?vve8) ?hie8 (by kernel_rfl) (by kernel_rfl) (by kernel_rfl) ?hqe8 (Or.inl ⟨?hwe8, ?hhe8⟩) hHeld ?rre8
                  case hie8 => (simp only [List.getElem?_toArray, List.getElem?_cons_zero, List.getElem?_cons_succ]; rfl)
                  case hqe8 => exact fun _ _ _ h => h
                  case hwe8 => rfl
                  case hhe8 => (intro w hSw; (try dsimp only at hSw); go_simp; try with_reducible rfl)
                  try simp only [Act.put, List.setIfInBounds_toArray, List.set_cons_zero, List.set_cons_succ]
                  refine wpAnyH_take (i := 9) (oi := ?ooe9) (v := ?vve9) ?hie9 (by kernel_rfl) (by kernel_rfl) (by kernel_rfl) ?hqe9 (Or.inl ⟨?hwe9, ?hhe9⟩) hHeld ?rre9
                  case hie9 => (simp only [List.getElem?_toArray, List.getElem?_cons_zero, List.getElem?_cons_succ]; rfl)
                  case hqe9 => exact fun _ _ _ h => h
                  case hwe9 => rfl
                  case hhe9 => (intro w hSw; (try dsimp only at hSw); go_simp; try with_reducible rfl)
                  try simp only [Act.put, List.setIfInBounds_toArray, List.set_cons_zero, List.set_cons_succ]
                  refine wpAnyH_take (i := 10) (oi := ?ooe10) (v := ?vve10) ?hie10 (by kernel_rfl) (by kernel_rfl) (by kernel_rfl) ?hqe10 (Or.inl ⟨?hwe10, ?hhe10⟩) hHeld ?rre10
                  case hie10 => (simp only [List.getElem?_toArray, List.getElem?_cons_zero, List.getElem?_cons_succ]; rfl)
                  case hqe10 => exact fun _ _ _ h => h
                  case hwe10 => rfl
                  case hhe10 => (intro w hSw; (try dsimp only at hSw); go_simp; try with_reducible rfl)
                  try simp only [Act.put, List.setIfInBounds_toArray, List.set_cons_zero, List.set_cons_succ]
                  refine wpAnyH_take (i := 11) (oi := ?ooe11) (v := ?vve11) ?hie11 (by kernel_rfl) (by kernel_rfl) (by kernel_rfl) ?hqe11 (Or.inl ⟨?hwe11, ?hhe11⟩) hHeld ?rre11
                  case hie11 => (simp only [List.getElem?_toArray, List.getElem?_cons_zero, List.getElem?_cons_succ]; rfl)
                  case hqe11 => exact fun _ _ _ h => h
                  case hwe11 => rfl
                  case hhe11 => (intro w hSw; (try dsimp only at hSw); go_simp; try with_reducible rfl)
                  try simp only [Act.put, List.setIfInBounds_toArray, List.set_cons_zero, List.set_cons_succ]
                  refine wpAnyH_take (i := 12) (oi := ?ooe12) (v := ?vve12) ?hie12 (by kernel_rfl) (by kernel_rfl) (by kernel_rfl) ?hqe12 (Or.inl ⟨?hwe12, ?hhe12⟩) hHeld ?rre12
                  case hie12 => (simp only [List.getElem?_toArray, List.getElem?_cons_zero, List.getElem?_cons_succ]; rfl)
                  case hqe12 => exact fun _ _ _ h => h
                  case hwe12 => rfl
                  case hhe12 => (intro w hSw; (try dsimp only at hSw); go_simp; try with_reducible rfl)
                  try simp only [Act.put, List.setIfInBounds_toArray, List.set_cons_zero, List.set_cons_succ]
                  refine wpAnyH_done (by kernel_rfl) ?_ _
                  go_wp2_with fail
                  go_roundw
                  case rel => exact ⟨k + 1, e, by omega, by go_num, by omega, HDR.out.1, HDR.out.2, by rw [hE4, HGP.out], HI8.out.drew, F8.out.drew⟩
                  case measure => simp [intOf]; omega
            · have q6 : (((u.kinds[f]?.getD 0 : Nat) : Int) != 6) = true := by simp; omega
              have hgap : cF (frees u.a S) (4 * e) = cF (frees u.a S) (4 * f) := by
                rw [show 4 * e = 4 * f + 4 * (e - f) by omega]
                exact cF_gap (fun y y1 y2 hy => by
                  obtain ⟨_, _, h3⟩ := HFR.out y hy
                  rw [hin (y / 4) (by omega) (by omega)] at h3
                  exact h6 h3)
              have HGP := Lib.hid hgap
              clear hgap h6 hin hbd
              generalize u.kinds[f]?.getD 0 = kf at *
              generalize hcf : cF (frees u.a S) (4 * f) = cf at *
              go_wp2_with fail
              go_roundw
              case rel => exact ⟨k + 1, e, by omega, by go_num, by omega, HDR.out.1, HDR.out.2, by rw [HGP.out], HI7.out, F7.out⟩
              case measure => simp [intOf]; omega
          · have k2 : decide ((k : Int) < rn) = false := by simp; omega
            have k2' : decide (k < rn) = false := by simp; omega
            have hfe : f = u.kinds.length := by
              rcases Nat.lt_or_ge f u.kinds.length with h | h
              · rw [runsFrom_step _ _ h] at hdr
                have := congrArg List.length hdr
                rw [List.length_drop] at this
                simp at this
                omega
              · omega
            have hcf : cF (frees u.a S) (4 * f) = (frees u.a S).length := by
              rw [hfe, show 4 * u.kinds.length = lsize u.a u.s by omega]
              exact HRS.out.1
            rw [hcf]
            have hr1 := rsum_1 7 S
            have HR1 := Lib.hid hr1
            have hrl : ∀ m, m ≤ 9 → rsum 7 S (m + 1) ≤ 7000 * 9 ∧ rsum 7 S m ≤ 7000 * 9 := fun m hm => by
              have h7 : ∀ m : Nat, roomN 7 S m ≤ 7000 := fun m => Nat.le_trans (roomN_le 7 S m (fun i hi => by
                have h1 := hs.each i (by omega)
                by_cases h0 : S.cls i = 0
                · rw [(h1.z h0).1]; simp
                · have := h1.len h0
                  have := (csz_mul (S.cls i) h1.c9).2.2
                  omega)) (by omega)
              have hall : ∀ m, rsum 7 S m ≤ 7000 * (m - 1) := fun m => by
                induction m with
                | zero => simp [rsum]
                | succ m ih =>
                  by_cases h0 : m = 0
                  · subst h0; rw [hr1]; exact Nat.zero_le _
                  · rw [rsum_succ]; have := h7 m; omega
              have h1 := hall (m + 1)
              have h2 := hall m
              omega
            have HRL := Lib.hid hrl
            have hfin := HRS.out.2
            have HFN := Lib.hid hfin
            generalize (frees u.a S).length = FL at *
            clear hkr hdr hbd hcf hr1 hrl hfin
            go_wp2_with fail
            go_loopw [18, 19] (fun al c W => ∃ m : Nat, 1 ≤ m ∧ m ≤ 10 ∧ c = .int .i64 m ∧ al = .int .i64 (rsum 7 S m : Nat) ∧ IsH W q u ∧ Fr q.blocks w6 W) (fun _ c _ => 11 - (intOf c).toNat)
            case atStart => exact ⟨1, by omega, by omega, rfl, by rw [HR1.out]; rfl, HI7.out, F7.out⟩
            case round =>
              clear HI7 F7
              obtain ⟨m, hm1, hm2, rfl, rfl, hI, hF⟩ := hrel
              have HI8 := Lib.hid hI
              have F8 := Lib.hid hF
              clear hI hF
              by_cases hm9 : m ≤ 9
              · have m2 : decide ((m : Int) ≤ 9) = true := by simp; omega
                have m2' : decide (m ≤ 9) = true := by simp; omega
                have wm : IntKind.i64.wrap ((m : Int) + 1) = (m : Int) + 1 := IntWalk.i64_in _ (by omega)
                have hrm := HROOM.out _ HI8.out m ⟨hm1, hm9⟩
                have h12 := HRL.out m hm9
                have wa : IntKind.i64.wrap ((rsum 7 S m : Int) + ((roomN 7 S (m : Int) : Nat) : Int)) = ((rsum 7 S (m + 1) : Nat) : Int) := by
                  have := rsum_succ 7 S m
                  rw [IntWalk.i64_in _ (by omega)]; omega
                clear h12
                generalize hs1 : rsum 7 S m = s1 at *
                generalize roomN 7 S (m : Int) = rm at *
                generalize hs2 : rsum 7 S (m + 1) = s2 at *
                go_wp2_with fail
                with_reducible refine hrm.mono ?_
                rintro e w9 ⟨rfl, h9, f9⟩
                have H9 := Lib.hid h9
                have F9 := Lib.hid (F8.out.trans f9)
                clear hrm h9 f9
                go_wp2_with fail
                go_roundw
                case rel => exact ⟨m + 1, by omega, by omega, by go_num, by rw [hs2], H9.out, F9.out⟩
                case measure => simp [intOf]; omega
              · obtain rfl : m = 10 := by omega
                have m2 : decide (((10 : Nat) : Int) ≤ 9) = false := by decide
                rw [HFN.out]
                have FW9 := Lib.hid (show Fr [] w wr from FW6.out.step F8.out (fun k hk => .inr (HQ.out k hk)))
                have hL := HL.out _ FW9.out
                have q1 : ((FL : Int) == FL) = true := by simp
                go_wp2_with fail
                with_reducible refine hL.mono ?_
                rintro e w9 ⟨rfl, f9⟩
                go_wp2_with fail
                go_ret
                exact ⟨rfl, FW9.out.trans f9⟩
theorem walk_scleanW (w : World) (h : (TabM w ∧ Tabs w) ∧ ∃ ml : Int, w.cell? ⟨5, 0, none⟩ = some (.int .i64 ml)) (a : Option Addr) (c : Nat) (l : List A15) (hl : ActA15 w a c l) : Calls Tryz.prog 12 #[.slice a l.length c] w fun e w' => e = .returned (.bool true) ∧ Fr [] w w' := by
  obtain ⟨⟨h1, h2⟩, ml, h3⟩ := h
  exact walk_sclean w h1 h2 ml h3 a c l hl
end Go.Proofs.YtkapkbiccppldaaGreatDoor
