/- Layer 15: SlabOnce. -/
import Derived.Test.YtkapkbiccppldaaGreatDoorGI
import Derived.Test.YtkapkbiccppldaaGreatDoorGK
import Derived.Test.YtkapkbiccppldaaGreatDoorGC
import Derived.Test.YtkapkbiccppldaaGreatDoorOpen15
import Derived.Test.YtkapkbiccppldaaGreatDoorLaw15k
import Derived.Lib.MinMax
namespace Go.Proofs.YtkapkbiccppldaaGreatDoor
set_option linter.unusedVariables false
set_option linter.unusedSimpArgs false
open Go.RowKit

theorem rep_set (N k m : Nat) (hk : k < N) : (List.replicate k m ++ List.replicate (N - k) 0).set k m = List.replicate (k + 1) m ++ List.replicate (N - (k + 1)) 0 := by
  obtain ⟨d, hd⟩ : ∃ d, N - k = d + 1 := ⟨N - k - 1, by omega⟩
  rw [List.set_append_right _ _ (by simp), List.length_replicate, Nat.sub_self, hd, List.replicate_succ (n := d), List.set_cons_zero, show N - (k + 1) = d by omega, List.replicate_succ' (n := k), List.append_assoc]
  rfl
set_option maxRecDepth 100000 in
set_option maxHeartbeats 8000000 in
theorem walk_sonce (w : World) (hM : TabM w) (hT : Tabs w) (a : Option Addr) (c : Nat) (l : List A15) (h : ActA15 w a c l) :
    Calls Tryz.prog 4 #[.slice a l.length c] w fun e w' => e = .returned (.bool true) ∧ Fr [] w w' := by
  have HL := Lib.hid (fun W (hf : Fr [] w W) => takes15 W (hM.fr hf (by simp)) (hT.fr hf (by simp)))
  by_cases hgd : 200 < l.length
  · have hL := HL.out w (Fr.refl _ _)
    have b1 : decide ((200 : Int) < l.length) = true := by simp; omega
    have b1' : decide (200 < l.length) = true := by simp; omega
    clear hgd h
    generalize l.length = n at *
    go_enter Tryz.func4, Tryz.ntmps4
    go_wp2_with fail
    with_reducible refine hL.mono ?_
    rintro e w1 ⟨rfl, f1⟩
    go_wp2_with fail
    go_ret
    exact ⟨rfl, f1⟩
  · have b1 : decide ((200 : Int) < l.length) = false := by simp; omega
    have b1' : decide (200 < l.length) = false := by simp; omega
    have HA := Lib.hid h
    have HG := Lib.hid (show 5 ≤ w.heap.size from by have := hM.size; have := hT.size; omega)
    generalize hnn : l.length = n at *
    have HN := Lib.hid hnn
    have hn200 : n ≤ 200 := by omega
    have hn := (show Calls Tryz.prog 15 #[.agg #[.int .i64 7, .int .i64 224]] w (NewH w 7 224) from hnew w hM hT 7 224 cfg7)
    clear h hnn hM hT hgd
    go_enter Tryz.func4, Tryz.ntmps4
    go_wp2_with fail
    with_reducible refine hn.mono ?_
    rintro e w1 ⟨q, rfl, h1, hq, f1⟩
    have HB := Lib.hid (m_begin (w0 := w) h1 cfg7 f1 hq)
    have HQ := Lib.hid hq
    clear hn h1 f1 hq
    go_wp2_with fail
    with_reducible refine HB.out.mono ?_
    rintro e wb ⟨rfl, h2, _⟩
    obtain ⟨z, hz, hzf⟩ := O15.start h2 HG.out
    have HFL := Lib.hid (fun W T (hb : O15 wb W q z T) => o_flt hb hzf)
    have F2 := Lib.hid h2.f
    have HZ := Lib.hid (And.intro hz (R3.nil wb wb.heap.size))
    have HFW := Lib.hid (fun W T (hb : O15 wb W q z T) => (show Fr [] w W from h2.f.step hb.f (fun k hk => .inr (HQ.out k hk))))
    clear hz h2 HB
    go_wp2_with fail
    go_loopw [4, 5, 6, 7] (fun v1 v2 v3 i W => ∃ (j : Nat) (T : List (Nat × Nat × Nat)) (a1 a2 a3 : Value), a1 = v1 ∧ a2 = v2 ∧ a3 = v3 ∧ j ≤ n ∧ i = .int .i64 j ∧ T.length ≤ j ∧ O15 wb W q z T ∧ R3 wb.heap.size a1 a2 a3 T W) (fun _ _ _ i _ => n - (intOf i).toNat)
    case atStart => exact ⟨0, [], _, _, _, rfl, rfl, rfl, by omega, rfl, by simp, HZ.out⟩
    case round =>
      clear HZ
      obtain ⟨j, T, v1, v2, v3, rfl, rfl, rfl, hj, rfl, hT, hO, hR⟩ := hrel
      have HO := Lib.hid hO
      have HR := Lib.hid hR
      clear hO hR
      by_cases hlt : j < n
      · obtain ⟨B, off, rfl, hBl, hr⟩ := HA.out.row (by rw [HN.out]; omega)
        have hlt' : j < l.length := by rw [HN.out]; exact hlt
        have hrj := hr j hlt'
        have fw := HFW.out _ _ HO.out
        have e0 := (fw.cell (p := ⟨B, off + j * 2, none⟩) hBl (by simp)).trans hrj.c0
        have e1 := (fw.cell (p := ⟨B, off + j * 2 + 1, none⟩) hBl (by simp)).trans hrj.c1
        generalize l[j]'hlt' = y at *
        obtain ⟨yk, yn⟩ := y
        simp only at e0 e1
        have hg2 : (0 : Int) ≤ j := by omega
        have hg3 : (j : Int) < n := by omega
        have b6 : decide ((j : Int) < n) = true := by simp; omega
        have b6' : decide (j < n) = true := by simp; omega
        have wj : IntKind.i64.wrap ((j : Int) + 1) = (j : Int) + 1 := IntWalk.i64_in _ (by omega)
        clear hr hrj fw
        by_cases hk : yk < 3
        · have b5 : decide (yk < 3) = true := by simpa using hk
          have f0 : Fr [] wr (wr.alloc (.cells #[.int .i64 yk, .int .i64 yn] 33)) := (Fr.refl [] wr).alloc _
          have BY := Lib.hid (Blk.new wr 33 #[.int .i64 yk, .int .i64 yn])
          have HO0 := Lib.hid (HO.out.fr0 f0)
          have HR0 := Lib.hid (HR.out.fr0 f0)
          have hgy : wb.heap.size ≤ wr.heap.size := HO.out.f.size
          clear f0 HO HR
          go_wp2_with fail
          generalize hgg : wr.heap.size = gy at *
          generalize wr.alloc (.cells #[.int .i64 yk, .int .i64 yn] 33) = w0 at *
          with_reducible refine (o_take HO0.out yn).mono ?_
          rintro e w4 ⟨xx, r, rfl, f4, hc⟩
          have BY4 := Lib.hid (BY.out.fr f4 (fun hm => by have := HO0.out.lt gy hm; omega))
          have HR4 := Lib.hid (HR0.out.frq f4 HO0.out.lt)
          clear f4 HR0 hk BY
          rcases hc with ⟨h0, hk4⟩ | ⟨h0, hx, hk4⟩
          · have b7 : ((r : Int) != 0) = true := by simp; exact h0
            have b8 : ((r : Int) == 0) = false := by simp; exact h0
            have H4 := Lib.hid hk4
            clear hk4 h0 HO0 BY4
            go_wp2_with fail
            go_roundw
            case rel => exact ⟨j + 1, T, _, _, _, rfl, rfl, rfl, by omega, by go_num, by omega, H4.out, HR4.out⟩
            case measure => simp [intOf]; omega
          · subst h0
            have H4 := Lib.hid hk4
            have y1 : w4.cell? ⟨gy, 1, none⟩ = some (.int .i64 yn) := BY4.out.cell 1
            have hs8 := fun W => xsize8 (w := W) yn
            have hlim := hk4.lim (xx, cszZ yn, 0) (List.mem_append_right _ (by simp))
            simp only at hlim
            clear hk4 HO0
            generalize cszZ yn = N at *
            go_wp2_with fail
            with_reducible refine (hs8 _).mono ?_
            rintro e w' ⟨rfl, rfl⟩
            clear hs8 y1
            have hrd := o_read H4.out (xx, N, 0) (List.mem_append_right _ (by simp)) N rfl
            go_wp2_with fail
            with_reducible refine hrd.mono ?_
            rintro e w5 ⟨gb, cb, rfl, hgb, hrb, f5, h5⟩
            have H5 := Lib.hid h5
            have RB := Lib.hid hrb
            have HR5 := Lib.hid (HR4.out.frq f5 H4.out.lt)
            have N1 := Lib.hid (show ∀ g, v1.ownBlock = some g → g < gb from fun g e => Nat.lt_of_lt_of_le (HR4.out.a.lt g e).2 hgb)
            have N2 := Lib.hid (show ∀ g, v2.ownBlock = some g → g < gb from fun g e => Nat.lt_of_lt_of_le (HR4.out.s.lt g e).2 hgb)
            have N3 := Lib.hid (show ∀ g, v3.ownBlock = some g → g < gb from fun g e => Nat.lt_of_lt_of_le (HR4.out.m.lt g e).2 hgb)
            have hgb2 : wb.heap.size ≤ gb := Nat.le_trans H4.out.f.size hgb
            have hbb : ∀ b ∈ List.replicate N 0, b < 256 := fun b hb => by rw [List.eq_of_mem_replicate hb]; decide
            have HCV := Lib.hid (show ∀ W g cw, RowB W g cw (List.replicate N 0) → (convert 44 9 (.slice (some ⟨g, 0, none⟩) N cw)).run Tryz.prog W = .ok (.string (strOf (List.replicate N 0))) W from fun W g cw hr => by
              have := conv_str W _ cw _ (hr.byt hbb (by rw [List.length_replicate]; omega))
              rwa [List.length_replicate] at this)
            have hmk := run_make_bytes (P := Tryz.prog) 44 5 Tryz.underlying44 info_u8 .i64 .i64 N (by omega)
            have HNB := Lib.hid (show ∀ W : World, RowB (W.alloc (.cells (bytes (List.replicate N 0)) 5)) W.heap.size N (List.replicate N 0) from fun W => by
              have := RowB.of (Blk.new W 5 (bytes (List.replicate N 0)))
              rwa [List.length_replicate] at this)
            generalize strOf (List.replicate N 0) = s at *
            generalize bytes (List.replicate N 0) = zs at *
            have q1 : ((N : Int) != N) = false := by simp
            clear hrd hrb h5 hbb HR4 H4 f5
            go_wp2_with fail
            have hY := HCV.out _ _ _ RB.out.drew
            have hY2 := HCV.out _ _ _ (RB.out.alloc (.cells zs 5)).drew
            have hs9 := HCV.out _ _ _ (HNB.out w5).drew
            refine wp_region_held_drew (S := fun W => (convert 44 9 (.slice (some ⟨gb, 0, none⟩) N cb)).run Tryz.prog W = .ok (.string s) W) (by kernel_rfl) (hY) (fun hHeld => ?_)
            refine wpAnyH_take (i := 0) (oi := ?ooa0) (v := ?vva0) ?hia0 (by kernel_rfl) (by kernel_rfl) (by kernel_rfl) ?hqa0 (Or.inl ⟨?hwa0, ?hha0⟩) hHeld ?rra0
            case hia0 => (simp only [List.getElem?_toArray, List.getElem?_cons_zero, List.getElem?_cons_succ]; rfl)
            case hqa0 => exact fun _ _ _ h => h
            case hwa0 => rfl
            case hha0 => (intro w hSw; (try dsimp only at hSw); go_simp; try with_reducible rfl)
            try simp only [Act.put, List.setIfInBounds_toArray, List.set_cons_zero, List.set_cons_succ]
            refine wpAnyH_take (i := 1) (oi := ?ooa1) (v := ?vva1) ?hia1 (by kernel_rfl) (by kernel_rfl) (by kernel_rfl) ?hqa1 (Or.inl ⟨?hwa1, ?hha1⟩) hHeld ?rra1
            case hia1 => (simp only [List.getElem?_toArray, List.getElem?_cons_zero, List.getElem?_cons_succ]; rfl)
            case hqa1 => exact fun _ _ _ h => h
            case hwa1 => rfl
            case hha1 => (intro w hSw; (try dsimp only at hSw); go_simp; try with_reducible rfl)
            try simp only [Act.put, List.setIfInBounds_toArray, List.set_cons_zero, List.set_cons_succ]
            refine wpAnyH_take (i := 2) (oi := ?ooa2) (v := ?vva2) ?hia2 (by kernel_rfl) (by kernel_rfl) (by kernel_rfl) ?hqa2 (Or.inl ⟨?hwa2, ?hha2⟩) hHeld ?rra2
            case hia2 => (simp only [List.getElem?_toArray, List.getElem?_cons_zero, List.getElem?_cons_succ]; rfl)
            case hqa2 => exact fun _ _ _ h => h
            case hwa2 => rfl
            case hha2 => (intro w hSw; (try dsimp only at hSw); go_simp; try with_reducible rfl)
            try simp only [Act.put, List.setIfInBounds_toArray, List.set_cons_zero, List.set_cons_succ]
            refine wpAnyH_take (i := 3) (oi := ?ooa3) (v := ?vva3) ?hia3 (by kernel_rfl) (by kernel_rfl) (by kernel_rfl) ?hqa3 (Or.inl ⟨?hwa3, ?hha3⟩) hHeld ?rra3
            case hia3 => (simp only [List.getElem?_toArray, List.getElem?_cons_zero, List.getElem?_cons_succ]; rfl)
            case hqa3 => exact fun _ _ _ h => h
            case hwa3 => rfl
            case hha3 => (intro w hSw; (try dsimp only at hSw); go_simp; try with_reducible rfl)
            try simp only [Act.put, List.setIfInBounds_toArray, List.set_cons_zero, List.set_cons_succ]
            refine wpAnyH_take (i := 4) (oi := ?ooa4) (v := ?vva4) ?hia4 (by kernel_rfl) (by kernel_rfl) (by kernel_rfl) ?hqa4 (Or.inl ⟨?hwa4, ?hha4⟩) hHeld ?rra4
            case hia4 => (simp only [List.getElem?_toArray, List.getElem?_cons_zero, List.getElem?_cons_succ]; rfl)
            case hqa4 => exact fun _ _ _ h => h
            case hwa4 => rfl
            case hha4 => (intro w hSw; (try dsimp only at hSw); go_simp; try with_reducible rfl)
            try simp only [Act.put, List.setIfInBounds_toArray, List.set_cons_zero, List.set_cons_succ]
            refine wpAnyH_take (i := 5) (oi := ?ooa5) (v := ?vva5) ?hia5 (by kernel_rfl) (by kernel_rfl) (by kernel_rfl) ?hqa5 (Or.inl ⟨?hwa5, ?hha5⟩) hHeld ?rra5
            case hia5 => (simp only [List.getElem?_toArray, List.getElem?_cons_zero, List.getElem?_cons_succ]; rfl)
            case hqa5 => exact fun _ _ _ h => h
            case hwa5 => rfl
            case hha5 => (intro w hSw; (try dsimp only at hSw); go_simp; try with_reducible rfl)
            try simp only [Act.put, List.setIfInBounds_toArray, List.set_cons_zero, List.set_cons_succ]
            refine wpAnyH_take (i := 6) (oi := ?ooa6) (v := ?vva6) ?hia6 (by kernel_rfl) (by kernel_rfl) (by kernel_rfl) ?hqa6 (Or.inl ⟨?hwa6, ?hha6⟩) hHeld ?rra6
            case hia6 => (simp only [List.getElem?_toArray, List.getElem?_cons_zero, List.getElem?_cons_succ]; rfl)
            case hqa6 => exact fun _ _ _ h => h
            case hwa6 => rfl
            case hha6 => (intro w hSw; (try dsimp only at hSw); go_simp; try with_reducible rfl)
            try simp only [Act.put, List.setIfInBounds_toArray, List.set_cons_zero, List.set_cons_succ]
            refine wpAnyH_take (i := 7) (oi := ?ooa7) (v := ?vva7) ?hia7 (by kernel_rfl) (by kernel_rfl) (by kernel_rfl) ?hqa7 (Or.inl ⟨?hwa7, ?hha7⟩) hHeld ?rra7
            case hia7 => (simp only [List.getElem?_toArray, List.getElem?_cons_zero, List.getElem?_cons_succ]; rfl)
            case hqa7 => exact fun _ _ _ h => h
            case hwa7 => rfl
            case hha7 => (intro w hSw; (try dsimp only at hSw); go_simp; try with_reducible rfl)
            try simp only [Act.put, List.setIfInBounds_toArray, List.set_cons_zero, List.set_cons_succ]
            refine wpAnyH_ready (rs := [8]) (by kernel_rfl) (by simp) ?_
            refine AllReadyH.cons (o := ?ooa8) ?hia8 (fun K hK => ?hca8) AllReadyH.nil
            case hia8 => (simp only [List.getElem?_toArray, List.getElem?_cons_zero, List.getElem?_cons_succ]; rfl)
            go_simp
            refine hK.out _ _ (hY2) (fun hHeld => ?_)
            clear hK K
            try simp only [Act.put, List.setIfInBounds_toArray, List.set_cons_zero, List.set_cons_succ]
            refine wpAnyH_ready (rs := [9]) (by kernel_rfl) (by simp) ?_
            refine AllReadyH.cons (o := ?ooa9) ?hia9 (fun K hK => ?hca9) AllReadyH.nil
            case hia9 => (simp only [List.getElem?_toArray, List.getElem?_cons_zero, List.getElem?_cons_succ]; rfl)
            go_simp
            refine hK.out _ _ (hY2) (fun hHeld => ?_)
            clear hK K
            try simp only [Act.put, List.setIfInBounds_toArray, List.set_cons_zero, List.set_cons_succ]
            refine wpAnyH_take (i := 10) (oi := ?ooa10) (v := ?vva10) ?hia10 (by kernel_rfl) (by kernel_rfl) (by kernel_rfl) ?hqa10 (Or.inl ⟨?hwa10, ?hha10⟩) hHeld ?rra10
            case hia10 => (simp only [List.getElem?_toArray, List.getElem?_cons_zero, List.getElem?_cons_succ]; rfl)
            case hqa10 => exact fun _ _ _ h => h
            case hwa10 => rfl
            case hha10 => (intro w hSw; (try dsimp only at hSw); go_simp; try with_reducible rfl)
            try simp only [Act.put, List.setIfInBounds_toArray, List.set_cons_zero, List.set_cons_succ]
            refine wpAnyH_take (i := 11) (oi := ?ooa11) (v := ?vva11) ?hia11 (by kernel_rfl) (by kernel_rfl) (by kernel_rfl) ?hqa11 (Or.inl ⟨?hwa11, ?hha11⟩) hHeld ?rra11
            case hia11 => (simp only [List.getElem?_toArray, List.getElem?_cons_zero, List.getElem?_cons_succ]; rfl)
            case hqa11 => exact fun _ _ _ h => h
            case hwa11 => rfl
            case hha11 => (intro w hSw; (try dsimp only at hSw); go_simp; try with_reducible rfl)
            try simp only [Act.put, List.setIfInBounds_toArray, List.set_cons_zero, List.set_cons_succ]
            refine wpAnyH_done (by kernel_rfl) ?_ _
            have f5 : Fr [] w5 (w5.alloc (.cells zs 5)).drew := ((Fr.refl [] w5).alloc _).drew
            have H6 := Lib.hid (H5.out.fr0 f5)
            have RB6 := Lib.hid (RB.out.fr f5 (by simp))
            have HR6 := Lib.hid (HR5.out.fr0 f5)
            clear hY hY2 hs9 f5 HCV HNB hmk H5 RB HR5
            generalize (w5.alloc (.cells zs 5)).drew = w6 at *
            have HAP := Lib.hid (fun e (he : e ∈ T) => (show (xx + N ≤ e.1 ∨ e.1 + e.2.1 ≤ xx) ∧ e.1 + e.2.1 ≤ 1048576 from
              ⟨H6.out.apart (e := (xx, N, 0)) (f := e) (List.mem_append_right _ (by simp)) (List.mem_append_left _ he) (fun h => hx _ he h.symm), (H6.out.lim _ (List.mem_append_left _ he)).1⟩))
            obtain ⟨ad1, cap1, ev1, hr1⟩ := own_row HR6.out.a
            obtain ⟨ad2, cap2, ev2, hr2⟩ := own_row HR6.out.s
            rw [List.length_map] at ev1 ev2
            subst ev1 ev2
            have HV1 := Lib.hid hr1
            have HV2 := Lib.hid hr2
            clear hr1 hr2 hx
            generalize hm : T.length = m at *
            have HMM := Lib.hid hm
            clear hm
            go_wp2_with fail
            go_loopw [13] (fun i W => ∃ k : Nat, k ≤ m ∧ i = .int .i64 k ∧ Fr [] w6 W) (fun i _ => m - (intOf i).toNat)
            case atStart => exact ⟨0, by omega, rfl, Fr.refl _ _⟩
            case round =>
              obtain ⟨k, hk, rfl, hF⟩ := hrel
              have F7 := Lib.hid hF
              clear hF
              have k0 : (0 : Int) ≤ k := by omega
              by_cases hkm : k < m
              · have hkT : k < T.length := by rw [HMM.out]; exact hkm
                obtain ⟨g1, rfl, _, r1⟩ := HV1.out (by rw [List.length_map]; omega)
                obtain ⟨g2, rfl, _, r2⟩ := HV2.out (by rw [List.length_map]; omega)
                have c1 := (r1.fr F7.out (by simp)).cell k (by rw [List.length_map]; exact hkT)
                have c2 := (r2.fr F7.out (by simp)).cell k (by rw [List.length_map]; exact hkT)
                have hap := HAP.out T[k] (List.getElem_mem hkT)
                rw [List.getElem_map] at c1 c2
                have k1 : (k : Int) < m := by omega
                have k2 : decide ((k : Int) < m) = true := by simp; omega
                have k2' : decide (k < m) = true := by simp; omega
                have wk : IntKind.i64.wrap ((k : Int) + 1) = (k : Int) + 1 := IntWalk.i64_in _ (by omega)
                generalize T[k] = e at *
                obtain ⟨ea, es, em⟩ := e
                simp only at c1 c2 hap
                have w1 : IntKind.i64.wrap ((ea : Int) + es) = ((ea + es : Nat) : Int) := IntWalk.i64_in _ (by omega)
                have w2 : IntKind.i64.wrap ((xx : Int) + N) = ((xx + N : Nat) : Int) := IntWalk.i64_in _ (by omega)
                clear r1 r2 HV1 HV2
                by_cases hl2 : xx < ea + es
                · have k3 : decide ((xx : Int) < ((ea + es : Nat) : Int)) = true := by simp; omega
                  have k3' : decide (xx < ea + es) = true := by simp; omega
                  have k4 : decide ((ea : Int) < ((xx + N : Nat) : Int)) = false := by simp; omega
                  have k4' : decide (ea < xx + N) = false := by simp; omega
                  clear hl2 hap
                  generalize ea + es = E1 at *
                  generalize xx + N = E2 at *
                  go_wp2_with fail
                  go_quiet (fail)
                  go_wp2_with fail
                  go_roundw
                  case rel => exact ⟨k + 1, by omega, by go_num, F7.out.drewN _⟩
                  case measure => simp [intOf]; omega
                · have k3 : decide ((xx : Int) < ((ea + es : Nat) : Int)) = false := by simp; omega
                  have k3' : decide (xx < ea + es) = false := by simp; omega
                  clear hl2 hap
                  generalize ea + es = E1 at *
                  generalize xx + N = E2 at *
                  go_wp2_with fail
                  go_quiet (fail)
                  go_wp2_with fail
                  go_roundw
                  case rel => exact ⟨k + 1, by omega, by go_num, F7.out.drewN _⟩
                  case measure => simp [intOf]; omega
              · have k2 : decide ((k : Int) < m) = false := by simp; omega
                have k2' : decide (k < m) = false := by simp; omega
                clear hkm HAP HV1 HV2
                have H7 := Lib.hid (H6.out.fr0 F7.out)
                have HR7 := Lib.hid (HR6.out.fr0 F7.out)
                have RB7 := Lib.hid (RB6.out.fr F7.out (by simp))
                clear H6 HR6 RB6 F7
                have wu : IntKind.u8.wrap ((j : Int) + 1) = ((j + 1 : Nat) : Int) := IntWalk.u8_in _ (by omega)
                go_wp2_with fail
                go_loopw [14] (fun i W => ∃ k : Nat, k ≤ N ∧ i = .int .i64 k ∧ O15 wb W q z (T ++ [(xx, N, 0)]) ∧ R3 wb.heap.size (.slice ad1 m cap1) (.slice ad2 m cap2) v3 T W ∧ RowB W gb cb (List.replicate k (j + 1) ++ List.replicate (N - k) 0)) (fun i _ => N - (intOf i).toNat)
                case atStart => exact ⟨0, by omega, rfl, H7.out, HR7.out, by simpa using RB7.out⟩
                case round =>
                  clear H7 HR7 RB7
                  obtain ⟨k, hk, rfl, hO, hR, hB⟩ := hrel
                  have H8 := Lib.hid hO
                  have HR8 := Lib.hid hR
                  have RB8 := Lib.hid hB
                  have k0 : (0 : Int) ≤ k := by omega
                  clear hO hR
                  by_cases hkN : k < N
                  · have k1 : (k : Int) < N := by omega
                    have k2 : decide ((k : Int) < N) = true := by simp; omega
                    have k2' : decide (k < N) = true := by simp; omega
                    have wk : IntKind.i64.wrap ((k : Int) + 1) = (k : Int) + 1 := IntWalk.i64_in _ (by omega)
                    have hc := hB.cell k (by simp; omega)
                    have hz := hB.frozen k
                    have HB9 := Lib.hid (show RowB (wr.setCell ⟨gb, k, none⟩ (.int .u8 ((j + 1 : Nat) : Int))) gb cb (List.replicate (k + 1) (j + 1) ++ List.replicate (N - (k + 1)) 0) from by
                      rw [← rep_set N k (j + 1) hkN]
                      exact hB.set k (j + 1) (by simp; omega))
                    have F9 := Lib.hid (show Fr [gb] wr (wr.setCell ⟨gb, k, none⟩ (.int .u8 ((j + 1 : Nat) : Int))) from (Fr.refl [gb] wr).setCell (p := ⟨gb, k, none⟩) (.inl (by simp)) _)
                    have HO9 := Lib.hid (H8.out.fr1 F9.out hgb2)
                    have HR9 := Lib.hid (show R3 wb.heap.size (.slice ad1 m cap1) (.slice ad2 m cap2) v3 T (wr.setCell ⟨gb, k, none⟩ (.int .u8 ((j + 1 : Nat) : Int))) from
                      ⟨HR8.out.a.fr F9.out (fun g hg e => by simp at hg; subst hg; exact absurd (N1.out _ e) (Nat.lt_irrefl _)), HR8.out.s.fr F9.out (fun g hg e => by simp at hg; subst hg; exact absurd (N2.out _ e) (Nat.lt_irrefl _)), HR8.out.m.fr F9.out (fun g hg e => by simp at hg; subst hg; exact absurd (N3.out _ e) (Nat.lt_irrefl _)), HR8.out.d12, HR8.out.d13, HR8.out.d23⟩)
                    generalize ((List.replicate k (j + 1) ++ List.replicate (N - k) 0)[k]?.getD 0) = old at *
                    generalize hJ : j + 1 = J at *
                    have wj' : IntKind.i64.wrap ((j : Int) + 1) = (j : Int) + 1 := wj
                    clear hB RB8 H8 HR8
                    go_wp2_with fail
                    go_roundw
                    case rel => exact ⟨k + 1, by omega, by go_num, HO9.out, HR9.out, HB9.out⟩
                    case measure => simp [intOf]; omega
                  · have k2 : decide ((k : Int) < N) = false := by simp; omega
                    have k2' : decide (k < N) = false := by simp; omega
                    have ek : k = N := by omega
                    rw [ek, Nat.sub_self, List.replicate_zero, List.append_nil] at hB
                    have hbb : ∀ b ∈ List.replicate N (j + 1), b < 256 := fun b hb => by rw [List.eq_of_mem_replicate hb]; omega
                    have hw := o_write xx N 0 (j + 1) H8.out gb cb (hB.byt hbb (by rw [List.length_replicate]; omega)) hgb2 (by omega)
                    have hlt8 := H8.out.lt
                    clear hB RB8 hbb hkN hk H8
                    go_wp2_with fail
                    with_reducible refine hw.mono ?_
                    rintro e w8 ⟨rfl, h8, f8⟩
                    have HW := Lib.hid h8
                    have hR9 := HR8.out.frq f8 hlt8
                    have HR9 := Lib.hid hR9
                    have ra := Lib.hid hR9.a
                    have rs := Lib.hid hR9.s
                    have rm := Lib.hid hR9.m
                    have hs8 : wb.heap.size ≤ w8.heap.size := h8.f.size
                    have l1 : (T.map (·.1)).length ≤ 1048576 := by rw [List.length_map, HMM.out]; omega
                    have l2 : (T.map (·.2.1)).length ≤ 1048576 := by rw [List.length_map, HMM.out]; omega
                    have l3 : (T.map (·.2.2)).length ≤ 1048576 := by rw [List.length_map, HMM.out]; omega
                    clear hw h8 f8 hR9 HR8
                    go_wp2_with (first | (at_builtin; refine wpList_append2 rfl _ _ rfl rfl wb.heap.size _ _ rfl xx w8 rfl ra.out rfl l1 hs8 ?_; intro g1 q1 W1 hO1 hF1 hob1; have hs9 : wb.heap.size ≤ W1.heap.size := Nat.le_trans hs8 hF1.size; have rs1 := Lib.hid (rs.out.dj hF1 HR9.out.d12); have rm1 := Lib.hid (rm.out.dj hF1 HR9.out.d13)) | (at_builtin; refine wpList_append2 rfl _ _ rfl rfl wb.heap.size _ _ rfl N W1 rfl rs1.out rfl l2 hs9 ?_; intro g2 q2 W2 hO2 hF2 hob2; have hs10 : wb.heap.size ≤ W2.heap.size := Nat.le_trans hs9 hF2.size; have rm2 := Lib.hid (rm1.out.dj hF2 HR9.out.d23)) | (at_builtin; refine wpList_append2 rfl _ _ rfl rfl wb.heap.size _ _ rfl (j + 1) W2 rfl rm2.out rfl l3 hs10 ?_; intro g3 q3 W3 hO3 hF3 hob3) | fail)
                    have HO3 := Lib.hid (((HW.out.own hF1 (fun g e => (ra.out.lt g e).1)).own hF2 (fun g e => (rs1.out.lt g e).1)).own hF3 (fun g e => (rm2.out.lt g e).1))
                    have d21 : Dj (.slice ad2 m cap2) (.slice (some ⟨g1, 0, none⟩) (m + 1) q1) := (Rw.djN rs.out hob1 HR9.out.d12).symm
                    have d31 : Dj v3 (.slice (some ⟨g1, 0, none⟩) (m + 1) q1) := (Rw.djN rm.out hob1 HR9.out.d13).symm
                    have d32 : Dj v3 (.slice (some ⟨g2, 0, none⟩) (m + 1) q2) := (Rw.djN rm1.out hob2 HR9.out.d23).symm
                    have e1 : (T.map (·.1)).length = m := by rw [List.length_map, HMM.out]
                    have e2 : (T.map (·.2.1)).length = m := by rw [List.length_map, HMM.out]
                    have e3 : (T.map (·.2.2)).length = m := by rw [List.length_map, HMM.out]
                    rw [e1] at hO1
                    rw [e2] at hO2
                    rw [e3] at hO3
                    have hA1 : Rw W1 wb.heap.size (.slice (some ⟨g1, 0, none⟩) (m + 1) q1) (T.map (·.1) ++ [xx]) := hO1
                    have hA2 : Rw W2 wb.heap.size (.slice (some ⟨g2, 0, none⟩) (m + 1) q2) (T.map (·.2.1) ++ [N]) := hO2
                    have hA3 : Rw W3 wb.heap.size (.slice (some ⟨g3, 0, none⟩) (m + 1) q3) (T.map (·.2.2) ++ [j + 1]) := hO3
                    have hA12 := hA1.dj hF2 d21
                    have hA13 := hA12.dj hF3 d31
                    have hA23 := hA2.dj hF3 d32
                    have HR3 := Lib.hid (show R3 wb.heap.size (.slice (some ⟨g1, 0, none⟩) (m + 1) q1) (.slice (some ⟨g2, 0, none⟩) (m + 1) q2) (.slice (some ⟨g3, 0, none⟩) (m + 1) q3) (T ++ [(xx, N, j + 1)]) W3 from
                      ⟨by rw [List.map_append]; exact hA13, by rw [List.map_append]; exact hA23, by rw [List.map_append]; exact hA3, (Rw.djN hA1 hob2 d21).symm, (Rw.djN hA12 hob3 d31).symm, (Rw.djN hA2 hob3 d32).symm⟩)
                    have hTm := HMM.out
                    rw [hTm]
                    clear hO1 hO2 hO3 hA1 hA2 hA3 hA12 hA13 hA23 hF1 hF2 hF3 hob1 hob2 hob3 rs1 rm1 rm2 ra rs rm d21 d31 d32 HW HR9
                    go_roundw
                    case rel => exact ⟨j + 1, T ++ [(xx, N, j + 1)], _, _, _, rfl, rfl, rfl, by omega, by go_num, by simp; omega, HO3.out, HR3.out⟩
                    case measure => simp [intOf]; omega
        · have b5 : decide (yk < 3) = false := by simpa using hk
          have f0 : Fr [] wr (wr.alloc (.cells #[.int .i64 yk, .int .i64 yn] 33)) := (Fr.refl [] wr).alloc _
          have HO0 := Lib.hid (HO.out.fr0 f0)
          have HR0 := Lib.hid (HR.out.fr0 f0)
          have BY := Lib.hid (Blk.new wr 33 #[.int .i64 yk, .int .i64 yn])
          have hgy : wb.heap.size ≤ wr.heap.size := HO.out.f.size
          obtain ⟨ad1, cap1, ev1, hr1⟩ := own_row HR.out.a
          obtain ⟨ad2, cap2, ev2, hr2⟩ := own_row HR.out.s
          obtain ⟨ad3, cap3, ev3, hr3⟩ := own_row HR.out.m
          rw [List.length_map] at ev1 ev2 ev3
          subst ev1 ev2 ev3
          by_cases hno : T.length = 0 ∨ yn < 0 ∨ yk = 5
          · generalize hm : T.length = m at *
            have HMM := Lib.hid hm
            have hcase : ∃ x1 x2 x3 : Bool, ((m : Int) == 0) = x1 ∧ (m == 0) = x1 ∧ decide (yn < 0) = x2 ∧ (yk == 5) = x3 ∧ (x1 = true ∨ x2 = true ∨ x3 = true) := by
              refine ⟨decide (m = 0), decide (yn < 0), decide (yk = 5), by rw [Bool.eq_iff_iff]; simp, by rw [Bool.eq_iff_iff]; simp, rfl, by rw [Bool.eq_iff_iff]; simp, ?_⟩
              simpa using hno
            clear hno hm f0 hr1 hr2 hr3 HO HR
            obtain ⟨x1, x2, x3, t1, t1', t2, t3, t4⟩ := hcase
            rcases x1 with _ | _
            · rcases x2 with _ | _
              · rcases x3 with _ | _
                · simp at t4
                · clear t4
                  go_wp2_with fail
                  generalize wr.alloc (.cells #[.int .i64 yk, .int .i64 yn] 33) = w0 at *
                  go_roundw
                  case rel => exact ⟨j + 1, T, _, _, _, rfl, rfl, rfl, by omega, by go_num, by rw [HMM.out]; omega, HO0.out, HR0.out⟩
                  case measure => simp [intOf]; omega
              · clear t4 t3
                go_wp2_with fail
                generalize wr.alloc (.cells #[.int .i64 yk, .int .i64 yn] 33) = w0 at *
                go_roundw
                case rel => exact ⟨j + 1, T, _, _, _, rfl, rfl, rfl, by omega, by go_num, by rw [HMM.out]; omega, HO0.out, HR0.out⟩
                case measure => simp [intOf]; omega
            · clear t4 t3 t2
              go_wp2_with fail
              generalize wr.alloc (.cells #[.int .i64 yk, .int .i64 yn] 33) = w0 at *
              go_roundw
              case rel => exact ⟨j + 1, T, _, _, _, rfl, rfl, rfl, by omega, by go_num, by rw [HMM.out]; omega, HO0.out, HR0.out⟩
              case measure => simp [intOf]; omega
          · have hm0 : 0 < T.length := by omega
            have hyn : 0 ≤ yn := by omega
            have hkT := nthZ_lt yn T.length hm0
            have t0 : yn.tmod T.length = ((nthZ yn T.length : Nat) : Int) := by
              unfold nthZ
              have := Int.tmod_nonneg (T.length : Int) hyn
              omega
            have t1 := (tmod_in yn T.length hm0 (by omega)).1
            rw [t0] at t1
            have t2 : decide (yn < 0) = false := by simp; omega
            have t3 : (yk == 5) = false := by simp; omega
            have t4 : ((T.length : Int) == 0) = false := beq_eq_false_iff_ne.2 (by omega)
            have t4' : (T.length == 0) = false := beq_eq_false_iff_ne.2 (by omega)
            clear hno hk
            generalize hkk : nthZ yn T.length = k at *
            clear hkk
            obtain ⟨g1, rfl, hb1, r1⟩ := hr1 (by rw [List.length_map]; exact hm0)
            obtain ⟨g2, rfl, hb2, r2⟩ := hr2 (by rw [List.length_map]; exact hm0)
            obtain ⟨g3, rfl, hb3, r3⟩ := hr3 (by rw [List.length_map]; exact hm0)
            have CC := Lib.hid (fun W S (hf : Fr S (wr.alloc (.cells #[.int .i64 yk, .int .i64 yn] 33)) W) (h1 : g1 ∉ S) (h2 : g2 ∉ S) (h3 : g3 ∉ S) => (show W.cell? ⟨g1, k, none⟩ = some (.int .i64 T[k].1) ∧ W.cell? ⟨g2, k, none⟩ = some (.int .i64 T[k].2.1) ∧ W.cell? ⟨g3, k, none⟩ = some (.int .i64 T[k].2.2) from by
              have k1 := ((r1.fr f0 (by simp)).fr hf h1).cell k (by rw [List.length_map]; exact hkT)
              have k2 := ((r2.fr f0 (by simp)).fr hf h2).cell k (by rw [List.length_map]; exact hkT)
              have k3 := ((r3.fr f0 (by simp)).fr hf h3).cell k (by rw [List.length_map]; exact hkT)
              rw [List.getElem_map] at k1 k2 k3
              exact ⟨k1, k2, k3⟩))
            have HRD := Lib.hid (fun W (h : O15 wb W q z T) => o_read h T[k] (List.getElem_mem hkT) T[k].2.1 rfl)
            have HGV := Lib.hid (fun W (h : O15 wb W q z T) => o_give h k hkT)
            have hlim := HO0.out.lim T[k] (List.getElem_mem hkT)
            have hem := HO0.out.b T[k] (List.getElem_mem hkT)
            generalize T[k] = el at *
            obtain ⟨ea, es, em⟩ := el
            simp only at CC HRD HGV hlim hem
            have hq1 : g1 ∉ q.blocks := fun hm => by have := HO0.out.lt g1 hm; omega
            have hq2 : g2 ∉ q.blocks := fun hm => by have := HO0.out.lt g2 hm; omega
            have hq3 : g3 ∉ q.blocks := fun hm => by have := HO0.out.lt g3 hm; omega
            have k0 : (0 : Int) ≤ k := by omega
            have k1 : (k : Int) < T.length := by omega
            clear r1 r2 r3 f0 hr1 hr2 hr3 HO HR
            go_wp2_with fail
            generalize hgy0 : wr.heap.size = gy at *
            generalize wr.alloc (.cells #[.int .i64 yk, .int .i64 yn] 33) = w0 at *
            have cc0 := CC.out _ _ (Fr.refl [] w0).drew (by simp) (by simp) (by simp)
            have hgm : g1 < w0.heap.size ∧ g2 < w0.heap.size ∧ g3 < w0.heap.size := ⟨(HR0.out.a.lt g1 rfl).2, (HR0.out.s.lt g2 rfl).2, (HR0.out.m.lt g3 rfl).2⟩
            have hY := And.intro cc0.1 cc0.2.1
            refine wp_region_held_drew (S := fun W => W.cell? ⟨g1, k, none⟩ = some (.int .i64 ea) ∧ W.cell? ⟨g2, k, none⟩ = some (.int .i64 es)) (by kernel_rfl) (hY) (fun hHeld => ?_)
            refine wpAnyH_take (i := 0) (oi := ?oob0) (v := ?vvb0) ?hib0 (by kernel_rfl) (by kernel_rfl) (by kernel_rfl) ?hqb0 (Or.inl ⟨?hwb0, ?hhb0⟩) hHeld ?rrb0
            case hib0 => (simp only [List.getElem?_toArray, List.getElem?_cons_zero, List.getElem?_cons_succ]; rfl)
            case hqb0 => exact fun _ _ _ h => h
            case hwb0 => rfl
            case hhb0 => (intro w hSw; (try dsimp only at hSw); go_simp; try with_reducible rfl)
            try simp only [Act.put, List.setIfInBounds_toArray, List.set_cons_zero, List.set_cons_succ]
            refine wpAnyH_take (i := 1) (oi := ?oob1) (v := ?vvb1) ?hib1 (by kernel_rfl) (by kernel_rfl) (by kernel_rfl) ?hqb1 (Or.inl ⟨?hwb1, ?hhb1⟩) hHeld ?rrb1
            case hib1 => (simp only [List.getElem?_toArray, List.getElem?_cons_zero, List.getElem?_cons_succ]; rfl)
            case hqb1 => exact fun _ _ _ h => h
            case hwb1 => rfl
            case hhb1 => (intro w hSw; (try dsimp only at hSw); go_simp; try with_reducible rfl)
            try simp only [Act.put, List.setIfInBounds_toArray, List.set_cons_zero, List.set_cons_succ]
            refine wpAnyH_take (i := 2) (oi := ?oob2) (v := ?vvb2) ?hib2 (by kernel_rfl) (by kernel_rfl) (by kernel_rfl) ?hqb2 (Or.inl ⟨?hwb2, ?hhb2⟩) hHeld ?rrb2
            case hib2 => (simp only [List.getElem?_toArray, List.getElem?_cons_zero, List.getElem?_cons_succ]; rfl)
            case hqb2 => exact fun _ _ _ h => h
            case hwb2 => rfl
            case hhb2 => (intro w hSw; (try dsimp only at hSw); go_simp; try with_reducible rfl)
            try simp only [Act.put, List.setIfInBounds_toArray, List.set_cons_zero, List.set_cons_succ]
            refine wpAnyH_take (i := 3) (oi := ?oob3) (v := ?vvb3) ?hib3 (by kernel_rfl) (by kernel_rfl) (by kernel_rfl) ?hqb3 (Or.inl ⟨?hwb3, ?hhb3⟩) hHeld ?rrb3
            case hib3 => (simp only [List.getElem?_toArray, List.getElem?_cons_zero, List.getElem?_cons_succ]; rfl)
            case hqb3 => exact fun _ _ _ h => h
            case hwb3 => rfl
            case hhb3 => (intro w hSw; (try dsimp only at hSw); go_simp; try with_reducible rfl)
            try simp only [Act.put, List.setIfInBounds_toArray, List.set_cons_zero, List.set_cons_succ]
            refine wpAnyH_take (i := 4) (oi := ?oob4) (v := ?vvb4) ?hib4 (by kernel_rfl) (by kernel_rfl) (by kernel_rfl) ?hqb4 (Or.inl ⟨?hwb4, ?hhb4⟩) hHeld ?rrb4
            case hib4 => (simp only [List.getElem?_toArray, List.getElem?_cons_zero, List.getElem?_cons_succ]; rfl)
            case hqb4 => exact fun _ _ _ h => h
            case hwb4 => rfl
            case hhb4 => (intro w hSw; (try dsimp only at hSw); go_simp; try with_reducible rfl)
            try simp only [Act.put, List.setIfInBounds_toArray, List.set_cons_zero, List.set_cons_succ]
            refine wpAnyH_take (i := 5) (oi := ?oob5) (v := ?vvb5) ?hib5 (by kernel_rfl) (by kernel_rfl) (by kernel_rfl) ?hqb5 (Or.inl ⟨?hwb5, ?hhb5⟩) hHeld ?rrb5
            case hib5 => (simp only [List.getElem?_toArray, List.getElem?_cons_zero, List.getElem?_cons_succ]; rfl)
            case hqb5 => exact fun _ _ _ h => h
            case hwb5 => rfl
            case hhb5 => (intro w hSw; (try dsimp only at hSw); go_simp; try with_reducible rfl)
            try simp only [Act.put, List.setIfInBounds_toArray, List.set_cons_zero, List.set_cons_succ]
            refine wpAnyH_take (i := 6) (oi := ?oob6) (v := ?vvb6) ?hib6 (by kernel_rfl) (by kernel_rfl) (by kernel_rfl) ?hqb6 (Or.inl ⟨?hwb6, ?hhb6⟩) hHeld ?rrb6
            case hib6 => (simp only [List.getElem?_toArray, List.getElem?_cons_zero, List.getElem?_cons_succ]; rfl)
            case hqb6 => exact fun _ _ _ h => h
            case hwb6 => rfl
            case hhb6 => (intro w hSw; (try dsimp only at hSw); go_simp; try with_reducible rfl)
            try simp only [Act.put, List.setIfInBounds_toArray, List.set_cons_zero, List.set_cons_succ]
            refine wpAnyH_take (i := 7) (oi := ?oob7) (v := ?vvb7) ?hib7 (by kernel_rfl) (by kernel_rfl) (by kernel_rfl) ?hqb7 (Or.inl ⟨?hwb7, ?hhb7⟩) hHeld ?rrb7
            case hib7 => (simp only [List.getElem?_toArray, List.getElem?_cons_zero, List.getElem?_cons_succ]; rfl)
            case hqb7 => exact fun _ _ _ h => h
            case hwb7 => rfl
            case hhb7 => (intro w hSw; (try dsimp only at hSw); go_simp; try with_reducible rfl)
            try simp only [Act.put, List.setIfInBounds_toArray, List.set_cons_zero, List.set_cons_succ]
            refine wpAnyH_take (i := 8) (oi := ?oob8) (v := ?vvb8) ?hib8 (by kernel_rfl) (by kernel_rfl) (by kernel_rfl) ?hqb8 (Or.inl ⟨?hwb8, ?hhb8⟩) hHeld ?rrb8
            case hib8 => (simp only [List.getElem?_toArray, List.getElem?_cons_zero, List.getElem?_cons_succ]; rfl)
            case hqb8 => exact fun _ _ _ h => h
            case hwb8 => rfl
            case hhb8 => (intro w hSw; (try dsimp only at hSw); go_simp; try with_reducible rfl)
            try simp only [Act.put, List.setIfInBounds_toArray, List.set_cons_zero, List.set_cons_succ]
            refine wpAnyH_ready (rs := [9]) (by kernel_rfl) (by simp) ?_
            refine AllReadyH.cons (o := ?oob9) ?hib9 (fun K hK => ?hcb9) AllReadyH.nil
            case hib9 => (simp only [List.getElem?_toArray, List.getElem?_cons_zero, List.getElem?_cons_succ]; rfl)
            go_simp
            with_reducible refine (HRD.out _ (HO0.out.fr0 (Fr.refl [] w0).drew)).mono ?_
            rintro e W5 ⟨gb, cb, rfl, hgb, hrb, f5, h5⟩
            have H5 := Lib.hid h5
            have RB := Lib.hid hrb
            have F5 := Lib.hid (((Fr.refl [] w0).drew.nil (S := q.blocks)).trans f5)
            have cc5 := CC.out _ _ F5.out hq1 hq2 hq3
            have hY := And.intro cc5.1 cc5.2.1
            clear h5 hrb f5
            go_wp2_with fail
            refine hK.out _ _ (hY) (fun hHeld => ?_)
            clear hK K
            try simp only [Act.put, List.setIfInBounds_toArray, List.set_cons_zero, List.set_cons_succ]
            refine wpAnyH_take (i := 10) (oi := ?oob10) (v := ?vvb10) ?hib10 (by kernel_rfl) (by kernel_rfl) (by kernel_rfl) ?hqb10 (Or.inl ⟨?hwb10, ?hhb10⟩) hHeld ?rrb10
            case hib10 => (simp only [List.getElem?_toArray, List.getElem?_cons_zero, List.getElem?_cons_succ]; rfl)
            case hqb10 => exact fun _ _ _ h => h
            case hwb10 => rfl
            case hhb10 => (intro w hSw; (try dsimp only at hSw); go_simp; try with_reducible rfl)
            try simp only [Act.put, List.setIfInBounds_toArray, List.set_cons_zero, List.set_cons_succ]
            refine wpAnyH_done (by kernel_rfl) ?_ _
            have HR5 := Lib.hid (HR0.out.frq F5.out HO0.out.lt)
            have hgb1 : g1 < gb ∧ g2 < gb ∧ g3 < gb := by have : w0.heap.size ≤ gb := hgb; omega
            clear hY cc0 HRD hgb
            go_wp2_with fail
            go_loopw [17] (fun i W => ∃ k : Nat, k ≤ es ∧ i = .int .i64 k ∧ Fr [] W5 W) (fun i _ => es - (intOf i).toNat)
            case atStart => exact ⟨0, by omega, rfl, Fr.refl _ _⟩
            case round =>
              obtain ⟨p, hp, rfl, hF⟩ := hrel
              have F6 := Lib.hid hF
              clear hF
              have p0 : (0 : Int) ≤ p := by omega
              have c5 := CC.out _ _ (F5.out.trans F6.out.nil) hq1 hq2 hq3
              obtain ⟨c51, c52, c53⟩ := c5
              clear cc5
              by_cases hps : p < es
              · have p1 : (p : Int) < es := by omega
                have p2 : decide ((p : Int) < es) = true := by simp; omega
                have p2' : decide (p < es) = true := by simp; omega
                have wp : IntKind.i64.wrap ((p : Int) + 1) = (p : Int) + 1 := IntWalk.i64_in _ (by omega)
                have wu : IntKind.u8.wrap (em : Int) = em := IntWalk.u8_in _ (by omega)
                have q1 : ((em : Int) != em) = false := by simp
                have cb1 := (RB.out.fr F6.out (by simp)).cell p (by simpa using hps)
                rw [List.getElem?_replicate, if_pos hps, Option.getD_some] at cb1
                have q2 : p < cb := by have := RB.out.le; simp at this; omega
                have q3 : es ≤ cb := by have := RB.out.le; simpa using this
                clear hps
                go_wp2_with fail
                go_quiet (fail)
                go_wp2_with fail
                go_roundw
                case rel => exact ⟨p + 1, by omega, by go_num, F6.out.drewN _⟩
                case measure => simp [intOf]; omega
              · have p2 : decide ((p : Int) < es) = false := by simp; omega
                have p2' : decide (p < es) = false := by simp; omega
                have q1 : ((es : Int) != es) = false := by simp
                clear hps
                have hgv := HGV.out _ (H5.out.fr0 F6.out)
                have HR6 := Lib.hid (HR5.out.fr0 F6.out)
                go_wp2_with fail
                with_reducible refine hgv.mono ?_
                rintro e w6 ⟨rfl, f6, h6, h6'⟩
                have F7 := Lib.hid ((F5.out.trans F6.out.nil).trans f6)
                have cc7 := CC.out _ _ F7.out hq1 hq2 hq3
                obtain ⟨c71, c72, c73⟩ := cc7
                have hg2' := h6' w6 (Fr.refl _ _)
                have HR7 := Lib.hid (HR6.out.frq f6 HO0.out.lt)
                clear hgv h6 h6' f6 c51 c52 c53
                go_wp2_with fail
                with_reducible refine hg2'.mono ?_
                rintro e w7 ⟨rfl, f8, h8⟩
                have H8 := Lib.hid h8
                have HR8 := Lib.hid (HR7.out.frq f8 HO0.out.lt)
                clear hg2' h8 f8 c71 c72 c73 HR7 HR6 HR5 HR0
                have u0 : (0 : Int) ≤ k := by omega
                have u3 : (k : Int) + 1 ≤ T.length := by omega
                have u3' : k + 1 ≤ T.length := by omega
                have u5 : IntKind.i64.wrap ((k : Int) + 1) = (k : Int) + 1 := IntWalk.i64_in _ (by omega)
                have u6 : (0 : Int) ≤ (k : Int) + 1 := by omega
                have u8 : ((k : Int) + 1).toNat = k + 1 := by omega
                have hT' : T.length ≤ 200 := by omega
                clear HQ HL HG HN HFL F2 HFW HA HGV CC
                as_aux_lemma =>
                  have hm1 : 0 < (T.map (·.1)).length := by rw [List.length_map]; exact hm0
                  have hm2 : 0 < (T.map (·.2.1)).length := by rw [List.length_map]; exact hm0
                  have hm3 : 0 < (T.map (·.2.2)).length := by rw [List.length_map]; exact hm0
                  have r1 := (HR8.out.a.rowI hm1).1
                  obtain ⟨va1, wa1, vb1, wd1, E11, E21, O91, fc1⟩ := cut_run r1 (k := k) (by rw [List.length_map]; exact hkT) (by rw [List.length_map]; omega)
                  rw [List.length_map] at E21
                  have hcap1 := (r1).le
                  rw [List.length_map] at hcap1
                  have HE11 := Lib.hid E11
                  have HE21 := Lib.hid E21
                  have HO91 := Lib.hid (show Rw wd1 _ vb1 _ from O91)
                  have u1 : (k : Int) ≤ cap1 := by omega
                  have u1' : k ≤ cap1 := by omega
                  have u4 : (T.length : Int) ≤ cap1 := by omega
                  have u4' : T.length ≤ cap1 := by omega
                  clear E11 E21 O91
                  generalize hc2 : (if cap1 - (k + 1) = 0 then (some ⟨g1, 0, none⟩ : Option Addr) else some ⟨g1, k + 1, none⟩) = adx1 at *
                  have hc3 : (if cap1 = k + 1 then (some ⟨g1, 0, none⟩ : Option Addr) else some ⟨g1, k + 1, none⟩) = adx1 := by
                    rw [← hc2]
                    by_cases e : cap1 = k + 1
                    · rw [if_pos e, if_pos (by omega)]
                    · rw [if_neg e, if_neg (by omega)]
                  go_wp2_with fail
                  refine wp_region_held_drew (S := fun _ => True) (by kernel_rfl) (trivial) (fun hHeld => ?_)
                  refine wpAnyH_take (i := 1) (oi := ?ooc10) (v := ?vvc10) ?hic10 (by kernel_rfl) (by kernel_rfl) (by kernel_rfl) ?hqc10 (Or.inl ⟨?hwc10, ?hhc10⟩) hHeld ?rrc10
                  case hic10 => (simp only [List.getElem?_toArray, List.getElem?_cons_zero, List.getElem?_cons_succ]; rfl)
                  case hqc10 => exact fun _ _ _ h => h
                  case hwc10 => rfl
                  case hhc10 => (intro w hSw; (try dsimp only at hSw); go_simp; try with_reducible rfl)
                  try simp only [Act.put, List.setIfInBounds_toArray, List.set_cons_zero, List.set_cons_succ]
                  refine wpAnyH_take (i := 2) (oi := ?ooc11) (v := ?vvc11) ?hic11 (by kernel_rfl) (by kernel_rfl) (by kernel_rfl) ?hqc11 (Or.inl ⟨?hwc11, ?hhc11⟩) hHeld ?rrc11
                  case hic11 => (simp only [List.getElem?_toArray, List.getElem?_cons_zero, List.getElem?_cons_succ]; rfl)
                  case hqc11 => exact fun _ _ _ h => h
                  case hwc11 => rfl
                  case hhc11 => (intro w hSw; (try dsimp only at hSw); go_simp; try with_reducible rfl)
                  try simp only [Act.put, List.setIfInBounds_toArray, List.set_cons_zero, List.set_cons_succ]
                  refine wpAnyH_take (i := 3) (oi := ?ooc12) (v := ?vvc12) ?hic12 (by kernel_rfl) (by kernel_rfl) (by kernel_rfl) ?hqc12 (Or.inl ⟨?hwc12, ?hhc12⟩) hHeld ?rrc12
                  case hic12 => (simp only [List.getElem?_toArray, List.getElem?_cons_zero, List.getElem?_cons_succ]; rfl)
                  case hqc12 => exact fun _ _ _ h => h
                  case hwc12 => rfl
                  case hhc12 => (intro w hSw; (try dsimp only at hSw); go_simp; try with_reducible rfl)
                  try simp only [Act.put, List.setIfInBounds_toArray, List.set_cons_zero, List.set_cons_succ]
                  refine wpAnyH_take (i := 5) (oi := ?ooc13) (v := ?vvc13) ?hic13 (by kernel_rfl) (by kernel_rfl) (by kernel_rfl) ?hqc13 (Or.inl ⟨?hwc13, ?hhc13⟩) hHeld ?rrc13
                  case hic13 => (simp only [List.getElem?_toArray, List.getElem?_cons_zero, List.getElem?_cons_succ]; rfl)
                  case hqc13 => exact fun _ _ _ h => h
                  case hwc13 => rfl
                  case hhc13 => (intro w hSw; (try dsimp only at hSw); go_simp; try with_reducible rfl)
                  try simp only [Act.put, List.setIfInBounds_toArray, List.set_cons_zero, List.set_cons_succ]
                  refine wpAnyH_take (i := 6) (oi := ?ooc14) (v := ?vvc14) ?hic14 (by kernel_rfl) (by kernel_rfl) (by kernel_rfl) ?hqc14 (Or.inl ⟨?hwc14, ?hhc14⟩) hHeld ?rrc14
                  case hic14 => (simp only [List.getElem?_toArray, List.getElem?_cons_zero, List.getElem?_cons_succ]; rfl)
                  case hqc14 => exact fun _ _ _ h => h
                  case hwc14 => rfl
                  case hhc14 => (intro w hSw; (try dsimp only at hSw); go_simp; try with_reducible rfl)
                  try simp only [Act.put, List.setIfInBounds_toArray, List.set_cons_zero, List.set_cons_succ]
                  refine wpAnyH_take (i := 7) (oi := ?ooc15) (v := ?vvc15) ?hic15 (by kernel_rfl) (by kernel_rfl) (by kernel_rfl) ?hqc15 (Or.inl ⟨?hwc15, ?hhc15⟩) hHeld ?rrc15
                  case hic15 => (simp only [List.getElem?_toArray, List.getElem?_cons_zero, List.getElem?_cons_succ]; rfl)
                  case hqc15 => exact fun _ _ _ h => h
                  case hwc15 => rfl
                  case hhc15 => (intro w hSw; (try dsimp only at hSw); go_simp; try with_reducible rfl)
                  try simp only [Act.put, List.setIfInBounds_toArray, List.set_cons_zero, List.set_cons_succ]
                  refine wpAnyH_take (i := 8) (oi := ?ooc16) (v := ?vvc16) ?hic16 (by kernel_rfl) (by kernel_rfl) (by kernel_rfl) ?hqc16 (Or.inl ⟨?hwc16, ?hhc16⟩) hHeld ?rrc16
                  case hic16 => (simp only [List.getElem?_toArray, List.getElem?_cons_zero, List.getElem?_cons_succ]; rfl)
                  case hqc16 => exact fun _ _ _ h => h
                  case hwc16 => rfl
                  case hhc16 => (intro w hSw; (try dsimp only at hSw); go_simp; try with_reducible rfl)
                  try simp only [Act.put, List.setIfInBounds_toArray, List.set_cons_zero, List.set_cons_succ]
                  refine wpAnyH_ready (rs := [0]) (by kernel_rfl) (by simp) ?_
                  refine AllReadyH.cons (o := ?ooc17) ?hic17 (fun K hK => ?hcc17) AllReadyH.nil
                  case hic17 => (simp only [List.getElem?_toArray, List.getElem?_cons_zero, List.getElem?_cons_succ]; rfl)
                  go_simp
                  refine hK.out _ _ (trivial) (fun hHeld => ?_)
                  clear hK K
                  try simp only [Act.put, List.setIfInBounds_toArray, List.set_cons_zero, List.set_cons_succ]
                  refine wpAnyH_ready (rs := [4]) (by kernel_rfl) (by simp) ?_
                  refine AllReadyH.cons (o := ?ooc18) ?hic18 (fun K hK => ?hcc18) AllReadyH.nil
                  case hic18 => (simp only [List.getElem?_toArray, List.getElem?_cons_zero, List.getElem?_cons_succ]; rfl)
                  refine oper_app (.tmp 192) (.tmp 195) 42 rfl rfl _ _ _ _ (by simp [Act.eval, Act.put]) (by simp [Act.eval, Act.put]) HE11.out ?_
                  refine hK.out _ _ (trivial) (fun hHeld => ?_)
                  clear hK K
                  try simp only [Act.put, List.setIfInBounds_toArray, List.set_cons_zero, List.set_cons_succ]
                  refine wpAnyH_ready (rs := [9]) (by kernel_rfl) (by simp) ?_
                  refine AllReadyH.cons (o := ?ooc19) ?hic19 (fun K hK => ?hcc19) AllReadyH.nil
                  case hic19 => (simp only [List.getElem?_toArray, List.getElem?_cons_zero, List.getElem?_cons_succ]; rfl)
                  refine oper_app (.tmp 196) (.tmp 200) 42 rfl rfl _ _ _ _ (by simp [Act.eval, Act.put]) (by simp [Act.eval, Act.put, hc3]) HE21.out ?_
                  refine hK.out _ _ (trivial) (fun hHeld => ?_)
                  clear hK K
                  try simp only [Act.put, List.setIfInBounds_toArray, List.set_cons_zero, List.set_cons_succ]
                  refine wpAnyH_take (i := 10) (oi := ?ooc110) (v := ?vvc110) ?hic110 (by kernel_rfl) (by kernel_rfl) (by kernel_rfl) ?hqc110 (Or.inl ⟨?hwc110, ?hhc110⟩) hHeld ?rrc110
                  case hic110 => (simp only [List.getElem?_toArray, List.getElem?_cons_zero, List.getElem?_cons_succ]; rfl)
                  case hqc110 => exact fun _ _ _ h => h
                  case hwc110 => rfl
                  case hhc110 => (intro w hSw; (try dsimp only at hSw); go_simp; try with_reducible rfl)
                  try simp only [Act.put, List.setIfInBounds_toArray, List.set_cons_zero, List.set_cons_succ]
                  refine wpAnyH_done (by kernel_rfl) ?_ _
                  try simp only [Act.put, List.getElem_toArray, List.getElem_cons_zero, List.getElem_cons_succ, List.setIfInBounds_toArray, List.set_cons_zero, List.set_cons_succ]
                  clear u1 u1' u4 u4' hc2 hc3 HE11 HE21 hcap1
                  have r2 := ((HR8.out.s.fr0 fc1).rowI hm2).1
                  obtain ⟨va2, wa2, vb2, wd2, E12, E22, O92, fc2⟩ := cut_run r2 (k := k) (by rw [List.length_map]; exact hkT) (by rw [List.length_map]; omega)
                  rw [List.length_map] at E22
                  have hcap2 := (r2).le
                  rw [List.length_map] at hcap2
                  have HE12 := Lib.hid E12
                  have HE22 := Lib.hid E22
                  have HO92 := Lib.hid (show Rw wd2 _ vb2 _ from O92)
                  have u1 : (k : Int) ≤ cap2 := by omega
                  have u1' : k ≤ cap2 := by omega
                  have u4 : (T.length : Int) ≤ cap2 := by omega
                  have u4' : T.length ≤ cap2 := by omega
                  clear E12 E22 O92
                  generalize hc2 : (if cap2 - (k + 1) = 0 then (some ⟨g2, 0, none⟩ : Option Addr) else some ⟨g2, k + 1, none⟩) = adx2 at *
                  have hc3 : (if cap2 = k + 1 then (some ⟨g2, 0, none⟩ : Option Addr) else some ⟨g2, k + 1, none⟩) = adx2 := by
                    rw [← hc2]
                    by_cases e : cap2 = k + 1
                    · rw [if_pos e, if_pos (by omega)]
                    · rw [if_neg e, if_neg (by omega)]
                  go_wp2_with fail
                  refine wp_region_held_drew (S := fun _ => True) (by kernel_rfl) (trivial) (fun hHeld => ?_)
                  refine wpAnyH_take (i := 1) (oi := ?ooc20) (v := ?vvc20) ?hic20 (by kernel_rfl) (by kernel_rfl) (by kernel_rfl) ?hqc20 (Or.inl ⟨?hwc20, ?hhc20⟩) hHeld ?rrc20
                  case hic20 => (simp only [List.getElem?_toArray, List.getElem?_cons_zero, List.getElem?_cons_succ]; rfl)
                  case hqc20 => exact fun _ _ _ h => h
                  case hwc20 => rfl
                  case hhc20 => (intro w hSw; (try dsimp only at hSw); go_simp; try with_reducible rfl)
                  try simp only [Act.put, List.setIfInBounds_toArray, List.set_cons_zero, List.set_cons_succ]
                  refine wpAnyH_take (i := 2) (oi := ?ooc21) (v := ?vvc21) ?hic21 (by kernel_rfl) (by kernel_rfl) (by kernel_rfl) ?hqc21 (Or.inl ⟨?hwc21, ?hhc21⟩) hHeld ?rrc21
                  case hic21 => (simp only [List.getElem?_toArray, List.getElem?_cons_zero, List.getElem?_cons_succ]; rfl)
                  case hqc21 => exact fun _ _ _ h => h
                  case hwc21 => rfl
                  case hhc21 => (intro w hSw; (try dsimp only at hSw); go_simp; try with_reducible rfl)
                  try simp only [Act.put, List.setIfInBounds_toArray, List.set_cons_zero, List.set_cons_succ]
                  refine wpAnyH_take (i := 3) (oi := ?ooc22) (v := ?vvc22) ?hic22 (by kernel_rfl) (by kernel_rfl) (by kernel_rfl) ?hqc22 (Or.inl ⟨?hwc22, ?hhc22⟩) hHeld ?rrc22
                  case hic22 => (simp only [List.getElem?_toArray, List.getElem?_cons_zero, List.getElem?_cons_succ]; rfl)
                  case hqc22 => exact fun _ _ _ h => h
                  case hwc22 => rfl
                  case hhc22 => (intro w hSw; (try dsimp only at hSw); go_simp; try with_reducible rfl)
                  try simp only [Act.put, List.setIfInBounds_toArray, List.set_cons_zero, List.set_cons_succ]
                  refine wpAnyH_take (i := 5) (oi := ?ooc23) (v := ?vvc23) ?hic23 (by kernel_rfl) (by kernel_rfl) (by kernel_rfl) ?hqc23 (Or.inl ⟨?hwc23, ?hhc23⟩) hHeld ?rrc23
                  case hic23 => (simp only [List.getElem?_toArray, List.getElem?_cons_zero, List.getElem?_cons_succ]; rfl)
                  case hqc23 => exact fun _ _ _ h => h
                  case hwc23 => rfl
                  case hhc23 => (intro w hSw; (try dsimp only at hSw); go_simp; try with_reducible rfl)
                  try simp only [Act.put, List.setIfInBounds_toArray, List.set_cons_zero, List.set_cons_succ]
                  refine wpAnyH_take (i := 6) (oi := ?ooc24) (v := ?vvc24) ?hic24 (by kernel_rfl) (by kernel_rfl) (by kernel_rfl) ?hqc24 (Or.inl ⟨?hwc24, ?hhc24⟩) hHeld ?rrc24
                  case hic24 => (simp only [List.getElem?_toArray, List.getElem?_cons_zero, List.getElem?_cons_succ]; rfl)
                  case hqc24 => exact fun _ _ _ h => h
                  case hwc24 => rfl
                  case hhc24 => (intro w hSw; (try dsimp only at hSw); go_simp; try with_reducible rfl)
                  try simp only [Act.put, List.setIfInBounds_toArray, List.set_cons_zero, List.set_cons_succ]
                  refine wpAnyH_take (i := 7) (oi := ?ooc25) (v := ?vvc25) ?hic25 (by kernel_rfl) (by kernel_rfl) (by kernel_rfl) ?hqc25 (Or.inl ⟨?hwc25, ?hhc25⟩) hHeld ?rrc25
                  case hic25 => (simp only [List.getElem?_toArray, List.getElem?_cons_zero, List.getElem?_cons_succ]; rfl)
                  case hqc25 => exact fun _ _ _ h => h
                  case hwc25 => rfl
                  case hhc25 => (intro w hSw; (try dsimp only at hSw); go_simp; try with_reducible rfl)
                  try simp only [Act.put, List.setIfInBounds_toArray, List.set_cons_zero, List.set_cons_succ]
                  refine wpAnyH_take (i := 8) (oi := ?ooc26) (v := ?vvc26) ?hic26 (by kernel_rfl) (by kernel_rfl) (by kernel_rfl) ?hqc26 (Or.inl ⟨?hwc26, ?hhc26⟩) hHeld ?rrc26
                  case hic26 => (simp only [List.getElem?_toArray, List.getElem?_cons_zero, List.getElem?_cons_succ]; rfl)
                  case hqc26 => exact fun _ _ _ h => h
                  case hwc26 => rfl
                  case hhc26 => (intro w hSw; (try dsimp only at hSw); go_simp; try with_reducible rfl)
                  try simp only [Act.put, List.setIfInBounds_toArray, List.set_cons_zero, List.set_cons_succ]
                  refine wpAnyH_ready (rs := [0]) (by kernel_rfl) (by simp) ?_
                  refine AllReadyH.cons (o := ?ooc27) ?hic27 (fun K hK => ?hcc27) AllReadyH.nil
                  case hic27 => (simp only [List.getElem?_toArray, List.getElem?_cons_zero, List.getElem?_cons_succ]; rfl)
                  go_simp
                  refine hK.out _ _ (trivial) (fun hHeld => ?_)
                  clear hK K
                  try simp only [Act.put, List.setIfInBounds_toArray, List.set_cons_zero, List.set_cons_succ]
                  refine wpAnyH_ready (rs := [4]) (by kernel_rfl) (by simp) ?_
                  refine AllReadyH.cons (o := ?ooc28) ?hic28 (fun K hK => ?hcc28) AllReadyH.nil
                  case hic28 => (simp only [List.getElem?_toArray, List.getElem?_cons_zero, List.getElem?_cons_succ]; rfl)
                  refine oper_app (.tmp 202) (.tmp 205) 42 rfl rfl _ _ _ _ (by simp [Act.eval, Act.put]) (by simp [Act.eval, Act.put]) HE12.out ?_
                  refine hK.out _ _ (trivial) (fun hHeld => ?_)
                  clear hK K
                  try simp only [Act.put, List.setIfInBounds_toArray, List.set_cons_zero, List.set_cons_succ]
                  refine wpAnyH_ready (rs := [9]) (by kernel_rfl) (by simp) ?_
                  refine AllReadyH.cons (o := ?ooc29) ?hic29 (fun K hK => ?hcc29) AllReadyH.nil
                  case hic29 => (simp only [List.getElem?_toArray, List.getElem?_cons_zero, List.getElem?_cons_succ]; rfl)
                  refine oper_app (.tmp 206) (.tmp 210) 42 rfl rfl _ _ _ _ (by simp [Act.eval, Act.put]) (by simp [Act.eval, Act.put, hc3]) HE22.out ?_
                  refine hK.out _ _ (trivial) (fun hHeld => ?_)
                  clear hK K
                  try simp only [Act.put, List.setIfInBounds_toArray, List.set_cons_zero, List.set_cons_succ]
                  refine wpAnyH_take (i := 10) (oi := ?ooc210) (v := ?vvc210) ?hic210 (by kernel_rfl) (by kernel_rfl) (by kernel_rfl) ?hqc210 (Or.inl ⟨?hwc210, ?hhc210⟩) hHeld ?rrc210
                  case hic210 => (simp only [List.getElem?_toArray, List.getElem?_cons_zero, List.getElem?_cons_succ]; rfl)
                  case hqc210 => exact fun _ _ _ h => h
                  case hwc210 => rfl
                  case hhc210 => (intro w hSw; (try dsimp only at hSw); go_simp; try with_reducible rfl)
                  try simp only [Act.put, List.setIfInBounds_toArray, List.set_cons_zero, List.set_cons_succ]
                  refine wpAnyH_done (by kernel_rfl) ?_ _
                  try simp only [Act.put, List.getElem_toArray, List.getElem_cons_zero, List.getElem_cons_succ, List.setIfInBounds_toArray, List.set_cons_zero, List.set_cons_succ]
                  clear u1 u1' u4 u4' hc2 hc3 HE12 HE22 hcap2
                  have r3 := (((HR8.out.m.fr0 fc1).fr0 fc2).rowI hm3).1
                  obtain ⟨va3, wa3, vb3, wd3, E13, E23, O93, fc3⟩ := cut_run r3 (k := k) (by rw [List.length_map]; exact hkT) (by rw [List.length_map]; omega)
                  rw [List.length_map] at E23
                  have hcap3 := (r3).le
                  rw [List.length_map] at hcap3
                  have HE13 := Lib.hid E13
                  have HE23 := Lib.hid E23
                  have HO93 := Lib.hid (show Rw wd3 _ vb3 _ from O93)
                  have u1 : (k : Int) ≤ cap3 := by omega
                  have u1' : k ≤ cap3 := by omega
                  have u4 : (T.length : Int) ≤ cap3 := by omega
                  have u4' : T.length ≤ cap3 := by omega
                  clear E13 E23 O93
                  generalize hc2 : (if cap3 - (k + 1) = 0 then (some ⟨g3, 0, none⟩ : Option Addr) else some ⟨g3, k + 1, none⟩) = adx3 at *
                  have hc3 : (if cap3 = k + 1 then (some ⟨g3, 0, none⟩ : Option Addr) else some ⟨g3, k + 1, none⟩) = adx3 := by
                    rw [← hc2]
                    by_cases e : cap3 = k + 1
                    · rw [if_pos e, if_pos (by omega)]
                    · rw [if_neg e, if_neg (by omega)]
                  go_wp2_with fail
                  refine wp_region_held_drew (S := fun _ => True) (by kernel_rfl) (trivial) (fun hHeld => ?_)
                  refine wpAnyH_take (i := 1) (oi := ?ooc30) (v := ?vvc30) ?hic30 (by kernel_rfl) (by kernel_rfl) (by kernel_rfl) ?hqc30 (Or.inl ⟨?hwc30, ?hhc30⟩) hHeld ?rrc30
                  case hic30 => (simp only [List.getElem?_toArray, List.getElem?_cons_zero, List.getElem?_cons_succ]; rfl)
                  case hqc30 => exact fun _ _ _ h => h
                  case hwc30 => rfl
                  case hhc30 => (intro w hSw; (try dsimp only at hSw); go_simp; try with_reducible rfl)
                  try simp only [Act.put, List.setIfInBounds_toArray, List.set_cons_zero, List.set_cons_succ]
                  refine wpAnyH_take (i := 2) (oi := ?ooc31) (v := ?vvc31) ?hic31 (by kernel_rfl) (by kernel_rfl) (by kernel_rfl) ?hqc31 (Or.inl ⟨?hwc31, ?hhc31⟩) hHeld ?rrc31
                  case hic31 => (simp only [List.getElem?_toArray, List.getElem?_cons_zero, List.getElem?_cons_succ]; rfl)
                  case hqc31 => exact fun _ _ _ h => h
                  case hwc31 => rfl
                  case hhc31 => (intro w hSw; (try dsimp only at hSw); go_simp; try with_reducible rfl)
                  try simp only [Act.put, List.setIfInBounds_toArray, List.set_cons_zero, List.set_cons_succ]
                  refine wpAnyH_take (i := 3) (oi := ?ooc32) (v := ?vvc32) ?hic32 (by kernel_rfl) (by kernel_rfl) (by kernel_rfl) ?hqc32 (Or.inl ⟨?hwc32, ?hhc32⟩) hHeld ?rrc32
                  case hic32 => (simp only [List.getElem?_toArray, List.getElem?_cons_zero, List.getElem?_cons_succ]; rfl)
                  case hqc32 => exact fun _ _ _ h => h
                  case hwc32 => rfl
                  case hhc32 => (intro w hSw; (try dsimp only at hSw); go_simp; try with_reducible rfl)
                  try simp only [Act.put, List.setIfInBounds_toArray, List.set_cons_zero, List.set_cons_succ]
                  refine wpAnyH_take (i := 5) (oi := ?ooc33) (v := ?vvc33) ?hic33 (by kernel_rfl) (by kernel_rfl) (by kernel_rfl) ?hqc33 (Or.inl ⟨?hwc33, ?hhc33⟩) hHeld ?rrc33
                  case hic33 => (simp only [List.getElem?_toArray, List.getElem?_cons_zero, List.getElem?_cons_succ]; rfl)
                  case hqc33 => exact fun _ _ _ h => h
                  case hwc33 => rfl
                  case hhc33 => (intro w hSw; (try dsimp only at hSw); go_simp; try with_reducible rfl)
                  try simp only [Act.put, List.setIfInBounds_toArray, List.set_cons_zero, List.set_cons_succ]
                  refine wpAnyH_take (i := 6) (oi := ?ooc34) (v := ?vvc34) ?hic34 (by kernel_rfl) (by kernel_rfl) (by kernel_rfl) ?hqc34 (Or.inl ⟨?hwc34, ?hhc34⟩) hHeld ?rrc34
                  case hic34 => (simp only [List.getElem?_toArray, List.getElem?_cons_zero, List.getElem?_cons_succ]; rfl)
                  case hqc34 => exact fun _ _ _ h => h
                  case hwc34 => rfl
                  case hhc34 => (intro w hSw; (try dsimp only at hSw); go_simp; try with_reducible rfl)
                  try simp only [Act.put, List.setIfInBounds_toArray, List.set_cons_zero, List.set_cons_succ]
                  refine wpAnyH_take (i := 7) (oi := ?ooc35) (v := ?vvc35) ?hic35 (by kernel_rfl) (by kernel_rfl) (by kernel_rfl) ?hqc35 (Or.inl ⟨?hwc35, ?hhc35⟩) hHeld ?rrc35
                  case hic35 => (simp only [List.getElem?_toArray, List.getElem?_cons_zero, List.getElem?_cons_succ]; rfl)
                  case hqc35 => exact fun _ _ _ h => h
                  case hwc35 => rfl
                  case hhc35 => (intro w hSw; (try dsimp only at hSw); go_simp; try with_reducible rfl)
                  try simp only [Act.put, List.setIfInBounds_toArray, List.set_cons_zero, List.set_cons_succ]
                  refine wpAnyH_take (i := 8) (oi := ?ooc36) (v := ?vvc36) ?hic36 (by kernel_rfl) (by kernel_rfl) (by kernel_rfl) ?hqc36 (Or.inl ⟨?hwc36, ?hhc36⟩) hHeld ?rrc36
                  case hic36 => (simp only [List.getElem?_toArray, List.getElem?_cons_zero, List.getElem?_cons_succ]; rfl)
                  case hqc36 => exact fun _ _ _ h => h
                  case hwc36 => rfl
                  case hhc36 => (intro w hSw; (try dsimp only at hSw); go_simp; try with_reducible rfl)
                  try simp only [Act.put, List.setIfInBounds_toArray, List.set_cons_zero, List.set_cons_succ]
                  refine wpAnyH_ready (rs := [0]) (by kernel_rfl) (by simp) ?_
                  refine AllReadyH.cons (o := ?ooc37) ?hic37 (fun K hK => ?hcc37) AllReadyH.nil
                  case hic37 => (simp only [List.getElem?_toArray, List.getElem?_cons_zero, List.getElem?_cons_succ]; rfl)
                  go_simp
                  refine hK.out _ _ (trivial) (fun hHeld => ?_)
                  clear hK K
                  try simp only [Act.put, List.setIfInBounds_toArray, List.set_cons_zero, List.set_cons_succ]
                  refine wpAnyH_ready (rs := [4]) (by kernel_rfl) (by simp) ?_
                  refine AllReadyH.cons (o := ?ooc38) ?hic38 (fun K hK => ?hcc38) AllReadyH.nil
                  case hic38 => (simp only [List.getElem?_toArray, List.getElem?_cons_zero, List.getElem?_cons_succ]; rfl)
                  refine oper_app (.tmp 212) (.tmp 215) 42 rfl rfl _ _ _ _ (by simp [Act.eval, Act.put]) (by simp [Act.eval, Act.put]) HE13.out ?_
                  refine hK.out _ _ (trivial) (fun hHeld => ?_)
                  clear hK K
                  try simp only [Act.put, List.setIfInBounds_toArray, List.set_cons_zero, List.set_cons_succ]
                  refine wpAnyH_ready (rs := [9]) (by kernel_rfl) (by simp) ?_
                  refine AllReadyH.cons (o := ?ooc39) ?hic39 (fun K hK => ?hcc39) AllReadyH.nil
                  case hic39 => (simp only [List.getElem?_toArray, List.getElem?_cons_zero, List.getElem?_cons_succ]; rfl)
                  refine oper_app (.tmp 216) (.tmp 220) 42 rfl rfl _ _ _ _ (by simp [Act.eval, Act.put]) (by simp [Act.eval, Act.put, hc3]) HE23.out ?_
                  refine hK.out _ _ (trivial) (fun hHeld => ?_)
                  clear hK K
                  try simp only [Act.put, List.setIfInBounds_toArray, List.set_cons_zero, List.set_cons_succ]
                  refine wpAnyH_take (i := 10) (oi := ?ooc310) (v := ?vvc310) ?hic310 (by kernel_rfl) (by kernel_rfl) (by kernel_rfl) ?hqc310 (Or.inl ⟨?hwc310, ?hhc310⟩) hHeld ?rrc310
                  case hic310 => (simp only [List.getElem?_toArray, List.getElem?_cons_zero, List.getElem?_cons_succ]; rfl)
                  case hqc310 => exact fun _ _ _ h => h
                  case hwc310 => rfl
                  case hhc310 => (intro w hSw; (try dsimp only at hSw); go_simp; try with_reducible rfl)
                  try simp only [Act.put, List.setIfInBounds_toArray, List.set_cons_zero, List.set_cons_succ]
                  refine wpAnyH_done (by kernel_rfl) ?_ _
                  try simp only [Act.put, List.getElem_toArray, List.getElem_cons_zero, List.getElem_cons_succ, List.setIfInBounds_toArray, List.set_cons_zero, List.set_cons_succ]
                  clear u1 u1' u4 u4' hc2 hc3 HE13 HE23 hcap3
                  have HR9 := Lib.hid (show R3 wb.heap.size vb1 vb2 vb3 (cutA T k) wd3 from
                    ⟨by rw [cutA_map]; exact ((HO91.out.lo H8.out.f.size).fr0 fc2).fr0 fc3, by rw [cutA_map]; exact (HO92.out.lo (H8.out.fr0 fc1).f.size).fr0 fc3, by rw [cutA_map]; exact HO93.out.lo ((H8.out.fr0 fc1).fr0 fc2).f.size,
                      dj_lt HO91.out HO92.out (Nat.le_refl _), dj_lt (HO91.out.fr0 fc2) HO93.out (Nat.le_refl _), dj_lt HO92.out HO93.out (Nat.le_refl _)⟩)
                  have H9 := Lib.hid (((H8.out.fr0 fc1).fr0 fc2).fr0 fc3)
                  have hcl := cutA_len hkT
                  clear HO91 HO92 HO93 fc1 fc2 fc3 r1 r2 r3 H8 HR8
                  go_wp2_with fail
                  go_roundw
                  case rel => exact ⟨j + 1, cutA T k, _, _, _, rfl, rfl, rfl, by omega, by go_num, by omega, H9.out, HR9.out⟩
                  case measure => simp [intOf]; omega
      · have b4 : decide ((j : Int) < n) = false := by simp; omega
        have b4' : decide (j < n) = false := by simp; omega
        have hfl := HFL.out _ _ HO.out
        have F0 := Lib.hid (HFW.out _ _ HO.out)
        clear hlt HA HR
        go_wp2_with fail
        with_reducible refine hfl.mono ?_
        rintro e w5 ⟨rfl, f5⟩
        have F5 := Lib.hid (F0.out.trans f5)
        have hL := HL.out _ F5.out
        clear hfl f5
        go_wp2_with fail
        with_reducible refine hL.mono ?_
        rintro e w6 ⟨rfl, f6⟩
        go_wp2_with fail
        go_ret
        exact ⟨rfl, F5.out.trans f6⟩
theorem walk_sonceW (w : World) (h : TabM w ∧ Tabs w) (a : Option Addr) (c : Nat) (l : List A15) (hl : ActA15 w a c l) : Calls Tryz.prog 4 #[.slice a l.length c] w fun e w' => e = .returned (.bool true) ∧ Fr [] w w' := walk_sonce w h.1 h.2 a c l hl
end Go.Proofs.YtkapkbiccppldaaGreatDoor
