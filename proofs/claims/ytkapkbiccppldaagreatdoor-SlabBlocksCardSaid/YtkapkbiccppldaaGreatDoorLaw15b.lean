/- Layer 15: SlabBlocks. -/
import Derived.Test.YtkapkbiccppldaaGreatDoorGK
import Derived.Test.YtkapkbiccppldaaGreatDoorOpen15
namespace Go.Proofs.YtkapkbiccppldaaGreatDoor
set_option linter.unusedVariables false
set_option linter.unusedSimpArgs false
open Go.RowKit

def KP15 (w : World) (q : MH) (p gl : Nat) (W : World) : Prop := ∃ S, K15 w q p gl 7 224 S S W
set_option maxRecDepth 100000 in
set_option maxHeartbeats 4000000 in
theorem walk_sblocks (w : World) (hM : TabM w) (hT : Tabs w) (a : Option Addr) (c : Nat) (l : List A15) (x : Int) (h : ActA15 w a c l) :
    Calls Tryz.prog 3 #[.slice a l.length c, .int .i64 x] w fun e w' => e = .returned (.bool true) ∧ Fr [] w w' := by
  have HL := Lib.hid (fun W (hf : Fr [] w W) => takes15 W (hM.fr hf (by simp)) (hT.fr hf (by simp)))
  by_cases hgd : 100 < l.length
  · have hL := HL.out w (Fr.refl _ _)
    have b1 : decide ((100 : Int) < l.length) = true := by simp; omega
    have b1' : decide (100 < l.length) = true := by simp; omega
    clear hgd h
    generalize l.length = n at *
    go_enter Tryz.func3, Tryz.ntmps3
    go_wp2_with fail
    with_reducible refine hL.mono ?_
    rintro e w1 ⟨rfl, f1⟩
    go_wp2_with fail
    go_ret
    exact ⟨rfl, f1⟩
  · have b1 : decide ((100 : Int) < l.length) = false := by simp; omega
    have b1' : decide (100 < l.length) = false := by simp; omega
    have HA := Lib.hid h
    have HMT := Lib.hid (fun W (hf : Fr [] w W) => (show TabM W ∧ Tabs W from ⟨hM.fr hf (by simp), hT.fr hf (by simp)⟩))
    have HG := Lib.hid (show 5 ≤ w.heap.size from by have := hM.size; have := hT.size; omega)
    generalize hnn : l.length = n at *
    have HN := Lib.hid hnn
    have hn100 : n ≤ 100 := by omega
    clear h hnn hM hT hgd
    go_enter Tryz.func3, Tryz.ntmps3
    go_wp2_with fail
    have hB0 := Lib.hid (Blk.new w 25 #[.int .i64 7, .int .i64 224])
    have hF0 := Lib.hid ((Fr.refl [] w).alloc (.cells #[.int .i64 7, .int .i64 224] 25))
    generalize hg0 : w.heap.size = g0 at *
    have hgs0 : w.heap.size ≤ g0 := by omega
    generalize w.alloc (.cells #[.int .i64 7, .int .i64 224] 25) = w0 at *
    have hn := Lib.hid (fun W (hf : Fr [] w W) => (show Calls Tryz.prog 15 #[.agg #[.int .i64 7, .int .i64 224]] W (NewH W 7 224) from hnew W (HMT.out W hf).1 (HMT.out W hf).2 7 224 cfg7))
    have hrb := Lib.hid (fun W => (show Calls Tryz.prog 16 #[.agg #[.int .i64 7, .int .i64 224]] W (R15New W 7 224) from xbegin W 7 224 cfg7))
    have hY := (show w0.drew.cell? ⟨g0, 0, none⟩ = some (.int .i64 7) ∧ w0.drew.cell? ⟨g0, 1, none⟩ = some (.int .i64 224) from ⟨hB0.out.drew.cell 0, hB0.out.drew.cell 1⟩)
    refine wp_region_held_drew (S := fun W' => W'.cell? ⟨g0, 0, none⟩ = some (.int .i64 7) ∧ W'.cell? ⟨g0, 1, none⟩ = some (.int .i64 224)) (by kernel_rfl) (hY) (fun hHeld => ?_)
    refine wpAnyH_take (i := 0) (oi := ?ooa0) (v := ?vva0) ?hia0 (by kernel_rfl) (by kernel_rfl) (by kernel_rfl) ?hqa0 (Or.inl ⟨?hwa0, ?hha0⟩) hHeld ?rra0
    case hia0 => (simp only [List.getElem?_toArray, List.getElem?_cons_zero, List.getElem?_cons_succ]; rfl)
    case hqa0 => exact fun _ _ _ h => h
    case hwa0 => rfl
    case hha0 => (intro w hSw; (try dsimp only at hSw); go_simp; try with_reducible rfl)
    try simp only [Act.put, List.setIfInBounds_toArray, List.set_cons_zero, List.set_cons_succ]
    refine wpAnyH_take (i := 2) (oi := ?ooa1) (v := ?vva1) ?hia1 (by kernel_rfl) (by kernel_rfl) (by kernel_rfl) ?hqa1 (Or.inl ⟨?hwa1, ?hha1⟩) hHeld ?rra1
    case hia1 => (simp only [List.getElem?_toArray, List.getElem?_cons_zero, List.getElem?_cons_succ]; rfl)
    case hqa1 => exact fun _ _ _ h => h
    case hwa1 => rfl
    case hha1 => (intro w hSw; (try dsimp only at hSw); go_simp; try with_reducible rfl)
    try simp only [Act.put, List.setIfInBounds_toArray, List.set_cons_zero, List.set_cons_succ]
    refine wpAnyH_ready (rs := [1]) (by kernel_rfl) (by simp) ?_
    refine AllReadyH.cons (o := ?ooa2) ?hia2 (fun K hK => ?hca2) AllReadyH.nil
    case hia2 => (simp only [List.getElem?_toArray, List.getElem?_cons_zero, List.getElem?_cons_succ]; rfl)
    go_simp
    with_reducible refine (hn.out _ hF0.out.drew).mono ?_
    rintro e w1 ⟨q, rfl, h1, hq, f1⟩
    have H1 := Lib.hid h1
    have HQ := Lib.hid hq
    have F1 := Lib.hid (hF0.out.drew.trans f1)
    have B1 := Lib.hid (hB0.out.drew.fr f1 (by simp))
    have hY := And.intro (B1.out.cell 0) (B1.out.cell 1)
    clear h1 hq f1
    go_wp2_with fail
    refine hK.out _ _ (hY) (fun hHeld => ?_)
    clear hK K
    try simp only [Act.put, List.setIfInBounds_toArray, List.set_cons_zero, List.set_cons_succ]
    refine wpAnyH_ready (rs := [3]) (by kernel_rfl) (by simp) ?_
    refine AllReadyH.cons (o := ?ooa3) ?hia3 (fun K hK => ?hca3) AllReadyH.nil
    case hia3 => (simp only [List.getElem?_toArray, List.getElem?_cons_zero, List.getElem?_cons_succ]; rfl)
    go_simp
    with_reducible refine (hrb.out _).mono ?_
    rintro e w2 ⟨p, gl, rfl, r1, r2, r3, r4⟩
    have R1 := Lib.hid r1
    have F2 := Lib.hid r4
    have B2 := Lib.hid (B1.out.fr r4 (by simp))
    have hY := And.intro (B2.out.cell 0) (B2.out.cell 1)
    clear r1 r4
    go_wp2_with fail
    refine hK.out _ _ (hY) (fun hHeld => ?_)
    clear hK K
    try simp only [Act.put, List.setIfInBounds_toArray, List.set_cons_zero, List.set_cons_succ]
    refine wpAnyH_take (i := 4) (oi := ?ooa4) (v := ?vva4) ?hia4 (by kernel_rfl) (by kernel_rfl) (by kernel_rfl) ?hqa4 (Or.inl ⟨?hwa4, ?hha4⟩) hHeld ?rra4
    case hia4 => (simp only [List.getElem?_toArray, List.getElem?_cons_zero, List.getElem?_cons_succ]; rfl)
    case hqa4 => exact fun _ _ _ h => h
    case hwa4 => rfl
    case hha4 => (intro w hSw; (try dsimp only at hSw); go_simp; try with_reducible rfl)
    try simp only [Act.put, List.setIfInBounds_toArray, List.set_cons_zero, List.set_cons_succ]
    refine wpAnyH_take (i := 5) (oi := ?ooa5) (v := ?vva5) ?hia5 (by kernel_rfl) (by kernel_rfl) (by kernel_rfl) ?hqa5 (Or.inl ⟨?hwa5, ?hha5⟩) hHeld ?rra5
    case hia5 => (simp only [List.getElem?_toArray, List.getElem?_cons_zero, List.getElem?_cons_succ]; rfl)
    case hqa5 => exact fun _ _ _ h => h
    case hwa5 => rfl
    case hha5 => (intro w hSw; (try dsimp only at hSw); go_simp; try with_reducible rfl)
    try simp only [Act.put, List.setIfInBounds_toArray, List.set_cons_zero, List.set_cons_succ]
    refine wpAnyH_done (by kernel_rfl) ?_ _
    have HB := k_begin (w0 := w) (a := 7) (s := 224) H1.out cfg7 F1.out (fun k hk => Nat.le_trans hF0.out.drew.size (HQ.out k hk)) (by have := HG.out; omega) R1.out r2 r3 F2.out
    clear H1 HQ F1 R1 F2 HG B1 B2 hY
    go_wp2_with fail
    with_reducible refine HB.mono ?_
    rintro e w3 ⟨rfl, h3⟩
    have H3 := Lib.hid (show KP15 w q p gl w3 from ⟨_, h3⟩)
    clear HB h3
    go_wp2_with fail
    go_loopw [8] (fun v W => ∃ j : Nat, j ≤ n ∧ v = .int .i64 j ∧ KP15 w q p gl W) (fun v _ => n - (intOf v).toNat)
    case atStart => exact ⟨0, by omega, rfl, H3.out⟩
    case round =>
      clear H3
      obtain ⟨j, hj, rfl, S, hS⟩ := hrel
      have HS := Lib.hid hS
      clear hS
      by_cases hlt : j < n
      · obtain ⟨B, off, rfl, hBl, hr⟩ := HA.out.row (by rw [HN.out]; omega)
        have hlt' : j < l.length := by rw [HN.out]; exact hlt
        have hrj := hr j hlt'
        have e0 := (HS.out.m.f.cell (p := ⟨B, off + j * 2, none⟩) hBl (by simp)).trans hrj.c0
        generalize l[j]'hlt' = y at *
        obtain ⟨yk, yn⟩ := y
        simp only at e0
        have hg2 : (0 : Int) ≤ j := by omega
        have hg3 : (j : Int) < n := by omega
        have b6 : decide ((j : Int) < n) = true := by simp; omega
        have b6' : decide (j < n) = true := by simp; omega
        have w3 : IntKind.i64.wrap ((j : Int) + 1) = (j : Int) + 1 := IntWalk.i64_in _ (by omega)
        by_cases hk : yk < 3
        · have b5 : decide (yk < 3) = true := by simpa using hk
          have ht := k_take HS.out yn
          have hx := Lib.hid (fun W (h : K15 w q p gl 7 224 (takeS 7 (lbase 7 224) S yn).2.2 S W) => k_xtake h (fun i hi => (HS.out.sl i hi).2) yn)
          have e1 := (HS.out.m.f.cell (p := ⟨B, off + j * 2 + 1, none⟩) hBl (by simp)).trans hrj.c1
          have e1w := Lib.hid (fun W (hf : Fr [] w W) => (hf.cell (p := ⟨B, off + j * 2 + 1, none⟩) hBl (by simp)).trans hrj.c1)
          simp only at e1 e1w
          generalize takeS 7 (lbase 7 224) S yn = T at *
          clear hr hrj hk
          go_wp2_with fail
          with_reducible refine ht.mono ?_
          rintro e w4 ⟨rfl, h4⟩
          have H4 := Lib.hid h4
          have e1' := e1w.out _ h4.m.f
          clear h4 ht e1 e0
          go_wp2_with fail
          with_reducible refine (hx.out _ H4.out).mono ?_
          rintro e w5 ⟨rfl, h5⟩
          have H5 := Lib.hid h5
          clear h5 hx H4 e1'
          go_wp2_with fail
          go_roundw
          case rel => exact ⟨j + 1, by omega, by go_num, _, H5.out⟩
          case measure => simp [intOf]; omega
        · have b5 : decide (yk < 3) = false := by simpa using hk
          clear hr hrj hk
          go_wp2_with fail
          go_roundw
          case rel => exact ⟨j + 1, by omega, by go_num, _, HS.out⟩
          case measure => simp [intOf]; omega
      · have b4 : decide ((j : Int) < n) = false := by simp; omega
        have b4' : decide (j < n) = false := by simp; omega
        have hb := k_block HS.out x
        have hx := Lib.hid (fun W (h : K15 w q p gl 7 224 S S W) => k_xblock h (fun i hi => (HS.out.sl i hi).1) x)
        generalize blkS 7 (lbase 7 224) S x = T at *
        obtain ⟨t1, t2, t3⟩ := T
        have q1 : ((t1 : Int) == t1) = true := by simp
        have q2 : ((t2 : Int) == t2) = true := by simp
        have q3 : (t3 == t3) = true := by simp
        clear hlt
        go_wp2_with fail
        with_reducible refine hb.mono ?_
        rintro e w4 ⟨rfl, h4⟩
        have H4 := Lib.hid h4
        clear h4 hb
        go_wp2_with fail
        with_reducible refine (hx.out _ H4.out).mono ?_
        rintro e w5 ⟨rfl, f5⟩
        have F5 := Lib.hid (H4.out.m.f.trans f5)
        have hL := HL.out _ F5.out
        clear f5 hx
        go_wp2_with fail
        with_reducible refine hL.mono ?_
        rintro e w6 ⟨rfl, f6⟩
        go_wp2_with fail
        go_ret
        exact ⟨rfl, F5.out.trans f6⟩
theorem walk_sblocksW (w : World) (h : TabM w ∧ Tabs w) (a : Option Addr) (c : Nat) (l : List A15) (hl : ActA15 w a c l) (x : Int) : Calls Tryz.prog 3 #[.slice a l.length c, .int .i64 x] w fun e w' => e = .returned (.bool true) ∧ Fr [] w w' := walk_sblocks w h.1 h.2 a c l x hl
end Go.Proofs.YtkapkbiccppldaaGreatDoor
