/- Layer 14: ListsBack. -/
import Derived.Test.YtcagljjbiodcoaaDoorLaw14a
import Derived.Test.YtcagljjbiodcoaaDoorMemB
namespace Go.Proofs.YtcagljjbiodcoaaDoor
set_option linter.unusedVariables false
open Go.RowKit

theorem tb_bad {w : World} {q : MH} {t : TM} {inn : Nat → Int} (h : IsT w q t) (hl : LS t inn) (c x : Int) (hE : insE t.a inn c x ≠ 0) :
    Calls Tryd.prog 33 #[.pointer (some ⟨q.m, 0, none⟩), .int .i64 c, .int .i64 x] w fun e w' => e = .returned (.int .i64 (insE t.a inn c x)) ∧ IsT w' q t ∧ Fr q.blocks w w' := by
  by_cases hr : rightE t.a c x = 0
  · obtain ⟨c, x, rfl, rfl, hc, hx⟩ := rightE_nz hr
    by_cases hn : 0 ≤ inn x
    · have e : insE t.a inn c x = 8 := by unfold insE; rw [if_neg (fun k => k hr), Int.toNat_natCast, if_pos hn]
      rw [e]
      exact liins_st h hl c x hc hx hn
    · exact absurd (by unfold insE; rw [if_neg (fun k => k hr), Int.toNat_natCast, if_neg hn]) hE
  · have e : insE t.a inn c x = rightE t.a c x := by unfold insE; rw [if_pos hr]
    rw [e]
    exact (liins_no h c x hr).mono fun e w' ⟨he, hf⟩ => ⟨he, h.fr0 hf, hf.nil⟩
theorem tb_ok {q : MH} {t : TM} {inn : Nat → Int} (hl : LS t inn) (c x : Int) (hE : insE t.a inn c x = 0) : ∃ t1 : TM,
    (∀ w, IsT w q t → Calls Tryd.prog 33 #[.pointer (some ⟨q.m, 0, none⟩), .int .i64 c, .int .i64 x] w fun e w' => e = .returned (.int .i64 0) ∧ IsT w' q t1 ∧ Fr q.blocks w w') ∧
    (∀ w, IsT w q t1 → Calls Tryd.prog 34 #[.pointer (some ⟨q.m, 0, none⟩), .int .i64 c, .int .i64 x] w fun e w' => e = .returned (.int .i64 0) ∧ IsT w' q t ∧ Fr q.blocks w w') := by
  have hr : rightE t.a c x = 0 := by
    by_cases hr : rightE t.a c x = 0
    · exact hr
    · exfalso
      unfold insE at hE
      rw [if_pos hr] at hE
      exact hr hE
  obtain ⟨c, x, rfl, rfl, hc, hx⟩ := rightE_nz hr
  have hn : inn x < 0 := by
    unfold insE at hE
    rw [if_neg (fun k => k hr), Int.toNat_natCast] at hE
    by_cases hn : 0 ≤ inn x
    · rw [if_pos hn] at hE; cases hE
    · omega
  refine ⟨t.lnk c x (pv (loL inn x c)) (hd1 (hiL t.a inn x c)), fun w h => liins_yes h hl c x hc hx hn, fun w h => ?_⟩
  have h1 := lirem_yes h (hl.ins hc hx hn) c x hc (by rw [lnk_a]; exact hx) (up_same _ _ _)
  rw [loL_up, lnk_a, hiL_up, hl.back hc hx hn] at h1
  exact h1
theorem timage {w : World} {q : MH} {t : TM} (h : IsT w q t) :
    Calls Tryd.prog 37 #[.pointer (some ⟨q.m, 0, none⟩)] w fun e w' => ∃ g cap, e = .returned (.slice (some ⟨g, 0, none⟩) t.bytes.length cap) ∧ w.heap.size ≤ g ∧ RowB w' g cap t.bytes ∧ Fr [] w w' :=
  (mimage w q t.ms h.m).mono fun e w' ⟨v, he, g, cap, hv, h1, h2, h3⟩ => ⟨g, cap, hv ▸ he, h1, h2, h3⟩

set_option maxRecDepth 100000 in
set_option maxHeartbeats 8000000 in
theorem walk_lback (w : World) (hM : TabM w) (a : Option Addr) (c : Nat) (l : List A14) (h : ActA14 w a c l) (cl sl : Int) :
    Calls Tryd.prog 8 #[.slice a l.length c, .int .i64 cl, .int .i64 sl] w fun e w' => e = .returned (.bool true) ∧ Fr [] w w' := by
  have HL := Lib.hid (fun W (hf : Fr [] w W) => lines14 W (hM.fr hf (by simp)))
  by_cases hlen : 60 < l.length
  · have b1 : decide ((60 : Int) < l.length) = true := by simp; omega
    have b1' : decide (60 < l.length) = true := by simp; omega
    have hL := HL.out w (Fr.refl _ _)
    clear hlen
    go_enter Tryd.func8, Tryd.ntmps8
    go_wp2_with fail
    with_reducible refine hL.mono ?_
    rintro e w1 ⟨rfl, f1⟩
    go_wp2_with fail
    go_ret
    exact ⟨rfl, f1⟩
  have b1 : decide ((60 : Int) < l.length) = false := by simp; omega
  have b1' : decide (60 < l.length) = false := by simp; omega
  have hn := (show Calls Tryd.prog 17 #[.agg #[.int .i64 16, .int .i64 512]] w (NewT w 16 512) from tnew w hM 16 512 cfg16)
  have HA := Lib.hid h
  generalize hnn : l.length = n at *
  have HN := Lib.hid hnn
  have hn60 : n ≤ 60 := by omega
  clear hlen h hnn hM
  go_enter Tryd.func8, Tryd.ntmps8
  go_wp2_with fail
  with_reducible refine hn.mono ?_
  rintro e w1 ⟨q, rfl, h1, hq, f1⟩
  have HB := Lib.hid (s14_beg h1 f1 hq)
  have HQ := Lib.hid hq
  clear hn h1 f1 hq
  go_wp2_with fail
  with_reducible refine HB.out.mono ?_
  rintro e w2 ⟨rfl, h2⟩
  have H2 := Lib.hid h2
  clear HB h2
  go_wp2_with fail
  go_loopw [8] (fun v W => ∃ j : Nat, j ≤ n ∧ v = .int .i64 j ∧ S14 w q 16 W) (fun v _ => n - (intOf v).toNat)
  case atStart => exact ⟨0, by omega, rfl, H2.out⟩
  case round =>
    clear H2
    obtain ⟨j, hj, rfl, hS⟩ := hrel
    have HS := Lib.hid hS
    clear hS
    by_cases hlt : j < n
    · obtain ⟨B, off, rfl, hBl, hr⟩ := HA.out.row (by rw [HN.out]; omega)
      have hlt' : j < l.length := by rw [HN.out]; exact hlt
      have hrj := hr j hlt'
      have e0 := (HS.out.f.cell (p := ⟨B, off + j * 5, none⟩) hBl (by simp)).trans hrj.c0
      have D1 := Lib.hid (And.intro hrj.c1 hBl)
      have D2 := Lib.hid (And.intro hrj.c2 hBl)
      generalize l[j]'hlt' = y at *
      obtain ⟨yk, yc, yx, yl, yf⟩ := y
      simp only at e0 D1 D2
      clear hr hrj
      have hg2 : (0 : Int) ≤ j := by omega
      have hg3 : (j : Int) < n := by omega
      have w3 : IntKind.i64.wrap ((j : Int) + 1) = (j : Int) + 1 := IntWalk.i64_in _ (by omega)
      by_cases hk : yk < 3
      · have b2 : decide (yk < 3) = true := by simpa using hk
        clear hk
        go_wp2_with fail
        have hY := And.intro ((HS.out.drew.f.cell (p := ⟨B, off + j * 5 + 1, none⟩) D1.out.2 (by simp)).trans D1.out.1) ((HS.out.drew.f.cell (p := ⟨B, off + j * 5 + 2, none⟩) D2.out.2 (by simp)).trans D2.out.1)
        go_region_held3 (fun W => W.cell? ⟨B, off + j * 5 + 1, none⟩ = some (.int .i64 yc) ∧ W.cell? ⟨B, off + j * 5 + 2, none⟩ = some (.int .i64 yx)) (exact hY)
          (first | (go_at_call 33; with_reducible refine (s14_ins HS.out.drew yc yx).mono ?_; rintro e W2 ⟨r, rfl, hS2⟩; have HS2 := Lib.hid hS2; have hY := And.intro ((HS2.out.f.cell (p := ⟨B, off + j * 5 + 1, none⟩) D1.out.2 (by simp)).trans D1.out.1) ((HS2.out.f.cell (p := ⟨B, off + j * 5 + 2, none⟩) D2.out.2 (by simp)).trans D2.out.1); clear hS2) | fail)
        go_wp2_with fail
        go_roundw
        case rel => exact ⟨j + 1, by omega, by go_num, HS2.out⟩
        case measure => simp [intOf]; omega
      · have b2 : decide (yk < 3) = false := by simpa using hk
        clear hk
        go_wp2_with fail
        have hY := And.intro ((HS.out.drew.f.cell (p := ⟨B, off + j * 5 + 1, none⟩) D1.out.2 (by simp)).trans D1.out.1) ((HS.out.drew.f.cell (p := ⟨B, off + j * 5 + 2, none⟩) D2.out.2 (by simp)).trans D2.out.1)
        go_region_held3 (fun W => W.cell? ⟨B, off + j * 5 + 1, none⟩ = some (.int .i64 yc) ∧ W.cell? ⟨B, off + j * 5 + 2, none⟩ = some (.int .i64 yx)) (exact hY)
          (first | (go_at_call 34; with_reducible refine (s14_rem HS.out.drew yc yx).mono ?_; rintro e W2 ⟨r, rfl, hS2⟩; have HS2 := Lib.hid hS2; have hY := And.intro ((HS2.out.f.cell (p := ⟨B, off + j * 5 + 1, none⟩) D1.out.2 (by simp)).trans D1.out.1) ((HS2.out.f.cell (p := ⟨B, off + j * 5 + 2, none⟩) D2.out.2 (by simp)).trans D2.out.1); clear hS2) | fail)
        go_wp2_with fail
        go_roundw
        case rel => exact ⟨j + 1, by omega, by go_num, HS2.out⟩
        case measure => simp [intOf]; omega
    · have b3 : decide ((j : Int) < n) = false := by simp; omega
      have b3' : decide (j < n) = false := by simp; omega
      obtain ⟨t, inn, hi, hl, ha⟩ := HS.out.x
      have F0 := Lib.hid HS.out.f
      have HI := Lib.hid hi
      have HIM := Lib.hid (fun W hW => timage (w := W) (q := q) (t := t) hW)
      have hbt := hi.m.ar.byte
      have hln : t.bytes.length ≤ 1048576 := by
        rw [TM.bytes_len]
        obtain ⟨a1, a2, a3, a4, a5⟩ := hi.ok.cfg
        unfold lsize lbase; omega
      have HCV := Lib.hid (show ∀ W g cw, RowB W g cw t.bytes → (convert 63 9 (.slice (some ⟨g, 0, none⟩) t.bytes.length cw)).run Tryd.prog W = .ok (.string (strOf t.bytes)) W from fun W g cw hr => conv_str W _ cw _ (hr.byt hbt (by omega)))
      have hbad := fun W hW => tb_bad (w := W) (q := q) (t := t) (inn := inn) hW hl cl sl
      have hok := tb_ok (q := q) hl cl sl
      generalize insE t.a inn cl sl = E at *
      generalize strOf t.bytes = s at *
      have hmono : ∀ W (V : World), Fr [] w W → Fr q.blocks W V → Fr [] w V := fun W V h1 h2 => h1.step h2 (fun k hk => .inr (HQ.out k hk))
      have HMN := Lib.hid hmono
      have hgw : w.heap.size ≤ wr.heap.size := F0.out.size
      have hqb : ∀ k ∈ q.blocks, k < wr.heap.size := hi.lt
      have HTB := Lib.hid (show ∀ W g cw, RowB W g cw t.bytes → RowB W g cw t.bytes from fun _ _ _ h => h)
      generalize hN : t.bytes.length = N at *
      have HNN := Lib.hid hN
      clear HS hi hl HA HN hbt hln hN hmono
      go_wp2_with fail
      with_reducible refine (HIM.out _ HI.out).mono ?_
      rintro e w3 ⟨gw, cw, rfl, hgg, hrw, f3⟩
      have HI3 := Lib.hid (HI.out.fr0 f3)
      have F3 := Lib.hid (F0.out.trans f3)
      have RW := Lib.hid hrw
      have hgq : gw ∉ q.blocks := fun hm => by have := hqb _ hm; omega
      clear hrw f3 HI F0
      by_cases hE : E = 0
      · obtain ⟨t1, h1, h2⟩ := hok hE
        have H1 := Lib.hid h1
        have H2 := Lib.hid h2
        clear hbad hok h1 h2 hE
        go_wp2_with fail
        with_reducible refine (H1.out _ HI3.out).mono ?_
        rintro e w4 ⟨rfl, h4, f4⟩
        have F4 := Lib.hid (HMN.out _ _ F3.out f4)
        have RW4 := Lib.hid (RW.out.fr f4 hgq)
        clear f4 RW F3 HI3
        go_wp2_with fail
        with_reducible refine (H2.out _ h4).mono ?_
        rintro e w5 ⟨rfl, h5, f5⟩
        have HI5 := Lib.hid h5
        have F5 := Lib.hid (HMN.out _ _ F4.out f5)
        have RW5 := Lib.hid (RW4.out.fr f5 hgq)
        clear f5 RW4 F4 h4 h5
        go_wp2_with fail
        have hY := HCV.out _ _ _ RW5.out.drew
        refine wp_region_held_drew (S := fun W => (convert 63 9 (.slice (some ⟨gw, 0, none⟩) N cw)).run Tryd.prog W = .ok (.string s) W) (by kernel_rfl) (hY) (fun hHeld => ?_)
        refine wpAnyH_take (i := 0) (oi := ?ooa0) (v := ?vva0) ?hia0 (by kernel_rfl) (by kernel_rfl) (by kernel_rfl) ?hqa0 (Or.inl ⟨?hwa0, ?hha0⟩) hHeld ?rra0
        case hia0 => (simp only [List.getElem?_toArray, List.getElem?_cons_zero, List.getElem?_cons_succ]; rfl)
        case hqa0 => exact fun _ _ _ h => h
        case hwa0 => rfl
        case hha0 => (intro w hSw; (try dsimp only at hSw); go_simp; try with_reducible rfl)
        try simp only [Act.put, List.setIfInBounds_toArray, List.set_cons_zero, List.set_cons_succ]
        refine wpAnyH_take (i := 1) (oi := ?ooa1) (v := ?vva1) ?hia1 (by kernel_rfl) (by kernel_rfl) (by kernel_rfl) ?hqa1 (Or.inl ⟨?hwa1, ?hha1⟩) hHeld ?rra1
        case hia1 => (simp only [List.getElem?_toArray, List.getElem?_cons_zero, List.getElem?_cons_succ]; rfl)
        case hqa1 => exact fun _ _ _ h => h
        case hwa1 => rfl
        case hha1 => (intro w hSw; (try dsimp only at hSw); go_simp; try with_reducible rfl)
        try simp only [Act.put, List.setIfInBounds_toArray, List.set_cons_zero, List.set_cons_succ]
        refine wpAnyH_take (i := 2) (oi := ?ooa2) (v := ?vva2) ?hia2 (by kernel_rfl) (by kernel_rfl) (by kernel_rfl) ?hqa2 (Or.inl ⟨?hwa2, ?hha2⟩) hHeld ?rra2
        case hia2 => (simp only [List.getElem?_toArray, List.getElem?_cons_zero, List.getElem?_cons_succ]; rfl)
        case hqa2 => exact fun _ _ _ h => h
        case hwa2 => rfl
        case hha2 => (intro w hSw; (try dsimp only at hSw); go_simp; try with_reducible rfl)
        try simp only [Act.put, List.setIfInBounds_toArray, List.set_cons_zero, List.set_cons_succ]
        refine wpAnyH_take (i := 3) (oi := ?ooa3) (v := ?vva3) ?hia3 (by kernel_rfl) (by kernel_rfl) (by kernel_rfl) ?hqa3 (Or.inl ⟨?hwa3, ?hha3⟩) hHeld ?rra3
        case hia3 => (simp only [List.getElem?_toArray, List.getElem?_cons_zero, List.getElem?_cons_succ]; rfl)
        case hqa3 => exact fun _ _ _ h => h
        case hwa3 => rfl
        case hha3 => (intro w hSw; (try dsimp only at hSw); go_simp; try with_reducible rfl)
        try simp only [Act.put, List.setIfInBounds_toArray, List.set_cons_zero, List.set_cons_succ]
        refine wpAnyH_take (i := 6) (oi := ?ooa4) (v := ?vva4) ?hia4 (by kernel_rfl) (by kernel_rfl) (by kernel_rfl) ?hqa4 (Or.inl ⟨?hwa4, ?hha4⟩) hHeld ?rra4
        case hia4 => (simp only [List.getElem?_toArray, List.getElem?_cons_zero, List.getElem?_cons_succ]; rfl)
        case hqa4 => exact fun _ _ _ h => h
        case hwa4 => rfl
        case hha4 => (intro w hSw; (try dsimp only at hSw); go_simp; try with_reducible rfl)
        try simp only [Act.put, List.setIfInBounds_toArray, List.set_cons_zero, List.set_cons_succ]
        refine wpAnyH_take (i := 7) (oi := ?ooa5) (v := ?vva5) ?hia5 (by kernel_rfl) (by kernel_rfl) (by kernel_rfl) ?hqa5 (Or.inl ⟨?hwa5, ?hha5⟩) hHeld ?rra5
        case hia5 => (simp only [List.getElem?_toArray, List.getElem?_cons_zero, List.getElem?_cons_succ]; rfl)
        case hqa5 => exact fun _ _ _ h => h
        case hwa5 => rfl
        case hha5 => (intro w hSw; (try dsimp only at hSw); go_simp; try with_reducible rfl)
        try simp only [Act.put, List.setIfInBounds_toArray, List.set_cons_zero, List.set_cons_succ]
        refine wpAnyH_ready (rs := [4]) (by kernel_rfl) (by simp) ?_
        refine AllReadyH.cons (o := ?ooa6) ?hia6 (fun K hK => ?hca6) AllReadyH.nil
        case hia6 => (simp only [List.getElem?_toArray, List.getElem?_cons_zero, List.getElem?_cons_succ]; rfl)
        go_simp
        with_reducible refine (HIM.out _ HI5.out.drew).mono ?_
        rintro e W3 ⟨g3, c3, rfl, hgg3, hr3, f3⟩
        have HI3 := Lib.hid ((HI5.out.drew).fr0 f3)
        have HF3 := Lib.hid ((F5.out.drew).step f3 (by simp))
        have RW3 := Lib.hid ((RW5.out.drew).fr f3 (by simp))
        have hs3 := HCV.out _ _ _ hr3
        have hY := HCV.out _ _ _ RW3.out
        have hL := HL.out _ HF3.out
        clear hr3 f3
        go_wp2_with fail
        refine hK.out _ _ (hY) (fun hHeld => ?_)
        clear hK K
        try simp only [Act.put, List.setIfInBounds_toArray, List.set_cons_zero, List.set_cons_succ]
        refine wpAnyH_ready (rs := [5]) (by kernel_rfl) (by simp) ?_
        refine AllReadyH.cons (o := ?ooa7) ?hia7 (fun K hK => ?hca7) AllReadyH.nil
        case hia7 => (simp only [List.getElem?_toArray, List.getElem?_cons_zero, List.getElem?_cons_succ]; rfl)
        go_simp
        refine hK.out _ _ (hY) (fun hHeld => ?_)
        clear hK K
        try simp only [Act.put, List.setIfInBounds_toArray, List.set_cons_zero, List.set_cons_succ]
        refine wpAnyH_take (i := 8) (oi := ?ooa8) (v := ?vva8) ?hia8 (by kernel_rfl) (by kernel_rfl) (by kernel_rfl) ?hqa8 (Or.inl ⟨?hwa8, ?hha8⟩) hHeld ?rra8
        case hia8 => (simp only [List.getElem?_toArray, List.getElem?_cons_zero, List.getElem?_cons_succ]; rfl)
        case hqa8 => exact fun _ _ _ h => h
        case hwa8 => rfl
        case hha8 => (intro w hSw; (try dsimp only at hSw); go_simp; try with_reducible rfl)
        try simp only [Act.put, List.setIfInBounds_toArray, List.set_cons_zero, List.set_cons_succ]
        refine wpAnyH_take (i := 9) (oi := ?ooa9) (v := ?vva9) ?hia9 (by kernel_rfl) (by kernel_rfl) (by kernel_rfl) ?hqa9 (Or.inl ⟨?hwa9, ?hha9⟩) hHeld ?rra9
        case hia9 => (simp only [List.getElem?_toArray, List.getElem?_cons_zero, List.getElem?_cons_succ]; rfl)
        case hqa9 => exact fun _ _ _ h => h
        case hwa9 => rfl
        case hha9 => (intro w hSw; (try dsimp only at hSw); go_simp; try with_reducible rfl)
        try simp only [Act.put, List.setIfInBounds_toArray, List.set_cons_zero, List.set_cons_succ]
        refine wpAnyH_take (i := 10) (oi := ?ooa10) (v := ?vva10) ?hia10 (by kernel_rfl) (by kernel_rfl) (by kernel_rfl) ?hqa10 (Or.inl ⟨?hwa10, ?hha10⟩) hHeld ?rra10
        case hia10 => (simp only [List.getElem?_toArray, List.getElem?_cons_zero, List.getElem?_cons_succ]; rfl)
        case hqa10 => exact fun _ _ _ h => h
        case hwa10 => rfl
        case hha10 => (intro w hSw; (try dsimp only at hSw); go_simp; try with_reducible rfl)
        try simp only [Act.put, List.setIfInBounds_toArray, List.set_cons_zero, List.set_cons_succ]
        refine wpAnyH_ready (rs := [11]) (by kernel_rfl) (by simp) ?_
        refine AllReadyH.cons (o := ?ooa11) ?hia11 (fun K hK => ?hca11) AllReadyH.nil
        case hia11 => (simp only [List.getElem?_toArray, List.getElem?_cons_zero, List.getElem?_cons_succ]; rfl)
        go_simp
        with_reducible refine hL.mono ?_
        rintro e W4 ⟨rfl, f4⟩
        have hY := HCV.out _ _ _ (RW3.out.fr f4 (by simp))
        go_wp2_with fail
        refine hK.out _ _ (hY) (fun hHeld => ?_)
        clear hK K
        try simp only [Act.put, List.setIfInBounds_toArray, List.set_cons_zero, List.set_cons_succ]
        refine wpAnyH_take (i := 12) (oi := ?ooa12) (v := ?vva12) ?hia12 (by kernel_rfl) (by kernel_rfl) (by kernel_rfl) ?hqa12 (Or.inl ⟨?hwa12, ?hha12⟩) hHeld ?rra12
        case hia12 => (simp only [List.getElem?_toArray, List.getElem?_cons_zero, List.getElem?_cons_succ]; rfl)
        case hqa12 => exact fun _ _ _ h => h
        case hwa12 => rfl
        case hha12 => (intro w hSw; (try dsimp only at hSw); go_simp; try with_reducible rfl)
        try simp only [Act.put, List.setIfInBounds_toArray, List.set_cons_zero, List.set_cons_succ]
        refine wpAnyH_take (i := 13) (oi := ?ooa13) (v := ?vva13) ?hia13 (by kernel_rfl) (by kernel_rfl) (by kernel_rfl) ?hqa13 (Or.inl ⟨?hwa13, ?hha13⟩) hHeld ?rra13
        case hia13 => (simp only [List.getElem?_toArray, List.getElem?_cons_zero, List.getElem?_cons_succ]; rfl)
        case hqa13 => exact fun _ _ _ h => h
        case hwa13 => rfl
        case hha13 => (intro w hSw; (try dsimp only at hSw); go_simp; try with_reducible rfl)
        try simp only [Act.put, List.setIfInBounds_toArray, List.set_cons_zero, List.set_cons_succ]
        refine wpAnyH_done (by kernel_rfl) ?_ _
        go_wp2_with fail
        go_ret
        exact ⟨rfl, HF3.out.trans f4⟩
      · have bE : ((E : Int) == 0) = false := by simp; omega
        have bE' : ((E : Int) != 0) = true := by simp; omega
        have H1 := Lib.hid (fun W hW => hbad W hW hE)
        clear hbad hok hE
        go_wp2_with fail
        with_reducible refine (H1.out _ HI3.out).mono ?_
        rintro e w4 ⟨rfl, h4, f4⟩
        have HI5 := Lib.hid h4
        have F5 := Lib.hid (HMN.out _ _ F3.out f4)
        have RW5 := Lib.hid (RW.out.fr f4 hgq)
        clear f4 RW F3 HI3 h4
        go_wp2_with fail
        have hY := HCV.out _ _ _ RW5.out.drew
        refine wp_region_held_drew (S := fun W => (convert 63 9 (.slice (some ⟨gw, 0, none⟩) N cw)).run Tryd.prog W = .ok (.string s) W) (by kernel_rfl) (hY) (fun hHeld => ?_)
        refine wpAnyH_take (i := 0) (oi := ?oob0) (v := ?vvb0) ?hib0 (by kernel_rfl) (by kernel_rfl) (by kernel_rfl) ?hqb0 (Or.inl ⟨?hwb0, ?hhb0⟩) hHeld ?rrb0
        case hib0 => (simp only [List.getElem?_toArray, List.getElem?_cons_zero, List.getElem?_cons_succ]; rfl)
        case hqb0 => exact fun _ _ _ h => h
        case hwb0 => rfl
        case hhb0 => (intro w hSw; (try dsimp only at hSw); go_simp; try with_reducible rfl)
        try simp only [Act.put, List.setIfInBounds_toArray, List.set_cons_zero, List.set_cons_succ]
        refine wpAnyH_take (i := 3) (oi := ?oob1) (v := ?vvb1) ?hib1 (by kernel_rfl) (by kernel_rfl) (by kernel_rfl) ?hqb1 (Or.inl ⟨?hwb1, ?hhb1⟩) hHeld ?rrb1
        case hib1 => (simp only [List.getElem?_toArray, List.getElem?_cons_zero, List.getElem?_cons_succ]; rfl)
        case hqb1 => exact fun _ _ _ h => h
        case hwb1 => rfl
        case hhb1 => (intro w hSw; (try dsimp only at hSw); go_simp; try with_reducible rfl)
        try simp only [Act.put, List.setIfInBounds_toArray, List.set_cons_zero, List.set_cons_succ]
        refine wpAnyH_take (i := 4) (oi := ?oob2) (v := ?vvb2) ?hib2 (by kernel_rfl) (by kernel_rfl) (by kernel_rfl) ?hqb2 (Or.inl ⟨?hwb2, ?hhb2⟩) hHeld ?rrb2
        case hib2 => (simp only [List.getElem?_toArray, List.getElem?_cons_zero, List.getElem?_cons_succ]; rfl)
        case hqb2 => exact fun _ _ _ h => h
        case hwb2 => rfl
        case hhb2 => (intro w hSw; (try dsimp only at hSw); go_simp; try with_reducible rfl)
        try simp only [Act.put, List.setIfInBounds_toArray, List.set_cons_zero, List.set_cons_succ]
        refine wpAnyH_ready (rs := [1]) (by kernel_rfl) (by simp) ?_
        refine AllReadyH.cons (o := ?oob3) ?hib3 (fun K hK => ?hcb3) AllReadyH.nil
        case hib3 => (simp only [List.getElem?_toArray, List.getElem?_cons_zero, List.getElem?_cons_succ]; rfl)
        go_simp
        with_reducible refine (HIM.out _ HI5.out.drew).mono ?_
        rintro e W3 ⟨g3, c3, rfl, hgg3, hr3, f3⟩
        have HI3 := Lib.hid ((HI5.out.drew).fr0 f3)
        have HF3 := Lib.hid ((F5.out.drew).step f3 (by simp))
        have RW3 := Lib.hid ((RW5.out.drew).fr f3 (by simp))
        have hs3 := HCV.out _ _ _ hr3
        have hY := HCV.out _ _ _ RW3.out
        have hL := HL.out _ HF3.out
        clear hr3 f3
        go_wp2_with fail
        refine hK.out _ _ (hY) (fun hHeld => ?_)
        clear hK K
        try simp only [Act.put, List.setIfInBounds_toArray, List.set_cons_zero, List.set_cons_succ]
        refine wpAnyH_ready (rs := [2]) (by kernel_rfl) (by simp) ?_
        refine AllReadyH.cons (o := ?oob4) ?hib4 (fun K hK => ?hcb4) AllReadyH.nil
        case hib4 => (simp only [List.getElem?_toArray, List.getElem?_cons_zero, List.getElem?_cons_succ]; rfl)
        go_simp
        refine hK.out _ _ (hY) (fun hHeld => ?_)
        clear hK K
        try simp only [Act.put, List.setIfInBounds_toArray, List.set_cons_zero, List.set_cons_succ]
        refine wpAnyH_take (i := 5) (oi := ?oob5) (v := ?vvb5) ?hib5 (by kernel_rfl) (by kernel_rfl) (by kernel_rfl) ?hqb5 (Or.inl ⟨?hwb5, ?hhb5⟩) hHeld ?rrb5
        case hib5 => (simp only [List.getElem?_toArray, List.getElem?_cons_zero, List.getElem?_cons_succ]; rfl)
        case hqb5 => exact fun _ _ _ h => h
        case hwb5 => rfl
        case hhb5 => (intro w hSw; (try dsimp only at hSw); go_simp; try with_reducible rfl)
        try simp only [Act.put, List.setIfInBounds_toArray, List.set_cons_zero, List.set_cons_succ]
        refine wpAnyH_take (i := 6) (oi := ?oob6) (v := ?vvb6) ?hib6 (by kernel_rfl) (by kernel_rfl) (by kernel_rfl) ?hqb6 (Or.inl ⟨?hwb6, ?hhb6⟩) hHeld ?rrb6
        case hib6 => (simp only [List.getElem?_toArray, List.getElem?_cons_zero, List.getElem?_cons_succ]; rfl)
        case hqb6 => exact fun _ _ _ h => h
        case hwb6 => rfl
        case hhb6 => (intro w hSw; (try dsimp only at hSw); go_simp; try with_reducible rfl)
        try simp only [Act.put, List.setIfInBounds_toArray, List.set_cons_zero, List.set_cons_succ]
        refine wpAnyH_ready (rs := [7]) (by kernel_rfl) (by simp) ?_
        refine AllReadyH.cons (o := ?oob7) ?hib7 (fun K hK => ?hcb7) AllReadyH.nil
        case hib7 => (simp only [List.getElem?_toArray, List.getElem?_cons_zero, List.getElem?_cons_succ]; rfl)
        go_simp
        with_reducible refine hL.mono ?_
        rintro e W4 ⟨rfl, f4⟩
        have hY := HCV.out _ _ _ (RW3.out.fr f4 (by simp))
        go_wp2_with fail
        refine hK.out _ _ (hY) (fun hHeld => ?_)
        clear hK K
        try simp only [Act.put, List.setIfInBounds_toArray, List.set_cons_zero, List.set_cons_succ]
        refine wpAnyH_take (i := 8) (oi := ?oob8) (v := ?vvb8) ?hib8 (by kernel_rfl) (by kernel_rfl) (by kernel_rfl) ?hqb8 (Or.inl ⟨?hwb8, ?hhb8⟩) hHeld ?rrb8
        case hib8 => (simp only [List.getElem?_toArray, List.getElem?_cons_zero, List.getElem?_cons_succ]; rfl)
        case hqb8 => exact fun _ _ _ h => h
        case hwb8 => rfl
        case hhb8 => (intro w hSw; (try dsimp only at hSw); go_simp; try with_reducible rfl)
        try simp only [Act.put, List.setIfInBounds_toArray, List.set_cons_zero, List.set_cons_succ]
        refine wpAnyH_take (i := 9) (oi := ?oob9) (v := ?vvb9) ?hib9 (by kernel_rfl) (by kernel_rfl) (by kernel_rfl) ?hqb9 (Or.inl ⟨?hwb9, ?hhb9⟩) hHeld ?rrb9
        case hib9 => (simp only [List.getElem?_toArray, List.getElem?_cons_zero, List.getElem?_cons_succ]; rfl)
        case hqb9 => exact fun _ _ _ h => h
        case hwb9 => rfl
        case hhb9 => (intro w hSw; (try dsimp only at hSw); go_simp; try with_reducible rfl)
        try simp only [Act.put, List.setIfInBounds_toArray, List.set_cons_zero, List.set_cons_succ]
        refine wpAnyH_done (by kernel_rfl) ?_ _
        go_wp2_with fail
        go_ret
        exact ⟨rfl, HF3.out.trans f4⟩
end Go.Proofs.YtcagljjbiodcoaaDoor
