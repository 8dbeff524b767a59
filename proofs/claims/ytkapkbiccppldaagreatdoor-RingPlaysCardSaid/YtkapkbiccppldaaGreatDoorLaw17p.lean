/- RingPlays: the walk. -/
import Derived.Test.YtkapkbiccppldaaGreatDoorKE
import Derived.Test.YtkapkbiccppldaaGreatDoorOpen17
import Derived.Test.YtkapkbiccppldaaGreatDoorGA
import Derived.Test.YtkapkbiccppldaaGreatDoorTk
-- @short
import Derived.BigQuiet
namespace Go.Proofs.YtkapkbiccppldaaGreatDoor
set_option linter.unusedVariables false
set_option linter.unusedSimpArgs false
open Go.RowKit

section
variable {w0 W W' : World} {q : MH} {p b b2 x n : Nat} {X R R2 A B : List Nat}
/-- Behind so many acts. -/
def KP7 (w0 : World) (q : MH) (p j : Nat) (W : World) : Prop := ∃ R b, K7 w0 q p [] R b R b W ∧ R.length ≤ j
/-- Behind one act more: what is left to compare. -/
def KC7 (w0 : World) (q : MH) (p : Nat) (R : List Nat) (b : Nat) (W : World) : Prop := K7 w0 q p [] R b R b W ∧ R.length ≤ 1000
set_option maxRecDepth 100000 in
set_option maxHeartbeats 16000000 in
theorem walk_rplays (w : World) (hM : TabM w) (hT : Tabs w) (a : Option Addr) (c : Nat) (l : List A17) (h : ActA17 w a c l) : Calls Tryz.prog 11 #[.slice a l.length c] w fun e w' => e = .returned (.bool true) ∧ Fr [] w w' := by
  have HL := Lib.hid (fun (W : World) (hf : Fr [] w W) => turns17 W (hM.fr hf (by simp)) (hT.fr hf (by simp)))
  have hgx := hT.size
  by_cases hgd : 120 < l.length
  · have b1 : decide ((120 : Int) < l.length) = true := by simp only [decide_eq_true_eq]; omega
    have b1' : decide (120 < l.length) = true := by simp only [decide_eq_true_eq]; omega
    have hL := HL.out w (Fr.refl _ _)
    generalize l.length = n at *
    clear hgd h
    go_enter Tryz.func11, Tryz.ntmps11
    go_wp2_with fail
    with_reducible refine hL.mono ?_
    rintro e w1 ⟨rfl, f1⟩
    go_wp2_with fail
    go_ret
    exact ⟨rfl, f1⟩
  have b1 : decide ((120 : Int) < l.length) = false := by simp only [decide_eq_false_iff_not]; omega
  have b1' : decide (120 < l.length) = false := by simp only [decide_eq_false_iff_not]; omega
  have hF := fresh17 w hM hT
  have HA := Lib.hid h
  generalize hnn : l.length = n at *
  have HN := Lib.hid hnn
  have hn120 : n ≤ 120 := by omega
  clear hgd h hM hT hnn
  go_enter Tryz.func11, Tryz.ntmps11
  go_wp2_with fail
  with_reducible refine hF.mono ?_
  rintro e w1 ⟨q, rfl, g1⟩
  have hql := g1.lt
  have hsz := g1.f.size
  have HQ := Lib.hid hql
  have START := Lib.hid (show KP7 w q w1.heap.size 0 (w1.alloc (.cells #[.slice none 0 0, .int .i64 0] 92)) from by
    refine ⟨[], 0, ⟨⟨_, _, g1.fr0 ((Fr.refl [] w1).alloc _), fun y => ⟨fun h => absurd h (lvP_zero y), fun h => h.elim (fun m => nomatch m) (fun m => nomatch m)⟩⟩, ⟨none, 0, Blk.new _ _ _, fun h => absurd h (by simp)⟩, hsz, hql, by omega⟩, Nat.zero_le _⟩)
  generalize hp : w1.heap.size = p at *
  clear g1 hF b1 b1' hql
  go_wp2_with fail
  go_loopw [5] (fun v W => ∃ j : Nat, j ≤ n ∧ v = .int .i64 j ∧ Hid (KP7 w q p j W)) (fun v _ => n - (intOf v).toNat)
  case atStart => exact ⟨0, by omega, rfl, START⟩
  case round =>
    clear START
    obtain ⟨j, hj, rfl, hK⟩ := hrel
    by_cases hlt : j < n
    · have b1 : decide ((j : Int) < n) = true := by simp; omega
      have b1' : decide (j < n) = true := by simp; omega
      have w3 : IntKind.i64.wrap ((j : Int) + 1) = (j : Int) + 1 := IntWalk.i64_in _ (by omega)
      obtain ⟨B, off, rfl, hBl, hr⟩ := HA.out.row (by rw [HN.out]; omega)
      have hlt' : j < l.length := by rw [HN.out]; exact hlt
      have hrj := hr j hlt'
      have hok := HA.out.each _ (List.getElem_mem hlt')
      obtain ⟨R, b, h0, hlj⟩ := hK.out
      have cY0 := (h0.f.cell (p := ⟨B, off + j * 3, none⟩) hBl (by simp)).trans hrj.c0
      have cY1 := (h0.f.cell (p := ⟨B, off + j * 3 + 1, none⟩) hBl (by simp)).trans hrj.c1
      have cY2 := (h0.f.cell (p := ⟨B, off + j * 3 + 2, none⟩) hBl (by simp)).trans hrj.c2
      generalize l[j]'hlt' = y at *
      obtain ⟨yk, yn, yc⟩ := y
      simp only at cY0 cY1 cY2
      have hyn := hok.n
      simp only at hyn
      have hg2 : (0 : Int) ≤ j := by omega
      have hg3 : (j : Int) < n := by omega
      have F0 := Lib.hid ((Fr.refl [] wr).alloc (.cells #[.int .i64 yk, .int .i64 yn, .int .i64 yc] 71))
      have H0 := Lib.hid (h0.fr0 F0.out)
      have BY := Lib.hid (Blk.new wr 71 #[.int .i64 yk, .int .i64 yn, .int .i64 yc])
      have hgyq := Lib.hid (show wr.heap.size ∉ q.blocks from fun hm => by
        obtain ⟨S, f, g, _⟩ := h0.m
        have := g.lt _ hm
        omega)
      have hgyp := Lib.hid (show wr.heap.size ∉ [p] from fun hm => by
        obtain ⟨ad, cap, hg⟩ := h0.r
        have := hg.st.lt
        simp at hm
        omega)
      have HLEN := Lib.hid (show R.length ≤ 1000 from by omega)
      have HND := Lib.hid h0.nd
      have HLJ := Lib.hid hlj
      have HDONE := Lib.hid (fun V R' b' (hV : K7 w q p [] R' b' R' b' V) (hl : R'.length ≤ j + 1) => (show KP7 w q p (j + 1) V from ⟨R', b', hV, hl⟩))
      clear hr hrj hlt h0 hok hlj
      -- the N-th of all
      obtain ⟨adR, capR, hgR⟩ := H0.out.r
      have ROWR := Lib.hid hgR.row
      obtain ⟨nR, hnR⟩ : ∃ n, R.length = n := ⟨_, rfl⟩
      have HNR := Lib.hid hnR
      have hcp := hgR.st
      rw [hnR] at hcp
      have CP := Lib.hid hcp
      have HPK := Lib.hid (fun V (hV : Fr [] (wr.alloc (.cells #[.int .i64 yk, .int .i64 yn, .int .i64 yc] 71)) V) => (show Calls Tryz.prog 46 #[.slice adR nR capR, .int .i64 yn] V fun e w' => e = .returned (.int .i64 (pkL R yn)) ∧ Fr [] V w' from by
        have := xpick (ROWR.out.fr hV (by simp)) (by have := HLEN.out; omega) yn
        rw [HNR.out] at this
        exact this))
      have dY := fun V (hV : Fr [] (wr.alloc (.cells #[.int .i64 yk, .int .i64 yn, .int .i64 yc] 71)) V) => And.intro (show V.cell? ⟨p, 0, none⟩ = some (.slice adR nR capR) from (CP.out.fr hV (by simp)).cell 0) (show V.cell? ⟨wr.heap.size, 1, none⟩ = some (.int .i64 yn) from (BY.out.fr hV (by simp)).cell 1)
      have DY := Lib.hid dY
      have hY := dY _ (Fr.refl _ _).drew
      clear hgR hnR hcp dY
      go_wp2_with fail
      refine wp_region_held_drew (S := fun W => W.cell? ⟨p, 0, none⟩ = some (.slice adR nR capR) ∧ W.cell? ⟨wr.heap.size, 1, none⟩ = some (.int .i64 yn)) (by kernel_rfl) (hY) (fun yH => ?_)
      refine tkY 0 yH (h := ?_)
      refine tkY 1 yH (h := ?_)
      refine tkY 2 yH (h := ?_)
      refine tkY 3 yH (h := ?_)
      refine tkY 4 yH (h := ?_)
      refine tkY 5 yH (h := ?_)
      refine wpAnyH_ready (rs := [6]) (by kernel_rfl) (by simp) ?_
      refine AllReadyH.cons (o := ?ooa6) ?hia6 (fun K hK => ?hca6) AllReadyH.nil
      case hia6 => (simp only [List.getElem?_toArray, List.getElem?_cons_zero, List.getElem?_cons_succ]; rfl)
      go_simp
      with_reducible refine (HPK.out _ (Fr.refl _ _).drew).mono ?_
      rintro e W1 ⟨rfl, f1⟩
      have F1 := Lib.hid ((Fr.refl [] _).drew.trans f1)
      have hY := DY.out _ F1.out
      clear f1
      go_wp2_with fail
      refine hK.out _ _ (hY) (fun yH => ?_)
      clear hK K
      try simp only [Act.put, List.setIfInBounds_toArray, List.set_cons_zero, List.set_cons_succ]
      refine tkY 7 yH (h := ?_)
      refine wpAnyH_done (by kernel_rfl) ?_ _
      try simp only [Act.put, List.getElem_toArray, List.getElem_cons_zero, List.getElem_cons_succ, List.setIfInBounds_toArray, List.set_cons_zero, List.set_cons_succ]
      have H1 := Lib.hid (H0.out.fr0 F1.out)
      have BY1 := Lib.hid (BY.out.fr F1.out (by simp))
      have k0 := BY1.out.cell 0
      have k1 := BY1.out.cell 1
      have k2 := BY1.out.cell 2
      simp only [List.getElem?_toArray, List.getElem?_cons_zero, List.getElem?_cons_succ] at k0 k1 k2
      have PKM := Lib.hid (fun (h : R ≠ []) => pk_mem h yn)
      have PK0 := Lib.hid (show R = [] → pkL R yn = 0 from fun h => by rw [h]; rfl)
      generalize hgy : wr.heap.size = gy at *
      generalize pkL R yn = px at *
      clear F0 H0 BY DY HPK hY CP ROWR hK hgy F1

      by_cases e2 : yk = 2
      · skip
        have b2 : (yk == 2) = true := by rw [e2]; rfl
        by_cases hR0 : R = []
        · have hp0 := PK0.out hR0
          have c0 : decide ((0 : Int) < px) = false := by rw [hp0]; rfl
          have c0' : decide (0 < px) = false := by rw [hp0]; rfl
          clear hp0
          go_upto_region 34 with fail
          try clear HL
          try clear HA
          try clear HQ
          try clear HND
          try clear PKM
          try clear PK0
          try clear hgx
          as_aux_lemma =>
           have HE := Lib.hid (show R.length ≤ 1000 from by have := HLJ.out; omega)
           obtain ⟨ad2, cap2, hg2R⟩ := H1.out.r
           obtain ⟨n2, hn2⟩ : ∃ n, (R).length = n := ⟨_, rfl⟩
           have HN2 := Lib.hid hn2
           have hcp2 := hg2R.st
           rw [hn2] at hcp2
           have DC := Lib.hid (fun V (hV : IsG V p ad2 cap2 R b) => And.intro (show V.cell? ⟨p, 0, none⟩ = some (.slice ad2 n2 cap2) from by have := hV.st.cell 0; rw [HN2.out] at this; exact this) (show V.cell? ⟨p, 1, none⟩ = some (.int .i64 (b : Nat)) from hV.st.cell 1))
           have HG := Lib.hid hg2R
           have hqp := Lib.hid H1.out.hq
           have CA := Lib.hid (k_all (H1.out.fr0 (Fr.refl [] _).drew))
           have GD := Lib.hid (hg2R.fr0 (Fr.refl [] _).drew)
           have hY := DC.out _ GD.out
           have SM := Lib.hid (fun V b1 b2 d1 c1 d2 c2 (h1 : RowV V b1 d1 c1 R) (h2 : RowV V b2 d2 c2 R) => (show Calls Tryz.prog 32 #[.slice d1 n2 c1, .slice d2 n2 c2] V fun e w' => e = .returned (.bool true) ∧ Fr [] V w' from by
             have := r14same h1 h2 (by have := HE.out; omega)
             rw [HN2.out] at this
             exact this))
           have DN := Lib.hid (HDONE.out _ _ _ H1.out (by have := HLJ.out; omega))
           clear hg2R hcp2 hn2
           try clear H1
           try clear BY1
           have e1 : (((R).headD 0 : Nat) : Int) = ((R).headD 0 : Nat) := rfl
           have CH := Lib.hid (fun V (hV : K7 w q p [] R b R b V) => k_hand hV)
           have CX := Lib.hid (fun V (hV : IsG V p ad2 cap2 R b) => xhand hV)
           have CB := Lib.hid (fun V (hV : K7 w q p [] R b R b V) => k_broom hV)
           have CL := Lib.hid (fun V (hV : K7 w q p [] R b R b V) => (show Calls Tryz.prog 68 #[.pointer (some ⟨q.m, 0, none⟩)] V fun e w' => e = .returned (.int .i64 n2) ∧ K7 w q p [] R b R b w' ∧ Fr q.blocks V w' from by
             have := k_len hV
             rw [HN2.out] at this
             exact this))
           have KF := Lib.hid (fun V (hV : K7 w q p [] R b R b V) => HDONE.out V _ _ hV (by have := HLJ.out; omega))
           rw [HN2.out] at CA
           generalize (R).headD 0 = hd at *
           have q1 : ((hd : Int) != hd) = false := by simp
           have q2 : (((b : Nat) : Int) != (b : Nat)) = false := by simp
           have q3 : ((n2 : Int) != n2) = false := by simp
           clear e1
           refine wp_region_held_drew (S := fun W => W.cell? ⟨p, 0, none⟩ = some (.slice ad2 n2 cap2) ∧ W.cell? ⟨p, 1, none⟩ = some (.int .i64 (b : Nat))) (by kernel_rfl) (hY) (fun yH => ?_)
           refine tkY 0 yH (h := ?_)
           refine tkY 1 yH (h := ?_)
           refine tkY 2 yH (h := ?_)
           refine tkY 3 yH (h := ?_)
           refine tkY 5 yH (h := ?_)
           refine tkY 6 yH (h := ?_)
           refine tkY 7 yH (h := ?_)
           refine tkY 8 yH (h := ?_)
           refine wpAnyH_ready (rs := [4]) (by kernel_rfl) (by simp) ?_
           refine AllReadyH.cons (o := ?ooza8) ?hiza8 (fun K hK => ?hcza8) AllReadyH.nil
           case hiza8 => (simp only [List.getElem?_toArray, List.getElem?_cons_zero, List.getElem?_cons_succ]; rfl)
           go_simp
           with_reducible refine CA.out.mono ?_
           rintro e U1 ⟨adA, cpA, rfl, rowA, hk, hf⟩
           have K1 := Lib.hid hk
           have G1 := Lib.hid (GD.out.fr hf hqp.out)
           have RA := Lib.hid rowA
           have hY := DC.out _ G1.out
           clear hk hf rowA
           go_wp2_with fail
           refine hK.out _ _ (hY) (fun yH => ?_)
           clear hK K
           try simp only [Act.put, List.setIfInBounds_toArray, List.set_cons_zero, List.set_cons_succ]
           refine wpAnyH_ready (rs := [9]) (by kernel_rfl) (by simp) ?_
           refine AllReadyH.cons (o := ?ooza9) ?hiza9 (fun K hK => ?hcza9) AllReadyH.nil
           case hiza9 => (simp only [List.getElem?_toArray, List.getElem?_cons_zero, List.getElem?_cons_succ]; rfl)
           go_simp
           with_reducible refine (SM.out _ _ _ _ _ _ _ RA.out G1.out.row).mono ?_
           rintro e U2 ⟨rfl, hf⟩
           have K2 := Lib.hid (K1.out.fr0 hf)
           have G2 := Lib.hid (G1.out.fr0 hf)
           have hY := DC.out _ G2.out
           clear hf
           go_wp2_with fail
           refine hK.out _ _ (hY) (fun yH => ?_)
           clear hK K
           try simp only [Act.put, List.setIfInBounds_toArray, List.set_cons_zero, List.set_cons_succ]
           refine tkY 10 yH (h := ?_)
           refine tkY 11 yH (h := ?_)
           refine tkY 12 yH (h := ?_)
           refine tkY 13 yH (h := ?_)
           refine tkY 15 yH (h := ?_)
           refine wpAnyH_ready (rs := [14]) (by kernel_rfl) (by simp) ?_
           refine AllReadyH.cons (o := ?ooza15) ?hiza15 (fun K hK => ?hcza15) AllReadyH.nil
           case hiza15 => (simp only [List.getElem?_toArray, List.getElem?_cons_zero, List.getElem?_cons_succ]; rfl)
           go_simp
           with_reducible refine (CH.out _ K2.out).mono ?_
           rintro e U3 ⟨rfl, hk, hf⟩
           have K3 := Lib.hid hk
           have G3 := Lib.hid (G2.out.fr hf hqp.out)
           have hY := DC.out _ G3.out
           clear hk hf
           go_wp2_with fail
           refine hK.out _ _ (hY) (fun yH => ?_)
           clear hK K
           try simp only [Act.put, List.setIfInBounds_toArray, List.set_cons_zero, List.set_cons_succ]
           refine wpAnyH_ready (rs := [16]) (by kernel_rfl) (by simp) ?_
           refine AllReadyH.cons (o := ?ooza16) ?hiza16 (fun K hK => ?hcza16) AllReadyH.nil
           case hiza16 => (simp only [List.getElem?_toArray, List.getElem?_cons_zero, List.getElem?_cons_succ]; rfl)
           go_simp
           with_reducible refine (CX.out _ G3.out).mono ?_
           rintro e U4 ⟨rfl, hf⟩
           have K4 := Lib.hid (K3.out.fr0 hf)
           have G4 := Lib.hid (G3.out.fr0 hf)
           have hY := DC.out _ G4.out
           clear hf
           go_wp2_with fail
           refine hK.out _ _ (hY) (fun yH => ?_)
           clear hK K
           try simp only [Act.put, List.setIfInBounds_toArray, List.set_cons_zero, List.set_cons_succ]
           refine tkY 17 yH (h := ?_)
           refine tkY 18 yH (h := ?_)
           refine tkY 19 yH (h := ?_)
           refine tkY 20 yH (h := ?_)
           refine tkY 22 yH (h := ?_)
           refine tkY 23 yH (h := ?_)
           refine tkY 24 yH (h := ?_)
           refine tkY 25 yH (h := ?_)
           refine wpAnyH_ready (rs := [21]) (by kernel_rfl) (by simp) ?_
           refine AllReadyH.cons (o := ?ooza25) ?hiza25 (fun K hK => ?hcza25) AllReadyH.nil
           case hiza25 => (simp only [List.getElem?_toArray, List.getElem?_cons_zero, List.getElem?_cons_succ]; rfl)
           go_simp
           with_reducible refine (CB.out _ K4.out).mono ?_
           rintro e U5 ⟨rfl, hk, hf⟩
           have K5 := Lib.hid hk
           have G5 := Lib.hid (G4.out.fr hf hqp.out)
           have hY := DC.out _ G5.out
           clear hk hf
           go_wp2_with fail
           refine hK.out _ _ (hY) (fun yH => ?_)
           clear hK K
           try simp only [Act.put, List.setIfInBounds_toArray, List.set_cons_zero, List.set_cons_succ]
           refine tkY 26 yH (h := ?_)
           refine tkY 27 yH (h := ?_)
           refine tkY 28 yH (h := ?_)
           refine tkY 29 yH (h := ?_)
           refine tkY 31 yH (h := ?_)
           refine tkY 32 yH (h := ?_)
           refine tkY 33 yH (h := ?_)
           refine tkY 34 yH (h := ?_)
           refine tkY 35 yH (h := ?_)
           refine wpAnyH_ready (rs := [30]) (by kernel_rfl) (by simp) ?_
           refine AllReadyH.cons (o := ?ooza35) ?hiza35 (fun K hK => ?hcza35) AllReadyH.nil
           case hiza35 => (simp only [List.getElem?_toArray, List.getElem?_cons_zero, List.getElem?_cons_succ]; rfl)
           go_simp
           with_reducible refine (CL.out _ K5.out).mono ?_
           rintro e U6 ⟨rfl, hk, hf⟩
           have K6 := Lib.hid hk
           have G6 := Lib.hid (G5.out.fr hf hqp.out)
           have hY := DC.out _ G6.out
           clear hk hf
           go_wp2_with fail
           refine hK.out _ _ (hY) (fun yH => ?_)
           clear hK K
           try simp only [Act.put, List.setIfInBounds_toArray, List.set_cons_zero, List.set_cons_succ]
           refine tkY 36 yH (h := ?_)
           refine tkY 37 yH (h := ?_)
           refine wpAnyH_done (by kernel_rfl) ?_ _
           try simp only [Act.put, List.getElem_toArray, List.getElem_cons_zero, List.getElem_cons_succ, List.setIfInBounds_toArray, List.set_cons_zero, List.set_cons_succ]
           go_wp2_with fail
           go_roundw
           case rel => exact ⟨j + 1, by omega, by go_num, Lib.hid (KF.out _ K6.out)⟩
           case measure => simp [intOf]; omega
        · have hpm := PKM.out hR0
          have hpos := (H1.out.pos hpm).1
          have c0 : decide ((0 : Int) < px) = true := by simp only [decide_eq_true_eq]; omega
          have c0' : decide (0 < px) = true := by simp only [decide_eq_true_eq]; omega
          obtain ⟨A, B', hAB⟩ := List.append_of_mem hpm
          have hnd := HND.out
          have hlen := HLEN.out
          rw [hAB] at hnd hlen
          have hmid := nd_mid hnd
          have hsame := H1.out
          rw [hAB] at hsame
          have c1 := Lib.hid (k_rem hsame)
          have hl2 := Lib.hid (show (A ++ B').length ≤ j from by
            have := HLJ.out
            rw [hAB, List.length_append, List.length_cons] at this
            rw [List.length_append]; omega)
          have HMID := Lib.hid hmid
          have HND2 := Lib.hid hnd
          have HLEN2 := Lib.hid hlen
          clear hAB hnd hlen hmid hsame hpm hpos hR0
          go_wp2_with fail
          with_reducible refine c1.out.mono ?_
          rintro e W2 ⟨rfl, h2, f2⟩
          have c2 := Lib.hid (k_xrem h2 HND2.out HLEN2.out)
          have BY2 := Lib.hid (BY1.out.fr f2 hgyq.out)
          clear h2 f2 c1
          go_wp2_with fail
          with_reducible refine c2.out.mono ?_
          rintro e W3 ⟨rfl, h3, f3⟩
          have c3 := Lib.hid (k_remNo h3 HMID.out.2)
          clear h3 f3 c2
          go_wp2_with fail
          with_reducible refine c3.out.mono ?_
          rintro e W4 ⟨rfl, h4, f4⟩
          have c4 := Lib.hid (k_give h4 HMID.out.2)
          clear h4 f4 c3
          go_wp2_with fail
          with_reducible refine c4.out.mono ?_
          rintro e W5 ⟨rfl, h5, f5⟩
          have H5 := Lib.hid h5
          clear h5 f5 c4 BY2
          have hlj2 := hl2.out
          generalize A ++ B' = R5 at *
          generalize remB A B' b px = b5 at *
          go_upto_region 34 with fail
          try clear HL
          try clear HA
          try clear HQ
          try clear HND
          try clear PKM
          try clear PK0
          try clear hgx
          as_aux_lemma =>
           have HE := Lib.hid (show R5.length ≤ 1000 from by have := HLJ.out; have := hl2.out; omega)
           obtain ⟨ad2, cap2, hg2R⟩ := H5.out.r
           obtain ⟨n2, hn2⟩ : ∃ n, (R5).length = n := ⟨_, rfl⟩
           have HN2 := Lib.hid hn2
           have hcp2 := hg2R.st
           rw [hn2] at hcp2
           have DC := Lib.hid (fun V (hV : IsG V p ad2 cap2 R5 b5) => And.intro (show V.cell? ⟨p, 0, none⟩ = some (.slice ad2 n2 cap2) from by have := hV.st.cell 0; rw [HN2.out] at this; exact this) (show V.cell? ⟨p, 1, none⟩ = some (.int .i64 (b5 : Nat)) from hV.st.cell 1))
           have HG := Lib.hid hg2R
           have hqp := Lib.hid H5.out.hq
           have CA := Lib.hid (k_all (H5.out.fr0 (Fr.refl [] _).drew))
           have GD := Lib.hid (hg2R.fr0 (Fr.refl [] _).drew)
           have hY := DC.out _ GD.out
           have SM := Lib.hid (fun V b1 b2 d1 c1 d2 c2 (h1 : RowV V b1 d1 c1 R5) (h2 : RowV V b2 d2 c2 R5) => (show Calls Tryz.prog 32 #[.slice d1 n2 c1, .slice d2 n2 c2] V fun e w' => e = .returned (.bool true) ∧ Fr [] V w' from by
             have := r14same h1 h2 (by have := HE.out; omega)
             rw [HN2.out] at this
             exact this))
           have DN := Lib.hid (HDONE.out _ _ _ H5.out (by have := HLJ.out; have := hl2.out; omega))
           clear hg2R hcp2 hn2
           try clear H1
           try clear BY1
           have e1 : (((R5).headD 0 : Nat) : Int) = ((R5).headD 0 : Nat) := rfl
           have CH := Lib.hid (fun V (hV : K7 w q p [] R5 b5 R5 b5 V) => k_hand hV)
           have CX := Lib.hid (fun V (hV : IsG V p ad2 cap2 R5 b5) => xhand hV)
           have CB := Lib.hid (fun V (hV : K7 w q p [] R5 b5 R5 b5 V) => k_broom hV)
           have CL := Lib.hid (fun V (hV : K7 w q p [] R5 b5 R5 b5 V) => (show Calls Tryz.prog 68 #[.pointer (some ⟨q.m, 0, none⟩)] V fun e w' => e = .returned (.int .i64 n2) ∧ K7 w q p [] R5 b5 R5 b5 w' ∧ Fr q.blocks V w' from by
             have := k_len hV
             rw [HN2.out] at this
             exact this))
           have KF := Lib.hid (fun V (hV : K7 w q p [] R5 b5 R5 b5 V) => HDONE.out V _ _ hV (by have := HLJ.out; have := hl2.out; omega))
           rw [HN2.out] at CA
           generalize (R5).headD 0 = hd at *
           have q1 : ((hd : Int) != hd) = false := by simp
           have q2 : (((b5 : Nat) : Int) != (b5 : Nat)) = false := by simp
           have q3 : ((n2 : Int) != n2) = false := by simp
           clear e1
           refine wp_region_held_drew (S := fun W => W.cell? ⟨p, 0, none⟩ = some (.slice ad2 n2 cap2) ∧ W.cell? ⟨p, 1, none⟩ = some (.int .i64 (b5 : Nat))) (by kernel_rfl) (hY) (fun yH => ?_)
           refine tkY 0 yH (h := ?_)
           refine tkY 1 yH (h := ?_)
           refine tkY 2 yH (h := ?_)
           refine tkY 3 yH (h := ?_)
           refine tkY 5 yH (h := ?_)
           refine tkY 6 yH (h := ?_)
           refine tkY 7 yH (h := ?_)
           refine tkY 8 yH (h := ?_)
           refine wpAnyH_ready (rs := [4]) (by kernel_rfl) (by simp) ?_
           refine AllReadyH.cons (o := ?oozb8) ?hizb8 (fun K hK => ?hczb8) AllReadyH.nil
           case hizb8 => (simp only [List.getElem?_toArray, List.getElem?_cons_zero, List.getElem?_cons_succ]; rfl)
           go_simp
           with_reducible refine CA.out.mono ?_
           rintro e U1 ⟨adA, cpA, rfl, rowA, hk, hf⟩
           have K1 := Lib.hid hk
           have G1 := Lib.hid (GD.out.fr hf hqp.out)
           have RA := Lib.hid rowA
           have hY := DC.out _ G1.out
           clear hk hf rowA
           go_wp2_with fail
           refine hK.out _ _ (hY) (fun yH => ?_)
           clear hK K
           try simp only [Act.put, List.setIfInBounds_toArray, List.set_cons_zero, List.set_cons_succ]
           refine wpAnyH_ready (rs := [9]) (by kernel_rfl) (by simp) ?_
           refine AllReadyH.cons (o := ?oozb9) ?hizb9 (fun K hK => ?hczb9) AllReadyH.nil
           case hizb9 => (simp only [List.getElem?_toArray, List.getElem?_cons_zero, List.getElem?_cons_succ]; rfl)
           go_simp
           with_reducible refine (SM.out _ _ _ _ _ _ _ RA.out G1.out.row).mono ?_
           rintro e U2 ⟨rfl, hf⟩
           have K2 := Lib.hid (K1.out.fr0 hf)
           have G2 := Lib.hid (G1.out.fr0 hf)
           have hY := DC.out _ G2.out
           clear hf
           go_wp2_with fail
           refine hK.out _ _ (hY) (fun yH => ?_)
           clear hK K
           try simp only [Act.put, List.setIfInBounds_toArray, List.set_cons_zero, List.set_cons_succ]
           refine tkY 10 yH (h := ?_)
           refine tkY 11 yH (h := ?_)
           refine tkY 12 yH (h := ?_)
           refine tkY 13 yH (h := ?_)
           refine tkY 15 yH (h := ?_)
           refine wpAnyH_ready (rs := [14]) (by kernel_rfl) (by simp) ?_
           refine AllReadyH.cons (o := ?oozb15) ?hizb15 (fun K hK => ?hczb15) AllReadyH.nil
           case hizb15 => (simp only [List.getElem?_toArray, List.getElem?_cons_zero, List.getElem?_cons_succ]; rfl)
           go_simp
           with_reducible refine (CH.out _ K2.out).mono ?_
           rintro e U3 ⟨rfl, hk, hf⟩
           have K3 := Lib.hid hk
           have G3 := Lib.hid (G2.out.fr hf hqp.out)
           have hY := DC.out _ G3.out
           clear hk hf
           go_wp2_with fail
           refine hK.out _ _ (hY) (fun yH => ?_)
           clear hK K
           try simp only [Act.put, List.setIfInBounds_toArray, List.set_cons_zero, List.set_cons_succ]
           refine wpAnyH_ready (rs := [16]) (by kernel_rfl) (by simp) ?_
           refine AllReadyH.cons (o := ?oozb16) ?hizb16 (fun K hK => ?hczb16) AllReadyH.nil
           case hizb16 => (simp only [List.getElem?_toArray, List.getElem?_cons_zero, List.getElem?_cons_succ]; rfl)
           go_simp
           with_reducible refine (CX.out _ G3.out).mono ?_
           rintro e U4 ⟨rfl, hf⟩
           have K4 := Lib.hid (K3.out.fr0 hf)
           have G4 := Lib.hid (G3.out.fr0 hf)
           have hY := DC.out _ G4.out
           clear hf
           go_wp2_with fail
           refine hK.out _ _ (hY) (fun yH => ?_)
           clear hK K
           try simp only [Act.put, List.setIfInBounds_toArray, List.set_cons_zero, List.set_cons_succ]
           refine tkY 17 yH (h := ?_)
           refine tkY 18 yH (h := ?_)
           refine tkY 19 yH (h := ?_)
           refine tkY 20 yH (h := ?_)
           refine tkY 22 yH (h := ?_)
           refine tkY 23 yH (h := ?_)
           refine tkY 24 yH (h := ?_)
           refine tkY 25 yH (h := ?_)
           refine wpAnyH_ready (rs := [21]) (by kernel_rfl) (by simp) ?_
           refine AllReadyH.cons (o := ?oozb25) ?hizb25 (fun K hK => ?hczb25) AllReadyH.nil
           case hizb25 => (simp only [List.getElem?_toArray, List.getElem?_cons_zero, List.getElem?_cons_succ]; rfl)
           go_simp
           with_reducible refine (CB.out _ K4.out).mono ?_
           rintro e U5 ⟨rfl, hk, hf⟩
           have K5 := Lib.hid hk
           have G5 := Lib.hid (G4.out.fr hf hqp.out)
           have hY := DC.out _ G5.out
           clear hk hf
           go_wp2_with fail
           refine hK.out _ _ (hY) (fun yH => ?_)
           clear hK K
           try simp only [Act.put, List.setIfInBounds_toArray, List.set_cons_zero, List.set_cons_succ]
           refine tkY 26 yH (h := ?_)
           refine tkY 27 yH (h := ?_)
           refine tkY 28 yH (h := ?_)
           refine tkY 29 yH (h := ?_)
           refine tkY 31 yH (h := ?_)
           refine tkY 32 yH (h := ?_)
           refine tkY 33 yH (h := ?_)
           refine tkY 34 yH (h := ?_)
           refine tkY 35 yH (h := ?_)
           refine wpAnyH_ready (rs := [30]) (by kernel_rfl) (by simp) ?_
           refine AllReadyH.cons (o := ?oozb35) ?hizb35 (fun K hK => ?hczb35) AllReadyH.nil
           case hizb35 => (simp only [List.getElem?_toArray, List.getElem?_cons_zero, List.getElem?_cons_succ]; rfl)
           go_simp
           with_reducible refine (CL.out _ K5.out).mono ?_
           rintro e U6 ⟨rfl, hk, hf⟩
           have K6 := Lib.hid hk
           have G6 := Lib.hid (G5.out.fr hf hqp.out)
           have hY := DC.out _ G6.out
           clear hk hf
           go_wp2_with fail
           refine hK.out _ _ (hY) (fun yH => ?_)
           clear hK K
           try simp only [Act.put, List.setIfInBounds_toArray, List.set_cons_zero, List.set_cons_succ]
           refine tkY 36 yH (h := ?_)
           refine tkY 37 yH (h := ?_)
           refine wpAnyH_done (by kernel_rfl) ?_ _
           try simp only [Act.put, List.getElem_toArray, List.getElem_cons_zero, List.getElem_cons_succ, List.setIfInBounds_toArray, List.set_cons_zero, List.set_cons_succ]
           go_wp2_with fail
           go_roundw
           case rel => exact ⟨j + 1, by omega, by go_num, Lib.hid (KF.out _ K6.out)⟩
           case measure => simp [intOf]; omega
      have b2 : (yk == 2) = false := by rw [beq_eq_false_iff_ne]; exact e2
      by_cases e3 : yk = 3
      · skip
        have b3 : (yk == 3) = true := by rw [e3]; rfl
        by_cases hR0 : R = []
        · have hp0 := PK0.out hR0
          have c0 : decide ((0 : Int) < px) = false := by rw [hp0]; rfl
          have c0' : decide (0 < px) = false := by rw [hp0]; rfl
          clear hp0
          go_upto_region 34 with fail
          try clear HL
          try clear HA
          try clear HQ
          try clear HND
          try clear PKM
          try clear PK0
          try clear hgx
          as_aux_lemma =>
           have HE := Lib.hid (show R.length ≤ 1000 from by have := HLJ.out; omega)
           obtain ⟨ad2, cap2, hg2R⟩ := H1.out.r
           obtain ⟨n2, hn2⟩ : ∃ n, (R).length = n := ⟨_, rfl⟩
           have HN2 := Lib.hid hn2
           have hcp2 := hg2R.st
           rw [hn2] at hcp2
           have DC := Lib.hid (fun V (hV : IsG V p ad2 cap2 R b) => And.intro (show V.cell? ⟨p, 0, none⟩ = some (.slice ad2 n2 cap2) from by have := hV.st.cell 0; rw [HN2.out] at this; exact this) (show V.cell? ⟨p, 1, none⟩ = some (.int .i64 (b : Nat)) from hV.st.cell 1))
           have HG := Lib.hid hg2R
           have hqp := Lib.hid H1.out.hq
           have CA := Lib.hid (k_all (H1.out.fr0 (Fr.refl [] _).drew))
           have GD := Lib.hid (hg2R.fr0 (Fr.refl [] _).drew)
           have hY := DC.out _ GD.out
           have SM := Lib.hid (fun V b1 b2 d1 c1 d2 c2 (h1 : RowV V b1 d1 c1 R) (h2 : RowV V b2 d2 c2 R) => (show Calls Tryz.prog 32 #[.slice d1 n2 c1, .slice d2 n2 c2] V fun e w' => e = .returned (.bool true) ∧ Fr [] V w' from by
             have := r14same h1 h2 (by have := HE.out; omega)
             rw [HN2.out] at this
             exact this))
           have DN := Lib.hid (HDONE.out _ _ _ H1.out (by have := HLJ.out; omega))
           clear hg2R hcp2 hn2
           try clear H1
           try clear BY1
           have e1 : (((R).headD 0 : Nat) : Int) = ((R).headD 0 : Nat) := rfl
           have CH := Lib.hid (fun V (hV : K7 w q p [] R b R b V) => k_hand hV)
           have CX := Lib.hid (fun V (hV : IsG V p ad2 cap2 R b) => xhand hV)
           have CB := Lib.hid (fun V (hV : K7 w q p [] R b R b V) => k_broom hV)
           have CL := Lib.hid (fun V (hV : K7 w q p [] R b R b V) => (show Calls Tryz.prog 68 #[.pointer (some ⟨q.m, 0, none⟩)] V fun e w' => e = .returned (.int .i64 n2) ∧ K7 w q p [] R b R b w' ∧ Fr q.blocks V w' from by
             have := k_len hV
             rw [HN2.out] at this
             exact this))
           have KF := Lib.hid (fun V (hV : K7 w q p [] R b R b V) => HDONE.out V _ _ hV (by have := HLJ.out; omega))
           rw [HN2.out] at CA
           generalize (R).headD 0 = hd at *
           have q1 : ((hd : Int) != hd) = false := by simp
           have q2 : (((b : Nat) : Int) != (b : Nat)) = false := by simp
           have q3 : ((n2 : Int) != n2) = false := by simp
           clear e1
           refine wp_region_held_drew (S := fun W => W.cell? ⟨p, 0, none⟩ = some (.slice ad2 n2 cap2) ∧ W.cell? ⟨p, 1, none⟩ = some (.int .i64 (b : Nat))) (by kernel_rfl) (hY) (fun yH => ?_)
           refine tkY 0 yH (h := ?_)
           refine tkY 1 yH (h := ?_)
           refine tkY 2 yH (h := ?_)
           refine tkY 3 yH (h := ?_)
           refine tkY 5 yH (h := ?_)
           refine tkY 6 yH (h := ?_)
           refine tkY 7 yH (h := ?_)
           refine tkY 8 yH (h := ?_)
           refine wpAnyH_ready (rs := [4]) (by kernel_rfl) (by simp) ?_
           refine AllReadyH.cons (o := ?oozc8) ?hizc8 (fun K hK => ?hczc8) AllReadyH.nil
           case hizc8 => (simp only [List.getElem?_toArray, List.getElem?_cons_zero, List.getElem?_cons_succ]; rfl)
           go_simp
           with_reducible refine CA.out.mono ?_
           rintro e U1 ⟨adA, cpA, rfl, rowA, hk, hf⟩
           have K1 := Lib.hid hk
           have G1 := Lib.hid (GD.out.fr hf hqp.out)
           have RA := Lib.hid rowA
           have hY := DC.out _ G1.out
           clear hk hf rowA
           go_wp2_with fail
           refine hK.out _ _ (hY) (fun yH => ?_)
           clear hK K
           try simp only [Act.put, List.setIfInBounds_toArray, List.set_cons_zero, List.set_cons_succ]
           refine wpAnyH_ready (rs := [9]) (by kernel_rfl) (by simp) ?_
           refine AllReadyH.cons (o := ?oozc9) ?hizc9 (fun K hK => ?hczc9) AllReadyH.nil
           case hizc9 => (simp only [List.getElem?_toArray, List.getElem?_cons_zero, List.getElem?_cons_succ]; rfl)
           go_simp
           with_reducible refine (SM.out _ _ _ _ _ _ _ RA.out G1.out.row).mono ?_
           rintro e U2 ⟨rfl, hf⟩
           have K2 := Lib.hid (K1.out.fr0 hf)
           have G2 := Lib.hid (G1.out.fr0 hf)
           have hY := DC.out _ G2.out
           clear hf
           go_wp2_with fail
           refine hK.out _ _ (hY) (fun yH => ?_)
           clear hK K
           try simp only [Act.put, List.setIfInBounds_toArray, List.set_cons_zero, List.set_cons_succ]
           refine tkY 10 yH (h := ?_)
           refine tkY 11 yH (h := ?_)
           refine tkY 12 yH (h := ?_)
           refine tkY 13 yH (h := ?_)
           refine tkY 15 yH (h := ?_)
           refine wpAnyH_ready (rs := [14]) (by kernel_rfl) (by simp) ?_
           refine AllReadyH.cons (o := ?oozc15) ?hizc15 (fun K hK => ?hczc15) AllReadyH.nil
           case hizc15 => (simp only [List.getElem?_toArray, List.getElem?_cons_zero, List.getElem?_cons_succ]; rfl)
           go_simp
           with_reducible refine (CH.out _ K2.out).mono ?_
           rintro e U3 ⟨rfl, hk, hf⟩
           have K3 := Lib.hid hk
           have G3 := Lib.hid (G2.out.fr hf hqp.out)
           have hY := DC.out _ G3.out
           clear hk hf
           go_wp2_with fail
           refine hK.out _ _ (hY) (fun yH => ?_)
           clear hK K
           try simp only [Act.put, List.setIfInBounds_toArray, List.set_cons_zero, List.set_cons_succ]
           refine wpAnyH_ready (rs := [16]) (by kernel_rfl) (by simp) ?_
           refine AllReadyH.cons (o := ?oozc16) ?hizc16 (fun K hK => ?hczc16) AllReadyH.nil
           case hizc16 => (simp only [List.getElem?_toArray, List.getElem?_cons_zero, List.getElem?_cons_succ]; rfl)
           go_simp
           with_reducible refine (CX.out _ G3.out).mono ?_
           rintro e U4 ⟨rfl, hf⟩
           have K4 := Lib.hid (K3.out.fr0 hf)
           have G4 := Lib.hid (G3.out.fr0 hf)
           have hY := DC.out _ G4.out
           clear hf
           go_wp2_with fail
           refine hK.out _ _ (hY) (fun yH => ?_)
           clear hK K
           try simp only [Act.put, List.setIfInBounds_toArray, List.set_cons_zero, List.set_cons_succ]
           refine tkY 17 yH (h := ?_)
           refine tkY 18 yH (h := ?_)
           refine tkY 19 yH (h := ?_)
           refine tkY 20 yH (h := ?_)
           refine tkY 22 yH (h := ?_)
           refine tkY 23 yH (h := ?_)
           refine tkY 24 yH (h := ?_)
           refine tkY 25 yH (h := ?_)
           refine wpAnyH_ready (rs := [21]) (by kernel_rfl) (by simp) ?_
           refine AllReadyH.cons (o := ?oozc25) ?hizc25 (fun K hK => ?hczc25) AllReadyH.nil
           case hizc25 => (simp only [List.getElem?_toArray, List.getElem?_cons_zero, List.getElem?_cons_succ]; rfl)
           go_simp
           with_reducible refine (CB.out _ K4.out).mono ?_
           rintro e U5 ⟨rfl, hk, hf⟩
           have K5 := Lib.hid hk
           have G5 := Lib.hid (G4.out.fr hf hqp.out)
           have hY := DC.out _ G5.out
           clear hk hf
           go_wp2_with fail
           refine hK.out _ _ (hY) (fun yH => ?_)
           clear hK K
           try simp only [Act.put, List.setIfInBounds_toArray, List.set_cons_zero, List.set_cons_succ]
           refine tkY 26 yH (h := ?_)
           refine tkY 27 yH (h := ?_)
           refine tkY 28 yH (h := ?_)
           refine tkY 29 yH (h := ?_)
           refine tkY 31 yH (h := ?_)
           refine tkY 32 yH (h := ?_)
           refine tkY 33 yH (h := ?_)
           refine tkY 34 yH (h := ?_)
           refine tkY 35 yH (h := ?_)
           refine wpAnyH_ready (rs := [30]) (by kernel_rfl) (by simp) ?_
           refine AllReadyH.cons (o := ?oozc35) ?hizc35 (fun K hK => ?hczc35) AllReadyH.nil
           case hizc35 => (simp only [List.getElem?_toArray, List.getElem?_cons_zero, List.getElem?_cons_succ]; rfl)
           go_simp
           with_reducible refine (CL.out _ K5.out).mono ?_
           rintro e U6 ⟨rfl, hk, hf⟩
           have K6 := Lib.hid hk
           have G6 := Lib.hid (G5.out.fr hf hqp.out)
           have hY := DC.out _ G6.out
           clear hk hf
           go_wp2_with fail
           refine hK.out _ _ (hY) (fun yH => ?_)
           clear hK K
           try simp only [Act.put, List.setIfInBounds_toArray, List.set_cons_zero, List.set_cons_succ]
           refine tkY 36 yH (h := ?_)
           refine tkY 37 yH (h := ?_)
           refine wpAnyH_done (by kernel_rfl) ?_ _
           try simp only [Act.put, List.getElem_toArray, List.getElem_cons_zero, List.getElem_cons_succ, List.setIfInBounds_toArray, List.set_cons_zero, List.set_cons_succ]
           go_wp2_with fail
           go_roundw
           case rel => exact ⟨j + 1, by omega, by go_num, Lib.hid (KF.out _ K6.out)⟩
           case measure => simp [intOf]; omega
        · have hpm := PKM.out hR0
          have hpos := (H1.out.pos hpm).1
          have c0 : decide ((0 : Int) < px) = true := by simp only [decide_eq_true_eq]; omega
          have c0' : decide (0 < px) = true := by simp only [decide_eq_true_eq]; omega
          obtain ⟨A, B', hAB⟩ := List.append_of_mem hpm
          have hnd := HND.out
          have hlen := HLEN.out
          rw [hAB] at hnd hlen
          have hmid := nd_mid hnd
          have hsame := H1.out
          rw [hAB] at hsame
          have c1 := Lib.hid (k_rem hsame)
          have hl2 := Lib.hid (show (A ++ B').length ≤ j from by
            have := HLJ.out
            rw [hAB, List.length_append, List.length_cons] at this
            rw [List.length_append]; omega)
          have HMID := Lib.hid hmid
          have HND2 := Lib.hid hnd
          have HLEN2 := Lib.hid hlen
          clear hAB hnd hlen hmid hsame hpm hpos hR0
          go_wp2_with fail
          with_reducible refine c1.out.mono ?_
          rintro e W2 ⟨rfl, h2, f2⟩
          have c2 := Lib.hid (k_xrem h2 HND2.out HLEN2.out)
          have BY2 := Lib.hid (BY1.out.fr f2 hgyq.out)
          clear h2 f2 c1
          go_wp2_with fail
          with_reducible refine c2.out.mono ?_
          rintro e W3 ⟨rfl, h3, f3⟩
          have c3 := Lib.hid (k_remNo h3 HMID.out.2)
          clear h3 f3 c2
          go_wp2_with fail
          with_reducible refine c3.out.mono ?_
          rintro e W4 ⟨rfl, h4, f4⟩
          have c4 := Lib.hid (k_give h4 HMID.out.2)
          clear h4 f4 c3
          go_wp2_with fail
          with_reducible refine c4.out.mono ?_
          rintro e W5 ⟨rfl, h5, f5⟩
          have H5 := Lib.hid h5
          clear h5 f5 c4 BY2
          have hlj2 := hl2.out
          generalize A ++ B' = R5 at *
          generalize remB A B' b px = b5 at *
          go_upto_region 34 with fail
          try clear HL
          try clear HA
          try clear HQ
          try clear HND
          try clear PKM
          try clear PK0
          try clear hgx
          as_aux_lemma =>
           have HE := Lib.hid (show R5.length ≤ 1000 from by have := HLJ.out; have := hl2.out; omega)
           obtain ⟨ad2, cap2, hg2R⟩ := H5.out.r
           obtain ⟨n2, hn2⟩ : ∃ n, (R5).length = n := ⟨_, rfl⟩
           have HN2 := Lib.hid hn2
           have hcp2 := hg2R.st
           rw [hn2] at hcp2
           have DC := Lib.hid (fun V (hV : IsG V p ad2 cap2 R5 b5) => And.intro (show V.cell? ⟨p, 0, none⟩ = some (.slice ad2 n2 cap2) from by have := hV.st.cell 0; rw [HN2.out] at this; exact this) (show V.cell? ⟨p, 1, none⟩ = some (.int .i64 (b5 : Nat)) from hV.st.cell 1))
           have HG := Lib.hid hg2R
           have hqp := Lib.hid H5.out.hq
           have CA := Lib.hid (k_all (H5.out.fr0 (Fr.refl [] _).drew))
           have GD := Lib.hid (hg2R.fr0 (Fr.refl [] _).drew)
           have hY := DC.out _ GD.out
           have SM := Lib.hid (fun V b1 b2 d1 c1 d2 c2 (h1 : RowV V b1 d1 c1 R5) (h2 : RowV V b2 d2 c2 R5) => (show Calls Tryz.prog 32 #[.slice d1 n2 c1, .slice d2 n2 c2] V fun e w' => e = .returned (.bool true) ∧ Fr [] V w' from by
             have := r14same h1 h2 (by have := HE.out; omega)
             rw [HN2.out] at this
             exact this))
           have DN := Lib.hid (HDONE.out _ _ _ H5.out (by have := HLJ.out; have := hl2.out; omega))
           clear hg2R hcp2 hn2
           try clear H1
           try clear BY1
           have e1 : (((R5).headD 0 : Nat) : Int) = ((R5).headD 0 : Nat) := rfl
           have CH := Lib.hid (fun V (hV : K7 w q p [] R5 b5 R5 b5 V) => k_hand hV)
           have CX := Lib.hid (fun V (hV : IsG V p ad2 cap2 R5 b5) => xhand hV)
           have CB := Lib.hid (fun V (hV : K7 w q p [] R5 b5 R5 b5 V) => k_broom hV)
           have CL := Lib.hid (fun V (hV : K7 w q p [] R5 b5 R5 b5 V) => (show Calls Tryz.prog 68 #[.pointer (some ⟨q.m, 0, none⟩)] V fun e w' => e = .returned (.int .i64 n2) ∧ K7 w q p [] R5 b5 R5 b5 w' ∧ Fr q.blocks V w' from by
             have := k_len hV
             rw [HN2.out] at this
             exact this))
           have KF := Lib.hid (fun V (hV : K7 w q p [] R5 b5 R5 b5 V) => HDONE.out V _ _ hV (by have := HLJ.out; have := hl2.out; omega))
           rw [HN2.out] at CA
           generalize (R5).headD 0 = hd at *
           have q1 : ((hd : Int) != hd) = false := by simp
           have q2 : (((b5 : Nat) : Int) != (b5 : Nat)) = false := by simp
           have q3 : ((n2 : Int) != n2) = false := by simp
           clear e1
           refine wp_region_held_drew (S := fun W => W.cell? ⟨p, 0, none⟩ = some (.slice ad2 n2 cap2) ∧ W.cell? ⟨p, 1, none⟩ = some (.int .i64 (b5 : Nat))) (by kernel_rfl) (hY) (fun yH => ?_)
           refine tkY 0 yH (h := ?_)
           refine tkY 1 yH (h := ?_)
           refine tkY 2 yH (h := ?_)
           refine tkY 3 yH (h := ?_)
           refine tkY 5 yH (h := ?_)
           refine tkY 6 yH (h := ?_)
           refine tkY 7 yH (h := ?_)
           refine tkY 8 yH (h := ?_)
           refine wpAnyH_ready (rs := [4]) (by kernel_rfl) (by simp) ?_
           refine AllReadyH.cons (o := ?oozd8) ?hizd8 (fun K hK => ?hczd8) AllReadyH.nil
           case hizd8 => (simp only [List.getElem?_toArray, List.getElem?_cons_zero, List.getElem?_cons_succ]; rfl)
           go_simp
           with_reducible refine CA.out.mono ?_
           rintro e U1 ⟨adA, cpA, rfl, rowA, hk, hf⟩
           have K1 := Lib.hid hk
           have G1 := Lib.hid (GD.out.fr hf hqp.out)
           have RA := Lib.hid rowA
           have hY := DC.out _ G1.out
           clear hk hf rowA
           go_wp2_with fail
           refine hK.out _ _ (hY) (fun yH => ?_)
           clear hK K
           try simp only [Act.put, List.setIfInBounds_toArray, List.set_cons_zero, List.set_cons_succ]
           refine wpAnyH_ready (rs := [9]) (by kernel_rfl) (by simp) ?_
           refine AllReadyH.cons (o := ?oozd9) ?hizd9 (fun K hK => ?hczd9) AllReadyH.nil
           case hizd9 => (simp only [List.getElem?_toArray, List.getElem?_cons_zero, List.getElem?_cons_succ]; rfl)
           go_simp
           with_reducible refine (SM.out _ _ _ _ _ _ _ RA.out G1.out.row).mono ?_
           rintro e U2 ⟨rfl, hf⟩
           have K2 := Lib.hid (K1.out.fr0 hf)
           have G2 := Lib.hid (G1.out.fr0 hf)
           have hY := DC.out _ G2.out
           clear hf
           go_wp2_with fail
           refine hK.out _ _ (hY) (fun yH => ?_)
           clear hK K
           try simp only [Act.put, List.setIfInBounds_toArray, List.set_cons_zero, List.set_cons_succ]
           refine tkY 10 yH (h := ?_)
           refine tkY 11 yH (h := ?_)
           refine tkY 12 yH (h := ?_)
           refine tkY 13 yH (h := ?_)
           refine tkY 15 yH (h := ?_)
           refine wpAnyH_ready (rs := [14]) (by kernel_rfl) (by simp) ?_
           refine AllReadyH.cons (o := ?oozd15) ?hizd15 (fun K hK => ?hczd15) AllReadyH.nil
           case hizd15 => (simp only [List.getElem?_toArray, List.getElem?_cons_zero, List.getElem?_cons_succ]; rfl)
           go_simp
           with_reducible refine (CH.out _ K2.out).mono ?_
           rintro e U3 ⟨rfl, hk, hf⟩
           have K3 := Lib.hid hk
           have G3 := Lib.hid (G2.out.fr hf hqp.out)
           have hY := DC.out _ G3.out
           clear hk hf
           go_wp2_with fail
           refine hK.out _ _ (hY) (fun yH => ?_)
           clear hK K
           try simp only [Act.put, List.setIfInBounds_toArray, List.set_cons_zero, List.set_cons_succ]
           refine wpAnyH_ready (rs := [16]) (by kernel_rfl) (by simp) ?_
           refine AllReadyH.cons (o := ?oozd16) ?hizd16 (fun K hK => ?hczd16) AllReadyH.nil
           case hizd16 => (simp only [List.getElem?_toArray, List.getElem?_cons_zero, List.getElem?_cons_succ]; rfl)
           go_simp
           with_reducible refine (CX.out _ G3.out).mono ?_
           rintro e U4 ⟨rfl, hf⟩
           have K4 := Lib.hid (K3.out.fr0 hf)
           have G4 := Lib.hid (G3.out.fr0 hf)
           have hY := DC.out _ G4.out
           clear hf
           go_wp2_with fail
           refine hK.out _ _ (hY) (fun yH => ?_)
           clear hK K
           try simp only [Act.put, List.setIfInBounds_toArray, List.set_cons_zero, List.set_cons_succ]
           refine tkY 17 yH (h := ?_)
           refine tkY 18 yH (h := ?_)
           refine tkY 19 yH (h := ?_)
           refine tkY 20 yH (h := ?_)
           refine tkY 22 yH (h := ?_)
           refine tkY 23 yH (h := ?_)
           refine tkY 24 yH (h := ?_)
           refine tkY 25 yH (h := ?_)
           refine wpAnyH_ready (rs := [21]) (by kernel_rfl) (by simp) ?_
           refine AllReadyH.cons (o := ?oozd25) ?hizd25 (fun K hK => ?hczd25) AllReadyH.nil
           case hizd25 => (simp only [List.getElem?_toArray, List.getElem?_cons_zero, List.getElem?_cons_succ]; rfl)
           go_simp
           with_reducible refine (CB.out _ K4.out).mono ?_
           rintro e U5 ⟨rfl, hk, hf⟩
           have K5 := Lib.hid hk
           have G5 := Lib.hid (G4.out.fr hf hqp.out)
           have hY := DC.out _ G5.out
           clear hk hf
           go_wp2_with fail
           refine hK.out _ _ (hY) (fun yH => ?_)
           clear hK K
           try simp only [Act.put, List.setIfInBounds_toArray, List.set_cons_zero, List.set_cons_succ]
           refine tkY 26 yH (h := ?_)
           refine tkY 27 yH (h := ?_)
           refine tkY 28 yH (h := ?_)
           refine tkY 29 yH (h := ?_)
           refine tkY 31 yH (h := ?_)
           refine tkY 32 yH (h := ?_)
           refine tkY 33 yH (h := ?_)
           refine tkY 34 yH (h := ?_)
           refine tkY 35 yH (h := ?_)
           refine wpAnyH_ready (rs := [30]) (by kernel_rfl) (by simp) ?_
           refine AllReadyH.cons (o := ?oozd35) ?hizd35 (fun K hK => ?hczd35) AllReadyH.nil
           case hizd35 => (simp only [List.getElem?_toArray, List.getElem?_cons_zero, List.getElem?_cons_succ]; rfl)
           go_simp
           with_reducible refine (CL.out _ K5.out).mono ?_
           rintro e U6 ⟨rfl, hk, hf⟩
           have K6 := Lib.hid hk
           have G6 := Lib.hid (G5.out.fr hf hqp.out)
           have hY := DC.out _ G6.out
           clear hk hf
           go_wp2_with fail
           refine hK.out _ _ (hY) (fun yH => ?_)
           clear hK K
           try simp only [Act.put, List.setIfInBounds_toArray, List.set_cons_zero, List.set_cons_succ]
           refine tkY 36 yH (h := ?_)
           refine tkY 37 yH (h := ?_)
           refine wpAnyH_done (by kernel_rfl) ?_ _
           try simp only [Act.put, List.getElem_toArray, List.getElem_cons_zero, List.getElem_cons_succ, List.setIfInBounds_toArray, List.set_cons_zero, List.set_cons_succ]
           go_wp2_with fail
           go_roundw
           case rel => exact ⟨j + 1, by omega, by go_num, Lib.hid (KF.out _ K6.out)⟩
           case measure => simp [intOf]; omega
      have b3 : (yk == 3) = false := by rw [beq_eq_false_iff_ne]; exact e3
      by_cases e4 : yk = 4
      · skip
        have b4 : (yk == 4) = true := by rw [e4]; rfl
        cases R with
        | nil =>
          have c1 := Lib.hid (k_turn0 H1.out)
          go_wp2_with fail
          with_reducible refine c1.out.mono ?_
          rintro e W2 ⟨rfl, h2, f2⟩
          have c2 := Lib.hid (k_xturn0 h2)
          clear h2 f2 c1
          go_wp2_with fail
          with_reducible refine c2.out.mono ?_
          rintro e W3 ⟨rfl, h3, f3⟩
          obtain ⟨R5, hR5⟩ : ∃ R5 : List Nat, R5 = [] := ⟨_, rfl⟩
          have H3 := Lib.hid (show K7 w q p [] R5 b R5 b W3 from by rw [hR5]; exact h3)
          have hl2 := Lib.hid (show R5.length ≤ j from by rw [hR5]; exact Nat.zero_le _)
          clear h3 f3 c2 hR5
          go_upto_region 34 with fail
          try clear HL
          try clear HA
          try clear HQ
          try clear HND
          try clear PKM
          try clear PK0
          try clear hgx
          as_aux_lemma =>
           have HE := Lib.hid (show R5.length ≤ 1000 from by have := HLJ.out; have := hl2.out; omega)
           obtain ⟨ad2, cap2, hg2R⟩ := H3.out.r
           obtain ⟨n2, hn2⟩ : ∃ n, (R5).length = n := ⟨_, rfl⟩
           have HN2 := Lib.hid hn2
           have hcp2 := hg2R.st
           rw [hn2] at hcp2
           have DC := Lib.hid (fun V (hV : IsG V p ad2 cap2 R5 b) => And.intro (show V.cell? ⟨p, 0, none⟩ = some (.slice ad2 n2 cap2) from by have := hV.st.cell 0; rw [HN2.out] at this; exact this) (show V.cell? ⟨p, 1, none⟩ = some (.int .i64 (b : Nat)) from hV.st.cell 1))
           have HG := Lib.hid hg2R
           have hqp := Lib.hid H3.out.hq
           have CA := Lib.hid (k_all (H3.out.fr0 (Fr.refl [] _).drew))
           have GD := Lib.hid (hg2R.fr0 (Fr.refl [] _).drew)
           have hY := DC.out _ GD.out
           have SM := Lib.hid (fun V b1 b2 d1 c1 d2 c2 (h1 : RowV V b1 d1 c1 R5) (h2 : RowV V b2 d2 c2 R5) => (show Calls Tryz.prog 32 #[.slice d1 n2 c1, .slice d2 n2 c2] V fun e w' => e = .returned (.bool true) ∧ Fr [] V w' from by
             have := r14same h1 h2 (by have := HE.out; omega)
             rw [HN2.out] at this
             exact this))
           have DN := Lib.hid (HDONE.out _ _ _ H3.out (by have := HLJ.out; have := hl2.out; omega))
           clear hg2R hcp2 hn2
           try clear H1
           try clear BY1
           have e1 : (((R5).headD 0 : Nat) : Int) = ((R5).headD 0 : Nat) := rfl
           have CH := Lib.hid (fun V (hV : K7 w q p [] R5 b R5 b V) => k_hand hV)
           have CX := Lib.hid (fun V (hV : IsG V p ad2 cap2 R5 b) => xhand hV)
           have CB := Lib.hid (fun V (hV : K7 w q p [] R5 b R5 b V) => k_broom hV)
           have CL := Lib.hid (fun V (hV : K7 w q p [] R5 b R5 b V) => (show Calls Tryz.prog 68 #[.pointer (some ⟨q.m, 0, none⟩)] V fun e w' => e = .returned (.int .i64 n2) ∧ K7 w q p [] R5 b R5 b w' ∧ Fr q.blocks V w' from by
             have := k_len hV
             rw [HN2.out] at this
             exact this))
           have KF := Lib.hid (fun V (hV : K7 w q p [] R5 b R5 b V) => HDONE.out V _ _ hV (by have := HLJ.out; have := hl2.out; omega))
           rw [HN2.out] at CA
           generalize (R5).headD 0 = hd at *
           have q1 : ((hd : Int) != hd) = false := by simp
           have q2 : (((b : Nat) : Int) != (b : Nat)) = false := by simp
           have q3 : ((n2 : Int) != n2) = false := by simp
           clear e1
           refine wp_region_held_drew (S := fun W => W.cell? ⟨p, 0, none⟩ = some (.slice ad2 n2 cap2) ∧ W.cell? ⟨p, 1, none⟩ = some (.int .i64 (b : Nat))) (by kernel_rfl) (hY) (fun yH => ?_)
           refine tkY 0 yH (h := ?_)
           refine tkY 1 yH (h := ?_)
           refine tkY 2 yH (h := ?_)
           refine tkY 3 yH (h := ?_)
           refine tkY 5 yH (h := ?_)
           refine tkY 6 yH (h := ?_)
           refine tkY 7 yH (h := ?_)
           refine tkY 8 yH (h := ?_)
           refine wpAnyH_ready (rs := [4]) (by kernel_rfl) (by simp) ?_
           refine AllReadyH.cons (o := ?ooze8) ?hize8 (fun K hK => ?hcze8) AllReadyH.nil
           case hize8 => (simp only [List.getElem?_toArray, List.getElem?_cons_zero, List.getElem?_cons_succ]; rfl)
           go_simp
           with_reducible refine CA.out.mono ?_
           rintro e U1 ⟨adA, cpA, rfl, rowA, hk, hf⟩
           have K1 := Lib.hid hk
           have G1 := Lib.hid (GD.out.fr hf hqp.out)
           have RA := Lib.hid rowA
           have hY := DC.out _ G1.out
           clear hk hf rowA
           go_wp2_with fail
           refine hK.out _ _ (hY) (fun yH => ?_)
           clear hK K
           try simp only [Act.put, List.setIfInBounds_toArray, List.set_cons_zero, List.set_cons_succ]
           refine wpAnyH_ready (rs := [9]) (by kernel_rfl) (by simp) ?_
           refine AllReadyH.cons (o := ?ooze9) ?hize9 (fun K hK => ?hcze9) AllReadyH.nil
           case hize9 => (simp only [List.getElem?_toArray, List.getElem?_cons_zero, List.getElem?_cons_succ]; rfl)
           go_simp
           with_reducible refine (SM.out _ _ _ _ _ _ _ RA.out G1.out.row).mono ?_
           rintro e U2 ⟨rfl, hf⟩
           have K2 := Lib.hid (K1.out.fr0 hf)
           have G2 := Lib.hid (G1.out.fr0 hf)
           have hY := DC.out _ G2.out
           clear hf
           go_wp2_with fail
           refine hK.out _ _ (hY) (fun yH => ?_)
           clear hK K
           try simp only [Act.put, List.setIfInBounds_toArray, List.set_cons_zero, List.set_cons_succ]
           refine tkY 10 yH (h := ?_)
           refine tkY 11 yH (h := ?_)
           refine tkY 12 yH (h := ?_)
           refine tkY 13 yH (h := ?_)
           refine tkY 15 yH (h := ?_)
           refine wpAnyH_ready (rs := [14]) (by kernel_rfl) (by simp) ?_
           refine AllReadyH.cons (o := ?ooze15) ?hize15 (fun K hK => ?hcze15) AllReadyH.nil
           case hize15 => (simp only [List.getElem?_toArray, List.getElem?_cons_zero, List.getElem?_cons_succ]; rfl)
           go_simp
           with_reducible refine (CH.out _ K2.out).mono ?_
           rintro e U3 ⟨rfl, hk, hf⟩
           have K3 := Lib.hid hk
           have G3 := Lib.hid (G2.out.fr hf hqp.out)
           have hY := DC.out _ G3.out
           clear hk hf
           go_wp2_with fail
           refine hK.out _ _ (hY) (fun yH => ?_)
           clear hK K
           try simp only [Act.put, List.setIfInBounds_toArray, List.set_cons_zero, List.set_cons_succ]
           refine wpAnyH_ready (rs := [16]) (by kernel_rfl) (by simp) ?_
           refine AllReadyH.cons (o := ?ooze16) ?hize16 (fun K hK => ?hcze16) AllReadyH.nil
           case hize16 => (simp only [List.getElem?_toArray, List.getElem?_cons_zero, List.getElem?_cons_succ]; rfl)
           go_simp
           with_reducible refine (CX.out _ G3.out).mono ?_
           rintro e U4 ⟨rfl, hf⟩
           have K4 := Lib.hid (K3.out.fr0 hf)
           have G4 := Lib.hid (G3.out.fr0 hf)
           have hY := DC.out _ G4.out
           clear hf
           go_wp2_with fail
           refine hK.out _ _ (hY) (fun yH => ?_)
           clear hK K
           try simp only [Act.put, List.setIfInBounds_toArray, List.set_cons_zero, List.set_cons_succ]
           refine tkY 17 yH (h := ?_)
           refine tkY 18 yH (h := ?_)
           refine tkY 19 yH (h := ?_)
           refine tkY 20 yH (h := ?_)
           refine tkY 22 yH (h := ?_)
           refine tkY 23 yH (h := ?_)
           refine tkY 24 yH (h := ?_)
           refine tkY 25 yH (h := ?_)
           refine wpAnyH_ready (rs := [21]) (by kernel_rfl) (by simp) ?_
           refine AllReadyH.cons (o := ?ooze25) ?hize25 (fun K hK => ?hcze25) AllReadyH.nil
           case hize25 => (simp only [List.getElem?_toArray, List.getElem?_cons_zero, List.getElem?_cons_succ]; rfl)
           go_simp
           with_reducible refine (CB.out _ K4.out).mono ?_
           rintro e U5 ⟨rfl, hk, hf⟩
           have K5 := Lib.hid hk
           have G5 := Lib.hid (G4.out.fr hf hqp.out)
           have hY := DC.out _ G5.out
           clear hk hf
           go_wp2_with fail
           refine hK.out _ _ (hY) (fun yH => ?_)
           clear hK K
           try simp only [Act.put, List.setIfInBounds_toArray, List.set_cons_zero, List.set_cons_succ]
           refine tkY 26 yH (h := ?_)
           refine tkY 27 yH (h := ?_)
           refine tkY 28 yH (h := ?_)
           refine tkY 29 yH (h := ?_)
           refine tkY 31 yH (h := ?_)
           refine tkY 32 yH (h := ?_)
           refine tkY 33 yH (h := ?_)
           refine tkY 34 yH (h := ?_)
           refine tkY 35 yH (h := ?_)
           refine wpAnyH_ready (rs := [30]) (by kernel_rfl) (by simp) ?_
           refine AllReadyH.cons (o := ?ooze35) ?hize35 (fun K hK => ?hcze35) AllReadyH.nil
           case hize35 => (simp only [List.getElem?_toArray, List.getElem?_cons_zero, List.getElem?_cons_succ]; rfl)
           go_simp
           with_reducible refine (CL.out _ K5.out).mono ?_
           rintro e U6 ⟨rfl, hk, hf⟩
           have K6 := Lib.hid hk
           have G6 := Lib.hid (G5.out.fr hf hqp.out)
           have hY := DC.out _ G6.out
           clear hk hf
           go_wp2_with fail
           refine hK.out _ _ (hY) (fun yH => ?_)
           clear hK K
           try simp only [Act.put, List.setIfInBounds_toArray, List.set_cons_zero, List.set_cons_succ]
           refine tkY 36 yH (h := ?_)
           refine tkY 37 yH (h := ?_)
           refine wpAnyH_done (by kernel_rfl) ?_ _
           try simp only [Act.put, List.getElem_toArray, List.getElem_cons_zero, List.getElem_cons_succ, List.setIfInBounds_toArray, List.set_cons_zero, List.set_cons_succ]
           go_wp2_with fail
           go_roundw
           case rel => exact ⟨j + 1, by omega, by go_num, Lib.hid (KF.out _ K6.out)⟩
           case measure => simp [intOf]; omega
        | cons t T =>
          have c1 := Lib.hid (k_turn1 H1.out)
          have et : ((t : Int) == t) = true := by simp
          have hl2 := Lib.hid (show (T ++ [t]).length ≤ j from by
            have := HLJ.out
            rw [List.length_cons] at this
            rw [List.length_append, List.length_singleton]; omega)
          go_wp2_with fail
          with_reducible refine c1.out.mono ?_
          rintro e W2 ⟨rfl, h2, f2⟩
          have c2 := Lib.hid (k_xturn1 h2 HLEN.out)
          clear h2 f2 c1
          go_wp2_with fail
          with_reducible refine c2.out.mono ?_
          rintro e W3 ⟨rfl, h3, f3⟩
          have H3 := Lib.hid h3
          clear h3 f3 c2 H1 PKM PK0
          generalize T ++ [t] = R5 at *
          go_upto_region 34 with fail
          try clear HL
          try clear HA
          try clear HQ
          try clear HND
          try clear PKM
          try clear PK0
          try clear hgx
          as_aux_lemma =>
           have HE := Lib.hid (show R5.length ≤ 1000 from by have := HLJ.out; have := hl2.out; omega)
           obtain ⟨ad2, cap2, hg2R⟩ := H3.out.r
           obtain ⟨n2, hn2⟩ : ∃ n, (R5).length = n := ⟨_, rfl⟩
           have HN2 := Lib.hid hn2
           have hcp2 := hg2R.st
           rw [hn2] at hcp2
           have DC := Lib.hid (fun V (hV : IsG V p ad2 cap2 R5 b) => And.intro (show V.cell? ⟨p, 0, none⟩ = some (.slice ad2 n2 cap2) from by have := hV.st.cell 0; rw [HN2.out] at this; exact this) (show V.cell? ⟨p, 1, none⟩ = some (.int .i64 (b : Nat)) from hV.st.cell 1))
           have HG := Lib.hid hg2R
           have hqp := Lib.hid H3.out.hq
           have CA := Lib.hid (k_all (H3.out.fr0 (Fr.refl [] _).drew))
           have GD := Lib.hid (hg2R.fr0 (Fr.refl [] _).drew)
           have hY := DC.out _ GD.out
           have SM := Lib.hid (fun V b1 b2 d1 c1 d2 c2 (h1 : RowV V b1 d1 c1 R5) (h2 : RowV V b2 d2 c2 R5) => (show Calls Tryz.prog 32 #[.slice d1 n2 c1, .slice d2 n2 c2] V fun e w' => e = .returned (.bool true) ∧ Fr [] V w' from by
             have := r14same h1 h2 (by have := HE.out; omega)
             rw [HN2.out] at this
             exact this))
           have DN := Lib.hid (HDONE.out _ _ _ H3.out (by have := HLJ.out; have := hl2.out; omega))
           clear hg2R hcp2 hn2
           try clear H1
           try clear BY1
           have e1 : (((R5).headD 0 : Nat) : Int) = ((R5).headD 0 : Nat) := rfl
           have CH := Lib.hid (fun V (hV : K7 w q p [] R5 b R5 b V) => k_hand hV)
           have CX := Lib.hid (fun V (hV : IsG V p ad2 cap2 R5 b) => xhand hV)
           have CB := Lib.hid (fun V (hV : K7 w q p [] R5 b R5 b V) => k_broom hV)
           have CL := Lib.hid (fun V (hV : K7 w q p [] R5 b R5 b V) => (show Calls Tryz.prog 68 #[.pointer (some ⟨q.m, 0, none⟩)] V fun e w' => e = .returned (.int .i64 n2) ∧ K7 w q p [] R5 b R5 b w' ∧ Fr q.blocks V w' from by
             have := k_len hV
             rw [HN2.out] at this
             exact this))
           have KF := Lib.hid (fun V (hV : K7 w q p [] R5 b R5 b V) => HDONE.out V _ _ hV (by have := HLJ.out; have := hl2.out; omega))
           rw [HN2.out] at CA
           generalize (R5).headD 0 = hd at *
           have q1 : ((hd : Int) != hd) = false := by simp
           have q2 : (((b : Nat) : Int) != (b : Nat)) = false := by simp
           have q3 : ((n2 : Int) != n2) = false := by simp
           clear e1
           refine wp_region_held_drew (S := fun W => W.cell? ⟨p, 0, none⟩ = some (.slice ad2 n2 cap2) ∧ W.cell? ⟨p, 1, none⟩ = some (.int .i64 (b : Nat))) (by kernel_rfl) (hY) (fun yH => ?_)
           refine tkY 0 yH (h := ?_)
           refine tkY 1 yH (h := ?_)
           refine tkY 2 yH (h := ?_)
           refine tkY 3 yH (h := ?_)
           refine tkY 5 yH (h := ?_)
           refine tkY 6 yH (h := ?_)
           refine tkY 7 yH (h := ?_)
           refine tkY 8 yH (h := ?_)
           refine wpAnyH_ready (rs := [4]) (by kernel_rfl) (by simp) ?_
           refine AllReadyH.cons (o := ?oozf8) ?hizf8 (fun K hK => ?hczf8) AllReadyH.nil
           case hizf8 => (simp only [List.getElem?_toArray, List.getElem?_cons_zero, List.getElem?_cons_succ]; rfl)
           go_simp
           with_reducible refine CA.out.mono ?_
           rintro e U1 ⟨adA, cpA, rfl, rowA, hk, hf⟩
           have K1 := Lib.hid hk
           have G1 := Lib.hid (GD.out.fr hf hqp.out)
           have RA := Lib.hid rowA
           have hY := DC.out _ G1.out
           clear hk hf rowA
           go_wp2_with fail
           refine hK.out _ _ (hY) (fun yH => ?_)
           clear hK K
           try simp only [Act.put, List.setIfInBounds_toArray, List.set_cons_zero, List.set_cons_succ]
           refine wpAnyH_ready (rs := [9]) (by kernel_rfl) (by simp) ?_
           refine AllReadyH.cons (o := ?oozf9) ?hizf9 (fun K hK => ?hczf9) AllReadyH.nil
           case hizf9 => (simp only [List.getElem?_toArray, List.getElem?_cons_zero, List.getElem?_cons_succ]; rfl)
           go_simp
           with_reducible refine (SM.out _ _ _ _ _ _ _ RA.out G1.out.row).mono ?_
           rintro e U2 ⟨rfl, hf⟩
           have K2 := Lib.hid (K1.out.fr0 hf)
           have G2 := Lib.hid (G1.out.fr0 hf)
           have hY := DC.out _ G2.out
           clear hf
           go_wp2_with fail
           refine hK.out _ _ (hY) (fun yH => ?_)
           clear hK K
           try simp only [Act.put, List.setIfInBounds_toArray, List.set_cons_zero, List.set_cons_succ]
           refine tkY 10 yH (h := ?_)
           refine tkY 11 yH (h := ?_)
           refine tkY 12 yH (h := ?_)
           refine tkY 13 yH (h := ?_)
           refine tkY 15 yH (h := ?_)
           refine wpAnyH_ready (rs := [14]) (by kernel_rfl) (by simp) ?_
           refine AllReadyH.cons (o := ?oozf15) ?hizf15 (fun K hK => ?hczf15) AllReadyH.nil
           case hizf15 => (simp only [List.getElem?_toArray, List.getElem?_cons_zero, List.getElem?_cons_succ]; rfl)
           go_simp
           with_reducible refine (CH.out _ K2.out).mono ?_
           rintro e U3 ⟨rfl, hk, hf⟩
           have K3 := Lib.hid hk
           have G3 := Lib.hid (G2.out.fr hf hqp.out)
           have hY := DC.out _ G3.out
           clear hk hf
           go_wp2_with fail
           refine hK.out _ _ (hY) (fun yH => ?_)
           clear hK K
           try simp only [Act.put, List.setIfInBounds_toArray, List.set_cons_zero, List.set_cons_succ]
           refine wpAnyH_ready (rs := [16]) (by kernel_rfl) (by simp) ?_
           refine AllReadyH.cons (o := ?oozf16) ?hizf16 (fun K hK => ?hczf16) AllReadyH.nil
           case hizf16 => (simp only [List.getElem?_toArray, List.getElem?_cons_zero, List.getElem?_cons_succ]; rfl)
           go_simp
           with_reducible refine (CX.out _ G3.out).mono ?_
           rintro e U4 ⟨rfl, hf⟩
           have K4 := Lib.hid (K3.out.fr0 hf)
           have G4 := Lib.hid (G3.out.fr0 hf)
           have hY := DC.out _ G4.out
           clear hf
           go_wp2_with fail
           refine hK.out _ _ (hY) (fun yH => ?_)
           clear hK K
           try simp only [Act.put, List.setIfInBounds_toArray, List.set_cons_zero, List.set_cons_succ]
           refine tkY 17 yH (h := ?_)
           refine tkY 18 yH (h := ?_)
           refine tkY 19 yH (h := ?_)
           refine tkY 20 yH (h := ?_)
           refine tkY 22 yH (h := ?_)
           refine tkY 23 yH (h := ?_)
           refine tkY 24 yH (h := ?_)
           refine tkY 25 yH (h := ?_)
           refine wpAnyH_ready (rs := [21]) (by kernel_rfl) (by simp) ?_
           refine AllReadyH.cons (o := ?oozf25) ?hizf25 (fun K hK => ?hczf25) AllReadyH.nil
           case hizf25 => (simp only [List.getElem?_toArray, List.getElem?_cons_zero, List.getElem?_cons_succ]; rfl)
           go_simp
           with_reducible refine (CB.out _ K4.out).mono ?_
           rintro e U5 ⟨rfl, hk, hf⟩
           have K5 := Lib.hid hk
           have G5 := Lib.hid (G4.out.fr hf hqp.out)
           have hY := DC.out _ G5.out
           clear hk hf
           go_wp2_with fail
           refine hK.out _ _ (hY) (fun yH => ?_)
           clear hK K
           try simp only [Act.put, List.setIfInBounds_toArray, List.set_cons_zero, List.set_cons_succ]
           refine tkY 26 yH (h := ?_)
           refine tkY 27 yH (h := ?_)
           refine tkY 28 yH (h := ?_)
           refine tkY 29 yH (h := ?_)
           refine tkY 31 yH (h := ?_)
           refine tkY 32 yH (h := ?_)
           refine tkY 33 yH (h := ?_)
           refine tkY 34 yH (h := ?_)
           refine tkY 35 yH (h := ?_)
           refine wpAnyH_ready (rs := [30]) (by kernel_rfl) (by simp) ?_
           refine AllReadyH.cons (o := ?oozf35) ?hizf35 (fun K hK => ?hczf35) AllReadyH.nil
           case hizf35 => (simp only [List.getElem?_toArray, List.getElem?_cons_zero, List.getElem?_cons_succ]; rfl)
           go_simp
           with_reducible refine (CL.out _ K5.out).mono ?_
           rintro e U6 ⟨rfl, hk, hf⟩
           have K6 := Lib.hid hk
           have G6 := Lib.hid (G5.out.fr hf hqp.out)
           have hY := DC.out _ G6.out
           clear hk hf
           go_wp2_with fail
           refine hK.out _ _ (hY) (fun yH => ?_)
           clear hK K
           try simp only [Act.put, List.setIfInBounds_toArray, List.set_cons_zero, List.set_cons_succ]
           refine tkY 36 yH (h := ?_)
           refine tkY 37 yH (h := ?_)
           refine wpAnyH_done (by kernel_rfl) ?_ _
           try simp only [Act.put, List.getElem_toArray, List.getElem_cons_zero, List.getElem_cons_succ, List.setIfInBounds_toArray, List.set_cons_zero, List.set_cons_succ]
           go_wp2_with fail
           go_roundw
           case rel => exact ⟨j + 1, by omega, by go_num, Lib.hid (KF.out _ K6.out)⟩
           case measure => simp [intOf]; omega
      have b4 : (yk == 4) = false := by rw [beq_eq_false_iff_ne]; exact e4
      by_cases e5 : yk = 5
      · skip
        have b5 : (yk == 5) = true := by rw [e5]; rfl
        by_cases hR0 : R = []
        · have hb0 := H1.out.bnil hR0
          subst hR0
          subst hb0
          have c1 := Lib.hid (k_brush0 H1.out)
          go_wp2_with fail
          with_reducible refine c1.out.mono ?_
          rintro e W2 ⟨rfl, h2, f2⟩
          have c2 := Lib.hid (k_xbrush0 h2)
          clear h2 f2 c1
          go_wp2_with fail
          with_reducible refine c2.out.mono ?_
          rintro e W3 ⟨rfl, h3, f3⟩
          obtain ⟨R5, hR5⟩ : ∃ R5 : List Nat, R5 = [] := ⟨_, rfl⟩
          obtain ⟨b5, hb5⟩ : ∃ b5 : Nat, b5 = 0 := ⟨_, rfl⟩
          have H3 := Lib.hid (show K7 w q p [] R5 b5 R5 b5 W3 from by rw [hR5, hb5]; exact h3)
          have hl2 := Lib.hid (show R5.length ≤ j from by rw [hR5]; exact Nat.zero_le _)
          clear h3 f3 c2 H1 hR5 hb5
          go_upto_region 34 with fail
          try clear HL
          try clear HA
          try clear HQ
          try clear HND
          try clear PKM
          try clear PK0
          try clear hgx
          as_aux_lemma =>
           have HE := Lib.hid (show R5.length ≤ 1000 from by have := HLJ.out; have := hl2.out; omega)
           obtain ⟨ad2, cap2, hg2R⟩ := H3.out.r
           obtain ⟨n2, hn2⟩ : ∃ n, (R5).length = n := ⟨_, rfl⟩
           have HN2 := Lib.hid hn2
           have hcp2 := hg2R.st
           rw [hn2] at hcp2
           have DC := Lib.hid (fun V (hV : IsG V p ad2 cap2 R5 b5) => And.intro (show V.cell? ⟨p, 0, none⟩ = some (.slice ad2 n2 cap2) from by have := hV.st.cell 0; rw [HN2.out] at this; exact this) (show V.cell? ⟨p, 1, none⟩ = some (.int .i64 (b5 : Nat)) from hV.st.cell 1))
           have HG := Lib.hid hg2R
           have hqp := Lib.hid H3.out.hq
           have CA := Lib.hid (k_all (H3.out.fr0 (Fr.refl [] _).drew))
           have GD := Lib.hid (hg2R.fr0 (Fr.refl [] _).drew)
           have hY := DC.out _ GD.out
           have SM := Lib.hid (fun V b1 b2 d1 c1 d2 c2 (h1 : RowV V b1 d1 c1 R5) (h2 : RowV V b2 d2 c2 R5) => (show Calls Tryz.prog 32 #[.slice d1 n2 c1, .slice d2 n2 c2] V fun e w' => e = .returned (.bool true) ∧ Fr [] V w' from by
             have := r14same h1 h2 (by have := HE.out; omega)
             rw [HN2.out] at this
             exact this))
           have DN := Lib.hid (HDONE.out _ _ _ H3.out (by have := HLJ.out; have := hl2.out; omega))
           clear hg2R hcp2 hn2
           try clear H1
           try clear BY1
           have e1 : (((R5).headD 0 : Nat) : Int) = ((R5).headD 0 : Nat) := rfl
           have CH := Lib.hid (fun V (hV : K7 w q p [] R5 b5 R5 b5 V) => k_hand hV)
           have CX := Lib.hid (fun V (hV : IsG V p ad2 cap2 R5 b5) => xhand hV)
           have CB := Lib.hid (fun V (hV : K7 w q p [] R5 b5 R5 b5 V) => k_broom hV)
           have CL := Lib.hid (fun V (hV : K7 w q p [] R5 b5 R5 b5 V) => (show Calls Tryz.prog 68 #[.pointer (some ⟨q.m, 0, none⟩)] V fun e w' => e = .returned (.int .i64 n2) ∧ K7 w q p [] R5 b5 R5 b5 w' ∧ Fr q.blocks V w' from by
             have := k_len hV
             rw [HN2.out] at this
             exact this))
           have KF := Lib.hid (fun V (hV : K7 w q p [] R5 b5 R5 b5 V) => HDONE.out V _ _ hV (by have := HLJ.out; have := hl2.out; omega))
           rw [HN2.out] at CA
           generalize (R5).headD 0 = hd at *
           have q1 : ((hd : Int) != hd) = false := by simp
           have q2 : (((b5 : Nat) : Int) != (b5 : Nat)) = false := by simp
           have q3 : ((n2 : Int) != n2) = false := by simp
           clear e1
           refine wp_region_held_drew (S := fun W => W.cell? ⟨p, 0, none⟩ = some (.slice ad2 n2 cap2) ∧ W.cell? ⟨p, 1, none⟩ = some (.int .i64 (b5 : Nat))) (by kernel_rfl) (hY) (fun yH => ?_)
           refine tkY 0 yH (h := ?_)
           refine tkY 1 yH (h := ?_)
           refine tkY 2 yH (h := ?_)
           refine tkY 3 yH (h := ?_)
           refine tkY 5 yH (h := ?_)
           refine tkY 6 yH (h := ?_)
           refine tkY 7 yH (h := ?_)
           refine tkY 8 yH (h := ?_)
           refine wpAnyH_ready (rs := [4]) (by kernel_rfl) (by simp) ?_
           refine AllReadyH.cons (o := ?oozg8) ?hizg8 (fun K hK => ?hczg8) AllReadyH.nil
           case hizg8 => (simp only [List.getElem?_toArray, List.getElem?_cons_zero, List.getElem?_cons_succ]; rfl)
           go_simp
           with_reducible refine CA.out.mono ?_
           rintro e U1 ⟨adA, cpA, rfl, rowA, hk, hf⟩
           have K1 := Lib.hid hk
           have G1 := Lib.hid (GD.out.fr hf hqp.out)
           have RA := Lib.hid rowA
           have hY := DC.out _ G1.out
           clear hk hf rowA
           go_wp2_with fail
           refine hK.out _ _ (hY) (fun yH => ?_)
           clear hK K
           try simp only [Act.put, List.setIfInBounds_toArray, List.set_cons_zero, List.set_cons_succ]
           refine wpAnyH_ready (rs := [9]) (by kernel_rfl) (by simp) ?_
           refine AllReadyH.cons (o := ?oozg9) ?hizg9 (fun K hK => ?hczg9) AllReadyH.nil
           case hizg9 => (simp only [List.getElem?_toArray, List.getElem?_cons_zero, List.getElem?_cons_succ]; rfl)
           go_simp
           with_reducible refine (SM.out _ _ _ _ _ _ _ RA.out G1.out.row).mono ?_
           rintro e U2 ⟨rfl, hf⟩
           have K2 := Lib.hid (K1.out.fr0 hf)
           have G2 := Lib.hid (G1.out.fr0 hf)
           have hY := DC.out _ G2.out
           clear hf
           go_wp2_with fail
           refine hK.out _ _ (hY) (fun yH => ?_)
           clear hK K
           try simp only [Act.put, List.setIfInBounds_toArray, List.set_cons_zero, List.set_cons_succ]
           refine tkY 10 yH (h := ?_)
           refine tkY 11 yH (h := ?_)
           refine tkY 12 yH (h := ?_)
           refine tkY 13 yH (h := ?_)
           refine tkY 15 yH (h := ?_)
           refine wpAnyH_ready (rs := [14]) (by kernel_rfl) (by simp) ?_
           refine AllReadyH.cons (o := ?oozg15) ?hizg15 (fun K hK => ?hczg15) AllReadyH.nil
           case hizg15 => (simp only [List.getElem?_toArray, List.getElem?_cons_zero, List.getElem?_cons_succ]; rfl)
           go_simp
           with_reducible refine (CH.out _ K2.out).mono ?_
           rintro e U3 ⟨rfl, hk, hf⟩
           have K3 := Lib.hid hk
           have G3 := Lib.hid (G2.out.fr hf hqp.out)
           have hY := DC.out _ G3.out
           clear hk hf
           go_wp2_with fail
           refine hK.out _ _ (hY) (fun yH => ?_)
           clear hK K
           try simp only [Act.put, List.setIfInBounds_toArray, List.set_cons_zero, List.set_cons_succ]
           refine wpAnyH_ready (rs := [16]) (by kernel_rfl) (by simp) ?_
           refine AllReadyH.cons (o := ?oozg16) ?hizg16 (fun K hK => ?hczg16) AllReadyH.nil
           case hizg16 => (simp only [List.getElem?_toArray, List.getElem?_cons_zero, List.getElem?_cons_succ]; rfl)
           go_simp
           with_reducible refine (CX.out _ G3.out).mono ?_
           rintro e U4 ⟨rfl, hf⟩
           have K4 := Lib.hid (K3.out.fr0 hf)
           have G4 := Lib.hid (G3.out.fr0 hf)
           have hY := DC.out _ G4.out
           clear hf
           go_wp2_with fail
           refine hK.out _ _ (hY) (fun yH => ?_)
           clear hK K
           try simp only [Act.put, List.setIfInBounds_toArray, List.set_cons_zero, List.set_cons_succ]
           refine tkY 17 yH (h := ?_)
           refine tkY 18 yH (h := ?_)
           refine tkY 19 yH (h := ?_)
           refine tkY 20 yH (h := ?_)
           refine tkY 22 yH (h := ?_)
           refine tkY 23 yH (h := ?_)
           refine tkY 24 yH (h := ?_)
           refine tkY 25 yH (h := ?_)
           refine wpAnyH_ready (rs := [21]) (by kernel_rfl) (by simp) ?_
           refine AllReadyH.cons (o := ?oozg25) ?hizg25 (fun K hK => ?hczg25) AllReadyH.nil
           case hizg25 => (simp only [List.getElem?_toArray, List.getElem?_cons_zero, List.getElem?_cons_succ]; rfl)
           go_simp
           with_reducible refine (CB.out _ K4.out).mono ?_
           rintro e U5 ⟨rfl, hk, hf⟩
           have K5 := Lib.hid hk
           have G5 := Lib.hid (G4.out.fr hf hqp.out)
           have hY := DC.out _ G5.out
           clear hk hf
           go_wp2_with fail
           refine hK.out _ _ (hY) (fun yH => ?_)
           clear hK K
           try simp only [Act.put, List.setIfInBounds_toArray, List.set_cons_zero, List.set_cons_succ]
           refine tkY 26 yH (h := ?_)
           refine tkY 27 yH (h := ?_)
           refine tkY 28 yH (h := ?_)
           refine tkY 29 yH (h := ?_)
           refine tkY 31 yH (h := ?_)
           refine tkY 32 yH (h := ?_)
           refine tkY 33 yH (h := ?_)
           refine tkY 34 yH (h := ?_)
           refine tkY 35 yH (h := ?_)
           refine wpAnyH_ready (rs := [30]) (by kernel_rfl) (by simp) ?_
           refine AllReadyH.cons (o := ?oozg35) ?hizg35 (fun K hK => ?hczg35) AllReadyH.nil
           case hizg35 => (simp only [List.getElem?_toArray, List.getElem?_cons_zero, List.getElem?_cons_succ]; rfl)
           go_simp
           with_reducible refine (CL.out _ K5.out).mono ?_
           rintro e U6 ⟨rfl, hk, hf⟩
           have K6 := Lib.hid hk
           have G6 := Lib.hid (G5.out.fr hf hqp.out)
           have hY := DC.out _ G6.out
           clear hk hf
           go_wp2_with fail
           refine hK.out _ _ (hY) (fun yH => ?_)
           clear hK K
           try simp only [Act.put, List.setIfInBounds_toArray, List.set_cons_zero, List.set_cons_succ]
           refine tkY 36 yH (h := ?_)
           refine tkY 37 yH (h := ?_)
           refine wpAnyH_done (by kernel_rfl) ?_ _
           try simp only [Act.put, List.getElem_toArray, List.getElem_cons_zero, List.getElem_cons_succ, List.setIfInBounds_toArray, List.set_cons_zero, List.set_cons_succ]
           go_wp2_with fail
           go_roundw
           case rel => exact ⟨j + 1, by omega, by go_num, Lib.hid (KF.out _ K6.out)⟩
           case measure => simp [intOf]; omega
        · have hbm := H1.out.bin hR0
          obtain ⟨A, B', hAB⟩ := List.append_of_mem hbm
          have hnd := HND.out
          have hlen := HLEN.out
          rw [hAB] at hnd hlen
          have hmid := nd_mid hnd
          have hsame := H1.out
          rw [hAB] at hsame
          have c1 := Lib.hid (k_brush1 hsame)
          have HMID := Lib.hid hmid
          have HLEN2 := Lib.hid hlen
          have et : ((b : Int) == b) = true := by simp
          have hl2 := Lib.hid (show (A ++ b :: B').length ≤ j from by rw [← hAB]; exact HLJ.out)
          clear hAB hnd hlen hmid hsame hbm hR0 H1 PKM PK0
          go_wp2_with fail
          with_reducible refine c1.out.mono ?_
          rintro e W2 ⟨rfl, h2, f2⟩
          have c2 := Lib.hid (k_xbrush1 h2 HMID.out.1 HLEN2.out)
          clear h2 f2 c1
          go_wp2_with fail
          with_reducible refine c2.out.mono ?_
          rintro e W3 ⟨rfl, h3, f3⟩
          have H3 := Lib.hid h3
          clear h3 f3 c2
          generalize A ++ b :: B' = R5 at *
          generalize (B' ++ A).headD b = b5 at *
          go_upto_region 34 with fail
          try clear HL
          try clear HA
          try clear HQ
          try clear HND
          try clear PKM
          try clear PK0
          try clear hgx
          as_aux_lemma =>
           have HE := Lib.hid (show R5.length ≤ 1000 from by have := HLJ.out; have := hl2.out; omega)
           obtain ⟨ad2, cap2, hg2R⟩ := H3.out.r
           obtain ⟨n2, hn2⟩ : ∃ n, (R5).length = n := ⟨_, rfl⟩
           have HN2 := Lib.hid hn2
           have hcp2 := hg2R.st
           rw [hn2] at hcp2
           have DC := Lib.hid (fun V (hV : IsG V p ad2 cap2 R5 b5) => And.intro (show V.cell? ⟨p, 0, none⟩ = some (.slice ad2 n2 cap2) from by have := hV.st.cell 0; rw [HN2.out] at this; exact this) (show V.cell? ⟨p, 1, none⟩ = some (.int .i64 (b5 : Nat)) from hV.st.cell 1))
           have HG := Lib.hid hg2R
           have hqp := Lib.hid H3.out.hq
           have CA := Lib.hid (k_all (H3.out.fr0 (Fr.refl [] _).drew))
           have GD := Lib.hid (hg2R.fr0 (Fr.refl [] _).drew)
           have hY := DC.out _ GD.out
           have SM := Lib.hid (fun V b1 b2 d1 c1 d2 c2 (h1 : RowV V b1 d1 c1 R5) (h2 : RowV V b2 d2 c2 R5) => (show Calls Tryz.prog 32 #[.slice d1 n2 c1, .slice d2 n2 c2] V fun e w' => e = .returned (.bool true) ∧ Fr [] V w' from by
             have := r14same h1 h2 (by have := HE.out; omega)
             rw [HN2.out] at this
             exact this))
           have DN := Lib.hid (HDONE.out _ _ _ H3.out (by have := HLJ.out; have := hl2.out; omega))
           clear hg2R hcp2 hn2
           try clear H1
           try clear BY1
           have e1 : (((R5).headD 0 : Nat) : Int) = ((R5).headD 0 : Nat) := rfl
           have CH := Lib.hid (fun V (hV : K7 w q p [] R5 b5 R5 b5 V) => k_hand hV)
           have CX := Lib.hid (fun V (hV : IsG V p ad2 cap2 R5 b5) => xhand hV)
           have CB := Lib.hid (fun V (hV : K7 w q p [] R5 b5 R5 b5 V) => k_broom hV)
           have CL := Lib.hid (fun V (hV : K7 w q p [] R5 b5 R5 b5 V) => (show Calls Tryz.prog 68 #[.pointer (some ⟨q.m, 0, none⟩)] V fun e w' => e = .returned (.int .i64 n2) ∧ K7 w q p [] R5 b5 R5 b5 w' ∧ Fr q.blocks V w' from by
             have := k_len hV
             rw [HN2.out] at this
             exact this))
           have KF := Lib.hid (fun V (hV : K7 w q p [] R5 b5 R5 b5 V) => HDONE.out V _ _ hV (by have := HLJ.out; have := hl2.out; omega))
           rw [HN2.out] at CA
           generalize (R5).headD 0 = hd at *
           have q1 : ((hd : Int) != hd) = false := by simp
           have q2 : (((b5 : Nat) : Int) != (b5 : Nat)) = false := by simp
           have q3 : ((n2 : Int) != n2) = false := by simp
           clear e1
           refine wp_region_held_drew (S := fun W => W.cell? ⟨p, 0, none⟩ = some (.slice ad2 n2 cap2) ∧ W.cell? ⟨p, 1, none⟩ = some (.int .i64 (b5 : Nat))) (by kernel_rfl) (hY) (fun yH => ?_)
           refine tkY 0 yH (h := ?_)
           refine tkY 1 yH (h := ?_)
           refine tkY 2 yH (h := ?_)
           refine tkY 3 yH (h := ?_)
           refine tkY 5 yH (h := ?_)
           refine tkY 6 yH (h := ?_)
           refine tkY 7 yH (h := ?_)
           refine tkY 8 yH (h := ?_)
           refine wpAnyH_ready (rs := [4]) (by kernel_rfl) (by simp) ?_
           refine AllReadyH.cons (o := ?oozh8) ?hizh8 (fun K hK => ?hczh8) AllReadyH.nil
           case hizh8 => (simp only [List.getElem?_toArray, List.getElem?_cons_zero, List.getElem?_cons_succ]; rfl)
           go_simp
           with_reducible refine CA.out.mono ?_
           rintro e U1 ⟨adA, cpA, rfl, rowA, hk, hf⟩
           have K1 := Lib.hid hk
           have G1 := Lib.hid (GD.out.fr hf hqp.out)
           have RA := Lib.hid rowA
           have hY := DC.out _ G1.out
           clear hk hf rowA
           go_wp2_with fail
           refine hK.out _ _ (hY) (fun yH => ?_)
           clear hK K
           try simp only [Act.put, List.setIfInBounds_toArray, List.set_cons_zero, List.set_cons_succ]
           refine wpAnyH_ready (rs := [9]) (by kernel_rfl) (by simp) ?_
           refine AllReadyH.cons (o := ?oozh9) ?hizh9 (fun K hK => ?hczh9) AllReadyH.nil
           case hizh9 => (simp only [List.getElem?_toArray, List.getElem?_cons_zero, List.getElem?_cons_succ]; rfl)
           go_simp
           with_reducible refine (SM.out _ _ _ _ _ _ _ RA.out G1.out.row).mono ?_
           rintro e U2 ⟨rfl, hf⟩
           have K2 := Lib.hid (K1.out.fr0 hf)
           have G2 := Lib.hid (G1.out.fr0 hf)
           have hY := DC.out _ G2.out
           clear hf
           go_wp2_with fail
           refine hK.out _ _ (hY) (fun yH => ?_)
           clear hK K
           try simp only [Act.put, List.setIfInBounds_toArray, List.set_cons_zero, List.set_cons_succ]
           refine tkY 10 yH (h := ?_)
           refine tkY 11 yH (h := ?_)
           refine tkY 12 yH (h := ?_)
           refine tkY 13 yH (h := ?_)
           refine tkY 15 yH (h := ?_)
           refine wpAnyH_ready (rs := [14]) (by kernel_rfl) (by simp) ?_
           refine AllReadyH.cons (o := ?oozh15) ?hizh15 (fun K hK => ?hczh15) AllReadyH.nil
           case hizh15 => (simp only [List.getElem?_toArray, List.getElem?_cons_zero, List.getElem?_cons_succ]; rfl)
           go_simp
           with_reducible refine (CH.out _ K2.out).mono ?_
           rintro e U3 ⟨rfl, hk, hf⟩
           have K3 := Lib.hid hk
           have G3 := Lib.hid (G2.out.fr hf hqp.out)
           have hY := DC.out _ G3.out
           clear hk hf
           go_wp2_with fail
           refine hK.out _ _ (hY) (fun yH => ?_)
           clear hK K
           try simp only [Act.put, List.setIfInBounds_toArray, List.set_cons_zero, List.set_cons_succ]
           refine wpAnyH_ready (rs := [16]) (by kernel_rfl) (by simp) ?_
           refine AllReadyH.cons (o := ?oozh16) ?hizh16 (fun K hK => ?hczh16) AllReadyH.nil
           case hizh16 => (simp only [List.getElem?_toArray, List.getElem?_cons_zero, List.getElem?_cons_succ]; rfl)
           go_simp
           with_reducible refine (CX.out _ G3.out).mono ?_
           rintro e U4 ⟨rfl, hf⟩
           have K4 := Lib.hid (K3.out.fr0 hf)
           have G4 := Lib.hid (G3.out.fr0 hf)
           have hY := DC.out _ G4.out
           clear hf
           go_wp2_with fail
           refine hK.out _ _ (hY) (fun yH => ?_)
           clear hK K
           try simp only [Act.put, List.setIfInBounds_toArray, List.set_cons_zero, List.set_cons_succ]
           refine tkY 17 yH (h := ?_)
           refine tkY 18 yH (h := ?_)
           refine tkY 19 yH (h := ?_)
           refine tkY 20 yH (h := ?_)
           refine tkY 22 yH (h := ?_)
           refine tkY 23 yH (h := ?_)
           refine tkY 24 yH (h := ?_)
           refine tkY 25 yH (h := ?_)
           refine wpAnyH_ready (rs := [21]) (by kernel_rfl) (by simp) ?_
           refine AllReadyH.cons (o := ?oozh25) ?hizh25 (fun K hK => ?hczh25) AllReadyH.nil
           case hizh25 => (simp only [List.getElem?_toArray, List.getElem?_cons_zero, List.getElem?_cons_succ]; rfl)
           go_simp
           with_reducible refine (CB.out _ K4.out).mono ?_
           rintro e U5 ⟨rfl, hk, hf⟩
           have K5 := Lib.hid hk
           have G5 := Lib.hid (G4.out.fr hf hqp.out)
           have hY := DC.out _ G5.out
           clear hk hf
           go_wp2_with fail
           refine hK.out _ _ (hY) (fun yH => ?_)
           clear hK K
           try simp only [Act.put, List.setIfInBounds_toArray, List.set_cons_zero, List.set_cons_succ]
           refine tkY 26 yH (h := ?_)
           refine tkY 27 yH (h := ?_)
           refine tkY 28 yH (h := ?_)
           refine tkY 29 yH (h := ?_)
           refine tkY 31 yH (h := ?_)
           refine tkY 32 yH (h := ?_)
           refine tkY 33 yH (h := ?_)
           refine tkY 34 yH (h := ?_)
           refine tkY 35 yH (h := ?_)
           refine wpAnyH_ready (rs := [30]) (by kernel_rfl) (by simp) ?_
           refine AllReadyH.cons (o := ?oozh35) ?hizh35 (fun K hK => ?hczh35) AllReadyH.nil
           case hizh35 => (simp only [List.getElem?_toArray, List.getElem?_cons_zero, List.getElem?_cons_succ]; rfl)
           go_simp
           with_reducible refine (CL.out _ K5.out).mono ?_
           rintro e U6 ⟨rfl, hk, hf⟩
           have K6 := Lib.hid hk
           have G6 := Lib.hid (G5.out.fr hf hqp.out)
           have hY := DC.out _ G6.out
           clear hk hf
           go_wp2_with fail
           refine hK.out _ _ (hY) (fun yH => ?_)
           clear hK K
           try simp only [Act.put, List.setIfInBounds_toArray, List.set_cons_zero, List.set_cons_succ]
           refine tkY 36 yH (h := ?_)
           refine tkY 37 yH (h := ?_)
           refine wpAnyH_done (by kernel_rfl) ?_ _
           try simp only [Act.put, List.getElem_toArray, List.getElem_cons_zero, List.getElem_cons_succ, List.setIfInBounds_toArray, List.set_cons_zero, List.set_cons_succ]
           go_wp2_with fail
           go_roundw
           case rel => exact ⟨j + 1, by omega, by go_num, Lib.hid (KF.out _ K6.out)⟩
           case measure => simp [intOf]; omega
      have b5 : (yk == 5) = false := by rw [beq_eq_false_iff_ne]; exact e5
      by_cases e6 : yk = 6
      · skip
        have b6 : (yk == 6) = true := by rw [e6]; rfl
        by_cases hR0 : R = []
        · have hp0 := PK0.out hR0
          have c0 : decide ((0 : Int) < px) = false := by rw [hp0]; rfl
          have c0' : decide (0 < px) = false := by rw [hp0]; rfl
          clear hp0
          go_upto_region 34 with fail
          try clear HL
          try clear HA
          try clear HQ
          try clear HND
          try clear PKM
          try clear PK0
          try clear hgx
          as_aux_lemma =>
           have HE := Lib.hid (show R.length ≤ 1000 from by have := HLJ.out; omega)
           obtain ⟨ad2, cap2, hg2R⟩ := H1.out.r
           obtain ⟨n2, hn2⟩ : ∃ n, (R).length = n := ⟨_, rfl⟩
           have HN2 := Lib.hid hn2
           have hcp2 := hg2R.st
           rw [hn2] at hcp2
           have DC := Lib.hid (fun V (hV : IsG V p ad2 cap2 R b) => And.intro (show V.cell? ⟨p, 0, none⟩ = some (.slice ad2 n2 cap2) from by have := hV.st.cell 0; rw [HN2.out] at this; exact this) (show V.cell? ⟨p, 1, none⟩ = some (.int .i64 (b : Nat)) from hV.st.cell 1))
           have HG := Lib.hid hg2R
           have hqp := Lib.hid H1.out.hq
           have CA := Lib.hid (k_all (H1.out.fr0 (Fr.refl [] _).drew))
           have GD := Lib.hid (hg2R.fr0 (Fr.refl [] _).drew)
           have hY := DC.out _ GD.out
           have SM := Lib.hid (fun V b1 b2 d1 c1 d2 c2 (h1 : RowV V b1 d1 c1 R) (h2 : RowV V b2 d2 c2 R) => (show Calls Tryz.prog 32 #[.slice d1 n2 c1, .slice d2 n2 c2] V fun e w' => e = .returned (.bool true) ∧ Fr [] V w' from by
             have := r14same h1 h2 (by have := HE.out; omega)
             rw [HN2.out] at this
             exact this))
           have DN := Lib.hid (HDONE.out _ _ _ H1.out (by have := HLJ.out; omega))
           clear hg2R hcp2 hn2
           try clear H1
           try clear BY1
           have e1 : (((R).headD 0 : Nat) : Int) = ((R).headD 0 : Nat) := rfl
           have CH := Lib.hid (fun V (hV : K7 w q p [] R b R b V) => k_hand hV)
           have CX := Lib.hid (fun V (hV : IsG V p ad2 cap2 R b) => xhand hV)
           have CB := Lib.hid (fun V (hV : K7 w q p [] R b R b V) => k_broom hV)
           have CL := Lib.hid (fun V (hV : K7 w q p [] R b R b V) => (show Calls Tryz.prog 68 #[.pointer (some ⟨q.m, 0, none⟩)] V fun e w' => e = .returned (.int .i64 n2) ∧ K7 w q p [] R b R b w' ∧ Fr q.blocks V w' from by
             have := k_len hV
             rw [HN2.out] at this
             exact this))
           have KF := Lib.hid (fun V (hV : K7 w q p [] R b R b V) => HDONE.out V _ _ hV (by have := HLJ.out; omega))
           rw [HN2.out] at CA
           generalize (R).headD 0 = hd at *
           have q1 : ((hd : Int) != hd) = false := by simp
           have q2 : (((b : Nat) : Int) != (b : Nat)) = false := by simp
           have q3 : ((n2 : Int) != n2) = false := by simp
           clear e1
           refine wp_region_held_drew (S := fun W => W.cell? ⟨p, 0, none⟩ = some (.slice ad2 n2 cap2) ∧ W.cell? ⟨p, 1, none⟩ = some (.int .i64 (b : Nat))) (by kernel_rfl) (hY) (fun yH => ?_)
           refine tkY 0 yH (h := ?_)
           refine tkY 1 yH (h := ?_)
           refine tkY 2 yH (h := ?_)
           refine tkY 3 yH (h := ?_)
           refine tkY 5 yH (h := ?_)
           refine tkY 6 yH (h := ?_)
           refine tkY 7 yH (h := ?_)
           refine tkY 8 yH (h := ?_)
           refine wpAnyH_ready (rs := [4]) (by kernel_rfl) (by simp) ?_
           refine AllReadyH.cons (o := ?oozi8) ?hizi8 (fun K hK => ?hczi8) AllReadyH.nil
           case hizi8 => (simp only [List.getElem?_toArray, List.getElem?_cons_zero, List.getElem?_cons_succ]; rfl)
           go_simp
           with_reducible refine CA.out.mono ?_
           rintro e U1 ⟨adA, cpA, rfl, rowA, hk, hf⟩
           have K1 := Lib.hid hk
           have G1 := Lib.hid (GD.out.fr hf hqp.out)
           have RA := Lib.hid rowA
           have hY := DC.out _ G1.out
           clear hk hf rowA
           go_wp2_with fail
           refine hK.out _ _ (hY) (fun yH => ?_)
           clear hK K
           try simp only [Act.put, List.setIfInBounds_toArray, List.set_cons_zero, List.set_cons_succ]
           refine wpAnyH_ready (rs := [9]) (by kernel_rfl) (by simp) ?_
           refine AllReadyH.cons (o := ?oozi9) ?hizi9 (fun K hK => ?hczi9) AllReadyH.nil
           case hizi9 => (simp only [List.getElem?_toArray, List.getElem?_cons_zero, List.getElem?_cons_succ]; rfl)
           go_simp
           with_reducible refine (SM.out _ _ _ _ _ _ _ RA.out G1.out.row).mono ?_
           rintro e U2 ⟨rfl, hf⟩
           have K2 := Lib.hid (K1.out.fr0 hf)
           have G2 := Lib.hid (G1.out.fr0 hf)
           have hY := DC.out _ G2.out
           clear hf
           go_wp2_with fail
           refine hK.out _ _ (hY) (fun yH => ?_)
           clear hK K
           try simp only [Act.put, List.setIfInBounds_toArray, List.set_cons_zero, List.set_cons_succ]
           refine tkY 10 yH (h := ?_)
           refine tkY 11 yH (h := ?_)
           refine tkY 12 yH (h := ?_)
           refine tkY 13 yH (h := ?_)
           refine tkY 15 yH (h := ?_)
           refine wpAnyH_ready (rs := [14]) (by kernel_rfl) (by simp) ?_
           refine AllReadyH.cons (o := ?oozi15) ?hizi15 (fun K hK => ?hczi15) AllReadyH.nil
           case hizi15 => (simp only [List.getElem?_toArray, List.getElem?_cons_zero, List.getElem?_cons_succ]; rfl)
           go_simp
           with_reducible refine (CH.out _ K2.out).mono ?_
           rintro e U3 ⟨rfl, hk, hf⟩
           have K3 := Lib.hid hk
           have G3 := Lib.hid (G2.out.fr hf hqp.out)
           have hY := DC.out _ G3.out
           clear hk hf
           go_wp2_with fail
           refine hK.out _ _ (hY) (fun yH => ?_)
           clear hK K
           try simp only [Act.put, List.setIfInBounds_toArray, List.set_cons_zero, List.set_cons_succ]
           refine wpAnyH_ready (rs := [16]) (by kernel_rfl) (by simp) ?_
           refine AllReadyH.cons (o := ?oozi16) ?hizi16 (fun K hK => ?hczi16) AllReadyH.nil
           case hizi16 => (simp only [List.getElem?_toArray, List.getElem?_cons_zero, List.getElem?_cons_succ]; rfl)
           go_simp
           with_reducible refine (CX.out _ G3.out).mono ?_
           rintro e U4 ⟨rfl, hf⟩
           have K4 := Lib.hid (K3.out.fr0 hf)
           have G4 := Lib.hid (G3.out.fr0 hf)
           have hY := DC.out _ G4.out
           clear hf
           go_wp2_with fail
           refine hK.out _ _ (hY) (fun yH => ?_)
           clear hK K
           try simp only [Act.put, List.setIfInBounds_toArray, List.set_cons_zero, List.set_cons_succ]
           refine tkY 17 yH (h := ?_)
           refine tkY 18 yH (h := ?_)
           refine tkY 19 yH (h := ?_)
           refine tkY 20 yH (h := ?_)
           refine tkY 22 yH (h := ?_)
           refine tkY 23 yH (h := ?_)
           refine tkY 24 yH (h := ?_)
           refine tkY 25 yH (h := ?_)
           refine wpAnyH_ready (rs := [21]) (by kernel_rfl) (by simp) ?_
           refine AllReadyH.cons (o := ?oozi25) ?hizi25 (fun K hK => ?hczi25) AllReadyH.nil
           case hizi25 => (simp only [List.getElem?_toArray, List.getElem?_cons_zero, List.getElem?_cons_succ]; rfl)
           go_simp
           with_reducible refine (CB.out _ K4.out).mono ?_
           rintro e U5 ⟨rfl, hk, hf⟩
           have K5 := Lib.hid hk
           have G5 := Lib.hid (G4.out.fr hf hqp.out)
           have hY := DC.out _ G5.out
           clear hk hf
           go_wp2_with fail
           refine hK.out _ _ (hY) (fun yH => ?_)
           clear hK K
           try simp only [Act.put, List.setIfInBounds_toArray, List.set_cons_zero, List.set_cons_succ]
           refine tkY 26 yH (h := ?_)
           refine tkY 27 yH (h := ?_)
           refine tkY 28 yH (h := ?_)
           refine tkY 29 yH (h := ?_)
           refine tkY 31 yH (h := ?_)
           refine tkY 32 yH (h := ?_)
           refine tkY 33 yH (h := ?_)
           refine tkY 34 yH (h := ?_)
           refine tkY 35 yH (h := ?_)
           refine wpAnyH_ready (rs := [30]) (by kernel_rfl) (by simp) ?_
           refine AllReadyH.cons (o := ?oozi35) ?hizi35 (fun K hK => ?hczi35) AllReadyH.nil
           case hizi35 => (simp only [List.getElem?_toArray, List.getElem?_cons_zero, List.getElem?_cons_succ]; rfl)
           go_simp
           with_reducible refine (CL.out _ K5.out).mono ?_
           rintro e U6 ⟨rfl, hk, hf⟩
           have K6 := Lib.hid hk
           have G6 := Lib.hid (G5.out.fr hf hqp.out)
           have hY := DC.out _ G6.out
           clear hk hf
           go_wp2_with fail
           refine hK.out _ _ (hY) (fun yH => ?_)
           clear hK K
           try simp only [Act.put, List.setIfInBounds_toArray, List.set_cons_zero, List.set_cons_succ]
           refine tkY 36 yH (h := ?_)
           refine tkY 37 yH (h := ?_)
           refine wpAnyH_done (by kernel_rfl) ?_ _
           try simp only [Act.put, List.getElem_toArray, List.getElem_cons_zero, List.getElem_cons_succ, List.setIfInBounds_toArray, List.set_cons_zero, List.set_cons_succ]
           go_wp2_with fail
           go_roundw
           case rel => exact ⟨j + 1, by omega, by go_num, Lib.hid (KF.out _ K6.out)⟩
           case measure => simp [intOf]; omega
        · have hpm := PKM.out hR0
          have hpos := (H1.out.pos hpm).1
          have c0 : decide ((0 : Int) < px) = true := by simp only [decide_eq_true_eq]; omega
          have c0' : decide (0 < px) = true := by simp only [decide_eq_true_eq]; omega
          obtain ⟨A, B', hAB⟩ := List.append_of_mem hpm
          have hnd := HND.out
          have hlen := HLEN.out
          rw [hAB] at hnd hlen
          have hmid := nd_mid hnd
          have hsame := H1.out
          rw [hAB] at hsame
          have c1 := Lib.hid (k_move hsame)
          have hl2 := Lib.hid (show ∀ y, (A ++ y :: B').length ≤ j from fun y => by
            have := HLJ.out
            rw [hAB, List.length_append, List.length_cons] at this
            rw [List.length_append, List.length_cons]; omega)
          have HMID := Lib.hid hmid
          have HLEN2 := Lib.hid hlen
          clear hAB hnd hlen hmid hsame hpm hpos hR0
          go_wp2_with fail
          with_reducible refine c1.out.mono ?_
          rintro e W2 ⟨y, rfl, ⟨hy0, hfree⟩ | ⟨hy0, h2, f2⟩⟩
          · subst hy0
            clear c1
            go_wp2_with fail
            with_reducible refine hfree.mono ?_
            rintro e W3 ⟨rfl, f3⟩
            have hL := HL.out _ f3
            go_wp2_with fail
            with_reducible refine hL.mono ?_
            rintro e W4 ⟨rfl, f4⟩
            go_wp2_with fail
            go_ret
            exact ⟨rfl, f3.trans f4⟩
          · have c5 : ((y : Int) == 0) = false := by rw [beq_eq_false_iff_ne]; omega
            have c5' : (y == 0) = false := by rw [beq_eq_false_iff_ne]; omega
            have c2 := Lib.hid (k_xmove (y := y) h2 HMID.out.1 HLEN2.out)
            clear h2 f2 c1
            go_wp2_with fail
            with_reducible refine c2.out.mono ?_
            rintro e W3 ⟨rfl, h3, f3⟩
            have H3 := Lib.hid h3
            have hl3 := Lib.hid (hl2.out y)
            clear h3 f3 c2
            generalize A ++ y :: B' = R5 at *
            generalize (if b = px then y else b) = b5 at *
            go_upto_region 34 with fail
            try clear HL
            try clear HA
            try clear HQ
            try clear HND
            try clear PKM
            try clear PK0
            try clear hgx
            as_aux_lemma =>
             have HE := Lib.hid (show R5.length ≤ 1000 from by have := HLJ.out; have := hl3.out; omega)
             obtain ⟨ad2, cap2, hg2R⟩ := H3.out.r
             obtain ⟨n2, hn2⟩ : ∃ n, (R5).length = n := ⟨_, rfl⟩
             have HN2 := Lib.hid hn2
             have hcp2 := hg2R.st
             rw [hn2] at hcp2
             have DC := Lib.hid (fun V (hV : IsG V p ad2 cap2 R5 b5) => And.intro (show V.cell? ⟨p, 0, none⟩ = some (.slice ad2 n2 cap2) from by have := hV.st.cell 0; rw [HN2.out] at this; exact this) (show V.cell? ⟨p, 1, none⟩ = some (.int .i64 (b5 : Nat)) from hV.st.cell 1))
             have HG := Lib.hid hg2R
             have hqp := Lib.hid H3.out.hq
             have CA := Lib.hid (k_all (H3.out.fr0 (Fr.refl [] _).drew))
             have GD := Lib.hid (hg2R.fr0 (Fr.refl [] _).drew)
             have hY := DC.out _ GD.out
             have SM := Lib.hid (fun V b1 b2 d1 c1 d2 c2 (h1 : RowV V b1 d1 c1 R5) (h2 : RowV V b2 d2 c2 R5) => (show Calls Tryz.prog 32 #[.slice d1 n2 c1, .slice d2 n2 c2] V fun e w' => e = .returned (.bool true) ∧ Fr [] V w' from by
               have := r14same h1 h2 (by have := HE.out; omega)
               rw [HN2.out] at this
               exact this))
             have DN := Lib.hid (HDONE.out _ _ _ H3.out (by have := HLJ.out; have := hl3.out; omega))
             clear hg2R hcp2 hn2
             try clear H1
             try clear BY1
             have e1 : (((R5).headD 0 : Nat) : Int) = ((R5).headD 0 : Nat) := rfl
             have CH := Lib.hid (fun V (hV : K7 w q p [] R5 b5 R5 b5 V) => k_hand hV)
             have CX := Lib.hid (fun V (hV : IsG V p ad2 cap2 R5 b5) => xhand hV)
             have CB := Lib.hid (fun V (hV : K7 w q p [] R5 b5 R5 b5 V) => k_broom hV)
             have CL := Lib.hid (fun V (hV : K7 w q p [] R5 b5 R5 b5 V) => (show Calls Tryz.prog 68 #[.pointer (some ⟨q.m, 0, none⟩)] V fun e w' => e = .returned (.int .i64 n2) ∧ K7 w q p [] R5 b5 R5 b5 w' ∧ Fr q.blocks V w' from by
               have := k_len hV
               rw [HN2.out] at this
               exact this))
             have KF := Lib.hid (fun V (hV : K7 w q p [] R5 b5 R5 b5 V) => HDONE.out V _ _ hV (by have := HLJ.out; have := hl3.out; omega))
             rw [HN2.out] at CA
             generalize (R5).headD 0 = hd at *
             have q1 : ((hd : Int) != hd) = false := by simp
             have q2 : (((b5 : Nat) : Int) != (b5 : Nat)) = false := by simp
             have q3 : ((n2 : Int) != n2) = false := by simp
             clear e1
             refine wp_region_held_drew (S := fun W => W.cell? ⟨p, 0, none⟩ = some (.slice ad2 n2 cap2) ∧ W.cell? ⟨p, 1, none⟩ = some (.int .i64 (b5 : Nat))) (by kernel_rfl) (hY) (fun yH => ?_)
             refine tkY 0 yH (h := ?_)
             refine tkY 1 yH (h := ?_)
             refine tkY 2 yH (h := ?_)
             refine tkY 3 yH (h := ?_)
             refine tkY 5 yH (h := ?_)
             refine tkY 6 yH (h := ?_)
             refine tkY 7 yH (h := ?_)
             refine tkY 8 yH (h := ?_)
             refine wpAnyH_ready (rs := [4]) (by kernel_rfl) (by simp) ?_
             refine AllReadyH.cons (o := ?oozj8) ?hizj8 (fun K hK => ?hczj8) AllReadyH.nil
             case hizj8 => (simp only [List.getElem?_toArray, List.getElem?_cons_zero, List.getElem?_cons_succ]; rfl)
             go_simp
             with_reducible refine CA.out.mono ?_
             rintro e U1 ⟨adA, cpA, rfl, rowA, hk, hf⟩
             have K1 := Lib.hid hk
             have G1 := Lib.hid (GD.out.fr hf hqp.out)
             have RA := Lib.hid rowA
             have hY := DC.out _ G1.out
             clear hk hf rowA
             go_wp2_with fail
             refine hK.out _ _ (hY) (fun yH => ?_)
             clear hK K
             try simp only [Act.put, List.setIfInBounds_toArray, List.set_cons_zero, List.set_cons_succ]
             refine wpAnyH_ready (rs := [9]) (by kernel_rfl) (by simp) ?_
             refine AllReadyH.cons (o := ?oozj9) ?hizj9 (fun K hK => ?hczj9) AllReadyH.nil
             case hizj9 => (simp only [List.getElem?_toArray, List.getElem?_cons_zero, List.getElem?_cons_succ]; rfl)
             go_simp
             with_reducible refine (SM.out _ _ _ _ _ _ _ RA.out G1.out.row).mono ?_
             rintro e U2 ⟨rfl, hf⟩
             have K2 := Lib.hid (K1.out.fr0 hf)
             have G2 := Lib.hid (G1.out.fr0 hf)
             have hY := DC.out _ G2.out
             clear hf
             go_wp2_with fail
             refine hK.out _ _ (hY) (fun yH => ?_)
             clear hK K
             try simp only [Act.put, List.setIfInBounds_toArray, List.set_cons_zero, List.set_cons_succ]
             refine tkY 10 yH (h := ?_)
             refine tkY 11 yH (h := ?_)
             refine tkY 12 yH (h := ?_)
             refine tkY 13 yH (h := ?_)
             refine tkY 15 yH (h := ?_)
             refine wpAnyH_ready (rs := [14]) (by kernel_rfl) (by simp) ?_
             refine AllReadyH.cons (o := ?oozj15) ?hizj15 (fun K hK => ?hczj15) AllReadyH.nil
             case hizj15 => (simp only [List.getElem?_toArray, List.getElem?_cons_zero, List.getElem?_cons_succ]; rfl)
             go_simp
             with_reducible refine (CH.out _ K2.out).mono ?_
             rintro e U3 ⟨rfl, hk, hf⟩
             have K3 := Lib.hid hk
             have G3 := Lib.hid (G2.out.fr hf hqp.out)
             have hY := DC.out _ G3.out
             clear hk hf
             go_wp2_with fail
             refine hK.out _ _ (hY) (fun yH => ?_)
             clear hK K
             try simp only [Act.put, List.setIfInBounds_toArray, List.set_cons_zero, List.set_cons_succ]
             refine wpAnyH_ready (rs := [16]) (by kernel_rfl) (by simp) ?_
             refine AllReadyH.cons (o := ?oozj16) ?hizj16 (fun K hK => ?hczj16) AllReadyH.nil
             case hizj16 => (simp only [List.getElem?_toArray, List.getElem?_cons_zero, List.getElem?_cons_succ]; rfl)
             go_simp
             with_reducible refine (CX.out _ G3.out).mono ?_
             rintro e U4 ⟨rfl, hf⟩
             have K4 := Lib.hid (K3.out.fr0 hf)
             have G4 := Lib.hid (G3.out.fr0 hf)
             have hY := DC.out _ G4.out
             clear hf
             go_wp2_with fail
             refine hK.out _ _ (hY) (fun yH => ?_)
             clear hK K
             try simp only [Act.put, List.setIfInBounds_toArray, List.set_cons_zero, List.set_cons_succ]
             refine tkY 17 yH (h := ?_)
             refine tkY 18 yH (h := ?_)
             refine tkY 19 yH (h := ?_)
             refine tkY 20 yH (h := ?_)
             refine tkY 22 yH (h := ?_)
             refine tkY 23 yH (h := ?_)
             refine tkY 24 yH (h := ?_)
             refine tkY 25 yH (h := ?_)
             refine wpAnyH_ready (rs := [21]) (by kernel_rfl) (by simp) ?_
             refine AllReadyH.cons (o := ?oozj25) ?hizj25 (fun K hK => ?hczj25) AllReadyH.nil
             case hizj25 => (simp only [List.getElem?_toArray, List.getElem?_cons_zero, List.getElem?_cons_succ]; rfl)
             go_simp
             with_reducible refine (CB.out _ K4.out).mono ?_
             rintro e U5 ⟨rfl, hk, hf⟩
             have K5 := Lib.hid hk
             have G5 := Lib.hid (G4.out.fr hf hqp.out)
             have hY := DC.out _ G5.out
             clear hk hf
             go_wp2_with fail
             refine hK.out _ _ (hY) (fun yH => ?_)
             clear hK K
             try simp only [Act.put, List.setIfInBounds_toArray, List.set_cons_zero, List.set_cons_succ]
             refine tkY 26 yH (h := ?_)
             refine tkY 27 yH (h := ?_)
             refine tkY 28 yH (h := ?_)
             refine tkY 29 yH (h := ?_)
             refine tkY 31 yH (h := ?_)
             refine tkY 32 yH (h := ?_)
             refine tkY 33 yH (h := ?_)
             refine tkY 34 yH (h := ?_)
             refine tkY 35 yH (h := ?_)
             refine wpAnyH_ready (rs := [30]) (by kernel_rfl) (by simp) ?_
             refine AllReadyH.cons (o := ?oozj35) ?hizj35 (fun K hK => ?hczj35) AllReadyH.nil
             case hizj35 => (simp only [List.getElem?_toArray, List.getElem?_cons_zero, List.getElem?_cons_succ]; rfl)
             go_simp
             with_reducible refine (CL.out _ K5.out).mono ?_
             rintro e U6 ⟨rfl, hk, hf⟩
             have K6 := Lib.hid hk
             have G6 := Lib.hid (G5.out.fr hf hqp.out)
             have hY := DC.out _ G6.out
             clear hk hf
             go_wp2_with fail
             refine hK.out _ _ (hY) (fun yH => ?_)
             clear hK K
             try simp only [Act.put, List.setIfInBounds_toArray, List.set_cons_zero, List.set_cons_succ]
             refine tkY 36 yH (h := ?_)
             refine tkY 37 yH (h := ?_)
             refine wpAnyH_done (by kernel_rfl) ?_ _
             try simp only [Act.put, List.getElem_toArray, List.getElem_cons_zero, List.getElem_cons_succ, List.setIfInBounds_toArray, List.set_cons_zero, List.set_cons_succ]
             go_wp2_with fail
             go_roundw
             case rel => exact ⟨j + 1, by omega, by go_num, Lib.hid (KF.out _ K6.out)⟩
             case measure => simp [intOf]; omega
      have b6 : (yk == 6) = false := by rw [beq_eq_false_iff_ne]; exact e6
      by_cases e7 : yk = 7
      · skip
        have b7 : (yk == 7) = true := by rw [e7]; rfl
        by_cases hR0 : R = []
        · have hp0 := PK0.out hR0
          have c0 : decide ((0 : Int) < px) = false := by rw [hp0]; rfl
          have c0' : decide (0 < px) = false := by rw [hp0]; rfl
          clear hp0
          go_upto_region 34 with fail
          try clear HL
          try clear HA
          try clear HQ
          try clear HND
          try clear PKM
          try clear PK0
          try clear hgx
          as_aux_lemma =>
           have HE := Lib.hid (show R.length ≤ 1000 from by have := HLJ.out; omega)
           obtain ⟨ad2, cap2, hg2R⟩ := H1.out.r
           obtain ⟨n2, hn2⟩ : ∃ n, (R).length = n := ⟨_, rfl⟩
           have HN2 := Lib.hid hn2
           have hcp2 := hg2R.st
           rw [hn2] at hcp2
           have DC := Lib.hid (fun V (hV : IsG V p ad2 cap2 R b) => And.intro (show V.cell? ⟨p, 0, none⟩ = some (.slice ad2 n2 cap2) from by have := hV.st.cell 0; rw [HN2.out] at this; exact this) (show V.cell? ⟨p, 1, none⟩ = some (.int .i64 (b : Nat)) from hV.st.cell 1))
           have HG := Lib.hid hg2R
           have hqp := Lib.hid H1.out.hq
           have CA := Lib.hid (k_all (H1.out.fr0 (Fr.refl [] _).drew))
           have GD := Lib.hid (hg2R.fr0 (Fr.refl [] _).drew)
           have hY := DC.out _ GD.out
           have SM := Lib.hid (fun V b1 b2 d1 c1 d2 c2 (h1 : RowV V b1 d1 c1 R) (h2 : RowV V b2 d2 c2 R) => (show Calls Tryz.prog 32 #[.slice d1 n2 c1, .slice d2 n2 c2] V fun e w' => e = .returned (.bool true) ∧ Fr [] V w' from by
             have := r14same h1 h2 (by have := HE.out; omega)
             rw [HN2.out] at this
             exact this))
           have DN := Lib.hid (HDONE.out _ _ _ H1.out (by have := HLJ.out; omega))
           clear hg2R hcp2 hn2
           try clear H1
           try clear BY1
           have e1 : (((R).headD 0 : Nat) : Int) = ((R).headD 0 : Nat) := rfl
           have CH := Lib.hid (fun V (hV : K7 w q p [] R b R b V) => k_hand hV)
           have CX := Lib.hid (fun V (hV : IsG V p ad2 cap2 R b) => xhand hV)
           have CB := Lib.hid (fun V (hV : K7 w q p [] R b R b V) => k_broom hV)
           have CL := Lib.hid (fun V (hV : K7 w q p [] R b R b V) => (show Calls Tryz.prog 68 #[.pointer (some ⟨q.m, 0, none⟩)] V fun e w' => e = .returned (.int .i64 n2) ∧ K7 w q p [] R b R b w' ∧ Fr q.blocks V w' from by
             have := k_len hV
             rw [HN2.out] at this
             exact this))
           have KF := Lib.hid (fun V (hV : K7 w q p [] R b R b V) => HDONE.out V _ _ hV (by have := HLJ.out; omega))
           rw [HN2.out] at CA
           generalize (R).headD 0 = hd at *
           have q1 : ((hd : Int) != hd) = false := by simp
           have q2 : (((b : Nat) : Int) != (b : Nat)) = false := by simp
           have q3 : ((n2 : Int) != n2) = false := by simp
           clear e1
           refine wp_region_held_drew (S := fun W => W.cell? ⟨p, 0, none⟩ = some (.slice ad2 n2 cap2) ∧ W.cell? ⟨p, 1, none⟩ = some (.int .i64 (b : Nat))) (by kernel_rfl) (hY) (fun yH => ?_)
           refine tkY 0 yH (h := ?_)
           refine tkY 1 yH (h := ?_)
           refine tkY 2 yH (h := ?_)
           refine tkY 3 yH (h := ?_)
           refine tkY 5 yH (h := ?_)
           refine tkY 6 yH (h := ?_)
           refine tkY 7 yH (h := ?_)
           refine tkY 8 yH (h := ?_)
           refine wpAnyH_ready (rs := [4]) (by kernel_rfl) (by simp) ?_
           refine AllReadyH.cons (o := ?oozk8) ?hizk8 (fun K hK => ?hczk8) AllReadyH.nil
           case hizk8 => (simp only [List.getElem?_toArray, List.getElem?_cons_zero, List.getElem?_cons_succ]; rfl)
           go_simp
           with_reducible refine CA.out.mono ?_
           rintro e U1 ⟨adA, cpA, rfl, rowA, hk, hf⟩
           have K1 := Lib.hid hk
           have G1 := Lib.hid (GD.out.fr hf hqp.out)
           have RA := Lib.hid rowA
           have hY := DC.out _ G1.out
           clear hk hf rowA
           go_wp2_with fail
           refine hK.out _ _ (hY) (fun yH => ?_)
           clear hK K
           try simp only [Act.put, List.setIfInBounds_toArray, List.set_cons_zero, List.set_cons_succ]
           refine wpAnyH_ready (rs := [9]) (by kernel_rfl) (by simp) ?_
           refine AllReadyH.cons (o := ?oozk9) ?hizk9 (fun K hK => ?hczk9) AllReadyH.nil
           case hizk9 => (simp only [List.getElem?_toArray, List.getElem?_cons_zero, List.getElem?_cons_succ]; rfl)
           go_simp
           with_reducible refine (SM.out _ _ _ _ _ _ _ RA.out G1.out.row).mono ?_
           rintro e U2 ⟨rfl, hf⟩
           have K2 := Lib.hid (K1.out.fr0 hf)
           have G2 := Lib.hid (G1.out.fr0 hf)
           have hY := DC.out _ G2.out
           clear hf
           go_wp2_with fail
           refine hK.out _ _ (hY) (fun yH => ?_)
           clear hK K
           try simp only [Act.put, List.setIfInBounds_toArray, List.set_cons_zero, List.set_cons_succ]
           refine tkY 10 yH (h := ?_)
           refine tkY 11 yH (h := ?_)
           refine tkY 12 yH (h := ?_)
           refine tkY 13 yH (h := ?_)
           refine tkY 15 yH (h := ?_)
           refine wpAnyH_ready (rs := [14]) (by kernel_rfl) (by simp) ?_
           refine AllReadyH.cons (o := ?oozk15) ?hizk15 (fun K hK => ?hczk15) AllReadyH.nil
           case hizk15 => (simp only [List.getElem?_toArray, List.getElem?_cons_zero, List.getElem?_cons_succ]; rfl)
           go_simp
           with_reducible refine (CH.out _ K2.out).mono ?_
           rintro e U3 ⟨rfl, hk, hf⟩
           have K3 := Lib.hid hk
           have G3 := Lib.hid (G2.out.fr hf hqp.out)
           have hY := DC.out _ G3.out
           clear hk hf
           go_wp2_with fail
           refine hK.out _ _ (hY) (fun yH => ?_)
           clear hK K
           try simp only [Act.put, List.setIfInBounds_toArray, List.set_cons_zero, List.set_cons_succ]
           refine wpAnyH_ready (rs := [16]) (by kernel_rfl) (by simp) ?_
           refine AllReadyH.cons (o := ?oozk16) ?hizk16 (fun K hK => ?hczk16) AllReadyH.nil
           case hizk16 => (simp only [List.getElem?_toArray, List.getElem?_cons_zero, List.getElem?_cons_succ]; rfl)
           go_simp
           with_reducible refine (CX.out _ G3.out).mono ?_
           rintro e U4 ⟨rfl, hf⟩
           have K4 := Lib.hid (K3.out.fr0 hf)
           have G4 := Lib.hid (G3.out.fr0 hf)
           have hY := DC.out _ G4.out
           clear hf
           go_wp2_with fail
           refine hK.out _ _ (hY) (fun yH => ?_)
           clear hK K
           try simp only [Act.put, List.setIfInBounds_toArray, List.set_cons_zero, List.set_cons_succ]
           refine tkY 17 yH (h := ?_)
           refine tkY 18 yH (h := ?_)
           refine tkY 19 yH (h := ?_)
           refine tkY 20 yH (h := ?_)
           refine tkY 22 yH (h := ?_)
           refine tkY 23 yH (h := ?_)
           refine tkY 24 yH (h := ?_)
           refine tkY 25 yH (h := ?_)
           refine wpAnyH_ready (rs := [21]) (by kernel_rfl) (by simp) ?_
           refine AllReadyH.cons (o := ?oozk25) ?hizk25 (fun K hK => ?hczk25) AllReadyH.nil
           case hizk25 => (simp only [List.getElem?_toArray, List.getElem?_cons_zero, List.getElem?_cons_succ]; rfl)
           go_simp
           with_reducible refine (CB.out _ K4.out).mono ?_
           rintro e U5 ⟨rfl, hk, hf⟩
           have K5 := Lib.hid hk
           have G5 := Lib.hid (G4.out.fr hf hqp.out)
           have hY := DC.out _ G5.out
           clear hk hf
           go_wp2_with fail
           refine hK.out _ _ (hY) (fun yH => ?_)
           clear hK K
           try simp only [Act.put, List.setIfInBounds_toArray, List.set_cons_zero, List.set_cons_succ]
           refine tkY 26 yH (h := ?_)
           refine tkY 27 yH (h := ?_)
           refine tkY 28 yH (h := ?_)
           refine tkY 29 yH (h := ?_)
           refine tkY 31 yH (h := ?_)
           refine tkY 32 yH (h := ?_)
           refine tkY 33 yH (h := ?_)
           refine tkY 34 yH (h := ?_)
           refine tkY 35 yH (h := ?_)
           refine wpAnyH_ready (rs := [30]) (by kernel_rfl) (by simp) ?_
           refine AllReadyH.cons (o := ?oozk35) ?hizk35 (fun K hK => ?hczk35) AllReadyH.nil
           case hizk35 => (simp only [List.getElem?_toArray, List.getElem?_cons_zero, List.getElem?_cons_succ]; rfl)
           go_simp
           with_reducible refine (CL.out _ K5.out).mono ?_
           rintro e U6 ⟨rfl, hk, hf⟩
           have K6 := Lib.hid hk
           have G6 := Lib.hid (G5.out.fr hf hqp.out)
           have hY := DC.out _ G6.out
           clear hk hf
           go_wp2_with fail
           refine hK.out _ _ (hY) (fun yH => ?_)
           clear hK K
           try simp only [Act.put, List.setIfInBounds_toArray, List.set_cons_zero, List.set_cons_succ]
           refine tkY 36 yH (h := ?_)
           refine tkY 37 yH (h := ?_)
           refine wpAnyH_done (by kernel_rfl) ?_ _
           try simp only [Act.put, List.getElem_toArray, List.getElem_cons_zero, List.getElem_cons_succ, List.setIfInBounds_toArray, List.set_cons_zero, List.set_cons_succ]
           go_wp2_with fail
           go_roundw
           case rel => exact ⟨j + 1, by omega, by go_num, Lib.hid (KF.out _ K6.out)⟩
           case measure => simp [intOf]; omega
        · have hpm := PKM.out hR0
          have hpos := (H1.out.pos hpm).1
          have c0 : decide ((0 : Int) < px) = true := by simp only [decide_eq_true_eq]; omega
          have c0' : decide (0 < px) = true := by simp only [decide_eq_true_eq]; omega
          have c1 := Lib.hid (k_insSt H1.out hpm)
          clear hpos hR0
          go_wp2_with fail
          with_reducible refine c1.out.mono ?_
          rintro e W2 ⟨rfl, h2, f2⟩
          have c2 := Lib.hid (k_xinsSt h2 hpm HND.out HLEN.out)
          clear h2 f2 c1
          go_wp2_with fail
          with_reducible refine c2.out.mono ?_
          rintro e W3 ⟨rfl, h3, f3⟩
          have H3 := Lib.hid h3
          clear h3 f3 c2
          go_upto_region 34 with fail
          try clear HL
          try clear HA
          try clear HQ
          try clear HND
          try clear PKM
          try clear PK0
          try clear hgx
          as_aux_lemma =>
           have HE := Lib.hid (show R.length ≤ 1000 from by have := HLJ.out; omega)
           obtain ⟨ad2, cap2, hg2R⟩ := H3.out.r
           obtain ⟨n2, hn2⟩ : ∃ n, (R).length = n := ⟨_, rfl⟩
           have HN2 := Lib.hid hn2
           have hcp2 := hg2R.st
           rw [hn2] at hcp2
           have DC := Lib.hid (fun V (hV : IsG V p ad2 cap2 R b) => And.intro (show V.cell? ⟨p, 0, none⟩ = some (.slice ad2 n2 cap2) from by have := hV.st.cell 0; rw [HN2.out] at this; exact this) (show V.cell? ⟨p, 1, none⟩ = some (.int .i64 (b : Nat)) from hV.st.cell 1))
           have HG := Lib.hid hg2R
           have hqp := Lib.hid H3.out.hq
           have CA := Lib.hid (k_all (H3.out.fr0 (Fr.refl [] _).drew))
           have GD := Lib.hid (hg2R.fr0 (Fr.refl [] _).drew)
           have hY := DC.out _ GD.out
           have SM := Lib.hid (fun V b1 b2 d1 c1 d2 c2 (h1 : RowV V b1 d1 c1 R) (h2 : RowV V b2 d2 c2 R) => (show Calls Tryz.prog 32 #[.slice d1 n2 c1, .slice d2 n2 c2] V fun e w' => e = .returned (.bool true) ∧ Fr [] V w' from by
             have := r14same h1 h2 (by have := HE.out; omega)
             rw [HN2.out] at this
             exact this))
           have DN := Lib.hid (HDONE.out _ _ _ H3.out (by have := HLJ.out; omega))
           clear hg2R hcp2 hn2
           try clear H1
           try clear BY1
           have e1 : (((R).headD 0 : Nat) : Int) = ((R).headD 0 : Nat) := rfl
           have CH := Lib.hid (fun V (hV : K7 w q p [] R b R b V) => k_hand hV)
           have CX := Lib.hid (fun V (hV : IsG V p ad2 cap2 R b) => xhand hV)
           have CB := Lib.hid (fun V (hV : K7 w q p [] R b R b V) => k_broom hV)
           have CL := Lib.hid (fun V (hV : K7 w q p [] R b R b V) => (show Calls Tryz.prog 68 #[.pointer (some ⟨q.m, 0, none⟩)] V fun e w' => e = .returned (.int .i64 n2) ∧ K7 w q p [] R b R b w' ∧ Fr q.blocks V w' from by
             have := k_len hV
             rw [HN2.out] at this
             exact this))
           have KF := Lib.hid (fun V (hV : K7 w q p [] R b R b V) => HDONE.out V _ _ hV (by have := HLJ.out; omega))
           rw [HN2.out] at CA
           generalize (R).headD 0 = hd at *
           have q1 : ((hd : Int) != hd) = false := by simp
           have q2 : (((b : Nat) : Int) != (b : Nat)) = false := by simp
           have q3 : ((n2 : Int) != n2) = false := by simp
           clear e1
           refine wp_region_held_drew (S := fun W => W.cell? ⟨p, 0, none⟩ = some (.slice ad2 n2 cap2) ∧ W.cell? ⟨p, 1, none⟩ = some (.int .i64 (b : Nat))) (by kernel_rfl) (hY) (fun yH => ?_)
           refine tkY 0 yH (h := ?_)
           refine tkY 1 yH (h := ?_)
           refine tkY 2 yH (h := ?_)
           refine tkY 3 yH (h := ?_)
           refine tkY 5 yH (h := ?_)
           refine tkY 6 yH (h := ?_)
           refine tkY 7 yH (h := ?_)
           refine tkY 8 yH (h := ?_)
           refine wpAnyH_ready (rs := [4]) (by kernel_rfl) (by simp) ?_
           refine AllReadyH.cons (o := ?oozl8) ?hizl8 (fun K hK => ?hczl8) AllReadyH.nil
           case hizl8 => (simp only [List.getElem?_toArray, List.getElem?_cons_zero, List.getElem?_cons_succ]; rfl)
           go_simp
           with_reducible refine CA.out.mono ?_
           rintro e U1 ⟨adA, cpA, rfl, rowA, hk, hf⟩
           have K1 := Lib.hid hk
           have G1 := Lib.hid (GD.out.fr hf hqp.out)
           have RA := Lib.hid rowA
           have hY := DC.out _ G1.out
           clear hk hf rowA
           go_wp2_with fail
           refine hK.out _ _ (hY) (fun yH => ?_)
           clear hK K
           try simp only [Act.put, List.setIfInBounds_toArray, List.set_cons_zero, List.set_cons_succ]
           refine wpAnyH_ready (rs := [9]) (by kernel_rfl) (by simp) ?_
           refine AllReadyH.cons (o := ?oozl9) ?hizl9 (fun K hK => ?hczl9) AllReadyH.nil
           case hizl9 => (simp only [List.getElem?_toArray, List.getElem?_cons_zero, List.getElem?_cons_succ]; rfl)
           go_simp
           with_reducible refine (SM.out _ _ _ _ _ _ _ RA.out G1.out.row).mono ?_
           rintro e U2 ⟨rfl, hf⟩
           have K2 := Lib.hid (K1.out.fr0 hf)
           have G2 := Lib.hid (G1.out.fr0 hf)
           have hY := DC.out _ G2.out
           clear hf
           go_wp2_with fail
           refine hK.out _ _ (hY) (fun yH => ?_)
           clear hK K
           try simp only [Act.put, List.setIfInBounds_toArray, List.set_cons_zero, List.set_cons_succ]
           refine tkY 10 yH (h := ?_)
           refine tkY 11 yH (h := ?_)
           refine tkY 12 yH (h := ?_)
           refine tkY 13 yH (h := ?_)
           refine tkY 15 yH (h := ?_)
           refine wpAnyH_ready (rs := [14]) (by kernel_rfl) (by simp) ?_
           refine AllReadyH.cons (o := ?oozl15) ?hizl15 (fun K hK => ?hczl15) AllReadyH.nil
           case hizl15 => (simp only [List.getElem?_toArray, List.getElem?_cons_zero, List.getElem?_cons_succ]; rfl)
           go_simp
           with_reducible refine (CH.out _ K2.out).mono ?_
           rintro e U3 ⟨rfl, hk, hf⟩
           have K3 := Lib.hid hk
           have G3 := Lib.hid (G2.out.fr hf hqp.out)
           have hY := DC.out _ G3.out
           clear hk hf
           go_wp2_with fail
           refine hK.out _ _ (hY) (fun yH => ?_)
           clear hK K
           try simp only [Act.put, List.setIfInBounds_toArray, List.set_cons_zero, List.set_cons_succ]
           refine wpAnyH_ready (rs := [16]) (by kernel_rfl) (by simp) ?_
           refine AllReadyH.cons (o := ?oozl16) ?hizl16 (fun K hK => ?hczl16) AllReadyH.nil
           case hizl16 => (simp only [List.getElem?_toArray, List.getElem?_cons_zero, List.getElem?_cons_succ]; rfl)
           go_simp
           with_reducible refine (CX.out _ G3.out).mono ?_
           rintro e U4 ⟨rfl, hf⟩
           have K4 := Lib.hid (K3.out.fr0 hf)
           have G4 := Lib.hid (G3.out.fr0 hf)
           have hY := DC.out _ G4.out
           clear hf
           go_wp2_with fail
           refine hK.out _ _ (hY) (fun yH => ?_)
           clear hK K
           try simp only [Act.put, List.setIfInBounds_toArray, List.set_cons_zero, List.set_cons_succ]
           refine tkY 17 yH (h := ?_)
           refine tkY 18 yH (h := ?_)
           refine tkY 19 yH (h := ?_)
           refine tkY 20 yH (h := ?_)
           refine tkY 22 yH (h := ?_)
           refine tkY 23 yH (h := ?_)
           refine tkY 24 yH (h := ?_)
           refine tkY 25 yH (h := ?_)
           refine wpAnyH_ready (rs := [21]) (by kernel_rfl) (by simp) ?_
           refine AllReadyH.cons (o := ?oozl25) ?hizl25 (fun K hK => ?hczl25) AllReadyH.nil
           case hizl25 => (simp only [List.getElem?_toArray, List.getElem?_cons_zero, List.getElem?_cons_succ]; rfl)
           go_simp
           with_reducible refine (CB.out _ K4.out).mono ?_
           rintro e U5 ⟨rfl, hk, hf⟩
           have K5 := Lib.hid hk
           have G5 := Lib.hid (G4.out.fr hf hqp.out)
           have hY := DC.out _ G5.out
           clear hk hf
           go_wp2_with fail
           refine hK.out _ _ (hY) (fun yH => ?_)
           clear hK K
           try simp only [Act.put, List.setIfInBounds_toArray, List.set_cons_zero, List.set_cons_succ]
           refine tkY 26 yH (h := ?_)
           refine tkY 27 yH (h := ?_)
           refine tkY 28 yH (h := ?_)
           refine tkY 29 yH (h := ?_)
           refine tkY 31 yH (h := ?_)
           refine tkY 32 yH (h := ?_)
           refine tkY 33 yH (h := ?_)
           refine tkY 34 yH (h := ?_)
           refine tkY 35 yH (h := ?_)
           refine wpAnyH_ready (rs := [30]) (by kernel_rfl) (by simp) ?_
           refine AllReadyH.cons (o := ?oozl35) ?hizl35 (fun K hK => ?hczl35) AllReadyH.nil
           case hizl35 => (simp only [List.getElem?_toArray, List.getElem?_cons_zero, List.getElem?_cons_succ]; rfl)
           go_simp
           with_reducible refine (CL.out _ K5.out).mono ?_
           rintro e U6 ⟨rfl, hk, hf⟩
           have K6 := Lib.hid hk
           have G6 := Lib.hid (G5.out.fr hf hqp.out)
           have hY := DC.out _ G6.out
           clear hk hf
           go_wp2_with fail
           refine hK.out _ _ (hY) (fun yH => ?_)
           clear hK K
           try simp only [Act.put, List.setIfInBounds_toArray, List.set_cons_zero, List.set_cons_succ]
           refine tkY 36 yH (h := ?_)
           refine tkY 37 yH (h := ?_)
           refine wpAnyH_done (by kernel_rfl) ?_ _
           try simp only [Act.put, List.getElem_toArray, List.getElem_cons_zero, List.getElem_cons_succ, List.setIfInBounds_toArray, List.set_cons_zero, List.set_cons_succ]
           go_wp2_with fail
           go_roundw
           case rel => exact ⟨j + 1, by omega, by go_num, Lib.hid (KF.out _ K6.out)⟩
           case measure => simp [intOf]; omega
      have b7 : (yk == 7) = false := by rw [beq_eq_false_iff_ne]; exact e7
      by_cases e8 : yk = 8
      · skip
        have b8 : (yk == 8) = true := by rw [e8]; rfl
        have c1 := Lib.hid (k_load H1.out yn hyn)
        go_wp2_with fail
        with_reducible refine c1.out.mono ?_
        rintro e W2 ⟨v, rfl, f2, h2, h2b⟩
        have BY2 := Lib.hid (BY1.out.fr f2 hgyq.out)
        have H2 := Lib.hid h2
        clear f2 h2 c1
        by_cases hv : v = 1
        · subst hv
          have cv : (((1 : Nat) : Int) != 1) = false := rfl
          clear h2b
          go_upto_region 34 with fail
          try clear HL
          try clear HA
          try clear HQ
          try clear HND
          try clear PKM
          try clear PK0
          try clear hgx
          as_aux_lemma =>
           have HE := Lib.hid (show R.length ≤ 1000 from by have := HLJ.out; omega)
           obtain ⟨ad2, cap2, hg2R⟩ := H2.out.r
           obtain ⟨n2, hn2⟩ : ∃ n, (R).length = n := ⟨_, rfl⟩
           have HN2 := Lib.hid hn2
           have hcp2 := hg2R.st
           rw [hn2] at hcp2
           have DC := Lib.hid (fun V (hV : IsG V p ad2 cap2 R b) => And.intro (show V.cell? ⟨p, 0, none⟩ = some (.slice ad2 n2 cap2) from by have := hV.st.cell 0; rw [HN2.out] at this; exact this) (show V.cell? ⟨p, 1, none⟩ = some (.int .i64 (b : Nat)) from hV.st.cell 1))
           have HG := Lib.hid hg2R
           have hqp := Lib.hid H2.out.hq
           have CA := Lib.hid (k_all (H2.out.fr0 (Fr.refl [] _).drew))
           have GD := Lib.hid (hg2R.fr0 (Fr.refl [] _).drew)
           have hY := DC.out _ GD.out
           have SM := Lib.hid (fun V b1 b2 d1 c1 d2 c2 (h1 : RowV V b1 d1 c1 R) (h2 : RowV V b2 d2 c2 R) => (show Calls Tryz.prog 32 #[.slice d1 n2 c1, .slice d2 n2 c2] V fun e w' => e = .returned (.bool true) ∧ Fr [] V w' from by
             have := r14same h1 h2 (by have := HE.out; omega)
             rw [HN2.out] at this
             exact this))
           have DN := Lib.hid (HDONE.out _ _ _ H2.out (by have := HLJ.out; omega))
           clear hg2R hcp2 hn2
           try clear H1
           try clear BY1
           have e1 : (((R).headD 0 : Nat) : Int) = ((R).headD 0 : Nat) := rfl
           have CH := Lib.hid (fun V (hV : K7 w q p [] R b R b V) => k_hand hV)
           have CX := Lib.hid (fun V (hV : IsG V p ad2 cap2 R b) => xhand hV)
           have CB := Lib.hid (fun V (hV : K7 w q p [] R b R b V) => k_broom hV)
           have CL := Lib.hid (fun V (hV : K7 w q p [] R b R b V) => (show Calls Tryz.prog 68 #[.pointer (some ⟨q.m, 0, none⟩)] V fun e w' => e = .returned (.int .i64 n2) ∧ K7 w q p [] R b R b w' ∧ Fr q.blocks V w' from by
             have := k_len hV
             rw [HN2.out] at this
             exact this))
           have KF := Lib.hid (fun V (hV : K7 w q p [] R b R b V) => HDONE.out V _ _ hV (by have := HLJ.out; omega))
           rw [HN2.out] at CA
           generalize (R).headD 0 = hd at *
           have q1 : ((hd : Int) != hd) = false := by simp
           have q2 : (((b : Nat) : Int) != (b : Nat)) = false := by simp
           have q3 : ((n2 : Int) != n2) = false := by simp
           clear e1
           refine wp_region_held_drew (S := fun W => W.cell? ⟨p, 0, none⟩ = some (.slice ad2 n2 cap2) ∧ W.cell? ⟨p, 1, none⟩ = some (.int .i64 (b : Nat))) (by kernel_rfl) (hY) (fun yH => ?_)
           refine tkY 0 yH (h := ?_)
           refine tkY 1 yH (h := ?_)
           refine tkY 2 yH (h := ?_)
           refine tkY 3 yH (h := ?_)
           refine tkY 5 yH (h := ?_)
           refine tkY 6 yH (h := ?_)
           refine tkY 7 yH (h := ?_)
           refine tkY 8 yH (h := ?_)
           refine wpAnyH_ready (rs := [4]) (by kernel_rfl) (by simp) ?_
           refine AllReadyH.cons (o := ?oozm8) ?hizm8 (fun K hK => ?hczm8) AllReadyH.nil
           case hizm8 => (simp only [List.getElem?_toArray, List.getElem?_cons_zero, List.getElem?_cons_succ]; rfl)
           go_simp
           with_reducible refine CA.out.mono ?_
           rintro e U1 ⟨adA, cpA, rfl, rowA, hk, hf⟩
           have K1 := Lib.hid hk
           have G1 := Lib.hid (GD.out.fr hf hqp.out)
           have RA := Lib.hid rowA
           have hY := DC.out _ G1.out
           clear hk hf rowA
           go_wp2_with fail
           refine hK.out _ _ (hY) (fun yH => ?_)
           clear hK K
           try simp only [Act.put, List.setIfInBounds_toArray, List.set_cons_zero, List.set_cons_succ]
           refine wpAnyH_ready (rs := [9]) (by kernel_rfl) (by simp) ?_
           refine AllReadyH.cons (o := ?oozm9) ?hizm9 (fun K hK => ?hczm9) AllReadyH.nil
           case hizm9 => (simp only [List.getElem?_toArray, List.getElem?_cons_zero, List.getElem?_cons_succ]; rfl)
           go_simp
           with_reducible refine (SM.out _ _ _ _ _ _ _ RA.out G1.out.row).mono ?_
           rintro e U2 ⟨rfl, hf⟩
           have K2 := Lib.hid (K1.out.fr0 hf)
           have G2 := Lib.hid (G1.out.fr0 hf)
           have hY := DC.out _ G2.out
           clear hf
           go_wp2_with fail
           refine hK.out _ _ (hY) (fun yH => ?_)
           clear hK K
           try simp only [Act.put, List.setIfInBounds_toArray, List.set_cons_zero, List.set_cons_succ]
           refine tkY 10 yH (h := ?_)
           refine tkY 11 yH (h := ?_)
           refine tkY 12 yH (h := ?_)
           refine tkY 13 yH (h := ?_)
           refine tkY 15 yH (h := ?_)
           refine wpAnyH_ready (rs := [14]) (by kernel_rfl) (by simp) ?_
           refine AllReadyH.cons (o := ?oozm15) ?hizm15 (fun K hK => ?hczm15) AllReadyH.nil
           case hizm15 => (simp only [List.getElem?_toArray, List.getElem?_cons_zero, List.getElem?_cons_succ]; rfl)
           go_simp
           with_reducible refine (CH.out _ K2.out).mono ?_
           rintro e U3 ⟨rfl, hk, hf⟩
           have K3 := Lib.hid hk
           have G3 := Lib.hid (G2.out.fr hf hqp.out)
           have hY := DC.out _ G3.out
           clear hk hf
           go_wp2_with fail
           refine hK.out _ _ (hY) (fun yH => ?_)
           clear hK K
           try simp only [Act.put, List.setIfInBounds_toArray, List.set_cons_zero, List.set_cons_succ]
           refine wpAnyH_ready (rs := [16]) (by kernel_rfl) (by simp) ?_
           refine AllReadyH.cons (o := ?oozm16) ?hizm16 (fun K hK => ?hczm16) AllReadyH.nil
           case hizm16 => (simp only [List.getElem?_toArray, List.getElem?_cons_zero, List.getElem?_cons_succ]; rfl)
           go_simp
           with_reducible refine (CX.out _ G3.out).mono ?_
           rintro e U4 ⟨rfl, hf⟩
           have K4 := Lib.hid (K3.out.fr0 hf)
           have G4 := Lib.hid (G3.out.fr0 hf)
           have hY := DC.out _ G4.out
           clear hf
           go_wp2_with fail
           refine hK.out _ _ (hY) (fun yH => ?_)
           clear hK K
           try simp only [Act.put, List.setIfInBounds_toArray, List.set_cons_zero, List.set_cons_succ]
           refine tkY 17 yH (h := ?_)
           refine tkY 18 yH (h := ?_)
           refine tkY 19 yH (h := ?_)
           refine tkY 20 yH (h := ?_)
           refine tkY 22 yH (h := ?_)
           refine tkY 23 yH (h := ?_)
           refine tkY 24 yH (h := ?_)
           refine tkY 25 yH (h := ?_)
           refine wpAnyH_ready (rs := [21]) (by kernel_rfl) (by simp) ?_
           refine AllReadyH.cons (o := ?oozm25) ?hizm25 (fun K hK => ?hczm25) AllReadyH.nil
           case hizm25 => (simp only [List.getElem?_toArray, List.getElem?_cons_zero, List.getElem?_cons_succ]; rfl)
           go_simp
           with_reducible refine (CB.out _ K4.out).mono ?_
           rintro e U5 ⟨rfl, hk, hf⟩
           have K5 := Lib.hid hk
           have G5 := Lib.hid (G4.out.fr hf hqp.out)
           have hY := DC.out _ G5.out
           clear hk hf
           go_wp2_with fail
           refine hK.out _ _ (hY) (fun yH => ?_)
           clear hK K
           try simp only [Act.put, List.setIfInBounds_toArray, List.set_cons_zero, List.set_cons_succ]
           refine tkY 26 yH (h := ?_)
           refine tkY 27 yH (h := ?_)
           refine tkY 28 yH (h := ?_)
           refine tkY 29 yH (h := ?_)
           refine tkY 31 yH (h := ?_)
           refine tkY 32 yH (h := ?_)
           refine tkY 33 yH (h := ?_)
           refine tkY 34 yH (h := ?_)
           refine tkY 35 yH (h := ?_)
           refine wpAnyH_ready (rs := [30]) (by kernel_rfl) (by simp) ?_
           refine AllReadyH.cons (o := ?oozm35) ?hizm35 (fun K hK => ?hczm35) AllReadyH.nil
           case hizm35 => (simp only [List.getElem?_toArray, List.getElem?_cons_zero, List.getElem?_cons_succ]; rfl)
           go_simp
           with_reducible refine (CL.out _ K5.out).mono ?_
           rintro e U6 ⟨rfl, hk, hf⟩
           have K6 := Lib.hid hk
           have G6 := Lib.hid (G5.out.fr hf hqp.out)
           have hY := DC.out _ G6.out
           clear hk hf
           go_wp2_with fail
           refine hK.out _ _ (hY) (fun yH => ?_)
           clear hK K
           try simp only [Act.put, List.setIfInBounds_toArray, List.set_cons_zero, List.set_cons_succ]
           refine tkY 36 yH (h := ?_)
           refine tkY 37 yH (h := ?_)
           refine wpAnyH_done (by kernel_rfl) ?_ _
           try simp only [Act.put, List.getElem_toArray, List.getElem_cons_zero, List.getElem_cons_succ, List.setIfInBounds_toArray, List.set_cons_zero, List.set_cons_succ]
           go_wp2_with fail
           go_roundw
           case rel => exact ⟨j + 1, by omega, by go_num, Lib.hid (KF.out _ K6.out)⟩
           case measure => simp [intOf]; omega
        · have cv : ((v : Int) != 1) = true := by rw [bne_iff_ne]; omega
          have c2 := Lib.hid (k_remBad (h2b hv))
          have k1 := BY2.out.cell 1
          simp only [List.getElem?_toArray, List.getElem?_cons_zero, List.getElem?_cons_succ] at k1
          clear h2b hv
          go_wp2_with fail
          with_reducible refine c2.out.mono ?_
          rintro e W3 ⟨rfl, h3, f3⟩
          have BY3 := Lib.hid (BY2.out.fr f3 hgyq.out)
          have c3 := Lib.hid (k_insBad h3)
          have k1 := BY3.out.cell 1
          simp only [List.getElem?_toArray, List.getElem?_cons_zero, List.getElem?_cons_succ] at k1
          clear h3 f3 c2
          go_wp2_with fail
          with_reducible refine c3.out.mono ?_
          rintro e W4 ⟨rfl, h4, f4⟩
          have H4 := Lib.hid h4.1
          clear h4 f4 c3
          go_upto_region 34 with fail
          try clear HL
          try clear HA
          try clear HQ
          try clear HND
          try clear PKM
          try clear PK0
          try clear hgx
          as_aux_lemma =>
           have HE := Lib.hid (show R.length ≤ 1000 from by have := HLJ.out; omega)
           obtain ⟨ad2, cap2, hg2R⟩ := H4.out.r
           obtain ⟨n2, hn2⟩ : ∃ n, (R).length = n := ⟨_, rfl⟩
           have HN2 := Lib.hid hn2
           have hcp2 := hg2R.st
           rw [hn2] at hcp2
           have DC := Lib.hid (fun V (hV : IsG V p ad2 cap2 R b) => And.intro (show V.cell? ⟨p, 0, none⟩ = some (.slice ad2 n2 cap2) from by have := hV.st.cell 0; rw [HN2.out] at this; exact this) (show V.cell? ⟨p, 1, none⟩ = some (.int .i64 (b : Nat)) from hV.st.cell 1))
           have HG := Lib.hid hg2R
           have hqp := Lib.hid H4.out.hq
           have CA := Lib.hid (k_all (H4.out.fr0 (Fr.refl [] _).drew))
           have GD := Lib.hid (hg2R.fr0 (Fr.refl [] _).drew)
           have hY := DC.out _ GD.out
           have SM := Lib.hid (fun V b1 b2 d1 c1 d2 c2 (h1 : RowV V b1 d1 c1 R) (h2 : RowV V b2 d2 c2 R) => (show Calls Tryz.prog 32 #[.slice d1 n2 c1, .slice d2 n2 c2] V fun e w' => e = .returned (.bool true) ∧ Fr [] V w' from by
             have := r14same h1 h2 (by have := HE.out; omega)
             rw [HN2.out] at this
             exact this))
           have DN := Lib.hid (HDONE.out _ _ _ H4.out (by have := HLJ.out; omega))
           clear hg2R hcp2 hn2
           try clear H1
           try clear BY1
           have e1 : (((R).headD 0 : Nat) : Int) = ((R).headD 0 : Nat) := rfl
           have CH := Lib.hid (fun V (hV : K7 w q p [] R b R b V) => k_hand hV)
           have CX := Lib.hid (fun V (hV : IsG V p ad2 cap2 R b) => xhand hV)
           have CB := Lib.hid (fun V (hV : K7 w q p [] R b R b V) => k_broom hV)
           have CL := Lib.hid (fun V (hV : K7 w q p [] R b R b V) => (show Calls Tryz.prog 68 #[.pointer (some ⟨q.m, 0, none⟩)] V fun e w' => e = .returned (.int .i64 n2) ∧ K7 w q p [] R b R b w' ∧ Fr q.blocks V w' from by
             have := k_len hV
             rw [HN2.out] at this
             exact this))
           have KF := Lib.hid (fun V (hV : K7 w q p [] R b R b V) => HDONE.out V _ _ hV (by have := HLJ.out; omega))
           rw [HN2.out] at CA
           generalize (R).headD 0 = hd at *
           have q1 : ((hd : Int) != hd) = false := by simp
           have q2 : (((b : Nat) : Int) != (b : Nat)) = false := by simp
           have q3 : ((n2 : Int) != n2) = false := by simp
           clear e1
           refine wp_region_held_drew (S := fun W => W.cell? ⟨p, 0, none⟩ = some (.slice ad2 n2 cap2) ∧ W.cell? ⟨p, 1, none⟩ = some (.int .i64 (b : Nat))) (by kernel_rfl) (hY) (fun yH => ?_)
           refine tkY 0 yH (h := ?_)
           refine tkY 1 yH (h := ?_)
           refine tkY 2 yH (h := ?_)
           refine tkY 3 yH (h := ?_)
           refine tkY 5 yH (h := ?_)
           refine tkY 6 yH (h := ?_)
           refine tkY 7 yH (h := ?_)
           refine tkY 8 yH (h := ?_)
           refine wpAnyH_ready (rs := [4]) (by kernel_rfl) (by simp) ?_
           refine AllReadyH.cons (o := ?oozn8) ?hizn8 (fun K hK => ?hczn8) AllReadyH.nil
           case hizn8 => (simp only [List.getElem?_toArray, List.getElem?_cons_zero, List.getElem?_cons_succ]; rfl)
           go_simp
           with_reducible refine CA.out.mono ?_
           rintro e U1 ⟨adA, cpA, rfl, rowA, hk, hf⟩
           have K1 := Lib.hid hk
           have G1 := Lib.hid (GD.out.fr hf hqp.out)
           have RA := Lib.hid rowA
           have hY := DC.out _ G1.out
           clear hk hf rowA
           go_wp2_with fail
           refine hK.out _ _ (hY) (fun yH => ?_)
           clear hK K
           try simp only [Act.put, List.setIfInBounds_toArray, List.set_cons_zero, List.set_cons_succ]
           refine wpAnyH_ready (rs := [9]) (by kernel_rfl) (by simp) ?_
           refine AllReadyH.cons (o := ?oozn9) ?hizn9 (fun K hK => ?hczn9) AllReadyH.nil
           case hizn9 => (simp only [List.getElem?_toArray, List.getElem?_cons_zero, List.getElem?_cons_succ]; rfl)
           go_simp
           with_reducible refine (SM.out _ _ _ _ _ _ _ RA.out G1.out.row).mono ?_
           rintro e U2 ⟨rfl, hf⟩
           have K2 := Lib.hid (K1.out.fr0 hf)
           have G2 := Lib.hid (G1.out.fr0 hf)
           have hY := DC.out _ G2.out
           clear hf
           go_wp2_with fail
           refine hK.out _ _ (hY) (fun yH => ?_)
           clear hK K
           try simp only [Act.put, List.setIfInBounds_toArray, List.set_cons_zero, List.set_cons_succ]
           refine tkY 10 yH (h := ?_)
           refine tkY 11 yH (h := ?_)
           refine tkY 12 yH (h := ?_)
           refine tkY 13 yH (h := ?_)
           refine tkY 15 yH (h := ?_)
           refine wpAnyH_ready (rs := [14]) (by kernel_rfl) (by simp) ?_
           refine AllReadyH.cons (o := ?oozn15) ?hizn15 (fun K hK => ?hczn15) AllReadyH.nil
           case hizn15 => (simp only [List.getElem?_toArray, List.getElem?_cons_zero, List.getElem?_cons_succ]; rfl)
           go_simp
           with_reducible refine (CH.out _ K2.out).mono ?_
           rintro e U3 ⟨rfl, hk, hf⟩
           have K3 := Lib.hid hk
           have G3 := Lib.hid (G2.out.fr hf hqp.out)
           have hY := DC.out _ G3.out
           clear hk hf
           go_wp2_with fail
           refine hK.out _ _ (hY) (fun yH => ?_)
           clear hK K
           try simp only [Act.put, List.setIfInBounds_toArray, List.set_cons_zero, List.set_cons_succ]
           refine wpAnyH_ready (rs := [16]) (by kernel_rfl) (by simp) ?_
           refine AllReadyH.cons (o := ?oozn16) ?hizn16 (fun K hK => ?hczn16) AllReadyH.nil
           case hizn16 => (simp only [List.getElem?_toArray, List.getElem?_cons_zero, List.getElem?_cons_succ]; rfl)
           go_simp
           with_reducible refine (CX.out _ G3.out).mono ?_
           rintro e U4 ⟨rfl, hf⟩
           have K4 := Lib.hid (K3.out.fr0 hf)
           have G4 := Lib.hid (G3.out.fr0 hf)
           have hY := DC.out _ G4.out
           clear hf
           go_wp2_with fail
           refine hK.out _ _ (hY) (fun yH => ?_)
           clear hK K
           try simp only [Act.put, List.setIfInBounds_toArray, List.set_cons_zero, List.set_cons_succ]
           refine tkY 17 yH (h := ?_)
           refine tkY 18 yH (h := ?_)
           refine tkY 19 yH (h := ?_)
           refine tkY 20 yH (h := ?_)
           refine tkY 22 yH (h := ?_)
           refine tkY 23 yH (h := ?_)
           refine tkY 24 yH (h := ?_)
           refine tkY 25 yH (h := ?_)
           refine wpAnyH_ready (rs := [21]) (by kernel_rfl) (by simp) ?_
           refine AllReadyH.cons (o := ?oozn25) ?hizn25 (fun K hK => ?hczn25) AllReadyH.nil
           case hizn25 => (simp only [List.getElem?_toArray, List.getElem?_cons_zero, List.getElem?_cons_succ]; rfl)
           go_simp
           with_reducible refine (CB.out _ K4.out).mono ?_
           rintro e U5 ⟨rfl, hk, hf⟩
           have K5 := Lib.hid hk
           have G5 := Lib.hid (G4.out.fr hf hqp.out)
           have hY := DC.out _ G5.out
           clear hk hf
           go_wp2_with fail
           refine hK.out _ _ (hY) (fun yH => ?_)
           clear hK K
           try simp only [Act.put, List.setIfInBounds_toArray, List.set_cons_zero, List.set_cons_succ]
           refine tkY 26 yH (h := ?_)
           refine tkY 27 yH (h := ?_)
           refine tkY 28 yH (h := ?_)
           refine tkY 29 yH (h := ?_)
           refine tkY 31 yH (h := ?_)
           refine tkY 32 yH (h := ?_)
           refine tkY 33 yH (h := ?_)
           refine tkY 34 yH (h := ?_)
           refine tkY 35 yH (h := ?_)
           refine wpAnyH_ready (rs := [30]) (by kernel_rfl) (by simp) ?_
           refine AllReadyH.cons (o := ?oozn35) ?hizn35 (fun K hK => ?hczn35) AllReadyH.nil
           case hizn35 => (simp only [List.getElem?_toArray, List.getElem?_cons_zero, List.getElem?_cons_succ]; rfl)
           go_simp
           with_reducible refine (CL.out _ K5.out).mono ?_
           rintro e U6 ⟨rfl, hk, hf⟩
           have K6 := Lib.hid hk
           have G6 := Lib.hid (G5.out.fr hf hqp.out)
           have hY := DC.out _ G6.out
           clear hk hf
           go_wp2_with fail
           refine hK.out _ _ (hY) (fun yH => ?_)
           clear hK K
           try simp only [Act.put, List.setIfInBounds_toArray, List.set_cons_zero, List.set_cons_succ]
           refine tkY 36 yH (h := ?_)
           refine tkY 37 yH (h := ?_)
           refine wpAnyH_done (by kernel_rfl) ?_ _
           try simp only [Act.put, List.getElem_toArray, List.getElem_cons_zero, List.getElem_cons_succ, List.setIfInBounds_toArray, List.set_cons_zero, List.set_cons_succ]
           go_wp2_with fail
           go_roundw
           case rel => exact ⟨j + 1, by omega, by go_num, Lib.hid (KF.out _ K6.out)⟩
           case measure => simp [intOf]; omega
      have b8 : (yk == 8) = false := by rw [beq_eq_false_iff_ne]; exact e8
      have c1 := Lib.hid (k_entry H1.out yc)
      go_wp2_with fail
      with_reducible refine c1.out.mono ?_
      rintro e W2 ⟨x, rfl, f2, ⟨hx, h2⟩ | ⟨hx, hxR, h2⟩⟩
      · subst hx
        have H2 := Lib.hid h2
        clear h2 f2 c1
        go_upto_region 34 with fail
        try clear HL
        try clear HA
        try clear HQ
        try clear HND
        try clear PKM
        try clear PK0
        try clear hgx
        as_aux_lemma =>
         have HE := Lib.hid (show R.length ≤ 1000 from by have := HLJ.out; omega)
         obtain ⟨ad2, cap2, hg2R⟩ := H2.out.r
         obtain ⟨n2, hn2⟩ : ∃ n, (R).length = n := ⟨_, rfl⟩
         have HN2 := Lib.hid hn2
         have hcp2 := hg2R.st
         rw [hn2] at hcp2
         have DC := Lib.hid (fun V (hV : IsG V p ad2 cap2 R b) => And.intro (show V.cell? ⟨p, 0, none⟩ = some (.slice ad2 n2 cap2) from by have := hV.st.cell 0; rw [HN2.out] at this; exact this) (show V.cell? ⟨p, 1, none⟩ = some (.int .i64 (b : Nat)) from hV.st.cell 1))
         have HG := Lib.hid hg2R
         have hqp := Lib.hid H2.out.hq
         have CA := Lib.hid (k_all (H2.out.fr0 (Fr.refl [] _).drew))
         have GD := Lib.hid (hg2R.fr0 (Fr.refl [] _).drew)
         have hY := DC.out _ GD.out
         have SM := Lib.hid (fun V b1 b2 d1 c1 d2 c2 (h1 : RowV V b1 d1 c1 R) (h2 : RowV V b2 d2 c2 R) => (show Calls Tryz.prog 32 #[.slice d1 n2 c1, .slice d2 n2 c2] V fun e w' => e = .returned (.bool true) ∧ Fr [] V w' from by
           have := r14same h1 h2 (by have := HE.out; omega)
           rw [HN2.out] at this
           exact this))
         have DN := Lib.hid (HDONE.out _ _ _ H2.out (by have := HLJ.out; omega))
         clear hg2R hcp2 hn2
         try clear H1
         try clear BY1
         have e1 : (((R).headD 0 : Nat) : Int) = ((R).headD 0 : Nat) := rfl
         have CH := Lib.hid (fun V (hV : K7 w q p [] R b R b V) => k_hand hV)
         have CX := Lib.hid (fun V (hV : IsG V p ad2 cap2 R b) => xhand hV)
         have CB := Lib.hid (fun V (hV : K7 w q p [] R b R b V) => k_broom hV)
         have CL := Lib.hid (fun V (hV : K7 w q p [] R b R b V) => (show Calls Tryz.prog 68 #[.pointer (some ⟨q.m, 0, none⟩)] V fun e w' => e = .returned (.int .i64 n2) ∧ K7 w q p [] R b R b w' ∧ Fr q.blocks V w' from by
           have := k_len hV
           rw [HN2.out] at this
           exact this))
         have KF := Lib.hid (fun V (hV : K7 w q p [] R b R b V) => HDONE.out V _ _ hV (by have := HLJ.out; omega))
         rw [HN2.out] at CA
         generalize (R).headD 0 = hd at *
         have q1 : ((hd : Int) != hd) = false := by simp
         have q2 : (((b : Nat) : Int) != (b : Nat)) = false := by simp
         have q3 : ((n2 : Int) != n2) = false := by simp
         clear e1
         refine wp_region_held_drew (S := fun W => W.cell? ⟨p, 0, none⟩ = some (.slice ad2 n2 cap2) ∧ W.cell? ⟨p, 1, none⟩ = some (.int .i64 (b : Nat))) (by kernel_rfl) (hY) (fun yH => ?_)
         refine tkY 0 yH (h := ?_)
         refine tkY 1 yH (h := ?_)
         refine tkY 2 yH (h := ?_)
         refine tkY 3 yH (h := ?_)
         refine tkY 5 yH (h := ?_)
         refine tkY 6 yH (h := ?_)
         refine tkY 7 yH (h := ?_)
         refine tkY 8 yH (h := ?_)
         refine wpAnyH_ready (rs := [4]) (by kernel_rfl) (by simp) ?_
         refine AllReadyH.cons (o := ?oozo8) ?hizo8 (fun K hK => ?hczo8) AllReadyH.nil
         case hizo8 => (simp only [List.getElem?_toArray, List.getElem?_cons_zero, List.getElem?_cons_succ]; rfl)
         go_simp
         with_reducible refine CA.out.mono ?_
         rintro e U1 ⟨adA, cpA, rfl, rowA, hk, hf⟩
         have K1 := Lib.hid hk
         have G1 := Lib.hid (GD.out.fr hf hqp.out)
         have RA := Lib.hid rowA
         have hY := DC.out _ G1.out
         clear hk hf rowA
         go_wp2_with fail
         refine hK.out _ _ (hY) (fun yH => ?_)
         clear hK K
         try simp only [Act.put, List.setIfInBounds_toArray, List.set_cons_zero, List.set_cons_succ]
         refine wpAnyH_ready (rs := [9]) (by kernel_rfl) (by simp) ?_
         refine AllReadyH.cons (o := ?oozo9) ?hizo9 (fun K hK => ?hczo9) AllReadyH.nil
         case hizo9 => (simp only [List.getElem?_toArray, List.getElem?_cons_zero, List.getElem?_cons_succ]; rfl)
         go_simp
         with_reducible refine (SM.out _ _ _ _ _ _ _ RA.out G1.out.row).mono ?_
         rintro e U2 ⟨rfl, hf⟩
         have K2 := Lib.hid (K1.out.fr0 hf)
         have G2 := Lib.hid (G1.out.fr0 hf)
         have hY := DC.out _ G2.out
         clear hf
         go_wp2_with fail
         refine hK.out _ _ (hY) (fun yH => ?_)
         clear hK K
         try simp only [Act.put, List.setIfInBounds_toArray, List.set_cons_zero, List.set_cons_succ]
         refine tkY 10 yH (h := ?_)
         refine tkY 11 yH (h := ?_)
         refine tkY 12 yH (h := ?_)
         refine tkY 13 yH (h := ?_)
         refine tkY 15 yH (h := ?_)
         refine wpAnyH_ready (rs := [14]) (by kernel_rfl) (by simp) ?_
         refine AllReadyH.cons (o := ?oozo15) ?hizo15 (fun K hK => ?hczo15) AllReadyH.nil
         case hizo15 => (simp only [List.getElem?_toArray, List.getElem?_cons_zero, List.getElem?_cons_succ]; rfl)
         go_simp
         with_reducible refine (CH.out _ K2.out).mono ?_
         rintro e U3 ⟨rfl, hk, hf⟩
         have K3 := Lib.hid hk
         have G3 := Lib.hid (G2.out.fr hf hqp.out)
         have hY := DC.out _ G3.out
         clear hk hf
         go_wp2_with fail
         refine hK.out _ _ (hY) (fun yH => ?_)
         clear hK K
         try simp only [Act.put, List.setIfInBounds_toArray, List.set_cons_zero, List.set_cons_succ]
         refine wpAnyH_ready (rs := [16]) (by kernel_rfl) (by simp) ?_
         refine AllReadyH.cons (o := ?oozo16) ?hizo16 (fun K hK => ?hczo16) AllReadyH.nil
         case hizo16 => (simp only [List.getElem?_toArray, List.getElem?_cons_zero, List.getElem?_cons_succ]; rfl)
         go_simp
         with_reducible refine (CX.out _ G3.out).mono ?_
         rintro e U4 ⟨rfl, hf⟩
         have K4 := Lib.hid (K3.out.fr0 hf)
         have G4 := Lib.hid (G3.out.fr0 hf)
         have hY := DC.out _ G4.out
         clear hf
         go_wp2_with fail
         refine hK.out _ _ (hY) (fun yH => ?_)
         clear hK K
         try simp only [Act.put, List.setIfInBounds_toArray, List.set_cons_zero, List.set_cons_succ]
         refine tkY 17 yH (h := ?_)
         refine tkY 18 yH (h := ?_)
         refine tkY 19 yH (h := ?_)
         refine tkY 20 yH (h := ?_)
         refine tkY 22 yH (h := ?_)
         refine tkY 23 yH (h := ?_)
         refine tkY 24 yH (h := ?_)
         refine tkY 25 yH (h := ?_)
         refine wpAnyH_ready (rs := [21]) (by kernel_rfl) (by simp) ?_
         refine AllReadyH.cons (o := ?oozo25) ?hizo25 (fun K hK => ?hczo25) AllReadyH.nil
         case hizo25 => (simp only [List.getElem?_toArray, List.getElem?_cons_zero, List.getElem?_cons_succ]; rfl)
         go_simp
         with_reducible refine (CB.out _ K4.out).mono ?_
         rintro e U5 ⟨rfl, hk, hf⟩
         have K5 := Lib.hid hk
         have G5 := Lib.hid (G4.out.fr hf hqp.out)
         have hY := DC.out _ G5.out
         clear hk hf
         go_wp2_with fail
         refine hK.out _ _ (hY) (fun yH => ?_)
         clear hK K
         try simp only [Act.put, List.setIfInBounds_toArray, List.set_cons_zero, List.set_cons_succ]
         refine tkY 26 yH (h := ?_)
         refine tkY 27 yH (h := ?_)
         refine tkY 28 yH (h := ?_)
         refine tkY 29 yH (h := ?_)
         refine tkY 31 yH (h := ?_)
         refine tkY 32 yH (h := ?_)
         refine tkY 33 yH (h := ?_)
         refine tkY 34 yH (h := ?_)
         refine tkY 35 yH (h := ?_)
         refine wpAnyH_ready (rs := [30]) (by kernel_rfl) (by simp) ?_
         refine AllReadyH.cons (o := ?oozo35) ?hizo35 (fun K hK => ?hczo35) AllReadyH.nil
         case hizo35 => (simp only [List.getElem?_toArray, List.getElem?_cons_zero, List.getElem?_cons_succ]; rfl)
         go_simp
         with_reducible refine (CL.out _ K5.out).mono ?_
         rintro e U6 ⟨rfl, hk, hf⟩
         have K6 := Lib.hid hk
         have G6 := Lib.hid (G5.out.fr hf hqp.out)
         have hY := DC.out _ G6.out
         clear hk hf
         go_wp2_with fail
         refine hK.out _ _ (hY) (fun yH => ?_)
         clear hK K
         try simp only [Act.put, List.setIfInBounds_toArray, List.set_cons_zero, List.set_cons_succ]
         refine tkY 36 yH (h := ?_)
         refine tkY 37 yH (h := ?_)
         refine wpAnyH_done (by kernel_rfl) ?_ _
         try simp only [Act.put, List.getElem_toArray, List.getElem_cons_zero, List.getElem_cons_succ, List.setIfInBounds_toArray, List.set_cons_zero, List.set_cons_succ]
         go_wp2_with fail
         go_roundw
         case rel => exact ⟨j + 1, by omega, by go_num, Lib.hid (KF.out _ K6.out)⟩
         case measure => simp [intOf]; omega
      · have cx : decide ((0 : Int) < x) = true := by simp only [decide_eq_true_eq]; omega
        have cx' : decide (0 < x) = true := by simp only [decide_eq_true_eq]; omega
        have c2 := Lib.hid (k_ins h2 hxR)
        have hl2 := Lib.hid (show (R ++ [x]).length ≤ j + 1 from by
          have := HLJ.out
          rw [List.length_append, List.length_singleton]; omega)
        have HXR := Lib.hid hxR
        clear h2 f2 c1 hx hxR
        go_wp2_with fail
        with_reducible refine c2.out.mono ?_
        rintro e W3 ⟨rfl, h3, f3⟩
        have c3 := Lib.hid (k_xins h3 HXR.out HLEN.out)
        clear h3 f3 c2
        go_wp2_with fail
        with_reducible refine c3.out.mono ?_
        rintro e W4 ⟨rfl, h4, f4⟩
        have H4 := Lib.hid h4
        clear h4 f4 c3 H1 PKM PK0 HXR
        generalize R ++ [x] = R5 at *
        generalize insB R b x = b5 at *
        go_upto_region 34 with fail
        try clear HL
        try clear HA
        try clear HQ
        try clear HND
        try clear PKM
        try clear PK0
        try clear hgx
        as_aux_lemma =>
         have HE := Lib.hid (show R5.length ≤ 1000 from by have := HLJ.out; have := hl2.out; omega)
         obtain ⟨ad2, cap2, hg2R⟩ := H4.out.r
         obtain ⟨n2, hn2⟩ : ∃ n, (R5).length = n := ⟨_, rfl⟩
         have HN2 := Lib.hid hn2
         have hcp2 := hg2R.st
         rw [hn2] at hcp2
         have DC := Lib.hid (fun V (hV : IsG V p ad2 cap2 R5 b5) => And.intro (show V.cell? ⟨p, 0, none⟩ = some (.slice ad2 n2 cap2) from by have := hV.st.cell 0; rw [HN2.out] at this; exact this) (show V.cell? ⟨p, 1, none⟩ = some (.int .i64 (b5 : Nat)) from hV.st.cell 1))
         have HG := Lib.hid hg2R
         have hqp := Lib.hid H4.out.hq
         have CA := Lib.hid (k_all (H4.out.fr0 (Fr.refl [] _).drew))
         have GD := Lib.hid (hg2R.fr0 (Fr.refl [] _).drew)
         have hY := DC.out _ GD.out
         have SM := Lib.hid (fun V b1 b2 d1 c1 d2 c2 (h1 : RowV V b1 d1 c1 R5) (h2 : RowV V b2 d2 c2 R5) => (show Calls Tryz.prog 32 #[.slice d1 n2 c1, .slice d2 n2 c2] V fun e w' => e = .returned (.bool true) ∧ Fr [] V w' from by
           have := r14same h1 h2 (by have := HE.out; omega)
           rw [HN2.out] at this
           exact this))
         have DN := Lib.hid (HDONE.out _ _ _ H4.out (by have := HLJ.out; have := hl2.out; omega))
         clear hg2R hcp2 hn2
         try clear H1
         try clear BY1
         have e1 : (((R5).headD 0 : Nat) : Int) = ((R5).headD 0 : Nat) := rfl
         have CH := Lib.hid (fun V (hV : K7 w q p [] R5 b5 R5 b5 V) => k_hand hV)
         have CX := Lib.hid (fun V (hV : IsG V p ad2 cap2 R5 b5) => xhand hV)
         have CB := Lib.hid (fun V (hV : K7 w q p [] R5 b5 R5 b5 V) => k_broom hV)
         have CL := Lib.hid (fun V (hV : K7 w q p [] R5 b5 R5 b5 V) => (show Calls Tryz.prog 68 #[.pointer (some ⟨q.m, 0, none⟩)] V fun e w' => e = .returned (.int .i64 n2) ∧ K7 w q p [] R5 b5 R5 b5 w' ∧ Fr q.blocks V w' from by
           have := k_len hV
           rw [HN2.out] at this
           exact this))
         have KF := Lib.hid (fun V (hV : K7 w q p [] R5 b5 R5 b5 V) => HDONE.out V _ _ hV (by have := HLJ.out; have := hl2.out; omega))
         rw [HN2.out] at CA
         generalize (R5).headD 0 = hd at *
         have q1 : ((hd : Int) != hd) = false := by simp
         have q2 : (((b5 : Nat) : Int) != (b5 : Nat)) = false := by simp
         have q3 : ((n2 : Int) != n2) = false := by simp
         clear e1
         refine wp_region_held_drew (S := fun W => W.cell? ⟨p, 0, none⟩ = some (.slice ad2 n2 cap2) ∧ W.cell? ⟨p, 1, none⟩ = some (.int .i64 (b5 : Nat))) (by kernel_rfl) (hY) (fun yH => ?_)
         refine tkY 0 yH (h := ?_)
         refine tkY 1 yH (h := ?_)
         refine tkY 2 yH (h := ?_)
         refine tkY 3 yH (h := ?_)
         refine tkY 5 yH (h := ?_)
         refine tkY 6 yH (h := ?_)
         refine tkY 7 yH (h := ?_)
         refine tkY 8 yH (h := ?_)
         refine wpAnyH_ready (rs := [4]) (by kernel_rfl) (by simp) ?_
         refine AllReadyH.cons (o := ?oozp8) ?hizp8 (fun K hK => ?hczp8) AllReadyH.nil
         case hizp8 => (simp only [List.getElem?_toArray, List.getElem?_cons_zero, List.getElem?_cons_succ]; rfl)
         go_simp
         with_reducible refine CA.out.mono ?_
         rintro e U1 ⟨adA, cpA, rfl, rowA, hk, hf⟩
         have K1 := Lib.hid hk
         have G1 := Lib.hid (GD.out.fr hf hqp.out)
         have RA := Lib.hid rowA
         have hY := DC.out _ G1.out
         clear hk hf rowA
         go_wp2_with fail
         refine hK.out _ _ (hY) (fun yH => ?_)
         clear hK K
         try simp only [Act.put, List.setIfInBounds_toArray, List.set_cons_zero, List.set_cons_succ]
         refine wpAnyH_ready (rs := [9]) (by kernel_rfl) (by simp) ?_
         refine AllReadyH.cons (o := ?oozp9) ?hizp9 (fun K hK => ?hczp9) AllReadyH.nil
         case hizp9 => (simp only [List.getElem?_toArray, List.getElem?_cons_zero, List.getElem?_cons_succ]; rfl)
         go_simp
         with_reducible refine (SM.out _ _ _ _ _ _ _ RA.out G1.out.row).mono ?_
         rintro e U2 ⟨rfl, hf⟩
         have K2 := Lib.hid (K1.out.fr0 hf)
         have G2 := Lib.hid (G1.out.fr0 hf)
         have hY := DC.out _ G2.out
         clear hf
         go_wp2_with fail
         refine hK.out _ _ (hY) (fun yH => ?_)
         clear hK K
         try simp only [Act.put, List.setIfInBounds_toArray, List.set_cons_zero, List.set_cons_succ]
         refine tkY 10 yH (h := ?_)
         refine tkY 11 yH (h := ?_)
         refine tkY 12 yH (h := ?_)
         refine tkY 13 yH (h := ?_)
         refine tkY 15 yH (h := ?_)
         refine wpAnyH_ready (rs := [14]) (by kernel_rfl) (by simp) ?_
         refine AllReadyH.cons (o := ?oozp15) ?hizp15 (fun K hK => ?hczp15) AllReadyH.nil
         case hizp15 => (simp only [List.getElem?_toArray, List.getElem?_cons_zero, List.getElem?_cons_succ]; rfl)
         go_simp
         with_reducible refine (CH.out _ K2.out).mono ?_
         rintro e U3 ⟨rfl, hk, hf⟩
         have K3 := Lib.hid hk
         have G3 := Lib.hid (G2.out.fr hf hqp.out)
         have hY := DC.out _ G3.out
         clear hk hf
         go_wp2_with fail
         refine hK.out _ _ (hY) (fun yH => ?_)
         clear hK K
         try simp only [Act.put, List.setIfInBounds_toArray, List.set_cons_zero, List.set_cons_succ]
         refine wpAnyH_ready (rs := [16]) (by kernel_rfl) (by simp) ?_
         refine AllReadyH.cons (o := ?oozp16) ?hizp16 (fun K hK => ?hczp16) AllReadyH.nil
         case hizp16 => (simp only [List.getElem?_toArray, List.getElem?_cons_zero, List.getElem?_cons_succ]; rfl)
         go_simp
         with_reducible refine (CX.out _ G3.out).mono ?_
         rintro e U4 ⟨rfl, hf⟩
         have K4 := Lib.hid (K3.out.fr0 hf)
         have G4 := Lib.hid (G3.out.fr0 hf)
         have hY := DC.out _ G4.out
         clear hf
         go_wp2_with fail
         refine hK.out _ _ (hY) (fun yH => ?_)
         clear hK K
         try simp only [Act.put, List.setIfInBounds_toArray, List.set_cons_zero, List.set_cons_succ]
         refine tkY 17 yH (h := ?_)
         refine tkY 18 yH (h := ?_)
         refine tkY 19 yH (h := ?_)
         refine tkY 20 yH (h := ?_)
         refine tkY 22 yH (h := ?_)
         refine tkY 23 yH (h := ?_)
         refine tkY 24 yH (h := ?_)
         refine tkY 25 yH (h := ?_)
         refine wpAnyH_ready (rs := [21]) (by kernel_rfl) (by simp) ?_
         refine AllReadyH.cons (o := ?oozp25) ?hizp25 (fun K hK => ?hczp25) AllReadyH.nil
         case hizp25 => (simp only [List.getElem?_toArray, List.getElem?_cons_zero, List.getElem?_cons_succ]; rfl)
         go_simp
         with_reducible refine (CB.out _ K4.out).mono ?_
         rintro e U5 ⟨rfl, hk, hf⟩
         have K5 := Lib.hid hk
         have G5 := Lib.hid (G4.out.fr hf hqp.out)
         have hY := DC.out _ G5.out
         clear hk hf
         go_wp2_with fail
         refine hK.out _ _ (hY) (fun yH => ?_)
         clear hK K
         try simp only [Act.put, List.setIfInBounds_toArray, List.set_cons_zero, List.set_cons_succ]
         refine tkY 26 yH (h := ?_)
         refine tkY 27 yH (h := ?_)
         refine tkY 28 yH (h := ?_)
         refine tkY 29 yH (h := ?_)
         refine tkY 31 yH (h := ?_)
         refine tkY 32 yH (h := ?_)
         refine tkY 33 yH (h := ?_)
         refine tkY 34 yH (h := ?_)
         refine tkY 35 yH (h := ?_)
         refine wpAnyH_ready (rs := [30]) (by kernel_rfl) (by simp) ?_
         refine AllReadyH.cons (o := ?oozp35) ?hizp35 (fun K hK => ?hczp35) AllReadyH.nil
         case hizp35 => (simp only [List.getElem?_toArray, List.getElem?_cons_zero, List.getElem?_cons_succ]; rfl)
         go_simp
         with_reducible refine (CL.out _ K5.out).mono ?_
         rintro e U6 ⟨rfl, hk, hf⟩
         have K6 := Lib.hid hk
         have G6 := Lib.hid (G5.out.fr hf hqp.out)
         have hY := DC.out _ G6.out
         clear hk hf
         go_wp2_with fail
         refine hK.out _ _ (hY) (fun yH => ?_)
         clear hK K
         try simp only [Act.put, List.setIfInBounds_toArray, List.set_cons_zero, List.set_cons_succ]
         refine tkY 36 yH (h := ?_)
         refine tkY 37 yH (h := ?_)
         refine wpAnyH_done (by kernel_rfl) ?_ _
         try simp only [Act.put, List.getElem_toArray, List.getElem_cons_zero, List.getElem_cons_succ, List.setIfInBounds_toArray, List.set_cons_zero, List.set_cons_succ]
         go_wp2_with fail
         go_roundw
         case rel => exact ⟨j + 1, by omega, by go_num, Lib.hid (KF.out _ K6.out)⟩
         case measure => simp [intOf]; omega
    · have b1 : decide ((j : Int) < n) = false := by simp; omega
      have b1' : decide (j < n) = false := by simp; omega
      have FK := Lib.hid (show Fr [] w wr from by
        obtain ⟨R, b, h, _⟩ := hK.out
        exact h.f)
      have hL := HL.out _ FK.out
      clear hlt hK
      go_wp2_with fail
      with_reducible refine hL.mono ?_
      rintro e w4 ⟨rfl, f4⟩
      go_wp2_with fail
      go_ret
      exact ⟨rfl, FK.out.trans f4⟩
theorem walk_rplaysW (w : World) (h : TabM w ∧ Tabs w) (a : Option Addr) (c : Nat) (l : List A17) (hl : ActA17 w a c l) : Calls Tryz.prog 11 #[.slice a l.length c] w fun e w' => e = .returned (.bool true) ∧ Fr [] w w' := walk_rplays w h.1 h.2 a c l hl
end
end Go.Proofs.YtkapkbiccppldaaGreatDoor
