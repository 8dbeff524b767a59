/- law22.ChainBack: the walk. -/
import Derived.Test.YtellbfamofilaaaGreatDoorMS
import Derived.Test.YtellbfamofilaaaGreatDoorMJ
import Derived.Test.YtellbfamofilaaaGreatDoorKT
import Derived.BigQuiet
namespace Go.Proofs.YtellbfamofilaaaGreatDoor
set_option linter.unusedVariables false
set_option linter.unusedSimpArgs false
open Go.RowKit

section
variable {w0 w W W' : World} {q : MH} {u0 : TM} {l : List Nat} {par refs own : Nat → Nat} {nm : Nat → List (List Nat)} {fr : Gh} {N : List (List Nat)} {k j at_ : Nat} {lj : List Nat} {parj : Nat → Nat} {nmj : Nat → List (List Nat)} {frj g0 : Gh}
/-- What was grown is dropped: all is as it was. -/
theorem GwG.drop (g : GwG w0 q u0 l par own nm N k j at_ lj parj nmj frj g0 W) (hF : Firm own par l) (hk : k + j = N.length) :
    Calls Tryz.prog 37 #[.pointer (some ⟨q.m, 0, none⟩), .int .i64 at_] W fun e w' => e = .returned (.tuple #[.int .i64 j, .int .i64 0]) ∧ Fr q.blocks W w' ∧ ∃ fr1, CG w0 q u0 l par own nm fr1 w' ∧ fr1.T = g0.T := by
  by_cases ha : at_ = 0
  · subst ha
    have h0 : k + j = 0 := by
      have := congrArg List.length g.ew
      rw [g.cp.cp.z, sfx_len (by omega)] at this
      exact this.symm
    have hj : j = 0 := by omega
    subst hj
    refine c_drop0.mono fun e w' ⟨he, hw⟩ => ?_
    subst hw
    exact ⟨he, Fr.refl _ _, frj, g.undo0 (by omega) g.cp, g.gh⟩
  · refine (cg_drop g.cp (g.pl.resolve_left ha) (own at_) (ownP_at own ha)).mono fun e w' ⟨n, l1, fr1, h1, h2, h3, h4, h5, h6⟩ => ?_
    obtain ⟨rfl, h7⟩ := g.undo hF ha h3 h4
    have hn : n = j := by have := g.len; omega
    subst hn
    exact ⟨h1, h2, fr1, h7, by rw [h6.2.2]; exact g.gh⟩
end
section
set_option maxRecDepth 100000 in
set_option maxHeartbeats 16000000 in
theorem walk_cback (w : World) (hM : TabM w) (hT : Tabs w) (ad : Option Addr) (cap : Nat) (l : List A22) (hA : ActA22 w ad cap l) (ma : Option Addr) (mc : Nat) (ml : List (List Nat)) (hMo : StrA w ma ml) : Calls Tryz.prog 7 #[.slice ad l.length cap, .slice ma ml.length mc] w fun e w' => e = .returned (.bool true) ∧ Fr [] w w' := by
  have HGo := Lib.hid (fun V (hV : Fr [] w V) => (show Calls Tryz.prog 26 #[] V fun e w' => e = .returned (.bool true) ∧ Fr [] V w' from grows22 V (hM.fr hV (by simp)) (hT.fr hV (by simp))))
  have HF := Lib.hid (fun V (hV : Fr [] w V) => fresh22 V (hM.fr hV (by simp)) (hT.fr hV (by simp)))
  have HW := Lib.hid (few22 w 0 ad cap l hA)
  have HA := Lib.hid hA
  have hle := hA.len
  obtain ⟨n, hn⟩ : ∃ n, l.length = n := ⟨_, rfl⟩
  have HN := Lib.hid hn
  rw [hn] at hle ⊢
  rw [hn] at HW
  clear hn hA hM hT
  have HMoF := Lib.hid (fun V (hV : Fr [] w V) => few4 V ma mc ml (hMo.fr hV) 130 1000 (by decide) (by decide))
  have HMoS := Lib.hid hMo
  obtain ⟨mn, hmn⟩ : ∃ mn, ml.length = mn := ⟨_, rfl⟩
  have HMN := Lib.hid hmn
  rw [hmn]
  have HMoF := Lib.hid (fun V (hV : Fr [] w V) => (show Calls Tryz.prog 35 #[.slice ma mn mc, .int .i64 130, .int .i64 1000] V (Few4 ml 130 1000 V) from by
    have := HMoF.out V hV
    rw [hmn] at this
    exact this))
  clear hmn hMo
  go_enter Tryz.func7, Tryz.ntmps7
  go_wp2_with fail
  with_reducible refine HW.out.mono ?_
  rintro e wa ⟨bf, rfl, fa, hbf⟩
  have FA := Lib.hid fa
  clear fa HW
  cases bf with
  | false =>
    clear hbf
    go_wp2_with fail
    with_reducible refine (HGo.out _ FA.out).mono ?_
    rintro e w1 ⟨rfl, f1⟩
    have F1 := Lib.hid (FA.out.trans f1)
    clear f1
    go_wp2_with fail
    go_ret
    exact ⟨rfl, F1.out⟩
  | true =>
    have hn60 := (hbf rfl).1
    rw [HN.out] at hn60
    have HFew := Lib.hid (hbf rfl).2
    clear hbf
    go_wp2_with fail
    with_reducible refine (HMoF.out _ FA.out).mono ?_
    rintro e wb ⟨b2, rfl, fb, hb2⟩
    have FB := Lib.hid (FA.out.trans fb)
    clear fb FA HMoF
    cases b2 with
    | false =>
      clear hb2
      go_wp2_with fail
      with_reducible refine (HGo.out _ FB.out).mono ?_
      rintro e w1 ⟨rfl, f1⟩
      have F1 := Lib.hid (FB.out.trans f1)
      clear f1
      go_wp2_with fail
      go_ret
      exact ⟨rfl, F1.out⟩
    | true =>
      obtain ⟨hm130, hmw⟩ := hb2 rfl
      have hmw2 : wireN ml ≤ 1131 := by omega
      have HMW := Lib.hid (And.intro hm130 hmw2)
      rw [HMN.out] at hm130
      have hf := HF.out _ FB.out
      clear hb2 HF hmw hmw2
      go_wp2_with fail
      with_reducible refine hf.mono ?_
      rintro e w1 ⟨q, u0, rfl, n1, -, hq, f1⟩
      have HQ := Lib.hid (fun k hk => (show w.heap.size ≤ k from Nat.le_trans FB.out.size (hq k hk)))
      have F1 := Lib.hid (FB.out.trans f1)
      have K1 := Lib.hid (show K22 wb q u0 0 w1 from ⟨[], _, _, _, _, CP.start n1, fun _ => Nat.le_refl _⟩)
      clear n1 hq f1 hf FB
      go_wp2_with fail
      go_loopg [6] (n + 1) (fun gk v6 W => ∃ i : Nat, v6 = .int .i64 i ∧ (i + gk = n + 1 ∧ i ≤ n) ∧ Hid (K22 wb q u0 i W) ∧ Hid (Fr [] w W))
      case atStart => exact ⟨0, rfl, by omega, K1, F1⟩
      case round =>
        clear K1 F1
        obtain ⟨i, rfl, hi, KH, F3⟩ := hrel
        obtain ⟨G, hG⟩ : ∃ G, G = gk := ⟨_, rfl⟩
        subst hG
        by_cases hlt : i < n
        · have b6 : decide ((i : Int) < n) = true := by simp; omega
          have b6' : decide (i < n) = true := by simp; omega
          have hL : i < l.length := by rw [HN.out]; exact hlt
          obtain ⟨B, off, rfl, hBl, hr⟩ := HA.out.row (by omega)
          have hrj := hr i hL
          have hok := HA.out.each _ (List.getElem_mem hL)
          have hfe := HFew.out _ (List.getElem_mem hL)
          generalize l[i]'hL = d at *
          obtain ⟨dk, dn, da, dc, dl⟩ := d
          have hc2 := hrj 2 (by decide)
          have hs := hok.s
          have hcd := hok.c
          simp only [A22.cells, List.getElem?_cons_succ, List.getElem?_cons_zero] at hc2 hs hcd hfe
          have HC2 := Lib.hid (fun W (hW : Fr [] w W) => (hW.cell (p := ⟨B, off + i * 3 + 2, none⟩) hBl (by simp)).trans hc2)
          have HSA := Lib.hid (fun W (hW : Fr [] w W) => hs.fr hW)
          have HSq := Lib.hid (fun (h0 : 0 < dl.length) g o (e : da = some ⟨g, o, none⟩) => (show g ∉ q.blocks from fun hm => by
            obtain ⟨g', o', e', _, hg⟩ := hs.at_ 0 h0
            rw [e'] at e
            injection e with e
            injection e with e1
            subst e1
            have := HQ.out _ hm
            omega))
          obtain ⟨l0, par, own, nm, fr, hCP, hown⟩ := KH.out
          have HGr := Lib.hid (grown22 hCP da dc dl (hs.fr F3.out) HSq.out hfe.2 hfe.1 (fun y => by have := hown y; omega))
          have HOw := Lib.hid (fun at_ => (show ∀ y, ownP own at_ y ≤ i + 1 from fun y => by have := ownP_le own at_ y; have := hown y; omega))
          have hl130 := hfe.1
          have c2 := HC2.out _ F3.out
          obtain ⟨nn, hnn⟩ : ∃ nn, dl.length = nn := ⟨_, rfl⟩
          rw [hnn] at c2 hl130 HC2 HGr hcd
          have HNN := Lib.hid hnn
          have i0 : (0 : Int) ≤ i := by omega
          have i1 : (i : Int) < n := by omega
          have wi : IntKind.i64.wrap ((i : Int) + 1) = (i : Int) + 1 := IntWalk.i64_in _ (by omega)
          clear hr hrj hok hc2 hs hfe hnn hL hCP hown KH
          go_wp2_with fail
          with_reducible refine HGr.out.mono ?_
          rintro e w2 ⟨f2, ⟨rfl, -, fr1, h2⟩ | ⟨hck, at_, n2, k2, a2, rfl, hkn, -, lj, parj, nmj, frj, h2⟩⟩
          · have K2 := Lib.hid (show K22 wb q u0 (i + 1) w2 from ⟨l0, par, own, nm, fr1, h2, fun y => by have := HOw.out 0 y; have := ownP_ge own 0 y; omega⟩)
            have F2 := Lib.hid (F3.out.step f2 (fun k hk => .inr (HQ.out k hk)))
            clear f2 h2 HGr F3 c2
            go_wp2_with fail
            go_roundg (G - 1)
            case measure => omega
            case rel => exact ⟨i + 1, by go_num, by omega, K2, F2⟩
          · have K2 := Lib.hid (show K22 wb q u0 (i + 1) w2 from ⟨lj, parj, _, nmj, frj, h2.cp, HOw.out at_⟩)
            have F2 := Lib.hid (F3.out.step f2 (fun k hk => .inr (HQ.out k hk)))
            have bz : decide ((n2 : Int) < 0) = false := by simp
            clear f2 h2 HGr F3 c2 hck
            go_wp2_with fail
            go_roundg (G - 1)
            case measure => omega
            case rel => exact ⟨i + 1, by go_num, by omega, K2, F2⟩
        · obtain rfl : i = n := by omega
          have b6 : decide ((i : Int) < i) = false := by simp
          have b6' : decide (i < i) = false := by simp
          obtain ⟨l0, par, own, nm, n0, hCP, hown⟩ := KH.out
          have HFm := Lib.hid hCP.firm
          have HOwn := Lib.hid hown
          obtain ⟨fr, -, hCG⟩ := hCP.cg
          have HCo := Lib.hid (cg_count hCG)
          have HSl := Lib.hid (fun V (hV : CG wb q u0 l0 par own nm fr V) => cg_slots hV)
          have HMq := Lib.hid (show 0 < ml.length → ∀ g o, ma = some ⟨g, o, none⟩ → g ∉ q.blocks from fun h0 g o e hm => by
            obtain ⟨g', o', e', _, hg⟩ := HMoS.out.at_ 0 h0
            rw [e'] at e
            injection e with e
            injection e with e1
            subst e1
            have := HQ.out _ hm
            omega)
          have HGr := Lib.hid (fun V (hV : CG wb q u0 l0 par own nm fr V) (hF : Fr [] w V) => (show Calls Tryz.prog 29 #[.pointer (some ⟨q.m, 0, none⟩), .slice ma mn mc] V fun e w' => Fr q.blocks V w' ∧ GrG wb q u0 l0 par own nm fr ml e w' from by
            have := grown22g hV ma mc ml (HMoS.out.fr hF) HMq.out HMW.out.2 HMW.out.1 (fun y => by have := HOwn.out y; omega)
            rw [HMN.out] at this
            exact this))
          generalize hll : l0.length = ll at *
          have HLL := Lib.hid hll
          clear hCP hown KH hCG hll
          go_wp2_with fail
          with_reducible refine HCo.out.mono ?_
          rintro e w3 ⟨rfl, h3, f3⟩
          have F4 := Lib.hid (F3.out.step f3 (fun k hk => .inr (HQ.out k hk)))
          have HSl3 := Lib.hid (HSl.out _ h3)
          have OK3 := Lib.hid h3.cp.bok
          clear h3 f3 F3 HCo
          go_wp2_with fail
          with_reducible refine HSl3.out.mono ?_
          rintro e w4 ⟨aso, cso, rfl, hS4, h4, f4⟩
          have F5 := Lib.hid (F4.out.step f4 (fun k hk => .inr (HQ.out k hk)))
          have S4 := Lib.hid hS4
          have HGr4 := Lib.hid (HGr.out _ h4 F5.out)
          have hQ3 := Lib.hid (fun k hk => (show k < w3.heap.size from OK3.out.q k hk))
          clear hS4 h4 f4 F4 HSl3 HGr OK3
          go_wp2_with fail
          with_reducible refine HGr4.out.mono ?_
          rintro e w5 ⟨f5, ⟨rfl, -, fr1, h5⟩ | ⟨hck, at_, n2, k2, a2, rfl, hkn, -, lj, parj, nmj, frj, h5⟩⟩
          · have F6 := Lib.hid (F5.out.step f5 (fun k hk => .inr (HQ.out k hk)))
            clear f5 h5 HGr4 F5 S4
            go_wp2_with fail
            with_reducible refine (HGo.out _ F6.out).mono ?_
            rintro e w6 ⟨rfl, f6⟩
            have F7 := Lib.hid (F6.out.trans f6)
            clear f6
            go_wp2_with fail
            go_ret
            exact ⟨rfl, F7.out⟩
          · have F6 := Lib.hid (F5.out.step f5 (fun k hk => .inr (HQ.out k hk)))
            have S5 := Lib.hid (S4.out.fr f5 hQ3.out)
            have HDr := Lib.hid (h5.drop HFm.out (by rw [lowN_len]; exact hkn))
            clear f5 h5 HGr4 F5 S4 hck hkn
            go_wp2_with fail
            with_reducible refine HDr.out.mono ?_
            rintro e w6 ⟨rfl, f6, fr6, h6, hT6⟩
            have F7 := Lib.hid (F6.out.step f6 (fun k hk => .inr (HQ.out k hk)))
            have S6 := Lib.hid (S5.out.fr f6 hQ3.out)
            have HSl6 := Lib.hid (cg_slots h6)
            have HT6 := Lib.hid hT6
            have OK6 := Lib.hid h6.cp.bok
            clear f6 h6 hT6 HDr F6 S5
            go_wp2_with fail
            with_reducible refine HSl6.out.mono ?_
            rintro e w7 ⟨an, cn, rfl, hS7, h7, f7⟩
            have F8 := Lib.hid (F7.out.step f7 (fun k hk => .inr (HQ.out k hk)))
            have S7 := Lib.hid (S6.out.fr f7 hQ3.out)
            have N7 := Lib.hid (show SlR w7 an fr.T w6.heap.size from by rw [← HT6.out]; exact hS7)
            have hcc := cg_count h7
            rw [HLL.out] at hcc
            have HCc := Lib.hid hcc
            have bk : ((n2 : Int) != n2) = false := by simp
            have bm : ((ll : Int) != ll) = false := by simp
            clear hS7 h7 f7 F7 S6 HSl6 hcc
            go_wp2_with fail
            with_reducible refine HCc.out.mono ?_
            rintro e w8 ⟨rfl, h8, f8⟩
            have F9 := Lib.hid (F8.out.step f8 (fun k hk => .inr (HQ.out k hk)))
            have S8 := Lib.hid (S7.out.fr f8 hQ3.out)
            have N8 := Lib.hid (N7.out.fr f8 (fun k hk => OK6.out.q k hk))
            have HFl := Lib.hid (fun V (hV : Fr [] w8 V) => cg_flt (h8.fr0 hV))
            obtain ⟨g1, e1, -, hg1, hc1⟩ := S8.out
            obtain ⟨g2, e2, -, hg2, hc2⟩ := N8.out
            subst e1 e2
            have HC12 := Lib.hid (And.intro (And.intro hg1 hc1) (And.intro hg2 hc2))
            clear h8 f8 F8 S7 N7 HCc hg1 hc1 hg2 hc2 S8 N8
            go_wp2_with fail
            go_loopg [18] (224 + 1) (fun gk v18 V => ∃ j : Nat, v18 = .int .i64 j ∧ (j + gk = 225 ∧ j ≤ 224) ∧ Hid (Fr [] w8 V))
            case atStart => exact ⟨0, rfl, by omega, Lib.hid (Fr.refl [] w8)⟩
            case round =>
              obtain ⟨j, rfl, hj, F10⟩ := hrel
              by_cases hj2 : j < 224
              · have b8 : decide ((j : Int) < 224) = true := by simp; omega
                have b8' : decide (j < 224) = true := by simp; omega
                have k1 := (F10.out.cell (p := ⟨g1, j, none⟩) HC12.out.1.1 (by simp)).trans (HC12.out.1.2 j hj2)
                have k2 := (F10.out.cell (p := ⟨g2, j, none⟩) HC12.out.2.1 (by simp)).trans (HC12.out.2.2 j hj2)
                generalize fr.T j = tj at *
                have bt : ((tj : Int) != tj) = false := by simp
                have j0 : (0 : Int) ≤ j := by omega
                have j1 : (j : Int) < 224 := by omega
                have wj : IntKind.i64.wrap ((j : Int) + 1) = (j : Int) + 1 := IntWalk.i64_in _ (by omega)
                go_wp2_with fail
                go_quiet (fail)
                go_wp2_with fail
                go_roundg (gk - 1)
                case measure => omega
                case rel => exact ⟨j + 1, by go_num, by omega, Lib.hid (F10.out.drewN _)⟩
              · obtain rfl : j = 224 := by omega
                have F11 := Lib.hid (F9.out.trans F10.out)
                have HFl' := Lib.hid (HFl.out _ F10.out)
                clear HC12 HFl F10
                go_wp2_with fail
                with_reducible refine HFl'.out.mono ?_
                rintro e w11 ⟨rfl, -, f11⟩
                have F12 := Lib.hid (F11.out.step f11 (fun k hk => .inr (HQ.out k hk)))
                clear f11
                go_wp2_with fail
                with_reducible refine (HGo.out _ F12.out).mono ?_
                rintro e w12 ⟨rfl, f12⟩
                have F13 := Lib.hid (F12.out.trans f12)
                clear f12
                go_wp2_with fail
                go_ret
                exact ⟨rfl, F13.out⟩
theorem walk_cbackW (w : World) (h : TabM w ∧ Tabs w) (ad : Option Addr) (cap : Nat) (l : List A22) (hA : ActA22 w ad cap l) (ma : Option Addr) (mc : Nat) (ml : List (List Nat)) (hMo : StrA w ma ml) : Calls Tryz.prog 7 #[.slice ad l.length cap, .slice ma ml.length mc] w fun e w' => e = .returned (.bool true) ∧ Fr [] w w' := walk_cback w h.1 h.2 ad cap l hA ma mc ml hMo
end
end Go.Proofs.YtellbfamofilaaaGreatDoor
