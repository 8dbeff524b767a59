/- law22.ChainNames: the walk. -/
import Derived.Test.YtellbfamofilaaaGreatDoorMJ
import Derived.Test.YtellbfamofilaaaGreatDoorKT
namespace Go.Proofs.YtellbfamofilaaaGreatDoor
set_option linter.unusedVariables false
set_option linter.unusedSimpArgs false
open Go.RowKit

section
set_option maxRecDepth 100000 in
set_option maxHeartbeats 16000000 in
theorem walk_cnames (w : World) (hM : TabM w) (hT : Tabs w) (ad : Option Addr) (cap : Nat) (l : List A22) (hA : ActA22 w ad cap l) : Calls Tryz.prog 6 #[.slice ad l.length cap] w fun e w' => e = .returned (.bool true) ∧ Fr [] w w' := by
  have HGo := Lib.hid (fun V (hV : Fr [] w V) => (show Calls Tryz.prog 26 #[] V fun e w' => e = .returned (.bool true) ∧ Fr [] V w' from grows22 V (hM.fr hV (by simp)) (hT.fr hV (by simp))))
  have HF := Lib.hid (fun V (hV : Fr [] w V) => fresh22 V (hM.fr hV (by simp)) (hT.fr hV (by simp)))
  have HW := Lib.hid (few22 w 0 ad cap l hA)
  have HA := Lib.hid hA
  have hle := hA.len
  obtain ⟨n, hn⟩ : ∃ n, l.length = n := ⟨_, rfl⟩
  have HN := Lib.hid hn
  rw [hn] at hle ⊢
  rw [hn] at HW
  clear hn hA hM hT
  go_enter Tryz.func6, Tryz.ntmps6
  go_wp2_with fail
  with_reducible refine HW.out.mono ?_
  rintro e wa ⟨bf, rfl, fa, hbf⟩
  have FA := Lib.hid fa
  clear fa HW
  cases bf with
  | false =>
    clear hbf
    go_wp2_with fail
    with_reducible refine (HGo.out _ FA.out).mono ?_
    rintro e w1 ⟨rfl, f1⟩
    have F1 := Lib.hid (FA.out.trans f1)
    clear f1
    go_wp2_with fail
    go_ret
    exact ⟨rfl, F1.out⟩
  | true =>
    have hn60 := (hbf rfl).1
    rw [HN.out] at hn60
    have HFew := Lib.hid (hbf rfl).2
    have hf := HF.out _ FA.out
    clear hbf HF
    go_wp2_with fail
    with_reducible refine hf.mono ?_
    rintro e w1 ⟨q, u0, rfl, n1, -, hq, f1⟩
    have HQ := Lib.hid (fun k hk => (show w.heap.size ≤ k from Nat.le_trans FA.out.size (hq k hk)))
    have F1 := Lib.hid (FA.out.trans f1)
    have K1 := Lib.hid (show K22 wa q u0 0 w1 from ⟨[], _, _, _, _, CP.start n1, fun _ => Nat.le_refl _⟩)
    clear n1 hq f1 hf FA
    go_wp2_with fail
    go_loopg [4] (n + 1) (fun gk v4 W => ∃ i : Nat, v4 = .int .i64 i ∧ (i + gk = n + 1 ∧ i ≤ n) ∧ Hid (K22 wa q u0 i W) ∧ Hid (Fr [] w W))
    case atStart => exact ⟨0, rfl, by omega, K1, F1⟩
    case round =>
      clear K1 F1
      obtain ⟨i, rfl, hi, KH, F3⟩ := hrel
      obtain ⟨G, hG⟩ : ∃ G, G = gk := ⟨_, rfl⟩
      subst hG
      by_cases hlt : i < n
      · have b6 : decide ((i : Int) < n) = true := by simp; omega
        have b6' : decide (i < n) = true := by simp; omega
        have hL : i < l.length := by rw [HN.out]; exact hlt
        obtain ⟨B, off, rfl, hBl, hr⟩ := HA.out.row (by omega)
        have hrj := hr i hL
        have hok := HA.out.each _ (List.getElem_mem hL)
        have hfe := HFew.out _ (List.getElem_mem hL)
        generalize l[i]'hL = d at *
        obtain ⟨dk, dn, da, dc, dl⟩ := d
        have hc2 := hrj 2 (by decide)
        have hs := hok.s
        have hcd := hok.c
        simp only [A22.cells, List.getElem?_cons_succ, List.getElem?_cons_zero] at hc2 hs hcd hfe
        have HC2 := Lib.hid (fun W (hW : Fr [] w W) => (hW.cell (p := ⟨B, off + i * 3 + 2, none⟩) hBl (by simp)).trans hc2)
        have HSA := Lib.hid (fun W (hW : Fr [] w W) => hs.fr hW)
        have HSq := Lib.hid (fun (h0 : 0 < dl.length) g o (e : da = some ⟨g, o, none⟩) => (show g ∉ q.blocks from fun hm => by
          obtain ⟨g', o', e', _, hg⟩ := hs.at_ 0 h0
          rw [e'] at e
          injection e with e
          injection e with e1
          subst e1
          have := HQ.out _ hm
          omega))
        obtain ⟨l0, par, own, nm, fr, hCP, hown⟩ := KH.out
        have HGr := Lib.hid (grown22 hCP da dc dl (hs.fr F3.out) HSq.out hfe.2 hfe.1 (fun y => by have := hown y; omega))
        have HOw := Lib.hid (fun at_ => (show ∀ y, ownP own at_ y ≤ i + 1 from fun y => by have := ownP_le own at_ y; have := hown y; omega))
        have hl130 := hfe.1
        have c2 := HC2.out _ F3.out
        obtain ⟨nn, hnn⟩ : ∃ nn, dl.length = nn := ⟨_, rfl⟩
        rw [hnn] at c2 hl130 HC2 HGr hcd
        have HNN := Lib.hid hnn
        have i0 : (0 : Int) ≤ i := by omega
        have i1 : (i : Int) < n := by omega
        have wi : IntKind.i64.wrap ((i : Int) + 1) = (i : Int) + 1 := IntWalk.i64_in _ (by omega)
        clear hr hrj hok hc2 hs hfe hnn hL hCP hown KH
        go_wp2_with fail
        with_reducible refine HGr.out.mono ?_
        rintro e w2 ⟨f2, ⟨rfl, -, fr1, h2⟩ | ⟨hck, at_, n2, k2, a2, rfl, hkn, -, lj, parj, nmj, frj, h2⟩⟩
        · have K2 := Lib.hid (show K22 wa q u0 (i + 1) w2 from ⟨l0, par, own, nm, fr1, h2, fun y => by have := HOw.out 0 y; have := ownP_ge own 0 y; omega⟩)
          have F2 := Lib.hid (F3.out.step f2 (fun k hk => .inr (HQ.out k hk)))
          clear f2 h2 HGr F3 c2
          go_wp2_with fail
          go_roundg (G - 1)
          case measure => omega
          case rel => exact ⟨i + 1, by go_num, by omega, K2, F2⟩
        · obtain ⟨hC, hpl, hnm⟩ := h2.done (by rw [lowN_len]; exact hkn)
          have HPl := Lib.hid hpl
          have HNm := Lib.hid hnm
          have C2 := Lib.hid hC
          have H63 := Lib.hid (low63 hck)
          have F2 := Lib.hid (F3.out.step f2 (fun k hk => .inr (HQ.out k hk)))
          have HOw := Lib.hid (HOw.out at_)
          have hnl : (nmj at_).length = nn := by rw [hnm, lowN_len, HNN.out]
          have hname := cname hC hpl
          rw [hnl] at hname
          have HName := Lib.hid hname
          have c2 := HC2.out _ F2.out
          have OK2 := Lib.hid hC.bok
          clear f2 h2 hC hpl hnm hck HGr F3 hkn hname
          go_wp2_with fail
          with_reducible refine HName.out.mono ?_
          rintro e w3 ⟨adx, rfl, hS, hbs, hC, f3⟩
          have F3 := Lib.hid (F2.out.step f3 (fun k hk => .inr (HQ.out k hk)))
          have HSxq := Lib.hid (show ∀ g o, adx = some ⟨g, o, none⟩ → g ∉ q.blocks from fun g o e hm => by
            have := hbs g o e
            have := OK2.out.q _ hm
            omega)
          have SX3 := Lib.hid hS
          have C3 := Lib.hid hC
          have c2 := HC2.out _ F3.out
          have HLw := Lib.hid (fun W (hW : Fr [] w W) => (show Calls Tryz.prog 32 #[.slice da nn dc] W fun e w' => ∃ ad' cap', e = .returned (.slice ad' nn cap') ∧ StrA w' ad' (lowN dl) ∧ Fr [] W w' ∧ ∀ g o, ad' = some ⟨g, o, none⟩ → W.heap.size ≤ g from by
            have := lower22 W da dc dl (HSA.out W hW) H63.out (by rw [HNN.out]; omega)
            rw [lowN_len, HNN.out] at this
            exact this))
          clear hS hbs hC f3 HName C2 F2
          go_wp2_with fail
          with_reducible refine (HLw.out _ F3.out).mono ?_
          rintro e w4 ⟨al, cl, rfl, hS4, f4, -⟩
          have F4 := Lib.hid (F3.out.trans f4)
          have C4 := Lib.hid (C3.out.fr0 f4)
          have SX4 := Lib.hid (SX3.out.fr f4)
          have HSm := Lib.hid (show Calls Tryz.prog 31 #[.slice adx nn nn, .slice al nn cl] w4 fun e w' => e = .returned (.bool true) ∧ Fr [] w4 w' from by
            have := same4 w4 adx al nn cl (nmj at_) SX4.out (by rw [HNm.out]; exact hS4)
            rw [hnl] at this
            exact this)
          have c2 := HC2.out _ F4.out
          clear f4 hS4 HLw F3 C3 SX3
          go_wp2_with fail
          with_reducible refine HSm.out.mono ?_
          rintro e w5 ⟨rfl, f5⟩
          have F5 := Lib.hid (F4.out.trans f5)
          have C5 := Lib.hid (C4.out.fr0 f5)
          have SX5 := Lib.hid (SX4.out.fr f5)
          have HDp := Lib.hid (show Calls Tryz.prog 33 #[.pointer (some ⟨q.m, 0, none⟩), .int .i64 at_] w5 fun e w' => e = .returned (.int .i64 nn) ∧ CP wa q u0 lj parj (ownP own at_) nmj frj w' ∧ Fr q.blocks w5 w' from by
            have := cdepth C5.out HPl.out
            rw [hnl] at this
            exact this)
          have bd : ((nn : Int) != nn) = false := by simp
          have c2 := HC2.out _ F5.out
          clear f5 HSm F4 C4 SX4
          go_wp2_with fail
          with_reducible refine HDp.out.mono ?_
          rintro e w7 ⟨rfl, h7, f7⟩
          have C7 := Lib.hid h7
          have SX7 := Lib.hid (SX5.out.frS f7 HSxq.out)
          have F7 := Lib.hid (F5.out.step f7 (fun k hk => .inr (HQ.out k hk)))
          have c2 := HC2.out _ F7.out
          clear h7 f7 HDp F5 C5 SX5
          -- @CASE@
          go_wp2_with fail
          go_loopg [10] (nn + 2) (fun gk v10 W => ∃ k : Nat, v10 = .int .i64 k ∧ (k + gk = nn + 2 ∧ k ≤ nn + 1) ∧ Hid (CP wa q u0 lj parj (ownP own at_) nmj frj W) ∧ Hid (StrA W adx (nmj at_)) ∧ Hid (Fr [] w W))
          case atStart => exact ⟨0, rfl, by omega, C7, SX7, F7⟩
          case round =>
            clear C7 SX7 F7
            obtain ⟨k, rfl, hk, C8, SX8, F8⟩ := hrel
            have c2 := HC2.out _ F8.out
            by_cases hkn : k ≤ nn
            · have b8 : decide ((k : Int) ≤ nn) = true := by simp; omega
              have b8' : decide (k ≤ nn) = true := by simp; omega
              have k0 : (0 : Int) ≤ k := by omega
              have k1 : (k : Int) ≤ nn := by omega
              have wk : IntKind.i64.wrap ((k : Int) + 1) = (k : Int) + 1 := IntWalk.i64_in _ (by omega)
              have HFi := Lib.hid (fun X c' (hX : StrA wr X (dl.drop k)) (hq : 0 < (dl.drop k).length → ∀ g o, X = some ⟨g, o, none⟩ → g ∉ q.blocks) => cfindN C8.out X c' (dl.drop k) hX hq)
              obtain ⟨z, hz, ez⟩ := C8.out.suf HPl.out (s := (nmj at_).take k) (t := (nmj at_).drop k) (List.take_append_drop _ _).symm
              have HZ := Lib.hid (show (z = 0 ∨ z ∈ lj) ∧ nmj z = lowN (dl.drop k) from ⟨hz, by rw [ez, HNm.out, lowN_drop]⟩)
              clear hz ez
              have HFn := Lib.hid (fun X c' (hX : StrA wr X (dl.drop k)) (hq : 0 < nn - k → ∀ g o, X = some ⟨g, o, none⟩ → g ∉ q.blocks) => (show Calls Tryz.prog 34 #[.pointer (some ⟨q.m, 0, none⟩), .slice X (nn - k) c'] wr fun e w' => ∃ at2, e = .returned (.tuple #[.int .i64 (at2 : Nat), .bool true]) ∧ (at2 = 0 ∨ at2 ∈ lj) ∧ nmj at2 = lowN (dl.drop k) ∧ CP wa q u0 lj parj (ownP own at_) nmj frj w' ∧ Fr q.blocks wr w' from by
                have := HFi.out X c' hX (by rw [List.length_drop, HNN.out]; exact hq)
                rw [List.length_drop, HNN.out] at this
                refine this.mono fun e w' ⟨a2, k2, he, g1, g2, g3⟩ => ?_
                obtain ⟨e1, e2⟩ := kn_full g2 g1 HZ.out.1 HZ.out.2
                rw [lowN_len, List.length_drop, HNN.out] at e1
                rw [if_neg (by omega)] at he
                exact ⟨a2, he, g1.pl, e2, g2, g3⟩))
              clear HFi HZ
              by_cases hnn0 : 0 < nn
              · obtain ⟨g, o, rfl, -, hg⟩ := (HSA.out _ F8.out).at_ 0 (by rw [HNN.out]; exact hnn0)
                obtain ⟨gx, ox, rfl, -, hgx⟩ := SX8.out.at_ 0 (by rw [hnl]; exact hnn0)
                obtain ⟨X, hX⟩ : ∃ X, (if dc = k then (some ⟨g, o, none⟩ : Option Addr) else some ⟨g, o + k, none⟩) = X := ⟨_, rfl⟩
                obtain ⟨X2, hX2⟩ : ∃ X2, (if nn = k then (some ⟨gx, ox, none⟩ : Option Addr) else some ⟨gx, ox + k, none⟩) = X2 := ⟨_, rfl⟩
                have HX := Lib.hid (show StrA wr X (dl.drop k) from (HSA.out _ F8.out).drop (fun h => by rw [← hX, if_neg (by rw [HNN.out] at h; omega)]))
                have HQX := Lib.hid (show 0 < nn - k → ∀ g o, X = some ⟨g, o, none⟩ → g ∉ q.blocks from fun h0 g' o' e => by
                  rw [← hX, if_neg (by omega)] at e
                  injection e with e
                  injection e with e1
                  subst e1
                  exact HSq.out (by rw [HNN.out]; omega) _ _ rfl)
                have HX2 := Lib.hid (fun W (hW : StrA W (some ⟨gx, ox, none⟩) (nmj at_)) => (show StrA W X2 ((nmj at_).drop k) from hW.drop (fun h => by rw [← hX2, if_neg (by rw [hnl] at h; omega)])))
                go_wp2_with fail
                with_reducible refine (HFn.out X _ (HX.out) (fun h0 g' o' e' => HQX.out h0 g' o' e')).mono ?_
                rintro e w9 ⟨at2, rfl, hp2, hn2, hC, f9⟩
                have F9 := Lib.hid (F8.out.step f9 (fun k hk => .inr (HQ.out k hk)))
                have SX9 := Lib.hid (SX8.out.frS f9 HSxq.out)
                have HE2 := Lib.hid (show k = 0 → at2 = at_ from fun e => hC.inj hp2 HPl.out (by rw [hn2, e, List.drop_zero, HNm.out]))
                have hl2 : (nmj at2).length = nn - k := by rw [hn2, lowN_len, List.length_drop, HNN.out]
                have hname := cname hC hp2
                rw [hl2] at hname
                have HName := Lib.hid hname
                have HN2 := Lib.hid (show nmj at2 = (nmj at_).drop k from by rw [hn2, HNm.out, lowN_drop])
                have OK9 := Lib.hid hC.bok
                have c2 := HC2.out _ F9.out
                clear hp2 hn2 hl2 hname f9 hC HFn F8 SX8 C8
                go_wp2_with fail
                with_reducible refine HName.out.mono ?_
                rintro e w10 ⟨ay, rfl, hS, hbs, hC, f10⟩
                have F10 := Lib.hid (F9.out.step f10 (fun k hk => .inr (HQ.out k hk)))
                have SX10 := Lib.hid (SX9.out.frS f10 HSxq.out)
                have C10 := Lib.hid hC
                have HSm := Lib.hid (show Calls Tryz.prog 31 #[.slice ay (nn - k) (nn - k), .slice X2 (nn - k) (nn - k)] w10 fun e w' => e = .returned (.bool true) ∧ Fr [] w10 w' from by
                  have := same4 w10 ay X2 (nn - k) (nn - k) (nmj at2) hS (by rw [HN2.out]; exact (HX2.out _ SX10.out))
                  rw [HN2.out, List.length_drop, hnl] at this
                  exact this)
                have c2 := HC2.out _ F10.out
                have HSy := Lib.hid hS
                clear hS hbs hC f10 HName F9 SX9 OK9
                by_cases hk0 : k = 0
                · obtain rfl := HE2.out hk0
                  have bk : ((k : Int) == 0) = true := by simp; omega
                  have bk' : (k == 0) = true := by simp; omega
                  have bat : ((at2 : Int) != at2) = false := by simp
                  have HSm0 := Lib.hid (show Calls Tryz.prog 31 #[.slice ay nn nn, .slice (some ⟨gx, ox, none⟩) nn nn] w10 fun e w' => e = .returned (.bool true) ∧ Fr [] w10 w' from by
                    have := same4 w10 ay (some ⟨gx, ox, none⟩) nn nn (nmj at2) HSy.out SX10.out
                    rw [hnl] at this
                    exact this)
                  clear HE2 HSm hX hX2
                  go_wp2_with fail
                  with_reducible refine HSm0.out.mono ?_
                  rintro e w11 ⟨rfl, f11⟩
                  have F11 := Lib.hid (F10.out.trans f11)
                  have C11 := Lib.hid (C10.out.fr0 f11)
                  have SX11 := Lib.hid (SX10.out.fr f11)
                  clear f11 F10 C10 SX10 HSm0
                  go_wp2_with fail
                  go_roundg (gk - 1)
                  case measure => omega
                  case rel => exact ⟨k + 1, by go_num, by omega, C11, SX11, F11⟩
                · have bk : ((k : Int) == 0) = false := by simp; omega
                  have bk' : (k == 0) = false := by simp; omega
                  clear HE2
                  go_wp2_with fail
                  with_reducible refine HSm.out.mono ?_
                  rintro e w11 ⟨rfl, f11⟩
                  have F11 := Lib.hid (F10.out.trans f11)
                  have C11 := Lib.hid (C10.out.fr0 f11)
                  have SX11 := Lib.hid (SX10.out.fr f11)
                  clear f11 F10 C10 SX10 HSm
                  go_wp2_with fail
                  go_roundg (gk - 1)
                  case measure => omega
                  case rel => exact ⟨k + 1, by go_num, by omega, C11, SX11, F11⟩
              · obtain rfl : nn = 0 := by omega
                obtain rfl : k = 0 := by omega
                have hdl : dl = [] := List.length_eq_zero_iff.1 HNN.out
                have hnl0 : nmj at_ = [] := List.length_eq_zero_iff.1 hnl
                subst hdl
                have HE0 := Lib.hid (show at_ = 0 from C8.out.inj HPl.out (.inl rfl) (by rw [hnl0, C8.out.z]))
                have HFn0 := Lib.hid (fun X c' => (show Calls Tryz.prog 34 #[.pointer (some ⟨q.m, 0, none⟩), .slice X 0 c'] wr fun e w' => ∃ at2, e = .returned (.tuple #[.int .i64 (at2 : Nat), .bool true]) ∧ (at2 = 0 ∨ at2 ∈ lj) ∧ nmj at2 = lowN (([] : List (List Nat)).drop 0) ∧ CP wa q u0 lj parj (ownP own at_) nmj frj w' ∧ Fr q.blocks wr w' from HFn.out X c' (stra_nil _ _) (fun h => by omega)))
                have HSm0 := Lib.hid (fun W X Y => (show Calls Tryz.prog 31 #[.slice X 0 0, .slice Y 0 0] W fun e w' => e = .returned (.bool true) ∧ Fr [] W w' from same4 W X Y 0 0 [] (stra_nil _ _) (stra_nil _ _)))
                have HN0 := Lib.hid hnl0
                clear HFn hnl hnl0 HNN HNm hcd HC2
                rcases da with _ | a0 <;> rcases adx with _ | ax
                all_goals
                  go_wp2_with fail
                  with_reducible refine (HFn0.out _ _).mono ?_
                  rintro e w9 ⟨at2, rfl, hp2, hn2, hC, f9⟩
                  have F9 := Lib.hid (F8.out.step f9 (fun k hk => .inr (HQ.out k hk)))
                  have SX9 := Lib.hid (SX8.out.frS f9 HSxq.out)
                  have hn0 : nmj at2 = [] := hn2
                  obtain rfl : at2 = at_ := hC.inj hp2 HPl.out (by rw [hn0, HN0.out])
                  have hname := cname hC hp2
                  rw [hn0] at hname
                  have HName := Lib.hid (show Calls Tryz.prog 30 #[.pointer (some ⟨q.m, 0, none⟩), .int .i64 at2] w9 fun e w' => ∃ ad, e = .returned (.tuple #[.slice ad 0 0, .int .i64 0]) ∧ StrA w' ad [] ∧ (∀ g o, ad = some ⟨g, o, none⟩ → w9.heap.size ≤ g) ∧ CP wa q u0 lj parj (ownP own at2) nmj frj w' ∧ Fr q.blocks w9 w' from hname)
                  clear hp2 hn2 hn0 hname f9 hC F8 SX8 C8 HE0
                  go_wp2_with fail
                  with_reducible refine HName.out.mono ?_
                  rintro e w10 ⟨ay, rfl, -, -, hC, f10⟩
                  have F10 := Lib.hid (F9.out.step f10 (fun k hk => .inr (HQ.out k hk)))
                  have SX10 := Lib.hid (SX9.out.frS f10 HSxq.out)
                  have C10 := Lib.hid hC
                  have bat : ((at2 : Int) != at2) = false := by simp
                  clear hC f10 HName F9 SX9
                  go_wp2_with fail
                  with_reducible refine (HSm0.out _ _ _).mono ?_
                  rintro e w11 ⟨rfl, f11⟩
                  have F11 := Lib.hid (F10.out.trans f11)
                  have C11 := Lib.hid (C10.out.fr0 f11)
                  have SX11 := Lib.hid (SX10.out.fr f11)
                  clear f11 F10 C10 SX10 HSm0
                  go_wp2_with fail
                  go_roundg (gk - 1)
                  case measure => omega
                  case rel => exact ⟨0 + 1, by go_num, by omega, C11, SX11, F11⟩
            · obtain rfl : k = nn + 1 := by omega
              have b8 : decide (((nn + 1 : Nat) : Int) ≤ nn) = false := by simp; omega
              have b8' : decide (nn + 1 ≤ nn) = false := by simp
              clear c2
              go_wp2_with fail
              go_roundg (G - 1)
              case measure => omega
              case rel => exact ⟨i + 1, by go_num, by omega, Lib.hid ⟨lj, parj, _, nmj, frj, C8.out, HOw.out⟩, F8⟩
      · obtain rfl : i = n := by omega
        have b6 : decide ((i : Int) < i) = false := by simp
        have b6' : decide (i < i) = false := by simp
        have HFl := Lib.hid (k22_flt KH.out)
        clear KH
        go_wp2_with fail
        with_reducible refine HFl.out.mono ?_
        rintro e w6 ⟨rfl, -, f6⟩
        have F6 := Lib.hid (F3.out.step f6 (fun k hk => .inr (HQ.out k hk)))
        clear f6 F3 HFl
        go_wp2_with fail
        with_reducible refine (HGo.out _ F6.out).mono ?_
        rintro e w7 ⟨rfl, f7⟩
        have F7 := Lib.hid (F6.out.trans f7)
        clear f7
        go_wp2_with fail
        go_ret
        exact ⟨rfl, F7.out⟩
theorem walk_cnamesW (w : World) (h : TabM w ∧ Tabs w) (ad : Option Addr) (cap : Nat) (l : List A22) (hA : ActA22 w ad cap l) : Calls Tryz.prog 6 #[.slice ad l.length cap] w fun e w' => e = .returned (.bool true) ∧ Fr [] w w' := walk_cnames w h.1 h.2 ad cap l hA
end
end Go.Proofs.YtellbfamofilaaaGreatDoor
