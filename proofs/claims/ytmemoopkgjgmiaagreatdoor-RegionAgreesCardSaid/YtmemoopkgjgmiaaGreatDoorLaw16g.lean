/- Layer 16: RegionAgrees. -/
import Derived.Test.YtmemoopkgjgmiaaGreatDoorLC
import Derived.Test.YtmemoopkgjgmiaaGreatDoorKT
import Derived.Test.YtmemoopkgjgmiaaGreatDoorLA
import Derived.Test.YtmemoopkgjgmiaaGreatDoorGJ
namespace Go.Proofs.YtmemoopkgjgmiaaGreatDoor
set_option linter.unusedVariables false
set_option linter.unusedSimpArgs false
open Go.RowKit

set_option maxHeartbeats 1000000 in
theorem xsize9 {w : World} (a s : Nat) (h : Cfg a s) : Calls Tryz.prog 51 #[.agg #[.int .i64 a, .int .i64 s]] w fun e w' => e = .returned (.int .i64 (lsize a s)) ∧ Fr [] w w' := by
  have hr := fun W => xright9 (w := W) a s h
  have hb := fun W => xbase9 (w := W) a s h
  have F0 := Lib.hid ((Fr.refl [] w).alloc (.cells #[.int .i64 a, .int .i64 s] 61))
  have B0 := Lib.hid (Blk.new w 61 #[.int .i64 a, .int .i64 s])
  have hz := lsize_le a s h
  have hE : lsize a s = lbase a s + 1024 * a := rfl
  have ha := h.a2
  rw [hE] at hz ⊢
  generalize lbase a s = b at *
  have w1 : IntKind.i64.wrap (1024 * (a : Int)) = 1024 * (a : Int) := IntWalk.i64_in _ (by omega)
  have w2 : IntKind.i64.wrap ((b : Int) + 1024 * (a : Int)) = ((b + 1024 * a : Nat) : Int) := by rw [IntWalk.i64_in _ (by omega)]; omega
  clear h hE
  go_enter Tryz.func51, Tryz.ntmps51
  go_wp2_with fail
  with_reducible refine (hr _).mono ?_
  rintro e w1 ⟨rfl, f1⟩
  have B1 := Lib.hid (B0.out.fr f1 (by simp))
  have F1 := Lib.hid (F0.out.trans f1)
  have d0 := B1.out.cell 0
  have d1 := B1.out.cell 1
  simp at d0 d1
  have hY : w1.drew.cell? ⟨w.heap.size, 0, none⟩ = some (.int .i64 a) ∧ w1.drew.cell? ⟨w.heap.size, 1, none⟩ = some (.int .i64 s) := ⟨B1.out.drew.cell 0, B1.out.drew.cell 1⟩
  clear f1
  go_wp2_with fail
  refine wp_region_held_drew (S := fun W => W.cell? ⟨w.heap.size, 0, none⟩ = some (.int .i64 a) ∧ W.cell? ⟨w.heap.size, 1, none⟩ = some (.int .i64 s)) (by kernel_rfl) (hY) (fun yH => ?_)
  refine tkY 0 yH (h := ?_)
  refine tkY 2 yH (h := ?_)
  refine tkY 3 yH (h := ?_)
  refine tkY 4 yH (h := ?_)
  refine wpAnyH_ready (rs := [1]) (by kernel_rfl) (by simp) ?_
  refine AllReadyH.cons (o := ?ooa4) ?hia4 (fun K hK => ?hca4) AllReadyH.nil
  case hia4 => (simp only [List.getElem?_toArray, List.getElem?_cons_zero, List.getElem?_cons_succ]; rfl)
  go_simp
  with_reducible refine (hb _).mono ?_
  rintro e w2 ⟨rfl, f2⟩
  have F2 := Lib.hid (F1.out.drew.trans f2)
  have B2 := Lib.hid (B1.out.drew.fr f2 (by simp))
  have hY := And.intro (B2.out.cell 0) (B2.out.cell 1)
  clear f2
  go_wp2_with fail
  refine hK.out _ _ (hY) (fun yH => ?_)
  clear hK K
  try simp only [Act.put, List.setIfInBounds_toArray, List.set_cons_zero, List.set_cons_succ]
  refine tkY 5 yH (h := ?_)
  refine tkY 6 yH (h := ?_)
  refine wpAnyH_done (by kernel_rfl) ?_ _
  go_wp2_with fail
  go_ret
  exact ⟨rfl, F2.out⟩
section
variable {w0 wb W : World} {q : MH} {S : SS}
theorem p_live (h : P16 w0 wb q S W) (i : Nat) (hi : i < 7) : Calls Tryz.prog 53 #[.pointer (some ⟨q.m, 0, none⟩), .int .i64 i] W fun e w' => ∃ v, e = .returned v ∧ Rw w' W.heap.size v (S.lv i) ∧ Fr q.blocks W w' ∧ P16 w0 wb q S w' := by
  obtain ⟨u, h1, h2, h3, h4, h5, h6⟩ := h.x
  exact (slive h1 h2 i (by omega)).mono fun e w' ⟨v, he, hR, k1, k2⟩ => ⟨v, he, hR, k2, h.mk' k1 h2 h3 h4 h5 h6 k2 h.fu⟩
theorem p_runs (h : P16 w0 wb q S W) : Calls Tryz.prog 46 #[.pointer (some ⟨q.m, 0, none⟩)] W fun e w' => ∃ v, e = .returned v ∧ OwnZ w' W.heap.size v (rzS 7 226 S) ∧ Fr [] W w' := by
  obtain ⟨u, h1, h2, h3, h4, h5, h6⟩ := h.x
  refine (mruns h1.m).mono fun e w' ⟨v, he, hO, hf⟩ => ⟨v, he, ?_, hf⟩
  have := OwnZ.of hO
  rw [rz_eq h1.ok h2, h3, h4] at this
  exact this
theorem p_config (h : P16 w0 wb q S W) : Calls Tryz.prog 52 #[.pointer (some ⟨q.m, 0, none⟩)] W fun e w' => e = .returned (.agg #[.int .i64 7, .int .i64 226]) ∧ Fr [] W w' := by
  obtain ⟨u, h1, h2, h3, h4, h5, h6⟩ := h.x
  have := tconfig h1.m
  rw [h3, h4] at this
  exact this
theorem p_flt (h : P16 w0 wb q S W) : Calls Tryz.prog 32 #[.pointer (some ⟨q.m, 0, none⟩)] W fun e w' => e = .returned (.int .i64 0) ∧ Fr [] W w' := by
  obtain ⟨u, h1, h2, h3, h4, h5, h6⟩ := h.x
  have := tfaults h1.m
  rw [h5] at this
  exact this
theorem p_rz (h : P16 w0 wb q S W) : tileZ (rzS 7 226 S) 0 (lsize 7 226 : Nat) = true ∧ ∀ i x, i < 7 → x ∈ S.lv i → atZ (rzS 7 226 S) (x : Int) = 5 ∧ x ≤ 131072 := by
  obtain ⟨u, h1, h2, h3, h4, h5, h6⟩ := h.x
  have e1 := rz_tile h1.ok h2
  have e2 := fun i x (hi : i < u.a) (hx : x ∈ S.lv i) => rz_at h1.ok h2 hi hx
  have e3 := fun i x (hi : i < u.a) (hx : x ∈ S.lv i) => (h2.each i hi).at_ h1.ok hi (.inr hx)
  have hz := lsize_le u.a u.s h1.ok.cfg
  rw [h3, h4] at e1
  refine ⟨e1, fun i x hi hx => ⟨?_, ?_⟩⟩
  · have := e2 i x (by omega) hx
    rw [h3, h4] at this
    exact this
  · have := e3 i x (by omega) hx
    omega
theorem p_len (h : P16 w0 wb q S W) (i : Nat) (hi : i < 7) : (S.lv i).length ≤ 32 := by
  obtain ⟨u, h1, h2, h3, h4, h5, h6⟩ := h.x
  have h1s := h2.each i (by omega)
  by_cases h0 : S.cls i = 0
  · rw [(h1s.z h0).2.1]; simp
  · have := h1s.len h0
    have := csz_tab (S.cls i) (by omega) h1s.c9
    omega
set_option maxRecDepth 100000 in
set_option maxHeartbeats 8000000 in
theorem walk_ragrees (w : World) (hM : TabM w) (hT : Tabs w) (a : Option Addr) (c : Nat) (l : List A16) (h : ActA16 w a c l) :
    Calls Tryz.prog 6 #[.slice a l.length c] w fun e w' => e = .returned (.bool true) ∧ Fr [] w w' := by
  have HL := Lib.hid (fun W (hf : Fr [] w W) => maps16 W (hM.fr hf (by simp)) (hT.fr hf (by simp)))
  by_cases hgd : 200 < l.length
  · have b1 : decide ((200 : Int) < l.length) = true := by simp; omega
    have b1' : decide (200 < l.length) = true := by simp; omega
    clear hgd h
    generalize l.length = m at *
    go_enter Tryz.func6, Tryz.ntmps6
    go_wp2_with fail
    with_reducible refine (HL.out _ (Fr.refl _ _)).mono ?_
    rintro e w1 ⟨rfl, f1⟩
    go_wp2_with fail
    go_ret
    exact ⟨rfl, f1⟩
  · have hp := xplayed w hM hT a c l h (by omega)
    have b1 : decide ((200 : Int) < l.length) = false := by simp; omega
    have b1' : decide (200 < l.length) = false := by simp; omega
    clear h hM hT hgd
    generalize l.length = m at *
    go_enter Tryz.func6, Tryz.ntmps6
    go_wp2_with fail
    with_reducible refine hp.mono ?_
    rintro e w3 ⟨q, wb, S, rfl, hP⟩
    have HP := Lib.hid hP
    have hmp := m_map hP.m hP.fu
    obtain ⟨hti, hat⟩ := p_rz hP
    have HAt0 := Lib.hid hat
    clear hp hat hP
    go_wp2_with fail
    with_reducible refine hmp.mono ?_
    rintro e w4 ⟨v, rfl, hO, hrl, f4⟩
    have HP4 := Lib.hid (HP.out.fr0 f4)
    obtain ⟨ax, cx, rfl, hzx, hax⟩ := hO.zb hrl
    have hws := HP.out.f.size
    have hne : 0 < (rzS 7 226 S).length := by
      rcases Nat.eq_zero_or_pos (rzS 7 226 S).length with h | h
      · rw [List.eq_nil_of_length_eq_zero h] at hti
        exact absurd hti (by decide)
      · exact h
    have HZ := Lib.hid (fun W (hf : Fr q.blocks w4 W) => hzx.fr hf (fun g o e hm => by
      have h1 := HP.out.lt g hm
      have h2 := hax g o e hne
      omega))
    have HTi := Lib.hid (fun W (hf : Fr q.blocks w4 W) => (show Calls Tryz.prog 34 #[.slice ax (rzS 7 226 S).length cx, .int .i64 (lsize 7 226 : Nat)] W fun e w' => e = .returned (.bool true) ∧ Fr [] W w' from by
      have := ztiles W ax cx _ (HZ.out W hf) (lsize 7 226 : Nat)
      rw [hti] at this
      exact this))
    have HAg := m_agree HP4.out.m HP4.out.fu
    have HSm := Lib.hid (fun W (hf : Fr q.blocks w4 W) v (hv : OwnZ W w4.heap.size v (rzS 7 226 S) ∨ ∃ b, OwnZ W b v (rzS 7 226 S)) => (show Calls Tryz.prog 36 #[.slice ax (rzS 7 226 S).length cx, v] W fun e w' => e = .returned (.bool true) ∧ Fr [] W w' from by
      have hv' : ∃ b, OwnZ W b v (rzS 7 226 S) := hv.elim (fun h => ⟨_, h⟩) id
      obtain ⟨b, hv'⟩ := hv'
      obtain ⟨a2, c2, rfl, hz2⟩ := zb_of hv' hrl
      exact zsame9 (HZ.out W hf) hz2))
    have HAt := Lib.hid (fun W (hf : Fr q.blocks w4 W) i x (hi : i < 7) (hx : x ∈ S.lv i) => (show Calls Tryz.prog 39 #[.slice ax (rzS 7 226 S).length cx, .int .i64 (x : Nat)] W fun e w' => e = .returned (.int .i64 5) ∧ Fr [] W w' from by
      obtain ⟨k1, k2⟩ := HAt0.out i x hi hx
      have := zat W ax cx _ (HZ.out W hf) x (by omega)
      rw [k1] at this
      exact this))
    have hsz := fun W => xsize9 (w := W) 7 226 cfg226
    rw [show ((lsize 7 226 : Nat) : Int) = 8320 from by decide] at HTi
    have hsz : ∀ W, Calls Tryz.prog 51 #[.agg #[.int .i64 7, .int .i64 226]] W fun e w' => e = .returned (.int .i64 8320) ∧ Fr [] W w' := hsz
    have HRu := Lib.hid (fun W (hf : P16 w wb q S W) => p_runs hf)
    clear hzx hax hti hmp hO hne HZ
    generalize (rzS 7 226 S).length = rl at *
    go_wp2_with fail
    with_reducible refine HAg.mono ?_
    rintro e w5 ⟨rfl, f5⟩
    have HP5 := Lib.hid (HP4.out.fr0 f5)
    have F5 := Lib.hid f5
    clear HAg f5
    go_wp2_with fail
    with_reducible refine (p_config HP5.out).mono ?_
    rintro e w6 ⟨rfl, f6⟩
    have HP6 := Lib.hid (HP5.out.fr0 f6)
    have F6 := Lib.hid (F5.out.trans f6)
    clear f6
    go_wp2_with fail
    with_reducible refine (hsz _).mono ?_
    rintro e w7 ⟨rfl, f7⟩
    have HP7 := Lib.hid (HP6.out.fr0 f7)
    have F7 := Lib.hid (F6.out.trans f7)
    clear f7
    go_wp2_with fail
    with_reducible refine (HTi.out _ F7.out.nil).mono ?_
    rintro e w8 ⟨rfl, f8⟩
    have HP8 := Lib.hid (HP7.out.fr0 f8)
    have F8 := Lib.hid (F7.out.trans f8)
    clear f8
    go_wp2_with fail
    with_reducible refine (HRu.out _ HP8.out).mono ?_
    rintro e w9 ⟨v9, rfl, hO9, f9⟩
    have HP9 := Lib.hid (HP8.out.fr0 f9)
    have F9 := Lib.hid (F8.out.trans f9)
    have hsm := HSm.out _ F9.out.nil v9 (.inr ⟨_, hO9⟩)
    clear f9 hO9
    go_wp2_with fail
    with_reducible refine hsm.mono ?_
    rintro e w10 ⟨rfl, f10⟩
    have HP10 := Lib.hid (HP9.out.fr0 f10)
    have F10 := Lib.hid (show Fr q.blocks w4 w10 from (F9.out.trans f10).nil)
    clear f10 hsm
    go_wp2_with fail
    go_loopw [6] (fun v W => ∃ i : Nat, i ≤ 7 ∧ v = .int .i64 i ∧ P16 w wb q S W ∧ Fr q.blocks w4 W) (fun v _ => 7 - (intOf v).toNat)
    case atStart => exact ⟨0, by omega, rfl, HP10.out, F10.out⟩
    case round =>
      obtain ⟨i, hi, rfl, hPi, hFi⟩ := hrel
      by_cases hlt : i < 7
      · have b2 : decide ((i : Int) < 7) = true := by simp; omega
        have b2' : decide (i < 7) = true := by simp; omega
        have wi : IntKind.i64.wrap ((i : Int) + 1) = (i : Int) + 1 := IntWalk.i64_in _ (by omega)
        have hlv := p_live hPi i hlt
        have hl32 := p_len hPi i hlt
        have HFi := Lib.hid hFi
        clear hPi hFi
        go_wp2_with fail
        with_reducible refine hlv.mono ?_
        rintro e w11 ⟨v11, rfl, hR11, f11, hP11⟩
        have HP11 := Lib.hid hP11
        have F11 := Lib.hid (HFi.out.trans f11)
        obtain ⟨ad, cap, rfl, hrow⟩ := own_row hR11
        have HRow := Lib.hid (fun W (hf : Fr [] w11 W) => hrow.fr hf (by simp))
        have HMem := Lib.hid (fun W (hf : Fr [] w11 W) x (hx : x ∈ S.lv i) => HAt.out W (F11.out.trans hf.nil) i x hlt hx)
        clear hlv f11 hP11 hR11 hrow
        generalize S.lv i = LV at *
        generalize hm : LV.length = n at *
        have HM := Lib.hid hm
        clear hm
        go_wp2_with fail
        go_loopw [8] (fun v W => ∃ k : Nat, k ≤ n ∧ v = .int .i64 k ∧ Fr [] w11 W) (fun v _ => n - (intOf v).toNat)
        case atStart => exact ⟨0, by omega, rfl, Fr.refl _ _⟩
        case round =>
          obtain ⟨k, hk, rfl, hFk⟩ := hrel
          have HFk := Lib.hid hFk
          by_cases hkl : k < n
          · obtain ⟨g, rfl, hgb, hri⟩ := HRow.out _ hFk (by rw [HM.out]; omega)
            have hkl' : k < LV.length := by rw [HM.out]; exact hkl
            have hc := hri.cell k hkl'
            have hA := HMem.out _ hFk LV[k] (List.getElem_mem hkl')
            have hcap := hri.le
            rw [HM.out] at hcap
            generalize LV[k] = z at *
            have k0 : (0 : Int) ≤ k := by omega
            have k1 : (k : Int) < n := by omega
            have b3 : decide ((k : Int) < n) = true := by simp; omega
            have b3' : decide (k < n) = true := by simp; omega
            have wk : IntKind.i64.wrap ((k : Int) + 1) = (k : Int) + 1 := IntWalk.i64_in _ (by omega)
            clear hFk hri
            go_wp2_with fail
            with_reducible refine hA.mono ?_
            rintro e w12 ⟨rfl, f12⟩
            go_wp2_with fail
            go_roundw
            case rel => exact ⟨k + 1, by omega, by go_num, HFk.out.trans f12⟩
            case measure => simp [intOf]; omega
          · obtain rfl : k = n := by omega
            have b3 : decide ((k : Int) < k) = false := by simp
            have b3' : decide (k < k) = false := by simp
            clear hFk
            go_wp2_with fail
            go_roundw
            case rel => exact ⟨i + 1, by omega, by go_num, HP11.out.fr0 HFk.out, F11.out.trans HFk.out.nil⟩
            case measure => simp [intOf]; omega
      · obtain rfl : i = 7 := by omega
        have b2 : decide (((7 : Nat) : Int) < 7) = false := by simp
        have hfl := p_flt hPi
        have HPi := Lib.hid hPi
        clear hPi hFi
        go_wp2_with fail
        with_reducible refine hfl.mono ?_
        rintro e w13 ⟨rfl, f13⟩
        have F13 := Lib.hid (HPi.out.m.f.trans f13)
        go_wp2_with fail
        with_reducible refine (HL.out _ F13.out).mono ?_
        rintro e w14 ⟨rfl, f14⟩
        go_wp2_with fail
        go_ret
        exact ⟨rfl, F13.out.trans f14⟩
theorem walk_ragreesW (w : World) (h : TabM w ∧ Tabs w) (a : Option Addr) (c : Nat) (l : List A16) (hl : ActA16 w a c l) : Calls Tryz.prog 6 #[.slice a l.length c] w fun e w' => e = .returned (.bool true) ∧ Fr [] w w' := walk_ragrees w h.1 h.2 a c l hl
end
end Go.Proofs.YtmemoopkgjgmiaaGreatDoor
