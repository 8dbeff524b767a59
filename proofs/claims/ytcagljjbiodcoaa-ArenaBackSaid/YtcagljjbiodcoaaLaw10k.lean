/- Layer 10: ArenaBack. -/
import Derived.Test.YtcagljjbiodcoaaLaw10a
import Derived.Test.YtcagljjbiodcoaaOpen10
import Derived.Deep.RegionHeld3
import Derived.Deep.RegionWith
import Derived.BigQuiet
namespace Go.Proofs.Ytcagljjbiodcoaa
set_option linter.unusedVariables false
open Go.RowKit

theorem back_a (w : World) (hG : Glb w) (n : Int) (a1 a2 : Option Addr) (m1 m2 c1 c2 : Nat)
    (h : (decide (4096 < n) = true ∧ decide (n ≤ 1048576) = true) ∨ ((decide (4096 < n) = false ∨ (decide (4096 < n) = true ∧ decide (n ≤ 1048576) = false)) ∧ (decide ((60 : Int) < m1) = true ∨ decide ((60 : Int) < m1) = false ∧ decide ((m2 : Int) < m1) = true))) :
    Calls Try.prog 3 #[.int .i64 n, .slice a1 m1 c1, .slice a2 m2 c2] w fun e w' => e = .returned (.bool true) ∧ Fr [] w w' := by
  have hh := fun w hG => holds10 w hG
  have d1 : decide ((60 : Int) < m1) = decide (60 < m1) := decide_eq_decide.2 (by omega)
  have d2 : decide ((m2 : Int) < m1) = decide (m2 < m1) := decide_eq_decide.2 (by omega)
  rcases h with ⟨b1, b2⟩ | ⟨b1 | ⟨b1, b2⟩, b3 | ⟨b3, b4⟩⟩
  all_goals
    try (have b3' := b3; rw [d1] at b3')
    try (have b4' := b4; rw [d2] at b4')
    clear d1 d2
    go_enter Try.func3, Try.ntmps3
    go_wp2_with fail
    with_reducible refine (hh _ hG).mono ?_
    rintro e w1 ⟨rfl, f1⟩
    go_wp2_with fail
    go_ret
    exact ⟨rfl, f1⟩
theorem back_b (w : World) (hG : Glb w) (n : Int) (a1 a2 : Option Addr) (m1 m2 c1 c2 : Nat) (hno : amayB n = false)
    (h : decide (4096 < n) = false ∨ (decide (4096 < n) = true ∧ decide (n ≤ 1048576) = false)) (h1 : m1 ≤ 60) (h2 : m1 ≤ m2) :
    Calls Try.prog 3 #[.int .i64 n, .slice a1 m1 c1, .slice a2 m2 c2] w fun e w' => e = .returned (.bool true) ∧ Fr [] w w' := by
  have hh := fun w hG => holds10 w hG
  have hn := fun w => anew_no w n hno
  have hm := fun w => xmay10 w n
  rw [hno] at hm
  have b3 : decide ((60 : Int) < m1) = false := by simp; omega
  have b3' : decide (60 < m1) = false := by simp; omega
  have b4 : decide ((m2 : Int) < m1) = false := by simp; omega
  have b4' : decide (m2 < m1) = false := by simp; omega
  clear hno
  rcases h with b1 | ⟨b1, b2⟩
  all_goals
    go_enter Try.func3, Try.ntmps3
    go_wp2_with fail
    with_reducible refine (hn _).mono ?_
    rintro e w' ⟨rfl, rfl⟩
    go_wp2_with fail
    with_reducible refine (hm _).mono ?_
    rintro e w' ⟨rfl, rfl⟩
    go_wp2_with fail
    with_reducible refine (hh _ hG).mono ?_
    rintro e w1 ⟨rfl, f1⟩
    go_wp2_with fail
    go_ret
    exact ⟨rfl, f1⟩

theorem aimage_k (w : World) (p g cap : Nat) (l : List Nat) (h : IsA w p g cap l) :
    Calls Try.prog 10 #[.pointer (some ⟨p, 0, none⟩)] w fun e w' => ∃ g' cap', e = .returned (.slice (some ⟨g', 0, none⟩) l.length cap') ∧ w.heap.size ≤ g' ∧ RowB w' g' cap' l ∧ Fr [] w w' :=
  (aimage_any w p g cap l h).mono fun e w' ⟨v, he, g', cap', hv, h1, h2, h3⟩ => ⟨g', cap', hv ▸ he, h1, h2, h3⟩
theorem conv_lo (W : World) (g cap : Nat) (l : List Nat) (h : RowB W g cap l) (hb : ∀ b ∈ l, b < 256) (hl : l.length ≤ 1048576) (x c : Nat) (hx : x ≤ l.length) :
    (convert 28 9 (.slice (some ⟨g, 0, none⟩) x c)).run Try.prog W = .ok (.string (strOf (l.take x))) W := by
  have h1 := h.sub hb hl 0 x (by omega) 0 (.inr rfl)
  have h2 := conv_str W _ c _ h1
  rw [List.drop_zero] at h2
  rw [List.length_take, Nat.min_eq_left hx] at h2
  exact h2
theorem conv_hi (W : World) (g cap : Nat) (l : List Nat) (h : RowB W g cap l) (hb : ∀ b ∈ l, b < 256) (hl : l.length ≤ 1048576) (x m o c : Nat) (hx : x + m = l.length) (ho : m = 0 ∨ o = x) :
    (convert 28 9 (.slice (some ⟨g, o, none⟩) m c)).run Try.prog W = .ok (.string (strOf (l.drop x))) W := by
  have h1 := h.sub hb hl x m (by omega) o ho
  have h2 := conv_str W _ c _ h1
  rw [List.take_of_length_le (by rw [List.length_drop]; omega), List.length_drop, show l.length - x = m by omega] at h2
  exact h2
theorem conv_hi8 (W : World) (g cap : Nat) (l : List Nat) (h : RowB W g cap l) (hb : ∀ b ∈ l, b < 256) (n : Nat) (hn : l.length = n) (hl : n ≤ 1048576) (hc : n ≤ cap) (y : Nat) (hy : y + 8 ≤ n) :
    (convert 28 9 (.slice (if cap = ((y : Int) + 8).toNat then some ⟨g, 0, none⟩ else some ⟨g, ((y : Int) + 8).toNat, none⟩) (n - ((y : Int) + 8).toNat) (cap - ((y : Int) + 8).toNat))).run Try.prog W = .ok (.string (strOf (l.drop (y + 8)))) W := by
  rw [show ((y : Int) + 8).toNat = y + 8 by omega]
  split
  · exact conv_hi W g cap l h hb (by omega) (y + 8) (n - (y + 8)) 0 _ (by omega) (.inl (by omega))
  · exact conv_hi W g cap l h hb (by omega) (y + 8) (n - (y + 8)) (y + 8) _ (by omega) (.inr rfl)
theorem list_eq_of {l m : List Nat} (hl : l.length = m.length) (h : ∀ i, i < l.length → l[i]?.getD 0 = m[i]?.getD 0) : l = m := by
  apply List.ext_getElem hl
  intro i h1 h2
  have := h i h1
  rw [List.getElem?_eq_getElem h1, List.getElem?_eq_getElem h2] at this
  simpa using this
theorem putTo_take (l : List Nat) (x v k : Nat) (h : x + k ≤ l.length) : (putTo l x v k).take x = l.take x := by
  refine list_eq_of (by simp [putTo_len]) (fun i hi => ?_)
  rw [List.length_take, putTo_len] at hi
  rw [List.getElem?_take_of_lt (by omega), List.getElem?_take_of_lt (by omega), putTo_get l x v k h i, if_neg (by omega)]
theorem putTo_drop (l : List Nat) (x v k : Nat) (h : x + k ≤ l.length) : (putTo l x v k).drop (x + k) = l.drop (x + k) := by
  refine list_eq_of (by simp [putTo_len]) (fun i hi => ?_)
  rw [List.length_drop, putTo_len] at hi
  rw [List.getElem?_drop, List.getElem?_drop, putTo_get l x v k h, if_neg (by omega)]

theorem back_ok {l : List Nat} {x : Int} {v : Nat} (h : putE l x 8 v = 0) : ∃ y : Nat, x = y ∧ y + 8 ≤ l.length ∧ placeE l.length y 8 = 0 := by
  have hp : placeE l.length x 8 = 0 := by
    unfold putE at h
    split at h
    · cases h
    · exact h
  have hq := hp
  unfold placeE at hq
  split at hq
  · cases hq
  split at hq
  · cases hq
  · have e : x = (x.toNat : Nat) := by omega
    exact ⟨x.toNat, e, by omega, by rw [← e]; exact hp⟩

def BackRel (w0 : World) (p g cap n len : Nat) (i : Value) (wr : World) : Prop :=
  ∃ t : Nat, t ≤ len ∧ i = .int .i64 t ∧ ∃ l, IsA wr p g cap l ∧ l.length = n ∧ Fr [] w0 wr ∧ w0.heap.size ≤ p ∧ w0.heap.size ≤ g

set_option maxRecDepth 100000 in
set_option maxHeartbeats 8000000 in
theorem back_c (w : World) (hG : Glb w) (n : Nat) (hn : amayB n = true) (hn1 : n ≤ 4096) (a1 a2 : Option Addr) (c1 c2 : Nat) (l1 l2 : List Int) (h1 : NumA .i64 w a1 c1 l1) (h2 : NumA .u64 w a2 c2 l2) (hm1 : l1.length ≤ 60) (hm2 : l1.length ≤ l2.length) :
    Calls Try.prog 3 #[.int .i64 n, .slice a1 l1.length c1, .slice a2 l2.length c2] w fun e w' => e = .returned (.bool true) ∧ Fr [] w w' := by
  have hh := fun w hG => holds10 w hG
  have hnew := fun w => anew_yes w n hn
  have b1 : decide ((4096 : Int) < n) = false := by simp; omega
  have b1' : decide (4096 < n) = false := by simp; omega
  have H1 := Lib.hid h1
  have H2 := Lib.hid h2
  have HG := Lib.hid hG
  generalize hl1 : l1.length = m1 at *
  generalize hl2 : l2.length = m2 at *
  have HL1 := Lib.hid hl1
  have HL2 := Lib.hid hl2
  have hrl := Lib.hid (show (List.replicate n 0).length = n by simp)
  have b3 : decide ((60 : Int) < m1) = false := by simp; omega
  have b3' : decide (60 < m1) = false := by simp; omega
  have b4 : decide ((m2 : Int) < m1) = false := by simp; omega
  have b4' : decide (m2 < m1) = false := by simp; omega
  clear hn h1 h2 hG hl1 hl2
  go_enter Try.func3, Try.ntmps3
  go_wp2_with fail
  with_reducible refine (hnew _).mono ?_
  rintro e w1 ⟨p, g, rfl, i1, hp, hg, f1⟩
  clear hnew
  have START : BackRel w p g n n m1 (.int .i64 0) w1 := ⟨0, by omega, rfl, _, i1, hrl.out, f1, hp, hg⟩
  clear i1 f1 hrl
  go_wp2_with fail
  go_loopw [8] (fun i wr => BackRel w p g n n m1 i wr) (fun i _ => m1 - (intOf i).toNat)
  case atStart => exact START
  case round =>
    clear START
    obtain ⟨t, ht, rfl, l, iA, hln, hf, _, _⟩ := hrel
    by_cases hlt : t < m1
    · obtain ⟨g1, o1, rfl, d1, e1⟩ := H1.out.at_ t (by rw [HL1.out]; exact hlt)
      obtain ⟨g2, o2, rfl, d2, e2⟩ := H2.out.at_ t (by rw [HL2.out]; omega)
      have wf2 := H2.out.wf (l2[t]?.getD 0) (by
        have : l2[t]? = some (l2[t]'(by rw [HL2.out]; omega)) := List.getElem?_eq_getElem _
        rw [this]; exact List.getElem_mem _)
      obtain ⟨v, hv, hv64⟩ := lit_u64 wf2
      rw [hv] at d2
      generalize l1[t]?.getD 0 = x at *
      clear wf2 hv
      have hlb := Lib.hid iA.byte
      have hgl : g < wr.heap.size := iA.row.lt
      have IA := Lib.hid iA
      have FF := Lib.hid hf
      have D1 := Lib.hid (And.intro d1 e1)
      have D2 := Lib.hid (And.intro d2 e2)
      have hg1 : (0 : Int) ≤ t := by omega
      have hg2 : (t : Int) < m1 := by omega
      have hg3 : (t : Int) < m2 := by omega
      have hg4 : t < m2 := by omega
      have him := fun w p g c h => aimage_k w p g c l h
      clear iA hf d1 e1 d2 e2
      by_cases hE : putE l x 8 v = 0
      · obtain ⟨y, rfl, hy, hpe0⟩ := back_ok hE
        have hput := fun W h => aput_any W p g n l h y 8 v hv64
        have hpl : putL l y 8 v = putTo l y v 8 := by unfold putL; rw [if_pos hE]; rfl
        have hlen' : (putTo l y v 8).length = n := by rw [putTo_len]; exact hln
        have hget := fun W h => aget_any W p g n (putTo l y v 8) h y 8
        have hpe : placeE (putTo l y v 8).length y 8 = 0 := by rw [putTo_len]; exact hpe0
        have hld : ldV (putTo l y v 8) y 8 = v := by
          unfold ldV
          rw [if_pos hpe]
          have := ldTo_put l y v 8 hy 8 (Nat.le_refl _)
          rw [Nat.mod_eq_of_lt (by omega)] at this
          exact this
        have htk := Lib.hid (putTo_take l y v 8 hy)
        have hdr := Lib.hid (putTo_drop l y v 8 hy)
        rw [hpl, hE] at hput
        rw [hpe, hld] at hget
        have him2 := fun w p g c h => aimage_k w p g c (putTo l y v 8) h
        generalize putTo l y v 8 = l' at *
        clear hE hpl hpe hld hpe0
        rw [hln] at hy
        go_wp2_with fail
        with_reducible refine (him _ p g n IA.out).mono ?_
        rintro e W1 ⟨gw, cw, rfl, hgw, hrw, fw⟩
        rw [hln]
        have F1 := Lib.hid (FF.out.trans fw)
        have I1 := Lib.hid (IA.out.fr fw (by simp) (by simp))
        have RW := Lib.hid hrw
        clear hrw fw him
        go_wp2_with fail
        have hY := And.intro ((F1.out.drew.cell (p := ⟨g1, o1 + t, none⟩) D1.out.2 (by simp)).trans D1.out.1) ((F1.out.drew.cell (p := ⟨g2, o2 + t, none⟩) D2.out.2 (by simp)).trans D2.out.1)
        go_region_held3 (fun W => W.cell? ⟨g1, o1 + t, none⟩ = some (.int .i64 y) ∧ W.cell? ⟨g2, o2 + t, none⟩ = some (.int .u64 v)) (exact hY)
          (first | (go_at_call 11; with_reducible refine (hput _ (I1.out.fr frDrew (S := []) (by simp) (by simp))).mono ?_; rintro e W2 ⟨rfl, i2, f2⟩; have I2 := Lib.hid i2; have F2 := Lib.hid (F1.out.drew.step f2 (by simp; omega)); have RW2 := Lib.hid (RW.out.drew.fr f2 (by simp; omega)); have hY := And.intro ((F2.out.cell (p := ⟨g1, o1 + t, none⟩) D1.out.2 (by simp)).trans D1.out.1) ((F2.out.cell (p := ⟨g2, o2 + t, none⟩) D2.out.2 (by simp)).trans D2.out.1); clear i2 f2) | fail)
        clear hput
        obtain ⟨hY1, hY2⟩ := hY
        go_wp2_with fail
        with_reducible refine (hget _ I2.out).mono ?_
        rintro e w' ⟨rfl, rfl⟩
        clear hget
        go_wp2_with fail
        with_reducible refine (him2 _ p g n I2.out).mono ?_
        rintro e W3 ⟨g3, c3, rfl, hgg3, hr3, f3⟩
        rw [hlen']
        have I3 := Lib.hid (I2.out.fr f3 (by simp) (by simp))
        have F3 := Lib.hid (F2.out.trans f3)
        have RW3 := Lib.hid (RW2.out.fr f3 (by simp))
        have R3 := Lib.hid hr3
        have hY3 := (F3.out.cell (p := ⟨g1, o1 + t, none⟩) D1.out.2 (by simp)).trans D1.out.1
        have hY4 := (F3.out.cell (p := ⟨g2, o2 + t, none⟩) D2.out.2 (by simp)).trans D2.out.1
        clear hr3 f3 hY1 hY2 him2
        go_wp2_with fail
        have s1 := fun q => conv_lo _ _ _ _ (R3.out.fr ((Fr.refl [] _).drewN q) (by simp)) I3.out.byte (by rw [hlen']; omega) y c3 (by rw [hlen']; omega)
        have s2 := fun q => conv_lo _ _ _ _ (RW3.out.fr ((Fr.refl [] _).drewN q) (by simp)) hlb.out (by rw [hln]; omega) y cw (by rw [hln]; omega)
        have hc3 : n ≤ c3 := by have := R3.out.le; rw [hlen'] at this; exact this
        have hcw : n ≤ cw := by have := RW3.out.le; rw [hln] at this; exact this
        have s3 := fun q => conv_hi8 _ _ _ _ (R3.out.fr ((Fr.refl [] _).drewN q) (by simp)) I3.out.byte n hlen' (by omega) hc3 y hy
        have s4 := fun q => conv_hi8 _ _ _ _ (RW3.out.fr ((Fr.refl [] _).drewN q) (by simp)) hlb.out n hln (by omega) hcw y hy
        rw [htk.out] at s1
        rw [hdr.out] at s3
        generalize strOf (l.drop (y + 8)) = sr at *
        generalize strOf (l.take y) = ss at *
        have h01 : (0 : Int) ≤ y := by omega
        have h02 : (y : Int) ≤ c3 := by omega
        have h03 : (y : Int) ≤ cw := by omega
        have h04 : y ≤ c3 := by omega
        have h05 : y ≤ cw := by omega
        have h06 : IntKind.i64.wrap ((y : Int) + 8) = (y : Int) + 8 := IntWalk.i64_in _ (by omega)
        have h07 : (0 : Int) ≤ (y : Int) + 8 := by omega
        have h08 : (y : Int) + 8 ≤ n := by omega
        have h09 : y + 8 ≤ n := by omega

        go_quiet (fail)
        clear s1 s2 s3 s4
        go_wp2_with fail
        go_roundw
        case rel => exact ⟨t + 1, by omega, by go_num, l', I3.out.fr ((Fr.refl [] _).drewN nq) (by simp) (by simp), hlen', F3.out.drewN nq, hp, hg⟩
        case measure => simp [intOf]; omega
      · have hput := fun W h => aput_any W p g n l h x 8 v hv64
        have hpl : putL l x 8 v = l := by unfold putL; rw [if_neg hE]
        have hE1 : ((putE l x 8 v : Nat) : Int) ≠ 0 := by omega
        rw [hpl] at hput
        generalize putE l x 8 v = E at *
        have hE2 : ((E : Int) != 0) = true := by simpa using hE1
        go_wp2_with fail
        with_reducible refine (him _ p g n IA.out).mono ?_
        rintro e W1 ⟨gw, cw, rfl, hgw, hrw, fw⟩
        rw [hln]
        have F1 := Lib.hid (FF.out.trans fw)
        have I1 := Lib.hid (IA.out.fr fw (by simp) (by simp))
        have RW := Lib.hid hrw
        clear hrw fw
        go_wp2_with fail
        have hY := And.intro ((F1.out.drew.cell (p := ⟨g1, o1 + t, none⟩) D1.out.2 (by simp)).trans D1.out.1) ((F1.out.drew.cell (p := ⟨g2, o2 + t, none⟩) D2.out.2 (by simp)).trans D2.out.1)
        go_region_held3 (fun W => W.cell? ⟨g1, o1 + t, none⟩ = some (.int .i64 x) ∧ W.cell? ⟨g2, o2 + t, none⟩ = some (.int .u64 v)) (exact hY)
          (first | (go_at_call 11; with_reducible refine (hput _ (I1.out.fr frDrew (S := []) (by simp) (by simp))).mono ?_; rintro e W2 ⟨rfl, i2, f2⟩; have I2 := Lib.hid i2; have F2 := Lib.hid (F1.out.drew.step f2 (by simp; omega)); have RW2 := Lib.hid (RW.out.drew.fr f2 (by simp; omega)); have hY := And.intro ((F2.out.cell (p := ⟨g1, o1 + t, none⟩) D1.out.2 (by simp)).trans D1.out.1) ((F2.out.cell (p := ⟨g2, o2 + t, none⟩) D2.out.2 (by simp)).trans D2.out.1); clear i2 f2))
        clear hY him hput
        have hs0 := conv_str _ _ cw _ ((RW2.out.drew).byt hlb.out (by omega))
        have HIM := Lib.hid (fun w p g c h => aimage_k w p g c l h)
        rw [hln] at hs0
        generalize hss : strOf l = ss at *
        have HSS := Lib.hid hss
        have HH := Lib.hid hh
        have HLN := Lib.hid hln
        clear hss hh hln
        go_wp2_with fail
        go_region_with (first | (go_at_call 10; with_reducible refine (HIM.out _ p g n (I2.out.fr (frDrew (S := [])) (by simp) (by simp))).mono ?_; rintro e W3 ⟨g3, c3, rfl, hgg3, hr3, f3⟩; have i3 := Lib.hid ((I2.out.fr (frDrew (S := [])) (by simp) (by simp)).fr f3 (by simp) (by simp)); have F3 := Lib.hid (F2.out.drew.trans f3); have hs3 := conv_str _ _ c3 _ (hr3.byt hlb.out (by rw [HLN.out]; omega)); have hs1 := conv_str _ _ cw _ ((RW2.out.drew.fr f3 (by simp)).byt hlb.out (by rw [HLN.out]; omega)); rw [HLN.out, HSS.out] at hs3 hs1; rw [HLN.out]; clear hr3 f3) | fail)
        all_goals
          go_wp2_with fail
          go_roundw
          case rel => exact ⟨t + 1, by omega, by go_num, l, i3.out, HLN.out, F3.out, hp, hg⟩
          case measure => simp [intOf]; omega

    · obtain rfl : t = m1 := by omega
      go_wp2_with fail
      with_reducible refine (hh _ (HG.out.fr0 hf)).mono ?_
      rintro e w4 ⟨rfl, f4⟩
      go_wp2_with fail
      go_ret
      exact ⟨rfl, hf.trans f4⟩
theorem walk_back10 (w : World) (hG : Glb w) (n : Int) (a1 : Option Addr) (c1 : Nat) (l1 : List Int) (h1 : NumA .i64 w a1 c1 l1) (a2 : Option Addr) (c2 : Nat) (l2 : List Int) (h2 : NumA .u64 w a2 c2 l2) :
    Calls Try.prog 3 #[.int .i64 n, .slice a1 l1.length c1, .slice a2 l2.length c2] w fun e w' => e = .returned (.bool true) ∧ Fr [] w w' := by
  by_cases hA : 4096 < n ∧ n ≤ 1048576
  · exact back_a w hG n a1 a2 _ _ c1 c2 (.inl (by simp; omega))
  have hc : decide (4096 < n) = false ∨ (decide (4096 < n) = true ∧ decide (n ≤ 1048576) = false) := by simp; omega
  by_cases h60 : 60 < l1.length
  · exact back_a w hG n a1 a2 _ _ c1 c2 (.inr ⟨hc, .inl (by simp; omega)⟩)
  by_cases h12 : l2.length < l1.length
  · exact back_a w hG n a1 a2 _ _ c1 c2 (.inr ⟨hc, .inr ⟨by simp; omega, by simp; omega⟩⟩)
  cases hn : amayB n
  · exact back_b w hG n a1 a2 _ _ c1 c2 hn hc (by omega) (by omega)
  · obtain ⟨m, rfl⟩ : ∃ m : Nat, n = m := ⟨n.toNat, by unfold amayB at hn; simp at hn; omega⟩
    exact back_c w hG m hn (by unfold amayB at hn; simp at hn; omega) a1 a2 c1 c2 l1 l2 h1 h2 (by omega) (by omega)
end Go.Proofs.Ytcagljjbiodcoaa
