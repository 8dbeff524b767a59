/- Layer 10: ArenaOf. -/
import Derived.Test.YtcagljjbiodcoaaLaw10a
import Derived.Test.YtcagljjbiodcoaaOpen10
import Derived.Deep.RegionHeld3
namespace Go.Proofs.Ytcagljjbiodcoaa
set_option linter.unusedVariables false
open Go.RowKit

theorem of_a (w : World) (hG : Glb w) (a : Option Addr) (n c : Nat) (x : Int) (h1 : 4096 < n) :
    Calls Try.prog 4 #[.slice a n c, .int .i64 x] w fun e w' => e = .returned (.bool true) ∧ Fr [] w w' := by
  have hh := fun w hG => holds10 w hG
  have b1 : decide ((4096 : Int) < n) = true := by simp; omega
  have b1' : decide (4096 < n) = true := by simp; omega
  clear h1
  go_enter Try.func4, Try.ntmps4
  go_wp2_with fail
  with_reducible refine (hh _ hG).mono ?_
  rintro e w1 ⟨rfl, f1⟩
  go_wp2_with fail
  go_ret
  exact ⟨rfl, f1⟩
theorem of_b (w : World) (hG : Glb w) (a : Option Addr) (c : Nat) (l : List Nat) (hb : Byt w a l) (x : Int) (h1 : l.length ≤ 4096) (hm : amayB l.length = false) :
    Calls Try.prog 4 #[.slice a l.length c, .int .i64 x] w fun e w' => e = .returned (.bool true) ∧ Fr [] w w' := by
  have hh := fun w hG => holds10 w hG
  have sc := conv_str w a c l hb
  have hof := aof_no w a c l.length (by unfold maxLen; omega) hm
  have hmay := fun w => xmay10 w l.length
  rw [hm] at hmay
  have b1 : decide ((4096 : Int) < l.length) = false := by simp; omega
  have b1' : decide (4096 < l.length) = false := by simp; omega
  generalize strOf l = s at *
  clear hm hb
  generalize l.length = n at *
  go_enter Try.func4, Try.ntmps4
  go_wp2_with fail
  with_reducible refine hof.mono ?_
  rintro e w' ⟨rfl, rfl⟩
  go_wp2_with fail
  with_reducible refine (hmay _).mono ?_
  rintro e w' ⟨rfl, rfl⟩
  go_wp2_with fail
  with_reducible refine (hh _ hG).mono ?_
  rintro e w1 ⟨rfl, f1⟩
  go_wp2_with fail
  go_ret
  exact ⟨rfl, f1⟩
theorem part_cases1 {n : Nat} {x : Int} (h : partE n x 1 = 0) : ∃ y : Nat, x = y ∧ y + 1 ≤ n := by
  unfold partE at h
  split at h
  · cases h
  · exact ⟨x.toNat, by omega, by omega⟩
theorem aimage_y (w : World) (p g cap : Nat) (l : List Nat) (h : IsA w p g cap l) :
    Calls Try.prog 10 #[.pointer (some ⟨p, 0, none⟩)] w fun e w' => ∃ g' cap', e = .returned (.slice (some ⟨g', 0, none⟩) l.length cap') ∧ w.heap.size ≤ g' ∧ RowB w' g' cap' l ∧ Fr [] w w' :=
  (aimage_any w p g cap l h).mono fun e w' ⟨v, he, g', cap', hv, h1, h2, h3⟩ => ⟨g', cap', hv ▸ he, h1, h2, h3⟩

set_option maxRecDepth 100000 in
set_option maxHeartbeats 8000000 in
theorem of_c (w : World) (hG : Glb w) (ad : Addr) (c : Nat) (l : List Nat) (hb : Byt w (some ad) l) (x : Int) (h1 : l.length ≤ 4096) (hm : amayB l.length = true) :
    Calls Try.prog 4 #[.slice (some ad) l.length c, .int .i64 x] w fun e w' => e = .returned (.bool true) ∧ Fr [] w w' := by
  have hh := fun w hG => holds10 w hG
  have sc := conv_str w (some ad) c l hb
  have hof := aof_yes w ad c l hb hm
  have hmay := fun w => xmay10 w l.length
  have hlen := fun w p g c h => alen_any w p g c l h
  have him := fun w p g c h => aimage_y w p g c l h
  rw [hm] at hmay
  have b1 : decide ((4096 : Int) < l.length) = false := by simp; omega
  have b1' : decide (4096 < l.length) = false := by simp; omega
  have hlb := hb.byte
  have HB := Lib.hid hb
  have HG := Lib.hid hG
  have h16 : 16 ≤ l.length := by unfold amayB at hm; simp at hm; omega
  by_cases hE : partE l.length x 1 = 0
  · obtain ⟨x, rfl, hx⟩ := part_cases1 hE
    obtain ⟨ga, oa, ea, _, _⟩ := hb.at_ 0 (by omega)
    injection ea with ea
    subst ea
    have hbx : w.cell? ⟨ga, oa + x, none⟩ = some (.int .u8 ((l[x]?.getD 0 : Nat) : Int)) ∧ ga < w.heap.size := by
      obtain ⟨g', o', e', h1, h2⟩ := hb.at_ x (by omega)
      injection e' with e'
      injection e' with e1 e2
      subst e1 e2
      exact ⟨h1, h2⟩
    have hk : l[x]?.getD 0 < 256 := by
      have : l[x]? = some (l[x]'(by omega)) := List.getElem?_eq_getElem (by omega)
      rw [this]; exact hb.byte _ (List.getElem_mem _)
    have hvw := fun W p g c (h : IsA W p g c l) => (show Calls Try.prog 15 #[.pointer (some ⟨p, 0, none⟩), .int .i64 x, .int .i64 1] W _ from aview_yes W p g c l h x 1 hx)
    have hpo : partO x 1 = x := by unfold partO; rw [if_neg (by omega)]
    rw [hpo] at hvw
    have HS := Lib.hid (fun W p g c (h : IsA W p g c l) => h.set x ((l[x]?.getD 0 + 1) % 256) hx (Nat.mod_lt _ (by decide)))
    have HC := Lib.hid (fun W p g c (h : IsA W p g c l) => And.intro (h.row.cell x hx) (h.row.frozen x))
    have hne : ((strOf (l.set x ((l[x]?.getD 0 + 1) % 256))).toList == (strOf l).toList) = false := by
      rw [strOf_eq _ _ (fun b hb' => by
        rcases List.mem_or_eq_of_mem_set hb' with h | h
        · exact hb.byte _ h
        · rw [h]; exact Nat.mod_lt _ (by decide)) hb.byte]
      rw [beq_eq_false_iff_ne]
      intro e
      have e2 := congrArg (fun m : List Nat => m[x]?.getD 0) e
      simp only [List.getElem?_set_self (show x < l.length by omega), Option.getD_some] at e2
      omega
    have hl2 : (l.set x ((l[x]?.getD 0 + 1) % 256)).length = l.length := by simp
    have hl2b : ∀ b ∈ (l.set x ((l[x]?.getD 0 + 1) % 256)), b < 256 := fun b hb' => by
      rcases List.mem_or_eq_of_mem_set hb' with h | h
      · exact hb.byte _ h
      · rw [h]; exact Nat.mod_lt _ (by decide)
    have hx2 : (l.set x ((l[x]?.getD 0 + 1) % 256))[x]?.getD 0 = (l[x]?.getD 0 + 1) % 256 := by
      rw [List.getElem?_set_self (show x < l.length by omega)]; rfl
    have HIM2 := Lib.hid (fun w p g c h => aimage_y w p g c (l.set x ((l[x]?.getD 0 + 1) % 256)) h)
    have HL2B := Lib.hid hl2b
    have HL2 := Lib.hid hl2
    have HX2 := Lib.hid hx2
    generalize (l.set x ((l[x]?.getD 0 + 1) % 256)) = l2 at *
    generalize l[x]?.getD 0 = k at *
    generalize hs : strOf l = s at *
    have HSS := Lib.hid hs
    generalize hn : l.length = n at *
    have HN := Lib.hid hn
    clear hb hG hlb hm hE hpo hl2 hl2b hx2 hs hn
    go_enter Try.func4, Try.ntmps4
    go_wp2_with fail
    with_reducible refine hof.mono ?_
    rintro e w1 ⟨p, g, cp, rfl, i1, hp, hg, f1⟩
    go_wp2_with fail
    with_reducible refine (hmay _).mono ?_
    rintro e w' ⟨rfl, rfl⟩
    go_wp2_with fail
    with_reducible refine (hlen _ p g cp i1).mono ?_
    rintro e w' ⟨rfl, rfl⟩
    go_wp2_with fail
    with_reducible refine (him _ p g cp i1).mono ?_
    rintro e w2 ⟨g2, c2, rfl, hg2, hr2, f2⟩
    have s2 := conv_str _ _ c2 _ (hr2.byt HB.out.byte (by rw [HN.out]; omega))
    rw [HN.out, HSS.out] at s2
    have i2 := i1.fr f2 (by simp) (by simp)
    have f12 := f1.trans f2
    clear hr2 i1
    go_wp2_with fail
    with_reducible refine (hvw _ p g cp i2).mono ?_
    rintro e w' ⟨rfl, rfl⟩
    obtain ⟨cv, zv⟩ := HC.out _ _ _ _ i2
    have HI2 := Lib.hid i2
    clear i2
    go_wp2_with fail
    have i3 := HS.out _ p g cp HI2.out
    have e5 : (((k + 1) % 256 : Nat) : Int) = ((k : Int) + 1) % 256 := by omega
    rw [e5] at i3
    have f3 := f12.setCell (p := ⟨g, x, none⟩) (.inr hg) (.int .u8 (((k : Int) + 1) % 256))
    have e6 : IntKind.u8.wrap ((k : Int) + 1) = ((k : Int) + 1) % 256 := by rw [← e5]; exact_mod_cast (show IntKind.u8.wrap (((k + 1 : Nat)) : Int) = _ from by rw [IntKind.wrap]; rfl)
    generalize w'.setCell ⟨g, x, none⟩ (.int .u8 (((k : Int) + 1) % 256)) = W3 at *
    clear HI2 f12 f1 f2 cv zv s2 e5 hof him sc HS HC hvw
    with_reducible refine (HIM2.out _ p g cp i3).mono ?_
    rintro e W4 ⟨g4, c4, rfl, hg4, hr4, f4⟩
    have l20 := hr4.cell 0 (by rw [HL2.out]; omega)
    have z20 := hr4.frozen 0
    rw [HL2.out]
    generalize l2[0]?.getD 0 = k0 at *
    have hx1 : (x : Int) < n := by omega
    have hx1' : x < n := by omega
    have h0n : (0 : Int) < n := by omega
    have h0n' : 0 < n := by omega
    go_wp2_with fail
    have f5 := (f3.trans f4).setCell (p := ⟨g4, 0, none⟩) (.inr (Nat.le_trans f3.size hg4)) (.int .u8 (((k0 : Int) + 1) % 256))
    have i5 := i3.fr ((f4).setCell (p := ⟨g4, 0, none⟩) (.inr hg4) (.int .u8 (((k0 : Int) + 1) % 256))) (by simp) (by simp)
    clear hr4 l20 z20 i3 f4
    generalize W4.setCell ⟨g4, 0, none⟩ (.int .u8 (((k0 : Int) + 1) % 256)) = W5 at *
    have iA := Lib.hid (i5.fr (frDrew (S := [])) (by simp) (by simp))
    have FF := Lib.hid (f5.drew)
    have hS5 := conv_str _ _ c _ (HB.out.fr FF.out (by simp))
    rw [HN.out, HSS.out] at hS5
    have hC5 := (FF.out.cell (p := ⟨ga, oa + x, none⟩) hbx.2 (by simp)).trans hbx.1
    have hY := And.intro hS5 hC5
    have HBX := Lib.hid hbx
    have hk1 : ((k + 1) % 256 : Nat) = (k + 1) % 256 := rfl
    generalize hsl2 : strOf l2 = s2 at *
    have HSL2 := Lib.hid hsl2
    clear i5 f5 f3 hS5 hC5 hbx hsl2
    obtain ⟨hY1, hY2⟩ := hY
    have HH := Lib.hid hh
    clear hh hmay hlen b1 b1' hg2 hg4 hp hg
    go_region_with
      (first | (go_at_call 10; with_reducible refine (HIM2.out _ p g cp iA.out).mono ?_; rintro e W6 ⟨g6, c6, rfl, hg6, hr6, f6⟩; have iA := Lib.hid (iA.out.fr f6 (by simp) (by simp)); have FF := Lib.hid (FF.out.trans f6); have c66 := hr6.cell x (by rw [HL2.out]; omega); have s66 := conv_str _ _ c6 _ (hr6.byt HL2B.out (by rw [HL2.out]; omega)); have hS6 := conv_str _ _ c _ (HB.out.fr FF.out (by simp)); have hC6 := (FF.out.cell (p := ⟨ga, oa + x, none⟩) HBX.out.2 (by simp)).trans HBX.out.1; rw [HN.out, HSS.out] at hS6; rw [HL2.out, HSL2.out] at s66; rw [HX2.out] at c66; rw [HL2.out]; clear hr6 f6))
    all_goals
      go_wp2_with fail
      with_reducible refine (HH.out _ (HG.out.fr0 FF.out)).mono ?_
      rintro e w9 ⟨rfl, f9⟩
      go_wp2_with fail
      go_ret
      exact ⟨rfl, FF.out.trans f9⟩
  · have hvw := fun W p g c h => aview_no W p g c l h x 1 hE
    generalize hs : strOf l = s at *
    have HSS := Lib.hid hs
    generalize hn : l.length = n at *
    have HN := Lib.hid hn
    clear hb hG hlb hm hE hs hn
    go_enter Try.func4, Try.ntmps4
    go_wp2_with fail
    with_reducible refine hof.mono ?_
    rintro e w1 ⟨p, g, cp, rfl, i1, hp, hg, f1⟩
    go_wp2_with fail
    with_reducible refine (hmay _).mono ?_
    rintro e w' ⟨rfl, rfl⟩
    go_wp2_with fail
    with_reducible refine (hlen _ p g cp i1).mono ?_
    rintro e w' ⟨rfl, rfl⟩
    go_wp2_with fail
    with_reducible refine (him _ p g cp i1).mono ?_
    rintro e w2 ⟨g2, c2, rfl, hg2, hr2, f2⟩
    have s2 := conv_str _ _ c2 _ (hr2.byt HB.out.byte (by rw [HN.out]; omega))
    rw [HN.out, HSS.out] at s2
    have i2 := i1.fr f2 (by simp) (by simp)
    go_wp2_with fail
    with_reducible refine (hvw _ p g cp i2).mono ?_
    rintro e w' ⟨rfl, rfl⟩
    go_wp2_with fail
    with_reducible refine (hh _ (HG.out.fr0 (f1.trans f2))).mono ?_
    rintro e w4 ⟨rfl, f4⟩
    go_wp2_with fail
    go_ret
    exact ⟨rfl, (f1.trans f2).trans f4⟩
theorem walk_of10 (w : World) (hG : Glb w) (a : Option Addr) (c : Nat) (l : List Nat) (hb : BytC w a c l) (x : Int) :
    Calls Try.prog 4 #[.slice a l.length c, .int .i64 x] w fun e w' => e = .returned (.bool true) ∧ Fr [] w w' := by
  by_cases h1 : 4096 < l.length
  · exact of_a w hG a _ c x h1
  have hb2 := hb.b.byt (by omega)
  cases hm : amayB l.length
  · exact of_b w hG a c l hb2 x (by omega) hm
  · have h16 : 16 ≤ l.length := by unfold amayB at hm; simp at hm; omega
    obtain ⟨g, o, rfl, _, _⟩ := hb2.at_ 0 (by omega)
    exact of_c w hG _ c l hb2 x (by omega) hm
end Go.Proofs.Ytcagljjbiodcoaa
