/- Layer 16: RegionRuns. -/
import Derived.Test.YtmemoopkgjgmiaaGreatDoorLB
import Derived.Test.YtmemoopkgjgmiaaGreatDoorLA
import Derived.Test.YtmemoopkgjgmiaaGreatDoorOpen16r
namespace Go.Proofs.YtmemoopkgjgmiaaGreatDoor
set_option linter.unusedVariables false
set_option linter.unusedSimpArgs false
open Go.RowKit

def rzA (l : List A16r) : List Rz := l.map fun d => (d.x, d.m, d.j)
theorem ActA16r.zb {w : World} {a : Option Addr} {c : Nat} {l : List A16r} (h : ActA16r w a c l) (hl : l.length ≤ 1048576) : ZB w a (rzA l) := by
  refine ⟨fun h0 => ?_, by unfold rzA; rw [List.length_map]; exact hl⟩
  obtain ⟨b, off, ha, hb, hr⟩ := h.row (by unfold rzA at h0; rw [List.length_map] at h0; exact h0)
  refine ⟨b, off, ha, hb, fun i r hi => ?_⟩
  unfold rzA at hi
  rw [List.getElem?_map] at hi
  obtain ⟨hlt, hd⟩ : ∃ hlt : i < l.length, some (l[i].x, l[i].m, l[i].j) = some r := by
    rcases Nat.lt_or_ge i l.length with h1 | h1
    · rw [List.getElem?_eq_getElem h1] at hi
      exact ⟨h1, hi⟩
    · rw [List.getElem?_eq_none h1] at hi; cases hi
  obtain rfl := Option.some.inj hd
  have k := hr i hlt
  exact ⟨k.c0, k.c1, k.c2⟩
set_option maxRecDepth 100000 in
set_option maxHeartbeats 4000000 in
theorem walk_rruns (w : World) (hM : TabM w) (hT : Tabs w) (a : Option Addr) (c : Nat) (l : List A16r) (h : ActA16r w a c l) (n y : Int) (hy : y ≤ 9223372036854775807) :
    Calls Tryz.prog 4 #[.slice a l.length c, .int .i64 n, .int .i64 y] w fun e w' => e = .returned (.bool true) ∧ Fr [] w w' := by
  have HL := Lib.hid (fun W (hf : Fr [] w W) => maps16 W (hM.fr hf (by simp)) (hT.fr hf (by simp)))
  by_cases hgd : 60 < l.length
  · have b1 : decide ((60 : Int) < l.length) = true := by simp; omega
    have b1' : decide (60 < l.length) = true := by simp; omega
    clear hgd h
    generalize l.length = m at *
    go_enter Tryz.func4, Tryz.ntmps4
    go_wp2_with fail
    with_reducible refine (HL.out _ (Fr.refl _ _)).mono ?_
    rintro e w1 ⟨rfl, f1⟩
    go_wp2_with fail
    go_ret
    exact ⟨rfl, f1⟩
  · have hz := h.zb (by omega)
    have b1 : decide ((60 : Int) < l.length) = false := by simp; omega
    have b1' : decide (60 < l.length) = false := by simp; omega
    have hlen : (rzA l).length = l.length := by unfold rzA; rw [List.length_map]
    have T1 := Lib.hid (fun W (hf : Fr [] w W) => ztiles W a c _ (hz.fr0 hf) n)
    have T2 := Lib.hid (fun W (hf : Fr [] w W) => xtiles16 W a c _ (hz.fr0 hf) n)
    have J1 := Lib.hid (fun W (hf : Fr [] w W) => zjoin W a c _ (hz.fr0 hf))
    have J2 := Lib.hid (fun W (hf : Fr [] w W) => xjoin16 W a c _ (hz.fr0 hf))
    have A1 := Lib.hid (fun W (hf : Fr [] w W) => zat W a c _ (hz.fr0 hf) y hy)
    have A2 := Lib.hid (fun W (hf : Fr [] w W) => xat16 W a c _ (hz.fr0 hf) y hy)
    have hjl : (joinZ (rzA l)).length ≤ 1048576 := by
      have := jfold_len (rzA l) []
      unfold joinZ
      simp at this
      omega
    rw [hlen] at T1 T2 J1 J2 A1 A2
    clear h hz hM hT hgd hlen
    have q1 : (tileZ (rzA l) 0 n == tileZ (rzA l) 0 n) = true := by simp
    have q2 : (atZ (rzA l) y == atZ (rzA l) y) = true := by simp
    generalize tileZ (rzA l) 0 n = TT at *
    generalize atZ (rzA l) y = AA at *
    generalize joinZ (rzA l) = JJ at *
    generalize l.length = m at *
    go_enter Tryz.func4, Tryz.ntmps4
    go_wp2_with fail
    with_reducible refine (T1.out _ (Fr.refl _ _)).mono ?_
    rintro e w1 ⟨rfl, f1⟩
    go_wp2_with fail
    with_reducible refine (T2.out _ f1).mono ?_
    rintro e w2 ⟨rfl, f2⟩
    have F2 := Lib.hid (f1.trans f2)
    clear f1 f2
    go_wp2_with fail
    with_reducible refine (J1.out _ F2.out).mono ?_
    rintro e w3 ⟨v1, rfl, hO1, f3⟩
    obtain ⟨a1, c1, rfl, z1⟩ := zb_of hO1 hjl
    have Z1 := Lib.hid z1
    have F3 := Lib.hid (F2.out.trans f3)
    clear f3 hO1 z1
    go_wp2_with fail
    with_reducible refine (J2.out _ F3.out).mono ?_
    rintro e w4 ⟨v2, rfl, hO2, f4⟩
    obtain ⟨a2, c2, rfl, z2⟩ := zb_of hO2 hjl
    have hsm := zsame9 (c1 := c1) (c2 := c2) (Z1.out.fr0 f4) z2
    have F4 := Lib.hid (F3.out.trans f4)
    clear f4 hO2 z2
    generalize JJ.length = jl at *
    go_wp2_with fail
    with_reducible refine hsm.mono ?_
    rintro e w5 ⟨rfl, f5⟩
    have F5 := Lib.hid (F4.out.trans f5)
    clear f5 hsm
    go_wp2_with fail
    with_reducible refine (A1.out _ F5.out).mono ?_
    rintro e w6 ⟨rfl, f6⟩
    have F6 := Lib.hid (F5.out.trans f6)
    clear f6
    go_wp2_with fail
    with_reducible refine (A2.out _ F6.out).mono ?_
    rintro e w7 ⟨rfl, f7⟩
    have F7 := Lib.hid (F6.out.trans f7)
    clear f7
    go_wp2_with fail
    with_reducible refine (HL.out _ F7.out).mono ?_
    rintro e w8 ⟨rfl, f8⟩
    go_wp2_with fail
    go_ret
    exact ⟨rfl, F7.out.trans f8⟩
theorem walk_rrunsW (w : World) (h : TabM w ∧ Tabs w) (a : Option Addr) (c : Nat) (l : List A16r) (hl : ActA16r w a c l) (n y : Int) (hy : -9223372036854775808 ≤ y ∧ y ≤ 9223372036854775807) : Calls Tryz.prog 4 #[.slice a l.length c, .int .i64 n, .int .i64 y] w fun e w' => e = .returned (.bool true) ∧ Fr [] w w' := walk_rruns w h.1 h.2 a c l hl n y hy.2
end Go.Proofs.YtmemoopkgjgmiaaGreatDoor
