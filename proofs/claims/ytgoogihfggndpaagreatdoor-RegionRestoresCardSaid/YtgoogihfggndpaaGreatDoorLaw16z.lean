/- Layer 16: RegionRestores. -/
import Derived.Test.YtgoogihfggndpaaGreatDoorZm
import Derived.Test.YtgoogihfggndpaaGreatDoorKT
import Derived.Test.YtgoogihfggndpaaGreatDoorZj
import Derived.Test.YtgoogihfggndpaaGreatDoorZh
import Derived.Test.YtgoogihfggndpaaGreatDoorLB
import Derived.Test.YtgoogihfggndpaaGreatDoorLD
namespace Go.Proofs.YtgoogihfggndpaaGreatDoor
set_option linter.unusedVariables false
set_option linter.unusedSimpArgs false
open Go.RowKit

theorem r9sameZ {w : World} {b1 b2 : Nat} {v1 v2 : Value} {l : List Rn} (h1 : OwnR w b1 v1 l) (h2 : OwnR w b2 v2 l) (hl : l.length ≤ 1048576) : Calls Tryz.prog 14 #[v1, v2] w fun e w' => e = .returned (.bool true) ∧ Fr [] w w' := by
  obtain ⟨a1, c1, rfl, z1⟩ := zb_of (OwnZ.of h1) (by rw [List.length_map]; exact hl)
  obtain ⟨a2, c2, rfl, z2⟩ := zb_of (OwnZ.of h2) (by rw [List.length_map]; exact hl)
  exact zsame9 z1 z2
theorem z41 {w : World} (hM : TabM w) (hE : ErrC w) (a s : Nat) (hc : Cfg a s) (ad : Option Addr) (c : Nat) (l : List Nat) (hb : Byt w ad l) (h : ¬ okI l a s ∨ mapM16 l a s = none) :
    Calls Tryz.prog 10 #[.agg #[.int .i64 a, .int .i64 s], .slice ad l.length c] w fun e w' => e = .returned (.tuple #[.pointer none, .int .i64 41]) ∧ Fr [] w w' := by
  by_cases hI : okI l a s
  · exact zrest_slab hM hE a s hc ad c l hb hI (h.resolve_left (fun k => k hI))
  · exact zrest_image hM a s hc ad c l hb hI
theorem x41 {w : World} (a s : Nat) (hc : Cfg a s) (ad : Option Addr) (c : Nat) (l : List Nat) (hb : Byt w ad l) (hcap : l.length ≤ c) (h : ¬ okI l a s ∨ mapM16 l a s = none) :
    Calls Tryz.prog 11 #[.agg #[.int .i64 a, .int .i64 s], .slice ad l.length c] w fun e w' => e = .returned (.tuple #[.pointer none, .int .i64 41]) ∧ Fr [] w w' := by
  refine (rest16 a s hc ad c l hb hcap).mono fun e w' ⟨hf, hh⟩ => ?_
  rcases hh with ⟨_, he⟩ | ⟨hI, R, m, p, pw, bw, hm, _⟩
  · exact ⟨he, hf⟩
  · rcases h with h | h
    · exact absurd ((ok_12 hc hb.byte).2 hI) h
    · rw [h] at hm; cases hm
theorem xOk {w : World} (a s : Nat) (hc : Cfg a s) (ad : Option Addr) (c : Nat) (l : List Nat) (hb : Byt w ad l) (hcap : l.length ≤ c) (hI : okI l a s) (R : List Rn) (hm : mapM16 l a s = some (R.map zOf)) :
    Calls Tryz.prog 11 #[.agg #[.int .i64 a, .int .i64 s], .slice ad l.length c] w fun e w' => ∃ (m p pw bw : Nat), e = .returned (.tuple #[.pointer (some ⟨m, 0, none⟩), .int .i64 0]) ∧ Blk w' m 42 #[.int .i64 a, .int .i64 s, .pointer (some ⟨p, 0, none⟩), .pointer (some ⟨pw, 0, none⟩)] ∧ IsX w' pw bw (exp4 (R.foldl markR (newK a s))) 0 0 ∧ Fr [] w w' := by
  refine (rest16 a s hc ad c l hb hcap).mono fun e w' ⟨hf, hh⟩ => ?_
  rcases hh with ⟨h, he⟩ | ⟨_, R', m, p, pw, bw, hm', he, hB, hX, _⟩
  · rcases h with h | h
    · exact absurd ((ok_12 hc hb.byte).1 hI) h
    · rw [h] at hm; cases hm
  · have e1 : R' = R := zOf_inj (Option.some.inj (hm'.symm.trans hm))
    subst e1
    exact ⟨m, p, pw, bw, he, hB, hX, hf⟩
set_option maxRecDepth 100000 in
set_option maxHeartbeats 8000000 in
theorem walk_rrest (w : World) (hM : TabM w) (hT : Tabs w) (hE : ErrC w) (a s : Int) (ad : Option Addr) (c : Nat) (l : List Nat) (h : BytA w ad c l) :
    Calls Tryz.prog 3 #[.agg #[.int .i64 a, .int .i64 s], .slice ad l.length c] w fun e w' => e = .returned (.bool true) ∧ Fr [] w w' := by
  have HL := Lib.hid (fun W (hf : Fr [] w W) => maps16 W (hM.fr hf (by simp)) (hT.fr hf (by simp)))
  have F0 := Lib.hid ((Fr.refl [] w).alloc (.cells #[.int .i64 a, .int .i64 s] 23))
  have B0 := Lib.hid (Blk.new w 23 #[.int .i64 a, .int .i64 s])
  have hN0 := fun W => m12_no (w := W) 0 0 (by unfold CfZ; omega)
  by_cases hc : CfZ a s
  · obtain ⟨x, y, rfl, rfl, hC⟩ := hc.nat
    have hr := fun W => xright9 (w := W) x y hC
    have d0 := (Blk.new w 23 #[.int .i64 x, .int .i64 y]).cell 0
    have d1 := (Blk.new w 23 #[.int .i64 x, .int .i64 y]).cell 1
    simp only [List.getElem?_toArray, List.getElem?_cons_zero, List.getElem?_cons_succ] at d0 d1
    by_cases hx12 : 12 < x
    · have b1 : decide ((12 : Int) < (x : Int)) = true := by simp; omega
      have b1' : decide (12 < x) = true := by simp; omega
      clear hx12 h hc hC
      generalize l.length = n at *
      go_enter Tryz.func3, Tryz.ntmps3
      go_wp2_with fail
      with_reducible refine (hr _).mono ?_
      rintro e w1 ⟨rfl, f1⟩
      have F1 := Lib.hid (F0.out.trans f1)
      have B1 := Lib.hid (B0.out.fr f1 (by simp))
      have d0 := B1.out.cell 0
      have d1 := B1.out.cell 1
      simp only [List.getElem?_toArray, List.getElem?_cons_zero, List.getElem?_cons_succ] at d0 d1
      go_wp2_with fail
      with_reducible refine (HL.out _ F1.out).mono ?_
      rintro e w2 ⟨rfl, f2⟩
      go_wp2_with fail
      go_ret
      exact ⟨rfl, F1.out.trans f2⟩
    have b1 : decide ((12 : Int) < (x : Int)) = false := by simp; omega
    have b1' : decide (12 < x) = false := by simp; omega
    by_cases hy1 : 1000 < y
    · have b2 : decide ((1000 : Int) < (y : Int)) = true := by simp; omega
      have b2' : decide (1000 < y) = true := by simp; omega
      clear hx12 hy1 h hc hC
      generalize l.length = n at *
      go_enter Tryz.func3, Tryz.ntmps3
      go_wp2_with fail
      with_reducible refine (hr _).mono ?_
      rintro e w1 ⟨rfl, f1⟩
      have F1 := Lib.hid (F0.out.trans f1)
      have B1 := Lib.hid (B0.out.fr f1 (by simp))
      have d0 := B1.out.cell 0
      have d1 := B1.out.cell 1
      simp only [List.getElem?_toArray, List.getElem?_cons_zero, List.getElem?_cons_succ] at d0 d1
      go_wp2_with fail
      with_reducible refine (HL.out _ F1.out).mono ?_
      rintro e w2 ⟨rfl, f2⟩
      go_wp2_with fail
      go_ret
      exact ⟨rfl, F1.out.trans f2⟩
    have b2 : decide ((1000 : Int) < (y : Int)) = false := by simp; omega
    have b2' : decide (1000 < y) = false := by simp; omega
    by_cases hg : 30000 < l.length
    · have b3 : decide ((30000 : Int) < l.length) = true := by simp; omega
      have b3' : decide (30000 < l.length) = true := by simp; omega
      clear hx12 hy1 h hc hC hg
      generalize l.length = n at *
      go_enter Tryz.func3, Tryz.ntmps3
      go_wp2_with fail
      with_reducible refine (hr _).mono ?_
      rintro e w1 ⟨rfl, f1⟩
      have F1 := Lib.hid (F0.out.trans f1)
      have B1 := Lib.hid (B0.out.fr f1 (by simp))
      have d0 := B1.out.cell 0
      have d1 := B1.out.cell 1
      simp only [List.getElem?_toArray, List.getElem?_cons_zero, List.getElem?_cons_succ] at d0 d1
      go_wp2_with fail
      with_reducible refine (HL.out _ F1.out).mono ?_
      rintro e w2 ⟨rfl, f2⟩
      go_wp2_with fail
      go_ret
      exact ⟨rfl, F1.out.trans f2⟩
    have b3 : decide ((30000 : Int) < l.length) = false := by simp; omega
    have b3' : decide (30000 < l.length) = false := by simp; omega
    have hby := h.byt (by omega)
    have hcap := h.cap
    clear hx12 hy1
    by_cases hok : ¬ okI l x y ∨ mapM16 l x y = none
    · have hz := Lib.hid (fun W (hf : Fr [] w W) => z41 (hM.fr hf (by simp)) (hE.fr hf (by simp)) x y hC ad c l (hby.fr hf (by simp)) hok)
      have hx := Lib.hid (fun W (hf : Fr [] w W) => x41 x y hC ad c l (hby.fr hf (by simp)) hcap hok)
      clear hg h hc hok hby hcap
      generalize l.length = n at *
      go_enter Tryz.func3, Tryz.ntmps3
      go_wp2_with fail
      with_reducible refine (hr _).mono ?_
      rintro e w1 ⟨rfl, f1⟩
      have F1 := Lib.hid (F0.out.trans f1)
      have B1 := Lib.hid (B0.out.fr f1 (by simp))
      have d0 := B1.out.cell 0
      have d1 := B1.out.cell 1
      simp only [List.getElem?_toArray, List.getElem?_cons_zero, List.getElem?_cons_succ] at d0 d1
      clear f1
      go_wp2_with fail
      with_reducible refine (hz.out _ F1.out).mono ?_
      rintro e w2 ⟨rfl, f2⟩
      have F2 := Lib.hid (F1.out.trans f2)
      have B2 := Lib.hid (B1.out.fr f2 (by simp))
      have d0 := B2.out.cell 0
      have d1 := B2.out.cell 1
      simp only [List.getElem?_toArray, List.getElem?_cons_zero, List.getElem?_cons_succ] at d0 d1
      clear f2
      go_wp2_with fail
      with_reducible refine (hx.out _ F2.out).mono ?_
      rintro e w3 ⟨rfl, f3⟩
      have F3 := Lib.hid (F2.out.trans f3)
      go_wp2_with fail
      with_reducible refine (hN0 _).mono ?_
      rintro e w4 ⟨rfl, f4⟩
      have F4 := Lib.hid (F3.out.trans f4)
      go_wp2_with fail
      with_reducible refine (HL.out _ F4.out).mono ?_
      rintro e w5 ⟨rfl, f5⟩
      go_wp2_with fail
      go_ret
      exact ⟨rfl, F4.out.trans f5⟩
    · have hI : okI l x y := Classical.not_not.1 fun k => hok (.inl k)
      obtain ⟨rz, hm⟩ : ∃ rz, mapM16 l x y = some rz := Option.ne_none_iff_exists'.1 fun k => hok (.inr k)
      obtain ⟨R, rfl, hR⟩ := mapM_runs hC hm
      have hKl : (R.foldl markR (newK x y)).length = lsize x y / 4 := by rw [marks_len, newK_len]
      have hle := lsize_le x y hC
      have hrl : ((runs (R.foldl markR (newK x y))).map sc4).length ≤ 1048576 := by
        have := runs_len (R.foldl markR (newK x y))
        rw [List.length_map]
        omega
      have hz := Lib.hid (fun W (hf : Fr [] w W) => zrestore (hM.fr hf (by simp)) x y hC ad c l (hby.fr hf (by simp)) hI R hm hR)
      unfold RestP at hz
      have hx := Lib.hid (fun W (hf : Fr [] w W) => xOk x y hC ad c l (hby.fr hf (by simp)) hcap hI R hm)
      have HV1 := Lib.hid (fun W (hf : Fr [] w W) => conv_str W ad c l (hby.fr hf (by simp)))
      have HV2 := Lib.hid (fun W g cap (hr : RowB W g cap l) => conv_str W _ cap l (hr.byt hby.byte (by omega)))
      clear hg h hc hok hby hcap hM hE hT hI hm hR hKl hle hC
      generalize hn : l.length = n at *
      have HNn := Lib.hid hn
      clear hn
      generalize strOf l = str at *
      have e5 : (str.toList == str.toList) = true := by simp
      go_enter Tryz.func3, Tryz.ntmps3
      go_wp2_with fail
      with_reducible refine (hr _).mono ?_
      rintro e w1 ⟨rfl, f1⟩
      have F1 := Lib.hid (F0.out.trans f1)
      have B1 := Lib.hid (B0.out.fr f1 (by simp))
      have d0 := B1.out.cell 0
      have d1 := B1.out.cell 1
      simp only [List.getElem?_toArray, List.getElem?_cons_zero, List.getElem?_cons_succ] at d0 d1
      clear f1
      go_wp2_with fail
      with_reducible refine (hz.out _ F1.out).mono ?_
      rintro e w2 ⟨q, rfl, hq, hqb, f2⟩
      have F2 := Lib.hid (F1.out.trans f2)
      have B2 := Lib.hid (B1.out.fr f2 (by simp))
      have d0 := B2.out.cell 0
      have d1 := B2.out.cell 1
      simp only [List.getElem?_toArray, List.getElem?_cons_zero, List.getElem?_cons_succ] at d0 d1
      have HQ := Lib.hid hq
      clear f2 hq hqb
      go_wp2_with fail
      with_reducible refine (hx.out _ F2.out).mono ?_
      rintro e w3 ⟨m, p, pw, bw, rfl, hB, hX, f3⟩
      have F3 := Lib.hid (F2.out.trans f3)
      have Q3 := Lib.hid (HQ.out.fr0 f3)
      have HB := Lib.hid hB
      have HX := Lib.hid hX
      have HI := Lib.hid (fun V (hV : Fr [] w3 V) => (show Calls Tryz.prog 13 #[.pointer (some ⟨q.m, 0, none⟩)] V fun e w' => ∃ g cap, e = .returned (.slice (some ⟨g, 0, none⟩) n cap) ∧ RowB w' g cap l ∧ Fr [] V w' from (mimage V q _ (Q3.out.fr0 hV)).mono fun e w' ⟨v, he, g, cap, hv, k1, k2, k3⟩ => ⟨g, cap, by rw [he, hv, ← HNn.out], k2, k3⟩))
      have HR1 := Lib.hid (fun V (hV : Fr [] w3 V) => mrunsM (Q3.out.fr0 hV))
      have HR2 := Lib.hid (fun V (hV : Fr [] w3 V) => xruns_r (HX.out.fr hV (by simp) (by simp)))
      have hY := And.intro (HV1.out w3.drew F3.out.drew) (HB.out.drew.cell 3)
      simp only [List.getElem?_toArray, List.getElem?_cons_zero, List.getElem?_cons_succ] at hY
      have HC3 := Lib.hid (fun V (hV : Fr [] w3 V) => And.intro (HV1.out V (F3.out.trans hV)) (show V.cell? ⟨m, 3, none⟩ = some (.pointer (some ⟨pw, 0, none⟩)) from (HB.out.fr hV (by simp)).cell 3))
      clear f3 hB hX d0 d1 hN0 hr
      go_wp2_with fail
      refine wp_region_held_drew (S := fun W => (convert 24 9 (.slice ad n c)).run Tryz.prog W = .ok (.string str) W ∧ W.cell? ⟨m, 3, none⟩ = some (.pointer (some ⟨pw, 0, none⟩))) (by kernel_rfl) (hY) (fun yH => ?_)
      refine tkY 0 yH (h := ?_)
      refine tkY 3 yH (h := ?_)
      refine tkY 4 yH (h := ?_)
      refine wpAnyH_ready (rs := [1]) (by kernel_rfl) (by simp) ?_
      refine AllReadyH.cons (o := ?ooa3) ?hia3 (fun K hK => ?hca3) AllReadyH.nil
      case hia3 => (simp only [List.getElem?_toArray, List.getElem?_cons_zero, List.getElem?_cons_succ]; rfl)
      go_simp
      with_reducible refine (HI.out _ (Fr.refl _ _).drew).mono ?_
      rintro e w12 ⟨g1, cp1, rfl, hr1, f1⟩
      have F12 := Lib.hid ((Fr.refl [] _).drew.trans f1)
      have HRo := Lib.hid hr1
      have hY := HC3.out _ F12.out
      clear hr1 f1
      go_wp2_with fail
      refine hK.out _ _ (hY) (fun yH => ?_)
      clear hK K
      try simp only [Act.put, List.setIfInBounds_toArray, List.set_cons_zero, List.set_cons_succ]
      clear yH hY
      have HC4 := Lib.hid (fun V (hV : Fr [] w12 V) => And.intro (HV2.out V g1 cp1 (HRo.out.fr hV (by simp))) (HC3.out V (F12.out.trans hV)))
      refine wpAnyH_strong2 (S' := fun W => (convert 24 9 (.slice (some ⟨g1, 0, none⟩) n cp1)).run Tryz.prog W = .ok (.string str) W ∧ (convert 24 9 (.slice ad n c)).run Tryz.prog W = .ok (.string str) W ∧ W.cell? ⟨m, 3, none⟩ = some (.pointer (some ⟨pw, 0, none⟩))) (fun _ h => h.2) _ _ _ _ ?_
      have yH : (fun W => (convert 24 9 (.slice (some ⟨g1, 0, none⟩) n cp1)).run Tryz.prog W = .ok (.string str) W ∧ (convert 24 9 (.slice ad n c)).run Tryz.prog W = .ok (.string str) W ∧ W.cell? ⟨m, 3, none⟩ = some (.pointer (some ⟨pw, 0, none⟩))) w12 := HC4.out _ (Fr.refl _ _)
      refine tkY 2 yH (h := ?_)
      refine tkY 5 yH (h := ?_)
      refine tkY 6 yH (h := ?_)
      refine tkY 7 yH (h := ?_)
      refine tkY 9 yH (h := ?_)
      refine tkY 10 yH (h := ?_)
      refine tkY 11 yH (h := ?_)
      refine tkY 12 yH (h := ?_)
      refine wpAnyH_ready (rs := [8]) (by kernel_rfl) (by simp) ?_
      refine AllReadyH.cons (o := ?oob8) ?hib8 (fun K hK => ?hcb8) AllReadyH.nil
      case hib8 => (simp only [List.getElem?_toArray, List.getElem?_cons_zero, List.getElem?_cons_succ]; rfl)
      go_simp
      with_reducible refine (HR1.out _ F12.out).mono ?_
      rintro e w13 ⟨v1, rfl, ho1, f2⟩
      have F13 := Lib.hid f2
      have HO1 := Lib.hid ho1
      have hY := HC4.out _ F13.out
      clear ho1 f2
      go_wp2_with fail
      refine hK.out _ _ (hY) (fun yH => ?_)
      clear hK K
      try simp only [Act.put, List.setIfInBounds_toArray, List.set_cons_zero, List.set_cons_succ]
      refine wpAnyH_ready (rs := [13]) (by kernel_rfl) (by simp) ?_
      refine AllReadyH.cons (o := ?oob9) ?hib9 (fun K hK => ?hcb9) AllReadyH.nil
      case hib9 => (simp only [List.getElem?_toArray, List.getElem?_cons_zero, List.getElem?_cons_succ]; rfl)
      go_simp
      with_reducible refine (HR2.out _ (F12.out.trans F13.out)).mono ?_
      rintro e w14 ⟨v2, rfl, ho2, f3⟩
      have F14 := Lib.hid (F13.out.trans f3)
      have HO3 := Lib.hid (show OwnR w14 w12.heap.size v1 ((runs (R.foldl markR (newK x y))).map sc4) ∧ OwnR w14 w13.heap.size v2 ((runs (R.foldl markR (newK x y))).map sc4) from And.intro (own_keep HO1.out f3) ho2)
      have hY := HC4.out _ F14.out
      clear ho2 f3
      go_wp2_with fail
      refine hK.out _ _ (hY) (fun yH => ?_)
      clear hK K
      try simp only [Act.put, List.setIfInBounds_toArray, List.set_cons_zero, List.set_cons_succ]
      refine wpAnyH_ready (rs := [14]) (by kernel_rfl) (by simp) ?_
      refine AllReadyH.cons (o := ?oob10) ?hib10 (fun K hK => ?hcb10) AllReadyH.nil
      case hib10 => (simp only [List.getElem?_toArray, List.getElem?_cons_zero, List.getElem?_cons_succ]; rfl)
      go_simp
      with_reducible refine (r9sameZ HO3.out.1 HO3.out.2 hrl).mono ?_
      rintro e w15 ⟨rfl, f4⟩
      have F15 := Lib.hid (F14.out.trans f4)
      have hY := HC4.out _ F15.out
      clear f4
      go_wp2_with fail
      refine hK.out _ _ (hY) (fun yH => ?_)
      clear hK K
      try simp only [Act.put, List.setIfInBounds_toArray, List.set_cons_zero, List.set_cons_succ]
      refine tkY 15 yH (h := ?_)
      refine tkY 16 yH (h := ?_)
      refine wpAnyH_ready (rs := [17]) (by kernel_rfl) (by simp) ?_
      refine AllReadyH.cons (o := ?oob13) ?hib13 (fun K hK => ?hcb13) AllReadyH.nil
      case hib13 => (simp only [List.getElem?_toArray, List.getElem?_cons_zero, List.getElem?_cons_succ]; rfl)
      go_simp
      with_reducible refine (HL.out _ (F3.out.trans (F12.out.trans F15.out))).mono ?_
      rintro e w16 ⟨rfl, f5⟩
      have F16 := Lib.hid (F3.out.trans (F12.out.trans (F15.out.trans f5)))
      have hY := HC4.out _ (F15.out.trans f5)
      clear f5
      go_wp2_with fail
      refine hK.out _ _ (hY) (fun yH => ?_)
      clear hK K
      try simp only [Act.put, List.setIfInBounds_toArray, List.set_cons_zero, List.set_cons_succ]
      refine tkY 18 yH (h := ?_)
      refine tkY 19 yH (h := ?_)
      refine wpAnyH_done (by kernel_rfl) ?_ _
      go_wp2_with fail
      go_ret
      exact ⟨rfl, F16.out⟩
  · have hr := fun W => xright9_no (w := W) a s hc
    have d0 := (Blk.new w 23 #[.int .i64 a, .int .i64 s]).cell 0
    have d1 := (Blk.new w 23 #[.int .i64 a, .int .i64 s]).cell 1
    simp only [List.getElem?_toArray, List.getElem?_cons_zero, List.getElem?_cons_succ] at d0 d1
    by_cases hg : 30000 < l.length
    · have b1 : decide ((30000 : Int) < l.length) = true := by simp; omega
      have b1' : decide (30000 < l.length) = true := by simp; omega
      clear hg h
      generalize l.length = n at *
      go_enter Tryz.func3, Tryz.ntmps3
      go_wp2_with fail
      with_reducible refine (hr _).mono ?_
      rintro e w1 ⟨rfl, f1⟩
      have F1 := Lib.hid (F0.out.trans f1)
      go_wp2_with fail
      with_reducible refine (HL.out _ F1.out).mono ?_
      rintro e w2 ⟨rfl, f2⟩
      go_wp2_with fail
      go_ret
      exact ⟨rfl, F1.out.trans f2⟩
    · have b1 : decide ((30000 : Int) < l.length) = false := by simp; omega
      have b1' : decide (30000 < l.length) = false := by simp; omega
      have hz := Lib.hid (fun W (hf : Fr [] w W) v => zrest_no (hM.fr hf (by simp)) a s hc v)
      have hx := Lib.hid (fun W v => rest16_no (w := W) a s hc v)
      clear hg h hc
      generalize l.length = n at *
      go_enter Tryz.func3, Tryz.ntmps3
      go_wp2_with fail
      with_reducible refine (hr _).mono ?_
      rintro e w1 ⟨rfl, f1⟩
      have F1 := Lib.hid (F0.out.trans f1)
      have B1 := Lib.hid (B0.out.fr f1 (by simp))
      have d0 := B1.out.cell 0
      have d1 := B1.out.cell 1
      simp only [List.getElem?_toArray, List.getElem?_cons_zero, List.getElem?_cons_succ] at d0 d1
      clear f1
      go_wp2_with fail
      with_reducible refine (hz.out _ F1.out _).mono ?_
      rintro e w2 ⟨rfl, f2⟩
      have F2 := Lib.hid (F1.out.trans f2)
      have B2 := Lib.hid (B1.out.fr f2 (by simp))
      have d0 := B2.out.cell 0
      have d1 := B2.out.cell 1
      simp only [List.getElem?_toArray, List.getElem?_cons_zero, List.getElem?_cons_succ] at d0 d1
      clear f2
      go_wp2_with fail
      with_reducible refine (hx.out _ _).mono ?_
      rintro e w3 ⟨rfl, f3⟩
      have F3 := Lib.hid (F2.out.trans f3)
      go_wp2_with fail
      with_reducible refine (hN0 _).mono ?_
      rintro e w4 ⟨rfl, f4⟩
      have F4 := Lib.hid (F3.out.trans f4)
      go_wp2_with fail
      with_reducible refine (HL.out _ F4.out).mono ?_
      rintro e w5 ⟨rfl, f5⟩
      go_wp2_with fail
      go_ret
      exact ⟨rfl, F4.out.trans f5⟩
theorem walk_rrestW (w : World) (h : (TabM w ∧ Tabs w) ∧ ErrC w) (a s : Int) (ad : Option Addr) (c : Nat) (l : List Nat) (hb : BytA w ad c l) : Calls Tryz.prog 3 #[.agg #[.int .i64 a, .int .i64 s], .slice ad l.length c] w fun e w' => e = .returned (.bool true) ∧ Fr [] w w' := walk_rrest w h.1.1 h.1.2 h.2 a s ad c l hb
end Go.Proofs.YtgoogihfggndpaaGreatDoor
