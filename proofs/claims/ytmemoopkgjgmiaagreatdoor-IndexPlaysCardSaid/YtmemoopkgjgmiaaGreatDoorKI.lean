/- Several texts in one. -/
import Derived.Test.YtmemoopkgjgmiaaGreatDoorKG
import Derived.Test.YtmemoopkgjgmiaaGreatDoorKT
import Derived.ScopeJumps
import Derived.WalkMore
import Derived.Test.YtmemoopkgjgmiaaGreatDoorGD
import Derived.Test.YtmemoopkgjgmiaaGreatDoorGI
/- Package index: find for Node. -/
namespace Go.Proofs.YtmemoopkgjgmiaaGreatDoor
set_option linter.unusedVariables false
set_option linter.unusedSimpArgs false
open Go.RowKit

section
variable {w : World} {q : MH} {t : TM} {x : Nat} {X : HB} {L : Nat → Prop} {E : Nat → HB}
set_option maxRecDepth 1000000 in
set_option maxHeartbeats 4000000 in
theorem ifindN (h : IsH w q t) (g : IxI t L E) (P : Nat → Bool) (hs bA bB bC bD : Nat) (hh : hs < 4294967296) (hIS : ∀ W, IsH W q t → Fr q.blocks w W → ∀ y, L y → Calls Tryz.prog 208 #[.int .i64 y, .pointer (some ⟨bA, 0, none⟩), .pointer (some ⟨bB, 0, none⟩), .pointer (some ⟨bC, 0, none⟩), .pointer (some ⟨bD, 0, none⟩)] W fun e w' => e = .returned (.bool (P y)) ∧ IsH w' q t ∧ Fr q.blocks W w') : Calls Tryz.prog 196 #[.agg #[.pointer (some ⟨q.m, 0, none⟩), .int .i64 t.s], .agg #[.int .u32 hs, .func (.func 208) #[] #[.pointer (some ⟨bA, 0, none⟩), .pointer (some ⟨bB, 0, none⟩), .pointer (some ⟨bC, 0, none⟩), .pointer (some ⟨bD, 0, none⟩)]]] w fun e w' => e = .returned (.int .i64 (optZ (fndT t.sl (hmE t E) t.s (hs % t.s) P))) ∧ IsH w' q t ∧ Fr q.blocks w w' := by
  have b0 : ((t.s : Int) == 0) = false := by have := g.s0; rw [beq_eq_false_iff_ne]; omega
  have b0' : (t.s == 0) = false := by have := g.s0; rw [beq_eq_false_iff_ne]; omega
  have hs1 := g.s1
  have hml : hs % t.s < t.s := Nat.mod_lt _ g.s0
  have HM := Lib.hid (fun W => ihome0 W hs t.s hh g.s0 (by have := g.s1; omega))
  have HE := Lib.hid (fun W k (hk : k < t.s) (hW : IsH W q t) => (show Calls Tryz.prog 107 #[.agg #[.pointer (some ⟨q.m, 0, none⟩), .int .i64 t.s], .int .i64 (hs % t.s + k : Nat), .int .i64 k] W fun e w' => e = .returned (.bool (endB t.sl (hmE t E) t.s (hs % t.s + k) k)) ∧ IsH w' q t ∧ Fr q.blocks W w' from iended hW g (hs % t.s + k) k (by omega)))
  have HG := Lib.hid (fun W k (hk : k < t.s) (hW : IsH W q t) => (show Calls Tryz.prog 99 #[.agg #[.pointer (some ⟨q.m, 0, none⟩), .int .i64 t.s], .int .i64 (hs % t.s + k : Nat)] W fun e w' => e = .returned (.int .i64 (t.sl ((hs % t.s + k) % t.s))) ∧ IsH w' q t ∧ Fr q.blocks W w' from
    (iget hW.m _ (by omega) g.s0).mono fun e w' ⟨he, k1, k2⟩ => ⟨he, hW.step k1 k2, k2⟩))
  have HO := Lib.hid (fun W k (hk : k < t.s) => (show Calls Tryz.prog 199 #[.agg #[.pointer (some ⟨q.m, 0, none⟩), .int .i64 t.s], .int .i64 (hs % t.s + k : Nat)] W fun e w' => e = .returned (.int .i64 ((hs % t.s + k) % t.s : Nat)) ∧ Fr [] W w' from iround W q.m t.s _ g.s0 (by omega)))
  have HIS := Lib.hid hIS
  have HLV := Lib.hid (show ∀ i j, endB t.sl (hmE t E) t.s i j = false → L (t.sl (i % t.s)) from fun i j e => by
    unfold endB at e
    by_cases h0 : t.sl (i % t.s) = 0
    · rw [if_pos h0] at e; exact nomatch e
    · exact (g.sl _ (Nat.mod_lt _ g.s0)).resolve_left h0)
  have H0 := Lib.hid ((h.alloc (.cells #[.pointer (some ⟨q.m, 0, none⟩), .int .i64 t.s] 146)).alloc (.cells #[.int .u32 hs, .func (.func 208) #[] #[.pointer (some ⟨bA, 0, none⟩), .pointer (some ⟨bB, 0, none⟩), .pointer (some ⟨bC, 0, none⟩), .pointer (some ⟨bD, 0, none⟩)]] 243))
  have F0 := Lib.hid (((Fr.refl q.blocks w).alloc (.cells #[.pointer (some ⟨q.m, 0, none⟩), .int .i64 t.s] 146)).alloc (.cells #[.int .u32 hs, .func (.func 208) #[] #[.pointer (some ⟨bA, 0, none⟩), .pointer (some ⟨bB, 0, none⟩), .pointer (some ⟨bC, 0, none⟩), .pointer (some ⟨bD, 0, none⟩)]] 243))
  have B0 := Lib.hid ((Blk.new w 146 #[.pointer (some ⟨q.m, 0, none⟩), .int .i64 t.s]).alloc (.cells #[.int .u32 hs, .func (.func 208) #[] #[.pointer (some ⟨bA, 0, none⟩), .pointer (some ⟨bB, 0, none⟩), .pointer (some ⟨bC, 0, none⟩), .pointer (some ⟨bD, 0, none⟩)]] 243))
  have hb1 := Blk.new (w.alloc (.cells #[.pointer (some ⟨q.m, 0, none⟩), .int .i64 t.s] 146)) 243 #[.int .u32 hs, .func (.func 208) #[] #[.pointer (some ⟨bA, 0, none⟩), .pointer (some ⟨bB, 0, none⟩), .pointer (some ⟨bC, 0, none⟩), .pointer (some ⟨bD, 0, none⟩)]]
  rw [World.size_alloc] at hb1
  have B1 := Lib.hid hb1
  have hlt := h.m.lt
  have nb : w.heap.size ∉ q.blocks := fun hm => by have := hlt _ hm; omega
  have nb1 : w.heap.size + 1 ∉ q.blocks := fun hm => by have := hlt _ hm; omega
  obtain ⟨W0, hW0⟩ : ∃ W0, (w.alloc (.cells #[.pointer (some ⟨q.m, 0, none⟩), .int .i64 t.s] 146)).alloc (.cells #[.int .u32 hs, .func (.func 208) #[] #[.pointer (some ⟨bA, 0, none⟩), .pointer (some ⟨bB, 0, none⟩), .pointer (some ⟨bC, 0, none⟩), .pointer (some ⟨bD, 0, none⟩)]] 243) = W0 := ⟨_, rfl⟩
  have HW0 := Lib.hid hW0
  rw [hW0] at H0 F0 B0 B1
  have DC := Lib.hid (fun V (hV : Fr q.blocks W0 V) => And.intro (show V.cell? ⟨w.heap.size, 0, none⟩ = some (.pointer (some ⟨q.m, 0, none⟩)) from (B0.out.fr hV nb).cell 0) (And.intro (show V.cell? ⟨w.heap.size, 1, none⟩ = some (.int .i64 t.s) from (B0.out.fr hV nb).cell 1) (And.intro (show V.cell? ⟨w.heap.size + 1, 0, none⟩ = some (.int .u32 hs) from (B1.out.fr hV nb1).cell 0) (show V.cell? ⟨w.heap.size + 1, 1, none⟩ = some (.func (.func 208) #[] #[.pointer (some ⟨bA, 0, none⟩), .pointer (some ⟨bB, 0, none⟩), .pointer (some ⟨bC, 0, none⟩), .pointer (some ⟨bD, 0, none⟩)]) from (B1.out.fr hV nb1).cell 1))))
  obtain ⟨R, hR⟩ : ∃ R, fndT t.sl (hmE t E) t.s (hs % t.s) P = R := ⟨_, rfl⟩
  rw [hR]
  have HR := Lib.hid (show fndS t.sl (hmE t E) t.s (hs % t.s) P (t.s - 0) 0 = R from hR)
  have HUN := Lib.hid (show ∀ k, k < t.s → fndS t.sl (hmE t E) t.s (hs % t.s) P (t.s - k) k = if endB t.sl (hmE t E) t.s (hs % t.s + k) k = true then none else if P (t.sl ((hs % t.s + k) % t.s)) = true then some ((hs % t.s + k) % t.s) else fndS t.sl (hmE t E) t.s (hs % t.s) P (t.s - (k + 1)) (k + 1) from fun k hk => by
    rw [show t.s - k = (t.s - (k + 1)) + 1 by omega, fndS])
  have HZ := Lib.hid (show fndS t.sl (hmE t E) t.s (hs % t.s) P (t.s - t.s) t.s = none from by rw [Nat.sub_self]; rfl)
  generalize hF9 : fndS t.sl (hmE t E) t.s (hs % t.s) P = FS at *
  generalize hsl : t.sl = T at *
  generalize hmE t E = H at *
  generalize hsz : t.s = s at *
  generalize hs % s = hm at *
  clear h hlt g hR hsl hF9 hb1 hh hIS
  go_enter Tryz.func196, Tryz.ntmps196
  go_wp2_with fail
  try rw [hW0]
  clear hsz hW0
  have d0 := (DC.out _ (Fr.refl _ _)).1
  have d1 := (DC.out _ (Fr.refl _ _)).2.1
  have d2 := (DC.out _ (Fr.refl _ _)).2.2.1
  have d3 := (DC.out _ (Fr.refl _ _)).2.2.2
  refine wp_scope_jumps 0 (fun a' w' => ∃ (k : Nat) (u7 u8 u9 u10 u11 u12 u13 u14 u15 u16 u17 u18 u19 u20 u21 u22 u23 u24 u25 u26 u27 u28 u29 u30 u31 u32 u33 u34 u35 u36 u37 u38 u39 u40 u41 : Value), a' = { tmps := #[.agg #[.pointer (some ⟨q.m, 0, none⟩), .int .i64 s], .agg #[.int .u32 hs, .func (.func 208) #[] #[.pointer (some ⟨bA, 0, none⟩), .pointer (some ⟨bB, 0, none⟩), .pointer (some ⟨bC, 0, none⟩), .pointer (some ⟨bD, 0, none⟩)]], .pointer (some ⟨w.heap.size, 0, none⟩), .pointer (some ⟨w.heap.size + 1, 0, none⟩), .int .i64 0, .int .i64 hm, .int .i64 k, u7, u8, u9, u10, u11, u12, u13, u14, u15, u16, u17, u18, u19, u20, u21, u22, u23, u24, u25, u26, u27, u28, u29, u30, u31, u32, u33, u34, u35, u36, u37, u38, u39, u40, u41], defers := [] } ∧ k ≤ s ∧ Hid (FS (s - k) k = R) ∧ Hid (IsH w' q t) ∧ Hid (Fr q.blocks W0 w')) (fun a' _ => s - (intOf (a'.tmps.getD 6 undef)).toNat) rfl ?_ ?_
  · go_wp2_with fail
    with_reducible refine (HM.out _).mono ?_
    rintro e w1 ⟨rfl, f1⟩
    have hI := Lib.hid (H0.out.fr0 f1)
    have hF := Lib.hid (f1.nil (S := q.blocks))
    have d0 := (DC.out _ hF.out).1
    have d1 := (DC.out _ hF.out).2.1
    have d2 := (DC.out _ hF.out).2.2.1
    have d3 := (DC.out _ hF.out).2.2.2
    have hlt : 0 < s := by omega
    have b1 : ((0 : Int) == s) = false := by rw [beq_eq_false_iff_ne]; omega
    have b1' : (0 == s) = false := by rw [beq_eq_false_iff_ne]; omega
    have wq1 : IntKind.i64.wrap (hm : Int) = hm := IntWalk.i64_in _ (by omega)
    have he := (show Calls Tryz.prog 107 #[.agg #[.pointer (some ⟨q.m, 0, none⟩), .int .i64 s], .int .i64 hm, .int .i64 0] w1 fun e w' => e = .returned (.bool (endB T H s hm 0)) ∧ IsH w' q t ∧ Fr q.blocks w1 w' from HE.out w1 0 hlt hI.out)
    have hg := Lib.hid (fun W hW => (show Calls Tryz.prog 99 #[.agg #[.pointer (some ⟨q.m, 0, none⟩), .int .i64 s], .int .i64 hm] W fun e w' => e = .returned (.int .i64 (T (hm % s))) ∧ IsH w' q t ∧ Fr q.blocks W w' from HG.out W 0 hlt hW))
    have ho := Lib.hid (fun W => (show Calls Tryz.prog 199 #[.agg #[.pointer (some ⟨q.m, 0, none⟩), .int .i64 s], .int .i64 hm] W fun e w' => e = .returned (.int .i64 (hm % s : Nat)) ∧ Fr [] W w' from HO.out W 0 hlt))
    have hu := HUN.out 0 hlt
    rw [HR.out] at hu
    simp only [Nat.add_zero] at hu
    clear f1 HM
    have hLV : endB T H s hm 0 = false → L (T (hm % s)) := HLV.out hm 0
    generalize endB T H s hm 0 = ev at *
    generalize T (hm % s) = v at *
    generalize hm % s = rk at *
    have HU := Lib.hid hu
    clear hu
    go_wp2_with fail
    go_step3
    go_wp2_with fail
    with_reducible refine he.mono ?_
    rintro e w2 ⟨rfl, h2, f2⟩
    have H2 := Lib.hid h2
    have F2 := Lib.hid (hF.out.trans f2)
    have d0 := (DC.out _ F2.out).1
    have d1 := (DC.out _ F2.out).2.1
    have d2 := (DC.out _ F2.out).2.2.1
    have d3 := (DC.out _ F2.out).2.2.2
    clear h2 f2 he
    rcases ev with _ | _
    · have HLv := Lib.hid (hLV (by first | exact rfl | trivial))
      have H2d := Lib.hid H2.out.drew
      have hY := And.intro (DC.out _ F2.out.drew).1 (And.intro (DC.out _ F2.out.drew).2.1 (DC.out _ F2.out.drew).2.2.2)
      go_wp2_with fail
      refine wp_region_held_drew (S := fun W => W.cell? ⟨w.heap.size, 0, none⟩ = some (.pointer (some ⟨q.m, 0, none⟩)) ∧ W.cell? ⟨w.heap.size, 1, none⟩ = some (.int .i64 s) ∧ W.cell? ⟨w.heap.size + 1, 1, none⟩ = some (.func (.func 208) #[] #[.pointer (some ⟨bA, 0, none⟩), .pointer (some ⟨bB, 0, none⟩), .pointer (some ⟨bC, 0, none⟩), .pointer (some ⟨bD, 0, none⟩)])) (by kernel_rfl) (hY) (fun yH => ?_)
      refine tkY 0 yH (h := ?_)
      refine tkY 1 yH (h := ?_)
      refine tkY 2 yH (h := ?_)
      refine tkY 3 yH (h := ?_)
      refine tkY 4 yH (h := ?_)
      refine tkY 5 yH (h := ?_)
      refine wpAnyH_ready (rs := [6]) (by kernel_rfl) (by simp) ?_
      refine AllReadyH.cons (o := ?oofa6) ?hifa6 (fun K hK => ?hcfa6) AllReadyH.nil
      case hifa6 => (simp only [List.getElem?_toArray, List.getElem?_cons_zero, List.getElem?_cons_succ]; rfl)
      go_simp
      with_reducible refine (hg.out _ H2d.out).mono ?_
      rintro e w4 ⟨rfl, h4, f4⟩
      have H4 := Lib.hid h4
      have F4 := Lib.hid (F2.out.drew.trans f4)
      have hY := And.intro (DC.out _ F4.out).1 (And.intro (DC.out _ F4.out).2.1 (DC.out _ F4.out).2.2.2)
      clear h4 f4
      go_wp2_with fail
      refine hK.out _ _ (hY) (fun yH => ?_)
      clear hK K
      try simp only [Act.put, List.setIfInBounds_toArray, List.set_cons_zero, List.set_cons_succ]
      refine wpAnyH_ready (rs := [7]) (by kernel_rfl) (by simp) ?_
      refine AllReadyH.cons (o := ?oofa7) ?hifa7 (fun K hK => ?hcfa7) AllReadyH.nil
      case hifa7 => (simp only [List.getElem?_toArray, List.getElem?_cons_zero, List.getElem?_cons_succ]; rfl)
      go_simp
      with_reducible refine (HIS.out _ H4.out (F0.out.trans F4.out) _ HLv.out).mono ?_
      rintro e w5 ⟨rfl, h5, f5⟩
      have H5 := Lib.hid h5
      have F5 := Lib.hid (F4.out.trans f5)
      have hY := And.intro (DC.out _ F5.out).1 (And.intro (DC.out _ F5.out).2.1 (DC.out _ F5.out).2.2.2)
      clear h5 f5
      go_wp2_with fail
      refine hK.out _ _ (hY) (fun yH => ?_)
      clear hK K
      try simp only [Act.put, List.setIfInBounds_toArray, List.set_cons_zero, List.set_cons_succ]
      refine wpAnyH_done (by kernel_rfl) ?_ _
      try simp only [Act.put, List.getElem_toArray, List.getElem_cons_zero, List.getElem_cons_succ, List.setIfInBounds_toArray, List.set_cons_zero, List.set_cons_succ]
      have d0 := (DC.out _ F5.out).1
      have d1 := (DC.out _ F5.out).2.1
      obtain ⟨c, hc⟩ : ∃ c : Bool, P v = c := ⟨_, rfl⟩
      rw [hc]
      rw [hc] at HU
      clear hY
      rcases c with _ | _
      · have HN := Lib.hid (show FS (s - 1) 1 = R from by have := HU.out; simpa using this.symm)
        go_wp2_with fail
        go_step3
        refine ⟨rfl, 1, _, _, _, _, _, _, _, _, _, _, _, _, _, _, _, _, _, _, _, _, _, _, _, _, _, _, _, _, _, _, _, _, _, _, _, by first | rfl | (congr 1; go_num), by omega, HN, H5, F5⟩
      · have HRR := Lib.hid (show (rk : Int) = optZ R from by have := HU.out; simp at this; rw [this]; rfl)
        go_wp2_with fail
        with_reducible refine (ho.out _).mono ?_
        rintro e w6 ⟨rfl, f6⟩
        have H6 := Lib.hid (H5.out.fr0 f6)
        have F6 := Lib.hid (F5.out.trans f6.nil)
        clear f6
        go_wp2_with fail
        try simp only [Exit.jump]
        go_ret
        exact ⟨by rw [← HRR.out]; rfl, H6.out, F0.out.trans F6.out⟩
    · have HRR := Lib.hid (show (-1 : Int) = optZ R from by have := HU.out; simp at this; rw [this]; rfl)
      go_wp2_with fail
      try simp only [Exit.jump]
      go_ret
      exact ⟨by rw [← HRR.out]; rfl, H2.out, F0.out.trans F2.out⟩
  · rintro a' w' ⟨k, u7, u8, u9, u10, u11, u12, u13, u14, u15, u16, u17, u18, u19, u20, u21, u22, u23, u24, u25, u26, u27, u28, u29, u30, u31, u32, u33, u34, u35, u36, u37, u38, u39, u40, u41, rfl, hks, hRk, hI, hF⟩
    have d0 := (DC.out _ hF.out).1
    have d1 := (DC.out _ hF.out).2.1
    have d2 := (DC.out _ hF.out).2.2.1
    have d3 := (DC.out _ hF.out).2.2.2
    by_cases hlt : k < s
    · have b1 : ((k : Int) == s) = false := by rw [beq_eq_false_iff_ne]; omega
      have b1' : (k == s) = false := by rw [beq_eq_false_iff_ne]; omega
      have w1 : IntKind.i64.wrap ((hm : Int) + k) = (hm + k : Nat) := by rw [IntWalk.i64_in _ (by omega)]; omega
      have w3 : IntKind.i64.wrap ((k : Int) + 1) = (k : Int) + 1 := IntWalk.i64_in _ (by omega)
      have he := HE.out _ k hlt hI.out
      have hg := Lib.hid (fun W hW => HG.out W k hlt hW)
      have ho := Lib.hid (fun W => HO.out W k hlt)
      have hu := HUN.out k hlt
      rw [hRk.out] at hu
      generalize hm + k = ak at *
      have hLV : endB T H s ak k = false → L (T (ak % s)) := HLV.out ak k
      generalize endB T H s ak k = ev at *
      generalize T (ak % s) = v at *
      generalize ak % s = rk at *
      have HU := Lib.hid hu
      clear hu
      go_wp2_with fail
      with_reducible refine he.mono ?_
      rintro e w2 ⟨rfl, h2, f2⟩
      have H2 := Lib.hid h2
      have F2 := Lib.hid (hF.out.trans f2)
      have d0 := (DC.out _ F2.out).1
      have d1 := (DC.out _ F2.out).2.1
      have d2 := (DC.out _ F2.out).2.2.1
      have d3 := (DC.out _ F2.out).2.2.2
      clear h2 f2 he
      rcases ev with _ | _
      · have HLv := Lib.hid (hLV (by first | exact rfl | trivial))
        have H2d := Lib.hid H2.out.drew
        have hY := And.intro (DC.out _ F2.out.drew).1 (And.intro (DC.out _ F2.out.drew).2.1 (DC.out _ F2.out.drew).2.2.2)
        go_wp2_with fail
        refine wp_region_held_drew (S := fun W => W.cell? ⟨w.heap.size, 0, none⟩ = some (.pointer (some ⟨q.m, 0, none⟩)) ∧ W.cell? ⟨w.heap.size, 1, none⟩ = some (.int .i64 s) ∧ W.cell? ⟨w.heap.size + 1, 1, none⟩ = some (.func (.func 208) #[] #[.pointer (some ⟨bA, 0, none⟩), .pointer (some ⟨bB, 0, none⟩), .pointer (some ⟨bC, 0, none⟩), .pointer (some ⟨bD, 0, none⟩)])) (by kernel_rfl) (hY) (fun yH => ?_)
        refine tkY 0 yH (h := ?_)
        refine tkY 1 yH (h := ?_)
        refine tkY 2 yH (h := ?_)
        refine tkY 3 yH (h := ?_)
        refine tkY 4 yH (h := ?_)
        refine tkY 5 yH (h := ?_)
        refine wpAnyH_ready (rs := [6]) (by kernel_rfl) (by simp) ?_
        refine AllReadyH.cons (o := ?oofb6) ?hifb6 (fun K hK => ?hcfb6) AllReadyH.nil
        case hifb6 => (simp only [List.getElem?_toArray, List.getElem?_cons_zero, List.getElem?_cons_succ]; rfl)
        go_simp
        with_reducible refine (hg.out _ H2d.out).mono ?_
        rintro e w4 ⟨rfl, h4, f4⟩
        have H4 := Lib.hid h4
        have F4 := Lib.hid (F2.out.drew.trans f4)
        have hY := And.intro (DC.out _ F4.out).1 (And.intro (DC.out _ F4.out).2.1 (DC.out _ F4.out).2.2.2)
        clear h4 f4
        go_wp2_with fail
        refine hK.out _ _ (hY) (fun yH => ?_)
        clear hK K
        try simp only [Act.put, List.setIfInBounds_toArray, List.set_cons_zero, List.set_cons_succ]
        refine wpAnyH_ready (rs := [7]) (by kernel_rfl) (by simp) ?_
        refine AllReadyH.cons (o := ?oofb7) ?hifb7 (fun K hK => ?hcfb7) AllReadyH.nil
        case hifb7 => (simp only [List.getElem?_toArray, List.getElem?_cons_zero, List.getElem?_cons_succ]; rfl)
        go_simp
        with_reducible refine (HIS.out _ H4.out (F0.out.trans F4.out) _ HLv.out).mono ?_
        rintro e w5 ⟨rfl, h5, f5⟩
        have H5 := Lib.hid h5
        have F5 := Lib.hid (F4.out.trans f5)
        have hY := And.intro (DC.out _ F5.out).1 (And.intro (DC.out _ F5.out).2.1 (DC.out _ F5.out).2.2.2)
        clear h5 f5
        go_wp2_with fail
        refine hK.out _ _ (hY) (fun yH => ?_)
        clear hK K
        try simp only [Act.put, List.setIfInBounds_toArray, List.set_cons_zero, List.set_cons_succ]
        refine wpAnyH_done (by kernel_rfl) ?_ _
        try simp only [Act.put, List.getElem_toArray, List.getElem_cons_zero, List.getElem_cons_succ, List.setIfInBounds_toArray, List.set_cons_zero, List.set_cons_succ]
        have d0 := (DC.out _ F5.out).1
        have d1 := (DC.out _ F5.out).2.1
        obtain ⟨c, hc⟩ : ∃ c : Bool, P v = c := ⟨_, rfl⟩
        rw [hc]
        rw [hc] at HU
        clear hY
        rcases c with _ | _
        · have HN := Lib.hid (show FS (s - (k + 1)) (k + 1) = R from by have := HU.out; simpa using this.symm)
          go_wp2_with fail
          go_step3
          refine ⟨rfl, ⟨k + 1, _, _, _, _, _, _, _, _, _, _, _, _, _, _, _, _, _, _, _, _, _, _, _, _, _, _, _, _, _, _, _, _, _, _, _, by first | rfl | (congr 1; go_num), by omega, HN, H5, F5⟩, by simp [intOf]; omega⟩
        · have HRR := Lib.hid (show (rk : Int) = optZ R from by have := HU.out; simp at this; rw [this]; rfl)
          go_wp2_with fail
          with_reducible refine (ho.out _).mono ?_
          rintro e w6 ⟨rfl, f6⟩
          have H6 := Lib.hid (H5.out.fr0 f6)
          have F6 := Lib.hid (F5.out.trans f6.nil)
          clear f6
          go_wp2_with fail
          try simp only [Exit.jump]
          go_ret
          exact ⟨by rw [← HRR.out]; rfl, H6.out, F0.out.trans F6.out⟩
      · have HRR := Lib.hid (show (-1 : Int) = optZ R from by have := HU.out; simp at this; rw [this]; rfl)
        go_wp2_with fail
        try simp only [Exit.jump]
        go_ret
        exact ⟨by rw [← HRR.out]; rfl, H2.out, F0.out.trans F2.out⟩
    · obtain rfl : k = s := by omega
      have b1 : ((k : Int) == k) = true := by simp
      have HRR := Lib.hid (show (-1 : Int) = optZ R from by have := hRk.out; rw [HZ.out] at this; rw [← this]; rfl)
      go_wp2_with fail
      try simp only [Exit.jump]
      go_ret
      exact ⟨by rw [← HRR.out]; rfl, hI.out, F0.out.trans hF.out⟩
end
end Go.Proofs.YtmemoopkgjgmiaaGreatDoor


/- Package index: what Node asks; found; Node. -/
namespace Go.Proofs.YtmemoopkgjgmiaaGreatDoor
set_option linter.unusedVariables false
set_option linter.unusedSimpArgs false
open Go.RowKit

/-- What Node asks of a block. -/
def isNd (E : Nat → HB) (B : Nat → List Nat) (name : Nat) (lab : List Nat) (hs z : Nat) : Bool := (E z).tag == 2 && (E z).name == name && B z == lab && (E z).hash == hs
section
variable {w0 W w : World} {q : MH} {S : SS} {x : Nat} {t u : TM} {L : Nat → Prop} {E : Nat → HB} {B : Nat → List Nat}
theorem inode1 (g : GI w0 q S L u E B W) (h : IsH w q u) (hx : L x) (name hs bA bB bC bD : Nat) (lab : List Nat) (hl : ∀ b ∈ lab, b < 256) (hlen : lab.length ≤ 9223372036854775807) (nA : bA ∉ q.blocks) (nB : bB ∉ q.blocks) (nC : bC ∉ q.blocks) (nD : bD ∉ q.blocks)
    (kA : Blk w bA 26 #[.pointer (some ⟨q.m, 0, none⟩)]) (kB : Blk w bB 30 #[.int .u32 name]) (kC : Blk w bC 9 #[.string (strOf lab)]) (kD : Blk w bD 30 #[.int .u32 hs]) :
    Calls Tryz.prog 208 #[.int .i64 x, .pointer (some ⟨bA, 0, none⟩), .pointer (some ⟨bB, 0, none⟩), .pointer (some ⟨bC, 0, none⟩), .pointer (some ⟨bD, 0, none⟩)] w fun e w' => e = .returned (.bool (isNd E B name lab hs x)) ∧ IsH w' q u ∧ Fr q.blocks w w' := by
  have hB := g.ix.e x hx
  have hlb := g.lb x hx
  obtain ⟨nn, hlv⟩ := g.lv x hx
  rw [← g.a] at hlv
  obtain ⟨v1, v2, v3, v4, v5, v6, v7⟩ := lv_at g.sl g.h.m.ok hlv
  have hx2 := (g.ne0 hx).2
  have HG := Lib.hid (fun W (hW : IsH W q u) => (show Calls Tryz.prog 188 #[.pointer (some ⟨q.m, 0, none⟩), .int .i64 x] W fun e w' => e = .returned (.tuple #[.agg #[.int .i64 (E x).tag, .int .i64 (E x).cls, .bool (E x).used, .int .i64 (E x).label, .int .u32 (E x).name, .int .u32 (E x).next, .int .u32 (E x).prev, .int .u32 (E x).refs, .int .u64 (E x).expiry, .int .u16 (E x).typ, .int .i64 (E x).size, .int .u32 (E x).hash], .int .i64 0]) ∧ IsH w' q u ∧ Fr q.blocks W w' from
    hget W q u hW x (E x).tag.toNat 5 (E x) hB.h hB.ok hB.r (by rcases hB.tg with e | e <;> rw [e] <;> rfl) hB.lies (.inl rfl)))
  have H0 := Lib.hid h
  have cA : w.cell? ⟨bA, 0, none⟩ = some (.pointer (some ⟨q.m, 0, none⟩)) := by simpa using kA.cell 0
  have KA := Lib.hid kA
  have KB := Lib.hid kB
  have KC := Lib.hid kC
  have KD := Lib.hid kD
  have htg := hB.tg
  unfold isNd
  generalize E x = X at *
  generalize B x = l at *
  obtain ⟨tag, cls, used, label, nm, next, prev, refs, expiry, ty, size, hash⟩ := X
  simp only at HG htg hlb ⊢
  rcases htg with rfl | rfl
  · have hF := Lib.hid (show (((1 : Int) == 2) && nm == name && l == lab && hash == hs) = false from by simp)
    rw [hF.out]
    clear h hB hlb hlv v1 v2 v3 v4 v5 v6 v7 hx2 kA kB kC kD g KA KB KC KD
    go_enter Tryz.func208, Tryz.ntmps208
    go_wp2_with fail
    with_reducible refine (HG.out _ H0.out).mono ?_
    rintro e w1 ⟨rfl, k1, f1⟩
    have K1 := Lib.hid k1
    have F1 := Lib.hid f1
    clear k1 f1 HG
    go_wp2_with fail
    go_ret
    exact ⟨rfl, K1.out.alloc _, F1.out.alloc _⟩
  · obtain ⟨l1, l2, l3, l4⟩ := hlb rfl
    subst l1
    have hpart : u.part (x + 16) l.length = l := by
      refine List.ext_getElem (by simp [TM.part]) (fun j j1 j2 => ?_)
      have := l4 j j2
      simp only at this
      simp [TM.part, this, List.getElem?_eq_getElem j2]
    have HR := Lib.hid (fun W (hW : IsH W q u) => (show Calls Tryz.prog 172 #[.pointer (some ⟨q.m, 0, none⟩), .int .i64 ((x : Int) + 16), .int .i64 l.length, .int .i64 5] W fun e w' => ∃ gr cap, e = .returned (.slice (some ⟨gr, 0, none⟩) l.length cap) ∧ W.heap.size ≤ gr ∧ RowB w' gr cap l ∧ IsH w' q u ∧ Fr q.blocks W w' from by
      have hr := tread hW.m (x + 16) l.length 16 5 (by omega) (fun k h1 h2 => v7 k (by omega) (by omega)) (by omega) (by omega) l2 (by decide) ((x : Int) + 16) l.length 5 (by omega) rfl rfl
      rw [hpart] at hr
      exact hr.mono fun e w' ⟨v, g, cap, k1, k2, k3, k4, k5, k6⟩ => ⟨g, cap, by rw [k1, k2], k3, k4, hW.step k5 k6, k6⟩))
    have HCV := Lib.hid (show ∀ W g cw, RowB W g cw l → (convert 62 9 (.slice (some ⟨g, 0, none⟩) l.length cw)).run Tryz.prog W = .ok (.string (strOf l)) W from fun W g cw hr => conv_str W _ cw _ (hr.byt l3 (by omega)))
    obtain ⟨b2, h2⟩ : ∃ b : Bool, (nm == name) = b := ⟨_, rfl⟩
    obtain ⟨b3, h3⟩ : ∃ b : Bool, (l.length == lab.length) = b := ⟨_, rfl⟩
    obtain ⟨b4, h4⟩ : ∃ b : Bool, (hash == hs) = b := ⟨_, rfl⟩
    obtain ⟨b5, h5⟩ : ∃ b : Bool, (l == lab) = b := ⟨_, rfl⟩
    have e2 : ((nm : Int) != name) = !b2 := by rw [← h2, bne, Bool.not_inj_iff, Bool.eq_iff_iff, beq_iff_eq, beq_iff_eq]; omega
    have e3 : ((l.length : Int) != (strOf lab).size) = !b3 := by rw [← h3, strOf_size, bne, Bool.not_inj_iff, Bool.eq_iff_iff, beq_iff_eq, beq_iff_eq]; omega
    have e4 : ((hash : Int) != hs) = !b4 := by rw [← h4, bne, Bool.not_inj_iff, Bool.eq_iff_iff, beq_iff_eq, beq_iff_eq]; omega
    have e5 : ((strOf l).toList == (strOf lab).toList) = b5 := by rw [← h5]; exact strOf_eq l lab l3 hl
    have HB := Lib.hid (show (((2 : Int) == 2) && nm == name && l == lab && hash == hs) = (b2 && b3 && b4 && b5) from by
      rw [h2, h4, h5]
      cases b5 with
      | true =>
        have : l = lab := by simpa using h5
        rw [this] at h3
        rw [← h3]
        cases b2 <;> cases b4 <;> simp
      | false => cases b2 <;> cases b4 <;> cases b3 <;> rfl)
    have wx : IntKind.i64.wrap ((x : Int) + 16) = (x : Int) + 16 := IntWalk.i64_in _ (by omega)
    rw [HB.out]
    generalize strOf lab = sb at *
    generalize strOf l = sl at *
    generalize l.length = n at *
    clear h hB hlb hlv v1 v2 v3 v4 v5 v6 v7 hx2 kA kB kC kD g h2 h3 h4 h5 HB hpart l2 l3 l4 hl hlen
    go_enter Tryz.func208, Tryz.ntmps208
    go_wp2_with fail
    with_reducible refine (HG.out _ H0.out).mono ?_
    rintro e w1 ⟨rfl, k1, f1⟩
    have K1 := Lib.hid k1
    have F1 := Lib.hid f1
    have hql : w1.heap.size ∉ q.blocks := fun hm => by have := k1.m.lt _ hm; omega
    have A1 := Lib.hid ((KA.out.fr f1 nA).alloc (.cells #[.int .i64 2, .int .i64 cls, .bool used, .int .i64 n, .int .u32 nm, .int .u32 next, .int .u32 prev, .int .u32 refs, .int .u64 expiry, .int .u16 ty, .int .i64 size, .int .u32 hash] 168))
    have C1 := Lib.hid ((KC.out.fr f1 nC).alloc (.cells #[.int .i64 2, .int .i64 cls, .bool used, .int .i64 n, .int .u32 nm, .int .u32 next, .int .u32 prev, .int .u32 refs, .int .u64 expiry, .int .u16 ty, .int .i64 size, .int .u32 hash] 168))
    have G1 := Lib.hid (Blk.new w1 168 #[.int .i64 2, .int .i64 cls, .bool used, .int .i64 n, .int .u32 nm, .int .u32 next, .int .u32 prev, .int .u32 refs, .int .u64 expiry, .int .u16 ty, .int .i64 size, .int .u32 hash])
    have K2 := Lib.hid (K1.out.alloc (.cells #[.int .i64 2, .int .i64 cls, .bool used, .int .i64 n, .int .u32 nm, .int .u32 next, .int .u32 prev, .int .u32 refs, .int .u64 expiry, .int .u16 ty, .int .i64 size, .int .u32 hash] 168))
    have F2 := Lib.hid (F1.out.alloc (.cells #[.int .i64 2, .int .i64 cls, .bool used, .int .i64 n, .int .u32 nm, .int .u32 next, .int .u32 prev, .int .u32 refs, .int .u64 expiry, .int .u16 ty, .int .i64 size, .int .u32 hash] 168))
    have d1 := A1.out.cell 0
    have d2 := ((KB.out.fr f1 nB).alloc (.cells #[.int .i64 2, .int .i64 cls, .bool used, .int .i64 n, .int .u32 nm, .int .u32 next, .int .u32 prev, .int .u32 refs, .int .u64 expiry, .int .u16 ty, .int .i64 size, .int .u32 hash] 168)).cell 0
    have d3 := C1.out.cell 0
    have d4 := ((KD.out.fr f1 nD).alloc (.cells #[.int .i64 2, .int .i64 cls, .bool used, .int .i64 n, .int .u32 nm, .int .u32 next, .int .u32 prev, .int .u32 refs, .int .u64 expiry, .int .u16 ty, .int .i64 size, .int .u32 hash] 168)).cell 0
    simp only [List.getElem?_toArray, List.getElem?_cons_zero] at d1 d2 d3 d4
    clear k1 f1 HG KA KB KC KD H0 K1 F1
    have DC := Lib.hid (fun V (hV : Fr q.blocks (w1.alloc (.cells #[.int .i64 2, .int .i64 cls, .bool used, .int .i64 n, .int .u32 nm, .int .u32 next, .int .u32 prev, .int .u32 refs, .int .u64 expiry, .int .u16 ty, .int .i64 size, .int .u32 hash] 168)) V) => And.intro (show V.cell? ⟨bA, 0, none⟩ = some (.pointer (some ⟨q.m, 0, none⟩)) from (A1.out.fr hV nA).cell 0) (And.intro (show V.cell? ⟨bC, 0, none⟩ = some (.string sb) from (C1.out.fr hV nC).cell 0) (show V.cell? ⟨w1.heap.size, 3, none⟩ = some (.int .i64 n) from (G1.out.fr hV hql).cell 3)))
    obtain ⟨c2, hc2⟩ : ∃ c, (!b2) = c := ⟨_, rfl⟩
    obtain ⟨c3, hc3⟩ : ∃ c, (!b3) = c := ⟨_, rfl⟩
    obtain ⟨c4, hc4⟩ : ∃ c, (!b4) = c := ⟨_, rfl⟩
    rw [hc2] at e2
    rw [hc3] at e3
    rw [hc4] at e4
    by_cases hall : (b2 && b3 && b4) = true
    · simp only [Bool.and_eq_true] at hall
      obtain ⟨⟨rfl, rfl⟩, rfl⟩ := hall
      subst hc2 hc3 hc4
      rw [show (!true) = false from rfl] at e2 e3 e4
      go_wp2_with fail
      have hY := DC.out _ (Fr.refl _ _).drew
      refine wp_region_held_drew (S := fun W => W.cell? ⟨bA, 0, none⟩ = some (.pointer (some ⟨q.m, 0, none⟩)) ∧ W.cell? ⟨bC, 0, none⟩ = some (.string sb) ∧ W.cell? ⟨w1.heap.size, 3, none⟩ = some (.int .i64 n)) (by kernel_rfl) (hY) (fun yH => ?_)
      refine tkY 0 yH (h := ?_)
      refine tkY 1 yH (h := ?_)
      refine tkY 2 yH (h := ?_)
      refine tkY 3 yH (h := ?_)
      refine tkY 4 yH (h := ?_)
      refine tkY 7 yH (h := ?_)
      refine wpAnyH_ready (rs := [5]) (by kernel_rfl) (by simp) ?_
      refine AllReadyH.cons (o := ?ooa6) ?hia6 (fun K hK => ?hca6) AllReadyH.nil
      case hia6 => (simp only [List.getElem?_toArray, List.getElem?_cons_zero, List.getElem?_cons_succ]; rfl)
      go_simp
      with_reducible refine (HR.out _ (K2.out.drew)).mono ?_
      rintro e w5 ⟨gr, cap, rfl, hgr, hrb, h5, f5⟩
      have H5 := Lib.hid h5
      have F5 := Lib.hid (F2.out.drew.trans f5)
      have hs6 := HCV.out _ _ _ hrb
      have hY := DC.out _ ((Fr.refl _ _).drew.trans f5)
      clear h5 f5 hrb
      go_wp2_with fail
      refine hK.out _ _ (hY) (fun yH => ?_)
      clear hK K
      try simp only [Act.put, List.setIfInBounds_toArray, List.set_cons_zero, List.set_cons_succ]
      refine wpAnyH_ready (rs := [6]) (by kernel_rfl) (by simp) ?_
      refine AllReadyH.cons (o := ?ooa7) ?hia7 (fun K hK => ?hca7) AllReadyH.nil
      case hia7 => (simp only [List.getElem?_toArray, List.getElem?_cons_zero, List.getElem?_cons_succ]; rfl)
      go_simp
      refine hK.out _ _ (hY) (fun yH => ?_)
      clear hK K
      try simp only [Act.put, List.setIfInBounds_toArray, List.set_cons_zero, List.set_cons_succ]
      refine tkY 8 yH (h := ?_)
      refine tkY 9 yH (h := ?_)
      refine wpAnyH_done (by kernel_rfl) ?_ _
      try simp only [Act.put, List.getElem_toArray, List.getElem_cons_zero, List.getElem_cons_succ, List.setIfInBounds_toArray, List.set_cons_zero, List.set_cons_succ]
      go_wp2_with fail
      go_ret
      exact ⟨rfl, H5.out, F5.out⟩
    · have HFF := Lib.hid (show (b2 && b3 && b4 && b5) = false from by rw [Bool.eq_false_iff.2 hall]; rfl)
      have hcc : c2 = true ∨ (c2 = false ∧ c3 = true) ∨ (c2 = false ∧ c3 = false ∧ c4 = true) := by
        revert hall hc2 hc3 hc4
        cases b2 <;> cases b3 <;> cases b4 <;> simp <;> intros <;> simp_all
      clear hall hc2 hc3 hc4
      rcases hcc with rfl | ⟨rfl, rfl⟩ | ⟨rfl, rfl, rfl⟩
      all_goals
        go_wp2_with fail
        go_ret
        exact ⟨by rw [HFF.out]; rfl, K2.out, F2.out⟩
theorem ifoundN (h : IsH w q t) (g : IxI t L E) (P : Nat → Bool) (hs bA bB bC bD : Nat) (hh : hs < 4294967296) (hIS : ∀ W, IsH W q t → Fr q.blocks w W → ∀ y, L y → Calls Tryz.prog 208 #[.int .i64 y, .pointer (some ⟨bA, 0, none⟩), .pointer (some ⟨bB, 0, none⟩), .pointer (some ⟨bC, 0, none⟩), .pointer (some ⟨bD, 0, none⟩)] W fun e w' => e = .returned (.bool (P y)) ∧ IsH w' q t ∧ Fr q.blocks W w') :
    Calls Tryz.prog 186 #[.agg #[.pointer (some ⟨q.m, 0, none⟩), .int .i64 t.s], .agg #[.int .u32 hs, .func (.func 208) #[] #[.pointer (some ⟨bA, 0, none⟩), .pointer (some ⟨bB, 0, none⟩), .pointer (some ⟨bC, 0, none⟩), .pointer (some ⟨bD, 0, none⟩)]]] w fun e w' => e = .returned (match fndT t.sl (hmE t E) t.s (hs % t.s) P with | some i => .tuple #[.int .i64 (t.sl i), .bool true] | none => .tuple #[.int .i64 0, .bool false]) ∧ IsH w' q t ∧ Fr q.blocks w w' := by
  have hs0 := g.s0
  have hs1 := g.s1
  have hF0 : Fr q.blocks w ((w.alloc (.cells #[.pointer (some ⟨q.m, 0, none⟩), .int .i64 t.s] 146)).alloc (.cells #[.int .u32 hs, .func (.func 208) #[] #[.pointer (some ⟨bA, 0, none⟩), .pointer (some ⟨bB, 0, none⟩), .pointer (some ⟨bC, 0, none⟩), .pointer (some ⟨bD, 0, none⟩)]] 243)) := ((Fr.refl q.blocks w).alloc _).alloc _
  have H0 := (h.alloc (.cells #[.pointer (some ⟨q.m, 0, none⟩), .int .i64 t.s] 146)).alloc (.cells #[.int .u32 hs, .func (.func 208) #[] #[.pointer (some ⟨bA, 0, none⟩), .pointer (some ⟨bB, 0, none⟩), .pointer (some ⟨bC, 0, none⟩), .pointer (some ⟨bD, 0, none⟩)]] 243)
  have HF := Lib.hid (ifindN H0 g P hs bA bB bC bD hh (fun W hW hf y hy => hIS W hW (hF0.trans hf) y hy))
  have F0 := Lib.hid hF0
  have B0 := Lib.hid ((Blk.new w 146 #[.pointer (some ⟨q.m, 0, none⟩), .int .i64 t.s]).alloc (.cells #[.int .u32 hs, .func (.func 208) #[] #[.pointer (some ⟨bA, 0, none⟩), .pointer (some ⟨bB, 0, none⟩), .pointer (some ⟨bC, 0, none⟩), .pointer (some ⟨bD, 0, none⟩)]] 243))
  have hlt := h.m.lt
  have nb : w.heap.size ∉ q.blocks := fun hm => by have := hlt _ hm; omega
  have HGT := Lib.hid (fun W (i : Nat) (hi : i < t.s) (hW : IsH W q t) => (show Calls Tryz.prog 99 #[.agg #[.pointer (some ⟨q.m, 0, none⟩), .int .i64 t.s], .int .i64 i] W fun e w' => e = .returned (.int .i64 (t.sl i)) ∧ IsH w' q t ∧ Fr q.blocks W w' from by
    have := iget hW.m i (by omega) hs0
    rw [Nat.mod_eq_of_lt hi] at this
    exact this.mono fun e w' ⟨he, k1, k2⟩ => ⟨he, hW.step k1 k2, k2⟩))
  have hlt2 : ∀ i, fndT t.sl (hmE t E) t.s (hs % t.s) P = some i → i < t.s := fun i e => fndS_lt hs0 _ _ _ e
  generalize fndT t.sl (hmE t E) t.s (hs % t.s) P = R at *
  generalize t.sl = T at *
  generalize t.s = s at *
  clear h hF0 H0 hIS hlt g
  rcases R with _ | i
  · rw [show optZ none = -1 from rfl] at HF
    clear hlt2
    go_enter Tryz.func186, Tryz.ntmps186
    go_wp2_with fail
    with_reducible refine HF.out.mono ?_
    rintro e w1 ⟨rfl, k1, f1⟩
    have K1 := Lib.hid k1
    have F1 := Lib.hid (F0.out.trans f1)
    clear k1 f1
    go_wp2_with fail
    go_ret2
    exact ⟨rfl, K1.out, F1.out⟩
  · have hi := hlt2 i rfl
    rw [show optZ (some i) = i from rfl] at HF
    have hi0' : ((i : Int) == -1) = false := by rw [beq_eq_false_iff_ne]; omega
    have HG := Lib.hid (fun W hW => HGT.out W i hi hW)
    dsimp only
    generalize T i = v at *
    clear hlt2
    go_enter Tryz.func186, Tryz.ntmps186
    go_wp2_with fail
    with_reducible refine HF.out.mono ?_
    rintro e w1 ⟨rfl, k1, f1⟩
    have K1 := Lib.hid k1
    have F1 := Lib.hid (F0.out.trans f1)
    have hb := B0.out.fr f1 nb
    have d0 := hb.cell 0
    have d1 := hb.cell 1
    simp only [List.getElem?_toArray, List.getElem?_cons_zero, List.getElem?_cons_succ] at d0 d1
    clear k1 f1 hb
    go_wp2_with fail
    with_reducible refine (HG.out _ K1.out).mono ?_
    rintro e w2 ⟨rfl, k2, f2⟩
    have K2 := Lib.hid k2
    have F2 := Lib.hid (F1.out.trans f2)
    clear k2 f2
    go_wp2_with fail
    go_ret2
    exact ⟨rfl, K2.out, F2.out⟩
theorem inode (gI : GI w0 q S L u E B W) (name : Nat) (lab : List Nat) (hs : Nat) (hn : name < 4294967296) (hl : ∀ b ∈ lab, b < 256) (hlen : lab.length ≤ 9223372036854775807) (hh : hs < 4294967296) :
    ∀ w, IsH w q u → Calls Tryz.prog 111 #[.pointer (some ⟨q.m, 0, none⟩), .int .u32 name, .string (strOf lab), .int .u32 hs] w fun e w' => e = .returned (match fndT u.sl (hmE u E) u.s (hs % u.s) (isNd E B name lab hs) with | some i => .tuple #[.int .i64 (u.sl i), .bool true] | none => .tuple #[.int .i64 0, .bool false]) ∧ IsH w' q u ∧ Fr q.blocks w w' := by
  intro w h
  have g := gI.ix
  generalize hsl : strOf lab = sl
  obtain ⟨A0, hA0⟩ : ∃ A, A = w.alloc (.cells #[.pointer (some ⟨q.m, 0, none⟩)] 26) := ⟨_, rfl⟩
  obtain ⟨A1, hA1⟩ : ∃ A, A = A0.alloc (.cells #[.int .u32 name] 30) := ⟨_, rfl⟩
  obtain ⟨A2, hA2⟩ : ∃ A, A = A1.alloc (.cells #[.string sl] 9) := ⟨_, rfl⟩
  obtain ⟨A3, hA3⟩ : ∃ A, A = A2.alloc (.cells #[.int .u32 hs] 30) := ⟨_, rfl⟩
  have z0 : A0.heap.size = w.heap.size + 1 := by rw [hA0]; simp
  have z1 : A1.heap.size = w.heap.size + 1 + 1 := by rw [hA1]; simp [z0]
  have z2 : A2.heap.size = w.heap.size + 1 + 1 + 1 := by rw [hA2]; simp [z1]
  have kA : Blk A3 w.heap.size 26 #[.pointer (some ⟨q.m, 0, none⟩)] := by rw [hA3, hA2, hA1, hA0]; exact (((Blk.new w _ _).alloc _).alloc _).alloc _
  have kB : Blk A3 (w.heap.size + 1) 30 #[.int .u32 name] := by rw [hA3, hA2, hA1, ← z0]; exact ((Blk.new A0 _ _).alloc _).alloc _
  have kC : Blk A3 (w.heap.size + 1 + 1) 9 #[.string sl] := by rw [hA3, hA2, ← z1]; exact (Blk.new A1 _ _).alloc _
  have kD : Blk A3 (w.heap.size + 1 + 1 + 1) 30 #[.int .u32 hs] := by rw [hA3, ← z2]; exact Blk.new A2 _ _
  have fA : Fr q.blocks w A3 := by rw [hA3, hA2, hA1, hA0]; exact ((((Fr.refl _ w).alloc _).alloc _).alloc _).alloc _
  have hA : IsH A3 q u := by rw [hA3, hA2, hA1, hA0]; exact (((h.alloc _).alloc _).alloc _).alloc _
  have hlt := h.m.lt
  have nq : ∀ k, w.heap.size ≤ k → k ∉ q.blocks := fun k hk hm => by have := hlt _ hm; omega
  have HOF := Lib.hid (fun W (hW : IsH W q u) => (show Calls Tryz.prog 96 #[.pointer (some ⟨q.m, 0, none⟩)] W fun e w' => e = .returned (.agg #[.pointer (some ⟨q.m, 0, none⟩), .int .i64 u.s]) ∧ Fr [] W w' from iof hW.m))
  have HFO := Lib.hid (fun W (hW : IsH W q u) (hf : Fr q.blocks A3 W) => ifoundN hW g (isNd E B name lab hs) hs w.heap.size (w.heap.size + 1) (w.heap.size + 1 + 1) (w.heap.size + 1 + 1 + 1) hh (fun V hV hf2 y hy => by
    have hF := hf.trans hf2
    exact inode1 gI hV hy name hs _ _ _ _ lab hl hlen (nq _ (by omega)) (nq _ (by omega)) (nq _ (by omega)) (nq _ (by omega)) (kA.fr hF (nq _ (by omega))) (kB.fr hF (nq _ (by omega))) (by rw [hsl]; exact kC.fr hF (nq _ (by omega))) (kD.fr hF (nq _ (by omega)))))
  have DC := Lib.hid (fun V (hV : Fr q.blocks A3 V) => And.intro (show V.cell? ⟨w.heap.size, 0, none⟩ = some (.pointer (some ⟨q.m, 0, none⟩)) from (kA.fr hV (nq _ (by omega))).cell 0) (show V.cell? ⟨w.heap.size + 1 + 1 + 1, 0, none⟩ = some (.int .u32 hs) from (kD.fr hV (nq _ (by omega))).cell 0))
  have H0 := Lib.hid hA.drew
  have FA := Lib.hid fA
  have hY := DC.out _ (Fr.refl _ A3).drew
  have HA3 : ((((w.alloc (.cells #[.pointer (some ⟨q.m, 0, none⟩)] 26)).alloc (.cells #[.int .u32 name] 30)).alloc (.cells #[.string sl] 9)).alloc (.cells #[.int .u32 hs] 30)) = A3 := by rw [hA3, hA2, hA1, hA0]
  obtain ⟨RV, hRV⟩ : ∃ RV : Value × Value, (match fndT u.sl (hmE u E) u.s (hs % u.s) (isNd E B name lab hs) with | some i => Value.tuple #[.int .i64 (u.sl i), .bool true] | none => .tuple #[.int .i64 0, .bool false]) = .tuple #[RV.1, RV.2] := by
    cases fndT u.sl (hmE u E) u.s (hs % u.s) (isNd E B name lab hs) with
    | some i => exact ⟨(_, _), rfl⟩
    | none => exact ⟨(_, _), rfl⟩
  rw [hRV] at HFO ⊢
  obtain ⟨r1, r2⟩ := RV
  generalize u.s = s at *
  clear h g gI hA0 hA1 hA2 hA3 z0 z1 z2 kA kB kC kD fA hA hlt hRV
  go_enter Tryz.func111, Tryz.ntmps111
  go_wp2_with fail
  try rw [HA3]
  refine wp_region_held_drew (S := fun W => W.cell? ⟨w.heap.size, 0, none⟩ = some (.pointer (some ⟨q.m, 0, none⟩)) ∧ W.cell? ⟨w.heap.size + 1 + 1 + 1, 0, none⟩ = some (.int .u32 hs)) (by kernel_rfl) (hY) (fun yH => ?_)
  refine tkY 0 yH (h := ?_)
  refine tkY 2 yH (h := ?_)
  refine tkY 3 yH (h := ?_)
  refine tkY 4 yH (h := ?_)
  refine wpAnyH_ready (rs := [1]) (by kernel_rfl) (by simp) ?_
  refine AllReadyH.cons (o := ?ooa4) ?hia4 (fun K hK => ?hca4) AllReadyH.nil
  case hia4 => (simp only [List.getElem?_toArray, List.getElem?_cons_zero, List.getElem?_cons_succ]; rfl)
  go_simp
  with_reducible refine (HOF.out _ H0.out).mono ?_
  rintro e w1 ⟨rfl, f1⟩
  have K1 := Lib.hid (H0.out.fr0 f1)
  have F1 := Lib.hid ((Fr.refl q.blocks A3).drew.trans f1.nil)
  have hY := DC.out _ F1.out
  clear f1
  go_wp2_with fail
  refine hK.out _ _ (hY) (fun yH => ?_)
  clear hK K
  try simp only [Act.put, List.setIfInBounds_toArray, List.set_cons_zero, List.set_cons_succ]
  refine wpAnyH_ready (rs := [5]) (by kernel_rfl) (by simp) ?_
  refine AllReadyH.cons (o := ?ooa5) ?hia5 (fun K hK => ?hca5) AllReadyH.nil
  case hia5 => (simp only [List.getElem?_toArray, List.getElem?_cons_zero, List.getElem?_cons_succ]; rfl)
  go_simp
  with_reducible refine (HFO.out _ K1.out F1.out).mono ?_
  rintro e w2 ⟨rfl, k2, f2⟩
  have K2 := Lib.hid k2
  have F2 := Lib.hid (F1.out.trans f2)
  have hY := DC.out _ F2.out
  clear k2 f2
  go_wp2_with fail
  refine hK.out _ _ (hY) (fun yH => ?_)
  clear hK K
  try simp only [Act.put, List.setIfInBounds_toArray, List.set_cons_zero, List.set_cons_succ]
  refine tkY 6 yH (h := ?_)
  refine tkY 7 yH (h := ?_)
  refine tkY 8 yH (h := ?_)
  refine tkY 9 yH (h := ?_)
  refine wpAnyH_done (by kernel_rfl) ?_ _
  try simp only [Act.put, List.getElem_toArray, List.getElem_cons_zero, List.getElem_cons_succ, List.setIfInBounds_toArray, List.set_cons_zero, List.set_cons_succ]
  go_wp2_with fail
  go_ret2
  exact ⟨rfl, K2.out, FA.out.trans F2.out⟩
theorem ix_node (g : GI w0 q S L u E B W) (name : Nat) (lab : List Nat) (hs : Nat) (hn : name < 4294967296) (hl : ∀ b ∈ lab, b < 256) (hlen : lab.length ≤ 9223372036854775807) (hh : hs < 4294967296) :
    Calls Tryz.prog 111 #[.pointer (some ⟨q.m, 0, none⟩), .int .u32 name, .string (strOf lab), .int .u32 hs] W fun e w' => Fr q.blocks W w' ∧ GI w0 q S L u E B w' ∧ e = .returned (match fndT u.sl (hmE u E) 224 (hs % 224) (isNd E B name lab hs) with | some i => .tuple #[.int .i64 (u.sl i), .bool true] | none => .tuple #[.int .i64 0, .bool false]) := by
  have h := inode g name lab hs hn hl hlen hh W g.h
  rw [g.s] at h
  exact h.mono fun e w' ⟨k1, k2, k3⟩ => ⟨k3, g.same k2 k3, k1⟩
end
end Go.Proofs.YtmemoopkgjgmiaaGreatDoor

/- Rows of the document's blocks of layer 20 (six cells each): append, one of them, a row without one of them. -/
namespace Go.Proofs.YtmemoopkgjgmiaaGreatDoor
set_option linter.unusedVariables false
set_option linter.unusedSimpArgs false
open Go.RowKit

theorem info_rb : (Tryz.prog.info? 33).map (fun i => (i.zero, i.size, i.bytes)) = some (some (.agg #[.int .i64 0, .bool false, .int .u32 0, .int .u16 0, .string ⟨#[]⟩, .int .u32 0]), 6, 48) := by kernel_rfl
theorem info_rb' : ∃ i, Tryz.prog.info? 33 = some i ∧ i.zero = some (.agg #[.int .i64 0, .bool false, .int .u32 0, .int .u16 0, .string ⟨#[]⟩, .int .u32 0]) ∧ i.size = 6 ∧ i.bytes = 48 := by
  have h := info_rb
  cases e : Tryz.prog.info? 33 with
  | none => rw [e] at h; cases h
  | some i =>
    rw [e] at h
    simp at h
    exact ⟨i, rfl, h.1, h.2.1, h.2.2⟩
def RB.cl (b : RB) : List Value := [.int .i64 b.at_, .bool b.nd, .int .u32 b.nm, .int .u16 b.ty, .string (strOf b.lab), .int .u32 b.hs]
theorem RB.cl_len (b : RB) : b.cl.length = 6 := rfl
/-- The cells of a row. -/
def rbL : List RB → List Value
  | [] => []
  | b :: l => b.cl ++ rbL l
theorem rbL_len : ∀ l : List RB, (rbL l).length = l.length * 6
  | [] => rfl
  | b :: l => by rw [rbL, List.length_append, rbL_len l, RB.cl_len, List.length_cons]; omega
theorem rbL_app : ∀ l m : List RB, rbL (l ++ m) = rbL l ++ rbL m
  | [], m => rfl
  | b :: l, m => by rw [List.cons_append, rbL, rbL, rbL_app l m, List.append_assoc]
theorem rbL_get : ∀ (l : List RB) (i : Nat) (hi : i < l.length) (j : Nat), j < 6 → (rbL l)[i * 6 + j]? = l[i].cl[j]?
  | b :: l, 0, hi, j, hj => by
    rw [rbL, Nat.zero_mul, Nat.zero_add, List.getElem?_append_left (by rw [RB.cl_len]; exact hj)]
    rfl
  | b :: l, i + 1, hi, j, hj => by
    rw [rbL, List.getElem?_append_right (by rw [RB.cl_len]; omega), RB.cl_len, show (i + 1) * 6 + j - 6 = i * 6 + j by omega, rbL_get l i (by simpa using hi) j hj]
    rfl
theorem rbL_one : ∀ (l : List RB), ∀ u ∈ rbL l, u.oneCell' = true
  | [], u, hu => by cases hu
  | b :: l, u, hu => by
    rw [rbL] at hu
    rcases List.mem_append.1 hu with hu | hu
    · simp only [RB.cl, List.mem_cons, List.not_mem_nil, or_false] at hu
      rcases hu with rfl | rfl | rfl | rfl | rfl | rfl <;> rfl
    · exact rbL_one l u hu
/-- A row of the walk's own. -/
def Rk (W : World) (base : Nat) (v : Value) (L : List RB) : Prop := W.ownsRow base 33 6 v L.length (rbL L)
theorem Rk.lt {W : World} {base : Nat} {v : Value} {L : List RB} (h : Rk W base v L) (g : Nat) (e : v.ownBlock = some g) : base ≤ g ∧ g < W.heap.size := by
  obtain ⟨h1, ⟨rfl, h2⟩ | ⟨g', cap, cur, rfl, hb, hg, _⟩⟩ := h
  · cases e
  · injection e with e
    have e : g' = g := e
    subst e
    exact ⟨hb, (Array.getElem?_eq_some_iff.1 hg).1⟩
theorem Rk.fr {W W' : World} {base : Nat} {v : Value} {L : List RB} {S : List Nat} (h : Rk W base v L) (hf : Fr S W W') (hS : ∀ k ∈ S, v.ownBlock ≠ some k) : Rk W' base v L := by
  obtain ⟨h1, ⟨h2, h3⟩ | ⟨g, cap, cur, rfl, hb, hg, r1, r2, r3, r4⟩⟩ := h
  · exact ⟨h1, .inl ⟨h2, h3⟩⟩
  · exact ⟨h1, .inr ⟨g, cap, cur, rfl, hb, (hf.block g (Array.getElem?_eq_some_iff.1 hg).1 (fun hm => hS g hm rfl)).trans hg, r1, r2, r3, r4⟩⟩
theorem Rk.fr0 {W W' : World} {base : Nat} {v : Value} {L : List RB} (h : Rk W base v L) (hf : Fr [] W W') : Rk W' base v L := h.fr hf (by simp)
theorem Rk.frq {W W' : World} {base : Nat} {v : Value} {L : List RB} {S : List Nat} (h : Rk W base v L) (hf : Fr S W W') (hS : ∀ k ∈ S, k < base) : Rk W' base v L := h.fr hf (fun k hk e => by
  have := (h.lt k e).1
  have := hS k hk
  omega)
theorem Rk.lo {W : World} {base base' : Nat} {v : Value} {L : List RB} (h : Rk W base' v L) (hb : base ≤ base') : Rk W base v L := by
  obtain ⟨h1, ⟨h2, h3⟩ | ⟨g, cap, cur, rfl, hb', hg, r⟩⟩ := h
  · exact ⟨h1, .inl ⟨h2, h3⟩⟩
  · exact ⟨h1, .inr ⟨g, cap, cur, rfl, Nat.le_trans hb hb', hg, r⟩⟩
theorem Rk.nil (W : World) (base : Nat) : Rk W base (.slice none 0 0) [] := ⟨rfl, .inl ⟨rfl, rfl⟩⟩
/-- A row that can be read. -/
def RowK (w : World) (g cap : Nat) (l : List RB) : Prop := ∃ cur, Blk w g 33 cur ∧ cur.size = cap * 6 ∧ l.length ≤ cap ∧ cur.toList.take (l.length * 6) = rbL l
theorem RowK.fr {w w' : World} {g cap : Nat} {l : List RB} {S : List Nat} (h : RowK w g cap l) (hf : Fr S w w') (hg : g ∉ S) : RowK w' g cap l := by
  obtain ⟨cur, hb, h1, h2, h3⟩ := h
  exact ⟨cur, hb.fr hf hg, h1, h2, h3⟩
theorem RowK.lt {w : World} {g cap : Nat} {l : List RB} (h : RowK w g cap l) : g < w.heap.size := by
  obtain ⟨cur, hb, _⟩ := h
  exact hb.lt
theorem RowK.le {w : World} {g cap : Nat} {l : List RB} (h : RowK w g cap l) : l.length ≤ cap := by
  obtain ⟨cur, hb, h1, h2, _⟩ := h
  exact h2
theorem RowK.cell {w : World} {g cap : Nat} {l : List RB} (h : RowK w g cap l) (i : Nat) (hi : i < l.length) (j : Nat) (hj : j < 6) : w.cell? ⟨g, i * 6 + j, none⟩ = l[i].cl[j]? := by
  obtain ⟨cur, hb, h1, h2, h3⟩ := h
  rw [hb.cell, ← rbL_get l i hi j hj, ← h3, List.getElem?_take_of_lt (by omega), Array.getElem?_toList]
theorem Rk.row {W : World} {base : Nat} {v : Value} {L : List RB} (h : Rk W base v L) : ∃ ad cap, v = .slice ad L.length cap ∧ (0 < L.length → ∃ g, ad = some ⟨g, 0, none⟩ ∧ base ≤ g ∧ RowK W g cap L) := by
  obtain ⟨h1, ⟨h2, h3⟩ | ⟨g, cap, cur, rfl, hb, hg, r1, r2, r3, r4⟩⟩ := h
  · exact ⟨none, 0, by rw [h2, h3], fun h => by omega⟩
  · exact ⟨_, cap, rfl, fun _ => ⟨g, rfl, hb, ⟨cur, hg, r3, r1, r4⟩⟩⟩
theorem addr_add (g o j : Nat) : (⟨g, o, none⟩ : Addr).add j = ⟨g, o + j, none⟩ := by unfold Addr.add; split <;> simp_all
set_option maxRecDepth 100000 in
theorem run_appK (w : World) (base : Nat) (v : Value) (l : List RB) (h : Rk w base v l) (A : Option Addr) (c : Nat) (m : List RB) (hm : 0 < m.length → ∃ g o, A = some ⟨g, o, none⟩ ∧ ∀ j (hj : j < m.length) i, i < 6 → w.cell? ⟨g, o + (j * 6 + i), none⟩ = m[j].cl[i]?) (hl : l.length + m.length ≤ 1048576) (hbase : base ≤ w.heap.size) :
    ∃ v' w', (Builtin.append_ #[47, 47] 47 #[v, .slice A m.length c]).run Tryz.prog w = .ok v' w' ∧ Rk w' base v' (l ++ m) ∧ w.grownBy w' v.ownBlock ∧ (v'.ownBlock = v.ownBlock ∨ v'.ownBlock = some w.heap.size) := by
  obtain ⟨i, hi, hz, hs, hb⟩ := info_rb'
  rcases A with _ | ad
  · have hm0 : m = [] := by
      rcases m with _ | ⟨x, m⟩
      · rfl
      · obtain ⟨g, o, e, _⟩ := hm (by simp)
        cases e
    subst hm0
    refine ⟨v, w, ?_, by simpa using h, World.grownBy.refl w _, .inl rfl⟩
    obtain ⟨h1, ⟨rfl, h2⟩ | ⟨g, cap, cur, rfl, hg, hh, hc, _⟩⟩ := h
    · have : l = [] := List.eq_nil_of_length_eq_zero h2
      subst this
      simp [Builtin.append_, run_underlying Tryz.underlying47, sizeOf, typeInfo, hi, Builtin.lenOf, Builtin.firstCells]
    · simp [Builtin.append_, run_underlying Tryz.underlying47, sizeOf, typeInfo, hi, Builtin.lenOf, Builtin.firstCells, hc, storeCells]
  · have hcells : ∀ j u, (rbL m)[j]? = some u → w.cell? (ad.add j) = some u := by
      intro j u hu
      have hj := (List.getElem?_eq_some_iff.1 hu).1
      rw [rbL_len] at hj
      obtain ⟨g, o, e, hc⟩ := hm (by omega)
      injection e with e
      subst e
      have hj2 : j / 6 < m.length := by omega
      rw [addr_add, show o + j = o + (j / 6 * 6 + j % 6) by omega, hc (j / 6) hj2 (j % 6) (by omega), ← rbL_get m (j / 6) hj2 (j % 6) (by omega), show j / 6 * 6 + j % 6 = j by omega, hu]
    obtain ⟨v', w', hrun, h2, h3, _, h5⟩ := run_append_own_at (P := Tryz.prog) w base 47 47 33 i (.agg #[.int .i64 0, .bool false, .int .u32 0, .int .u16 0, .string ⟨#[]⟩, .int .u32 0]) 6 48 Tryz.underlying47 hi hz hs hb rfl (by decide) v l.length (rbL l) h ad m.length c (rbL m) (rbL_len m) hcells (rbL_one m) (by unfold maxLen; omega) (by omega) hbase
    refine ⟨v', w', hrun, ?_, h3, h5⟩
    unfold Rk
    rw [List.length_append, rbL_app]
    exact h2
set_option maxRecDepth 100000 in
/-- One block more. -/
theorem wpList_appK {w : World} {ops : Array Oper} {rest : List Oper} {o : Oper} {a : Act} {Q : Exit → Act → World → Prop} (hgd : o.guard = none) (s x : Operand) (ho : o.op = .call { callee := .builtin .append, args := #[s, x], argTypes := #[47, 47] }) (hty : o.type = 47)
    (base : Nat) (v : Value) (l : List RB) (hs : a.eval s = v) (y : RB) (W0 : World) (hW : w = W0.alloc (.cells y.cells 33)) (hown : Rk W0 base v l) (hx : a.eval x = .slice (some ⟨W0.heap.size, 0, none⟩) 1 1)
    (hl : l.length ≤ 1000000) (hbase : base ≤ W0.heap.size)
    (h : ∀ g cap w', Rk w' base (.slice (some ⟨g, 0, none⟩) (l.length + 1) cap) (l ++ [y]) → Fr (ownS v) W0 w' → (v.ownBlock = some g ∨ W0.heap.size ≤ g) → wpList Tryz.prog ops Q rest (a.put o.dst (.slice (some ⟨g, 0, none⟩) (l.length + 1) cap)) w') : wpList Tryz.prog ops Q (o :: rest) a w := by
  subst hW
  refine wpList_plain hgd fun K hK => ?_
  obtain ⟨v', w', hrun, h2, h3, h5⟩ := run_appK (W0.alloc (.cells y.cells 33)) base v l (hown.fr0 ((Fr.refl [] W0).alloc _)) (some ⟨W0.heap.size, 0, none⟩) 1 [y] (fun _ => ⟨_, 0, rfl, fun j hj i hi => by
    obtain rfl : j = 0 := by simp at hj; omega
    rw [Nat.zero_mul, Nat.zero_add, Nat.zero_add, (Blk.new W0 33 y.cells).cell]
    show (rbC _ _ _ _ _ _)[i]? = y.cl[i]?
    rw [rbC, List.getElem?_toArray]
    rfl⟩) (by simp; omega) (by simp; omega)
  rw [show ([y] : List RB).length = 1 from rfl] at hrun
  obtain ⟨g, cap, rfl⟩ := ownsRow_succ (show w'.ownsRow base 33 6 v' (l.length + 1) (rbL (l ++ [y])) from by
    have := h2
    unfold Rk at this
    rwa [List.length_append] at this)
  have hK' := hK _ _ (h g cap w' h2 (fr_grown h3) (by
    rw [World.size_alloc] at h5
    rcases h5 with h5 | h5
    · exact .inl h5.symm
    · refine .inr ?_
      have : g = W0.heap.size + 1 := Option.some.inj h5
      omega))
  unfold Oper.wp execOp
  simp only [ho, hty, resolve, invoke, builtin, Sem.run_bind, Sem.run_pure, Result.andThen_ok, List.map_toArray, List.map_cons, List.map_nil, hs, hx, hrun]
  exact hK'
end Go.Proofs.YtmemoopkgjgmiaaGreatDoor

/- IndexFinds: which blocks are in, which are out; what its calls answer. -/
namespace Go.Proofs.YtmemoopkgjgmiaaGreatDoor
set_option linter.unusedVariables false
set_option linter.unusedSimpArgs false
open Go.RowKit

/-- A block of a list lies at x. -/
structure KB (L : Nat → Prop) (E : Nat → HB) (B : Nat → List Nat) (b : RB) (x : Nat) : Prop where
  at_ : b.at_ = x
  l : L x
  e : E x = rbX b.nd b.nm b.ty b.lab.length b.hs
  lb : B x = b.lab
  ok : b.Ok
  fw : b.few = true
section
variable {w0 W W' : World} {q : MH} {I O : List RB} {b : RB} {u v : TM} {L : Nat → Prop} {E : Nat → HB} {B : Nat → List Nat}
theorem KB.old {x y : Nat} {X : HB} {l : List Nat} (h : KB L E B b x) (hy : ¬ L y) : KB (fun z => z = y ∨ L z) (up E y X) (up B y l) b x := by
  have hne : x ≠ y := fun e => hy (e ▸ h.l)
  exact ⟨h.at_, .inr h.l, by rw [up_ne _ _ hne]; exact h.e, by rw [up_ne _ _ hne]; exact h.lb, h.ok, h.fw⟩
end
end Go.Proofs.YtmemoopkgjgmiaaGreatDoor
