/- Several texts in one. -/
import Derived.Test.YtmemoopkgjgmiaaGreatDoorKF
import Derived.Test.YtmemoopkgjgmiaaGreatDoorKT
import Derived.ScopeJumps
import Derived.WalkMore
import Derived.Test.YtmemoopkgjgmiaaGreatDoorGI
import Derived.Test.YtmemoopkgjgmiaaGreatDoorKB
import Derived.Test.YtmemoopkgjgmiaaGreatDoorGA
import Derived.Laws.IdiomStrings
/- Package index: find for Entry. -/
namespace Go.Proofs.YtmemoopkgjgmiaaGreatDoor
set_option linter.unusedVariables false
set_option linter.unusedSimpArgs false
open Go.RowKit

/-- What Entry asks of a block. -/
def isEn (E : Nat → HB) (name typ hs : Nat) (z : Nat) : Bool := (E z).tag == 1 && (E z).name == name && (E z).typ == typ && (E z).hash == hs
section
variable {w : World} {q : MH} {t : TM} {x : Nat} {X : HB} {L : Nat → Prop} {E : Nat → HB}
set_option maxRecDepth 1000000 in
set_option maxHeartbeats 4000000 in
theorem ifindE (h : IsH w q t) (g : IxI t L E) (P : Nat → Bool) (hs bA bB bC bD : Nat) (hh : hs < 4294967296) (hIS : ∀ W, IsH W q t → Fr q.blocks w W → ∀ y, L y → Calls Tryz.prog 187 #[.int .i64 y, .pointer (some ⟨bA, 0, none⟩), .pointer (some ⟨bB, 0, none⟩), .pointer (some ⟨bC, 0, none⟩), .pointer (some ⟨bD, 0, none⟩)] W fun e w' => e = .returned (.bool (P y)) ∧ IsH w' q t ∧ Fr q.blocks W w') : Calls Tryz.prog 196 #[.agg #[.pointer (some ⟨q.m, 0, none⟩), .int .i64 t.s], .agg #[.int .u32 hs, .func (.func 187) #[] #[.pointer (some ⟨bA, 0, none⟩), .pointer (some ⟨bB, 0, none⟩), .pointer (some ⟨bC, 0, none⟩), .pointer (some ⟨bD, 0, none⟩)]]] w fun e w' => e = .returned (.int .i64 (optZ (fndT t.sl (hmE t E) t.s (hs % t.s) P))) ∧ IsH w' q t ∧ Fr q.blocks w w' := by
  have b0 : ((t.s : Int) == 0) = false := by have := g.s0; rw [beq_eq_false_iff_ne]; omega
  have b0' : (t.s == 0) = false := by have := g.s0; rw [beq_eq_false_iff_ne]; omega
  have hs1 := g.s1
  have hml : hs % t.s < t.s := Nat.mod_lt _ g.s0
  have HM := Lib.hid (fun W => ihome0 W hs t.s hh g.s0 (by have := g.s1; omega))
  have HE := Lib.hid (fun W k (hk : k < t.s) (hW : IsH W q t) => (show Calls Tryz.prog 107 #[.agg #[.pointer (some ⟨q.m, 0, none⟩), .int .i64 t.s], .int .i64 (hs % t.s + k : Nat), .int .i64 k] W fun e w' => e = .returned (.bool (endB t.sl (hmE t E) t.s (hs % t.s + k) k)) ∧ IsH w' q t ∧ Fr q.blocks W w' from iended hW g (hs % t.s + k) k (by omega)))
  have HG := Lib.hid (fun W k (hk : k < t.s) (hW : IsH W q t) => (show Calls Tryz.prog 99 #[.agg #[.pointer (some ⟨q.m, 0, none⟩), .int .i64 t.s], .int .i64 (hs % t.s + k : Nat)] W fun e w' => e = .returned (.int .i64 (t.sl ((hs % t.s + k) % t.s))) ∧ IsH w' q t ∧ Fr q.blocks W w' from
    (iget hW.m _ (by omega) g.s0).mono fun e w' ⟨he, k1, k2⟩ => ⟨he, hW.step k1 k2, k2⟩))
  have HO := Lib.hid (fun W k (hk : k < t.s) => (show Calls Tryz.prog 199 #[.agg #[.pointer (some ⟨q.m, 0, none⟩), .int .i64 t.s], .int .i64 (hs % t.s + k : Nat)] W fun e w' => e = .returned (.int .i64 ((hs % t.s + k) % t.s : Nat)) ∧ Fr [] W w' from iround W q.m t.s _ g.s0 (by omega)))
  have HIS := Lib.hid hIS
  have HLV := Lib.hid (show ∀ i j, endB t.sl (hmE t E) t.s i j = false → L (t.sl (i % t.s)) from fun i j e => by
    unfold endB at e
    by_cases h0 : t.sl (i % t.s) = 0
    · rw [if_pos h0] at e; exact nomatch e
    · exact (g.sl _ (Nat.mod_lt _ g.s0)).resolve_left h0)
  have H0 := Lib.hid ((h.alloc (.cells #[.pointer (some ⟨q.m, 0, none⟩), .int .i64 t.s] 146)).alloc (.cells #[.int .u32 hs, .func (.func 187) #[] #[.pointer (some ⟨bA, 0, none⟩), .pointer (some ⟨bB, 0, none⟩), .pointer (some ⟨bC, 0, none⟩), .pointer (some ⟨bD, 0, none⟩)]] 243))
  have F0 := Lib.hid (((Fr.refl q.blocks w).alloc (.cells #[.pointer (some ⟨q.m, 0, none⟩), .int .i64 t.s] 146)).alloc (.cells #[.int .u32 hs, .func (.func 187) #[] #[.pointer (some ⟨bA, 0, none⟩), .pointer (some ⟨bB, 0, none⟩), .pointer (some ⟨bC, 0, none⟩), .pointer (some ⟨bD, 0, none⟩)]] 243))
  have B0 := Lib.hid ((Blk.new w 146 #[.pointer (some ⟨q.m, 0, none⟩), .int .i64 t.s]).alloc (.cells #[.int .u32 hs, .func (.func 187) #[] #[.pointer (some ⟨bA, 0, none⟩), .pointer (some ⟨bB, 0, none⟩), .pointer (some ⟨bC, 0, none⟩), .pointer (some ⟨bD, 0, none⟩)]] 243))
  have hb1 := Blk.new (w.alloc (.cells #[.pointer (some ⟨q.m, 0, none⟩), .int .i64 t.s] 146)) 243 #[.int .u32 hs, .func (.func 187) #[] #[.pointer (some ⟨bA, 0, none⟩), .pointer (some ⟨bB, 0, none⟩), .pointer (some ⟨bC, 0, none⟩), .pointer (some ⟨bD, 0, none⟩)]]
  rw [World.size_alloc] at hb1
  have B1 := Lib.hid hb1
  have hlt := h.m.lt
  have nb : w.heap.size ∉ q.blocks := fun hm => by have := hlt _ hm; omega
  have nb1 : w.heap.size + 1 ∉ q.blocks := fun hm => by have := hlt _ hm; omega
  obtain ⟨W0, hW0⟩ : ∃ W0, (w.alloc (.cells #[.pointer (some ⟨q.m, 0, none⟩), .int .i64 t.s] 146)).alloc (.cells #[.int .u32 hs, .func (.func 187) #[] #[.pointer (some ⟨bA, 0, none⟩), .pointer (some ⟨bB, 0, none⟩), .pointer (some ⟨bC, 0, none⟩), .pointer (some ⟨bD, 0, none⟩)]] 243) = W0 := ⟨_, rfl⟩
  have HW0 := Lib.hid hW0
  rw [hW0] at H0 F0 B0 B1
  have DC := Lib.hid (fun V (hV : Fr q.blocks W0 V) => And.intro (show V.cell? ⟨w.heap.size, 0, none⟩ = some (.pointer (some ⟨q.m, 0, none⟩)) from (B0.out.fr hV nb).cell 0) (And.intro (show V.cell? ⟨w.heap.size, 1, none⟩ = some (.int .i64 t.s) from (B0.out.fr hV nb).cell 1) (And.intro (show V.cell? ⟨w.heap.size + 1, 0, none⟩ = some (.int .u32 hs) from (B1.out.fr hV nb1).cell 0) (show V.cell? ⟨w.heap.size + 1, 1, none⟩ = some (.func (.func 187) #[] #[.pointer (some ⟨bA, 0, none⟩), .pointer (some ⟨bB, 0, none⟩), .pointer (some ⟨bC, 0, none⟩), .pointer (some ⟨bD, 0, none⟩)]) from (B1.out.fr hV nb1).cell 1))))
  obtain ⟨R, hR⟩ : ∃ R, fndT t.sl (hmE t E) t.s (hs % t.s) P = R := ⟨_, rfl⟩
  rw [hR]
  have HR := Lib.hid (show fndS t.sl (hmE t E) t.s (hs % t.s) P (t.s - 0) 0 = R from hR)
  have HUN := Lib.hid (show ∀ k, k < t.s → fndS t.sl (hmE t E) t.s (hs % t.s) P (t.s - k) k = if endB t.sl (hmE t E) t.s (hs % t.s + k) k = true then none else if P (t.sl ((hs % t.s + k) % t.s)) = true then some ((hs % t.s + k) % t.s) else fndS t.sl (hmE t E) t.s (hs % t.s) P (t.s - (k + 1)) (k + 1) from fun k hk => by
    rw [show t.s - k = (t.s - (k + 1)) + 1 by omega, fndS])
  have HZ := Lib.hid (show fndS t.sl (hmE t E) t.s (hs % t.s) P (t.s - t.s) t.s = none from by rw [Nat.sub_self]; rfl)
  generalize hF9 : fndS t.sl (hmE t E) t.s (hs % t.s) P = FS at *
  generalize hsl : t.sl = T at *
  generalize hmE t E = H at *
  generalize hsz : t.s = s at *
  generalize hs % s = hm at *
  clear h hlt g hR hsl hF9 hb1 hh hIS
  go_enter Tryz.func196, Tryz.ntmps196
  go_wp2_with fail
  try rw [hW0]
  clear hsz hW0
  have d0 := (DC.out _ (Fr.refl _ _)).1
  have d1 := (DC.out _ (Fr.refl _ _)).2.1
  have d2 := (DC.out _ (Fr.refl _ _)).2.2.1
  have d3 := (DC.out _ (Fr.refl _ _)).2.2.2
  refine wp_scope_jumps 0 (fun a' w' => ∃ (k : Nat) (u7 u8 u9 u10 u11 u12 u13 u14 u15 u16 u17 u18 u19 u20 u21 u22 u23 u24 u25 u26 u27 u28 u29 u30 u31 u32 u33 u34 u35 u36 u37 u38 u39 u40 u41 : Value), a' = { tmps := #[.agg #[.pointer (some ⟨q.m, 0, none⟩), .int .i64 s], .agg #[.int .u32 hs, .func (.func 187) #[] #[.pointer (some ⟨bA, 0, none⟩), .pointer (some ⟨bB, 0, none⟩), .pointer (some ⟨bC, 0, none⟩), .pointer (some ⟨bD, 0, none⟩)]], .pointer (some ⟨w.heap.size, 0, none⟩), .pointer (some ⟨w.heap.size + 1, 0, none⟩), .int .i64 0, .int .i64 hm, .int .i64 k, u7, u8, u9, u10, u11, u12, u13, u14, u15, u16, u17, u18, u19, u20, u21, u22, u23, u24, u25, u26, u27, u28, u29, u30, u31, u32, u33, u34, u35, u36, u37, u38, u39, u40, u41], defers := [] } ∧ k ≤ s ∧ Hid (FS (s - k) k = R) ∧ Hid (IsH w' q t) ∧ Hid (Fr q.blocks W0 w')) (fun a' _ => s - (intOf (a'.tmps.getD 6 undef)).toNat) rfl ?_ ?_
  · go_wp2_with fail
    with_reducible refine (HM.out _).mono ?_
    rintro e w1 ⟨rfl, f1⟩
    have hI := Lib.hid (H0.out.fr0 f1)
    have hF := Lib.hid (f1.nil (S := q.blocks))
    have d0 := (DC.out _ hF.out).1
    have d1 := (DC.out _ hF.out).2.1
    have d2 := (DC.out _ hF.out).2.2.1
    have d3 := (DC.out _ hF.out).2.2.2
    have hlt : 0 < s := by omega
    have b1 : ((0 : Int) == s) = false := by rw [beq_eq_false_iff_ne]; omega
    have b1' : (0 == s) = false := by rw [beq_eq_false_iff_ne]; omega
    have wq1 : IntKind.i64.wrap (hm : Int) = hm := IntWalk.i64_in _ (by omega)
    have he := (show Calls Tryz.prog 107 #[.agg #[.pointer (some ⟨q.m, 0, none⟩), .int .i64 s], .int .i64 hm, .int .i64 0] w1 fun e w' => e = .returned (.bool (endB T H s hm 0)) ∧ IsH w' q t ∧ Fr q.blocks w1 w' from HE.out w1 0 hlt hI.out)
    have hg := Lib.hid (fun W hW => (show Calls Tryz.prog 99 #[.agg #[.pointer (some ⟨q.m, 0, none⟩), .int .i64 s], .int .i64 hm] W fun e w' => e = .returned (.int .i64 (T (hm % s))) ∧ IsH w' q t ∧ Fr q.blocks W w' from HG.out W 0 hlt hW))
    have ho := Lib.hid (fun W => (show Calls Tryz.prog 199 #[.agg #[.pointer (some ⟨q.m, 0, none⟩), .int .i64 s], .int .i64 hm] W fun e w' => e = .returned (.int .i64 (hm % s : Nat)) ∧ Fr [] W w' from HO.out W 0 hlt))
    have hu := HUN.out 0 hlt
    rw [HR.out] at hu
    simp only [Nat.add_zero] at hu
    clear f1 HM
    have hLV : endB T H s hm 0 = false → L (T (hm % s)) := HLV.out hm 0
    generalize endB T H s hm 0 = ev at *
    generalize T (hm % s) = v at *
    generalize hm % s = rk at *
    have HU := Lib.hid hu
    clear hu
    go_wp2_with fail
    go_step3
    go_wp2_with fail
    with_reducible refine he.mono ?_
    rintro e w2 ⟨rfl, h2, f2⟩
    have H2 := Lib.hid h2
    have F2 := Lib.hid (hF.out.trans f2)
    have d0 := (DC.out _ F2.out).1
    have d1 := (DC.out _ F2.out).2.1
    have d2 := (DC.out _ F2.out).2.2.1
    have d3 := (DC.out _ F2.out).2.2.2
    clear h2 f2 he
    rcases ev with _ | _
    · have HLv := Lib.hid (hLV (by first | exact rfl | trivial))
      have H2d := Lib.hid H2.out.drew
      have hY := And.intro (DC.out _ F2.out.drew).1 (And.intro (DC.out _ F2.out.drew).2.1 (DC.out _ F2.out.drew).2.2.2)
      go_wp2_with fail
      refine wp_region_held_drew (S := fun W => W.cell? ⟨w.heap.size, 0, none⟩ = some (.pointer (some ⟨q.m, 0, none⟩)) ∧ W.cell? ⟨w.heap.size, 1, none⟩ = some (.int .i64 s) ∧ W.cell? ⟨w.heap.size + 1, 1, none⟩ = some (.func (.func 187) #[] #[.pointer (some ⟨bA, 0, none⟩), .pointer (some ⟨bB, 0, none⟩), .pointer (some ⟨bC, 0, none⟩), .pointer (some ⟨bD, 0, none⟩)])) (by kernel_rfl) (hY) (fun yH => ?_)
      refine tkY 0 yH (h := ?_)
      refine tkY 1 yH (h := ?_)
      refine tkY 2 yH (h := ?_)
      refine tkY 3 yH (h := ?_)
      refine tkY 4 yH (h := ?_)
      refine tkY 5 yH (h := ?_)
      refine wpAnyH_ready (rs := [6]) (by kernel_rfl) (by simp) ?_
      refine AllReadyH.cons (o := ?oofa6) ?hifa6 (fun K hK => ?hcfa6) AllReadyH.nil
      case hifa6 => (simp only [List.getElem?_toArray, List.getElem?_cons_zero, List.getElem?_cons_succ]; rfl)
      go_simp
      with_reducible refine (hg.out _ H2d.out).mono ?_
      rintro e w4 ⟨rfl, h4, f4⟩
      have H4 := Lib.hid h4
      have F4 := Lib.hid (F2.out.drew.trans f4)
      have hY := And.intro (DC.out _ F4.out).1 (And.intro (DC.out _ F4.out).2.1 (DC.out _ F4.out).2.2.2)
      clear h4 f4
      go_wp2_with fail
      refine hK.out _ _ (hY) (fun yH => ?_)
      clear hK K
      try simp only [Act.put, List.setIfInBounds_toArray, List.set_cons_zero, List.set_cons_succ]
      refine wpAnyH_ready (rs := [7]) (by kernel_rfl) (by simp) ?_
      refine AllReadyH.cons (o := ?oofa7) ?hifa7 (fun K hK => ?hcfa7) AllReadyH.nil
      case hifa7 => (simp only [List.getElem?_toArray, List.getElem?_cons_zero, List.getElem?_cons_succ]; rfl)
      go_simp
      with_reducible refine (HIS.out _ H4.out (F0.out.trans F4.out) _ HLv.out).mono ?_
      rintro e w5 ⟨rfl, h5, f5⟩
      have H5 := Lib.hid h5
      have F5 := Lib.hid (F4.out.trans f5)
      have hY := And.intro (DC.out _ F5.out).1 (And.intro (DC.out _ F5.out).2.1 (DC.out _ F5.out).2.2.2)
      clear h5 f5
      go_wp2_with fail
      refine hK.out _ _ (hY) (fun yH => ?_)
      clear hK K
      try simp only [Act.put, List.setIfInBounds_toArray, List.set_cons_zero, List.set_cons_succ]
      refine wpAnyH_done (by kernel_rfl) ?_ _
      try simp only [Act.put, List.getElem_toArray, List.getElem_cons_zero, List.getElem_cons_succ, List.setIfInBounds_toArray, List.set_cons_zero, List.set_cons_succ]
      have d0 := (DC.out _ F5.out).1
      have d1 := (DC.out _ F5.out).2.1
      obtain ⟨c, hc⟩ : ∃ c : Bool, P v = c := ⟨_, rfl⟩
      rw [hc]
      rw [hc] at HU
      clear hY
      rcases c with _ | _
      · have HN := Lib.hid (show FS (s - 1) 1 = R from by have := HU.out; simpa using this.symm)
        go_wp2_with fail
        go_step3
        refine ⟨rfl, 1, _, _, _, _, _, _, _, _, _, _, _, _, _, _, _, _, _, _, _, _, _, _, _, _, _, _, _, _, _, _, _, _, _, _, _, by first | rfl | (congr 1; go_num), by omega, HN, H5, F5⟩
      · have HRR := Lib.hid (show (rk : Int) = optZ R from by have := HU.out; simp at this; rw [this]; rfl)
        go_wp2_with fail
        with_reducible refine (ho.out _).mono ?_
        rintro e w6 ⟨rfl, f6⟩
        have H6 := Lib.hid (H5.out.fr0 f6)
        have F6 := Lib.hid (F5.out.trans f6.nil)
        clear f6
        go_wp2_with fail
        try simp only [Exit.jump]
        go_ret
        exact ⟨by rw [← HRR.out]; rfl, H6.out, F0.out.trans F6.out⟩
    · have HRR := Lib.hid (show (-1 : Int) = optZ R from by have := HU.out; simp at this; rw [this]; rfl)
      go_wp2_with fail
      try simp only [Exit.jump]
      go_ret
      exact ⟨by rw [← HRR.out]; rfl, H2.out, F0.out.trans F2.out⟩
  · rintro a' w' ⟨k, u7, u8, u9, u10, u11, u12, u13, u14, u15, u16, u17, u18, u19, u20, u21, u22, u23, u24, u25, u26, u27, u28, u29, u30, u31, u32, u33, u34, u35, u36, u37, u38, u39, u40, u41, rfl, hks, hRk, hI, hF⟩
    have d0 := (DC.out _ hF.out).1
    have d1 := (DC.out _ hF.out).2.1
    have d2 := (DC.out _ hF.out).2.2.1
    have d3 := (DC.out _ hF.out).2.2.2
    by_cases hlt : k < s
    · have b1 : ((k : Int) == s) = false := by rw [beq_eq_false_iff_ne]; omega
      have b1' : (k == s) = false := by rw [beq_eq_false_iff_ne]; omega
      have w1 : IntKind.i64.wrap ((hm : Int) + k) = (hm + k : Nat) := by rw [IntWalk.i64_in _ (by omega)]; omega
      have w3 : IntKind.i64.wrap ((k : Int) + 1) = (k : Int) + 1 := IntWalk.i64_in _ (by omega)
      have he := HE.out _ k hlt hI.out
      have hg := Lib.hid (fun W hW => HG.out W k hlt hW)
      have ho := Lib.hid (fun W => HO.out W k hlt)
      have hu := HUN.out k hlt
      rw [hRk.out] at hu
      generalize hm + k = ak at *
      have hLV : endB T H s ak k = false → L (T (ak % s)) := HLV.out ak k
      generalize endB T H s ak k = ev at *
      generalize T (ak % s) = v at *
      generalize ak % s = rk at *
      have HU := Lib.hid hu
      clear hu
      go_wp2_with fail
      with_reducible refine he.mono ?_
      rintro e w2 ⟨rfl, h2, f2⟩
      have H2 := Lib.hid h2
      have F2 := Lib.hid (hF.out.trans f2)
      have d0 := (DC.out _ F2.out).1
      have d1 := (DC.out _ F2.out).2.1
      have d2 := (DC.out _ F2.out).2.2.1
      have d3 := (DC.out _ F2.out).2.2.2
      clear h2 f2 he
      rcases ev with _ | _
      · have HLv := Lib.hid (hLV (by first | exact rfl | trivial))
        have H2d := Lib.hid H2.out.drew
        have hY := And.intro (DC.out _ F2.out.drew).1 (And.intro (DC.out _ F2.out.drew).2.1 (DC.out _ F2.out.drew).2.2.2)
        go_wp2_with fail
        refine wp_region_held_drew (S := fun W => W.cell? ⟨w.heap.size, 0, none⟩ = some (.pointer (some ⟨q.m, 0, none⟩)) ∧ W.cell? ⟨w.heap.size, 1, none⟩ = some (.int .i64 s) ∧ W.cell? ⟨w.heap.size + 1, 1, none⟩ = some (.func (.func 187) #[] #[.pointer (some ⟨bA, 0, none⟩), .pointer (some ⟨bB, 0, none⟩), .pointer (some ⟨bC, 0, none⟩), .pointer (some ⟨bD, 0, none⟩)])) (by kernel_rfl) (hY) (fun yH => ?_)
        refine tkY 0 yH (h := ?_)
        refine tkY 1 yH (h := ?_)
        refine tkY 2 yH (h := ?_)
        refine tkY 3 yH (h := ?_)
        refine tkY 4 yH (h := ?_)
        refine tkY 5 yH (h := ?_)
        refine wpAnyH_ready (rs := [6]) (by kernel_rfl) (by simp) ?_
        refine AllReadyH.cons (o := ?oofb6) ?hifb6 (fun K hK => ?hcfb6) AllReadyH.nil
        case hifb6 => (simp only [List.getElem?_toArray, List.getElem?_cons_zero, List.getElem?_cons_succ]; rfl)
        go_simp
        with_reducible refine (hg.out _ H2d.out).mono ?_
        rintro e w4 ⟨rfl, h4, f4⟩
        have H4 := Lib.hid h4
        have F4 := Lib.hid (F2.out.drew.trans f4)
        have hY := And.intro (DC.out _ F4.out).1 (And.intro (DC.out _ F4.out).2.1 (DC.out _ F4.out).2.2.2)
        clear h4 f4
        go_wp2_with fail
        refine hK.out _ _ (hY) (fun yH => ?_)
        clear hK K
        try simp only [Act.put, List.setIfInBounds_toArray, List.set_cons_zero, List.set_cons_succ]
        refine wpAnyH_ready (rs := [7]) (by kernel_rfl) (by simp) ?_
        refine AllReadyH.cons (o := ?oofb7) ?hifb7 (fun K hK => ?hcfb7) AllReadyH.nil
        case hifb7 => (simp only [List.getElem?_toArray, List.getElem?_cons_zero, List.getElem?_cons_succ]; rfl)
        go_simp
        with_reducible refine (HIS.out _ H4.out (F0.out.trans F4.out) _ HLv.out).mono ?_
        rintro e w5 ⟨rfl, h5, f5⟩
        have H5 := Lib.hid h5
        have F5 := Lib.hid (F4.out.trans f5)
        have hY := And.intro (DC.out _ F5.out).1 (And.intro (DC.out _ F5.out).2.1 (DC.out _ F5.out).2.2.2)
        clear h5 f5
        go_wp2_with fail
        refine hK.out _ _ (hY) (fun yH => ?_)
        clear hK K
        try simp only [Act.put, List.setIfInBounds_toArray, List.set_cons_zero, List.set_cons_succ]
        refine wpAnyH_done (by kernel_rfl) ?_ _
        try simp only [Act.put, List.getElem_toArray, List.getElem_cons_zero, List.getElem_cons_succ, List.setIfInBounds_toArray, List.set_cons_zero, List.set_cons_succ]
        have d0 := (DC.out _ F5.out).1
        have d1 := (DC.out _ F5.out).2.1
        obtain ⟨c, hc⟩ : ∃ c : Bool, P v = c := ⟨_, rfl⟩
        rw [hc]
        rw [hc] at HU
        clear hY
        rcases c with _ | _
        · have HN := Lib.hid (show FS (s - (k + 1)) (k + 1) = R from by have := HU.out; simpa using this.symm)
          go_wp2_with fail
          go_step3
          refine ⟨rfl, ⟨k + 1, _, _, _, _, _, _, _, _, _, _, _, _, _, _, _, _, _, _, _, _, _, _, _, _, _, _, _, _, _, _, _, _, _, _, _, by first | rfl | (congr 1; go_num), by omega, HN, H5, F5⟩, by simp [intOf]; omega⟩
        · have HRR := Lib.hid (show (rk : Int) = optZ R from by have := HU.out; simp at this; rw [this]; rfl)
          go_wp2_with fail
          with_reducible refine (ho.out _).mono ?_
          rintro e w6 ⟨rfl, f6⟩
          have H6 := Lib.hid (H5.out.fr0 f6)
          have F6 := Lib.hid (F5.out.trans f6.nil)
          clear f6
          go_wp2_with fail
          try simp only [Exit.jump]
          go_ret
          exact ⟨by rw [← HRR.out]; rfl, H6.out, F0.out.trans F6.out⟩
      · have HRR := Lib.hid (show (-1 : Int) = optZ R from by have := HU.out; simp at this; rw [this]; rfl)
        go_wp2_with fail
        try simp only [Exit.jump]
        go_ret
        exact ⟨by rw [← HRR.out]; rfl, H2.out, F0.out.trans F2.out⟩
    · obtain rfl : k = s := by omega
      have b1 : ((k : Int) == k) = true := by simp
      have HRR := Lib.hid (show (-1 : Int) = optZ R from by have := hRk.out; rw [HZ.out] at this; rw [← this]; rfl)
      go_wp2_with fail
      try simp only [Exit.jump]
      go_ret
      exact ⟨by rw [← HRR.out]; rfl, hI.out, F0.out.trans hF.out⟩
end
end Go.Proofs.YtmemoopkgjgmiaaGreatDoor


/- Package index: what Entry asks; found; Entry. -/
namespace Go.Proofs.YtmemoopkgjgmiaaGreatDoor
set_option linter.unusedVariables false
set_option linter.unusedSimpArgs false
open Go.RowKit

section
variable {w : World} {q : MH} {t : TM} {x : Nat} {X : HB} {L : Nat → Prop} {E : Nat → HB}
theorem ientry1 (h : IsH w q t) (hx : BlkE t x X) (name typ hs bA bB bC bD : Nat) (cA : w.cell? ⟨bA, 0, none⟩ = some (.pointer (some ⟨q.m, 0, none⟩))) (nB : bB ∉ q.blocks) (nC : bC ∉ q.blocks) (nD : bD ∉ q.blocks)
    (kB : Blk w bB 30 #[.int .u32 name]) (kC : Blk w bC 31 #[.int .u16 typ]) (kD : Blk w bD 30 #[.int .u32 hs]) :
    Calls Tryz.prog 187 #[.int .i64 x, .pointer (some ⟨bA, 0, none⟩), .pointer (some ⟨bB, 0, none⟩), .pointer (some ⟨bC, 0, none⟩), .pointer (some ⟨bD, 0, none⟩)] w fun e w' => e = .returned (.bool (X.tag == 1 && X.name == name && X.typ == typ && X.hash == hs)) ∧ IsH w' q t ∧ Fr q.blocks w w' := by
  have HG := Lib.hid (fun W (hW : IsH W q t) => (show Calls Tryz.prog 188 #[.pointer (some ⟨q.m, 0, none⟩), .int .i64 x] W fun e w' => e = .returned (.tuple #[.agg #[.int .i64 X.tag, .int .i64 X.cls, .bool X.used, .int .i64 X.label, .int .u32 X.name, .int .u32 X.next, .int .u32 X.prev, .int .u32 X.refs, .int .u64 X.expiry, .int .u16 X.typ, .int .i64 X.size, .int .u32 X.hash], .int .i64 0]) ∧ IsH w' q t ∧ Fr q.blocks W w' from
    hget W q t hW x X.tag.toNat 5 X hx.h hx.ok hx.r (by rcases hx.tg with e | e <;> rw [e] <;> rfl) hx.lies (.inl rfl)))
  have H0 := Lib.hid h
  have KB := Lib.hid kB
  have KC := Lib.hid kC
  have KD := Lib.hid kD
  obtain ⟨tag, cls, used, label, nm, next, prev, refs, expiry, ty, size, hash⟩ := X
  simp only at HG ⊢
  obtain ⟨b1, h1⟩ : ∃ b : Bool, (tag == 1) = b := ⟨_, rfl⟩
  obtain ⟨b2, h2⟩ : ∃ b : Bool, (nm == name) = b := ⟨_, rfl⟩
  obtain ⟨b3, h3⟩ : ∃ b : Bool, (ty == typ) = b := ⟨_, rfl⟩
  obtain ⟨b4, h4⟩ : ∃ b : Bool, (hash == hs) = b := ⟨_, rfl⟩
  have e2 : ((nm : Int) == name) = b2 := by rw [← h2, Bool.eq_iff_iff, beq_iff_eq, beq_iff_eq]; omega
  have e3 : ((ty : Int) == typ) = b3 := by rw [← h3, Bool.eq_iff_iff, beq_iff_eq, beq_iff_eq]; omega
  have e4 : ((hash : Int) == hs) = b4 := by rw [← h4, Bool.eq_iff_iff, beq_iff_eq, beq_iff_eq]; omega
  have HB := Lib.hid (show (tag == 1 && nm == name && ty == typ && hash == hs) = (b1 && b2 && b3 && b4) from by rw [h1, h2, h3, h4])
  rw [h1, h2, h3, h4]
  clear h hx kB kC kD h2 h3 h4
  go_enter Tryz.func187, Tryz.ntmps187
  go_wp2_with fail
  with_reducible refine (HG.out _ H0.out).mono ?_
  rintro e w1 ⟨rfl, k1, f1⟩
  have K1 := Lib.hid k1
  have F1 := Lib.hid f1
  have cB := (KB.out.fr f1 nB).alloc (.cells #[.int .i64 tag, .int .i64 cls, .bool used, .int .i64 label, .int .u32 nm, .int .u32 next, .int .u32 prev, .int .u32 refs, .int .u64 expiry, .int .u16 ty, .int .i64 size, .int .u32 hash] 168)
  have cC := (KC.out.fr f1 nC).alloc (.cells #[.int .i64 tag, .int .i64 cls, .bool used, .int .i64 label, .int .u32 nm, .int .u32 next, .int .u32 prev, .int .u32 refs, .int .u64 expiry, .int .u16 ty, .int .i64 size, .int .u32 hash] 168)
  have cD := (KD.out.fr f1 nD).alloc (.cells #[.int .i64 tag, .int .i64 cls, .bool used, .int .i64 label, .int .u32 nm, .int .u32 next, .int .u32 prev, .int .u32 refs, .int .u64 expiry, .int .u16 ty, .int .i64 size, .int .u32 hash] 168)
  have d2 := cB.cell 0
  have d3 := cC.cell 0
  have d4 := cD.cell 0
  simp only [List.getElem?_toArray, List.getElem?_cons_zero] at d2 d3 d4
  clear k1 f1 cB cC cD HG
  rcases b1 with _ | _ <;> rcases b2 with _ | _ <;> rcases b3 with _ | _ <;> rcases b4 with _ | _
  all_goals
    go_wp2_with fail
    go_ret
    exact ⟨rfl, K1.out.alloc _, F1.out.alloc _⟩
theorem fndS_lt {T H : Nat → Nat} {n h0 : Nat} {P : Nat → Bool} (hn : 0 < n) : ∀ f k i, fndS T H n h0 P f k = some i → i < n
  | 0, k, i, h => nomatch h
  | f + 1, k, i, h => by
    unfold fndS at h
    split at h
    · exact nomatch h
    · split at h
      · injection h with h
        rw [← h]
        exact Nat.mod_lt _ hn
      · exact fndS_lt hn f (k + 1) i h
theorem ifoundE (h : IsH w q t) (g : IxI t L E) (P : Nat → Bool) (hs bA bB bC bD : Nat) (hh : hs < 4294967296) (hIS : ∀ W, IsH W q t → Fr q.blocks w W → ∀ y, L y → Calls Tryz.prog 187 #[.int .i64 y, .pointer (some ⟨bA, 0, none⟩), .pointer (some ⟨bB, 0, none⟩), .pointer (some ⟨bC, 0, none⟩), .pointer (some ⟨bD, 0, none⟩)] W fun e w' => e = .returned (.bool (P y)) ∧ IsH w' q t ∧ Fr q.blocks W w') :
    Calls Tryz.prog 186 #[.agg #[.pointer (some ⟨q.m, 0, none⟩), .int .i64 t.s], .agg #[.int .u32 hs, .func (.func 187) #[] #[.pointer (some ⟨bA, 0, none⟩), .pointer (some ⟨bB, 0, none⟩), .pointer (some ⟨bC, 0, none⟩), .pointer (some ⟨bD, 0, none⟩)]]] w fun e w' => e = .returned (match fndT t.sl (hmE t E) t.s (hs % t.s) P with | some i => .tuple #[.int .i64 (t.sl i), .bool true] | none => .tuple #[.int .i64 0, .bool false]) ∧ IsH w' q t ∧ Fr q.blocks w w' := by
  have hs0 := g.s0
  have hs1 := g.s1
  have hF0 : Fr q.blocks w ((w.alloc (.cells #[.pointer (some ⟨q.m, 0, none⟩), .int .i64 t.s] 146)).alloc (.cells #[.int .u32 hs, .func (.func 187) #[] #[.pointer (some ⟨bA, 0, none⟩), .pointer (some ⟨bB, 0, none⟩), .pointer (some ⟨bC, 0, none⟩), .pointer (some ⟨bD, 0, none⟩)]] 243)) := ((Fr.refl q.blocks w).alloc _).alloc _
  have H0 := (h.alloc (.cells #[.pointer (some ⟨q.m, 0, none⟩), .int .i64 t.s] 146)).alloc (.cells #[.int .u32 hs, .func (.func 187) #[] #[.pointer (some ⟨bA, 0, none⟩), .pointer (some ⟨bB, 0, none⟩), .pointer (some ⟨bC, 0, none⟩), .pointer (some ⟨bD, 0, none⟩)]] 243)
  have HF := Lib.hid (ifindE H0 g P hs bA bB bC bD hh (fun W hW hf y hy => hIS W hW (hF0.trans hf) y hy))
  have F0 := Lib.hid hF0
  have B0 := Lib.hid ((Blk.new w 146 #[.pointer (some ⟨q.m, 0, none⟩), .int .i64 t.s]).alloc (.cells #[.int .u32 hs, .func (.func 187) #[] #[.pointer (some ⟨bA, 0, none⟩), .pointer (some ⟨bB, 0, none⟩), .pointer (some ⟨bC, 0, none⟩), .pointer (some ⟨bD, 0, none⟩)]] 243))
  have hlt := h.m.lt
  have nb : w.heap.size ∉ q.blocks := fun hm => by have := hlt _ hm; omega
  have HGT := Lib.hid (fun W (i : Nat) (hi : i < t.s) (hW : IsH W q t) => (show Calls Tryz.prog 99 #[.agg #[.pointer (some ⟨q.m, 0, none⟩), .int .i64 t.s], .int .i64 i] W fun e w' => e = .returned (.int .i64 (t.sl i)) ∧ IsH w' q t ∧ Fr q.blocks W w' from by
    have := iget hW.m i (by omega) hs0
    rw [Nat.mod_eq_of_lt hi] at this
    exact this.mono fun e w' ⟨he, k1, k2⟩ => ⟨he, hW.step k1 k2, k2⟩))
  have hlt2 : ∀ i, fndT t.sl (hmE t E) t.s (hs % t.s) P = some i → i < t.s := fun i e => fndS_lt hs0 _ _ _ e
  generalize fndT t.sl (hmE t E) t.s (hs % t.s) P = R at *
  generalize t.sl = T at *
  generalize t.s = s at *
  clear h hF0 H0 hIS hlt g
  rcases R with _ | i
  · rw [show optZ none = -1 from rfl] at HF
    clear hlt2
    go_enter Tryz.func186, Tryz.ntmps186
    go_wp2_with fail
    with_reducible refine HF.out.mono ?_
    rintro e w1 ⟨rfl, k1, f1⟩
    have K1 := Lib.hid k1
    have F1 := Lib.hid (F0.out.trans f1)
    clear k1 f1
    go_wp2_with fail
    go_ret2
    exact ⟨rfl, K1.out, F1.out⟩
  · have hi := hlt2 i rfl
    rw [show optZ (some i) = i from rfl] at HF
    have hi0' : ((i : Int) == -1) = false := by rw [beq_eq_false_iff_ne]; omega
    have HG := Lib.hid (fun W hW => HGT.out W i hi hW)
    dsimp only
    generalize T i = v at *
    clear hlt2
    go_enter Tryz.func186, Tryz.ntmps186
    go_wp2_with fail
    with_reducible refine HF.out.mono ?_
    rintro e w1 ⟨rfl, k1, f1⟩
    have K1 := Lib.hid k1
    have F1 := Lib.hid (F0.out.trans f1)
    have hb := B0.out.fr f1 nb
    have d0 := hb.cell 0
    have d1 := hb.cell 1
    simp only [List.getElem?_toArray, List.getElem?_cons_zero, List.getElem?_cons_succ] at d0 d1
    clear k1 f1 hb
    go_wp2_with fail
    with_reducible refine (HG.out _ K1.out).mono ?_
    rintro e w2 ⟨rfl, k2, f2⟩
    have K2 := Lib.hid k2
    have F2 := Lib.hid (F1.out.trans f2)
    clear k2 f2
    go_wp2_with fail
    go_ret2
    exact ⟨rfl, K2.out, F2.out⟩
theorem ientry (h : IsH w q t) (g : IxI t L E) (name typ hs : Nat) (hn : name < 4294967296) (ht : typ < 65536) (hh : hs < 4294967296) :
    Calls Tryz.prog 91 #[.pointer (some ⟨q.m, 0, none⟩), .int .u32 name, .int .u16 typ, .int .u32 hs] w fun e w' => e = .returned (match fndT t.sl (hmE t E) t.s (hs % t.s) (isEn E name typ hs) with | some i => .tuple #[.int .i64 (t.sl i), .bool true] | none => .tuple #[.int .i64 0, .bool false]) ∧ IsH w' q t ∧ Fr q.blocks w w' := by
  obtain ⟨A0, hA0⟩ : ∃ A, A = w.alloc (.cells #[.pointer (some ⟨q.m, 0, none⟩)] 26) := ⟨_, rfl⟩
  obtain ⟨A1, hA1⟩ : ∃ A, A = A0.alloc (.cells #[.int .u32 name] 30) := ⟨_, rfl⟩
  obtain ⟨A2, hA2⟩ : ∃ A, A = A1.alloc (.cells #[.int .u16 typ] 31) := ⟨_, rfl⟩
  obtain ⟨A3, hA3⟩ : ∃ A, A = A2.alloc (.cells #[.int .u32 hs] 30) := ⟨_, rfl⟩
  have z0 : A0.heap.size = w.heap.size + 1 := by rw [hA0]; simp
  have z1 : A1.heap.size = w.heap.size + 1 + 1 := by rw [hA1]; simp [z0]
  have z2 : A2.heap.size = w.heap.size + 1 + 1 + 1 := by rw [hA2]; simp [z1]
  have kA : Blk A3 w.heap.size 26 #[.pointer (some ⟨q.m, 0, none⟩)] := by rw [hA3, hA2, hA1, hA0]; exact (((Blk.new w _ _).alloc _).alloc _).alloc _
  have kB : Blk A3 (w.heap.size + 1) 30 #[.int .u32 name] := by rw [hA3, hA2, hA1, ← z0]; exact ((Blk.new A0 _ _).alloc _).alloc _
  have kC : Blk A3 (w.heap.size + 1 + 1) 31 #[.int .u16 typ] := by rw [hA3, hA2, ← z1]; exact (Blk.new A1 _ _).alloc _
  have kD : Blk A3 (w.heap.size + 1 + 1 + 1) 30 #[.int .u32 hs] := by rw [hA3, ← z2]; exact Blk.new A2 _ _
  have fA : Fr q.blocks w A3 := by rw [hA3, hA2, hA1, hA0]; exact ((((Fr.refl _ w).alloc _).alloc _).alloc _).alloc _
  have hA : IsH A3 q t := by rw [hA3, hA2, hA1, hA0]; exact (((h.alloc _).alloc _).alloc _).alloc _
  have hlt := h.m.lt
  have nq : ∀ k, w.heap.size ≤ k → k ∉ q.blocks := fun k hk hm => by have := hlt _ hm; omega
  have HOF := Lib.hid (fun W (hW : IsH W q t) => (show Calls Tryz.prog 96 #[.pointer (some ⟨q.m, 0, none⟩)] W fun e w' => e = .returned (.agg #[.pointer (some ⟨q.m, 0, none⟩), .int .i64 t.s]) ∧ Fr [] W w' from iof hW.m))
  have HFO := Lib.hid (fun W (hW : IsH W q t) (hf : Fr q.blocks A3 W) => ifoundE hW g (isEn E name typ hs) hs w.heap.size (w.heap.size + 1) (w.heap.size + 1 + 1) (w.heap.size + 1 + 1 + 1) hh (fun V hV hf2 y hy => by
    have hF := hf.trans hf2
    have cA := (kA.fr hF (nq _ (by omega))).cell 0
    exact ientry1 hV (g.e y hy) name typ hs _ _ _ _ (by simpa using cA) (nq _ (by omega)) (nq _ (by omega)) (nq _ (by omega)) (kB.fr hF (nq _ (by omega))) (kC.fr hF (nq _ (by omega))) (kD.fr hF (nq _ (by omega)))))
  have DC := Lib.hid (fun V (hV : Fr q.blocks A3 V) => And.intro (show V.cell? ⟨w.heap.size, 0, none⟩ = some (.pointer (some ⟨q.m, 0, none⟩)) from (kA.fr hV (nq _ (by omega))).cell 0) (show V.cell? ⟨w.heap.size + 1 + 1 + 1, 0, none⟩ = some (.int .u32 hs) from (kD.fr hV (nq _ (by omega))).cell 0))
  have H0 := Lib.hid hA.drew
  have FA := Lib.hid fA
  have hY := DC.out _ (Fr.refl _ A3).drew
  have HA3 : ((((w.alloc (.cells #[.pointer (some ⟨q.m, 0, none⟩)] 26)).alloc (.cells #[.int .u32 name] 30)).alloc (.cells #[.int .u16 typ] 31)).alloc (.cells #[.int .u32 hs] 30)) = A3 := by rw [hA3, hA2, hA1, hA0]
  obtain ⟨RV, hRV⟩ : ∃ RV : Value × Value, (match fndT t.sl (hmE t E) t.s (hs % t.s) (isEn E name typ hs) with | some i => Value.tuple #[.int .i64 (t.sl i), .bool true] | none => .tuple #[.int .i64 0, .bool false]) = .tuple #[RV.1, RV.2] := by
    cases fndT t.sl (hmE t E) t.s (hs % t.s) (isEn E name typ hs) with
    | some i => exact ⟨(_, _), rfl⟩
    | none => exact ⟨(_, _), rfl⟩
  rw [hRV] at HFO ⊢
  obtain ⟨r1, r2⟩ := RV
  generalize t.s = s at *
  clear h g hA0 hA1 hA2 hA3 z0 z1 z2 kA kB kC kD fA hA hlt hRV
  go_enter Tryz.func91, Tryz.ntmps91
  go_wp2_with fail
  try rw [HA3]
  refine wp_region_held_drew (S := fun W => W.cell? ⟨w.heap.size, 0, none⟩ = some (.pointer (some ⟨q.m, 0, none⟩)) ∧ W.cell? ⟨w.heap.size + 1 + 1 + 1, 0, none⟩ = some (.int .u32 hs)) (by kernel_rfl) (hY) (fun yH => ?_)
  refine tkY 0 yH (h := ?_)
  refine tkY 2 yH (h := ?_)
  refine tkY 3 yH (h := ?_)
  refine tkY 4 yH (h := ?_)
  refine wpAnyH_ready (rs := [1]) (by kernel_rfl) (by simp) ?_
  refine AllReadyH.cons (o := ?ooa4) ?hia4 (fun K hK => ?hca4) AllReadyH.nil
  case hia4 => (simp only [List.getElem?_toArray, List.getElem?_cons_zero, List.getElem?_cons_succ]; rfl)
  go_simp
  with_reducible refine (HOF.out _ H0.out).mono ?_
  rintro e w1 ⟨rfl, f1⟩
  have K1 := Lib.hid (H0.out.fr0 f1)
  have F1 := Lib.hid ((Fr.refl q.blocks A3).drew.trans f1.nil)
  have hY := DC.out _ F1.out
  clear f1
  go_wp2_with fail
  refine hK.out _ _ (hY) (fun yH => ?_)
  clear hK K
  try simp only [Act.put, List.setIfInBounds_toArray, List.set_cons_zero, List.set_cons_succ]
  refine wpAnyH_ready (rs := [5]) (by kernel_rfl) (by simp) ?_
  refine AllReadyH.cons (o := ?ooa5) ?hia5 (fun K hK => ?hca5) AllReadyH.nil
  case hia5 => (simp only [List.getElem?_toArray, List.getElem?_cons_zero, List.getElem?_cons_succ]; rfl)
  go_simp
  with_reducible refine (HFO.out _ K1.out F1.out).mono ?_
  rintro e w2 ⟨rfl, k2, f2⟩
  have K2 := Lib.hid k2
  have F2 := Lib.hid (F1.out.trans f2)
  have hY := DC.out _ F2.out
  clear k2 f2
  go_wp2_with fail
  refine hK.out _ _ (hY) (fun yH => ?_)
  clear hK K
  try simp only [Act.put, List.setIfInBounds_toArray, List.set_cons_zero, List.set_cons_succ]
  refine tkY 6 yH (h := ?_)
  refine tkY 7 yH (h := ?_)
  refine tkY 8 yH (h := ?_)
  refine tkY 9 yH (h := ?_)
  refine wpAnyH_done (by kernel_rfl) ?_ _
  try simp only [Act.put, List.getElem_toArray, List.getElem_cons_zero, List.getElem_cons_succ, List.setIfInBounds_toArray, List.set_cons_zero, List.set_cons_succ]
  go_wp2_with fail
  go_ret2
  exact ⟨rfl, K2.out, FA.out.trans F2.out⟩
end
end Go.Proofs.YtmemoopkgjgmiaaGreatDoor

/- The index in plain words: deletion keeps the order; what is there is found; each is there once. -/
namespace Go.Proofs.YtmemoopkgjgmiaaGreatDoor
set_option linter.unusedVariables false
set_option linter.unusedSimpArgs false

/-- In order; not all slots are far; each block is named once. -/
structure RZ (n : Nat) (T H : Nat → Nat) : Prop where
  r : RH n T H
  z : ∃ s, s < n ∧ (T s = 0 ∨ dst n (H (T s)) s = 0)
  nd : ∀ s s', s < n → s' < n → T s ≠ 0 → T s = T s' → s = s'
/-- A slot names it. -/
def InT (n : Nat) (T : Nat → Nat) (y : Nat) : Prop := ∃ s, s < n ∧ T s = y
section
variable {n : Nat} {T H : Nat → Nat} {h k g x s : Nat}
theorem RZ.congr {H' : Nat → Nat} (R : RZ n T H) (hm : ∀ y, H' y < n) (he : ∀ s, s < n → T s ≠ 0 → H' (T s) = H (T s)) : RZ n T H' := by
  refine ⟨⟨R.r.n0, hm, fun s hs h0 hd => ?_⟩, ?_, R.nd⟩
  · rw [he _ (Nat.mod_lt _ R.r.n0) h0] at hd ⊢
    obtain ⟨r1, r2⟩ := R.r.rh s hs h0 hd
    exact ⟨r1, by rw [he s hs r1]; exact r2⟩
  · obtain ⟨s, hs, hz⟩ := R.z
    refine ⟨s, hs, ?_⟩
    by_cases h0 : T s = 0
    · exact .inl h0
    · rw [he s hs h0]; exact hz
theorem dst_pred (hh : h < n) (hs : s < n) (hd : 0 < dst n h ((s + 1) % n)) : dst n h s + 1 = dst n h ((s + 1) % n) := by
  rw [succ_mod hs] at hd ⊢
  unfold dst at hd ⊢
  split at hd <;> split at hd <;> split <;> (try split) <;> omega
/-- What lies on the way to a slot that names a block doesn't end a look for it. -/
theorem RH.way (r : RH n T H) {d : Nat} (hd : d < n) (h0 : T ((h + d) % n) ≠ 0) (he : d ≤ dst n (H (T ((h + d) % n))) ((h + d) % n)) : ∀ m j, j + m = d → T ((h + j) % n) ≠ 0 ∧ j ≤ dst n (H (T ((h + j) % n))) ((h + j) % n)
  | 0, j, e => by
    obtain rfl : j = d := by omega
    exact ⟨h0, he⟩
  | m + 1, j, e => by
    obtain ⟨h1, h2⟩ := RH.way r hd h0 he m (j + 1) (by omega)
    have := r.rh ((h + j) % n) (Nat.mod_lt _ r.n0)
    rw [mod_succ] at this
    obtain ⟨r1, r2⟩ := this h1 (by omega)
    exact ⟨r1, by omega⟩
theorem fndS_first (P : Nat → Bool) {d : Nat} (hd : d < n) (no : ∀ j, j ≤ d → endB T H n (h + j) j = false) (hy : P (T ((h + d) % n)) = true) : ∀ f j, j + f = n → j ≤ d → ∃ k, j ≤ k ∧ k ≤ d ∧ fndS T H n h P f j = some ((h + k) % n) ∧ P (T ((h + k) % n)) = true ∧ ∀ i, j ≤ i → i < k → P (T ((h + i) % n)) = false
  | 0, j, e, hj => by omega
  | f + 1, j, e, hj => by
    unfold fndS
    rw [if_neg (by rw [no j hj]; decide)]
    by_cases c : P (T ((h + j) % n)) = true
    · exact ⟨j, Nat.le_refl _, hj, by rw [if_pos c], c, fun i h1 h2 => by omega⟩
    · have hne : j ≠ d := fun e => c (e ▸ hy)
      rw [if_neg c]
      obtain ⟨k, k1, k2, k3, k4, k5⟩ := fndS_first P hd no hy f (j + 1) (by omega) (by omega)
      exact ⟨k, by omega, k2, k3, k4, fun i h1 h2 => by
        by_cases ei : i = j
        · rw [ei]; simpa using c
        · exact k5 i (by omega) h2⟩
/-- What is there is found, or one that is like it. -/
theorem RH.finds (r : RH n T H) (P : Nat → Bool) (hs : s < n) (h0 : T s ≠ 0) (hP : P (T s) = true) : ∃ i, i < n ∧ fndT T H n (H (T s)) P = some i ∧ P (T i) = true := by
  obtain ⟨d, hd, e⟩ := mod_ex (n := n) (H (T s)) hs
  have h1 : T ((H (T s) + d) % n) ≠ 0 := by rw [e]; exact h0
  have h2 : d ≤ dst n (H (T ((H (T s) + d) % n))) ((H (T s) + d) % n) := by
    have := dst_home (r.hm (T s)) hd
    rw [e] at this ⊢
    omega
  obtain ⟨k, k1, k2, k3, k4, k5⟩ := fndS_first (T := T) (H := H) (h := H (T s)) P hd (fun j hj => by
    obtain ⟨w1, w2⟩ := r.way hd h1 h2 (d - j) j (by omega)
    unfold endB
    rw [if_neg w1, farT_dst]
    exact decide_eq_false (by omega)) (by rw [e]; exact hP) n 0 (by omega) (Nat.zero_le _)
  exact ⟨_, Nat.mod_lt _ r.n0, k3, k4⟩
theorem fndS_some (P : Nat → Bool) (h0 : 0 < n) : ∀ f j i, fndS T H n h P f j = some i → i < n ∧ P (T i) = true ∧ T i ≠ 0
  | 0, j, i, e => nomatch e
  | f + 1, j, i, e => by
    unfold fndS at e
    by_cases c : endB T H n (h + j) j = true
    · rw [if_pos c] at e; exact nomatch e
    · rw [if_neg c] at e
      by_cases c2 : P (T ((h + j) % n)) = true
      · rw [if_pos c2] at e
        injection e with e
        subst e
        refine ⟨Nat.mod_lt _ h0, c2, fun hz => c ?_⟩
        unfold endB
        rw [if_pos hz]
      · rw [if_neg c2] at e
        exact fndS_some P h0 f (j + 1) i e
/-- A block is found just if it is there. -/
theorem RZ.found (R : RZ n T H) (hx : x ≠ 0) : (∀ i, fndT T H n (H x) (fun z => z == x) = some i → i < n ∧ T i = x) ∧ (fndT T H n (H x) (fun z => z == x) = none → ∀ s, s < n → T s ≠ x) := by
  refine ⟨fun i e => ?_, fun e s hs es => ?_⟩
  · obtain ⟨h1, h2, _⟩ := fndS_some _ R.r.n0 n 0 i e
    exact ⟨h1, by simpa using h2⟩
  · obtain ⟨i, _, h2, _⟩ := R.r.finds (fun z => z == x) hs (by rw [es]; exact hx) (by rw [es]; simp)
    rw [es, e] at h2
    exact nomatch h2
/-- An insertion. -/
theorem InsQ.inT (Q : InsQ n T H h k g x) {y : Nat} (hy : y ≠ 0) : InT n (insX T n (h + k) g x) y ↔ y = x ∨ InT n T y := by
  have hn := Q.r.n0
  constructor
  · rintro ⟨s, hs, e⟩
    have := insX_closed (P := fun z => z = x ∨ InT n T z) Q (fun s hs => .inr (.inr ⟨s, hs, rfl⟩)) (.inl rfl) s hs
    rw [e] at this
    exact this.resolve_left hy
  · rintro (rfl | ⟨s, hs, e⟩)
    · exact ⟨_, Nat.mod_lt _ hn, Q.at0⟩
    · obtain ⟨j, hj, rfl⟩ := mod_ex (n := n) (h + k) hs
      by_cases c : j < g
      · exact ⟨_, Nat.mod_lt _ hn, (Q.at1 c).trans e⟩
      · by_cases c2 : j = g
        · subst c2
          rw [Q.gap0] at e
          exact absurd e.symm hy
        · refine ⟨_, hs, (Q.at2 (fun i hi e' => ?_)).trans e⟩
          have hg := Q.gn
          have := mod_inj (n := n) (a := h + k) hj (by omega) e'
          omega
/-- Where a slot's block came from. -/
def srcI (g j : Nat) : Nat := if j = 0 then g else if j ≤ g then j - 1 else j
theorem InsQ.src (Q : InsQ n T H h k g x) {j : Nat} (hj : j < n) (h0 : j ≠ 0) : insX T n (h + k) g x ((h + k + j) % n) = T ((h + k + srcI g j) % n) ∧ srcI g j < n := by
  have hg := Q.gn
  unfold srcI
  rw [if_neg h0]
  by_cases c : j ≤ g
  · rw [if_pos c]
    obtain ⟨i, rfl⟩ : ∃ i, j = i + 1 := ⟨j - 1, by omega⟩
    exact ⟨Q.at1 (by omega), by omega⟩
  · rw [if_neg c]
    refine ⟨Q.at2 (fun i hi e' => ?_), hj⟩
    have := mod_inj (n := n) (a := h + k) hj (by omega) e'
    omega
theorem InsQ.rz (Q : InsQ n T H h k g x) (R : RZ n T H) : RZ n (insX T n (h + k) g x) H := by
  have hg := Q.gn
  have hk := Q.kn
  have hn := Q.r.n0
  refine ⟨Q.rh, ?_, fun s s' hs hs' h0 e => ?_⟩
  · by_cases c : g + 1 < n
    · have e1 : insX T n (h + k) g x ((h + k + (g + 1)) % n) = T ((h + k + (g + 1)) % n) := Q.at2 (fun i hi e' => by
        have := mod_inj (n := n) (a := h + k) c (by omega) e'
        omega)
      refine ⟨_, Nat.mod_lt (h + k + (g + 1)) hn, ?_⟩
      rw [e1]
      by_cases hz : T ((h + k + (g + 1)) % n) = 0
      · exact .inl hz
      · have := Q.r.gapFar (h + k + g) Q.gap0 0 (by omega) (by rw [Nat.add_assoc (h + k)]; exact hz)
        rw [Nat.add_assoc (h + k), Nat.zero_add] at this
        exact .inr (by omega)
    · have k0 : k = 0 := by
        rcases Nat.eq_zero_or_pos k with e | hp
        · exact e
        · have := (Q.pre (j := k - 1) (by omega)).1
          have e2 : (h + (k - 1)) % n = (h + k + g) % n := by
            rw [show h + k + g = h + (k - 1) + n by omega, Nat.add_mod_right]
          rw [e2] at this
          exact absurd Q.gap0 this
      refine ⟨_, Nat.mod_lt (h + k) hn, .inr ?_⟩
      rw [Q.at0, Q.hx, dst_home Q.hn hk]
      exact k0
  · obtain ⟨j, hj, rfl⟩ := mod_ex (n := n) (h + k) hs
    obtain ⟨j', hj', rfl⟩ := mod_ex (n := n) (h + k) hs'
    by_cases c : j = 0
    · subst c
      by_cases c' : j' = 0
      · rw [c']
      · rw [(Q.src hj' c').1] at e
        have e0 : insX T n (h + k) g x ((h + k + 0) % n) = x := Q.at0
        rw [e0] at e
        exact absurd e.symm (Q.nx _ (Nat.mod_lt _ hn))
    · by_cases c' : j' = 0
      · subst c'
        rw [(Q.src hj c).1] at e
        have e0 : insX T n (h + k) g x ((h + k + 0) % n) = x := Q.at0
        rw [e0] at e
        exact absurd e (Q.nx _ (Nat.mod_lt _ hn))
      · rw [(Q.src hj c).1] at e h0
        rw [(Q.src hj' c').1] at e
        have e2 := R.nd _ _ (Nat.mod_lt _ hn) (Nat.mod_lt _ hn) h0 e
        have e3 := mod_inj (n := n) (a := h + k) (Q.src hj c).2 (Q.src hj' c').2 e2
        unfold srcI at e3
        rw [if_neg c, if_neg c'] at e3
        have : j = j' := by split at e3 <;> split at e3 <;> omega
        rw [this]
/-- What a deletion leaves. -/
structure DlP (n : Nat) (T H : Nat → Nat) (i f : Nat) (D : Nat → Nat) (m : Nat) : Prop where
  mf : m ≤ f
  far : ∀ j, 1 ≤ j → j ≤ m → T ((i + j) % n) ≠ 0 ∧ dst n (H (T ((i + j) % n))) ((i + j) % n) ≠ 0
  stop : m = f ∨ T ((i + (m + 1)) % n) = 0 ∨ dst n (H (T ((i + (m + 1)) % n))) ((i + (m + 1)) % n) = 0
  sh : ∀ j, j < m → D ((i + j) % n) = T ((i + (j + 1)) % n)
  last : D ((i + m) % n) = 0
  out : ∀ s, (∀ j, j ≤ m → s ≠ (i + j) % n) → D s = T s
theorem dlS_spec (n : Nat) (H : Nat → Nat) : ∀ (f i : Nat) (T : Nat → Nat), f < n → ∃ m, DlP n T H i f (dlS H n f i T) m
  | 0, i, T, hf => ⟨0, ⟨Nat.le_refl _, fun j h1 h2 => by omega, .inl rfl, fun j hj => by omega, up_same _ _ _, fun s hs => up_ne _ _ (hs 0 (Nat.le_refl _))⟩⟩
  | f + 1, i, T, hf => by
    unfold dlS
    by_cases c : T ((i + 1) % n) = 0 ∨ farT T H n (i + 1) = 0
    · rw [if_pos c]
      exact ⟨0, ⟨Nat.zero_le _, fun j h1 h2 => by omega, .inr c, fun j hj => by omega, up_same _ _ _, fun s hs => up_ne _ _ (hs 0 (Nat.le_refl _))⟩⟩
    · rw [if_neg c]
      obtain ⟨m, P⟩ := dlS_spec n H f (i + 1) (up T (i % n) (T ((i + 1) % n))) (by omega)
      have hne : ∀ j, 1 ≤ j → j ≤ f + 1 → (i + j) % n ≠ i % n := fun j h1 h2 e => by
        have := mod_inj (n := n) (a := i) (i := j) (j := 0) (by omega) (by omega) e
        omega
      have hT : ∀ j, j ≤ f → up T (i % n) (T ((i + 1) % n)) ((i + 1 + j) % n) = T ((i + (1 + j)) % n) := fun j hj => by
        rw [up_ne _ _ (by rw [Nat.add_assoc]; exact hne (1 + j) (by omega) (by omega)), Nat.add_assoc]
      have hmf := P.mf
      refine ⟨m + 1, ⟨by omega, fun j h1 h2 => ?_, ?_, fun j hj => ?_, ?_, fun s hs => ?_⟩⟩
      · by_cases e : j = 1
        · subst e
          exact ⟨fun e => c (.inl e), fun e => c (.inr e)⟩
        · obtain ⟨j', rfl⟩ : ∃ j', j = 1 + j' := ⟨j - 1, by omega⟩
          have := P.far j' (by omega) (by omega)
          rw [hT j' (by omega), Nat.add_assoc] at this
          exact this
      · rcases P.stop with e | e
        · exact .inl (by omega)
        · by_cases hm : m = f
          · exact .inl (by omega)
          · rw [hT (m + 1) (by omega), Nat.add_assoc, show 1 + (m + 1) = m + 1 + 1 by omega] at e
            exact .inr e
      · by_cases e : j = 0
        · subst e
          rw [P.out _ (fun j' hj' e => hne (1 + j') (by omega) (by omega) (by rw [← Nat.add_assoc]; exact e.symm))]
          show up _ _ _ (i % n) = _
          rw [up_same]
        · obtain ⟨j', rfl⟩ : ∃ j', j = 1 + j' := ⟨j - 1, by omega⟩
          rw [← Nat.add_assoc, P.sh j' (by omega), hT (j' + 1) (by omega)]
          rfl
      · rw [show i + (m + 1) = i + 1 + m by omega]
        exact P.last
      · rw [P.out s (fun j hj e => hs (1 + j) (by omega) (by rw [← Nat.add_assoc]; exact e)), up_ne]
        exact hs 0 (by omega)
/-- Where a slot's block lay before the deletion. -/
def srcD (m j : Nat) : Nat := if j < m then j + 1 else j
theorem DlP.src {D : Nat → Nat} {i m : Nat} (P : DlP n T H i (n - 1) D m) {j : Nat} (hj : j < n) (hm : j ≠ m) : D ((i + j) % n) = T ((i + srcD m j) % n) ∧ srcD m j < n ∧ srcD m j ≠ 0 := by
  have hmf := P.mf
  unfold srcD
  by_cases c : j < m
  · rw [if_pos c]; exact ⟨P.sh j c, by omega, by omega⟩
  · rw [if_neg c]
    refine ⟨P.out _ (fun j' hj' e => ?_), hj, by omega⟩
    have := mod_inj (n := n) (a := i) hj (by omega) e
    omega
theorem DlP.inT {D : Nat → Nat} {i m : Nat} (P : DlP n T H i (n - 1) D m) (R : RZ n T H) {y : Nat} (hy : y ≠ 0) : InT n D y ↔ InT n T y ∧ y ≠ T (i % n) := by
  have hn := R.r.n0
  have hmf := P.mf
  constructor
  · rintro ⟨s, hs, e⟩
    obtain ⟨j, hj, rfl⟩ := mod_ex (n := n) i hs
    by_cases c : j = m
    · subst c
      rw [P.last] at e
      exact absurd e.symm hy
    · obtain ⟨s1, s2, s3⟩ := P.src hj c
      rw [s1] at e
      refine ⟨⟨_, Nat.mod_lt _ hn, e⟩, fun e2 => s3 ?_⟩
      have := R.nd _ (i % n) (Nat.mod_lt (i + srcD m j) hn) (Nat.mod_lt _ hn) (by rw [e]; exact hy) (by rw [e]; exact e2)
      exact mod_inj (n := n) (a := i) (i := srcD m j) (j := 0) s2 hn this
  · rintro ⟨⟨s, hs, e⟩, hne⟩
    obtain ⟨j, hj, rfl⟩ := mod_ex (n := n) i hs
    have hj0 : j ≠ 0 := fun e0 => hne (by rw [← e, e0]; rfl)
    by_cases c : j ≤ m
    · obtain ⟨j', rfl⟩ : ∃ j', j = j' + 1 := ⟨j - 1, by omega⟩
      exact ⟨_, Nat.mod_lt (i + j') hn, (P.sh j' (by omega)).trans e⟩
    · refine ⟨_, hs, (P.out _ (fun j' hj' e' => ?_)).trans e⟩
      have := mod_inj (n := n) (a := i) hj (by omega) e'
      omega
theorem DlP.rz {D : Nat → Nat} {i m : Nat} (P : DlP n T H i (n - 1) D m) (R : RZ n T H) (h0 : T (i % n) ≠ 0) : RZ n D H := by
  have hn := R.r.n0
  have hmf := P.mf
  refine ⟨⟨hn, R.r.hm, fun s hs hd0 hdp => ?_⟩, ⟨_, Nat.mod_lt (i + m) hn, .inl P.last⟩, fun s s' hs hs' hd0 e => ?_⟩
  · obtain ⟨j', hj', e⟩ := mod_ex (n := n) i (Nat.mod_lt (s + 1) hn)
    -- where the slot behind lies, and this one
    have hsj : s = (i + (j' + n - 1)) % n := by
      have h1 : ((i + (j' + n - 1)) % n + 1) % n = (s + 1) % n := by
        rw [mod_succ, show i + (j' + n - 1 + 1) = i + j' + n by omega, Nat.add_mod_right, e]
      have h2 := Nat.mod_lt (i + (j' + n - 1)) hn
      rw [succ_mod h2, succ_mod hs] at h1
      split at h1 <;> split at h1 <;> omega
    rw [← e] at hd0 hdp ⊢
    have hjm : j' ≠ m := fun e2 => hd0 (by rw [e2]; exact P.last)
    obtain ⟨s1, s2, s3⟩ := P.src hj' hjm
    rw [s1] at hd0 hdp ⊢
    by_cases c : j' < m
    · -- it was moved by one
      have es : srcD m j' = j' + 1 := if_pos c
      rw [es] at hd0 hdp ⊢
      have hfar := P.far (j' + 1) (by omega) (by omega)
      have hpr := dst_pred (n := n) (h := H (T ((i + (j' + 1)) % n))) (s := (i + j') % n) (R.r.hm _) (Nat.mod_lt _ hn) (by rw [mod_succ]; omega)
      rw [mod_succ] at hpr
      have hrr := R.r.rh ((i + j') % n) (Nat.mod_lt _ hn)
      rw [mod_succ] at hrr
      obtain ⟨r1, r2⟩ := hrr hfar.1 (by omega)
      by_cases cj : j' = 0
      · subst cj
        have hs2 : s = (i + (n - 1)) % n := by rw [hsj, Nat.zero_add]
        have hi0 : (i + 0) % n = i % n := rfl
        rw [hi0] at r1 r2 hpr hdp ⊢
        have hm1 : m ≠ n - 1 := fun em => by
          -- all are far
          obtain ⟨z, hz, hz'⟩ := R.z
          obtain ⟨jz, hjz, rfl⟩ := mod_ex (n := n) i hz
          by_cases c0 : jz = 0
          · subst c0
            rw [hi0] at hz'
            omega
          · have := P.far jz (by omega) (by omega)
            omega
        have hD : D s = T s := P.out s (fun j hj e2 => by
          rw [hs2] at e2
          have := mod_inj (n := n) (a := i) (i := n - 1) (j := j) (by omega) (by omega) e2
          omega)
        have hrr := R.r.rh s hs
        have es1 : (s + 1) % n = i % n := by
          rw [hs2, mod_succ, show i + (n - 1 + 1) = i + n by omega, Nat.add_mod_right]
        rw [es1] at hrr
        obtain ⟨q1, q2⟩ := hrr h0 (by omega)
        rw [hD]
        exact ⟨q1, by omega⟩
      · obtain ⟨j, rfl⟩ : ∃ j, j' = j + 1 := ⟨j' - 1, by omega⟩
        have hs2 : s = (i + j) % n := by rw [hsj, show i + (j + 1 + n - 1) = i + j + n by omega, Nat.add_mod_right]
        rw [hs2, P.sh j (by omega)]
        have hfar2 := P.far (j + 1) (by omega) (by omega)
        have hpr2 := dst_pred (n := n) (h := H (T ((i + (j + 1)) % n))) (s := (i + j) % n) (R.r.hm _) (Nat.mod_lt _ hn) (by rw [mod_succ]; omega)
        rw [mod_succ] at hpr2
        exact ⟨r1, by omega⟩
    · -- it stayed
      have es : srcD m j' = j' := if_neg c
      rw [es] at hd0 hdp ⊢
      obtain ⟨j, rfl⟩ : ∃ j, j' = j + 1 := ⟨j' - 1, by omega⟩
      have hs2 : s = (i + j) % n := by rw [hsj, show i + (j + 1 + n - 1) = i + j + n by omega, Nat.add_mod_right]
      have hjm2 : j ≠ m := fun e2 => by
        subst e2
        rcases P.stop with h1 | h1 | h1
        · omega
        · exact hd0 h1
        · omega
      have hrr := R.r.rh ((i + j) % n) (Nat.mod_lt _ hn)
      rw [mod_succ] at hrr
      obtain ⟨r1, r2⟩ := hrr hd0 hdp
      have := P.src (j := j) (by omega) hjm2
      have es2 : srcD m j = j := if_neg (by omega)
      rw [es2] at this
      rw [hs2, this.1]
      exact ⟨r1, r2⟩
  · obtain ⟨j, hj, rfl⟩ := mod_ex (n := n) i hs
    obtain ⟨j', hj', rfl⟩ := mod_ex (n := n) i hs'
    have c1 : j ≠ m := fun e2 => hd0 (by rw [e2]; exact P.last)
    have c2 : j' ≠ m := fun e2 => hd0 (by rw [e, e2]; exact P.last)
    obtain ⟨s1, s2, s3⟩ := P.src hj c1
    obtain ⟨t1, t2, t3⟩ := P.src hj' c2
    rw [s1] at hd0 e
    rw [t1] at e
    have e2 := mod_inj (n := n) (a := i) s2 t2 (R.nd _ _ (Nat.mod_lt _ hn) (Nat.mod_lt _ hn) hd0 e)
    unfold srcD at e2
    have : j = j' := by split at e2 <;> split at e2 <;> omega
    rw [this]
end
end Go.Proofs.YtmemoopkgjgmiaaGreatDoor

/- The index beside the slabs: Begin; a memory with an empty index. -/
namespace Go.Proofs.YtmemoopkgjgmiaaGreatDoor
set_option linter.unusedVariables false
set_option linter.unusedSimpArgs false
open Go.RowKit

section
variable {w w0 W W' : World} {q : MH} {t u : TM} {S : SS} {x n : Nat} {X : HB} {L : Nat → Prop} {E : Nat → HB} {B : Nat → List Nat}
/-- Nodes' labels. -/
def LbI (u : TM) (L : Nat → Prop) (E : Nat → HB) (B : Nat → List Nat) : Prop :=
  ∀ x, L x → (E x).tag = 2 → (E x).label = ((B x).length : Int) ∧ (B x).length ≤ 16 ∧ (∀ b ∈ B x, b < 256) ∧ ByOn u (x + 16) (B x).length (fun j => (B x)[j]?.getD 0)
theorem LbI.to {v : TM} (h : LbI u L E B) (hb : ∀ x, L x → (E x).tag = 2 → ∀ j, j < 16 → byteAt v (x + 16 + j) = byteAt u (x + 16 + j)) : LbI v L E B := fun x hx ht => by
  obtain ⟨h1, h2, h3, h4⟩ := h x hx ht
  exact ⟨h1, h2, h3, fun j hj => by rw [hb x hx ht j (by omega)]; exact h4 j hj⟩
theorem wsl_out (hok : t.Ok) {T : Nat → Nat} (ho : (t.wsl T).Ok) (x n : Nat) : Out t (t.wsl T) x n :=
  ⟨fun i hi _ => by rw [byteAt_high (t.wsl T) i hi ho, byteAt_high t i hi hok]; rfl, fun g _ _ => rfl⟩
theorem SlI.wsl (hs : SlI t S) (hok : t.Ok) {T : Nat → Nat} (ho : (t.wsl T).Ok) : SlI (t.wsl T) S :=
  ⟨hs.ls.same' rfl (fun _ _ => rfl) (fun _ _ _ => rfl), fun j hj => (hs.each j hj).other hok hj rfl rfl (fun _ _ => rfl) (wsl_out hok ho (sla t j + 1024) 0) (.inl (Nat.le_refl _))⟩
/-- The memory of the index's page: live blocks may be anything; those that slots name have heads. -/
structure GI (w0 : World) (q : MH) (S : SS) (L : Nat → Prop) (u : TM) (E : Nat → HB) (B : Nat → List Nat) (W : World) : Prop where
  h : IsH W q u
  sl : SlI u S
  ix : IxI u L E
  rh : RZ 224 u.sl (hmE u E)
  lb : LbI u L E B
  lv : ∀ x, L x → LvP S x
  a : u.a = 7
  s : u.s = 224
  ft : u.ft = 0
  f : Fr [] w0 W
  hq : ∀ k ∈ q.blocks, w0.heap.size ≤ k
theorem GI.fr0 (g : GI w0 q S L u E B W) (hf : Fr [] W W') : GI w0 q S L u E B W' := ⟨g.h.fr0 hf, g.sl, g.ix, g.rh, g.lb, g.lv, g.a, g.s, g.ft, g.f.trans hf, g.hq⟩
theorem GI.same (g : GI w0 q S L u E B W) (h : IsH W' q u) (hf : Fr q.blocks W W') : GI w0 q S L u E B W' := ⟨h, g.sl, g.ix, g.rh, g.lb, g.lv, g.a, g.s, g.ft, g.f.step hf (fun k hk => .inr (g.hq k hk)), g.hq⟩
/-- Other slots. -/
theorem GI.slots (g : GI w0 q S L u E B W) {T : Nat → Nat} (h : IsH W' q (u.wsl T)) (hf : Fr q.blocks W W') (hc : ∀ i, i < 224 → T i = 0 ∨ L (T i)) (hr : RZ 224 T (hmE u E)) : GI w0 q S L (u.wsl T) E B W' :=
  ⟨h, g.sl.wsl g.h.m.ok h.m.ok, g.ix.wsl g.h.m.ok h.m.ok (by rw [g.s]; exact hc), hr, g.lb.to (fun x hx _ j _ => (wsl_out g.h.m.ok h.m.ok 0 0).by_ _ (by have := (g.ix.e x hx).h.base; omega) (.inr (by omega))), g.lv, g.a, g.s, g.ft, g.f.step hf (fun k hk => .inr (g.hq k hk)), g.hq⟩
theorem sl_may (hok : t.Ok) (i : Nat) (hi : i < 4 * t.s) : mayL t.ms.ks ((slAt t 0 + i : Nat) : Int) 1 (4 : Nat) = true := by
  have hc := cfg_sizes hok.cfg
  have hks : t.ms.ks = t.kinds := rfl
  have hlen := t.kinds_len
  unfold slAt
  rw [hks]
  refine may_ok t.kinds (lslots t.a + 4 * 0 + i) 1 4 (.inl rfl) (Nat.mod_one _) (by decide) (by rw [hlen]; omega) (fun g g1 g2 => ?_)
  rw [t.kinds_get g (by omega)]
  unfold kindAt
  rw [if_neg (by omega), if_neg (by omega), if_neg (by omega), if_pos (by omega)]
theorem izero (h : IsH W q u) (h0 : u.sl = fun _ => 0) : Calls Tryz.prog 149 #[.pointer (some ⟨q.m, 0, none⟩), .int .i64 (slAt u 0), .int .i64 (4 * u.s : Nat), .int .i64 4] W fun e w' => e = .returned (.bool true) ∧ IsH w' q u ∧ Fr q.blocks W w' := by
  have hok := h.m.ok
  have hc := cfg_sizes hok.cfg
  have hE : slAt u 0 + 4 * u.s ≤ u.ms.l.length := by
    show _ ≤ u.bytes.length
    rw [u.bytes_len]
    unfold slAt
    omega
  have e1 : spl u.bytes (slAt u 0) (List.replicate (4 * u.s) 0) = u.bytes := by
    refine spl_bytes (t := u) (u := u) (slAt u 0) (List.replicate (4 * u.s) 0) (by rw [List.length_replicate, ← u.bytes_len]; exact hE) rfl rfl (fun i => ?_)
    rw [List.length_replicate]
    split
    · next hi =>
      have : (List.replicate (4 * u.s) 0)[i - slAt u 0]?.getD 0 = 0 := by
        rw [List.getElem?_replicate]
        split <;> rfl
      rw [this]
      unfold slAt at hi
      unfold byteAt
      rw [if_neg (by omega), if_neg (by omega), if_pos (by omega), h0]
      exact nb_0 _
    · rfl
  refine (mzero_yes W q u.ms h.m.m (slAt u 0) (4 * u.s) 4 hE (fun i hi => sl_may hok i hi)).mono fun e w' ⟨he, hm, hf⟩ => ?_
  have hm' : IsM w' q u.ms := by
    have : ({ u.ms with l := spl u.ms.l (slAt u 0) (List.replicate (4 * u.s) 0) } : MS) = u.ms := by
      show ({ u.ms with l := spl u.bytes (slAt u 0) (List.replicate (4 * u.s) 0) } : MS) = u.ms
      rw [e1]
      rfl
    rw [this] at hm
    exact hm
  have hf' : Fr q.blocks W w' := hf.mono (fun k hk => .inl (by simp at hk; rcases hk with rfl | rfl <;> simp [MH.blocks]))
  exact ⟨he, h.step ⟨hok, hm', h.m.tab.fr hf' h.m.hi, h.m.hi⟩ hf', hf'⟩
set_option maxRecDepth 100000 in
theorem ibegin (h : IsH W q u) (h0 : u.sl = fun _ => 0) : Calls Tryz.prog 95 #[.pointer (some ⟨q.m, 0, none⟩)] W fun e w' => e = .returned (.int .i64 0) ∧ IsH w' q u ∧ Fr q.blocks W w' := by
  have hc := h.m.ok.cfg
  have hs0 : 0 < u.s := by obtain ⟨c1, c2, c3, c4, c5⟩ := hc; omega
  have hsm : u.s ≤ 1048576 := by obtain ⟨c1, c2, c3, c4, c5⟩ := hc; omega
  have HOF := Lib.hid (show Calls Tryz.prog 96 #[.pointer (some ⟨q.m, 0, none⟩)] W fun e w' => e = .returned (.agg #[.pointer (some ⟨q.m, 0, none⟩), .int .i64 u.s]) ∧ Fr [] W w' from iof h.m)
  have HC := Lib.hid (fun V (hV : IsH V q u) => tcfg hV.m)
  have HSL := Lib.hid (fun V (hV : IsH V q u) => (show Calls Tryz.prog 195 #[.agg #[.int .i64 u.a, .int .i64 u.s], .int .i64 0] V fun e w' => e = .returned (.int .i64 (slAt u 0)) ∧ Fr [] V w' from lslotat V hV.m.tab u.a u.s hc 0 hs0))
  have HZ := Lib.hid (fun V (hV : IsH V q u) => izero hV h0)
  have b0 : ((u.s : Int) == 0) = false := by rw [beq_eq_false_iff_ne]; omega
  have b0' : (u.s == 0) = false := by rw [beq_eq_false_iff_ne]; omega
  have w1 : IntKind.i64.wrap ((u.s : Int) * 4) = (4 * u.s : Nat) := by rw [IntWalk.i64_in _ (by omega)]; omega
  have H00 := Lib.hid h
  generalize slAt u 0 = z at *
  generalize 4 * u.s = s4 at *
  generalize u.s = s at *
  generalize u.a = a at *
  clear h h0 hc hs0
  go_enter Tryz.func95, Tryz.ntmps95
  go_wp2_with fail
  with_reducible refine HOF.out.mono ?_
  rintro e w1 ⟨rfl, f1⟩
  have K0 := Lib.hid (((H00.out.fr0 f1).alloc (.cells #[.pointer (some ⟨q.m, 0, none⟩), .int .i64 s] 146)).fr0 (Fr.refl [] _).drew)
  have F0 := Lib.hid ((f1.alloc (.cells #[.pointer (some ⟨q.m, 0, none⟩), .int .i64 s] 146)).drew.nil (S := q.blocks))
  have hlt := H00.out.m.lt
  have hsz := f1.size
  have nb : w1.heap.size ∉ q.blocks := fun hm => by have := hlt _ hm; omega
  have B0 := Lib.hid ((Blk.new w1 146 #[.pointer (some ⟨q.m, 0, none⟩), .int .i64 s]).drew)
  have DC := Lib.hid (fun V (hV : Fr q.blocks (w1.alloc (.cells #[.pointer (some ⟨q.m, 0, none⟩), .int .i64 s] 146)).drew V) => (show V.cell? ⟨w1.heap.size, 1, none⟩ = some (.int .i64 s) from (B0.out.fr hV nb).cell 1))
  have hY := DC.out _ (Fr.refl _ _)
  clear f1 hlt hsz
  go_wp2_with fail
  refine wp_region_held_drew (S := fun V => V.cell? ⟨w1.heap.size, 1, none⟩ = some (.int .i64 s)) (by kernel_rfl) (hY) (fun yH => ?_)
  refine tkY 0 yH (h := ?_)
  refine tkY 1 yH (h := ?_)
  refine tkY 4 yH (h := ?_)
  refine tkY 5 yH (h := ?_)
  refine tkY 6 yH (h := ?_)
  refine wpAnyH_ready (rs := [2]) (by kernel_rfl) (by simp) ?_
  refine AllReadyH.cons (o := ?ooa5) ?hia5 (fun K hK => ?hca5) AllReadyH.nil
  case hia5 => (simp only [List.getElem?_toArray, List.getElem?_cons_zero, List.getElem?_cons_succ]; rfl)
  go_simp
  with_reducible refine (HC.out _ K0.out).mono ?_
  rintro e w2 ⟨rfl, f2⟩
  have K2 := Lib.hid (K0.out.fr0 f2)
  have F2 := Lib.hid (f2.nil (S := q.blocks))
  have hY := DC.out _ F2.out
  clear f2
  go_wp2_with fail
  refine hK.out _ _ (hY) (fun yH => ?_)
  clear hK K
  try simp only [Act.put, List.setIfInBounds_toArray, List.set_cons_zero, List.set_cons_succ]
  refine wpAnyH_ready (rs := [3]) (by kernel_rfl) (by simp) ?_
  refine AllReadyH.cons (o := ?ooa6) ?hia6 (fun K hK => ?hca6) AllReadyH.nil
  case hia6 => (simp only [List.getElem?_toArray, List.getElem?_cons_zero, List.getElem?_cons_succ]; rfl)
  go_simp
  with_reducible refine (HSL.out _ K2.out).mono ?_
  rintro e w3 ⟨rfl, f3⟩
  have K3 := Lib.hid (K2.out.fr0 f3)
  have F3 := Lib.hid (F2.out.trans f3.nil)
  have hY := DC.out _ F3.out
  clear f3
  go_wp2_with fail
  refine hK.out _ _ (hY) (fun yH => ?_)
  clear hK K
  try simp only [Act.put, List.setIfInBounds_toArray, List.set_cons_zero, List.set_cons_succ]
  refine wpAnyH_ready (rs := [7]) (by kernel_rfl) (by simp) ?_
  refine AllReadyH.cons (o := ?ooa7) ?hia7 (fun K hK => ?hca7) AllReadyH.nil
  case hia7 => (simp only [List.getElem?_toArray, List.getElem?_cons_zero, List.getElem?_cons_succ]; rfl)
  go_simp
  with_reducible refine (HZ.out _ K3.out).mono ?_
  rintro e w4 ⟨rfl, h4, f4⟩
  have K4 := Lib.hid h4
  have F4 := Lib.hid (F3.out.trans f4)
  have hY := DC.out _ F4.out
  clear h4 f4
  go_wp2_with fail
  refine hK.out _ _ (hY) (fun yH => ?_)
  clear hK K
  try simp only [Act.put, List.setIfInBounds_toArray, List.set_cons_zero, List.set_cons_succ]
  refine wpAnyH_done (by kernel_rfl) ?_ _
  try simp only [Act.put, List.getElem_toArray, List.getElem_cons_zero, List.getElem_cons_succ, List.setIfInBounds_toArray, List.set_cons_zero, List.set_cons_succ]
  go_wp2_with fail
  go_ret
  exact ⟨rfl, K4.out, F0.out.trans F4.out⟩
theorem m_begin20 {a s : Nat} (h : IsH W q (newT a s)) (hc : Cfg a s) : Calls Tryz.prog 94 #[.pointer (some ⟨q.m, 0, none⟩)] W fun e w' => e = .returned (.int .i64 0) ∧ Fr q.blocks W w' ∧ ∃ u, IsH w' q u ∧ SlI u SS.zero ∧ u.a = a ∧ u.s = s ∧ u.ft = 0 ∧ u.sl = fun _ => 0 := by
  have hb := libegin h.m
  have HM := Lib.hid (fun w' (hm : IsT w' q ((newT a s).beg (newT a s).a)) (hf' : Fr q.blocks W w') => (show ∃ u, IsH w' q u ∧ SlI u SS.zero ∧ u.a = a ∧ u.s = s ∧ u.ft = 0 ∧ u.sl = fun _ => 0 from by
    obtain ⟨h1, h2⟩ := begun a s hc _ hm.ok rfl
    exact ⟨_, h.step hm hf', h1, beg_a _ _, h2.s, h2.ft, h2.sl⟩))
  clear h
  go_enter Tryz.func94, Tryz.ntmps94
  go_wp2_with fail
  with_reducible refine hb.mono ?_
  rintro e w1 ⟨rfl, h1, f1⟩
  have H1 := Lib.hid (HM.out _ h1 f1)
  have F1 := Lib.hid f1
  clear h1 f1 HM
  go_wp2_with fail
  go_ret
  exact ⟨rfl, F1.out, H1.out⟩
theorem fresh20 (w : World) (hM : TabM w) (hT : Tabs w) : Calls Tryz.prog 17 #[] w fun e w' => ∃ (q : MH) (u : TM), e = .returned (.pointer (some ⟨q.m, 0, none⟩)) ∧ GI w q SS.zero (fun _ => False) u (fun _ => HB.zero) (fun _ => []) w' ∧ u.sl = fun _ => 0 := by
  have hn := (show Calls Tryz.prog 93 #[.agg #[.int .i64 7, .int .i64 224]] w (NewH w 7 224) from hnew w hM hT 7 224 cfg7)
  go_enter Tryz.func17, Tryz.ntmps17
  go_wp2_with fail
  with_reducible refine hn.mono ?_
  rintro e w1 ⟨q, rfl, h1, hq, f1⟩
  have HB := Lib.hid (m_begin20 h1 cfg7)
  have HQ := Lib.hid hq
  have F1 := Lib.hid f1
  clear h1 hq f1 hn
  go_wp2_with fail
  with_reducible refine HB.out.mono ?_
  rintro e w2 ⟨rfl, f2, u, h2, s2, a2, b2, c2, d2⟩
  have HG := Lib.hid (ibegin h2 d2)
  have S2 := Lib.hid (And.intro s2 (And.intro a2 (And.intro b2 (And.intro c2 d2))))
  have F2 := Lib.hid (F1.out.step f2 (fun k hk => .inr (HQ.out k hk)))
  clear h2 HB s2 a2 b2 c2 d2 f2
  go_wp2_with fail
  with_reducible refine HG.out.mono ?_
  rintro e w3 ⟨rfl, h3, f3⟩
  have H3 := Lib.hid h3
  have F3 := Lib.hid (F2.out.step f3 (fun k hk => .inr (HQ.out k hk)))
  clear h3 HG f3
  go_wp2_with fail
  go_ret
  obtain ⟨s2, a2, b2, c2, d2⟩ := S2.out
  refine ⟨q, u, rfl, ⟨H3.out, s2, ⟨fun x hx => hx.elim, fun i _ => .inl (by rw [d2]), by omega, by omega⟩, ⟨⟨by decide, fun y => by unfold hmE; rw [b2]; exact Nat.mod_lt _ (by decide), fun s _ h0 => absurd (by rw [d2]) h0⟩, ⟨0, by decide, .inl (by rw [d2])⟩, fun s s' _ _ h0 => absurd (by rw [d2]) h0⟩, fun x hx => hx.elim, fun x hx => hx.elim, a2, b2, c2, F3.out, HQ.out⟩, d2⟩
end
end Go.Proofs.YtmemoopkgjgmiaaGreatDoor

/- A new block of the index's page: taken, made an entry or a node, its label written (plain). -/
namespace Go.Proofs.YtmemoopkgjgmiaaGreatDoor
set_option linter.unusedVariables false
set_option linter.unusedSimpArgs false
open Go.RowKit

/-- What there is to know of a block. -/
structure RB where
  at_ : Int
  nd : Bool
  nm : Nat
  ty : Nat
  lab : List Nat
  hs : Nat
def rbC (at_ : Int) (nd : Bool) (nm ty : Nat) (lab : List Nat) (hs : Nat) : Array Value := #[.int .i64 at_, .bool nd, .int .u32 nm, .int .u16 ty, .string (strOf lab), .int .u32 hs]
def RB.cells (b : RB) : Array Value := rbC b.at_ b.nd b.nm b.ty b.lab b.hs
structure RB.Ok (b : RB) : Prop where
  at_ : -9223372036854775808 ≤ b.at_ ∧ b.at_ ≤ 9223372036854775807
  nm : b.nm < 4294967296
  ty : b.ty < 65536
  lab : ∀ x ∈ b.lab, x < 256
  len : b.lab.length ≤ 9223372036854775807
  hs : b.hs < 4294967296
/-- What statements ask of acts. -/
def RB.few (b : RB) : Bool := if b.nd then decide (1 ≤ b.lab.length ∧ b.lab.length ≤ 16 ∧ b.ty = 0) else b.lab.isEmpty
/-- Its head. -/
def rbX (nd : Bool) (nm ty n hs : Nat) : HB := if nd then { tag := 2, cls := 1, used := false, label := n, name := nm, next := 0, prev := 0, refs := 0, expiry := 0, typ := 0, size := 0, hash := hs } else { tag := 1, cls := 1, used := false, label := 0, name := nm, next := 0, prev := 0, refs := 0, expiry := 0, typ := ty, size := 0, hash := hs }
theorem rbX_ok {nd : Bool} {nm ty n hs : Nat} (h1 : nm < 4294967296) (h2 : ty < 65536) (h3 : hs < 4294967296) (h4 : nd = true → 1 ≤ n ∧ n ≤ 16) : (rbX nd nm ty n hs).Ok ∧ (rbX nd nm ty n hs).right = true ∧ ((rbX nd nm ty n hs).tag = 1 ∨ (rbX nd nm ty n hs).tag = 2) := by
  cases nd
  · unfold rbX
    rw [if_neg (by decide)]
    refine ⟨⟨?_, ?_, ?_, h1, ?_, ?_, ?_, ?_, h2, ?_, h3⟩, ?_, .inl rfl⟩
    all_goals first | (dsimp only; omega) | simp [HB.right, rightT, HB.lackTo, HB.lackAt, whZ, wh, commonL, ownL, HB.num, HB.nums]
  · obtain ⟨h5, h6⟩ := h4 rfl
    unfold rbX
    rw [if_pos rfl]
    refine ⟨⟨?_, ?_, ?_, h1, ?_, ?_, ?_, ?_, ?_, ?_, h3⟩, ?_, .inr rfl⟩
    all_goals first | (dsimp only; omega) | (simp [HB.right, rightT, HB.lackTo, HB.lackAt, whZ, wh, commonL, ownL, HB.num, HB.nums, w64]; try omega)
section
variable {w0 W W' : World} {q : MH} {S S' : SS} {x y n m tag : Nat} {t u v : TM} {L : Nat → Prop} {E : Nat → HB} {B : Nat → List Nat} {X : HB}
theorem putH_outG (hok : t.Ok) (hx : lbase t.a t.s ≤ x) (htg : tag ≤ 2) (N : Nat → Nat) : ∀ k, k ≤ 12 → Out t (t.putH x tag N k) x (sz tag)
  | 0, _ => Out.refl _ _ _
  | k + 1, hk => by
    have ih := putH_outG hok hx htg N k (by omega)
    have as_ := putH_as t x tag N k
    unfold TM.putH
    by_cases h0 : (wh tag k).2 = 0
    · rw [if_pos h0]; exact ih
    · rw [if_neg h0]
      have w := wh_ok tag k htg (by omega) h0
      have := setB_out (putH_ok hok x tag N k) (x + (wh tag k).1) (wh tag k).2 (N k) (by rw [as_.1, as_.2]; omega)
      exact ih.trans (this.wide (by omega) (by omega)) as_.1 as_.2
theorem putH_restG (t : TM) (x tag : Nat) (N : Nat → Nat) : ∀ k, (t.putH x tag N k).rt = t.rt ∧ (t.putH x tag N k).hd = t.hd ∧ (t.putH x tag N k).kd = t.kd ∧ (t.putH x tag N k).ft = t.ft ∧ (t.putH x tag N k).sl = t.sl
  | 0 => ⟨rfl, rfl, rfl, rfl, rfl⟩
  | k + 1 => by
    unfold TM.putH
    split
    · exact putH_restG t x tag N k
    · exact putH_restG t x tag N k
theorem SlI.rputG (hs : SlI t S) (hok : t.Ok) (h : Lv t.a S x n) (htg : tag ≤ 2) (N : Nat → Nat) : SlI (t.putH x tag N 12) S := by
  obtain ⟨b1, b2, b3, b4, b5, b6, b7⟩ := lv_at hs hok h
  have as_ := putH_as t x tag N 12
  obtain ⟨r1, r2, r3, r4, r5⟩ := putH_restG t x tag N 12
  have := sz_le tag htg
  exact hs.inner hok h as_.1 as_.2 (fun c _ => by rw [r1]) r2 r3 ((putH_outG hok b1 htg N 12 (by decide)).wide (by omega) (by omega))
theorem SlI.wrt (hs : SlI t S) (hok : t.Ok) (h : Lv t.a S x n) (hy : x ≤ y) (hm : y + m ≤ x + n) (f : Nat → Nat) (hf : ∀ j, j < m → f j < 256) : SlI (t.setF y m f) S := by
  obtain ⟨b1, b2, b3, b4, b5, b6, b7⟩ := lv_at hs hok h
  exact hs.inner hok h rfl rfl (fun _ _ => rfl) rfl rfl ((setF_out hok y m f hf (by omega)).wide hy hm)
/-- A head that lies elsewhere stays. -/
theorem BlkE.keep (h : BlkE t x X) (ha : u.a = t.a) (hs : u.s = t.s) (hk : KdOn u x 32 5) (hx4 : x % 4 = 0) (hb : ∀ k, k < sz X.tag.toNat → byteAt u (x + k) = byteAt t (x + k)) : BlkE u x X := by
  have hz := sz_le X.tag.toNat h.h.tg
  refine ⟨⟨h.h.tg, by rw [ha, hs]; exact h.h.base, h.h.al, by rw [ha, hs]; exact h.h.fit, h.h.k0, fun g g1 g2 => hk g g1 (by omega), fun f hf h0 j hj => ?_, h.h.lt⟩, h.ok, h.r, h.tg⟩
  have w := wh_ok X.tag.toNat f h.h.tg hf h0
  rw [Nat.add_assoc, hb _ (by omega), ← Nat.add_assoc]
  exact h.h.byte f hf h0 j hj
/-- A block was taken: it is in no slot, and has no head yet. -/
structure GB (w0 : World) (q : MH) (S S' : SS) (x : Nat) (L : Nat → Prop) (u : TM) (E : Nat → HB) (B : Nat → List Nat) (W : World) : Prop where
  h : IsH W q u
  sl : SlI u S'
  ix : IxI u L E
  rh : RZ 224 u.sl (hmE u E)
  lb : LbI u L E B
  lv : ∀ y, L y → LvP S y
  new : ∃ n, TakeL 7 S S' x n
  a : u.a = 7
  s : u.s = 224
  ft : u.ft = 0
  f : Fr [] w0 W
  hq : ∀ k ∈ q.blocks, w0.heap.size ≤ k
theorem GB.fr0 (g : GB w0 q S S' x L u E B W) (hf : Fr [] W W') : GB w0 q S S' x L u E B W' := ⟨g.h.fr0 hf, g.sl, g.ix, g.rh, g.lb, g.lv, g.new, g.a, g.s, g.ft, g.f.trans hf, g.hq⟩
/-- What stays of the index where a memory changes elsewhere. -/
theorem IxI.keepTo (g : IxI u L E) (hb : LbI u L E B) (ea : v.a = u.a) (es : v.s = u.s) (esl : v.sl = u.sl) (hk : ∀ y, L y → KdOn v y 32 5 ∧ y % 4 = 0 ∧ ∀ k, k < 32 → byteAt v (y + k) = byteAt u (y + k)) : IxI v L E ∧ LbI v L E B ∧ hmE v E = hmE u E := by
  refine ⟨⟨fun y hy => ?_, fun i hi => by rw [esl]; exact g.sl i (by omega), by rw [es]; exact g.s0, by rw [es]; exact g.s1⟩, hb.to (fun y hy _ j hj => ?_), by unfold hmE; rw [es]⟩
  · obtain ⟨k1, k2, k3⟩ := hk y hy
    have hz := sz_le (E y).tag.toNat (g.e y hy).h.tg
    exact (g.e y hy).keep ea es k1 k2 (fun k hk => k3 k (by omega))
  · rw [Nat.add_assoc]
    exact (hk y hy).2.2 (16 + j) (by omega)
theorem GB.lvx (g : GB w0 q S S' x L u E B W) : ∃ n, Lv u.a S' x n ∧ 32 ≤ n ∧ LvP S' x ∧ ¬ LvP S x ∧ (∀ y, LvP S' y ↔ y = x ∨ LvP S y) ∧ ∀ y, LvP S y → x + n ≤ y ∨ y + 32 ≤ x := by
  obtain ⟨n, tl⟩ := g.new
  have h1 : Lv u.a S' x n := by rw [g.a]; exact tl.new
  obtain ⟨b1, b2, b3, b4, b5, b6, b7⟩ := lv_at g.sl g.h.m.ok h1
  refine ⟨n, h1, b4, ⟨n, tl.new⟩, fun ⟨m, hm⟩ => (tl.old x m hm).2 rfl, fun y => ⟨fun ⟨m, hm⟩ => (tl.all y m hm).imp id (fun h => ⟨m, h⟩), fun h => ?_⟩, fun y ⟨m, hm⟩ => ?_⟩
  · rcases h with e | ⟨m, hm⟩
    · rw [e]; exact ⟨n, tl.new⟩
    · exact ⟨m, (tl.old y m hm).1⟩
  · obtain ⟨o1, o2⟩ := tl.old y m hm
    have hy : Lv u.a S' y m := by rw [g.a]; exact o1
    have := (lv_at g.sl g.h.m.ok hy)
    have ap := lv_apart g.sl g.h.m.ok h1 hy (fun e => o2 e.symm)
    omega
/-- The block alone changes. -/
theorem GB.to (g : GB w0 q S S' x L u E B W) (h : IsH W' q v) (hf : Fr q.blocks W W') (hs : SlI v S') (ea : v.a = u.a) (es : v.s = u.s) (esl : v.sl = u.sl) (eft : v.ft = u.ft) {n : Nat} (hn : Lv u.a S' x n) (ho : Out u v x n) : GB w0 q S S' x L v E B W' := by
  have hu := g.h.m.ok
  obtain ⟨n', lv', _, _, _, hL, hap⟩ := g.lvx
  obtain rfl := lv_uniq g.sl hu lv' hn
  obtain ⟨k1, k2, k3⟩ := g.ix.keepTo g.lb ea es esl (fun y hy => by
    have hLy := (hL y).2 (.inr (g.lv y hy))
    obtain ⟨m, hm⟩ := hLy
    have hm' : Lv v.a S' y m := by rw [ea, g.a]; exact hm
    obtain ⟨b1, b2, b3, b4, b5, b6, b7⟩ := lv_at hs h.m.ok hm'
    have := hap y (g.lv y hy)
    rw [ea, es] at b1
    exact ⟨fun g g1 g2 => b7 g g1 (by omega), by omega, fun k hk => ho.by_ (y + k) (by omega) (by omega)⟩)
  exact ⟨h, hs, k1, by rw [esl, k3]; exact g.rh, k2, g.lv, g.new, ea.trans g.a, es.trans g.s, eft.trans g.ft, g.f.step hf (fun k hk => .inr (g.hq k hk)), g.hq⟩
/-- It counts. -/
theorem GB.add (g : GB w0 q S S' x L u E B W) (hX : BlkE u x X) {l : List Nat} (hl : X.tag = 2 → X.label = (l.length : Int) ∧ l.length ≤ 16 ∧ (∀ b ∈ l, b < 256) ∧ ByOn u (x + 16) l.length (fun j => l[j]?.getD 0)) :
    GI w0 q S' (fun y => y = x ∨ L y) u (up E x X) (up B x l) W := by
  obtain ⟨n, lv, h32, hx', hx, hL, hap⟩ := g.lvx
  have hxL : ¬ L x := fun h => hx (g.lv x h)
  have hE : ∀ y, L y → up E x X y = E y := fun y hy => up_ne _ _ (fun e => hxL (e ▸ hy))
  have hB : ∀ y, L y → up B x l y = B y := fun y hy => up_ne _ _ (fun e => hxL (e ▸ hy))
  refine ⟨g.h, g.sl, ⟨fun y hy => ?_, fun i hi => (g.ix.sl i hi).imp id .inr, g.ix.s0, g.ix.s1⟩, g.rh.congr (fun y => by unfold hmE; rw [g.s]; exact Nat.mod_lt _ (by decide)) (fun s hs h0 => ?_), fun y hy ht => ?_, fun y hy => ?_, g.a, g.s, g.ft, g.f, g.hq⟩
  · rcases hy with rfl | hy
    · rw [up_same]; exact hX
    · rw [hE y hy]; exact g.ix.e y hy
  · unfold hmE
    rw [hE _ ((g.ix.sl _ (by rw [g.s]; exact hs)).resolve_left h0)]
  · by_cases e : y = x
    · subst e
      rw [up_same] at ht
      rw [up_same, up_same]; exact hl ht
    · have hy := hy.resolve_left e
      rw [hE y hy] at ht ⊢
      rw [hB y hy]; exact g.lb y hy ht
  · exact (hL y).2 (hy.imp id (g.lv y))
/-- Take. -/
def TkB (w0 : World) (q : MH) (S : SS) (L : Nat → Prop) (u : TM) (E : Nat → HB) (B : Nat → List Nat) (w' : World) : Prop :=
  ((takeS 7 (lbase 7 224) S 1).2.1 ≠ 0 ∧ ∃ v, GI w0 q S L v E B w' ∧ v.sl = u.sl) ∨ ((takeS 7 (lbase 7 224) S 1).2.1 = 0 ∧ ∃ v, GB w0 q S (takeS 7 (lbase 7 224) S 1).2.2 (takeS 7 (lbase 7 224) S 1).1 L v E B w' ∧ v.sl = u.sl)
theorem nb_take (g : GI w0 q S L u E B W) : Calls Tryz.prog 54 #[.pointer (some ⟨q.m, 0, none⟩), .int .i64 1] W fun e w' => e = .returned (.tuple #[.int .i64 (takeS 7 (lbase 7 224) S 1).1, .int .i64 (takeS 7 (lbase 7 224) S 1).2.1]) ∧ Fr q.blocks W w' ∧ TkB w0 q S L u E B w' := by
  have hc := stake g.h g.sl 1
  have hp := take_plain g.sl g.h.m.ok 1
  rw [g.a, g.s] at hc hp
  refine hc.mono fun e w' ⟨he, v, k1, k2, k3, k4, k5, k6⟩ => ⟨he, k6, ?_⟩
  have hf : Fr [] w0 w' := g.f.step k6 (fun k hk => .inr (g.hq k hk))
  have hok := k1.m.ok
  have keep : ∀ {S'' : SS}, SlI v S'' → (∀ y m, Lv 7 S y m → Lv 7 S'' y m) → (∀ y, L y → (takeS 7 (lbase 7 224) S 1).2.1 = 0 → y ≠ (takeS 7 (lbase 7 224) S 1).1) → IxI v L E ∧ LbI v L E B ∧ hmE v E = hmE u E := fun {S''} hs'' ho hne =>
    g.ix.keepTo g.lb k3.a k3.s k3.sl (fun y hy => by
      obtain ⟨m, hm⟩ := g.lv y hy
      have hm' : Lv v.a S'' y m := by rw [k3.a, g.a]; exact ho y m hm
      obtain ⟨b1, b2, b3, b4, b5, b6, b7⟩ := lv_at hs'' hok hm'
      refine ⟨fun g g1 g2 => b7 g g1 (by omega), by omega, fun k hk => ?_⟩
      obtain ⟨i, hi, hyi, rfl⟩ := hm
      exact k4 i (by rw [g.a]; exact hi) y hyi (hne y hy) k (by omega))
  by_cases h0 : (takeS 7 (lbase 7 224) S 1).2.1 = 0
  · obtain ⟨c1, c2, tl⟩ := hp h0
    obtain ⟨r1, r2, r3⟩ := keep k2 (fun y m hm => (tl.old y m hm).1) (fun y hy _ => by
      obtain ⟨m, hm⟩ := g.lv y hy
      exact (tl.old y m hm).2)
    exact .inr ⟨h0, v, ⟨k1, k2, r1, by rw [k3.sl, r3]; exact g.rh, r2, g.lv, ⟨_, tl⟩, k3.a.trans g.a, k3.s.trans g.s, k3.ft.trans g.ft, hf, g.hq⟩, k3.sl⟩
  · have hS := take_none 7 (lbase 7 224) S 1 h0
    rw [hS] at k2
    obtain ⟨r1, r2, r3⟩ := keep k2 (fun _ _ h => h) (fun y hy e => absurd e h0)
    exact .inl ⟨h0, v, ⟨k1, k2, r1, by rw [k3.sl, r3]; exact g.rh, r2, g.lv, k3.a.trans g.a, k3.s.trans g.s, k3.ft.trans g.ft, hf, g.hq⟩, k3.sl⟩
/-- Put. -/
theorem nb_put (g : GB w0 q S S' x L u E B W) (hX : X.Ok) (hr : X.right = true) (ht : X.tag = 1 ∨ X.tag = 2) : Calls Tryz.prog 116 #[.pointer (some ⟨q.m, 0, none⟩), .int .i64 x, X.val] W fun e w' => e = .returned (.int .i64 0) ∧ Fr q.blocks W w' ∧ ∃ v, GB w0 q S S' x L v E B w' ∧ BlkE v x X ∧ v.sl = u.sl := by
  obtain ⟨n, lv, h32, _, _, _, hap⟩ := g.lvx
  have ok := g.h.m.ok
  have htn : X.tag = (X.tag.toNat : Int) := by rcases ht with e | e <;> rw [e] <;> rfl
  have htg : X.tag.toNat ≤ 2 := by rcases ht with e | e <;> rw [e] <;> decide
  have ht0 : X.tag.toNat ≠ 0 := by rcases ht with e | e <;> rw [e] <;> decide
  have hz := sz_le X.tag.toNat htg
  obtain ⟨b1, b2, b3, b4, b5, b6, b7⟩ := lv_at g.sl ok lv
  have hh : HeadTo u x X.tag.toNat 5 X.num 0 := ⟨htg, b1, by omega, by omega, by decide, fun g g1 g2 => b7 g g1 (by omega), fun f hf => absurd hf (Nat.not_lt_zero _), fun f hf => absurd hf (Nat.not_lt_zero _)⟩
  have hn : ∀ f, f < 12 → (wh X.tag.toNat f).2 ≠ 0 → X.num f < 256 ^ (wh X.tag.toNat f).2 := fun f hf h0 => num_fit X hX X.tag.toNat (by omega) htn hr f hf h0
  have as_ := putH_as u x X.tag.toNat X.num 12
  obtain ⟨r1, r2, r3, r4, r5⟩ := putH_restG u x X.tag.toNat X.num 12
  have hE := putH_head ok hh hn 12 (Nat.le_refl _)
  have hs := g.sl.rputG ok lv htg X.num
  have ho := (putH_outG ok b1 htg X.num 12 (Nat.le_refl _)).wide (y := x) (m := n) (Nat.le_refl _) (by omega)
  refine (hput_yes W q u g.h x X.tag.toNat 5 X.num hh X hX hr htn (.inr ⟨rfl, ht0⟩)).mono fun e w' ⟨he, k1, k2⟩ => ⟨he, k2, _, g.to k1 k2 hs as_.1 as_.2 r5 r4 lv ho, ⟨hE, hX, hr, ht⟩, r5⟩
/-- Write, behind a node's head. -/
theorem nb_write (g : GB w0 q S S' x L u E B W) (hX : BlkE u x X) (ht : X.tag = 2) {a : Option Addr} {c : Nat} {l : List Nat} (hb : Byt W a l) (hg : ∀ g o, a = some ⟨g, o, none⟩ → g ≠ q.pw) (hl : l.length ≤ 16) :
    Calls Tryz.prog 117 #[.pointer (some ⟨q.m, 0, none⟩), .int .i64 ((x : Int) + 16), .slice a l.length c, .int .i64 5] W fun e w' => e = .returned (.bool true) ∧ Fr q.blocks W w' ∧ ∃ v, GB w0 q S S' x L v E B w' ∧ BlkE v x X ∧ v.sl = u.sl ∧ ByOn v (x + 16) l.length (fun j => l[j]?.getD 0) := by
  obtain ⟨n, lv, h32, _, _, _, hap⟩ := g.lvx
  have ok := g.h.m.ok
  obtain ⟨b1, b2, b3, b4, b5, b6, b7⟩ := lv_at g.sl ok lv
  have hf : ∀ j, j < l.length → (fun j => l[j]?.getD 0) j < 256 := fun j hj => by
    show l[j]?.getD 0 < 256
    rw [List.getElem?_eq_getElem hj]; exact hb.byte _ (List.getElem_mem hj)
  have hs := g.sl.wrt ok lv (y := x + 16) (m := l.length) (by omega) (by omega) _ hf
  have ho := (setF_out ok (x + 16) l.length (fun j => l[j]?.getD 0) hf (by omega)).wide (y := x) (m := n) (by omega) (by omega)
  have hon := setF_on ok (x + 16) l.length (fun j => l[j]?.getD 0) hf (by omega)
  refine (twrite g.h.m (x + 16) 16 5 c a l hb hg (by omega) (by omega) (fun g g1 g2 => b7 g (by omega) (by omega)) (by omega) (by decide) hl (by decide) _ _ (by push_cast; rfl) rfl).mono fun e w' ⟨he, k1, k2⟩ => ⟨he, k2, _, g.to (g.h.step k1 k2) k2 hs rfl rfl rfl rfl lv ho, ?_, rfl, hon⟩
  have hsz : sz X.tag.toNat = 16 := by rw [ht]; rfl
  refine hX.keep rfl rfl (fun g g1 g2 => b7 g g1 (by omega)) (by omega) (fun k hk => ?_)
  rw [setF_byte ok (x + 16) l.length _ hf (by omega), if_neg (by omega)]
end
end Go.Proofs.YtmemoopkgjgmiaaGreatDoor

/- law20.block: the walk. -/
namespace Go.Proofs.YtmemoopkgjgmiaaGreatDoor
set_option linter.unusedVariables false
set_option linter.unusedSimpArgs false
open Go.RowKit

theorem strOf_size (l : List Nat) : (strOf l).size = l.length := by
  simp [strOf, ByteArray.size]
/-- A string as bytes: a new row. -/
theorem str_conv (l : List Nat) (hl : ∀ b ∈ l, b < 256) (hn : l.length ≤ 1099511627776) (w : World) : ∃ (c : Nat) (w' : World), (convert 9 62 (.string (strOf l))).run Tryz.prog w = .ok (.slice (some ⟨w.heap.size, 0, none⟩) l.length c) w' ∧ Byt w' (some ⟨w.heap.size, 0, none⟩) l ∧ Fr [] w w' := by
  refine ⟨_, _, by rw [run_bytes_of_string w 9 62 5 (strOf l) Tryz.underlying9 Tryz.underlying62 Tryz.underlying5, strOf_size], ?_, ((Fr.refl [] w).drew).alloc _⟩
  have hget : ∀ (c i : Nat), i < l.length → (bytesRow (strOf l) c)[i]? = some (.int .u8 ((l[i]?.getD 0 : Nat) : Int)) := fun c i hi => by
    unfold bytesRow strOf
    rw [Array.getElem?_append_left (by simpa using hi)]
    simp [hi, Nat.mod_eq_of_lt (hl _ (List.getElem_mem hi))]
  generalize hC : bytesRow (strOf l) (grownCap w l.length 0 5) = C at *
  have hg : ∀ i, i < l.length → C[i]? = some (.int .u8 ((l[i]?.getD 0 : Nat) : Int)) := fun i hi => by rw [← hC]; exact hget _ i hi
  refine ⟨fun i hi => ⟨_, 0, rfl, ?_, ?_⟩, hl, hn⟩
  · rw [Nat.zero_add]
    exact (cell_of_row _ _ i C _ _ (heap_alloc_new w.drew _)).trans (hg i hi)
  · show w.heap.size < (w.drew.alloc _).heap.size
    simp
section
variable {w0 W W' : World} {q : MH} {S S' : SS} {x y n m tag : Nat} {t u v : TM} {L : Nat → Prop} {E : Nat → HB} {B : Nat → List Nat} {X : HB}
/-- A new block, both ways. -/
def BlkP (w0 : World) (q : MH) (S : SS) (L : Nat → Prop) (u : TM) (E : Nat → HB) (B : Nat → List Nat) (X : HB) (l : List Nat) (x : Nat) (w' : World) : Prop :=
  (x = 0 ∧ (takeS 7 (lbase 7 224) S 1).2.1 ≠ 0 ∧ ∃ v, GI w0 q S L v E B w' ∧ v.sl = u.sl) ∨
  ((takeS 7 (lbase 7 224) S 1).2.1 = 0 ∧ x = (takeS 7 (lbase 7 224) S 1).1 ∧ 0 < x ∧ x < 1048576 ∧ ¬ LvP S x ∧ ∃ v, GI w0 q (takeS 7 (lbase 7 224) S 1).2.2 (fun y => y = x ∨ L y) v (up E x X) (up B x l) w' ∧ v.sl = u.sl)
theorem GI.frL (g : GI w0 q S L u E B W) {Bs : List Nat} (hf : Fr Bs W W') (hB : ∀ k ∈ Bs, k ∉ q.blocks ∧ 5 ≤ k ∧ w0.heap.size ≤ k) : GI w0 q S L u E B W' :=
  ⟨⟨g.h.m.fr hf (fun k hk hm => (hB k hm).1 hk) (fun k hk hm => by have := (hB k hm).2.1; omega), g.h.tabs.fr hf (fun k hk => by have := (hB k hk).2.1; omega), g.h.hi⟩, g.sl, g.ix, g.rh, g.lb, g.lv, g.a, g.s, g.ft, g.f.step hf (fun k hk => .inr (hB k hk).2.2), g.hq⟩
theorem GI.gx (g : GI w0 q S L u E B W) : 5 ≤ W.heap.size := by
  have h1 := g.h.m.tab.size
  have h2 := g.h.tabs.size
  omega
set_option maxRecDepth 100000 in
theorem iblkE (g : GI w0 q S L u E B W) (at_ : Int) (nm ty hs : Nat) (h1 : nm < 4294967296) (h2 : ty < 65536) (h3 : hs < 4294967296) :
    Calls Tryz.prog 29 #[.pointer (some ⟨q.m, 0, none⟩), .agg #[.int .i64 at_, .bool false, .int .u32 nm, .int .u16 ty, .string (strOf []), .int .u32 hs]] W fun e w' => ∃ x : Nat, e = .returned (.agg #[.int .i64 x, .bool false, .int .u32 nm, .int .u16 ty, .string (strOf []), .int .u32 hs]) ∧ Fr q.blocks W w' ∧ BlkP w0 q S L u E B (rbX false nm ty 0 hs) [] x w' := by
  have HT := Lib.hid (fun V (hV : GI w0 q S L u E B V) => nb_take hV)
  have HOK := Lib.hid (rbX_ok (nd := false) (n := 0) h1 h2 h3 (fun h => nomatch h))
  have HP := Lib.hid (fun V v S' x (hV : GB w0 q S S' x L v E B V) => (show Calls Tryz.prog 116 #[.pointer (some ⟨q.m, 0, none⟩), .int .i64 x, .agg #[.int .i64 1, .int .i64 1, .bool false, .int .i64 0, .int .u32 nm, .int .u32 0, .int .u32 0, .int .u32 0, .int .u64 0, .int .u16 ty, .int .i64 0, .int .u32 hs]] V fun e w' => e = .returned (.int .i64 0) ∧ Fr q.blocks V w' ∧ ∃ v', GB w0 q S S' x L v' E B w' ∧ BlkE v' x (rbX false nm ty 0 hs) ∧ v'.sl = v.sl from
    nb_put hV HOK.out.1 HOK.out.2.1 HOK.out.2.2))
  have G0 := Lib.hid g
  have hql : ∀ k ∈ q.blocks, k < W.heap.size := g.h.m.lt
  have HQ := Lib.hid (show ∀ x w1 w', Fr q.blocks W w1 → Fr [W.heap.size, W.heap.size + 1] w1 w' → ((x = 0 ∧ (takeS 7 (lbase 7 224) S 1).2.1 ≠ 0 ∧ ∃ v, GI w0 q S L v E B w1 ∧ v.sl = u.sl) ∨
    ((takeS 7 (lbase 7 224) S 1).2.1 = 0 ∧ x = (takeS 7 (lbase 7 224) S 1).1 ∧ 0 < x ∧ x < 1048576 ∧ ¬ LvP S x ∧ ∃ v, GI w0 q (takeS 7 (lbase 7 224) S 1).2.2 (fun y => y = x ∨ L y) v (up E x (rbX false nm ty 0 hs)) (up B x []) w1 ∧ v.sl = u.sl)) → Fr q.blocks W w' ∧ BlkP w0 q S L u E B (rbX false nm ty 0 hs) [] x w' from fun x w1 w' h1 h2 h3 => by
      have hk : ∀ k ∈ [W.heap.size, W.heap.size + 1], k ∉ q.blocks ∧ 5 ≤ k ∧ w0.heap.size ≤ k := fun k hk => by
        have h1 := g.gx
        have h2 := g.f.size
        simp only [List.mem_cons, List.not_mem_nil, or_false] at hk
        exact ⟨fun h => by have := hql _ h; omega, by omega, by omega⟩
      refine ⟨h1.step h2 (fun k hm => .inr (by simp only [List.mem_cons, List.not_mem_nil, or_false] at hm; omega)), ?_⟩
      rcases h3 with ⟨k1, k2, v, k3, k4⟩ | ⟨k1, k2, k3, k4, k5, v, k6, k7⟩
      · exact .inl ⟨k1, k2, v, k3.frL h2 hk, k4⟩
      · exact .inr ⟨k1, k2, k3, k4, k5, v, k6.frL h2 hk, k7⟩)
  generalize BlkP w0 q S L u E B (rbX false nm ty 0 hs) [] = Q at *
  unfold TkB at HT
  generalize hS' : (takeS 7 (lbase 7 224) S 1).2.2 = S' at *
  generalize hr : (takeS 7 (lbase 7 224) S 1).2.1 = r at *
  generalize hx : (takeS 7 (lbase 7 224) S 1).1 = x at *
  clear g h1 h2 h3 hS' hr hx
  generalize strOf [] = lb at *
  have B3 := Lib.hid (((Blk.new W 33 #[.int .i64 0, .bool false, .int .u32 nm, .int .u16 ty, .string lb, .int .u32 hs]).alloc (.cells #[.int .i64 0, .bool false, .int .u32 0, .int .u16 0, .string ⟨#[]⟩, .int .u32 0] 33)).alloc (.cells #[.int .i64 1, .int .i64 1, .bool false, .int .i64 0, .int .u32 nm, .int .u32 0, .int .u32 0, .int .u32 0, .int .u64 0, .int .u16 ty, .int .i64 0, .int .u32 hs] 168))
  have B4 := Lib.hid ((Blk.new (W.alloc (.cells #[.int .i64 0, .bool false, .int .u32 nm, .int .u16 ty, .string lb, .int .u32 hs] 33)) 33 #[.int .i64 0, .bool false, .int .u32 0, .int .u16 0, .string ⟨#[]⟩, .int .u32 0]).alloc (.cells #[.int .i64 1, .int .i64 1, .bool false, .int .i64 0, .int .u32 nm, .int .u32 0, .int .u32 0, .int .u32 0, .int .u64 0, .int .u16 ty, .int .i64 0, .int .u32 hs] 168))
  have B5 := Lib.hid (Blk.new ((W.alloc (.cells #[.int .i64 0, .bool false, .int .u32 nm, .int .u16 ty, .string lb, .int .u32 hs] 33)).alloc (.cells #[.int .i64 0, .bool false, .int .u32 0, .int .u16 0, .string ⟨#[]⟩, .int .u32 0] 33)) 168 #[.int .i64 1, .int .i64 1, .bool false, .int .i64 0, .int .u32 nm, .int .u32 0, .int .u32 0, .int .u32 0, .int .u64 0, .int .u16 ty, .int .i64 0, .int .u32 hs])
  have F3 := Lib.hid ((((Fr.refl [] W).alloc (.cells #[.int .i64 0, .bool false, .int .u32 nm, .int .u16 ty, .string lb, .int .u32 hs] 33)).alloc (.cells #[.int .i64 0, .bool false, .int .u32 0, .int .u16 0, .string ⟨#[]⟩, .int .u32 0] 33)).alloc (.cells #[.int .i64 1, .int .i64 1, .bool false, .int .i64 0, .int .u32 nm, .int .u32 0, .int .u32 0, .int .u32 0, .int .u64 0, .int .u16 ty, .int .i64 0, .int .u32 hs] 168))
  rw [show (W.alloc (.cells #[.int .i64 0, .bool false, .int .u32 nm, .int .u16 ty, .string lb, .int .u32 hs] 33)).heap.size = W.heap.size + 1 by simp] at B4
  rw [show ((W.alloc (.cells #[.int .i64 0, .bool false, .int .u32 nm, .int .u16 ty, .string lb, .int .u32 hs] 33)).alloc (.cells #[.int .i64 0, .bool false, .int .u32 0, .int .u16 0, .string ⟨#[]⟩, .int .u32 0] 33)).heap.size = W.heap.size + 1 + 1 by simp] at B5
  have n3 : W.heap.size ∉ q.blocks := fun h => by have := hql _ h; omega
  have n4 : W.heap.size + 1 ∉ q.blocks := fun h => by have := hql _ h; omega
  have n5 : W.heap.size + 1 + 1 ∉ q.blocks := fun h => by have := hql _ h; omega
  have N := Lib.hid (And.intro n3 (And.intro n4 n5))
  clear hql n3 n4 n5
  go_enter Tryz.func29, Tryz.ntmps29
  go_wp2_with fail
  with_reducible refine (HT.out _ (G0.out.fr0 F3.out)).mono ?_
  rintro e w1 ⟨rfl, f1, hT⟩
  have C3 := Lib.hid (B3.out.fr f1 N.out.1)
  have C4 := Lib.hid (B4.out.fr f1 N.out.2.1)
  have C5 := Lib.hid (B5.out.fr f1 N.out.2.2)
  have F1 := Lib.hid (F3.out.nil.trans f1)
  clear f1 HT B3 B4 B5 F3 G0
  generalize hb : W.heap.size = b3 at *
  have HB := Lib.hid hb
  clear hb
  rcases hT with ⟨h0, v, g1, ef⟩ | ⟨h0, v, g1, ef⟩
  · have hr0 : ((r : Int) != 0) = true := by simp; omega
    have G1 := Lib.hid (fun w' (hf : Fr [b3, b3 + 1] w1 w') => HQ.out 0 w1 w' F1.out hf (.inl ⟨rfl, h0, v, g1, ef⟩))
    clear g1 ef h0 HQ
    (have c0 := C3.out.cell 0; have z0 := C3.out.frozen 0; have c1 := C3.out.cell 1; have c2 := C3.out.cell 2; have c3 := C3.out.cell 3; have c4 := C3.out.cell 4; have c5 := C3.out.cell 5; simp at c0 c1 c2 c3 c4 c5 z0)
    (have d0 := C4.out.cell 0; have y0 := C4.out.frozen 0; have d1 := C4.out.cell 1; have y1 := C4.out.frozen 1; have d2 := C4.out.cell 2; have y2 := C4.out.frozen 2; have d3 := C4.out.cell 3; have y3 := C4.out.frozen 3; have d4 := C4.out.cell 4; have y4 := C4.out.frozen 4; have d5 := C4.out.cell 5; have y5 := C4.out.frozen 5; simp at d0 d1 d2 d3 d4 d5 y0 y1 y2 y3 y4 y5)
    go_wp2_with fail
    ((try simp only [Exit.inBlock, Exit.then]); refine bodyPost_ret (results_cell_row (p := 4) (ty := 33) rfl _ _ (b3 + 1) 33 #[.int .i64 (0 : Nat), .bool false, .int .u32 nm, .int .u16 ty, .string lb, .int .u32 hs] (0, 0) _ rfl ?hrow Tryz.underlying33 rfl (by kernel_rfl)) rfl ?_; case hrow => exact (((((C4.out.set 0 _).set 1 _).set 2 _).set 3 _).set 4 _).set 5 _)
    exact ⟨0, rfl, G1.out _ (by repeat (first | (with_reducible exact Fr.refl _ _) | (with_reducible apply Fr.alloc) | (with_reducible apply Fr.drew) | (with_reducible refine Fr.setCell ?_ (Or.inl (by simp)) _)))⟩
  · subst h0
    have HU := Lib.hid (fun V (hV : GB w0 q S S' x L v E B V) => HP.out V v S' x hV)
    have G1 := Lib.hid g1
    have EF := Lib.hid ef
    clear g1 ef HP
    (have c0 := C3.out.cell 0; have z0 := C3.out.frozen 0; have c1 := C3.out.cell 1; have c2 := C3.out.cell 2; have c3 := C3.out.cell 3; have c4 := C3.out.cell 4; have c5 := C3.out.cell 5; simp at c0 c1 c2 c3 c4 c5 z0)
    (have q0 := C5.out.cell 0; have q1 := C5.out.cell 1; have q2 := C5.out.cell 2; have q3 := C5.out.cell 3; have q4 := C5.out.cell 4; have q5 := C5.out.cell 5; have q6 := C5.out.cell 6; have q7 := C5.out.cell 7; have q8 := C5.out.cell 8; have q9 := C5.out.cell 9; have q10 := C5.out.cell 10; have q11 := C5.out.cell 11; simp at q0 q1 q2 q3 q4 q5 q6 q7 q8 q9 q10 q11)
    go_wp2_with fail
    with_reducible refine (HU.out _ G1.out).mono ?_
    rintro e w2 ⟨rfl, f2, v2, g2, hX, ef2⟩
    have F2 := Lib.hid (F1.out.trans f2)
    have D3 := Lib.hid (C3.out.fr f2 N.out.1)
    have D4 := Lib.hid (C4.out.fr f2 N.out.2.1)
    have G2 := Lib.hid (fun w' (hf : Fr [b3, b3 + 1] w2 w') => HQ.out x w2 w' F2.out hf (.inr (by
      obtain ⟨n, lv, h32, hx', hx, hL, hap⟩ := g2.lvx
      have hg := g2.add hX (l := []) (fun h => absurd h (show ¬ ((1 : Int) = 2) by decide))
      have hpos := (hg.ix.e x (.inl rfl)).pos hg.h.m.ok
      exact ⟨by first | exact rfl | trivial, rfl, by omega, hpos.2, hx, v2, hg, ef2.trans EF.out⟩)))
    clear f2 g2 hX ef2 HQ C3 C4 C5 G1 HU EF c0 z0 c1 c2 c3 c4 c5 q0 q1 q2 q3 q4 q5 q6 q7 q8 q9 q10 q11
    (have c0 := D3.out.cell 0; have z0 := D3.out.frozen 0; have c1 := D3.out.cell 1; have c2 := D3.out.cell 2; have c3 := D3.out.cell 3; have c4 := D3.out.cell 4; have c5 := D3.out.cell 5; simp at c0 c1 c2 c3 c4 c5 z0)
    (have d0 := D4.out.cell 0; have y0 := D4.out.frozen 0; have d1 := D4.out.cell 1; have y1 := D4.out.frozen 1; have d2 := D4.out.cell 2; have y2 := D4.out.frozen 2; have d3 := D4.out.cell 3; have y3 := D4.out.frozen 3; have d4 := D4.out.cell 4; have y4 := D4.out.frozen 4; have d5 := D4.out.cell 5; have y5 := D4.out.frozen 5; simp at d0 d1 d2 d3 d4 d5 y0 y1 y2 y3 y4 y5)
    go_wp2_with fail
    ((try simp only [Exit.inBlock, Exit.then]); refine bodyPost_ret (results_cell_row (p := 4) (ty := 33) rfl _ _ (b3 + 1) 33 #[.int .i64 (x : Nat), .bool false, .int .u32 nm, .int .u16 ty, .string lb, .int .u32 hs] (0, 0) _ rfl ?hrow Tryz.underlying33 rfl (by kernel_rfl)) rfl ?_; case hrow => exact ((((((D4.out.far (by simp) _).set 0 _).set 1 _).set 2 _).set 3 _).set 4 _).set 5 _)
    exact ⟨x, rfl, G2.out _ (by repeat (first | (with_reducible exact Fr.refl _ _) | (with_reducible apply Fr.alloc) | (with_reducible apply Fr.drew) | (with_reducible refine Fr.setCell ?_ (Or.inl (by simp)) _)))⟩
set_option maxRecDepth 100000 in
theorem iblkN (g : GI w0 q S L u E B W) (at_ : Int) (nm ty hs : Nat) (l : List Nat) (h1 : nm < 4294967296) (h2 : ty < 65536) (h3 : hs < 4294967296) (hl : ∀ b ∈ l, b < 256) (hn1 : 1 ≤ l.length) (hn2 : l.length ≤ 16) :
    Calls Tryz.prog 29 #[.pointer (some ⟨q.m, 0, none⟩), .agg #[.int .i64 at_, .bool true, .int .u32 nm, .int .u16 ty, .string (strOf l), .int .u32 hs]] W fun e w' => ∃ x : Nat, e = .returned (.agg #[.int .i64 x, .bool true, .int .u32 nm, .int .u16 ty, .string (strOf l), .int .u32 hs]) ∧ Fr q.blocks W w' ∧ BlkP w0 q S L u E B (rbX true nm ty l.length hs) l x w' := by
  have HT := Lib.hid (fun V (hV : GI w0 q S L u E B V) => nb_take hV)
  have HOK := Lib.hid (rbX_ok (nd := true) (n := l.length) h1 h2 h3 (fun _ => ⟨hn1, hn2⟩))
  have HP := Lib.hid (fun V v S' x (hV : GB w0 q S S' x L v E B V) => (show Calls Tryz.prog 116 #[.pointer (some ⟨q.m, 0, none⟩), .int .i64 x, .agg #[.int .i64 2, .int .i64 1, .bool false, .int .i64 l.length, .int .u32 nm, .int .u32 0, .int .u32 0, .int .u32 0, .int .u64 0, .int .u16 0, .int .i64 0, .int .u32 hs]] V fun e w' => e = .returned (.int .i64 0) ∧ Fr q.blocks V w' ∧ ∃ v', GB w0 q S S' x L v' E B w' ∧ BlkE v' x (rbX true nm ty l.length hs) ∧ v'.sl = v.sl from
    nb_put hV HOK.out.1 HOK.out.2.1 HOK.out.2.2))
  have HW := Lib.hid (fun V v S' x a c (hV : GB w0 q S S' x L v E B V) (hX : BlkE v x (rbX true nm ty l.length hs)) (hb : Byt V a l) (hg : ∀ g o, a = some ⟨g, o, none⟩ → g ≠ q.pw) => nb_write (c := c) hV hX rfl hb hg hn2)
  have hql : ∀ k ∈ q.blocks, k < W.heap.size := g.h.m.lt
  have HX := Lib.hid (show ∀ V v S' x, GB w0 q S S' x L v E B V → BlkE v x (rbX true nm ty l.length hs) → ByOn v (x + 16) l.length (fun j => l[j]?.getD 0) → 0 < x ∧ x < 1048576 ∧ ¬ LvP S x ∧ GI w0 q S' (fun y => y = x ∨ L y) v (up E x (rbX true nm ty l.length hs)) (up B x l) V from fun V v S' x hg hX hb => by
    obtain ⟨n, lv, h32, hx', hx, hL, hap⟩ := hg.lvx
    have hg := hg.add hX (l := l) (fun _ => ⟨rfl, hn2, hl, hb⟩)
    have hpos := (hg.ix.e x (.inl rfl)).pos hg.h.m.ok
    exact ⟨by omega, hpos.2, hx, hg⟩)
  have HQ := Lib.hid (show ∀ x w1 w', Fr q.blocks W w1 → Fr [W.heap.size, W.heap.size + 1] w1 w' → ((x = 0 ∧ (takeS 7 (lbase 7 224) S 1).2.1 ≠ 0 ∧ ∃ v, GI w0 q S L v E B w1 ∧ v.sl = u.sl) ∨
    ((takeS 7 (lbase 7 224) S 1).2.1 = 0 ∧ x = (takeS 7 (lbase 7 224) S 1).1 ∧ 0 < x ∧ x < 1048576 ∧ ¬ LvP S x ∧ ∃ v, GI w0 q (takeS 7 (lbase 7 224) S 1).2.2 (fun y => y = x ∨ L y) v (up E x (rbX true nm ty l.length hs)) (up B x l) w1 ∧ v.sl = u.sl)) → Fr q.blocks W w' ∧ BlkP w0 q S L u E B (rbX true nm ty l.length hs) l x w' from fun x w1 w' h1 h2 h3 => by
      have hk : ∀ k ∈ [W.heap.size, W.heap.size + 1], k ∉ q.blocks ∧ 5 ≤ k ∧ w0.heap.size ≤ k := fun k hk => by
        have h1 := g.gx
        have h2 := g.f.size
        simp only [List.mem_cons, List.not_mem_nil, or_false] at hk
        exact ⟨fun h => by have := hql _ h; omega, by omega, by omega⟩
      refine ⟨h1.step h2 (fun k hm => .inr (by simp only [List.mem_cons, List.not_mem_nil, or_false] at hm; omega)), ?_⟩
      rcases h3 with ⟨k1, k2, v, k3, k4⟩ | ⟨k1, k2, k3, k4, k5, v, k6, k7⟩
      · exact .inl ⟨k1, k2, v, k3.frL h2 hk, k4⟩
      · exact .inr ⟨k1, k2, k3, k4, k5, v, k6.frL h2 hk, k7⟩)
  generalize BlkP w0 q S L u E B (rbX true nm ty l.length hs) l = Q at *
  unfold TkB at HT
  generalize hS' : (takeS 7 (lbase 7 224) S 1).2.2 = S' at *
  generalize hr : (takeS 7 (lbase 7 224) S 1).2.1 = r at *
  generalize hx : (takeS 7 (lbase 7 224) S 1).1 = x at *
  obtain ⟨cF, hc1⟩ := Classical.axiomOfChoice (str_conv l hl (by omega))
  obtain ⟨wF, hc2⟩ := Classical.axiomOfChoice hc1
  have hcv := fun w => (hc2 w).1
  have HCB := Lib.hid (fun w => (hc2 w).2)
  have hsz := strOf_size l
  have G0 := Lib.hid g
  clear g h1 h2 h3 hS' hr hx hc1 hc2 HOK
  generalize strOf l = lb at *
  generalize rbX true nm ty l.length hs = X at *
  have HN := Lib.hid (show l.length ≤ 16 from hn2)
  clear hn1 hn2 hl
  generalize hnn : l.length = n at *
  clear hnn
  have B3 := Lib.hid (((Blk.new W 33 #[.int .i64 0, .bool true, .int .u32 nm, .int .u16 ty, .string lb, .int .u32 hs]).alloc (.cells #[.int .i64 0, .bool false, .int .u32 0, .int .u16 0, .string ⟨#[]⟩, .int .u32 0] 33)).alloc (.cells #[.int .i64 2, .int .i64 1, .bool false, .int .i64 n, .int .u32 nm, .int .u32 0, .int .u32 0, .int .u32 0, .int .u64 0, .int .u16 0, .int .i64 0, .int .u32 hs] 168))
  have B4 := Lib.hid ((Blk.new (W.alloc (.cells #[.int .i64 0, .bool true, .int .u32 nm, .int .u16 ty, .string lb, .int .u32 hs] 33)) 33 #[.int .i64 0, .bool false, .int .u32 0, .int .u16 0, .string ⟨#[]⟩, .int .u32 0]).alloc (.cells #[.int .i64 2, .int .i64 1, .bool false, .int .i64 n, .int .u32 nm, .int .u32 0, .int .u32 0, .int .u32 0, .int .u64 0, .int .u16 0, .int .i64 0, .int .u32 hs] 168))
  have B5 := Lib.hid (Blk.new ((W.alloc (.cells #[.int .i64 0, .bool true, .int .u32 nm, .int .u16 ty, .string lb, .int .u32 hs] 33)).alloc (.cells #[.int .i64 0, .bool false, .int .u32 0, .int .u16 0, .string ⟨#[]⟩, .int .u32 0] 33)) 168 #[.int .i64 2, .int .i64 1, .bool false, .int .i64 n, .int .u32 nm, .int .u32 0, .int .u32 0, .int .u32 0, .int .u64 0, .int .u16 0, .int .i64 0, .int .u32 hs])
  rw [show (W.alloc (.cells #[.int .i64 0, .bool true, .int .u32 nm, .int .u16 ty, .string lb, .int .u32 hs] 33)).heap.size = W.heap.size + 1 by simp] at B4
  rw [show ((W.alloc (.cells #[.int .i64 0, .bool true, .int .u32 nm, .int .u16 ty, .string lb, .int .u32 hs] 33)).alloc (.cells #[.int .i64 0, .bool false, .int .u32 0, .int .u16 0, .string ⟨#[]⟩, .int .u32 0] 33)).heap.size = W.heap.size + 1 + 1 by simp] at B5
  have n3 : W.heap.size ∉ q.blocks := fun h => by have := hql _ h; omega
  have n4 : W.heap.size + 1 ∉ q.blocks := fun h => by have := hql _ h; omega
  have n5 : W.heap.size + 1 + 1 ∉ q.blocks := fun h => by have := hql _ h; omega
  have N := Lib.hid (And.intro n3 (And.intro n4 n5))
  have HPW := Lib.hid (show ∀ V, Fr q.blocks W V → V.heap.size ≠ q.pw from fun V hV => by
    have h1 := hV.size
    have h2 := hql q.pw (by simp [MH.blocks])
    omega)
  have HGW := Lib.hid (show ∀ V, Fr [] W V → GI w0 q S L u E B V from fun V hV => G0.out.fr0 hV)
  clear hql n3 n4 n5 G0
  go_enter Tryz.func29, Tryz.ntmps29
  go_wp2_with fail
  with_reducible refine (HT.out _ (HGW.out _ (by repeat (first | (with_reducible exact Fr.refl _ _) | (with_reducible apply Fr.alloc) | (with_reducible apply Fr.drew) | (with_reducible refine Fr.setCell ?_ (Or.inr (by simp; try omega)) _))))).mono ?_
  rintro e w1 ⟨rfl, f1, hT⟩
  have C3 := Lib.hid (B3.out.fr f1 N.out.1)
  have C4 := Lib.hid (B4.out.fr f1 N.out.2.1)
  have C5 := Lib.hid (B5.out.fr f1 N.out.2.2)
  have F1 := Lib.hid (show Fr q.blocks W w1 from Fr.trans (by repeat (first | (with_reducible exact Fr.refl _ _) | (with_reducible apply Fr.alloc) | (with_reducible apply Fr.drew) | (with_reducible refine Fr.setCell ?_ (Or.inr (by simp; try omega)) _))) f1)
  clear f1 HT B3 B4 B5 HGW
  generalize hb : W.heap.size = b3 at *
  have HB := Lib.hid hb
  clear hb
  rcases hT with ⟨h0, v, g1, ef⟩ | ⟨h0, v, g1, ef⟩
  · have hr0 : ((r : Int) != 0) = true := by simp; omega
    have G1 := Lib.hid (fun w' (hf : Fr [b3, b3 + 1] w1 w') => HQ.out 0 w1 w' F1.out hf (.inl ⟨rfl, h0, v, g1, ef⟩))
    clear g1 ef h0 HQ HX
    (have c0 := C3.out.cell 0; have z0 := C3.out.frozen 0; have c1 := C3.out.cell 1; have c2 := C3.out.cell 2; have c3 := C3.out.cell 3; have c4 := C3.out.cell 4; have c5 := C3.out.cell 5; simp at c0 c1 c2 c3 c4 c5 z0)
    (have d0 := C4.out.cell 0; have y0 := C4.out.frozen 0; have d1 := C4.out.cell 1; have y1 := C4.out.frozen 1; have d2 := C4.out.cell 2; have y2 := C4.out.frozen 2; have d3 := C4.out.cell 3; have y3 := C4.out.frozen 3; have d4 := C4.out.cell 4; have y4 := C4.out.frozen 4; have d5 := C4.out.cell 5; have y5 := C4.out.frozen 5; simp at d0 d1 d2 d3 d4 d5 y0 y1 y2 y3 y4 y5)
    go_wp2_with fail
    ((try simp only [Exit.inBlock, Exit.then]); refine bodyPost_ret (results_cell_row (p := 4) (ty := 33) rfl _ _ (b3 + 1) 33 #[.int .i64 (0 : Nat), .bool true, .int .u32 nm, .int .u16 ty, .string lb, .int .u32 hs] (0, 0) _ rfl ?hrow Tryz.underlying33 rfl (by kernel_rfl)) rfl ?_; case hrow => exact (((((C4.out.set 0 _).set 1 _).set 2 _).set 3 _).set 4 _).set 5 _)
    exact ⟨0, rfl, G1.out _ (by repeat (first | (with_reducible exact Fr.refl _ _) | (with_reducible apply Fr.alloc) | (with_reducible apply Fr.drew) | (with_reducible refine Fr.setCell ?_ (Or.inl (by simp)) _)))⟩
  · subst h0
    have HU := Lib.hid (fun V (hV : GB w0 q S S' x L v E B V) => HP.out V v S' x hV)
    have G1 := Lib.hid g1
    have EF := Lib.hid ef
    clear g1 ef HP
    (have c0 := C3.out.cell 0; have z0 := C3.out.frozen 0; have c1 := C3.out.cell 1; have c2 := C3.out.cell 2; have c3 := C3.out.cell 3; have c4 := C3.out.cell 4; have c5 := C3.out.cell 5; simp at c0 c1 c2 c3 c4 c5 z0)
    (have q0 := C5.out.cell 0; have q1 := C5.out.cell 1; have q2 := C5.out.cell 2; have q3 := C5.out.cell 3; have q4 := C5.out.cell 4; have q5 := C5.out.cell 5; have q6 := C5.out.cell 6; have q7 := C5.out.cell 7; have q8 := C5.out.cell 8; have q9 := C5.out.cell 9; have q10 := C5.out.cell 10; have q11 := C5.out.cell 11; simp at q0 q1 q2 q3 q4 q5 q6 q7 q8 q9 q10 q11)
    go_wp2_with fail
    with_reducible refine (HU.out _ G1.out).mono ?_
    rintro e w2 ⟨rfl, f2, v2, g2, hX, ef2⟩
    have F2 := Lib.hid (F1.out.trans f2)
    have D3 := Lib.hid (C3.out.fr f2 N.out.1)
    have D4 := Lib.hid (C4.out.fr f2 N.out.2.1)
    obtain ⟨cb, ff⟩ := HCB.out w2
    have D3' := Lib.hid (D3.out.fr ff (by simp))
    have D4' := Lib.hid (D4.out.fr ff (by simp))
    have F2' := Lib.hid (F2.out.trans ff.nil)
    have hx16 : IntKind.i64.wrap ((x : Int) + 16) = (x : Int) + 16 := IntWalk.i64_in _ (by
      obtain ⟨n, lv, h32, _⟩ := g2.lvx
      have := (lv_at g2.sl g2.h.m.ok lv).2.2.2.2.2.1
      have h7 := (sla_ok g2.h.m.ok 0 (by rw [g2.a]; decide)).2.2.2.2
      omega)
    have HW2 := Lib.hid (show Calls Tryz.prog 117 #[.pointer (some ⟨q.m, 0, none⟩), .int .i64 ((x : Int) + 16), .slice (some ⟨w2.heap.size, 0, none⟩) n (cF w2), .int .i64 5] (wF w2) fun e w' => e = .returned (.bool true) ∧ Fr q.blocks (wF w2) w' ∧ ∃ v', GB w0 q S S' x L v' E B w' ∧ BlkE v' x X ∧ v'.sl = v2.sl ∧ ByOn v' (x + 16) n (fun j => l[j]?.getD 0) from
      HW.out _ _ _ _ _ _ (g2.fr0 ff) hX cb (fun g o e => by injection e with e; injection e with e _ _; subst e; exact HPW.out _ F2.out))
    have EF2 := Lib.hid (ef2.trans EF.out)
    clear f2 g2 hX ef2 C3 C4 C5 G1 HU EF c0 z0 c1 c2 c3 c4 c5 q0 q1 q2 q3 q4 q5 q6 q7 q8 q9 q10 q11 cb ff HW HPW F1 HCB
    (have c0 := D3.out.cell 0; have z0 := D3.out.frozen 0; have c1 := D3.out.cell 1; have c2 := D3.out.cell 2; have c3 := D3.out.cell 3; have c4 := D3.out.cell 4; have c5 := D3.out.cell 5; simp at c0 c1 c2 c3 c4 c5 z0)
    have D3x := Lib.hid D3'
    go_wp2_with fail
    with_reducible refine HW2.out.mono ?_
    rintro e w3 ⟨rfl, f3, v3, g3, hX3, ef3, hb3⟩
    have F3 := Lib.hid (F2'.out.trans f3)
    have E3 := Lib.hid (D3'.out.fr f3 N.out.1)
    have E4 := Lib.hid (D4'.out.fr f3 N.out.2.1)
    have G3 := Lib.hid (fun w' (hf : Fr [b3, b3 + 1] w3 w') => HQ.out x w3 w' F3.out hf (.inr (by
      obtain ⟨k1, k2, k3, k4⟩ := HX.out _ _ _ _ g3 hX3 hb3
      exact ⟨by first | exact rfl | trivial, rfl, k1, k2, k3, v3, k4, ef3.trans EF2.out⟩)))
    clear f3 g3 hX3 ef3 hb3 HQ HX c0 z0 c1 c2 c3 c4 c5 D3 D4 D3' D4' D3x
    (have c0 := E3.out.cell 0; have z0 := E3.out.frozen 0; have c1 := E3.out.cell 1; have c2 := E3.out.cell 2; have c3 := E3.out.cell 3; have c4 := E3.out.cell 4; have c5 := E3.out.cell 5; simp at c0 c1 c2 c3 c4 c5 z0)
    (have d0 := E4.out.cell 0; have y0 := E4.out.frozen 0; have d1 := E4.out.cell 1; have y1 := E4.out.frozen 1; have d2 := E4.out.cell 2; have y2 := E4.out.frozen 2; have d3 := E4.out.cell 3; have y3 := E4.out.frozen 3; have d4 := E4.out.cell 4; have y4 := E4.out.frozen 4; have d5 := E4.out.cell 5; have y5 := E4.out.frozen 5; simp at d0 d1 d2 d3 d4 d5 y0 y1 y2 y3 y4 y5)
    go_wp2_with fail
    ((try simp only [Exit.inBlock, Exit.then]); refine bodyPost_ret (results_cell_row (p := 4) (ty := 33) rfl _ _ (b3 + 1) 33 #[.int .i64 (x : Nat), .bool true, .int .u32 nm, .int .u16 ty, .string lb, .int .u32 hs] (0, 0) _ rfl ?hrow Tryz.underlying33 rfl (by kernel_rfl)) rfl ?_; case hrow => exact ((((((E4.out.far (by simp) _).set 0 _).set 1 _).set 2 _).set 3 _).set 4 _).set 5 _)
    exact ⟨x, rfl, G3.out _ (by repeat (first | (with_reducible exact Fr.refl _ _) | (with_reducible apply Fr.alloc) | (with_reducible apply Fr.drew) | (with_reducible refine Fr.setCell ?_ (Or.inl (by simp)) _)))⟩
end
end Go.Proofs.YtmemoopkgjgmiaaGreatDoor

/- index.Longest. -/
namespace Go.Proofs.YtmemoopkgjgmiaaGreatDoor
set_option linter.unusedVariables false
set_option linter.unusedSimpArgs false
open Go.RowKit

/-- How far the farthest of the first k slots is from home. -/
def lngS (T H : Nat → Nat) (n : Nat) : Nat → Nat
  | 0 => 0
  | k + 1 => if T (k % n) = 0 then lngS T H n k else max (lngS T H n k) (farT T H n k)
section
variable {w : World} {q : MH} {t : TM} {x : Nat} {X : HB} {L : Nat → Prop} {E : Nat → HB}
theorem farT_le {T H : Nat → Nat} {n : Nat} (h0 : 0 < n) (i : Nat) : farT T H n i ≤ n + n := by
  have := Nat.mod_lt i h0
  unfold farT
  split <;> omega
theorem lngS_le {T H : Nat → Nat} {n : Nat} (h0 : 0 < n) : ∀ k, lngS T H n k ≤ n + n
  | 0 => Nat.zero_le _
  | k + 1 => by
    have := lngS_le (T := T) (H := H) h0 k
    have := farT_le (T := T) (H := H) h0 k
    unfold lngS
    split <;> omega
set_option maxRecDepth 100000 in
theorem ilongest (h : IsH w q t) (g : IxI t L E) : Calls Tryz.prog 92 #[.pointer (some ⟨q.m, 0, none⟩)] w fun e w' => e = .returned (.int .i64 (lngS t.sl (hmE t E) t.s t.s)) ∧ IsH w' q t ∧ Fr q.blocks w w' := by
  have hs1 := g.s1
  have hs0 := g.s0
  have HOF := Lib.hid (show Calls Tryz.prog 96 #[.pointer (some ⟨q.m, 0, none⟩)] w fun e w' => e = .returned (.agg #[.pointer (some ⟨q.m, 0, none⟩), .int .i64 t.s]) ∧ Fr [] w w' from iof h.m)
  have HG := Lib.hid (fun W k (hk : k < t.s) (hW : IsH W q t) => (show Calls Tryz.prog 99 #[.agg #[.pointer (some ⟨q.m, 0, none⟩), .int .i64 t.s], .int .i64 k] W fun e w' => e = .returned (.int .i64 (t.sl (k % t.s))) ∧ IsH w' q t ∧ Fr q.blocks W w' from
    (iget hW.m k (by omega) g.s0).mono fun e w' ⟨he, k1, k2⟩ => ⟨he, hW.step k1 k2, k2⟩))
  have HF := Lib.hid (fun W k (hk : k < t.s) (h0 : t.sl (k % t.s) ≠ 0) (hW : IsH W q t) => (show Calls Tryz.prog 100 #[.agg #[.pointer (some ⟨q.m, 0, none⟩), .int .i64 t.s], .int .i64 k] W fun e w' => e = .returned (.int .i64 (farT t.sl (hmE t E) t.s k)) ∧ IsH w' q t ∧ Fr q.blocks W w' from
    ifar hW g k (by omega) h0))
  have HLE := Lib.hid (fun k => lngS_le (T := t.sl) (H := hmE t E) hs0 k)
  have HFE := Lib.hid (fun k => farT_le (T := t.sl) (H := hmE t E) hs0 k)
  have HUN := Lib.hid (show ∀ k, lngS t.sl (hmE t E) t.s (k + 1) = if t.sl (k % t.s) = 0 then lngS t.sl (hmE t E) t.s k else max (lngS t.sl (hmE t E) t.s k) (farT t.sl (hmE t E) t.s k) from fun _ => rfl)
  have HU0 := Lib.hid (show lngS t.sl (hmE t E) t.s 0 = 0 from rfl)
  have H00 := Lib.hid h
  generalize lngS t.sl (hmE t E) t.s = G at *
  generalize hmE t E = H at *
  generalize t.sl = T at *
  generalize t.s = s at *
  clear h g hs0
  go_enter Tryz.func92, Tryz.ntmps92
  go_wp2_with fail
  with_reducible refine HOF.out.mono ?_
  rintro e w1 ⟨rfl, f1⟩
  have K0 := Lib.hid ((H00.out.fr0 f1).alloc (.cells #[.pointer (some ⟨q.m, 0, none⟩), .int .i64 s] 146))
  have F0 := Lib.hid ((f1.alloc (.cells #[.pointer (some ⟨q.m, 0, none⟩), .int .i64 s] 146)).nil (S := q.blocks))
  have hlt := H00.out.m.lt
  have hsz := f1.size
  have nb : w1.heap.size ∉ q.blocks := fun hm => by have := hlt _ hm; omega
  have B0 := Lib.hid (Blk.new w1 146 #[.pointer (some ⟨q.m, 0, none⟩), .int .i64 s])
  have DC := Lib.hid (fun V (hV : Fr q.blocks (w1.alloc (.cells #[.pointer (some ⟨q.m, 0, none⟩), .int .i64 s] 146)) V) => And.intro (show V.cell? ⟨w1.heap.size, 0, none⟩ = some (.pointer (some ⟨q.m, 0, none⟩)) from (B0.out.fr hV nb).cell 0) (show V.cell? ⟨w1.heap.size, 1, none⟩ = some (.int .i64 s) from (B0.out.fr hV nb).cell 1))
  clear f1 hlt hsz HOF
  go_wp2_with fail
  go_loopw [4, 10] (fun u v W => ∃ k : Nat, k ≤ s ∧ u = .int .i64 (G k : Nat) ∧ v = .int .i64 k ∧ Hid (IsH W q t) ∧ Hid (Fr q.blocks (w1.alloc (.cells #[.pointer (some ⟨q.m, 0, none⟩), .int .i64 s] 146)) W)) (fun _ v _ => s - (intOf v).toNat)
  case atStart => exact ⟨0, by omega, by rw [HU0.out]; rfl, rfl, K0, Lib.hid (Fr.refl _ _)⟩
  case round =>
    obtain ⟨k, hk, rfl, rfl, hI, hF⟩ := hrel
    have d0 := (DC.out _ hF.out).1
    have d1 := (DC.out _ hF.out).2
    by_cases hlt : k < s
    · have b1 : decide ((k : Int) < s) = true := by simp; omega
      have b1' : decide (k < s) = true := by simp; omega
      have w3 : IntKind.i64.wrap ((k : Int) + 1) = (k : Int) + 1 := IntWalk.i64_in _ (by omega)
      have hg := HG.out _ k hlt hI.out
      have hf := fun V (h0 : T (k % s) ≠ 0) hV => HF.out V k hlt h0 hV
      have HUk := Lib.hid (HUN.out k)
      have HLk := Lib.hid (HLE.out k)
      have HFk := Lib.hid (HFE.out k)
      generalize farT T H s k = fk at *
      generalize T (k % s) = v at *
      generalize hg0 : G k = g0 at *
      have HG0 := Lib.hid hg0
      clear hg0
      go_wp2_with fail
      with_reducible refine hg.mono ?_
      rintro e w2 ⟨rfl, h2, f2⟩
      have H2 := Lib.hid h2
      have F2 := Lib.hid (hF.out.trans f2)
      clear h2 f2 hg
      by_cases hv : v = 0
      · subst hv
        have b2 : (((0 : Nat) : Int) != 0) = false := rfl
        have HR := Lib.hid (show (g0 : Int) = G (k + 1) from by rw [HUk.out, if_pos rfl])
        clear hf HUk
        go_wp2_with fail
        go_roundw
        case rel => exact ⟨k + 1, by omega, by rw [HR.out], by go_num, H2, F2⟩
        case measure => simp [intOf]; omega
      · have b2 : ((v : Int) != 0) = true := by simp; omega
        have b2' : (v != 0) = true := by simp; omega
        have hf2 := hf w2 hv H2.out
        have e1 := (DC.out _ F2.out).1
        have e2 := (DC.out _ F2.out).2
        have HR := Lib.hid (show G (k + 1) = max g0 fk from by rw [HUk.out, if_neg hv])
        clear hf HUk d0 d1
        go_wp2_with fail
        with_reducible refine hf2.mono ?_
        rintro e w4 ⟨rfl, h4, f4⟩
        have H4 := Lib.hid h4
        have F4 := Lib.hid (F2.out.trans f4)
        clear h4 f4 hf2
        go_wp2_with fail
        refine ⟨⟨k + 1, by omega, ?_, by go_num, H4, F4⟩, by simp [intOf]; omega⟩
        rw [HR.out]
        congr 1
        first
          | omega
          | (split
             · rw [Nat.max_eq_right (by omega)]
             · rw [Nat.max_eq_left (by omega)])
    · obtain rfl : k = s := by omega
      have b1 : decide ((k : Int) < k) = false := by simp
      have b1' : decide (k < k) = false := by simp
      clear hlt
      go_wp2_with fail
      go_ret
      exact ⟨rfl, hI.out, F0.out.trans hF.out⟩
end
end Go.Proofs.YtmemoopkgjgmiaaGreatDoor

/- The index's page: Insert, Delete, Place, Entry, Longest over the page's memory. -/
namespace Go.Proofs.YtmemoopkgjgmiaaGreatDoor
set_option linter.unusedVariables false
set_option linter.unusedSimpArgs false
open Go.RowKit

section
variable {w0 W W' : World} {q : MH} {S S' : SS} {x y n m tag : Nat} {t u v : TM} {L : Nat → Prop} {E : Nat → HB} {B : Nat → List Nat} {X : HB}
theorem GI.ne0 (g : GI w0 q S L u E B W) (hx : L x) : x ≠ 0 ∧ x < 1048576 := by
  have := (g.ix.e x hx).pos g.h.m.ok
  omega
theorem GI.hm (g : GI w0 q S L u E B W) : (E x).hash % u.s = hmE u E x ∧ u.s = 224 := ⟨rfl, g.s⟩
/-- A block is inserted. -/
theorem ix_ins (g : GI w0 q S L u E B W) (hx : L x) : Calls Tryz.prog 22 #[.pointer (some ⟨q.m, 0, none⟩), .int .i64 x] W fun e w' => Fr q.blocks W w' ∧
    ((InT 224 u.sl x ∧ e = .returned (.int .i64 8) ∧ GI w0 q S L u E B w') ∨ (¬ InT 224 u.sl x ∧ (∀ s, s < 224 → u.sl s ≠ 0) ∧ e = .returned (.int .i64 5) ∧ GI w0 q S L u E B w') ∨
     (¬ InT 224 u.sl x ∧ e = .returned (.int .i64 0) ∧ ∃ k gg, InsQ 224 u.sl (hmE u E) (hmE u E x) k gg x ∧ GI w0 q S L (u.wsl (insX u.sl 224 (hmE u E x + k) gg x)) E B w')) := by
  have h0 := g.ne0 hx
  obtain ⟨f1, f2⟩ := g.rh.found h0.1
  have hm0 : hmE u E x < 224 := g.rh.r.hm x
  have hs := g.s
  cases hp : fndT u.sl (hmE u E) 224 (hmE u E x) (fun z => z == x) with
  | some i =>
    have h1 := f1 i hp
    have := iins_st (i0 := i) g.h g.ix (g.ix.e x hx) (by rw [hs]; exact hs ▸ hp)
    exact this.mono fun e w' ⟨he, k1, k2⟩ => ⟨k2, .inl ⟨⟨i, h1⟩, he, g.same k1 k2⟩⟩
  | none =>
    have hno := f2 hp
    have hni : ¬ InT 224 u.sl x := fun ⟨s, hs, e⟩ => hno s hs e
    have hp' : fndT u.sl (hmE u E) u.s ((E x).hash % u.s) (fun z => z == x) = none := by rw [hs]; exact hs ▸ hp
    cases hg : gapT u.sl 224 (hmE u E x) with
    | none =>
      have hg' : gapT u.sl u.s ((E x).hash % u.s) = none := by rw [hs]; exact hs ▸ hg
      refine (iins_full g.h g.ix (g.ix.e x hx) hp' hg').mono fun e w' ⟨he, k1, k2⟩ => ⟨k2, .inr (.inl ⟨hni, fun s hsl => ?_, he, g.same k1 k2⟩)⟩
      obtain ⟨j, hj, rfl⟩ := mod_ex (n := 224) (hmE u E x) hsl
      exact gapS_none 224 _ u.sl 224 0 hg j (Nat.zero_le _) (by omega)
    | some g0 =>
      have hg' : gapT u.sl u.s ((E x).hash % u.s) = some g0 := by rw [hs]; exact hs ▸ hg
      obtain ⟨k, gg, ip, hk, hgg⟩ := insP_ex (T := u.sl) (H := hmE u E) (n := 224) (by decide) hm0 hg
      have Q : InsQ 224 u.sl (hmE u E) (hmE u E x) k gg x := ⟨g.rh.r, ip, hk, hgg, rfl, h0.1, hno⟩
      have ip' : InsP u.sl (hmE u E) u.s ((E x).hash % u.s) k gg := by rw [hs]; exact hs ▸ ip
      refine (iinsert g.h g.ix (g.ix.e x hx) rfl hp' hg' ip').mono fun e w' ⟨he, k1, k2⟩ => ⟨k2, .inr (.inr ⟨hni, he, k, gg, Q, ?_⟩)⟩
      have e1 : up (shS u.s ((E x).hash % u.s + k) gg u.sl) (((E x).hash % u.s + k) % u.s) x = insX u.sl 224 (hmE u E x + k) gg x := by
        unfold insX hmE
        rw [hs]
      rw [e1] at k1
      exact g.slots k1 k2 (insX_closed Q (fun i hi => g.ix.sl i (by rw [hs]; exact hi)) hx) (Q.rz g.rh)
/-- A block is deleted. -/
theorem ix_del (g : GI w0 q S L u E B W) (hx : L x) : Calls Tryz.prog 20 #[.pointer (some ⟨q.m, 0, none⟩), .int .i64 x] W fun e w' => Fr q.blocks W w' ∧
    ((¬ InT 224 u.sl x ∧ e = .returned (.int .i64 7) ∧ GI w0 q S L u E B w') ∨
     (∃ i, i < 224 ∧ u.sl i = x ∧ e = .returned (.int .i64 0) ∧ GI w0 q S L (u.wsl (dlS (hmE u E) 224 223 i u.sl)) E B w')) := by
  have h0 := g.ne0 hx
  obtain ⟨f1, f2⟩ := g.rh.found h0.1
  have hs := g.s
  cases hp : fndT u.sl (hmE u E) 224 (hmE u E x) (fun z => z == x) with
  | some i =>
    obtain ⟨hi, e1⟩ := f1 i hp
    have := idel (i0 := i) g.h g.ix (g.ix.e x hx) (by rw [hs]; exact hi) (by rw [hs]; exact hs ▸ hp)
    refine this.mono fun e w' ⟨he, k1, k2⟩ => ⟨k2, .inr ⟨i, hi, e1, he, ?_⟩⟩
    have e2 : dlS (hmE u E) u.s (u.s - 1) i u.sl = dlS (hmE u E) 224 223 i u.sl := by rw [hs]
    rw [e2] at k1
    obtain ⟨m, P⟩ := dlS_spec 224 (hmE u E) 223 i u.sl (by decide)
    have him : i % 224 = i := Nat.mod_eq_of_lt hi
    refine g.slots k1 k2 (fun j hj => ?_) (DlP.rz (n := 224) P g.rh (by rw [him, e1]; exact h0.1))
    by_cases z : dlS (hmE u E) 224 223 i u.sl j = 0
    · exact .inl z
    · obtain ⟨⟨s, hsl, e3⟩, _⟩ := (DlP.inT (n := 224) P g.rh z).1 ⟨j, hj, rfl⟩
      rw [← e3]
      exact .inr ((g.ix.sl s (by rw [hs]; exact hsl)).resolve_left (by rw [e3]; exact z))
  | none =>
    have hno := f2 hp
    have hp' : fndT u.sl (hmE u E) u.s ((E x).hash % u.s) (fun z => z == x) = none := by rw [hs]; exact hs ▸ hp
    exact (idel_no g.h g.ix (g.ix.e x hx) hp').mono fun e w' ⟨he, k1, k2⟩ => ⟨k2, .inl ⟨fun ⟨s, hs, e⟩ => hno s hs e, he, g.same k1 k2⟩⟩
/-- Which slot names it. -/
theorem ix_place (g : GI w0 q S L u E B W) (hx : L x) : Calls Tryz.prog 27 #[.pointer (some ⟨q.m, 0, none⟩), .int .i64 x] W fun e w' => Fr q.blocks W w' ∧ GI w0 q S L u E B w' ∧
    ((¬ InT 224 u.sl x ∧ e = .returned (.tuple #[.int .i64 0, .bool false])) ∨ (∃ i : Nat, i < 224 ∧ u.sl i = x ∧ e = .returned (.tuple #[.int .i64 i, .bool true]))) := by
  have h0 := g.ne0 hx
  obtain ⟨f1, f2⟩ := g.rh.found h0.1
  have hs := g.s
  have hc := iPlace g.h g.ix (g.ix.e x hx)
  have e0 : fndT u.sl (hmE u E) u.s ((E x).hash % u.s) (fun z => z == x) = fndT u.sl (hmE u E) 224 (hmE u E x) (fun z => z == x) := by unfold hmE; rw [hs]
  rw [e0] at hc
  refine hc.mono fun e w' ⟨he, k1, k2⟩ => ⟨k2, g.same k1 k2, ?_⟩
  cases hp : fndT u.sl (hmE u E) 224 (hmE u E x) (fun z => z == x) with
  | some i =>
    rw [hp] at he
    obtain ⟨hi, e1⟩ := f1 i hp
    exact .inr ⟨i, hi, e1, he⟩
  | none =>
    rw [hp] at he
    exact .inl ⟨fun ⟨s, hs, e⟩ => f2 hp s hs e, he⟩
theorem ix_entry (g : GI w0 q S L u E B W) (name typ hs : Nat) (hn : name < 4294967296) (ht : typ < 65536) (hh : hs < 4294967296) :
    Calls Tryz.prog 91 #[.pointer (some ⟨q.m, 0, none⟩), .int .u32 name, .int .u16 typ, .int .u32 hs] W fun e w' => Fr q.blocks W w' ∧ GI w0 q S L u E B w' ∧ e = .returned (match fndT u.sl (hmE u E) 224 (hs % 224) (isEn E name typ hs) with | some i => .tuple #[.int .i64 (u.sl i), .bool true] | none => .tuple #[.int .i64 0, .bool false]) := by
  have hc := ientry g.h g.ix name typ hs hn ht hh
  rw [g.s] at hc
  exact hc.mono fun e w' ⟨he, k1, k2⟩ => ⟨k2, g.same k1 k2, he⟩
theorem ix_long (g : GI w0 q S L u E B W) : Calls Tryz.prog 92 #[.pointer (some ⟨q.m, 0, none⟩)] W fun e w' => Fr q.blocks W w' ∧ GI w0 q S L u E B w' ∧ e = .returned (.int .i64 (lngS u.sl (hmE u E) 224 224)) := by
  have hc := ilongest g.h g.ix
  rw [g.s] at hc
  exact hc.mono fun e w' ⟨he, k1, k2⟩ => ⟨k2, g.same k1 k2, he⟩
theorem ix_flt (g : GI w0 q S L u E B W) : Calls Tryz.prog 32 #[.pointer (some ⟨q.m, 0, none⟩)] W fun e w' => Fr q.blocks W w' ∧ GI w0 q S L u E B w' ∧ e = .returned (.int .i64 0) := by
  have hc := tfaults g.h.m
  rw [g.ft] at hc
  exact hc.mono fun e w' ⟨he, k1⟩ => ⟨k1.nil, g.fr0 k1, he⟩
end
end Go.Proofs.YtmemoopkgjgmiaaGreatDoor

/- The index's page: a new block; an insertion that is taken back; the image. -/
namespace Go.Proofs.YtmemoopkgjgmiaaGreatDoor
set_option linter.unusedVariables false
set_option linter.unusedSimpArgs false
open Go.RowKit

section
variable {w0 W W' : World} {q : MH} {S S' : SS} {x y n m : Nat} {t u v : TM} {L : Nat → Prop} {E : Nat → HB} {B : Nat → List Nat} {X : HB}
/-- A new block, whatever it is. -/
theorem ix_blk (g : GI w0 q S L u E B W) (b : RB) (hb : b.Ok) (hf : b.few = true) : Calls Tryz.prog 29 #[.pointer (some ⟨q.m, 0, none⟩), .agg b.cells] W fun e w' => ∃ x : Nat, e = .returned (.agg (rbC x b.nd b.nm b.ty b.lab b.hs)) ∧ Fr q.blocks W w' ∧ BlkP w0 q S L u E B (rbX b.nd b.nm b.ty b.lab.length b.hs) b.lab x w' := by
  obtain ⟨ba, bn, bm, bt, bl, bh⟩ := b
  unfold RB.few at hf
  cases bn with
  | true =>
    have hf := of_decide_eq_true hf
    exact iblkN g ba bm bt bh bl hb.nm hb.ty hb.hs hb.lab hf.1 hf.2.1
  | false =>
    have hl : bl = [] := List.isEmpty_iff.1 hf
    subst hl
    exact iblkE g ba bm bt bh hb.nm hb.ty hb.hs
end
end Go.Proofs.YtmemoopkgjgmiaaGreatDoor
