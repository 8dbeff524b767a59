/- Several texts in one. -/
import Derived.Test.YtkapkbiccppldaaGreatDoorKG
import Derived.ScopeJumps
import Derived.WalkMore
import Derived.Test.YtkapkbiccppldaaGreatDoorGD
import Derived.Test.YtkapkbiccppldaaGreatDoorGI
/- Package index: find for Node. -/
namespace Go.Proofs.YtkapkbiccppldaaGreatDoor
set_option linter.unusedVariables false
set_option linter.unusedSimpArgs false
open Go.RowKit

section
variable {w : World} {q : MH} {t : TM} {x : Nat} {X : HB} {L : Nat → Prop} {E : Nat → HB}
set_option maxRecDepth 1000000 in
set_option maxHeartbeats 4000000 in
theorem ifindN (h : IsH w q t) (g : IxI t L E) (P : Nat → Bool) (hs bA bB bC bD : Nat) (hh : hs < 4294967296) (hIS : ∀ W, IsH W q t → Fr q.blocks w W → ∀ y, L y → Calls Tryz.prog 153 #[.int .i64 y, .pointer (some ⟨bA, 0, none⟩), .pointer (some ⟨bB, 0, none⟩), .pointer (some ⟨bC, 0, none⟩), .pointer (some ⟨bD, 0, none⟩)] W fun e w' => e = .returned (.bool (P y)) ∧ IsH w' q t ∧ Fr q.blocks W w') : Calls Tryz.prog 219 #[.agg #[.pointer (some ⟨q.m, 0, none⟩), .int .i64 t.s], .agg #[.int .u32 hs, .func (.func 153) #[] #[.pointer (some ⟨bA, 0, none⟩), .pointer (some ⟨bB, 0, none⟩), .pointer (some ⟨bC, 0, none⟩), .pointer (some ⟨bD, 0, none⟩)]]] w fun e w' => e = .returned (.int .i64 (optZ (fndT t.sl (hmE t E) t.s (hs % t.s) P))) ∧ IsH w' q t ∧ Fr q.blocks w w' := by
  have b0 : ((t.s : Int) == 0) = false := by have := g.s0; rw [beq_eq_false_iff_ne]; omega
  have b0' : (t.s == 0) = false := by have := g.s0; rw [beq_eq_false_iff_ne]; omega
  have hs1 := g.s1
  have hml : hs % t.s < t.s := Nat.mod_lt _ g.s0
  have HM := Lib.hid (fun W => ihome0 W hs t.s hh g.s0 (by have := g.s1; omega))
  have HE := Lib.hid (fun W k (hk : k < t.s) (hW : IsH W q t) => (show Calls Tryz.prog 147 #[.agg #[.pointer (some ⟨q.m, 0, none⟩), .int .i64 t.s], .int .i64 (hs % t.s + k : Nat), .int .i64 k] W fun e w' => e = .returned (.bool (endB t.sl (hmE t E) t.s (hs % t.s + k) k)) ∧ IsH w' q t ∧ Fr q.blocks W w' from iended hW g (hs % t.s + k) k (by omega)))
  have HG := Lib.hid (fun W k (hk : k < t.s) (hW : IsH W q t) => (show Calls Tryz.prog 149 #[.agg #[.pointer (some ⟨q.m, 0, none⟩), .int .i64 t.s], .int .i64 (hs % t.s + k : Nat)] W fun e w' => e = .returned (.int .i64 (t.sl ((hs % t.s + k) % t.s))) ∧ IsH w' q t ∧ Fr q.blocks W w' from
    (iget hW.m _ (by omega) g.s0).mono fun e w' ⟨he, k1, k2⟩ => ⟨he, hW.step k1 k2, k2⟩))
  have HO := Lib.hid (fun W k (hk : k < t.s) => (show Calls Tryz.prog 222 #[.agg #[.pointer (some ⟨q.m, 0, none⟩), .int .i64 t.s], .int .i64 (hs % t.s + k : Nat)] W fun e w' => e = .returned (.int .i64 ((hs % t.s + k) % t.s : Nat)) ∧ Fr [] W w' from iround W q.m t.s _ g.s0 (by omega)))
  have HIS := Lib.hid hIS
  have HLV := Lib.hid (show ∀ i j, endB t.sl (hmE t E) t.s i j = false → L (t.sl (i % t.s)) from fun i j e => by
    unfold endB at e
    by_cases h0 : t.sl (i % t.s) = 0
    · rw [if_pos h0] at e; exact nomatch e
    · exact (g.sl _ (Nat.mod_lt _ g.s0)).resolve_left h0)
  have H0 := Lib.hid ((h.alloc (.cells #[.pointer (some ⟨q.m, 0, none⟩), .int .i64 t.s] 162)).alloc (.cells #[.int .u32 hs, .func (.func 153) #[] #[.pointer (some ⟨bA, 0, none⟩), .pointer (some ⟨bB, 0, none⟩), .pointer (some ⟨bC, 0, none⟩), .pointer (some ⟨bD, 0, none⟩)]] 167))
  have F0 := Lib.hid (((Fr.refl q.blocks w).alloc (.cells #[.pointer (some ⟨q.m, 0, none⟩), .int .i64 t.s] 162)).alloc (.cells #[.int .u32 hs, .func (.func 153) #[] #[.pointer (some ⟨bA, 0, none⟩), .pointer (some ⟨bB, 0, none⟩), .pointer (some ⟨bC, 0, none⟩), .pointer (some ⟨bD, 0, none⟩)]] 167))
  have B0 := Lib.hid ((Blk.new w 162 #[.pointer (some ⟨q.m, 0, none⟩), .int .i64 t.s]).alloc (.cells #[.int .u32 hs, .func (.func 153) #[] #[.pointer (some ⟨bA, 0, none⟩), .pointer (some ⟨bB, 0, none⟩), .pointer (some ⟨bC, 0, none⟩), .pointer (some ⟨bD, 0, none⟩)]] 167))
  have hb1 := Blk.new (w.alloc (.cells #[.pointer (some ⟨q.m, 0, none⟩), .int .i64 t.s] 162)) 167 #[.int .u32 hs, .func (.func 153) #[] #[.pointer (some ⟨bA, 0, none⟩), .pointer (some ⟨bB, 0, none⟩), .pointer (some ⟨bC, 0, none⟩), .pointer (some ⟨bD, 0, none⟩)]]
  rw [World.size_alloc] at hb1
  have B1 := Lib.hid hb1
  have hlt := h.m.lt
  have nb : w.heap.size ∉ q.blocks := fun hm => by have := hlt _ hm; omega
  have nb1 : w.heap.size + 1 ∉ q.blocks := fun hm => by have := hlt _ hm; omega
  obtain ⟨W0, hW0⟩ : ∃ W0, (w.alloc (.cells #[.pointer (some ⟨q.m, 0, none⟩), .int .i64 t.s] 162)).alloc (.cells #[.int .u32 hs, .func (.func 153) #[] #[.pointer (some ⟨bA, 0, none⟩), .pointer (some ⟨bB, 0, none⟩), .pointer (some ⟨bC, 0, none⟩), .pointer (some ⟨bD, 0, none⟩)]] 167) = W0 := ⟨_, rfl⟩
  have HW0 := Lib.hid hW0
  rw [hW0] at H0 F0 B0 B1
  have DC := Lib.hid (fun V (hV : Fr q.blocks W0 V) => And.intro (show V.cell? ⟨w.heap.size, 0, none⟩ = some (.pointer (some ⟨q.m, 0, none⟩)) from (B0.out.fr hV nb).cell 0) (And.intro (show V.cell? ⟨w.heap.size, 1, none⟩ = some (.int .i64 t.s) from (B0.out.fr hV nb).cell 1) (And.intro (show V.cell? ⟨w.heap.size + 1, 0, none⟩ = some (.int .u32 hs) from (B1.out.fr hV nb1).cell 0) (show V.cell? ⟨w.heap.size + 1, 1, none⟩ = some (.func (.func 153) #[] #[.pointer (some ⟨bA, 0, none⟩), .pointer (some ⟨bB, 0, none⟩), .pointer (some ⟨bC, 0, none⟩), .pointer (some ⟨bD, 0, none⟩)]) from (B1.out.fr hV nb1).cell 1))))
  obtain ⟨R, hR⟩ : ∃ R, fndT t.sl (hmE t E) t.s (hs % t.s) P = R := ⟨_, rfl⟩
  rw [hR]
  have HR := Lib.hid (show fndS t.sl (hmE t E) t.s (hs % t.s) P (t.s - 0) 0 = R from hR)
  have HUN := Lib.hid (show ∀ k, k < t.s → fndS t.sl (hmE t E) t.s (hs % t.s) P (t.s - k) k = if endB t.sl (hmE t E) t.s (hs % t.s + k) k = true then none else if P (t.sl ((hs % t.s + k) % t.s)) = true then some ((hs % t.s + k) % t.s) else fndS t.sl (hmE t E) t.s (hs % t.s) P (t.s - (k + 1)) (k + 1) from fun k hk => by
    rw [show t.s - k = (t.s - (k + 1)) + 1 by omega, fndS])
  have HZ := Lib.hid (show fndS t.sl (hmE t E) t.s (hs % t.s) P (t.s - t.s) t.s = none from by rw [Nat.sub_self]; rfl)
  generalize hF9 : fndS t.sl (hmE t E) t.s (hs % t.s) P = FS at *
  generalize hsl : t.sl = T at *
  generalize hmE t E = H at *
  generalize hsz : t.s = s at *
  generalize hs % s = hm at *
  clear h hlt g hR hsl hF9 hb1 hh hIS
  go_enter Tryz.func219, Tryz.ntmps219
  go_wp2_with fail
  try rw [hW0]
  clear hsz hW0
  have d0 := (DC.out _ (Fr.refl _ _)).1
  have d1 := (DC.out _ (Fr.refl _ _)).2.1
  have d2 := (DC.out _ (Fr.refl _ _)).2.2.1
  have d3 := (DC.out _ (Fr.refl _ _)).2.2.2
  refine wp_scope_jumps 0 (fun a' w' => ∃ (k : Nat) (u7 u8 u9 u10 u11 u12 u13 u14 u15 u16 u17 u18 u19 u20 u21 u22 u23 u24 u25 u26 u27 u28 u29 u30 u31 u32 u33 u34 u35 u36 u37 u38 u39 u40 u41 : Value), a' = { tmps := #[.agg #[.pointer (some ⟨q.m, 0, none⟩), .int .i64 s], .agg #[.int .u32 hs, .func (.func 153) #[] #[.pointer (some ⟨bA, 0, none⟩), .pointer (some ⟨bB, 0, none⟩), .pointer (some ⟨bC, 0, none⟩), .pointer (some ⟨bD, 0, none⟩)]], .pointer (some ⟨w.heap.size, 0, none⟩), .pointer (some ⟨w.heap.size + 1, 0, none⟩), .int .i64 0, .int .i64 hm, .int .i64 k, u7, u8, u9, u10, u11, u12, u13, u14, u15, u16, u17, u18, u19, u20, u21, u22, u23, u24, u25, u26, u27, u28, u29, u30, u31, u32, u33, u34, u35, u36, u37, u38, u39, u40, u41], defers := [] } ∧ k ≤ s ∧ Hid (FS (s - k) k = R) ∧ Hid (IsH w' q t) ∧ Hid (Fr q.blocks W0 w')) (fun a' _ => s - (intOf (a'.tmps.getD 6 undef)).toNat) rfl ?_ ?_
  · go_wp2_with fail
    with_reducible refine (HM.out _).mono ?_
    rintro e w1 ⟨rfl, f1⟩
    have hI := Lib.hid (H0.out.fr0 f1)
    have hF := Lib.hid (f1.nil (S := q.blocks))
    have d0 := (DC.out _ hF.out).1
    have d1 := (DC.out _ hF.out).2.1
    have d2 := (DC.out _ hF.out).2.2.1
    have d3 := (DC.out _ hF.out).2.2.2
    have hlt : 0 < s := by omega
    have b1 : ((0 : Int) == s) = false := by rw [beq_eq_false_iff_ne]; omega
    have b1' : (0 == s) = false := by rw [beq_eq_false_iff_ne]; omega
    have wq1 : IntKind.i64.wrap (hm : Int) = hm := IntWalk.i64_in _ (by omega)
    have he := (show Calls Tryz.prog 147 #[.agg #[.pointer (some ⟨q.m, 0, none⟩), .int .i64 s], .int .i64 hm, .int .i64 0] w1 fun e w' => e = .returned (.bool (endB T H s hm 0)) ∧ IsH w' q t ∧ Fr q.blocks w1 w' from HE.out w1 0 hlt hI.out)
    have hg := Lib.hid (fun W hW => (show Calls Tryz.prog 149 #[.agg #[.pointer (some ⟨q.m, 0, none⟩), .int .i64 s], .int .i64 hm] W fun e w' => e = .returned (.int .i64 (T (hm % s))) ∧ IsH w' q t ∧ Fr q.blocks W w' from HG.out W 0 hlt hW))
    have ho := Lib.hid (fun W => (show Calls Tryz.prog 222 #[.agg #[.pointer (some ⟨q.m, 0, none⟩), .int .i64 s], .int .i64 hm] W fun e w' => e = .returned (.int .i64 (hm % s : Nat)) ∧ Fr [] W w' from HO.out W 0 hlt))
    have hu := HUN.out 0 hlt
    rw [HR.out] at hu
    simp only [Nat.add_zero] at hu
    clear f1 HM
    have hLV : endB T H s hm 0 = false → L (T (hm % s)) := HLV.out hm 0
    generalize endB T H s hm 0 = ev at *
    generalize T (hm % s) = v at *
    generalize hm % s = rk at *
    have HU := Lib.hid hu
    clear hu
    go_wp2_with fail
    go_step3
    go_wp2_with fail
    with_reducible refine he.mono ?_
    rintro e w2 ⟨rfl, h2, f2⟩
    have H2 := Lib.hid h2
    have F2 := Lib.hid (hF.out.trans f2)
    have d0 := (DC.out _ F2.out).1
    have d1 := (DC.out _ F2.out).2.1
    have d2 := (DC.out _ F2.out).2.2.1
    have d3 := (DC.out _ F2.out).2.2.2
    clear h2 f2 he
    rcases ev with _ | _
    · have HLv := Lib.hid (hLV (by first | exact rfl | trivial))
      have H2d := Lib.hid H2.out.drew
      have hY := And.intro (DC.out _ F2.out.drew).1 (And.intro (DC.out _ F2.out.drew).2.1 (DC.out _ F2.out.drew).2.2.2)
      go_wp2_with fail
      refine wp_region_held_drew (S := fun W => W.cell? ⟨w.heap.size, 0, none⟩ = some (.pointer (some ⟨q.m, 0, none⟩)) ∧ W.cell? ⟨w.heap.size, 1, none⟩ = some (.int .i64 s) ∧ W.cell? ⟨w.heap.size + 1, 1, none⟩ = some (.func (.func 153) #[] #[.pointer (some ⟨bA, 0, none⟩), .pointer (some ⟨bB, 0, none⟩), .pointer (some ⟨bC, 0, none⟩), .pointer (some ⟨bD, 0, none⟩)])) (by kernel_rfl) (hY) (fun hHeld => ?_)
      refine wpAnyH_take (i := 0) (oi := ?oofa0) (v := ?vvfa0) ?hifa0 (by kernel_rfl) (by kernel_rfl) (by kernel_rfl) ?hqfa0 (Or.inl ⟨?hwfa0, ?hhfa0⟩) hHeld ?rrfa0
      case hifa0 => (simp only [List.getElem?_toArray, List.getElem?_cons_zero, List.getElem?_cons_succ]; rfl)
      case hqfa0 => exact fun _ _ _ h => h
      case hwfa0 => rfl
      case hhfa0 => (intro w hSw; (try dsimp only at hSw); go_simp; try with_reducible rfl)
      try simp only [Act.put, List.setIfInBounds_toArray, List.set_cons_zero, List.set_cons_succ]
      refine wpAnyH_take (i := 1) (oi := ?oofa1) (v := ?vvfa1) ?hifa1 (by kernel_rfl) (by kernel_rfl) (by kernel_rfl) ?hqfa1 (Or.inl ⟨?hwfa1, ?hhfa1⟩) hHeld ?rrfa1
      case hifa1 => (simp only [List.getElem?_toArray, List.getElem?_cons_zero, List.getElem?_cons_succ]; rfl)
      case hqfa1 => exact fun _ _ _ h => h
      case hwfa1 => rfl
      case hhfa1 => (intro w hSw; (try dsimp only at hSw); go_simp; try with_reducible rfl)
      try simp only [Act.put, List.setIfInBounds_toArray, List.set_cons_zero, List.set_cons_succ]
      refine wpAnyH_take (i := 2) (oi := ?oofa2) (v := ?vvfa2) ?hifa2 (by kernel_rfl) (by kernel_rfl) (by kernel_rfl) ?hqfa2 (Or.inl ⟨?hwfa2, ?hhfa2⟩) hHeld ?rrfa2
      case hifa2 => (simp only [List.getElem?_toArray, List.getElem?_cons_zero, List.getElem?_cons_succ]; rfl)
      case hqfa2 => exact fun _ _ _ h => h
      case hwfa2 => rfl
      case hhfa2 => (intro w hSw; (try dsimp only at hSw); go_simp; try with_reducible rfl)
      try simp only [Act.put, List.setIfInBounds_toArray, List.set_cons_zero, List.set_cons_succ]
      refine wpAnyH_take (i := 3) (oi := ?oofa3) (v := ?vvfa3) ?hifa3 (by kernel_rfl) (by kernel_rfl) (by kernel_rfl) ?hqfa3 (Or.inl ⟨?hwfa3, ?hhfa3⟩) hHeld ?rrfa3
      case hifa3 => (simp only [List.getElem?_toArray, List.getElem?_cons_zero, List.getElem?_cons_succ]; rfl)
      case hqfa3 => exact fun _ _ _ h => h
      case hwfa3 => rfl
      case hhfa3 => (intro w hSw; (try dsimp only at hSw); go_simp; try with_reducible rfl)
      try simp only [Act.put, List.setIfInBounds_toArray, List.set_cons_zero, List.set_cons_succ]
      refine wpAnyH_take (i := 4) (oi := ?oofa4) (v := ?vvfa4) ?hifa4 (by kernel_rfl) (by kernel_rfl) (by kernel_rfl) ?hqfa4 (Or.inl ⟨?hwfa4, ?hhfa4⟩) hHeld ?rrfa4
      case hifa4 => (simp only [List.getElem?_toArray, List.getElem?_cons_zero, List.getElem?_cons_succ]; rfl)
      case hqfa4 => exact fun _ _ _ h => h
      case hwfa4 => rfl
      case hhfa4 => (intro w hSw; (try dsimp only at hSw); go_simp; try with_reducible rfl)
      try simp only [Act.put, List.setIfInBounds_toArray, List.set_cons_zero, List.set_cons_succ]
      refine wpAnyH_take (i := 5) (oi := ?oofa5) (v := ?vvfa5) ?hifa5 (by kernel_rfl) (by kernel_rfl) (by kernel_rfl) ?hqfa5 (Or.inl ⟨?hwfa5, ?hhfa5⟩) hHeld ?rrfa5
      case hifa5 => (simp only [List.getElem?_toArray, List.getElem?_cons_zero, List.getElem?_cons_succ]; rfl)
      case hqfa5 => exact fun _ _ _ h => h
      case hwfa5 => rfl
      case hhfa5 => (intro w hSw; (try dsimp only at hSw); go_simp; try with_reducible rfl)
      try simp only [Act.put, List.setIfInBounds_toArray, List.set_cons_zero, List.set_cons_succ]
      refine wpAnyH_ready (rs := [6]) (by kernel_rfl) (by simp) ?_
      refine AllReadyH.cons (o := ?oofa6) ?hifa6 (fun K hK => ?hcfa6) AllReadyH.nil
      case hifa6 => (simp only [List.getElem?_toArray, List.getElem?_cons_zero, List.getElem?_cons_succ]; rfl)
      go_simp
      with_reducible refine (hg.out _ H2d.out).mono ?_
      rintro e w4 ⟨rfl, h4, f4⟩
      have H4 := Lib.hid h4
      have F4 := Lib.hid (F2.out.drew.trans f4)
      have hY := And.intro (DC.out _ F4.out).1 (And.intro (DC.out _ F4.out).2.1 (DC.out _ F4.out).2.2.2)
      clear h4 f4
      go_wp2_with fail
      refine hK.out _ _ (hY) (fun hHeld => ?_)
      clear hK K
      try simp only [Act.put, List.setIfInBounds_toArray, List.set_cons_zero, List.set_cons_succ]
      refine wpAnyH_ready (rs := [7]) (by kernel_rfl) (by simp) ?_
      refine AllReadyH.cons (o := ?oofa7) ?hifa7 (fun K hK => ?hcfa7) AllReadyH.nil
      case hifa7 => (simp only [List.getElem?_toArray, List.getElem?_cons_zero, List.getElem?_cons_succ]; rfl)
      go_simp
      with_reducible refine (HIS.out _ H4.out (F0.out.trans F4.out) _ HLv.out).mono ?_
      rintro e w5 ⟨rfl, h5, f5⟩
      have H5 := Lib.hid h5
      have F5 := Lib.hid (F4.out.trans f5)
      have hY := And.intro (DC.out _ F5.out).1 (And.intro (DC.out _ F5.out).2.1 (DC.out _ F5.out).2.2.2)
      clear h5 f5
      go_wp2_with fail
      refine hK.out _ _ (hY) (fun hHeld => ?_)
      clear hK K
      try simp only [Act.put, List.setIfInBounds_toArray, List.set_cons_zero, List.set_cons_succ]
      refine wpAnyH_done (by kernel_rfl) ?_ _
      try simp only [Act.put, List.getElem_toArray, List.getElem_cons_zero, List.getElem_cons_succ, List.setIfInBounds_toArray, List.set_cons_zero, List.set_cons_succ]
      have d0 := (DC.out _ F5.out).1
      have d1 := (DC.out _ F5.out).2.1
      obtain ⟨c, hc⟩ : ∃ c : Bool, P v = c := ⟨_, rfl⟩
      rw [hc]
      rw [hc] at HU
      clear hY
      rcases c with _ | _
      · have HN := Lib.hid (show FS (s - 1) 1 = R from by have := HU.out; simpa using this.symm)
        go_wp2_with fail
        go_step3
        refine ⟨rfl, 1, _, _, _, _, _, _, _, _, _, _, _, _, _, _, _, _, _, _, _, _, _, _, _, _, _, _, _, _, _, _, _, _, _, _, _, by first | rfl | (congr 1; go_num), by omega, HN, H5, F5⟩
      · have HRR := Lib.hid (show (rk : Int) = optZ R from by have := HU.out; simp at this; rw [this]; rfl)
        go_wp2_with fail
        with_reducible refine (ho.out _).mono ?_
        rintro e w6 ⟨rfl, f6⟩
        have H6 := Lib.hid (H5.out.fr0 f6)
        have F6 := Lib.hid (F5.out.trans f6.nil)
        clear f6
        go_wp2_with fail
        try simp only [Exit.jump]
        go_ret
        exact ⟨by rw [← HRR.out]; rfl, H6.out, F0.out.trans F6.out⟩
    · have HRR := Lib.hid (show (-1 : Int) = optZ R from by have := HU.out; simp at this; rw [this]; rfl)
      go_wp2_with fail
      try simp only [Exit.jump]
      go_ret
      exact ⟨by rw [← HRR.out]; rfl, H2.out, F0.out.trans F2.out⟩
  · rintro a' w' ⟨k, u7, u8, u9, u10, u11, u12, u13, u14, u15, u16, u17, u18, u19, u20, u21, u22, u23, u24, u25, u26, u27, u28, u29, u30, u31, u32, u33, u34, u35, u36, u37, u38, u39, u40, u41, rfl, hks, hRk, hI, hF⟩
    have d0 := (DC.out _ hF.out).1
    have d1 := (DC.out _ hF.out).2.1
    have d2 := (DC.out _ hF.out).2.2.1
    have d3 := (DC.out _ hF.out).2.2.2
    by_cases hlt : k < s
    · have b1 : ((k : Int) == s) = false := by rw [beq_eq_false_iff_ne]; omega
      have b1' : (k == s) = false := by rw [beq_eq_false_iff_ne]; omega
      have w1 : IntKind.i64.wrap ((hm : Int) + k) = (hm + k : Nat) := by rw [IntWalk.i64_in _ (by omega)]; omega
      have w3 : IntKind.i64.wrap ((k : Int) + 1) = (k : Int) + 1 := IntWalk.i64_in _ (by omega)
      have he := HE.out _ k hlt hI.out
      have hg := Lib.hid (fun W hW => HG.out W k hlt hW)
      have ho := Lib.hid (fun W => HO.out W k hlt)
      have hu := HUN.out k hlt
      rw [hRk.out] at hu
      generalize hm + k = ak at *
      have hLV : endB T H s ak k = false → L (T (ak % s)) := HLV.out ak k
      generalize endB T H s ak k = ev at *
      generalize T (ak % s) = v at *
      generalize ak % s = rk at *
      have HU := Lib.hid hu
      clear hu
      go_wp2_with fail
      with_reducible refine he.mono ?_
      rintro e w2 ⟨rfl, h2, f2⟩
      have H2 := Lib.hid h2
      have F2 := Lib.hid (hF.out.trans f2)
      have d0 := (DC.out _ F2.out).1
      have d1 := (DC.out _ F2.out).2.1
      have d2 := (DC.out _ F2.out).2.2.1
      have d3 := (DC.out _ F2.out).2.2.2
      clear h2 f2 he
      rcases ev with _ | _
      · have HLv := Lib.hid (hLV (by first | exact rfl | trivial))
        have H2d := Lib.hid H2.out.drew
        have hY := And.intro (DC.out _ F2.out.drew).1 (And.intro (DC.out _ F2.out.drew).2.1 (DC.out _ F2.out.drew).2.2.2)
        go_wp2_with fail
        refine wp_region_held_drew (S := fun W => W.cell? ⟨w.heap.size, 0, none⟩ = some (.pointer (some ⟨q.m, 0, none⟩)) ∧ W.cell? ⟨w.heap.size, 1, none⟩ = some (.int .i64 s) ∧ W.cell? ⟨w.heap.size + 1, 1, none⟩ = some (.func (.func 153) #[] #[.pointer (some ⟨bA, 0, none⟩), .pointer (some ⟨bB, 0, none⟩), .pointer (some ⟨bC, 0, none⟩), .pointer (some ⟨bD, 0, none⟩)])) (by kernel_rfl) (hY) (fun hHeld => ?_)
        refine wpAnyH_take (i := 0) (oi := ?oofb0) (v := ?vvfb0) ?hifb0 (by kernel_rfl) (by kernel_rfl) (by kernel_rfl) ?hqfb0 (Or.inl ⟨?hwfb0, ?hhfb0⟩) hHeld ?rrfb0
        case hifb0 => (simp only [List.getElem?_toArray, List.getElem?_cons_zero, List.getElem?_cons_succ]; rfl)
        case hqfb0 => exact fun _ _ _ h => h
        case hwfb0 => rfl
        case hhfb0 => (intro w hSw; (try dsimp only at hSw); go_simp; try with_reducible rfl)
        try simp only [Act.put, List.setIfInBounds_toArray, List.set_cons_zero, List.set_cons_succ]
        refine wpAnyH_take (i := 1) (oi := ?oofb1) (v := ?vvfb1) ?hifb1 (by kernel_rfl) (by kernel_rfl) (by kernel_rfl) ?hqfb1 (Or.inl ⟨?hwfb1, ?hhfb1⟩) hHeld ?rrfb1
        case hifb1 => (simp only [List.getElem?_toArray, List.getElem?_cons_zero, List.getElem?_cons_succ]; rfl)
        case hqfb1 => exact fun _ _ _ h => h
        case hwfb1 => rfl
        case hhfb1 => (intro w hSw; (try dsimp only at hSw); go_simp; try with_reducible rfl)
        try simp only [Act.put, List.setIfInBounds_toArray, List.set_cons_zero, List.set_cons_succ]
        refine wpAnyH_take (i := 2) (oi := ?oofb2) (v := ?vvfb2) ?hifb2 (by kernel_rfl) (by kernel_rfl) (by kernel_rfl) ?hqfb2 (Or.inl ⟨?hwfb2, ?hhfb2⟩) hHeld ?rrfb2
        case hifb2 => (simp only [List.getElem?_toArray, List.getElem?_cons_zero, List.getElem?_cons_succ]; rfl)
        case hqfb2 => exact fun _ _ _ h => h
        case hwfb2 => rfl
        case hhfb2 => (intro w hSw; (try dsimp only at hSw); go_simp; try with_reducible rfl)
        try simp only [Act.put, List.setIfInBounds_toArray, List.set_cons_zero, List.set_cons_succ]
        refine wpAnyH_take (i := 3) (oi := ?oofb3) (v := ?vvfb3) ?hifb3 (by kernel_rfl) (by kernel_rfl) (by kernel_rfl) ?hqfb3 (Or.inl ⟨?hwfb3, ?hhfb3⟩) hHeld ?rrfb3
        case hifb3 => (simp only [List.getElem?_toArray, List.getElem?_cons_zero, List.getElem?_cons_succ]; rfl)
        case hqfb3 => exact fun _ _ _ h => h
        case hwfb3 => rfl
        case hhfb3 => (intro w hSw; (try dsimp only at hSw); go_simp; try with_reducible rfl)
        try simp only [Act.put, List.setIfInBounds_toArray, List.set_cons_zero, List.set_cons_succ]
        refine wpAnyH_take (i := 4) (oi := ?oofb4) (v := ?vvfb4) ?hifb4 (by kernel_rfl) (by kernel_rfl) (by kernel_rfl) ?hqfb4 (Or.inl ⟨?hwfb4, ?hhfb4⟩) hHeld ?rrfb4
        case hifb4 => (simp only [List.getElem?_toArray, List.getElem?_cons_zero, List.getElem?_cons_succ]; rfl)
        case hqfb4 => exact fun _ _ _ h => h
        case hwfb4 => rfl
        case hhfb4 => (intro w hSw; (try dsimp only at hSw); go_simp; try with_reducible rfl)
        try simp only [Act.put, List.setIfInBounds_toArray, List.set_cons_zero, List.set_cons_succ]
        refine wpAnyH_take (i := 5) (oi := ?oofb5) (v := ?vvfb5) ?hifb5 (by kernel_rfl) (by kernel_rfl) (by kernel_rfl) ?hqfb5 (Or.inl ⟨?hwfb5, ?hhfb5⟩) hHeld ?rrfb5
        case hifb5 => (simp only [List.getElem?_toArray, List.getElem?_cons_zero, List.getElem?_cons_succ]; rfl)
        case hqfb5 => exact fun _ _ _ h => h
        case hwfb5 => rfl
        case hhfb5 => (intro w hSw; (try dsimp only at hSw); go_simp; try with_reducible rfl)
        try simp only [Act.put, List.setIfInBounds_toArray, List.set_cons_zero, List.set_cons_succ]
        refine wpAnyH_ready (rs := [6]) (by kernel_rfl) (by simp) ?_
        refine AllReadyH.cons (o := ?oofb6) ?hifb6 (fun K hK => ?hcfb6) AllReadyH.nil
        case hifb6 => (simp only [List.getElem?_toArray, List.getElem?_cons_zero, List.getElem?_cons_succ]; rfl)
        go_simp
        with_reducible refine (hg.out _ H2d.out).mono ?_
        rintro e w4 ⟨rfl, h4, f4⟩
        have H4 := Lib.hid h4
        have F4 := Lib.hid (F2.out.drew.trans f4)
        have hY := And.intro (DC.out _ F4.out).1 (And.intro (DC.out _ F4.out).2.1 (DC.out _ F4.out).2.2.2)
        clear h4 f4
        go_wp2_with fail
        refine hK.out _ _ (hY) (fun hHeld => ?_)
        clear hK K
        try simp only [Act.put, List.setIfInBounds_toArray, List.set_cons_zero, List.set_cons_succ]
        refine wpAnyH_ready (rs := [7]) (by kernel_rfl) (by simp) ?_
        refine AllReadyH.cons (o := ?oofb7) ?hifb7 (fun K hK => ?hcfb7) AllReadyH.nil
        case hifb7 => (simp only [List.getElem?_toArray, List.getElem?_cons_zero, List.getElem?_cons_succ]; rfl)
        go_simp
        with_reducible refine (HIS.out _ H4.out (F0.out.trans F4.out) _ HLv.out).mono ?_
        rintro e w5 ⟨rfl, h5, f5⟩
        have H5 := Lib.hid h5
        have F5 := Lib.hid (F4.out.trans f5)
        have hY := And.intro (DC.out _ F5.out).1 (And.intro (DC.out _ F5.out).2.1 (DC.out _ F5.out).2.2.2)
        clear h5 f5
        go_wp2_with fail
        refine hK.out _ _ (hY) (fun hHeld => ?_)
        clear hK K
        try simp only [Act.put, List.setIfInBounds_toArray, List.set_cons_zero, List.set_cons_succ]
        refine wpAnyH_done (by kernel_rfl) ?_ _
        try simp only [Act.put, List.getElem_toArray, List.getElem_cons_zero, List.getElem_cons_succ, List.setIfInBounds_toArray, List.set_cons_zero, List.set_cons_succ]
        have d0 := (DC.out _ F5.out).1
        have d1 := (DC.out _ F5.out).2.1
        obtain ⟨c, hc⟩ : ∃ c : Bool, P v = c := ⟨_, rfl⟩
        rw [hc]
        rw [hc] at HU
        clear hY
        rcases c with _ | _
        · have HN := Lib.hid (show FS (s - (k + 1)) (k + 1) = R from by have := HU.out; simpa using this.symm)
          go_wp2_with fail
          go_step3
          refine ⟨rfl, ⟨k + 1, _, _, _, _, _, _, _, _, _, _, _, _, _, _, _, _, _, _, _, _, _, _, _, _, _, _, _, _, _, _, _, _, _, _, _, by first | rfl | (congr 1; go_num), by omega, HN, H5, F5⟩, by simp [intOf]; omega⟩
        · have HRR := Lib.hid (show (rk : Int) = optZ R from by have := HU.out; simp at this; rw [this]; rfl)
          go_wp2_with fail
          with_reducible refine (ho.out _).mono ?_
          rintro e w6 ⟨rfl, f6⟩
          have H6 := Lib.hid (H5.out.fr0 f6)
          have F6 := Lib.hid (F5.out.trans f6.nil)
          clear f6
          go_wp2_with fail
          try simp only [Exit.jump]
          go_ret
          exact ⟨by rw [← HRR.out]; rfl, H6.out, F0.out.trans F6.out⟩
      · have HRR := Lib.hid (show (-1 : Int) = optZ R from by have := HU.out; simp at this; rw [this]; rfl)
        go_wp2_with fail
        try simp only [Exit.jump]
        go_ret
        exact ⟨by rw [← HRR.out]; rfl, H2.out, F0.out.trans F2.out⟩
    · obtain rfl : k = s := by omega
      have b1 : ((k : Int) == k) = true := by simp
      have HRR := Lib.hid (show (-1 : Int) = optZ R from by have := hRk.out; rw [HZ.out] at this; rw [← this]; rfl)
      go_wp2_with fail
      try simp only [Exit.jump]
      go_ret
      exact ⟨by rw [← HRR.out]; rfl, hI.out, F0.out.trans hF.out⟩
end
end Go.Proofs.YtkapkbiccppldaaGreatDoor


/- Package index: what Node asks; found; Node. -/
namespace Go.Proofs.YtkapkbiccppldaaGreatDoor
set_option linter.unusedVariables false
set_option linter.unusedSimpArgs false
open Go.RowKit

/-- What Node asks of a block. -/
def isNd (E : Nat → HB) (B : Nat → List Nat) (name : Nat) (lab : List Nat) (hs z : Nat) : Bool := (E z).tag == 2 && (E z).name == name && B z == lab && (E z).hash == hs
section
variable {w0 W w : World} {q : MH} {S : SS} {x : Nat} {t u : TM} {L : Nat → Prop} {E : Nat → HB} {B : Nat → List Nat}
theorem inode1 (g : GI w0 q S L u E B W) (h : IsH w q u) (hx : L x) (name hs bA bB bC bD : Nat) (lab : List Nat) (hl : ∀ b ∈ lab, b < 256) (hlen : lab.length ≤ 9223372036854775807) (nA : bA ∉ q.blocks) (nB : bB ∉ q.blocks) (nC : bC ∉ q.blocks) (nD : bD ∉ q.blocks)
    (kA : Blk w bA 26 #[.pointer (some ⟨q.m, 0, none⟩)]) (kB : Blk w bB 74 #[.int .u32 name]) (kC : Blk w bC 9 #[.string (strOf lab)]) (kD : Blk w bD 74 #[.int .u32 hs]) :
    Calls Tryz.prog 153 #[.int .i64 x, .pointer (some ⟨bA, 0, none⟩), .pointer (some ⟨bB, 0, none⟩), .pointer (some ⟨bC, 0, none⟩), .pointer (some ⟨bD, 0, none⟩)] w fun e w' => e = .returned (.bool (isNd E B name lab hs x)) ∧ IsH w' q u ∧ Fr q.blocks w w' := by
  have hB := g.ix.e x hx
  have hlb := g.lb x hx
  obtain ⟨nn, hlv⟩ := g.lv x hx
  rw [← g.a] at hlv
  obtain ⟨v1, v2, v3, v4, v5, v6, v7⟩ := lv_at g.sl g.h.m.ok hlv
  have hx2 := (g.ne0 hx).2
  have HG := Lib.hid (fun W (hW : IsH W q u) => (show Calls Tryz.prog 72 #[.pointer (some ⟨q.m, 0, none⟩), .int .i64 x] W fun e w' => e = .returned (.tuple #[.agg #[.int .i64 (E x).tag, .int .i64 (E x).cls, .bool (E x).used, .int .i64 (E x).label, .int .u32 (E x).name, .int .u32 (E x).next, .int .u32 (E x).prev, .int .u32 (E x).refs, .int .u64 (E x).expiry, .int .u16 (E x).typ, .int .i64 (E x).size, .int .u32 (E x).hash], .int .i64 0]) ∧ IsH w' q u ∧ Fr q.blocks W w' from
    hget W q u hW x (E x).tag.toNat 5 (E x) hB.h hB.ok hB.r (by rcases hB.tg with e | e <;> rw [e] <;> rfl) hB.lies (.inl rfl)))
  have H0 := Lib.hid h
  have cA : w.cell? ⟨bA, 0, none⟩ = some (.pointer (some ⟨q.m, 0, none⟩)) := by simpa using kA.cell 0
  have KA := Lib.hid kA
  have KB := Lib.hid kB
  have KC := Lib.hid kC
  have KD := Lib.hid kD
  have htg := hB.tg
  unfold isNd
  generalize E x = X at *
  generalize B x = l at *
  obtain ⟨tag, cls, used, label, nm, next, prev, refs, expiry, ty, size, hash⟩ := X
  simp only at HG htg hlb ⊢
  rcases htg with rfl | rfl
  · have hF := Lib.hid (show (((1 : Int) == 2) && nm == name && l == lab && hash == hs) = false from by simp)
    rw [hF.out]
    clear h hB hlb hlv v1 v2 v3 v4 v5 v6 v7 hx2 kA kB kC kD g KA KB KC KD
    go_enter Tryz.func153, Tryz.ntmps153
    go_wp2_with fail
    with_reducible refine (HG.out _ H0.out).mono ?_
    rintro e w1 ⟨rfl, k1, f1⟩
    have K1 := Lib.hid k1
    have F1 := Lib.hid f1
    clear k1 f1 HG
    go_wp2_with fail
    go_ret
    exact ⟨rfl, K1.out.alloc _, F1.out.alloc _⟩
  · obtain ⟨l1, l2, l3, l4⟩ := hlb rfl
    subst l1
    have hpart : u.part (x + 16) l.length = l := by
      refine List.ext_getElem (by simp [TM.part]) (fun j j1 j2 => ?_)
      have := l4 j j2
      simp only at this
      simp [TM.part, this, List.getElem?_eq_getElem j2]
    have HR := Lib.hid (fun W (hW : IsH W q u) => (show Calls Tryz.prog 23 #[.pointer (some ⟨q.m, 0, none⟩), .int .i64 ((x : Int) + 16), .int .i64 l.length, .int .i64 5] W fun e w' => ∃ gr cap, e = .returned (.slice (some ⟨gr, 0, none⟩) l.length cap) ∧ W.heap.size ≤ gr ∧ RowB w' gr cap l ∧ IsH w' q u ∧ Fr q.blocks W w' from by
      have hr := tread hW.m (x + 16) l.length 16 5 (by omega) (fun k h1 h2 => v7 k (by omega) (by omega)) (by omega) (by omega) l2 (by decide) ((x : Int) + 16) l.length 5 (by omega) rfl rfl
      rw [hpart] at hr
      exact hr.mono fun e w' ⟨v, g, cap, k1, k2, k3, k4, k5, k6⟩ => ⟨g, cap, by rw [k1, k2], k3, k4, hW.step k5 k6, k6⟩))
    have HCV := Lib.hid (show ∀ W g cw, RowB W g cw l → (convert 44 9 (.slice (some ⟨g, 0, none⟩) l.length cw)).run Tryz.prog W = .ok (.string (strOf l)) W from fun W g cw hr => conv_str W _ cw _ (hr.byt l3 (by omega)))
    obtain ⟨b2, h2⟩ : ∃ b : Bool, (nm == name) = b := ⟨_, rfl⟩
    obtain ⟨b3, h3⟩ : ∃ b : Bool, (l.length == lab.length) = b := ⟨_, rfl⟩
    obtain ⟨b4, h4⟩ : ∃ b : Bool, (hash == hs) = b := ⟨_, rfl⟩
    obtain ⟨b5, h5⟩ : ∃ b : Bool, (l == lab) = b := ⟨_, rfl⟩
    have e2 : ((nm : Int) != name) = !b2 := by rw [← h2, bne, Bool.not_inj_iff, Bool.eq_iff_iff, beq_iff_eq, beq_iff_eq]; omega
    have e3 : ((l.length : Int) != (strOf lab).size) = !b3 := by rw [← h3, strOf_size, bne, Bool.not_inj_iff, Bool.eq_iff_iff, beq_iff_eq, beq_iff_eq]; omega
    have e4 : ((hash : Int) != hs) = !b4 := by rw [← h4, bne, Bool.not_inj_iff, Bool.eq_iff_iff, beq_iff_eq, beq_iff_eq]; omega
    have e5 : ((strOf l).toList == (strOf lab).toList) = b5 := by rw [← h5]; exact strOf_eq l lab l3 hl
    have HB := Lib.hid (show (((2 : Int) == 2) && nm == name && l == lab && hash == hs) = (b2 && b3 && b4 && b5) from by
      rw [h2, h4, h5]
      cases b5 with
      | true =>
        have : l = lab := by simpa using h5
        rw [this] at h3
        rw [← h3]
        cases b2 <;> cases b4 <;> simp
      | false => cases b2 <;> cases b4 <;> cases b3 <;> rfl)
    have wx : IntKind.i64.wrap ((x : Int) + 16) = (x : Int) + 16 := IntWalk.i64_in _ (by omega)
    rw [HB.out]
    generalize strOf lab = sb at *
    generalize strOf l = sl at *
    generalize l.length = n at *
    clear h hB hlb hlv v1 v2 v3 v4 v5 v6 v7 hx2 kA kB kC kD g h2 h3 h4 h5 HB hpart l2 l3 l4 hl hlen
    go_enter Tryz.func153, Tryz.ntmps153
    go_wp2_with fail
    with_reducible refine (HG.out _ H0.out).mono ?_
    rintro e w1 ⟨rfl, k1, f1⟩
    have K1 := Lib.hid k1
    have F1 := Lib.hid f1
    have hql : w1.heap.size ∉ q.blocks := fun hm => by have := k1.m.lt _ hm; omega
    have A1 := Lib.hid ((KA.out.fr f1 nA).alloc (.cells #[.int .i64 2, .int .i64 cls, .bool used, .int .i64 n, .int .u32 nm, .int .u32 next, .int .u32 prev, .int .u32 refs, .int .u64 expiry, .int .u16 ty, .int .i64 size, .int .u32 hash] 101))
    have C1 := Lib.hid ((KC.out.fr f1 nC).alloc (.cells #[.int .i64 2, .int .i64 cls, .bool used, .int .i64 n, .int .u32 nm, .int .u32 next, .int .u32 prev, .int .u32 refs, .int .u64 expiry, .int .u16 ty, .int .i64 size, .int .u32 hash] 101))
    have G1 := Lib.hid (Blk.new w1 101 #[.int .i64 2, .int .i64 cls, .bool used, .int .i64 n, .int .u32 nm, .int .u32 next, .int .u32 prev, .int .u32 refs, .int .u64 expiry, .int .u16 ty, .int .i64 size, .int .u32 hash])
    have K2 := Lib.hid (K1.out.alloc (.cells #[.int .i64 2, .int .i64 cls, .bool used, .int .i64 n, .int .u32 nm, .int .u32 next, .int .u32 prev, .int .u32 refs, .int .u64 expiry, .int .u16 ty, .int .i64 size, .int .u32 hash] 101))
    have F2 := Lib.hid (F1.out.alloc (.cells #[.int .i64 2, .int .i64 cls, .bool used, .int .i64 n, .int .u32 nm, .int .u32 next, .int .u32 prev, .int .u32 refs, .int .u64 expiry, .int .u16 ty, .int .i64 size, .int .u32 hash] 101))
    have d1 := A1.out.cell 0
    have d2 := ((KB.out.fr f1 nB).alloc (.cells #[.int .i64 2, .int .i64 cls, .bool used, .int .i64 n, .int .u32 nm, .int .u32 next, .int .u32 prev, .int .u32 refs, .int .u64 expiry, .int .u16 ty, .int .i64 size, .int .u32 hash] 101)).cell 0
    have d3 := C1.out.cell 0
    have d4 := ((KD.out.fr f1 nD).alloc (.cells #[.int .i64 2, .int .i64 cls, .bool used, .int .i64 n, .int .u32 nm, .int .u32 next, .int .u32 prev, .int .u32 refs, .int .u64 expiry, .int .u16 ty, .int .i64 size, .int .u32 hash] 101)).cell 0
    simp only [List.getElem?_toArray, List.getElem?_cons_zero] at d1 d2 d3 d4
    clear k1 f1 HG KA KB KC KD H0 K1 F1
    have DC := Lib.hid (fun V (hV : Fr q.blocks (w1.alloc (.cells #[.int .i64 2, .int .i64 cls, .bool used, .int .i64 n, .int .u32 nm, .int .u32 next, .int .u32 prev, .int .u32 refs, .int .u64 expiry, .int .u16 ty, .int .i64 size, .int .u32 hash] 101)) V) => And.intro (show V.cell? ⟨bA, 0, none⟩ = some (.pointer (some ⟨q.m, 0, none⟩)) from (A1.out.fr hV nA).cell 0) (And.intro (show V.cell? ⟨bC, 0, none⟩ = some (.string sb) from (C1.out.fr hV nC).cell 0) (show V.cell? ⟨w1.heap.size, 3, none⟩ = some (.int .i64 n) from (G1.out.fr hV hql).cell 3)))
    obtain ⟨c2, hc2⟩ : ∃ c, (!b2) = c := ⟨_, rfl⟩
    obtain ⟨c3, hc3⟩ : ∃ c, (!b3) = c := ⟨_, rfl⟩
    obtain ⟨c4, hc4⟩ : ∃ c, (!b4) = c := ⟨_, rfl⟩
    rw [hc2] at e2
    rw [hc3] at e3
    rw [hc4] at e4
    by_cases hall : (b2 && b3 && b4) = true
    · simp only [Bool.and_eq_true] at hall
      obtain ⟨⟨rfl, rfl⟩, rfl⟩ := hall
      subst hc2 hc3 hc4
      rw [show (!true) = false from rfl] at e2 e3 e4
      go_wp2_with fail
      have hY := DC.out _ (Fr.refl _ _).drew
      refine wp_region_held_drew (S := fun W => W.cell? ⟨bA, 0, none⟩ = some (.pointer (some ⟨q.m, 0, none⟩)) ∧ W.cell? ⟨bC, 0, none⟩ = some (.string sb) ∧ W.cell? ⟨w1.heap.size, 3, none⟩ = some (.int .i64 n)) (by kernel_rfl) (hY) (fun hHeld => ?_)
      refine wpAnyH_take (i := 0) (oi := ?ooa0) (v := ?vva0) ?hia0 (by kernel_rfl) (by kernel_rfl) (by kernel_rfl) ?hqa0 (Or.inl ⟨?hwa0, ?hha0⟩) hHeld ?rra0
      case hia0 => (simp only [List.getElem?_toArray, List.getElem?_cons_zero, List.getElem?_cons_succ]; rfl)
      case hqa0 => exact fun _ _ _ h => h
      case hwa0 => rfl
      case hha0 => (intro w hSw; (try dsimp only at hSw); go_simp; try with_reducible rfl)
      try simp only [Act.put, List.setIfInBounds_toArray, List.set_cons_zero, List.set_cons_succ]
      refine wpAnyH_take (i := 1) (oi := ?ooa1) (v := ?vva1) ?hia1 (by kernel_rfl) (by kernel_rfl) (by kernel_rfl) ?hqa1 (Or.inl ⟨?hwa1, ?hha1⟩) hHeld ?rra1
      case hia1 => (simp only [List.getElem?_toArray, List.getElem?_cons_zero, List.getElem?_cons_succ]; rfl)
      case hqa1 => exact fun _ _ _ h => h
      case hwa1 => rfl
      case hha1 => (intro w hSw; (try dsimp only at hSw); go_simp; try with_reducible rfl)
      try simp only [Act.put, List.setIfInBounds_toArray, List.set_cons_zero, List.set_cons_succ]
      refine wpAnyH_take (i := 2) (oi := ?ooa2) (v := ?vva2) ?hia2 (by kernel_rfl) (by kernel_rfl) (by kernel_rfl) ?hqa2 (Or.inl ⟨?hwa2, ?hha2⟩) hHeld ?rra2
      case hia2 => (simp only [List.getElem?_toArray, List.getElem?_cons_zero, List.getElem?_cons_succ]; rfl)
      case hqa2 => exact fun _ _ _ h => h
      case hwa2 => rfl
      case hha2 => (intro w hSw; (try dsimp only at hSw); go_simp; try with_reducible rfl)
      try simp only [Act.put, List.setIfInBounds_toArray, List.set_cons_zero, List.set_cons_succ]
      refine wpAnyH_take (i := 3) (oi := ?ooa3) (v := ?vva3) ?hia3 (by kernel_rfl) (by kernel_rfl) (by kernel_rfl) ?hqa3 (Or.inl ⟨?hwa3, ?hha3⟩) hHeld ?rra3
      case hia3 => (simp only [List.getElem?_toArray, List.getElem?_cons_zero, List.getElem?_cons_succ]; rfl)
      case hqa3 => exact fun _ _ _ h => h
      case hwa3 => rfl
      case hha3 => (intro w hSw; (try dsimp only at hSw); go_simp; try with_reducible rfl)
      try simp only [Act.put, List.setIfInBounds_toArray, List.set_cons_zero, List.set_cons_succ]
      refine wpAnyH_take (i := 4) (oi := ?ooa4) (v := ?vva4) ?hia4 (by kernel_rfl) (by kernel_rfl) (by kernel_rfl) ?hqa4 (Or.inl ⟨?hwa4, ?hha4⟩) hHeld ?rra4
      case hia4 => (simp only [List.getElem?_toArray, List.getElem?_cons_zero, List.getElem?_cons_succ]; rfl)
      case hqa4 => exact fun _ _ _ h => h
      case hwa4 => rfl
      case hha4 => (intro w hSw; (try dsimp only at hSw); go_simp; try with_reducible rfl)
      try simp only [Act.put, List.setIfInBounds_toArray, List.set_cons_zero, List.set_cons_succ]
      refine wpAnyH_take (i := 7) (oi := ?ooa5) (v := ?vva5) ?hia5 (by kernel_rfl) (by kernel_rfl) (by kernel_rfl) ?hqa5 (Or.inl ⟨?hwa5, ?hha5⟩) hHeld ?rra5
      case hia5 => (simp only [List.getElem?_toArray, List.getElem?_cons_zero, List.getElem?_cons_succ]; rfl)
      case hqa5 => exact fun _ _ _ h => h
      case hwa5 => rfl
      case hha5 => (intro w hSw; (try dsimp only at hSw); go_simp; try with_reducible rfl)
      try simp only [Act.put, List.setIfInBounds_toArray, List.set_cons_zero, List.set_cons_succ]
      refine wpAnyH_ready (rs := [5]) (by kernel_rfl) (by simp) ?_
      refine AllReadyH.cons (o := ?ooa6) ?hia6 (fun K hK => ?hca6) AllReadyH.nil
      case hia6 => (simp only [List.getElem?_toArray, List.getElem?_cons_zero, List.getElem?_cons_succ]; rfl)
      go_simp
      with_reducible refine (HR.out _ (K2.out.drew)).mono ?_
      rintro e w5 ⟨gr, cap, rfl, hgr, hrb, h5, f5⟩
      have H5 := Lib.hid h5
      have F5 := Lib.hid (F2.out.drew.trans f5)
      have hs6 := HCV.out _ _ _ hrb
      have hY := DC.out _ ((Fr.refl _ _).drew.trans f5)
      clear h5 f5 hrb
      go_wp2_with fail
      refine hK.out _ _ (hY) (fun hHeld => ?_)
      clear hK K
      try simp only [Act.put, List.setIfInBounds_toArray, List.set_cons_zero, List.set_cons_succ]
      refine wpAnyH_ready (rs := [6]) (by kernel_rfl) (by simp) ?_
      refine AllReadyH.cons (o := ?ooa7) ?hia7 (fun K hK => ?hca7) AllReadyH.nil
      case hia7 => (simp only [List.getElem?_toArray, List.getElem?_cons_zero, List.getElem?_cons_succ]; rfl)
      go_simp
      refine hK.out _ _ (hY) (fun hHeld => ?_)
      clear hK K
      try simp only [Act.put, List.setIfInBounds_toArray, List.set_cons_zero, List.set_cons_succ]
      refine wpAnyH_take (i := 8) (oi := ?ooa8) (v := ?vva8) ?hia8 (by kernel_rfl) (by kernel_rfl) (by kernel_rfl) ?hqa8 (Or.inl ⟨?hwa8, ?hha8⟩) hHeld ?rra8
      case hia8 => (simp only [List.getElem?_toArray, List.getElem?_cons_zero, List.getElem?_cons_succ]; rfl)
      case hqa8 => exact fun _ _ _ h => h
      case hwa8 => rfl
      case hha8 => (intro w hSw; (try dsimp only at hSw); go_simp; try with_reducible rfl)
      try simp only [Act.put, List.setIfInBounds_toArray, List.set_cons_zero, List.set_cons_succ]
      refine wpAnyH_take (i := 9) (oi := ?ooa9) (v := ?vva9) ?hia9 (by kernel_rfl) (by kernel_rfl) (by kernel_rfl) ?hqa9 (Or.inl ⟨?hwa9, ?hha9⟩) hHeld ?rra9
      case hia9 => (simp only [List.getElem?_toArray, List.getElem?_cons_zero, List.getElem?_cons_succ]; rfl)
      case hqa9 => exact fun _ _ _ h => h
      case hwa9 => rfl
      case hha9 => (intro w hSw; (try dsimp only at hSw); go_simp; try with_reducible rfl)
      try simp only [Act.put, List.setIfInBounds_toArray, List.set_cons_zero, List.set_cons_succ]
      refine wpAnyH_done (by kernel_rfl) ?_ _
      try simp only [Act.put, List.getElem_toArray, List.getElem_cons_zero, List.getElem_cons_succ, List.setIfInBounds_toArray, List.set_cons_zero, List.set_cons_succ]
      go_wp2_with fail
      go_ret
      exact ⟨rfl, H5.out, F5.out⟩
    · have HFF := Lib.hid (show (b2 && b3 && b4 && b5) = false from by rw [Bool.eq_false_iff.2 hall]; rfl)
      have hcc : c2 = true ∨ (c2 = false ∧ c3 = true) ∨ (c2 = false ∧ c3 = false ∧ c4 = true) := by
        revert hall hc2 hc3 hc4
        cases b2 <;> cases b3 <;> cases b4 <;> simp <;> intros <;> simp_all
      clear hall hc2 hc3 hc4
      rcases hcc with rfl | ⟨rfl, rfl⟩ | ⟨rfl, rfl, rfl⟩
      all_goals
        go_wp2_with fail
        go_ret
        exact ⟨by rw [HFF.out]; rfl, K2.out, F2.out⟩
theorem ifoundN (h : IsH w q t) (g : IxI t L E) (P : Nat → Bool) (hs bA bB bC bD : Nat) (hh : hs < 4294967296) (hIS : ∀ W, IsH W q t → Fr q.blocks w W → ∀ y, L y → Calls Tryz.prog 153 #[.int .i64 y, .pointer (some ⟨bA, 0, none⟩), .pointer (some ⟨bB, 0, none⟩), .pointer (some ⟨bC, 0, none⟩), .pointer (some ⟨bD, 0, none⟩)] W fun e w' => e = .returned (.bool (P y)) ∧ IsH w' q t ∧ Fr q.blocks W w') :
    Calls Tryz.prog 151 #[.agg #[.pointer (some ⟨q.m, 0, none⟩), .int .i64 t.s], .agg #[.int .u32 hs, .func (.func 153) #[] #[.pointer (some ⟨bA, 0, none⟩), .pointer (some ⟨bB, 0, none⟩), .pointer (some ⟨bC, 0, none⟩), .pointer (some ⟨bD, 0, none⟩)]]] w fun e w' => e = .returned (match fndT t.sl (hmE t E) t.s (hs % t.s) P with | some i => .tuple #[.int .i64 (t.sl i), .bool true] | none => .tuple #[.int .i64 0, .bool false]) ∧ IsH w' q t ∧ Fr q.blocks w w' := by
  have hs0 := g.s0
  have hs1 := g.s1
  have hF0 : Fr q.blocks w ((w.alloc (.cells #[.pointer (some ⟨q.m, 0, none⟩), .int .i64 t.s] 162)).alloc (.cells #[.int .u32 hs, .func (.func 153) #[] #[.pointer (some ⟨bA, 0, none⟩), .pointer (some ⟨bB, 0, none⟩), .pointer (some ⟨bC, 0, none⟩), .pointer (some ⟨bD, 0, none⟩)]] 167)) := ((Fr.refl q.blocks w).alloc _).alloc _
  have H0 := (h.alloc (.cells #[.pointer (some ⟨q.m, 0, none⟩), .int .i64 t.s] 162)).alloc (.cells #[.int .u32 hs, .func (.func 153) #[] #[.pointer (some ⟨bA, 0, none⟩), .pointer (some ⟨bB, 0, none⟩), .pointer (some ⟨bC, 0, none⟩), .pointer (some ⟨bD, 0, none⟩)]] 167)
  have HF := Lib.hid (ifindN H0 g P hs bA bB bC bD hh (fun W hW hf y hy => hIS W hW (hF0.trans hf) y hy))
  have F0 := Lib.hid hF0
  have B0 := Lib.hid ((Blk.new w 162 #[.pointer (some ⟨q.m, 0, none⟩), .int .i64 t.s]).alloc (.cells #[.int .u32 hs, .func (.func 153) #[] #[.pointer (some ⟨bA, 0, none⟩), .pointer (some ⟨bB, 0, none⟩), .pointer (some ⟨bC, 0, none⟩), .pointer (some ⟨bD, 0, none⟩)]] 167))
  have hlt := h.m.lt
  have nb : w.heap.size ∉ q.blocks := fun hm => by have := hlt _ hm; omega
  have HGT := Lib.hid (fun W (i : Nat) (hi : i < t.s) (hW : IsH W q t) => (show Calls Tryz.prog 149 #[.agg #[.pointer (some ⟨q.m, 0, none⟩), .int .i64 t.s], .int .i64 i] W fun e w' => e = .returned (.int .i64 (t.sl i)) ∧ IsH w' q t ∧ Fr q.blocks W w' from by
    have := iget hW.m i (by omega) hs0
    rw [Nat.mod_eq_of_lt hi] at this
    exact this.mono fun e w' ⟨he, k1, k2⟩ => ⟨he, hW.step k1 k2, k2⟩))
  have hlt2 : ∀ i, fndT t.sl (hmE t E) t.s (hs % t.s) P = some i → i < t.s := fun i e => fndS_lt hs0 _ _ _ e
  generalize fndT t.sl (hmE t E) t.s (hs % t.s) P = R at *
  generalize t.sl = T at *
  generalize t.s = s at *
  clear h hF0 H0 hIS hlt g
  rcases R with _ | i
  · rw [show optZ none = -1 from rfl] at HF
    clear hlt2
    go_enter Tryz.func151, Tryz.ntmps151
    go_wp2_with fail
    with_reducible refine HF.out.mono ?_
    rintro e w1 ⟨rfl, k1, f1⟩
    have K1 := Lib.hid k1
    have F1 := Lib.hid (F0.out.trans f1)
    clear k1 f1
    go_wp2_with fail
    go_ret2
    exact ⟨rfl, K1.out, F1.out⟩
  · have hi := hlt2 i rfl
    rw [show optZ (some i) = i from rfl] at HF
    have hi0' : ((i : Int) == -1) = false := by rw [beq_eq_false_iff_ne]; omega
    have HG := Lib.hid (fun W hW => HGT.out W i hi hW)
    dsimp only
    generalize T i = v at *
    clear hlt2
    go_enter Tryz.func151, Tryz.ntmps151
    go_wp2_with fail
    with_reducible refine HF.out.mono ?_
    rintro e w1 ⟨rfl, k1, f1⟩
    have K1 := Lib.hid k1
    have F1 := Lib.hid (F0.out.trans f1)
    have hb := B0.out.fr f1 nb
    have d0 := hb.cell 0
    have d1 := hb.cell 1
    simp only [List.getElem?_toArray, List.getElem?_cons_zero, List.getElem?_cons_succ] at d0 d1
    clear k1 f1 hb
    go_wp2_with fail
    with_reducible refine (HG.out _ K1.out).mono ?_
    rintro e w2 ⟨rfl, k2, f2⟩
    have K2 := Lib.hid k2
    have F2 := Lib.hid (F1.out.trans f2)
    clear k2 f2
    go_wp2_with fail
    go_ret2
    exact ⟨rfl, K2.out, F2.out⟩
theorem inode (gI : GI w0 q S L u E B W) (name : Nat) (lab : List Nat) (hs : Nat) (hn : name < 4294967296) (hl : ∀ b ∈ lab, b < 256) (hlen : lab.length ≤ 9223372036854775807) (hh : hs < 4294967296) :
    ∀ w, IsH w q u → Calls Tryz.prog 55 #[.pointer (some ⟨q.m, 0, none⟩), .int .u32 name, .string (strOf lab), .int .u32 hs] w fun e w' => e = .returned (match fndT u.sl (hmE u E) u.s (hs % u.s) (isNd E B name lab hs) with | some i => .tuple #[.int .i64 (u.sl i), .bool true] | none => .tuple #[.int .i64 0, .bool false]) ∧ IsH w' q u ∧ Fr q.blocks w w' := by
  intro w h
  have g := gI.ix
  generalize hsl : strOf lab = sl
  obtain ⟨A0, hA0⟩ : ∃ A, A = w.alloc (.cells #[.pointer (some ⟨q.m, 0, none⟩)] 26) := ⟨_, rfl⟩
  obtain ⟨A1, hA1⟩ : ∃ A, A = A0.alloc (.cells #[.int .u32 name] 74) := ⟨_, rfl⟩
  obtain ⟨A2, hA2⟩ : ∃ A, A = A1.alloc (.cells #[.string sl] 9) := ⟨_, rfl⟩
  obtain ⟨A3, hA3⟩ : ∃ A, A = A2.alloc (.cells #[.int .u32 hs] 74) := ⟨_, rfl⟩
  have z0 : A0.heap.size = w.heap.size + 1 := by rw [hA0]; simp
  have z1 : A1.heap.size = w.heap.size + 1 + 1 := by rw [hA1]; simp [z0]
  have z2 : A2.heap.size = w.heap.size + 1 + 1 + 1 := by rw [hA2]; simp [z1]
  have kA : Blk A3 w.heap.size 26 #[.pointer (some ⟨q.m, 0, none⟩)] := by rw [hA3, hA2, hA1, hA0]; exact (((Blk.new w _ _).alloc _).alloc _).alloc _
  have kB : Blk A3 (w.heap.size + 1) 74 #[.int .u32 name] := by rw [hA3, hA2, hA1, ← z0]; exact ((Blk.new A0 _ _).alloc _).alloc _
  have kC : Blk A3 (w.heap.size + 1 + 1) 9 #[.string sl] := by rw [hA3, hA2, ← z1]; exact (Blk.new A1 _ _).alloc _
  have kD : Blk A3 (w.heap.size + 1 + 1 + 1) 74 #[.int .u32 hs] := by rw [hA3, ← z2]; exact Blk.new A2 _ _
  have fA : Fr q.blocks w A3 := by rw [hA3, hA2, hA1, hA0]; exact ((((Fr.refl _ w).alloc _).alloc _).alloc _).alloc _
  have hA : IsH A3 q u := by rw [hA3, hA2, hA1, hA0]; exact (((h.alloc _).alloc _).alloc _).alloc _
  have hlt := h.m.lt
  have nq : ∀ k, w.heap.size ≤ k → k ∉ q.blocks := fun k hk hm => by have := hlt _ hm; omega
  have HOF := Lib.hid (fun W (hW : IsH W q u) => (show Calls Tryz.prog 142 #[.pointer (some ⟨q.m, 0, none⟩)] W fun e w' => e = .returned (.agg #[.pointer (some ⟨q.m, 0, none⟩), .int .i64 u.s]) ∧ Fr [] W w' from iof hW.m))
  have HFO := Lib.hid (fun W (hW : IsH W q u) (hf : Fr q.blocks A3 W) => ifoundN hW g (isNd E B name lab hs) hs w.heap.size (w.heap.size + 1) (w.heap.size + 1 + 1) (w.heap.size + 1 + 1 + 1) hh (fun V hV hf2 y hy => by
    have hF := hf.trans hf2
    exact inode1 gI hV hy name hs _ _ _ _ lab hl hlen (nq _ (by omega)) (nq _ (by omega)) (nq _ (by omega)) (nq _ (by omega)) (kA.fr hF (nq _ (by omega))) (kB.fr hF (nq _ (by omega))) (by rw [hsl]; exact kC.fr hF (nq _ (by omega))) (kD.fr hF (nq _ (by omega)))))
  have DC := Lib.hid (fun V (hV : Fr q.blocks A3 V) => And.intro (show V.cell? ⟨w.heap.size, 0, none⟩ = some (.pointer (some ⟨q.m, 0, none⟩)) from (kA.fr hV (nq _ (by omega))).cell 0) (show V.cell? ⟨w.heap.size + 1 + 1 + 1, 0, none⟩ = some (.int .u32 hs) from (kD.fr hV (nq _ (by omega))).cell 0))
  have H0 := Lib.hid hA.drew
  have FA := Lib.hid fA
  have hY := DC.out _ (Fr.refl _ A3).drew
  have HA3 : ((((w.alloc (.cells #[.pointer (some ⟨q.m, 0, none⟩)] 26)).alloc (.cells #[.int .u32 name] 74)).alloc (.cells #[.string sl] 9)).alloc (.cells #[.int .u32 hs] 74)) = A3 := by rw [hA3, hA2, hA1, hA0]
  obtain ⟨RV, hRV⟩ : ∃ RV : Value × Value, (match fndT u.sl (hmE u E) u.s (hs % u.s) (isNd E B name lab hs) with | some i => Value.tuple #[.int .i64 (u.sl i), .bool true] | none => .tuple #[.int .i64 0, .bool false]) = .tuple #[RV.1, RV.2] := by
    cases fndT u.sl (hmE u E) u.s (hs % u.s) (isNd E B name lab hs) with
    | some i => exact ⟨(_, _), rfl⟩
    | none => exact ⟨(_, _), rfl⟩
  rw [hRV] at HFO ⊢
  obtain ⟨r1, r2⟩ := RV
  generalize u.s = s at *
  clear h g gI hA0 hA1 hA2 hA3 z0 z1 z2 kA kB kC kD fA hA hlt hRV
  go_enter Tryz.func55, Tryz.ntmps55
  go_wp2_with fail
  try rw [HA3]
  refine wp_region_held_drew (S := fun W => W.cell? ⟨w.heap.size, 0, none⟩ = some (.pointer (some ⟨q.m, 0, none⟩)) ∧ W.cell? ⟨w.heap.size + 1 + 1 + 1, 0, none⟩ = some (.int .u32 hs)) (by kernel_rfl) (hY) (fun hHeld => ?_)
  refine wpAnyH_take (i := 0) (oi := ?ooa0) (v := ?vva0) ?hia0 (by kernel_rfl) (by kernel_rfl) (by kernel_rfl) ?hqa0 (Or.inl ⟨?hwa0, ?hha0⟩) hHeld ?rra0
  case hia0 => (simp only [List.getElem?_toArray, List.getElem?_cons_zero, List.getElem?_cons_succ]; rfl)
  case hqa0 => exact fun _ _ _ h => h
  case hwa0 => rfl
  case hha0 => (intro w hSw; (try dsimp only at hSw); go_simp; try with_reducible rfl)
  try simp only [Act.put, List.setIfInBounds_toArray, List.set_cons_zero, List.set_cons_succ]
  refine wpAnyH_take (i := 2) (oi := ?ooa1) (v := ?vva1) ?hia1 (by kernel_rfl) (by kernel_rfl) (by kernel_rfl) ?hqa1 (Or.inl ⟨?hwa1, ?hha1⟩) hHeld ?rra1
  case hia1 => (simp only [List.getElem?_toArray, List.getElem?_cons_zero, List.getElem?_cons_succ]; rfl)
  case hqa1 => exact fun _ _ _ h => h
  case hwa1 => rfl
  case hha1 => (intro w hSw; (try dsimp only at hSw); go_simp; try with_reducible rfl)
  try simp only [Act.put, List.setIfInBounds_toArray, List.set_cons_zero, List.set_cons_succ]
  refine wpAnyH_take (i := 3) (oi := ?ooa2) (v := ?vva2) ?hia2 (by kernel_rfl) (by kernel_rfl) (by kernel_rfl) ?hqa2 (Or.inl ⟨?hwa2, ?hha2⟩) hHeld ?rra2
  case hia2 => (simp only [List.getElem?_toArray, List.getElem?_cons_zero, List.getElem?_cons_succ]; rfl)
  case hqa2 => exact fun _ _ _ h => h
  case hwa2 => rfl
  case hha2 => (intro w hSw; (try dsimp only at hSw); go_simp; try with_reducible rfl)
  try simp only [Act.put, List.setIfInBounds_toArray, List.set_cons_zero, List.set_cons_succ]
  refine wpAnyH_take (i := 4) (oi := ?ooa3) (v := ?vva3) ?hia3 (by kernel_rfl) (by kernel_rfl) (by kernel_rfl) ?hqa3 (Or.inl ⟨?hwa3, ?hha3⟩) hHeld ?rra3
  case hia3 => (simp only [List.getElem?_toArray, List.getElem?_cons_zero, List.getElem?_cons_succ]; rfl)
  case hqa3 => exact fun _ _ _ h => h
  case hwa3 => rfl
  case hha3 => (intro w hSw; (try dsimp only at hSw); go_simp; try with_reducible rfl)
  try simp only [Act.put, List.setIfInBounds_toArray, List.set_cons_zero, List.set_cons_succ]
  refine wpAnyH_ready (rs := [1]) (by kernel_rfl) (by simp) ?_
  refine AllReadyH.cons (o := ?ooa4) ?hia4 (fun K hK => ?hca4) AllReadyH.nil
  case hia4 => (simp only [List.getElem?_toArray, List.getElem?_cons_zero, List.getElem?_cons_succ]; rfl)
  go_simp
  with_reducible refine (HOF.out _ H0.out).mono ?_
  rintro e w1 ⟨rfl, f1⟩
  have K1 := Lib.hid (H0.out.fr0 f1)
  have F1 := Lib.hid ((Fr.refl q.blocks A3).drew.trans f1.nil)
  have hY := DC.out _ F1.out
  clear f1
  go_wp2_with fail
  refine hK.out _ _ (hY) (fun hHeld => ?_)
  clear hK K
  try simp only [Act.put, List.setIfInBounds_toArray, List.set_cons_zero, List.set_cons_succ]
  refine wpAnyH_ready (rs := [5]) (by kernel_rfl) (by simp) ?_
  refine AllReadyH.cons (o := ?ooa5) ?hia5 (fun K hK => ?hca5) AllReadyH.nil
  case hia5 => (simp only [List.getElem?_toArray, List.getElem?_cons_zero, List.getElem?_cons_succ]; rfl)
  go_simp
  with_reducible refine (HFO.out _ K1.out F1.out).mono ?_
  rintro e w2 ⟨rfl, k2, f2⟩
  have K2 := Lib.hid k2
  have F2 := Lib.hid (F1.out.trans f2)
  have hY := DC.out _ F2.out
  clear k2 f2
  go_wp2_with fail
  refine hK.out _ _ (hY) (fun hHeld => ?_)
  clear hK K
  try simp only [Act.put, List.setIfInBounds_toArray, List.set_cons_zero, List.set_cons_succ]
  refine wpAnyH_take (i := 6) (oi := ?ooa6) (v := ?vva6) ?hia6 (by kernel_rfl) (by kernel_rfl) (by kernel_rfl) ?hqa6 (Or.inl ⟨?hwa6, ?hha6⟩) hHeld ?rra6
  case hia6 => (simp only [List.getElem?_toArray, List.getElem?_cons_zero, List.getElem?_cons_succ]; rfl)
  case hqa6 => exact fun _ _ _ h => h
  case hwa6 => rfl
  case hha6 => (intro w hSw; (try dsimp only at hSw); go_simp; try with_reducible rfl)
  try simp only [Act.put, List.setIfInBounds_toArray, List.set_cons_zero, List.set_cons_succ]
  refine wpAnyH_take (i := 7) (oi := ?ooa7) (v := ?vva7) ?hia7 (by kernel_rfl) (by kernel_rfl) (by kernel_rfl) ?hqa7 (Or.inl ⟨?hwa7, ?hha7⟩) hHeld ?rra7
  case hia7 => (simp only [List.getElem?_toArray, List.getElem?_cons_zero, List.getElem?_cons_succ]; rfl)
  case hqa7 => exact fun _ _ _ h => h
  case hwa7 => rfl
  case hha7 => (intro w hSw; (try dsimp only at hSw); go_simp; try with_reducible rfl)
  try simp only [Act.put, List.setIfInBounds_toArray, List.set_cons_zero, List.set_cons_succ]
  refine wpAnyH_take (i := 8) (oi := ?ooa8) (v := ?vva8) ?hia8 (by kernel_rfl) (by kernel_rfl) (by kernel_rfl) ?hqa8 (Or.inl ⟨?hwa8, ?hha8⟩) hHeld ?rra8
  case hia8 => (simp only [List.getElem?_toArray, List.getElem?_cons_zero, List.getElem?_cons_succ]; rfl)
  case hqa8 => exact fun _ _ _ h => h
  case hwa8 => rfl
  case hha8 => (intro w hSw; (try dsimp only at hSw); go_simp; try with_reducible rfl)
  try simp only [Act.put, List.setIfInBounds_toArray, List.set_cons_zero, List.set_cons_succ]
  refine wpAnyH_take (i := 9) (oi := ?ooa9) (v := ?vva9) ?hia9 (by kernel_rfl) (by kernel_rfl) (by kernel_rfl) ?hqa9 (Or.inl ⟨?hwa9, ?hha9⟩) hHeld ?rra9
  case hia9 => (simp only [List.getElem?_toArray, List.getElem?_cons_zero, List.getElem?_cons_succ]; rfl)
  case hqa9 => exact fun _ _ _ h => h
  case hwa9 => rfl
  case hha9 => (intro w hSw; (try dsimp only at hSw); go_simp; try with_reducible rfl)
  try simp only [Act.put, List.setIfInBounds_toArray, List.set_cons_zero, List.set_cons_succ]
  refine wpAnyH_done (by kernel_rfl) ?_ _
  try simp only [Act.put, List.getElem_toArray, List.getElem_cons_zero, List.getElem_cons_succ, List.setIfInBounds_toArray, List.set_cons_zero, List.set_cons_succ]
  go_wp2_with fail
  go_ret2
  exact ⟨rfl, K2.out, FA.out.trans F2.out⟩
theorem ix_node (g : GI w0 q S L u E B W) (name : Nat) (lab : List Nat) (hs : Nat) (hn : name < 4294967296) (hl : ∀ b ∈ lab, b < 256) (hlen : lab.length ≤ 9223372036854775807) (hh : hs < 4294967296) :
    Calls Tryz.prog 55 #[.pointer (some ⟨q.m, 0, none⟩), .int .u32 name, .string (strOf lab), .int .u32 hs] W fun e w' => Fr q.blocks W w' ∧ GI w0 q S L u E B w' ∧ e = .returned (match fndT u.sl (hmE u E) 224 (hs % 224) (isNd E B name lab hs) with | some i => .tuple #[.int .i64 (u.sl i), .bool true] | none => .tuple #[.int .i64 0, .bool false]) := by
  have h := inode g name lab hs hn hl hlen hh W g.h
  rw [g.s] at h
  exact h.mono fun e w' ⟨k1, k2, k3⟩ => ⟨k3, g.same k2 k3, k1⟩
end
end Go.Proofs.YtkapkbiccppldaaGreatDoor

/- Rows of the document's blocks of layer 20 (six cells each): append, one of them, a row without one of them. -/
namespace Go.Proofs.YtkapkbiccppldaaGreatDoor
set_option linter.unusedVariables false
set_option linter.unusedSimpArgs false
open Go.RowKit

theorem info_rb : (Tryz.prog.info? 77).map (fun i => (i.zero, i.size, i.bytes)) = some (some (.agg #[.int .i64 0, .bool false, .int .u32 0, .int .u16 0, .string ⟨#[]⟩, .int .u32 0]), 6, 48) := by kernel_rfl
theorem info_rb' : ∃ i, Tryz.prog.info? 77 = some i ∧ i.zero = some (.agg #[.int .i64 0, .bool false, .int .u32 0, .int .u16 0, .string ⟨#[]⟩, .int .u32 0]) ∧ i.size = 6 ∧ i.bytes = 48 := by
  have h := info_rb
  cases e : Tryz.prog.info? 77 with
  | none => rw [e] at h; cases h
  | some i =>
    rw [e] at h
    simp at h
    exact ⟨i, rfl, h.1, h.2.1, h.2.2⟩
def RB.cl (b : RB) : List Value := [.int .i64 b.at_, .bool b.nd, .int .u32 b.nm, .int .u16 b.ty, .string (strOf b.lab), .int .u32 b.hs]
theorem RB.cl_len (b : RB) : b.cl.length = 6 := rfl
/-- The cells of a row. -/
def rbL : List RB → List Value
  | [] => []
  | b :: l => b.cl ++ rbL l
theorem rbL_len : ∀ l : List RB, (rbL l).length = l.length * 6
  | [] => rfl
  | b :: l => by rw [rbL, List.length_append, rbL_len l, RB.cl_len, List.length_cons]; omega
theorem rbL_app : ∀ l m : List RB, rbL (l ++ m) = rbL l ++ rbL m
  | [], m => rfl
  | b :: l, m => by rw [List.cons_append, rbL, rbL, rbL_app l m, List.append_assoc]
theorem rbL_get : ∀ (l : List RB) (i : Nat) (hi : i < l.length) (j : Nat), j < 6 → (rbL l)[i * 6 + j]? = l[i].cl[j]?
  | b :: l, 0, hi, j, hj => by
    rw [rbL, Nat.zero_mul, Nat.zero_add, List.getElem?_append_left (by rw [RB.cl_len]; exact hj)]
    rfl
  | b :: l, i + 1, hi, j, hj => by
    rw [rbL, List.getElem?_append_right (by rw [RB.cl_len]; omega), RB.cl_len, show (i + 1) * 6 + j - 6 = i * 6 + j by omega, rbL_get l i (by simpa using hi) j hj]
    rfl
theorem rbL_one : ∀ (l : List RB), ∀ u ∈ rbL l, u.oneCell' = true
  | [], u, hu => by cases hu
  | b :: l, u, hu => by
    rw [rbL] at hu
    rcases List.mem_append.1 hu with hu | hu
    · simp only [RB.cl, List.mem_cons, List.not_mem_nil, or_false] at hu
      rcases hu with rfl | rfl | rfl | rfl | rfl | rfl <;> rfl
    · exact rbL_one l u hu
/-- A row of the walk's own. -/
def Rk (W : World) (base : Nat) (v : Value) (L : List RB) : Prop := W.ownsRow base 77 6 v L.length (rbL L)
theorem Rk.lt {W : World} {base : Nat} {v : Value} {L : List RB} (h : Rk W base v L) (g : Nat) (e : v.ownBlock = some g) : base ≤ g ∧ g < W.heap.size := by
  obtain ⟨h1, ⟨rfl, h2⟩ | ⟨g', cap, cur, rfl, hb, hg, _⟩⟩ := h
  · cases e
  · injection e with e
    have e : g' = g := e
    subst e
    exact ⟨hb, (Array.getElem?_eq_some_iff.1 hg).1⟩
theorem Rk.fr {W W' : World} {base : Nat} {v : Value} {L : List RB} {S : List Nat} (h : Rk W base v L) (hf : Fr S W W') (hS : ∀ k ∈ S, v.ownBlock ≠ some k) : Rk W' base v L := by
  obtain ⟨h1, ⟨h2, h3⟩ | ⟨g, cap, cur, rfl, hb, hg, r1, r2, r3, r4⟩⟩ := h
  · exact ⟨h1, .inl ⟨h2, h3⟩⟩
  · exact ⟨h1, .inr ⟨g, cap, cur, rfl, hb, (hf.block g (Array.getElem?_eq_some_iff.1 hg).1 (fun hm => hS g hm rfl)).trans hg, r1, r2, r3, r4⟩⟩
theorem Rk.fr0 {W W' : World} {base : Nat} {v : Value} {L : List RB} (h : Rk W base v L) (hf : Fr [] W W') : Rk W' base v L := h.fr hf (by simp)
theorem Rk.frq {W W' : World} {base : Nat} {v : Value} {L : List RB} {S : List Nat} (h : Rk W base v L) (hf : Fr S W W') (hS : ∀ k ∈ S, k < base) : Rk W' base v L := h.fr hf (fun k hk e => by
  have := (h.lt k e).1
  have := hS k hk
  omega)
theorem Rk.dj {W W' : World} {base : Nat} {v v' : Value} {L : List RB} (h : Rk W base v L) (hf : Fr (ownS v') W W') (hd : Dj v' v) : Rk W' base v L := h.fr hf (fun k hk e => by
  unfold ownS at hk
  rcases hb : v'.ownBlock with _ | g
  · rw [hb] at hk; cases hk
  · rw [hb] at hk
    simp at hk
    subst hk
    exact hd k hb e)
theorem Rk.lo {W : World} {base base' : Nat} {v : Value} {L : List RB} (h : Rk W base' v L) (hb : base ≤ base') : Rk W base v L := by
  obtain ⟨h1, ⟨h2, h3⟩ | ⟨g, cap, cur, rfl, hb', hg, r⟩⟩ := h
  · exact ⟨h1, .inl ⟨h2, h3⟩⟩
  · exact ⟨h1, .inr ⟨g, cap, cur, rfl, Nat.le_trans hb hb', hg, r⟩⟩
theorem Rk.nil (W : World) (base : Nat) : Rk W base (.slice none 0 0) [] := ⟨rfl, .inl ⟨rfl, rfl⟩⟩
theorem Rk.djN {W : World} {base n cap g : Nat} {v v2 : Value} {L2 : List RB} (h2 : Rk W base v2 L2) (hob : v.ownBlock = some g ∨ W.heap.size ≤ g) (hd : Dj v v2) : Dj (.slice (some ⟨g, 0, none⟩) n cap) v2 := fun g' e => by
  have : g = g' := by simpa [Value.ownBlock] using e
  subst this
  rcases hob with hob | hob
  · exact hd g hob
  · intro e2
    have := (h2.lt g e2).2
    omega
theorem Rk.dj_lt {W W' : World} {b1 b2 : Nat} {v1 v2 : Value} {L1 L2 : List RB} (h1 : Rk W b1 v1 L1) (h2 : Rk W' b2 v2 L2) (hle : W.heap.size ≤ b2) : Dj v1 v2 := fun g e1 e2 => by
  have := (h1.lt g e1).2
  have := (h2.lt g e2).1
  omega
/-- A row that can be read. -/
def RowK (w : World) (g cap : Nat) (l : List RB) : Prop := ∃ cur, Blk w g 77 cur ∧ cur.size = cap * 6 ∧ l.length ≤ cap ∧ cur.toList.take (l.length * 6) = rbL l
theorem RowK.fr {w w' : World} {g cap : Nat} {l : List RB} {S : List Nat} (h : RowK w g cap l) (hf : Fr S w w') (hg : g ∉ S) : RowK w' g cap l := by
  obtain ⟨cur, hb, h1, h2, h3⟩ := h
  exact ⟨cur, hb.fr hf hg, h1, h2, h3⟩
theorem RowK.lt {w : World} {g cap : Nat} {l : List RB} (h : RowK w g cap l) : g < w.heap.size := by
  obtain ⟨cur, hb, _⟩ := h
  exact hb.lt
theorem RowK.le {w : World} {g cap : Nat} {l : List RB} (h : RowK w g cap l) : l.length ≤ cap := by
  obtain ⟨cur, hb, h1, h2, _⟩ := h
  exact h2
theorem RowK.cell {w : World} {g cap : Nat} {l : List RB} (h : RowK w g cap l) (i : Nat) (hi : i < l.length) (j : Nat) (hj : j < 6) : w.cell? ⟨g, i * 6 + j, none⟩ = l[i].cl[j]? := by
  obtain ⟨cur, hb, h1, h2, h3⟩ := h
  rw [hb.cell, ← rbL_get l i hi j hj, ← h3, List.getElem?_take_of_lt (by omega), Array.getElem?_toList]
theorem Rk.row {W : World} {base : Nat} {v : Value} {L : List RB} (h : Rk W base v L) : ∃ ad cap, v = .slice ad L.length cap ∧ (0 < L.length → ∃ g, ad = some ⟨g, 0, none⟩ ∧ base ≤ g ∧ RowK W g cap L) := by
  obtain ⟨h1, ⟨h2, h3⟩ | ⟨g, cap, cur, rfl, hb, hg, r1, r2, r3, r4⟩⟩ := h
  · exact ⟨none, 0, by rw [h2, h3], fun h => by omega⟩
  · exact ⟨_, cap, rfl, fun _ => ⟨g, rfl, hb, ⟨cur, hg, r3, r1, r4⟩⟩⟩
theorem addr_add (g o j : Nat) : (⟨g, o, none⟩ : Addr).add j = ⟨g, o + j, none⟩ := by unfold Addr.add; split <;> simp_all
set_option maxRecDepth 100000 in
theorem run_appK (w : World) (base : Nat) (v : Value) (l : List RB) (h : Rk w base v l) (A : Option Addr) (c : Nat) (m : List RB) (hm : 0 < m.length → ∃ g o, A = some ⟨g, o, none⟩ ∧ ∀ j (hj : j < m.length) i, i < 6 → w.cell? ⟨g, o + (j * 6 + i), none⟩ = m[j].cl[i]?) (hl : l.length + m.length ≤ 1048576) (hbase : base ≤ w.heap.size) :
    ∃ v' w', (Builtin.append_ #[84, 84] 84 #[v, .slice A m.length c]).run Tryz.prog w = .ok v' w' ∧ Rk w' base v' (l ++ m) ∧ w.grownBy w' v.ownBlock ∧ (v'.ownBlock = v.ownBlock ∨ v'.ownBlock = some w.heap.size) := by
  obtain ⟨i, hi, hz, hs, hb⟩ := info_rb'
  rcases A with _ | ad
  · have hm0 : m = [] := by
      rcases m with _ | ⟨x, m⟩
      · rfl
      · obtain ⟨g, o, e, _⟩ := hm (by simp)
        cases e
    subst hm0
    refine ⟨v, w, ?_, by simpa using h, World.grownBy.refl w _, .inl rfl⟩
    obtain ⟨h1, ⟨rfl, h2⟩ | ⟨g, cap, cur, rfl, hg, hh, hc, _⟩⟩ := h
    · have : l = [] := List.eq_nil_of_length_eq_zero h2
      subst this
      simp [Builtin.append_, run_underlying Tryz.underlying84, sizeOf, typeInfo, hi, Builtin.lenOf, Builtin.firstCells]
    · simp [Builtin.append_, run_underlying Tryz.underlying84, sizeOf, typeInfo, hi, Builtin.lenOf, Builtin.firstCells, hc, storeCells]
  · have hcells : ∀ j u, (rbL m)[j]? = some u → w.cell? (ad.add j) = some u := by
      intro j u hu
      have hj := (List.getElem?_eq_some_iff.1 hu).1
      rw [rbL_len] at hj
      obtain ⟨g, o, e, hc⟩ := hm (by omega)
      injection e with e
      subst e
      have hj2 : j / 6 < m.length := by omega
      rw [addr_add, show o + j = o + (j / 6 * 6 + j % 6) by omega, hc (j / 6) hj2 (j % 6) (by omega), ← rbL_get m (j / 6) hj2 (j % 6) (by omega), show j / 6 * 6 + j % 6 = j by omega, hu]
    obtain ⟨v', w', hrun, h2, h3, _, h5⟩ := run_append_own_at (P := Tryz.prog) w base 84 84 77 i (.agg #[.int .i64 0, .bool false, .int .u32 0, .int .u16 0, .string ⟨#[]⟩, .int .u32 0]) 6 48 Tryz.underlying84 hi hz hs hb rfl (by decide) v l.length (rbL l) h ad m.length c (rbL m) (rbL_len m) hcells (rbL_one m) (by unfold maxLen; omega) (by omega) hbase
    refine ⟨v', w', hrun, ?_, h3, h5⟩
    unfold Rk
    rw [List.length_append, rbL_app]
    exact h2
theorem ownK0 (w : World) : Rk (w.alloc (.cells #[] 77)) w.heap.size (.slice (some ⟨w.heap.size, 0, none⟩) 0 0) [] :=
  ⟨rfl, .inr ⟨_, 0, #[], rfl, Nat.le_refl _, Blk.new _ _ _, Nat.le_refl _, by unfold maxLen; omega, rfl, rfl⟩⟩
theorem Rk.grow {w W W' : World} {base : Nat} {v : Value} {l : List RB} (h : Rk W base v l) (hg : W.grownBy W' v.ownBlock) (hf : Fr [] w W) (hb : w.heap.size ≤ base) : Fr [] w W' :=
  ⟨hg.os.trans hf.os, hg.tape.trans hf.tape, hg.output.trans hf.output, Nat.le_trans hf.size hg.size, fun k hk hn => (hg.block k (Nat.lt_of_lt_of_le hk hf.size) (fun e => by
    have := (h.lt k e.symm).1
    omega)).trans (hf.block k hk hn)⟩
/-- A row without one of its blocks. -/
def cutB (L : List RB) (k : Nat) : List RB := L.take k ++ L.drop (k + 1)
theorem cut_runB {w : World} {L : List RB} {g cap k : Nat} (hr : RowK w g cap L) (hk : k < L.length) (hl : L.length ≤ 1048576) :
    ∃ v1 w1 v2 w2, (Builtin.append_ #[84, 84] 84 #[.slice (some ⟨w.heap.size, 0, none⟩) 0 0, .slice (some ⟨g, 0, none⟩) k cap]).run Tryz.prog (w.alloc (.cells #[] 77)).drew = .ok v1 w1
      ∧ (Builtin.append_ #[84, 84] 84 #[v1, .slice (if cap - (k + 1) = 0 then some ⟨g, 0, none⟩ else some ⟨g, (k + 1) * 6, none⟩) (L.length - (k + 1)) (cap - (k + 1))]).run Tryz.prog w1 = .ok v2 w2
      ∧ Rk w2 w.heap.size v2 (cutB L k) ∧ Fr [] w w2 := by
  have hO0 : Rk (w.alloc (.cells #[] 77)).drew w.heap.size (.slice (some ⟨w.heap.size, 0, none⟩) 0 0) [] := ownK0 w
  have f0 : Fr [] w (w.alloc (.cells #[] 77)).drew := ((Fr.refl [] w).alloc _).drew
  have hl1 : (L.take k).length = k := by rw [List.length_take]; omega
  have hl2 : (L.drop (k + 1)).length = L.length - (k + 1) := List.length_drop
  have hcap := hr.le
  obtain ⟨v1, w1, e1, hO1, g1, _⟩ := run_appK _ _ _ [] hO0 (some ⟨g, 0, none⟩) cap (L.take k) (fun _ => ⟨g, 0, rfl, fun j hj i hi => by
    rw [hl1] at hj
    have := (hr.fr f0 (by simp)).cell j (by omega) i hi
    rw [Nat.zero_add, this, List.getElem_take]⟩) (by rw [hl1]; simp; omega) f0.size
  rw [hl1] at e1
  rw [List.nil_append] at hO1
  have f1 : Fr [] w w1 := hO0.grow g1 f0 (Nat.le_refl _)
  obtain ⟨v2, w2, e2, hO2, g2, _⟩ := run_appK w1 w.heap.size v1 (L.take k) hO1 (if cap - (k + 1) = 0 then some ⟨g, 0, none⟩ else some ⟨g, (k + 1) * 6, none⟩) (cap - (k + 1)) (L.drop (k + 1)) (fun h0 => by
    rw [hl2] at h0
    refine ⟨g, (k + 1) * 6, by rw [if_neg (by omega)], fun j hj i hi => ?_⟩
    rw [hl2] at hj
    have := (hr.fr f1 (by simp)).cell (k + 1 + j) (by omega) i hi
    rw [show (k + 1) * 6 + (j * 6 + i) = (k + 1 + j) * 6 + i by omega, this, List.getElem_drop]) (by rw [hl1, hl2]; omega) f1.size
  rw [hl2] at e2
  exact ⟨v1, w1, v2, w2, e1, e2, hO2, hO1.grow g2 f1 (Nat.le_refl _)⟩
set_option maxRecDepth 100000 in
/-- One block more. -/
theorem wpList_appK {w : World} {ops : Array Oper} {rest : List Oper} {o : Oper} {a : Act} {Q : Exit → Act → World → Prop} (hgd : o.guard = none) (s x : Operand) (ho : o.op = .call { callee := .builtin .append, args := #[s, x], argTypes := #[84, 84] }) (hty : o.type = 84)
    (base : Nat) (v : Value) (l : List RB) (hs : a.eval s = v) (y : RB) (W0 : World) (hW : w = W0.alloc (.cells y.cells 77)) (hown : Rk W0 base v l) (hx : a.eval x = .slice (some ⟨W0.heap.size, 0, none⟩) 1 1)
    (hl : l.length ≤ 1000000) (hbase : base ≤ W0.heap.size)
    (h : ∀ g cap w', Rk w' base (.slice (some ⟨g, 0, none⟩) (l.length + 1) cap) (l ++ [y]) → Fr (ownS v) W0 w' → (v.ownBlock = some g ∨ W0.heap.size ≤ g) → wpList Tryz.prog ops Q rest (a.put o.dst (.slice (some ⟨g, 0, none⟩) (l.length + 1) cap)) w') : wpList Tryz.prog ops Q (o :: rest) a w := by
  subst hW
  refine wpList_plain hgd fun K hK => ?_
  obtain ⟨v', w', hrun, h2, h3, h5⟩ := run_appK (W0.alloc (.cells y.cells 77)) base v l (hown.fr0 ((Fr.refl [] W0).alloc _)) (some ⟨W0.heap.size, 0, none⟩) 1 [y] (fun _ => ⟨_, 0, rfl, fun j hj i hi => by
    obtain rfl : j = 0 := by simp at hj; omega
    rw [Nat.zero_mul, Nat.zero_add, Nat.zero_add, (Blk.new W0 77 y.cells).cell]
    show (rbC _ _ _ _ _ _)[i]? = y.cl[i]?
    rw [rbC, List.getElem?_toArray]
    rfl⟩) (by simp; omega) (by simp; omega)
  rw [show ([y] : List RB).length = 1 from rfl] at hrun
  obtain ⟨g, cap, rfl⟩ := ownsRow_succ (show w'.ownsRow base 77 6 v' (l.length + 1) (rbL (l ++ [y])) from by
    have := h2
    unfold Rk at this
    rwa [List.length_append] at this)
  have hK' := hK _ _ (h g cap w' h2 (fr_grown h3) (by
    rw [World.size_alloc] at h5
    rcases h5 with h5 | h5
    · exact .inl h5.symm
    · refine .inr ?_
      have : g = W0.heap.size + 1 := Option.some.inj h5
      omega))
  unfold Oper.wp execOp
  simp only [ho, hty, resolve, invoke, builtin, Sem.run_bind, Sem.run_pure, Result.andThen_ok, List.map_toArray, List.map_cons, List.map_nil, hs, hx, hrun]
  exact hK'
end Go.Proofs.YtkapkbiccppldaaGreatDoor

/- IndexFinds: which blocks are in, which are out; what its calls answer. -/
namespace Go.Proofs.YtkapkbiccppldaaGreatDoor
set_option linter.unusedVariables false
set_option linter.unusedSimpArgs false
open Go.RowKit

/-- A block of a list lies at x. -/
structure KB (L : Nat → Prop) (E : Nat → HB) (B : Nat → List Nat) (b : RB) (x : Nat) : Prop where
  at_ : b.at_ = x
  l : L x
  e : E x = rbX b.nd b.nm b.ty b.lab.length b.hs
  lb : B x = b.lab
  ok : b.Ok
  fw : b.few = true
structure FIs (L : Nat → Prop) (u : TM) (E : Nat → HB) (B : Nat → List Nat) (I O : List RB) : Prop where
  i : ∀ b ∈ I, ∃ x, KB L E B b x ∧ InT 224 u.sl x
  a : ∀ x, x ≠ 0 → InT 224 u.sl x → ∃ b ∈ I, b.at_ = x
  o : ∀ b ∈ O, ∃ x, KB L E B b x ∧ ¬ InT 224 u.sl x
  nd : (I.map RB.at_).Nodup
/-- The memory, the blocks that are in, and those that are out. -/
def FI (w0 : World) (q : MH) (I O : List RB) (W : World) : Prop := ∃ S L u E B, GI w0 q S L u E B W ∧ FIs L u E B I O
/-- A new block beside them. -/
def FNw (w0 : World) (q : MH) (b : RB) (I O : List RB) (W : World) : Prop := ∃ S L u E B x, GI w0 q S L u E B W ∧ FIs L u E B I O ∧ KB L E B b x ∧ ¬ InT 224 u.sl x ∧ ∀ c ∈ O, c.at_ ≠ b.at_
section
variable {w0 W W' : World} {q : MH} {I O : List RB} {b : RB} {u v : TM} {L : Nat → Prop} {E : Nat → HB} {B : Nat → List Nat}
theorem FI.f (h : FI w0 q I O W) : Fr [] w0 W := by
  obtain ⟨S, L, u, E, B, g, _⟩ := h
  exact g.f
theorem FI.fr0 (h : FI w0 q I O W) (hf : Fr [] W W') : FI w0 q I O W' := by
  obtain ⟨S, L, u, E, B, g, r⟩ := h
  exact ⟨S, L, u, E, B, g.fr0 hf, r⟩
theorem FI.frL (h : FI w0 q I O W) {Bs : List Nat} (hf : Fr Bs W W') (hB : ∀ k ∈ Bs, k ∉ q.blocks ∧ 5 ≤ k ∧ w0.heap.size ≤ k) : FI w0 q I O W' := by
  obtain ⟨S, L, u, E, B, g, r⟩ := h
  exact ⟨S, L, u, E, B, g.frL hf hB, r⟩
theorem FI.lt (h : FI w0 q I O W) : ∀ k ∈ q.blocks, k < W.heap.size := by
  obtain ⟨S, L, u, E, B, g, r⟩ := h
  exact fun k hk => g.h.m.lt k hk
theorem FNw.fr0 (h : FNw w0 q b I O W) (hf : Fr [] W W') : FNw w0 q b I O W' := by
  obtain ⟨S, L, u, E, B, x, g, r⟩ := h
  exact ⟨S, L, u, E, B, x, g.fr0 hf, r⟩
theorem FIs.congr (h : FIs L u E B I O) (e : v.sl = u.sl) : FIs L v E B I O := ⟨by rw [e]; exact h.i, by rw [e]; exact h.a, by rw [e]; exact h.o, h.nd⟩
theorem KB.old {x y : Nat} {X : HB} {l : List Nat} (h : KB L E B b x) (hy : ¬ L y) : KB (fun z => z = y ∨ L z) (up E y X) (up B y l) b x := by
  have hne : x ≠ y := fun e => hy (e ▸ h.l)
  exact ⟨h.at_, .inr h.l, by rw [up_ne _ _ hne]; exact h.e, by rw [up_ne _ _ hne]; exact h.lb, h.ok, h.fw⟩
theorem f_blk (h : FI w0 q I O W) (ba : Int) (bn : Bool) (bm bt : Nat) (bl : List Nat) (bh : Nat) (hb : RB.Ok ⟨ba, bn, bm, bt, bl, bh⟩) (hf : RB.few ⟨ba, bn, bm, bt, bl, bh⟩ = true) :
    Calls Tryz.prog 51 #[.pointer (some ⟨q.m, 0, none⟩), .agg #[.int .i64 ba, .bool bn, .int .u32 bm, .int .u16 bt, .string (strOf bl), .int .u32 bh]] W fun e w' => ∃ x : Nat, e = .returned (.agg #[.int .i64 x, .bool bn, .int .u32 bm, .int .u16 bt, .string (strOf bl), .int .u32 bh]) ∧ Fr q.blocks W w' ∧ x < 1048576 ∧ ((x = 0 ∧ FI w0 q I O w') ∨ (0 < x ∧ FNw w0 q ⟨x, bn, bm, bt, bl, bh⟩ I O w')) := by
  obtain ⟨S, L, u, E, B, g, r⟩ := h
  refine (ix_blk g _ hb hf).mono fun e w' ⟨x, he, hfr, hP⟩ => ⟨x, he, hfr, ?_⟩
  rcases hP with ⟨h0, _, v, gv, ev⟩ | ⟨_, hx, h0, h1, hn, v, gv, ev⟩
  · exact ⟨by omega, .inl ⟨h0, S, L, v, E, B, gv, r.congr ev⟩⟩
  · have hnL : ¬ L x := fun hl => hn (g.lv x hl)
    have hnT : ¬ InT 224 u.sl x := fun ⟨s, hs, e⟩ => by
      rcases g.ix.sl s (by rw [g.s]; exact hs) with e0 | hl
      · omega
      · rw [e] at hl
        exact hnL hl
    refine ⟨h1, .inr ⟨h0, _, _, v, _, _, x, gv, ⟨fun c hc => ?_, by rw [ev]; exact r.a, fun c hc => ?_, r.nd⟩, ⟨rfl, .inl rfl, up_same _ _ _, up_same _ _ _, ⟨by show (-9223372036854775808 : Int) ≤ (x : Int) ∧ (x : Int) ≤ 9223372036854775807; omega, hb.nm, hb.ty, hb.lab, hb.len, hb.hs⟩, hf⟩, by rw [ev]; exact hnT, fun c hc e => ?_⟩⟩
    · obtain ⟨y, k, ht⟩ := r.i c hc
      exact ⟨y, k.old hnL, by rw [ev]; exact ht⟩
    · obtain ⟨y, k, ht⟩ := r.o c hc
      exact ⟨y, k.old hnL, by rw [ev]; exact ht⟩
    · obtain ⟨y, k, ht⟩ := r.o c hc
      have : (y : Int) = x := k.at_.symm.trans e
      exact hnL ((Int.ofNat.inj this) ▸ k.l)
theorem f_ins (x : Nat) (h : FNw w0 q b I O W) (hx : b.at_ = x) : Calls Tryz.prog 52 #[.pointer (some ⟨q.m, 0, none⟩), .int .i64 x] W fun e w' => ∃ c : Nat, e = .returned (.int .i64 c) ∧ Fr q.blocks W w' ∧ ((c ≠ 0 ∧ FI w0 q I O w') ∨ (c = 0 ∧ FI w0 q (I ++ [b]) O w')) := by
  obtain ⟨S, L, u, E, B, y, g, r, k, hn, ho⟩ := h
  obtain rfl : y = x := Int.ofNat.inj (k.at_.symm.trans hx)
  refine (ix_ins g k.l).mono fun e w' ⟨hf, hc⟩ => ?_
  rcases hc with ⟨hi, _⟩ | ⟨_, _, he, g'⟩ | ⟨_, he, k', gg, Q, g'⟩
  · exact absurd hi hn
  · exact ⟨5, he, hf, .inl ⟨by decide, _, _, _, _, _, g', r⟩⟩
  · have hin : ∀ z, z ≠ 0 → (InT 224 (u.wsl (insX u.sl 224 (hmE u E y + k') gg y)).sl z ↔ z = y ∨ InT 224 u.sl z) := fun z hz => Q.inT hz
    refine ⟨0, he, hf, .inr ⟨rfl, _, _, _, _, _, g', ⟨fun c hc => ?_, fun z hz ht => ?_, fun c hc => ?_, ?_⟩⟩⟩
    · rcases List.mem_append.1 hc with hc | hc
      · obtain ⟨z, kz, ht⟩ := r.i c hc
        exact ⟨z, kz, (hin z (g.ne0 kz.l).1).2 (.inr ht)⟩
      · obtain rfl := List.mem_singleton.1 hc
        exact ⟨y, k, (hin y (g.ne0 k.l).1).2 (.inl rfl)⟩
    · rcases (hin z hz).1 ht with e | ht
      · exact ⟨b, List.mem_append_right _ (by simp), by rw [e]; exact k.at_⟩
      · obtain ⟨c, hc, e⟩ := r.a z hz ht
        exact ⟨c, List.mem_append_left _ hc, e⟩
    · obtain ⟨z, kz, ht⟩ := r.o c hc
      refine ⟨z, kz, fun hi => ?_⟩
      rcases (hin z (g.ne0 kz.l).1).1 hi with e | hi
      · exact ho c hc (by rw [kz.at_, k.at_, e])
      · exact ht hi
    · rw [List.map_append]
      refine List.nodup_append.2 ⟨r.nd, by simp, fun a ha d hd e => ?_⟩
      obtain ⟨c, hc, rfl⟩ := List.mem_map.1 ha
      simp at hd
      obtain ⟨z, kz, ht⟩ := r.i c hc
      have : (z : Int) = y := by rw [← kz.at_, e, hd, k.at_]
      exact hn ((Int.ofNat.inj this) ▸ ht)
theorem mem_cutB {k : Nat} (hk : k < I.length) (hnd : (I.map RB.at_).Nodup) : (∀ c, c ∈ cutB I k → c ∈ I ∧ c.at_ ≠ I[k].at_) ∧ (∀ c ∈ I, c.at_ ≠ I[k].at_ → c ∈ cutB I k) ∧ ((cutB I k).map RB.at_).Nodup := by
  have e : I = I.take k ++ I[k] :: I.drop (k + 1) := by rw [List.getElem_cons_drop, List.take_append_drop]
  generalize I[k] = d at *
  unfold cutB
  generalize I.take k = A at *
  generalize I.drop (k + 1) = C at *
  rw [e] at hnd
  rw [e]
  rw [List.map_append, List.map_cons] at hnd
  obtain ⟨n1, n2, n3⟩ := List.nodup_append.1 hnd
  obtain ⟨n4, n5⟩ := List.nodup_cons.1 n2
  refine ⟨fun c hc => ?_, fun c hc hne => ?_, ?_⟩
  · rcases List.mem_append.1 hc with hc | hc
    · exact ⟨List.mem_append_left _ hc, n3 _ (List.mem_map.2 ⟨c, hc, rfl⟩) _ (by simp)⟩
    · exact ⟨List.mem_append_right _ (List.mem_cons_of_mem _ hc), fun h => n4 (h ▸ List.mem_map.2 ⟨c, hc, rfl⟩)⟩
  · rcases List.mem_append.1 hc with hc | hc
    · exact List.mem_append_left _ hc
    · rcases List.mem_cons.1 hc with e | hc
      · exact absurd (congrArg RB.at_ e) hne
      · exact List.mem_append_right _ hc
  · rw [List.map_append]
    exact List.nodup_append.2 ⟨n1, n5, fun a ha b hb => n3 a ha b (List.mem_cons_of_mem _ hb)⟩
theorem f_del (h : FI w0 q I O W) (k : Nat) (hk : k < I.length) : ∃ x : Nat, I[k].at_ = x ∧ Calls Tryz.prog 53 #[.pointer (some ⟨q.m, 0, none⟩), .int .i64 x] W fun e w' => e = .returned (.int .i64 0) ∧ Fr q.blocks W w' ∧ FI w0 q (cutB I k) (O ++ [I[k]]) w' := by
  obtain ⟨S, L, u, E, B, g, r⟩ := h
  obtain ⟨x, kx, hx⟩ := r.i _ (List.getElem_mem hk)
  refine ⟨x, kx.at_, (ix_del g kx.l).mono fun e w' ⟨hf, hd⟩ => ?_⟩
  obtain ⟨c1, c2, c3⟩ := mem_cutB hk r.nd
  rcases hd with ⟨hno, _⟩ | ⟨i, hi, ei, he, g2⟩
  · exact absurd hx hno
  · obtain ⟨m, P⟩ := dlS_spec 224 (hmE u E) 223 i u.sl (by decide)
    have him : i % 224 = i := Nat.mod_eq_of_lt hi
    have hin : ∀ z, z ≠ 0 → (InT 224 (u.wsl (dlS (hmE u E) 224 223 i u.sl)).sl z ↔ InT 224 u.sl z ∧ z ≠ x) := fun z hz => by
      have := P.inT g.rh hz
      rw [him, ei] at this
      exact this
    refine ⟨he, hf, _, _, _, _, _, g2, ⟨fun c hc => ?_, fun z hz ht => ?_, fun c hc => ?_, c3⟩⟩
    · obtain ⟨hm, hne⟩ := c1 c hc
      obtain ⟨z, kz, ht⟩ := r.i c hm
      exact ⟨z, kz, (hin z (g.ne0 kz.l).1).2 ⟨ht, fun e => hne (by rw [kz.at_, kx.at_, e])⟩⟩
    · obtain ⟨h1, h2⟩ := (hin z hz).1 ht
      obtain ⟨c, hc, e⟩ := r.a z hz h1
      refine ⟨c, c2 c hc (fun e2 => h2 ?_), e⟩
      have : (z : Int) = x := by rw [← e, e2, kx.at_]
      exact Int.ofNat.inj this
    · rcases List.mem_append.1 hc with hc | hc
      · obtain ⟨z, kz, ht⟩ := r.o c hc
        exact ⟨z, kz, fun h => ht ((hin z (g.ne0 kz.l).1).1 h).1⟩
      · obtain rfl := List.mem_singleton.1 hc
        exact ⟨x, kx, fun h => ((hin x (g.ne0 kx.l).1).1 h).2 rfl⟩
/-- What is found is in, and alike. -/
def Alike (I : List RB) (b : RB) (y : Int) : Prop := ∃ c ∈ I, c.at_ = y ∧ { b with at_ := y } = c
theorem f_alike (h : FIs L u E B I O) {z : Nat} (hz : z ≠ 0) (ht : InT 224 u.sl z) (hb : b.few = true) (hbo : b.Ok) (hP : if b.nd then isNd E B b.nm b.lab b.hs z = true else isEn E b.nm b.ty b.hs z = true) : Alike I b z := by
  obtain ⟨c, hc, e⟩ := h.a z hz ht
  obtain ⟨y, k, _⟩ := h.i c hc
  obtain rfl : y = z := Int.ofNat.inj (k.at_.symm.trans e)
  refine ⟨c, hc, e, ?_⟩
  have kf := k.fw
  have ke := k.e
  have kl := k.lb
  obtain ⟨ba, bn, bm, bt, bl, bh⟩ := b
  obtain ⟨ca, cn, cm, ct, cl, ch⟩ := c
  simp only at e ke kl
  subst e
  unfold RB.few at hb kf
  cases bn with
  | true =>
    rw [if_pos rfl] at hP
    unfold isNd at hP
    simp only [Bool.and_eq_true, beq_iff_eq] at hP
    obtain ⟨⟨⟨p1, p2⟩, p3⟩, p4⟩ := hP
    have hb := of_decide_eq_true hb
    cases cn with
    | true =>
      have kf := of_decide_eq_true kf
      rw [ke] at p2 p4
      simp only [rbX] at p2 p4
      rw [kl] at p3
      have h1 := hb.2.2
      have h2 := kf.2.2
      simp only at h1 h2
      have p2 : cm = bm := by simpa using p2
      have p4 : ch = bh := by simpa using p4
      rw [h1, h2, p2, p4, p3]
    | false =>
      rw [ke] at p1
      simp [rbX] at p1
  | false =>
    rw [if_neg (by simp)] at hP
    unfold isEn at hP
    simp only [Bool.and_eq_true, beq_iff_eq] at hP
    obtain ⟨⟨⟨p1, p2⟩, p3⟩, p4⟩ := hP
    have hb : bl = [] := List.isEmpty_iff.1 hb
    cases cn with
    | true =>
      rw [ke] at p1
      simp [rbX] at p1
    | false =>
      have kf : cl = [] := List.isEmpty_iff.1 kf
      rw [ke] at p2 p3 p4
      simp only [rbX] at p2 p3 p4
      have p2 : cm = bm := by simpa using p2
      have p3 : ct = bt := by simpa using p3
      have p4 : ch = bh := by simpa using p4
      rw [hb, kf, p2, p3, p4]
theorem f_entry (h : FI w0 q I O W) (ba : Int) (bm bt : Nat) (bl : List Nat) (bh : Nat) (hb : (⟨ba, false, bm, bt, bl, bh⟩ : RB) ∈ I) :
    Calls Tryz.prog 54 #[.pointer (some ⟨q.m, 0, none⟩), .int .u32 bm, .int .u16 bt, .int .u32 bh] W fun e w' => ∃ z : Nat, e = .returned (.tuple #[.int .i64 z, .bool true]) ∧ Fr q.blocks W w' ∧ FI w0 q I O w' ∧ Alike I ⟨ba, false, bm, bt, bl, bh⟩ z := by
  obtain ⟨S, L, u, E, B, g, r⟩ := h
  obtain ⟨x, k, s, hs, es⟩ := r.i _ hb
  have hx0 := (g.ne0 k.l).1
  have hfw := k.fw
  have hok := k.ok
  have ke := k.e
  have hH : hmE u E (u.sl s) = bh % 224 := by
    unfold hmE
    rw [es, ke, g.s]
    rfl
  have hl : bl = [] := List.isEmpty_iff.1 hfw
  have hPs : isEn E bm bt bh (u.sl s) = true := by
    unfold isEn
    rw [es, ke]
    simp [rbX]
  obtain ⟨i, hi, hf, hp⟩ := g.rh.r.finds (isEn E bm bt bh) hs (by rw [es]; exact hx0) hPs
  have hi0 := (fndS_some (isEn E bm bt bh) (by decide) _ _ _ hf).2.2
  rw [hH] at hf
  refine (ix_entry g bm bt bh hok.nm hok.ty hok.hs).mono fun e w' ⟨k1, k2, k3⟩ => ?_
  rw [hf] at k3
  exact ⟨u.sl i, k3, k1, ⟨S, L, u, E, B, k2, r⟩, f_alike r hi0 ⟨i, hi, rfl⟩ hfw hok (by rw [if_neg (by simp)]; exact hp)⟩
/-- Any question. -/
theorem f_any (h : FI w0 q I O W) (bm bt bh : Nat) (h1 : bm < 4294967296) (h2 : bt < 65536) (h3 : bh < 4294967296) :
    Calls Tryz.prog 54 #[.pointer (some ⟨q.m, 0, none⟩), .int .u32 bm, .int .u16 bt, .int .u32 bh] W fun e w' => ∃ (z : Nat) (k : Bool), e = .returned (.tuple #[.int .i64 z, .bool k]) ∧ Fr q.blocks W w' ∧ FI w0 q I O w' := by
  obtain ⟨S, L, u, E, B, g, r⟩ := h
  refine (ix_entry g bm bt bh h1 h2 h3).mono fun e w' ⟨k1, k2, k3⟩ => ?_
  cases hf : fndT u.sl (hmE u E) 224 (bh % 224) (isEn E bm bt bh) with
  | some i =>
    rw [hf] at k3
    exact ⟨_, _, k3, k1, S, L, u, E, B, k2, r⟩
  | none =>
    rw [hf] at k3
    exact ⟨0, _, k3, k1, S, L, u, E, B, k2, r⟩
theorem f_node (h : FI w0 q I O W) (ba : Int) (bm bt : Nat) (bl : List Nat) (bh : Nat) (hb : (⟨ba, true, bm, bt, bl, bh⟩ : RB) ∈ I) :
    Calls Tryz.prog 55 #[.pointer (some ⟨q.m, 0, none⟩), .int .u32 bm, .string (strOf bl), .int .u32 bh] W fun e w' => ∃ z : Nat, e = .returned (.tuple #[.int .i64 z, .bool true]) ∧ Fr q.blocks W w' ∧ FI w0 q I O w' ∧ Alike I ⟨ba, true, bm, bt, bl, bh⟩ z := by
  obtain ⟨S, L, u, E, B, g, r⟩ := h
  obtain ⟨x, k, s, hs, es⟩ := r.i _ hb
  have hx0 := (g.ne0 k.l).1
  have hfw := k.fw
  have hok := k.ok
  have ke := k.e
  have kb := k.lb
  have hH : hmE u E (u.sl s) = bh % 224 := by
    unfold hmE
    rw [es, ke, g.s]
    rfl
  have hPs : isNd E B bm bl bh (u.sl s) = true := by
    unfold isNd
    rw [es, ke, kb]
    simp [rbX]
  obtain ⟨i, hi, hf, hp⟩ := g.rh.r.finds (isNd E B bm bl bh) hs (by rw [es]; exact hx0) hPs
  have hi0 := (fndS_some (isNd E B bm bl bh) (by decide) _ _ _ hf).2.2
  rw [hH] at hf
  refine (ix_node g bm bl bh hok.nm hok.lab hok.len hok.hs).mono fun e w' ⟨k1, k2, k3⟩ => ?_
  rw [hf] at k3
  exact ⟨u.sl i, k3, k1, ⟨S, L, u, E, B, k2, r⟩, f_alike r hi0 ⟨i, hi, rfl⟩ hfw hok (by rw [if_pos rfl]; exact hp)⟩
theorem f_in (h : FI w0 q I O W) (hb : b ∈ I) (x : Int) (hx : b.at_ = x) : Calls Tryz.prog 56 #[.pointer (some ⟨q.m, 0, none⟩), .int .i64 x] W fun e w' => ∃ i : Nat, e = .returned (.tuple #[.int .i64 i, .bool true]) ∧ Fr q.blocks W w' ∧ FI w0 q I O w' := by
  subst hx
  obtain ⟨S, L, u, E, B, g, r⟩ := h
  obtain ⟨x, k, s, hs, es⟩ := r.i _ hb
  rw [k.at_]
  refine (ix_place g k.l).mono fun e w' ⟨k1, k2, k3⟩ => ?_
  rcases k3 with ⟨hn, _⟩ | ⟨i, _, _, he⟩
  · exact absurd ⟨s, hs, es⟩ hn
  · exact ⟨i, he, k1, S, L, u, E, B, k2, r⟩
theorem f_out (h : FI w0 q I O W) (hb : b ∈ O) (x : Int) (hx : b.at_ = x) : Calls Tryz.prog 56 #[.pointer (some ⟨q.m, 0, none⟩), .int .i64 x] W fun e w' => e = .returned (.tuple #[.int .i64 0, .bool false]) ∧ Fr q.blocks W w' ∧ FI w0 q I O w' := by
  subst hx
  obtain ⟨S, L, u, E, B, g, r⟩ := h
  obtain ⟨x, k, hn⟩ := r.o _ hb
  rw [k.at_]
  refine (ix_place g k.l).mono fun e w' ⟨k1, k2, k3⟩ => ?_
  rcases k3 with ⟨_, he⟩ | ⟨i, hi, ei, _⟩
  · exact ⟨he, k1, S, L, u, E, B, k2, r⟩
  · exact absurd ⟨i, hi, ei⟩ hn
theorem f_flt (h : FI w0 q I O W) : Calls Tryz.prog 26 #[.pointer (some ⟨q.m, 0, none⟩)] W fun e w' => e = .returned (.int .i64 0) ∧ Fr q.blocks W w' ∧ FI w0 q I O w' := by
  obtain ⟨S, L, u, E, B, g, r⟩ := h
  exact (ix_flt g).mono fun e w' ⟨k1, k2, k3⟩ => ⟨k3, k1, S, L, u, E, B, k2, r⟩
theorem f_start {S : SS} {L : Nat → Prop} {u : TM} {E : Nat → HB} {B : Nat → List Nat} (g : GI w0 q S L u E B W) (h0 : u.sl = fun _ => 0) : FI w0 q [] [] W :=
  ⟨S, L, u, E, B, g, ⟨fun b hb => (nomatch hb), fun x hx ⟨s, _, e⟩ => absurd (by rw [← e, h0]) hx, fun b hb => (nomatch hb), List.nodup_nil⟩⟩
end
end Go.Proofs.YtkapkbiccppldaaGreatDoor

/- law20.alike: what is found is like what was looked for. -/
namespace Go.Proofs.YtkapkbiccppldaaGreatDoor
set_option linter.unusedVariables false
set_option linter.unusedSimpArgs false
open Go.RowKit

set_option maxRecDepth 100000 in
theorem w_alike (w : World) (A : Option Addr) (c : Nat) (I : List RB) (hr : 0 < I.length → ∃ g, A = some ⟨g, 0, none⟩ ∧ RowK w g c I) (hlen : I.length ≤ 1048576) (hnd : (I.map RB.at_).Nodup) (z ba : Int) (bd : Bool) (bm bt : Nat) (bl : List Nat) (bh : Nat) (h : Alike I ⟨ba, bd, bm, bt, bl, bh⟩ z) :
    Calls Tryz.prog 57 #[.slice A I.length c, .int .i64 z, .agg #[.int .i64 ba, .bool bd, .int .u32 bm, .int .u16 bt, .string (strOf bl), .int .u32 bh]] w fun e w' => e = .returned (.bool true) ∧ Fr [] w w' := by
  obtain ⟨c0, hc0, ez, e0⟩ := h
  have e1 : c0 = ⟨z, bd, bm, bt, bl, bh⟩ := e0.symm
  subst e1
  obtain ⟨p, hp, ep⟩ := List.mem_iff_getElem.1 hc0
  obtain ⟨g, rfl, hrow⟩ := hr (by omega)
  have HNE := Lib.hid (show ∀ j (hj : j < p), I[j].at_ ≠ z from fun j hj e => by
    have := (List.pairwise_iff_getElem.1 hnd) j p (by rw [List.length_map]; omega) (by rw [List.length_map]; omega) hj
    rw [List.getElem_map, List.getElem_map, ep] at this
    exact this e)
  have HC := Lib.hid (fun V (hV : Fr [] w V) i (hi : i < I.length) => (show V.cell? ⟨g, i * 6, none⟩ = some (.int .i64 I[i].at_) from (hrow.fr hV (by simp)).cell i hi 0 (by decide)))
  have HP := Lib.hid (fun V (hV : Fr [] w V) => (show V.cell? ⟨g, p * 6, none⟩ = some (.int .i64 z) ∧ V.cell? ⟨g, p * 6 + 1, none⟩ = some (.bool bd) ∧ V.cell? ⟨g, p * 6 + 2, none⟩ = some (.int .u32 bm) ∧ V.cell? ⟨g, p * 6 + 3, none⟩ = some (.int .u16 bt) ∧ V.cell? ⟨g, p * 6 + 4, none⟩ = some (.string (strOf bl)) ∧ V.cell? ⟨g, p * 6 + 5, none⟩ = some (.int .u32 bh) from by
    have hr := hrow.fr hV (by simp)
    have c0 := hr.cell p hp 0 (by decide)
    have c1 := hr.cell p hp 1 (by decide)
    have c2 := hr.cell p hp 2 (by decide)
    have c3 := hr.cell p hp 3 (by decide)
    have c4 := hr.cell p hp 4 (by decide)
    have c5 := hr.cell p hp 5 (by decide)
    rw [ep] at c0 c1 c2 c3 c4 c5
    exact ⟨c0, c1, c2, c3, c4, c5⟩))
  have hgl := hrow.lt
  have hcap := hrow.le
  obtain ⟨n, hnn⟩ : ∃ n, I.length = n := ⟨_, rfl⟩
  have HN := Lib.hid hnn
  rw [hnn] at hlen hcap ⊢
  have hp : p < n := by omega
  clear hnn hnd hr hrow hc0 ez e0 ep
  generalize strOf bl = sb at *
  have B0 := Lib.hid (Blk.new w 77 #[.int .i64 ba, .bool bd, .int .u32 bm, .int .u16 bt, .string sb, .int .u32 bh])
  have F0 := Lib.hid ((Fr.refl [] w).alloc (.cells #[.int .i64 ba, .bool bd, .int .u32 bm, .int .u16 bt, .string sb, .int .u32 bh] 77))
  go_enter Tryz.func57, Tryz.ntmps57
  go_wp2_with fail
  generalize w.alloc (.cells #[.int .i64 ba, .bool bd, .int .u32 bm, .int .u16 bt, .string sb, .int .u32 bh] 77) = wa at *
  go_loopw [7] (fun v W => ∃ j : Nat, j ≤ p ∧ v = .int .i64 j ∧ Fr [] wa W) (fun v _ => p - (intOf v).toNat)
  case atStart => exact ⟨0, by omega, rfl, Fr.refl _ _⟩
  case round =>
    obtain ⟨j, hj, rfl, hF⟩ := hrel
    have F1 := Lib.hid hF
    have b1 : decide ((j : Int) < n) = true := by simp; omega
    have b1' : decide (j < n) = true := by simp; omega
    have w1 : IntKind.i64.wrap ((j : Int) + 1) = (j : Int) + 1 := IntWalk.i64_in _ (by omega)
    have g1 : (0 : Int) ≤ j := by omega
    have g2 : (j : Int) < n := by omega
    by_cases hjp : j < p
    · have hj' : j < I.length := by rw [HN.out]; omega
      have c0 := HC.out _ (F0.out.trans hF) j hj'
      have b2 : (I[j].at_ == z) = false := by rw [beq_eq_false_iff_ne]; exact HNE.out j hjp
      generalize I[j].at_ = y at *
      clear hF
      go_wp2_with fail
      go_roundw
      case rel => exact ⟨j + 1, by omega, by go_num, F1.out⟩
      case measure => simp [intOf]; omega
    · obtain rfl : j = p := by omega
      have c0 := (HP.out _ (F0.out.trans hF)).1
      have b2 : (z == z) = true := beq_self_eq_true _
      have hB := B0.out.fr hF (by simp)
      have hB2 := hB.set 0 (.int .i64 z)
      have f2 : Fr [] w (wr.setCell ⟨w.heap.size, 0, none⟩ (.int .i64 z)) := (F0.out.trans hF).setCell (p := ⟨w.heap.size, 0, none⟩) (.inr (Nat.le_refl _)) _
      have F2 := Lib.hid f2
      have d0 := hB.cell 0
      have e0 := hB2.cell 0
      have e1 := hB2.cell 1
      have e2 := hB2.cell 2
      have e3 := hB2.cell 3
      have e4 := hB2.cell 4
      have e5 := hB2.cell 5
      have hz := hB.frozen
      obtain ⟨k0, k1, k2, k3, k4, k5⟩ := HP.out _ f2
      go_wp2_with fail
      go_quiet (fail)
      go_wp2_with fail
      go_ret
      exact ⟨rfl, F2.out.drewN _⟩
end Go.Proofs.YtkapkbiccppldaaGreatDoor
